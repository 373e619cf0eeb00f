/- Flow: the law's example; ports that are none. -/
import Derived.Test.YtfnbhkeilcbmjaaFlowF
import Derived.Test.YtfnbhkeilcbmjaaFewP
namespace Go.Proofs.Ytfnbhkeilcbmjaa
set_option linter.unusedVariables false
open Go.RowKit

def cfg0 : Cfg := ⟨fun i => bif Nat.beq i 1 then 2 else 0, fun _ => [], fun _ => 0, fun _ => [], 0, 0, 0, 0⟩
theorem cfg0_ok : CfgOK cfg0 where
  cl n := by show (bif Nat.beq n 1 then 2 else 0) < _; cases Nat.beq n 1 <;> decide
  lb n := by show (0 : Nat) < _; omega
  au := by show (0 : Nat) < _; omega
  ins n := ⟨by show (0 : Nat) ≤ _; omega, fun A h => by cases h⟩
  dr n := ⟨by show (0 : Nat) ≤ _; omega, fun A h => by cases h⟩
def av5 : Arr := covA 2 (numA 5)
theorem av5_ok : okA av5 := okA.relab (fun a h => or_lt a 2 h (by omega)) (numA_ok (by omega) (by omega))
def av7 : Arr := covA 4 av5
theorem av7_ok : okA av7 := okA.relab (fun a h => or_lt a 4 h (by omega)) av5_ok
theorem tot5 : totA av5 = 2 := by simp [av5, covA, numA, intC, relabA, relabCs, relabC, relabAs, covG, totA, totCs, totC, totAs]
theorem tot7 : totA av7 = 6 := by simp [av7, av5, covA, numA, intC, relabA, relabCs, relabC, relabAs, covG, totA, totCs, totC, totAs]
def rec5 : List Rec := [⟨1, 1, 0, 0, 0, eraA av5⟩]
theorem send5 : sendP cfg0 [] 1 av5 0 = (rec5, 0) := by
  unfold sendP
  rw [if_neg (by omega), if_neg (by rw [tot5]; decide)]; rfl
theorem send7 : sendP cfg0 rec5 1 av7 0 = (rec5, 9) := by
  unfold sendP
  rw [if_neg (by omega), if_pos (by rw [tot7]; decide)]

set_option maxHeartbeats 4000000 in
set_option maxRecDepth 10000 in
theorem awake25_a : ACalls Try.prog 8 [] (.lit (.bool true)) := by
  have c0 := new_m cfg0 (fun k _ => by show (0 : Nat) ≤ _; omega) (fun k _ => by show (0 : Nat) ≤ _; omega)
  have c1 := arrIntG_a 5 (by omega) (by omega)
  have c2 : ACalls Try.prog 28 [.agg (cellV (intC 5))] (.agg (arrV (numA 5))) := scalar_a (intC 5) (numA_ok (z := 5) (by omega) (by omega)).2.2.2.1.2.1 (numA_ok (z := 5) (by omega) (by omega)).2.2.2.1.2.2.1 (by simp [intC, Cell.ins])
  have c3 := cover_a (numA 5) 2 (numA_ok (by omega) (by omega)) (by omega)
  have c4 := cover_a av5 4 av5_ok (by omega)
  have s1 := send_m cfg0 cfg0_ok (fun _ => 0) (fun _ => 0) [] (by simp) 1 av5 av5_ok 0 (by omega) (by rw [send5])
  have s2 := send_no cfg0 cfg0_ok (fun _ => 0) (fun _ => 0) rec5 1 av7 av7_ok 0 (by omega) (by rw [send7]; simp)
  rw [send5] at s1
  rw [send7] at s2
  have s3 := records_m cfg0 (fun _ => 0) (fun _ => 0) rec5 (by simp [rec5])
  refine acalls_of code_scrimlaw25_awake (by simp [fn_scrimlaw25_awake]) fun C hC => ?_
  refine walk3 ?_
  refine aw_reg (rrun3 ?_)
  refine r_callN [] c0 ?_
  refine rrun3 ?_
  refine rg_nil ⟨rfl, ?_⟩
  refine aw_nilF 1 52 52 8 rfl rfl rfl rfl ?_
  refine walk3 ?_
  refine aw_reg (rrun3 ?_)
  refine r_callN [(1, 0), (2, 1)] s1 ?_
  refine rrun3 ?_
  refine r_callM [(1, 0), (4, 1)] s2 ?_
  refine rrun3 ?_
  refine r_callM [(1, 0), (4, 1)] s3 ?_
  refine rrun3 ?_
  refine rg_nil ⟨rfl, ?_⟩
  refine walk3 ?_
  exact fin

/-- a deed -/
structure Deed where
  kind : Int
  k : Int
  l : Nat
  to : Nat
  v : Arr
def deedV (d : Deed) : List AV := [i64V d.kind, i64V d.k, labV d.l, labV d.to, labV d.v.s, .sl 1 (intsA .i64 d.v.shape), .sl 7 (d.v.cells.map cellR)]
def zV : AV := .agg [.lit (.int .u64 0), .lit (.slice none 0 0), .lit (.slice none 0 0)]
set_option maxHeartbeats 4000000 in
set_option maxRecDepth 10000 in
theorem read0_a (k : Int) (pc : Nat) : ACalls Try.prog 17 [.lit (.pointer none), i64V k, labV pc] (.tup [zV, i64V 14]) := by
  have hu := Try.underlying33
  have cn := none0_a k
  refine acalls_of code_flow_Ports_Read (by simp [fn_flow_Ports_Read]) fun C hC => ?_
  refine walk3 ?_
  exact fin
set_option maxHeartbeats 4000000 in
set_option maxRecDepth 10000 in
theorem draw0_a (k : Int) (pc : Nat) : ACalls Try.prog 18 [.lit (.pointer none), i64V k, labV pc] (.tup [zV, i64V 14]) := by
  have hu := Try.underlying33
  have cn := none0_a k
  refine acalls_of code_flow_Ports_Draw (by simp [fn_flow_Ports_Draw]) fun C hC => ?_
  refine walk3 ?_
  exact fin
set_option maxHeartbeats 4000000 in
set_option maxRecDepth 10000 in
theorem rele0_a (k : Int) (to pc : Nat) (A : Arr) : ACalls Try.prog 19 [.lit (.pointer none), labV to, .agg (arrV A), labV pc] (.tup [zV, i64V 14]) := by
  have hu := Try.underlying33
  have cn := none0_a k
  refine acalls_of code_flow_Ports_Release (by simp [fn_flow_Ports_Release]) fun C hC => ?_
  refine walk3 ?_
  exact fin
set_option maxHeartbeats 4000000 in
set_option maxRecDepth 10000 in
theorem send0_a (k : Int) (pc : Nat) (A : Arr) : ACalls Try.prog 20 [.lit (.pointer none), i64V k, .agg (arrV A), labV pc] (i64V 14) := by
  have hu := Try.underlying33
  have cn := none0_a k
  refine acalls_of code_flow_Ports_Send (by simp [fn_flow_Ports_Send]) fun C hC => ?_
  refine walk3 ?_
  exact fin
set_option maxHeartbeats 4000000 in
set_option maxRecDepth 10000 in
theorem repo0_a (k : Int) (pc : Nat) : ACalls Try.prog 21 [.lit (.pointer none), i64V k, labV pc] (i64V 14) := by
  have hu := Try.underlying33
  have cn := none0_a k
  refine acalls_of code_flow_Ports_Report (by simp [fn_flow_Ports_Report]) fun C hC => ?_
  refine walk3 ?_
  exact fin
set_option maxHeartbeats 4000000 in
set_option maxRecDepth 10000 in
theorem flowNone_a (d : Deed) (hd : arrOK d.v) : ACalls Try.prog 5 [.agg (deedV d)] (.lit (.bool true)) := by
  have c0 := few_a d.v hd
  have ca := awake25_a
  have c1 := read0_a d.k d.l
  have c2 := draw0_a d.k d.l
  have c3 := rele0_a 0 d.to d.l d.v
  have c4 := send0_a d.k d.l d.v
  have c5 := repo0_a 3 d.l
  have c6 := records0_a
  refine acalls_of code_scrimlaw25_FlowNone (by simp [fn_scrimlaw25_FlowNone]) fun C hC => ?_
  cases hf : fewP d.v
  · rw [hf] at c0
    refine walk3 ?_
    exact fin
  · rw [hf] at c0
    refine walk3 ?_
    exact fin
end Go.Proofs.Ytfnbhkeilcbmjaa
