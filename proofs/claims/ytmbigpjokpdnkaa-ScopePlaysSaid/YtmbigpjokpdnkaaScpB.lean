/- ScopeBlind: the law's function, walked; the plain law. -/
import Derived.Test.YtmbigpjokpdnkaaScpA
import Derived.Test.YtmbigpjokpdnkaaRefAl
namespace Go.Proofs.Ytmbigpjokpdnkaa
set_option linter.unusedVariables false
open Go.RowKit

def raiB (A : Arr) (l : Nat) : Arr := .mk (A.s ||| l) A.shape A.cells
theorem raiseB_a (A : Arr) (l : Nat) (hs : A.s < 18446744073709551616) (hl : l < 18446744073709551616) : ACalls Try.prog 12 [.agg (arrV A), labV l] (.agg (arrV (raiB A l))) := by
  have c1 := join_a A.s l hs hl
  refine acalls_of code_array_Raise (by simp [fn_array_Raise]) fun C hC => ?_
  refine walk2 ?_
  exact fin


def mayN (b : Nat) (A : Arr) (there : Bool) (base pc : Nat) : Bool := flowsN pc (bif there then b ||| A.s else base)

set_option maxRecDepth 10000 in
theorem scMay_a (b : Nat) (A : Arr) (hb : b < 18446744073709551616) (hA : A.s < 18446744073709551616) (there : Bool) (base pc : Nat) (h1 : base < 18446744073709551616) (h2 : pc < 18446744073709551616) :
    ACalls Try.prog 9 [slotV b A, .lit (.bool there), labV base, labV pc] (.lit (.bool (mayN b A there base pc))) := by
  have c1 := join_a b A.s hb hA
  have hor := or_lt b A.s hb hA
  refine acalls_of code_scope_May (by simp [fn_scope_May]) fun C hC => ?_
  cases there with
  | true =>
    have c2 := flows_a pc (b ||| A.s) h2 hor
    show AW _ _ _ (retQ _ (.lit (.bool (flowsN pc (b ||| A.s))))) _
    refine walk4 ?_
    exact fin
  | false =>
    have c2 := flows_a pc base h2 h1
    show AW _ _ _ (retQ _ (.lit (.bool (flowsN pc base)))) _
    refine walk4 ?_
    exact fin

theorem flowsN_tr {a b c : Nat} (h1 : flowsN a b = true) (h2 : flowsN b c = true) : flowsN a c = true := by
  simp only [flowsN, beq_iff_eq] at h1 h2 ⊢
  rw [← h2, ← Nat.or_assoc, h1]
theorem flowsN_self {a b : Nat} : flowsN a (b ||| a) = true := by
  simp only [flowsN, beq_iff_eq]
  rw [Nat.or_comm b a, ← Nat.or_assoc, Nat.or_self]
theorem hid_up {a b o : Nat} (h1 : flowsN a b = true) (h : flowsN a o = false) : flowsN b o = false := by
  cases hb : flowsN b o with
  | false => rfl
  | true => rw [flowsN_tr h1 hb] at h; cases h
/-- the plain law -/
theorem blind_law {A B : Arr} {b pc o : Nat} (h1 : flowsN pc o = false) (h2 : mayN b A true 0 pc = true) : alikeA o (raiB A b) (raiB B pc) = true := by
  have h2 : flowsN pc (b ||| A.s) = true := h2
  have e1 : flowsN (raiB A b).s o = false := by
    show flowsN (A.s ||| b) o = false
    rw [Nat.or_comm]; exact hid_up h2 h1
  have e2 : flowsN (raiB B pc).s o = false := hid_up (a := pc) flowsN_self h1
  rw [alikeA_eq, if_neg (by rw [e1]; simp), e1, e2]; rfl

theorem raiB_ok {A : Arr} (hA : arrOK A) {l : Nat} (hl : l < 18446744073709551616) : arrOK (raiB A l) := by
  obtain ⟨s, sh, cs⟩ := A
  simp only [arrOK, raiB, Arr.s, Arr.shape, Arr.cells] at hA ⊢
  exact ⟨or_lt _ _ hA.1 hl, hA.2⟩

set_option maxRecDepth 10000 in
set_option maxHeartbeats 2000000 in
theorem scopeBlind_a (A B : Arr) (b pc o : Nat) (hA : arrOK A) (hB : arrOK B) (hb : b < 18446744073709551616) (hp : pc < 18446744073709551616) (ho : o < 18446744073709551616) :
    ACalls Try.prog 3 [.agg (arrV A), .agg (arrV B), labV b, labV pc, labV o] (.lit (.bool true)) := by
  have fA := few_a A hA
  have fB := few_a B hB
  have ff := rflows_a pc o hp ho
  have mm := scMay_a b A hb hA.parts.1 true 0 pc (by omega) hp
  have aw := awake24_a
  have r1 := raiseB_a A b hA.parts.1 hb
  have r2 := raiseB_a B pc hB.parts.1 hp
  refine acalls_of code_scrimlaw24_ScopeBlind (by simp [fn_scrimlaw24_ScopeBlind]) fun C hC => ?_
  cases h1 : fewP A with
  | false =>
    rw [h1] at fA
    refine walk4 ?_
    exact fin
  | true =>
  rw [h1] at fA
  cases h2 : fewP B with
  | false =>
    rw [h2] at fB
    refine walk4 ?_
    exact fin
  | true =>
  rw [h2] at fB
  cases h3 : flowsN pc o with
  | true =>
    rw [h3] at ff
    refine walk4 ?_
    exact fin
  | false =>
  rw [h3] at ff
  cases h4 : mayN b A true 0 pc with
  | false =>
    rw [h4] at mm
    refine walk4 ?_
    exact fin
  | true =>
  rw [h4] at mm
  have al := refAlike_at (raiB A b) (raiB B pc) o ho (raiB_ok hA hb) (raiB_ok hB hp) (blind_law h3 h4)
  refine walk4 ?_
  exact fin
end Go.Proofs.Ytmbigpjokpdnkaa
namespace Go.Proofs.Ytmbigpjokpdnkaa
set_option linter.unusedVariables false
open Go.RowKit

abbrev nilS : AV := .lit (.slice none 0 0)
abbrev varV (s : ByteArray) (b : Nat) (A : Arr) : List AV := [strA s, labV b, .lit (.int .u64 A.s), .sl 1 (intsA .i64 A.shape), .sl 7 (A.cells.map cellR)]
abbrev rsB (v f : AV) : OB := ⟨false, false, 43, 2, [[v, f]]⟩

set_option maxRecDepth 10000 in
theorem rPut0_m (s : ByteArray) (b : Nat) (A : Arr) :
    AMut Try.prog 26 [.optr 0 0 0, strA s, labV b, .agg (arrV A)] [(0, some (rsB nilS nilS))] 1 (.tup [])
      [(0, some (rsB (.own 1) nilS)), (1, some ⟨true, false, 92, 5, [varV s b A]⟩)] 2 := by
  refine amut_of code_scrimref24_Scope_Put (by simp [fn_scrimref24_Scope_Put]) fun C hC => ?_
  refine walk4 ?_
  refine aw_loopB [0, 1, 2, 7, 8, 9] [0, 1] (fun _ : Unit => [(10, .lit (.int .i64 0))]) (fun _ => []) 2 (fun _ => True) (fun _ => 0) () trivial ?_
  intro _ _
  dsimp only [List.cons_append, List.nil_append]
  refine walk4 ?_
  exact fin_m [(1, 3)]

set_option maxRecDepth 10000 in
theorem rMay_no (k : Int) (hk : k < 0) (base pc : Nat) (h1 : base < 18446744073709551616) (h2 : pc < 18446744073709551616) :
    AMut Try.prog 27 [.optr 0 0 0, i64A k, labV base, labV pc] [(0, some (rsB nilS nilS))] 1 (.lit (.bool (flowsN pc base))) [(0, some (rsB nilS nilS))] 1 := by
  have c1 := rflows_a pc base h2 h1
  refine amut_of code_scrimref24_Scope_May (by simp [fn_scrimref24_Scope_May]) fun C hC => ?_
  refine walk4 ?_
  exact fin_m []

set_option maxRecDepth 10000 in
theorem rMay_at (s : ByteArray) (b : Nat) (A : Arr) (hb : b < 18446744073709551616) (hA : A.s < 18446744073709551616) (base pc : Nat) (h1 : base < 18446744073709551616) (h2 : pc < 18446744073709551616) :
    AMut Try.prog 27 [.optr 0 0 0, i64A 0, labV base, labV pc] [(0, some (rsB (.own 1) nilS)), (1, some ⟨true, false, 92, 5, [varV s b A]⟩)] 2 (.lit (.bool (flowsN pc (b ||| A.s))))
      [(0, some (rsB (.own 1) nilS)), (1, some ⟨true, false, 92, 5, [varV s b A]⟩)] 2 := by
  have c1 := rjoin_a b A.s hb hA
  have c2 := rflows_a pc (b ||| A.s) h2 (or_lt _ _ hb hA)
  refine amut_of code_scrimref24_Scope_May (by simp [fn_scrimref24_Scope_May]) fun C hC => ?_
  refine walk4 ?_
  exact fin_m []

abbrev fun0 (b : Nat) : AV := .agg [labV b, i64A 0, i64A 0, .lit (.string ⟨#[]⟩), .lit (.bool false), nilS, nilS, nilS, nilS]
set_option maxRecDepth 10000 in
theorem mayDef_a (b : Nat) (hb : b < 18446744073709551616) (there : Bool) (base pc : Nat) (h1 : base < 18446744073709551616) (h2 : pc < 18446744073709551616) :
    ACalls Try.prog 28 [fun0 b, .lit (.bool there), labV base, labV pc] (.lit (.bool (flowsN pc (bif there then b else base)))) := by
  refine acalls_of code_scope_MayDefine (by simp [fn_scope_MayDefine]) fun C hC => ?_
  cases there with
  | true =>
    have c2 := flows_a pc b h2 hb
    show AW _ _ _ (retQ _ (.lit (.bool (flowsN pc b)))) _
    refine walk4 ?_
    exact fin
  | false =>
    have c2 := flows_a pc base h2 h1
    show AW _ _ _ (retQ _ (.lit (.bool (flowsN pc base)))) _
    refine walk4 ?_
    exact fin

set_option maxRecDepth 10000 in
set_option maxHeartbeats 2000000 in
theorem scopeMay_a (A : Arr) (b : Nat) (there : Bool) (base pc : Nat) (hA : arrOK A) (hb : b < 18446744073709551616) (h1 : base < 18446744073709551616) (h2 : pc < 18446744073709551616) :
    ACalls Try.prog 6 [.agg (arrV A), labV b, .lit (.bool there), labV base, labV pc] (.lit (.bool true)) := by
  have fA := few_a A hA
  have aw := awake24_a
  have mm := scMay_a b A hb hA.parts.1 there base pc h1 h2
  have md := mayDef_a b hb there base pc h1 h2
  refine acalls_of code_scrimlaw24_ScopeMay (by simp [fn_scrimlaw24_ScopeMay]) fun C hC => ?_
  cases hf : fewP A with
  | false =>
    rw [hf] at fA
    refine walk4 ?_
    exact fin
  | true =>
  rw [hf] at fA
  cases there with
  | true =>
    have pp := rPut0_m xS b A
    have rm := rMay_at xS b A hb hA.parts.1 base pc h1 h2
    have rf := rflows_a pc b h2 hb
    have mm : ACalls Try.prog 9 [slotV b A, .lit (.bool true), labV base, labV pc] (.lit (.bool (flowsN pc (b ||| A.s)))) := mm
    have md : ACalls Try.prog 28 [fun0 b, .lit (.bool true), labV base, labV pc] (.lit (.bool (flowsN pc b))) := md
    refine walk4 ?_
    refine aw_reg (rrun4 ?_)
    refine r_callN [(1, 0)] pp ?_
    refine rrun4 ?_
    refine rg_nil ⟨rfl, ?_⟩
    refine walk4 ?_
    generalize flowsN pc (b ||| A.s) = q1 at *
    generalize flowsN pc b = q2 at *
    refine aw_reg (rrun4 ?_)
    refine r_callM [(1, 0), (2, 1)] rm ?_
    cases q1 <;> cases q2 <;> (refine rrun4 ?_; refine rg_nil ⟨rfl, ?_⟩; refine walk4 ?_; exact fin)
  | false =>
    have rm := rMay_no (-1) (by omega) base pc h1 h2
    have rf := rflows_a pc base h2 h1
    have mm : ACalls Try.prog 9 [slotV b A, .lit (.bool false), labV base, labV pc] (.lit (.bool (flowsN pc base))) := mm
    have md : ACalls Try.prog 28 [fun0 b, .lit (.bool false), labV base, labV pc] (.lit (.bool (flowsN pc base))) := md
    refine walk4 ?_
    generalize flowsN pc base = q1 at *
    refine aw_reg (rrun4 ?_)
    refine r_callM [(1, 0)] rm ?_
    cases q1 <;> (refine rrun4 ?_; refine rg_nil ⟨rfl, ?_⟩; refine walk4 ?_; exact fin)
end Go.Proofs.Ytmbigpjokpdnkaa
