/- Flow: configurations, records, ports, as data. -/
import Derived.Test.YtfnbhkeilcbmjaaErasP
import Derived.Test.YtfnbhkeilcbmjaaAbsF
import Derived.Test.YtfnbhkeilcbmjaaTotP
import Derived.Test.YtfnbhkeilcbmjaaNumE
namespace Go.Proofs.Ytfnbhkeilcbmjaa
set_option linter.unusedVariables false
open Go.RowKit

structure Cfg where
  cl : Nat → Nat
  ins : Nat → List Arr
  lb : Nat → Nat
  dr : Nat → List Int
  au : Nat
  fu : Int
  qu : Int
  de : Int
structure Rec where
  kind : Int
  port : Int
  fro : Nat
  to : Nat
  cls : Int
  v : Arr
abbrev i64V (z : Int) : AV := .lit (.int .i64 z)
def recV (r : Rec) : List AV := [i64V r.kind, i64V r.port, labV r.fro, labV r.to, i64V r.cls, labV r.v.s, .sl 1 (intsA .i64 r.v.shape), .sl 7 (r.v.cells.map cellR)]
abbrev insV (c : Cfg) (k : Nat) : AV := .sl 3 ((c.ins k).map arrR)
abbrev drV (c : Cfg) (k : Nat) : AV := .sl 1 (intsA .i64 (c.dr k))
def cfgV (c : Cfg) : List AV := [labV (c.cl 0), labV (c.cl 1), labV (c.cl 2), labV (c.cl 3), labV (c.cl 4), labV (c.cl 5), labV (c.cl 6), labV (c.cl 7),
  insV c 0, insV c 1, insV c 2, insV c 3, insV c 4, insV c 5, insV c 6, insV c 7,
  labV (c.lb 0), labV (c.lb 1), labV (c.lb 2), labV (c.lb 3), labV (c.lb 4), labV (c.lb 5), labV (c.lb 6), labV (c.lb 7),
  drV c 0, drV c 1, drV c 2, drV c 3, drV c 4, drV c 5, drV c 6, drV c 7,
  labV c.au, i64V c.fu, i64V c.qu, i64V c.de]
abbrev row8 (f : Nat → Int) : List AV := [i64V (f 0), i64V (f 1), i64V (f 2), i64V (f 3), i64V (f 4), i64V (f 5), i64V (f 6), i64V (f 7)]
def portsV (c : Cfg) (rd dn : Nat → Int) (x : AV) : List AV := cfgV c ++ (row8 rd ++ (row8 dn ++ [x]))
def rportsV (c : Cfg) (rd dn : Nat → Int) (x : AV) : List AV := cfgV c ++ (row8 rd ++ (row8 dn ++ [x, .lit (.bool false)]))
def updF (f : Nat → Int) (k : Nat) (v : Int) : Nat → Int := fun i => bif Nat.beq i k then v else f i

theorem lt8 {p : Nat → Prop} (h0 : p 0) (h1 : p 1) (h2 : p 2) (h3 : p 3) (h4 : p 4) (h5 : p 5) (h6 : p 6) (h7 : p 7) : ∀ n, n < 8 → p n
  | 0, _ => h0 | 1, _ => h1 | 2, _ => h2 | 3, _ => h3 | 4, _ => h4 | 5, _ => h5 | 6, _ => h6 | 7, _ => h7
  | n + 8, h => absurd h (by omega)

section
variable (c : Cfg) (rd dn : Nat → Int) (x : AV)
theorem cfg_in (n : Nat) (h : n < 8) : (cfgV c)[0 + 8 + n * 1]? = some (insV c n) := lt8 (p := fun n => (cfgV c)[0 + 8 + n * 1]? = some (insV c n)) rfl rfl rfl rfl rfl rfl rfl rfl n h
theorem cfg_dr (n : Nat) (h : n < 8) : (cfgV c)[0 + 24 + n * 1]? = some (drV c n) := lt8 (p := fun n => (cfgV c)[0 + 24 + n * 1]? = some (drV c n)) rfl rfl rfl rfl rfl rfl rfl rfl n h
theorem cfg_cl (n : Nat) (h : n < 8) : (cfgV c)[0 + 0 + n * 1]? = some (labV (c.cl n)) := lt8 (p := fun n => (cfgV c)[0 + 0 + n * 1]? = some (labV (c.cl n))) rfl rfl rfl rfl rfl rfl rfl rfl n h
theorem cfg_in_set (n : Nat) (h : n < 8) : (cfgV c).take (0 + 8 + n * 1) ++ ([insV c n] ++ (cfgV c).drop (0 + 8 + n * 1 + 1)) = cfgV c := lt8 (p := fun n => (cfgV c).take (0 + 8 + n * 1) ++ ([insV c n] ++ (cfgV c).drop (0 + 8 + n * 1 + 1)) = cfgV c) rfl rfl rfl rfl rfl rfl rfl rfl n h
theorem cfg_dr_set (n : Nat) (h : n < 8) : (cfgV c).take (0 + 24 + n * 1) ++ ([drV c n] ++ (cfgV c).drop (0 + 24 + n * 1 + 1)) = cfgV c := lt8 (p := fun n => (cfgV c).take (0 + 24 + n * 1) ++ ([drV c n] ++ (cfgV c).drop (0 + 24 + n * 1 + 1)) = cfgV c) rfl rfl rfl rfl rfl rfl rfl rfl n h
theorem cfg_le (n m : Nat) (h : n < 8) (hm : m ≤ 28) : Nat.ble (0 + m + n * 1 + 1) (cfgV c).length = true := by
  rw [Nat.ble_eq]; show _ ≤ 36; omega

theorem p_cl (n : Nat) (h : n < 8) : (portsV c rd dn x)[0 + 0 + 0 + n * 1]? = some (labV (c.cl n)) := lt8 (p := fun n => (portsV c rd dn x)[0 + 0 + 0 + n * 1]? = some (labV (c.cl n))) rfl rfl rfl rfl rfl rfl rfl rfl n h
theorem p_in (n : Nat) (h : n < 8) : (portsV c rd dn x)[0 + 0 + 8 + n * 1]? = some (insV c n) := lt8 (p := fun n => (portsV c rd dn x)[0 + 0 + 8 + n * 1]? = some (insV c n)) rfl rfl rfl rfl rfl rfl rfl rfl n h
theorem p_lb (n : Nat) (h : n < 8) : (portsV c rd dn x)[0 + 0 + 16 + n * 1]? = some (labV (c.lb n)) := lt8 (p := fun n => (portsV c rd dn x)[0 + 0 + 16 + n * 1]? = some (labV (c.lb n))) rfl rfl rfl rfl rfl rfl rfl rfl n h
theorem p_dr (n : Nat) (h : n < 8) : (portsV c rd dn x)[0 + 0 + 24 + n * 1]? = some (drV c n) := lt8 (p := fun n => (portsV c rd dn x)[0 + 0 + 24 + n * 1]? = some (drV c n)) rfl rfl rfl rfl rfl rfl rfl rfl n h
theorem p_rd (n : Nat) (h : n < 8) : (portsV c rd dn x)[0 + 36 + n * 1]? = some (i64V (rd n)) := lt8 (p := fun n => (portsV c rd dn x)[0 + 36 + n * 1]? = some (i64V (rd n))) rfl rfl rfl rfl rfl rfl rfl rfl n h
theorem p_dn (n : Nat) (h : n < 8) : (portsV c rd dn x)[0 + 44 + n * 1]? = some (i64V (dn n)) := lt8 (p := fun n => (portsV c rd dn x)[0 + 44 + n * 1]? = some (i64V (dn n))) rfl rfl rfl rfl rfl rfl rfl rfl n h
theorem p_le (n m : Nat) (h : n < 8) (hm : m ≤ 44) : Nat.ble (0 + m + n * 1 + 1) (portsV c rd dn x).length = true := by
  rw [Nat.ble_eq]; show _ ≤ 53; omega
theorem p_rd_set (v : Int) (n : Nat) (h : n < 8) : (portsV c rd dn x).take (0 + 36 + n * 1) ++ ([i64V v] ++ (portsV c rd dn x).drop (0 + 36 + n * 1 + 1)) = portsV c (updF rd n v) dn x :=
  lt8 (p := fun n => (portsV c rd dn x).take (0 + 36 + n * 1) ++ ([i64V v] ++ (portsV c rd dn x).drop (0 + 36 + n * 1 + 1)) = portsV c (updF rd n v) dn x) rfl rfl rfl rfl rfl rfl rfl rfl n h
theorem p_dn_set (v : Int) (n : Nat) (h : n < 8) : (portsV c rd dn x).take (0 + 44 + n * 1) ++ ([i64V v] ++ (portsV c rd dn x).drop (0 + 44 + n * 1 + 1)) = portsV c rd (updF dn n v) x :=
  lt8 (p := fun n => (portsV c rd dn x).take (0 + 44 + n * 1) ++ ([i64V v] ++ (portsV c rd dn x).drop (0 + 44 + n * 1 + 1)) = portsV c rd (updF dn n v) x) rfl rfl rfl rfl rfl rfl rfl rfl n h

theorem r_cl (n : Nat) (h : n < 8) : (rportsV c rd dn x)[0 + 0 + 0 + n * 1]? = some (labV (c.cl n)) := lt8 (p := fun n => (rportsV c rd dn x)[0 + 0 + 0 + n * 1]? = some (labV (c.cl n))) rfl rfl rfl rfl rfl rfl rfl rfl n h
theorem r_in (n : Nat) (h : n < 8) : (rportsV c rd dn x)[0 + 0 + 8 + n * 1]? = some (insV c n) := lt8 (p := fun n => (rportsV c rd dn x)[0 + 0 + 8 + n * 1]? = some (insV c n)) rfl rfl rfl rfl rfl rfl rfl rfl n h
theorem r_lb (n : Nat) (h : n < 8) : (rportsV c rd dn x)[0 + 0 + 16 + n * 1]? = some (labV (c.lb n)) := lt8 (p := fun n => (rportsV c rd dn x)[0 + 0 + 16 + n * 1]? = some (labV (c.lb n))) rfl rfl rfl rfl rfl rfl rfl rfl n h
theorem r_dr (n : Nat) (h : n < 8) : (rportsV c rd dn x)[0 + 0 + 24 + n * 1]? = some (drV c n) := lt8 (p := fun n => (rportsV c rd dn x)[0 + 0 + 24 + n * 1]? = some (drV c n)) rfl rfl rfl rfl rfl rfl rfl rfl n h
theorem r_rd (n : Nat) (h : n < 8) : (rportsV c rd dn x)[0 + 36 + n * 1]? = some (i64V (rd n)) := lt8 (p := fun n => (rportsV c rd dn x)[0 + 36 + n * 1]? = some (i64V (rd n))) rfl rfl rfl rfl rfl rfl rfl rfl n h
theorem r_dn (n : Nat) (h : n < 8) : (rportsV c rd dn x)[0 + 44 + n * 1]? = some (i64V (dn n)) := lt8 (p := fun n => (rportsV c rd dn x)[0 + 44 + n * 1]? = some (i64V (dn n))) rfl rfl rfl rfl rfl rfl rfl rfl n h
theorem r_le (n m : Nat) (h : n < 8) (hm : m ≤ 44) : Nat.ble (0 + m + n * 1 + 1) (rportsV c rd dn x).length = true := by
  rw [Nat.ble_eq]; show _ ≤ 54; omega
theorem r_rd_set (v : Int) (n : Nat) (h : n < 8) : (rportsV c rd dn x).take (0 + 36 + n * 1) ++ ([i64V v] ++ (rportsV c rd dn x).drop (0 + 36 + n * 1 + 1)) = rportsV c (updF rd n v) dn x :=
  lt8 (p := fun n => (rportsV c rd dn x).take (0 + 36 + n * 1) ++ ([i64V v] ++ (rportsV c rd dn x).drop (0 + 36 + n * 1 + 1)) = rportsV c (updF rd n v) dn x) rfl rfl rfl rfl rfl rfl rfl rfl n h
theorem r_dn_set (v : Int) (n : Nat) (h : n < 8) : (rportsV c rd dn x).take (0 + 44 + n * 1) ++ ([i64V v] ++ (rportsV c rd dn x).drop (0 + 44 + n * 1 + 1)) = rportsV c rd (updF dn n v) x :=
  lt8 (p := fun n => (rportsV c rd dn x).take (0 + 44 + n * 1) ++ ([i64V v] ++ (rportsV c rd dn x).drop (0 + 44 + n * 1 + 1)) = rportsV c rd (updF dn n v) x) rfl rfl rfl rfl rfl rfl rfl rfl n h
end

/-- without labels; under a label -/
abbrev eraA (A : Arr) : Arr := relabA (fun _ => 0) A
abbrev covA (l : Nat) (A : Arr) : Arr := relabA (covG l) A
abbrev pBox (c : Cfg) (rd dn : Nat → Int) (x : AV) : OB := ⟨false, false, 76, 53, [portsV c rd dn x]⟩
abbrev rBox (c : Cfg) (rd dn : Nat → Int) (x : AV) : OB := ⟨false, false, 39, 54, [rportsV c rd dn x]⟩
abbrev recRow (l : List Rec) : OB := ⟨true, false, 52, 8, l.map recV⟩

def zArr : Arr := .mk 0 [] []
/-- what comes next of some arrays; of some numbers -/
def readP (c : Cfg) (rd : Nat → Int) (k : Int) (pc : Nat) : (Nat → Int) × Arr × Int :=
  if k < 0 ∨ 7 < k then (rd, zArr, 14) else if flowsN pc (c.cl k.toNat) = false then (rd, zArr, 9) else
  match (c.ins k.toNat)[(rd k.toNat).toNat]? with
  | none => (rd, zArr, 6)
  | some A => (updF rd k.toNat (rd k.toNat + 1), covA (c.cl k.toNat) (eraA A), 0)
def numA (z : Int) : Arr := .mk 0 [] [intC z]
def drawP (c : Cfg) (dn : Nat → Int) (k : Int) (pc : Nat) : (Nat → Int) × Arr × Int :=
  if k < 0 ∨ 7 < k then (dn, zArr, 14) else if flowsN pc (c.lb k.toNat) = false then (dn, zArr, 9) else
  match (c.dr k.toNat)[(dn k.toNat).toNat]? with
  | none => (dn, zArr, 6)
  | some z => (updF dn k.toNat (dn k.toNat + 1), covA (c.lb k.toNat) (eraA (numA z)), 0)
def sendP (c : Cfg) (l : List Rec) (k : Int) (A : Arr) (pc : Nat) : List Rec × Int :=
  if k < 0 ∨ 7 < k then (l, 14) else if flowsN (pc ||| totA A) (c.cl k.toNat) = false then (l, 9) else (l ++ [⟨1, k, 0, 0, 0, eraA A⟩], 0)
def releP (c : Cfg) (l : List Rec) (to : Nat) (A : Arr) (pc : Nat) : List Rec × Arr × Int :=
  if flowsN (totA A) (to ||| c.au) = false ∨ flowsN pc to = false then (l, zArr, 9) else (l ++ [⟨2, 0, totA A, to, 0, eraA A⟩], covA to (eraA A), 0)
def repoP (c : Cfg) (l : List Rec) (k : Int) (pc : Nat) : List Rec × Int :=
  if flowsN pc (c.cl 0) = false then (l, 9) else (l ++ [⟨3, 0, 0, 0, k, zArr⟩], 0)

/-- numbers so far, no greater than they may be -/
def fewN (f : Nat → Int) : Prop := ∀ n, 0 ≤ f n ∧ f n ≤ 1000000
/-- a configuration as it may be: labels, right arrays, so many -/
structure CfgOK (c : Cfg) : Prop where
  cl : ∀ n, c.cl n < 18446744073709551616
  lb : ∀ n, c.lb n < 18446744073709551616
  au : c.au < 18446744073709551616
  ins : ∀ n, (c.ins n).length ≤ 1000 ∧ ∀ A ∈ c.ins n, okA A
  dr : ∀ n, (c.dr n).length ≤ 1000 ∧ ∀ z ∈ c.dr n, -9223372036854775808 ≤ z ∧ z ≤ 9223372036854775807

theorem SubR.tup {l r : List AV} (h : SubRL l r) : SubR (.tup l) (.tup r) := fun E w v hv => by
  obtain ⟨vs, h1, h2⟩ := hv
  exact ⟨vs, h1, h E w vs h2⟩
theorem AMut.sub {P : Program} {f : FuncId} {args : List AV} {h : Hp} {m : Nat} {r r2 : AV} {h' : Hp} {m' : Nat} (H : AMut P f args h m r h' m') (hs : SubR r r2) : AMut P f args h m r2 h' m' :=
  ⟨H.able, fun E0 w vs h1 h2 h3 => Calls.mono (H.calls E0 w vs h1 h2 h3) fun e w' hq => by
    obtain ⟨v, E1, k1, k2, k3⟩ := hq
    exact ⟨v, E1, k1, hs E1 w' v k2, k3⟩⟩
theorem sub_zArr (e : AV) : SubR (.tup [.agg [.lit (.int .u64 0), .lit (.slice none 0 0), .lit (.slice none 0 0)], e]) (.tup [.agg (arrV zArr), e]) :=
  SubR.tup (SubRL.cons (SubR.agg (SubRL.cons (SubR.refl _) (SubRL.cons (SubR.nil _) (SubRL.cons (SubR.nil _) SubRL.nil)))) (SubRL.cons (SubR.refl _) SubRL.nil))
theorem okA_era {A : Arr} (h : okA A) : okA (eraA A) := okA.relab (fun _ _ => by omega) h
end Go.Proofs.Ytfnbhkeilcbmjaa
namespace Go.Proofs.Ytfnbhkeilcbmjaa
set_option linter.unusedVariables false
open Go.RowKit

set_option maxRecDepth 10000 in
theorem none_a (c : Cfg) (rd dn : Nat → Int) (x : AV) (k : Int) (b : Bool) (hb : decide (k < 0 ∨ 7 < k) = b) :
    ACalls Try.prog 42 [.ep 53 [portsV c rd dn x] 0 0, i64V k] (.lit (.bool b)) := by
  have hu := Try.underlying33
  refine acalls_of code_flow_Ports_none (by simp [fn_flow_Ports_none]) fun C hC => ?_
  by_cases h0 : k < 0
  · have e : b = true := by rw [← hb]; simp; omega
    subst e
    refine walk3 ?_
    exact fin
  · by_cases h1 : k < 8
    · have e : b = false := by rw [← hb]; simp; omega
      subst e
      refine walk3 ?_
      exact fin
    · have e : b = true := by rw [← hb]; simp; omega
      subst e
      refine walk3 ?_
      exact fin

set_option maxRecDepth 10000 in
theorem none0_a (k : Int) : ACalls Try.prog 42 [.lit (.pointer none), i64V k] (.lit (.bool true)) := by
  have hu := Try.underlying33
  refine acalls_of code_flow_Ports_none (by simp [fn_flow_Ports_none]) fun C hC => ?_
  refine walk3 ?_
  exact fin

set_option maxRecDepth 10000 in
theorem new_m (c : Cfg) (h1 : ∀ k, k < 8 → (c.ins k).length ≤ 1000) (h2 : ∀ k, k < 8 → (c.dr k).length ≤ 1000) :
    AMut Try.prog 9 [.agg (cfgV c)] [] 0 (.optr 0 0 0) [(0, some (pBox c (fun _ => 0) (fun _ => 0) (.lit (.slice none 0 0))))] 1 := by
  refine amut_of code_flow_New (by simp [fn_flow_New]) fun C hC => ?_
  refine walk3 ?_
  refine aw_loopB [1] [0] (fun k : Nat => [(4, i64V k)]) (fun k => []) 1
      (fun k => k ≤ 8) (fun k => 8 - k) 0 (by omega) ?_
  intro k hk
  dsimp only [List.cons_append, List.nil_append]
  by_cases hlt : k < 8
  · have hz : ((k : Nat) : Int).toNat = k := by omega
    have c1 := cloneArr_a ((c.ins k).map arrR) (by have := h1 k hlt; simp; omega)
    have c2 := cloneInt_a (intsA .i64 (c.dr k)) (by have := h2 k hlt; simp [intsA]; omega)
    have e1 : (cfgV c)[0 + 8 + ((k : Nat) : Int).toNat * 1]? = some (insV c k) := cfg_in c k hlt
    have e2 : (cfgV c).take (0 + 8 + ((k : Nat) : Int).toNat * 1) ++ ([insV c k] ++ (cfgV c).drop (0 + 8 + ((k : Nat) : Int).toNat * 1 + 1)) = cfgV c := cfg_in_set c k hlt
    have e3 : Nat.ble (0 + 8 + ((k : Nat) : Int).toNat * 1 + 1) (cfgV c).length = true := cfg_le c k 8 hlt (by omega)
    have e4 : (cfgV c)[0 + 24 + ((k : Nat) : Int).toNat * 1]? = some (drV c k) := cfg_dr c k hlt
    have e5 : (cfgV c).take (0 + 24 + ((k : Nat) : Int).toNat * 1) ++ ([drV c k] ++ (cfgV c).drop (0 + 24 + ((k : Nat) : Int).toNat * 1 + 1)) = cfgV c := cfg_dr_set c k hlt
    have e6 : Nat.ble (0 + 24 + ((k : Nat) : Int).toNat * 1 + 1) (cfgV c).length = true := cfg_le c k 24 hlt (by omega)
    refine walk3 ?_
    exact ⟨k + 1, by omega, by omega, wkR hC.m []⟩
  · refine walk3 ?_
    exact fin_m [(0, 1)]

set_option maxRecDepth 10000 in
theorem cloneRec_m (es : List (List AV)) (hb : es.length ≤ 1000000000) : AMut Try.prog 39 [.own 0] [(0, some ⟨true, false, 52, 8, es⟩)] 1 (.sl 8 es) [(0, some ⟨true, false, 52, 8, es⟩)] 1 := by
  refine amut_of code_slices_Clone_api_Record (by simp [fn_slices_Clone_api_Record]) fun C hC => ?_
  refine aw_postW ?_
  by_cases hn : 0 < es.length
  · refine walk3 ?_
    refine aw_reg (rrun3 ?_)
    refine r_eqvO Try.underlying37 hn ?_
    refine rrun3 ?_
    refine rg_nil ⟨rfl, ?_⟩
    refine walk3 ?_
    exact ⟨_, (weak_freeze 2 rfl).trans (weak_view 2 rfl rfl), fin_m []⟩
  · have e0 : es = [] := List.eq_nil_of_length_eq_zero (by omega)
    subst e0
    refine walk3 ?_
    refine aw_valO 0 0 rfl rfl rfl fun a cap => ?_
    cases a with
    | none =>
      refine aw_reg (rrun3 ?_)
      refine r_eqvS Try.underlying37 (rrun3 ?_)
      refine rg_nil ⟨rfl, ?_⟩
      refine walk3 ?_
      exact ⟨_, weak_nilS 2 8 rfl, fin_m []⟩
    | some x =>
      refine aw_reg (rrun3 ?_)
      refine r_eqvS Try.underlying37 (rrun3 ?_)
      refine rg_nil ⟨rfl, ?_⟩
      refine aw_say 0 rfl (b := .sl 8 []) (fun E w v h => ⟨some x, cap, [], h, Nat.zero_le _, fun h => (by cases h), Nat.zero_le _, fun i v h => (by cases h), fun u h => (by cases h), rfl⟩) ?_
      refine walk3 ?_
      exact ⟨_, (weak_freeze 2 rfl).trans (weak_view 2 rfl rfl), fin_m []⟩

set_option maxRecDepth 10000 in
theorem records_m (c : Cfg) (rd dn : Nat → Int) (l : List Rec) (hl : l.length ≤ 100000) :
    AMut Try.prog 13 [.optr 0 0 0] [(0, some (pBox c rd dn (.own 1))), (1, some (recRow l))] 2 (.sl 8 (l.map recV)) [(0, some (pBox c rd dn (.own 1))), (1, some (recRow l))] 2 := by
  have hu := Try.underlying33
  have c1 := cloneRec_m (l.map recV) (by simp; omega)
  refine amut_of code_flow_Ports_Records (by simp [fn_flow_Ports_Records]) fun C hC => ?_
  refine walk3 ?_
  refine aw_reg (rrun3 ?_)
  refine r_callM [(1, 0)] c1 ?_
  refine rrun3 ?_
  refine rg_nil ⟨rfl, ?_⟩
  refine walk3 ?_
  exact fin_m []
theorem records0_a : ACalls Try.prog 13 [.lit (.pointer none)] (.sl 8 []) := by
  have hu := Try.underlying33
  refine acalls_of code_flow_Ports_Records (by simp [fn_flow_Ports_Records]) fun C hC => ?_
  refine walk3 ?_
  exact fin
end Go.Proofs.Ytfnbhkeilcbmjaa
