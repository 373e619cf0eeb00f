/- ScopeBlind: the law's function, walked; the plain law. -/
import Derived.Test.YtmbigpjokpdnkaaScpA
import Derived.Test.YtmbigpjokpdnkaaRefAl
namespace Go.Proofs.Ytmbigpjokpdnkaa
set_option linter.unusedVariables false
open Go.RowKit

def raiB (A : Arr) (l : Nat) : Arr := .mk (A.s ||| l) A.shape A.cells
theorem raiseB_a (A : Arr) (l : Nat) (hs : A.s < 18446744073709551616) (hl : l < 18446744073709551616) : ACalls Try.prog 12 [.agg (arrV A), labV l] (.agg (arrV (raiB A l))) := by
  have c1 := join_a A.s l hs hl
  refine acalls_of code_array_Raise (by simp [fn_array_Raise]) fun C hC => ?_
  refine walk2 ?_
  exact fin


def mayN (b : Nat) (A : Arr) (there : Bool) (base pc : Nat) : Bool := flowsN pc (bif there then b ||| A.s else base)

set_option maxRecDepth 10000 in
theorem scMay_a (b : Nat) (A : Arr) (hb : b < 18446744073709551616) (hA : A.s < 18446744073709551616) (there : Bool) (base pc : Nat) (h1 : base < 18446744073709551616) (h2 : pc < 18446744073709551616) :
    ACalls Try.prog 9 [slotV b A, .lit (.bool there), labV base, labV pc] (.lit (.bool (mayN b A there base pc))) := by
  have c1 := join_a b A.s hb hA
  have hor := or_lt b A.s hb hA
  refine acalls_of code_scope_May (by simp [fn_scope_May]) fun C hC => ?_
  cases there with
  | true =>
    have c2 := flows_a pc (b ||| A.s) h2 hor
    show AW _ _ _ (retQ _ (.lit (.bool (flowsN pc (b ||| A.s))))) _
    refine walk4 ?_
    exact fin
  | false =>
    have c2 := flows_a pc base h2 h1
    show AW _ _ _ (retQ _ (.lit (.bool (flowsN pc base)))) _
    refine walk4 ?_
    exact fin

theorem flowsN_tr {a b c : Nat} (h1 : flowsN a b = true) (h2 : flowsN b c = true) : flowsN a c = true := by
  simp only [flowsN, beq_iff_eq] at h1 h2 ⊢
  rw [← h2, ← Nat.or_assoc, h1]
theorem flowsN_self {a b : Nat} : flowsN a (b ||| a) = true := by
  simp only [flowsN, beq_iff_eq]
  rw [Nat.or_comm b a, ← Nat.or_assoc, Nat.or_self]
theorem hid_up {a b o : Nat} (h1 : flowsN a b = true) (h : flowsN a o = false) : flowsN b o = false := by
  cases hb : flowsN b o with
  | false => rfl
  | true => rw [flowsN_tr h1 hb] at h; cases h
/-- the plain law -/
theorem blind_law {A B : Arr} {b pc o : Nat} (h1 : flowsN pc o = false) (h2 : mayN b A true 0 pc = true) : alikeA o (raiB A b) (raiB B pc) = true := by
  have h2 : flowsN pc (b ||| A.s) = true := h2
  have e1 : flowsN (raiB A b).s o = false := by
    show flowsN (A.s ||| b) o = false
    rw [Nat.or_comm]; exact hid_up h2 h1
  have e2 : flowsN (raiB B pc).s o = false := hid_up (a := pc) flowsN_self h1
  rw [alikeA_eq, if_neg (by rw [e1]; simp), e1, e2]; rfl

theorem raiB_ok {A : Arr} (hA : arrOK A) {l : Nat} (hl : l < 18446744073709551616) : arrOK (raiB A l) := by
  obtain ⟨s, sh, cs⟩ := A
  simp only [arrOK, raiB, Arr.s, Arr.shape, Arr.cells] at hA ⊢
  exact ⟨or_lt _ _ hA.1 hl, hA.2⟩

set_option maxRecDepth 10000 in
set_option maxHeartbeats 2000000 in
theorem scopeBlind_a (A B : Arr) (b pc o : Nat) (hA : arrOK A) (hB : arrOK B) (hb : b < 18446744073709551616) (hp : pc < 18446744073709551616) (ho : o < 18446744073709551616) :
    ACalls Try.prog 3 [.agg (arrV A), .agg (arrV B), labV b, labV pc, labV o] (.lit (.bool true)) := by
  have fA := few_a A hA
  have fB := few_a B hB
  have ff := rflows_a pc o hp ho
  have mm := scMay_a b A hb hA.parts.1 true 0 pc (by omega) hp
  have aw := awake24_a
  have r1 := raiseB_a A b hA.parts.1 hb
  have r2 := raiseB_a B pc hB.parts.1 hp
  refine acalls_of code_scrimlaw24_ScopeBlind (by simp [fn_scrimlaw24_ScopeBlind]) fun C hC => ?_
  cases h1 : fewP A with
  | false =>
    rw [h1] at fA
    refine walk4 ?_
    exact fin
  | true =>
  rw [h1] at fA
  cases h2 : fewP B with
  | false =>
    rw [h2] at fB
    refine walk4 ?_
    exact fin
  | true =>
  rw [h2] at fB
  cases h3 : flowsN pc o with
  | true =>
    rw [h3] at ff
    refine walk4 ?_
    exact fin
  | false =>
  rw [h3] at ff
  cases h4 : mayN b A true 0 pc with
  | false =>
    rw [h4] at mm
    refine walk4 ?_
    exact fin
  | true =>
  rw [h4] at mm
  have al := refAlike_at (raiB A b) (raiB B pc) o ho (raiB_ok hA hb) (raiB_ok hB hp) (blind_law h3 h4)
  refine walk4 ?_
  exact fin
end Go.Proofs.Ytmbigpjokpdnkaa
