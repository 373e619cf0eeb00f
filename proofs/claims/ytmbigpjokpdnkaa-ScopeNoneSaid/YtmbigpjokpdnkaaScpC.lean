/- ScopeMay. -/
import Derived.Test.YtmbigpjokpdnkaaScpB
namespace Go.Proofs.Ytmbigpjokpdnkaa
set_option linter.unusedVariables false
open Go.RowKit

abbrev nilS : AV := .lit (.slice none 0 0)
abbrev varV (s : ByteArray) (b : Nat) (A : Arr) : List AV := [strA s, labV b, .lit (.int .u64 A.s), .sl 1 (intsA .i64 A.shape), .sl 7 (A.cells.map cellR)]
abbrev rsB (v f : AV) : OB := ⟨false, false, 43, 2, [[v, f]]⟩

set_option maxRecDepth 10000 in
theorem rPut0_m (s : ByteArray) (b : Nat) (A : Arr) :
    AMut Try.prog 26 [.optr 0 0 0, strA s, labV b, .agg (arrV A)] [(0, some (rsB nilS nilS))] 1 (.tup [])
      [(0, some (rsB (.own 1) nilS)), (1, some ⟨true, false, 92, 5, [varV s b A]⟩)] 2 := by
  refine amut_of code_scrimref24_Scope_Put (by simp [fn_scrimref24_Scope_Put]) fun C hC => ?_
  refine walk4 ?_
  refine aw_loopB [0, 1, 2, 7, 8, 9] [0, 1] (fun _ : Unit => [(10, .lit (.int .i64 0))]) (fun _ => []) 2 (fun _ => True) (fun _ => 0) () trivial ?_
  intro _ _
  dsimp only [List.cons_append, List.nil_append]
  refine walk4 ?_
  exact fin_m [(1, 3)]

set_option maxRecDepth 10000 in
theorem rMay_no (k : Int) (hk : k < 0) (base pc : Nat) (h1 : base < 18446744073709551616) (h2 : pc < 18446744073709551616) :
    AMut Try.prog 27 [.optr 0 0 0, i64A k, labV base, labV pc] [(0, some (rsB nilS nilS))] 1 (.lit (.bool (flowsN pc base))) [(0, some (rsB nilS nilS))] 1 := by
  have c1 := rflows_a pc base h2 h1
  refine amut_of code_scrimref24_Scope_May (by simp [fn_scrimref24_Scope_May]) fun C hC => ?_
  refine walk4 ?_
  exact fin_m []

set_option maxRecDepth 10000 in
theorem rMay_at (s : ByteArray) (b : Nat) (A : Arr) (hb : b < 18446744073709551616) (hA : A.s < 18446744073709551616) (base pc : Nat) (h1 : base < 18446744073709551616) (h2 : pc < 18446744073709551616) :
    AMut Try.prog 27 [.optr 0 0 0, i64A 0, labV base, labV pc] [(0, some (rsB (.own 1) nilS)), (1, some ⟨true, false, 92, 5, [varV s b A]⟩)] 2 (.lit (.bool (flowsN pc (b ||| A.s))))
      [(0, some (rsB (.own 1) nilS)), (1, some ⟨true, false, 92, 5, [varV s b A]⟩)] 2 := by
  have c1 := rjoin_a b A.s hb hA
  have c2 := rflows_a pc (b ||| A.s) h2 (or_lt _ _ hb hA)
  refine amut_of code_scrimref24_Scope_May (by simp [fn_scrimref24_Scope_May]) fun C hC => ?_
  refine walk4 ?_
  exact fin_m []

abbrev fun0 (b : Nat) : AV := .agg [labV b, i64A 0, i64A 0, .lit (.string ⟨#[]⟩), .lit (.bool false), nilS, nilS, nilS, nilS]
set_option maxRecDepth 10000 in
theorem mayDef_a (b : Nat) (hb : b < 18446744073709551616) (there : Bool) (base pc : Nat) (h1 : base < 18446744073709551616) (h2 : pc < 18446744073709551616) :
    ACalls Try.prog 28 [fun0 b, .lit (.bool there), labV base, labV pc] (.lit (.bool (flowsN pc (bif there then b else base)))) := by
  refine acalls_of code_scope_MayDefine (by simp [fn_scope_MayDefine]) fun C hC => ?_
  cases there with
  | true =>
    have c2 := flows_a pc b h2 hb
    show AW _ _ _ (retQ _ (.lit (.bool (flowsN pc b)))) _
    refine walk4 ?_
    exact fin
  | false =>
    have c2 := flows_a pc base h2 h1
    show AW _ _ _ (retQ _ (.lit (.bool (flowsN pc base)))) _
    refine walk4 ?_
    exact fin

set_option maxRecDepth 10000 in
set_option maxHeartbeats 2000000 in
theorem scopeMay_a (A : Arr) (b : Nat) (there : Bool) (base pc : Nat) (hA : arrOK A) (hb : b < 18446744073709551616) (h1 : base < 18446744073709551616) (h2 : pc < 18446744073709551616) :
    ACalls Try.prog 6 [.agg (arrV A), labV b, .lit (.bool there), labV base, labV pc] (.lit (.bool true)) := by
  have fA := few_a A hA
  have aw := awake24_a
  have mm := scMay_a b A hb hA.parts.1 there base pc h1 h2
  have md := mayDef_a b hb there base pc h1 h2
  refine acalls_of code_scrimlaw24_ScopeMay (by simp [fn_scrimlaw24_ScopeMay]) fun C hC => ?_
  cases hf : fewP A with
  | false =>
    rw [hf] at fA
    refine walk4 ?_
    exact fin
  | true =>
  rw [hf] at fA
  cases there with
  | true =>
    have pp := rPut0_m xS b A
    have rm := rMay_at xS b A hb hA.parts.1 base pc h1 h2
    have rf := rflows_a pc b h2 hb
    have mm : ACalls Try.prog 9 [slotV b A, .lit (.bool true), labV base, labV pc] (.lit (.bool (flowsN pc (b ||| A.s)))) := mm
    have md : ACalls Try.prog 28 [fun0 b, .lit (.bool true), labV base, labV pc] (.lit (.bool (flowsN pc b))) := md
    refine walk4 ?_
    refine aw_reg (rrun4 ?_)
    refine r_callN [(1, 0)] pp ?_
    refine rrun4 ?_
    refine rg_nil ⟨rfl, ?_⟩
    refine walk4 ?_
    generalize flowsN pc (b ||| A.s) = q1 at *
    generalize flowsN pc b = q2 at *
    refine aw_reg (rrun4 ?_)
    refine r_callM [(1, 0), (2, 1)] rm ?_
    cases q1 <;> cases q2 <;> (refine rrun4 ?_; refine rg_nil ⟨rfl, ?_⟩; refine walk4 ?_; exact fin)
  | false =>
    have rm := rMay_no (-1) (by omega) base pc h1 h2
    have rf := rflows_a pc base h2 h1
    have mm : ACalls Try.prog 9 [slotV b A, .lit (.bool false), labV base, labV pc] (.lit (.bool (flowsN pc base))) := mm
    have md : ACalls Try.prog 28 [fun0 b, .lit (.bool false), labV base, labV pc] (.lit (.bool (flowsN pc base))) := md
    refine walk4 ?_
    generalize flowsN pc base = q1 at *
    refine aw_reg (rrun4 ?_)
    refine r_callM [(1, 0)] rm ?_
    cases q1 <;> (refine rrun4 ?_; refine rg_nil ⟨rfl, ?_⟩; refine walk4 ?_; exact fin)
end Go.Proofs.Ytmbigpjokpdnkaa
