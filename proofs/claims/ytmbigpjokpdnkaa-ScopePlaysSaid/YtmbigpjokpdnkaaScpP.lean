/- Scopes: each function once. -/
import Derived.Test.YtmbigpjokpdnkaaSizP
import Derived.Test.YtmbigpjokpdnkaaRisM
namespace Go.Proofs.Ytmbigpjokpdnkaa
set_option linter.unusedVariables false
open Go.RowKit

abbrev i64A (k : Int) : AV := .lit (.int .i64 k)
abbrev strA (s : ByteArray) : AV := .lit (.string s)
/-- a scope's block: its maps are the blocks 1 and 2 -/
abbrev scB (n : Int) : OB := ⟨false, false, 66, 3, [[.own 1, .own 2, i64A n]]⟩
abbrev mpB (es : List (List AV)) : OB := ⟨false, false, 0, 0, es⟩
abbrev scH (n : Int) (va fu : List (List AV)) : Hp := [(0, some (scB n)), (1, some (mpB va)), (2, some (mpB fu))]
/-- what a name has: a label, an array, how many cells -/
abbrev heldV (b : Nat) (A : Arr) (k : Int) : AV := .agg [labV b, .lit (.int .u64 A.s), .sl 1 (intsA .i64 A.shape), .sl 7 (A.cells.map cellR), i64A k]
abbrev slotV (b : Nat) (A : Arr) : AV := .agg [labV b, .lit (.int .u64 A.s), .sl 1 (intsA .i64 A.shape), .sl 7 (A.cells.map cellR)]


set_option maxRecDepth 10000 in
theorem scNew_m : AMut Try.prog 13 [] [] 0 (.optr 0 0 0) (scH 0 [] []) 3 := by
  refine amut_of code_scope_New (by simp [fn_scope_New]) fun C hC => ?_
  refine walk4 ?_
  exact fin_m [(0, 2), (1, 0), (2, 1)]

set_option maxRecDepth 10000 in
theorem scNone_m (n : Int) (va fu : List (List AV)) : AMut Try.prog 43 [.optr 0 0 0] (scH n va fu) 3 (.lit (.bool false)) (scH n va fu) 3 := by
  have hu := Try.underlying63
  have hp := Try.underlying37
  refine amut_of code_scope_Scope_none (by simp [fn_scope_Scope_none]) fun C hC => ?_
  refine walk4 ?_
  exact fin_m []

set_option maxRecDepth 10000 in
theorem scCells_m (n : Int) (va fu : List (List AV)) : AMut Try.prog 24 [.optr 0 0 0] (scH n va fu) 3 (i64A n) (scH n va fu) 3 := by
  have c0 := scNone_m n va fu
  refine amut_of code_scope_Scope_Cells (by simp [fn_scope_Scope_Cells]) fun C hC => ?_
  refine walk4 ?_
  refine aw_reg (rrun4 ?_)
  refine r_callM [(0, 0), (1, 1), (2, 2)] c0 ?_
  refine rrun4 ?_
  refine rg_nil ⟨rfl, ?_⟩
  refine walk4 ?_
  exact fin_m []
-- MORE
set_option maxRecDepth 10000 in
theorem scPut_new (n : Int) (va fu va' : List (List AV)) (s : ByteArray) (hs : s.size ≤ maxN) (b : Nat) (A : Arr) (k : Int) (hsz : ACalls Try.prog 44 [.agg (arrV A)] (i64A k)) (h0 : mapGet s va = some none) (hv' : mapPut s (heldV b A k) va = va')
    (hn : 0 ≤ n ∧ n ≤ 1000000000) (hk : 0 ≤ k ∧ k ≤ 1000000000) :
    AMut Try.prog 21 [.optr 0 0 0, strA s, slotV b A] (scH n va fu) 3 (.tup []) (scH (n + (k - 0)) va' fu) 3 := by
  have c0 := scNone_m n va fu
  refine amut_of code_scope_Scope_Put (by simp [fn_scope_Scope_Put]) fun C hC => ?_
  refine walk4 ?_
  refine aw_reg (rrun4 ?_)
  refine r_callM [(0, 0), (1, 1), (2, 2)] c0 ?_
  refine rrun4 ?_
  refine rg_nil ⟨rfl, ?_⟩
  refine walk4 ?_
  exact fin_m []

set_option maxRecDepth 10000 in
theorem scPut_old (n : Int) (va fu va' : List (List AV)) (s : ByteArray) (hs : s.size ≤ maxN) (b : Nat) (A : Arr) (k : Int) (hsz : ACalls Try.prog 44 [.agg (arrV A)] (i64A k)) (b0 : Nat) (A0 : Arr) (k0 : Int) (h0 : mapGet s va = some (some (heldV b0 A0 k0))) (hv' : mapPut s (heldV b A k) va = va')
    (hn : 0 ≤ n ∧ n ≤ 1000000000) (hk : 0 ≤ k ∧ k ≤ 1000000000) (hk0 : 0 ≤ k0 ∧ k0 ≤ 1000000000) :
    AMut Try.prog 21 [.optr 0 0 0, strA s, slotV b A] (scH n va fu) 3 (.tup []) (scH (n + (k - k0)) va' fu) 3 := by
  have c0 := scNone_m n va fu
  refine amut_of code_scope_Scope_Put (by simp [fn_scope_Scope_Put]) fun C hC => ?_
  refine walk4 ?_
  refine aw_reg (rrun4 ?_)
  refine r_callM [(0, 0), (1, 1), (2, 2)] c0 ?_
  refine rrun4 ?_
  refine rg_nil ⟨rfl, ?_⟩
  refine walk4 ?_
  exact fin_m []

set_option maxRecDepth 10000 in
theorem scGet_yes (n : Int) (va fu : List (List AV)) (s : ByteArray) (b0 : Nat) (A0 : Arr) (k0 : Int) (h0 : mapGet s va = some (some (heldV b0 A0 k0))) :
    AMut Try.prog 17 [.optr 0 0 0, strA s] (scH n va fu) 3 (.tup [slotV b0 A0, .lit (.bool true)]) (scH n va fu) 3 := by
  have c0 := scNone_m n va fu
  refine amut_of code_scope_Scope_Get (by simp [fn_scope_Scope_Get]) fun C hC => ?_
  refine walk4 ?_
  refine aw_reg (rrun4 ?_)
  refine r_callM [(0, 0), (1, 1), (2, 2)] c0 ?_
  refine rrun4 ?_
  refine rg_nil ⟨rfl, ?_⟩
  refine walk4 ?_
  exact fin_m []

set_option maxRecDepth 10000 in
theorem scGet_no (n : Int) (va fu : List (List AV)) (s : ByteArray) (h0 : mapGet s va = some none) :
    AMut Try.prog 17 [.optr 0 0 0, strA s] (scH n va fu) 3 (.tup [.agg [.lit (.int .u64 0), .lit (.int .u64 0), .lit (.slice none 0 0), .lit (.slice none 0 0)], .lit (.bool false)]) (scH n va fu) 3 := by
  have c0 := scNone_m n va fu
  refine amut_of code_scope_Scope_Get (by simp [fn_scope_Scope_Get]) fun C hC => ?_
  refine walk4 ?_
  refine aw_reg (rrun4 ?_)
  refine r_callM [(0, 0), (1, 1), (2, 2)] c0 ?_
  refine rrun4 ?_
  refine rg_nil ⟨rfl, ?_⟩
  refine walk4 ?_
  exact fin_m []
-- NAMES
set_option maxRecDepth 10000 in
theorem scNames_m (n : Int) (va fu : List (List AV)) (hva : ∀ e ∈ va, ∃ s v, e = [.lit (.string s), v]) (hfu : ∀ e ∈ fu, ∃ s v, e = [.lit (.string s), v]) (hnv : va.length ≤ 1000) (hnf : fu.length ≤ 1000) :
    AMut Try.prog 23 [.optr 0 0 0] (scH n va fu) 3 (.tup [.own 3, .own 4])
      ([(0, some (scB n)), (1, some (mpB va)), (2, some (mpB fu)), (3, some ⟨true, false, 9, 1, sortedRow va⟩), (4, some ⟨true, false, 9, 1, sortedRow fu⟩)]) 5 := by
  have c0 := scNone_m n va fu
  have c1 := rising_held_M hva hnv
  have c2 := rising_fun_M hfu hnf
  refine amut_of code_scope_Scope_Names (by simp [fn_scope_Scope_Names]) fun C hC => ?_
  refine walk4 ?_
  refine aw_reg (rrun4 ?_)
  refine r_callM [(0, 0), (1, 1), (2, 2)] c0 ?_
  refine rrun4 ?_
  refine rg_nil ⟨rfl, ?_⟩
  refine walk4 ?_
  refine aw_reg (rrun4 ?_)
  refine r_callN [(1, 0)] c1 ?_
  refine rrun4 ?_
  refine r_callN [(2, 0)] c2 ?_
  refine rrun4 ?_
  refine rg_nil ⟨rfl, ?_⟩
  refine walk4 ?_
  exact fin_m []

set_option maxRecDepth 10000 in
theorem scDrop_10 (n : Int) (va fu va' : List (List AV)) (s : ByteArray) (b0 : Nat) (A0 : Arr) (k0 : Int) (h0 : mapGet s va = some (some (heldV b0 A0 k0))) (hv' : mapDel s va = va') (h1 : mapGet s fu = some none) (hf' : mapDel s fu = fu) (hn : 0 ≤ n ∧ n ≤ 1000000000) (hk0 : 0 ≤ k0 ∧ k0 ≤ 1000000000) :
    AMut Try.prog 25 [.optr 0 0 0, strA s] (scH n va fu) 3 (.lit (.bool true)) (scH (n - k0) va' fu) 3 := by
  have c0 := scNone_m n va fu
  refine amut_of code_scope_Scope_Drop (by simp [fn_scope_Scope_Drop]) fun C hC => ?_
  refine walk4 ?_
  refine aw_reg (rrun4 ?_)
  refine r_callM [(0, 0), (1, 1), (2, 2)] c0 ?_
  refine rrun4 ?_
  refine rg_nil ⟨rfl, ?_⟩
  refine walk4 ?_
  exact fin_m []
end Go.Proofs.Ytmbigpjokpdnkaa
