/- scrimref09.Hide and scrimref09.Cell. -/
import Derived.Test.YtmbigpjokpdnkaaHideP
namespace Go.Proofs.Ytmbigpjokpdnkaa
set_option linter.unusedVariables false
open Go.RowKit

abbrev stRA (o : Nat) (A : Arr) (es : List (List AV)) (k : Nat) : St := ⟨[(1, labV o), (2, .optr 0 0 0), (4, .optr 1 0 0), (5, .optr 2 0 0), (6, .lit (.int .i64 k))],
  [(0, some ⟨false, false, 26, 3, [arrV A]⟩), (1, some ⟨false, false, 26, 3, [arrZ]⟩), (2, some ⟨false, false, 26, 3, [[labV A.s, .sl 1 (intsA .i64 A.shape), .own 3]]⟩), (3, some ⟨true, false, 85, 7, es⟩)], 4⟩
abbrev stRC (o : Nat) (A : Cell) (es : List (List AV)) (k : Nat) : St := ⟨[(1, labV o), (2, .optr 0 0 0), (4, .optr 1 0 0), (5, .own 2), (6, .lit (.int .i64 k))],
  [(0, some ⟨false, false, 85, 7, [cellV A]⟩), (1, some ⟨false, false, 85, 7, [cellZ]⟩), (2, some ⟨true, false, 26, 3, es⟩)], 3⟩

end Go.Proofs.Ytmbigpjokpdnkaa
