/- view.Hide and view.Cell. -/
import Derived.Test.YtmbigpjokpdnkaaHideQ
namespace Go.Proofs.Ytmbigpjokpdnkaa
set_option linter.unusedVariables false
open Go.RowKit

abbrev cellZ : List AV := [.lit (.int .u64 0), .lit (.int .i64 0), .lit (.bool false), .lit (.slice none 0 0), .lit (.slice none 0 0), .lit (.int .i64 0), .lit (.slice none 0 0)]
abbrev arrZ : List AV := [.lit (.int .u64 0), .lit (.slice none 0 0), .lit (.slice none 0 0)]

theorem sub_secretA : Sub (.agg [.lit (.int .u64 18446744073709551615), .lit (.slice none 0 0), .lit (.slice none 0 0)]) (.agg (arrV (.mk secretN [] []))) :=
  Sub.agg (SubL.cons (Sub.refl _) (SubL.cons (Sub.nil _) (SubL.cons (Sub.nil _) SubL.nil)))
theorem sub_secretC : Sub (.agg [.lit (.int .u64 18446744073709551615), .lit (.int .i64 0), .lit (.bool false), .lit (.slice none 0 0), .lit (.slice none 0 0), .lit (.int .i64 0), .lit (.slice none 0 0)]) (.agg (cellV (.mk secretN 0 ⟨false, [], []⟩ 0 []))) :=
  Sub.agg (SubL.cons (Sub.refl _) (SubL.cons (Sub.refl _) (SubL.cons (Sub.refl _) (SubL.cons (Sub.nil _) (SubL.cons (Sub.nil _) (SubL.cons (Sub.refl _) (SubL.cons (Sub.nil _) SubL.nil)))))))

abbrev stC (o : Nat) (A : Cell) (es : List (List AV)) (k : Nat) : St := ⟨[(1, labV o), (2, .optr 0 0 0), (4, .optr 1 0 0), (5, .own 2), (15, .sl 3 (A.ins.map arrR)), (16, .lit (.int .i64 A.ins.length)), (17, .lit (.int .i64 k))],
  [(0, some ⟨false, false, 85, 7, [cellV A]⟩), (1, some ⟨false, false, 85, 7, [cellZ]⟩), (2, some ⟨true, false, 26, 3, es⟩)], 3⟩

end Go.Proofs.Ytmbigpjokpdnkaa
