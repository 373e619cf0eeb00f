/-
  NARROWER THAN 'FOR EVERY INPUT', by the rows' own cells (each row's printed sentence says how): OperLines: loops · JoinCatenates: loops · JoinBrackets: loops · OperCells: loops · OperInts: loops · JoinBlind: loops · TurnRotates: loops · TurnBack: loops · TurnReverses: loops · TurnPermutes: loops · TurnBlind: loops.
  DERIVED. THE GIVEN ROWS OF THIS SEAT. 11 by the template 'for every input the law returns true; each argument reads behind the call as it read before'; 0 by the template 'total and deterministic' (their statements: YtfnilbkahkbljaaTotals.lean).
  GIVEN WITH THE SEED: the statements are not yours to turn. If you find one false, say at which input.
  Laid BY PROGRAM, IN A SANDBOX (cutbox-rows.mjs): the forced cells as the released guide's own fill.sh prints them over the translation aacf89051ecb2539… (all of the seat's roots in one cut). By AI agents, Wed Nov 11 2026. No macro, syntax, notation, axiom, sorry.
-/
import Derived.Test.YtfnilbkahkbljaaChecked
import GoSem.Claim
import GoSem.ClaimJoined
import GoSem.ClaimMapViews
import Derived.JoinedTies
import Derived.KernelRfl
namespace Go.Proofs.Ytfnilbkahkbljaa
/- THE CELL 'sum', in the pinned program and in every row, IS THE sha256 OF THE DUMP (.gsa) THAT YtfnilbkahkbljaaProg.lean LOADS. Nothing in Lean hashes anything: it is a label: what it is worth is what the hold of that sum in a sandbox is worth. -/
noncomputable def Try.pinned : Pinned := { name := "ytfnilbkahkbljaa", sum := "aacf89051ecb2539a9136bdb4817f101e54cb1a20e471bb07f8d5ad00acc95a1", checked := Try.checked }
namespace Rows
def none {H : Type} : Left H := { results := [], args := [] }

/-- 'scrimlaw26.OperLines': WHATEVER THE INPUT: true; the input reads as it did. -/
def operLinesSpec : ChangeSpec := { name := "operLines", fn := fun _ => fun
  | [d1, d2] => { results := [.lit (.bool true)], args := [d1, d2] }
  | _ => none }
def operLinesRow : OpenClaim := { program := "ytfnilbkahkbljaa", sum := "aacf89051ecb2539a9136bdb4817f101e54cb1a20e471bb07f8d5ad00acc95a1", func := "scrim/scrimlaw26.OperLines", spec := "operLines", unfollowed := true, recurses := true, loops := true, apart := false }
def OperLinesSaid : Prop := operLinesRow.holds Try.pinned (OpenSpec.ofChange operLinesSpec)

/-- ITS FALSE NEIGHBOUR: 'it returns false'. Refute it at one input. -/
def operLinesWrong : ChangeSpec := { name := "operLines", fn := fun _ => fun
  | [d1, d2] => { results := [.lit (.bool false)], args := [d1, d2] }
  | _ => none }
def OperLinesWrongFalsely : Prop := operLinesRow.holds Try.pinned (OpenSpec.ofChange operLinesWrong)

/-- 'scrimlaw12.JoinCatenates': WHATEVER THE INPUT: true; the input reads as it did. -/
def joinCatenatesSpec : ChangeSpec := { name := "joinCatenates", fn := fun _ => fun
  | [d1, d2, d3] => { results := [.lit (.bool true)], args := [d1, d2, d3] }
  | _ => none }
def joinCatenatesRow : OpenClaim := { program := "ytfnilbkahkbljaa", sum := "aacf89051ecb2539a9136bdb4817f101e54cb1a20e471bb07f8d5ad00acc95a1", func := "scrim/scrimlaw12.JoinCatenates", spec := "joinCatenates", unfollowed := true, recurses := true, loops := true, apart := false }
def JoinCatenatesSaid : Prop := joinCatenatesRow.holds Try.pinned (OpenSpec.ofChange joinCatenatesSpec)

/-- ITS FALSE NEIGHBOUR: 'it returns false'. Refute it at one input. -/
def joinCatenatesWrong : ChangeSpec := { name := "joinCatenates", fn := fun _ => fun
  | [d1, d2, d3] => { results := [.lit (.bool false)], args := [d1, d2, d3] }
  | _ => none }
def JoinCatenatesWrongFalsely : Prop := joinCatenatesRow.holds Try.pinned (OpenSpec.ofChange joinCatenatesWrong)

/-- 'scrimlaw12.JoinBrackets': WHATEVER THE INPUT: true; the input reads as it did. -/
def joinBracketsSpec : ChangeSpec := { name := "joinBrackets", fn := fun _ => fun
  | [d1, d2, d3] => { results := [.lit (.bool true)], args := [d1, d2, d3] }
  | _ => none }
def joinBracketsRow : OpenClaim := { program := "ytfnilbkahkbljaa", sum := "aacf89051ecb2539a9136bdb4817f101e54cb1a20e471bb07f8d5ad00acc95a1", func := "scrim/scrimlaw12.JoinBrackets", spec := "joinBrackets", unfollowed := true, recurses := true, loops := true, apart := false }
def JoinBracketsSaid : Prop := joinBracketsRow.holds Try.pinned (OpenSpec.ofChange joinBracketsSpec)

/-- ITS FALSE NEIGHBOUR: 'it returns false'. Refute it at one input. -/
def joinBracketsWrong : ChangeSpec := { name := "joinBrackets", fn := fun _ => fun
  | [d1, d2, d3] => { results := [.lit (.bool false)], args := [d1, d2, d3] }
  | _ => none }
def JoinBracketsWrongFalsely : Prop := joinBracketsRow.holds Try.pinned (OpenSpec.ofChange joinBracketsWrong)

/-- 'scrimlaw26.OperCells': WHATEVER THE INPUT: true; the input reads as it did. -/
def operCellsSpec : ChangeSpec := { name := "operCells", fn := fun _ => fun
  | [d1, d2] => { results := [.lit (.bool true)], args := [d1, d2] }
  | _ => none }
def operCellsRow : OpenClaim := { program := "ytfnilbkahkbljaa", sum := "aacf89051ecb2539a9136bdb4817f101e54cb1a20e471bb07f8d5ad00acc95a1", func := "scrim/scrimlaw26.OperCells", spec := "operCells", unfollowed := true, recurses := true, loops := true, apart := false }
def OperCellsSaid : Prop := operCellsRow.holds Try.pinned (OpenSpec.ofChange operCellsSpec)

/-- ITS FALSE NEIGHBOUR: 'it returns false'. Refute it at one input. -/
def operCellsWrong : ChangeSpec := { name := "operCells", fn := fun _ => fun
  | [d1, d2] => { results := [.lit (.bool false)], args := [d1, d2] }
  | _ => none }
def OperCellsWrongFalsely : Prop := operCellsRow.holds Try.pinned (OpenSpec.ofChange operCellsWrong)

/-- 'scrimlaw26.OperInts': WHATEVER THE INPUT: true; the input reads as it did. -/
def operIntsSpec : ChangeSpec := { name := "operInts", fn := fun _ => fun
  | [d] => { results := [.lit (.bool true)], args := [d] }
  | _ => none }
def operIntsRow : OpenClaim := { program := "ytfnilbkahkbljaa", sum := "aacf89051ecb2539a9136bdb4817f101e54cb1a20e471bb07f8d5ad00acc95a1", func := "scrim/scrimlaw26.OperInts", spec := "operInts", unfollowed := true, recurses := true, loops := true, apart := false }
def OperIntsSaid : Prop := operIntsRow.holds Try.pinned (OpenSpec.ofChange operIntsSpec)

/-- ITS FALSE NEIGHBOUR: 'it returns false'. Refute it at one input. -/
def operIntsWrong : ChangeSpec := { name := "operInts", fn := fun _ => fun
  | [d] => { results := [.lit (.bool false)], args := [d] }
  | _ => none }
def OperIntsWrongFalsely : Prop := operIntsRow.holds Try.pinned (OpenSpec.ofChange operIntsWrong)

/-- 'scrimlaw12.JoinBlind': WHATEVER THE INPUT: true; the input reads as it did. -/
def joinBlindSpec : ChangeSpec := { name := "joinBlind", fn := fun _ => fun
  | [d1, d2, d3, d4, d5, d6] => { results := [.lit (.bool true)], args := [d1, d2, d3, d4, d5, d6] }
  | _ => none }
def joinBlindRow : OpenClaim := { program := "ytfnilbkahkbljaa", sum := "aacf89051ecb2539a9136bdb4817f101e54cb1a20e471bb07f8d5ad00acc95a1", func := "scrim/scrimlaw12.JoinBlind", spec := "joinBlind", unfollowed := true, recurses := true, loops := true, apart := false }
def JoinBlindSaid : Prop := joinBlindRow.holds Try.pinned (OpenSpec.ofChange joinBlindSpec)

/-- ITS FALSE NEIGHBOUR: 'it returns false'. Refute it at one input. -/
def joinBlindWrong : ChangeSpec := { name := "joinBlind", fn := fun _ => fun
  | [d1, d2, d3, d4, d5, d6] => { results := [.lit (.bool false)], args := [d1, d2, d3, d4, d5, d6] }
  | _ => none }
def JoinBlindWrongFalsely : Prop := joinBlindRow.holds Try.pinned (OpenSpec.ofChange joinBlindWrong)

/-- 'scrimlaw14.TurnRotates': WHATEVER THE INPUT: true; the input reads as it did. -/
def turnRotatesSpec : ChangeSpec := { name := "turnRotates", fn := fun _ => fun
  | [d1, d2, d3] => { results := [.lit (.bool true)], args := [d1, d2, d3] }
  | _ => none }
def turnRotatesRow : OpenClaim := { program := "ytfnilbkahkbljaa", sum := "aacf89051ecb2539a9136bdb4817f101e54cb1a20e471bb07f8d5ad00acc95a1", func := "scrim/scrimlaw14.TurnRotates", spec := "turnRotates", unfollowed := true, recurses := true, loops := true, apart := false }
def TurnRotatesSaid : Prop := turnRotatesRow.holds Try.pinned (OpenSpec.ofChange turnRotatesSpec)

/-- ITS FALSE NEIGHBOUR: 'it returns false'. Refute it at one input. -/
def turnRotatesWrong : ChangeSpec := { name := "turnRotates", fn := fun _ => fun
  | [d1, d2, d3] => { results := [.lit (.bool false)], args := [d1, d2, d3] }
  | _ => none }
def TurnRotatesWrongFalsely : Prop := turnRotatesRow.holds Try.pinned (OpenSpec.ofChange turnRotatesWrong)

/-- 'scrimlaw14.TurnBack': WHATEVER THE INPUT: true; the input reads as it did. -/
def turnBackSpec : ChangeSpec := { name := "turnBack", fn := fun _ => fun
  | [d1, d2, d3, d4] => { results := [.lit (.bool true)], args := [d1, d2, d3, d4] }
  | _ => none }
def turnBackRow : OpenClaim := { program := "ytfnilbkahkbljaa", sum := "aacf89051ecb2539a9136bdb4817f101e54cb1a20e471bb07f8d5ad00acc95a1", func := "scrim/scrimlaw14.TurnBack", spec := "turnBack", unfollowed := true, recurses := true, loops := true, apart := false }
def TurnBackSaid : Prop := turnBackRow.holds Try.pinned (OpenSpec.ofChange turnBackSpec)

/-- ITS FALSE NEIGHBOUR: 'it returns false'. Refute it at one input. -/
def turnBackWrong : ChangeSpec := { name := "turnBack", fn := fun _ => fun
  | [d1, d2, d3, d4] => { results := [.lit (.bool false)], args := [d1, d2, d3, d4] }
  | _ => none }
def TurnBackWrongFalsely : Prop := turnBackRow.holds Try.pinned (OpenSpec.ofChange turnBackWrong)

/-- 'scrimlaw14.TurnReverses': WHATEVER THE INPUT: true; the input reads as it did. -/
def turnReversesSpec : ChangeSpec := { name := "turnReverses", fn := fun _ => fun
  | [d1, d2] => { results := [.lit (.bool true)], args := [d1, d2] }
  | _ => none }
def turnReversesRow : OpenClaim := { program := "ytfnilbkahkbljaa", sum := "aacf89051ecb2539a9136bdb4817f101e54cb1a20e471bb07f8d5ad00acc95a1", func := "scrim/scrimlaw14.TurnReverses", spec := "turnReverses", unfollowed := true, recurses := true, loops := true, apart := false }
def TurnReversesSaid : Prop := turnReversesRow.holds Try.pinned (OpenSpec.ofChange turnReversesSpec)

/-- ITS FALSE NEIGHBOUR: 'it returns false'. Refute it at one input. -/
def turnReversesWrong : ChangeSpec := { name := "turnReverses", fn := fun _ => fun
  | [d1, d2] => { results := [.lit (.bool false)], args := [d1, d2] }
  | _ => none }
def TurnReversesWrongFalsely : Prop := turnReversesRow.holds Try.pinned (OpenSpec.ofChange turnReversesWrong)

/-- 'scrimlaw14.TurnPermutes': WHATEVER THE INPUT: true; the input reads as it did. -/
def turnPermutesSpec : ChangeSpec := { name := "turnPermutes", fn := fun _ => fun
  | [d1, d2] => { results := [.lit (.bool true)], args := [d1, d2] }
  | _ => none }
def turnPermutesRow : OpenClaim := { program := "ytfnilbkahkbljaa", sum := "aacf89051ecb2539a9136bdb4817f101e54cb1a20e471bb07f8d5ad00acc95a1", func := "scrim/scrimlaw14.TurnPermutes", spec := "turnPermutes", unfollowed := true, recurses := true, loops := true, apart := false }
def TurnPermutesSaid : Prop := turnPermutesRow.holds Try.pinned (OpenSpec.ofChange turnPermutesSpec)

/-- ITS FALSE NEIGHBOUR: 'it returns false'. Refute it at one input. -/
def turnPermutesWrong : ChangeSpec := { name := "turnPermutes", fn := fun _ => fun
  | [d1, d2] => { results := [.lit (.bool false)], args := [d1, d2] }
  | _ => none }
def TurnPermutesWrongFalsely : Prop := turnPermutesRow.holds Try.pinned (OpenSpec.ofChange turnPermutesWrong)

/-- 'scrimlaw14.TurnBlind': WHATEVER THE INPUT: true; the input reads as it did. -/
def turnBlindSpec : ChangeSpec := { name := "turnBlind", fn := fun _ => fun
  | [d1, d2, d3, d4, d5, d6] => { results := [.lit (.bool true)], args := [d1, d2, d3, d4, d5, d6] }
  | _ => none }
def turnBlindRow : OpenClaim := { program := "ytfnilbkahkbljaa", sum := "aacf89051ecb2539a9136bdb4817f101e54cb1a20e471bb07f8d5ad00acc95a1", func := "scrim/scrimlaw14.TurnBlind", spec := "turnBlind", unfollowed := true, recurses := true, loops := true, apart := false }
def TurnBlindSaid : Prop := turnBlindRow.holds Try.pinned (OpenSpec.ofChange turnBlindSpec)

/-- ITS FALSE NEIGHBOUR: 'it returns false'. Refute it at one input. -/
def turnBlindWrong : ChangeSpec := { name := "turnBlind", fn := fun _ => fun
  | [d1, d2, d3, d4, d5, d6] => { results := [.lit (.bool false)], args := [d1, d2, d3, d4, d5, d6] }
  | _ => none }
def TurnBlindWrongFalsely : Prop := turnBlindRow.holds Try.pinned (OpenSpec.ofChange turnBlindWrong)

/- THE SECOND FORM. 'bulk': how many values and letters a reading holds, each counted each time it is reached (what is shared counts as often as it is met; a slice's spare places count too). A statement '..UptoSaid' is the law's where the arguments, and the package variables that the reading takes, are together of bulk at most 1048576: NARROWER than '..Said'. Prove '..Said' where nothing that the law and all that it calls make is longer than what came in: it says more and counts as full. Else prove '..UptoSaid'. A law counts once. -/
mutual
def uptoBulk {H : Type} : DataW H → Nat
  | .lit (.string bytes) => bytes.length + 1
  | .lit _ => 1
  | .nil => 1
  | .ptr d => uptoBulk d + 1
  | .slice elems spare => uptoBulkAll elems + uptoBulkAll spare + 1
  | .agg parts => uptoBulkAll parts + 1
  | .iface _ d => uptoBulk d + 1
  | .map entries => uptoBulkEntries entries + 1
  | .held _ => 1
def uptoBulkAll {H : Type} : List (DataW H) → Nat
  | [] => 0
  | d :: r => uptoBulk d + uptoBulkAll r
def uptoBulkEntries {H : Type} : List (Lit × DataW H) → Nat
  | [] => 0
  | x :: r => uptoBulkEntry x + uptoBulkEntries r
def uptoBulkEntry {H : Type} : Lit × DataW H → Nat
  | (.string bytes, d) => bytes.length + uptoBulk d + 1
  | (_, d) => uptoBulk d + 1
 end
def uptoSmall : (H : Type) → List (DataW H) → Bool := fun _ ds => decide (uptoBulkAll ds ≤ 1048576)
def OpenSpec.upto (s : _root_.Go.ChangeSpec) : _root_.Go.OpenSpec := { _root_.Go.OpenSpec.ofChange s with cond := some uptoSmall }

/-- 'scrimlaw26.OperLines', WHERE WHAT IT READS IS OF BULK AT MOST 1048576: true; the input reads as it did. -/
def operLinesUptoRow : OpenClaim := { program := "ytfnilbkahkbljaa", sum := "aacf89051ecb2539a9136bdb4817f101e54cb1a20e471bb07f8d5ad00acc95a1", func := "scrim/scrimlaw26.OperLines", spec := "operLines", unfollowed := true, recurses := true, loops := true, apart := false, narrowed := true }
def OperLinesUptoSaid : Prop := operLinesUptoRow.holds Try.pinned (OpenSpec.upto operLinesSpec)

/-- 'scrimlaw12.JoinCatenates', WHERE WHAT IT READS IS OF BULK AT MOST 1048576: true; the input reads as it did. -/
def joinCatenatesUptoRow : OpenClaim := { program := "ytfnilbkahkbljaa", sum := "aacf89051ecb2539a9136bdb4817f101e54cb1a20e471bb07f8d5ad00acc95a1", func := "scrim/scrimlaw12.JoinCatenates", spec := "joinCatenates", unfollowed := true, recurses := true, loops := true, apart := false, narrowed := true }
def JoinCatenatesUptoSaid : Prop := joinCatenatesUptoRow.holds Try.pinned (OpenSpec.upto joinCatenatesSpec)

/-- 'scrimlaw12.JoinBrackets', WHERE WHAT IT READS IS OF BULK AT MOST 1048576: true; the input reads as it did. -/
def joinBracketsUptoRow : OpenClaim := { program := "ytfnilbkahkbljaa", sum := "aacf89051ecb2539a9136bdb4817f101e54cb1a20e471bb07f8d5ad00acc95a1", func := "scrim/scrimlaw12.JoinBrackets", spec := "joinBrackets", unfollowed := true, recurses := true, loops := true, apart := false, narrowed := true }
def JoinBracketsUptoSaid : Prop := joinBracketsUptoRow.holds Try.pinned (OpenSpec.upto joinBracketsSpec)

/-- 'scrimlaw26.OperCells', WHERE WHAT IT READS IS OF BULK AT MOST 1048576: true; the input reads as it did. -/
def operCellsUptoRow : OpenClaim := { program := "ytfnilbkahkbljaa", sum := "aacf89051ecb2539a9136bdb4817f101e54cb1a20e471bb07f8d5ad00acc95a1", func := "scrim/scrimlaw26.OperCells", spec := "operCells", unfollowed := true, recurses := true, loops := true, apart := false, narrowed := true }
def OperCellsUptoSaid : Prop := operCellsUptoRow.holds Try.pinned (OpenSpec.upto operCellsSpec)

/-- 'scrimlaw26.OperInts', WHERE WHAT IT READS IS OF BULK AT MOST 1048576: true; the input reads as it did. -/
def operIntsUptoRow : OpenClaim := { program := "ytfnilbkahkbljaa", sum := "aacf89051ecb2539a9136bdb4817f101e54cb1a20e471bb07f8d5ad00acc95a1", func := "scrim/scrimlaw26.OperInts", spec := "operInts", unfollowed := true, recurses := true, loops := true, apart := false, narrowed := true }
def OperIntsUptoSaid : Prop := operIntsUptoRow.holds Try.pinned (OpenSpec.upto operIntsSpec)

/-- 'scrimlaw12.JoinBlind', WHERE WHAT IT READS IS OF BULK AT MOST 1048576: true; the input reads as it did. -/
def joinBlindUptoRow : OpenClaim := { program := "ytfnilbkahkbljaa", sum := "aacf89051ecb2539a9136bdb4817f101e54cb1a20e471bb07f8d5ad00acc95a1", func := "scrim/scrimlaw12.JoinBlind", spec := "joinBlind", unfollowed := true, recurses := true, loops := true, apart := false, narrowed := true }
def JoinBlindUptoSaid : Prop := joinBlindUptoRow.holds Try.pinned (OpenSpec.upto joinBlindSpec)

/-- 'scrimlaw14.TurnRotates', WHERE WHAT IT READS IS OF BULK AT MOST 1048576: true; the input reads as it did. -/
def turnRotatesUptoRow : OpenClaim := { program := "ytfnilbkahkbljaa", sum := "aacf89051ecb2539a9136bdb4817f101e54cb1a20e471bb07f8d5ad00acc95a1", func := "scrim/scrimlaw14.TurnRotates", spec := "turnRotates", unfollowed := true, recurses := true, loops := true, apart := false, narrowed := true }
def TurnRotatesUptoSaid : Prop := turnRotatesUptoRow.holds Try.pinned (OpenSpec.upto turnRotatesSpec)

/-- 'scrimlaw14.TurnBack', WHERE WHAT IT READS IS OF BULK AT MOST 1048576: true; the input reads as it did. -/
def turnBackUptoRow : OpenClaim := { program := "ytfnilbkahkbljaa", sum := "aacf89051ecb2539a9136bdb4817f101e54cb1a20e471bb07f8d5ad00acc95a1", func := "scrim/scrimlaw14.TurnBack", spec := "turnBack", unfollowed := true, recurses := true, loops := true, apart := false, narrowed := true }
def TurnBackUptoSaid : Prop := turnBackUptoRow.holds Try.pinned (OpenSpec.upto turnBackSpec)

/-- 'scrimlaw14.TurnReverses', WHERE WHAT IT READS IS OF BULK AT MOST 1048576: true; the input reads as it did. -/
def turnReversesUptoRow : OpenClaim := { program := "ytfnilbkahkbljaa", sum := "aacf89051ecb2539a9136bdb4817f101e54cb1a20e471bb07f8d5ad00acc95a1", func := "scrim/scrimlaw14.TurnReverses", spec := "turnReverses", unfollowed := true, recurses := true, loops := true, apart := false, narrowed := true }
def TurnReversesUptoSaid : Prop := turnReversesUptoRow.holds Try.pinned (OpenSpec.upto turnReversesSpec)

/-- 'scrimlaw14.TurnPermutes', WHERE WHAT IT READS IS OF BULK AT MOST 1048576: true; the input reads as it did. -/
def turnPermutesUptoRow : OpenClaim := { program := "ytfnilbkahkbljaa", sum := "aacf89051ecb2539a9136bdb4817f101e54cb1a20e471bb07f8d5ad00acc95a1", func := "scrim/scrimlaw14.TurnPermutes", spec := "turnPermutes", unfollowed := true, recurses := true, loops := true, apart := false, narrowed := true }
def TurnPermutesUptoSaid : Prop := turnPermutesUptoRow.holds Try.pinned (OpenSpec.upto turnPermutesSpec)

/-- 'scrimlaw14.TurnBlind', WHERE WHAT IT READS IS OF BULK AT MOST 1048576: true; the input reads as it did. -/
def turnBlindUptoRow : OpenClaim := { program := "ytfnilbkahkbljaa", sum := "aacf89051ecb2539a9136bdb4817f101e54cb1a20e471bb07f8d5ad00acc95a1", func := "scrim/scrimlaw14.TurnBlind", spec := "turnBlind", unfollowed := true, recurses := true, loops := true, apart := false, narrowed := true }
def TurnBlindUptoSaid : Prop := turnBlindUptoRow.holds Try.pinned (OpenSpec.upto turnBlindSpec)

end Rows
end Go.Proofs.Ytfnilbkahkbljaa
