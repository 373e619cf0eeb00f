/-
  NARROWER THAN 'FOR EVERY INPUT', by the rows' own cells (each row's printed sentence says how): ViewHides: loops · ViewAlike: loops · ViewGoes: loops · ViewLess: loops · ViewCovers: loops.
  DERIVED. THE GIVEN ROWS OF THIS SEAT. 5 by the template 'for every input the law returns true; each argument reads behind the call as it read before'; 0 by the template 'total and deterministic' (their statements: YtkgnnnehmnoleaaTotals.lean).
  GIVEN WITH THE SEED: the statements are not yours to turn. If you find one false, say at which input.
  Laid BY PROGRAM, IN A SANDBOX (cutbox-rows.mjs): the forced cells as the released guide's own fill.sh prints them over the translation 737197de9d75cb74… (all of the seat's roots in one cut). By AI agents, Wed Nov 11 2026. No macro, syntax, notation, axiom, sorry.
-/
import Derived.Test.YtkgnnnehmnoleaaChecked
import GoSem.Claim
import GoSem.ClaimJoined
import GoSem.ClaimMapViews
import Derived.JoinedTies
import Derived.KernelRfl
namespace Go.Proofs.Ytkgnnnehmnoleaa
/- THE CELL 'sum', in the pinned program and in every row, IS THE sha256 OF THE DUMP (.gsa) THAT YtkgnnnehmnoleaaProg.lean LOADS. Nothing in Lean hashes anything: it is a label: what it is worth is what the hold of that sum in a sandbox is worth. -/
noncomputable def Try.pinned : Pinned := { name := "ytkgnnnehmnoleaa", sum := "737197de9d75cb744fd2c2bf32d4b2b86b625a9a8daffcfe0b280c0c41488e7b", checked := Try.checked }
namespace Rows
def none {H : Type} : Left H := { results := [], args := [] }

/-- 'scrimlaw09.ViewHides': WHATEVER THE INPUT: true; the input reads as it did. -/
def viewHidesSpec : ChangeSpec := { name := "viewHides", fn := fun _ => fun
  | [d1, d2, d3] => { results := [.lit (.bool true)], args := [d1, d2, d3] }
  | _ => none }
def viewHidesRow : OpenClaim := { program := "ytkgnnnehmnoleaa", sum := "737197de9d75cb744fd2c2bf32d4b2b86b625a9a8daffcfe0b280c0c41488e7b", func := "scrim/scrimlaw09.ViewHides", spec := "viewHides", unfollowed := true, recurses := true, loops := true, apart := false }
def ViewHidesSaid : Prop := viewHidesRow.holds Try.pinned (OpenSpec.ofChange viewHidesSpec)

/-- ITS FALSE NEIGHBOUR: 'it returns false'. Refute it at one input. -/
def viewHidesWrong : ChangeSpec := { name := "viewHides", fn := fun _ => fun
  | [d1, d2, d3] => { results := [.lit (.bool false)], args := [d1, d2, d3] }
  | _ => none }
def ViewHidesWrongFalsely : Prop := viewHidesRow.holds Try.pinned (OpenSpec.ofChange viewHidesWrong)

/-- 'scrimlaw09.ViewAlike': WHATEVER THE INPUT: true; the input reads as it did. -/
def viewAlikeSpec : ChangeSpec := { name := "viewAlike", fn := fun _ => fun
  | [d1, d2, d3] => { results := [.lit (.bool true)], args := [d1, d2, d3] }
  | _ => none }
def viewAlikeRow : OpenClaim := { program := "ytkgnnnehmnoleaa", sum := "737197de9d75cb744fd2c2bf32d4b2b86b625a9a8daffcfe0b280c0c41488e7b", func := "scrim/scrimlaw09.ViewAlike", spec := "viewAlike", unfollowed := true, recurses := true, loops := true, apart := false }
def ViewAlikeSaid : Prop := viewAlikeRow.holds Try.pinned (OpenSpec.ofChange viewAlikeSpec)

/-- ITS FALSE NEIGHBOUR: 'it returns false'. Refute it at one input. -/
def viewAlikeWrong : ChangeSpec := { name := "viewAlike", fn := fun _ => fun
  | [d1, d2, d3] => { results := [.lit (.bool false)], args := [d1, d2, d3] }
  | _ => none }
def ViewAlikeWrongFalsely : Prop := viewAlikeRow.holds Try.pinned (OpenSpec.ofChange viewAlikeWrong)

/-- 'scrimlaw09.ViewGoes': WHATEVER THE INPUT: true; the input reads as it did. -/
def viewGoesSpec : ChangeSpec := { name := "viewGoes", fn := fun _ => fun
  | [d1, d2, d3, d4] => { results := [.lit (.bool true)], args := [d1, d2, d3, d4] }
  | _ => none }
def viewGoesRow : OpenClaim := { program := "ytkgnnnehmnoleaa", sum := "737197de9d75cb744fd2c2bf32d4b2b86b625a9a8daffcfe0b280c0c41488e7b", func := "scrim/scrimlaw09.ViewGoes", spec := "viewGoes", unfollowed := true, recurses := true, loops := true, apart := false }
def ViewGoesSaid : Prop := viewGoesRow.holds Try.pinned (OpenSpec.ofChange viewGoesSpec)

/-- ITS FALSE NEIGHBOUR: 'it returns false'. Refute it at one input. -/
def viewGoesWrong : ChangeSpec := { name := "viewGoes", fn := fun _ => fun
  | [d1, d2, d3, d4] => { results := [.lit (.bool false)], args := [d1, d2, d3, d4] }
  | _ => none }
def ViewGoesWrongFalsely : Prop := viewGoesRow.holds Try.pinned (OpenSpec.ofChange viewGoesWrong)

/-- 'scrimlaw09.ViewLess': WHATEVER THE INPUT: true; the input reads as it did. -/
def viewLessSpec : ChangeSpec := { name := "viewLess", fn := fun _ => fun
  | [d1, d2, d3, d4] => { results := [.lit (.bool true)], args := [d1, d2, d3, d4] }
  | _ => none }
def viewLessRow : OpenClaim := { program := "ytkgnnnehmnoleaa", sum := "737197de9d75cb744fd2c2bf32d4b2b86b625a9a8daffcfe0b280c0c41488e7b", func := "scrim/scrimlaw09.ViewLess", spec := "viewLess", unfollowed := true, recurses := true, loops := true, apart := false }
def ViewLessSaid : Prop := viewLessRow.holds Try.pinned (OpenSpec.ofChange viewLessSpec)

/-- ITS FALSE NEIGHBOUR: 'it returns false'. Refute it at one input. -/
def viewLessWrong : ChangeSpec := { name := "viewLess", fn := fun _ => fun
  | [d1, d2, d3, d4] => { results := [.lit (.bool false)], args := [d1, d2, d3, d4] }
  | _ => none }
def ViewLessWrongFalsely : Prop := viewLessRow.holds Try.pinned (OpenSpec.ofChange viewLessWrong)

/-- 'scrimlaw09.ViewCovers': WHATEVER THE INPUT: true; the input reads as it did. -/
def viewCoversSpec : ChangeSpec := { name := "viewCovers", fn := fun _ => fun
  | [d1, d2, d3, d4] => { results := [.lit (.bool true)], args := [d1, d2, d3, d4] }
  | _ => none }
def viewCoversRow : OpenClaim := { program := "ytkgnnnehmnoleaa", sum := "737197de9d75cb744fd2c2bf32d4b2b86b625a9a8daffcfe0b280c0c41488e7b", func := "scrim/scrimlaw09.ViewCovers", spec := "viewCovers", unfollowed := true, recurses := true, loops := true, apart := false }
def ViewCoversSaid : Prop := viewCoversRow.holds Try.pinned (OpenSpec.ofChange viewCoversSpec)

/-- ITS FALSE NEIGHBOUR: 'it returns false'. Refute it at one input. -/
def viewCoversWrong : ChangeSpec := { name := "viewCovers", fn := fun _ => fun
  | [d1, d2, d3, d4] => { results := [.lit (.bool false)], args := [d1, d2, d3, d4] }
  | _ => none }
def ViewCoversWrongFalsely : Prop := viewCoversRow.holds Try.pinned (OpenSpec.ofChange viewCoversWrong)

/- THE SECOND FORM. 'bulk': how many values and letters a reading holds, each counted each time it is reached (what is shared counts as often as it is met; a slice's spare places count too). A statement '..UptoSaid' is the law's where the arguments, and the package variables that the reading takes, are together of bulk at most 1048576: NARROWER than '..Said'. Prove '..Said' where nothing that the law and all that it calls make is longer than what came in: it says more and counts as full. Else prove '..UptoSaid'. A law counts once. -/
mutual
def uptoBulk {H : Type} : DataW H → Nat
  | .lit (.string bytes) => bytes.length + 1
  | .lit _ => 1
  | .nil => 1
  | .ptr d => uptoBulk d + 1
  | .slice elems spare => uptoBulkAll elems + uptoBulkAll spare + 1
  | .agg parts => uptoBulkAll parts + 1
  | .iface _ d => uptoBulk d + 1
  | .map entries => uptoBulkEntries entries + 1
  | .held _ => 1
def uptoBulkAll {H : Type} : List (DataW H) → Nat
  | [] => 0
  | d :: r => uptoBulk d + uptoBulkAll r
def uptoBulkEntries {H : Type} : List (Lit × DataW H) → Nat
  | [] => 0
  | x :: r => uptoBulkEntry x + uptoBulkEntries r
def uptoBulkEntry {H : Type} : Lit × DataW H → Nat
  | (.string bytes, d) => bytes.length + uptoBulk d + 1
  | (_, d) => uptoBulk d + 1
 end
def uptoSmall : (H : Type) → List (DataW H) → Bool := fun _ ds => decide (uptoBulkAll ds ≤ 1048576)
def OpenSpec.upto (s : _root_.Go.ChangeSpec) : _root_.Go.OpenSpec := { _root_.Go.OpenSpec.ofChange s with cond := some uptoSmall }

/-- 'scrimlaw09.ViewHides', WHERE WHAT IT READS IS OF BULK AT MOST 1048576: true; the input reads as it did. -/
def viewHidesUptoRow : OpenClaim := { program := "ytkgnnnehmnoleaa", sum := "737197de9d75cb744fd2c2bf32d4b2b86b625a9a8daffcfe0b280c0c41488e7b", func := "scrim/scrimlaw09.ViewHides", spec := "viewHides", unfollowed := true, recurses := true, loops := true, apart := false, narrowed := true }
def ViewHidesUptoSaid : Prop := viewHidesUptoRow.holds Try.pinned (OpenSpec.upto viewHidesSpec)

/-- 'scrimlaw09.ViewAlike', WHERE WHAT IT READS IS OF BULK AT MOST 1048576: true; the input reads as it did. -/
def viewAlikeUptoRow : OpenClaim := { program := "ytkgnnnehmnoleaa", sum := "737197de9d75cb744fd2c2bf32d4b2b86b625a9a8daffcfe0b280c0c41488e7b", func := "scrim/scrimlaw09.ViewAlike", spec := "viewAlike", unfollowed := true, recurses := true, loops := true, apart := false, narrowed := true }
def ViewAlikeUptoSaid : Prop := viewAlikeUptoRow.holds Try.pinned (OpenSpec.upto viewAlikeSpec)

/-- 'scrimlaw09.ViewGoes', WHERE WHAT IT READS IS OF BULK AT MOST 1048576: true; the input reads as it did. -/
def viewGoesUptoRow : OpenClaim := { program := "ytkgnnnehmnoleaa", sum := "737197de9d75cb744fd2c2bf32d4b2b86b625a9a8daffcfe0b280c0c41488e7b", func := "scrim/scrimlaw09.ViewGoes", spec := "viewGoes", unfollowed := true, recurses := true, loops := true, apart := false, narrowed := true }
def ViewGoesUptoSaid : Prop := viewGoesUptoRow.holds Try.pinned (OpenSpec.upto viewGoesSpec)

/-- 'scrimlaw09.ViewLess', WHERE WHAT IT READS IS OF BULK AT MOST 1048576: true; the input reads as it did. -/
def viewLessUptoRow : OpenClaim := { program := "ytkgnnnehmnoleaa", sum := "737197de9d75cb744fd2c2bf32d4b2b86b625a9a8daffcfe0b280c0c41488e7b", func := "scrim/scrimlaw09.ViewLess", spec := "viewLess", unfollowed := true, recurses := true, loops := true, apart := false, narrowed := true }
def ViewLessUptoSaid : Prop := viewLessUptoRow.holds Try.pinned (OpenSpec.upto viewLessSpec)

/-- 'scrimlaw09.ViewCovers', WHERE WHAT IT READS IS OF BULK AT MOST 1048576: true; the input reads as it did. -/
def viewCoversUptoRow : OpenClaim := { program := "ytkgnnnehmnoleaa", sum := "737197de9d75cb744fd2c2bf32d4b2b86b625a9a8daffcfe0b280c0c41488e7b", func := "scrim/scrimlaw09.ViewCovers", spec := "viewCovers", unfollowed := true, recurses := true, loops := true, apart := false, narrowed := true }
def ViewCoversUptoSaid : Prop := viewCoversUptoRow.holds Try.pinned (OpenSpec.upto viewCoversSpec)

end Rows
end Go.Proofs.Ytkgnnnehmnoleaa
