/-
  NARROWER THAN 'FOR EVERY INPUT', by the rows' own cells (each row's printed sentence says how): ScopeBlind: loops · ScopePlays: loops · ScopeNone: loops · ScopeMay: loops.
  DERIVED. THE GIVEN ROWS OF THIS SEAT. 4 by the template 'for every input the law returns true; each argument reads behind the call as it read before'; 0 by the template 'total and deterministic' (their statements: YtmbigpjokpdnkaaTotals.lean).
  GIVEN WITH THE SEED: the statements are not yours to turn. If you find one false, say at which input.
  Laid BY PROGRAM, IN A SANDBOX (cutbox-rows.mjs): the forced cells as the released guide's own fill.sh prints them over the translation d3992d6d1249c630… (all of the seat's roots in one cut). By AI agents, Wed Nov 11 2026. No macro, syntax, notation, axiom, sorry.
-/
import Derived.Test.YtmbigpjokpdnkaaChecked
import GoSem.Claim
import GoSem.ClaimJoined
import GoSem.ClaimMapViews
import Derived.JoinedTies
import Derived.KernelRfl
namespace Go.Proofs.Ytmbigpjokpdnkaa
/- THE CELL 'sum', in the pinned program and in every row, IS THE sha256 OF THE DUMP (.gsa) THAT YtmbigpjokpdnkaaProg.lean LOADS. Nothing in Lean hashes anything: it is a label: what it is worth is what the hold of that sum in a sandbox is worth. -/
noncomputable def Try.pinned : Pinned := { name := "ytmbigpjokpdnkaa", sum := "d3992d6d1249c630bb5fde69bd5be3a79c809a10ea8d71186de4a23764aee16a", checked := Try.checked }
namespace Rows
def none {H : Type} : Left H := { results := [], args := [] }

/-- 'scrimlaw24.ScopeBlind': WHATEVER THE INPUT: true; the input reads as it did. -/
def scopeBlindSpec : ChangeSpec := { name := "scopeBlind", fn := fun _ => fun
  | [d1, d2, d3, d4, d5] => { results := [.lit (.bool true)], args := [d1, d2, d3, d4, d5] }
  | _ => none }
def scopeBlindRow : OpenClaim := { program := "ytmbigpjokpdnkaa", sum := "d3992d6d1249c630bb5fde69bd5be3a79c809a10ea8d71186de4a23764aee16a", func := "scrim/scrimlaw24.ScopeBlind", spec := "scopeBlind", recurses := true, loops := true, apart := false }
def ScopeBlindSaid : Prop := scopeBlindRow.holds Try.pinned (OpenSpec.ofChange scopeBlindSpec)

/-- ITS FALSE NEIGHBOUR: 'it returns false'. Refute it at one input. -/
def scopeBlindWrong : ChangeSpec := { name := "scopeBlind", fn := fun _ => fun
  | [d1, d2, d3, d4, d5] => { results := [.lit (.bool false)], args := [d1, d2, d3, d4, d5] }
  | _ => none }
def ScopeBlindWrongFalsely : Prop := scopeBlindRow.holds Try.pinned (OpenSpec.ofChange scopeBlindWrong)

/-- 'scrimlaw24.ScopePlays': WHATEVER THE INPUT: true; the input reads as it did. -/
def scopePlaysSpec : ChangeSpec := { name := "scopePlays", fn := fun _ => fun
  | [d1, d2] => { results := [.lit (.bool true)], args := [d1, d2] }
  | _ => none }
def scopePlaysRow : OpenClaim := { program := "ytmbigpjokpdnkaa", sum := "d3992d6d1249c630bb5fde69bd5be3a79c809a10ea8d71186de4a23764aee16a", func := "scrim/scrimlaw24.ScopePlays", spec := "scopePlays", recurses := true, loops := true, apart := false }
def ScopePlaysSaid : Prop := scopePlaysRow.holds Try.pinned (OpenSpec.ofChange scopePlaysSpec)

/-- ITS FALSE NEIGHBOUR: 'it returns false'. Refute it at one input. -/
def scopePlaysWrong : ChangeSpec := { name := "scopePlays", fn := fun _ => fun
  | [d1, d2] => { results := [.lit (.bool false)], args := [d1, d2] }
  | _ => none }
def ScopePlaysWrongFalsely : Prop := scopePlaysRow.holds Try.pinned (OpenSpec.ofChange scopePlaysWrong)

/-- 'scrimlaw24.ScopeNone': WHATEVER THE INPUT: true; the input reads as it did. -/
def scopeNoneSpec : ChangeSpec := { name := "scopeNone", fn := fun _ => fun
  | [d] => { results := [.lit (.bool true)], args := [d] }
  | _ => none }
def scopeNoneRow : OpenClaim := { program := "ytmbigpjokpdnkaa", sum := "d3992d6d1249c630bb5fde69bd5be3a79c809a10ea8d71186de4a23764aee16a", func := "scrim/scrimlaw24.ScopeNone", spec := "scopeNone", recurses := true, loops := true, apart := false }
def ScopeNoneSaid : Prop := scopeNoneRow.holds Try.pinned (OpenSpec.ofChange scopeNoneSpec)

/-- ITS FALSE NEIGHBOUR: 'it returns false'. Refute it at one input. -/
def scopeNoneWrong : ChangeSpec := { name := "scopeNone", fn := fun _ => fun
  | [d] => { results := [.lit (.bool false)], args := [d] }
  | _ => none }
def ScopeNoneWrongFalsely : Prop := scopeNoneRow.holds Try.pinned (OpenSpec.ofChange scopeNoneWrong)

/-- 'scrimlaw24.ScopeMay': WHATEVER THE INPUT: true; the input reads as it did. -/
def scopeMaySpec : ChangeSpec := { name := "scopeMay", fn := fun _ => fun
  | [d1, d2, d3, d4, d5] => { results := [.lit (.bool true)], args := [d1, d2, d3, d4, d5] }
  | _ => none }
def scopeMayRow : OpenClaim := { program := "ytmbigpjokpdnkaa", sum := "d3992d6d1249c630bb5fde69bd5be3a79c809a10ea8d71186de4a23764aee16a", func := "scrim/scrimlaw24.ScopeMay", spec := "scopeMay", recurses := true, loops := true, apart := false }
def ScopeMaySaid : Prop := scopeMayRow.holds Try.pinned (OpenSpec.ofChange scopeMaySpec)

/-- ITS FALSE NEIGHBOUR: 'it returns false'. Refute it at one input. -/
def scopeMayWrong : ChangeSpec := { name := "scopeMay", fn := fun _ => fun
  | [d1, d2, d3, d4, d5] => { results := [.lit (.bool false)], args := [d1, d2, d3, d4, d5] }
  | _ => none }
def ScopeMayWrongFalsely : Prop := scopeMayRow.holds Try.pinned (OpenSpec.ofChange scopeMayWrong)

/- THE SECOND FORM. 'bulk': how many values and letters a reading holds, each counted each time it is reached (what is shared counts as often as it is met; a slice's spare places count too). A statement '..UptoSaid' is the law's where the arguments, and the package variables that the reading takes, are together of bulk at most 1048576: NARROWER than '..Said'. Prove '..Said' where nothing that the law and all that it calls make is longer than what came in: it says more and counts as full. Else prove '..UptoSaid'. A law counts once. -/
mutual
def uptoBulk {H : Type} : DataW H → Nat
  | .lit (.string bytes) => bytes.length + 1
  | .lit _ => 1
  | .nil => 1
  | .ptr d => uptoBulk d + 1
  | .slice elems spare => uptoBulkAll elems + uptoBulkAll spare + 1
  | .agg parts => uptoBulkAll parts + 1
  | .iface _ d => uptoBulk d + 1
  | .map entries => uptoBulkEntries entries + 1
  | .held _ => 1
def uptoBulkAll {H : Type} : List (DataW H) → Nat
  | [] => 0
  | d :: r => uptoBulk d + uptoBulkAll r
def uptoBulkEntries {H : Type} : List (Lit × DataW H) → Nat
  | [] => 0
  | x :: r => uptoBulkEntry x + uptoBulkEntries r
def uptoBulkEntry {H : Type} : Lit × DataW H → Nat
  | (.string bytes, d) => bytes.length + uptoBulk d + 1
  | (_, d) => uptoBulk d + 1
 end
def uptoSmall : (H : Type) → List (DataW H) → Bool := fun _ ds => decide (uptoBulkAll ds ≤ 1048576)
def OpenSpec.upto (s : _root_.Go.ChangeSpec) : _root_.Go.OpenSpec := { _root_.Go.OpenSpec.ofChange s with cond := some uptoSmall }

/-- 'scrimlaw24.ScopeBlind', WHERE WHAT IT READS IS OF BULK AT MOST 1048576: true; the input reads as it did. -/
def scopeBlindUptoRow : OpenClaim := { program := "ytmbigpjokpdnkaa", sum := "d3992d6d1249c630bb5fde69bd5be3a79c809a10ea8d71186de4a23764aee16a", func := "scrim/scrimlaw24.ScopeBlind", spec := "scopeBlind", recurses := true, loops := true, apart := false, narrowed := true }
def ScopeBlindUptoSaid : Prop := scopeBlindUptoRow.holds Try.pinned (OpenSpec.upto scopeBlindSpec)

/-- 'scrimlaw24.ScopePlays', WHERE WHAT IT READS IS OF BULK AT MOST 1048576: true; the input reads as it did. -/
def scopePlaysUptoRow : OpenClaim := { program := "ytmbigpjokpdnkaa", sum := "d3992d6d1249c630bb5fde69bd5be3a79c809a10ea8d71186de4a23764aee16a", func := "scrim/scrimlaw24.ScopePlays", spec := "scopePlays", recurses := true, loops := true, apart := false, narrowed := true }
def ScopePlaysUptoSaid : Prop := scopePlaysUptoRow.holds Try.pinned (OpenSpec.upto scopePlaysSpec)

/-- 'scrimlaw24.ScopeNone', WHERE WHAT IT READS IS OF BULK AT MOST 1048576: true; the input reads as it did. -/
def scopeNoneUptoRow : OpenClaim := { program := "ytmbigpjokpdnkaa", sum := "d3992d6d1249c630bb5fde69bd5be3a79c809a10ea8d71186de4a23764aee16a", func := "scrim/scrimlaw24.ScopeNone", spec := "scopeNone", recurses := true, loops := true, apart := false, narrowed := true }
def ScopeNoneUptoSaid : Prop := scopeNoneUptoRow.holds Try.pinned (OpenSpec.upto scopeNoneSpec)

/-- 'scrimlaw24.ScopeMay', WHERE WHAT IT READS IS OF BULK AT MOST 1048576: true; the input reads as it did. -/
def scopeMayUptoRow : OpenClaim := { program := "ytmbigpjokpdnkaa", sum := "d3992d6d1249c630bb5fde69bd5be3a79c809a10ea8d71186de4a23764aee16a", func := "scrim/scrimlaw24.ScopeMay", spec := "scopeMay", recurses := true, loops := true, apart := false, narrowed := true }
def ScopeMayUptoSaid : Prop := scopeMayUptoRow.holds Try.pinned (OpenSpec.upto scopeMaySpec)

end Rows
end Go.Proofs.Ytmbigpjokpdnkaa
