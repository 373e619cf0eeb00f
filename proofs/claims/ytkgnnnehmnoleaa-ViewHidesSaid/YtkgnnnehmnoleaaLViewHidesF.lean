/- ViewHides: what the form asks of the function's text. -/
import Derived.Test.YtkgnnnehmnoleaaRows
import Derived.ProofKit
import Derived.SizedLaws
import Derived.JoinedOf
namespace Go.Proofs.Ytkgnnnehmnoleaa.viewHides
set_option maxRecDepth 100000 in
theorem facts : joinedFacts Try.prog 3 Try.f3 Rows.viewHidesSpec Rows.viewHidesRow = true := by kernel_rfl
end Go.Proofs.Ytkgnnnehmnoleaa.viewHides
