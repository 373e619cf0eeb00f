/- ViewAlike: what the form asks of the function's text. -/
import Derived.Test.YtkgnnnehmnoleaaRows
import Derived.ProofKit
import Derived.SizedLaws
import Derived.JoinedOf
namespace Go.Proofs.Ytkgnnnehmnoleaa.viewAlike
set_option maxRecDepth 100000 in
theorem facts : joinedFacts Try.prog 4 Try.f4 Rows.viewAlikeSpec Rows.viewAlikeRow = true := by kernel_rfl
end Go.Proofs.Ytkgnnnehmnoleaa.viewAlike
