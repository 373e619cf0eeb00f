/- ViewCovers: what the form asks of the function's text. -/
import Derived.Test.YtkgnnnehmnoleaaRows
import Derived.ProofKit
import Derived.SizedLaws
import Derived.JoinedOf
namespace Go.Proofs.Ytkgnnnehmnoleaa.viewCovers
set_option maxRecDepth 100000 in
theorem facts : joinedFacts Try.prog 7 Try.f7 Rows.viewCoversSpec Rows.viewCoversRow = true := by kernel_rfl
end Go.Proofs.Ytkgnnnehmnoleaa.viewCovers
