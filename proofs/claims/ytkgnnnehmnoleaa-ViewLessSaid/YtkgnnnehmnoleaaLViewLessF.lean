/- ViewLess: what the form asks of the function's text. -/
import Derived.Test.YtkgnnnehmnoleaaRows
import Derived.ProofKit
import Derived.SizedLaws
import Derived.JoinedOf
namespace Go.Proofs.Ytkgnnnehmnoleaa.viewLess
set_option maxRecDepth 100000 in
theorem facts : joinedFacts Try.prog 6 Try.f6 Rows.viewLessSpec Rows.viewLessRow = true := by kernel_rfl
end Go.Proofs.Ytkgnnnehmnoleaa.viewLess
