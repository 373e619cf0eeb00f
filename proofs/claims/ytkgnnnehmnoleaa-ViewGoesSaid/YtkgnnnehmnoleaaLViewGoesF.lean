/- ViewGoes: what the form asks of the function's text. -/
import Derived.Test.YtkgnnnehmnoleaaRows
import Derived.ProofKit
import Derived.SizedLaws
import Derived.JoinedOf
namespace Go.Proofs.Ytkgnnnehmnoleaa.viewGoes
set_option maxRecDepth 100000 in
theorem facts : joinedFacts Try.prog 5 Try.f5 Rows.viewGoesSpec Rows.viewGoesRow = true := by kernel_rfl
end Go.Proofs.Ytkgnnnehmnoleaa.viewGoes
