/- TurnRotates: what the form asks of the function's text. -/
import Derived.Test.YtfnilbkahkbljaaRows
import Derived.ProofKit
import Derived.SizedLaws
import Derived.JoinedOf
namespace Go.Proofs.Ytfnilbkahkbljaa.turnRotates
set_option maxRecDepth 100000 in
theorem facts : joinedFacts Try.prog 9 Try.f9 Rows.turnRotatesSpec Rows.turnRotatesRow = true := by kernel_rfl
end Go.Proofs.Ytfnilbkahkbljaa.turnRotates
