/- TurnReverses: what the form asks of the function's text. -/
import Derived.Test.YtfnilbkahkbljaaRows
import Derived.ProofKit
import Derived.SizedLaws
import Derived.JoinedOf
namespace Go.Proofs.Ytfnilbkahkbljaa.turnReverses
set_option maxRecDepth 100000 in
theorem facts : joinedFacts Try.prog 11 Try.f11 Rows.turnReversesSpec Rows.turnReversesRow = true := by kernel_rfl
end Go.Proofs.Ytfnilbkahkbljaa.turnReverses
