/- TurnBlind: what the form asks of the function's text. -/
import Derived.Test.YtfnilbkahkbljaaRows
import Derived.ProofKit
import Derived.SizedLaws
import Derived.JoinedOf
namespace Go.Proofs.Ytfnilbkahkbljaa.turnBlind
set_option maxRecDepth 100000 in
theorem facts : joinedFacts Try.prog 13 Try.f13 Rows.turnBlindSpec Rows.turnBlindRow = true := by kernel_rfl
end Go.Proofs.Ytfnilbkahkbljaa.turnBlind
