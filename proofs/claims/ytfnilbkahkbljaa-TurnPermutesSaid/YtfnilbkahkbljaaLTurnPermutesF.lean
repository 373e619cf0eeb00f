/- TurnPermutes: what the form asks of the function's text. -/
import Derived.Test.YtfnilbkahkbljaaRows
import Derived.ProofKit
import Derived.SizedLaws
import Derived.JoinedOf
namespace Go.Proofs.Ytfnilbkahkbljaa.turnPermutes
set_option maxRecDepth 100000 in
theorem facts : joinedFacts Try.prog 12 Try.f12 Rows.turnPermutesSpec Rows.turnPermutesRow = true := by kernel_rfl
end Go.Proofs.Ytfnilbkahkbljaa.turnPermutes
