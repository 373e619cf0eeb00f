/- TurnBack: what the form asks of the function's text. -/
import Derived.Test.YtfnilbkahkbljaaRows
import Derived.ProofKit
import Derived.SizedLaws
import Derived.JoinedOf
namespace Go.Proofs.Ytfnilbkahkbljaa.turnBack
set_option maxRecDepth 100000 in
theorem facts : joinedFacts Try.prog 10 Try.f10 Rows.turnBackSpec Rows.turnBackRow = true := by kernel_rfl
end Go.Proofs.Ytfnilbkahkbljaa.turnBack
