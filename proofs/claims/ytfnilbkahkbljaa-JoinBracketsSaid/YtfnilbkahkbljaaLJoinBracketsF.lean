/- JoinBrackets: what the form asks of the function's text. -/
import Derived.Test.YtfnilbkahkbljaaRows
import Derived.ProofKit
import Derived.SizedLaws
import Derived.JoinedOf
namespace Go.Proofs.Ytfnilbkahkbljaa.joinBrackets
set_option maxRecDepth 100000 in
theorem facts : joinedFacts Try.prog 5 Try.f5 Rows.joinBracketsSpec Rows.joinBracketsRow = true := by kernel_rfl
end Go.Proofs.Ytfnilbkahkbljaa.joinBrackets
