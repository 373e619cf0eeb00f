/- JoinCatenates: what the form asks of the function's text. -/
import Derived.Test.YtfnilbkahkbljaaRows
import Derived.ProofKit
import Derived.SizedLaws
import Derived.JoinedOf
namespace Go.Proofs.Ytfnilbkahkbljaa.joinCatenates
set_option maxRecDepth 100000 in
theorem facts : joinedFacts Try.prog 4 Try.f4 Rows.joinCatenatesSpec Rows.joinCatenatesRow = true := by kernel_rfl
end Go.Proofs.Ytfnilbkahkbljaa.joinCatenates
