/- OperLines: what the form asks of the function's text. -/
import Derived.Test.YtfnilbkahkbljaaRows
import Derived.ProofKit
import Derived.SizedLaws
import Derived.JoinedOf
namespace Go.Proofs.Ytfnilbkahkbljaa.operLines
set_option maxRecDepth 100000 in
theorem facts : joinedFacts Try.prog 3 Try.f3 Rows.operLinesSpec Rows.operLinesRow = true := by kernel_rfl
end Go.Proofs.Ytfnilbkahkbljaa.operLines
