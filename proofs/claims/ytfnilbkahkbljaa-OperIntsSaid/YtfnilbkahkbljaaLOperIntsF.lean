/- OperInts: what the form asks of the function's text. -/
import Derived.Test.YtfnilbkahkbljaaRows
import Derived.ProofKit
import Derived.SizedLaws
import Derived.JoinedOf
namespace Go.Proofs.Ytfnilbkahkbljaa.operInts
set_option maxRecDepth 100000 in
theorem facts : joinedFacts Try.prog 7 Try.f7 Rows.operIntsSpec Rows.operIntsRow = true := by kernel_rfl
end Go.Proofs.Ytfnilbkahkbljaa.operInts
