/- FlowNone: what the form asks of the function's text. -/
import Derived.Test.YtfnbhkeilcbmjaaRows
import Derived.ProofKit
import Derived.SizedLaws
import Derived.JoinedOf
namespace Go.Proofs.Ytfnbhkeilcbmjaa.flowNone
set_option maxRecDepth 100000 in
theorem facts : joinedFacts Try.prog 5 Try.f5 Rows.flowNoneSpec Rows.flowNoneRow = true := by kernel_rfl
end Go.Proofs.Ytfnbhkeilcbmjaa.flowNone
