/- FlowSeen: what the form asks of the function's text. -/
import Derived.Test.YtfnbhkeilcbmjaaRows
import Derived.ProofKit
import Derived.SizedLaws
import Derived.JoinedOf
namespace Go.Proofs.Ytfnbhkeilcbmjaa.flowSeen
set_option maxRecDepth 100000 in
theorem facts : joinedFacts Try.prog 6 Try.f6 Rows.flowSeenSpec Rows.flowSeenRow = true := by kernel_rfl
end Go.Proofs.Ytfnbhkeilcbmjaa.flowSeen
