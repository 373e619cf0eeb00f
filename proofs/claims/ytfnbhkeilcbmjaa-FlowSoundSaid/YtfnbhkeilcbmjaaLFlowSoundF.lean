/- FlowSound: what the form asks of the function's text. -/
import Derived.Test.YtfnbhkeilcbmjaaRows
import Derived.ProofKit
import Derived.SizedLaws
import Derived.JoinedOf
namespace Go.Proofs.Ytfnbhkeilcbmjaa.flowSound
set_option maxRecDepth 100000 in
theorem facts : joinedFacts Try.prog 4 Try.f4 Rows.flowSoundSpec Rows.flowSoundRow = true := by kernel_rfl
end Go.Proofs.Ytfnbhkeilcbmjaa.flowSound
