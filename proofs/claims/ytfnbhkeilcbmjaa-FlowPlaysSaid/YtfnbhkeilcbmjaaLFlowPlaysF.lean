/- FlowPlays: what the form asks of the function's text. -/
import Derived.Test.YtfnbhkeilcbmjaaRows
import Derived.ProofKit
import Derived.SizedLaws
import Derived.JoinedOf
namespace Go.Proofs.Ytfnbhkeilcbmjaa.flowPlays
set_option maxRecDepth 100000 in
theorem facts : joinedFacts Try.prog 3 Try.f3 Rows.flowPlaysSpec Rows.flowPlaysRow = true := by kernel_rfl
end Go.Proofs.Ytfnbhkeilcbmjaa.flowPlays
