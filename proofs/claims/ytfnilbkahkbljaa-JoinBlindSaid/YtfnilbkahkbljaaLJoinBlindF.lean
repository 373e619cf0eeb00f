/- JoinBlind: what the form asks of the function's text. -/
import Derived.Test.YtfnilbkahkbljaaRows
import Derived.ProofKit
import Derived.SizedLaws
import Derived.JoinedOf
namespace Go.Proofs.Ytfnilbkahkbljaa.joinBlind
set_option maxRecDepth 100000 in
theorem facts : joinedFacts Try.prog 8 Try.f8 Rows.joinBlindSpec Rows.joinBlindRow = true := by kernel_rfl
end Go.Proofs.Ytfnilbkahkbljaa.joinBlind
