/- OperCells: what the form asks of the function's text. -/
import Derived.Test.YtfnilbkahkbljaaRows
import Derived.ProofKit
import Derived.SizedLaws
import Derived.JoinedOf
namespace Go.Proofs.Ytfnilbkahkbljaa.operCells
set_option maxRecDepth 100000 in
theorem facts : joinedFacts Try.prog 6 Try.f6 Rows.operCellsSpec Rows.operCellsRow = true := by kernel_rfl
end Go.Proofs.Ytfnilbkahkbljaa.operCells
