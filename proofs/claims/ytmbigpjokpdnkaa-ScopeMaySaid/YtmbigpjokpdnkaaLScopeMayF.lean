/- ScopeMay: what the form asks of the function's text. -/
import Derived.Test.YtmbigpjokpdnkaaRows
import Derived.ProofKit
import Derived.SizedLaws
import Derived.JoinedOf
namespace Go.Proofs.Ytmbigpjokpdnkaa.scopeMay
set_option maxRecDepth 100000 in
theorem facts : joinedFacts Try.prog 6 Try.f6 Rows.scopeMaySpec Rows.scopeMayRow = true := by kernel_rfl
end Go.Proofs.Ytmbigpjokpdnkaa.scopeMay
