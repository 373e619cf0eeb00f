/- ScopePlays: what the form asks of the function's text. -/
import Derived.Test.YtmbigpjokpdnkaaRows
import Derived.ProofKit
import Derived.SizedLaws
import Derived.JoinedOf
namespace Go.Proofs.Ytmbigpjokpdnkaa.scopePlays
set_option maxRecDepth 100000 in
theorem facts : joinedFacts Try.prog 4 Try.f4 Rows.scopePlaysSpec Rows.scopePlaysRow = true := by kernel_rfl
end Go.Proofs.Ytmbigpjokpdnkaa.scopePlays
