/- ScopeBlind: what the form asks of the function's text. -/
import Derived.Test.YtmbigpjokpdnkaaRows
import Derived.ProofKit
import Derived.SizedLaws
import Derived.JoinedOf
namespace Go.Proofs.Ytmbigpjokpdnkaa.scopeBlind
set_option maxRecDepth 100000 in
theorem facts : joinedFacts Try.prog 3 Try.f3 Rows.scopeBlindSpec Rows.scopeBlindRow = true := by kernel_rfl
end Go.Proofs.Ytmbigpjokpdnkaa.scopeBlind
