/- ScopeNone: what the form asks of the function's text. -/
import Derived.Test.YtmbigpjokpdnkaaRows
import Derived.ProofKit
import Derived.SizedLaws
import Derived.JoinedOf
namespace Go.Proofs.Ytmbigpjokpdnkaa.scopeNone
set_option maxRecDepth 100000 in
theorem facts : joinedFacts Try.prog 5 Try.f5 Rows.scopeNoneSpec Rows.scopeNoneRow = true := by kernel_rfl
end Go.Proofs.Ytmbigpjokpdnkaa.scopeNone
