/- TopChain: what the form asks of the function's text. -/
import Derived.Test.YtjcolpcfcdkckaaGreatRows
import Derived.ProofKit
import Derived.SizedLaws
import Derived.JoinedOf
set_option maxRecDepth 100000
namespace Go.Proofs.YtjcolpcfcdkckaaGreat.topChain
theorem facts:joinedFacts Tryz.prog 3 Tryz.f3 Rows.topChainSpec Rows.topChainRow=true:=by kernel_rfl
end Go.Proofs.YtjcolpcfcdkckaaGreat.topChain
