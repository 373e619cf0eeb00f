/- TopRises: what the form asks of the function's text. -/
import Derived.Test.YtnnipocjapblkaaGreatRows
import Derived.ProofKit
import Derived.SizedLaws
import Derived.JoinedOf
set_option maxRecDepth 100000
namespace Go.Proofs.YtnnipocjapblkaaGreat.topRises
theorem facts:joinedFacts Tryz.prog 3 Tryz.f3 Rows.topRisesSpec Rows.topRisesRow=true:=by kernel_rfl
end Go.Proofs.YtnnipocjapblkaaGreat.topRises
