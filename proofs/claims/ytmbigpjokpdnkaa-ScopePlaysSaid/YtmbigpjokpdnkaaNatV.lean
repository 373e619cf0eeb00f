/- The reference's whole numbers: what they answer. -/
import Derived.Test.YtmbigpjokpdnkaaNatQ
import Derived.Test.YtmbigpjokpdnkaaAbs7
import Derived.Test.YtmbigpjokpdnkaaCodeB
namespace Go.Proofs.Ytmbigpjokpdnkaa
set_option linter.unusedVariables false
open Go.RowKit

end Go.Proofs.Ytmbigpjokpdnkaa
