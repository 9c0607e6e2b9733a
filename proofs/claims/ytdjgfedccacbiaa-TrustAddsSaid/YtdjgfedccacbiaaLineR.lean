/- The walk through the reference's word on good lines. -/
import Derived.Test.YtdjgfedccacbiaaLine
import Derived.Test.YtdjgfedccacbiaaMemW
set_option linter.unusedSimpArgs false
set_option linter.unusedVariables false
namespace Go.Proofs.Ytdjgfedccacbiaa
open Go.RowKit

end Go.Proofs.Ytdjgfedccacbiaa
