/- The walk through the law's 'does line answer at all'. -/
import Derived.Test.YtikfjmcgoamdlaaSendO
set_option linter.unusedSimpArgs false
set_option linter.unusedVariables false
namespace Go.Proofs.Ytikfjmcgoamdlaa
open Go.RowKit

end Go.Proofs.Ytikfjmcgoamdlaa
