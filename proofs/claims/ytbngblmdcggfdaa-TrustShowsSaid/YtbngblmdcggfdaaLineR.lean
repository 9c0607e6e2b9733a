/- The walk through the reference's word on good lines. -/
import Derived.Test.YtbngblmdcggfdaaLine
import Derived.Test.YtbngblmdcggfdaaMemW
set_option linter.unusedSimpArgs false
set_option linter.unusedVariables false
namespace Go.Proofs.Ytbngblmdcggfdaa
open Go.RowKit

end Go.Proofs.Ytbngblmdcggfdaa
