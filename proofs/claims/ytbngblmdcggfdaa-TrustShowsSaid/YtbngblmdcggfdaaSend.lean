/- The walk through line.Send. -/
import Derived.Test.YtbngblmdcggfdaaClone
import Derived.Test.YtbngblmdcggfdaaLineT
set_option linter.unusedSimpArgs false
set_option linter.unusedVariables false
namespace Go.Proofs.Ytbngblmdcggfdaa
open Go.RowKit

/-- A frame of nothing, as a value. -/
def frameZ : Value := .agg #[.int .i64 0, .int .i64 0, .int .i64 0, .bool false, .int .i64 0, .int .i64 0, .int .i64 0, .slice none 0 0, .slice none 0 0, .string ⟨#[]⟩, .slice none 0 0]

end Go.Proofs.Ytbngblmdcggfdaa
