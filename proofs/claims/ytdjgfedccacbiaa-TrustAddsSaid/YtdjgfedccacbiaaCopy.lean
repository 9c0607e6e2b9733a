/- The walks through the references' copies of mail, frames, lines. -/
import Derived.Test.YtdjgfedccacbiaaApp
import Derived.Test.YtdjgfedccacbiaaMemW
import Derived.Test.YtdjgfedccacbiaaSlices
import Derived.Deep.RegionLaw
set_option linter.unusedSimpArgs false
set_option linter.unusedVariables false
namespace Go.Proofs.Ytdjgfedccacbiaa
open Go.RowKit

def mailV (m : Mail) (la : Option Addr) (lc : Nat) (ga : Option Addr) (gc : Nat) : Value := .agg #[.int .i64 m.host, .int .i64 m.thread, .slice la m.label.length lc, .slice ga m.grants.length gc, .string m.text]

/-- New memory: blocks that did not lie in w. -/
abbrev newIn (w : World) : Nat → Prop := fun b => w.heap.size ≤ b

end Go.Proofs.Ytdjgfedccacbiaa
