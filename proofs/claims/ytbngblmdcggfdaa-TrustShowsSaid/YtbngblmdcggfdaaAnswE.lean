/- The walks through line.Answered and the reference's word on it. -/
import Derived.Test.YtbngblmdcggfdaaAnswD
import Derived.Test.YtbngblmdcggfdaaLineR
import Derived.Test.YtbngblmdcggfdaaSend
import Derived.Test.YtbngblmdcggfdaaTwo
set_option linter.unusedSimpArgs false
set_option linter.unusedVariables false
namespace Go.Proofs.Ytbngblmdcggfdaa
open Go.RowKit

/-- A call that leaves whatever lies below B as it was. -/
theorem St.callB {M : List Nat} {w0 w w' : World} {own : Blks} (h : St M w0 w own) {B : Nat} (hb : Below B w w') (h0 : w0.heap.size ≤ B) (hlt : ∀ x ∈ own, x.1 < B) : St M w0 w' own :=
  ⟨hb.os.trans h.os, hb.tape.trans h.tape, hb.output.trans h.output, Nat.le_trans h.size hb.size, fun b hb' hM => (hb.block b (by omega)).trans (h.frame b hb' hM), fun x hx => (hb.block x.1 (hlt x hx)).trans (h.blk x hx), h.mine, h.ne⟩

/-- What an answer makes of it: the error, and what is left. -/
def answX (g : Bool) (sent : List Sent) (seq : Int) : Int × List Sent :=
  if g = false then (2, sent) else if (sent.filter (offSeq seq)).length = sent.length then (4, sent) else (0, sent.filter (offSeq seq))

end Go.Proofs.Ytbngblmdcggfdaa
