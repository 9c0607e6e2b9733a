/- Walks and plain laws that the claim rests on, part 37. -/
import Derived.Test.YtflfjpopfapogaaP28
import Derived.Test.YtflfjpopfapogaaP36
import Derived.Test.YtflfjpopfapogaaP26
set_option linter.unusedSimpArgs false
set_option linter.unusedVariables false
namespace Go.Proofs.Ytflfjpopfapogaa
open Go.RowKit
def ThrC (ok : Nat → Prop) (w : World) (cs : List Value) (x : Thr) : Prop :=
 ∃ la lc oa oc ba bc ma mc, cs = thrC x la lc oa oc ba bc ma mc ∧ ThrS ok w x la lc oa oc ba bc ma mc
theorem ThrC.move {ok ok' : Nat → Prop} {w w' : World} {cs : List Value} {x : Thr} (h : ThrC ok w cs x) (hs : w.heap.size ≤ w'.heap.size) (hk : ∀ b, b < w.heap.size → ok b → ok' b ∧ w'.heap[b]? = w.heap[b]?) : ThrC ok' w' cs x := by
 obtain ⟨la, lc, oa, oc, ba, bc, ma, mc, e, h⟩ := h
 exact ⟨la, lc, oa, oc, ba, bc, ma, mc, e, h.move hs hk⟩
theorem ThrC.zero (ok : Nat → Prop) (w : World) : ThrC ok w zeroC zeroT := ⟨none, 0, none, 0, none, 0, none, 0, rfl, ThrS.zero _ _⟩
end Go.Proofs.Ytflfjpopfapogaa
