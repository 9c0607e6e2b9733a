/- Walks and plain laws that the claim rests on, part 10. -/
import Derived.Test.YtemjnojfhbbapaaP3
import Derived.Test.YtemjnojfhbbapaaP7
import Derived.Test.YtemjnojfhbbapaaP5
set_option linter.unusedSimpArgs false
set_option linter.unusedVariables false
/- What lies apart from the blocks that a region's operations have made: lines' and frames' lists. -/
namespace Go.Proofs.Ytemjnojfhbbapaa
open Go.RowKit

theorem RSent.two {a1 s1 a2 s2 k : Nat} {s s' : Two} {w w' : World} (hr : Two.Rel a1 s1 a2 s2 k s w s' w') {cs : List Value} {x : Sent} (h : RSent s.free w cs x) : RSent s'.free w' cs x := h.move hr.size fun b hb ho => hr.keep b hb ho
theorem SentR.two {a1 s1 a2 s2 k : Nat} {s s' : Two} {w w' : World} {a : Option Addr} {c : Nat} {xs : List Sent} (h : SentR s.free w a c xs) (hr : Two.Rel a1 s1 a2 s2 k s w s' w') : SentR s'.free w' a c xs :=
  SlR.move h hr.size (fun b hb ho => hr.keep b hb ho) fun _ _ h => RSent.two hr h
theorem FrameR.two {a1 s1 a2 s2 k : Nat} {s s' : Two} {w w' : World} {f : Frame} {la : Option Addr} {lc : Nat} {ga : Option Addr} {gc : Nat} {ca : Option Addr} {cc : Nat} (h : FrameR s.free w f la lc ga gc ca cc) (hr : Two.Rel a1 s1 a2 s2 k s w s' w') : FrameR s'.free w' f la lc ga gc ca cc :=
  ⟨⟨h.mail.label.two hr, h.mail.grants.two hr⟩, h.certs.two hr⟩
theorem FrameR.move {ok ok' : Nat → Prop} {w w' : World} {f : Frame} {la : Option Addr} {lc : Nat} {ga : Option Addr} {gc : Nat} {ca : Option Addr} {cc : Nat} (h : FrameR ok w f la lc ga gc ca cc) (hs : w.heap.size ≤ w'.heap.size) (hk : ∀ b, b < w.heap.size → ok b → ok' b ∧ w'.heap[b]? = w.heap[b]?) : FrameR ok' w' f la lc ga gc ca cc :=
  ⟨⟨h.mail.label.move hs hk fun _ _ h => h, h.mail.grants.move hs hk fun _ _ h => h⟩, h.certs.move hs hk fun _ _ h => h⟩
theorem SentR.move {ok ok' : Nat → Prop} {w w' : World} {a : Option Addr} {c : Nat} {xs : List Sent} (h : SentR ok w a c xs) (hs : w.heap.size ≤ w'.heap.size) (hk : ∀ b, b < w.heap.size → ok b → ok' b ∧ w'.heap[b]? = w.heap[b]?) : SentR ok' w' a c xs :=
  SlR.move h hs hk fun _ _ h => RSent.move h hs hk

theorem fitsF {f : Frame} (h : f.fit) : f.Fits := by
  obtain ⟨_, _, _, _, _, ⟨_, _, ⟨h3, _⟩, ⟨h4, _⟩, _⟩, ⟨h5, _⟩⟩ := h
  exact ⟨by omega, by omega, by omega⟩

theorem fitsL {L : Line} (h : L.fit) : L.sent.length * 160 ≤ 140737488355328 ∧ ∀ s ∈ L.sent, s.frame.Fits := by
  obtain ⟨_, ⟨h1, h2⟩, _⟩ := h
  exact ⟨by omega, fun s hs => fitsF (h2 s hs).1⟩

end Go.Proofs.Ytemjnojfhbbapaa
