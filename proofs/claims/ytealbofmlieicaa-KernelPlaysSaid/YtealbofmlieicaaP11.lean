/- Walks and plain laws, part 11. -/
import Derived.Test.YtealbofmlieicaaP9
import Derived.Test.YtealbofmlieicaaP7
set_option linter.unusedSimpArgs false
set_option linter.unusedVariables false
set_option maxHeartbeats 16000000
set_option maxRecDepth 100000
namespace Go.Proofs.Ytealbofmlieicaa
open Go.RowKit
theorem FrameR.move {ok ok' : Nat → Prop} {w w' : World} {f : Frame} {la : Option Addr} {lc : Nat} {ga : Option Addr} {gc : Nat} {ca : Option Addr} {cc : Nat} (h : FrameR ok w f la lc ga gc ca cc) (hs : w.heap.size ≤ w'.heap.size) (hk : ∀ b, b < w.heap.size → ok b → ok' b ∧ w'.heap[b]? = w.heap[b]?) : FrameR ok' w' f la lc ga gc ca cc :=
 ⟨⟨h.mail.label.move hs hk fun _ _ h => h, h.mail.grants.move hs hk fun _ _ h => h⟩, h.certs.move hs hk fun _ _ h => h⟩
theorem SentR.move {ok ok' : Nat → Prop} {w w' : World} {a : Option Addr} {c : Nat} {xs : List Sent} (h : SentR ok w a c xs) (hs : w.heap.size ≤ w'.heap.size) (hk : ∀ b, b < w.heap.size → ok b → ok' b ∧ w'.heap[b]? = w.heap[b]?) : SentR ok' w' a c xs :=
 SlR.move h hs hk fun _ _ h => RSent.move h hs hk

theorem St.grown {M : List Nat} {w0 w w' : World} {own : Blks} {row : Option Nat} (st : St M w0 w own) (hg : w.grownBy w' row) (hn : ∀ x ∈ own, row ≠ some x.1) : St (row.toList ++ M) w0 w' own := by
 refine ⟨hg.os.trans st.os, hg.tape.trans st.tape, hg.output.trans st.output, Nat.le_trans st.size hg.size, fun b hb hM => ?_, fun x hx => ?_, fun x hx => ?_, st.ne⟩
 ·rw [hg.block b (Nat.lt_of_lt_of_le hb st.size) (by rintro rfl; simp at hM), st.frame b hb (by simp at hM; exact hM.2)]
 ·rw [hg.block _ (st.lt hx) fun e => hn x hx e.symm]
  exact st.blk x hx
 ·rcases st.mine x hx with h | h
  ·exact .inl (by simp [h])
  ·exact .inr h
end Go.Proofs.Ytealbofmlieicaa
