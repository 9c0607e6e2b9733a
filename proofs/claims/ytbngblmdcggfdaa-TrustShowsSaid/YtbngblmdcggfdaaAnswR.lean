/- The walk through the reference's word on an answer. -/
import Derived.Test.YtbngblmdcggfdaaAnswE
import Derived.Test.YtbngblmdcggfdaaLineR
set_option linter.unusedSimpArgs false
set_option linter.unusedVariables false
namespace Go.Proofs.Ytbngblmdcggfdaa
open Go.RowKit

/-- A row of ours, that lies in what is new, has grown. -/
theorem St.grownNew {M : List Nat} {w0 w w' : World} {own : Blks} {row : Option Nat} (st : St M w0 w own) (hg : w.grownBy w' row) (hrow : ∀ k, row = some k → w0.heap.size ≤ k) (hn : ∀ x ∈ own, row ≠ some x.1) : St M w0 w' own := by
  refine ⟨hg.os.trans st.os, hg.tape.trans st.tape, hg.output.trans st.output, Nat.le_trans st.size hg.size, fun b hb hM => ?_, fun x hx => ?_, st.mine, st.ne⟩
  · rw [hg.block b (Nat.lt_of_lt_of_le hb st.size) (fun e => by have := hrow _ e.symm; omega), st.frame b hb hM]
  · rw [hg.block _ (st.lt hx) fun e => hn x hx e.symm]
    exact st.blk x hx

theorem St.comp {M : List Nat} {w0 w1 w2 : World} {own1 own2 : Blks} (h1 : St M w0 w1 own1) (h2 : St M w1 w2 own2) : St M w0 w2 own2 :=
  ⟨h2.os.trans h1.os, h2.tape.trans h1.tape, h2.output.trans h1.output, Nat.le_trans h1.size h2.size, fun b hb hM => (h2.frame b (Nat.lt_of_lt_of_le hb h1.size) hM).trans (h1.frame b hb hM), h2.blk,
    fun x hx => (h2.mine x hx).imp id fun h => Nat.le_trans h1.size h, h2.ne⟩

end Go.Proofs.Ytbngblmdcggfdaa
