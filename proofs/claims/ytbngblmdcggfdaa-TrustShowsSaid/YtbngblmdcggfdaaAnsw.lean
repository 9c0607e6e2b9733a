/- The walk through line.Answered's closure and the library's IndexFunc with it. -/
import Derived.Test.YtbngblmdcggfdaaClone
import Derived.Test.YtbngblmdcggfdaaMemP
import Derived.Shelf.Abstract
set_option linter.unusedSimpArgs false
set_option linter.unusedVariables false
namespace Go.Proofs.Ytbngblmdcggfdaa
open Go.RowKit

/-- A list of ours, opened: the block that it lies in, cell for cell. -/
theorem Own.open {base : Nat} {e : TypeId} {w : World} {α : Type} {sz : Nat} {R : List Value → α → Prop} {a : Option Addr} {c : Nat} {xs : List α} (h : Own base e w sz R a c xs) :
    (a = none ∧ xs = []) ∨ ∃ (g : Nat) (css : List (List Value)) (rest : List Value), a = some ⟨g, 0, none⟩ ∧ base ≤ g ∧ w.heap[g]? = some (.cells (css.flatten ++ rest).toArray e (0, 0)) ∧ css.length = xs.length ∧ (∀ cs ∈ css, cs.length = sz ∧ ∀ v ∈ cs, v.oneCell' = true) ∧
      (∀ (i : Nat) (x : α) (cs : List Value), xs[i]? = some x → css[i]? = some cs → R cs x) ∧ c ≤ maxLen ∧ xs.length ≤ c ∧ (css.flatten ++ rest).length = c * sz := by
  obtain ⟨css, h1, h2, h3, h4, h5⟩ := h
  rcases h5 with ⟨e1, e2⟩ | ⟨g, cap, cur, e1, hb, hg, hn, hm, hs, ht⟩
  · simp at e1
    exact .inl ⟨e1.1, List.eq_nil_of_length_eq_zero e2⟩
  · simp only [Value.slice.injEq] at e1
    obtain ⟨rfl, _, rfl⟩ := e1
    have hc : css.flatten ++ cur.toList.drop (xs.length * sz) = cur.toList := by rw [← ht, List.take_append_drop]
    refine .inr ⟨g, css, cur.toList.drop (xs.length * sz), rfl, hb, ?_, h1, h2, h3, hm, hn, ?_⟩
    · rw [hc]; simpa using hg
    · rw [hc]; simpa using hs

set_option maxHeartbeats 400000 in
/-- The closure: is it the one that is answered? -/
abbrev atSeq (seq : Int) (s : Sent) : Bool := s.frame.seq == seq

end Go.Proofs.Ytbngblmdcggfdaa
