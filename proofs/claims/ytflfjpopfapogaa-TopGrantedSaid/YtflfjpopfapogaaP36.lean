/- Walks and plain laws that the claim rests on, part 36. -/
import Derived.Test.YtflfjpopfapogaaP17
set_option linter.unusedSimpArgs false
set_option linter.unusedVariables false
namespace Go.Proofs.Ytflfjpopfapogaa
open Go.RowKit
def Rec {α : Type} (sz : Nat) (R : List Value → α → Prop) (C : List Value) (xs : List α) : Prop :=
 ∃ css : List (List Value), C = css.flatten ∧ css.length = xs.length ∧ (∀ cs ∈ css, cs.length = sz) ∧ ∀ (i : Nat) (x : α) (cs : List Value), xs[i]? = some x → css[i]? = some cs → R cs x
section
variable {α : Type} {sz : Nat} {R R' : List Value → α → Prop} {C : List Value} {xs : List α}
theorem Rec.mono (h : Rec sz R C xs) (hR : ∀ cs x, R cs x → R' cs x) : Rec sz R' C xs := by
 obtain ⟨css, h1, h2, h3, h4⟩ := h
 exact ⟨css, h1, h2, h3, fun i x cs hx hc => hR _ _ (h4 i x cs hx hc)⟩
theorem Rec.length (h : Rec sz R C xs) : C.length = xs.length * sz := by
 obtain ⟨css, rfl, h2, h3, _⟩ := h
 rw [flatten_length h3, h2]
theorem Rec.same {x : α} {cs : List Value} (n : Nat) (hl : cs.length = sz) (h : R cs x) : Rec sz R (List.replicate n cs).flatten (List.replicate n x) :=
 ⟨List.replicate n cs, rfl, by simp, fun c hc => by rw [List.eq_of_mem_replicate hc]; exact hl, fun i y c hy hc => by
  rw [List.getElem?_replicate] at hy hc
  split at hy
  ·rename_i hi; rw [if_pos hi] at hc; cases hy; cases hc; exact h
  ·cases hy⟩
theorem Rec.win (h : Rec sz R C xs) {i : Nat} (hi : i < xs.length) : ∃ pre cs post, C = winC pre cs post ∧ pre.length = i * sz ∧ cs.length = sz ∧ R cs xs[i] ∧
  ∀ (R' : List Value → α → Prop) (cs' : List Value) (x' : α), (∀ c x, R c x → R' c x) → R' cs' x' → cs'.length = sz → Rec sz R' (winC pre cs' post) (xs.set i x') := by
 obtain ⟨css, rfl, h2, h3, h4⟩ := h
 have hil : i < css.length := by omega
 have e : css = css.take i ++ css[i] :: css.drop (i + 1) := by rw [← List.drop_eq_getElem_cons hil, List.take_append_drop]
 refine ⟨(css.take i).flatten, css[i], (css.drop (i + 1)).flatten, ?_, ?_, h3 _ (List.getElem_mem hil), h4 i _ _ (List.getElem?_eq_getElem hi) (List.getElem?_eq_getElem hil), fun R' cs' x' hm hR hl => ?_⟩
 ·have h5 := congrArg List.flatten e
  rw [List.flatten_append, List.flatten_cons] at h5
  exact h5
 ·rw [flatten_length fun cs hc => h3 cs (List.mem_of_mem_take hc), List.length_take, Nat.min_eq_left (by omega)]
 ·refine ⟨css.set i cs', ?_, by simp [h2], fun c hc => ?_, fun j y c hy hc => ?_⟩
  ·unfold winC
   rw [List.set_eq_take_append_cons_drop, if_pos hil]
   simp
  ·rcases List.mem_or_eq_of_mem_set hc with hc | rfl
   ·exact h3 c hc
   ·exact hl
  ·rw [List.getElem?_set] at hy hc
   by_cases hij : i = j
   ·subst hij
    rw [if_pos rfl, if_pos hi] at hy
    rw [if_pos rfl, if_pos hil] at hc
    cases hy; cases hc
    exact hR
   ·rw [if_neg hij] at hy hc
    exact hm _ _ (h4 j y c hy hc)
end
end Go.Proofs.Ytflfjpopfapogaa
