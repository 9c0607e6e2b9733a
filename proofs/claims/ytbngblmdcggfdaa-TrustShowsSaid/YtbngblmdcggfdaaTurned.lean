/- The first eight numbers in whatever order, in plain words; slices of slices. No program is in sight. -/
import Derived.Test.YtbngblmdcggfdaaOnce
set_option linter.unusedSimpArgs false
set_option linter.unusedVariables false
namespace Go.Proofs.Ytbngblmdcggfdaa
open Go.RowKit

structure TurnInv (left : List Int) (high : Int) (e : Eight) : Prop where
  nd : left.Nodup
  rng : ∀ x ∈ left, 1 ≤ x ∧ x ≤ 8
  lo : 0 ≤ high
  hi : high ≤ 8
  yes : ∀ x, 1 ≤ x → x ≤ 8 → x ∉ left → x ≤ high ∧ e.get (high - x).toNat = true
  no : ∀ x ∈ left, x ≤ high → e.get (high - x).toNat = false

theorem TurnInv.start : TurnInv [1, 2, 3, 4, 5, 6, 7, 8] 0 ⟨false, false, false, false, false, false, false, false⟩ := by
  refine ⟨by decide, by decide, by decide, by decide, fun x h1 h2 h3 => ?_, fun x h1 h2 => ?_⟩
  · exfalso
    apply h3
    rcases (show x = 1 ∨ x = 2 ∨ x = 3 ∨ x = 4 ∨ x = 5 ∨ x = 6 ∨ x = 7 ∨ x = 8 by omega) with rfl | rfl | rfl | rfl | rfl | rfl | rfl | rfl <;> decide
  · have : ∀ x ∈ [1, 2, 3, 4, 5, 6, 7, (8 : Int)], 1 ≤ x := by decide
    have := this x h1
    omega

theorem lineOk_none {high : Int} {e : Eight} (h0 : 0 ≤ high) (h1 : high ≤ 8) : lineOk ⟨0, [], high, e⟩ = true := by
  unfold lineOk headOk
  simp only [List.length_nil]
  rw [if_pos (by simp; omega)]
  rfl

theorem mem_erase {l : List Int} (hn : l.Nodup) {k : Nat} (hk : k < l.length) (y : Int) : y ∈ l.take k ++ l.drop (k + 1) ↔ y ∈ l ∧ y ≠ l[k] := by
  have e : l = l.take k ++ l[k] :: l.drop (k + 1) := by rw [List.getElem_cons_drop, List.take_append_drop]
  have hn' := hn
  rw [e] at hn'
  rw [List.nodup_append, List.nodup_cons] at hn'
  obtain ⟨h1, ⟨h2, h3⟩, h4⟩ := hn'
  constructor
  · intro h
    rw [List.mem_append] at h
    rcases h with h | h
    · exact ⟨List.mem_of_mem_take h, fun e => h4 y h l[k] (List.mem_cons_self ..) e⟩
    · exact ⟨List.mem_of_mem_drop h, fun e => h2 (e ▸ h)⟩
  · rintro ⟨h, hne⟩
    rw [e, List.mem_append, List.mem_cons] at h
    rw [List.mem_append]
    rcases h with h | h | h
    · exact .inl h
    · exact absurd h hne
    · exact .inr h

theorem turn_step {left : List Int} {high : Int} {e : Eight} (hI : TurnInv left high e) {k : Nat} (hk : k < left.length) : ∃ (h' : Int) (e' : Eight), takeC true high left[k] e = (h', e', 0) ∧ takeC true h' left[k] e' = (h', e', 10) ∧ TurnInv (left.take k ++ left.drop (k + 1)) h' e' := by
  have hm : left[k] ∈ left := List.getElem_mem hk
  obtain ⟨x1, x2⟩ := hI.rng _ hm
  have hno := hI.no _ hm
  have hlo := hI.lo
  have hhi := hI.hi
  have hmem := mem_erase hI.nd hk
  have hnd : (left.take k ++ left.drop (k + 1)).Nodup := by
    have := hI.nd
    rw [← List.eraseIdx_eq_take_drop_succ]
    exact this.sublist (List.eraseIdx_sublist ..)
  generalize left[k] = x at hm x1 x2 hno hmem
  by_cases c2 : x ≤ high
  · refine ⟨high, e.yes (high - x).toNat, ?_, ?_, hnd, fun y hy => hI.rng y ((hmem y).1 hy).1, hlo, hhi, fun y y1 y2 hy => ?_, fun y hy hyh => ?_⟩
    · unfold takeC
      rw [if_neg (by simp; omega), if_neg (by omega), if_pos c2, if_neg (by rw [hno c2]; simp)]
    · unfold takeC
      rw [if_neg (by simp; omega), if_neg (by omega), if_pos c2, if_pos (by show (Eight.of _).get _ = true; rw [Eight.get_of _ (by omega), if_pos rfl])]
    · by_cases hxy : y = x
      · subst hxy
        exact ⟨c2, by show (Eight.of _).get _ = true; rw [Eight.get_of _ (by omega), if_pos rfl]⟩
      · obtain ⟨h1, h2⟩ := hI.yes y y1 y2 fun h => hy ((hmem y).2 ⟨h, hxy⟩)
        refine ⟨h1, ?_⟩
        show (Eight.of _).get _ = true
        rw [Eight.get_of _ (by omega), h2]
        simp
    · obtain ⟨hyl, hne⟩ := (hmem y).1 hy
      show (Eight.of _).get _ = false
      have := hI.rng y hyl
      rw [Eight.get_of _ (by omega), if_neg (by omega)]
      exact hI.no y hyl hyh
  · refine ⟨x, Eight.of fun j => if j = 0 then true else if x - high ≤ j then e.get (j - (x - high).toNat) else false, ?_, ?_, hnd, fun y hy => hI.rng y ((hmem y).1 hy).1, by omega, x2, fun y y1 y2 hy => ?_, fun y hy hyh => ?_⟩
    · unfold takeC
      rw [if_neg (by simp; omega), if_neg (by omega), if_neg c2]
    · unfold takeC
      rw [if_neg (by simp; omega), if_neg (by omega), if_pos (Int.le_refl _), if_pos (by rw [Eight.get_of _ (by omega), if_pos (by omega)])]
    · by_cases hxy : y = x
      · subst hxy
        exact ⟨Int.le_refl _, by rw [Eight.get_of _ (by omega), if_pos (by omega)]⟩
      · obtain ⟨h1, h2⟩ := hI.yes y y1 y2 fun h => hy ((hmem y).2 ⟨h, hxy⟩)
        refine ⟨by omega, ?_⟩
        rw [Eight.get_of _ (by omega), if_neg (by omega), if_pos (by omega), show (x - y).toNat - (x - high).toNat = (high - y).toNat by omega]
        exact h2
    · obtain ⟨hyl, hne⟩ := (hmem y).1 hy
      have := hI.rng y hyl
      rw [Eight.get_of _ (by omega), if_neg (by omega)]
      by_cases c : x - high ≤ ((x - y).toNat : Int)
      · rw [if_pos c, show (x - y).toNat - (x - high).toNat = (high - y).toNat by omega]
        exact hI.no y hyl (by omega)
      · rw [if_neg c]

theorem TurnInv.done {high : Int} {e : Eight} (h : TurnInv [] high e) : high = 8 := by
  have := (h.yes 8 (by omega) (by omega) (by simp)).1
  have := h.hi
  omega

theorem SlR.take {ok : Nat → Prop} {w : World} {α : Type} {sz : Nat} {R : List Value → α → Prop} {a : Option Addr} {c : Nat} {xs : List α} (h : SlR ok w sz R a c xs) (k : Nat) : SlR ok w sz R a c (xs.take k) := by
  refine ⟨Nat.le_trans (by simp; omega) h.1, h.2.1, h.2.2.1, fun i x hx => h.2.2.2 i x ?_⟩
  rw [List.getElem?_take] at hx
  split at hx
  · exact hx
  · cases hx

theorem SlR.drop {ok : Nat → Prop} {w : World} {α : Type} {sz : Nat} {R : List Value → α → Prop} {b o c : Nat} {xs : List α} (h : SlR ok w sz R (some ⟨b, o, none⟩) c xs) (k : Nat) : SlR ok w sz R (some ⟨b, o + k * sz, none⟩) (c - k) (xs.drop k) := by
  refine ⟨by have := h.1; simp; omega, by have := h.2.1; omega, by simp, fun i x hx => ?_⟩
  rw [List.getElem?_drop] at hx
  obtain ⟨b', o', cs, ha, h1, h2, h3, h4, h5, h6⟩ := h.2.2.2 (k + i) x hx
  simp at ha
  obtain ⟨rfl, rfl⟩ := ha
  refine ⟨b, o + k * sz, cs, rfl, h1, h2, h3, h4, h5, fun j v hv => ?_⟩
  rw [← h6 j v hv]
  congr 2
  rw [Nat.add_mul]
  omega

/-- A block of just these numbers, as a slice. -/
theorem slr_ints {w : World} {g : Nat} {T : TypeId} {xs : List Int} {ok : Nat → Prop} (h : w.heap[g]? = some (.cells (xs.map (Value.int .i64)).toArray T (0, 0))) (ho : ok g) (hm : xs.length ≤ maxLen := by decide) : SlR ok w 1 RInt (some ⟨g, 0, none⟩) xs.length xs := by
  refine ⟨Nat.le_refl _, hm, by simp, fun i x hx => ⟨g, 0, [.int .i64 x], rfl, ho, (Array.getElem?_eq_some_iff.1 h).1, rfl, rfl, by simp [Value.oneCell'], fun j v hv => ?_⟩⟩
  have hj := (List.getElem?_eq_some_iff.1 hv).1
  simp at hj
  subst hj
  simp at hv
  subst hv
  rw [cell_of_row w g _ _ T (0, 0) h]
  simp [hx]

end Go.Proofs.Ytbngblmdcggfdaa
