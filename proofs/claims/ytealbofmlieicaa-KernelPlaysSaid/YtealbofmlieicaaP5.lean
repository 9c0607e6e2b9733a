/- Walks and plain laws, part 5. -/
import Derived.Test.YtealbofmlieicaaP1
import Derived.Sort.Row
import Derived.Sort.Grow
import Derived.Lib.SlicesCompact
set_option linter.unusedSimpArgs false
set_option linter.unusedVariables false
set_option maxHeartbeats 16000000
set_option maxRecDepth 100000
namespace Go.Proofs.Ytealbofmlieicaa
open Go.RowKit Go.Sort
theorem flatten_ints {css : List (List Value)} {xs : List Int} (hl : css.length = xs.length) (h : ∀ (i : Nat) (x : Int) (cs : List Value), xs[i]? = some x → css[i]? = some cs → RInt cs x) : css.flatten = xs.map (Value.int .i64) := by
 induction css generalizing xs with
 | nil => cases xs with
  | nil => rfl
  | cons x xs => simp at hl
 | cons c css ih =>
  cases xs with
  | nil => simp at hl
  | cons x xs =>
   have h0 := h 0 x c rfl rfl
   simp only [List.flatten_cons, List.map_cons, RInt] at *
   rw [h0, ih (by simpa using hl) fun i y cs hy hc => h (i + 1) y cs (by simpa using hy) (by simpa using hc)]
   rfl
theorem Own.ints {base : Nat} {e : TypeId} {w : World} {a : Option Addr} {c : Nat} {xs : List Int} (h : Own base e w 1 RInt a c xs) : w.ownsRow base e 1 (.slice a xs.length c) xs.length (xs.map (Value.int .i64)) := by
 obtain ⟨css, h1, h2, h3, h4⟩ := h
 rwa [flatten_ints h1 h3] at h4
theorem Own.of_ints {base : Nat} {e : TypeId} {w : World} {a : Option Addr} {c : Nat} {xs : List Int} (h : w.ownsRow base e 1 (.slice a xs.length c) xs.length (xs.map (Value.int .i64))) : Own base e w 1 RInt a c xs := by
 have hf : (xs.map fun x => [Value.int .i64 x]).flatten = xs.map (Value.int .i64) := by clear h; induction xs <;> simp_all
 refine ⟨xs.map fun x => [.int .i64 x], by simp, ?_, ?_, by rw [hf]; exact h⟩
 ·intro cs hcs
  obtain ⟨x, _, rfl⟩ := List.mem_map.1 hcs
  exact ⟨rfl, by simp [Value.oneCell']⟩
 ·intro i x cs hx hc
  rw [List.getElem?_map, hx] at hc
  simp at hc
  exact hc.symm
theorem Own.holds {base : Nat} {e : TypeId} {w : World} {ad : Addr} {c : Nat} {xs : List Int} (h : Own base e w 1 RInt (some ad) c xs) :
  ∃ g, ad = ⟨g, 0, none⟩ ∧ base ≤ g ∧ g < w.heap.size ∧ xs.length ≤ c ∧ c ≤ maxLen ∧ Holds (Value.int .i64) w g 0 xs.toArray := by
 have hi := h.ints
 rcases hi.2 with ⟨hv, _⟩ | ⟨g, cap, cur, hv, hg, hh, hnc, hm, hs, ht⟩
 ·simp at hv
 ·simp only [Value.slice.injEq, Option.some.injEq] at hv
  obtain ⟨rfl, _, rfl⟩ := hv
  refine ⟨g, rfl, hg, (Array.getElem?_eq_some_iff.1 hh).1, hnc, hm, fun j hj => ?_⟩
  simp only [List.size_toArray] at hj
  rw [Nat.zero_add]
  refine ⟨?_, hi.frozenAt j⟩
  rw [hi.cellAt j (by omega)]
  simp [hj]
theorem grownBy_row {w : World} {n g : Nat} {d : Array Int} {os : Array Obj} : w.grownBy (grow (putRow (Value.int .i64) (Sort.ahead w n) g 0 d) os) (some g) := by
 refine ⟨rfl, rfl, rfl, by simp [grow, Sort.ahead], fun k hk hne => ?_⟩
 rw [heap_grow_old _ _ (by simpa [Sort.ahead] using hk)]
 simp only [putRow, mapBlock, Array.getElem?_modify, Sort.ahead]
 rw [if_neg (fun e => hne (by rw [e]))]
theorem Own.put {base : Nat} {e : TypeId} {w : World} {g c : Nat} {xs ys : List Int} (h : Own base e w 1 RInt (some ⟨g, 0, none⟩) c xs) (hl : ys.length = xs.length) (n : Nat) (os : Array Obj) :
  Own base e (grow (putRow (Value.int .i64) (Sort.ahead w n) g 0 ys.toArray) os) 1 RInt (some ⟨g, 0, none⟩) c ys := by
 apply Own.of_ints
 have hi := h.ints
 rcases hi.2 with ⟨hv, _⟩ | ⟨g', cap, cur, hv, hg, hh, hnc, hm, hs, ht⟩
 ·simp at hv
 ·simp only [Value.slice.injEq, Option.some.injEq, Addr.mk.injEq] at hv
  obtain ⟨⟨rfl, _, _⟩, _, rfl⟩ := hv
  have hlt := (Array.getElem?_eq_some_iff.1 hh).1
  refine ⟨by simp, .inr ⟨g, c, putCells (Value.int .i64) 0 ys.toArray cur, rfl, hg, ?_, by omega, hm, by simpa [putCells] using hs, ?_⟩⟩
  ·rw [heap_grow_old _ _ (by simpa [Sort.ahead] using hlt)]
   simp only [putRow, mapBlock, Array.getElem?_modify, Sort.ahead, hh, if_true, Option.map_some, onCells]
  ·apply List.ext_getElem?
   intro i
   simp only [Nat.mul_one] at hs ⊢
   by_cases hi : i < ys.length
   ·rw [List.getElem?_take_of_lt hi]
    simp only [putCells, Array.toList_mapIdx, List.getElem?_mapIdx, List.getElem?_map]
    rw [gEg (by simp [hs]; omega), gEg hi]
    simp [hi]
   ·rw [List.getElem?_eq_none (by simp; omega), List.getElem?_eq_none (by simp; omega)]
theorem Own.front {base : Nat} {e : TypeId} {w : World} {α : Type} {sz : Nat} {R : List Value → α → Prop} {a : Option Addr} {c : Nat} {ys zs : List α} (h : Own base e w sz R a c (ys ++ zs)) : Own base e w sz R a c ys := by
 obtain ⟨css, h1, h2, h3, h4⟩ := h
 have hle : ys.length ≤ css.length := by rw [h1]; simp
 have hfl : (css.take ys.length).flatten = css.flatten.take (ys.length * sz) := by
  have e1 : css.flatten = (css.take ys.length).flatten ++ (css.drop ys.length).flatten := by rw [← List.flatten_append, List.take_append_drop]
  have e2 : (css.take ys.length).flatten.length = ys.length * sz := by
   rw [flatten_length fun cs hc => (h2 cs (List.mem_of_mem_take hc)).1, List.length_take, Nat.min_eq_left hle]
  rw [e1, ← e2, List.take_left']
  rfl
 refine ⟨css.take ys.length, by simp [hle], fun cs hc => h2 cs (List.mem_of_mem_take hc), fun i x cs hx hc => ?_, ?_, ?_⟩
 ·have hi : i < ys.length := (gEs hx).1
  rw [List.getElem?_take_of_lt hi] at hc
  exact h3 i x cs (by rw [List.getElem?_append_left hi]; exact hx) hc
 ·rw [hfl, List.length_take, h4.1, List.length_append]
  exact Nat.min_eq_left (Nat.mul_le_mul_right _ (by omega))
 ·rcases h4.2 with ⟨hv, hn⟩ | ⟨g, cap, cur, hv, hg, hh, hnc, hm, hs, ht⟩
  ·have : ys = [] := List.eq_nil_of_length_eq_zero (by have := @List.length_append _ ys zs; omega)
   subst this
   simp only [Value.slice.injEq] at hv
   obtain ⟨rfl, _, rfl⟩ := hv
   exact .inl ⟨rfl, rfl⟩
  ·simp only [Value.slice.injEq] at hv
   obtain ⟨rfl, _, rfl⟩ := hv
   refine .inr ⟨g, c, cur, rfl, hg, hh, by simp at hnc; omega, hm, hs, ?_⟩
   rw [hfl, ← ht, List.take_take, Nat.min_eq_left (Nat.mul_le_mul_right _ (by simp))]
theorem compact_sorted {l : List Int} (h : l.Pairwise (·≤ ·)) : Rising (Lib.compact l) ∧ ∀ z, z ∈ Lib.compact l ↔ z ∈ l := by
 have hget : ∀ j, j < l.length → l.toArray[j]! = l.getD j 0 := fun j hj => by simp [List.getD, hj]
 have hle : ∀ i j, i < j → j < l.length → l.getD i 0 ≤ l.getD j 0 := by
  intro i j hij hj
  have := List.pairwise_iff_getElem.1 h i j (by omega) hj hij
  simpa [List.getD, hj, show i < l.length by omega] using this
 have key : ∀ m, m ≤ l.length → Rising (Lib.compactUpTo l.toArray m) ∧ ∀ z, z ∈ Lib.compactUpTo l.toArray m ↔ ∃ j, j < m ∧ l.getD j 0 = z := by
  intro m
  induction m with
  | zero => exact fun _ => ⟨by simp [Lib.compactUpTo], fun z => by simp [Lib.compactUpTo]⟩
  | succ m ih =>
   intro hm
   obtain ⟨h1, h2⟩ := ih (by omega)
   rw [Lib.compactUpTo_succ]
   by_cases hk : Lib.keeps l.toArray m = true
   ·rw [if_pos hk, hget m (by omega)]
    simp only [Lib.keeps, decide_eq_true_eq] at hk
    have hlt : ∀ j, j < m → l.getD j 0 < l.getD m 0 := by
     intro j hj
     rcases hk with hk | hk
     ·omega
     ·rw [hget m (by omega), hget (m - 1) (by omega)] at hk
      have a1 := hle (m - 1) m (by omega) (by omega)
      by_cases hj' : j = m - 1
      ·subst hj'; omega
      ·have a2 := hle j (m - 1) (by omega) (by omega); omega
    refine ⟨List.pairwise_append.2 ⟨h1, by simp, fun x hx y hy => ?_⟩, fun z => ?_⟩
    ·simp at hy
     subst hy
     obtain ⟨j, hj, rfl⟩ := (h2 x).1 hx
     simpa [List.getD] using hlt j hj
    ·rw [List.mem_append, h2]
     simp only [List.mem_singleton]
     constructor
     ·rintro (⟨j, hj, e⟩ | e)
      ·exact ⟨j, by omega, e⟩
      ·exact ⟨m, by omega, e.symm⟩
     ·rintro ⟨j, hj, e⟩
      by_cases hj' : j = m
      ·subst hj'; exact .inr e.symm
      ·exact .inl ⟨j, by omega, e⟩
   ·rw [if_neg hk, List.append_nil]
    refine ⟨h1, fun z => (h2 z).trans ?_⟩
    simp only [Lib.keeps, decide_eq_true_eq, not_or, Decidable.not_not] at hk
    rw [hget m (by omega), hget (m - 1) (by omega)] at hk
    constructor
    ·rintro ⟨j, hj, e⟩; exact ⟨j, by omega, e⟩
    ·rintro ⟨j, hj, e⟩
     by_cases hj' : j = m
     ·subst hj'; exact ⟨j - 1, by omega, by rw [← hk.2]; exact e⟩
     ·exact ⟨j, by omega, e⟩
 obtain ⟨h1, h2⟩ := key l.length (Nat.le_refl _)
 refine ⟨h1, fun z => (h2 z).trans ?_⟩
 rw [List.mem_iff_getElem]
 constructor
 ·rintro ⟨j, hj, e⟩; exact ⟨j, hj, by simpa [List.getD, hj] using e⟩
 ·rintro ⟨j, hj, e⟩; exact ⟨j, hj, by simpa [List.getD, hj] using e⟩
theorem sort_compact (l : List Int) : Lib.compact (l.mergeSort fun x y => decide (x ≤ y)) = uniq l := by
 have hs : (l.mergeSort fun x y => decide (x ≤ y)).Pairwise (·≤ ·) := by
  have := List.pairwise_mergeSort (le := fun x y : Int => decide (x ≤ y)) (by simp; omega) (by simp; omega) l
  exact this.imp (by simp)
 obtain ⟨h1, h2⟩ := compact_sorted hs
 exact uniq_of h1 fun z => (h2 z).trans (List.mergeSort_perm l _).mem_iff
end Go.Proofs.Ytealbofmlieicaa
