/- The library's sort and compact on a slice of numbers that is the call's own. -/
import Derived.Test.YtbngblmdcggfdaaSlices
import Derived.Test.YtbngblmdcggfdaaInts
import Derived.Test.YtbngblmdcggfdaaShelf
set_option linter.unusedSimpArgs false
set_option linter.unusedVariables false
namespace Go.Proofs.Ytbngblmdcggfdaa
open Go.RowKit Go.Sort

theorem slices_Sort_own {base : Nat} {w : World} {o : Option Addr} {c : Nat} {l : List Int} (hO : Own base 3 w 1 RInt o c l) (hl : l.length ≤ 4611686018427387903) :
    Calls Try.prog 31 #[.slice o l.length c] w fun e w' => e = .returned (.tuple #[]) ∧ Own base 3 w' 1 RInt o c (l.mergeSort fun x y => decide (x ≤ y)) ∧ w.grownBy w' (o.map (·.block)) := by
  cases o with
  | none =>
    have hS := hO.slr (ok := fun _ => True) fun _ _ => trivial
    have h0 := hS.2.2.1 rfl
    obtain rfl : l = [] := List.eq_nil_of_length_eq_zero (by have := hS.1; omega)
    refine (Try.slices_Sort_int_none none c w).mono fun e w' h => ?_
    obtain ⟨h1, h2⟩ := h
    subst h2
    exact ⟨h1, by simpa using hO, World.grownBy.refl _ _⟩
  | some ad =>
    obtain ⟨g, rfl, hg, hlt, hc, hm, hH⟩ := hO.holds
    refine (Try.slices_Sort_int g 0 c l w hH hlt (by omega)).mono fun e w' h => ?_
    obtain ⟨h1, n, os, h2⟩ := h
    subst h2
    refine ⟨h1, ?_, grownBy_row⟩
    exact hO.put (List.length_mergeSort l) n os

theorem slices_Compact_own {base : Nat} {w : World} {o : Option Addr} {c : Nat} {l : List Int} (hO : Own base 3 w 1 RInt o c l) (hl : l.length ≤ 4611686018427387903) :
    Calls Try.prog 32 #[.slice o l.length c] w fun e w' => e = .returned (.slice o (Lib.compact l).length c) ∧ Own base 3 w' 1 RInt o c (Lib.compact l) ∧ w.grownBy w' (o.map (·.block)) := by
  cases o with
  | none =>
    have hS := hO.slr (ok := fun _ => True) fun _ _ => trivial
    have h0 := hS.2.2.1 rfl
    obtain rfl : l = [] := List.eq_nil_of_length_eq_zero (by have := hS.1; omega)
    refine (Try.slices_Compact_int_empty none c w).mono fun e w' h => ?_
    obtain ⟨h1, h2⟩ := h
    subst h2
    exact ⟨h1, by simpa [Lib.compact, Lib.compactUpTo] using hO, World.grownBy.refl _ _⟩
  | some ad =>
    obtain ⟨g, rfl, hg, hlt, hc, hm, hH⟩ := hO.holds
    refine (Try.slices_Compact_int g 0 c l w hH (by omega) hc).mono fun e w' h => ?_
    obtain ⟨h1, q, h2⟩ := h
    subst h2
    have hle : (Lib.compact l).length ≤ l.length := by
      unfold Lib.compact Lib.compactUpTo
      rw [List.length_map]
      exact Nat.le_trans (List.length_filter_le _ _) (by simp)
    have hp := hO.put (ys := Lib.compact l ++ List.replicate (l.length - (Lib.compact l).length) 0) (by simp; omega) q #[]
    have e0 : ∀ ww : World, grow ww #[] = ww := fun ww => by simp [grow]
    rw [e0] at hp
    refine ⟨h1, ?_, ?_⟩
    · exact hp.front
    · have := @grownBy_row w q g (Lib.compact l ++ List.replicate (l.length - (Lib.compact l).length) 0).toArray #[]
      rwa [e0] at this

end Go.Proofs.Ytbngblmdcggfdaa
