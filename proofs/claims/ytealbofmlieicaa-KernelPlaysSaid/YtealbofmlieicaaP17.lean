/- Walks and plain laws, part 17. -/
import Derived.Test.YtealbofmlieicaaP6
import Derived.Test.YtealbofmlieicaaP5
import Derived.Test.YtealbofmlieicaaSh
set_option linter.unusedSimpArgs false
set_option linter.unusedVariables false
set_option maxHeartbeats 16000000
set_option maxRecDepth 100000
namespace Go.Proofs.Ytealbofmlieicaa
open Go.RowKit Go.Sort
theorem slices_Sort_own {base : Nat} {w : World} {o : Option Addr} {c : Nat} {l : List Int} (hO : Own base 3 w 1 RInt o c l) (hl : l.length ≤ 4611686018427387903) :
  Calls Try.prog 58 #[.slice o l.length c] w fun e w' => e = .returned (.tuple #[]) ∧ Own base 3 w' 1 RInt o c (l.mergeSort fun x y => decide (x ≤ y)) ∧ w.grownBy w' (o.map (·.block)) := by
 cases o with
 | none =>
  have hS := hO.slr (ok := fun _ => True) fun _ _ => trivial
  have h0 := hS.2.2.1 rfl
  obtain rfl : l = [] := List.eq_nil_of_length_eq_zero (by have := hS.1; omega)
  refine (Try.slices_Sort_int_none none c w).mono fun e w' h => ?_
  obtain ⟨h1, h2⟩ := h
  subst h2
  exact ⟨h1, by simpa using hO, World.grownBy.refl _ _⟩
 | some ad =>
  obtain ⟨g, rfl, hg, hlt, hc, hm, hH⟩ := hO.holds
  refine (Try.slices_Sort_int g 0 c l w hH hlt (by omega)).mono fun e w' h => ?_
  obtain ⟨h1, n, os, h2⟩ := h
  subst h2
  refine ⟨h1, ?_, grownBy_row⟩
  exact hO.put (List.length_mergeSort l) n os
theorem slices_Compact_own {base : Nat} {w : World} {o : Option Addr} {c : Nat} {l : List Int} (hO : Own base 3 w 1 RInt o c l) (hl : l.length ≤ 4611686018427387903) :
  Calls Try.prog 59 #[.slice o l.length c] w fun e w' => e = .returned (.slice o (Lib.compact l).length c) ∧ Own base 3 w' 1 RInt o c (Lib.compact l) ∧ w.grownBy w' (o.map (·.block)) := by
 cases o with
 | none =>
  have hS := hO.slr (ok := fun _ => True) fun _ _ => trivial
  have h0 := hS.2.2.1 rfl
  obtain rfl : l = [] := List.eq_nil_of_length_eq_zero (by have := hS.1; omega)
  refine (Try.slices_Compact_int_empty none c w).mono fun e w' h => ?_
  obtain ⟨h1, h2⟩ := h
  subst h2
  exact ⟨h1, by simpa [Lib.compact, Lib.compactUpTo] using hO, World.grownBy.refl _ _⟩
 | some ad =>
  obtain ⟨g, rfl, hg, hlt, hc, hm, hH⟩ := hO.holds
  refine (Try.slices_Compact_int g 0 c l w hH (by omega) hc).mono fun e w' h => ?_
  obtain ⟨h1, q, h2⟩ := h
  subst h2
  have hle : (Lib.compact l).length ≤ l.length := by
   unfold Lib.compact Lib.compactUpTo
   rw [List.length_map]
   exact Nat.le_trans (List.length_filter_le _ _) (by simp)
  have hp := hO.put (ys := Lib.compact l ++ List.replicate (l.length - (Lib.compact l).length) 0) (by simp; omega) q #[]
  have e0 : ∀ ww : World, grow ww #[] = ww := fun ww => by simp [grow]
  rw [e0] at hp
  refine ⟨h1, ?_, ?_⟩
  ·exact hp.front
  ·have := @grownBy_row w q g (Lib.compact l ++ List.replicate (l.length - (Lib.compact l).length) 0).toArray #[]
   rwa [e0] at this
open Go.RowKit
theorem label_each (ok : Nat → Prop) (w : World) (la lb : Option Addr) (ca cb : Nat) (a b : List Lev) (hl : (a.length + b.length) * 16 ≤ 140737488355328) (hA : SlR ok w 2 RLev la ca a) (hB : SlR ok w 2 RLev lb cb b) :
  Calls Try.prog 47 #[.slice la a.length ca, .slice lb b.length cb] w fun e w' => ∃ o c, e = .returned (.slice o (eachL a b).length c) ∧ Below w.heap.size w w' ∧ Own w.heap.size 3 w' 1 RInt o c (eachL a b) := by
 obtain ⟨i0, hi, hz0, hz1, hz2⟩ := info_parts info_Level
 obtain ⟨j0, hj, hy0, hy1, hy2⟩ := info_parts info_int
 go_enter Try.func47, Try.ntmps47
 go_wp2_with (first
  | (go_at_call 57; refine (slices_Clone_Label ok _ _ _ _ (by omega) hA).mono ?_; rintro e w1 ⟨a1, c1, rfl, hb1, hO1⟩)
  | (at_builtin; refine wpList_app rfl _ _ 30 rfl 88 i0 _ 2 16 Try.underlying30 hi hz0 hz1 hz2 rfl (by decide) rfl rfl hO1 rfl rfl (hB.below hb1) ?_ ?_ ?_ ?_))
 ·exact hl
 ·simp [maxLen]; omega
 ·exact hb1.size
 ·intro a2 c2 w2 hO2 hg2 _
  have hb2 : Below w.heap.size w w2 := hO1.grown hb1 hg2 (Nat.le_refl _) hb1.size
  have hs2 := hb2.size
  have hS : SlR (fun _ => True) w2 2 RLev a2 c2 (a ++ b) := hO2.slr fun _ _ => trivial
  clear hO2 hO1 hg2 hA hB hb1 hi hz0 hz1 hz2
  have hn : (a ++ b).length = a.length + b.length := List.length_append
  generalize hab : a ++ b = ab at hS hn
  have HN := qh hn
  have HAB := qh hab
  clear hn hab
  have hab8 : (a.length + b.length) * 16 ≤ 140737488355328 := hl
  generalize hnn : a.length + b.length = n at HN hl hab8 ⊢
  clear hnn
  go_wp2
  go_loopw [5, 13] (fun v i wr => ∃ (k : Nat) (o : Option Addr) (c : Nat), k ≤ n ∧ i = .int .i64 k ∧ v = .slice o k c ∧ Own w2.heap.size 3 wr 1 RInt o c ((catsOf ab).take k) ∧ Below w2.heap.size w2 wr) (fun _ i _ => n - (intOf i).toNat)
  case atStart => exact ⟨0, none, 0, Nat.zero_le _, rfl, rfl, Own.nil _ _ _ _ _, Below.refl _ _⟩
  case round =>
   obtain ⟨k, o, c, hk, rfl, rfl, hO, hB⟩ := hrel
   by_cases hlt : k < n
   ·have hlt' : k < ab.length := by rw [HN.out]; exact hlt
    obtain ⟨b0, o0, rfl, hb, h1, h2⟩ := (hS.below hB).lev_at k hlt'
    go_wp2_with (first
     | (at_builtin; go_must (refine wpList_app rfl _ _ 31 rfl 3 j0 _ 1 8 Try.underlying31 hj hy0 hy1 hy2 rfl (by decide) rfl ?x1 ((hO.below ((Below.refl _ _).alloc (Nat.le_refl _) _)).below ((Below.refl _ _).alloc (Nat.le_refl _) _)) rfl rfl (SlR.one (ok := fun _ => True) [.int .i64 ab[k].c] _ ab[k].c (by simp) rfl rfl (by simp [Value.oneCell']) trivial) ?_ ?_ ?_ ?_)))
    case x1 => simp [catsOf, HN.out]; omega
    ·simp [catsOf, HN.out]; omega
    ·simp [catsOf, HN.out, maxLen]; omega
    ·have := hB.size; simp; omega
    ·intro a' c' w' hO' hg' _
     have hB' : Below w2.heap.size w2 w' := ((hO.below ((Below.refl _ _).alloc (Nat.le_refl _) _)).below ((Below.refl _ _).alloc (Nat.le_refl _) _)).grown ((hB.alloc hB.size _).alloc (by have := hB.size; simp; omega) _) hg' (Nat.le_refl _) (by have := hB.size; simp; omega)
     have e : (catsOf ab).take k ++ [ab[k].c] = (catsOf ab).take (k + 1) := by
      rw [List.take_succ_eq_append_getElem (by simpa [catsOf] using hlt')]
      simp [catsOf]
     rw [e] at hO'
     have HE := qh e
     clear e hO hg' h1 h2
     go_wp2
     go_roundw
     case rel => exact ⟨k + 1, a', c', hlt, by go_num, rfl, hO', hB'⟩
     case measure => simp [intOf]; omega
   ·have hkn : k = n := by omega
    subst hkn
    have e1 : (catsOf ab).take k = catsOf ab := List.take_of_length_le (by simp [catsOf, HN.out])
    have e2 : (catsOf ab).length = k := by simp [catsOf, HN.out]
    have e3 : Lib.compact ((catsOf ab).mergeSort fun x y => decide (x ≤ y)) = eachL a b := by
     rw [sort_compact, ← HAB.out, eachL]; simp [catsOf]
    rw [e1] at hO
    have E2 := qh e2
    have E3 := qh e3
    clear e1 e2 e3
    go_wp2_with fail
    rw [← E2.out]
    refine (slices_Sort_own hO (by rw [E2.out]; omega)).mono ?_
    rintro e w3 ⟨rfl, hO3, hg3⟩
    have hB3 := hO.grown hB hg3 (Nat.le_refl _) hB.size
    have e4 : (catsOf ab).length = ((catsOf ab).mergeSort fun x y => decide (x ≤ y)).length := by simp
    have E4 := qh e4
    clear e4 hO hg3 hB
    go_wp2_with fail
    rw [E4.out]
    refine (slices_Compact_own hO3 (by rw [← E4.out, E2.out]; omega)).mono ?_
    rintro e w4 ⟨rfl, hO4, hg4⟩
    have hB4 := hO3.grown hB3 hg4 (Nat.le_refl _) hB3.size
    rw [E3.out] at hO4 ⊢
    clear hO3 hg4 hB3
    go_wp2
    go_ret
    exact ⟨o, c, rfl, hb2.trans (hB4.mono hs2), hO4.le hs2⟩
theorem label_Flows (ok : Nat → Prop) (w : World) (la lb lo : Option Addr) (ca cb co : Nat) (a b : List Lev) (own : List Int) (hl : (a.length + b.length) * 16 ≤ 140737488355328) (hlo : own.length * 8 ≤ 140737488355328)
  (hA : SlR ok w 2 RLev la ca a) (hB : SlR ok w 2 RLev lb cb b) (hC : SlR ok w 1 RInt lo co own) :
  Calls Try.prog 21 #[.slice la a.length ca, .slice lb b.length cb, .slice lo own.length co] w fun e w' => e = .returned (.bool (flowsL a b own)) ∧ Below w.heap.size w w' := by
 have E0 := qh (show flowsL a b own = flowsFrom a b own (eachL a b) from rfl)
 go_enter Try.func21, Try.ntmps21
 go_wp2_with (first
  | (go_at_call 47; refine (label_each ok _ _ _ _ _ _ _ hl hA hB).mono ?_; rintro e w1 ⟨o, c, rfl, hb1, hO1⟩))
 have hS : SlR (fun _ => True) w1 1 RInt o c (eachL a b) := hO1.slr fun _ _ => trivial
 have hb1s := hb1.size
 generalize eachL a b = es at hS E0 ⊢
 have hes : es.length ≤ 9223372036854775807 := by have h1 := hS.1; have h2 := hS.2.1; unfold maxLen at h2; omega
 go_loopw [13] (fun i wr => ∃ k : Nat, k ≤ es.length ∧ i = .int .i64 k ∧ Below w1.heap.size w1 wr ∧ Hid (flowsL a b own = flowsFrom a b own (es.drop k))) (fun i _ => es.length - (intOf i).toNat)
 case atStart => exact ⟨0, Nat.zero_le _, rfl, Below.refl _ _, E0.out⟩
 case round =>
  obtain ⟨k, hk, rfl, hB', hI⟩ := hrel
  by_cases hlt : k < es.length
  ·obtain ⟨b0, o0, rfl, hb, h1⟩ := (hS.below hB').int_at k hlt
   have hbr : Below w.heap.size w wr := hb1.trans (hB'.mono hb1s)
   by_cases hgt : lAt b es[k] < lAt a es[k]
   ·cases hin : inL own es[k]
    all_goals
     have HIN := qh hin
     clear hin
     go_wp2_with fail
     refine (label_At ok _ _ _ _ _ (by omega) (hA.below hbr)).mono ?_
     rintro e w2 ⟨rfl, hb2⟩
     have hb2' := hbr.keep hb2
     go_wp2_with fail
     refine (label_At ok _ _ _ _ _ (by omega) (hB.below hb2')).mono ?_
     rintro e w3 ⟨rfl, hb3⟩
     have hb3' := hb2'.keep hb3
     go_wp2_with fail
     refine (slices_Contains_int ok _ _ _ _ _ (by omega) (hC.below hb3')).mono ?_
     rintro e w4 ⟨rfl, rfl⟩
     rw [HIN.out]
     go_wp2
    ·go_ret
     have e : flowsL a b own = false := by rw [hI.out, drop_at hlt, flowsFrom, if_pos hgt, if_neg (by rw [HIN.out]; simp)]
     exact ⟨by rw [e]; rfl, hb3'⟩
    ·go_roundw
     case rel => exact ⟨k + 1, hlt, by go_num, (hB'.keep hb2).keep hb3, by rw [hI.out, drop_at hlt, flowsFrom, if_pos hgt, if_pos HIN.out]; rfl⟩
     case measure => simp [intOf]; omega
   ·go_wp2_with fail
    refine (label_At ok _ _ _ _ _ (by omega) (hA.below hbr)).mono ?_
    rintro e w2 ⟨rfl, hb2⟩
    have hb2' := hbr.keep hb2
    go_wp2_with fail
    refine (label_At ok _ _ _ _ _ (by omega) (hB.below hb2')).mono ?_
    rintro e w3 ⟨rfl, hb3⟩
    have hb3' := hb2'.keep hb3
    go_wp2
    go_roundw
    case rel => exact ⟨k + 1, hlt, by go_num, (hB'.keep hb2).keep hb3, by rw [hI.out, drop_at hlt, flowsFrom, if_neg (by omega)]; rfl⟩
    case measure => simp [intOf]; omega
  ·go_wp2
   go_ret
   have e : flowsL a b own = true := by rw [hI.out, List.drop_of_length_le (by omega), flowsFrom]
   exact ⟨by rw [e]; rfl, hb1.trans (hB'.mono hb1s)⟩
end Go.Proofs.Ytealbofmlieicaa
