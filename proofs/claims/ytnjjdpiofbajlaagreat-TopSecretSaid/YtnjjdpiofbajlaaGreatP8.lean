/- Walks and plain laws, part 8. -/
import Derived.Test.YtnjjdpiofbajlaaGreatP7
import Derived.Test.YtnjjdpiofbajlaaGreatProg
set_option linter.unusedSimpArgs false
set_option linter.unusedVariables false
set_option maxHeartbeats 16000000
set_option maxRecDepth 100000
namespace Go.Proofs.YtnjjdpiofbajlaaGreat
open Go.RowKit
def pickL (p : Int → Bool) (l : List Lev) (k : Nat) : List Lev := (l.take k).filter fun x => p x.c
theorem pickL_zero (p : Int → Bool) (l : List Lev) : pickL p l 0 = [] := rfl
theorem pickL_yes {p : Int → Bool} {l : List Lev} {k : Nat} (h : k < l.length) (hp : p l[k].c = true) : pickL p l (k + 1) = pickL p l k ++ [l[k]] := by
 unfold pickL; rw [List.take_succ_eq_append_getElem h, List.filter_append]; simp [hp]
theorem pickL_no {p : Int → Bool} {l : List Lev} {k : Nat} (h : k < l.length) (hp : p l[k].c = false) : pickL p l (k + 1) = pickL p l k := by
 unfold pickL; rw [List.take_succ_eq_append_getElem h, List.filter_append]; simp [hp]
theorem pickL_all (p : Int → Bool) (l : List Lev) : pickL p l l.length = l.filter fun x => p x.c := by
 unfold pickL; rw [List.take_length]
theorem pickL_le (p : Int → Bool) (l : List Lev) (k : Nat) : (pickL p l k).length ≤ l.length :=
 Nat.le_trans (List.length_filter_le _ _) (List.length_take_le' _ _)
theorem label_Set (ok : Nat → Prop) (w : World) (la : Option Addr) (lc : Nat) (l : List Lev) (c n : Int) (hl : l.length * 16 ≤ 140737488355328) (hR : SlR ok w 2 RLev la lc l) :
  Calls Tryz.prog 73 #[.slice la l.length lc, .int .i64 c, .int .i64 n] w fun e w' => ∃ o k, e = .returned (.tuple #[.slice o (setR l c n).1.length k, .int .i64 (setR l c n).2]) ∧ Below w.heap.size w w' ∧ Own w.heap.size 73 w' 2 RLev o k (setR l c n).1 := by
 by_cases hbad : goodL l = true ∧ (0 ≤ c ∧ c < 80) ∧ 0 ≤ n ∧ n ≤ 3
 case neg =>
  have HE := qh (show setR l c n = ([], 2) by unfold setR; rw [if_neg hbad])
  rcases (show goodL l = false ∨ (goodL l = true ∧ ¬ (0 ≤ c ∧ c < 80)) ∨ (goodL l = true ∧ (0 ≤ c ∧ c < 80) ∧ n < 0) ∨ (goodL l = true ∧ (0 ≤ c ∧ c < 80) ∧ 0 ≤ n ∧ 3 < n) by
   cases hg : goodL l
   ·exact .inl rfl
   ·by_cases hc : 0 ≤ c ∧ c < 80
    ·by_cases hn : n < 0
     ·exact .inr (.inr (.inl ⟨rfl, hc, hn⟩))
     ·exact .inr (.inr (.inr ⟨rfl, hc, by omega, Int.not_le.1 fun h => hbad ⟨hg, hc, by omega, h⟩⟩))
    ·exact .inr (.inl ⟨rfl, hc⟩)) with h | ⟨h, hc⟩ | ⟨h, hc, hn⟩ | ⟨h, hc, hn, hn'⟩
  ·have HG := qh h
   clear h hbad
   go_enter Tryz.func73, Tryz.ntmps73
   go_wp2_with (first | (go_at_call 70; refine (label_Good ok _ _ _ _ hl hR).mono ?_; rintro e w1 ⟨rfl, hb1⟩; rw [HG.out]))
   refine bodyPost_ret (v := .tuple #[.slice none 0 0, .int .i64 2]) (by simp [results, Tryz.results73, go_sem]) rfl ?_
   rw [HE.out]
   exact ⟨none, 0, rfl, hb1, Own.nil ..⟩
  ·have HG := qh h
   have HC := qh (show decide (0 ≤ c ∧ c < 80) = false by simpa using hc)
   clear h hbad hc
   go_enter Tryz.func73, Tryz.ntmps73
   go_wp2_with (first | (go_at_call 70; refine (label_Good ok _ _ _ _ hl hR).mono ?_; rintro e w1 ⟨rfl, hb1⟩; rw [HG.out]) | (go_at_call 91; refine (label_Category _ _).mono ?_; rintro e w2 ⟨rfl, rfl⟩; rw [HC.out]))
   refine bodyPost_ret (v := .tuple #[.slice none 0 0, .int .i64 2]) (by simp [results, Tryz.results73, go_sem]) rfl ?_
   rw [HE.out]
   exact ⟨none, 0, rfl, hb1, Own.nil ..⟩
  ·have HG := qh h
   have HC := qh (show decide (0 ≤ c ∧ c < 80) = true by simpa using hc)
   clear h hbad hc
   go_enter Tryz.func73, Tryz.ntmps73
   go_wp2_with (first | (go_at_call 70; refine (label_Good ok _ _ _ _ hl hR).mono ?_; rintro e w1 ⟨rfl, hb1⟩; rw [HG.out]) | (go_at_call 91; refine (label_Category _ _).mono ?_; rintro e w2 ⟨rfl, rfl⟩; rw [HC.out]))
   refine bodyPost_ret (v := .tuple #[.slice none 0 0, .int .i64 2]) (by simp [results, Tryz.results73, go_sem]) rfl ?_
   rw [HE.out]
   exact ⟨none, 0, rfl, hb1, Own.nil ..⟩
  ·have HG := qh h
   have HC := qh (show decide (0 ≤ c ∧ c < 80) = true by simpa using hc)
   have d1 : decide (n < 0) = false := by simp; omega
   clear h hbad hc
   go_enter Tryz.func73, Tryz.ntmps73
   go_wp2_with (first | (go_at_call 70; refine (label_Good ok _ _ _ _ hl hR).mono ?_; rintro e w1 ⟨rfl, hb1⟩; rw [HG.out]) | (go_at_call 91; refine (label_Category _ _).mono ?_; rintro e w2 ⟨rfl, rfl⟩; rw [HC.out]))
   refine bodyPost_ret (v := .tuple #[.slice none 0 0, .int .i64 2]) (by simp [results, Tryz.results73, go_sem]) rfl ?_
   rw [HE.out]
   exact ⟨none, 0, rfl, hb1, Own.nil ..⟩
 case pos =>
  obtain ⟨i0, hi, hz0, hz1, hz2⟩ := info_parts info_Level
  obtain ⟨hg, hc, hn1, hn2⟩ := hbad
  have h8 := ((goodL_iff l).1 hg).1
  have HE := qh (show setR l c n = if (setL l c n).length ≤ 8 then (setL l c n, 0) else ([], 5) by unfold setR; rw [if_pos ⟨hg, hc, hn1, hn2⟩])
  have HG := qh hg
  have HC := qh (show decide (0 ≤ c ∧ c < 80) = true by simpa using hc)
  have d1 : decide (n < 0) = false := by simp; omega
  have d2 : decide (3 < n) = false := by simp; omega
  clear hg hc hl
  go_enter Tryz.func73, Tryz.ntmps73
  go_wp2_with (first | (go_at_call 70; refine (label_Good ok _ _ _ _ (by omega) hR).mono ?_; rintro e w1 ⟨rfl, hb1⟩; rw [HG.out]) | (go_at_call 91; refine (label_Category _ _).mono ?_; rintro e w2 ⟨rfl, rfl⟩; rw [HC.out]))
  have hS : SlR ok w1 2 RLev la lc l := hR.below hb1
  have hs1 := hb1.size
  clear hR HG HC
  obtain ⟨p1, hp1⟩ : ∃ p : Int → Bool, (fun x => decide (x < c)) = p := ⟨_, rfl⟩
  have HP1 := qh (fun x => congrFun hp1 x)
  clear hp1
  go_loopw [8, 32] (fun v i wr => ∃ (k : Nat) (o : Option Addr) (cp m : Nat), k ≤ l.length ∧ i = .int .i64 k ∧ v = .slice o m cp ∧ Hid (m = (pickL p1 l k).length) ∧ Own w1.heap.size 73 wr 2 RLev o cp (pickL p1 l k) ∧ Below w1.heap.size w1 wr) (fun _ i _ => l.length - (intOf i).toNat)
  case atStart => exact ⟨0, none, 0, 0, Nat.zero_le _, rfl, rfl, rfl, Own.nil _ _ _ _ _, Below.refl _ _⟩
  case round =>
   obtain ⟨k, o, cp, m, hk, rfl, rfl, HM, hO, hB⟩ := hrel
   by_cases hlt : k < l.length
   ·obtain ⟨b0, o0, rfl, hb, q1, q2⟩ := (hS.below hB).lev_at k hlt
    have hle := pickL_le p1 l k
    by_cases hlc : l[k].c < c
    ·have HY := qh (pickL_yes (p := p1) hlt (by rw [← HP1.out]; simpa using hlc))
     go_wp2_with (first
      | (at_builtin; go_must (refine wpList_app rfl _ _ 27 rfl 73 i0 _ 2 16 Tryz.underlying27 hi hz0 hz1 hz2 rfl (by decide) rfl HM.out ((hO.below ((Below.refl _ _).alloc (Nat.le_refl _) _)).below ((Below.refl _ _).alloc (Nat.le_refl _) _)) rfl rfl (SlR.one (ok := fun _ => True) [.int .i64 l[k].c, .int .i64 l[k].l] _ l[k] (by simp) rfl rfl (by simp [Value.oneCell']) trivial) ?_ ?_ ?_ ?_)))
     ·simp; omega
     ·simp [maxLen]; omega
     ·have := hB.size; simp; omega
     ·intro a' c' w' hO' hg' _
      have hB' : Below w1.heap.size w1 w' := ((hO.below ((Below.refl _ _).alloc (Nat.le_refl _) _)).below ((Below.refl _ _).alloc (Nat.le_refl _) _)).grown ((hB.alloc hB.size _).alloc (by have := hB.size; simp; omega) _) hg' (Nat.le_refl _) (by have := hB.size; simp; omega)
      rw [← HY.out] at hO'
      have HM' := qh (show m + 1 = (pickL p1 l (k + 1)).length by rw [HY.out, HM.out]; simp)
      clear hO hg' q1 q2 HM
      go_wp2
      go_roundw
      case rel => exact ⟨k + 1, a', c', m + 1, hlt, by go_num, rfl, HM', hO', hB'⟩
      case measure => simp [intOf]; omega
    ·have HN := qh (pickL_no (p := p1) hlt (by rw [← HP1.out]; simpa using hlc))
     have hB' := hB.alloc hB.size (.cells #[.int .i64 l[k].c, .int .i64 l[k].l] 73)
     have hO' := hO.below ((Below.refl wr.heap.size wr).alloc (Nat.le_refl _) (.cells #[.int .i64 l[k].c, .int .i64 l[k].l] 73))
     go_wp2
     go_roundw
     case rel => exact ⟨k + 1, o, cp, m, hlt, by go_num, rfl, by rw [HN.out]; exact HM, by rw [HN.out]; exact hO', hB'⟩
     case measure => simp [intOf]; omega
   ·obtain rfl : k = l.length := by omega
    have e1 := pickL_all p1 l
    rw [e1] at HM hO
    have hm1 : (l.filter fun x => p1 x.c).length ≤ 8 := Nat.le_trans (List.length_filter_le _ _) h8
    have HF1 := qh (show l.filter (fun x => decide (x.c < c)) = l.filter fun x => p1 x.c by congr 1; funext x; exact HP1.out x.c)
    generalize l.filter (fun x => p1 x.c) = f1 at HM hO hm1 HF1
    obtain rfl := HM.out
    clear HM HP1 e1
    by_cases hn : n = 1
    ·have d3 : (n != 1) = false := by simp [hn]
     have HQQ := qh (show f1 ++ (if n = 1 then [] else [⟨c, n⟩]) = f1 by rw [if_pos hn, List.append_nil])
     clear hn
     go_wp2
     obtain ⟨p2, hp2⟩ : ∃ p : Int → Bool, (fun x => decide (c < x)) = p := ⟨_, rfl⟩
     have HP2 := qh (fun x => congrFun hp2 x)
     clear hp2
     go_loopw [8, 55] (fun v i wy => ∃ (k : Nat) (o : Option Addr) (cp m : Nat), k ≤ l.length ∧ i = .int .i64 k ∧ v = .slice o m cp ∧ Hid (m = (f1 ++ pickL p2 l k).length) ∧ Own w1.heap.size 73 wy 2 RLev o cp (f1 ++ pickL p2 l k) ∧ Below w1.heap.size w1 wy) (fun _ i _ => l.length - (intOf i).toNat)
     case atStart => exact ⟨0, _, _, _, Nat.zero_le _, rfl, rfl, by rw [pickL_zero, List.append_nil]; rfl, by rw [pickL_zero, List.append_nil]; exact hO, hB⟩
     case round =>
      clear hO hB
      obtain ⟨k, o, cp, m, hk, rfl, rfl, HM, hO, hB⟩ := hrel
      by_cases hlt : k < l.length
      ·obtain ⟨b0, o0, rfl, hb, q1, q2⟩ := (hS.below hB).lev_at k hlt
       have hle := pickL_le p2 l k
       by_cases hlc : c < l[k].c
       ·have HY := qh (pickL_yes (p := p2) hlt (by rw [← HP2.out]; simpa using hlc))
        go_wp2_with (first
         | (at_builtin; go_must (refine wpList_app rfl _ _ 27 rfl 73 i0 _ 2 16 Tryz.underlying27 hi hz0 hz1 hz2 rfl (by decide) rfl HM.out ((hO.below ((Below.refl _ _).alloc (Nat.le_refl _) _)).below ((Below.refl _ _).alloc (Nat.le_refl _) _)) rfl rfl (SlR.one (ok := fun _ => True) [.int .i64 l[k].c, .int .i64 l[k].l] _ l[k] (by simp) rfl rfl (by simp [Value.oneCell']) trivial) ?_ ?_ ?_ ?_)))
        ·simp; omega
        ·simp [maxLen]; omega
        ·have := hB.size; simp; omega
        ·intro a' c' w' hO' hg' _
         have hB' : Below w1.heap.size w1 w' := ((hO.below ((Below.refl _ _).alloc (Nat.le_refl _) _)).below ((Below.refl _ _).alloc (Nat.le_refl _) _)).grown ((hB.alloc hB.size _).alloc (by have := hB.size; simp; omega) _) hg' (Nat.le_refl _) (by have := hB.size; simp; omega)
         first | rw [← HY.out] at hO' | rw [List.append_assoc, ← HY.out] at hO'
         have HM' := qh (show m + 1 = (f1 ++ pickL p2 l (k + 1)).length by rw [HY.out, HM.out]; simp; omega)
         clear hO hg' q1 q2 HM
         go_wp2
         go_roundw
         case rel => exact ⟨k + 1, a', c', m + 1, hlt, by go_num, rfl, HM', hO', hB'⟩
         case measure => simp [intOf]; omega
       ·have HN := qh (pickL_no (p := p2) hlt (by rw [← HP2.out]; simpa using hlc))
        have hB' := hB.alloc hB.size (.cells #[.int .i64 l[k].c, .int .i64 l[k].l] 73)
        have hO' := hO.below ((Below.refl wr.heap.size wr).alloc (Nat.le_refl _) (.cells #[.int .i64 l[k].c, .int .i64 l[k].l] 73))
        go_wp2
        go_roundw
        case rel => exact ⟨k + 1, o, cp, m, hlt, by go_num, rfl, by rw [HN.out]; exact HM, by rw [HN.out]; exact hO', hB'⟩
        case measure => simp [intOf]; omega
      ·obtain rfl : k = l.length := by omega
       have e1 := pickL_all p2 l
       have e2 : (l.filter fun x => p2 x.c) = l.filter fun x => decide (c < x.c) := by congr 1; funext x; exact (HP2.out x.c).symm
       have e3 : f1 ++ pickL p2 l l.length = setL l c n := by rw [e1, e2, ← HQQ.out, ← HF1.out, setL, List.append_assoc]
       rw [e3] at HM hO
       clear e1 e2 e3 HQQ HF1 HP2
       generalize setL l c n = res at HM hO HE
       obtain rfl := HM.out
       clear HM
       by_cases h9 : res.length ≤ 8
       ·have HE2 := qh (show setR l c n = (res, 0) by rw [HE.out, if_pos h9])
        go_wp2
        refine bodyPost_ret (v := .tuple #[.slice o res.length cp, .int .i64 0]) (by simp [results, Tryz.results73, go_sem]) rfl ?_
        rw [HE2.out]
        exact ⟨o, cp, rfl, hb1.keep hB, hO.le hs1⟩
       ·have HE2 := qh (show setR l c n = ([], 5) by rw [HE.out, if_neg h9])
        go_wp2
        refine bodyPost_ret (v := .tuple #[.slice none 0 0, .int .i64 5]) (by simp [results, Tryz.results73, go_sem]) rfl ?_
        rw [HE2.out]
        exact ⟨none, 0, rfl, hb1.keep hB, Own.nil ..⟩
    ·have d3 : (n != 1) = true := by simpa using hn
     have HQQ := qh (show f1 ++ (if n = 1 then [] else [⟨c, n⟩]) = f1 ++ [⟨c, n⟩] by rw [if_neg hn])
     clear hn
     go_wp2_with (first
      | (at_builtin; go_must (refine wpList_app rfl _ _ 27 rfl 73 i0 _ 2 16 Tryz.underlying27 hi hz0 hz1 hz2 rfl (by decide) rfl rfl (hO.below ((Below.refl _ _).alloc (Nat.le_refl _) _)) rfl rfl (SlR.one (ok := fun _ => True) [.int .i64 c, .int .i64 n] _ (Lev.mk c n) (by simp) rfl rfl (by simp [Value.oneCell']) trivial) ?_ ?_ ?_ ?_)))
     ·simp; omega
     ·simp [maxLen]; omega
     ·have := hB.size; simp; omega
     ·intro a' c' w' hO' hg' _
      have hB' : Below w1.heap.size w1 w' := (hO.below ((Below.refl _ _).alloc (Nat.le_refl _) _)).grown (hB.alloc hB.size _) hg' (Nat.le_refl _) (by have := hB.size; simp; omega)
      have HPL := qh (show f1.length + 1 = (f1 ++ [(⟨c, n⟩ : Lev)]).length by simp)
      have hpl : (f1 ++ [(⟨c, n⟩ : Lev)]).length ≤ 9 := by simp; omega
      clear hO hB hg' hm1
      generalize f1 ++ [(⟨c, n⟩ : Lev)] = f2 at hO' HQQ HPL hpl
      go_wp2
      obtain ⟨p2, hp2⟩ : ∃ p : Int → Bool, (fun x => decide (c < x)) = p := ⟨_, rfl⟩
      have HP2 := qh (fun x => congrFun hp2 x)
      clear hp2
      go_loopw [8, 55] (fun v i wy => ∃ (k : Nat) (o : Option Addr) (cp m : Nat), k ≤ l.length ∧ i = .int .i64 k ∧ v = .slice o m cp ∧ Hid (m = (f2 ++ pickL p2 l k).length) ∧ Own w1.heap.size 73 wy 2 RLev o cp (f2 ++ pickL p2 l k) ∧ Below w1.heap.size w1 wy) (fun _ i _ => l.length - (intOf i).toNat)
      case atStart => exact ⟨0, _, _, _, Nat.zero_le _, rfl, rfl, by rw [pickL_zero, List.append_nil]; exact HPL.out, by rw [pickL_zero, List.append_nil]; exact hO', hB'⟩
      case round =>
       clear hO' hB'
       obtain ⟨k, o, cp, m, hk, rfl, rfl, HM, hO, hB⟩ := hrel
       by_cases hlt : k < l.length
       ·obtain ⟨b0, o0, rfl, hb, q1, q2⟩ := (hS.below hB).lev_at k hlt
        have hle := pickL_le p2 l k
        by_cases hlc : c < l[k].c
        ·have HY := qh (pickL_yes (p := p2) hlt (by rw [← HP2.out]; simpa using hlc))
         go_wp2_with (first
          | (at_builtin; go_must (refine wpList_app rfl _ _ 27 rfl 73 i0 _ 2 16 Tryz.underlying27 hi hz0 hz1 hz2 rfl (by decide) rfl HM.out ((hO.below ((Below.refl _ _).alloc (Nat.le_refl _) _)).below ((Below.refl _ _).alloc (Nat.le_refl _) _)) rfl rfl (SlR.one (ok := fun _ => True) [.int .i64 l[k].c, .int .i64 l[k].l] _ l[k] (by simp) rfl rfl (by simp [Value.oneCell']) trivial) ?_ ?_ ?_ ?_)))
         ·simp; omega
         ·simp [maxLen]; omega
         ·have := hB.size; simp; omega
         ·intro a' c' w' hO' hg' _
          have hB' : Below w1.heap.size w1 w' := ((hO.below ((Below.refl _ _).alloc (Nat.le_refl _) _)).below ((Below.refl _ _).alloc (Nat.le_refl _) _)).grown ((hB.alloc hB.size _).alloc (by have := hB.size; simp; omega) _) hg' (Nat.le_refl _) (by have := hB.size; simp; omega)
          first | rw [← HY.out] at hO' | rw [List.append_assoc, ← HY.out] at hO'
          have HM' := qh (show m + 1 = (f2 ++ pickL p2 l (k + 1)).length by rw [HY.out, HM.out]; simp; omega)
          clear hO hg' q1 q2 HM
          go_wp2
          go_roundw
          case rel => exact ⟨k + 1, a', c', m + 1, hlt, by go_num, rfl, HM', hO', hB'⟩
          case measure => simp [intOf]; omega
        ·have HN := qh (pickL_no (p := p2) hlt (by rw [← HP2.out]; simpa using hlc))
         have hB' := hB.alloc hB.size (.cells #[.int .i64 l[k].c, .int .i64 l[k].l] 73)
         have hO' := hO.below ((Below.refl wr.heap.size wr).alloc (Nat.le_refl _) (.cells #[.int .i64 l[k].c, .int .i64 l[k].l] 73))
         go_wp2
         go_roundw
         case rel => exact ⟨k + 1, o, cp, m, hlt, by go_num, rfl, by rw [HN.out]; exact HM, by rw [HN.out]; exact hO', hB'⟩
         case measure => simp [intOf]; omega
       ·obtain rfl : k = l.length := by omega
        have e1 := pickL_all p2 l
        have e2 : (l.filter fun x => p2 x.c) = l.filter fun x => decide (c < x.c) := by congr 1; funext x; exact (HP2.out x.c).symm
        have e3 : f2 ++ pickL p2 l l.length = setL l c n := by rw [e1, e2, ← HQQ.out, ← HF1.out, setL, List.append_assoc]
        rw [e3] at HM hO
        clear e1 e2 e3 HQQ HF1 HP2
        generalize setL l c n = res at HM hO HE
        obtain rfl := HM.out
        clear HM
        by_cases h9 : res.length ≤ 8
        ·have HE2 := qh (show setR l c n = (res, 0) by rw [HE.out, if_pos h9])
         go_wp2
         refine bodyPost_ret (v := .tuple #[.slice o res.length cp, .int .i64 0]) (by simp [results, Tryz.results73, go_sem]) rfl ?_
         rw [HE2.out]
         exact ⟨o, cp, rfl, hb1.keep hB, hO.le hs1⟩
        ·have HE2 := qh (show setR l c n = ([], 5) by rw [HE.out, if_neg h9])
         go_wp2
         refine bodyPost_ret (v := .tuple #[.slice none 0 0, .int .i64 5]) (by simp [results, Tryz.results73, go_sem]) rfl ?_
         rw [HE2.out]
         exact ⟨none, 0, rfl, hb1.keep hB, Own.nil ..⟩

theorem slices_Equal_Label (ok ok' : Nat → Prop) (w : World) (la : Option Addr) (lc : Nat) (ma : Option Addr) (mc : Nat) (a b : List Lev) (hA : SlR ok w 2 RLev la lc a) (hB : SlR ok' w 2 RLev ma mc b) :
  Calls Tryz.prog 38 #[.slice la a.length lc, .slice ma b.length mc] w fun e w' => e = .returned (.bool (decide (a = b))) ∧ Below w.heap.size w w' := by
 have hl : a.length ≤ 9223372036854775807 := by have h1 := hA.1; have h2 := hA.2.1; unfold maxLen at h2; omega
 have hm : b.length ≤ 9223372036854775807 := by have h1 := hB.1; have h2 := hB.2.1; unfold maxLen at h2; omega
 by_cases hn : a.length = b.length
 ·have d1 : (((a.length : Nat) : Int) != ((b.length : Nat) : Int)) = false := by rw [hn]; simp
  have HN := qh hn
  have hlb : a.length ≤ b.length := by omega
  clear hn
  go_enter Tryz.func38, Tryz.ntmps38
  go_wp2
  go_loopw [13] (fun i wr => ∃ k : Nat, k ≤ a.length ∧ i = .int .i64 k ∧ Below w.heap.size w wr ∧ Hid (a.take k = b.take k)) (fun i _ => a.length - (intOf i).toNat)
  case atStart => exact ⟨0, Nat.zero_le _, rfl, Below.refl _ _, rfl⟩
  case round =>
   obtain ⟨k, hk, rfl, hBw, hI⟩ := hrel
   by_cases hlt : k < a.length
   ·have hlt' : k < b.length := by omega
    obtain ⟨b1, o1, rfl, hb1, f1, f2⟩ := (hA.below hBw).lev_at k hlt
    obtain ⟨b2, o2, rfl, hb2, g1, g2⟩ := (hB.below hBw).lev_at k hlt'
    cases hd : decide (a[k] = b[k])
    all_goals
     have HD := qh hd
     have hne := neq_Level a[k] b[k] _ hd; have hgu := guard_Level
     first | (have hni : (a[k] != b[k]) = true := by simpa using hd) | (have hni : (a[k] != b[k]) = false := by simpa using hd) | skip
     clear hd
     go_wp2
     go_quiet (fail)
     go_wp2
    ·go_ret
     have e : decide (a = b) = false := by simpa using take_ne hlt hlt' (by simpa using HD.out)
     exact ⟨by rw [e]; rfl, hBw.drewN _⟩
    ·have HI := qh (take_eq_succ hlt hlt' hI.out (by simpa using HD.out))
     go_roundw
     case rel => exact ⟨k + 1, hlt, by go_num, hBw.drewN _, HI⟩
     case measure => simp [intOf]; omega
   ·go_wp2
    go_ret
    have e : decide (a = b) = true := by
     have := hI.out
     rw [List.take_of_length_le (by omega), List.take_of_length_le (by have := HN.out; omega)] at this
     simpa using this
    exact ⟨by rw [e]; rfl, hBw⟩
 ·have d1 : (((a.length : Nat) : Int) != ((b.length : Nat) : Int)) = true := by simp; omega
  have e : decide (a = b) = false := by simpa using fun e => hn (by rw [e])
  have HE := qh e
  clear e hn
  go_enter Tryz.func38, Tryz.ntmps38
  go_wp2
  go_ret
  exact ⟨by rw [HE.out]; rfl, Below.refl _ _⟩
theorem label_Same (ok ok' : Nat → Prop) (w : World) (la : Option Addr) (lc : Nat) (ma : Option Addr) (mc : Nat) (a b : List Lev) (hA : SlR ok w 2 RLev la lc a) (hB : SlR ok' w 2 RLev ma mc b) :
  Calls Tryz.prog 19 #[.slice la a.length lc, .slice ma b.length mc] w fun e w' => e = .returned (.bool (decide (a = b))) ∧ Below w.heap.size w w' := by
 have HE := qh (slices_Equal_Label ok ok' w la lc ma mc a b hA hB)
 go_enter Tryz.func19, Tryz.ntmps19
 go_wp2_with (first | (go_at_call 38; refine HE.out.mono ?_; rintro r v1 ⟨rfl, hb1⟩))
 go_ret
 exact ⟨rfl, hb1⟩
end Go.Proofs.YtnjjdpiofbajlaaGreat
