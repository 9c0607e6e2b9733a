/- Walks and plain laws, part 15. -/
import Derived.Test.YtealbofmlieicaaP13
import Derived.Deep.DeepCutAuto
import Derived.IntWalk
set_option linter.unusedSimpArgs false
set_option linter.unusedVariables false
set_option maxHeartbeats 16000000
set_option maxRecDepth 100000
namespace Go.Proofs.Ytealbofmlieicaa
open Go.RowKit
theorem info_int2 : (Try.prog.info? 3).map (fun i => (i.zero, i.size, i.bytes)) = some (some (.int .i64 0), 1, 8) := by kernel_rfl
def restI (done : Bool) (c : Int) (l : List Int) : List Int := if done then l else insI c l
theorem restI_cons (done : Bool) (c x : Int) (l : List Int) (hx : x ≠ c) : restI done c (x :: l) = if done = false ∧ c < x then c :: x :: restI true c l else x :: restI done c l := by
 unfold restI
 cases done with
 | true => simp
 | false =>
  by_cases h : c < x
  ·simp [insI, h]
  ·have h2 : ¬ c = x := fun e => hx e.symm
   simp [insI, h, h2]
theorem ref_owns (ok : Nat → Prop) (w : World) (a : Option Addr) (cap : Nat) (l : List Int) (c : Int) (hl : l.length ≤ 8) (hR : SlR ok w 1 RInt a cap l) :
  Calls Try.prog 40 #[.slice a l.length cap, .int .i64 c] w fun e w' => ∃ a' c', e = .returned (.tuple #[.slice a' (ownC l c).1.length c', .bool (decide ((ownC l c).2 = 0))]) ∧ Below w.heap.size w w' ∧ SlR (fun b => (ok b ∧ b < w.heap.size) ∨ w.heap.size ≤ b) w' 1 RInt a' c' (ownC l c).1 := by
 have HIn := qh (ref_in ok w a cap l c hR)
 by_cases hc : c ∈ l
 ·have HE := qh (show ownC l c = (l, 0) by unfold ownC; rw [if_pos hc])
  rw [(inL_iff l c).2 hc] at HIn
  have HR := qh (hR.move (ok' := fun b => (ok b ∧ b < w.heap.size) ∨ w.heap.size ≤ b) (Nat.le_refl _) (fun b hb ho => ⟨.inl ⟨ho, hb⟩, rfl⟩) fun _ _ r => r)
  clear hc hR
  go_enter Try.func40, Try.ntmps40
  go_wp2_with (first | go_skip | (go_at_call 27; go_must (refine HIn.out.mono ?_; rintro e v1 ⟨rfl, rfl⟩)))
  go_ret2
  rw [HE.out]
  exact ⟨a, cap, rfl, Below.refl _ _, HR.out⟩
 rw [(inL_not l c).2 hc] at HIn
 by_cases h8 : 8 ≤ l.length
 ·have HE := qh (show ownC l c = (l, 5) by unfold ownC; rw [if_neg hc, if_pos h8])
  have e8 : ((l.length : Int) == 8) = true := by simp; omega
  have HR := qh (hR.move (ok' := fun b => (ok b ∧ b < w.heap.size) ∨ w.heap.size ≤ b) (Nat.le_refl _) (fun b hb ho => ⟨.inl ⟨ho, hb⟩, rfl⟩) fun _ _ r => r)
  clear hc hR h8
  go_enter Try.func40, Try.ntmps40
  go_wp2_with (first | go_skip | (go_at_call 27; go_must (refine HIn.out.mono ?_; rintro e v1 ⟨rfl, rfl⟩)))
  go_ret2
  rw [HE.out]
  exact ⟨a, cap, rfl, Below.refl _ _, HR.out⟩
 have HE := qh (show ownC l c = (insI c l, 0) by unfold ownC; rw [if_neg hc, if_neg h8])
 have e8 : ((l.length : Int) == 8) = false := by simp; omega
 have HC := qh hc
 obtain ⟨j0, hj, hy0, hy1, hy2⟩ := info_parts info_int2
 have HRl := qh hR
 clear hc h8 hR
 go_enter Try.func40, Try.ntmps40
 go_wp2_with (first | go_skip | (go_at_call 27; go_must (refine HIn.out.mono ?_; rintro e v1 ⟨rfl, rfl⟩)))
 go_loopw [6, 7, 20] (fun v6 v7 v20 wr => ∃ (k n : Nat) (o : List Int) (d : Bool) (oa : Option Addr) (oc : Nat), k ≤ l.length ∧ n ≤ k + 1 ∧ (d = true ∨ n ≤ k) ∧ v20 = .int .i64 k ∧ v7 = .bool d ∧ v6 = .slice oa n oc ∧ Own w.heap.size 3 wr 1 RInt oa oc o ∧ Below w.heap.size w wr ∧ Hid (n = o.length) ∧ Hid (insI c l = o ++ restI d c (l.drop k))) (fun _ _ v20 _ => l.length - (intOf v20).toNat)
 case atStart => exact ⟨0, 0, [], false, none, 0, Nat.zero_le _, by omega, .inr (Nat.le_refl _), rfl, rfl, rfl, Own.nil _ _ _ _ _, Below.refl _ _, rfl, qh (by simp [restI])⟩
 case round =>
  obtain ⟨k, n, o, d, oa, oc, hk, hnk, hdn, rfl, rfl, rfl, hO, hB, HN, HI⟩ := hrel
  have hzB := hB.size
  by_cases hkl : k < l.length
  case neg =>
   have d1 : decide ((k : Int) < (l.length : Int)) = false := by simp; omega
   have hI : insI c l = o ++ restI d c [] := by rw [HI.out, List.drop_eq_nil_of_le (by omega)]
   cases d with
   | true =>
    have hoe : o = insI c l := by rw [hI]; simp [restI]
    have HF := qh (hO.slr (ok := fun b => (ok b ∧ b < w.heap.size) ∨ w.heap.size ≤ b) fun b hb => .inr hb)
    have HH := qh (And.intro hoe HN.out)
    clear hI hoe HI hO
    go_wp2_with (first | go_skip | fail)
    go_ret2
    rw [HE.out, ← HH.out.1]
    exact ⟨oa, oc, by rw [HH.out.2]; rfl, hB, HF.out⟩
   | false =>
    have hoe : o ++ [c] = insI c l := by rw [hI]; simp [restI, insI]
    have HH := qh (And.intro hoe HN.out)
    clear hI hoe HI
    go_wp2_with (first
     | go_skip
     | (at_builtin; go_must (refine wpList_app rfl _ _ 31 rfl 3 j0 _ 1 8 Try.underlying31 hj hy0 hy1 hy2 rfl (by decide) rfl ?x1 (hO.below ((Below.refl _ _).alloc (Nat.le_refl _) _)) rfl rfl (SlR.one (ok := fun _ => True) [.int .i64 c] _ c (by simp) rfl rfl (by simp [Value.oneCell']) trivial) ?_ ?_ ?_ ?_)))
    case x1 => exact HN.out
    ·rw [← HN.out]; simp; omega
    ·rw [← HN.out]; simp [maxLen]; omega
    ·simp; omega
    ·intro a' c' w' hO' hg' _
     have hB' : Below w.heap.size w w' := (hO.below ((Below.refl _ _).alloc (Nat.le_refl _) _)).grown (hB.alloc hzB _) hg' (Nat.le_refl _) (by simp; omega)
     have HF := qh (hO'.slr (ok := fun b => (ok b ∧ b < w.heap.size) ∨ w.heap.size ≤ b) fun b hb => .inr hb)
     clear hO hO' hg'
     go_wp2_with (first | go_skip | fail)
     go_ret2
     rw [HE.out, ← HH.out.1]
     exact ⟨a', c', by simp [HH.out.2], hB', HF.out⟩
  have d1 : decide ((k : Int) < (l.length : Int)) = true := by simp; omega
  obtain ⟨b, ob, hab, hb, hcx⟩ := ((HRl.out).below hB).int_at k hkl
  have hne : l[k] ≠ c := fun e => HC.out (e ▸ List.getElem_mem hkl)
  have hdr : l.drop k = l[k] :: l.drop (k + 1) := List.drop_eq_getElem_cons hkl
  have hst := restI_cons d c l[k] (l.drop (k + 1)) hne
  rw [← hdr] at hst
  have hI := HI.out
  rw [hst] at hI
  generalize l[k] = x at hcx hI
  clear hst hdr hne HI
  subst hab
  by_cases hq : d = false ∧ c < x
  case pos =>
   obtain ⟨rfl, hcx2⟩ := hq
   have d2 : decide (c < x) = true := by simpa using hcx2
   have HI := qh (show insI c l = o ++ [c, x] ++ restI true c (l.drop (k + 1)) by rw [hI, if_pos ⟨rfl, hcx2⟩]; simp)
   have hnk2 : n ≤ k := by simpa using hdn
   clear hI hcx2
   go_wp2_with (first
    | go_skip
    | (at_builtin; go_must (refine wpList_app rfl _ _ 31 rfl 3 j0 _ 1 8 Try.underlying31 hj hy0 hy1 hy2 rfl (by decide) rfl ?x1 (hO.below ((Below.refl _ _).alloc (Nat.le_refl _) _)) rfl rfl (SlR.one (ok := fun _ => True) [.int .i64 c] _ c (by simp) rfl rfl (by simp [Value.oneCell']) trivial) ?_ ?_ ?_ ?_)))
   case x1 => exact HN.out
   ·rw [← HN.out]; simp; omega
   ·rw [← HN.out]; simp [maxLen]; omega
   ·simp; omega
   ·intro a' c' w' hO' hg' _
    have hB' : Below w.heap.size w w' := (hO.below ((Below.refl _ _).alloc (Nat.le_refl _) _)).grown (hB.alloc hzB _) hg' (Nat.le_refl _) (by simp; omega)
    have hz' := hB'.size
    have HN2 := qh (show n + 1 = (o ++ [c]).length by simp [HN.out])
    clear hO hg' hcx
    go_wp2_with (first
     | go_skip
     | (at_builtin; go_must (refine wpList_app rfl _ _ 31 rfl 3 j0 _ 1 8 Try.underlying31 hj hy0 hy1 hy2 rfl (by decide) rfl ?x2 (hO'.below ((Below.refl _ _).alloc (Nat.le_refl _) _)) rfl rfl (SlR.one (ok := fun _ => True) [.int .i64 x] _ x (by simp) rfl rfl (by simp [Value.oneCell']) trivial) ?_ ?_ ?_ ?_)))
    case x2 => exact HN2.out
    ·rw [← HN2.out]; simp; omega
    ·rw [← HN2.out]; simp [maxLen]; omega
    ·simp; omega
    ·intro a2 c2 w2 hO2 hg2 _
     have hB2 : Below w.heap.size w w2 := (hO'.below ((Below.refl _ _).alloc (Nat.le_refl _) _)).grown (hB'.alloc hz' _) hg2 (Nat.le_refl _) (by simp; omega)
     have HO2 := qh hO2
     clear hO' hg2 hO2
     go_wp2_with (first | go_skip | fail)
     go_roundw
     case rel => exact ⟨k + 1, n + 1 + 1, o ++ [c, x], true, a2, c2, hkl, by omega, .inl rfl, by go_num, rfl, rfl, by simpa using HO2.out, hB2, qh (by simp [HN.out]), HI.out⟩
     case measure => simp [intOf]; omega
  case neg =>
   have HI := qh (show insI c l = o ++ [x] ++ restI d c (l.drop (k + 1)) by rw [hI, if_neg hq]; simp)
   clear hI
   have HSTEP : True := trivial
   cases d with
   | true =>
    clear hq
    by_cases hcx2 : c < x
    all_goals
     first | (have d2 : decide (c < x) = true := by simpa using hcx2) | (have d2 : decide (c < x) = false := by simpa using hcx2)
     clear hcx2
     go_wp2_with (first
      | go_skip
      | (at_builtin; go_must (refine wpList_app rfl _ _ 31 rfl 3 j0 _ 1 8 Try.underlying31 hj hy0 hy1 hy2 rfl (by decide) rfl ?x1 (hO.below ((Below.refl _ _).alloc (Nat.le_refl _) _)) rfl rfl (SlR.one (ok := fun _ => True) [.int .i64 x] _ x (by simp) rfl rfl (by simp [Value.oneCell']) trivial) ?_ ?_ ?_ ?_)))
     case x1 => exact HN.out
     ·rw [← HN.out]; (try simp); omega
     ·rw [← HN.out]; (try simp [maxLen]); omega
     ·(try simp); omega
     ·intro a' c' w' hO' hg' _
      have hB' : Below w.heap.size w w' := (hO.below ((Below.refl _ _).alloc (Nat.le_refl _) _)).grown (hB.alloc hzB _) hg' (Nat.le_refl _) (by simp; omega)
      have HO2 := qh hO'
      clear hO hO' hg'
      go_wp2_with (first | go_skip | fail)
      go_roundw
      case rel => exact ⟨k + 1, n + 1, o ++ [x], true, a', c', hkl, by omega, .inl rfl, by go_num, rfl, rfl, HO2.out, hB', qh (by simp [HN.out]), HI.out⟩
      case measure => simp [intOf]; omega
   | false =>
    have d2 : decide (c < x) = false := by simp at hq; simpa using hq
    have hnk2 : n ≤ k := by simpa using hdn
    clear hq hdn
    go_wp2_with (first
     | go_skip
     | (at_builtin; go_must (refine wpList_app rfl _ _ 31 rfl 3 j0 _ 1 8 Try.underlying31 hj hy0 hy1 hy2 rfl (by decide) rfl ?x1 (hO.below ((Below.refl _ _).alloc (Nat.le_refl _) _)) rfl rfl (SlR.one (ok := fun _ => True) [.int .i64 x] _ x (by simp) rfl rfl (by simp [Value.oneCell']) trivial) ?_ ?_ ?_ ?_)))
    case x1 => exact HN.out
    ·rw [← HN.out]; simp; omega
    ·rw [← HN.out]; simp [maxLen]; omega
    ·simp; omega
    ·intro a' c' w' hO' hg' _
     have hB' : Below w.heap.size w w' := (hO.below ((Below.refl _ _).alloc (Nat.le_refl _) _)).grown (hB.alloc hzB _) hg' (Nat.le_refl _) (by simp; omega)
     have HO2 := qh hO'
     clear hO hO' hg'
     go_wp2_with (first | go_skip | fail)
     go_roundw
     case rel => exact ⟨k + 1, n + 1, o ++ [x], false, a', c', hkl, by omega, .inr (by omega), by go_num, rfl, rfl, HO2.out, hB', qh (by simp [HN.out]), HI.out⟩
     case measure => simp [intOf]; omega
theorem ref_last (w : World) (s : ByteArray) (hs : s.size ≤ 140737488355328) : Calls Try.prog 25 #[.string s] w fun e w' => e = .returned (.string (lastB s)) ∧ Below w.heap.size w w' := by
 by_cases h : 64 < s.size
 ·have d1 : decide ((64 : Int) < (s.size : Int)) = true := by simp; omega
  have hw : IntKind.i64.wrap ((s.size : Int) - 64) = ((s.size - 64 : Nat) : Int) := by rw [show ((s.size : Int) - 64) = ((s.size - 64 : Nat) : Int) by omega]; exact IntWalk.i64_in _ (by omega)
  have HL := qh (show lastB s = s.extract (s.size - 64) s.size from rfl)
  obtain ⟨m, hm⟩ : ∃ m, s.size - 64 = m := ⟨_, rfl⟩
  rw [hm] at hw HL
  have hml : m ≤ s.size := by omega
  clear hm
  go_enter Try.func25, Try.ntmps25
  go_wp2_with (first | go_skip | fail)
  go_ret
  exact ⟨by rw [HL.out]; rfl, Below.refl _ _⟩
 ·have d1 : decide ((64 : Int) < (s.size : Int)) = false := by simp; omega
  have HL := qh (show lastB s = s by
   unfold lastB
   rw [show s.size - 64 = 0 by omega]
   exact ByteArray.extract_zero_size)
  go_enter Try.func25, Try.ntmps25
  go_wp2_with (first | go_skip | fail)
  go_ret
  exact ⟨by rw [HL.out]; rfl, Below.refl _ _⟩
end Go.Proofs.Ytealbofmlieicaa
