/- Walks and plain laws, part 14. -/
import Derived.Test.YtealbofmlieicaaP13
set_option linter.unusedSimpArgs false
set_option linter.unusedVariables false
set_option maxHeartbeats 16000000
set_option maxRecDepth 100000
namespace Go.Proofs.Ytealbofmlieicaa
open Go.RowKit
open Go.Maps (Keyed IsMap int_keyed)
def MadeOf (keys : List Int) (val : Int → Int) (l : List Lev) : Prop := Norm l ∧ ∀ c, lAt l c = if inL keys c = true then val c else 1
theorem made_insert {seen : List Int} {val : Int → Int} {l : List Lev} {x : Int} {k : Nat} (h : MadeOf seen val l) (hx : inL seen x = false) (hv : val x ≠ 1) (hk : k ≤ l.length) (hlo : ∀ (i : Nat) (hi : i < l.length), i < k → l[i].c < x) (hhi : ∀ hk' : k < l.length, ¬ l[k].c < x) :
  MadeOf (seen ++ [x]) val (l.take k ++ ([⟨x, val x⟩] ++ l.drop k)) := by
 obtain ⟨⟨hr, hne⟩, hat⟩ := h
 have hlx : lAt l x = 1 := by rw [hat, hx]; rfl
 have hnx : x ∉ catsOf l := fun hm => (norm_mem ⟨hr, hne⟩ x).1 hm hlx
 have hlt : ∀ y ∈ l.take k, y.c < x := fun y hy => by
  obtain ⟨i, hi, rfl⟩ := List.mem_iff_getElem.1 hy
  rw [List.getElem_take]
  have hi' := hi
  rw [List.length_take] at hi'
  exact hlo i (by omega) (by omega)
 have hsplit : catsOf l = catsOf (l.take k) ++ catsOf (l.drop k) := by
  unfold catsOf; rw [← List.map_append, List.take_append_drop]
 have hr' := hr
 rw [hsplit] at hr'
 have hgt : ∀ y ∈ l.drop k, x < y.c := fun y hy => by
  obtain ⟨i, hi, rfl⟩ := List.mem_iff_getElem.1 hy
  rw [List.length_drop] at hi
  rw [List.getElem_drop]
  have h0 := hhi (by omega)
  have hxe : l[k + i].c ≠ x := fun he => hnx (by rw [← he]; exact List.mem_map.2 ⟨_, List.getElem_mem _, rfl⟩)
  rcases Nat.eq_zero_or_pos i with rfl | hi0
  ·simp only [Nat.add_zero] at hxe ⊢; omega
  ·have h1 := List.pairwise_iff_getElem.1 hr k (k + i) (by simp [catsOf]; omega) (by simp [catsOf]; omega) (by omega)
   simp only [catsOf, List.getElem_map] at h1
   omega
 refine ⟨⟨?_, ?_⟩, fun c => ?_⟩
 ·have e : catsOf (l.take k ++ ([⟨x, val x⟩] ++ l.drop k)) = catsOf (l.take k) ++ (x :: catsOf (l.drop k)) := by simp [catsOf]
  rw [e]
  unfold Rising at hr' ⊢
  obtain ⟨p1, p2, p3⟩ := List.pairwise_append.1 hr'
  refine List.pairwise_append.2 ⟨p1, List.pairwise_cons.2 ⟨fun y hy => ?_, p2⟩, fun a ha b hb => ?_⟩
  ·obtain ⟨z, hz, rfl⟩ := List.mem_map.1 hy
   exact hgt z hz
  ·rcases List.mem_cons.1 hb with rfl | hb
   ·obtain ⟨z, hz, rfl⟩ := List.mem_map.1 ha
    exact hlt z hz
   ·exact p3 a ha b hb
 ·intro y hy
  rcases List.mem_append.1 hy with hy | hy
  ·exact hne y (List.mem_of_mem_take hy)
  ·rcases List.mem_append.1 hy with hy | hy
   ·simp at hy; subst hy; exact hv
   ·exact hne y (List.mem_of_mem_drop hy)
 ·rw [lAt_append, inL_snoc]
  have hl : lAt l c = if c ∈ catsOf (l.take k) then lAt (l.take k) c else lAt (l.drop k) c := by
   rw [← lAt_append, List.take_append_drop]
  by_cases hcx : c = x
  ·subst hcx
   have : c ∉ catsOf (l.take k) := fun hm => by
    obtain ⟨z, hz, hzc⟩ := List.mem_map.1 hm
    have := hlt z hz
    omega
   rw [if_neg this, if_pos rfl, if_pos rfl]
   simp [lAt]
  ·rw [if_neg hcx, ← hat c, hl]
   congr 1
   show lAt (⟨x, val x⟩ :: l.drop k) c = _
   rw [lAt, if_neg (fun h => hcx h.symm)]
theorem made_skip {seen : List Int} {val : Int → Int} {l : List Lev} {x : Int} (h : MadeOf seen val l) (hx : inL seen x = false) (hv : val x = 1) : MadeOf (seen ++ [x]) val l := by
 refine ⟨h.1, fun c => ?_⟩
 rw [inL_snoc, h.2 c]
 by_cases hcx : c = x
 ·subst hcx; rw [if_pos rfl, hx, hv]; simp
 ·rw [if_neg hcx]
theorem made_nil (val : Int → Int) : MadeOf [] val [] := ⟨⟨List.Pairwise.nil, by simp⟩, fun c => by simp [lAt, inL]⟩
theorem nodup_leI : ∀ {l S : List Int}, l.Nodup → (∀ j ∈ l, j ∈ S) → l.length ≤ S.length := by
 intro l
 induction l with
 | nil => intro S _ _; simp
 | cons i l ih =>
  intro S hn hs
  obtain ⟨h1, h2⟩ := List.nodup_cons.1 hn
  have := ih (S := S.erase i) h2 fun j hj => (List.mem_erase_of_ne (by rintro rfl; exact h1 hj)).2 (hs j (by simp [hj]))
  rw [List.length_erase_of_mem (hs i (by simp))] at this
  have h3 : 0 < S.length := List.length_pos_of_mem (hs i (by simp))
  simp; omega
theorem seen_le {keys seen : List Int} (hn : seen.Nodup) (hs : ∀ x ∈ seen, inL keys x = true) : seen.length ≤ keys.length := nodup_leI hn fun x hx => (inL_iff _ _).1 (hs x hx)
theorem slice_front {w : World} (a : Option Addr) (n c k : Nat) (hk : k ≤ n) (hn : n ≤ c) (hc : c ≤ maxLen) (ha : a = none → c = 0) : ∃ a', (∀ W : World, (Instr.slice 30 (.slice a n c) none (some (.int .i64 k)) (some (.int .i64 k))).run Try.prog W = .ok (.slice a' k k) W) ∧ (∀ ad, a = some ad → a' = some ad) ∧ (a = none → a' = none) := by
 have hc' : c ≤ 9223372036854775807 := hc
 cases a with
 | none => 
  obtain rfl := ha rfl
  obtain rfl : n = 0 := by omega
  obtain rfl : k = 0 := by omega
  exact ⟨none, fun W => by kernel_rfl, by simp, by simp⟩
 | some ad =>
  obtain ⟨b, o, f⟩ := ad
  have h0 : k ≤ c := by omega
  refine ⟨some ⟨b, o, f⟩, fun W => ?_, by simp, by simp⟩
  go_simp
theorem slice_back {ok : Nat → Prop} {w : World} {a : Option Addr} {c k : Nat} {l : List Lev} (h : SlR ok w 2 RLev a c l) (hk : k ≤ l.length) : ∃ a', (∀ W : World, (Instr.slice 30 (.slice a l.length c) (some (.int .i64 k)) none none).run Try.prog W = .ok (.slice a' (l.length - k) (c - k)) W) ∧ SlR ok w 2 RLev a' (c - k) (l.drop k) := by
 have hc' : c ≤ 9223372036854775807 := h.2.1
 have h1 := h.1
 cases a with
 | none =>
  obtain rfl := h.2.2.1 rfl
  have hl0 : l.length = 0 := by omega
  obtain rfl : k = 0 := by omega
  rw [hl0]
  exact ⟨none, fun W => by kernel_rfl, by simpa using h⟩
 | some ad =>
  obtain ⟨b, o, f⟩ := ad
  by_cases hck : c = k
  ·subst hck
   have hl : l.length = c := by omega
   refine ⟨some ⟨b, o, f⟩, fun W => ?_, ?_⟩
   ·rw [hl]
    go_simp
   ·refine ⟨by simp; omega, by have := h.2.1; omega, by simp, fun i x hx => ?_⟩
    rw [List.getElem?_drop] at hx
    have := (gEs hx).1
    omega
  ·refine ⟨some ((⟨b, o, f⟩ : Addr).add (k * 2)), fun W => ?_, ?_⟩
   ·go_simp
   ·refine ⟨by simp; omega, by have := h.2.1; omega, by simp, fun i x hx => ?_⟩
    rw [List.getElem?_drop] at hx
    obtain ⟨b', o', cs, ha, r1, r2, r3, r4, r5, r6⟩ := h.2.2.2 (k + i) x hx
    simp only [Option.some.injEq, Addr.mk.injEq] at ha
    obtain ⟨rfl, rfl, rfl⟩ := ha
    exact ⟨b, o + k * 2, cs, by rw [Addr.add_lit], r1, r2, r3, r4, r5, fun j v hj => by rw [← r6 j v hj]; congr 2; rw [Nat.add_mul]; omega⟩
theorem Own.ofBlk1 {base : Nat} {e : TypeId} {w : World} {α : Type} {sz : Nat} {R : List Value → α → Prop} {g : Nat} {cs : List Value} {x : α} (h : w.heap[g]? = some (.cells cs.toArray e (0, 0))) (hR : R cs x) (hl : cs.length = sz) (h1 : cs.all Value.oneCell' = true) (hb : base ≤ g) : Own base e w sz R (some ⟨g, 0, none⟩) 1 [x] := by
 refine ⟨[cs], rfl, ?_, ?_, ?_⟩
 ·intro c hc
  simp at hc
  subst hc
  exact ⟨hl, by simpa using h1⟩
 ·intro i y c hy hc
  rcases i with _ | i
  ·simp at hy hc; subst hy hc; exact hR
  ·simp at hy
 ·refine ⟨by simp [hl], .inr ⟨g, 1, cs.toArray, rfl, hb, h, Nat.le_refl _, by simp [maxLen], by simp [hl], ?_⟩⟩
  simp [← hl]
theorem SlR.takeC {ok : Nat → Prop} {w : World} {α : Type} {sz : Nat} {R : List Value → α → Prop} {a a' : Option Addr} {c k : Nat} {xs : List α} (h : SlR ok w sz R a c xs) (hk : k ≤ xs.length) (h1 : ∀ ad, a = some ad → a' = some ad) (h2 : a = none → a' = none) : SlR ok w sz R a' k (xs.take k) := by
 refine ⟨by simp; omega, by have := h.1; have := h.2.1; omega, fun ha' => ?_, fun i x hx => ?_⟩
 ·cases a with
  | none => have := h.2.2.1 rfl; have := h.1; omega
  | some ad => rw [h1 ad rfl] at ha'; cases ha'
 ·rw [List.getElem?_take] at hx
  split at hx
  ·obtain ⟨b, o, cs, ha, r⟩ := h.2.2.2 i x hx
   exact ⟨b, o, cs, h1 _ ha, r⟩
  ·cases hx
theorem ref_made (w : World) (bm n : Nat) (keys : List Int) (val : Int → Int) (hkf : ∀ x ∈ keys, fitI x) (hk16 : keys.length * 16 ≤ 140737488355328) (hM : MapZ Try.prog 3 3 w bm n keys val) :
  Calls Try.prog 56 #[.map (some bm)] w fun e w' => ∃ (l : List Lev) (a : Option Addr) (c : Nat), e = .returned (.slice a l.length c) ∧ MadeOf keys val l ∧ l.length ≤ keys.length ∧ Below w.heap.size w w' ∧ SlR (fun b => w.heap.size ≤ b) w' 2 RLev a c l := by
 obtain ⟨i0, hi, hz0, hz1, hz2⟩ := info_parts info_Level
 have HKF := qh hkf
 clear hkf
 go_enter Try.func56, Try.ntmps56
 go_wp2_with (first
  | go_skip
  | (at_range; go_must (refine wpList_zRange hM (int_keyed Try.underlying3) rfl _ 92 rfl Try.underlying92 rfl ?_; intro r w3 cnt0 hr0 hrg hb3)))
 go_frame
 have hS0 : SlR (fun b => w.heap.size ≤ b) w3 2 RLev none 0 ([] : List Lev) := SlR.nil _ _ _ _
 have HMd := qh (made_nil val)
 have hlt0 := hM.lt
 clear hM
 go_loopw [4, 5, 6, 3] (fun _ _ _ p wr => ∃ seen cnt, RangeZ Try.prog 3 3 wr bm r n keys val seen cnt ∧ Below w.heap.size w wr ∧ ∃ (l : List Lev) (a : Option Addr) (c : Nat), p = .slice a l.length c ∧ SlR (fun b => w.heap.size ≤ b ∧ b ≠ r) wr 2 RLev a c l ∧ Hid (MadeOf seen val l) ∧ l.length ≤ seen.length ∧ Hid (seen.Nodup ∧ ∀ x ∈ seen, inL keys x = true)) (fun _ _ _ _ wr => wr.rangeLeft bm r)
 case atStart => exact ⟨[], _, hrg, hb3, [], none, 0, rfl, SlR.nil _ _ _ _, HMd, Nat.le_refl _, List.nodup_nil, by simp⟩
 case round =>
  clear hrg hb3 hS0 HMd
  obtain ⟨seen, cnt, hrg, hB, l, a, c, rfl, hS, hMd, hls, hN⟩ := hrel
  have hm0 := hrg.left_eq
  have hsl := seen_le hN.out.1 hN.out.2
  go_wp2_with (first | go_skip | (at_next; refine wpList_zNext hrg (int_keyed Try.underlying3) Try.underlying3 Try.underlying3 rfl _ rfl rfl (fun hD => ?_) (fun x w4 cnt4 hfx hfv hx hns hrg4 hcnt hg4 hz4 hen => RowKit.Hid.out ?_)))
  ·have HE := qh (show MadeOf keys val l from ⟨hMd.out.1, fun c => by
    rw [hMd.out.2 c]
    have : inL seen c = inL keys c := by
     rw [Bool.eq_iff_iff]
     exact ⟨fun h => hN.out.2 c ((inL_iff _ _).1 h), fun h => hD.out c (HKF.out c ((inL_iff _ _).1 h)) h⟩
    rw [this]⟩)
   go_ret
   exact ⟨l, a, c, rfl, HE.out, by omega, hB, hS.okay fun _ h => h.1⟩
  ·have hrlt := hrg.lt.1
   have hB4 : Below w.heap.size w w4 := hB.grown hg4 hB.size fun q hq => by simp at hq; omega
   have hS4 : SlR (fun b => w.heap.size ≤ b ∧ b ≠ r) w4 2 RLev a c l := hS.keep ⟨by omega, fun b hb ho => hg4.block b hb (by simp; exact ho.2)⟩
   have hbr4 := hrg4.lt.1
   have HN4 := qh (show (seen ++ [x]).Nodup ∧ ∀ y ∈ seen ++ [x], inL keys y = true from ⟨List.nodup_append.2 ⟨hN.out.1, by simp, fun a ha b hb => by simp at hb; subst hb; intro he; subst he; exact (inL_not _ _).1 hns ha⟩, fun y hy => by
    rcases List.mem_append.1 hy with hy | hy
    ·exact hN.out.2 y hy
    ·simp at hy; subst hy; exact hx⟩)
   have hsl4 : seen.length + 1 ≤ keys.length := by have := seen_le HN4.out.1 HN4.out.2; simpa using this
   clear hrg hS hg4 hx hB hN
   by_cases hv : val x = 1
   ·have d1 : (val x == 1) = true := by simpa using hv
    have HE := qh (made_skip hMd.out hns hv)
    clear hv hns
    refine qh ?_
    go_wp2
    go_roundw
    case rel => exact ⟨_, _, hrg4, hB4, l, a, c, rfl, hS4, HE, by simp; omega, HN4⟩
    case measure => rw [hrg4.left_eq, hm0]; exact hcnt
   ·have d1 : (val x == 1) = false := by simpa using hv
    have HV := qh hv
    have HNS := qh hns
    have hll : l.length ≤ 9223372036854775807 := by omega
    clear hv hns
    refine qh ?_
    go_wp2
    go_loop [6] (fun i => ∃ k : Nat, k ≤ l.length ∧ i = .int .i64 k ∧ Hid (∀ (i : Nat) (hi : i < l.length), i < k → l[i].c < x)) (fun i => l.length - (intOf i).toNat)
    case atStart => exact ⟨0, Nat.zero_le _, rfl, fun i _ h => absurd h (by omega)⟩
    case round =>
     obtain ⟨k, hk, rfl, hlo⟩ := hrel
     have HNI := qh (fun hkl h => made_insert hMd.out HNS.out HV.out hkl hlo.out h)
     by_cases hgo : ∃ h : k < l.length, l[k].c < x
     ·obtain ⟨hkl, hlt⟩ := hgo
      obtain ⟨b, o, rfl, hb, hc1, _⟩ := hS4.lev_at k hkl
      have d2 : decide (l[k].c < x) = true := by simpa using hlt
      have HE := qh (show ∀ (i : Nat) (hi : i < l.length), i < k + 1 → l[i].c < x from fun i hi hik => by
       by_cases hik' : i = k
       ·subst hik'; exact hlt
       ·exact hlo.out i hi (by omega))
      clear hlt
      go_wp2
      go_round
      case rel => exact ⟨k + 1, hkl, by go_num, HE⟩
      case measure => simp [intOf]; omega
     ·have HNI2 := qh (HNI.out hk fun hkl h => hgo ⟨hkl, h⟩)
      obtain ⟨af, hsf, hf1, hf2⟩ := slice_front (w := w4) a l.length c k hk hS4.1 hS4.2.1 hS4.2.2.1
      obtain ⟨ab, hsb, hSb⟩ := slice_back hS4 hk
      have hSf := hS4.takeC hk hf1 hf2
      have hlen2 : (l.take k).length = k := by simp; omega
      have hlen3 : (l.drop k).length = l.length - k := by simp
      have HL2 := qh hlen2
      have HL3 := qh hlen3
      clear hlen2 hlen3
      by_cases hkl : k < l.length
      ·obtain ⟨b, o, rfl, hb, hc1, _⟩ := hS4.lev_at k hkl
       have d2 : decide (l[k].c < x) = false := by simp; exact Int.not_lt.1 fun h => hgo ⟨hkl, h⟩
       obtain rfl := hf1 _ rfl
       clear hgo
       go_wp2
       have hI : Below w4.heap.size w4 w4.drew := (Below.refl _ _).drew
       refine lex_region (by kernel_rfl) 14 rfl (fun W => Below w4.heap.size w4 W) ?_
       refine lexS 0 rfl hI ?_
       refine lexS 1 rfl hI ?_
       refine lexS 2 rfl hI ?_
       refine lexS 3 rfl hI ?_
       refine lexS 4 rfl hI ?_
       refine lexS 5 rfl hI ?_
       refine lexS 6 rfl hI ?_
       refine lexS 8 rfl hI ?_
       refine lexS 9 rfl hI ?_
       refine lexS 10 rfl hI ?_
       have st := St.start w4.drew
       refine lexO 7 rfl fun K hK => ?_
       refine wp_build1 st 30 88 _ rfl Try.underlying30 2 Try.sizeOf88 (by decide) (by decide) _ Try.zeroValue88 _ rfl rfl ?_; clear st; intro g7 w7 hg7 hg7e st hg7b hw7z; clear hg7e; simp [Act.eval, Act.put, Value.cells, putL] at st
       refine hK _ _ (hI.keep hg7b) ?_; clear hK; simp only [kP, kA, kS, kZ]
       replace hI := hI.keep hg7b
       have hz7 := hI.size
       have hO7 : Own w4.heap.size 88 w7 2 RLev (some ⟨g7, 0, none⟩) 1 [(⟨x, val x⟩ : Lev)] := Own.ofBlk1 (R := RLev) (st.blk _ (mgE (i := 0) rfl)) rfl rfl rfl hg7
       have hSb7 := hSb.below hI
       have hSf7 := hSf.below hI
       refine lexO 11 rfl fun K hK => ?_
       refine wp_app _ _ 30 rfl 88 i0 _ 2 16 Try.underlying30 hi hz0 hz1 hz2 rfl (by decide) rfl rfl hO7 rfl HL3.out.symm hSb7 (by rw [HL3.out]; simp; omega) (by rw [HL3.out]; simp [maxLen]; omega) hz7 ?_
       intro a8 c8 w8 hO8 hg8 hn8
       have hI8 := Own.grown hO7 hI hg8 (Nat.le_refl _) hz7
       refine hK _ _ (hI8) ?_; clear hK; simp only [kP, kA, kS, kZ]
       have hz8 := hI8.size
       refine lexO 12 rfl fun K hK => ?_
       refine wp_appFull _ _ 30 rfl 88 i0 _ 2 16 Try.underlying30 hi hz0 hz1 hz2 rfl (by decide) rfl HL2.out.symm (hSf.below hI8) rfl (by simp; omega) (hO8.slr (ok := fun _ => True) fun _ _ => trivial) (by simp; omega) (by simp; omega) (by simp [maxLen]; omega) ?_
       intro a9 c9 w9 hO9 hb9
       replace hI := hI8.keep hb9
       refine hK _ _ (hI) ?_; clear hK; simp only [kP, kA, kS, kZ]
       refine lexS 13 rfl hI ?_
       refine lex_done (by decide +kernel) ?_
       clear st hO7 hSb7 hSf7 hO8 hg8 hn8 hI8 hSb hSf
       go_wp2
       go_roundw
       case rel => exact ⟨_, _, hrg4.below hI, hB4.keep hI, _, _, c9, by simp; omega, hO9.slr (fun b hb => ⟨Nat.le_trans hB4.size (Nat.le_trans hz8 hb), by omega⟩), HNI2, by simp; omega, HN4⟩
       case measure => rw [(hrg4.below hI).left_eq, hm0]; exact hcnt
      ·clear hgo
       go_wp2
       have hI : Below w4.heap.size w4 w4.drew := (Below.refl _ _).drew
       refine lex_region (by kernel_rfl) 14 rfl (fun W => Below w4.heap.size w4 W) ?_
       refine lexS 0 rfl hI ?_
       refine lexS 1 rfl hI ?_
       refine lexS 2 rfl hI ?_
       refine lexS 3 rfl hI ?_
       refine lexS 4 rfl hI ?_
       refine lexS 5 rfl hI ?_
       refine lexS 6 rfl hI ?_
       refine lexS 8 rfl hI ?_
       refine lexS 9 rfl hI ?_
       refine lexS 10 rfl hI ?_
       have st := St.start w4.drew
       refine lexO 7 rfl fun K hK => ?_
       refine wp_build1 st 30 88 _ rfl Try.underlying30 2 Try.sizeOf88 (by decide) (by decide) _ Try.zeroValue88 _ rfl rfl ?_; clear st; intro g7 w7 hg7 hg7e st hg7b hw7z; clear hg7e; simp [Act.eval, Act.put, Value.cells, putL] at st
       refine hK _ _ (hI.keep hg7b) ?_; clear hK; simp only [kP, kA, kS, kZ]
       replace hI := hI.keep hg7b
       have hz7 := hI.size
       have hO7 : Own w4.heap.size 88 w7 2 RLev (some ⟨g7, 0, none⟩) 1 [(⟨x, val x⟩ : Lev)] := Own.ofBlk1 (R := RLev) (st.blk _ (mgE (i := 0) rfl)) rfl rfl rfl hg7
       have hSb7 := hSb.below hI
       have hSf7 := hSf.below hI
       refine lexO 11 rfl fun K hK => ?_
       refine wp_app _ _ 30 rfl 88 i0 _ 2 16 Try.underlying30 hi hz0 hz1 hz2 rfl (by decide) rfl rfl hO7 rfl HL3.out.symm hSb7 (by rw [HL3.out]; simp; omega) (by rw [HL3.out]; simp [maxLen]; omega) hz7 ?_
       intro a8 c8 w8 hO8 hg8 hn8
       have hI8 := Own.grown hO7 hI hg8 (Nat.le_refl _) hz7
       refine hK _ _ (hI8) ?_; clear hK; simp only [kP, kA, kS, kZ]
       have hz8 := hI8.size
       refine lexO 12 rfl fun K hK => ?_
       refine wp_appFull _ _ 30 rfl 88 i0 _ 2 16 Try.underlying30 hi hz0 hz1 hz2 rfl (by decide) rfl HL2.out.symm (hSf.below hI8) rfl (by simp; omega) (hO8.slr (ok := fun _ => True) fun _ _ => trivial) (by simp; omega) (by simp; omega) (by simp [maxLen]; omega) ?_
       intro a9 c9 w9 hO9 hb9
       replace hI := hI8.keep hb9
       refine hK _ _ (hI) ?_; clear hK; simp only [kP, kA, kS, kZ]
       refine lexS 13 rfl hI ?_
       refine lex_done (by decide +kernel) ?_
       clear st hO7 hSb7 hSf7 hO8 hg8 hn8 hI8 hSb hSf
       go_wp2
       go_roundw
       case rel => exact ⟨_, _, hrg4.below hI, hB4.keep hI, _, _, c9, by simp; omega, hO9.slr (fun b hb => ⟨Nat.le_trans hB4.size (Nat.le_trans hz8 hb), by omega⟩), HNI2, by simp; omega, HN4⟩
       case measure => rw [(hrg4.below hI).left_eq, hm0]; exact hcnt
open Go.Maps (Keyed IsMap int_keyed)
theorem lAt_out {l : List Lev} {c : Int} (h : c ∉ catsOf l) : lAt l c = 1 := by
 induction l with
 | nil => rfl
 | cons x l ih =>
  have : ¬ x.c = c := fun he => h (by simp [catsOf, he])
  rw [lAt, if_neg this]
  exact ih fun hm => h (by simp [catsOf] at hm ⊢; exact .inr hm)
open Go.Maps (Keyed IsMap int_keyed)
theorem made_set {l L : List Lev} {c n : Int} (hg : goodL l = true) (hc : 0 ≤ c ∧ c < 80) (hn : 0 ≤ n ∧ n ≤ 3) (h : MadeOf (catsOf l ++ [c]) (fun x => if x = c then n else lAt l x) L) : L = setL l c n := by
 refine norm_ext h.1 (set_norm hg hc hn) fun d => ?_
 rw [h.2 d, lAt_set, inL_snoc]
 by_cases hd : d = c
 ·rw [if_pos hd, if_pos rfl, if_pos hd]
  show (if d = c then n else lAt l d) = n
  rw [if_pos hd]
 ·rw [if_neg hd, if_neg hd]
  show (if inL (catsOf l) d = true then (if d = c then n else lAt l d) else 1) = lAt l d
  rw [if_neg hd]
  cases hi : inL (catsOf l) d
  ·rw [lAt_out ((inL_not _ _).1 hi)]; rfl
  ·rfl
theorem ref_SetN (ok : Nat → Prop) (w : World) (la : Option Addr) (lc : Nat) (l : List Lev) (c n : Int) (hfit : ∀ y ∈ l, y.fit) (hR : SlR ok w 2 RLev la lc l) (r : List Lev × Int) (hr : setR l c n = r) :
  Calls Try.prog 42 #[.slice la l.length lc, .int .i64 c, .int .i64 n] w fun e w' => ∃ a k, e = .returned (.tuple #[.slice a r.1.length k, .int .i64 r.2]) ∧ Below w.heap.size w w' ∧ SlR (fun b => w.heap.size ≤ b) w' 2 RLev a k r.1 := by
 have HG := qh (fun (W : World) (h : Below w.heap.size w W) => ref_GoodLabel ok W la lc l (hR.below h))
 have st := St.start w
 by_cases hno : goodL l = false ∨ catOk c = false ∨ n < 0 ∨ 3 < n
 ·have HR := qh (show r = ([], 2) by
   rw [← hr]
   unfold setR
   rw [if_neg]
   rintro ⟨a1, a2, a3⟩
   rcases hno with h | h | h | h
   ·rw [h] at a1; cases a1
   ·have := (catOk_iff c).2 a2; rw [h] at this; cases this
   ·omega
   ·omega)
  clear hr hfit
  cases h1 : goodL l
  ·have H1 := qh h1
   clear h1 hno
   go_enter Try.func42, Try.ntmps42
   go_wp2_with (first | go_skip | (go_at_call 41; go_must (refine (HG.out _ st.below).mono ?_; rintro e v2 ⟨rfl, hb2⟩; rw [H1.out]; replace st := st.call hb2; clear hb2)))
   go_ret2
   rw [HR.out]
   exact ⟨none, 0, rfl, st.below, SlR.nil _ _ _ _⟩
  ·have H1 := qh h1
   rw [h1] at hno
   cases h2 : catOk c
   ·have H2 := qh h2
    clear h1 h2 hno
    go_enter Try.func42, Try.ntmps42
    go_wp2_with (first
     | go_skip | (go_at_call 41; go_must (refine (HG.out _ st.below).mono ?_; rintro e v2 ⟨rfl, hb2⟩; rw [H1.out]; replace st := st.call hb2; clear hb2))
     | (go_at_call 55; go_must (refine (ref_IsCategory c _).mono ?_; rintro e v ⟨rfl, rfl⟩; rw [H2.out])))
    go_ret2
    rw [HR.out]
    exact ⟨none, 0, rfl, st.below, SlR.nil _ _ _ _⟩
   ·have H2 := qh h2
    rw [h2] at hno
    by_cases h3 : n < 0
    ·have d3 : decide (n < 0) = true := by simpa using h3
     clear h1 h2 hno h3
     go_enter Try.func42, Try.ntmps42
     go_wp2_with (first
      | go_skip | (go_at_call 41; go_must (refine (HG.out _ st.below).mono ?_; rintro e v2 ⟨rfl, hb2⟩; rw [H1.out]; replace st := st.call hb2; clear hb2))
      | (go_at_call 55; go_must (refine (ref_IsCategory c _).mono ?_; rintro e v ⟨rfl, rfl⟩; rw [H2.out])))
     go_ret2
     rw [HR.out]
     exact ⟨none, 0, rfl, st.below, SlR.nil _ _ _ _⟩
    ·have d3 : decide (n < 0) = false := by simpa using h3
     have d4 : decide (3 < n) = true := by simp at hno ⊢; omega
     clear h1 h2 hno h3
     go_enter Try.func42, Try.ntmps42
     go_wp2_with (first
      | go_skip | (go_at_call 41; go_must (refine (HG.out _ st.below).mono ?_; rintro e v2 ⟨rfl, hb2⟩; rw [H1.out]; replace st := st.call hb2; clear hb2))
      | (go_at_call 55; go_must (refine (ref_IsCategory c _).mono ?_; rintro e v ⟨rfl, rfl⟩; rw [H2.out])))
     go_ret2
     rw [HR.out]
     exact ⟨none, 0, rfl, st.below, SlR.nil _ _ _ _⟩
 ·have h1 : goodL l = true := by cases h : goodL l; exact absurd (.inl h) hno; rfl
  have h2 : catOk c = true := by cases h : catOk c; exact absurd (.inr (.inl h)) hno; rfl
  have h3 : 0 ≤ n ∧ n ≤ 3 := by omega
  have hc := (catOk_iff c).1 h2
  have H1 := qh h1
  have H2 := qh h2
  have d3 : decide (n < 0) = false := by simp; omega
  have d4 : decide (3 < n) = false := by simp; omega
  have hlen : l.length ≤ 8 := ((goodL_iff l).1 h1).1
  have HNo := good_norm h1
  have HAt := qh (fun x (hx : x ∈ l) => lAt_mem HNo.1 hx)
  have HFl := qh hfit
  have HS := qh (fun L h => made_set (L := L) h1 hc h3 h)
  have HR := qh (show (if (setL l c n).length ≤ 8 then (setL l c n, 0) else (([], 5) : List Lev × Int)) = r by
   rw [← hr]
   unfold setR
   rw [if_pos (show goodL l = true ∧ (0 ≤ c ∧ c < 80) ∧ 0 ≤ n ∧ n ≤ 3 from ⟨h1, hc, h3⟩)])
  have hfc : fitI c := by unfold fitI; omega
  have hfn : fitI n := by unfold fitI; omega
  have HCl := qh (show (catsOf l).length = l.length by simp [catsOf])
  have HCF := qh (show ∀ x ∈ catsOf l ++ [c], fitI x from fun x hx => by
   rcases List.mem_append.1 hx with hx | hx
   ·obtain ⟨y, hy, rfl⟩ := List.mem_map.1 hx
    exact (hfit y hy).1
   ·simp at hx; subst hx; exact hfc)
  clear h1 h2 hno hr hfit HNo hc h3
  go_enter Try.func42, Try.ntmps42
  go_wp2_with (first
   | go_skip | (go_at_call 41; go_must (refine (HG.out _ st.below).mono ?_; rintro e v2 ⟨rfl, hb2⟩; rw [H1.out]; replace st := st.call hb2; clear hb2))
   | (go_at_call 55; go_must (refine (ref_IsCategory c _).mono ?_; rintro e v ⟨rfl, rfl⟩; rw [H2.out]))
   | (refine wpList_zMake 3 3 (fun x => lAt l x) (wanted_none rfl) _ rfl ?_; intro mz w0 hmz hZ hb0; have hzw := st.size; replace st := st.call hb0; clear hb0))
  have hB0 := st.below
  have hmw : w.heap.size ≤ mz := by omega
  clear st hmz hzw
  go_loopw [31] (fun i wr => ∃ k : Nat, k ≤ l.length ∧ i = .int .i64 k ∧ Below w.heap.size w wr ∧ MapZ Try.prog 3 3 wr mz k ((catsOf l).take k) (fun x => lAt l x)) (fun i _ => l.length - (intOf i).toNat)
  case atStart => exact ⟨0, Nat.zero_le _, rfl, hB0, hZ⟩
  case round =>
   clear hZ hB0
   obtain ⟨k, hk, rfl, hB, hZ⟩ := hrel
   by_cases hlt : k < l.length
   ·obtain ⟨b, o, rfl, hb, _⟩ := hR.lev_at k hlt
    have hrow := (hR.below hB).lev_row k hlt
    have hfx := HFl.out l[k] (List.getElem_mem hlt)
    have hfx1 := hfx.1
    have hfx2 := hfx.2
    have HA := qh (HAt.out l[k] (List.getElem_mem hlt))
    have HT := qh (show (catsOf l).take (k + 1) = (catsOf l).take k ++ [l[k].c] by
     rw [List.take_succ_eq_append_getElem (by rw [HCl.out]; exact hlt)]
     simp [catsOf])
    have hkm : k < maxLen := by unfold maxLen; omega
    have st := St.start wr
    clear hfx
    go_wp2_with (first
     | go_skip | (with_reducible refine at_load 88 ?_; refine wpList_load_cells (wanted_none rfl) 88 _ rfl Try.isAgg88 _ Try.sizeOf88 b (o + k * 2) rfl [.int .i64 l[k].c, .int .i64 l[k].l] rfl hrow ?_) | (with_reducible refine mA st Try.zeroValue88 ?_; clear st; intro g1 w1 hg1 st) | (with_reducible refine mS 0 st Try.sizeOf88 ?_; clear st; intro w2 st hw2m hw2z) | (with_reducible refine mX st Try.isAgg3 ?_)
     | (at_mapUpdate; go_must (refine wpList_zUpdate (hZ.below st.below) (int_keyed Try.underlying3) Try.underlying3 (wanted_none rfl) _ _ _ 92 rfl Try.underlying92 Try.underlying3 hkm rfl _ _ rfl hfx1 rfl hfx2 ?_; intro w8 hZ8 hg8)))
    go_roundw
    case rel =>
     have hZ9 := hZ8.congr (val' := fun x => lAt l x) (fun y _ => by
      by_cases hyx : y = l[k].c
      ·subst hyx; rw [if_pos rfl]; exact HA.out.symm
      ·rw [if_neg hyx])
     exact ⟨k + 1, hlt, by go_num, (hB.keep st.below).grown hg8 (hB.keep st.below).size fun q hq => (by simp at hq; omega), by rw [HT.out]; exact hZ9⟩
    case measure => simp [intOf]; omega
   ·have hkn : (catsOf l).take k = catsOf l := List.take_of_length_le (by rw [HCl.out]; omega)
    rw [hkn] at hZ
    have hkm : k < maxLen := by unfold maxLen; omega
    clear hkn
    by_cases h8 : 8 < (setL l c n).length
    ·have d5 : decide ((8 : Int) < ((setL l c n).length : Int)) = true := by simp; omega
     have HRR := qh (show r = ([], 5) by rw [← HR.out, if_neg (by omega)])
     clear h8
     go_wp2_with (first
      | go_skip
      | (at_mapUpdate; go_must (refine wpList_zUpdate hZ (int_keyed Try.underlying3) Try.underlying3 (wanted_none rfl) _ _ _ 92 rfl Try.underlying92 Try.underlying3 hkm rfl _ _ rfl hfc rfl hfn ?_; intro w8 hZ8 hg8))
      | (go_at_call 56; go_must (refine (ref_made _ mz _ (catsOf l ++ [c]) _ HCF.out (by rw [List.length_append, HCl.out]; simp; omega) hZ8).mono ?_; rintro e v5 ⟨L, o, q, rfl, hMd, hll, hb5, hS5⟩; obtain rfl := HS.out L hMd)))
     go_ret2
     rw [HRR.out]
     exact ⟨none, 0, rfl, (hB.grown hg8 hB.size fun q hq => (by simp at hq; omega)).keep hb5, SlR.nil _ _ _ _⟩
    ·have d5 : decide ((8 : Int) < ((setL l c n).length : Int)) = false := by simp; omega
     have HRR := qh (show r = (setL l c n, 0) by rw [← HR.out, if_pos (by omega)])
     clear h8
     go_wp2_with (first
      | go_skip
      | (at_mapUpdate; go_must (refine wpList_zUpdate hZ (int_keyed Try.underlying3) Try.underlying3 (wanted_none rfl) _ _ _ 92 rfl Try.underlying92 Try.underlying3 hkm rfl _ _ rfl hfc rfl hfn ?_; intro w8 hZ8 hg8))
      | (go_at_call 56; go_must (refine (ref_made _ mz _ (catsOf l ++ [c]) _ HCF.out (by rw [List.length_append, HCl.out]; simp; omega) hZ8).mono ?_; rintro e v5 ⟨L, o, q, rfl, hMd, hll, hb5, hS5⟩; obtain rfl := HS.out L hMd)))
     go_ret2
     rw [HRR.out]
     have hB8 : Below w.heap.size w w8 := hB.grown hg8 hB.size fun q hq => (by simp at hq; omega)
     exact ⟨o, q, rfl, hB8.keep hb5, hS5.okay fun b hb => Nat.le_trans hB8.size hb⟩
end Go.Proofs.Ytealbofmlieicaa
