/- Walks and plain laws that the claim rests on, part 4. -/
import Derived.Test.YtnihccinpbpllaaP3
import Derived.Test.YtnihccinpbpllaaP1
import Derived.Test.YtnihccinpbpllaaRows
import Derived.Test.YtnihccinpbpllaaP2
import Derived.SizedLaws
set_option linter.unusedSimpArgs false
set_option linter.unusedVariables false
/- The walk through parcloseref.GoodLabel. -/
namespace Go.Proofs.Ytnihccinpbpllaa
open Go.RowKit

theorem prevC_ge {l : List Lev} {k : Nat} (h : -1 ≤ prevC l k) (hk : k < l.length) (hc : 0 ≤ l[k].c) : -1 ≤ prevC l (k + 1) := by
  rw [prevC_succ l k hk]
  omega

set_option maxRecDepth 100000 in
set_option maxHeartbeats 3000000 in
theorem ref_GoodLabel (ok : Nat → Prop) (w : World) (la : Option Addr) (lc : Nat) (l : List Lev) (hR : SlR ok w 2 RLev la lc l) :
    Calls Try.prog 20 #[.slice la l.length lc] w fun e w' => e = .returned (.bool (goodL l)) ∧ Below w.heap.size w w' := by
  have hl : l.length ≤ 9223372036854775807 := by have h1 := hR.1; have h2 := hR.2.1; unfold maxLen at h2; omega
  go_enter Try.func20, Try.ntmps20
  go_wp2
  go_loopw [8, 3] (fun i p wr => ∃ k : Nat, k ≤ l.length ∧ i = .int .i64 k ∧ p = .int .i64 (prevC l k) ∧ Below w.heap.size w wr ∧ Hid (risesL (-1) l = risesL (prevC l k) (l.drop k)) ∧ -1 ≤ prevC l k) (fun i _ _ => l.length - (intOf i).toNat)
  case atStart => exact ⟨0, Nat.zero_le _, rfl, by rw [prevC_zero], Below.refl _ _, by rw [prevC_zero]; rfl, by rw [prevC_zero]; decide⟩
  case round =>
    obtain ⟨k, hk, rfl, rfl, hB, hI, hge⟩ := hrel
    by_cases hlt : k < l.length
    · obtain ⟨b, o, rfl, hb, _⟩ := hR.lev_at k hlt
      have hrow := (hR.below hB).lev_row k hlt
      have hbad := @good_bad l k hlt hI
      have hgo := @good_go l k hlt hI
      have hps := prevC_succ l k hlt
      have hpg := @prevC_ge l k hge hlt
      generalize prevC l k = p at hbad hgo hge hpg ⊢
      generalize hx : l[k] = x at hrow hbad hgo hps hpg
      have HBad := Lib.hid hbad
      have HGo := Lib.hid hgo
      have HPs := Lib.hid hps
      have HPg := Lib.hid hpg
      clear hx hbad hgo hI hps hpg
      have st := St.start wr
      by_cases e1 : x.c ≤ p
      · have d1 : decide (x.c ≤ p) = true := by simpa using e1
        have HE := Lib.hid (HBad.out fun h => by omega)
        clear e1
        go_wp2_with (first | go_skip | (with_reducible refine at_load 43 ?_; refine wpList_load_cells (wanted_none rfl) 43 _ rfl Try.isAgg43 _ Try.sizeOf43 b (o + k * 2) rfl [.int .i64 x.c, .int .i64 x.l] rfl hrow ?_) | (with_reducible refine at_alloc 43 ?_; refine mem_alloc st (wanted_none rfl) 43 rfl _ Try.zeroValue43 _ rfl ?_; clear st; intro g1 w1 hg1 st hg1b; clear hg1b; simp [Act.eval, Act.put, Value.cells, putL] at st) | (with_reducible refine at_store 43 ?_; (first | refine mem_store' st 43 _ _ rfl (wanted_none rfl) _ Try.sizeOf43 ?_ | (refine mem_store' st 43 _ _ rfl (wanted_some rfl ?_) _ Try.sizeOf43 ?_; focus (simp [yielded, Act.put]; done))); refine ⟨0, _, _, _, _, _, rfl, rfl, rfl, rfl, rfl, rfl, ?_⟩; clear st; intro w2 st hw2m hw2z; simp [Act.eval, Act.put, Value.cells, putL] at st) | (with_reducible refine at_load 3 ?_; (first | refine mem_load' st 3 _ rfl (wanted_none rfl) Try.isAgg3 ?_ | (refine mem_load' st 3 _ rfl (wanted_some rfl ?_) Try.isAgg3 ?_; focus (simp [yielded, Act.put]; done))); refine ⟨0, _, _, _, _, _, rfl, rfl, rfl, ?_⟩))
        go_ret
        exact ⟨ret_bool HE.out.symm, hB.keep st.below⟩
      · have d1 : decide (x.c ≤ p) = false := by simpa using e1
        by_cases e2 : 79 < x.c
        · have d2 : decide (79 < x.c) = true := by simpa using e2
          have HE := Lib.hid (HBad.out fun h => by have := h.2; simp only [lvOk, decide_eq_true_eq] at this; omega)
          clear e1 e2
          go_wp2_with (first | go_skip | (with_reducible refine at_load 43 ?_; refine wpList_load_cells (wanted_none rfl) 43 _ rfl Try.isAgg43 _ Try.sizeOf43 b (o + k * 2) rfl [.int .i64 x.c, .int .i64 x.l] rfl hrow ?_) | (with_reducible refine at_alloc 43 ?_; refine mem_alloc st (wanted_none rfl) 43 rfl _ Try.zeroValue43 _ rfl ?_; clear st; intro g1 w1 hg1 st hg1b; clear hg1b; simp [Act.eval, Act.put, Value.cells, putL] at st) | (with_reducible refine at_store 43 ?_; (first | refine mem_store' st 43 _ _ rfl (wanted_none rfl) _ Try.sizeOf43 ?_ | (refine mem_store' st 43 _ _ rfl (wanted_some rfl ?_) _ Try.sizeOf43 ?_; focus (simp [yielded, Act.put]; done))); refine ⟨0, _, _, _, _, _, rfl, rfl, rfl, rfl, rfl, rfl, ?_⟩; clear st; intro w2 st hw2m hw2z; simp [Act.eval, Act.put, Value.cells, putL] at st) | (with_reducible refine at_load 3 ?_; (first | refine mem_load' st 3 _ rfl (wanted_none rfl) Try.isAgg3 ?_ | (refine mem_load' st 3 _ rfl (wanted_some rfl ?_) Try.isAgg3 ?_; focus (simp [yielded, Act.put]; done))); refine ⟨0, _, _, _, _, _, rfl, rfl, rfl, ?_⟩))
          go_ret
          exact ⟨ret_bool HE.out.symm, hB.keep st.below⟩
        · have d2 : decide (79 < x.c) = false := by simpa using e2
          rcases (show x.l = 0 ∨ (x.l ≠ 0 ∧ x.l = 2) ∨ (x.l ≠ 0 ∧ x.l ≠ 2 ∧ x.l = 3) ∨ (x.l ≠ 0 ∧ x.l ≠ 2 ∧ x.l ≠ 3) by omega) with h3 | ⟨h4, h5⟩ | ⟨h4, h5, h6⟩ | ⟨h4, h5, h6⟩
          · have HOk := Lib.hid (show p < x.c ∧ lvOk x = true from ⟨by omega, by simp only [lvOk, decide_eq_true_eq]; omega⟩)
            have hx0 : 0 ≤ x.c := by omega
            have d3 : (x.l != 0) = false := by simp; omega
            skip
            clear e1 e2 h3
            go_wp2_with (first | go_skip | (with_reducible refine at_load 43 ?_; refine wpList_load_cells (wanted_none rfl) 43 _ rfl Try.isAgg43 _ Try.sizeOf43 b (o + k * 2) rfl [.int .i64 x.c, .int .i64 x.l] rfl hrow ?_) | (with_reducible refine at_alloc 43 ?_; refine mem_alloc st (wanted_none rfl) 43 rfl _ Try.zeroValue43 _ rfl ?_; clear st; intro g1 w1 hg1 st hg1b; clear hg1b; simp [Act.eval, Act.put, Value.cells, putL] at st) | (with_reducible refine at_store 43 ?_; (first | refine mem_store' st 43 _ _ rfl (wanted_none rfl) _ Try.sizeOf43 ?_ | (refine mem_store' st 43 _ _ rfl (wanted_some rfl ?_) _ Try.sizeOf43 ?_; focus (simp [yielded, Act.put]; done))); refine ⟨0, _, _, _, _, _, rfl, rfl, rfl, rfl, rfl, rfl, ?_⟩; clear st; intro w2 st hw2m hw2z; simp [Act.eval, Act.put, Value.cells, putL] at st) | (with_reducible refine at_load 3 ?_; (first | refine mem_load' st 3 _ rfl (wanted_none rfl) Try.isAgg3 ?_ | (refine mem_load' st 3 _ rfl (wanted_some rfl ?_) Try.isAgg3 ?_; focus (simp [yielded, Act.put]; done))); refine ⟨0, _, _, _, _, _, rfl, rfl, rfl, ?_⟩))
            go_roundw
            case rel => exact ⟨k + 1, hlt, by go_num, by rw [HPs.out], hB.keep st.below, HGo.out HOk.out, HPg.out hx0⟩
            case measure => simp [intOf]; omega
          · have HOk := Lib.hid (show p < x.c ∧ lvOk x = true from ⟨by omega, by simp only [lvOk, decide_eq_true_eq]; omega⟩)
            have hx0 : 0 ≤ x.c := by omega
            have d3 : (x.l != 0) = true := by simp; omega
            have d4 : (x.l != 2) = false := by simp; omega
            clear e1 e2 h4 h5
            go_wp2_with (first | go_skip | (with_reducible refine at_load 43 ?_; refine wpList_load_cells (wanted_none rfl) 43 _ rfl Try.isAgg43 _ Try.sizeOf43 b (o + k * 2) rfl [.int .i64 x.c, .int .i64 x.l] rfl hrow ?_) | (with_reducible refine at_alloc 43 ?_; refine mem_alloc st (wanted_none rfl) 43 rfl _ Try.zeroValue43 _ rfl ?_; clear st; intro g1 w1 hg1 st hg1b; clear hg1b; simp [Act.eval, Act.put, Value.cells, putL] at st) | (with_reducible refine at_store 43 ?_; (first | refine mem_store' st 43 _ _ rfl (wanted_none rfl) _ Try.sizeOf43 ?_ | (refine mem_store' st 43 _ _ rfl (wanted_some rfl ?_) _ Try.sizeOf43 ?_; focus (simp [yielded, Act.put]; done))); refine ⟨0, _, _, _, _, _, rfl, rfl, rfl, rfl, rfl, rfl, ?_⟩; clear st; intro w2 st hw2m hw2z; simp [Act.eval, Act.put, Value.cells, putL] at st) | (with_reducible refine at_load 3 ?_; (first | refine mem_load' st 3 _ rfl (wanted_none rfl) Try.isAgg3 ?_ | (refine mem_load' st 3 _ rfl (wanted_some rfl ?_) Try.isAgg3 ?_; focus (simp [yielded, Act.put]; done))); refine ⟨0, _, _, _, _, _, rfl, rfl, rfl, ?_⟩))
            go_roundw
            case rel => exact ⟨k + 1, hlt, by go_num, by rw [HPs.out], hB.keep st.below, HGo.out HOk.out, HPg.out hx0⟩
            case measure => simp [intOf]; omega
          · have HOk := Lib.hid (show p < x.c ∧ lvOk x = true from ⟨by omega, by simp only [lvOk, decide_eq_true_eq]; omega⟩)
            have hx0 : 0 ≤ x.c := by omega
            have d3 : (x.l != 0) = true := by simp; omega
            have d4 : (x.l != 2) = true := by simp; omega
            have d5 : (x.l != 3) = false := by simp; omega
            clear e1 e2 h4 h5 h6
            go_wp2_with (first | go_skip | (with_reducible refine at_load 43 ?_; refine wpList_load_cells (wanted_none rfl) 43 _ rfl Try.isAgg43 _ Try.sizeOf43 b (o + k * 2) rfl [.int .i64 x.c, .int .i64 x.l] rfl hrow ?_) | (with_reducible refine at_alloc 43 ?_; refine mem_alloc st (wanted_none rfl) 43 rfl _ Try.zeroValue43 _ rfl ?_; clear st; intro g1 w1 hg1 st hg1b; clear hg1b; simp [Act.eval, Act.put, Value.cells, putL] at st) | (with_reducible refine at_store 43 ?_; (first | refine mem_store' st 43 _ _ rfl (wanted_none rfl) _ Try.sizeOf43 ?_ | (refine mem_store' st 43 _ _ rfl (wanted_some rfl ?_) _ Try.sizeOf43 ?_; focus (simp [yielded, Act.put]; done))); refine ⟨0, _, _, _, _, _, rfl, rfl, rfl, rfl, rfl, rfl, ?_⟩; clear st; intro w2 st hw2m hw2z; simp [Act.eval, Act.put, Value.cells, putL] at st) | (with_reducible refine at_load 3 ?_; (first | refine mem_load' st 3 _ rfl (wanted_none rfl) Try.isAgg3 ?_ | (refine mem_load' st 3 _ rfl (wanted_some rfl ?_) Try.isAgg3 ?_; focus (simp [yielded, Act.put]; done))); refine ⟨0, _, _, _, _, _, rfl, rfl, rfl, ?_⟩))
            go_roundw
            case rel => exact ⟨k + 1, hlt, by go_num, by rw [HPs.out], hB.keep st.below, HGo.out HOk.out, HPg.out hx0⟩
            case measure => simp [intOf]; omega
          · have HE := Lib.hid (HBad.out fun h => by have := h.2; simp only [lvOk, decide_eq_true_eq] at this; omega)
            have d3 : (x.l != 0) = true := by simp; omega
            have d4 : (x.l != 2) = true := by simp; omega
            have d5 : (x.l != 3) = true := by simp; omega
            clear e1 e2 h4 h5 h6
            go_wp2_with (first | go_skip | (with_reducible refine at_load 43 ?_; refine wpList_load_cells (wanted_none rfl) 43 _ rfl Try.isAgg43 _ Try.sizeOf43 b (o + k * 2) rfl [.int .i64 x.c, .int .i64 x.l] rfl hrow ?_) | (with_reducible refine at_alloc 43 ?_; refine mem_alloc st (wanted_none rfl) 43 rfl _ Try.zeroValue43 _ rfl ?_; clear st; intro g1 w1 hg1 st hg1b; clear hg1b; simp [Act.eval, Act.put, Value.cells, putL] at st) | (with_reducible refine at_store 43 ?_; (first | refine mem_store' st 43 _ _ rfl (wanted_none rfl) _ Try.sizeOf43 ?_ | (refine mem_store' st 43 _ _ rfl (wanted_some rfl ?_) _ Try.sizeOf43 ?_; focus (simp [yielded, Act.put]; done))); refine ⟨0, _, _, _, _, _, rfl, rfl, rfl, rfl, rfl, rfl, ?_⟩; clear st; intro w2 st hw2m hw2z; simp [Act.eval, Act.put, Value.cells, putL] at st) | (with_reducible refine at_load 3 ?_; (first | refine mem_load' st 3 _ rfl (wanted_none rfl) Try.isAgg3 ?_ | (refine mem_load' st 3 _ rfl (wanted_some rfl ?_) Try.isAgg3 ?_; focus (simp [yielded, Act.put]; done))); refine ⟨0, _, _, _, _, _, rfl, rfl, rfl, ?_⟩))
            go_ret
            exact ⟨ret_bool HE.out.symm, hB.keep st.below⟩
    · have HE := Lib.hid (show goodL l = decide (l.length ≤ 8) by
        unfold goodL
        rw [hI.out, List.drop_of_length_le (by omega)]
        by_cases h8 : l.length ≤ 8 <;> simp [h8, risesL])
      go_wp2
      go_ret
      exact ⟨ret_bool (by rw [HE.out]; simp; omega), hB⟩

end Go.Proofs.Ytnihccinpbpllaa

/- The walks through parcloseref.Join, Meet and Set. -/
namespace Go.Proofs.Ytnihccinpbpllaa
open Go.RowKit
open Go.Maps (Keyed IsMap int_keyed)

theorem lAt_fit {l : List Lev} (h : ∀ y ∈ l, y.fit) (c : Int) : fitI (lAt l c) := by
  induction l with
  | nil => unfold lAt fitI; omega
  | cons x l ih =>
    unfold lAt
    split
    · exact (h x (by simp)).2
    · exact ih fun y hy => h y (by simp [hy])

theorem lAt_out {l : List Lev} {c : Int} (h : c ∉ catsOf l) : lAt l c = 1 := by
  induction l with
  | nil => rfl
  | cons x l ih =>
    have : ¬ x.c = c := fun he => h (by simp [catsOf, he])
    rw [lAt, if_neg this]
    exact ih fun hm => h (by simp [catsOf] at hm ⊢; exact .inr hm)

theorem made_both {a b l : List Lev} {seen : List Int} {f : Int → Int → Int} (h1 : f 1 1 = 1) (h : MadeOf seen (fun c => f (lAt a c) (lAt b c)) l) (hs : ∀ c, c ∈ catsOf a ∨ c ∈ catsOf b → inL seen c = true) : l = bothL f a b := by
  refine norm_ext h.1 (norm_both f a b) fun c => ?_
  rw [h.2 c, lAt_both h1]
  cases hc : inL seen c
  · have ha : c ∉ catsOf a := fun hm => by have := hs c (.inl hm); rw [hc] at this; cases this
    have hb : c ∉ catsOf b := fun hm => by have := hs c (.inr hm); rw [hc] at this; cases this
    rw [lAt_out ha, lAt_out hb, h1]
    rfl
  · rfl

set_option maxRecDepth 100000 in
set_option maxHeartbeats 4000000 in
theorem ref_Join (ok : Nat → Prop) (w : World) (la lb : Option Addr) (ca cb : Nat) (a b : List Lev) (hfa : ∀ y ∈ a, y.fit) (hfb : ∀ y ∈ b, y.fit) (hn : (a.length + b.length) * 16 ≤ 140737488355328)
    (hA : SlR ok w 2 RLev la ca a) (hB' : SlR ok w 2 RLev lb cb b) :
    Calls Try.prog 12 #[.slice la a.length ca, .slice lb b.length cb] w fun e w' => ∃ o c, e = .returned (.slice o (bothL max a b).length c) ∧ Below w.heap.size w w' ∧ SlR (fun b => w.heap.size ≤ b) w' 2 RLev o c (bothL max a b) := by
  have hnl : (namesL [a, b]).length = a.length + b.length := by simp [namesL]
  have HNm := Lib.hid (fun (W : World) (g : Nat) (h : LabelsR (fun _ => True) W (some ⟨g, 0, none⟩) 2 [a, b]) => ref_names (fun _ => True) W (some ⟨g, 0, none⟩) 2 [a, b] (fun x hx y hy => by
    simp at hx
    rcases hx with rfl | rfl
    · exact (hfa y hy).1
    · exact (hfb y hy).1) (by rw [hnl]; unfold maxLen; omega) h)
  have HFit := Lib.hid (show ∀ x, inL (namesL [a, b]) x = true → fitI x from fun x hx => by
    rw [inL_iff] at hx
    simp [namesL] at hx
    rcases hx with ⟨y, hy, rfl⟩ | ⟨y, hy, rfl⟩
    · exact (hfa y hy).1
    · exact (hfb y hy).1)
  have HMem := Lib.hid (show ∀ x, x ∈ catsOf a ∨ x ∈ catsOf b → inL (namesL [a, b]) x = true from fun x hx => by
    rw [inL_iff]
    simpa [namesL, catsOf] using hx)
  have HLa := Lib.hid (fun c => lAt_fit hfa c)
  have HLb := Lib.hid (fun c => lAt_fit hfb c)
  have HNL := Lib.hid hnl
  clear hfa hfb hnl
  have st := St.start w
  go_enter Try.func12, Try.ntmps12
  go_wp2_with (first
    | go_skip | (refine wpList_zMake 3 3 (fun c => max (lAt a c) (lAt b c)) (wanted_none rfl) _ rfl ?_; intro mz w0 hmz hZ hb0; have hlz := hZ.lt; replace st := st.call hb0; clear hb0)
    | (refine wpList_buildV2 st (wanted_none rfl) 52 23 _ _ rfl Try.underlying52 Try.sizeOf23 Try.zeroValue23 _ _ _ _ _ _ rfl rfl ?_; have st0 := st; clear st; intro g1 w1 hg1 st hb1; simp at st; replace hZ := hZ.below hb1)
    | (go_at_call 31; go_must (refine (HNm.out _ g1 (labels2 (st.blk _ (List.mem_of_getElem? (i := 0) rfl)) (hA.below st.below) (hB'.below st.below))).mono ?_; rintro e v2 ⟨bm, rfl, hbm, hb2, hM⟩; have hzs := hZ.lt; replace hZ := hZ.below hb2; replace st := st.call hb2; clear hb2))
    | (at_range; go_must (refine wpList_setRange hM (int_keyed Try.underlying3) rfl _ 47 rfl Try.underlying47 rfl ?_; intro r w3 cnt0 hr0 hrg hb3; have hzs2 := hZ.lt; have hml := hM.lt; replace hZ := hZ.below hb3; replace st := st.call hb3; clear hb3)))
  go_frame
  have hzr : mz ≠ r := by omega
  have hzb : mz ≠ bm := by omega
  have hbw : w.heap.size ≤ r := by omega
  have hB0 := st.below
  clear st st0 hM hg1 hbm hr0 hml hzs hzs2 hlz hb1
  go_loopw [6] (fun _ wr => ∃ seen cnt, RangeB Try.prog 3 4 wr bm r (namesL [a, b]).length (namesL [a, b]) seen cnt ∧ MapZ Try.prog 3 3 wr mz seen.length seen (fun c => max (lAt a c) (lAt b c)) ∧ Below w.heap.size w wr ∧ Hid (seen.Nodup ∧ ∀ x ∈ seen, inL (namesL [a, b]) x = true)) (fun _ wr => wr.rangeLeft bm r)
  case atStart => exact ⟨[], _, hrg, hZ, hB0, List.nodup_nil, by simp⟩
  case round =>
    clear hrg hB0 hZ
    obtain ⟨seen, cnt, hrg, hZ, hB, hN⟩ := hrel
    have hm0 := hrg.left_eq
    go_wp2_with (first | go_skip | (at_next; refine wpList_setNext1 hrg (int_keyed Try.underlying3) Try.underlying3 Try.underlying4 rfl _ rfl rfl (fun hD => RowKit.Hid.out ?_) (fun x c w4 cnt4 hfx hx hns hrg4 hcnt hg4 hz4 hen => RowKit.Hid.out ?_)))
    · refine Lib.hid ?_
      have hsl := seen_le hN.out.1 hN.out.2
      rw [HNL.out] at hsl
      have HD := Lib.hid (fun l (h : MadeOf seen (fun c => max (lAt a c) (lAt b c)) l) => made_both (f := max) (by decide) h fun c hc => hD.out c (HFit.out c (HMem.out c hc)) (HMem.out c hc))
      go_wp2_with (first | go_skip | (go_at_call 32; go_must (refine (ref_made _ mz _ seen _ (fun x hx => HFit.out x (hN.out.2 x hx)) (by omega) hZ).mono ?_; rintro e v5 ⟨l, o, c, rfl, hMd, hll, hb5, hS5⟩; obtain rfl := HD.out l hMd)))
      have hBs := hB.size
      go_ret
      exact ⟨o, c, rfl, hB.keep hb5, hS5.okay fun b hb => Nat.le_trans hBs hb⟩
    · refine Lib.hid ?_
      have hB4 : Below w.heap.size w w4 := hB.grown hg4 hB.size fun q hq => by simp at hq; omega
      have hZ4 := hZ.kept hg4 (by simp; exact fun h => hzr h.symm)
      have hZl := hZ4.lt
      have st := St.start w4
      have HA := Lib.hid (fun (W : World) (h : Below w.heap.size w W) => ref_At ok W la ca a x (hA.below h))
      have HB := Lib.hid (fun (W : World) (h : Below w.heap.size w W) => ref_At ok W lb cb b x (hB'.below h))
      have HN4 := Lib.hid (show (seen ++ [x]).Nodup ∧ ∀ y ∈ seen ++ [x], inL (namesL [a, b]) y = true from ⟨List.nodup_append.2 ⟨hN.out.1, by simp, fun a ha b hb => by simp at hb; subst hb; intro he; subst he; exact (inL_not _ _).1 hns ha⟩, fun y hy => by
        rcases List.mem_append.1 hy with hy | hy
        · exact hN.out.2 y hy
        · simp at hy; subst hy; exact hx⟩)
      have hsl := seen_le hN.out.1 hN.out.2
      rw [HNL.out] at hsl
      have hfm : fitI (if lAt a x < lAt b x then lAt b x else lAt a x) := by have h1 := HLa.out x; have h2 := HLb.out x; split <;> assumption
      have HI := Lib.hid (show (if lAt a x < lAt b x then lAt b x else lAt a x) = max (lAt a x) (lAt b x) by split <;> omega)
      have hsm : seen.length < maxLen := by unfold maxLen; omega
      have hrl := hrg4.lt
      clear hrg hx hg4 hN hns hZ
      have tk := trivial
      go_wp2_with (first
        | go_skip
        | (go_at_call 22; clear tk; go_must (refine (HA.out _ (hB4.keep st.below)).mono ?_; rintro e v6 ⟨rfl, hb6⟩; replace hZ4 := hZ4.below hb6; replace hrg4 := hrg4.below hb6; replace st := st.call hb6; clear hb6))
        | (go_at_call 22; go_must (refine (HB.out _ (hB4.keep st.below)).mono ?_; rintro e v7 ⟨rfl, hb7⟩; replace hZ4 := hZ4.below hb7; replace hrg4 := hrg4.below hb7; replace st := st.call hb7; clear hb7))
        | (at_mapUpdate; go_must (refine wpList_zUpdate hZ4 (int_keyed Try.underlying3) Try.underlying3 (wanted_none rfl) _ _ _ 46 rfl Try.underlying46 Try.underlying3 hsm rfl _ _ rfl hfx rfl hfm ?_; intro w8 hZ8 hg8)))
      all_goals
        go_roundw
        case rel =>
          have hrg8 := hrg4.kept hg8 (by simp; exact fun h => hzb h.symm) (by simp; exact fun h => hzr h.symm)
          have hZ9 := hZ8.congr (val' := fun c => max (lAt a c) (lAt b c)) (fun y _ => by
            by_cases hyx : y = x
            · subst hyx; rw [if_pos rfl]; exact HI.out
            · rw [if_neg hyx])
          exact ⟨_, ⟨_, hrg8⟩, by simpa using hZ9, (hB4.keep st.below).grown hg8 (hB4.keep st.below).size fun q hq => (by simp at hq; omega), HN4⟩
        case measure => rw [(hrg4.kept hg8 (by simp; exact fun h => hzb h.symm) (by simp; exact fun h => hzr h.symm)).left_eq]; exact hcnt

set_option maxRecDepth 100000 in
set_option maxHeartbeats 4000000 in
theorem ref_Meet (ok : Nat → Prop) (w : World) (la lb : Option Addr) (ca cb : Nat) (a b : List Lev) (hfa : ∀ y ∈ a, y.fit) (hfb : ∀ y ∈ b, y.fit) (hn : (a.length + b.length) * 16 ≤ 140737488355328)
    (hA : SlR ok w 2 RLev la ca a) (hB' : SlR ok w 2 RLev lb cb b) :
    Calls Try.prog 14 #[.slice la a.length ca, .slice lb b.length cb] w fun e w' => ∃ o c, e = .returned (.slice o (bothL min a b).length c) ∧ Below w.heap.size w w' ∧ SlR (fun b => w.heap.size ≤ b) w' 2 RLev o c (bothL min a b) := by
  have hnl : (namesL [a, b]).length = a.length + b.length := by simp [namesL]
  have HNm := Lib.hid (fun (W : World) (g : Nat) (h : LabelsR (fun _ => True) W (some ⟨g, 0, none⟩) 2 [a, b]) => ref_names (fun _ => True) W (some ⟨g, 0, none⟩) 2 [a, b] (fun x hx y hy => by
    simp at hx
    rcases hx with rfl | rfl
    · exact (hfa y hy).1
    · exact (hfb y hy).1) (by rw [hnl]; unfold maxLen; omega) h)
  have HFit := Lib.hid (show ∀ x, inL (namesL [a, b]) x = true → fitI x from fun x hx => by
    rw [inL_iff] at hx
    simp [namesL] at hx
    rcases hx with ⟨y, hy, rfl⟩ | ⟨y, hy, rfl⟩
    · exact (hfa y hy).1
    · exact (hfb y hy).1)
  have HMem := Lib.hid (show ∀ x, x ∈ catsOf a ∨ x ∈ catsOf b → inL (namesL [a, b]) x = true from fun x hx => by
    rw [inL_iff]
    simpa [namesL, catsOf] using hx)
  have HLa := Lib.hid (fun c => lAt_fit hfa c)
  have HLb := Lib.hid (fun c => lAt_fit hfb c)
  have HNL := Lib.hid hnl
  clear hfa hfb hnl
  have st := St.start w
  go_enter Try.func14, Try.ntmps14
  go_wp2_with (first
    | go_skip | (refine wpList_zMake 3 3 (fun c => min (lAt a c) (lAt b c)) (wanted_none rfl) _ rfl ?_; intro mz w0 hmz hZ hb0; have hlz := hZ.lt; replace st := st.call hb0; clear hb0)
    | (refine wpList_buildV2 st (wanted_none rfl) 52 23 _ _ rfl Try.underlying52 Try.sizeOf23 Try.zeroValue23 _ _ _ _ _ _ rfl rfl ?_; have st0 := st; clear st; intro g1 w1 hg1 st hb1; simp at st; replace hZ := hZ.below hb1)
    | (go_at_call 31; go_must (refine (HNm.out _ g1 (labels2 (st.blk _ (List.mem_of_getElem? (i := 0) rfl)) (hA.below st.below) (hB'.below st.below))).mono ?_; rintro e v2 ⟨bm, rfl, hbm, hb2, hM⟩; have hzs := hZ.lt; replace hZ := hZ.below hb2; replace st := st.call hb2; clear hb2))
    | (at_range; go_must (refine wpList_setRange hM (int_keyed Try.underlying3) rfl _ 47 rfl Try.underlying47 rfl ?_; intro r w3 cnt0 hr0 hrg hb3; have hzs2 := hZ.lt; have hml := hM.lt; replace hZ := hZ.below hb3; replace st := st.call hb3; clear hb3)))
  go_frame
  have hzr : mz ≠ r := by omega
  have hzb : mz ≠ bm := by omega
  have hbw : w.heap.size ≤ r := by omega
  have hB0 := st.below
  clear st st0 hM hg1 hbm hr0 hml hzs hzs2 hlz hb1
  go_loopw [6] (fun _ wr => ∃ seen cnt, RangeB Try.prog 3 4 wr bm r (namesL [a, b]).length (namesL [a, b]) seen cnt ∧ MapZ Try.prog 3 3 wr mz seen.length seen (fun c => min (lAt a c) (lAt b c)) ∧ Below w.heap.size w wr ∧ Hid (seen.Nodup ∧ ∀ x ∈ seen, inL (namesL [a, b]) x = true)) (fun _ wr => wr.rangeLeft bm r)
  case atStart => exact ⟨[], _, hrg, hZ, hB0, List.nodup_nil, by simp⟩
  case round =>
    clear hrg hB0 hZ
    obtain ⟨seen, cnt, hrg, hZ, hB, hN⟩ := hrel
    have hm0 := hrg.left_eq
    go_wp2_with (first | go_skip | (at_next; refine wpList_setNext1 hrg (int_keyed Try.underlying3) Try.underlying3 Try.underlying4 rfl _ rfl rfl (fun hD => RowKit.Hid.out ?_) (fun x c w4 cnt4 hfx hx hns hrg4 hcnt hg4 hz4 hen => RowKit.Hid.out ?_)))
    · refine Lib.hid ?_
      have hsl := seen_le hN.out.1 hN.out.2
      rw [HNL.out] at hsl
      have HD := Lib.hid (fun l (h : MadeOf seen (fun c => min (lAt a c) (lAt b c)) l) => made_both (f := min) (by decide) h fun c hc => hD.out c (HFit.out c (HMem.out c hc)) (HMem.out c hc))
      go_wp2_with (first | go_skip | (go_at_call 32; go_must (refine (ref_made _ mz _ seen _ (fun x hx => HFit.out x (hN.out.2 x hx)) (by omega) hZ).mono ?_; rintro e v5 ⟨l, o, c, rfl, hMd, hll, hb5, hS5⟩; obtain rfl := HD.out l hMd)))
      have hBs := hB.size
      go_ret
      exact ⟨o, c, rfl, hB.keep hb5, hS5.okay fun b hb => Nat.le_trans hBs hb⟩
    · refine Lib.hid ?_
      have hB4 : Below w.heap.size w w4 := hB.grown hg4 hB.size fun q hq => by simp at hq; omega
      have hZ4 := hZ.kept hg4 (by simp; exact fun h => hzr h.symm)
      have hZl := hZ4.lt
      have st := St.start w4
      have HA := Lib.hid (fun (W : World) (h : Below w.heap.size w W) => ref_At ok W la ca a x (hA.below h))
      have HB := Lib.hid (fun (W : World) (h : Below w.heap.size w W) => ref_At ok W lb cb b x (hB'.below h))
      have HN4 := Lib.hid (show (seen ++ [x]).Nodup ∧ ∀ y ∈ seen ++ [x], inL (namesL [a, b]) y = true from ⟨List.nodup_append.2 ⟨hN.out.1, by simp, fun a ha b hb => by simp at hb; subst hb; intro he; subst he; exact (inL_not _ _).1 hns ha⟩, fun y hy => by
        rcases List.mem_append.1 hy with hy | hy
        · exact hN.out.2 y hy
        · simp at hy; subst hy; exact hx⟩)
      have hsl := seen_le hN.out.1 hN.out.2
      rw [HNL.out] at hsl
      have hfm : fitI (if lAt b x < lAt a x then lAt b x else lAt a x) := by have h1 := HLa.out x; have h2 := HLb.out x; split <;> assumption
      have HI := Lib.hid (show (if lAt b x < lAt a x then lAt b x else lAt a x) = min (lAt a x) (lAt b x) by split <;> omega)
      have hsm : seen.length < maxLen := by unfold maxLen; omega
      have hrl := hrg4.lt
      clear hrg hx hg4 hN hns hZ
      have tk := trivial
      go_wp2_with (first
        | go_skip
        | (go_at_call 22; clear tk; go_must (refine (HA.out _ (hB4.keep st.below)).mono ?_; rintro e v6 ⟨rfl, hb6⟩; replace hZ4 := hZ4.below hb6; replace hrg4 := hrg4.below hb6; replace st := st.call hb6; clear hb6))
        | (go_at_call 22; go_must (refine (HB.out _ (hB4.keep st.below)).mono ?_; rintro e v7 ⟨rfl, hb7⟩; replace hZ4 := hZ4.below hb7; replace hrg4 := hrg4.below hb7; replace st := st.call hb7; clear hb7))
        | (at_mapUpdate; go_must (refine wpList_zUpdate hZ4 (int_keyed Try.underlying3) Try.underlying3 (wanted_none rfl) _ _ _ 46 rfl Try.underlying46 Try.underlying3 hsm rfl _ _ rfl hfx rfl hfm ?_; intro w8 hZ8 hg8)))
      all_goals
        go_roundw
        case rel =>
          have hrg8 := hrg4.kept hg8 (by simp; exact fun h => hzb h.symm) (by simp; exact fun h => hzr h.symm)
          have hZ9 := hZ8.congr (val' := fun c => min (lAt a c) (lAt b c)) (fun y _ => by
            by_cases hyx : y = x
            · subst hyx; rw [if_pos rfl]; exact HI.out
            · rw [if_neg hyx])
          exact ⟨_, ⟨_, hrg8⟩, by simpa using hZ9, (hB4.keep st.below).grown hg8 (hB4.keep st.below).size fun q hq => (by simp at hq; omega), HN4⟩
        case measure => rw [(hrg4.kept hg8 (by simp; exact fun h => hzb h.symm) (by simp; exact fun h => hzr h.symm)).left_eq]; exact hcnt

end Go.Proofs.Ytnihccinpbpllaa

/- Copies of labels and numbers, by their own memory. -/
namespace Go.Proofs.Ytnihccinpbpllaa
open Go.RowKit

set_option maxRecDepth 100000 in
theorem law_levels (ok : Nat → Prop) (w : World) (a : Option Addr) (c : Nat) (l : List Lev) (hl : l.length * 16 ≤ 140737488355328) (hR : SlR ok w 2 RLev a c l) :
    Calls Try.prog 11 #[.slice a l.length c] w fun e w' => ∃ a' c', e = .returned (.slice a' l.length c') ∧ Below w.heap.size w w' ∧ Own w.heap.size 43 w' 2 RLev a' c' l := by
  obtain ⟨i0, hi, hz0, hz1, hz2⟩ := info_parts info_Level
  go_enter Try.func11, Try.ntmps11
  go_wp2_with (first | go_skip | (at_builtin; go_must (refine wpList_copy (wanted_none rfl) _ _ 23 rfl 43 i0 _ 2 16 Try.underlying23 hi hz0 hz1 hz2 rfl (by decide) rfl rfl rfl hR hl ?_; intro a' c' w' hO hb)))
  go_ret
  exact ⟨a', c', rfl, hb, hO⟩

set_option maxRecDepth 100000 in
theorem law_numbers (ok : Nat → Prop) (w : World) (a : Option Addr) (c : Nat) (l : List Int) (hl : l.length * 8 ≤ 140737488355328) (hR : SlR ok w 1 RInt a c l) :
    Calls Try.prog 17 #[.slice a l.length c] w fun e w' => ∃ a' c', e = .returned (.slice a' l.length c') ∧ Below w.heap.size w w' ∧ Own w.heap.size 3 w' 1 RInt a' c' l := by
  obtain ⟨i0, hi, hz0, hz1, hz2⟩ := info_parts info_int
  go_enter Try.func17, Try.ntmps17
  go_wp2_with (first | go_skip | (at_builtin; go_must (refine wpList_copy (wanted_none rfl) _ _ 28 rfl 3 i0 _ 1 8 Try.underlying28 hi hz0 hz1 hz2 rfl (by decide) rfl rfl rfl hR hl ?_; intro a' c' w' hO hb)))
  go_ret
  exact ⟨a', c', rfl, hb, hO⟩

end Go.Proofs.Ytnihccinpbpllaa

/- The bulk that the second form of a statement reckons is no less than ours. No program is in sight. -/
namespace Go.Proofs.Ytnihccinpbpllaa

mutual
theorem bk_le {H : Type} : ∀ d : DataW H, bk d ≤ Rows.uptoBulk d
  | .lit l => by cases l <;> simp [bk, Rows.uptoBulk]
  | .nil => by simp [bk, Rows.uptoBulk]
  | .ptr d => by have := bk_le d; simp only [bk, Rows.uptoBulk]; omega
  | .slice elems spare => by have := bkAll_le elems; have := bkAll_le spare; simp only [bk, Rows.uptoBulk]; omega
  | .agg parts => by have := bkAll_le parts; simp only [bk, Rows.uptoBulk]; omega
  | .iface _ d => by have := bk_le d; simp only [bk, Rows.uptoBulk]; omega
  | .map _ => by simp [bk]
  | .held _ => by simp [bk, Rows.uptoBulk]
theorem bkAll_le {H : Type} : ∀ ds : List (DataW H), bkAll ds ≤ Rows.uptoBulkAll ds
  | [] => by simp [bkAll]
  | d :: r => by have := bk_le d; have := bkAll_le r; simp only [bkAll, Rows.uptoBulkAll]; omega
end

theorem sum_const {α : Type} (k : Nat) : ∀ l : List α, (l.map fun _ => k).sum = l.length * k
  | [] => by simp
  | x :: l => by simp only [List.map_cons, List.sum_cons, sum_const k l, List.length_cons, Nat.succ_mul]; omega

theorem mass_levs (l : List Lev) : (l.map Lev.mass).sum = l.length * 2 := sum_const 2 l
theorem mass_certs (l : List Cert) : (l.map Cert.mass).sum = l.length * 4 := sum_const 4 l
theorem mass_ints (l : List Int) : (l.map fun _ => 1).sum = l.length := by rw [sum_const, Nat.mul_one]

end Go.Proofs.Ytnihccinpbpllaa
