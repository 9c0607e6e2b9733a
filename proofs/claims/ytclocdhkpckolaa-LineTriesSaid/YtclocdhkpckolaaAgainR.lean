/- The walk through the reference's word on sending again. -/
import Derived.Test.YtclocdhkpckolaaAgainW
set_option linter.unusedSimpArgs false
set_option linter.unusedVariables false
namespace Go.Proofs.Ytclocdhkpckolaa
open Go.RowKit

set_option maxHeartbeats 1000000 in
theorem ref_waits (n : Int) (w : World) (h1 : 1 ≤ n) (h2 : n ≤ 5) :
    Calls Try.prog 34 #[.int .i64 n] w fun e w' => e = .returned (.int .i64 (2 ^ n.toNat)) ∧ Below w.heap.size w w' := by
  rcases (show n = 1 ∨ n = 2 ∨ n = 3 ∨ n = 4 ∨ n = 5 by omega) with rfl | rfl | rfl | rfl | rfl
  all_goals
    go_enter Try.func34, Try.ntmps34
    go_wp2
    go_ret
    exact ⟨by rfl, (Below.refl _ _).alloc (Nat.le_refl _) _⟩

set_option maxRecDepth 20000 in
set_option maxHeartbeats 2000000 in
theorem ref_AgainOn_range (ok : Nat → Prop) (w : World) (next high : Int) (sa : Option Addr) (sc : Nat) (sent : List Sent) (e : Eight) (now : Int) (hR : SentR ok w sa sc sent) (h : lineOk ⟨next, sent, high, e⟩ = false ∨ now < 0 ∨ 1099511627776 < now) :
    Calls Try.prog 25 #[lineV next high sa sent.length sc e, .int .i64 now] w fun v w' => v = .returned (.tuple #[lineV next high sa sent.length sc e, .slice none 0 0, .int .i64 2]) ∧ Below w.heap.size w w' := by
  have hG := fun W (hW : SentR ok W sa sc sent) => ref_GoodLine ok W next high sa sc sent e hW
  generalize lineOk ⟨next, sent, high, e⟩ = g at h hG
  have HG := Lib.hid hG
  clear hG
  unfold lineV at *
  have st := St.start w
  rcases or3 (!g) (decide (now < 0)) (decide (1099511627776 < now)) with d | ⟨d0, d⟩ | ⟨d0, d1, d⟩ | ⟨d0, d1, d2⟩
  case inr.inr.inr =>
    exfalso
    simp at d0 d1 d2
    rcases h with h | h | h
    · rw [h] at d0; simp at d0
    · omega
    · omega
  all_goals
    go_enter Try.func25, Try.ntmps25
    go_wp2_with (first
      | go_skip | (refine mem_box st (wanted_none rfl) 25 _ rfl _ rfl _ rfl ?_; clear st; intro g1 w1 hg1 st hg1b; clear hg1b; simp [Act.eval, Act.put, Value.cells, putL] at st) | (refine mem_alloc st (wanted_none rfl) 25 rfl _ Try.zeroValue25 _ rfl ?_; clear st; intro g3 w3 hg3 st hg3b; clear hg3b; simp [Act.eval, Act.put, Value.cells, putL] at st) | ((first | refine mem_load_agg' st 25 _ rfl (wanted_none rfl) Try.isAgg25 _ Try.sizeOf25 ?_ | (refine mem_load_agg' st 25 _ rfl (wanted_some rfl ?_) Try.isAgg25 _ Try.sizeOf25 ?_; focus (simp [yielded, Act.put]; done))); refine ⟨0, _, _, _, _, _, rfl, rfl, rfl, rfl, ?_⟩) | ((first | refine mem_store' st 25 _ _ rfl (wanted_none rfl) _ Try.sizeOf25 ?_ | (refine mem_store' st 25 _ _ rfl (wanted_some rfl ?_) _ Try.sizeOf25 ?_; focus (simp [yielded, Act.put]; done))); refine ⟨1, _, _, _, _, _, rfl, rfl, rfl, rfl, rfl, rfl, ?_⟩; clear st; intro w8 st hw8m hw8z; simp [Act.eval, Act.put, Value.cells, putL] at st)
      | (go_at_call 16; refine (HG.out _ (SentR.below hR st.below)).mono ?_; rintro r v1 ⟨rfl, hb1⟩; replace st := st.call hb1; clear hb1))
    have hc := fun j => st.cell (i := 1) rfl j
    refine bodyPost_ret (v := _) ?hr rfl ⟨rfl, st.below⟩
    case hr => simp [results, Try.results25, go_sem, hc, putL]

set_option maxRecDepth 20000 in
set_option maxHeartbeats 4000000 in
theorem ref_AgainOn_ok (ok : Nat → Prop) (w : World) (hok : ∀ b, w.heap.size ≤ b → ok b) (next high : Int) (sa : Option Addr) (sc : Nat) (sent : List Sent) (e : Eight) (now : Int) (hR : SentR ok w sa sc sent) (hf : ∀ s ∈ sent, s.frame.Fits) (hg : lineOk ⟨next, sent, high, e⟩ = true) (h1 : 0 ≤ now) (h2 : now ≤ 1099511627776) :
    Calls Try.prog 25 #[lineV next high sa sent.length sc e, .int .i64 now] w fun v w' => ∃ a' c' a2 c2, v = .returned (.tuple #[lineV next high a' (sent.filterMap (keepS now)).length c' e, .slice a2 (sent.filterMap (outS now)).length c2, .int .i64 0]) ∧ Below w.heap.size w w' ∧ SentR ok w' a' c' (sent.filterMap (keepS now)) ∧ SlR ok w' 11 (RFrame ok w') a2 c2 (sent.filterMap (outS now)) := by
  have hG := fun W (hW : SentR ok W sa sc sent) => ref_GoodLine ok W next high sa sc sent e hW
  obtain ⟨b3, b4, b1, b2, b5⟩ := lineOk_high hg
  have hmem := Lib.hid (lineOk_mem hg)
  obtain ⟨i0, hi, hz0, hz1, hz2⟩ := info_parts info_Sent
  obtain ⟨j0, ji, jz0, jz1, jz2⟩ := info_parts info_Frame
  rw [hg] at hG
  have HG := Lib.hid hG
  have HCL := Lib.hid (fun (W : World) (h : SentR ok W sa sc sent) => ref_CopyLine ok W next high sa sc sent e h (by omega) hf)
  clear hG hg hf
  have d0 : decide (now < 0) = false := by simp; omega
  have d1 : decide (1099511627776 < now) = false := by simp; omega
  have hsl : sent.length ≤ 9223372036854775807 := by omega
  unfold lineV at *
  have st := St.start w
  have tk := trivial
  go_enter Try.func25, Try.ntmps25
  go_wp2_with (first
    | go_skip | (refine mem_box st (wanted_none rfl) 25 _ rfl _ rfl _ rfl ?_; clear st; intro g1 w1 hg1 st hg1b; clear hg1b; simp [Act.eval, Act.put, Value.cells, putL] at st) | (clear tk; (refine mem_alloc st (wanted_none rfl) 25 rfl _ Try.zeroValue25 _ rfl ?_; clear st; intro g2 w2 hg2 st hg2b; clear hg2b; simp [Act.eval, Act.put, Value.cells, putL] at st)) | (refine mem_alloc st (wanted_none rfl) 25 rfl _ Try.zeroValue25 _ rfl ?_; clear st; intro g3 w3 hg3 st hg3b; clear hg3b; simp [Act.eval, Act.put, Value.cells, putL] at st) | ((first | refine mem_load_agg' st 25 _ rfl (wanted_none rfl) Try.isAgg25 _ Try.sizeOf25 ?_ | (refine mem_load_agg' st 25 _ rfl (wanted_some rfl ?_) Try.isAgg25 _ Try.sizeOf25 ?_; focus (simp [yielded, Act.put]; done))); refine ⟨0, _, _, _, _, _, rfl, rfl, rfl, rfl, ?_⟩) | ((first | refine mem_load' st 22 _ rfl (wanted_none rfl) Try.isAgg22 ?_ | (refine mem_load' st 22 _ rfl (wanted_some rfl ?_) Try.isAgg22 ?_; focus (simp [yielded, Act.put]; done))); refine ⟨0, _, _, _, _, _, rfl, rfl, rfl, ?_⟩)
    | (go_at_call 16; refine (HG.out _ (SentR.below hR st.below)).mono ?_; rintro r v1 ⟨rfl, hb1⟩; replace st := st.call hb1; clear hb1)
    | (go_at_call 9; refine (HCL.out _ (SentR.below hR st.below)).mono ?_; rintro r v2 ⟨a2, k2, rfl, hb2, hR2⟩; replace st := st.call hb2; clear hb2 hR2)
    | ((first | refine mem_store' st 25 _ _ rfl (wanted_none rfl) _ Try.sizeOf25 ?_ | (refine mem_store' st 25 _ _ rfl (wanted_some rfl ?_) _ Try.sizeOf25 ?_; focus (simp [yielded, Act.put]; done))); refine ⟨2, _, _, _, _, _, rfl, rfl, rfl, rfl, rfl, rfl, ?_⟩; clear st; intro w4 st hw4m hw4z; simp [Act.eval, Act.put, Value.cells, putL] at st) | ((first | refine mem_store' st 22 _ _ rfl (wanted_none rfl) _ Try.sizeOf22 ?_ | (refine mem_store' st 22 _ _ rfl (wanted_some rfl ?_) _ Try.sizeOf22 ?_; focus (simp [yielded, Act.put]; done))); refine ⟨2, _, _, _, _, _, rfl, rfl, rfl, rfl, rfl, rfl, ?_⟩; clear st; intro w5 st hw5m hw5z; simp [Act.eval, Act.put, Value.cells, putL] at st))
  have st0 := st
  clear st HG
  have hw5 := st0.below
  have hw5s := hw5.size
  clear hw4z hw5z hw4m hw5m
  have u1 := st0.ltAt (i := 0) rfl
  have u2 := st0.ltAt (i := 1) rfl
  have u3 := st0.ltAt (i := 2) rfl
  have m1 := st0.mine _ (List.mem_of_getElem? (i := 0) rfl)
  have m2 := st0.mine _ (List.mem_of_getElem? (i := 1) rfl)
  have m3 := st0.mine _ (List.mem_of_getElem? (i := 2) rfl)
  simp at m1 m2 m3
  go_loopw [8, 29] (fun vo i wr => ∃ (k : Nat) (o : Option Addr) (c : Nat) (o2 : Option Addr) (c2 : Nat), k ≤ sent.length ∧ i = .int .i64 k ∧ vo = .slice o2 ((sent.take k).filterMap (outS now)).length c2 ∧ Own w5.heap.size 56 wr 13 (RSent ok w) o c ((sent.take k).filterMap (keepS now)) ∧ Own w5.heap.size 33 wr 11 (RFrame ok w) o2 c2 ((sent.take k).filterMap (outS now)) ∧ St [g1, g2, g3] w5 wr [(g1, 25, [.int .i64 next, .slice sa sent.length sc, .int .i64 high, .bool e.s0, .bool e.s1, .bool e.s2, .bool e.s3, .bool e.s4, .bool e.s5, .bool e.s6, .bool e.s7]), (g2, 25, [.int .i64 0, .slice none 0 0, .int .i64 0, .bool false, .bool false, .bool false, .bool false, .bool false, .bool false, .bool false, .bool false]), (g3, 25, [.int .i64 next, .slice o ((sent.take k).filterMap (keepS now)).length c, .int .i64 high, .bool e.s0, .bool e.s1, .bool e.s2, .bool e.s3, .bool e.s4, .bool e.s5, .bool e.s6, .bool e.s7])]) (fun _ i _ => sent.length - (intOf i).toNat)
  case atStart => exact ⟨0, none, 0, none, 0, Nat.zero_le _, rfl, rfl, Own.nil _ _ _ _ _, Own.nil _ _ _ _ _, st0.rebase⟩
  case round =>
    obtain ⟨k, o, c, o2, c2, hk, rfl, rfl, hO, hP, st⟩ := hrel
    have hBw : Below w.heap.size w wr := hw5.trans (st.belowB hw5s (by simp; omega))
    by_cases hlt : k < sent.length
    · obtain ⟨b, o', la, lc, ga, gc, ca, cc, hsa, hb, hA, f0, f1, f2, f3, f4, f5, f6, f7, f8, f9, f10, f11, f12⟩ := SlR.sent_at hR k hlt
      have tr := fun (p : Nat) (v : Option Value) (h : w.cell? ⟨b, p, none⟩ = v) => (hBw.cell (p := ⟨b, p, none⟩) hb).trans h
      replace f0 := tr _ _ f0; replace f1 := tr _ _ f1; replace f2 := tr _ _ f2; replace f3 := tr _ _ f3; replace f4 := tr _ _ f4; replace f5 := tr _ _ f5; replace f6 := tr _ _ f6
      replace f7 := tr _ _ f7; replace f8 := tr _ _ f8; replace f9 := tr _ _ f9; replace f10 := tr _ _ f10; replace f11 := tr _ _ f11; replace f12 := tr _ _ f12
      clear tr
      subst hsa
      obtain ⟨t1, t2, t3, t4⟩ := hmem.out _ (List.getElem_mem hlt)
      have hxl : ((sent.take k).filterMap (keepS now)).length ≤ k := by
        have := List.length_filterMap_le (keepS now) (sent.take k)
        simp at this
        omega
      have hyl : ((sent.take k).filterMap (outS now)).length ≤ k := by
        have := List.length_filterMap_le (outS now) (sent.take k)
        simp at this
        omega
      have ek := Lib.hid (fm_step (f := keepS now) hlt)
      have eo := Lib.hid (fm_step (f := outS now) hlt)
      generalize hfl : ((sent.take k).filterMap (keepS now)) = fl at hO st hxl ek
      generalize hfo : ((sent.take k).filterMap (outS now)) = fo at hP st hyl eo
      have str := st
      replace st := st.rebase
      by_cases hd : now < sent[k].due
      · have dd : decide (sent[k].due ≤ now) = false := by simp; omega
        have ek1 : keepS now sent[k] = some sent[k] := by simp [keepS, hd]
        have eo1 : outS now sent[k] = none := by simp [outS, hd]
        have e1 : (sent.take (k + 1)).filterMap (keepS now) = fl ++ [sent[k]] := by rw [ek.out, ek1]; rfl
        have e2 : (sent.take (k + 1)).filterMap (outS now) = fo := by rw [eo.out, eo1]; simp
        go_wp2_with (first
          | go_skip | (refine mem_alloc st (wanted_none rfl) 56 rfl _ Try.zeroValue56 _ rfl ?_; clear st; intro g7 w7 hg7 st hg7b; clear hg7b; simp [Act.eval, Act.put, Value.cells, putL] at st) | ((first | refine mem_store' st 56 _ _ rfl (wanted_none rfl) _ Try.sizeOf56 ?_ | (refine mem_store' st 56 _ _ rfl (wanted_some rfl ?_) _ Try.sizeOf56 ?_; focus (simp [yielded, Act.put]; done))); refine ⟨3, _, _, _, _, _, rfl, rfl, rfl, rfl, rfl, rfl, ?_⟩; clear st; intro w8 st hw8m hw8z; simp [Act.eval, Act.put, Value.cells, putL] at st) | ((first | refine mem_load' st 3 _ rfl (wanted_none rfl) Try.isAgg3 ?_ | (refine mem_load' st 3 _ rfl (wanted_some rfl ?_) Try.isAgg3 ?_; focus (simp [yielded, Act.put]; done))); refine ⟨3, _, _, _, _, _, rfl, rfl, rfl, ?_⟩) | ((first | refine mem_load' st 22 _ rfl (wanted_none rfl) Try.isAgg22 ?_ | (refine mem_load' st 22 _ rfl (wanted_some rfl ?_) Try.isAgg22 ?_; focus (simp [yielded, Act.put]; done))); refine ⟨2, _, _, _, _, _, rfl, rfl, rfl, ?_⟩) | ((first | refine mem_load_agg' st 56 _ rfl (wanted_none rfl) Try.isAgg56 _ Try.sizeOf56 ?_ | (refine mem_load_agg' st 56 _ rfl (wanted_some rfl ?_) Try.isAgg56 _ Try.sizeOf56 ?_; focus (simp [yielded, Act.put]; done))); refine ⟨3, _, _, _, _, _, rfl, rfl, rfl, rfl, ?_⟩) | (refine wpList_build1 st (wanted_none rfl) 22 56 _ rfl Try.underlying22 13 Try.sizeOf56 (by decide) (by decide) _ Try.zeroValue56 _ rfl rfl ?_; have stw9 := st; clear st; intro g8 w9 hg8 hg8e st hw9b hw9z; simp [Act.eval, Act.put, Value.cells, putL] at st)
          | (at_builtin; go_must (refine wpList_app1 (wanted_none rfl) _ _ 22 rfl 56 i0 _ 13 160 Try.underlying22 hi hz0 hz1 hz2 rfl (by decide) (y := sent[k]) rfl rfl (hO.below (str.below2 st (by simp))) rfl (SlR.ofBlk (ok := fun _ => True) (st.blk _ (List.mem_of_getElem? (i := 4) rfl)) ⟨la, lc, ga, gc, ca, cc, rfl, hA⟩ rfl rfl trivial) ?_ ?_ ?_ ?_)))
        · omega
        · simp [maxLen]; omega
        · have := st.size; have := str.size; omega
        · intro g9 c9 w10 hO10 hgr hat hlt10
          have hP10 := (hP.below (str.below2 st (by simp))).aside hgr (fun b e e' => hO.apart hP (by decide) b e' e)
          replace st := (St.comp str st).grownNew hgr (fun b e => (hO.blockLt b e).1) (by intro x hx e; have h1 := hO.blockLt _ e; have h2 := str.size; simp at hx; rcases hx with rfl | rfl | rfl | rfl | rfl <;> simp at h1 <;> omega)
          clear hO hP hgr hat str hA f0 f1 f2 f3 f4 f5 f6 f7 f8 f9 f10 f11 f12
          go_wp2_with (first | go_skip | ((first | refine mem_store' st 22 _ _ rfl (wanted_none rfl) _ Try.sizeOf22 ?_ | (refine mem_store' st 22 _ _ rfl (wanted_some rfl ?_) _ Try.sizeOf22 ?_; focus (simp [yielded, Act.put]; done))); refine ⟨2, _, _, _, _, _, rfl, rfl, rfl, rfl, rfl, rfl, ?_⟩; clear st; intro w11 st hw11m hw11z; simp [Act.eval, Act.put, Value.cells, putL] at st))
          refine ⟨⟨k + 1, some ⟨g9, 0, none⟩, c9, o2, c2, hlt, by go_num, ?_⟩, ?_⟩
          · rw [e1, e2]
            refine ⟨rfl, hO10.move (fun b h1 h2 => hw11m b (by omega)) fun _ _ h => h, hP10.move (fun b h1 h2 => hw11m b (by omega)) fun _ _ h => h, ?_⟩
            rw [List.length_append, List.length_singleton]
            exact st.sub (by simp) (by have := st.ne; simp at this; simp [this])
          · simp [intOf]; omega
      · have dd : decide (sent[k].due ≤ now) = true := by simp; omega
        by_cases h5 : sent[k].tries < 5
        · have d5 : (sent[k].tries == 5) = false := by simp; omega
          have hwt := fun W => ref_waits (sent[k].tries + 1) W (by omega) (by omega)
          have ek1 : keepS now sent[k] = some { sent[k] with tries := sent[k].tries + 1, due := now + 2 ^ (sent[k].tries + 1).toNat } := by simp [keepS, hd, h5]
          have eo1 : outS now sent[k] = some sent[k].frame := by simp [outS, hd, h5]
          obtain ⟨p1, p2⟩ := two_pow (n := sent[k].tries + 1) (by omega) (by omega)
          generalize (2 : Int) ^ (sent[k].tries + 1).toNat = p at hwt ek1 p1 p2
          have e1 : (sent.take (k + 1)).filterMap (keepS now) = fl ++ [{ sent[k] with tries := sent[k].tries + 1, due := now + p }] := by rw [ek.out, ek1]; rfl
          have e2 : (sent.take (k + 1)).filterMap (outS now) = fo ++ [sent[k].frame] := by rw [eo.out, eo1]; rfl
          go_wp2_with (first
            | go_skip | (refine mem_alloc st (wanted_none rfl) 56 rfl _ Try.zeroValue56 _ rfl ?_; clear st; intro g7 w7 hg7 st hg7b; clear hg7b; simp [Act.eval, Act.put, Value.cells, putL] at st) | ((first | refine mem_store' st 56 _ _ rfl (wanted_none rfl) _ Try.sizeOf56 ?_ | (refine mem_store' st 56 _ _ rfl (wanted_some rfl ?_) _ Try.sizeOf56 ?_; focus (simp [yielded, Act.put]; done))); refine ⟨3, _, _, _, _, _, rfl, rfl, rfl, rfl, rfl, rfl, ?_⟩; clear st; intro w8 st hw8m hw8z; simp [Act.eval, Act.put, Value.cells, putL] at st) | ((first | refine mem_load' st 3 _ rfl (wanted_none rfl) Try.isAgg3 ?_ | (refine mem_load' st 3 _ rfl (wanted_some rfl ?_) Try.isAgg3 ?_; focus (simp [yielded, Act.put]; done))); refine ⟨3, _, _, _, _, _, rfl, rfl, rfl, ?_⟩) | ((first | refine mem_store' st 3 _ _ rfl (wanted_none rfl) _ Try.sizeOf3 ?_ | (refine mem_store' st 3 _ _ rfl (wanted_some rfl ?_) _ Try.sizeOf3 ?_; focus (simp [yielded, Act.put]; done))); refine ⟨3, _, _, _, _, _, rfl, rfl, rfl, rfl, rfl, rfl, ?_⟩; clear st; intro w9 st hw9m hw9z; simp [Act.eval, Act.put, Value.cells, putL] at st) | ((first | refine mem_load_agg' st 33 _ rfl (wanted_none rfl) Try.isAgg33 _ Try.sizeOf33 ?_ | (refine mem_load_agg' st 33 _ rfl (wanted_some rfl ?_) Try.isAgg33 _ Try.sizeOf33 ?_; focus (simp [yielded, Act.put]; done))); refine ⟨3, _, _, _, _, _, rfl, rfl, rfl, rfl, ?_⟩) | (refine wpList_build1 st (wanted_none rfl) 51 33 _ rfl Try.underlying51 11 Try.sizeOf33 (by decide) (by decide) _ Try.zeroValue33 _ rfl rfl ?_; have stw10 := st; clear st; intro g8 w10 hg8 hg8e st hw10b hw10z; simp [Act.eval, Act.put, Value.cells, putL] at st)
            | (go_at_call 34; refine (hwt _).mono ?_; rintro r v2 ⟨rfl, hb2⟩; replace st := st.call hb2; clear hb2)
            | (at_builtin; go_must (refine wpList_app1 (wanted_none rfl) _ _ 51 rfl 33 j0 _ 11 144 Try.underlying51 ji jz0 jz1 jz2 rfl (by decide) (y := sent[k].frame) rfl rfl (hP.below (str.below2 st (by simp))) rfl (SlR.ofBlk (ok := fun _ => True) (st.blk _ (List.mem_of_getElem? (i := 4) rfl)) ⟨la, lc, ga, gc, ca, cc, rfl, hA⟩ rfl rfl trivial) ?_ ?_ ?_ ?_)))
          · omega
          · simp [maxLen]; omega
          · have := st.size; have := str.size; omega
          · intro g9 c9 w11 hP11 hgr hat hlt11
            have hO11 := (hO.below (str.below2 st (by simp))).aside hgr (fun b e e' => hO.apart hP (by decide) b e e')
            have m7 := st.mine _ (List.mem_of_getElem? (i := 3) rfl)
            have m8 := st.mine _ (List.mem_of_getElem? (i := 4) rfl)
            simp at m7 m8
            have n7 : o.map (·.block) ≠ some g7 := fun e => by have h1 := hO.blockLt _ e; omega
            have n8 : o.map (·.block) ≠ some g8 := fun e => by have h1 := hO.blockLt _ e; omega
            replace st := (St.comp str st).grownNew hgr (fun b e => (hP.blockLt b e).1) (by intro x hx e; have h1 := hP.blockLt _ e; have h2 := str.size; simp at hx; rcases hx with rfl | rfl | rfl | rfl | rfl <;> simp at h1 <;> omega)
            clear hP hO hgr hat f0 f1 f2 f3 f4 f5 f6 f7 f8 f9 f10 f11 f12
            go_wp2_with (first
              | go_skip | ((first | refine mem_load' st 22 _ rfl (wanted_none rfl) Try.isAgg22 ?_ | (refine mem_load' st 22 _ rfl (wanted_some rfl ?_) Try.isAgg22 ?_; focus (simp [yielded, Act.put]; done))); refine ⟨2, _, _, _, _, _, rfl, rfl, rfl, ?_⟩) | ((first | refine mem_load_agg' st 56 _ rfl (wanted_none rfl) Try.isAgg56 _ Try.sizeOf56 ?_ | (refine mem_load_agg' st 56 _ rfl (wanted_some rfl ?_) Try.isAgg56 _ Try.sizeOf56 ?_; focus (simp [yielded, Act.put]; done))); refine ⟨3, _, _, _, _, _, rfl, rfl, rfl, rfl, ?_⟩) | (refine wpList_build1 st (wanted_none rfl) 22 56 _ rfl Try.underlying22 13 Try.sizeOf56 (by decide) (by decide) _ Try.zeroValue56 _ rfl rfl ?_; have stw12 := st; clear st; intro g10 w12 hg10 hg10e st hw12b hw12z; simp [Act.eval, Act.put, Value.cells, putL] at st)
              | (at_builtin; go_must (refine wpList_app1 (wanted_none rfl) _ _ 22 rfl 56 i0 _ 13 160 Try.underlying22 hi hz0 hz1 hz2 rfl (by decide) (y := ({ sent[k] with tries := sent[k].tries + 1, due := now + p } : Sent)) rfl rfl (hO11.below hw12b) rfl (SlR.ofBlk (ok := fun _ => True) (st.blk _ (List.mem_of_getElem? (i := 5) rfl)) ⟨la, lc, ga, gc, ca, cc, rfl, hA⟩ rfl rfl trivial) ?_ ?_ ?_ ?_)))
            · omega
            · simp [maxLen]; omega
            · have := st.size; omega
            · intro g13 c13 w13 hO13 hgr hat hlt13
              have hP13 := (hP11.below hw12b).aside hgr (fun b e e' => hO11.apart hP11 (by decide) b e' e)
              have hob := hO11.blockLt
              replace st := st.grownNew hgr (fun b e => (hob b e).1) (by
                intro x hx e
                have h1 := hob _ e
                simp at hx
                rcases hx with rfl | rfl | rfl | rfl | rfl | rfl
                · simp at h1; omega
                · simp at h1; omega
                · simp at h1; omega
                · exact n7 e
                · exact n8 e
                · simp at h1; omega)
              clear hO11 hP11 hgr hat hA
              go_wp2_with (first | go_skip | ((first | refine mem_store' st 22 _ _ rfl (wanted_none rfl) _ Try.sizeOf22 ?_ | (refine mem_store' st 22 _ _ rfl (wanted_some rfl ?_) _ Try.sizeOf22 ?_; focus (simp [yielded, Act.put]; done))); refine ⟨2, _, _, _, _, _, rfl, rfl, rfl, rfl, rfl, rfl, ?_⟩; clear st; intro w14 st hw14m hw14z; simp [Act.eval, Act.put, Value.cells, putL] at st))
              refine ⟨⟨k + 1, some ⟨g13, 0, none⟩, c13, some ⟨g9, 0, none⟩, c9, hlt, by go_num, ?_⟩, ?_⟩
              · rw [e1, e2]
                refine ⟨by simp, hO13.move (fun b h1 h2 => hw14m b (by omega)) fun _ _ h => h, hP13.move (fun b h1 h2 => hw14m b (by omega)) fun _ _ h => h, ?_⟩
                rw [List.length_append, List.length_singleton]
                exact st.sub (by simp) (by have := st.ne; simp at this; simp [this])
              · simp [intOf]; omega
        · have d5 : (sent[k].tries == 5) = true := by simp; omega
          have ek1 : keepS now sent[k] = none := by simp [keepS, hd, h5]
          have eo1 : outS now sent[k] = none := by simp [outS, hd, h5]
          have e1 : (sent.take (k + 1)).filterMap (keepS now) = fl := by rw [ek.out, ek1]; simp
          have e2 : (sent.take (k + 1)).filterMap (outS now) = fo := by rw [eo.out, eo1]; simp
          go_wp2_with (first | go_skip | (refine mem_alloc st (wanted_none rfl) 56 rfl _ Try.zeroValue56 _ rfl ?_; clear st; intro g7 w7 hg7 st hg7b; clear hg7b; simp [Act.eval, Act.put, Value.cells, putL] at st) | ((first | refine mem_store' st 56 _ _ rfl (wanted_none rfl) _ Try.sizeOf56 ?_ | (refine mem_store' st 56 _ _ rfl (wanted_some rfl ?_) _ Try.sizeOf56 ?_; focus (simp [yielded, Act.put]; done))); refine ⟨3, _, _, _, _, _, rfl, rfl, rfl, rfl, rfl, rfl, ?_⟩; clear st; intro w8 st hw8m hw8z; simp [Act.eval, Act.put, Value.cells, putL] at st) | ((first | refine mem_load' st 3 _ rfl (wanted_none rfl) Try.isAgg3 ?_ | (refine mem_load' st 3 _ rfl (wanted_some rfl ?_) Try.isAgg3 ?_; focus (simp [yielded, Act.put]; done))); refine ⟨3, _, _, _, _, _, rfl, rfl, rfl, ?_⟩))
          have hB := str.below2 st (by simp)
          refine ⟨⟨k + 1, o, c, o2, c2, hlt, by go_num, ?_⟩, ?_⟩
          · rw [e1, e2]
            refine ⟨rfl, hO.below hB, hP.below hB, (St.comp str st).sub (by simp) (by have := str.ne; simp at this; simp [this])⟩
          · simp [intOf]; omega
    · obtain rfl : k = sent.length := by omega
      rw [List.take_length] at hO hP st
      simp only [List.take_length]
      have hS := hO.slr (ok := fun b => w5.heap.size ≤ b) fun _ h => h
      have hT := hP.slr (ok := fun b => w5.heap.size ≤ b) fun _ h => h
      clear hO hP hmem HCL
      have str := st
      replace st := st.rebase
      go_wp2_with (first | go_skip | ((first | refine mem_load_agg' st 25 _ rfl (wanted_none rfl) Try.isAgg25 _ Try.sizeOf25 ?_ | (refine mem_load_agg' st 25 _ rfl (wanted_some rfl ?_) Try.isAgg25 _ Try.sizeOf25 ?_; focus (simp [yielded, Act.put]; done))); refine ⟨2, _, _, _, _, _, rfl, rfl, rfl, rfl, ?_⟩) | ((first | refine mem_store' st 25 _ _ rfl (wanted_none rfl) _ Try.sizeOf25 ?_ | (refine mem_store' st 25 _ _ rfl (wanted_some rfl ?_) _ Try.sizeOf25 ?_; focus (simp [yielded, Act.put]; done))); refine ⟨1, _, _, _, _, _, rfl, rfl, rfl, rfl, rfl, rfl, ?_⟩; clear st; intro w9 st hw9m hw9z; simp [Act.eval, Act.put, Value.cells, putL] at st))
      have hc := fun j => st.cell (i := 1) rfl j
      have hw := hBw.trans (st.belowB hBw.size (by simp; omega))
      have hmv : ∀ b, b < wr.heap.size → w5.heap.size ≤ b → ok b ∧ w9.heap[b]? = wr.heap[b]? := fun b hb ho => ⟨hok b (by omega), st.frame b hb (by simp; omega)⟩
      refine bodyPost_ret (v := _) ?hr rfl ⟨o, c, o2, c2, rfl, hw, ?_, ?_⟩
      case hr => simp [results, Try.results25, go_sem, hc, putL]
      · exact SlR.move hS st.size hmv fun _ _ h => RSent.keep (.of_below hw) h
      · exact SlR.move hT st.size hmv fun _ _ h => RFrame.keep (.of_below hw) h

end Go.Proofs.Ytclocdhkpckolaa
