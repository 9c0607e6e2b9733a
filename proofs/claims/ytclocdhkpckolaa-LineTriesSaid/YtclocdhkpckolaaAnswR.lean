/- The walk through the reference's word on an answer. -/
import Derived.Test.YtclocdhkpckolaaAnswE
import Derived.Test.YtclocdhkpckolaaLineR
set_option linter.unusedSimpArgs false
set_option linter.unusedVariables false
namespace Go.Proofs.Ytclocdhkpckolaa
open Go.RowKit

/-- A row of ours, that lies in what is new, has grown. -/
theorem St.grownNew {M : List Nat} {w0 w w' : World} {own : Blks} {row : Option Nat} (st : St M w0 w own) (hg : w.grownBy w' row) (hrow : ∀ k, row = some k → w0.heap.size ≤ k) (hn : ∀ x ∈ own, row ≠ some x.1) : St M w0 w' own := by
  refine ⟨hg.os.trans st.os, hg.tape.trans st.tape, hg.output.trans st.output, Nat.le_trans st.size hg.size, fun b hb hM => ?_, fun x hx => ?_, st.mine, st.ne⟩
  · rw [hg.block b (Nat.lt_of_lt_of_le hb st.size) (fun e => by have := hrow _ e.symm; omega), st.frame b hb hM]
  · rw [hg.block _ (st.lt hx) fun e => hn x hx e.symm]
    exact st.blk x hx

theorem St.comp {M : List Nat} {w0 w1 w2 : World} {own1 own2 : Blks} (h1 : St M w0 w1 own1) (h2 : St M w1 w2 own2) : St M w0 w2 own2 :=
  ⟨h2.os.trans h1.os, h2.tape.trans h1.tape, h2.output.trans h1.output, Nat.le_trans h1.size h2.size, fun b hb hM => (h2.frame b (Nat.lt_of_lt_of_le hb h1.size) hM).trans (h1.frame b hb hM), h2.blk,
    fun x hx => (h2.mine x hx).imp id fun h => Nat.le_trans h1.size h, h2.ne⟩

set_option maxRecDepth 20000 in
set_option maxHeartbeats 4000000 in
theorem ref_AnsweredOn (ok : Nat → Prop) (w : World) (hok : ∀ b, w.heap.size ≤ b → ok b) (next high : Int) (sa : Option Addr) (sc : Nat) (sent : List Sent) (e : Eight) (seq : Int) (hR : SentR ok w sa sc sent) (hl : sent.length * 160 ≤ 140737488355328) (hf : ∀ s ∈ sent, s.frame.Fits) (g : Bool) (hg : lineOk ⟨next, sent, high, e⟩ = g) (r : Int × List Sent) (hr : answX g sent seq = r) :
    Calls Try.prog 23 #[lineV next high sa sent.length sc e, .int .i64 seq] w fun v w' => ∃ a' c', v = .returned (.tuple #[lineV next high a' r.2.length c' e, .int .i64 r.1]) ∧ Below w.heap.size w w' ∧ SentR ok w' a' c' r.2 := by
  have HG := Lib.hid (fun W (hW : SentR ok W sa sc sent) => ref_GoodLine ok W next high sa sc sent e hW)
  obtain ⟨i0, hi, hz0, hz1, hz2⟩ := info_parts info_Sent
  rw [hg] at HG
  clear hg
  have HCL := Lib.hid (fun (W : World) (h : SentR ok W sa sc sent) => ref_CopyLine ok W next high sa sc sent e h hl hf)
  have hsl : sent.length ≤ 9223372036854775807 := by omega
  unfold lineV at *
  unfold answX at hr
  cases g
  · rw [if_pos rfl] at hr
    subst hr
    have st := St.start w
    go_enter Try.func23, Try.ntmps23
    go_wp2_with (first
      | go_skip | (refine mem_box st (wanted_none rfl) 25 _ rfl _ rfl _ rfl ?_; clear st; intro g1 w1 hg1 st hg1b; clear hg1b; simp [Act.eval, Act.put, Value.cells, putL] at st) | (refine mem_alloc st (wanted_none rfl) 25 rfl _ Try.zeroValue25 _ rfl ?_; clear st; intro g3 w3 hg3 st hg3b; clear hg3b; simp [Act.eval, Act.put, Value.cells, putL] at st) | ((first | refine mem_load_agg' st 25 _ rfl (wanted_none rfl) Try.isAgg25 _ Try.sizeOf25 ?_ | (refine mem_load_agg' st 25 _ rfl (wanted_some rfl ?_) Try.isAgg25 _ Try.sizeOf25 ?_; focus (simp [yielded, Act.put]; done))); refine ⟨0, _, _, _, _, _, rfl, rfl, rfl, rfl, ?_⟩) | ((first | refine mem_store' st 25 _ _ rfl (wanted_none rfl) _ Try.sizeOf25 ?_ | (refine mem_store' st 25 _ _ rfl (wanted_some rfl ?_) _ Try.sizeOf25 ?_; focus (simp [yielded, Act.put]; done))); refine ⟨1, _, _, _, _, _, rfl, rfl, rfl, rfl, rfl, rfl, ?_⟩; clear st; intro w8 st hw8m hw8z; simp [Act.eval, Act.put, Value.cells, putL] at st)
      | (go_at_call 16; refine (HG.out _ (SentR.below hR st.below)).mono ?_; rintro r v1 ⟨rfl, hb1⟩; replace st := st.call hb1; clear hb1))
    have hc := fun j => st.cell (i := 1) rfl j
    refine bodyPost_ret (v := _) ?hr rfl ⟨sa, sc, rfl, st.below, SentR.below hR st.below⟩
    case hr => simp [results, Try.results23, go_sem, hc, putL]
  · rw [if_neg (by simp)] at hr
    have st := St.start w
    have tk := trivial
    go_enter Try.func23, Try.ntmps23
    go_wp2_with (first
      | go_skip | (refine mem_box st (wanted_none rfl) 25 _ rfl _ rfl _ rfl ?_; clear st; intro g1 w1 hg1 st hg1b; clear hg1b; simp [Act.eval, Act.put, Value.cells, putL] at st) | (clear tk; (refine mem_alloc st (wanted_none rfl) 25 rfl _ Try.zeroValue25 _ rfl ?_; clear st; intro g2 w2 hg2 st hg2b; clear hg2b; simp [Act.eval, Act.put, Value.cells, putL] at st)) | (refine mem_alloc st (wanted_none rfl) 25 rfl _ Try.zeroValue25 _ rfl ?_; clear st; intro g3 w3 hg3 st hg3b; clear hg3b; simp [Act.eval, Act.put, Value.cells, putL] at st) | ((first | refine mem_load_agg' st 25 _ rfl (wanted_none rfl) Try.isAgg25 _ Try.sizeOf25 ?_ | (refine mem_load_agg' st 25 _ rfl (wanted_some rfl ?_) Try.isAgg25 _ Try.sizeOf25 ?_; focus (simp [yielded, Act.put]; done))); refine ⟨0, _, _, _, _, _, rfl, rfl, rfl, rfl, ?_⟩) | ((first | refine mem_load' st 22 _ rfl (wanted_none rfl) Try.isAgg22 ?_ | (refine mem_load' st 22 _ rfl (wanted_some rfl ?_) Try.isAgg22 ?_; focus (simp [yielded, Act.put]; done))); refine ⟨0, _, _, _, _, _, rfl, rfl, rfl, ?_⟩)
      | (go_at_call 16; refine (HG.out _ (SentR.below hR st.below)).mono ?_; rintro r v1 ⟨rfl, hb1⟩; replace st := st.call hb1; clear hb1)
      | (go_at_call 9; refine (HCL.out _ (SentR.below hR st.below)).mono ?_; rintro r v2 ⟨a2, k2, rfl, hb2, hR2⟩; replace st := st.call hb2; clear hb2 hR2)
      | ((first | refine mem_store' st 25 _ _ rfl (wanted_none rfl) _ Try.sizeOf25 ?_ | (refine mem_store' st 25 _ _ rfl (wanted_some rfl ?_) _ Try.sizeOf25 ?_; focus (simp [yielded, Act.put]; done))); refine ⟨2, _, _, _, _, _, rfl, rfl, rfl, rfl, rfl, rfl, ?_⟩; clear st; intro w4 st hw4m hw4z; simp [Act.eval, Act.put, Value.cells, putL] at st) | ((first | refine mem_store' st 22 _ _ rfl (wanted_none rfl) _ Try.sizeOf22 ?_ | (refine mem_store' st 22 _ _ rfl (wanted_some rfl ?_) _ Try.sizeOf22 ?_; focus (simp [yielded, Act.put]; done))); refine ⟨2, _, _, _, _, _, rfl, rfl, rfl, rfl, rfl, rfl, ?_⟩; clear st; intro w5 st hw5m hw5z; simp [Act.eval, Act.put, Value.cells, putL] at st))
    have st0 := st
    clear st
    have hw5 := st0.below
    have hw5s := hw5.size
    clear hw4z hw5z hw4m hw5m
    have u1 := st0.ltAt (i := 0) rfl
    have u2 := st0.ltAt (i := 1) rfl
    have u3 := st0.ltAt (i := 2) rfl
    have m1 := st0.mine _ (List.mem_of_getElem? (i := 0) rfl)
    have m2 := st0.mine _ (List.mem_of_getElem? (i := 1) rfl)
    have m3 := st0.mine _ (List.mem_of_getElem? (i := 2) rfl)
    simp at m1 m2 m3
    go_loopw [19] (fun i wr => ∃ (k : Nat) (o : Option Addr) (c : Nat), k ≤ sent.length ∧ i = .int .i64 k ∧ Own w5.heap.size 56 wr 13 (RSent ok w) o c ((sent.take k).filter (offSeq seq)) ∧ St [g1, g2, g3] w5 wr [(g1, 25, [.int .i64 next, .slice sa sent.length sc, .int .i64 high, .bool e.s0, .bool e.s1, .bool e.s2, .bool e.s3, .bool e.s4, .bool e.s5, .bool e.s6, .bool e.s7]), (g2, 25, [.int .i64 0, .slice none 0 0, .int .i64 0, .bool false, .bool false, .bool false, .bool false, .bool false, .bool false, .bool false, .bool false]), (g3, 25, [.int .i64 next, .slice o ((sent.take k).filter (offSeq seq)).length c, .int .i64 high, .bool e.s0, .bool e.s1, .bool e.s2, .bool e.s3, .bool e.s4, .bool e.s5, .bool e.s6, .bool e.s7])]) (fun i _ => sent.length - (intOf i).toNat)
    case atStart => exact ⟨0, none, 0, Nat.zero_le _, rfl, Own.nil _ _ _ _ _, st0.rebase⟩
    case round =>
      obtain ⟨k, o, c, hk, rfl, hO, st⟩ := hrel
      have hBw : Below w.heap.size w wr := hw5.trans (st.belowB hw5s (by simp; omega))
      by_cases hlt : k < sent.length
      · obtain ⟨b, o', la, lc, ga, gc, ca, cc, hsa, hb, hA, f0, f1, f2, f3, f4, f5, f6, f7, f8, f9, f10, f11, f12⟩ := SlR.sent_at hR k hlt
        have tr := fun (p : Nat) (v : Option Value) (h : w.cell? ⟨b, p, none⟩ = v) => (hBw.cell (p := ⟨b, p, none⟩) hb).trans h
        replace f0 := tr _ _ f0; replace f1 := tr _ _ f1; replace f2 := tr _ _ f2; replace f3 := tr _ _ f3; replace f4 := tr _ _ f4; replace f5 := tr _ _ f5; replace f6 := tr _ _ f6
        replace f7 := tr _ _ f7; replace f8 := tr _ _ f8; replace f9 := tr _ _ f9; replace f10 := tr _ _ f10; replace f11 := tr _ _ f11; replace f12 := tr _ _ f12
        clear tr
        subst hsa
        have hle : ((sent.take k).filter (offSeq seq)).length ≤ k := by
          have := List.length_filter_le (offSeq seq) (sent.take k)
          simp at this
          omega
        generalize hfl : ((sent.take k).filter (offSeq seq)) = fl at hO st hle
        have str := st
        replace st := st.rebase
        go_wp2_with (first
          | go_skip | (refine mem_alloc st (wanted_none rfl) 56 rfl _ Try.zeroValue56 _ rfl ?_; clear st; intro g7 w7 hg7 st hg7b; clear hg7b; simp [Act.eval, Act.put, Value.cells, putL] at st) | ((first | refine mem_store' st 56 _ _ rfl (wanted_none rfl) _ Try.sizeOf56 ?_ | (refine mem_store' st 56 _ _ rfl (wanted_some rfl ?_) _ Try.sizeOf56 ?_; focus (simp [yielded, Act.put]; done))); refine ⟨3, _, _, _, _, _, rfl, rfl, rfl, rfl, rfl, rfl, ?_⟩; clear st; intro w8 st hw8m hw8z; simp [Act.eval, Act.put, Value.cells, putL] at st) | ((first | refine mem_load' st 3 _ rfl (wanted_none rfl) Try.isAgg3 ?_ | (refine mem_load' st 3 _ rfl (wanted_some rfl ?_) Try.isAgg3 ?_; focus (simp [yielded, Act.put]; done))); refine ⟨3, _, _, _, _, _, rfl, rfl, rfl, ?_⟩) | ((first | refine mem_load' st 22 _ rfl (wanted_none rfl) Try.isAgg22 ?_ | (refine mem_load' st 22 _ rfl (wanted_some rfl ?_) Try.isAgg22 ?_; focus (simp [yielded, Act.put]; done))); refine ⟨2, _, _, _, _, _, rfl, rfl, rfl, ?_⟩) | ((first | refine mem_load_agg' st 56 _ rfl (wanted_none rfl) Try.isAgg56 _ Try.sizeOf56 ?_ | (refine mem_load_agg' st 56 _ rfl (wanted_some rfl ?_) Try.isAgg56 _ Try.sizeOf56 ?_; focus (simp [yielded, Act.put]; done))); refine ⟨3, _, _, _, _, _, rfl, rfl, rfl, rfl, ?_⟩) | (refine wpList_build1 st (wanted_none rfl) 22 56 _ rfl Try.underlying22 13 Try.sizeOf56 (by decide) (by decide) _ Try.zeroValue56 _ rfl rfl ?_; have stw9 := st; clear st; intro g8 w9 hg8 hg8e st hw9b hw9z; simp [Act.eval, Act.put, Value.cells, putL] at st)
          | (at_builtin; go_must (refine wpList_app1 (wanted_none rfl) _ _ 22 rfl 56 i0 _ 13 160 Try.underlying22 hi hz0 hz1 hz2 rfl (by decide) (y := sent[k]) rfl rfl (hO.below (str.below2 st (by simp))) rfl (SlR.ofBlk (ok := fun _ => True) (st.blk _ (List.mem_of_getElem? (i := 4) rfl)) ⟨la, lc, ga, gc, ca, cc, rfl, hA⟩ rfl rfl trivial) ?_ ?_ ?_ ?_)))
        case roundEnd =>
          have hq : (sent[k].frame.seq != seq) = false := by assumption
          refine ⟨⟨k + 1, o, c, hlt, by go_num, ?_⟩, ?_⟩
          · rw [del_drop (q := offSeq seq) hlt (by simpa [offSeq, bne] using hq), hfl]
            exact ⟨hO.below (str.below2 st (by simp)), (St.comp str st).sub (by simp) (by have := str.ne; simpa using this)⟩
          · simp [intOf]; omega
        · omega
        · simp [maxLen]; omega
        · have := st.size; have := str.size; omega
        · have hq : (sent[k].frame.seq != seq) = true := by assumption
          intro g9 c9 w10 hO10 hgr hat hlt10
          have hs9 := st.size
          replace st := (St.comp str st).grownNew hgr (fun b e => (hO.blockLt b e).1) (by intro x hx e; have h1 := hO.blockLt _ e; have h2 := str.size; simp at hx; rcases hx with rfl | rfl | rfl | rfl | rfl <;> simp at h1 <;> omega)
          have e1 : (sent.take (k + 1)).filter (offSeq seq) = fl ++ [sent[k]] := by
            rw [List.take_succ_eq_append_getElem hlt, List.filter_append, hfl]
            simp [offSeq, (by simpa [bne] using hq : (sent[k].frame.seq == seq) = false)]
          clear hO hgr hat str hA f0 f1 f2 f3 f4 f5 f6 f7 f8 f9 f10 f11 f12
          go_wp2_with (first | go_skip | ((first | refine mem_store' st 22 _ _ rfl (wanted_none rfl) _ Try.sizeOf22 ?_ | (refine mem_store' st 22 _ _ rfl (wanted_some rfl ?_) _ Try.sizeOf22 ?_; focus (simp [yielded, Act.put]; done))); refine ⟨2, _, _, _, _, _, rfl, rfl, rfl, rfl, rfl, rfl, ?_⟩; clear st; intro w11 st hw11m hw11z; simp [Act.eval, Act.put, Value.cells, putL] at st))
          refine ⟨⟨k + 1, some ⟨g9, 0, none⟩, c9, hlt, by go_num, ?_⟩, ?_⟩
          · rw [e1]
            refine ⟨hO10.move (fun b h1 h2 => hw11m b (by omega)) fun _ _ h => h, ?_⟩
            rw [List.length_append, List.length_singleton]
            exact st.sub (by simp) (by have := st.ne; simp at this; simp [this])
          · simp [intOf]; omega
      · obtain rfl : k = sent.length := by omega
        rw [List.take_length] at hO st
        generalize hfs : sent.filter (offSeq seq) = fs at hr hO st
        have hfe : fs.length = sent.length → fs = sent := fun h => by
          rw [← hfs] at h ⊢
          exact List.filter_eq_self.2 (List.length_filter_eq_length_iff.1 h)
        have hS := hO.slr (ok := fun b => w5.heap.size ≤ b) fun _ h => h
        clear hfs hO HCL HG hf
        have str := st
        replace st := st.rebase
        by_cases h4 : fs.length = sent.length
        · rw [if_pos h4] at hr
          subst hr
          have dq : ((fs.length : Int) == sent.length) = true := by simp; omega
          clear h4 hfe hS
          go_wp2_with (first | go_skip | ((first | refine mem_load' st 22 _ rfl (wanted_none rfl) Try.isAgg22 ?_ | (refine mem_load' st 22 _ rfl (wanted_some rfl ?_) Try.isAgg22 ?_; focus (simp [yielded, Act.put]; done))); refine ⟨2, _, _, _, _, _, rfl, rfl, rfl, ?_⟩) | ((first | refine mem_load' st 22 _ rfl (wanted_none rfl) Try.isAgg22 ?_ | (refine mem_load' st 22 _ rfl (wanted_some rfl ?_) Try.isAgg22 ?_; focus (simp [yielded, Act.put]; done))); refine ⟨0, _, _, _, _, _, rfl, rfl, rfl, ?_⟩) | ((first | refine mem_load_agg' st 25 _ rfl (wanted_none rfl) Try.isAgg25 _ Try.sizeOf25 ?_ | (refine mem_load_agg' st 25 _ rfl (wanted_some rfl ?_) Try.isAgg25 _ Try.sizeOf25 ?_; focus (simp [yielded, Act.put]; done))); refine ⟨0, _, _, _, _, _, rfl, rfl, rfl, rfl, ?_⟩) | ((first | refine mem_store' st 25 _ _ rfl (wanted_none rfl) _ Try.sizeOf25 ?_ | (refine mem_store' st 25 _ _ rfl (wanted_some rfl ?_) _ Try.sizeOf25 ?_; focus (simp [yielded, Act.put]; done))); refine ⟨1, _, _, _, _, _, rfl, rfl, rfl, rfl, rfl, rfl, ?_⟩; clear st; intro w9 st hw9m hw9z; simp [Act.eval, Act.put, Value.cells, putL] at st))
          have hc := fun j => st.cell (i := 1) rfl j
          have hw := hBw.trans (st.belowB hBw.size (by simp; omega))
          refine bodyPost_ret (v := _) ?hr rfl ⟨sa, sc, rfl, hw, SentR.below hR hw⟩
          case hr => simp [results, Try.results23, go_sem, hc, putL]
        · rw [if_neg h4] at hr
          subst hr
          have dq : ((fs.length : Int) == sent.length) = false := by simp; omega
          clear h4 hfe
          go_wp2_with (first | go_skip | ((first | refine mem_load' st 22 _ rfl (wanted_none rfl) Try.isAgg22 ?_ | (refine mem_load' st 22 _ rfl (wanted_some rfl ?_) Try.isAgg22 ?_; focus (simp [yielded, Act.put]; done))); refine ⟨2, _, _, _, _, _, rfl, rfl, rfl, ?_⟩) | ((first | refine mem_load' st 22 _ rfl (wanted_none rfl) Try.isAgg22 ?_ | (refine mem_load' st 22 _ rfl (wanted_some rfl ?_) Try.isAgg22 ?_; focus (simp [yielded, Act.put]; done))); refine ⟨0, _, _, _, _, _, rfl, rfl, rfl, ?_⟩) | ((first | refine mem_load_agg' st 25 _ rfl (wanted_none rfl) Try.isAgg25 _ Try.sizeOf25 ?_ | (refine mem_load_agg' st 25 _ rfl (wanted_some rfl ?_) Try.isAgg25 _ Try.sizeOf25 ?_; focus (simp [yielded, Act.put]; done))); refine ⟨2, _, _, _, _, _, rfl, rfl, rfl, rfl, ?_⟩) | ((first | refine mem_store' st 25 _ _ rfl (wanted_none rfl) _ Try.sizeOf25 ?_ | (refine mem_store' st 25 _ _ rfl (wanted_some rfl ?_) _ Try.sizeOf25 ?_; focus (simp [yielded, Act.put]; done))); refine ⟨1, _, _, _, _, _, rfl, rfl, rfl, rfl, rfl, rfl, ?_⟩; clear st; intro w9 st hw9m hw9z; simp [Act.eval, Act.put, Value.cells, putL] at st))
          have hc := fun j => st.cell (i := 1) rfl j
          have hw := hBw.trans (st.belowB hBw.size (by simp; omega))
          refine bodyPost_ret (v := _) ?hr rfl ⟨o, c, rfl, hw, ?_⟩
          case hr => simp [results, Try.results23, go_sem, hc, putL]
          exact SlR.move hS st.size (fun b hb ho => ⟨hok b (by omega), st.frame b hb (by simp; omega)⟩) fun _ _ h => RSent.keep (.of_below hw) h

end Go.Proofs.Ytclocdhkpckolaa
