/- The walks through line.Answered and the reference's word on it. -/
import Derived.Test.YtclocdhkpckolaaAnswD
import Derived.Test.YtclocdhkpckolaaLineR
import Derived.Test.YtclocdhkpckolaaSend
import Derived.Test.YtclocdhkpckolaaTwo
set_option linter.unusedSimpArgs false
set_option linter.unusedVariables false
namespace Go.Proofs.Ytclocdhkpckolaa
open Go.RowKit

/-- A call that leaves whatever lies below B as it was. -/
theorem St.callB {M : List Nat} {w0 w w' : World} {own : Blks} (h : St M w0 w own) {B : Nat} (hb : Below B w w') (h0 : w0.heap.size ≤ B) (hlt : ∀ x ∈ own, x.1 < B) : St M w0 w' own :=
  ⟨hb.os.trans h.os, hb.tape.trans h.tape, hb.output.trans h.output, Nat.le_trans h.size hb.size, fun b hb' hM => (hb.block b (by omega)).trans (h.frame b hb' hM), fun x hx => (hb.block x.1 (hlt x hx)).trans (h.blk x hx), h.mine, h.ne⟩

/-- What an answer makes of it: the error, and what is left. -/
def answX (g : Bool) (sent : List Sent) (seq : Int) : Int × List Sent :=
  if g = false then (2, sent) else if (sent.filter (offSeq seq)).length = sent.length then (4, sent) else (0, sent.filter (offSeq seq))

set_option maxRecDepth 20000 in
set_option maxHeartbeats 2000000 in
theorem line_Answered (ok : Nat → Prop) (w : World) (hok : ∀ b, w.heap.size ≤ b → ok b) (next high : Int) (sa : Option Addr) (sc : Nat) (sent : List Sent) (e : Eight) (seq : Int) (hR : SentR ok w sa sc sent) (hl : sent.length * 160 ≤ 140737488355328) (g : Bool) (hg : lineOk ⟨next, sent, high, e⟩ = g) (r : Int × List Sent) (hr : answX g sent seq = r) :
    Calls Try.prog 22 #[lineV next high sa sent.length sc e, .int .i64 seq] w fun v w' => ∃ a' c', v = .returned (.tuple #[lineV next high a' r.2.length c' e, .int .i64 r.1]) ∧ Below w.heap.size w w' ∧ SentR ok w' a' c' r.2 := by
  have HG := Lib.hid (fun W (hW : SentR ok W sa sc sent) => line_Good ok W next high sa sc sent e hW)
  rw [hg] at HG
  clear hg
  have hmf : ∀ (fn : Fn) (first cap : Array Value) (w : World), (Instr.makeFunc fn first cap).run Try.prog w = .ok (.func fn first cap) w := fun _ _ _ _ => rfl
  have HC := Lib.hid (fun (W : World) (h : SlR ok W 13 (RSent ok w) sa sc sent) => slices_Clone_Sent ok W sa sc sent hl h)
  unfold lineV at *
  unfold answX at hr
  cases g
  · rw [if_pos rfl] at hr
    subst hr
    have st := St.start w
    go_enter Try.func22, Try.ntmps22
    go_wp2_with (first
      | go_skip | (refine mem_box st (wanted_none rfl) 25 _ rfl _ rfl _ rfl ?_; clear st; intro g1 w1 hg1 st hg1b; clear hg1b; simp [Act.eval, Act.put, Value.cells, putL] at st) | (refine mem_box st (wanted_none rfl) 3 _ rfl _ rfl _ rfl ?_; clear st; intro g2 w2 hg2 st hg2b; clear hg2b; simp [Act.eval, Act.put, Value.cells, putL] at st) | (refine mem_alloc st (wanted_none rfl) 25 rfl _ Try.zeroValue25 _ rfl ?_; clear st; intro g3 w3 hg3 st hg3b; clear hg3b; simp [Act.eval, Act.put, Value.cells, putL] at st) | ((first | refine mem_load_agg' st 25 _ rfl (wanted_none rfl) Try.isAgg25 _ Try.sizeOf25 ?_ | (refine mem_load_agg' st 25 _ rfl (wanted_some rfl ?_) Try.isAgg25 _ Try.sizeOf25 ?_; focus (simp [yielded, Act.put]; done))); refine ⟨0, _, _, _, _, _, rfl, rfl, rfl, rfl, ?_⟩) | ((first | refine mem_store' st 25 _ _ rfl (wanted_none rfl) _ Try.sizeOf25 ?_ | (refine mem_store' st 25 _ _ rfl (wanted_some rfl ?_) _ Try.sizeOf25 ?_; focus (simp [yielded, Act.put]; done))); refine ⟨2, _, _, _, _, _, rfl, rfl, rfl, rfl, rfl, rfl, ?_⟩; clear st; intro w8 st hw8m hw8z; simp [Act.eval, Act.put, Value.cells, putL] at st)
      | (go_at_call 15; refine (HG.out _ (SentR.below hR st.below)).mono ?_; rintro r v1 ⟨rfl, hb1⟩; replace st := st.call hb1; clear hb1))
    have hc := fun j => st.cell (i := 2) rfl j
    refine bodyPost_ret (v := _) ?hr rfl ⟨sa, sc, rfl, st.below, SentR.below hR st.below⟩
    case hr => simp [results, Try.results22, go_sem, hc, putL]
  · rw [if_neg (by simp)] at hr
    have st := St.start w
    go_enter Try.func22, Try.ntmps22
    go_wp2_with (first
      | go_skip | (refine mem_box st (wanted_none rfl) 25 _ rfl _ rfl _ rfl ?_; clear st; intro g1 w1 hg1 st hg1b; clear hg1b; simp [Act.eval, Act.put, Value.cells, putL] at st) | (refine mem_box st (wanted_none rfl) 3 _ rfl _ rfl _ rfl ?_; clear st; intro g2 w2 hg2 st hg2b; clear hg2b; simp [Act.eval, Act.put, Value.cells, putL] at st) | (refine mem_alloc st (wanted_none rfl) 25 rfl _ Try.zeroValue25 _ rfl ?_; clear st; intro g3 w3 hg3 st hg3b; clear hg3b; simp [Act.eval, Act.put, Value.cells, putL] at st) | ((first | refine mem_load_agg' st 25 _ rfl (wanted_none rfl) Try.isAgg25 _ Try.sizeOf25 ?_ | (refine mem_load_agg' st 25 _ rfl (wanted_some rfl ?_) Try.isAgg25 _ Try.sizeOf25 ?_; focus (simp [yielded, Act.put]; done))); refine ⟨0, _, _, _, _, _, rfl, rfl, rfl, rfl, ?_⟩) | ((first | refine mem_load' st 22 _ rfl (wanted_none rfl) Try.isAgg22 ?_ | (refine mem_load' st 22 _ rfl (wanted_some rfl ?_) Try.isAgg22 ?_; focus (simp [yielded, Act.put]; done))); refine ⟨0, _, _, _, _, _, rfl, rfl, rfl, ?_⟩)
      | (go_at_call 15; refine (HG.out _ (SentR.below hR st.below)).mono ?_; rintro r v1 ⟨rfl, hb1⟩; replace st := st.call hb1; clear hb1)
      | (go_at_call 27; refine (HC.out _ (SlR.below hR st.below)).mono ?_; rintro r v2 ⟨a2, k2, rfl, hb2, hO2⟩; have z0 := st.size; have z1 := st.ltAt (i := 0) rfl; have z2 := st.ltAt (i := 1) rfl; have z3 := st.ltAt (i := 2) rfl; replace st := st.call hb2)
      | (go_at_call 32; refine (slices_DeleteFunc_Sent (R := RSent ok w) ok _ _ _ _ sent g2 seq hl (fun _ _ h => RSent.keep (.of_below st.below) h) hO2 hb2.size z2 (st.cell (i := 1) rfl 0)).mono ?_; rintro r v3 ⟨rfl, hb3, hS3⟩; replace st := st.callB hb3 z0 (by simp; omega); have st3 := st; replace st := st.rebase; refine RowKit.Hid.out ?_))
    generalize hfs : sent.filter (offSeq seq) = fs at hr hS3
    have hwB := st3.below
    have hh : ∃ k, r = (k, fs) ∧ (k = 4 ∧ fs.length = sent.length ∨ k = 0 ∧ fs.length ≠ sent.length) := by
      by_cases h : fs.length = sent.length
      · rw [if_pos h] at hr
        refine ⟨4, ?_, .inl ⟨rfl, h⟩⟩
        rw [← hr, ← hfs]
        rw [← hfs] at h
        rw [List.filter_eq_self.2 (List.length_filter_eq_length_iff.1 h)]
      · rw [if_neg h] at hr
        exact ⟨0, hr.symm, .inr ⟨rfl, h⟩⟩
    obtain ⟨k, rfl, hh⟩ := hh
    clear hr hfs HC hO2 HG
    rcases hh with ⟨rfl, h4⟩ | ⟨rfl, h4⟩
    all_goals
      first | (have dq : ((fs.length : Int) == sent.length) = false := by simp; omega) | (have dq : ((fs.length : Int) == sent.length) = true := by simp; omega)
      clear h4
      refine Lib.hid ?_
      go_wp2_with (first | go_skip | ((first | refine mem_store' st 22 _ _ rfl (wanted_none rfl) _ Try.sizeOf22 ?_ | (refine mem_store' st 22 _ _ rfl (wanted_some rfl ?_) _ Try.sizeOf22 ?_; focus (simp [yielded, Act.put]; done))); refine ⟨0, _, _, _, _, _, rfl, rfl, rfl, rfl, rfl, rfl, ?_⟩; clear st; intro w4 st hw4m hw4z; simp [Act.eval, Act.put, Value.cells, putL] at st) | ((first | refine mem_load' st 22 _ rfl (wanted_none rfl) Try.isAgg22 ?_ | (refine mem_load' st 22 _ rfl (wanted_some rfl ?_) Try.isAgg22 ?_; focus (simp [yielded, Act.put]; done))); refine ⟨0, _, _, _, _, _, rfl, rfl, rfl, ?_⟩) | ((first | refine mem_load_agg' st 25 _ rfl (wanted_none rfl) Try.isAgg25 _ Try.sizeOf25 ?_ | (refine mem_load_agg' st 25 _ rfl (wanted_some rfl ?_) Try.isAgg25 _ Try.sizeOf25 ?_; focus (simp [yielded, Act.put]; done))); refine ⟨0, _, _, _, _, _, rfl, rfl, rfl, rfl, ?_⟩) | ((first | refine mem_store' st 25 _ _ rfl (wanted_none rfl) _ Try.sizeOf25 ?_ | (refine mem_store' st 25 _ _ rfl (wanted_some rfl ?_) _ Try.sizeOf25 ?_; focus (simp [yielded, Act.put]; done))); refine ⟨2, _, _, _, _, _, rfl, rfl, rfl, rfl, rfl, rfl, ?_⟩; clear st; intro w5 st hw5m hw5z; simp [Act.eval, Act.put, Value.cells, putL] at st))
      have hc := fun j => st.cell (i := 2) rfl j
      have hw := hwB.trans (st.belowB hwB.size (by have m := st3.mine; simp at m; simp; omega))
      refine bodyPost_ret (v := _) ?hr rfl ⟨a2, k2, rfl, hw, ?_⟩
      case hr => simp [results, Try.results22, go_sem, hc, putL]
      exact SlR.move hS3 st.size (fun b hb ho => ⟨hok b (by omega), st.frame b hb (by simp; omega)⟩) fun _ _ h => RSent.keep (.of_below hw) h

end Go.Proofs.Ytclocdhkpckolaa
