/- The walk through the reference's word on the coming of a number. -/
import Derived.Test.YtclocdhkpckolaaLineR
import Derived.Test.YtclocdhkpckolaaLineT
set_option linter.unusedSimpArgs false
set_option linter.unusedVariables false
namespace Go.Proofs.Ytclocdhkpckolaa
open Go.RowKit

theorem get_cell (next high : Int) (sa : Option Addr) (n sc : Nat) (e : Eight) (k : Nat) (h : k < 8) :
    ([.int .i64 next, .slice sa n sc, .int .i64 high, .bool e.s0, .bool e.s1, .bool e.s2, .bool e.s3, .bool e.s4, .bool e.s5, .bool e.s6, .bool e.s7] : List Value)[3 + k]? = some (.bool (e.get k)) := by
  match k, h with
  | 0, _ | 1, _ | 2, _ | 3, _ | 4, _ | 5, _ | 6, _ | 7, _ => rfl

set_option maxHeartbeats 2000000 in
theorem ref_TakeOn_range (ok : Nat → Prop) (w : World) (next high : Int) (sa : Option Addr) (sc : Nat) (sent : List Sent) (e : Eight) (seq : Int) (hR : SentR ok w sa sc sent)
    (h : lineOk ⟨next, sent, high, e⟩ = false ∨ seq < 1 ∨ 1099511627776 < seq) :
    Calls Try.prog 19 #[lineV next high sa sent.length sc e, .int .i64 seq] w fun r w' => r = .returned (.tuple #[lineV next high sa sent.length sc e, .int .i64 2]) ∧ Below w.heap.size w w' := by
  have hG := fun W (hW : SentR ok W sa sc sent) => ref_GoodLine ok W next high sa sc sent e hW
  generalize lineOk ⟨next, sent, high, e⟩ = g at h hG
  have HG := Lib.hid hG
  clear hG
  unfold lineV at *
  have st := St.start w
  rcases or3 (!g) (decide (seq < 1)) (decide (1099511627776 < seq)) with d | ⟨d0, d⟩ | ⟨d0, d1, d⟩ | ⟨d0, d1, d2⟩
  case inr.inr.inr =>
    exfalso
    simp at d0 d1 d2
    rcases h with h | h | h
    · rw [h] at d0; simp at d0
    · omega
    · omega
  all_goals
    go_enter Try.func19, Try.ntmps19
    go_wp2_with (first
      | (refine mem_box st (wanted_none rfl) 25 _ rfl _ rfl _ rfl ?_; clear st; intro g1 w1 hg1 st hg1b; clear hg1b; simp [Act.eval, Act.put, Value.cells, putL] at st) | (refine mem_alloc st (wanted_none rfl) 25 rfl _ Try.zeroValue25 _ rfl ?_; clear st; intro g2 w2 hg2 st hg2b; clear hg2b; simp [Act.eval, Act.put, Value.cells, putL] at st) | ((first | refine mem_load_agg' st 25 _ rfl (wanted_none rfl) Try.isAgg25 _ Try.sizeOf25 ?_ | (refine mem_load_agg' st 25 _ rfl (wanted_some rfl ?_) Try.isAgg25 _ Try.sizeOf25 ?_; focus (simp [yielded, Act.put]; done))); refine ⟨0, _, _, _, _, _, rfl, rfl, rfl, rfl, ?_⟩) | ((first | refine mem_store' st 25 _ _ rfl (wanted_none rfl) _ Try.sizeOf25 ?_ | (refine mem_store' st 25 _ _ rfl (wanted_some rfl ?_) _ Try.sizeOf25 ?_; focus (simp [yielded, Act.put]; done))); refine ⟨1, _, _, _, _, _, rfl, rfl, rfl, rfl, rfl, rfl, ?_⟩; clear st; intro w9 st hw9m hw9z; simp [Act.eval, Act.put, Value.cells, putL] at st)
      | (go_at_call 16; refine (HG.out _ (SentR.below hR st.below)).mono ?_; rintro r v1 ⟨rfl, hb1⟩; replace st := st.call hb1; clear hb1))
    have hc := fun j => st.cell (i := 1) rfl j
    refine bodyPost_ret (v := _) ?hr rfl ⟨rfl, st.below⟩
    case hr => simp [results, Try.results19, go_sem, hc, putL]

set_option maxHeartbeats 2000000 in
theorem ref_TakeOn_old (ok : Nat → Prop) (w : World) (next high : Int) (sa : Option Addr) (sc : Nat) (sent : List Sent) (e : Eight) (seq : Int) (hR : SentR ok w sa sc sent)
    (hg : lineOk ⟨next, sent, high, e⟩ = true) (h1 : 1 ≤ seq) (h2 : seq ≤ 1099511627776) (h3 : seq ≤ high - 8) :
    Calls Try.prog 19 #[lineV next high sa sent.length sc e, .int .i64 seq] w fun r w' => r = .returned (.tuple #[lineV next high sa sent.length sc e, .int .i64 11]) ∧ Below w.heap.size w w' := by
  have hG := fun W (hW : SentR ok W sa sc sent) => ref_GoodLine ok W next high sa sc sent e hW
  obtain ⟨_, _, b1, b2, _⟩ := lineOk_high hg
  rw [hg] at hG
  have HG := Lib.hid hG
  clear hG hg
  unfold lineV at *
  have d0 : decide (seq < 1) = false := by simp; omega
  have d1 : decide (1099511627776 < seq) = false := by simp; omega
  have d2 : 8 ≤ high - seq := by omega
  have st := St.start w
  go_enter Try.func19, Try.ntmps19
  go_wp2_with (first
    | (refine mem_box st (wanted_none rfl) 25 _ rfl _ rfl _ rfl ?_; clear st; intro g1 w1 hg1 st hg1b; clear hg1b; simp [Act.eval, Act.put, Value.cells, putL] at st) | (refine mem_alloc st (wanted_none rfl) 25 rfl _ Try.zeroValue25 _ rfl ?_; clear st; intro g2 w2 hg2 st hg2b; clear hg2b; simp [Act.eval, Act.put, Value.cells, putL] at st) | ((first | refine mem_load_agg' st 25 _ rfl (wanted_none rfl) Try.isAgg25 _ Try.sizeOf25 ?_ | (refine mem_load_agg' st 25 _ rfl (wanted_some rfl ?_) Try.isAgg25 _ Try.sizeOf25 ?_; focus (simp [yielded, Act.put]; done))); refine ⟨0, _, _, _, _, _, rfl, rfl, rfl, rfl, ?_⟩) | ((first | refine mem_store' st 25 _ _ rfl (wanted_none rfl) _ Try.sizeOf25 ?_ | (refine mem_store' st 25 _ _ rfl (wanted_some rfl ?_) _ Try.sizeOf25 ?_; focus (simp [yielded, Act.put]; done))); refine ⟨1, _, _, _, _, _, rfl, rfl, rfl, rfl, rfl, rfl, ?_⟩; clear st; intro w9 st hw9m hw9z; simp [Act.eval, Act.put, Value.cells, putL] at st) | ((first | refine mem_load' st 3 _ rfl (wanted_none rfl) Try.isAgg3 ?_ | (refine mem_load' st 3 _ rfl (wanted_some rfl ?_) Try.isAgg3 ?_; focus (simp [yielded, Act.put]; done))); refine ⟨0, _, _, _, _, _, rfl, rfl, rfl, ?_⟩)
    | (go_at_call 16; refine (HG.out _ (SentR.below hR st.below)).mono ?_; rintro r v1 ⟨rfl, hb1⟩; replace st := st.call hb1; clear hb1))
  have hc := fun j => st.cell (i := 1) rfl j
  refine bodyPost_ret (v := _) ?hr rfl ⟨rfl, st.below⟩
  case hr => simp [results, Try.results19, go_sem, hc, putL]

set_option maxHeartbeats 2000000 in
theorem ref_TakeOn_twice (ok : Nat → Prop) (w : World) (next high : Int) (sa : Option Addr) (sc : Nat) (sent : List Sent) (e : Eight) (seq : Int) (k : Nat) (hR : SentR ok w sa sc sent)
    (hg : lineOk ⟨next, sent, high, e⟩ = true) (h1 : 1 ≤ seq) (h2 : seq ≤ 1099511627776) (h3 : high - seq = (k : Int)) (h4 : k < 8) (h5 : e.get k = true) :
    Calls Try.prog 19 #[lineV next high sa sent.length sc e, .int .i64 seq] w fun r w' => r = .returned (.tuple #[lineV next high sa sent.length sc e, .int .i64 10]) ∧ Below w.heap.size w w' := by
  have hG := fun W (hW : SentR ok W sa sc sent) => ref_GoodLine ok W next high sa sc sent e hW
  obtain ⟨_, _, b1, b2, _⟩ := lineOk_high hg
  rw [hg] at hG
  have HG := Lib.hid hG
  clear hG hg
  have hk := get_cell next high sa sent.length sc e k h4
  rw [h5] at hk
  have HK := Lib.hid hk
  unfold lineV at *
  have d0 : decide (seq < 1) = false := by simp; omega
  have d1 : decide (1099511627776 < seq) = false := by simp; omega
  have d2 : high - seq < 8 := by omega
  have d3 : seq ≤ high := by omega
  have st := St.start w
  clear h5 hk
  go_enter Try.func19, Try.ntmps19
  go_wp2_with (first
    | (refine mem_box st (wanted_none rfl) 25 _ rfl _ rfl _ rfl ?_; clear st; intro g1 w1 hg1 st hg1b; clear hg1b; simp [Act.eval, Act.put, Value.cells, putL] at st) | (refine mem_alloc st (wanted_none rfl) 25 rfl _ Try.zeroValue25 _ rfl ?_; clear st; intro g2 w2 hg2 st hg2b; clear hg2b; simp [Act.eval, Act.put, Value.cells, putL] at st) | ((first | refine mem_load_agg' st 25 _ rfl (wanted_none rfl) Try.isAgg25 _ Try.sizeOf25 ?_ | (refine mem_load_agg' st 25 _ rfl (wanted_some rfl ?_) Try.isAgg25 _ Try.sizeOf25 ?_; focus (simp [yielded, Act.put]; done))); refine ⟨0, _, _, _, _, _, rfl, rfl, rfl, rfl, ?_⟩) | ((first | refine mem_store' st 25 _ _ rfl (wanted_none rfl) _ Try.sizeOf25 ?_ | (refine mem_store' st 25 _ _ rfl (wanted_some rfl ?_) _ Try.sizeOf25 ?_; focus (simp [yielded, Act.put]; done))); refine ⟨1, _, _, _, _, _, rfl, rfl, rfl, rfl, rfl, rfl, ?_⟩; clear st; intro w9 st hw9m hw9z; simp [Act.eval, Act.put, Value.cells, putL] at st) | ((first | refine mem_load' st 3 _ rfl (wanted_none rfl) Try.isAgg3 ?_ | (refine mem_load' st 3 _ rfl (wanted_some rfl ?_) Try.isAgg3 ?_; focus (simp [yielded, Act.put]; done))); refine ⟨0, _, _, _, _, _, rfl, rfl, rfl, ?_⟩)
    | ((first | refine mem_load' st 4 _ rfl (wanted_none rfl) Try.isAgg4 ?_ | (refine mem_load' st 4 _ rfl (wanted_some rfl ?_) Try.isAgg4 ?_; focus (simp [yielded, Act.put]; done))); refine ⟨0, _, _, _, _, _, rfl, rfl, HK.out, ?_⟩)
    | (go_at_call 16; refine (HG.out _ (SentR.below hR st.below)).mono ?_; rintro r v1 ⟨rfl, hb1⟩; replace st := st.call hb1; clear hb1))
  have hc := fun j => st.cell (i := 1) rfl j
  refine bodyPost_ret (v := _) ?hr rfl ⟨rfl, st.below⟩
  case hr => simp [results, Try.results19, go_sem, hc, putL]

end Go.Proofs.Ytclocdhkpckolaa
