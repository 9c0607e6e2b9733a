/- The walk through line.Send. -/
import Derived.Test.YtikfjmcgoamdlaaClone
import Derived.Test.YtikfjmcgoamdlaaLineT
set_option linter.unusedSimpArgs false
set_option linter.unusedVariables false
namespace Go.Proofs.Ytikfjmcgoamdlaa
open Go.RowKit

/-- A frame of nothing, as a value. -/
def frameZ : Value := .agg #[.int .i64 0, .int .i64 0, .int .i64 0, .bool false, .int .i64 0, .int .i64 0, .int .i64 0, .slice none 0 0, .slice none 0 0, .string ⟨#[]⟩, .slice none 0 0]

set_option maxHeartbeats 2000000 in
theorem line_Send_range (ok : Nat → Prop) (w : World) (next high : Int) (sa : Option Addr) (sc : Nat) (sent : List Sent) (e : Eight) (f : Frame) (la : Option Addr) (lc : Nat) (ga : Option Addr) (gc : Nat) (ca : Option Addr) (cc : Nat) (now : Int) (hR : SentR ok w sa sc sent)
    (h : lineOk ⟨next, sent, high, e⟩ = false ∨ now < 0 ∨ 1099511627776 < now) :
    Calls Try.prog 66 #[lineV next high sa sent.length sc e, frameV f la lc ga gc ca cc, .int .i64 now] w fun r w' => r = .returned (.tuple #[lineV next high sa sent.length sc e, frameZ, .int .i64 2]) ∧ Below w.heap.size w w' := by
  have hG := fun W (hW : SentR ok W sa sc sent) => line_Good ok W next high sa sc sent e hW
  generalize lineOk ⟨next, sent, high, e⟩ = g at h hG
  have HG := Lib.hid hG
  clear hG
  unfold lineV frameV frameZ at *
  have st := St.start w
  have tk := trivial
  rcases or3 (!g) (decide (now < 0)) (decide (1099511627776 < now)) with d | ⟨d0, d⟩ | ⟨d0, d1, d⟩ | ⟨d0, d1, d2⟩
  case inr.inr.inr =>
    exfalso
    simp at d0 d1 d2
    rcases h with h | h | h
    · rw [h] at d0; simp at d0
    · omega
    · omega
  all_goals
    go_enter Try.func66, Try.ntmps66
    go_wp2_with (first
      | (refine mem_box st (wanted_none rfl) 87 _ rfl _ rfl _ rfl ?_; clear st; intro g1 w1 hg1 st hg1b; clear hg1b; simp [Act.eval, Act.put, Value.cells, putL] at st) | (refine mem_box st (wanted_none rfl) 113 _ rfl _ rfl _ rfl ?_; clear st; intro g2 w2 hg2 st hg2b; clear hg2b; simp [Act.eval, Act.put, Value.cells, putL] at st) | (refine mem_alloc st (wanted_none rfl) 87 rfl _ Try.zeroValue87 _ rfl ?_; clear st; intro g3 w3 hg3 st hg3b; clear hg3b; simp [Act.eval, Act.put, Value.cells, putL] at st) | (refine mem_alloc st (wanted_none rfl) 113 rfl _ Try.zeroValue113 _ rfl ?_; clear st; intro g4 w4 hg4 st hg4b; clear hg4b; simp [Act.eval, Act.put, Value.cells, putL] at st) | ((first | refine mem_load_agg' st 87 _ rfl (wanted_none rfl) Try.isAgg87 _ Try.sizeOf87 ?_ | (refine mem_load_agg' st 87 _ rfl (wanted_some rfl ?_) Try.isAgg87 _ Try.sizeOf87 ?_; focus (simp [yielded, Act.put]; done))); refine ⟨0, _, _, _, _, _, rfl, rfl, rfl, rfl, ?_⟩) | ((first | refine mem_store' st 87 _ _ rfl (wanted_none rfl) _ Try.sizeOf87 ?_ | (refine mem_store' st 87 _ _ rfl (wanted_some rfl ?_) _ Try.sizeOf87 ?_; focus (simp [yielded, Act.put]; done))); refine ⟨2, _, _, _, _, _, rfl, rfl, rfl, rfl, rfl, rfl, ?_⟩; clear st; intro w8 st hw8m hw8z; simp [Act.eval, Act.put, Value.cells, putL] at st) | ((first | refine mem_store' st 113 _ _ rfl (wanted_none rfl) _ Try.sizeOf113 ?_ | (refine mem_store' st 113 _ _ rfl (wanted_some rfl ?_) _ Try.sizeOf113 ?_; focus (simp [yielded, Act.put]; done))); refine ⟨3, _, _, _, _, _, rfl, rfl, rfl, rfl, rfl, rfl, ?_⟩; clear st; intro w9 st hw9m hw9z; simp [Act.eval, Act.put, Value.cells, putL] at st)
      | (go_at_call 73; refine (HG.out _ (SentR.below hR st.below)).mono ?_; rintro r v1 ⟨rfl, hb1⟩; replace st := st.call hb1; clear hb1))
    have hc := fun j => st.cell (i := 2) rfl j
    have hc' := fun j => st.cell (i := 3) rfl j
    refine bodyPost_ret (v := _) ?hr rfl ⟨rfl, st.below⟩
    case hr => simp [results, Try.results66, go_sem, hc, hc', putL]

set_option maxHeartbeats 2000000 in
theorem line_Send_full (ok : Nat → Prop) (w : World) (next high : Int) (sa : Option Addr) (sc : Nat) (sent : List Sent) (e : Eight) (f : Frame) (la : Option Addr) (lc : Nat) (ga : Option Addr) (gc : Nat) (ca : Option Addr) (cc : Nat) (now : Int) (hR : SentR ok w sa sc sent)
    (hg : lineOk ⟨next, sent, high, e⟩ = true) (h1 : 0 ≤ now) (h2 : now ≤ 1099511627776) (h3 : sent.length = 8 ∨ next = 1099511627775) :
    Calls Try.prog 66 #[lineV next high sa sent.length sc e, frameV f la lc ga gc ca cc, .int .i64 now] w fun r w' => r = .returned (.tuple #[lineV next high sa sent.length sc e, frameZ, .int .i64 5]) ∧ Below w.heap.size w w' := by
  have hG := fun W (hW : SentR ok W sa sc sent) => line_Good ok W next high sa sc sent e hW
  obtain ⟨b3, b4, b1, b2, b5⟩ := lineOk_high hg
  rw [hg] at hG
  have HG := Lib.hid hG
  clear hG hg
  have d0 : decide (now < 0) = false := by simp; omega
  have d1 : decide (1099511627776 < now) = false := by simp; omega
  unfold lineV frameV frameZ at *
  have st := St.start w
  have hq : (8 : Int) ≤ (sent.length : Int) ∨ ((sent.length : Int) < 8 ∧ 1099511627775 ≤ next) := by omega
  clear h3
  rcases hq with hq | ⟨hq, hq2⟩
  all_goals
    first | (have dq : decide ((8 : Int) ≤ (sent.length : Int)) = true := by simp; omega) | (have dq : decide ((8 : Int) ≤ (sent.length : Int)) = false := by simp; omega)
    try (have dq2 : decide (1099511627775 ≤ next) = true := by simp; omega)
    go_enter Try.func66, Try.ntmps66
    go_wp2_with (first
      | (refine mem_box st (wanted_none rfl) 87 _ rfl _ rfl _ rfl ?_; clear st; intro g1 w1 hg1 st hg1b; clear hg1b; simp [Act.eval, Act.put, Value.cells, putL] at st) | (refine mem_box st (wanted_none rfl) 113 _ rfl _ rfl _ rfl ?_; clear st; intro g2 w2 hg2 st hg2b; clear hg2b; simp [Act.eval, Act.put, Value.cells, putL] at st) | (refine mem_alloc st (wanted_none rfl) 87 rfl _ Try.zeroValue87 _ rfl ?_; clear st; intro g3 w3 hg3 st hg3b; clear hg3b; simp [Act.eval, Act.put, Value.cells, putL] at st) | (refine mem_alloc st (wanted_none rfl) 113 rfl _ Try.zeroValue113 _ rfl ?_; clear st; intro g4 w4 hg4 st hg4b; clear hg4b; simp [Act.eval, Act.put, Value.cells, putL] at st) | ((first | refine mem_load_agg' st 87 _ rfl (wanted_none rfl) Try.isAgg87 _ Try.sizeOf87 ?_ | (refine mem_load_agg' st 87 _ rfl (wanted_some rfl ?_) Try.isAgg87 _ Try.sizeOf87 ?_; focus (simp [yielded, Act.put]; done))); refine ⟨0, _, _, _, _, _, rfl, rfl, rfl, rfl, ?_⟩) | ((first | refine mem_load' st 84 _ rfl (wanted_none rfl) Try.isAgg84 ?_ | (refine mem_load' st 84 _ rfl (wanted_some rfl ?_) Try.isAgg84 ?_; focus (simp [yielded, Act.put]; done))); refine ⟨0, _, _, _, _, _, rfl, rfl, rfl, ?_⟩) | ((first | refine mem_load' st 3 _ rfl (wanted_none rfl) Try.isAgg3 ?_ | (refine mem_load' st 3 _ rfl (wanted_some rfl ?_) Try.isAgg3 ?_; focus (simp [yielded, Act.put]; done))); refine ⟨0, _, _, _, _, _, rfl, rfl, rfl, ?_⟩) | ((first | refine mem_store' st 87 _ _ rfl (wanted_none rfl) _ Try.sizeOf87 ?_ | (refine mem_store' st 87 _ _ rfl (wanted_some rfl ?_) _ Try.sizeOf87 ?_; focus (simp [yielded, Act.put]; done))); refine ⟨2, _, _, _, _, _, rfl, rfl, rfl, rfl, rfl, rfl, ?_⟩; clear st; intro w8 st hw8m hw8z; simp [Act.eval, Act.put, Value.cells, putL] at st) | ((first | refine mem_store' st 113 _ _ rfl (wanted_none rfl) _ Try.sizeOf113 ?_ | (refine mem_store' st 113 _ _ rfl (wanted_some rfl ?_) _ Try.sizeOf113 ?_; focus (simp [yielded, Act.put]; done))); refine ⟨3, _, _, _, _, _, rfl, rfl, rfl, rfl, rfl, rfl, ?_⟩; clear st; intro w9 st hw9m hw9z; simp [Act.eval, Act.put, Value.cells, putL] at st)
      | (go_at_call 73; refine (HG.out _ (SentR.below hR st.below)).mono ?_; rintro r v1 ⟨rfl, hb1⟩; replace st := st.call hb1; clear hb1))
    have hc := fun j => st.cell (i := 2) rfl j
    have hc' := fun j => st.cell (i := 3) rfl j
    refine bodyPost_ret (v := _) ?hr rfl ⟨rfl, st.below⟩
    case hr => simp [results, Try.results66, go_sem, hc, hc', putL]

end Go.Proofs.Ytikfjmcgoamdlaa
