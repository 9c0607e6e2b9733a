/- The walk through the reference's word on the coming of a number that did not come yet. -/
import Derived.Test.YtclocdhkpckolaaTakeR
import Derived.Test.YtclocdhkpckolaaLineW
set_option linter.unusedSimpArgs false
set_option linter.unusedVariables false
namespace Go.Proofs.Ytclocdhkpckolaa
open Go.RowKit

theorem putL_row (f : Nat → Bool) (j : Nat) (b : Bool) (h : j < 8) : putL (rowB f) j [.bool b] = rowB fun i => if i = j then b else f i := by
  match j, h with
  | 0, _ | 1, _ | 2, _ | 3, _ | 4, _ | 5, _ | 6, _ | 7, _ => rfl

/-- The first k of a row. -/
def upto (val : Nat → Bool) (k j : Nat) : Bool := if j < k then val j else false

theorem upto_put (x y z : Value) (val : Nat → Bool) (k : Nat) (b : Bool) (h : k < 8) (hb : val k = b) : putL (x :: y :: z :: rowB (upto val k)) (3 + k) [.bool b] = x :: y :: z :: rowB (upto val (k + 1)) := by
  have e : putL (x :: y :: z :: rowB (upto val k)) (3 + k) [.bool b] = x :: y :: z :: putL (rowB (upto val k)) k [.bool b] := by
    rw [Nat.add_comm]; rfl
  rw [e, putL_row _ _ _ h]
  congr 3
  apply rowB_congr
  intro j _
  unfold upto
  by_cases h1 : j = k
  · subst h1; simp [hb]
  · rw [if_neg h1]
    by_cases h2 : j < k
    · rw [if_pos h2, if_pos (by omega)]
    · rw [if_neg h2, if_neg (by omega)]

set_option maxHeartbeats 4000000 in
theorem ref_TakeOn_seen (ok : Nat → Prop) (w : World) (next high : Int) (sa : Option Addr) (sc : Nat) (sent : List Sent) (e : Eight) (seq : Int) (q : Nat) (hR : SentR ok w sa sc sent)
    (hg : lineOk ⟨next, sent, high, e⟩ = true) (h1 : 1 ≤ seq) (h2 : seq ≤ 1099511627776) (h3 : high - seq = (q : Int)) (h4 : q < 8) (h5 : e.get q = false) :
    Calls Try.prog 19 #[lineV next high sa sent.length sc e, .int .i64 seq] w fun r w' => r = .returned (.tuple #[lineV next high sa sent.length sc (e.yes q), .int .i64 0]) ∧ Below w.heap.size w w' := by
  have hG := fun W (hW : SentR ok W sa sc sent) => ref_GoodLine ok W next high sa sc sent e hW
  obtain ⟨_, _, b1, b2, _⟩ := lineOk_high hg
  rw [hg] at hG
  have HG := Lib.hid hG
  clear hG hg
  have hk := get_cell next high sa sent.length sc e q h4
  rw [h5] at hk
  have HK := Lib.hid hk
  have HC := Lib.hid (fun k hk => get_cell next high sa sent.length sc e k hk)
  unfold lineV at *
  have d0 : decide (seq < 1) = false := by simp; omega
  have d1 : decide (1099511627776 < seq) = false := by simp; omega
  have d2 : high - seq < 8 := by omega
  have d3 : seq ≤ high := by omega
  have H3 := Lib.hid h3
  have st := St.start w
  have tk := trivial
  clear h5 hk
  go_enter Try.func19, Try.ntmps19
  go_wp2_with (first
    | (clear tk; (refine mem_alloc st (wanted_none rfl) 25 rfl _ Try.zeroValue25 _ rfl ?_; clear st; intro g2 w2 hg2 st hg2b; clear hg2b; simp [Act.eval, Act.put, Value.cells, putL] at st)) | (refine mem_alloc st (wanted_none rfl) 25 rfl _ Try.zeroValue25 _ rfl ?_; clear st; intro g3 w2 hg3 st hg3b; clear hg3b; simp [Act.eval, Act.put, Value.cells, putL] at st) | (refine mem_box st (wanted_none rfl) 25 _ rfl _ rfl _ rfl ?_; clear st; intro g1 w1 hg1 st hg1b; clear hg1b; simp [Act.eval, Act.put, Value.cells, putL] at st) | ((first | refine mem_load_agg' st 25 _ rfl (wanted_none rfl) Try.isAgg25 _ Try.sizeOf25 ?_ | (refine mem_load_agg' st 25 _ rfl (wanted_some rfl ?_) Try.isAgg25 _ Try.sizeOf25 ?_; focus (simp [yielded, Act.put]; done))); refine ⟨0, _, _, _, _, _, rfl, rfl, rfl, rfl, ?_⟩) | ((first | refine mem_load' st 3 _ rfl (wanted_none rfl) Try.isAgg3 ?_ | (refine mem_load' st 3 _ rfl (wanted_some rfl ?_) Try.isAgg3 ?_; focus (simp [yielded, Act.put]; done))); refine ⟨0, _, _, _, _, _, rfl, rfl, rfl, ?_⟩)
    | ((first | refine mem_load' st 4 _ rfl (wanted_none rfl) Try.isAgg4 ?_ | (refine mem_load' st 4 _ rfl (wanted_some rfl ?_) Try.isAgg4 ?_; focus (simp [yielded, Act.put]; done))); refine ⟨0, _, _, _, _, _, rfl, rfl, HK.out, ?_⟩)
    | (go_at_call 16; refine (HG.out _ (SentR.below hR st.below)).mono ?_; rintro r v1 ⟨rfl, hb1⟩; replace st := st.call hb1; clear hb1)
    | ((first | refine mem_store' st 25 _ _ rfl (wanted_none rfl) _ Try.sizeOf25 ?_ | (refine mem_store' st 25 _ _ rfl (wanted_some rfl ?_) _ Try.sizeOf25 ?_; focus (simp [yielded, Act.put]; done))); refine ⟨2, _, _, _, _, _, rfl, rfl, rfl, rfl, rfl, rfl, ?_⟩; clear st; intro w3 st hw3m hw3z; simp [Act.eval, Act.put, Value.cells, putL] at st) | ((first | refine mem_store' st 3 _ _ rfl (wanted_none rfl) _ Try.sizeOf3 ?_ | (refine mem_store' st 3 _ _ rfl (wanted_some rfl ?_) _ Try.sizeOf3 ?_; focus (simp [yielded, Act.put]; done))); refine ⟨2, _, _, _, _, _, rfl, rfl, rfl, rfl, rfl, rfl, ?_⟩; clear st; intro w4 st hw4m hw4z; simp [Act.eval, Act.put, Value.cells, putL] at st) | ((first | refine mem_store' st 23 _ _ rfl (wanted_none rfl) _ Try.sizeOf23 ?_ | (refine mem_store' st 23 _ _ rfl (wanted_some rfl ?_) _ Try.sizeOf23 ?_; focus (simp [yielded, Act.put]; done))); refine ⟨2, _, _, _, _, _, rfl, rfl, rfl, rfl, rfl, rfl, ?_⟩; clear st; intro w5 st hw5m hw5z; simp [Act.eval, Act.put, Value.cells, putL] at st))
  have hv : ∀ j, j < 8 → (e.yes q).get j = if j = q then true else e.get j := fun j hj => by
    match j, hj with
    | 0, _ | 1, _ | 2, _ | 3, _ | 4, _ | 5, _ | 6, _ | 7, _ => rfl
  generalize hw : (e.yes q) = ey at hv
  have HW := Lib.hid hw
  have HV := Lib.hid hv
  clear hv hw h3
  have e0 : ([.bool false, .bool false, .bool false, .bool false, .bool false, .bool false, .bool false, .bool false] : List Value) = rowB (upto ey.get 0) := rfl
  have st0 : St [] w w5 [(g1, 25, [.int .i64 next, .slice sa sent.length sc, .int .i64 high, .bool e.s0, .bool e.s1, .bool e.s2, .bool e.s3, .bool e.s4, .bool e.s5, .bool e.s6, .bool e.s7]), (g2, 25, [.int .i64 0, .slice none 0 0, .int .i64 0, .bool false, .bool false, .bool false, .bool false, .bool false, .bool false, .bool false, .bool false]), (g3, 25, .int .i64 next :: .slice sa sent.length sc :: .int .i64 high :: rowB (upto ey.get 0))] := st
  clear st e0
  go_loopw [49] (fun i wr => ∃ k : Nat, k ≤ 8 ∧ i = .int .i64 k ∧ St [] w wr [(g1, 25, [.int .i64 next, .slice sa sent.length sc, .int .i64 high, .bool e.s0, .bool e.s1, .bool e.s2, .bool e.s3, .bool e.s4, .bool e.s5, .bool e.s6, .bool e.s7]), (g2, 25, [.int .i64 0, .slice none 0 0, .int .i64 0, .bool false, .bool false, .bool false, .bool false, .bool false, .bool false, .bool false, .bool false]), (g3, 25, .int .i64 next :: .slice sa sent.length sc :: .int .i64 high :: rowB (upto ey.get k))]) (fun i _ => 8 - (intOf i).toNat)
  case atStart => exact ⟨0, by omega, rfl, st0⟩
  case round =>
    obtain ⟨k, hk, rfl, st⟩ := hrel
    clear st0
    by_cases hlt : k < 8
    · have hble : Nat.ble (3 + k + 1) 11 = true := Nat.ble_eq_true_of_le (by omega)
      have hvk := HV.out k hlt
      by_cases hkq : k = q
      · rw [if_pos hkq] at hvk
        have hq1 : (high - (k : Int) == seq) = true := by simp; have := H3.out; omega
        have HE := Lib.hid (upto_put (.int .i64 next) (.slice sa sent.length sc) (.int .i64 high) ey.get k true hlt hvk)
        clear hvk hkq
        go_wp2_with (first
          | ((first | refine mem_load' st 3 _ rfl (wanted_none rfl) Try.isAgg3 ?_ | (refine mem_load' st 3 _ rfl (wanted_some rfl ?_) Try.isAgg3 ?_; focus (simp [yielded, Act.put]; done))); refine ⟨2, _, _, _, _, _, rfl, rfl, rfl, ?_⟩) | ((first | refine mem_load' st 3 _ rfl (wanted_none rfl) Try.isAgg3 ?_ | (refine mem_load' st 3 _ rfl (wanted_some rfl ?_) Try.isAgg3 ?_; focus (simp [yielded, Act.put]; done))); refine ⟨0, _, _, _, _, _, rfl, rfl, rfl, ?_⟩)
          | ((first | refine mem_store' st 4 _ _ rfl (wanted_none rfl) _ Try.sizeOf4 ?_ | (refine mem_store' st 4 _ _ rfl (wanted_some rfl ?_) _ Try.sizeOf4 ?_; focus (simp [yielded, Act.put]; done))); refine ⟨2, _, _, _, _, [.bool true], rfl, rfl, rfl, rfl, rfl, hble, ?_⟩; clear st; intro w9 st _ _; simp only [List.set_cons_succ, List.set_cons_zero] at st; rw [HE.out] at st))
        go_roundw
        case rel => exact ⟨k + 1, by omega, by go_num, st⟩
        case measure => simp [intOf]; omega
      · rw [if_neg hkq] at hvk
        have hq1 : (high - (k : Int) == seq) = false := by simp; have := H3.out; omega
        have hc := HC.out k hlt
        generalize hb : e.get k = b at hvk hc
        have HB := Lib.hid hc
        have HE := Lib.hid (upto_put (.int .i64 next) (.slice sa sent.length sc) (.int .i64 high) ey.get k b hlt hvk)
        have hq2 : high - (k : Int) ≤ high := by omega
        have hq3 : (k : Int) < 8 := by omega
        have hq4 : high - (high - (k : Int)) = (k : Int) := by omega
        clear hvk hkq hc hb
        go_wp2_with (first
          | ((first | refine mem_load' st 3 _ rfl (wanted_none rfl) Try.isAgg3 ?_ | (refine mem_load' st 3 _ rfl (wanted_some rfl ?_) Try.isAgg3 ?_; focus (simp [yielded, Act.put]; done))); refine ⟨2, _, _, _, _, _, rfl, rfl, rfl, ?_⟩) | ((first | refine mem_load' st 3 _ rfl (wanted_none rfl) Try.isAgg3 ?_ | (refine mem_load' st 3 _ rfl (wanted_some rfl ?_) Try.isAgg3 ?_; focus (simp [yielded, Act.put]; done))); refine ⟨0, _, _, _, _, _, rfl, rfl, rfl, ?_⟩)
          | ((first | refine mem_load' st 4 _ rfl (wanted_none rfl) Try.isAgg4 ?_ | (refine mem_load' st 4 _ rfl (wanted_some rfl ?_) Try.isAgg4 ?_; focus (simp [yielded, Act.put]; done))); refine ⟨0, _, _, _, _, _, rfl, rfl, HB.out, ?_⟩)
          | ((first | refine mem_store' st 4 _ _ rfl (wanted_none rfl) _ Try.sizeOf4 ?_ | (refine mem_store' st 4 _ _ rfl (wanted_some rfl ?_) _ Try.sizeOf4 ?_; focus (simp [yielded, Act.put]; done))); refine ⟨2, _, _, _, _, [.bool b], rfl, rfl, rfl, rfl, rfl, hble, ?_⟩; clear st; intro w9 st _ _; simp only [List.set_cons_succ, List.set_cons_zero] at st; rw [HE.out] at st))
        go_roundw
        case rel => exact ⟨k + 1, by omega, by go_num, st⟩
        case measure => simp [intOf]; omega
    · have hk8 : k = 8 := by omega
      subst hk8
      simp [rowB, upto] at st
      go_wp2_with (first | ((first | refine mem_load_agg' st 25 _ rfl (wanted_none rfl) Try.isAgg25 _ Try.sizeOf25 ?_ | (refine mem_load_agg' st 25 _ rfl (wanted_some rfl ?_) Try.isAgg25 _ Try.sizeOf25 ?_; focus (simp [yielded, Act.put]; done))); refine ⟨2, _, _, _, _, _, rfl, rfl, rfl, rfl, ?_⟩) | ((first | refine mem_store' st 25 _ _ rfl (wanted_none rfl) _ Try.sizeOf25 ?_ | (refine mem_store' st 25 _ _ rfl (wanted_some rfl ?_) _ Try.sizeOf25 ?_; focus (simp [yielded, Act.put]; done))); refine ⟨1, _, _, _, _, _, rfl, rfl, rfl, rfl, rfl, rfl, ?_⟩; clear st; intro w9 st hw9m hw9z; simp [Act.eval, Act.put, Value.cells, putL] at st))
      have hc := fun j => st.cell (i := 1) rfl j
      refine bodyPost_ret (v := _) ?hr rfl ⟨rfl, st.below⟩
      case hr => rw [HW.out]; simp [results, Try.results19, go_sem, hc, putL, Eight.get]

end Go.Proofs.Ytclocdhkpckolaa
