/- The walk through the reference's word on good lines. -/
import Derived.Test.YtclocdhkpckolaaLine
import Derived.Test.YtclocdhkpckolaaMemW
set_option linter.unusedSimpArgs false
set_option linter.unusedVariables false
namespace Go.Proofs.Ytclocdhkpckolaa
open Go.RowKit

set_option maxHeartbeats 4000000 in
theorem ref_GoodLine (ok : Nat → Prop) (w : World) (next high : Int) (sa : Option Addr) (sc : Nat) (sent : List Sent) (e : Eight) (hR : SentR ok w sa sc sent) :
    Calls Try.prog 16 #[lineV next high sa sent.length sc e] w fun e' w' => e' = .returned (.bool (lineOk ⟨next, sent, high, e⟩)) ∧ Below w.heap.size w w' := by
  unfold lineV
  have hsl : sent.length ≤ 9223372036854775807 := by have h1 := hR.1; have h2 := hR.2.1; unfold maxLen at h2; omega
  generalize hL : (⟨next, sent, high, e⟩ : Line) = L
  have HL := Lib.hid hL
  clear hL
  have st := St.start w
  rcases or5 (decide (next < 0)) (decide (1099511627775 < next)) (decide (high < 0)) (decide (1099511627776 < high)) (decide ((8 : Int) < (sent.length : Int))) with d | ⟨d0, d⟩ | ⟨d0, d1, d⟩ | ⟨d0, d1, d2, d⟩ | ⟨d0, d1, d2, d3, d⟩ | ⟨d0, d1, d2, d3, d4⟩
  case inr.inr.inr.inr.inr =>
    have HH := Lib.hid (show headOk next high sent.length = true by unfold headOk; simp at *; omega)
    have hs : (decide ((sent.length : Int) < 9)) = true := by simp at *; omega
    go_enter Try.func16, Try.ntmps16
    go_wp2_with (first | (refine mem_box st (wanted_none rfl) 25 _ rfl _ rfl _ rfl ?_; clear st; intro g1 w1 hg1 st hg1b; clear hg1b; simp [Act.eval, Act.put, Value.cells, putL] at st) | ((first | refine mem_load' st 3 _ rfl (wanted_none rfl) Try.isAgg3 ?_ | (refine mem_load' st 3 _ rfl (wanted_some rfl ?_) Try.isAgg3 ?_; focus (simp [yielded, Act.put]; done))); refine ⟨0, _, _, _, _, _, rfl, rfl, rfl, ?_⟩) | ((first | refine mem_load' st 22 _ rfl (wanted_none rfl) Try.isAgg22 ?_ | (refine mem_load' st 22 _ rfl (wanted_some rfl ?_) Try.isAgg22 ?_; focus (simp [yielded, Act.put]; done))); refine ⟨0, _, _, _, _, _, rfl, rfl, rfl, ?_⟩))
    have hw := st.below
    have st0 := st
    clear st d0 d1 d2 d3 d4
    go_loopw [3, 33] (fun a i wr => ∃ k : Nat, k ≤ sent.length ∧ i = .int .i64 k ∧ a = .int .i64 (prevS sent k) ∧ Below w1.heap.size w1 wr ∧ Hid (sentsOk L.next 0 L.sent = sentsOk L.next (prevS L.sent k) (L.sent.drop k)) ∧ 0 ≤ prevS sent k) (fun _ i _ => sent.length - (intOf i).toNat)
    case atStart => exact ⟨0, Nat.zero_le _, rfl, by rw [prevS_zero], Below.refl _ _, by rw [prevS_zero]; rfl, by rw [prevS_zero]; omega⟩
    case round =>
      obtain ⟨k, hk, rfl, rfl, hB, hI, hp0⟩ := hrel
      by_cases hlt : k < sent.length
      · obtain ⟨b, o, la, lc, ga, gc, ca, cc, rfl, hb, _, f0, f1, f2, f3, f4, f5, f6, f7, f8, f9, f10, f11, f12⟩ := SlR.sent_at (SentR.below hR (hw.keep hB)) k hlt
        have hLs : L.sent = sent := by rw [← HL.out]
        have hLn : L.next = next := by rw [← HL.out]
        have st := st0.rebase.call hB
        subst hLs hLn
        have hp1 := prevS_succ L.sent k hlt
        have HP1 := Lib.hid hp1
        clear HL hp1
        rcases or6 (decide (L.sent[k].frame.seq ≤ prevS L.sent k)) (decide (L.next < L.sent[k].frame.seq)) (decide (L.sent[k].tries < 1)) (decide (5 < L.sent[k].tries)) (decide (L.sent[k].due < 0)) (decide (2199023255552 < L.sent[k].due)) with d | ⟨d0, d⟩ | ⟨d0, d1, d⟩ | ⟨d0, d1, d2, d⟩ | ⟨d0, d1, d2, d3, d⟩ | ⟨d0, d1, d2, d3, d4, d⟩ | ⟨d0, d1, d2, d3, d4, d⟩
        case inr.inr.inr.inr.inr.inr =>
          have HG := line_go hlt hI (by unfold sentOk; simp at *; omega)
          have hp2 : 0 ≤ L.sent[k].frame.seq := by simp at *; omega
          go_wp2_with (first | (refine mem_alloc st (wanted_none rfl) 56 rfl _ Try.zeroValue56 _ rfl ?_; clear st; intro g3 w3 hg3 st hg3b; clear hg3b; simp [Act.eval, Act.put, Value.cells, putL] at st) | ((first | refine mem_store' st 56 _ _ rfl (wanted_none rfl) _ Try.sizeOf56 ?_ | (refine mem_store' st 56 _ _ rfl (wanted_some rfl ?_) _ Try.sizeOf56 ?_; focus (simp [yielded, Act.put]; done))); refine ⟨1, _, _, _, _, _, rfl, rfl, rfl, rfl, rfl, rfl, ?_⟩; clear st; intro w4 st hw4m hw4z; simp [Act.eval, Act.put, Value.cells, putL] at st) | ((first | refine mem_load' st 3 _ rfl (wanted_none rfl) Try.isAgg3 ?_ | (refine mem_load' st 3 _ rfl (wanted_some rfl ?_) Try.isAgg3 ?_; focus (simp [yielded, Act.put]; done))); refine ⟨1, _, _, _, _, _, rfl, rfl, rfl, ?_⟩) | ((first | refine mem_load' st 3 _ rfl (wanted_none rfl) Try.isAgg3 ?_ | (refine mem_load' st 3 _ rfl (wanted_some rfl ?_) Try.isAgg3 ?_; focus (simp [yielded, Act.put]; done))); refine ⟨0, _, _, _, _, _, rfl, rfl, rfl, ?_⟩))
          have hB4 : Below w1.heap.size w1 w4 := st0.below2 st (by simp)
          go_roundw
          case rel => exact ⟨k + 1, by omega, by go_num, by rw [HP1.out], hB4, HG, by rw [HP1.out]; exact hp2⟩
          case measure => simp [intOf]; omega
        all_goals
          have HE := Lib.hid (line_bad hlt hI (by unfold sentOk; simp at *; omega))
          go_wp2_with (first | (refine mem_alloc st (wanted_none rfl) 56 rfl _ Try.zeroValue56 _ rfl ?_; clear st; intro g3 w3 hg3 st hg3b; clear hg3b; simp [Act.eval, Act.put, Value.cells, putL] at st) | ((first | refine mem_store' st 56 _ _ rfl (wanted_none rfl) _ Try.sizeOf56 ?_ | (refine mem_store' st 56 _ _ rfl (wanted_some rfl ?_) _ Try.sizeOf56 ?_; focus (simp [yielded, Act.put]; done))); refine ⟨1, _, _, _, _, _, rfl, rfl, rfl, rfl, rfl, rfl, ?_⟩; clear st; intro w4 st hw4m hw4z; simp [Act.eval, Act.put, Value.cells, putL] at st) | ((first | refine mem_load' st 3 _ rfl (wanted_none rfl) Try.isAgg3 ?_ | (refine mem_load' st 3 _ rfl (wanted_some rfl ?_) Try.isAgg3 ?_; focus (simp [yielded, Act.put]; done))); refine ⟨1, _, _, _, _, _, rfl, rfl, rfl, ?_⟩) | ((first | refine mem_load' st 3 _ rfl (wanted_none rfl) Try.isAgg3 ?_ | (refine mem_load' st 3 _ rfl (wanted_some rfl ?_) Try.isAgg3 ?_; focus (simp [yielded, Act.put]; done))); refine ⟨0, _, _, _, _, _, rfl, rfl, rfl, ?_⟩))
          go_ret
          exact ⟨by rw [HE.out]; rfl, hw.keep (st0.below2 st (by simp))⟩
      · go_wp2
        go_ret
        have e : lineOk L = true := by
          unfold lineOk
          rw [hI.out, List.drop_of_length_le (by rw [← HL.out]; simp; omega)]
          rw [if_pos (by rw [← HL.out]; exact HH.out)]
          rfl
        exact ⟨by rw [e]; rfl, hw.keep hB⟩
  all_goals
    have hbad : lineOk L = false := by
      rw [← HL.out]
      unfold lineOk headOk
      rw [if_neg (by simp at *; omega)]
    have HE := Lib.hid hbad
    clear hbad
    go_enter Try.func16, Try.ntmps16
    go_wp2_with (first | (refine mem_box st (wanted_none rfl) 25 _ rfl _ rfl _ rfl ?_; clear st; intro g1 w1 hg1 st hg1b; clear hg1b; simp [Act.eval, Act.put, Value.cells, putL] at st) | ((first | refine mem_load' st 3 _ rfl (wanted_none rfl) Try.isAgg3 ?_ | (refine mem_load' st 3 _ rfl (wanted_some rfl ?_) Try.isAgg3 ?_; focus (simp [yielded, Act.put]; done))); refine ⟨0, _, _, _, _, _, rfl, rfl, rfl, ?_⟩) | ((first | refine mem_load' st 22 _ rfl (wanted_none rfl) Try.isAgg22 ?_ | (refine mem_load' st 22 _ rfl (wanted_some rfl ?_) Try.isAgg22 ?_; focus (simp [yielded, Act.put]; done))); refine ⟨0, _, _, _, _, _, rfl, rfl, rfl, ?_⟩))
    go_ret
    exact ⟨by rw [HE.out]; rfl, st.below⟩

end Go.Proofs.Ytclocdhkpckolaa
