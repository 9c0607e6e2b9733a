/- Walks and plain laws that the claim rests on, part 10. -/
import Derived.Test.YtflfjpopfapogaaP9
import Derived.Test.YtflfjpopfapogaaP2
set_option linter.unusedSimpArgs false
set_option linter.unusedVariables false
/- The walk through line.Take: a number greater than all that came. -/
namespace Go.Proofs.Ytflfjpopfapogaa
open Go.RowKit
def shifted (e : Eight) (d k j : Nat) : Bool := if d ≤ j ∧ j < d + k then e.get (j - d) else false
theorem shifted_succ (e : Eight) (d k j : Nat) : shifted e d (k + 1) j = (if e.get k = true ∧ j = k + d then true else shifted e d k j) := by
 unfold shifted
 by_cases hj : j = k + d
 ·subst hj
  rw [if_pos (by omega), show k + d - d = k by omega, if_neg (c := d ≤ k + d ∧ k + d < d + k) (by omega)]
  cases e.get k <;> simp
 ·rw [if_neg (c := e.get k = true ∧ j = k + d) (by simp [hj])]
  by_cases h : d ≤ j ∧ j < d + k
  ·rw [if_pos h, if_pos (by omega)]
  ·rw [if_neg h, if_neg (by omega)]
theorem get_ge (e : Eight) (k : Nat) (h : 8 ≤ k) : e.get k = false := by
 match k, h with
 | n + 8, _ => rfl
theorem index8_0 (e : Eight) (W : World) : (Instr.index 65 (.agg #[.bool e.s0, .bool e.s1, .bool e.s2, .bool e.s3, .bool e.s4, .bool e.s5, .bool e.s6, .bool e.s7]) (.int .i64 (((0 : Nat) : Int)))).run Try.prog W = .ok (.bool e.s0) W := by kernel_rfl
theorem index8_1 (e : Eight) (W : World) : (Instr.index 65 (.agg #[.bool e.s0, .bool e.s1, .bool e.s2, .bool e.s3, .bool e.s4, .bool e.s5, .bool e.s6, .bool e.s7]) (.int .i64 (((1 : Nat) : Int)))).run Try.prog W = .ok (.bool e.s1) W := by kernel_rfl
theorem index8_2 (e : Eight) (W : World) : (Instr.index 65 (.agg #[.bool e.s0, .bool e.s1, .bool e.s2, .bool e.s3, .bool e.s4, .bool e.s5, .bool e.s6, .bool e.s7]) (.int .i64 (((2 : Nat) : Int)))).run Try.prog W = .ok (.bool e.s2) W := by kernel_rfl
theorem index8_3 (e : Eight) (W : World) : (Instr.index 65 (.agg #[.bool e.s0, .bool e.s1, .bool e.s2, .bool e.s3, .bool e.s4, .bool e.s5, .bool e.s6, .bool e.s7]) (.int .i64 (((3 : Nat) : Int)))).run Try.prog W = .ok (.bool e.s3) W := by kernel_rfl
theorem index8_4 (e : Eight) (W : World) : (Instr.index 65 (.agg #[.bool e.s0, .bool e.s1, .bool e.s2, .bool e.s3, .bool e.s4, .bool e.s5, .bool e.s6, .bool e.s7]) (.int .i64 (((4 : Nat) : Int)))).run Try.prog W = .ok (.bool e.s4) W := by kernel_rfl
theorem index8_5 (e : Eight) (W : World) : (Instr.index 65 (.agg #[.bool e.s0, .bool e.s1, .bool e.s2, .bool e.s3, .bool e.s4, .bool e.s5, .bool e.s6, .bool e.s7]) (.int .i64 (((5 : Nat) : Int)))).run Try.prog W = .ok (.bool e.s5) W := by kernel_rfl
theorem index8_6 (e : Eight) (W : World) : (Instr.index 65 (.agg #[.bool e.s0, .bool e.s1, .bool e.s2, .bool e.s3, .bool e.s4, .bool e.s5, .bool e.s6, .bool e.s7]) (.int .i64 (((6 : Nat) : Int)))).run Try.prog W = .ok (.bool e.s6) W := by kernel_rfl
theorem index8_7 (e : Eight) (W : World) : (Instr.index 65 (.agg #[.bool e.s0, .bool e.s1, .bool e.s2, .bool e.s3, .bool e.s4, .bool e.s5, .bool e.s6, .bool e.s7]) (.int .i64 (((7 : Nat) : Int)))).run Try.prog W = .ok (.bool e.s7) W := by kernel_rfl
theorem index8 (e : Eight) (k : Nat) (h : k < 8) (W : World) : (Instr.index 65 (.agg #[.bool e.s0, .bool e.s1, .bool e.s2, .bool e.s3, .bool e.s4, .bool e.s5, .bool e.s6, .bool e.s7]) (.int .i64 ((k : Nat)))).run Try.prog W = .ok (.bool (e.get k)) W := by
 match k, h with
 | 0, _ => exact index8_0 e W
 | 1, _ => exact index8_1 e W
 | 2, _ => exact index8_2 e W
 | 3, _ => exact index8_3 e W
 | 4, _ => exact index8_4 e W
 | 5, _ => exact index8_5 e W
 | 6, _ => exact index8_6 e W
 | 7, _ => exact index8_7 e W
def rowB (f : Nat → Bool) : List Value := [.bool (f 0), .bool (f 1), .bool (f 2), .bool (f 3), .bool (f 4), .bool (f 5), .bool (f 6), .bool (f 7)]
theorem putL_rowB (f : Nat → Bool) (j : Nat) (h : j < 8) : putL (rowB f) j [.bool true] = rowB fun i => if i = j then true else f i := by
 match j, h with
 | 0, _ | 1, _ | 2, _ | 3, _ | 4, _ | 5, _ | 6, _ | 7, _ => rfl
theorem rowB_congr {f g : Nat → Bool} (h : ∀ j, j < 8 → f j = g j) : rowB f = rowB g := by
 simp [rowB, h]
set_option maxHeartbeats 4000000 in
theorem line_Take_new (ok : Nat → Prop) (w : World) (next high : Int) (sa : Option Addr) (sc : Nat) (sent : List Sent) (e : Eight) (seq : Int) (d : Nat) (hR : SentR ok w sa sc sent)
  (hg : lineOk ⟨next, sent, high, e⟩ = true) (h1 : 1 ≤ seq) (h2 : seq ≤ 1099511627776) (h3 : seq = high + (d : Int)) (h4 : 0 < d) :
  Calls Try.prog 42 #[lineV next high sa sent.length sc e, .int .i64 seq] w fun r w' => r = .returned (.tuple #[lineV next seq sa sent.length sc (Eight.of fun j => if j = 0 then true else shifted e d 8 j), .int .i64 0]) ∧ Below w.heap.size w w' := by
 have hG := fun W (hW : SentR ok W sa sc sent) => line_Good ok W next high sa sc sent e hW
 obtain ⟨_, _, b1, b2, _⟩ := lineOk_high hg
 rw [hg] at hG
 have HG := Lib.hid hG
 have H3 := Lib.hid h3
 have hd1 : high < seq := by omega
 have hidx := Lib.hid (fun k hk => index8 e k hk)
 clear hG hg h3
 unfold lineV at *
 have d0 : decide (seq < 1) = false := by simp; omega
 have d1 : decide (1099511627776 < seq) = false := by simp; omega
 have d2 : high - 8 < seq := by omega
 have st := St.start w
 go_enter Try.func42, Try.ntmps42
 go_wp2_with (first | (refine mem_box st (wanted_none rfl) _ _ rfl _ rfl _ rfl ?_; clear st; intro g wx hgx st hbx; clear hgx hbx; simp [Act.eval, Act.put, Value.cells, putL] at st) | (with_reducible refine at_alloc 67 ?_; refine mem_alloc st (wanted_none rfl) 67 rfl _ Try.zeroValue67 _ rfl ?_; clear st; intro g wx hgx st hbx; clear hgx hbx; simp [Act.eval, Act.put, Value.cells, putL] at st) | (with_reducible refine at_alloc 65 ?_; refine mem_alloc st (wanted_none rfl) 65 rfl _ Try.zeroValue65 _ rfl ?_; clear st; intro g wx hgx st hbx; clear hgx hbx; simp [Act.eval, Act.put, Value.cells, putL] at st) | (with_reducible refine at_alloc 3 ?_; refine mem_alloc st (wanted_none rfl) 3 rfl _ Try.zeroValue3 _ rfl ?_; clear st; intro g wx hgx st hbx; clear hgx hbx; simp [Act.eval, Act.put, Value.cells, putL] at st) | (with_reducible refine at_alloc 4 ?_; refine mem_alloc st (wanted_none rfl) 4 rfl _ Try.zeroValue4 _ rfl ?_; clear st; intro g wx hgx st hbx; clear hgx hbx; simp [Act.eval, Act.put, Value.cells, putL] at st) | (with_reducible refine at_load 67 ?_; refine memXA st 67 _ rfl Try.isAgg67 _ Try.sizeOf67 rfl ?_) | (with_reducible refine at_load 65 ?_; refine memXA st 65 _ rfl Try.isAgg65 _ Try.sizeOf65 rfl ?_) | (with_reducible refine at_load 3 ?_; refine memX st 3 _ rfl Try.isAgg3 rfl ?_) | (with_reducible refine at_load 4 ?_; refine memX st 4 _ rfl Try.isAgg4 rfl ?_) | (with_reducible refine at_store 67 ?_; refine memXS st 67 _ _ rfl _ Try.sizeOf67 rfl rfl ?_; clear st; intro wx st _ _; simp [Act.eval, Act.put, Value.cells, putL] at st) | (with_reducible refine at_store 65 ?_; refine memXS st 65 _ _ rfl _ Try.sizeOf65 rfl rfl ?_; clear st; intro wx st _ _; simp [Act.eval, Act.put, Value.cells, putL] at st) | (with_reducible refine at_store 3 ?_; refine memXS st 3 _ _ rfl _ Try.sizeOf3 rfl rfl ?_; clear st; intro wx st _ _; simp [Act.eval, Act.put, Value.cells, putL] at st) | (with_reducible refine at_store 4 ?_; refine memXS st 4 _ _ rfl _ Try.sizeOf4 rfl rfl ?_; clear st; intro wx st _ _; simp [Act.eval, Act.put, Value.cells, putL] at st))
 refine (HG.out _ (SentR.below hR st.below)).mono ?_
 rintro r w1 ⟨rfl, hb1⟩
 replace st := st.call hb1
 clear hb1 HG
 go_wp2_with (first | (refine mem_box st (wanted_none rfl) _ _ rfl _ rfl _ rfl ?_; clear st; intro g wx hgx st hbx; clear hgx hbx; simp [Act.eval, Act.put, Value.cells, putL] at st) | (with_reducible refine at_alloc 67 ?_; refine mem_alloc st (wanted_none rfl) 67 rfl _ Try.zeroValue67 _ rfl ?_; clear st; intro g wx hgx st hbx; clear hgx hbx; simp [Act.eval, Act.put, Value.cells, putL] at st) | (with_reducible refine at_alloc 65 ?_; refine mem_alloc st (wanted_none rfl) 65 rfl _ Try.zeroValue65 _ rfl ?_; clear st; intro g wx hgx st hbx; clear hgx hbx; simp [Act.eval, Act.put, Value.cells, putL] at st) | (with_reducible refine at_alloc 3 ?_; refine mem_alloc st (wanted_none rfl) 3 rfl _ Try.zeroValue3 _ rfl ?_; clear st; intro g wx hgx st hbx; clear hgx hbx; simp [Act.eval, Act.put, Value.cells, putL] at st) | (with_reducible refine at_alloc 4 ?_; refine mem_alloc st (wanted_none rfl) 4 rfl _ Try.zeroValue4 _ rfl ?_; clear st; intro g wx hgx st hbx; clear hgx hbx; simp [Act.eval, Act.put, Value.cells, putL] at st) | (with_reducible refine at_load 67 ?_; refine memXA st 67 _ rfl Try.isAgg67 _ Try.sizeOf67 rfl ?_) | (with_reducible refine at_load 65 ?_; refine memXA st 65 _ rfl Try.isAgg65 _ Try.sizeOf65 rfl ?_) | (with_reducible refine at_load 3 ?_; refine memX st 3 _ rfl Try.isAgg3 rfl ?_) | (with_reducible refine at_load 4 ?_; refine memX st 4 _ rfl Try.isAgg4 rfl ?_) | (with_reducible refine at_store 67 ?_; refine memXS st 67 _ _ rfl _ Try.sizeOf67 rfl rfl ?_; clear st; intro wx st _ _; simp [Act.eval, Act.put, Value.cells, putL] at st) | (with_reducible refine at_store 65 ?_; refine memXS st 65 _ _ rfl _ Try.sizeOf65 rfl rfl ?_; clear st; intro wx st _ _; simp [Act.eval, Act.put, Value.cells, putL] at st) | (with_reducible refine at_store 3 ?_; refine memXS st 3 _ _ rfl _ Try.sizeOf3 rfl rfl ?_; clear st; intro wx st _ _; simp [Act.eval, Act.put, Value.cells, putL] at st) | (with_reducible refine at_store 4 ?_; refine memXS st 4 _ _ rfl _ Try.sizeOf4 rfl rfl ?_; clear st; intro wx st _ _; simp [Act.eval, Act.put, Value.cells, putL] at st))
 rename_i g2 y0 g4 y1 y2 y3 y4 y5
 have e0 : ([.bool false, .bool false, .bool false, .bool false, .bool false, .bool false, .bool false, .bool false] : List Value) = rowB (shifted e d 0) := by
  have : ∀ j, shifted e d 0 j = false := fun j => by unfold shifted; rw [if_neg (by omega)]
  simp [rowB, this]
 rw [e0] at st
 clear e0
 have st0 := st
 clear st
 go_loopw [51] (fun i wr => ∃ k : Nat, k ≤ 8 ∧ i = .int .i64 k ∧ St [] w wr [(g2, 67, [.int .i64 next, .slice sa sent.length sc, .int .i64 high, .bool e.s0, .bool e.s1, .bool e.s2, .bool e.s3, .bool e.s4, .bool e.s5, .bool e.s6, .bool e.s7]), (g4, 67, .int .i64 0 :: .slice none 0 0 :: .int .i64 0 :: rowB (shifted e d 0)), (g, 65, rowB (shifted e d k))]) (fun i _ => 8 - (intOf i).toNat)
 case atStart => exact ⟨0, by omega, rfl, st0⟩
 case round =>
  obtain ⟨k, hk, rfl, st⟩ := hrel
  clear st0
  have hto : (k : Int) + seq - high = ((k + d : Nat) : Int) := by have := H3.out; omega
  have hsm : (k : Int) + seq ≤ 9223372036854775807 := by omega
  by_cases hlt : k < 8
  ·have hi := hidx.out k hlt
   have hsh : ∀ b, e.get k = b → rowB (shifted e d (k + 1)) = rowB (fun j => if b = true ∧ j = k + d then true else shifted e d k j) := by
    rintro b rfl
    exact rowB_congr fun j _ => shifted_succ e d k j
   have HSH := Lib.hid hsh
   clear hsh
   cases hin : e.get k
   ·rw [hin] at hi
    have HE := Lib.hid (show rowB (shifted e d (k + 1)) = rowB (shifted e d k) by rw [HSH.out _ hin]; simp)
    clear hin HSH
    go_wp2_with (first | (refine mem_box st (wanted_none rfl) _ _ rfl _ rfl _ rfl ?_; clear st; intro g wx hgx st hbx; clear hgx hbx; simp [Act.eval, Act.put, Value.cells, putL] at st) | (with_reducible refine at_alloc 67 ?_; refine mem_alloc st (wanted_none rfl) 67 rfl _ Try.zeroValue67 _ rfl ?_; clear st; intro g wx hgx st hbx; clear hgx hbx; simp [Act.eval, Act.put, Value.cells, putL] at st) | (with_reducible refine at_alloc 65 ?_; refine mem_alloc st (wanted_none rfl) 65 rfl _ Try.zeroValue65 _ rfl ?_; clear st; intro g wx hgx st hbx; clear hgx hbx; simp [Act.eval, Act.put, Value.cells, putL] at st) | (with_reducible refine at_alloc 3 ?_; refine mem_alloc st (wanted_none rfl) 3 rfl _ Try.zeroValue3 _ rfl ?_; clear st; intro g wx hgx st hbx; clear hgx hbx; simp [Act.eval, Act.put, Value.cells, putL] at st) | (with_reducible refine at_alloc 4 ?_; refine mem_alloc st (wanted_none rfl) 4 rfl _ Try.zeroValue4 _ rfl ?_; clear st; intro g wx hgx st hbx; clear hgx hbx; simp [Act.eval, Act.put, Value.cells, putL] at st) | (with_reducible refine at_load 67 ?_; refine memXA st 67 _ rfl Try.isAgg67 _ Try.sizeOf67 rfl ?_) | (with_reducible refine at_load 65 ?_; refine memXA st 65 _ rfl Try.isAgg65 _ Try.sizeOf65 rfl ?_) | (with_reducible refine at_load 3 ?_; refine memX st 3 _ rfl Try.isAgg3 rfl ?_) | (with_reducible refine at_load 4 ?_; refine memX st 4 _ rfl Try.isAgg4 rfl ?_) | (with_reducible refine at_store 67 ?_; refine memXS st 67 _ _ rfl _ Try.sizeOf67 rfl rfl ?_; clear st; intro wx st _ _; simp [Act.eval, Act.put, Value.cells, putL] at st) | (with_reducible refine at_store 65 ?_; refine memXS st 65 _ _ rfl _ Try.sizeOf65 rfl rfl ?_; clear st; intro wx st _ _; simp [Act.eval, Act.put, Value.cells, putL] at st) | (with_reducible refine at_store 3 ?_; refine memXS st 3 _ _ rfl _ Try.sizeOf3 rfl rfl ?_; clear st; intro wx st _ _; simp [Act.eval, Act.put, Value.cells, putL] at st) | (with_reducible refine at_store 4 ?_; refine memXS st 4 _ _ rfl _ Try.sizeOf4 rfl rfl ?_; clear st; intro wx st _ _; simp [Act.eval, Act.put, Value.cells, putL] at st))
    go_roundw
    case rel => exact ⟨k + 1, by omega, by go_num, by rw [HE.out]; exact st⟩
    case measure => simp [intOf]; omega
   ·rw [hin] at hi
    by_cases hkd : k + d < 8
    ·have hd8 : decide (k + d < 8) = true := by simp; omega
     have hble : Nat.ble (k + d + 1) 8 = true := Nat.ble_eq_true_of_le (by omega)
     have HE := Lib.hid (show putL (rowB (shifted e d k)) (k + d) [.bool true] = rowB (shifted e d (k + 1)) by
      rw [putL_rowB _ _ hkd, HSH.out _ hin]
      simp)
     clear hin HSH
     go_wp2_with (first | (refine mem_box st (wanted_none rfl) _ _ rfl _ rfl _ rfl ?_; clear st; intro g wx hgx st hbx; clear hgx hbx; simp [Act.eval, Act.put, Value.cells, putL] at st) | (with_reducible refine at_alloc 67 ?_; refine mem_alloc st (wanted_none rfl) 67 rfl _ Try.zeroValue67 _ rfl ?_; clear st; intro g wx hgx st hbx; clear hgx hbx; simp [Act.eval, Act.put, Value.cells, putL] at st) | (with_reducible refine at_alloc 65 ?_; refine mem_alloc st (wanted_none rfl) 65 rfl _ Try.zeroValue65 _ rfl ?_; clear st; intro g wx hgx st hbx; clear hgx hbx; simp [Act.eval, Act.put, Value.cells, putL] at st) | (with_reducible refine at_alloc 3 ?_; refine mem_alloc st (wanted_none rfl) 3 rfl _ Try.zeroValue3 _ rfl ?_; clear st; intro g wx hgx st hbx; clear hgx hbx; simp [Act.eval, Act.put, Value.cells, putL] at st) | (with_reducible refine at_alloc 4 ?_; refine mem_alloc st (wanted_none rfl) 4 rfl _ Try.zeroValue4 _ rfl ?_; clear st; intro g wx hgx st hbx; clear hgx hbx; simp [Act.eval, Act.put, Value.cells, putL] at st) | (with_reducible refine at_load 67 ?_; refine memXA st 67 _ rfl Try.isAgg67 _ Try.sizeOf67 rfl ?_) | (with_reducible refine at_load 65 ?_; refine memXA st 65 _ rfl Try.isAgg65 _ Try.sizeOf65 rfl ?_) | (with_reducible refine at_load 3 ?_; refine memX st 3 _ rfl Try.isAgg3 rfl ?_) | (with_reducible refine at_load 4 ?_; refine memX st 4 _ rfl Try.isAgg4 rfl ?_) | (with_reducible refine at_store 67 ?_; refine memXS st 67 _ _ rfl _ Try.sizeOf67 rfl rfl ?_; clear st; intro wx st _ _; simp [Act.eval, Act.put, Value.cells, putL] at st) | (with_reducible refine at_store 65 ?_; refine memXS st 65 _ _ rfl _ Try.sizeOf65 rfl rfl ?_; clear st; intro wx st _ _; simp [Act.eval, Act.put, Value.cells, putL] at st) | (with_reducible refine at_store 3 ?_; refine memXS st 3 _ _ rfl _ Try.sizeOf3 rfl rfl ?_; clear st; intro wx st _ _; simp [Act.eval, Act.put, Value.cells, putL] at st) | (with_reducible refine at_store 4 ?_; refine memXS st 4 _ _ rfl _ Try.sizeOf4 rfl rfl ?_; clear st; intro wx st _ _; simp [Act.eval, Act.put, Value.cells, putL] at st) | (with_reducible refine at_store 4 ?_; refine memS st 4 _ _ rfl _ Try.sizeOf4 ⟨2, _, _, _, _, _, rfl, rfl, rfl, rfl, rfl, hble, ?_⟩; clear st; intro wx st _ _; simp [Act.eval, Value.cells] at st))
     rw [HE.out] at st
     go_roundw
     case rel => exact ⟨k + 1, by omega, by go_num, st⟩
     case measure => simp [intOf]; omega
    ·have hd8 : decide (k + d < 8) = false := by simp; omega
     have HE := Lib.hid (show rowB (shifted e d (k + 1)) = rowB (shifted e d k) by
      rw [HSH.out _ hin]
      exact rowB_congr fun j hj => by rw [if_neg (by omega)])
     clear hin HSH
     go_wp2_with (first | (refine mem_box st (wanted_none rfl) _ _ rfl _ rfl _ rfl ?_; clear st; intro g wx hgx st hbx; clear hgx hbx; simp [Act.eval, Act.put, Value.cells, putL] at st) | (with_reducible refine at_alloc 67 ?_; refine mem_alloc st (wanted_none rfl) 67 rfl _ Try.zeroValue67 _ rfl ?_; clear st; intro g wx hgx st hbx; clear hgx hbx; simp [Act.eval, Act.put, Value.cells, putL] at st) | (with_reducible refine at_alloc 65 ?_; refine mem_alloc st (wanted_none rfl) 65 rfl _ Try.zeroValue65 _ rfl ?_; clear st; intro g wx hgx st hbx; clear hgx hbx; simp [Act.eval, Act.put, Value.cells, putL] at st) | (with_reducible refine at_alloc 3 ?_; refine mem_alloc st (wanted_none rfl) 3 rfl _ Try.zeroValue3 _ rfl ?_; clear st; intro g wx hgx st hbx; clear hgx hbx; simp [Act.eval, Act.put, Value.cells, putL] at st) | (with_reducible refine at_alloc 4 ?_; refine mem_alloc st (wanted_none rfl) 4 rfl _ Try.zeroValue4 _ rfl ?_; clear st; intro g wx hgx st hbx; clear hgx hbx; simp [Act.eval, Act.put, Value.cells, putL] at st) | (with_reducible refine at_load 67 ?_; refine memXA st 67 _ rfl Try.isAgg67 _ Try.sizeOf67 rfl ?_) | (with_reducible refine at_load 65 ?_; refine memXA st 65 _ rfl Try.isAgg65 _ Try.sizeOf65 rfl ?_) | (with_reducible refine at_load 3 ?_; refine memX st 3 _ rfl Try.isAgg3 rfl ?_) | (with_reducible refine at_load 4 ?_; refine memX st 4 _ rfl Try.isAgg4 rfl ?_) | (with_reducible refine at_store 67 ?_; refine memXS st 67 _ _ rfl _ Try.sizeOf67 rfl rfl ?_; clear st; intro wx st _ _; simp [Act.eval, Act.put, Value.cells, putL] at st) | (with_reducible refine at_store 65 ?_; refine memXS st 65 _ _ rfl _ Try.sizeOf65 rfl rfl ?_; clear st; intro wx st _ _; simp [Act.eval, Act.put, Value.cells, putL] at st) | (with_reducible refine at_store 3 ?_; refine memXS st 3 _ _ rfl _ Try.sizeOf3 rfl rfl ?_; clear st; intro wx st _ _; simp [Act.eval, Act.put, Value.cells, putL] at st) | (with_reducible refine at_store 4 ?_; refine memXS st 4 _ _ rfl _ Try.sizeOf4 rfl rfl ?_; clear st; intro wx st _ _; simp [Act.eval, Act.put, Value.cells, putL] at st))
     go_roundw
     case rel => exact ⟨k + 1, by omega, by go_num, by rw [HE.out]; exact st⟩
     case measure => simp [intOf]; omega
  ·have hk8 : k = 8 := by omega
   subst hk8
   simp only [rowB] at st
   clear hidx
   go_wp2_with (first | (refine mem_box st (wanted_none rfl) _ _ rfl _ rfl _ rfl ?_; clear st; intro g wx hgx st hbx; clear hgx hbx; simp [Act.eval, Act.put, Value.cells, putL] at st) | (with_reducible refine at_alloc 67 ?_; refine mem_alloc st (wanted_none rfl) 67 rfl _ Try.zeroValue67 _ rfl ?_; clear st; intro g wx hgx st hbx; clear hgx hbx; simp [Act.eval, Act.put, Value.cells, putL] at st) | (with_reducible refine at_alloc 65 ?_; refine mem_alloc st (wanted_none rfl) 65 rfl _ Try.zeroValue65 _ rfl ?_; clear st; intro g wx hgx st hbx; clear hgx hbx; simp [Act.eval, Act.put, Value.cells, putL] at st) | (with_reducible refine at_alloc 3 ?_; refine mem_alloc st (wanted_none rfl) 3 rfl _ Try.zeroValue3 _ rfl ?_; clear st; intro g wx hgx st hbx; clear hgx hbx; simp [Act.eval, Act.put, Value.cells, putL] at st) | (with_reducible refine at_alloc 4 ?_; refine mem_alloc st (wanted_none rfl) 4 rfl _ Try.zeroValue4 _ rfl ?_; clear st; intro g wx hgx st hbx; clear hgx hbx; simp [Act.eval, Act.put, Value.cells, putL] at st) | (with_reducible refine at_load 67 ?_; refine memXA st 67 _ rfl Try.isAgg67 _ Try.sizeOf67 rfl ?_) | (with_reducible refine at_load 65 ?_; refine memXA st 65 _ rfl Try.isAgg65 _ Try.sizeOf65 rfl ?_) | (with_reducible refine at_load 3 ?_; refine memX st 3 _ rfl Try.isAgg3 rfl ?_) | (with_reducible refine at_load 4 ?_; refine memX st 4 _ rfl Try.isAgg4 rfl ?_) | (with_reducible refine at_store 67 ?_; refine memXS st 67 _ _ rfl _ Try.sizeOf67 rfl rfl ?_; clear st; intro wx st _ _; simp [Act.eval, Act.put, Value.cells, putL] at st) | (with_reducible refine at_store 65 ?_; refine memXS st 65 _ _ rfl _ Try.sizeOf65 rfl rfl ?_; clear st; intro wx st _ _; simp [Act.eval, Act.put, Value.cells, putL] at st) | (with_reducible refine at_store 3 ?_; refine memXS st 3 _ _ rfl _ Try.sizeOf3 rfl rfl ?_; clear st; intro wx st _ _; simp [Act.eval, Act.put, Value.cells, putL] at st) | (with_reducible refine at_store 4 ?_; refine memXS st 4 _ _ rfl _ Try.sizeOf4 rfl rfl ?_; clear st; intro wx st _ _; simp [Act.eval, Act.put, Value.cells, putL] at st))
   have hc := fun j => st.cell (i := 1) rfl j
   refine bodyPost_ret (v := _) ?hr rfl ⟨rfl, st.below⟩
   case hr => simp [results, Try.results42, go_sem, hc, Eight.of, putL]
open Go.RowKit
def upto (val : Nat → Bool) (k j : Nat) : Bool := if j < k then val j else false
open Go.RowKit
set_option maxHeartbeats 8000000 in
theorem line_Take_seen (ok : Nat → Prop) (w : World) (next high : Int) (sa : Option Addr) (sc : Nat) (sent : List Sent) (e : Eight) (seq : Int) (k : Nat) (hR : SentR ok w sa sc sent)
  (hg : lineOk ⟨next, sent, high, e⟩ = true) (h1 : 1 ≤ seq) (h2 : seq ≤ 1099511627776) (h3 : high - seq = (k : Int)) (h4 : k < 8) (h5 : e.get k = false) :
  Calls Try.prog 42 #[lineV next high sa sent.length sc e, .int .i64 seq] w fun r w' => r = .returned (.tuple #[lineV next high sa sent.length sc (e.yes k), .int .i64 0]) ∧ Below w.heap.size w w' := by
 have hG := fun W (hW : SentR ok W sa sc sent) => line_Good ok W next high sa sc sent e hW
 obtain ⟨_, _, b1, b2, _⟩ := lineOk_high hg
 rw [hg] at hG
 have HG := Lib.hid hG
 clear hG hg
 obtain ⟨s0, s1, s2, s3, s4, s5, s6, s7⟩ := e
 unfold lineV at *
 have d0 : decide (seq < 1) = false := by simp; omega
 have d1 : decide (1099511627776 < seq) = false := by simp; omega
 have d2 : high - 8 < seq := by omega
 have d3 : seq ≤ high := by omega
 rcases (show k = 0 ∨ k = 1 ∨ k = 2 ∨ k = 3 ∨ k = 4 ∨ k = 5 ∨ k = 6 ∨ k = 7 by omega) with rfl | rfl | rfl | rfl | rfl | rfl | rfl | rfl
 all_goals
  first | replace h3 : high - seq = 0 := h3 | replace h3 : high - seq = 1 := h3 | replace h3 : high - seq = 2 := h3 | replace h3 : high - seq = 3 := h3 | replace h3 : high - seq = 4 := h3 | replace h3 : high - seq = 5 := h3 | replace h3 : high - seq = 6 := h3 | replace h3 : high - seq = 7 := h3
  simp only [Eight.get] at h5
  subst h5
  go_enter Try.func42, Try.ntmps42
  go_wp2_with fail
  refine (HG.out _ (SentR.below hR (((Below.refl _ _).alloc (Nat.le_refl _) _).alloc (by simp) _))).mono ?_
  rintro r w1 ⟨rfl, hb1⟩
  have hb2 := (((Below.refl w.heap.size w).alloc (Nat.le_refl _) _).alloc (by simp) _).keep hb1
  obtain ⟨hc, hf⟩ := bcell hb1
  have hs := bset hb1
  have hz := hb1.size
  simp only [World.size_alloc] at hz
  go_wp2
  refine bodyPost_ret (v := _) ?hr rfl ⟨rfl, ?_⟩
  case hr => simp [results, Try.results42, go_sem, hc, hz, hs, Eight.yes, Eight.of, Eight.get]
  clear hc hf HG
  go_grown
open Go.RowKit
theorem takeC_cases {good : Bool} {high seq : Int} {e : Eight} (hh : 0 ≤ high) :
  ((good = false ∨ seq < 1 ∨ 1099511627776 < seq) ∧ takeC good high seq e = (high, e, 2)) ∨
  (good = true ∧ 1 ≤ seq ∧ seq ≤ 1099511627776 ∧ seq ≤ high - 8 ∧ takeC good high seq e = (high, e, 11)) ∨
  (good = true ∧ 1 ≤ seq ∧ seq ≤ 1099511627776 ∧ ∃ q : Nat, high - seq = (q : Int) ∧ q < 8 ∧ ((e.get q = true ∧ takeC good high seq e = (high, e, 10)) ∨ (e.get q = false ∧ takeC good high seq e = (high, e.yes q, 0)))) ∨
  (good = true ∧ 1 ≤ seq ∧ seq ≤ 1099511627776 ∧ ∃ d : Nat, seq = high + (d : Int) ∧ 0 < d ∧ takeC good high seq e = (seq, Eight.of (fun j => if j = 0 then true else shifted e d 8 j), 0)) := by
 unfold takeC
 by_cases h1 : good = false ∨ seq < 1 ∨ 1099511627776 < seq
 ·exact .inl ⟨h1, by rw [if_pos h1]⟩
 ·have hg : good = true := by cases good <;> simp_all
  have h2 : 1 ≤ seq := by omega
  have h3 : seq ≤ 1099511627776 := by omega
  rw [if_neg h1]
  by_cases h4 : seq ≤ high - 8
  ·exact .inr (.inl ⟨hg, h2, h3, h4, by rw [if_pos h4]⟩)
  ·rw [if_neg h4]
   by_cases h5 : seq ≤ high
   ·rw [if_pos h5]
    refine .inr (.inr (.inl ⟨hg, h2, h3, (high - seq).toNat, by omega, by omega, ?_⟩))
    cases hb : e.get (high - seq).toNat
    ·exact .inr ⟨rfl, by simp⟩
    ·exact .inl ⟨rfl, by simp⟩
   ·rw [if_neg h5]
    refine .inr (.inr (.inr ⟨hg, h2, h3, (seq - high).toNat, by omega, by omega, ?_⟩))
    have e1 : ∀ j : Nat, (if j = 0 then true else if seq - high ≤ (j : Int) then e.get (j - (seq - high).toNat) else false) = (if j = 0 then true else shifted e (seq - high).toNat 8 j) := fun j => by
     by_cases hj : j = 0
     ·simp [hj]
     ·rw [if_neg hj, if_neg hj]
      unfold shifted
      by_cases hk : seq - high ≤ (j : Int)
      ·rw [if_pos hk]
       by_cases h8 : j < (seq - high).toNat + 8
       ·rw [if_pos (by omega)]
       ·rw [if_neg (by omega)]
        exact get_ge e _ (by omega)
      ·rw [if_neg hk, if_neg (by omega)]
    rw [show (fun j : Nat => if j = 0 then true else if seq - high ≤ (j : Int) then e.get (j - (seq - high).toNat) else false) = _ from funext e1]
theorem line_Take (ok : Nat → Prop) (w : World) (next high : Int) (sa : Option Addr) (sc : Nat) (sent : List Sent) (e : Eight) (seq : Int) (hR : SentR ok w sa sc sent) (good : Bool) (hg : lineOk ⟨next, sent, high, e⟩ = good) (r : Int × Eight × Int) (hr : takeC good high seq e = r) :
  Calls Try.prog 42 #[lineV next high sa sent.length sc e, .int .i64 seq] w fun x w' => x = .returned (.tuple #[lineV next r.1 sa sent.length sc r.2.1, .int .i64 r.2.2]) ∧ Below w.heap.size w w' := by
 subst hr
 cases good with
 | false =>
  have e1 : takeC false high seq e = (high, e, 2) := by unfold takeC; rw [if_pos (.inl rfl)]
  rw [e1]
  exact line_Take_range ok w next high sa sc sent e seq hR (.inl hg)
 | true =>
  obtain ⟨_, _, b1, _⟩ := lineOk_high hg
  rcases takeC_cases (good := true) (seq := seq) (e := e) b1 with ⟨h, e1⟩ | ⟨_, h1, h2, h3, e1⟩ | ⟨_, h1, h2, q, h3, h4, ⟨h5, e1⟩ | ⟨h5, e1⟩⟩ | ⟨_, h1, h2, d, h3, h4, e1⟩
  ·rw [e1]; exact line_Take_range ok w next high sa sc sent e seq hR (by rw [hg]; exact h)
  ·rw [e1]; exact line_Take_old ok w next high sa sc sent e seq hR hg h1 h2 h3
  ·rw [e1]; exact line_Take_twice ok w next high sa sc sent e seq q hR hg h1 h2 h3 h4 h5
  ·rw [e1]; exact line_Take_seen ok w next high sa sc sent e seq q hR hg h1 h2 h3 h4 h5
  ·rw [e1]; exact line_Take_new ok w next high sa sc sent e seq d hR hg h1 h2 h3 h4
end Go.Proofs.Ytflfjpopfapogaa
