/- Walks and plain laws that the claim rests on, part 13. -/
import Derived.Test.YtemjnojfhbbapaaP3
import Derived.Test.YtemjnojfhbbapaaP8
import Derived.Test.YtemjnojfhbbapaaP6
import Derived.Deep.DeepCutAuto
import Derived.OwnWalk
set_option linter.unusedSimpArgs false
set_option linter.unusedVariables false
/- The walks through parcloseref.numberOf, cut and rows. -/
namespace Go.Proofs.Ytemjnojfhbbapaa
open Go.RowKit

theorem info_str : (Try.prog.info? 9).map (fun i => (i.zero, i.size, i.bytes)) = some (some (.string .empty), 1, 16) := by kernel_rfl

set_option maxRecDepth 100000 in
set_option maxHeartbeats 1600000 in
theorem ref_numberOf (w : World) (bs : List UInt8) (hbs : bs.length ≤ 6) : Calls Try.prog 38 #[.string (ba bs)] w fun e w' => e = .returned (.int .i64 (numOf bs)) ∧ Below w.heap.size w w' := by
  have hbl : bs.length ≤ maxLen := by unfold maxLen; omega
  go_enter Try.func38, Try.ntmps38
  go_wp2_with (first
    | go_skip
    | (with_reducible refine at_convert 9 48 ?_; refine wpList_toBytes (wanted_none rfl) _ _ _ _ rfl Try.underlying9 Try.underlying48 Try.underlying5 bs hbl rfl ?_; intro g2 c2 w2 hS hb2))
  have HS := Lib.hid hS
  clear hS
  go_loop [3, 9] (fun v i => ∃ k : Nat, k ≤ bs.length ∧ i = .int .i64 k ∧ v = .int .i64 (natOf (bs.take k) : Nat)) (fun _ i => bs.length - (intOf i).toNat)
  case atStart => exact ⟨0, Nat.zero_le _, rfl, rfl⟩
  case round =>
    obtain ⟨k, hk, rfl, rfl⟩ := hrel
    have hlt2 := natOf_lt (bs.take k)
    have htl : (bs.take k).length = k := by simp; omega
    rw [htl] at hlt2
    by_cases hlt : k < bs.length
    · obtain ⟨b, o, hb, hbl, hc⟩ := SlR.byte_at HS.out k hlt
      simp only [Option.some.injEq, Addr.mk.injEq, and_true] at hb
      obtain ⟨rfl, rfl⟩ := hb
      simp only [Nat.zero_add] at hc
      have h5 : 256 ^ k ≤ 256 ^ 5 := Nat.pow_le_pow_right (by decide) (by omega)
      have hv5 : natOf (bs.take k) < 1099511627776 := by omega
      have hb8 := bs[k].toNat_lt
      have HN := Lib.hid (show natOf (bs.take (k + 1)) = natOf (bs.take k) * 256 + bs[k].toNat by rw [List.take_succ_eq_append_getElem hlt, natOf_snoc])
      clear h5 hlt2 htl
      generalize natOf (bs.take k) = n at *
      generalize bs[k] = c at *
      go_wp2
      go_round
      case rel =>
        exact ⟨k + 1, hlt, by go_num, by rw [HN.out]; go_num⟩
      case measure => simp [intOf]; omega
    · have hkn : k = bs.length := by omega
      have HE := Lib.hid (show natOf (bs.take k) = natOf bs by rw [List.take_of_length_le (by omega)])
      clear hlt2 htl
      have HN := Lib.hid hkn
      clear hkn
      go_wp2
      go_ret
      exact ⟨by rw [HE.out, numOf_nat]; rfl, hb2⟩

/-- The first n bytes, and the rest. -/
def cutB (s : List UInt8) (n : Nat) : List UInt8 × List UInt8 × Bool := if s.length < n then ([], [], false) else (s.take n, s.drop n, true)

set_option maxRecDepth 100000 in
set_option maxHeartbeats 1600000 in
theorem ref_cut (w : World) (s : List UInt8) (n : Nat) (hn : n ≤ 10000) (hl : s.length ≤ 9223372036854775807) :
    Calls Try.prog 44 #[.string (ba s), .int .i64 n] w fun e w' => e = .returned (.tuple #[.string (ba (cutB s n).1), .string (ba (cutB s n).2.1), .bool (cutB s n).2.2]) ∧ Below w.heap.size w w' := by
  have hz := ba_size s
  by_cases h : s.length < n
  · have HE := Lib.hid (show cutB s n = ([], [], false) by unfold cutB; rw [if_pos h])
    go_enter Try.func44, Try.ntmps44
    go_wp2
    go_ret3
    rw [HE.out]
    exact ⟨rfl, Below.refl _ _⟩
  · have HE := Lib.hid (show cutB s n = (s.take n, s.drop n, true) by unfold cutB; rw [if_neg h])
    have HN := Lib.hid (show n ≤ s.length by omega)
    go_enter Try.func44, Try.ntmps44
    go_upto_region 3 with fail
    refine det_region (by kernel_rfl) 9 rfl (fun V => Below w.heap.size w V) ((Below.refl _ _).drew) (by decide +kernel) ?_
    refine det_take 0 rfl (by decide +kernel) (by first | exact wanted_none rfl | exact wanted_some rfl rfl) (fun W hW => by first | (go_simp; done) | (go_simp; rfl)) ?_; simp only [Act.put, List.setIfInBounds_toArray, List.set_cons_succ, List.set_cons_zero]; refine det_take 1 rfl (by decide +kernel) (by first | exact wanted_none rfl | exact wanted_some rfl rfl) (fun W hW => by first | (go_simp; done) | (go_simp; rfl)) ?_; simp only [Act.put, List.setIfInBounds_toArray, List.set_cons_succ, List.set_cons_zero]
    refine det_take (v := .string (ba (s.take n))) 2 rfl (by decide +kernel) (by first | exact wanted_none rfl | exact wanted_some rfl rfl) (fun W hW => by (exact run_upto 9 _ _ rfl Try.underlying9 n rfl rfl HN.out)) ?_; simp only [Act.put, List.setIfInBounds_toArray, List.set_cons_succ, List.set_cons_zero]
    refine det_take 3 rfl (by decide +kernel) (by first | exact wanted_none rfl | exact wanted_some rfl rfl) (fun W hW => by first | (go_simp; done) | (go_simp; rfl)) ?_; simp only [Act.put, List.setIfInBounds_toArray, List.set_cons_succ, List.set_cons_zero]; refine det_take 4 rfl (by decide +kernel) (by first | exact wanted_none rfl | exact wanted_some rfl rfl) (fun W hW => by first | (go_simp; done) | (go_simp; rfl)) ?_; simp only [Act.put, List.setIfInBounds_toArray, List.set_cons_succ, List.set_cons_zero]
    refine det_take (v := .string (ba (s.drop n))) 5 rfl (by decide +kernel) (by first | exact wanted_none rfl | exact wanted_some rfl rfl) (fun W hW => by (exact run_from 9 _ _ rfl Try.underlying9 n rfl rfl HN.out)) ?_; simp only [Act.put, List.setIfInBounds_toArray, List.set_cons_succ, List.set_cons_zero]
    refine det_take 6 rfl (by decide +kernel) (by first | exact wanted_none rfl | exact wanted_some rfl rfl) (fun W hW => by first | (go_simp; done) | (go_simp; rfl)) ?_; simp only [Act.put, List.setIfInBounds_toArray, List.set_cons_succ, List.set_cons_zero]; refine det_take 7 rfl (by decide +kernel) (by first | exact wanted_none rfl | exact wanted_some rfl rfl) (fun W hW => by first | (go_simp; done) | (go_simp; rfl)) ?_; simp only [Act.put, List.setIfInBounds_toArray, List.set_cons_succ, List.set_cons_zero]; refine det_take 8 rfl (by decide +kernel) (by first | exact wanted_none rfl | exact wanted_some rfl rfl) (fun W hW => by first | (go_simp; done) | (go_simp; rfl)) ?_; simp only [Act.put, List.setIfInBounds_toArray, List.set_cons_succ, List.set_cons_zero]
    refine det_done (by decide +kernel) ?_
    intro V hB
    go_wp2_with fail
    go_ret3
    rw [HE.out]
    exact ⟨rfl, hB⟩

/-- Rows as the reference reads them. -/
def rowsB (size : Nat) (s : List UInt8) : List (List UInt8) × List UInt8 × Bool := match pRows size s with
  | none => ([], [], false)
  | some p => (p.1, p.2, true)

def RowsPost (w : World) (size : Nat) (s : List UInt8) (e : Ending) (w' : World) : Prop :=
  ∃ a c, e = .returned (.tuple #[.slice a (rowsB size s).1.length c, .string (ba (rowsB size s).2.1), .bool (rowsB size s).2.2]) ∧ Below w.heap.size w w' ∧ Own w.heap.size 9 w' 1 RStr a c ((rowsB size s).1.map ba)

set_option maxRecDepth 100000 in
set_option maxHeartbeats 4000000 in
theorem ref_rows (w : World) (s : List UInt8) (z : Nat) (h0 : 1 ≤ z) (h9 : z ≤ 9) (hl : s.length ≤ 9223372036854775807) :
    Calls Try.prog 39 #[.string (ba s), .int .i64 z] w (RowsPost w z s) := by
  cases s with
  | nil =>
    have HE := Lib.hid (show rowsB z [] = ([], [], false) from rfl)
    go_enter Try.func39, Try.ntmps39
    go_wp2
    go_ret3
    unfold RowsPost
    rw [HE.out]
    exact ⟨none, 0, rfl, Below.refl _ _, Own.nil _ _ _ _ _⟩
  | cons x t =>
    have d0 : ((ba (x :: t)).toList == ByteArray.toList ⟨#[]⟩) = false := by
      rw [ByteArray.toList_mk, ByteArray.toList_mk]; rfl
    have hn8 := x.toNat_lt
    have HX : Hid ((x :: t)[0]? = some x) := Lib.hid rfl
    have htl : t.length ≤ 9223372036854775807 := by simp at hl; omega
    have HC := Lib.hid (fun (V : World) => ref_cut V t (x.toNat * z) (by have := Nat.mul_le_mul (Nat.le_of_lt hn8) h9; omega) htl)
    have HD : Hid ((x :: t).drop 1 = t) := Lib.hid rfl
    have hm0 : (0 : Int) ≤ (x.toNat : Int) * z := by exact_mod_cast Nat.zero_le _
    have hm1 : (x.toNat : Int) * z ≤ 2304 := by
      have : x.toNat * z ≤ 256 * 9 := Nat.mul_le_mul (Nat.le_of_lt hn8) h9
      exact_mod_cast this
    have hmc : ((x.toNat * z : Nat) : Int) = (x.toNat : Int) * z := by push_cast; rfl
    rw [hmc] at HC
    have HR := Lib.hid (show pRows z (x :: t) = if t.length < x.toNat * z then none else some (chunks z x.toNat t, t.drop (x.toNat * z)) from rfl)
    clear hl
    by_cases hlt : t.length < x.toNat * z
    · have HE := Lib.hid (show rowsB z (x :: t) = ([], [], false) by unfold rowsB; rw [HR.out, if_pos hlt])
      have HCB := Lib.hid (show cutB t (x.toNat * z) = ([], [], false) by unfold cutB; rw [if_pos hlt])
      clear HR hlt hmc
      rw [HCB.out] at HC
      go_enter Try.func39, Try.ntmps39
      go_wp2_with (first
        | go_skip
        | ((with_reducible refine at_index 9 ?_); refine wpList_value (wanted_none rfl) (run_byte 9 _ _ rfl Try.underlying9 (i := 0) rfl rfl HX.out) ?_)
        | ((with_reducible refine at_slice 9 ?_); refine wpList_value (wanted_none rfl) (run_from 9 _ _ rfl Try.underlying9 1 rfl rfl (by simp)) ?_; rw [HD.out])
        | (go_at_call 44; go_must (refine (HC.out _).mono ?_; rintro e v1 ⟨rfl, hb1⟩)))
      go_loopw [11, 12] (fun l i wr => l = .slice none 0 0 ∧ i = .int .i64 0 ∧ Below w.heap.size w wr) (fun _ _ _ => 0)
      case atStart => exact ⟨rfl, rfl, hb1⟩
      case round =>
        obtain ⟨rfl, rfl, hB⟩ := hrel
        go_wp2
        go_ret3
        unfold RowsPost
        rw [HE.out]
        exact ⟨none, 0, rfl, hB, Own.nil _ _ _ _ _⟩
    · have HE := Lib.hid (show rowsB z (x :: t) = (chunks z x.toNat t, t.drop (x.toNat * z), true) by unfold rowsB; rw [HR.out, if_neg hlt])
      have HCB := Lib.hid (show cutB t (x.toNat * z) = (t.take (x.toNat * z), t.drop (x.toNat * z), true) by unfold cutB; rw [if_neg hlt])
      have HCH := Lib.hid (fun (i : Nat) (hi : i < x.toNat) => chunks_at z x.toNat t i hi)
      have hclen := chunks_length z x.toNat t
      have HT := Lib.hid (show (t.take (x.toNat * z)).length = x.toNat * z by simp; omega)
      have HTD := Lib.hid (fun (i : Nat) (hi : i < x.toNat) => show ((t.take (x.toNat * z)).take (i * z + z)).drop (i * z) = (t.drop (i * z)).take z by
        have h1 : i * z + z ≤ x.toNat * z := by rw [← Nat.succ_mul]; exact Nat.mul_le_mul_right _ hi
        rw [List.take_take, Nat.min_eq_left h1, List.drop_take]
        congr 1
        omega)
      clear HR hlt hmc
      rw [HCB.out] at HC
      simp only at HC
      generalize t.take (x.toNat * z) = u at HC HT HTD
      generalize t.drop (x.toNat * z) = r at HC HE
      generalize chunks z x.toNat t = css at HE HCH hclen
      generalize hn : x.toNat = n at *
      obtain ⟨i0, hi, hz0, hz1, hz2⟩ := info_parts info_str
      go_enter Try.func39, Try.ntmps39
      go_wp2_with (first
        | go_skip
        | ((with_reducible refine at_index 9 ?_); refine wpList_value (wanted_none rfl) (run_byte 9 _ _ rfl Try.underlying9 (i := 0) rfl rfl HX.out) ?_; rw [hn])
        | ((with_reducible refine at_slice 9 ?_); refine wpList_value (wanted_none rfl) (run_from 9 _ _ rfl Try.underlying9 1 rfl rfl (by simp)) ?_; rw [HD.out])
        | (go_at_call 44; go_must (refine (HC.out _).mono ?_; rintro e v1 ⟨rfl, hb1⟩)))
      go_loopw [11, 12] (fun l i wr => ∃ (k : Nat) (a : Option Addr) (c : Nat), k ≤ n ∧ i = .int .i64 k ∧ l = .slice a ((css.take k).map ba).length c ∧ Own w.heap.size 9 wr 1 RStr a c ((css.take k).map ba) ∧ Below w.heap.size w wr) (fun _ i _ => n - (intOf i).toNat)
      case atStart => exact ⟨0, none, 0, Nat.zero_le _, rfl, rfl, Own.nil _ _ _ _ _, hb1⟩
      case round =>
        clear hb1
        obtain ⟨k, a, c, hk, rfl, rfl, hO, hB⟩ := hrel
        have hkl : ((css.take k).map ba).length = k := by simp; omega
        by_cases hkn : k < n
        · have hc := HCH.out k hkn
          have hsnoc : (css.take (k + 1)).map ba = (css.take k).map ba ++ [ba ((t.drop (k * z)).take z)] := by
            rw [List.take_add_one, hc]; simp
          have HSN := Lib.hid hsnoc
          have hk2 : k * z + z ≤ n * z := by rw [← Nat.succ_mul]; exact Nat.mul_le_mul_right _ hkn
          have hk3 : (k : Int) * z + z ≤ (n : Int) * z := by exact_mod_cast hk2
          have hk4 : (0 : Int) ≤ (k : Int) * z := by exact_mod_cast Nat.zero_le _
          have HP := Lib.hid (show ((u.take (k * z + z)).drop (k * z)) = (t.drop (k * z)).take z from HTD.out k hkn)
          have st := St.start wr
          have HU := Lib.hid (show k * z + z ≤ u.length by rw [HT.out]; exact hk2)
          have HK1 := Lib.hid (show (k : Int) * z = ((k * z : Nat) : Int) by push_cast; rfl)
          have HK2 := Lib.hid (show (k : Int) * z + z = ((k * z + z : Nat) : Int) by push_cast; rfl)
          have HKL := Lib.hid hkl
          rw [hkl]
          clear hsnoc hc hkl HTD HCH
          go_wp2_with (first
            | go_skip
            | ((with_reducible refine at_slice 9 ?_); refine wpList_value (wanted_none rfl) (run_between 9 _ _ _ rfl Try.underlying9 (k * z) (k * z + z) rfl (by rw [← HK1.out]; rfl) (by rw [← HK2.out]; rfl) (by omega) HU.out) ?_; rw [HP.out])
            | (with_reducible refine at_build1 63 ?_; refine wpList_build1 st (wanted_none rfl) 63 9 _ rfl Try.underlying63 1 Try.sizeOf9 (by decide) (by decide) _ Try.zeroValue9 _ rfl rfl ?_; have stw4 := st; clear st; intro g4 w4 hg4 hg4e st hw4b hw4z; simp [Act.eval, Act.put, Value.cells, putL] at st)
            | (at_builtin; go_must (have hO2 := hO.below hw4b; refine wpList_app1 (wanted_none rfl) _ _ 63 rfl 9 i0 _ 1 16 Try.underlying63 hi hz0 hz1 hz2 rfl (by decide) (y := ba ((t.drop (k * z)).take z)) rfl HKL.out.symm hO2 rfl (SlR.ofBlk (ok := fun _ => True) (R := RStr) (sz := 1) (x := ba ((t.drop (k * z)).take z)) (st.blk _ (List.mem_of_getElem? (i := 0) rfl)) rfl rfl rfl trivial) (by rw [HKL.out]; omega) (by rw [HKL.out]; unfold maxLen; omega) (by have := hB.size; have := hw4b.size; omega) ?_; intro g5 c5 w5 hO5 hgr hat hlt5)))
          go_roundw
          case rel =>
            refine ⟨k + 1, _, _, hkn, by go_num, ?_, by rw [HSN.out]; exact hO5, ?_⟩
            · rw [HSN.out, List.length_append, HKL.out]; rfl
            · exact (hB.keep hw4b).grown hgr (by have := hw4b.size; have := hB.size; omega) fun b e => hO.blockLt b e |>.1
          case measure => simp [intOf]; omega
        · obtain rfl : k = n := by omega
          have HE2 := Lib.hid (show css.take k = css by rw [List.take_of_length_le (by omega)])
          go_wp2
          go_ret3
          unfold RowsPost
          rw [HE.out]
          rw [HE2.out] at hO
          refine ⟨a, c, ?_, hB, hO⟩
          rw [HE2.out]
          simp

theorem rowsB_some {z : Nat} {s r : List UInt8} {xs : List (List UInt8)} (h : rowsB z s = (xs, r, true)) : pRows z s = some (xs, r) := by
  unfold rowsB at h
  split at h
  · simp at h
  · rename_i p hp
    rw [hp]
    simp only [Prod.mk.injEq, and_true] at h
    rw [← h.1, ← h.2]

theorem rowsB_none {z : Nat} {s r : List UInt8} {xs : List (List UInt8)} (h : rowsB z s = (xs, r, false)) : pRows z s = none := by
  unfold rowsB at h
  split at h
  · assumption
  · simp at h

theorem chunks_len (z : Nat) : ∀ (n : Nat) (t : List UInt8), n * z ≤ t.length → ∀ x ∈ chunks z n t, x.length = z
  | 0, t, _, x, hx => by simp [chunks] at hx
  | n + 1, t, h, x, hx => by
    rw [Nat.succ_mul] at h
    simp only [chunks, List.mem_cons] at hx
    rcases hx with rfl | hx
    · simp; omega
    · exact chunks_len z n (t.drop z) (by simp; omega) x hx

/-- What the rows are: so many at most, each of the size; less is left. -/
theorem rowsB_facts {z : Nat} {s r : List UInt8} {xs : List (List UInt8)} {b : Bool} (h : rowsB z s = (xs, r, b)) : xs.length ≤ 255 ∧ (∀ x ∈ xs, x.length = z) ∧ r.length ≤ s.length := by
  unfold rowsB pRows at h
  split at h
  · simp only [Prod.mk.injEq] at h
    obtain ⟨rfl, rfl, -⟩ := h
    exact ⟨by simp, by simp, by simp⟩
  · rename_i p hp
    simp only [Prod.mk.injEq] at h
    obtain ⟨rfl, rfl, -⟩ := h
    split at hp
    · cases hp
    · rename_i c t
      split at hp
      · cases hp
      · rename_i hl
        cases hp
        have := c.toNat_lt
        exact ⟨by rw [chunks_length]; omega, chunks_len z _ _ (by omega), by simp; omega⟩

theorem SlR.str_at {ok : Nat → Prop} {w : World} {a : Option Addr} {c : Nat} {xs : List ByteArray} (h : SlR ok w 1 RStr a c xs) (i : Nat) (hi : i < xs.length) :
    ∃ b o, a = some ⟨b, o, none⟩ ∧ b < w.heap.size ∧ w.cell? ⟨b, o + i, none⟩ = some (.string xs[i]) := by
  obtain ⟨b, o, cs, ha, _, hb, rfl, _, _, hc⟩ := h.2.2.2 i xs[i] (by simp [hi])
  exact ⟨b, o, ha, hb, by simpa using hc 0 _ rfl⟩

end Go.Proofs.Ytemjnojfhbbapaa
