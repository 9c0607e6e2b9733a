/- The walks through the library's functions on slices. -/
import Derived.Test.YtikfjmcgoamdlaaData
import Derived.Test.YtikfjmcgoamdlaaProg
set_option linter.unusedSimpArgs false
set_option linter.unusedVariables false
namespace Go.Proofs.Ytikfjmcgoamdlaa
open Go.RowKit

theorem info_Level : (Try.prog.info? 108).map (fun i => (i.zero, i.size, i.bytes)) = some (some (.agg #[.int .i64 0, .int .i64 0]), 2, 16) := by kernel_rfl
theorem info_int : (Try.prog.info? 3).map (fun i => (i.zero, i.size, i.bytes)) = some (some (.int .i64 0), 1, 8) := by kernel_rfl
theorem info_Cert : (Try.prog.info? 98).map (fun i => (i.zero, i.size, i.bytes)) = some (some (.agg #[.int .i64 0, .int .i64 0, .int .i64 0, .int .i64 0]), 4, 32) := by kernel_rfl

set_option maxHeartbeats 400000 in
theorem slices_Index_int (ok : Nat → Prop) (w : World) (a : Option Addr) (c : Nat) (l : List Int) (v : Int) (hl : l.length * 8 ≤ 140737488355328) (hR : SlR ok w 1 RInt a c l) :
    Calls Try.prog 44 #[.slice a l.length c, .int .i64 v] w fun e w' => Says e (inL l v) ∧ w = w' := by
  go_enter Try.func44, Try.ntmps44
  go_wp2
  go_loop [8] (fun i => ∃ k : Nat, k ≤ l.length ∧ i = .int .i64 k ∧ Hid (inL l v = inL (l.drop k) v)) (fun i => l.length - (intOf i).toNat)
  case atStart => exact ⟨0, Nat.zero_le _, rfl, rfl⟩
  case round =>
    obtain ⟨k, hk, rfl, hI⟩ := hrel
    by_cases hlt : k < l.length
    · obtain ⟨b, o, rfl, hb, h1⟩ := hR.int_at k hlt
      go_wp2
      · have hc : (v == l[k]) = true := by assumption
        go_ret
        have e : inL l v = true := by rw [hI.out, inL_hit hlt (by simpa using hc)]
        exact ⟨⟨k, rfl, by simp, by simp [e]⟩, rfl⟩
      · have hc : (v == l[k]) = false := by assumption
        go_round
        case rel => exact ⟨k + 1, hlt, by go_num, by rw [hI.out, inL_pass hlt (by simpa using hc)]; rfl⟩
        case measure => simp [intOf]; omega
    · go_wp2
      go_ret
      have e : inL l v = false := by rw [hI.out, inL_end hlt]
      exact ⟨⟨-1, rfl, by simp [e], by simp⟩, rfl⟩

set_option maxHeartbeats 400000 in
theorem slices_Contains_int (ok : Nat → Prop) (w : World) (a : Option Addr) (c : Nat) (l : List Int) (v : Int) (hl : l.length * 8 ≤ 140737488355328) (hR : SlR ok w 1 RInt a c l) :
    Calls Try.prog 22 #[.slice a l.length c, .int .i64 v] w fun e w' => e = .returned (.bool (inL l v)) ∧ w = w' := by
  cases hb : inL l v
  all_goals
    have HB := Lib.hid hb
    clear hb
    go_enter Try.func22, Try.ntmps22
    go_wp2_with fail
    refine (slices_Index_int ok _ _ _ _ _ hl hR).mono ?_
    rintro e w' ⟨⟨n, rfl, h1, h2⟩, rfl⟩
    rw [HB.out] at h1 h2
    simp only [forall_const, reduceCtorEq, false_implies] at h1 h2
    go_wp2
    go_ret
    exact ⟨by first | rfl | (apply ret_bool; simp; omega), rfl⟩

set_option maxHeartbeats 400000 in
theorem slices_Clone_Label (ok : Nat → Prop) (w : World) (a : Option Addr) (c : Nat) (l : List Lev) (hl : l.length * 16 ≤ 140737488355328) (hR : SlR ok w 2 RLev a c l) :
    Calls Try.prog 58 #[.slice a l.length c] w fun e w' => ∃ a' c', e = .returned (.slice a' l.length c') ∧ Below w.heap.size w w' ∧ Own w.heap.size 108 w' 2 RLev a' c' l := by
  obtain ⟨i0, hi, hz0, hz1, hz2⟩ := info_parts info_Level
  have hcmp := fun (ww : World) (a : Option Addr) (n c : Nat) => Lib.run_eql_slice_nil ww 23 _ a n c 0 0 Try.underlying23
  cases a with
  | none =>
    have h0 := hR.2.2.1 rfl
    have hn := hR.1
    obtain rfl : l = [] := List.eq_nil_of_length_eq_zero (by omega)
    clear hl hR hi hz0 hz1 hz2 h0 hn
    go_enter Try.func58, Try.ntmps58
    go_wp2
    go_ret
    exact ⟨none, 0, rfl, Below.refl _ _, Own.nil _ _ _ _ _⟩
  | some ad =>
    go_enter Try.func58, Try.ntmps58
    go_wp2_with (first | (at_builtin; refine wpList_app rfl _ _ 23 rfl 108 i0 _ 2 16 Try.underlying23 hi hz0 hz1 hz2 rfl (by decide) (base := w.heap.size) rfl rfl (Own.made (Nat.le_refl _)) rfl rfl (hR.below ((Below.refl _ _).alloc (Nat.le_refl _) _)) ?_ ?_ ?_ ?_))
    · simpa using hl
    · simp [maxLen]; omega
    · simp
    · intro a' c' w' hO hg _
      go_wp2
      go_ret
      exact ⟨a', c', rfl, ((Below.refl _ _).alloc (Nat.le_refl _) _).grown hg (by simp) (by simp), hO⟩

end Go.Proofs.Ytikfjmcgoamdlaa
