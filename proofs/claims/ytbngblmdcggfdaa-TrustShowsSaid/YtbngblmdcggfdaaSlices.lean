/- The walks through the library's functions on slices. -/
import Derived.Test.YtbngblmdcggfdaaData
import Derived.Test.YtbngblmdcggfdaaProg
set_option linter.unusedSimpArgs false
set_option linter.unusedVariables false
namespace Go.Proofs.Ytbngblmdcggfdaa
open Go.RowKit

theorem info_Level : (Try.prog.info? 53).map (fun i => (i.zero, i.size, i.bytes)) = some (some (.agg #[.int .i64 0, .int .i64 0]), 2, 16) := by kernel_rfl
theorem info_int : (Try.prog.info? 3).map (fun i => (i.zero, i.size, i.bytes)) = some (some (.int .i64 0), 1, 8) := by kernel_rfl
theorem info_Cert : (Try.prog.info? 43).map (fun i => (i.zero, i.size, i.bytes)) = some (some (.agg #[.int .i64 0, .int .i64 0, .int .i64 0, .int .i64 0]), 4, 32) := by kernel_rfl

set_option maxHeartbeats 400000 in
theorem slices_Index_int (ok : Nat → Prop) (w : World) (a : Option Addr) (c : Nat) (l : List Int) (v : Int) (hl : l.length ≤ 4611686018427387903) (hR : SlR ok w 1 RInt a c l) :
    Calls Try.prog 34 #[.slice a l.length c, .int .i64 v] w fun e w' => Says e (inL l v) ∧ w = w' := by
  go_enter Try.func34, Try.ntmps34
  go_wp2
  go_loop [8] (fun i => ∃ k : Nat, k ≤ l.length ∧ i = .int .i64 k ∧ Hid (inL l v = inL (l.drop k) v)) (fun i => l.length - (intOf i).toNat)
  case atStart => exact ⟨0, Nat.zero_le _, rfl, rfl⟩
  case round =>
    obtain ⟨k, hk, rfl, hI⟩ := hrel
    by_cases hlt : k < l.length
    · obtain ⟨b, o, rfl, hb, h1⟩ := hR.int_at k hlt
      go_wp2
      · have hc : (v == l[k]) = true := by assumption
        go_ret
        have e : inL l v = true := by rw [hI.out, inL_hit hlt (by simpa using hc)]
        exact ⟨⟨k, rfl, by simp, by simp [e]⟩, rfl⟩
      · have hc : (v == l[k]) = false := by assumption
        go_round
        case rel => exact ⟨k + 1, hlt, by go_num, by rw [hI.out, inL_pass hlt (by simpa using hc)]; rfl⟩
        case measure => simp [intOf]; omega
    · go_wp2
      go_ret
      have e : inL l v = false := by rw [hI.out, inL_end hlt]
      exact ⟨⟨-1, rfl, by simp [e], by simp⟩, rfl⟩

set_option maxHeartbeats 400000 in
theorem slices_Contains_int (ok : Nat → Prop) (w : World) (a : Option Addr) (c : Nat) (l : List Int) (v : Int) (hl : l.length ≤ 4611686018427387903) (hR : SlR ok w 1 RInt a c l) :
    Calls Try.prog 26 #[.slice a l.length c, .int .i64 v] w fun e w' => e = .returned (.bool (inL l v)) ∧ w = w' := by
  cases hb : inL l v
  all_goals
    have HB := Lib.hid hb
    clear hb
    go_enter Try.func26, Try.ntmps26
    go_wp2_with fail
    refine (slices_Index_int ok _ _ _ _ _ hl hR).mono ?_
    rintro e w' ⟨⟨n, rfl, h1, h2⟩, rfl⟩
    rw [HB.out] at h1 h2
    simp only [forall_const, reduceCtorEq, false_implies] at h1 h2
    go_wp2
    go_ret
    exact ⟨by first | rfl | (apply ret_bool; simp; omega), rfl⟩

end Go.Proofs.Ytbngblmdcggfdaa
