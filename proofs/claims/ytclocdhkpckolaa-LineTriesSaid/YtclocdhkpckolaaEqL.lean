/- The walks through label.Same and the keeper's comparison of numbers. -/
import Derived.Test.YtclocdhkpckolaaSame
set_option linter.unusedSimpArgs false
set_option linter.unusedVariables false
namespace Go.Proofs.Ytclocdhkpckolaa
open Go.RowKit

set_option maxHeartbeats 1000000 in
theorem slices_Equal_Label (ok ok' : Nat → Prop) (w : World) (la : Option Addr) (lc : Nat) (ma : Option Addr) (mc : Nat) (a b : List Lev) (hA : SlR ok w 2 RLev la lc a) (hB : SlR ok' w 2 RLev ma mc b) :
    Calls Try.prog 41 #[.slice la a.length lc, .slice ma b.length mc] w fun e w' => e = .returned (.bool (decide (a = b))) ∧ Below w.heap.size w w' := by
  have hl : a.length ≤ 9223372036854775807 := by have h1 := hA.1; have h2 := hA.2.1; unfold maxLen at h2; omega
  have hm : b.length ≤ 9223372036854775807 := by have h1 := hB.1; have h2 := hB.2.1; unfold maxLen at h2; omega
  by_cases hn : a.length = b.length
  · have d1 : (((a.length : Nat) : Int) != ((b.length : Nat) : Int)) = false := by rw [hn]; simp
    have HN := Lib.hid hn
    have hlb : a.length ≤ b.length := by omega
    clear hn
    go_enter Try.func41, Try.ntmps41
    go_wp2
    go_loopw [13] (fun i wr => ∃ k : Nat, k ≤ a.length ∧ i = .int .i64 k ∧ Below w.heap.size w wr ∧ Hid (a.take k = b.take k)) (fun i _ => a.length - (intOf i).toNat)
    case atStart => exact ⟨0, Nat.zero_le _, rfl, Below.refl _ _, rfl⟩
    case round =>
      obtain ⟨k, hk, rfl, hBw, hI⟩ := hrel
      by_cases hlt : k < a.length
      · have hlt' : k < b.length := by omega
        obtain ⟨b1, o1, rfl, hb1, f1, f2⟩ := (hA.below hBw).lev_at k hlt
        obtain ⟨b2, o2, rfl, hb2, g1, g2⟩ := (hB.below hBw).lev_at k hlt'
        cases hd : decide (a[k] = b[k])
        all_goals
          have HD := Lib.hid hd
          have hne := neq_Level a[k] b[k] _ hd; have hgu := guard_Level
          first | (have hni : (a[k] != b[k]) = true := by simpa using hd) | (have hni : (a[k] != b[k]) = false := by simpa using hd) | skip
          clear hd
          go_wp2
          go_quiet (fail)
          go_wp2
        · go_ret
          have e : decide (a = b) = false := by simpa using take_ne hlt hlt' (by simpa using HD.out)
          exact ⟨by rw [e]; rfl, hBw.drewN _⟩
        · have HI := Lib.hid (take_eq_succ hlt hlt' hI.out (by simpa using HD.out))
          go_roundw
          case rel => exact ⟨k + 1, hlt, by go_num, hBw.drewN _, HI⟩
          case measure => simp [intOf]; omega
      · go_wp2
        go_ret
        have e : decide (a = b) = true := by
          have := hI.out
          rw [List.take_of_length_le (by omega), List.take_of_length_le (by have := HN.out; omega)] at this
          simpa using this
        exact ⟨by rw [e]; rfl, hBw⟩
  · have d1 : (((a.length : Nat) : Int) != ((b.length : Nat) : Int)) = true := by simp; omega
    have e : decide (a = b) = false := by simpa using fun e => hn (by rw [e])
    have HE := Lib.hid e
    clear e hn
    go_enter Try.func41, Try.ntmps41
    go_wp2
    go_ret
    exact ⟨by rw [HE.out]; rfl, Below.refl _ _⟩

set_option maxHeartbeats 1000000 in
theorem keep_sameNumbers (ok ok' : Nat → Prop) (w : World) (la : Option Addr) (lc : Nat) (ma : Option Addr) (mc : Nat) (a b : List Int) (hA : SlR ok w 1 RInt la lc a) (hB : SlR ok' w 1 RInt ma mc b) :
    Calls Try.prog 40 #[.slice la a.length lc, .slice ma b.length mc] w fun e w' => e = .returned (.bool (decide (a = b))) ∧ Below w.heap.size w w' := by
  have hl : a.length ≤ 9223372036854775807 := by have h1 := hA.1; have h2 := hA.2.1; unfold maxLen at h2; omega
  have hm : b.length ≤ 9223372036854775807 := by have h1 := hB.1; have h2 := hB.2.1; unfold maxLen at h2; omega
  by_cases hn : a.length = b.length
  · have d1 : (((a.length : Nat) : Int) != ((b.length : Nat) : Int)) = false := by rw [hn]; simp
    have HN := Lib.hid hn
    have hlb : a.length ≤ b.length := by omega
    clear hn
    go_enter Try.func40, Try.ntmps40
    go_wp2
    go_loopw [5] (fun i wr => ∃ k : Nat, k ≤ a.length ∧ i = .int .i64 k ∧ Below w.heap.size w wr ∧ Hid (a.take k = b.take k)) (fun i _ => a.length - (intOf i).toNat)
    case atStart => exact ⟨0, Nat.zero_le _, rfl, Below.refl _ _, rfl⟩
    case round =>
      obtain ⟨k, hk, rfl, hBw, hI⟩ := hrel
      by_cases hlt : k < a.length
      · have hlt' : k < b.length := by omega
        obtain ⟨b1, o1, rfl, hb1, f1⟩ := (hA.below hBw).int_at k hlt
        obtain ⟨b2, o2, rfl, hb2, g1⟩ := (hB.below hBw).int_at k hlt'
        cases hd : decide (a[k] = b[k])
        all_goals
          have HD := Lib.hid hd
          skip
          first | (have hni : (a[k] != b[k]) = true := by simpa using hd) | (have hni : (a[k] != b[k]) = false := by simpa using hd) | skip
          clear hd
          go_wp2
          go_quiet (fail)
          go_wp2
        · go_ret
          have e : decide (a = b) = false := by simpa using take_ne hlt hlt' (by simpa using HD.out)
          exact ⟨by rw [e]; rfl, hBw.drewN _⟩
        · have HI := Lib.hid (take_eq_succ hlt hlt' hI.out (by simpa using HD.out))
          go_roundw
          case rel => exact ⟨k + 1, hlt, by go_num, hBw.drewN _, HI⟩
          case measure => simp [intOf]; omega
      · go_wp2
        go_ret
        have e : decide (a = b) = true := by
          have := hI.out
          rw [List.take_of_length_le (by omega), List.take_of_length_le (by have := HN.out; omega)] at this
          simpa using this
        exact ⟨by rw [e]; rfl, hBw⟩
  · have d1 : (((a.length : Nat) : Int) != ((b.length : Nat) : Int)) = true := by simp; omega
    have e : decide (a = b) = false := by simpa using fun e => hn (by rw [e])
    have HE := Lib.hid e
    clear e hn
    go_enter Try.func40, Try.ntmps40
    go_wp2
    go_ret
    exact ⟨by rw [HE.out]; rfl, Below.refl _ _⟩

set_option maxHeartbeats 400000 in
theorem label_Same (ok ok' : Nat → Prop) (w : World) (la : Option Addr) (lc : Nat) (ma : Option Addr) (mc : Nat) (a b : List Lev) (hA : SlR ok w 2 RLev la lc a) (hB : SlR ok' w 2 RLev ma mc b) :
    Calls Try.prog 39 #[.slice la a.length lc, .slice ma b.length mc] w fun e w' => e = .returned (.bool (decide (a = b))) ∧ Below w.heap.size w w' := by
  have HE := Lib.hid (slices_Equal_Label ok ok' w la lc ma mc a b hA hB)
  go_enter Try.func39, Try.ntmps39
  go_wp2_with (first | (go_at_call 41; refine HE.out.mono ?_; rintro r v1 ⟨rfl, hb1⟩))
  go_ret
  exact ⟨rfl, hb1⟩

end Go.Proofs.Ytclocdhkpckolaa
