/- The walks through label.Category and At. -/
import Derived.Test.YtnihccinpbpllaaSlices
import Derived.Test.YtnihccinpbpllaaPlain
set_option linter.unusedSimpArgs false
set_option linter.unusedVariables false
namespace Go.Proofs.Ytnihccinpbpllaa
open Go.RowKit

set_option maxHeartbeats 400000 in
theorem label_Category (c : Int) (w : World) : Calls Try.prog 23 #[.int .i64 c] w fun e w' => e = .returned (.bool (decide (0 ≤ c ∧ c < 80))) ∧ w = w' := by
  by_cases h1 : 0 ≤ c <;> by_cases h2 : c < 80
  all_goals
    go_enter Try.func23, Try.ntmps23
    go_wp2
    go_ret
    exact ⟨ret_bool (by simp [h1, h2]), rfl⟩

set_option maxHeartbeats 400000 in
theorem label_At (ok : Nat → Prop) (w : World) (la : Option Addr) (lc : Nat) (l : List Lev) (c : Int) (hl : l.length * 16 ≤ 140737488355328) (hR : SlR ok w 2 RLev la lc l) :
    Calls Try.prog 21 #[.slice la l.length lc, .int .i64 c] w fun e w' => e = .returned (.int .i64 (lAt l c)) ∧ Below w.heap.size w w' := by
  go_enter Try.func21, Try.ntmps21
  go_wp2
  go_loopw [9] (fun i wr => ∃ k : Nat, k ≤ l.length ∧ i = .int .i64 k ∧ Below w.heap.size w wr ∧ Hid (lAt l c = lAt (l.drop k) c)) (fun i _ => l.length - (intOf i).toNat)
  case atStart => exact ⟨0, Nat.zero_le _, rfl, Below.refl _ _, rfl⟩
  case round =>
    obtain ⟨k, hk, rfl, hB, hI⟩ := hrel
    by_cases hlt : k < l.length
    · obtain ⟨b, o, rfl, hb, h1, h2⟩ := (hR.below hB).lev_at k hlt
      have hbs := hB.size
      go_wp2
      · have hc : (l[k].c == c) = true := by assumption
        go_ret
        have e : lAt l c = l[k].l := by rw [hI.out, drop_at hlt, lAt, if_pos (by simpa using hc)]
        exact ⟨by rw [e]; rfl, hB.alloc hbs _⟩
      · have hc : (l[k].c == c) = false := by assumption
        go_roundw
        case rel => exact ⟨k + 1, hlt, by go_num, hB.alloc hbs _, by rw [hI.out, drop_at hlt, lAt, if_neg (by simpa using hc)]; rfl⟩
        case measure => simp [intOf]; omega
    · go_wp2
      go_ret
      have e : lAt l c = 1 := by rw [hI.out, List.drop_of_length_le (by omega), lAt]
      exact ⟨by rw [e]; rfl, hB⟩

end Go.Proofs.Ytnihccinpbpllaa
