/- The walks through the library's clones of lists, and line's wait. -/
import Derived.Test.YtikfjmcgoamdlaaApp
import Derived.Test.YtikfjmcgoamdlaaCopyL
set_option linter.unusedSimpArgs false
set_option linter.unusedVariables false
namespace Go.Proofs.Ytikfjmcgoamdlaa
open Go.RowKit

set_option maxHeartbeats 400000 in
theorem slices_Clone_Sent {R : List Value → Sent → Prop} (ok : Nat → Prop) (w : World) (a : Option Addr) (c : Nat) (l : List Sent) (hl : l.length * 160 ≤ 140737488355328) (hR : SlR ok w 13 R a c l) :
    Calls Try.prog 75 #[.slice a l.length c] w fun e w' => ∃ a' c', e = .returned (.slice a' l.length c') ∧ Below w.heap.size w w' ∧ Own w.heap.size 142 w' 13 R a' c' l := by
  obtain ⟨i0, hi, hz0, hz1, hz2⟩ := info_parts info_Sent
  have hcmp := fun (ww : World) (a : Option Addr) (n c : Nat) => Lib.run_eql_slice_nil ww 84 _ a n c 0 0 Try.underlying84
  cases a with
  | none =>
    have h0 := hR.2.2.1 rfl
    have hn := hR.1
    obtain rfl : l = [] := List.eq_nil_of_length_eq_zero (by omega)
    clear hl hR hi hz0 hz1 hz2 h0 hn
    go_enter Try.func75, Try.ntmps75
    go_wp2
    go_ret
    exact ⟨none, 0, rfl, Below.refl _ _, Own.nil _ _ _ _ _⟩
  | some ad =>
    go_enter Try.func75, Try.ntmps75
    go_wp2_with (first | (at_builtin; refine wpList_app rfl _ _ 84 rfl 142 i0 _ 13 160 Try.underlying84 hi hz0 hz1 hz2 rfl (by decide) (base := w.heap.size) rfl rfl (Own.made (Nat.le_refl _)) rfl rfl (hR.below ((Below.refl _ _).alloc (Nat.le_refl _) _)) ?_ ?_ ?_ ?_))
    · simpa using hl
    · simp [maxLen]; omega
    · simp
    · intro a' c' w' hO hg _
      go_wp2
      go_ret
      exact ⟨a', c', rfl, ((Below.refl _ _).alloc (Nat.le_refl _) _).grown hg (by simp) (by simp), hO⟩

set_option maxHeartbeats 400000 in
theorem slices_Clone_Cert {R : List Value → Cert → Prop} (ok : Nat → Prop) (w : World) (a : Option Addr) (c : Nat) (l : List Cert) (hl : l.length * 32 ≤ 140737488355328) (hR : SlR ok w 4 R a c l) :
    Calls Try.prog 37 #[.slice a l.length c] w fun e w' => ∃ a' c', e = .returned (.slice a' l.length c') ∧ Below w.heap.size w w' ∧ Own w.heap.size 98 w' 4 R a' c' l := by
  obtain ⟨i0, hi, hz0, hz1, hz2⟩ := info_parts info_Cert
  have hcmp := fun (ww : World) (a : Option Addr) (n c : Nat) => Lib.run_eql_slice_nil ww 52 _ a n c 0 0 Try.underlying52
  cases a with
  | none =>
    have h0 := hR.2.2.1 rfl
    have hn := hR.1
    obtain rfl : l = [] := List.eq_nil_of_length_eq_zero (by omega)
    clear hl hR hi hz0 hz1 hz2 h0 hn
    go_enter Try.func37, Try.ntmps37
    go_wp2
    go_ret
    exact ⟨none, 0, rfl, Below.refl _ _, Own.nil _ _ _ _ _⟩
  | some ad =>
    go_enter Try.func37, Try.ntmps37
    go_wp2_with (first | (at_builtin; refine wpList_app rfl _ _ 52 rfl 98 i0 _ 4 32 Try.underlying52 hi hz0 hz1 hz2 rfl (by decide) (base := w.heap.size) rfl rfl (Own.made (Nat.le_refl _)) rfl rfl (hR.below ((Below.refl _ _).alloc (Nat.le_refl _) _)) ?_ ?_ ?_ ?_))
    · simpa using hl
    · simp [maxLen]; omega
    · simp
    · intro a' c' w' hO hg _
      go_wp2
      go_ret
      exact ⟨a', c', rfl, ((Below.refl _ _).alloc (Nat.le_refl _) _).grown hg (by simp) (by simp), hO⟩

set_option maxHeartbeats 400000 in
theorem line_wait (n : Int) (w : World) (h1 : 1 ≤ n) (h2 : n ≤ 5) :
    Calls Try.prog 80 #[.int .i64 n] w fun e w' => e = .returned (.int .i64 (2 ^ n.toNat)) ∧ w = w' := by
  rcases (show n = 1 ∨ n = 2 ∨ n = 3 ∨ n = 4 ∨ n = 5 by omega) with rfl | rfl | rfl | rfl | rfl
  all_goals
    go_enter Try.func80, Try.ntmps80
    go_wp2
    go_ret
    exact ⟨by rfl, rfl⟩

end Go.Proofs.Ytikfjmcgoamdlaa
