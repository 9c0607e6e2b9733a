/- The walks through the library's clones of lists, and line's wait. -/
import Derived.Test.YtbngblmdcggfdaaApp
import Derived.Test.YtbngblmdcggfdaaCopyL
set_option linter.unusedSimpArgs false
set_option linter.unusedVariables false
namespace Go.Proofs.Ytbngblmdcggfdaa
open Go.RowKit

set_option maxHeartbeats 400000 in
theorem slices_Clone_int {R : List Value → Int → Prop} (ok : Nat → Prop) (w : World) (a : Option Addr) (c : Nat) (l : List Int) (hl : l.length * 8 ≤ 140737488355328) (hR : SlR ok w 1 R a c l) :
    Calls Try.prog 30 #[.slice a l.length c] w fun e w' => ∃ a' c', e = .returned (.slice a' l.length c') ∧ Below w.heap.size w w' ∧ Own w.heap.size 3 w' 1 R a' c' l := by
  obtain ⟨i0, hi, hz0, hz1, hz2⟩ := info_parts info_int
  have hcmp := fun (ww : World) (a : Option Addr) (n c : Nat) => Lib.run_eql_slice_nil ww 25 _ a n c 0 0 Try.underlying25
  cases a with
  | none =>
    have h0 := hR.2.2.1 rfl
    have hn := hR.1
    obtain rfl : l = [] := List.eq_nil_of_length_eq_zero (by omega)
    clear hl hR hi hz0 hz1 hz2 h0 hn
    go_enter Try.func30, Try.ntmps30
    go_wp2
    go_ret
    exact ⟨none, 0, rfl, Below.refl _ _, Own.nil _ _ _ _ _⟩
  | some ad =>
    go_enter Try.func30, Try.ntmps30
    go_wp2_with (first | (at_builtin; refine wpList_app rfl _ _ 25 rfl 3 i0 _ 1 8 Try.underlying25 hi hz0 hz1 hz2 rfl (by decide) (base := w.heap.size) rfl rfl (Own.made (Nat.le_refl _)) rfl rfl (hR.below ((Below.refl _ _).alloc (Nat.le_refl _) _)) ?_ ?_ ?_ ?_))
    · simpa using hl
    · simp [maxLen]; omega
    · simp
    · intro a' c' w' hO hg _
      go_wp2
      go_ret
      exact ⟨a', c', rfl, ((Below.refl _ _).alloc (Nat.le_refl _) _).grown hg (by simp) (by simp), hO⟩

end Go.Proofs.Ytbngblmdcggfdaa
