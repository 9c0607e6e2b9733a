/- The walk through the keeper's pick. -/
import Derived.Test.YtbngblmdcggfdaaData
import Derived.Test.YtbngblmdcggfdaaProg
set_option linter.unusedSimpArgs false
set_option linter.unusedVariables false
namespace Go.Proofs.Ytbngblmdcggfdaa
open Go.RowKit

theorem keep_pick (w : World) (k n : Int) (hn : 0 < n) (hn2 : n ≤ 4611686018427387904) (hk : -9223372036854775808 ≤ k ∧ k ≤ 9223372036854775807) :
    Calls Try.prog 19 #[.int .i64 k, .int .i64 n] w fun e w' => (∃ r : Int, e = .returned (.int .i64 r) ∧ 0 ≤ r ∧ r < n) ∧ w = w' := by
  have h1 := Int.tmod_lt_of_pos k hn
  have h2 := Int.lt_tmod_of_pos k hn
  have h3 : (n == 0) = false := by simp; omega
  generalize hr : Int.tmod k n = r at h1 h2
  go_enter Try.func19, Try.ntmps19
  go_wp2
  all_goals go_ret
  all_goals exact ⟨⟨_, rfl, by omega, by omega⟩, rfl⟩

end Go.Proofs.Ytbngblmdcggfdaa
