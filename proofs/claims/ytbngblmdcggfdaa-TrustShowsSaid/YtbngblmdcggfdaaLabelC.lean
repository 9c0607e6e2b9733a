/- The walks through label.Category and At. -/
import Derived.Test.YtbngblmdcggfdaaSlices
import Derived.Test.YtbngblmdcggfdaaPlain
set_option linter.unusedSimpArgs false
set_option linter.unusedVariables false
namespace Go.Proofs.Ytbngblmdcggfdaa
open Go.RowKit

set_option maxHeartbeats 400000 in
theorem label_Category (c : Int) (w : World) : Calls Try.prog 20 #[.int .i64 c] w fun e w' => e = .returned (.bool (decide (0 ≤ c ∧ c < 80))) ∧ w = w' := by
  by_cases h1 : 0 ≤ c <;> by_cases h2 : c < 80
  all_goals
    go_enter Try.func20, Try.ntmps20
    go_wp2
    go_ret
    exact ⟨ret_bool (by simp [h1, h2]), rfl⟩

end Go.Proofs.Ytbngblmdcggfdaa
