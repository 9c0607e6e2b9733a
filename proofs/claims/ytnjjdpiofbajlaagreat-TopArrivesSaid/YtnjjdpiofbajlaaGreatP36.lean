/- Walks and plain laws, part 36. -/
import Derived.Test.YtnjjdpiofbajlaaGreatP1
import Derived.Test.YtnjjdpiofbajlaaGreatProg
set_option linter.unusedSimpArgs false
set_option linter.unusedVariables false
set_option maxHeartbeats 16000000
set_option maxRecDepth 100000
namespace Go.Proofs.YtnjjdpiofbajlaaGreat
open Go.RowKit
def pkC (k n : Int) : Int := if Int.tmod k n < 0 then Int.tmod k n + n else Int.tmod k n
theorem pkC_nat (k : Int) {n : Nat} (hn : 0 < n) : ∃ m : Nat, pkC k n = m ∧ m < n := by
 have h1 := Int.tmod_lt_of_pos k (show (0 : Int) < n by omega)
 have h2 := Int.lt_tmod_of_pos k (show (0 : Int) < n by omega)
 unfold pkC
 split
 ·exact ⟨(Int.tmod k n + n).toNat, by omega, by omega⟩
 ·exact ⟨(Int.tmod k n).toNat, by omega, by omega⟩
theorem top_pickC (w : World) (k n : Int) (hn : 0 < n) (hn2 : n ≤ 4611686018427387904) (hk : -9223372036854775808 ≤ k ∧ k ≤ 9223372036854775807) :
  Calls Tryz.prog 24 #[.int .i64 k, .int .i64 n] w fun e w' => e = .returned (.int .i64 (pkC k n)) ∧ w = w' := by
 have h1 := Int.tmod_lt_of_pos k hn
 have h2 := Int.lt_tmod_of_pos k hn
 have h3 : (n == 0) = false := by simp; omega
 unfold pkC
 generalize hr : Int.tmod k n = r at h1 h2 ⊢
 by_cases hneg : r < 0
 ·have d1 : decide (r < 0) = true := by simpa using hneg
  rw [if_pos hneg]
  go_enter Tryz.func24, Tryz.ntmps24
  go_wp2
  go_ret
  exact ⟨rfl, rfl⟩
 ·have d1 : decide (r < 0) = false := by simpa using hneg
  rw [if_neg hneg]
  go_enter Tryz.func24, Tryz.ntmps24
  go_wp2
  go_ret
  exact ⟨rfl, rfl⟩
end Go.Proofs.YtnjjdpiofbajlaaGreat
