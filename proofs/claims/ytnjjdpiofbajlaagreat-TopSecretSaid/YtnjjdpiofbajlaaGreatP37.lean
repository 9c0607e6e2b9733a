/- Walks and plain laws, part 37. -/
import Derived.Test.YtnjjdpiofbajlaaGreatP7
set_option linter.unusedSimpArgs false
set_option linter.unusedVariables false
set_option maxHeartbeats 16000000
set_option maxRecDepth 100000
namespace Go.Proofs.YtnjjdpiofbajlaaGreat
open Go.RowKit
theorem top_in (ok : Nat → Prop) (w : World) (a : Option Addr) (c : Nat) (l : List Int) (v : Int) (hl : l.length ≤ 4611686018427387903) (hR : SlR ok w 1 RInt a c l) :
  Calls Tryz.prog 12 #[.slice a l.length c, .int .i64 v] w fun e w' => e = .returned (.bool (inL l v)) ∧ w = w' := by
 go_enter Tryz.func12, Tryz.ntmps12
 go_wp2
 go_loop [9] (fun i => ∃ k : Nat, k ≤ l.length ∧ i = .int .i64 k ∧ Hid (inL l v = inL (l.drop k) v)) (fun i => l.length - (intOf i).toNat)
 case atStart => exact ⟨0, Nat.zero_le _, rfl, rfl⟩
 case round =>
  obtain ⟨k, hk, rfl, hI⟩ := hrel
  by_cases hlt : k < l.length
  ·obtain ⟨b, o, rfl, hb, h1⟩ := hR.int_at k hlt
   go_wp2
   ·have hc : (l[k] == v) = true := by assumption
    go_ret
    have e : inL l v = true := by rw [hI.out, inL_hit hlt (by simpa using (show l[k] = v by simpa using hc).symm)]
    exact ⟨by rw [e]; rfl, rfl⟩
   ·have hc : (l[k] == v) = false := by assumption
    go_round
    case rel => exact ⟨k + 1, hlt, by go_num, by rw [hI.out, inL_pass hlt (fun e => by simp [e] at hc)]; rfl⟩
    case measure => simp [intOf]; omega
  ·go_wp2
   go_ret
   have e : inL l v = false := by rw [hI.out, inL_end hlt]
   exact ⟨by rw [e]; rfl, rfl⟩
end Go.Proofs.YtnjjdpiofbajlaaGreat
