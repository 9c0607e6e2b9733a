/- Walks and plain laws that the claim rests on, part 11. -/
import Derived.Test.YtnihccinpbpllaaRows
import Derived.Test.YtnihccinpbpllaaP5
import Derived.SizedLaws
set_option linter.unusedSimpArgs false
set_option linter.unusedVariables false
/- The bulk that the second form of a statement reckons is no less than ours. No program is in sight. -/
namespace Go.Proofs.Ytnihccinpbpllaa

mutual
theorem bk_le {H : Type} : ∀ d : DataW H, bk d ≤ Rows.uptoBulk d
  | .lit l => by cases l <;> simp [bk, Rows.uptoBulk]
  | .nil => by simp [bk, Rows.uptoBulk]
  | .ptr d => by have := bk_le d; simp only [bk, Rows.uptoBulk]; omega
  | .slice elems spare => by have := bkAll_le elems; have := bkAll_le spare; simp only [bk, Rows.uptoBulk]; omega
  | .agg parts => by have := bkAll_le parts; simp only [bk, Rows.uptoBulk]; omega
  | .iface _ d => by have := bk_le d; simp only [bk, Rows.uptoBulk]; omega
  | .map _ => by simp [bk]
  | .held _ => by simp [bk, Rows.uptoBulk]
theorem bkAll_le {H : Type} : ∀ ds : List (DataW H), bkAll ds ≤ Rows.uptoBulkAll ds
  | [] => by simp [bkAll]
  | d :: r => by have := bk_le d; have := bkAll_le r; simp only [bkAll, Rows.uptoBulkAll]; omega
end

theorem sum_const {α : Type} (k : Nat) : ∀ l : List α, (l.map fun _ => k).sum = l.length * k
  | [] => by simp
  | x :: l => by simp only [List.map_cons, List.sum_cons, sum_const k l, List.length_cons, Nat.succ_mul]; omega

theorem mass_levs (l : List Lev) : (l.map Lev.mass).sum = l.length * 2 := sum_const 2 l
theorem mass_certs (l : List Cert) : (l.map Cert.mass).sum = l.length * 4 := sum_const 4 l
theorem mass_ints (l : List Int) : (l.map fun _ => 1).sum = l.length := by rw [sum_const, Nat.mul_one]

end Go.Proofs.Ytnihccinpbpllaa
