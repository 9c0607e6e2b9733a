/- '==' and '!=' on the program's plain structs. -/
import Derived.Test.YtdjgfedccacbiaaData
import Derived.Test.YtdjgfedccacbiaaProg
import Derived.Laws.StructEq
import Derived.ChangeKeysEq
set_option linter.unusedSimpArgs false
set_option linter.unusedVariables false
namespace Go.Proofs.Ytdjgfedccacbiaa
open Go.RowKit

theorem eqin_Cert (d : Nat) (a b : Cert) (W : World) : (Op.equalIn (d + 2) 24 (.agg #[.int .i64 a.c, .int .i64 a.by_, .int .i64 a.host, .int .i64 a.till]) (.agg #[.int .i64 b.c, .int .i64 b.by_, .int .i64 b.host, .int .i64 b.till])).run Try.prog W = .ok (decide (a = b)) W := by
  have h1 : Try.prog.underlying 24 = some (.struct (Try.prog.fieldsOf 24)) := by kernel_rfl
  have h2 : Try.prog.stoodInHeld 24 = false := by kernel_rfl
  have hU := Try.underlying24
  have hz : ∀ W, (sizeOf 3).run Try.prog W = .ok 1 W := Try.sizeOf3
  have ha : ∀ W, (isAgg 3).run Try.prog W = .ok false W := Try.isAgg3
  have e : ∀ d a b W, (Op.equalIn (d + 1) 3 (.int .i64 a) (.int .i64 b)).run Try.prog W = .ok (a == b) W := fun d a b W => run_equalIn_int W d _ _ _ a b Try.underlying3
  rw [run_equalIn_agg W (d + 1) _ _ _ h1 h2]
  obtain ⟨x, y, z, u⟩ := a
  obtain ⟨x', y', z', u'⟩ := b
  simp [Program.fieldsOf, hU, Op.eqFields, part, ha, hz, e _ _ _ W, Result.andThen]
  by_cases e1 : x = x' <;> by_cases e2 : y = y' <;> by_cases e3 : z = z' <;> by_cases e4 : u = u' <;> simp [e1, e2, e3, e4]

theorem neq_Cert (a b : Cert) (r : Bool) (h : decide (a = b) = r) (W : World) : (binOp .neq 24 (.agg #[.int .i64 a.c, .int .i64 a.by_, .int .i64 a.host, .int .i64 a.till]) (.agg #[.int .i64 b.c, .int .i64 b.by_, .int .i64 b.host, .int .i64 b.till])).run Try.prog W = .ok (.bool (!r)) W := by
  rw [run_neq_struct, eqin_Cert 9998 a b W, h]
  rfl

theorem eql_Cert (a b : Cert) (r : Bool) (h : decide (a = b) = r) (W : World) : (binOp .eql 24 (.agg #[.int .i64 a.c, .int .i64 a.by_, .int .i64 a.host, .int .i64 a.till]) (.agg #[.int .i64 b.c, .int .i64 b.by_, .int .i64 b.host, .int .i64 b.till])).run Try.prog W = .ok (.bool r) W := by
  rw [run_eql_struct, eqin_Cert 9998 a b W, h]
  rfl

theorem guard_Cert (op : BinOp) (x y : Operand) (xs ys : Array Value) (W : World) : (eqGuard op 24 x y (.agg xs) (.agg ys)).run Try.prog W = .ok () W := run_eqGuard_agg W op _ x y xs ys (by kernel_rfl)

end Go.Proofs.Ytdjgfedccacbiaa
