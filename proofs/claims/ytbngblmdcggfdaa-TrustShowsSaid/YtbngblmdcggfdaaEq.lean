/- '==' and '!=' on the program's plain structs. -/
import Derived.Test.YtbngblmdcggfdaaData
import Derived.Test.YtbngblmdcggfdaaProg
import Derived.Laws.StructEq
import Derived.ChangeKeysEq
set_option linter.unusedSimpArgs false
set_option linter.unusedVariables false
namespace Go.Proofs.Ytbngblmdcggfdaa
open Go.RowKit

theorem eqin_Level (d : Nat) (a b : Lev) (W : World) : (Op.equalIn (d + 2) 53 (.agg #[.int .i64 a.c, .int .i64 a.l]) (.agg #[.int .i64 b.c, .int .i64 b.l])).run Try.prog W = .ok (decide (a = b)) W := by
  have h1 : Try.prog.underlying 53 = some (.struct (Try.prog.fieldsOf 53)) := by kernel_rfl
  have h2 : Try.prog.stoodInHeld 53 = false := by kernel_rfl
  have hU := Try.underlying53
  have hz : ∀ W, (sizeOf 3).run Try.prog W = .ok 1 W := Try.sizeOf3
  have ha : ∀ W, (isAgg 3).run Try.prog W = .ok false W := Try.isAgg3
  have e : ∀ d a b W, (Op.equalIn (d + 1) 3 (.int .i64 a) (.int .i64 b)).run Try.prog W = .ok (a == b) W := fun d a b W => run_equalIn_int W d _ _ _ a b Try.underlying3
  rw [run_equalIn_agg W (d + 1) _ _ _ h1 h2]
  obtain ⟨x, y⟩ := a
  obtain ⟨x', y'⟩ := b
  simp [Program.fieldsOf, hU, Op.eqFields, part, ha, hz, e _ _ _ W, Result.andThen]
  by_cases e1 : x = x' <;> by_cases e2 : y = y' <;> simp [e1, e2]

theorem eqin_Cert (d : Nat) (a b : Cert) (W : World) : (Op.equalIn (d + 2) 43 (.agg #[.int .i64 a.c, .int .i64 a.by_, .int .i64 a.host, .int .i64 a.till]) (.agg #[.int .i64 b.c, .int .i64 b.by_, .int .i64 b.host, .int .i64 b.till])).run Try.prog W = .ok (decide (a = b)) W := by
  have h1 : Try.prog.underlying 43 = some (.struct (Try.prog.fieldsOf 43)) := by kernel_rfl
  have h2 : Try.prog.stoodInHeld 43 = false := by kernel_rfl
  have hU := Try.underlying43
  have hz : ∀ W, (sizeOf 3).run Try.prog W = .ok 1 W := Try.sizeOf3
  have ha : ∀ W, (isAgg 3).run Try.prog W = .ok false W := Try.isAgg3
  have e : ∀ d a b W, (Op.equalIn (d + 1) 3 (.int .i64 a) (.int .i64 b)).run Try.prog W = .ok (a == b) W := fun d a b W => run_equalIn_int W d _ _ _ a b Try.underlying3
  rw [run_equalIn_agg W (d + 1) _ _ _ h1 h2]
  obtain ⟨x, y, z, u⟩ := a
  obtain ⟨x', y', z', u'⟩ := b
  simp [Program.fieldsOf, hU, Op.eqFields, part, ha, hz, e _ _ _ W, Result.andThen]
  by_cases e1 : x = x' <;> by_cases e2 : y = y' <;> by_cases e3 : z = z' <;> by_cases e4 : u = u' <;> simp [e1, e2, e3, e4]

theorem neq_Level (a b : Lev) (r : Bool) (h : decide (a = b) = r) (W : World) : (binOp .neq 53 (.agg #[.int .i64 a.c, .int .i64 a.l]) (.agg #[.int .i64 b.c, .int .i64 b.l])).run Try.prog W = .ok (.bool (!r)) W := by
  rw [run_neq_struct, eqin_Level 9998 a b W, h]
  rfl

theorem eql_Level (a b : Lev) (r : Bool) (h : decide (a = b) = r) (W : World) : (binOp .eql 53 (.agg #[.int .i64 a.c, .int .i64 a.l]) (.agg #[.int .i64 b.c, .int .i64 b.l])).run Try.prog W = .ok (.bool r) W := by
  rw [run_eql_struct, eqin_Level 9998 a b W, h]
  rfl

theorem guard_Level (op : BinOp) (x y : Operand) (xs ys : Array Value) (W : World) : (eqGuard op 53 x y (.agg xs) (.agg ys)).run Try.prog W = .ok () W := run_eqGuard_agg W op _ x y xs ys (by kernel_rfl)

theorem neq_Cert (a b : Cert) (r : Bool) (h : decide (a = b) = r) (W : World) : (binOp .neq 43 (.agg #[.int .i64 a.c, .int .i64 a.by_, .int .i64 a.host, .int .i64 a.till]) (.agg #[.int .i64 b.c, .int .i64 b.by_, .int .i64 b.host, .int .i64 b.till])).run Try.prog W = .ok (.bool (!r)) W := by
  rw [run_neq_struct, eqin_Cert 9998 a b W, h]
  rfl

theorem eql_Cert (a b : Cert) (r : Bool) (h : decide (a = b) = r) (W : World) : (binOp .eql 43 (.agg #[.int .i64 a.c, .int .i64 a.by_, .int .i64 a.host, .int .i64 a.till]) (.agg #[.int .i64 b.c, .int .i64 b.by_, .int .i64 b.host, .int .i64 b.till])).run Try.prog W = .ok (.bool r) W := by
  rw [run_eql_struct, eqin_Cert 9998 a b W, h]
  rfl

theorem guard_Cert (op : BinOp) (x y : Operand) (xs ys : Array Value) (W : World) : (eqGuard op 43 x y (.agg xs) (.agg ys)).run Try.prog W = .ok () W := run_eqGuard_agg W op _ x y xs ys (by kernel_rfl)

end Go.Proofs.Ytbngblmdcggfdaa
