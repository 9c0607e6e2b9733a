/- '==' and '!=' on the program's plain structs. -/
import Derived.Test.YtikfjmcgoamdlaaData
import Derived.Test.YtikfjmcgoamdlaaProg
import Derived.Laws.StructEq
import Derived.ChangeKeysEq
set_option linter.unusedSimpArgs false
set_option linter.unusedVariables false
namespace Go.Proofs.Ytikfjmcgoamdlaa
open Go.RowKit

theorem eqin_Level (d : Nat) (a b : Lev) (W : World) : (Op.equalIn (d + 2) 108 (.agg #[.int .i64 a.c, .int .i64 a.l]) (.agg #[.int .i64 b.c, .int .i64 b.l])).run Try.prog W = .ok (decide (a = b)) W := by
  have h1 : Try.prog.underlying 108 = some (.struct (Try.prog.fieldsOf 108)) := by kernel_rfl
  have h2 : Try.prog.stoodInHeld 108 = false := by kernel_rfl
  have hU := Try.underlying108
  have hz : ∀ W, (sizeOf 3).run Try.prog W = .ok 1 W := Try.sizeOf3
  have ha : ∀ W, (isAgg 3).run Try.prog W = .ok false W := Try.isAgg3
  have e : ∀ d a b W, (Op.equalIn (d + 1) 3 (.int .i64 a) (.int .i64 b)).run Try.prog W = .ok (a == b) W := fun d a b W => run_equalIn_int W d _ _ _ a b Try.underlying3
  rw [run_equalIn_agg W (d + 1) _ _ _ h1 h2]
  obtain ⟨x, y⟩ := a
  obtain ⟨x', y'⟩ := b
  simp [Program.fieldsOf, hU, Op.eqFields, part, ha, hz, e _ _ _ W, Result.andThen]
  by_cases e1 : x = x' <;> by_cases e2 : y = y' <;> simp [e1, e2]

theorem eqin_Cert (d : Nat) (a b : Cert) (W : World) : (Op.equalIn (d + 2) 98 (.agg #[.int .i64 a.c, .int .i64 a.by_, .int .i64 a.host, .int .i64 a.till]) (.agg #[.int .i64 b.c, .int .i64 b.by_, .int .i64 b.host, .int .i64 b.till])).run Try.prog W = .ok (decide (a = b)) W := by
  have h1 : Try.prog.underlying 98 = some (.struct (Try.prog.fieldsOf 98)) := by kernel_rfl
  have h2 : Try.prog.stoodInHeld 98 = false := by kernel_rfl
  have hU := Try.underlying98
  have hz : ∀ W, (sizeOf 3).run Try.prog W = .ok 1 W := Try.sizeOf3
  have ha : ∀ W, (isAgg 3).run Try.prog W = .ok false W := Try.isAgg3
  have e : ∀ d a b W, (Op.equalIn (d + 1) 3 (.int .i64 a) (.int .i64 b)).run Try.prog W = .ok (a == b) W := fun d a b W => run_equalIn_int W d _ _ _ a b Try.underlying3
  rw [run_equalIn_agg W (d + 1) _ _ _ h1 h2]
  obtain ⟨x, y, z, u⟩ := a
  obtain ⟨x', y', z', u'⟩ := b
  simp [Program.fieldsOf, hU, Op.eqFields, part, ha, hz, e _ _ _ W, Result.andThen]
  by_cases e1 : x = x' <;> by_cases e2 : y = y' <;> by_cases e3 : z = z' <;> by_cases e4 : u = u' <;> simp [e1, e2, e3, e4]

theorem neq_Level (a b : Lev) (r : Bool) (h : decide (a = b) = r) (W : World) : (binOp .neq 108 (.agg #[.int .i64 a.c, .int .i64 a.l]) (.agg #[.int .i64 b.c, .int .i64 b.l])).run Try.prog W = .ok (.bool (!r)) W := by
  rw [run_neq_struct, eqin_Level 9998 a b W, h]
  rfl

theorem eql_Level (a b : Lev) (r : Bool) (h : decide (a = b) = r) (W : World) : (binOp .eql 108 (.agg #[.int .i64 a.c, .int .i64 a.l]) (.agg #[.int .i64 b.c, .int .i64 b.l])).run Try.prog W = .ok (.bool r) W := by
  rw [run_eql_struct, eqin_Level 9998 a b W, h]
  rfl

theorem guard_Level (op : BinOp) (x y : Operand) (xs ys : Array Value) (W : World) : (eqGuard op 108 x y (.agg xs) (.agg ys)).run Try.prog W = .ok () W := run_eqGuard_agg W op _ x y xs ys (by kernel_rfl)

theorem neq_Cert (a b : Cert) (r : Bool) (h : decide (a = b) = r) (W : World) : (binOp .neq 98 (.agg #[.int .i64 a.c, .int .i64 a.by_, .int .i64 a.host, .int .i64 a.till]) (.agg #[.int .i64 b.c, .int .i64 b.by_, .int .i64 b.host, .int .i64 b.till])).run Try.prog W = .ok (.bool (!r)) W := by
  rw [run_neq_struct, eqin_Cert 9998 a b W, h]
  rfl

theorem eql_Cert (a b : Cert) (r : Bool) (h : decide (a = b) = r) (W : World) : (binOp .eql 98 (.agg #[.int .i64 a.c, .int .i64 a.by_, .int .i64 a.host, .int .i64 a.till]) (.agg #[.int .i64 b.c, .int .i64 b.by_, .int .i64 b.host, .int .i64 b.till])).run Try.prog W = .ok (.bool r) W := by
  rw [run_eql_struct, eqin_Cert 9998 a b W, h]
  rfl

theorem guard_Cert (op : BinOp) (x y : Operand) (xs ys : Array Value) (W : World) : (eqGuard op 98 x y (.agg xs) (.agg ys)).run Try.prog W = .ok () W := run_eqGuard_agg W op _ x y xs ys (by kernel_rfl)

theorem guard_bools (op : BinOp) (x y : Operand) (xs ys : Array Value) (W : World) : (eqGuard op 85 x y (.agg xs) (.agg ys)).run Try.prog W = .ok () W := run_eqGuard_agg W op _ x y xs ys (by kernel_rfl)

theorem neq_bools (a b : Eight) (r : Bool) (h : decide (a = b) = r) (W : World) : (binOp .neq 85 (.agg #[.bool a.s0, .bool a.s1, .bool a.s2, .bool a.s3, .bool a.s4, .bool a.s5, .bool a.s6, .bool a.s7]) (.agg #[.bool b.s0, .bool b.s1, .bool b.s2, .bool b.s3, .bool b.s4, .bool b.s5, .bool b.s6, .bool b.s7])).run Try.prog W = .ok (.bool (!r)) W := by
  have hz : ∀ W, (sizeOf 4).run Try.prog W = .ok 1 W := Try.sizeOf4
  have ha : ∀ W, (isAgg 4).run Try.prog W = .ok false W := Try.isAgg4
  have e : ∀ d a b W, (Op.equalIn (d + 1) 4 (.bool a) (.bool b)).run Try.prog W = .ok (a == b) W := fun d a b W => run_equalIn_bool W d _ a b Try.underlying4
  obtain ⟨i, hi⟩ := info_of_underlying Try.underlying4
  have hc : Try.prog.cellsOf 4 = 1 := by kernel_rfl
  have hsz : i.size = 1 := by
    have h1 := hz W
    simpa [sizeOf, typeInfo, hi] using h1
  rw [run_neq_struct, run_equalIn_array W 9999 _ _ Try.underlying85 hi]
  subst h
  obtain ⟨a0, a1, a2, a3, a4, a5, a6, a7⟩ := a
  obtain ⟨b0, b1, b2, b3, b4, b5, b6, b7⟩ := b
  simp [List.range, List.range.loop, Op.eqItems, part, ha, hz, hsz, hc, e _ _ _ W, Result.andThen]
  by_cases h0 : a0 = b0
  case neg => simp [h0]
  by_cases h1 : a1 = b1
  case neg => simp [h0, h1]
  by_cases h2 : a2 = b2
  case neg => simp [h0, h1, h2]
  by_cases h3 : a3 = b3
  case neg => simp [h0, h1, h2, h3]
  by_cases h4 : a4 = b4
  case neg => simp [h0, h1, h2, h3, h4]
  by_cases h5 : a5 = b5
  case neg => simp [h0, h1, h2, h3, h4, h5]
  by_cases h6 : a6 = b6
  case neg => simp [h0, h1, h2, h3, h4, h5, h6]
  by_cases h7 : a7 = b7
  case neg => simp [h0, h1, h2, h3, h4, h5, h6, h7]
  simp [h0, h1, h2, h3, h4, h5, h6, h7]

end Go.Proofs.Ytikfjmcgoamdlaa
