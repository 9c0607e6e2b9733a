/- Walks and plain laws, part 5. -/
import Derived.Test.YtnjjdpiofbajlaaGreatP4
import Derived.Laws.Concat
set_option linter.unusedSimpArgs false
set_option linter.unusedVariables false
set_option maxHeartbeats 16000000
set_option maxRecDepth 100000
namespace Go.Proofs.YtnjjdpiofbajlaaGreat
open Go.RowKit
abbrev ba (l : List UInt8) : ByteArray := ⟨l.toArray⟩
theorem ba_size (l : List UInt8) : (ba l).size = l.length := by show l.toArray.size = _; simp
section
variable {P : Program} {w : World} {ops : Array Oper} {rest : List Oper} {o : Oper} {A : Act} {Q : Exit → Act → World → Prop}
theorem at_slice {d : Option Tmp} {ty : TypeId} {p : String} {af : Array Edge} {g : Option (Nat × Bool)} {x : Operand} {lo hi mx : Option Operand} (T : TypeId)
  (h : wpList P ops Q (⟨d, .slice T x lo hi mx, ty, p, af, g⟩ :: rest) A w) : wpList P ops Q (⟨d, .slice T x lo hi mx, ty, p, af, g⟩ :: rest) A w := h
theorem wpList_value {v : Value} (hgd : Region.wanted o (yielded ops A.tmps) = true) (hr : (execOp A.eval o).run P w = .ok (.value v) w) (h : wpList P ops Q rest (A.put o.dst v) w) : wpList P ops Q (o :: rest) A w := by
 refine wpList_wanted hgd fun K hK => ?_
 unfold Oper.wp
 simp only [hr]
 exact hK _ _ h
theorem run_byte (T : TypeId) (x ix : Operand) (ho : o.op = .index T x ix) (hT : P.underlying T = some .string) {l : List UInt8} {i : Nat} {c : UInt8} (hx : A.eval x = .string (ba l)) (hi : A.eval ix = .int .i64 i) (hc : l[i]? = some c) : (execOp A.eval o).run P w = .ok (.value (.int .u8 c.toNat)) w := by
 have hil : i < l.length := (gEs hc).1
 have hg : (ba l)[i]? = some c := by
  rw [ByteArray.getElem?_lt' (ba l) i (by rw [ba_size]; exact hil)]
  have := (gEs hc).2
  rw [← this]
  rfl
 have h := run_index_string (P := P) w T (ba l) .i64 i hT
 rw [dif_pos ⟨by omega, by rw [ba_size]; omega⟩] at h
 have hb : ((ba l)[(i : Int).toNat]'(by rw [ba_size]; simpa using hil)) = c := by
  have h2 := ByteArray.getElem?_lt' (ba l) i (by rw [ba_size]; exact hil)
  rw [hg] at h2
  exact (Option.some.inj h2).symm
 simp only [execOp, ho, hx, hi, Sem.run_bind, h, hb, Result.andThen_ok, Sem.run_pure]
end
theorem run_cell_one {P : Program} {o : Oper} {A : Act} {w : World} (T : TypeId) (x : Operand) (ho : o.op = .load T x) (hagg : ∀ w, (isAgg T).run P w = .ok false w) (g off : Nat) (hx : A.eval x = .pointer (some ⟨g, off, none⟩)) (v : Value) (hc : w.cell? ⟨g, off, none⟩ = some v) :
  (execOp A.eval o).run P w = .ok (.value v) w := by
 simp only [execOp, ho, hx, Instr.loadAt, Instr.sureAddr, loadVar, Sem.run_bind, Sem.run_pure, Result.andThen_ok, hagg]
 simp [load, Sem.run, hc, Result.andThen]
end Go.Proofs.YtnjjdpiofbajlaaGreat
