/- New blocks, loads and stores of a call's own memory, at an operation by itself. No program is in sight. -/
import Derived.Test.YtbngblmdcggfdaaMemB
import Derived.Test.YtbngblmdcggfdaaRegion
import Derived.Test.YtbngblmdcggfdaaApp
set_option linter.unusedSimpArgs false
set_option linter.unusedVariables false
namespace Go.Proofs.Ytbngblmdcggfdaa
open Go.RowKit

section
variable {P : Program} {w0 w : World} {M : List Nat} {own : Blks} {o : Oper} {A : Act} {Q : Exit → Act → World → Prop} {K : Act → World → Prop}

theorem wp_box (st : St M w0 w own) (T : TypeId) (x : Operand) (ho : o.op = .box T x) (v : Value) (hx : A.eval x = v) (cs : List Value) (hcs : v.cells.toList = cs)
    (h : ∀ g w', w0.heap.size ≤ g → St M w0 w' (own ++ [(g, T, cs)]) → Below w.heap.size w w' → K (A.put o.dst (.pointer (some ⟨g, 0, none⟩))) w') : Oper.wp P o A w K Q := by
  subst hcs
  have hs := st.new T v.cells.toList
  simp only [Array.toArray_toList] at hs
  unfold Oper.wp
  simp only [execOp, ho, hx, Instr.box, newVar, newRow, newObj]
  exact (h w.heap.size _ st.size hs ((Below.refl _ _).alloc (Nat.le_refl _) _))

theorem wp_alloc (st : St M w0 w own) (T : TypeId) (ho : o.op = .alloc T) (z : Value) (hz : ∀ w, (zeroValue T).run P w = .ok z w) (cs : List Value) (hcs : z.cells.toList = cs)
    (h : ∀ g w', w0.heap.size ≤ g → St M w0 w' (own ++ [(g, T, cs)]) → Below w.heap.size w w' → K (A.put o.dst (.pointer (some ⟨g, 0, none⟩))) w') : Oper.wp P o A w K Q := by
  subst hcs
  have hs := st.new T z.cells.toList
  simp only [Array.toArray_toList] at hs
  unfold Oper.wp
  simp only [execOp, ho, Instr.alloc, Sem.run_bind, hz, Result.andThen_ok, newVar, newRow, newObj]
  exact (h w.heap.size _ st.size hs ((Below.refl _ _).alloc (Nat.le_refl _) _))

theorem wp_load (st : St M w0 w own) (T : TypeId) (x : Operand) (ho : o.op = .load T x) (g off : Nat) (hx : A.eval x = .pointer (some ⟨g, off, none⟩)) (hagg : ∀ w, (isAgg T).run P w = .ok false w)
    (i : Nat) (T' : TypeId) (cs : List Value) (hi : own[i]? = some (g, T', cs)) (v : Value) (hv : cs[off]? = some v)
    (h : K (A.put o.dst v) w) : Oper.wp P o A w K Q := by
  have hc := (st.cell hi off).trans hv
  unfold Oper.wp
  simp only [execOp, ho, hx, Instr.loadAt, Instr.sureAddr, loadVar, Sem.run_bind, Sem.run_pure, Result.andThen_ok, hagg]
  simp [load, Sem.run, hc, Result.andThen]
  exact h

theorem wp_load_agg (st : St M w0 w own) (T : TypeId) (x : Operand) (ho : o.op = .load T x) (g off : Nat) (hx : A.eval x = .pointer (some ⟨g, off, none⟩)) (hagg : ∀ w, (isAgg T).run P w = .ok true w)
    (n : Nat) (hsz : ∀ w, (sizeOf T).run P w = .ok n w) (i : Nat) (T' : TypeId) (cs : List Value) (hi : own[i]? = some (g, T', cs)) (vs : List Value) (hv : (cs.drop off).take n = vs) (hl : vs.length = n)
    (h : K (A.put o.dst (.agg vs.toArray)) w) : Oper.wp P o A w K Q := by
  have hl' : (loadCells ⟨g, off, none⟩ vs.length).run P w = .ok vs.toArray w := run_loadCells_list (P := P) w ⟨g, off, none⟩ vs (fun j v hj => by
    rw [add_plain, st.cell hi]
    subst hv
    have hjn : j < n := by have := (List.getElem?_eq_some_iff.1 hj).1; omega
    rw [List.getElem?_take_of_lt hjn, List.getElem?_drop] at hj
    exact hj)
  rw [hl] at hl'
  unfold Oper.wp
  simp only [execOp, ho, hx, Instr.loadAt, Instr.sureAddr, loadVar, Sem.run_bind, Sem.run_pure, Result.andThen_ok, hagg, hsz, if_true, hl']
  exact h

theorem wp_store (st : St M w0 w own) (T : TypeId) (x y : Operand) (ho : o.op = .store T x y) (g off : Nat) (hx : A.eval x = .pointer (some ⟨g, off, none⟩))
    (v : Value) (hy : A.eval y = v) (vs : List Value) (hvs : v.cells.toList = vs) (hsz : ∀ w, (sizeOf T).run P w = .ok vs.length w) (h1 : ∀ u ∈ vs, u.oneCell' = true)
    (i : Nat) (T' : TypeId) (cs : List Value) (hi : own[i]? = some (g, T', cs)) (hl : off + vs.length ≤ cs.length)
    (h : ∀ w', St M w0 w' (own.set i (g, T', putL cs off vs)) → (∀ b, b ≠ g → w'.heap[b]? = w.heap[b]?) → w'.heap.size = w.heap.size → K (A.put o.dst undef) w') : Oper.wp P o A w K Q := by
  have hst : (storeCells ⟨g, off, none⟩ vs 0).run P w = .ok () (w.setCells g off vs) := run_storeCells_cells (P := P) g off vs 0 w
    (fun j hj => by rw [Nat.add_zero, st.cell hi]; rw [List.getElem?_eq_getElem (by omega)]; rfl) (fun j hj => by rw [Nat.add_zero]; exact st.free hi _) h1
  obtain ⟨a1, a2, a3, a4, a5, a6⟩ := setCells_block (w := w) vs off cs (st.blk _ (List.mem_of_getElem? hi))
  have hs' := st.put hi a1 a2 a3 a4 a5 a6
  have hcs : v.cells.size = vs.length := by rw [← hvs]; simp
  unfold Oper.wp
  simp only [execOp, ho, hx, hy, Instr.storeAt, Instr.sureAddr, storeVar, Sem.run_bind, Sem.run_pure, Result.andThen_ok, hsz, hcs, hvs, ne_eq, not_true, if_false, hst]
  exact (h _ hs' a2 a3)

/-! ### The same, for the arms of a walk: what is found by looking stands behind one existential -/

theorem wp_load' (st : St M w0 w own) (T : TypeId) (x : Operand) (ho : o.op = .load T x) (hagg : ∀ w, (isAgg T).run P w = .ok false w)
    (h : ∃ (i g off : Nat) (T' : TypeId) (cs : List Value) (v : Value), A.eval x = .pointer (some ⟨g, off, none⟩) ∧ own[i]? = some (g, T', cs) ∧ cs[off]? = some v ∧ K (A.put o.dst v) w) : Oper.wp P o A w K Q := by
  obtain ⟨i, g, off, T', cs, v, hx, hi, hv, h⟩ := h
  exact wp_load st T x ho g off hx hagg i T' cs hi v hv h

theorem wp_load_agg' (st : St M w0 w own) (T : TypeId) (x : Operand) (ho : o.op = .load T x) (hagg : ∀ w, (isAgg T).run P w = .ok true w) (n : Nat) (hsz : ∀ w, (sizeOf T).run P w = .ok n w)
    (h : ∃ (i g off : Nat) (T' : TypeId) (cs vs : List Value), A.eval x = .pointer (some ⟨g, off, none⟩) ∧ own[i]? = some (g, T', cs) ∧ (cs.drop off).take n = vs ∧ vs.length = n ∧ K (A.put o.dst (.agg vs.toArray)) w) : Oper.wp P o A w K Q := by
  obtain ⟨i, g, off, T', cs, vs, hx, hi, hv, hl, h⟩ := h
  exact wp_load_agg st T x ho g off hx hagg n hsz i T' cs hi vs hv hl h

theorem wp_store' (st : St M w0 w own) (T : TypeId) (x y : Operand) (ho : o.op = .store T x y) (n : Nat) (hsz : ∀ w, (sizeOf T).run P w = .ok n w)
    (h : ∃ (i g off : Nat) (T' : TypeId) (cs vs : List Value), A.eval x = .pointer (some ⟨g, off, none⟩) ∧ own[i]? = some (g, T', cs) ∧ (A.eval y).cells.toList = vs ∧ vs.length = n ∧ vs.all Value.oneCell' = true ∧ Nat.ble (off + vs.length) cs.length = true ∧
      ∀ w', St M w0 w' (own.set i (g, T', putL cs off vs)) → (∀ b, b ≠ g → w'.heap[b]? = w.heap[b]?) → w'.heap.size = w.heap.size → K (A.put o.dst undef) w') : Oper.wp P o A w K Q := by
  obtain ⟨i, g, off, T', cs, vs, hx, hi, hv, hl, h1, hle, h⟩ := h
  exact wp_store st T x y ho g off hx _ rfl vs hv (by rw [hl]; exact hsz) (by simpa using h1) i T' cs hi (Nat.le_of_ble_eq_true hle) h

end
end Go.Proofs.Ytbngblmdcggfdaa
