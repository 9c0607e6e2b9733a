/- Walks and plain laws, part 2. -/
import Derived.Test.YtealbofmlieicaaP1
import Derived.Deep.RegionWith
set_option linter.unusedSimpArgs false
set_option linter.unusedVariables false
set_option maxHeartbeats 16000000
set_option maxRecDepth 100000
namespace Go.Proofs.Ytealbofmlieicaa
open Go.RowKit
section
variable {P : Program} {w0 w : World} {M : List Nat} {own : Blks} {ops : Array Oper} {rest : List Oper} {o : Oper} {A : Act} {Q : Exit → Act → World → Prop}
theorem mem_box (st : St M w0 w own) (hgd : Region.wanted o (yielded ops A.tmps) = true) (T : TypeId) (x : Operand) (ho : o.op = .box T x) (v : Value) (hx : A.eval x = v) (cs : List Value) (hcs : v.cells.toList = cs)
  (h : ∀ g w', w0.heap.size ≤ g → St M w0 w' (own ++ [(g, T, cs)]) → Below w.heap.size w w' → wpList P ops Q rest (A.put o.dst (.pointer (some ⟨g, 0, none⟩))) w') : wpList P ops Q (o :: rest) A w := by
 subst hcs
 refine wpList_wanted hgd fun K hK' => ?_
 have hs := st.new T v.cells.toList
 simp only [Array.toArray_toList] at hs
 unfold Oper.wp
 simp only [execOp, ho, hx, Instr.box, newVar, newRow, newObj]
 exact hK' _ _ (h w.heap.size _ st.size hs ((Below.refl _ _).alloc (Nat.le_refl _) _))
theorem mem_alloc (st : St M w0 w own) (hgd : Region.wanted o (yielded ops A.tmps) = true) (T : TypeId) (ho : o.op = .alloc T) (z : Value) (hz : ∀ w, (zeroValue T).run P w = .ok z w) (cs : List Value) (hcs : z.cells.toList = cs)
  (h : ∀ g w', w0.heap.size ≤ g → St M w0 w' (own ++ [(g, T, cs)]) → Below w.heap.size w w' → wpList P ops Q rest (A.put o.dst (.pointer (some ⟨g, 0, none⟩))) w') : wpList P ops Q (o :: rest) A w := by
 subst hcs
 refine wpList_wanted hgd fun K hK' => ?_
 have hs := st.new T z.cells.toList
 simp only [Array.toArray_toList] at hs
 unfold Oper.wp
 simp only [execOp, ho, Instr.alloc, Sem.run_bind, hz, Result.andThen_ok, newVar, newRow, newObj]
 exact hK' _ _ (h w.heap.size _ st.size hs ((Below.refl _ _).alloc (Nat.le_refl _) _))
theorem St.cell (st : St M w0 w own) {i g : Nat} {T : TypeId} {cs : List Value} (hi : own[i]? = some (g, T, cs)) (j : Nat) : w.cell? ⟨g, j, none⟩ = cs[j]? := by
 rw [cell_of_row w g j cs.toArray T (0, 0) (st.blk _ (mgE hi))]
 simp
theorem St.free (st : St M w0 w own) {i g : Nat} {T : TypeId} {cs : List Value} (hi : own[i]? = some (g, T, cs)) (j : Nat) : w.frozen? ⟨g, j, none⟩ = false :=
 frozen_of_row w g j cs.toArray T (st.blk _ (mgE hi))
theorem add_plain (g o i : Nat) : (⟨g, o, none⟩ : Addr).add i = ⟨g, o + i, none⟩ := by unfold Addr.add; split <;> simp_all
theorem mem_load (st : St M w0 w own) (hgd : Region.wanted o (yielded ops A.tmps) = true) (T : TypeId) (x : Operand) (ho : o.op = .load T x) (g off : Nat) (hx : A.eval x = .pointer (some ⟨g, off, none⟩)) (hagg : ∀ w, (isAgg T).run P w = .ok false w)
  (i : Nat) (T' : TypeId) (cs : List Value) (hi : own[i]? = some (g, T', cs)) (v : Value) (hv : cs[off]? = some v)
  (h : wpList P ops Q rest (A.put o.dst v) w) : wpList P ops Q (o :: rest) A w := by
 refine wpList_wanted hgd fun K hK' => ?_
 have hc := (st.cell hi off).trans hv
 unfold Oper.wp
 simp only [execOp, ho, hx, Instr.loadAt, Instr.sureAddr, loadVar, Sem.run_bind, Sem.run_pure, Result.andThen_ok, hagg]
 simp [load, Sem.run, hc, Result.andThen]
 exact hK' _ _ h
theorem mem_load_agg (st : St M w0 w own) (hgd : Region.wanted o (yielded ops A.tmps) = true) (T : TypeId) (x : Operand) (ho : o.op = .load T x) (g off : Nat) (hx : A.eval x = .pointer (some ⟨g, off, none⟩)) (hagg : ∀ w, (isAgg T).run P w = .ok true w)
  (n : Nat) (hsz : ∀ w, (sizeOf T).run P w = .ok n w) (i : Nat) (T' : TypeId) (cs : List Value) (hi : own[i]? = some (g, T', cs)) (vs : List Value) (hv : (cs.drop off).take n = vs) (hl : vs.length = n)
  (h : wpList P ops Q rest (A.put o.dst (.agg vs.toArray)) w) : wpList P ops Q (o :: rest) A w := by
 refine wpList_wanted hgd fun K hK' => ?_
 have hl' : (loadCells ⟨g, off, none⟩ vs.length).run P w = .ok vs.toArray w := run_loadCells_list (P := P) w ⟨g, off, none⟩ vs (fun j v hj => by
  rw [add_plain, st.cell hi]
  subst hv
  have hjn : j < n := by have := (gEs hj).1; omega
  rw [List.getElem?_take_of_lt hjn, List.getElem?_drop] at hj
  exact hj)
 rw [hl] at hl'
 unfold Oper.wp
 simp only [execOp, ho, hx, Instr.loadAt, Instr.sureAddr, loadVar, Sem.run_bind, Sem.run_pure, Result.andThen_ok, hagg, hsz, if_true, hl']
 exact hK' _ _ h
theorem mem_store (st : St M w0 w own) (hgd : Region.wanted o (yielded ops A.tmps) = true) (T : TypeId) (x y : Operand) (ho : o.op = .store T x y) (g off : Nat) (hx : A.eval x = .pointer (some ⟨g, off, none⟩))
  (v : Value) (hy : A.eval y = v) (vs : List Value) (hvs : v.cells.toList = vs) (hsz : ∀ w, (sizeOf T).run P w = .ok vs.length w) (h1 : ∀ u ∈ vs, u.oneCell' = true)
  (i : Nat) (T' : TypeId) (cs : List Value) (hi : own[i]? = some (g, T', cs)) (hl : off + vs.length ≤ cs.length)
  (h : ∀ w', St M w0 w' (own.set i (g, T', putL cs off vs)) → (∀ b, b ≠ g → w'.heap[b]? = w.heap[b]?) → w'.heap.size = w.heap.size → wpList P ops Q rest (A.put o.dst undef) w') : wpList P ops Q (o :: rest) A w := by
 refine wpList_wanted hgd fun K hK' => ?_
 have hst : (storeCells ⟨g, off, none⟩ vs 0).run P w = .ok () (w.setCells g off vs) := run_storeCells_cells (P := P) g off vs 0 w
  (fun j hj => by rw [Nat.add_zero, st.cell hi]; rw [gEg (by omega)]; rfl) (fun j hj => by rw [Nat.add_zero]; exact st.free hi _) h1
 obtain ⟨a1, a2, a3, a4, a5, a6⟩ := setCells_block (w := w) vs off cs (st.blk _ (mgE hi))
 have hs' := st.put hi a1 a2 a3 a4 a5 a6
 have hcs : v.cells.size = vs.length := by rw [← hvs]; simp
 unfold Oper.wp
 simp only [execOp, ho, hx, hy, Instr.storeAt, Instr.sureAddr, storeVar, Sem.run_bind, Sem.run_pure, Result.andThen_ok, hsz, hcs, hvs, ne_eq, not_true, if_false, hst]
 exact hK' _ _ (h _ hs' a2 a3)
/-! ### The same, for the arms of a walk: what is found by looking stands behind one existential -/
theorem mem_load' (st : St M w0 w own) (T : TypeId) (x : Operand) (ho : o.op = .load T x) (hgd : Region.wanted o (yielded ops A.tmps) = true) (hagg : ∀ w, (isAgg T).run P w = .ok false w)
  (h : ∃ (i g off : Nat) (T' : TypeId) (cs : List Value) (v : Value), A.eval x = .pointer (some ⟨g, off, none⟩) ∧ own[i]? = some (g, T', cs) ∧ cs[off]? = some v ∧ wpList P ops Q rest (A.put o.dst v) w) : wpList P ops Q (o :: rest) A w := by
 obtain ⟨i, g, off, T', cs, v, hx, hi, hv, h⟩ := h
 exact mem_load st hgd T x ho g off hx hagg i T' cs hi v hv h
theorem mem_load_agg' (st : St M w0 w own) (T : TypeId) (x : Operand) (ho : o.op = .load T x) (hgd : Region.wanted o (yielded ops A.tmps) = true) (hagg : ∀ w, (isAgg T).run P w = .ok true w) (n : Nat) (hsz : ∀ w, (sizeOf T).run P w = .ok n w)
  (h : ∃ (i g off : Nat) (T' : TypeId) (cs vs : List Value), A.eval x = .pointer (some ⟨g, off, none⟩) ∧ own[i]? = some (g, T', cs) ∧ (cs.drop off).take n = vs ∧ vs.length = n ∧ wpList P ops Q rest (A.put o.dst (.agg vs.toArray)) w) : wpList P ops Q (o :: rest) A w := by
 obtain ⟨i, g, off, T', cs, vs, hx, hi, hv, hl, h⟩ := h
 exact mem_load_agg st hgd T x ho g off hx hagg n hsz i T' cs hi vs hv hl h
theorem mem_store' (st : St M w0 w own) (T : TypeId) (x y : Operand) (ho : o.op = .store T x y) (hgd : Region.wanted o (yielded ops A.tmps) = true) (n : Nat) (hsz : ∀ w, (sizeOf T).run P w = .ok n w)
  (h : ∃ (i g off : Nat) (T' : TypeId) (cs vs : List Value), A.eval x = .pointer (some ⟨g, off, none⟩) ∧ own[i]? = some (g, T', cs) ∧ (A.eval y).cells.toList = vs ∧ vs.length = n ∧ vs.all Value.oneCell' = true ∧ Nat.ble (off + vs.length) cs.length = true ∧
   ∀ w', St M w0 w' (own.set i (g, T', putL cs off vs)) → (∀ b, b ≠ g → w'.heap[b]? = w.heap[b]?) → w'.heap.size = w.heap.size → wpList P ops Q rest (A.put o.dst undef) w') : wpList P ops Q (o :: rest) A w := by
 obtain ⟨i, g, off, T', cs, vs, hx, hi, hv, hl, h1, hle, h⟩ := h
 exact mem_store st hgd T x y ho g off hx _ rfl vs hv (by rw [hl]; exact hsz) (by simpa using h1) i T' cs hi (Nat.le_of_ble_eq_true hle) h
/-! The arms of a walk in short: each stands only at its kind of operation; the block, the guard and what is read are found by looking; what the blocks are behind it is written out. -/
theorem Blks.at0 {x : Nat × TypeId × List Value} {l : Blks} : (x :: l)[0]? = some x := rfl
theorem Blks.at1 {y0 x : Nat × TypeId × List Value} {l : Blks} : (y0 :: x :: l)[1]? = some x := rfl
theorem Blks.at2 {y0 y1 x : Nat × TypeId × List Value} {l : Blks} : (y0 :: y1 :: x :: l)[2]? = some x := rfl
theorem Blks.at3 {y0 y1 y2 x : Nat × TypeId × List Value} {l : Blks} : (y0 :: y1 :: y2 :: x :: l)[3]? = some x := rfl
theorem Blks.at4 {y0 y1 y2 y3 x : Nat × TypeId × List Value} {l : Blks} : (y0 :: y1 :: y2 :: y3 :: x :: l)[4]? = some x := rfl
theorem Blks.at5 {y0 y1 y2 y3 y4 x : Nat × TypeId × List Value} {l : Blks} : (y0 :: y1 :: y2 :: y3 :: y4 :: x :: l)[5]? = some x := rfl
theorem Blks.at6 {y0 y1 y2 y3 y4 y5 x : Nat × TypeId × List Value} {l : Blks} : (y0 :: y1 :: y2 :: y3 :: y4 :: y5 :: x :: l)[6]? = some x := rfl
theorem Blks.at7 {y0 y1 y2 y3 y4 y5 y6 x : Nat × TypeId × List Value} {l : Blks} : (y0 :: y1 :: y2 :: y3 :: y4 :: y5 :: y6 :: x :: l)[7]? = some x := rfl
theorem Blks.at8 {y0 y1 y2 y3 y4 y5 y6 y7 x : Nat × TypeId × List Value} {l : Blks} : (y0 :: y1 :: y2 :: y3 :: y4 :: y5 :: y6 :: y7 :: x :: l)[8]? = some x := rfl
theorem mX {T : TypeId} {d : Option Tmp} {ty : TypeId} {p : String} {af : Array Edge} {gd : Option (Nat × Bool)} {x : Operand} (st : St M w0 w own) (hagg : ∀ w, (isAgg T).run P w = .ok false w) {g off i : Nat} {T' : TypeId} {cs : List Value} {v : Value} (h : wpList P ops Q rest (A.put d v) w)
  (hx : A.eval x = .pointer (some ⟨g, off, none⟩) := by with_unfolding_all exact rfl) (hi : own[i]? = some (g, T', cs) := by first | exact Blks.at0 | exact Blks.at1 | exact Blks.at2 | exact Blks.at3 | exact Blks.at4 | exact Blks.at5 | exact Blks.at6 | exact Blks.at7 | exact Blks.at8 | with_unfolding_all (first | exact Blks.at0 | exact Blks.at1 | exact Blks.at2 | exact Blks.at3 | exact Blks.at4 | exact Blks.at5 | exact Blks.at6 | exact Blks.at7 | exact Blks.at8))
  (hv : cs[off]? = some v := by with_unfolding_all exact rfl) (hgd : Region.wanted ⟨d, .load T x, ty, p, af, gd⟩ (yielded ops A.tmps) = true := by first | exact wanted_none rfl | exact wanted_some rfl (by simp [yielded, Act.put])) : wpList P ops Q (⟨d, .load T x, ty, p, af, gd⟩ :: rest) A w := mem_load' st T x rfl hgd hagg ⟨i, g, off, T', cs, v, hx, hi, hv, h⟩
theorem mXA {T : TypeId} {d : Option Tmp} {ty : TypeId} {p : String} {af : Array Edge} {gd : Option (Nat × Bool)} {x : Operand} (st : St M w0 w own) (hagg : ∀ w, (isAgg T).run P w = .ok true w) {n : Nat} (hsz : ∀ w, (sizeOf T).run P w = .ok n w) {g off i : Nat} {T' : TypeId} {cs vs : List Value} (h : wpList P ops Q rest (A.put d (.agg vs.toArray)) w)
  (hx : A.eval x = .pointer (some ⟨g, off, none⟩) := by with_unfolding_all exact rfl) (hi : own[i]? = some (g, T', cs) := by first | exact Blks.at0 | exact Blks.at1 | exact Blks.at2 | exact Blks.at3 | exact Blks.at4 | exact Blks.at5 | exact Blks.at6 | exact Blks.at7 | exact Blks.at8 | with_unfolding_all (first | exact Blks.at0 | exact Blks.at1 | exact Blks.at2 | exact Blks.at3 | exact Blks.at4 | exact Blks.at5 | exact Blks.at6 | exact Blks.at7 | exact Blks.at8))
  (hv : (cs.drop off).take n = vs := by with_unfolding_all exact rfl) (hl : vs.length = n := by with_unfolding_all exact rfl) (hgd : Region.wanted ⟨d, .load T x, ty, p, af, gd⟩ (yielded ops A.tmps) = true := by first | exact wanted_none rfl | exact wanted_some rfl (by simp [yielded, Act.put])) : wpList P ops Q (⟨d, .load T x, ty, p, af, gd⟩ :: rest) A w := mem_load_agg' st T x rfl hgd hagg n hsz ⟨i, g, off, T', cs, vs, hx, hi, hv, hl, h⟩
theorem mS {T : TypeId} {d : Option Tmp} {ty : TypeId} {p : String} {af : Array Edge} {gd : Option (Nat × Bool)} {x y : Operand} (i : Nat) (st : St M w0 w own) {n : Nat} (hsz : ∀ w, (sizeOf T).run P w = .ok n w) {g off : Nat} {T' : TypeId} {cs vs : List Value} {own' : Blks}
  (h : ∀ w', St M w0 w' own' → (∀ b, b ≠ g → w'.heap[b]? = w.heap[b]?) → w'.heap.size = w.heap.size → wpList P ops Q rest (A.put d undef) w')
  (hx : A.eval x = .pointer (some ⟨g, off, none⟩) := by with_unfolding_all exact rfl) (hv : (A.eval y).cells.toList = vs := by with_unfolding_all exact rfl) (hi : own[i]? = some (g, T', cs) := by with_unfolding_all exact rfl)
  (hl : vs.length = n := by with_unfolding_all exact rfl) (h1 : vs.all Value.oneCell' = true := by with_unfolding_all exact rfl) (hle : Nat.ble (off + vs.length) cs.length = true := by with_unfolding_all exact rfl) (ho : own.set i (g, T', putL cs off vs) = own' := by first | (simp [Act.eval, Act.put, Value.cells, putL]; done) | (simp [Act.eval, Act.put, Value.cells, putL]; exact rfl) | exact rfl) (hgd : Region.wanted ⟨d, .store T x y, ty, p, af, gd⟩ (yielded ops A.tmps) = true := by first | exact wanted_none rfl | exact wanted_some rfl (by simp [yielded, Act.put])) : wpList P ops Q (⟨d, .store T x y, ty, p, af, gd⟩ :: rest) A w := by
 subst ho
 exact mem_store' st T x y rfl hgd n hsz ⟨i, g, off, T', cs, vs, hx, hi, hv, hl, h1, hle, h⟩
theorem mSX {T : TypeId} {d : Option Tmp} {ty : TypeId} {p : String} {af : Array Edge} {gd : Option (Nat × Bool)} {x y : Operand} {i : Nat} (st : St M w0 w own) {n : Nat} (hsz : ∀ w, (sizeOf T).run P w = .ok n w) {g off : Nat} {T' : TypeId} {cs vs : List Value} {own' : Blks}
  (h : ∀ w', St M w0 w' own' → (∀ b, b ≠ g → w'.heap[b]? = w.heap[b]?) → w'.heap.size = w.heap.size → wpList P ops Q rest (A.put d undef) w')
  (hx : A.eval x = .pointer (some ⟨g, off, none⟩) := by with_unfolding_all exact rfl) (hv : (A.eval y).cells.toList = vs := by with_unfolding_all exact rfl) (hi : own[i]? = some (g, T', cs) := by first | exact Blks.at0 | exact Blks.at1 | exact Blks.at2 | exact Blks.at3 | exact Blks.at4 | exact Blks.at5 | exact Blks.at6 | exact Blks.at7 | exact Blks.at8 | with_unfolding_all (first | exact Blks.at0 | exact Blks.at1 | exact Blks.at2 | exact Blks.at3 | exact Blks.at4 | exact Blks.at5 | exact Blks.at6 | exact Blks.at7 | exact Blks.at8))
  (hl : vs.length = n := by with_unfolding_all exact rfl) (h1 : vs.all Value.oneCell' = true := by with_unfolding_all exact rfl) (hle : Nat.ble (off + vs.length) cs.length = true := by with_unfolding_all exact rfl) (ho : own.set i (g, T', putL cs off vs) = own' := by first | (simp [Act.eval, Act.put, Value.cells, putL]; done) | (simp [Act.eval, Act.put, Value.cells, putL]; exact rfl) | exact rfl) (hgd : Region.wanted ⟨d, .store T x y, ty, p, af, gd⟩ (yielded ops A.tmps) = true := by first | exact wanted_none rfl | exact wanted_some rfl (by simp [yielded, Act.put])) : wpList P ops Q (⟨d, .store T x y, ty, p, af, gd⟩ :: rest) A w := by
 subst ho
 exact mem_store' st T x y rfl hgd n hsz ⟨i, g, off, T', cs, vs, hx, hi, hv, hl, h1, hle, h⟩
theorem mA {T : TypeId} {d : Option Tmp} {ty : TypeId} {p : String} {af : Array Edge} {gd : Option (Nat × Bool)} (st : St M w0 w own) {z : Value} (hz : ∀ w, (zeroValue T).run P w = .ok z w) {own' : Nat → Blks} (h : ∀ g w', w0.heap.size ≤ g → St M w0 w' (own' g) → wpList P ops Q rest (A.put d (.pointer (some ⟨g, 0, none⟩))) w')
  (ho : ∀ g, own ++ [(g, T, z.cells.toList)] = own' g := by intro g; first | (simp [Act.eval, Act.put, Value.cells, putL]; done) | (simp [Act.eval, Act.put, Value.cells, putL]; exact rfl) | exact rfl) (hgd : Region.wanted ⟨d, .alloc T, ty, p, af, gd⟩ (yielded ops A.tmps) = true := by first | exact wanted_none rfl | exact wanted_some rfl (by simp [yielded, Act.put])) : wpList P ops Q (⟨d, .alloc T, ty, p, af, gd⟩ :: rest) A w :=
 mem_alloc st hgd T rfl z hz _ rfl fun g w' h1 h2 _ => h g w' h1 (ho g ▸ h2)
theorem mB (T : TypeId) {d : Option Tmp} {ty : TypeId} {p : String} {af : Array Edge} {gd : Option (Nat × Bool)} {x : Operand} (st : St M w0 w own) {own' : Nat → Blks} (h : ∀ g w', w0.heap.size ≤ g → St M w0 w' (own' g) → wpList P ops Q rest (A.put d (.pointer (some ⟨g, 0, none⟩))) w')
  (ho : ∀ g, own ++ [(g, T, (A.eval x).cells.toList)] = own' g := by intro g; first | (simp [Act.eval, Act.put, Value.cells, putL]; done) | (simp [Act.eval, Act.put, Value.cells, putL]; exact rfl) | exact rfl) (hgd : Region.wanted ⟨d, .box T x, ty, p, af, gd⟩ (yielded ops A.tmps) = true := by first | exact wanted_none rfl | exact wanted_some rfl (by simp [yielded, Act.put])) : wpList P ops Q (⟨d, .box T x, ty, p, af, gd⟩ :: rest) A w :=
 mem_box st hgd T x rfl _ rfl _ rfl fun g w' h1 h2 _ => h g w' h1 (ho g ▸ h2)
end
def putAll (x : Nat → Value) : List (Nat × Option Tmp) → Act → Act
 | [], a => a
 | (i, t) :: l, a => putAll x l (a.put t (x i))
def upd (x : Nat → Value) (i : Nat) (v : Value) : Nat → Value := fun j => if j = i then v else x j
def apartD (d d' : Option Tmp) : Bool := match d, d' with | some a, some b => a != b | _, _ => true
theorem put_comm (a : Act) (d d' : Option Tmp) (u v : Value) (h : apartD d d' = true) : (a.put d u).put d' v = (a.put d' v).put d u := by
 cases d <;> cases d' <;> simp only [Act.put]
 rename_i p q
 simp [apartD] at h
 rw [Array.setIfInBounds_comm _ _ h]
def marked (n : Nat) (L : List Nat) : Array Bool := (Array.range n).map fun i => L.contains i
def predsOf (ops : Array Oper) (i : Nat) : List Nat := ((ops[i]?).map fun o => (o.after.toList.filter fun e => Region.binds .any e).map (·.on)).getD []
def anc (ops : Array Oper) : Nat → Nat → List Nat
 | 0, _ => []
 | k + 1, i => predsOf ops i ++ (predsOf ops i).flatMap (anc ops k)
def aheadOk (ops : Array Oper) (D : List (Nat × Option Tmp)) : Bool :=
 let S := D.map (·.1)
 (S.all fun i => decide (i < ops.size) && ((ops[i]?).map fun o => o.after.all fun e => !Region.binds .any e || (S.contains e.on && decide (e.on < i))).getD false) &&
 ((List.range ops.size).all fun i => S.contains i || ((ops[i]?).map fun o => (o.after.any fun e => Region.binds .any e && !S.contains e.on) || S.all fun j => (anc ops ops.size i).contains j).getD false) &&
 decide (D.Pairwise fun j k => j.1 ≠ k.1 ∧ apartD j.2 k.2 = true)
section
variable {P : Program} {ops : Array Oper} {Q : Exit → Act → World → Prop}
def lookD (D : List (Nat × Option Tmp)) (a : Act) (i : Nat) : Value := match D.find? (fun p => p.1 == i) with | some p => (p.2.map fun t => a.tmps.getD t undef).getD undef | none => undef
theorem wpOp_plain {i : Nat} {o : Oper} {K : Act → World → Prop} {a : Act} {w : World} (ho : ops[i]? = some o) (hg : Region.wanted o (yielded ops a.tmps) = true) (h : o.wp P a w K Q) : wpOp P ops Q i K a w := by
 simp only [wpOp, ho, hg, if_true]
 exact .inl h
theorem wp_value {o : Oper} {K : Act → World → Prop} {a : Act} {w w' : World} {v : Value} (h : (execOp a.eval o).run P w = .ok (.value v) w') (hK : K (a.put o.dst v) w') : o.wp P a w K Q := by
 unfold Oper.wp
 rw [h]
 exact hK
end
theorem Own.move {base : Nat} {e : TypeId} {w w' : World} {α : Type} {sz : Nat} {R R' : List Value → α → Prop} {a : Option Addr} {c : Nat} {xs : List α} (h : Own base e w sz R a c xs) (hk : ∀ b, base ≤ b → b < w.heap.size → w'.heap[b]? = w.heap[b]?) (hR : ∀ cs x, R cs x → R' cs x) : Own base e w' sz R' a c xs := by
 obtain ⟨css, h1, h2, h3, h4⟩ := h
 refine ⟨css, h1, h2, fun i x cs hx hc => hR _ _ (h3 i x cs hx hc), h4.1, ?_⟩
 rcases h4.2 with h | ⟨g, cap, cur, hv, hg, hh, r⟩
 ·exact .inl h
 ·exact .inr ⟨g, cap, cur, hv, hg, by rw [hk g hg (Array.getElem?_eq_some_iff.1 hh).1]; exact hh, r⟩
theorem lay_list : ∀ (l : List Value) (k : Nat) (arr : Array Value), k + l.length ≤ arr.size → ((l.zipIdx k).foldl (fun cs p => cs.setIfInBounds p.2 p.1) arr).toList = arr.toList.take k ++ l ++ arr.toList.drop (k + l.length) := by
 intro l
 induction l with
 | nil => intro k arr _; simp
 | cons v l ih =>
  intro k arr h
  simp only [List.length_cons] at h
  rw [List.zipIdx_cons, List.foldl_cons, ih (k + 1) (arr.setIfInBounds k v) (by simp; omega)]
  have hk : k < arr.toList.length := by simp; omega
  have e1 : (arr.setIfInBounds k v).toList = arr.toList.set k v := by simp
  rw [e1]
  have e2 : (arr.toList.set k v).take (k + 1) = arr.toList.take k ++ [v] := by
   rw [List.take_succ_eq_append_getElem (by simpa using hk)]
   simp [List.take_set]
   exact List.set_eq_of_length_le (by simp; omega)
  have e3 : (arr.toList.set k v).drop (k + 1 + l.length) = arr.toList.drop (k + (l.length + 1)) := by
   rw [List.drop_set_of_lt (by omega)]
   congr 1
   omega
  rw [e2, e3]
  simp
theorem fill_one (cells : Array Value) (v : Value) (n : Nat) (h1 : v.cells.size = n) (h2 : cells.size = n) : Instr.fill (fun i => some (i * n, n)) cells [(0, v)] = some v.cells := by
 have h3 : (v.cells.zipIdx.foldl (fun cs (c, j) => cs.setIfInBounds (0 * n + j) c) cells) = v.cells := by
  have := lay_list v.cells.toList 0 cells (by simp; omega)
  rw [← Array.foldl_toList, Array.toList_zipIdx]
  simp only [Nat.zero_mul, Nat.zero_add] at this ⊢
  apply Array.toList_inj.1
  refine Eq.trans ?_ (this.trans ?_)
  ·rfl
  ·simp; omega
 simp only [Instr.fill]
 rw [h3]
 rw [if_neg (by simp; omega)]
section
variable {P : Program} {w0 w : World} {M : List Nat} {own : Blks} {ops : Array Oper} {rest : List Oper} {o : Oper} {A : Act} {Q : Exit → Act → World → Prop} {K : Act → World → Prop} {E : Prop}
theorem wp_build1 (st : St M w0 w own) (T T' : TypeId) (x : Operand) (ho : o.op = .buildSlice T 1 #[(0, x)]) (ht : P.underlying T = some (.slice T')) (n : Nat) (hsz : ∀ w, (sizeOf T').run P w = .ok n w) (hn : 0 < n) (hn' : n ≤ 1000) (z : Value) (hz : ∀ w, (zeroValue T').run P w = .ok z w) (cs : List Value) (hx : (A.eval x).cells.toList = cs) (hc : cs.length = n)
  (h : ∀ g w', w0.heap.size ≤ g → g = w.heap.size → St M w0 w' (own ++ [(g, T', cs)]) → Below w.heap.size w w' → w'.heap.size = w.heap.size + 1 → K (A.put o.dst (.slice (some ⟨g, 0, none⟩) 1 1)) w') : Oper.wp P o A w K Q := by
 subst hx
 have hs := st.new T' (A.eval x).cells.toList
 simp only [Array.toArray_toList] at hs
 have hf := fill_one ((Array.range (1 * n)).map (z.cells[·% z.cells.size]!)) (A.eval x) n (by simpa using hc) (by simp)
 have hgt : ¬ 2 ^ 24 < 1 * n := by omega
 have hne : ¬ 1 * n = 0 := by omega
 unfold Oper.wp
 simp only [execOp, ho, Instr.buildSlice, Sem.run_bind, run_underlying ht, Result.andThen_ok, hsz, hgt, hne, if_false, hz, Sem.run_pure, gt_iff_lt, List.map_toArray, List.map_cons, List.map_nil, hf, newRow, newObj]
 exact h w.heap.size _ st.size rfl hs ((Below.refl _ _).alloc (Nat.le_refl _) _) (by simp)
theorem wpList_build1 (st : St M w0 w own) (hgd : Region.wanted o (yielded ops A.tmps) = true) (T T' : TypeId) (x : Operand) (ho : o.op = .buildSlice T 1 #[(0, x)]) (ht : P.underlying T = some (.slice T')) (n : Nat) (hsz : ∀ w, (sizeOf T').run P w = .ok n w) (hn : 0 < n) (hn' : n ≤ 1000) (z : Value) (hz : ∀ w, (zeroValue T').run P w = .ok z w) (cs : List Value) (hx : (A.eval x).cells.toList = cs) (hc : cs.length = n)
  (h : ∀ g w', w0.heap.size ≤ g → g = w.heap.size → St M w0 w' (own ++ [(g, T', cs)]) → Below w.heap.size w w' → w'.heap.size = w.heap.size + 1 → wpList P ops Q rest (A.put o.dst (.slice (some ⟨g, 0, none⟩) 1 1)) w') : wpList P ops Q (o :: rest) A w :=
 wpList_wanted hgd fun _ hK => wp_build1 st T T' x ho ht n hsz hn hn' z hz cs hx hc fun g w' h1 h2 h3 h4 h5 => hK _ _ (h g w' h1 h2 h3 h4 h5)
end
section
variable {P : Program} {ops : Array Oper} {Q : Exit → Act → World → Prop}
end
theorem Own.apart {b b' : Nat} {e e' : TypeId} {w : World} {α β : Type} {sz sz' : Nat} {R : List Value → α → Prop} {R' : List Value → β → Prop} {a a' : Option Addr} {c c' : Nat} {xs : List α} {ys : List β} (h : Own b e w sz R a c xs) (h' : Own b' e' w sz' R' a' c' ys) (he : e ≠ e') :
  ∀ k, a.map (·.block) = some k → a'.map (·.block) ≠ some k := by
 obtain ⟨_, _, _, _, _, h5⟩ := h
 obtain ⟨_, _, _, _, _, h5'⟩ := h'
 intro k hk hk'
 rcases h5 with ⟨e1, _⟩ | ⟨g, cap, cur, e1, _, hg, _⟩
 ·simp at e1; simp [e1.1] at hk
 ·rcases h5' with ⟨e2, _⟩ | ⟨g', cap', cur', e2, _, hg', _⟩
  ·simp at e2; simp [e2.1] at hk'
  ·simp at e1 e2
   rw [e1.1] at hk
   rw [e2.1] at hk'
   simp at hk hk'
   subst hk hk'
   rw [hg] at hg'
   simp at hg'
   exact he hg'.2
theorem St.turn {M : List Nat} {w0 w w' : World} {own : Blks} (st : St M w0 w own) {i g : Nat} {T : TypeId} {cs cs' : List Value} (hi : own[i]? = some (g, T, cs)) (h : St [g] w w' [(g, T, cs')]) : St M w0 w' (own.set i (g, T, cs')) := by
 have hin : (g, T, cs) ∈ own := mgE hi
 have hilt : i < own.length := (gEs hi).1
 have hget : own[i] = (g, T, cs) := (gEs hi).2
 have hids : (own.set i (g, T, cs')).map (·.1) = own.map (·.1) := by
  apply List.ext_getElem?
  intro j
  simp only [List.getElem?_map, List.getElem?_set]
  by_cases hj : i = j
  ·subst hj; simp [hilt, hget]
  ·simp [hj]
 refine ⟨h.os.trans st.os, h.tape.trans st.tape, h.output.trans st.output, Nat.le_trans st.size h.size, ?_, ?_, ?_, ?_⟩
 ·intro b hb hM
  have hbg : b ≠ g := by
   rintro rfl
   rcases st.mine _ hin with hm | hm
   ·exact hM hm
   ·simp at hm; omega
  rw [h.frame b (Nat.lt_of_lt_of_le hb st.size) (by simpa using hbg)]
  exact st.frame b hb hM
 ·intro x hx
  obtain ⟨j, hj⟩ := List.mem_iff_getElem?.1 hx
  rw [List.getElem?_set] at hj
  by_cases hij : i = j
  ·subst hij; simp [hilt] at hj; subst hj; exact h.blk (g, T, cs') (by simp)
  ·rw [if_neg hij] at hj
   have hxin := mgE hj
   have hne : x.1 ≠ g := by
    have hp := List.pairwise_iff_getElem.1 st.ne
    have hjl := (gEs hj).1
    have hjx := (gEs hj).2
    rcases Nat.lt_or_gt_of_ne hij with hlt | hlt
    ·have := hp i j hilt hjl hlt; rw [hget, hjx] at this; exact fun e => this e.symm
    ·have := hp j i hjl hilt hlt; rw [hget, hjx] at this; exact this
   rw [h.frame x.1 (st.lt hxin) (by simpa using hne)]
   exact st.blk x hxin
 ·intro x hx
  have : x.1 ∈ (own.set i (g, T, cs')).map (·.1) := List.mem_map.2 ⟨x, hx, rfl⟩
  rw [hids] at this
  obtain ⟨y, hy, e⟩ := List.mem_map.1 this
  rw [← e]; exact st.mine y hy
 ·have : ((own.set i (g, T, cs')).map (·.1)).Pairwise (·≠ ·) := by rw [hids]; exact List.pairwise_map.2 st.ne
  exact List.pairwise_map.1 this
theorem St.hand {w : World} {g : Nat} {T : TypeId} {cs : List Value} (h : w.heap[g]? = some (.cells cs.toArray T (0, 0))) : St [g] w w [(g, T, cs)] :=
 ⟨rfl, rfl, rfl, Nat.le_refl _, fun _ _ _ => rfl, by simpa using h, by simp, by simp⟩
def certsOk : List Cert → List Cert → Bool
 | _, [] => true
 | pre, x :: l => goodCertB x && !(inL pre x) && certsOk (pre ++ [x]) l
def goodCerts (l : List Cert) : Bool := certsOk [] l && decide (l.length ≤ 24)
def addC (l : List Cert) (c : Cert) : List Cert × Int :=
 if (goodCerts l && goodCertB c) = false then ([], 2) else if inL l c = true then (l, 0) else if 24 ≤ l.length then ([], 5) else (l ++ [c], 0)
inductive Reach (l : List Cert) (c now : Int) : Int → Prop
 | home : Reach l c now ((c / 20))
 | step (x : Cert) : x ∈ l → x.c = c → now ≤ x.till → Reach l c now x.by_ → Reach l c now x.host
noncomputable def trustB (l : List Cert) (c now h : Int) : Bool := @decide (catOk c = true ∧ goodCerts l = true ∧ Reach l c now h) (Classical.propDecidable _)
theorem home_range {c : Int} (h : catOk c = true) : 0 ≤ c / 20 ∧ c / 20 < 4 := by
 have hc := (catOk_iff _).1 h
 omega
structure Four where
 b0 : Bool
 b1 : Bool
 b2 : Bool
 b3 : Bool
 deriving DecidableEq
def Four.get (e : Four) : Nat → Bool
 | 0 => e.b0
 | 1 => e.b1
 | 2 => e.b2
 | 3 => e.b3
 | _ => false
def Four.set (e : Four) : Nat → Four
 | 0 => { e with b0 := true }
 | 1 => { e with b1 := true }
 | 2 => { e with b2 := true }
 | 3 => { e with b3 := true }
 | _ => e
def Four.no (e : Four) : Nat := (if e.b0 then 0 else 1) + (if e.b1 then 0 else 1) + (if e.b2 then 0 else 1) + (if e.b3 then 0 else 1)
def fourL (e : Four) : List Value := [.bool e.b0, .bool e.b1, .bool e.b2, .bool e.b3]
theorem Four.get_set (e : Four) {k : Nat} (h : k < 4) (j : Nat) : (e.set k).get j = if j = k then true else e.get j := by
 match k, h with
 | 0, _ => match j with | 0 => rfl | 1 => rfl | 2 => rfl | 3 => rfl | n + 4 => rfl
 | 1, _ => match j with | 0 => rfl | 1 => rfl | 2 => rfl | 3 => rfl | n + 4 => rfl
 | 2, _ => match j with | 0 => rfl | 1 => rfl | 2 => rfl | 3 => rfl | n + 4 => rfl
 | 3, _ => match j with | 0 => rfl | 1 => rfl | 2 => rfl | 3 => rfl | n + 4 => rfl
def live (c now : Int) (x : Cert) : Prop := x.c = c ∧ now ≤ x.till
structure TrInv (l : List Cert) (c now : Int) (e : Four) (work : List Int) (h : Int) (k : Nat) : Prop where
 sound : ∀ n : Nat, e.get n = true → Reach l c now n
 wait : ∀ x ∈ work, Reach l c now x ∧ 0 ≤ x ∧ x < 4
 edge : ∀ (i : Nat) (hi : i < l.length), live c now l[i] → (l[i].by_ ≠ h ∨ i < k) → e.get l[i].by_.toNat = true → e.get l[i].host.toNat = true ∨ l[i].host ∈ work
 home : e.get ((c / 20)).toNat = true ∨ (c / 20) ∈ work
def four0 : Four := ⟨false, false, false, false⟩
theorem four0_get (n : Nat) : four0.get n = false := by
 match n with
 | 0 => rfl
 | 1 => rfl
 | 2 => rfl
 | 3 => rfl
 | n + 4 => rfl
theorem TrInv.start {l : List Cert} {c now : Int} (hc : catOk c = true) : TrInv l c now four0 [(c / 20)] (-1) 0 :=
 ⟨fun n hn => absurd hn (by rw [four0_get]; simp), fun x hx => (by simp at hx; subst hx; exact ⟨.home, home_range hc⟩),
 fun i hi _ _ hh => absurd hh (by rw [four0_get]; simp), .inr (by simp)⟩
theorem TrInv.enter {l : List Cert} {c now : Int} {e : Four} {work : List Int} {n : Nat} {k : Nat} (hl : ∀ x ∈ l, 0 ≤ x.by_ ∧ 0 ≤ x.host) (hc : 0 ≤ (c / 20)) (hn : n < 4) (hi : TrInv l c now e ((n : Int) :: work) (-1) k) : TrInv l c now (e.set n) work n 0 := by
 have hg : ∀ j, e.get j = true → (e.set n).get j = true := fun j hj => by rw [Four.get_set e hn]; split <;> simp_all
 refine ⟨fun j hj => ?_, fun x hx => hi.wait x (by simp [hx]), fun i h1 h2 h3 h4 => ?_, ?_⟩
 ·rw [Four.get_set e hn] at hj
  by_cases h : j = n
  ·subst h; exact (hi.wait _ (by simp)).1
  ·rw [if_neg h] at hj; exact hi.sound j hj
 ·have hb := hl _ (List.getElem_mem h1)
  have hne : l[i].by_ ≠ (n : Int) := by rcases h3 with h | h; exact h; omega
  rw [Four.get_set e hn, if_neg (by omega)] at h4
  rcases hi.edge i h1 h2 (.inl (by omega)) h4 with h | h
  ·exact .inl (hg _ h)
  ·rcases List.mem_cons.1 h with h | h
   ·exact .inl (by rw [h, Four.get_set e hn]; simp)
   ·exact .inr h
 ·rcases hi.home with h | h
  ·exact .inl (hg _ h)
  ·rcases List.mem_cons.1 h with h | h
   ·exact .inl (by rw [h, Four.get_set e hn]; simp)
   ·exact .inr h
noncomputable def trustF (l : List Cert) (c now : Int) : Four := ⟨trustB l c now 0, trustB l c now 1, trustB l c now 2, trustB l c now 3⟩
theorem Reach.more {l l' : List Cert} {c now now' h : Int} (hl : ∀ x ∈ l, x ∈ l') (hn : now' ≤ now) (hr : Reach l c now h) : Reach l' c now' h := by
 induction hr with
 | home => exact .home
 | step x hx h1 h2 _ ih => exact .step x (hl x hx) h1 (Int.le_trans hn h2) ih
end Go.Proofs.Ytealbofmlieicaa
