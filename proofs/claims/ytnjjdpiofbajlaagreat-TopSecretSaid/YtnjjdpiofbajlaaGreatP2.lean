/- Walks and plain laws, part 2. -/
import Derived.Test.YtnjjdpiofbajlaaGreatP1
import Derived.Deep.RegionWith
set_option linter.unusedSimpArgs false
set_option linter.unusedVariables false
set_option maxHeartbeats 16000000
set_option maxRecDepth 100000
namespace Go.Proofs.YtnjjdpiofbajlaaGreat
open Go.RowKit
section
variable {P : Program} {w0 w : World} {M : List Nat} {own : Blks} {ops : Array Oper} {rest : List Oper} {o : Oper} {A : Act} {Q : Exit → Act → World → Prop}
theorem mem_box (st : St M w0 w own) (hgd : Region.wanted o (yielded ops A.tmps) = true) (T : TypeId) (x : Operand) (ho : o.op = .box T x) (v : Value) (hx : A.eval x = v) (cs : List Value) (hcs : v.cells.toList = cs)
  (h : ∀ g w', w0.heap.size ≤ g → St M w0 w' (own ++ [(g, T, cs)]) → Below w.heap.size w w' → wpList P ops Q rest (A.put o.dst (.pointer (some ⟨g, 0, none⟩))) w') : wpList P ops Q (o :: rest) A w := by
 subst hcs
 refine wpList_wanted hgd fun K hK' => ?_
 have hs := st.new T v.cells.toList
 simp only [Array.toArray_toList] at hs
 unfold Oper.wp
 simp only [execOp, ho, hx, Instr.box, newVar, newRow, newObj]
 exact hK' _ _ (h w.heap.size _ st.size hs ((Below.refl _ _).alloc (Nat.le_refl _) _))
theorem mem_alloc (st : St M w0 w own) (hgd : Region.wanted o (yielded ops A.tmps) = true) (T : TypeId) (ho : o.op = .alloc T) (z : Value) (hz : ∀ w, (zeroValue T).run P w = .ok z w) (cs : List Value) (hcs : z.cells.toList = cs)
  (h : ∀ g w', w0.heap.size ≤ g → St M w0 w' (own ++ [(g, T, cs)]) → Below w.heap.size w w' → wpList P ops Q rest (A.put o.dst (.pointer (some ⟨g, 0, none⟩))) w') : wpList P ops Q (o :: rest) A w := by
 subst hcs
 refine wpList_wanted hgd fun K hK' => ?_
 have hs := st.new T z.cells.toList
 simp only [Array.toArray_toList] at hs
 unfold Oper.wp
 simp only [execOp, ho, Instr.alloc, Sem.run_bind, hz, Result.andThen_ok, newVar, newRow, newObj]
 exact hK' _ _ (h w.heap.size _ st.size hs ((Below.refl _ _).alloc (Nat.le_refl _) _))
theorem St.cell (st : St M w0 w own) {i g : Nat} {T : TypeId} {cs : List Value} (hi : own[i]? = some (g, T, cs)) (j : Nat) : w.cell? ⟨g, j, none⟩ = cs[j]? := by
 rw [cell_of_row w g j cs.toArray T (0, 0) (st.blk _ (mgE hi))]
 simp
theorem St.free (st : St M w0 w own) {i g : Nat} {T : TypeId} {cs : List Value} (hi : own[i]? = some (g, T, cs)) (j : Nat) : w.frozen? ⟨g, j, none⟩ = false :=
 frozen_of_row w g j cs.toArray T (st.blk _ (mgE hi))
theorem add_plain (g o i : Nat) : (⟨g, o, none⟩ : Addr).add i = ⟨g, o + i, none⟩ := by unfold Addr.add; split <;> simp_all
theorem mem_load (st : St M w0 w own) (hgd : Region.wanted o (yielded ops A.tmps) = true) (T : TypeId) (x : Operand) (ho : o.op = .load T x) (g off : Nat) (hx : A.eval x = .pointer (some ⟨g, off, none⟩)) (hagg : ∀ w, (isAgg T).run P w = .ok false w)
  (i : Nat) (T' : TypeId) (cs : List Value) (hi : own[i]? = some (g, T', cs)) (v : Value) (hv : cs[off]? = some v)
  (h : wpList P ops Q rest (A.put o.dst v) w) : wpList P ops Q (o :: rest) A w := by
 refine wpList_wanted hgd fun K hK' => ?_
 have hc := (st.cell hi off).trans hv
 unfold Oper.wp
 simp only [execOp, ho, hx, Instr.loadAt, Instr.sureAddr, loadVar, Sem.run_bind, Sem.run_pure, Result.andThen_ok, hagg]
 simp [load, Sem.run, hc, Result.andThen]
 exact hK' _ _ h
theorem mem_load_agg (st : St M w0 w own) (hgd : Region.wanted o (yielded ops A.tmps) = true) (T : TypeId) (x : Operand) (ho : o.op = .load T x) (g off : Nat) (hx : A.eval x = .pointer (some ⟨g, off, none⟩)) (hagg : ∀ w, (isAgg T).run P w = .ok true w)
  (n : Nat) (hsz : ∀ w, (sizeOf T).run P w = .ok n w) (i : Nat) (T' : TypeId) (cs : List Value) (hi : own[i]? = some (g, T', cs)) (vs : List Value) (hv : (cs.drop off).take n = vs) (hl : vs.length = n)
  (h : wpList P ops Q rest (A.put o.dst (.agg vs.toArray)) w) : wpList P ops Q (o :: rest) A w := by
 refine wpList_wanted hgd fun K hK' => ?_
 have hl' : (loadCells ⟨g, off, none⟩ vs.length).run P w = .ok vs.toArray w := run_loadCells_list (P := P) w ⟨g, off, none⟩ vs (fun j v hj => by
  rw [add_plain, st.cell hi]
  subst hv
  have hjn : j < n := by have := (gEs hj).1; omega
  rw [List.getElem?_take_of_lt hjn, List.getElem?_drop] at hj
  exact hj)
 rw [hl] at hl'
 unfold Oper.wp
 simp only [execOp, ho, hx, Instr.loadAt, Instr.sureAddr, loadVar, Sem.run_bind, Sem.run_pure, Result.andThen_ok, hagg, hsz, if_true, hl']
 exact hK' _ _ h
theorem mem_store (st : St M w0 w own) (hgd : Region.wanted o (yielded ops A.tmps) = true) (T : TypeId) (x y : Operand) (ho : o.op = .store T x y) (g off : Nat) (hx : A.eval x = .pointer (some ⟨g, off, none⟩))
  (v : Value) (hy : A.eval y = v) (vs : List Value) (hvs : v.cells.toList = vs) (hsz : ∀ w, (sizeOf T).run P w = .ok vs.length w) (h1 : ∀ u ∈ vs, u.oneCell' = true)
  (i : Nat) (T' : TypeId) (cs : List Value) (hi : own[i]? = some (g, T', cs)) (hl : off + vs.length ≤ cs.length)
  (h : ∀ w', St M w0 w' (own.set i (g, T', putL cs off vs)) → (∀ b, b ≠ g → w'.heap[b]? = w.heap[b]?) → w'.heap.size = w.heap.size → wpList P ops Q rest (A.put o.dst undef) w') : wpList P ops Q (o :: rest) A w := by
 refine wpList_wanted hgd fun K hK' => ?_
 have hst : (storeCells ⟨g, off, none⟩ vs 0).run P w = .ok () (w.setCells g off vs) := run_storeCells_cells (P := P) g off vs 0 w
  (fun j hj => by rw [Nat.add_zero, st.cell hi]; rw [gEg (by omega)]; rfl) (fun j hj => by rw [Nat.add_zero]; exact st.free hi _) h1
 obtain ⟨a1, a2, a3, a4, a5, a6⟩ := setCells_block (w := w) vs off cs (st.blk _ (mgE hi))
 have hs' := st.put hi a1 a2 a3 a4 a5 a6
 have hcs : v.cells.size = vs.length := by rw [← hvs]; simp
 unfold Oper.wp
 simp only [execOp, ho, hx, hy, Instr.storeAt, Instr.sureAddr, storeVar, Sem.run_bind, Sem.run_pure, Result.andThen_ok, hsz, hcs, hvs, ne_eq, not_true, if_false, hst]
 exact hK' _ _ (h _ hs' a2 a3)
/-! ### The same, for the arms of a walk: what is found by looking stands behind one existential -/
theorem mem_load' (st : St M w0 w own) (T : TypeId) (x : Operand) (ho : o.op = .load T x) (hgd : Region.wanted o (yielded ops A.tmps) = true) (hagg : ∀ w, (isAgg T).run P w = .ok false w)
  (h : ∃ (i g off : Nat) (T' : TypeId) (cs : List Value) (v : Value), A.eval x = .pointer (some ⟨g, off, none⟩) ∧ own[i]? = some (g, T', cs) ∧ cs[off]? = some v ∧ wpList P ops Q rest (A.put o.dst v) w) : wpList P ops Q (o :: rest) A w := by
 obtain ⟨i, g, off, T', cs, v, hx, hi, hv, h⟩ := h
 exact mem_load st hgd T x ho g off hx hagg i T' cs hi v hv h
theorem mem_load_agg' (st : St M w0 w own) (T : TypeId) (x : Operand) (ho : o.op = .load T x) (hgd : Region.wanted o (yielded ops A.tmps) = true) (hagg : ∀ w, (isAgg T).run P w = .ok true w) (n : Nat) (hsz : ∀ w, (sizeOf T).run P w = .ok n w)
  (h : ∃ (i g off : Nat) (T' : TypeId) (cs vs : List Value), A.eval x = .pointer (some ⟨g, off, none⟩) ∧ own[i]? = some (g, T', cs) ∧ (cs.drop off).take n = vs ∧ vs.length = n ∧ wpList P ops Q rest (A.put o.dst (.agg vs.toArray)) w) : wpList P ops Q (o :: rest) A w := by
 obtain ⟨i, g, off, T', cs, vs, hx, hi, hv, hl, h⟩ := h
 exact mem_load_agg st hgd T x ho g off hx hagg n hsz i T' cs hi vs hv hl h
theorem mem_store' (st : St M w0 w own) (T : TypeId) (x y : Operand) (ho : o.op = .store T x y) (hgd : Region.wanted o (yielded ops A.tmps) = true) (n : Nat) (hsz : ∀ w, (sizeOf T).run P w = .ok n w)
  (h : ∃ (i g off : Nat) (T' : TypeId) (cs vs : List Value), A.eval x = .pointer (some ⟨g, off, none⟩) ∧ own[i]? = some (g, T', cs) ∧ (A.eval y).cells.toList = vs ∧ vs.length = n ∧ vs.all Value.oneCell' = true ∧ Nat.ble (off + vs.length) cs.length = true ∧
   ∀ w', St M w0 w' (own.set i (g, T', putL cs off vs)) → (∀ b, b ≠ g → w'.heap[b]? = w.heap[b]?) → w'.heap.size = w.heap.size → wpList P ops Q rest (A.put o.dst undef) w') : wpList P ops Q (o :: rest) A w := by
 obtain ⟨i, g, off, T', cs, vs, hx, hi, hv, hl, h1, hle, h⟩ := h
 exact mem_store st hgd T x y ho g off hx _ rfl vs hv (by rw [hl]; exact hsz) (by simpa using h1) i T' cs hi (Nat.le_of_ble_eq_true hle) h
/-! The arms of a walk in short: each stands only at its kind of operation; the block, the guard and what is read are found by looking; what the blocks are behind it is written out. -/
theorem Blks.at0 {x : Nat × TypeId × List Value} {l : Blks} : (x :: l)[0]? = some x := rfl
theorem Blks.at1 {y0 x : Nat × TypeId × List Value} {l : Blks} : (y0 :: x :: l)[1]? = some x := rfl
theorem Blks.at2 {y0 y1 x : Nat × TypeId × List Value} {l : Blks} : (y0 :: y1 :: x :: l)[2]? = some x := rfl
theorem Blks.at3 {y0 y1 y2 x : Nat × TypeId × List Value} {l : Blks} : (y0 :: y1 :: y2 :: x :: l)[3]? = some x := rfl
theorem Blks.at4 {y0 y1 y2 y3 x : Nat × TypeId × List Value} {l : Blks} : (y0 :: y1 :: y2 :: y3 :: x :: l)[4]? = some x := rfl
theorem Blks.at5 {y0 y1 y2 y3 y4 x : Nat × TypeId × List Value} {l : Blks} : (y0 :: y1 :: y2 :: y3 :: y4 :: x :: l)[5]? = some x := rfl
theorem Blks.at6 {y0 y1 y2 y3 y4 y5 x : Nat × TypeId × List Value} {l : Blks} : (y0 :: y1 :: y2 :: y3 :: y4 :: y5 :: x :: l)[6]? = some x := rfl
theorem Blks.at7 {y0 y1 y2 y3 y4 y5 y6 x : Nat × TypeId × List Value} {l : Blks} : (y0 :: y1 :: y2 :: y3 :: y4 :: y5 :: y6 :: x :: l)[7]? = some x := rfl
theorem Blks.at8 {y0 y1 y2 y3 y4 y5 y6 y7 x : Nat × TypeId × List Value} {l : Blks} : (y0 :: y1 :: y2 :: y3 :: y4 :: y5 :: y6 :: y7 :: x :: l)[8]? = some x := rfl
theorem mX {T : TypeId} {d : Option Tmp} {ty : TypeId} {p : String} {af : Array Edge} {gd : Option (Nat × Bool)} {x : Operand} (st : St M w0 w own) (hagg : ∀ w, (isAgg T).run P w = .ok false w) {g off i : Nat} {T' : TypeId} {cs : List Value} {v : Value} (h : wpList P ops Q rest (A.put d v) w)
  (hx : A.eval x = .pointer (some ⟨g, off, none⟩) := by with_unfolding_all exact rfl) (hi : own[i]? = some (g, T', cs) := by first | exact Blks.at0 | exact Blks.at1 | exact Blks.at2 | exact Blks.at3 | exact Blks.at4 | exact Blks.at5 | exact Blks.at6 | exact Blks.at7 | exact Blks.at8 | with_unfolding_all (first | exact Blks.at0 | exact Blks.at1 | exact Blks.at2 | exact Blks.at3 | exact Blks.at4 | exact Blks.at5 | exact Blks.at6 | exact Blks.at7 | exact Blks.at8))
  (hv : cs[off]? = some v := by with_unfolding_all exact rfl) (hgd : Region.wanted ⟨d, .load T x, ty, p, af, gd⟩ (yielded ops A.tmps) = true := by first | exact wanted_none rfl | exact wanted_some rfl (by simp [yielded, Act.put])) : wpList P ops Q (⟨d, .load T x, ty, p, af, gd⟩ :: rest) A w := mem_load' st T x rfl hgd hagg ⟨i, g, off, T', cs, v, hx, hi, hv, h⟩
theorem mXA {T : TypeId} {d : Option Tmp} {ty : TypeId} {p : String} {af : Array Edge} {gd : Option (Nat × Bool)} {x : Operand} (st : St M w0 w own) (hagg : ∀ w, (isAgg T).run P w = .ok true w) {n : Nat} (hsz : ∀ w, (sizeOf T).run P w = .ok n w) {g off i : Nat} {T' : TypeId} {cs vs : List Value} (h : wpList P ops Q rest (A.put d (.agg vs.toArray)) w)
  (hx : A.eval x = .pointer (some ⟨g, off, none⟩) := by with_unfolding_all exact rfl) (hi : own[i]? = some (g, T', cs) := by first | exact Blks.at0 | exact Blks.at1 | exact Blks.at2 | exact Blks.at3 | exact Blks.at4 | exact Blks.at5 | exact Blks.at6 | exact Blks.at7 | exact Blks.at8 | with_unfolding_all (first | exact Blks.at0 | exact Blks.at1 | exact Blks.at2 | exact Blks.at3 | exact Blks.at4 | exact Blks.at5 | exact Blks.at6 | exact Blks.at7 | exact Blks.at8))
  (hv : (cs.drop off).take n = vs := by with_unfolding_all exact rfl) (hl : vs.length = n := by with_unfolding_all exact rfl) (hgd : Region.wanted ⟨d, .load T x, ty, p, af, gd⟩ (yielded ops A.tmps) = true := by first | exact wanted_none rfl | exact wanted_some rfl (by simp [yielded, Act.put])) : wpList P ops Q (⟨d, .load T x, ty, p, af, gd⟩ :: rest) A w := mem_load_agg' st T x rfl hgd hagg n hsz ⟨i, g, off, T', cs, vs, hx, hi, hv, hl, h⟩
theorem mS {T : TypeId} {d : Option Tmp} {ty : TypeId} {p : String} {af : Array Edge} {gd : Option (Nat × Bool)} {x y : Operand} (i : Nat) (st : St M w0 w own) {n : Nat} (hsz : ∀ w, (sizeOf T).run P w = .ok n w) {g off : Nat} {T' : TypeId} {cs vs : List Value} {own' : Blks}
  (h : ∀ w', St M w0 w' own' → (∀ b, b ≠ g → w'.heap[b]? = w.heap[b]?) → w'.heap.size = w.heap.size → wpList P ops Q rest (A.put d undef) w')
  (hx : A.eval x = .pointer (some ⟨g, off, none⟩) := by with_unfolding_all exact rfl) (hv : (A.eval y).cells.toList = vs := by with_unfolding_all exact rfl) (hi : own[i]? = some (g, T', cs) := by with_unfolding_all exact rfl)
  (hl : vs.length = n := by with_unfolding_all exact rfl) (h1 : vs.all Value.oneCell' = true := by with_unfolding_all exact rfl) (hle : Nat.ble (off + vs.length) cs.length = true := by with_unfolding_all exact rfl) (ho : own.set i (g, T', putL cs off vs) = own' := by first | (simp [Act.eval, Act.put, Value.cells, putL]; done) | (simp [Act.eval, Act.put, Value.cells, putL]; exact rfl) | exact rfl) (hgd : Region.wanted ⟨d, .store T x y, ty, p, af, gd⟩ (yielded ops A.tmps) = true := by first | exact wanted_none rfl | exact wanted_some rfl (by simp [yielded, Act.put])) : wpList P ops Q (⟨d, .store T x y, ty, p, af, gd⟩ :: rest) A w := by
 subst ho
 exact mem_store' st T x y rfl hgd n hsz ⟨i, g, off, T', cs, vs, hx, hi, hv, hl, h1, hle, h⟩
theorem mSX {T : TypeId} {d : Option Tmp} {ty : TypeId} {p : String} {af : Array Edge} {gd : Option (Nat × Bool)} {x y : Operand} {i : Nat} (st : St M w0 w own) {n : Nat} (hsz : ∀ w, (sizeOf T).run P w = .ok n w) {g off : Nat} {T' : TypeId} {cs vs : List Value} {own' : Blks}
  (h : ∀ w', St M w0 w' own' → (∀ b, b ≠ g → w'.heap[b]? = w.heap[b]?) → w'.heap.size = w.heap.size → wpList P ops Q rest (A.put d undef) w')
  (hx : A.eval x = .pointer (some ⟨g, off, none⟩) := by with_unfolding_all exact rfl) (hv : (A.eval y).cells.toList = vs := by with_unfolding_all exact rfl) (hi : own[i]? = some (g, T', cs) := by first | exact Blks.at0 | exact Blks.at1 | exact Blks.at2 | exact Blks.at3 | exact Blks.at4 | exact Blks.at5 | exact Blks.at6 | exact Blks.at7 | exact Blks.at8 | with_unfolding_all (first | exact Blks.at0 | exact Blks.at1 | exact Blks.at2 | exact Blks.at3 | exact Blks.at4 | exact Blks.at5 | exact Blks.at6 | exact Blks.at7 | exact Blks.at8))
  (hl : vs.length = n := by with_unfolding_all exact rfl) (h1 : vs.all Value.oneCell' = true := by with_unfolding_all exact rfl) (hle : Nat.ble (off + vs.length) cs.length = true := by with_unfolding_all exact rfl) (ho : own.set i (g, T', putL cs off vs) = own' := by first | (simp [Act.eval, Act.put, Value.cells, putL]; done) | (simp [Act.eval, Act.put, Value.cells, putL]; exact rfl) | exact rfl) (hgd : Region.wanted ⟨d, .store T x y, ty, p, af, gd⟩ (yielded ops A.tmps) = true := by first | exact wanted_none rfl | exact wanted_some rfl (by simp [yielded, Act.put])) : wpList P ops Q (⟨d, .store T x y, ty, p, af, gd⟩ :: rest) A w := by
 subst ho
 exact mem_store' st T x y rfl hgd n hsz ⟨i, g, off, T', cs, vs, hx, hi, hv, hl, h1, hle, h⟩
theorem mA {T : TypeId} {d : Option Tmp} {ty : TypeId} {p : String} {af : Array Edge} {gd : Option (Nat × Bool)} (st : St M w0 w own) {z : Value} (hz : ∀ w, (zeroValue T).run P w = .ok z w) {own' : Nat → Blks} (h : ∀ g w', w0.heap.size ≤ g → St M w0 w' (own' g) → wpList P ops Q rest (A.put d (.pointer (some ⟨g, 0, none⟩))) w')
  (ho : ∀ g, own ++ [(g, T, z.cells.toList)] = own' g := by intro g; first | (simp [Act.eval, Act.put, Value.cells, putL]; done) | (simp [Act.eval, Act.put, Value.cells, putL]; exact rfl) | exact rfl) (hgd : Region.wanted ⟨d, .alloc T, ty, p, af, gd⟩ (yielded ops A.tmps) = true := by first | exact wanted_none rfl | exact wanted_some rfl (by simp [yielded, Act.put])) : wpList P ops Q (⟨d, .alloc T, ty, p, af, gd⟩ :: rest) A w :=
 mem_alloc st hgd T rfl z hz _ rfl fun g w' h1 h2 _ => h g w' h1 (ho g ▸ h2)
theorem mB (T : TypeId) {d : Option Tmp} {ty : TypeId} {p : String} {af : Array Edge} {gd : Option (Nat × Bool)} {x : Operand} (st : St M w0 w own) {own' : Nat → Blks} (h : ∀ g w', w0.heap.size ≤ g → St M w0 w' (own' g) → wpList P ops Q rest (A.put d (.pointer (some ⟨g, 0, none⟩))) w')
  (ho : ∀ g, own ++ [(g, T, (A.eval x).cells.toList)] = own' g := by intro g; first | (simp [Act.eval, Act.put, Value.cells, putL]; done) | (simp [Act.eval, Act.put, Value.cells, putL]; exact rfl) | exact rfl) (hgd : Region.wanted ⟨d, .box T x, ty, p, af, gd⟩ (yielded ops A.tmps) = true := by first | exact wanted_none rfl | exact wanted_some rfl (by simp [yielded, Act.put])) : wpList P ops Q (⟨d, .box T x, ty, p, af, gd⟩ :: rest) A w :=
 mem_box st hgd T x rfl _ rfl _ rfl fun g w' h1 h2 _ => h g w' h1 (ho g ▸ h2)
end
def putAll (x : Nat → Value) : List (Nat × Option Tmp) → Act → Act
 | [], a => a
 | (i, t) :: l, a => putAll x l (a.put t (x i))
def upd (x : Nat → Value) (i : Nat) (v : Value) : Nat → Value := fun j => if j = i then v else x j
def apartD (d d' : Option Tmp) : Bool := match d, d' with | some a, some b => a != b | _, _ => true
theorem put_comm (a : Act) (d d' : Option Tmp) (u v : Value) (h : apartD d d' = true) : (a.put d u).put d' v = (a.put d' v).put d u := by
 cases d <;> cases d' <;> simp only [Act.put]
 rename_i p q
 simp [apartD] at h
 rw [Array.setIfInBounds_comm _ _ h]
theorem put_put (a : Act) (d : Option Tmp) (u v : Value) : (a.put d u).put d v = a.put d v := by
 cases d <;> simp [Act.put]
theorem putAll_comm {x : Nat → Value} {t : Option Tmp} {v : Value} : ∀ {l : List (Nat × Option Tmp)} {a : Act}, (∀ j ∈ l, apartD j.2 t = true) → (putAll x l a).put t v = putAll x l (a.put t v) := by
 intro l
 induction l with
 | nil => intro a _; rfl
 | cons j l ih =>
  intro a h
  simp only [putAll]
  rw [ih fun k hk => h k (by simp [hk]), put_comm _ _ _ _ _ (h j (by simp))]
theorem putAll_congr {x y : Nat → Value} : ∀ {l : List (Nat × Option Tmp)} {a : Act}, (∀ j ∈ l, x j.1 = y j.1) → putAll x l a = putAll y l a := by
 intro l
 induction l with
 | nil => intro a _; rfl
 | cons j l ih =>
  intro a h
  simp only [putAll]
  rw [h j (by simp), ih fun k hk => h k (by simp [hk])]
theorem apart_symm {d d' : Option Tmp} (h : apartD d d' = true) : apartD d' d = true := by
 cases d <;> cases d' <;> simp only [apartD, bne_iff_ne] at *
 exact fun e => h e.symm
theorem put_putAll {x : Nat → Value} {i : Nat} {t : Option Tmp} {v : Value} : ∀ {l : List (Nat × Option Tmp)} {a : Act}, (i, t) ∈ l → l.Pairwise (fun j k => j.1 ≠ k.1 ∧ apartD j.2 k.2 = true) →
  (putAll x l a).put t v = putAll (upd x i v) l a := by
 intro l
 induction l with
 | nil => intro a h; simp at h
 | cons j l ih =>
  intro a hi hp
  obtain ⟨h1, h2⟩ := List.pairwise_cons.1 hp
  simp only [putAll]
  rcases List.mem_cons.1 hi with rfl | hi
  ·rw [putAll_comm fun k hk => apart_symm (h1 k hk).2, put_put, show upd x i v i = v by simp [upd]]
   exact putAll_congr fun k hk => by simp [upd, Ne.symm (h1 k hk).1]
  ·rw [ih hi h2, show upd x i v j.1 = x j.1 by simp [upd, (h1 _ hi).1]]
def marked (n : Nat) (L : List Nat) : Array Bool := (Array.range n).map fun i => L.contains i
theorem marked_nil (n : Nat) : Array.replicate n false = marked n [] := by
 apply Array.ext <;> simp [marked]
theorem marked_set (n : Nat) (L : List Nat) (i : Nat) : (marked n L).setIfInBounds i true = marked n (i :: L) := by
 apply Array.ext
 ·simp [marked]
 ·intro j h1 h2
  have hj : j < (marked n L).size := by simpa using h1
  rw [Array.getElem_setIfInBounds hj]
  simp only [marked, Array.getElem_map, Array.getElem_range, List.contains_cons]
  by_cases e : i = j
  ·subst e; simp
  ·simp [e, Ne.symm e]
theorem marked_get {n : Nat} {L : List Nat} {i : Nat} {b : Bool} (h : i < n) : (marked n L).getD i b = L.contains i := by
 simp [marked, Array.getD, h]
theorem marked_congr {n : Nat} {L M : List Nat} (h : ∀ i, i ∈ L ↔ i ∈ M) : marked n L = marked n M := by
 apply Array.ext
 ·simp [marked]
 ·intro j h1 h2
  simp [marked, h]
theorem nodup_le : ∀ {l S : List Nat}, l.Nodup → (∀ j ∈ l, j ∈ S) → l.length ≤ S.length := by
 intro l
 induction l with
 | nil => intro S _ _; simp
 | cons i l ih =>
  intro S hn hs
  obtain ⟨h1, h2⟩ := List.nodup_cons.1 hn
  have := ih (S := S.erase i) h2 fun j hj => (List.mem_erase_of_ne (by rintro rfl; exact h1 hj)).2 (hs j (by simp [hj]))
  rw [List.length_erase_of_mem (hs i (by simp))] at this
  have h3 : 0 < S.length := List.length_pos_of_mem (hs i (by simp))
  simp; omega
def predsOf (ops : Array Oper) (i : Nat) : List Nat := ((ops[i]?).map fun o => (o.after.toList.filter fun e => Region.binds .any e).map (·.on)).getD []
def anc (ops : Array Oper) : Nat → Nat → List Nat
 | 0, _ => []
 | k + 1, i => predsOf ops i ++ (predsOf ops i).flatMap (anc ops k)
theorem anc_sub {ops : Array Oper} {L : List Nat} (hL : ∀ i ∈ L, ∀ j ∈ predsOf ops i, j ∈ L) : ∀ (k i : Nat), (∀ j ∈ predsOf ops i, j ∈ L) → ∀ j ∈ anc ops k i, j ∈ L := by
 intro k
 induction k with
 | zero => intro i _ j hj; simp [anc] at hj
 | succ k ih =>
  intro i hi j hj
  simp only [anc, List.mem_append, List.mem_flatMap] at hj
  rcases hj with hj | ⟨m, hm, hj⟩
  ·exact hi j hj
  ·exact ih m (hL m (hi m hm)) j hj
def aheadOk (ops : Array Oper) (D : List (Nat × Option Tmp)) : Bool :=
 let S := D.map (·.1)
 (S.all fun i => decide (i < ops.size) && ((ops[i]?).map fun o => o.after.all fun e => !Region.binds .any e || (S.contains e.on && decide (e.on < i))).getD false) &&
 ((List.range ops.size).all fun i => S.contains i || ((ops[i]?).map fun o => (o.after.any fun e => Region.binds .any e && !S.contains e.on) || S.all fun j => (anc ops ops.size i).contains j).getD false) &&
 decide (D.Pairwise fun j k => j.1 ≠ k.1 ∧ apartD j.2 k.2 = true)
section
variable {P : Program} {ops : Array Oper} {Q : Exit → Act → World → Prop}
theorem wpAny_ahead (D : List (Nat × Option Tmp)) (S : List Nat) (hS : D.map (·.1) = S) (hok : aheadOk ops D = true) (Rel : World → World → Prop) (G : Nat → Value → World → Prop) (Inv : World → Prop) (a0 : Act) (r : Nat)
  (mono : ∀ i v w w', i ∈ S → Rel w w' → Inv w → Inv w' → G i v w → G i v w')
  (step : ∀ i t, (i, t) ∈ D → ∀ (x : Nat → Value) (w : World), Inv w → (∀ j ∈ predsOf ops i, G j (x j) w) → ∀ K : Act → World → Prop,
   (∀ v w', Rel w w' → Inv w' → G i v w' → K ((putAll x D a0).put t v) w') → wpOp P ops Q i K (putAll x D a0) w)
  (fin : ∀ (x : Nat → Value) (w : World), Inv w → (∀ i ∈ S, G i (x i) w) → wpAny P .any ops Q r (marked ops.size S) (putAll x D a0) w) :
  ∀ (k : Nat) (L : List Nat) (x : Nat → Value) (w : World), L.Nodup → (∀ i ∈ L, i ∈ S) → (∀ i ∈ L, ∀ j ∈ predsOf ops i, j ∈ L) → L.length + k = S.length → Inv w → (∀ i ∈ L, G i (x i) w) →
   wpAny P .any ops Q (k + r) (marked ops.size L) (putAll x D a0) w := by
 subst hS
 simp only [aheadOk, Bool.and_eq_true, List.all_eq_true, decide_eq_true_eq, List.mem_range] at hok
 obtain ⟨⟨hc1, hc2⟩, hc4⟩ := hok
 have hSn : (D.map (·.1)).Nodup := List.pairwise_map.2 (hc4.imp fun h => h.1)
 intro k
 induction k with
 | zero =>
  intro L x w hL hsub hcl hlen hI hG
  have hall : ∀ i, i ∈ L ↔ i ∈ D.map (·.1) := fun i => ⟨hsub i, fun hi => Classical.byContradiction fun hn => by
   have h1 := nodup_le (List.nodup_cons.2 ⟨hn, hL⟩) fun j hj => by
    rcases List.mem_cons.1 hj with rfl | hj
    ·exact hi
    ·exact hsub j hj
   simp only [List.length_cons] at h1; omega⟩
  rw [Nat.zero_add, marked_congr hall]
  exact fin x w hI fun i hi => hG i ((hall i).2 hi)
 | succ k ih =>
  intro L x w hL hsub hcl hlen hI hG
  have hmem : ∀ i, i ∈ Region.ready .any ops (marked ops.size L) ↔ i < ops.size ∧ i ∉ L ∧ ∃ o, ops[i]? = some o ∧ ∀ e ∈ o.after, Region.binds .any e = true → e.on ∈ L ∧ e.on < ops.size := by
   intro i
   simp only [Region.ready, List.mem_filter, List.mem_range, Bool.and_eq_true, Bool.not_eq_true']
   constructor
   ·rintro ⟨h1, h2, h3⟩
    rw [marked_get h1] at h2
    refine ⟨h1, by simpa using h2, ops[i], by simp [h1], fun e he hb => ?_⟩
    simp only [h1, getElem?_pos, Option.map_some, Option.getD_some, Array.all_eq_true_iff_forall_mem] at h3
    have := h3 e he
    rw [hb] at this
    simp only [Bool.not_true, Bool.false_or] at this
    by_cases hlt : e.on < ops.size
    ·rw [marked_get hlt] at this
     exact ⟨by simpa using this, hlt⟩
    ·have : (marked ops.size L).getD e.on false = false := by simp [marked, Array.getD, hlt]
     simp_all
   ·rintro ⟨h1, h2, o, ho, h3⟩
    refine ⟨h1, by rw [marked_get h1]; simpa using h2, ?_⟩
    simp only [ho, Option.map_some, Option.getD_some, Array.all_eq_true_iff_forall_mem]
    intro e he
    cases hb : Region.binds .any e
    ·simp
    ·obtain ⟨h4, h5⟩ := h3 e he hb
     rw [marked_get h5]
     simpa using h4
  rw [show k + 1 + r = (k + r) + 1 by omega]
  refine ⟨fun hnil => ?_, fun i hi => ?_⟩
  ·exfalso
   -- the least of S that is not carried out yet is ready
   have hex : ∃ i, i ∈ D.map (·.1) ∧ i ∉ L := Classical.byContradiction fun hn => by
    have h1 := nodup_le hSn (S := L) fun j hj => Classical.byContradiction fun hj' => hn ⟨j, hj, hj'⟩
    omega
   obtain ⟨i, ⟨hiS, hiL⟩, hmin⟩ : ∃ i, (i ∈ D.map (·.1) ∧ i ∉ L) ∧ ∀ j, j < i → ¬ (j ∈ D.map (·.1) ∧ j ∉ L) := by
    obtain ⟨i0, h0⟩ := hex
    induction i0 using Nat.strongRecOn with
    | _ i0 ih0 =>
     by_cases h : ∃ j, j < i0 ∧ j ∈ D.map (·.1) ∧ j ∉ L
     ·obtain ⟨j, hj, hjS⟩ := h
      exact ih0 j hj hjS
     ·exact ⟨i0, h0, fun j hj hjS => h ⟨j, hj, hjS⟩⟩
   obtain ⟨h1, h2⟩ := hc1 i hiS
   have : i ∈ Region.ready .any ops (marked ops.size L) := by
    rw [hmem]
    refine ⟨h1, hiL, ops[i], by simp [h1], fun e he hb => ?_⟩
    simp only [h1, getElem?_pos, Option.map_some, Option.getD_some, Array.all_eq_true_iff_forall_mem] at h2
    have h3 := h2 e he
    rw [hb] at h3
    simp only [Bool.not_true, Bool.false_or, Bool.and_eq_true, decide_eq_true_eq, List.contains_iff_mem] at h3
    exact ⟨Classical.byContradiction fun hn => hmin e.on h3.2 ⟨h3.1, hn⟩, (hc1 e.on h3.1).1⟩
   rw [hnil] at this
   simp at this
  ·obtain ⟨h1, hiL, o, ho, hp⟩ := (hmem i).1 hi
   have hiS : i ∈ D.map (·.1) := by
    have h2 := hc2 i h1
    simp only [ho, Option.map_some, Option.getD_some, Bool.or_eq_true, List.contains_iff_mem, Array.any_eq_true', List.all_eq_true, Bool.and_eq_true, Bool.not_eq_true', beq_iff_eq] at h2
    rcases h2 with h2 | ⟨e, he, hb, hn⟩ | h2
    ·exact h2
    ·exfalso
     have := hsub _ (hp e he hb).1
     rw [← List.contains_iff_mem, hn] at this
     simp at this
    ·exfalso
     have h4 : ∀ j ∈ predsOf ops i, j ∈ L := fun j hj => by
      simp only [predsOf, ho, Option.map_some, Option.getD_some, List.mem_map, List.mem_filter, Array.mem_toList_iff] at hj
      obtain ⟨e, ⟨he, hb⟩, rfl⟩ := hj
      exact (hp e he hb).1
     have h3 := nodup_le hSn (S := L) fun j hj => anc_sub hcl _ i h4 j (h2 j hj)
     omega
   have hpreL : ∀ j ∈ predsOf ops i, j ∈ L := fun j hj => by
    simp only [predsOf, ho, Option.map_some, Option.getD_some, List.mem_map, List.mem_filter, Array.mem_toList_iff] at hj
    obtain ⟨e, ⟨he, hb⟩, rfl⟩ := hj
    exact (hp e he hb).1
   have hpre : ∀ j ∈ predsOf ops i, G j (x j) w := fun j hj => by
    simp only [predsOf, ho, Option.map_some, Option.getD_some, List.mem_map, List.mem_filter, Array.mem_toList_iff] at hj
    obtain ⟨e, ⟨he, hb⟩, rfl⟩ := hj
    exact hG _ (hp e he hb).1
   obtain ⟨⟨i', t⟩, hit, hii⟩ := List.mem_map.1 hiS
   have hii' : i = i' := hii.symm
   subst hii'
   refine step i t hit x w hI hpre _ fun v w' hbw hI' hGv => ?_
   rw [put_putAll hit hc4, marked_set]
   refine ih (i :: L) (upd x i v) w' (List.nodup_cons.2 ⟨hiL, hL⟩) (fun j hj => ?_) (fun j hj m hm => ?_) (by simp only [List.length_cons]; omega) hI' fun j hj => ?_
   ·rcases List.mem_cons.1 hj with rfl | hj
    ·exact hiS
    ·exact hsub j hj
   ·rcases List.mem_cons.1 hj with rfl | hjL
    ·exact List.mem_cons_of_mem _ (hpreL m hm)
    ·exact List.mem_cons_of_mem _ (hcl j hjL m hm)
   ·rcases List.mem_cons.1 hj with rfl | hjL
    ·simpa [upd] using hGv
    ·have hne : j ≠ i := by rintro rfl; exact hiL hjL
     rw [show upd x i v j = x j by simp [upd, hne]]
     exact mono j _ w w' (hsub j hjL) hbw hI hI' (hG j hjL)
theorem put_same (a : Act) (d : Option Tmp) : a.put d ((d.map fun t => a.tmps.getD t undef).getD undef) = a := by
 cases d with
 | none => rfl
 | some t =>
  simp only [Act.put, Option.map_some, Option.getD_some]
  have : a.tmps.setIfInBounds t (a.tmps.getD t undef) = a.tmps := by
   apply Array.ext
   ·simp
   ·intro i h1 h2
    rw [Array.getElem_setIfInBounds h2]
    by_cases e : t = i
    ·subst e; simp [Array.getD, h2]
    ·simp [e]
  rw [this]
def lookD (D : List (Nat × Option Tmp)) (a : Act) (i : Nat) : Value := match D.find? (fun p => p.1 == i) with | some p => (p.2.map fun t => a.tmps.getD t undef).getD undef | none => undef
theorem putAll_same (a : Act) {x : Nat → Value} : ∀ {l : List (Nat × Option Tmp)}, (∀ p ∈ l, x p.1 = (p.2.map fun t => a.tmps.getD t undef).getD undef) → putAll x l a = a := by
 intro l
 induction l with
 | nil => intro _; rfl
 | cons p l ih =>
  intro h
  obtain ⟨i, t⟩ := p
  have e := put_same a t
  simp only [putAll]
  rw [h (i, t) (by simp)]
  simp only
  rw [e]
  exact ih fun q hq => h q (by simp [hq])
theorem lookD_at {D : List (Nat × Option Tmp)} {a : Act} (hp : D.Pairwise (fun j k => j.1 ≠ k.1 ∧ apartD j.2 k.2 = true)) : ∀ p ∈ D, lookD D a p.1 = (p.2.map fun t => a.tmps.getD t undef).getD undef := by
 intro p hpD
 have h : D.find? (fun q => q.1 == p.1) = some p := by
  induction D with
  | nil => simp at hpD
  | cons q D ih =>
   obtain ⟨h1, h2⟩ := List.pairwise_cons.1 hp
   rcases List.mem_cons.1 hpD with rfl | hq
   ·simp
   ·rw [List.find?_cons_of_neg (by simpa using (h1 p hq).1)]
    exact ih h2 hq
 unfold lookD
 rw [h]
theorem wp_region_ahead {id : Nat} {a0 : Act} {w : World} (hm : P.follows .mixedOrders = true) (D : List (Nat × Option Tmp)) (S : List Nat) (hS : D.map (·.1) = S) (r : Nat) (hok : aheadOk ops D = true) (hr : S.length + r = ops.size) (Rel : World → World → Prop) (G : Nat → Value → World → Prop) (Inv : World → Prop) (hI : Inv w.drew)
  (mono : ∀ i v w w', i ∈ S → Rel w w' → Inv w → Inv w' → G i v w → G i v w')
  (step : ∀ i t, (i, t) ∈ D → ∀ (x : Nat → Value) (w : World), Inv w → (∀ j ∈ predsOf ops i, G j (x j) w) → ∀ K : Act → World → Prop,
   (∀ v w', Rel w w' → Inv w' → G i v w' → K ((putAll x D a0).put t v) w') → wpOp P ops Q i K (putAll x D a0) w)
  (fin : ∀ (x : Nat → Value) (w : World), Inv w → (∀ i ∈ S, G i (x i) w) → wpAny P .any ops Q r (marked ops.size S) (putAll x D a0) w) : (Code.region id ops true).wp P Q a0 w := by
 refine wp_region_any hm ?_
 rw [marked_nil]
 have h := wpAny_ahead (P := P) (Q := Q) D S hS hok Rel G Inv a0 r mono step fin S.length [] (lookD D a0) w.drew List.nodup_nil (by simp) (by simp) (by simp) hI (by simp)
 rw [putAll_same a0 (lookD_at (by simp only [aheadOk, Bool.and_eq_true, decide_eq_true_eq] at hok; exact hok.2)), hr] at h
 exact h
theorem wpOp_plain {i : Nat} {o : Oper} {K : Act → World → Prop} {a : Act} {w : World} (ho : ops[i]? = some o) (hg : Region.wanted o (yielded ops a.tmps) = true) (h : o.wp P a w K Q) : wpOp P ops Q i K a w := by
 simp only [wpOp, ho, hg, if_true]
 exact .inl h
theorem wpOp_at {l : List Oper} {i : Nat} {o : Oper} {K : Act → World → Prop} {a : Act} {w : World} (ho : l[i]? = some o) (hg : o.guard = none) (h : o.wp P a w K Q) : wpOp P l.toArray Q i K a w :=
 wpOp_plain (by simpa using ho) (wanted_none hg) h
theorem wp_value {o : Oper} {K : Act → World → Prop} {a : Act} {w w' : World} {v : Value} (h : (execOp a.eval o).run P w = .ok (.value v) w') (hK : K (a.put o.dst v) w') : o.wp P a w K Q := by
 unfold Oper.wp
 rw [h]
 exact hK
theorem wpAny_next {i r : Nat} {o : Oper} {listed : Array Bool} {a : Act} {w : World} (hr : Region.ready .any ops listed = [i]) (ho : ops[i]? = some o) (hg : Region.wanted o (yielded ops a.tmps) = true)
  (h : ∀ K : Act → World → Prop, (∀ a w, wpAny P .any ops Q r (listed.setIfInBounds i true) a w → K a w) → o.wp P a w K Q) : wpAny P .any ops Q (r + 1) listed a w :=
 wpAny_all hr (by simp) fun j hj => by
  simp only [List.mem_singleton] at hj
  subst hj
  exact wpOp_plain ho hg (h _ fun _ _ h => h)
theorem wpAny_at {l : List Oper} {i r : Nat} {o : Oper} {listed : Array Bool} {a : Act} {w : World} (ho : l[i]? = some o) (hg : o.guard = none) (hr : Region.ready .any l.toArray listed = [i])
  (h : ∀ K : Act → World → Prop, (∀ a w, wpAny P .any l.toArray Q r (listed.setIfInBounds i true) a w → K a w) → o.wp P a w K Q) : wpAny P .any l.toArray Q (r + 1) listed a w :=
 wpAny_next hr (by simpa using ho) (wanted_none hg) h
end
theorem Own.move {base : Nat} {e : TypeId} {w w' : World} {α : Type} {sz : Nat} {R R' : List Value → α → Prop} {a : Option Addr} {c : Nat} {xs : List α} (h : Own base e w sz R a c xs) (hk : ∀ b, base ≤ b → b < w.heap.size → w'.heap[b]? = w.heap[b]?) (hR : ∀ cs x, R cs x → R' cs x) : Own base e w' sz R' a c xs := by
 obtain ⟨css, h1, h2, h3, h4⟩ := h
 refine ⟨css, h1, h2, fun i x cs hx hc => hR _ _ (h3 i x cs hx hc), h4.1, ?_⟩
 rcases h4.2 with h | ⟨g, cap, cur, hv, hg, hh, r⟩
 ·exact .inl h
 ·exact .inr ⟨g, cap, cur, hv, hg, by rw [hk g hg (Array.getElem?_eq_some_iff.1 hh).1]; exact hh, r⟩
theorem lay_list : ∀ (l : List Value) (k : Nat) (arr : Array Value), k + l.length ≤ arr.size → ((l.zipIdx k).foldl (fun cs p => cs.setIfInBounds p.2 p.1) arr).toList = arr.toList.take k ++ l ++ arr.toList.drop (k + l.length) := by
 intro l
 induction l with
 | nil => intro k arr _; simp
 | cons v l ih =>
  intro k arr h
  simp only [List.length_cons] at h
  rw [List.zipIdx_cons, List.foldl_cons, ih (k + 1) (arr.setIfInBounds k v) (by simp; omega)]
  have hk : k < arr.toList.length := by simp; omega
  have e1 : (arr.setIfInBounds k v).toList = arr.toList.set k v := by simp
  rw [e1]
  have e2 : (arr.toList.set k v).take (k + 1) = arr.toList.take k ++ [v] := by
   rw [List.take_succ_eq_append_getElem (by simpa using hk)]
   simp [List.take_set]
   exact List.set_eq_of_length_le (by simp; omega)
  have e3 : (arr.toList.set k v).drop (k + 1 + l.length) = arr.toList.drop (k + (l.length + 1)) := by
   rw [List.drop_set_of_lt (by omega)]
   congr 1
   omega
  rw [e2, e3]
  simp
theorem fill_one (cells : Array Value) (v : Value) (n : Nat) (h1 : v.cells.size = n) (h2 : cells.size = n) : Instr.fill (fun i => some (i * n, n)) cells [(0, v)] = some v.cells := by
 have h3 : (v.cells.zipIdx.foldl (fun cs (c, j) => cs.setIfInBounds (0 * n + j) c) cells) = v.cells := by
  have := lay_list v.cells.toList 0 cells (by simp; omega)
  rw [← Array.foldl_toList, Array.toList_zipIdx]
  simp only [Nat.zero_mul, Nat.zero_add] at this ⊢
  apply Array.toList_inj.1
  refine Eq.trans ?_ (this.trans ?_)
  ·rfl
  ·simp; omega
 simp only [Instr.fill]
 rw [h3]
 rw [if_neg (by simp; omega)]
section
variable {P : Program} {w0 w : World} {M : List Nat} {own : Blks} {ops : Array Oper} {rest : List Oper} {o : Oper} {A : Act} {Q : Exit → Act → World → Prop} {K : Act → World → Prop} {E : Prop}
theorem wp_build1 (st : St M w0 w own) (T T' : TypeId) (x : Operand) (ho : o.op = .buildSlice T 1 #[(0, x)]) (ht : P.underlying T = some (.slice T')) (n : Nat) (hsz : ∀ w, (sizeOf T').run P w = .ok n w) (hn : 0 < n) (hn' : n ≤ 1000) (z : Value) (hz : ∀ w, (zeroValue T').run P w = .ok z w) (cs : List Value) (hx : (A.eval x).cells.toList = cs) (hc : cs.length = n)
  (h : ∀ g w', w0.heap.size ≤ g → g = w.heap.size → St M w0 w' (own ++ [(g, T', cs)]) → Below w.heap.size w w' → w'.heap.size = w.heap.size + 1 → K (A.put o.dst (.slice (some ⟨g, 0, none⟩) 1 1)) w') : Oper.wp P o A w K Q := by
 subst hx
 have hs := st.new T' (A.eval x).cells.toList
 simp only [Array.toArray_toList] at hs
 have hf := fill_one ((Array.range (1 * n)).map (z.cells[·% z.cells.size]!)) (A.eval x) n (by simpa using hc) (by simp)
 have hgt : ¬ 2 ^ 24 < 1 * n := by omega
 have hne : ¬ 1 * n = 0 := by omega
 unfold Oper.wp
 simp only [execOp, ho, Instr.buildSlice, Sem.run_bind, run_underlying ht, Result.andThen_ok, hsz, hgt, hne, if_false, hz, Sem.run_pure, gt_iff_lt, List.map_toArray, List.map_cons, List.map_nil, hf, newRow, newObj]
 exact h w.heap.size _ st.size rfl hs ((Below.refl _ _).alloc (Nat.le_refl _) _) (by simp)
theorem wpList_build1 (st : St M w0 w own) (hgd : Region.wanted o (yielded ops A.tmps) = true) (T T' : TypeId) (x : Operand) (ho : o.op = .buildSlice T 1 #[(0, x)]) (ht : P.underlying T = some (.slice T')) (n : Nat) (hsz : ∀ w, (sizeOf T').run P w = .ok n w) (hn : 0 < n) (hn' : n ≤ 1000) (z : Value) (hz : ∀ w, (zeroValue T').run P w = .ok z w) (cs : List Value) (hx : (A.eval x).cells.toList = cs) (hc : cs.length = n)
  (h : ∀ g w', w0.heap.size ≤ g → g = w.heap.size → St M w0 w' (own ++ [(g, T', cs)]) → Below w.heap.size w w' → w'.heap.size = w.heap.size + 1 → wpList P ops Q rest (A.put o.dst (.slice (some ⟨g, 0, none⟩) 1 1)) w') : wpList P ops Q (o :: rest) A w :=
 wpList_wanted hgd fun _ hK => wp_build1 st T T' x ho ht n hsz hn hn' z hz cs hx hc fun g w' h1 h2 h3 h4 h5 => hK _ _ (h g w' h1 h2 h3 h4 h5)
end
section
variable {P : Program} {ops : Array Oper} {Q : Exit → Act → World → Prop}
theorem wpAny_done1 (D : List (Nat × Option Tmp)) (S : List Nat) (hS : D.map (·.1) = S) (hok : aheadOk ops D = true) {σ : Type} (Rel : Nat → σ → World → σ → World → Prop) (G : Nat → Value → σ → World → Prop) (Inv : List Nat → σ → World → Prop) (a0 : Act) (r : Nat)
  (mono : ∀ i k v s w s' w', i ∈ S → k ∈ S → i ≠ k → k ∉ predsOf ops i → Rel k s w s' w' → G i v s w → G i v s' w')
  (step : ∀ i t, (i, t) ∈ D → ∀ (L : List Nat) (x : Nat → Value) (s : σ) (w : World), i ∉ L → (∀ j ∈ predsOf ops i, j ∈ L) → Inv L s w → (∀ j ∈ predsOf ops i, G j (x j) s w) → ∀ K : Act → World → Prop,
   (∀ v s' w', Rel i s w s' w' → Inv (i :: L) s' w' → G i v s' w' → K ((putAll x D a0).put t v) w') → wpOp P ops Q i K (putAll x D a0) w)
  (fin : ∀ (L : List Nat) (x : Nat → Value) (s : σ) (w : World), (∀ i ∈ S, i ∈ L) → Inv L s w → (∀ i ∈ S, G i (x i) s w) → wpAny P .any ops Q r (marked ops.size S) (putAll x D a0) w) :
  ∀ (k : Nat) (L : List Nat) (x : Nat → Value) (s : σ) (w : World), L.Nodup → (∀ i ∈ L, i ∈ S) → (∀ i ∈ L, ∀ j ∈ predsOf ops i, j ∈ L) → L.length + k = S.length → Inv L s w → (∀ i ∈ L, G i (x i) s w) →
   wpAny P .any ops Q (k + r) (marked ops.size L) (putAll x D a0) w := by
 subst hS
 simp only [aheadOk, Bool.and_eq_true, List.all_eq_true, decide_eq_true_eq, List.mem_range] at hok
 obtain ⟨⟨hc1, hc2⟩, hc4⟩ := hok
 have hSn : (D.map (·.1)).Nodup := List.pairwise_map.2 (hc4.imp fun h => h.1)
 intro k
 induction k with
 | zero =>
  intro L x s w hL hsub hcl hlen hI hG
  have hall : ∀ i, i ∈ L ↔ i ∈ D.map (·.1) := fun i => ⟨hsub i, fun hi => Classical.byContradiction fun hn => by
   have h1 := nodup_le (List.nodup_cons.2 ⟨hn, hL⟩) fun j hj => by
    rcases List.mem_cons.1 hj with rfl | hj
    ·exact hi
    ·exact hsub j hj
   simp only [List.length_cons] at h1; omega⟩
  rw [Nat.zero_add, marked_congr hall]
  exact fin L x s w (fun i hi => (hall i).2 hi) hI fun i hi => hG i ((hall i).2 hi)
 | succ k ih =>
  intro L x s w hL hsub hcl hlen hI hG
  have hmem : ∀ i, i ∈ Region.ready .any ops (marked ops.size L) ↔ i < ops.size ∧ i ∉ L ∧ ∃ o, ops[i]? = some o ∧ ∀ e ∈ o.after, Region.binds .any e = true → e.on ∈ L ∧ e.on < ops.size := by
   intro i
   simp only [Region.ready, List.mem_filter, List.mem_range, Bool.and_eq_true, Bool.not_eq_true']
   constructor
   ·rintro ⟨h1, h2, h3⟩
    rw [marked_get h1] at h2
    refine ⟨h1, by simpa using h2, ops[i], by simp [h1], fun e he hb => ?_⟩
    simp only [h1, getElem?_pos, Option.map_some, Option.getD_some, Array.all_eq_true_iff_forall_mem] at h3
    have := h3 e he
    rw [hb] at this
    simp only [Bool.not_true, Bool.false_or] at this
    by_cases hlt : e.on < ops.size
    ·rw [marked_get hlt] at this
     exact ⟨by simpa using this, hlt⟩
    ·have : (marked ops.size L).getD e.on false = false := by simp [marked, Array.getD, hlt]
     simp_all
   ·rintro ⟨h1, h2, o, ho, h3⟩
    refine ⟨h1, by rw [marked_get h1]; simpa using h2, ?_⟩
    simp only [ho, Option.map_some, Option.getD_some, Array.all_eq_true_iff_forall_mem]
    intro e he
    cases hb : Region.binds .any e
    ·simp
    ·obtain ⟨h4, h5⟩ := h3 e he hb
     rw [marked_get h5]
     simpa using h4
  rw [show k + 1 + r = (k + r) + 1 by omega]
  refine ⟨fun hnil => ?_, fun i hi => ?_⟩
  ·exfalso
   -- the least of S that is not carried out yet is ready
   have hex : ∃ i, i ∈ D.map (·.1) ∧ i ∉ L := Classical.byContradiction fun hn => by
    have h1 := nodup_le hSn (S := L) fun j hj => Classical.byContradiction fun hj' => hn ⟨j, hj, hj'⟩
    omega
   obtain ⟨i, ⟨hiS, hiL⟩, hmin⟩ : ∃ i, (i ∈ D.map (·.1) ∧ i ∉ L) ∧ ∀ j, j < i → ¬ (j ∈ D.map (·.1) ∧ j ∉ L) := by
    obtain ⟨i0, h0⟩ := hex
    induction i0 using Nat.strongRecOn with
    | _ i0 ih0 =>
     by_cases h : ∃ j, j < i0 ∧ j ∈ D.map (·.1) ∧ j ∉ L
     ·obtain ⟨j, hj, hjS⟩ := h
      exact ih0 j hj hjS
     ·exact ⟨i0, h0, fun j hj hjS => h ⟨j, hj, hjS⟩⟩
   obtain ⟨h1, h2⟩ := hc1 i hiS
   have : i ∈ Region.ready .any ops (marked ops.size L) := by
    rw [hmem]
    refine ⟨h1, hiL, ops[i], by simp [h1], fun e he hb => ?_⟩
    simp only [h1, getElem?_pos, Option.map_some, Option.getD_some, Array.all_eq_true_iff_forall_mem] at h2
    have h3 := h2 e he
    rw [hb] at h3
    simp only [Bool.not_true, Bool.false_or, Bool.and_eq_true, decide_eq_true_eq, List.contains_iff_mem] at h3
    exact ⟨Classical.byContradiction fun hn => hmin e.on h3.2 ⟨h3.1, hn⟩, (hc1 e.on h3.1).1⟩
   rw [hnil] at this
   simp at this
  ·obtain ⟨h1, hiL, o, ho, hp⟩ := (hmem i).1 hi
   have hiS : i ∈ D.map (·.1) := by
    have h2 := hc2 i h1
    simp only [ho, Option.map_some, Option.getD_some, Bool.or_eq_true, List.contains_iff_mem, Array.any_eq_true', List.all_eq_true, Bool.and_eq_true, Bool.not_eq_true', beq_iff_eq] at h2
    rcases h2 with h2 | ⟨e, he, hb, hn⟩ | h2
    ·exact h2
    ·exfalso
     have := hsub _ (hp e he hb).1
     rw [← List.contains_iff_mem, hn] at this
     simp at this
    ·exfalso
     have h4 : ∀ j ∈ predsOf ops i, j ∈ L := fun j hj => by
      simp only [predsOf, ho, Option.map_some, Option.getD_some, List.mem_map, List.mem_filter, Array.mem_toList_iff] at hj
      obtain ⟨e, ⟨he, hb⟩, rfl⟩ := hj
      exact (hp e he hb).1
     have h3 := nodup_le hSn (S := L) fun j hj => anc_sub hcl _ i h4 j (h2 j hj)
     omega
   have hpreL : ∀ j ∈ predsOf ops i, j ∈ L := fun j hj => by
    simp only [predsOf, ho, Option.map_some, Option.getD_some, List.mem_map, List.mem_filter, Array.mem_toList_iff] at hj
    obtain ⟨e, ⟨he, hb⟩, rfl⟩ := hj
    exact (hp e he hb).1
   have hpre : ∀ j ∈ predsOf ops i, G j (x j) s w := fun j hj => by
    simp only [predsOf, ho, Option.map_some, Option.getD_some, List.mem_map, List.mem_filter, Array.mem_toList_iff] at hj
    obtain ⟨e, ⟨he, hb⟩, rfl⟩ := hj
    exact hG _ (hp e he hb).1
   obtain ⟨⟨i', t⟩, hit, hii⟩ := List.mem_map.1 hiS
   have hii' : i = i' := hii.symm
   subst hii'
   refine step i t hit L x s w hiL hpreL hI hpre _ fun v s' w' hbw hI' hGv => ?_
   rw [put_putAll hit hc4, marked_set]
   refine ih (i :: L) (upd x i v) s' w' (List.nodup_cons.2 ⟨hiL, hL⟩) (fun j hj => ?_) (fun j hj m hm => ?_) (by simp only [List.length_cons]; omega) hI' fun j hj => ?_
   ·rcases List.mem_cons.1 hj with rfl | hj
    ·exact hiS
    ·exact hsub j hj
   ·rcases List.mem_cons.1 hj with rfl | hjL
    ·exact List.mem_cons_of_mem _ (hpreL m hm)
    ·exact List.mem_cons_of_mem _ (hcl j hjL m hm)
   ·rcases List.mem_cons.1 hj with rfl | hjL
    ·simpa [upd] using hGv
    ·have hne : j ≠ i := by rintro rfl; exact hiL hjL
     rw [show upd x i v j = x j by simp [upd, hne]]
     exact mono j i _ s w s' w' (hsub j hjL) hiS hne (fun hm => hiL (hcl j hjL i hm)) hbw (hG j hjL)
theorem wp_region_done {id : Nat} {a0 : Act} {w : World} (hm : P.follows .mixedOrders = true) (D : List (Nat × Option Tmp)) (S : List Nat) (hS : D.map (·.1) = S) (r : Nat) (hok : aheadOk ops D = true) (hr : S.length + r = ops.size) {σ : Type} (Rel : Nat → σ → World → σ → World → Prop) (G : Nat → Value → σ → World → Prop) (Inv : List Nat → σ → World → Prop) (s0 : σ) (hI : Inv [] s0 w.drew)
  (mono : ∀ i k v s w s' w', i ∈ S → k ∈ S → i ≠ k → k ∉ predsOf ops i → Rel k s w s' w' → G i v s w → G i v s' w')
  (step : ∀ i t, (i, t) ∈ D → ∀ (L : List Nat) (x : Nat → Value) (s : σ) (w : World), i ∉ L → (∀ j ∈ predsOf ops i, j ∈ L) → Inv L s w → (∀ j ∈ predsOf ops i, G j (x j) s w) → ∀ K : Act → World → Prop,
   (∀ v s' w', Rel i s w s' w' → Inv (i :: L) s' w' → G i v s' w' → K ((putAll x D a0).put t v) w') → wpOp P ops Q i K (putAll x D a0) w)
  (fin : ∀ (L : List Nat) (x : Nat → Value) (s : σ) (w : World), (∀ i ∈ S, i ∈ L) → Inv L s w → (∀ i ∈ S, G i (x i) s w) → wpAny P .any ops Q r (marked ops.size S) (putAll x D a0) w) : (Code.region id ops true).wp P Q a0 w := by
 refine wp_region_any hm ?_
 rw [marked_nil]
 have h := wpAny_done1 (P := P) (Q := Q) D S hS hok Rel G Inv a0 r mono step fin S.length [] (lookD D a0) s0 w.drew List.nodup_nil (by simp) (by simp) (by simp) hI (by simp)
 rw [putAll_same a0 (lookD_at (by simp only [aheadOk, Bool.and_eq_true, decide_eq_true_eq] at hok; exact hok.2)), hr] at h
 exact h
end
theorem Own.apart {b b' : Nat} {e e' : TypeId} {w : World} {α β : Type} {sz sz' : Nat} {R : List Value → α → Prop} {R' : List Value → β → Prop} {a a' : Option Addr} {c c' : Nat} {xs : List α} {ys : List β} (h : Own b e w sz R a c xs) (h' : Own b' e' w sz' R' a' c' ys) (he : e ≠ e') :
  ∀ k, a.map (·.block) = some k → a'.map (·.block) ≠ some k := by
 obtain ⟨_, _, _, _, _, h5⟩ := h
 obtain ⟨_, _, _, _, _, h5'⟩ := h'
 intro k hk hk'
 rcases h5 with ⟨e1, _⟩ | ⟨g, cap, cur, e1, _, hg, _⟩
 ·simp at e1; simp [e1.1] at hk
 ·rcases h5' with ⟨e2, _⟩ | ⟨g', cap', cur', e2, _, hg', _⟩
  ·simp at e2; simp [e2.1] at hk'
  ·simp at e1 e2
   rw [e1.1] at hk
   rw [e2.1] at hk'
   simp at hk hk'
   subst hk hk'
   rw [hg] at hg'
   simp at hg'
   exact he hg'.2
theorem Own.aside {b : Nat} {e : TypeId} {w w' : World} {α : Type} {sz : Nat} {R : List Value → α → Prop} {a : Option Addr} {c : Nat} {xs : List α} {row : Option Nat} (h : Own b e w sz R a c xs) (hg : w.grownBy w' row) (hne : ∀ k, a.map (·.block) = some k → row ≠ some k) : Own b e w' sz R a c xs := by
 obtain ⟨css, h1, h2, h3, h4⟩ := h
 refine ⟨css, h1, h2, h3, h4.kept hg ?_⟩
 cases a with
 | none => exact .inl rfl
 | some p => exact .inr fun e => hne p.block rfl e.symm
theorem St.turn {M : List Nat} {w0 w w' : World} {own : Blks} (st : St M w0 w own) {i g : Nat} {T : TypeId} {cs cs' : List Value} (hi : own[i]? = some (g, T, cs)) (h : St [g] w w' [(g, T, cs')]) : St M w0 w' (own.set i (g, T, cs')) := by
 have hin : (g, T, cs) ∈ own := mgE hi
 have hilt : i < own.length := (gEs hi).1
 have hget : own[i] = (g, T, cs) := (gEs hi).2
 have hids : (own.set i (g, T, cs')).map (·.1) = own.map (·.1) := by
  apply List.ext_getElem?
  intro j
  simp only [List.getElem?_map, List.getElem?_set]
  by_cases hj : i = j
  ·subst hj; simp [hilt, hget]
  ·simp [hj]
 refine ⟨h.os.trans st.os, h.tape.trans st.tape, h.output.trans st.output, Nat.le_trans st.size h.size, ?_, ?_, ?_, ?_⟩
 ·intro b hb hM
  have hbg : b ≠ g := by
   rintro rfl
   rcases st.mine _ hin with hm | hm
   ·exact hM hm
   ·simp at hm; omega
  rw [h.frame b (Nat.lt_of_lt_of_le hb st.size) (by simpa using hbg)]
  exact st.frame b hb hM
 ·intro x hx
  obtain ⟨j, hj⟩ := List.mem_iff_getElem?.1 hx
  rw [List.getElem?_set] at hj
  by_cases hij : i = j
  ·subst hij; simp [hilt] at hj; subst hj; exact h.blk (g, T, cs') (by simp)
  ·rw [if_neg hij] at hj
   have hxin := mgE hj
   have hne : x.1 ≠ g := by
    have hp := List.pairwise_iff_getElem.1 st.ne
    have hjl := (gEs hj).1
    have hjx := (gEs hj).2
    rcases Nat.lt_or_gt_of_ne hij with hlt | hlt
    ·have := hp i j hilt hjl hlt; rw [hget, hjx] at this; exact fun e => this e.symm
    ·have := hp j i hjl hilt hlt; rw [hget, hjx] at this; exact this
   rw [h.frame x.1 (st.lt hxin) (by simpa using hne)]
   exact st.blk x hxin
 ·intro x hx
  have : x.1 ∈ (own.set i (g, T, cs')).map (·.1) := List.mem_map.2 ⟨x, hx, rfl⟩
  rw [hids] at this
  obtain ⟨y, hy, e⟩ := List.mem_map.1 this
  rw [← e]; exact st.mine y hy
 ·have : ((own.set i (g, T, cs')).map (·.1)).Pairwise (·≠ ·) := by rw [hids]; exact List.pairwise_map.2 st.ne
  exact List.pairwise_map.1 this
theorem St.hand {w : World} {g : Nat} {T : TypeId} {cs : List Value} (h : w.heap[g]? = some (.cells cs.toArray T (0, 0))) : St [g] w w [(g, T, cs)] :=
 ⟨rfl, rfl, rfl, Nat.le_refl _, fun _ _ _ => rfl, by simpa using h, by simp, by simp⟩
def certsOk : List Cert → List Cert → Bool
 | _, [] => true
 | pre, x :: l => goodCertB x && !(inL pre x) && certsOk (pre ++ [x]) l
def goodCerts (l : List Cert) : Bool := certsOk [] l && decide (l.length ≤ 24)
theorem certsOk_at {l : List Cert} {k : Nat} (h : k < l.length) : certsOk (l.take k) (l.drop k) = (goodCertB l[k] && !(inL (l.take k) l[k]) && certsOk (l.take (k + 1)) (l.drop (k + 1))) := by
 rw [drop_at h, certsOk, List.take_succ_eq_append_getElem h]
theorem certsOk_iff (l : List Cert) : ∀ pre, certsOk pre l = true ↔ (∀ x ∈ l, goodCertB x = true) ∧ l.Nodup ∧ ∀ x ∈ l, x ∉ pre := by
 induction l with
 | nil => simp [certsOk]
 | cons x l ih =>
  intro pre
  simp only [certsOk, Bool.and_eq_true, Bool.not_eq_true', inL_not, ih, List.mem_cons, List.nodup_cons, List.mem_append, List.not_mem_nil, or_false]
  constructor
  ·rintro ⟨⟨h1, h2⟩, h3, h4, h5⟩
   refine ⟨?_, ⟨fun hx => (h5 x hx) (.inr rfl), h4⟩, ?_⟩
   ·rintro y (rfl | hy)
    ·exact h1
    ·exact h3 y hy
   ·rintro y (rfl | hy)
    ·exact h2
    ·exact fun hp => h5 y hy (.inl hp)
  ·rintro ⟨h1, ⟨h2, h3⟩, h4⟩
   refine ⟨⟨h1 x (.inl rfl), h4 x (.inl rfl)⟩, fun y hy => h1 y (.inr hy), h3, ?_⟩
   rintro y hy (hp | rfl)
   ·exact h4 y (.inr hy) hp
   ·exact h2 hy
theorem goodCerts_iff (l : List Cert) : goodCerts l = true ↔ (∀ x ∈ l, goodCertB x = true) ∧ l.Nodup ∧ l.length ≤ 24 := by
 unfold goodCerts
 rw [Bool.and_eq_true, certsOk_iff]
 simp [and_assoc]
def addC (l : List Cert) (c : Cert) : List Cert × Int :=
 if (goodCerts l && goodCertB c) = false then ([], 2) else if inL l c = true then (l, 0) else if 24 ≤ l.length then ([], 5) else (l ++ [c], 0)
inductive Reach (l : List Cert) (c now : Int) : Int → Prop
 | home : Reach l c now ((c / 20))
 | step (x : Cert) : x ∈ l → x.c = c → now ≤ x.till → Reach l c now x.by_ → Reach l c now x.host
noncomputable def trustB (l : List Cert) (c now h : Int) : Bool := @decide (catOk c = true ∧ goodCerts l = true ∧ Reach l c now h) (Classical.propDecidable _)
theorem trustB_iff {l : List Cert} {c now h : Int} : trustB l c now h = true ↔ catOk c = true ∧ goodCerts l = true ∧ Reach l c now h := by
 unfold trustB
 exact @decide_eq_true_iff _ (Classical.propDecidable _)
theorem home_range {c : Int} (h : catOk c = true) : 0 ≤ c / 20 ∧ c / 20 < 4 := by
 have hc := (catOk_iff _).1 h
 omega
theorem goodCert_range {x : Cert} (h : goodCertB x = true) : (0 ≤ x.by_ ∧ x.by_ < 4) ∧ (0 ≤ x.host ∧ x.host < 4) := by
 unfold goodCertB at h
 simp only [Bool.and_eq_true, four_iff] at h
 exact ⟨h.1.1.1.1.2, h.1.1.1.2⟩
structure Four where
 b0 : Bool
 b1 : Bool
 b2 : Bool
 b3 : Bool
 deriving DecidableEq
def Four.get (e : Four) : Nat → Bool
 | 0 => e.b0
 | 1 => e.b1
 | 2 => e.b2
 | 3 => e.b3
 | _ => false
def Four.set (e : Four) : Nat → Four
 | 0 => { e with b0 := true }
 | 1 => { e with b1 := true }
 | 2 => { e with b2 := true }
 | 3 => { e with b3 := true }
 | _ => e
def Four.no (e : Four) : Nat := (if e.b0 then 0 else 1) + (if e.b1 then 0 else 1) + (if e.b2 then 0 else 1) + (if e.b3 then 0 else 1)
def fourL (e : Four) : List Value := [.bool e.b0, .bool e.b1, .bool e.b2, .bool e.b3]
theorem fourL_get (e : Four) {k : Nat} (h : k < 4) : (fourL e)[k]? = some (.bool (e.get k)) := by
 match k, h with
 | 0, _ => rfl
 | 1, _ => rfl
 | 2, _ => rfl
 | 3, _ => rfl
theorem fourL_put (e : Four) {k : Nat} (h : k < 4) : putL (fourL e) k [.bool true] = fourL (e.set k) := by
 match k, h with
 | 0, _ => rfl
 | 1, _ => rfl
 | 2, _ => rfl
 | 3, _ => rfl
theorem Four.get_set (e : Four) {k : Nat} (h : k < 4) (j : Nat) : (e.set k).get j = if j = k then true else e.get j := by
 match k, h with
 | 0, _ => match j with | 0 => rfl | 1 => rfl | 2 => rfl | 3 => rfl | n + 4 => rfl
 | 1, _ => match j with | 0 => rfl | 1 => rfl | 2 => rfl | 3 => rfl | n + 4 => rfl
 | 2, _ => match j with | 0 => rfl | 1 => rfl | 2 => rfl | 3 => rfl | n + 4 => rfl
 | 3, _ => match j with | 0 => rfl | 1 => rfl | 2 => rfl | 3 => rfl | n + 4 => rfl
theorem Four.no_set (e : Four) {k : Nat} (h : k < 4) (hk : e.get k = false) : (e.set k).no + 1 = e.no := by
 obtain ⟨b0, b1, b2, b3⟩ := e
 match k, h with
 | 0, _ => simp [Four.get] at hk; subst hk; cases b1 <;> cases b2 <;> cases b3 <;> rfl
 | 1, _ => simp [Four.get] at hk; subst hk; cases b0 <;> cases b2 <;> cases b3 <;> rfl
 | 2, _ => simp [Four.get] at hk; subst hk; cases b0 <;> cases b1 <;> cases b3 <;> rfl
 | 3, _ => simp [Four.get] at hk; subst hk; cases b0 <;> cases b1 <;> cases b2 <;> rfl
def live (c now : Int) (x : Cert) : Prop := x.c = c ∧ now ≤ x.till
structure TrInv (l : List Cert) (c now : Int) (e : Four) (work : List Int) (h : Int) (k : Nat) : Prop where
 sound : ∀ n : Nat, e.get n = true → Reach l c now n
 wait : ∀ x ∈ work, Reach l c now x ∧ 0 ≤ x ∧ x < 4
 edge : ∀ (i : Nat) (hi : i < l.length), live c now l[i] → (l[i].by_ ≠ h ∨ i < k) → e.get l[i].by_.toNat = true → e.get l[i].host.toNat = true ∨ l[i].host ∈ work
 home : e.get ((c / 20)).toNat = true ∨ (c / 20) ∈ work
def four0 : Four := ⟨false, false, false, false⟩
theorem four0_get (n : Nat) : four0.get n = false := by
 match n with
 | 0 => rfl
 | 1 => rfl
 | 2 => rfl
 | 3 => rfl
 | n + 4 => rfl
theorem TrInv.start {l : List Cert} {c now : Int} (hc : catOk c = true) : TrInv l c now four0 [(c / 20)] (-1) 0 :=
 ⟨fun n hn => absurd hn (by rw [four0_get]; simp), fun x hx => (by simp at hx; subst hx; exact ⟨.home, home_range hc⟩),
 fun i hi _ _ hh => absurd hh (by rw [four0_get]; simp), .inr (by simp)⟩
theorem TrInv.pop {l : List Cert} {c now : Int} {e : Four} {work : List Int} {n : Nat} {k : Nat} (hi : TrInv l c now e ((n : Int) :: work) (-1) k) (hn : e.get n = true) : TrInv l c now e work (-1) k := by
 refine ⟨hi.sound, fun x hx => hi.wait x (by simp [hx]), fun i h1 h2 h3 h4 => ?_, ?_⟩
 ·rcases hi.edge i h1 h2 h3 h4 with h | h
  ·exact .inl h
  ·rcases List.mem_cons.1 h with h | h
   ·exact .inl (by rw [h]; simpa using hn)
   ·exact .inr h
 ·rcases hi.home with h | h
  ·exact .inl h
  ·rcases List.mem_cons.1 h with h | h
   ·exact .inl (by rw [h]; simpa using hn)
   ·exact .inr h
theorem TrInv.enter {l : List Cert} {c now : Int} {e : Four} {work : List Int} {n : Nat} {k : Nat} (hl : ∀ x ∈ l, 0 ≤ x.by_ ∧ 0 ≤ x.host) (hc : 0 ≤ (c / 20)) (hn : n < 4) (hi : TrInv l c now e ((n : Int) :: work) (-1) k) : TrInv l c now (e.set n) work n 0 := by
 have hg : ∀ j, e.get j = true → (e.set n).get j = true := fun j hj => by rw [Four.get_set e hn]; split <;> simp_all
 refine ⟨fun j hj => ?_, fun x hx => hi.wait x (by simp [hx]), fun i h1 h2 h3 h4 => ?_, ?_⟩
 ·rw [Four.get_set e hn] at hj
  by_cases h : j = n
  ·subst h; exact (hi.wait _ (by simp)).1
  ·rw [if_neg h] at hj; exact hi.sound j hj
 ·have hb := hl _ (List.getElem_mem h1)
  have hne : l[i].by_ ≠ (n : Int) := by rcases h3 with h | h; exact h; omega
  rw [Four.get_set e hn, if_neg (by omega)] at h4
  rcases hi.edge i h1 h2 (.inl (by omega)) h4 with h | h
  ·exact .inl (hg _ h)
  ·rcases List.mem_cons.1 h with h | h
   ·exact .inl (by rw [h, Four.get_set e hn]; simp)
   ·exact .inr h
 ·rcases hi.home with h | h
  ·exact .inl (hg _ h)
  ·rcases List.mem_cons.1 h with h | h
   ·exact .inl (by rw [h, Four.get_set e hn]; simp)
   ·exact .inr h
theorem TrInv.push {l : List Cert} {c now : Int} {e : Four} {work : List Int} {n k : Nat} (hi : TrInv l c now e work n k) (hk : k < l.length) (hg : 0 ≤ l[k].host ∧ l[k].host < 4) (hn : e.get n = true) (h1 : l[k].c = c) (h2 : l[k].by_ = n) (h3 : now ≤ l[k].till) : TrInv l c now e (work ++ [l[k].host]) n (k + 1) := by
 refine ⟨hi.sound, fun x hx => ?_, fun i a1 a2 a3 a4 => ?_, ?_⟩
 ·rcases List.mem_append.1 hx with hx | hx
  ·exact hi.wait x hx
  ·simp at hx; subst hx
   exact ⟨.step l[k] (List.getElem_mem hk) h1 h3 (by rw [h2]; exact hi.sound n hn), hg⟩
 ·by_cases hik : i = k
  ·subst hik; exact .inr (by simp)
  ·rcases hi.edge i a1 a2 (by rcases a3 with h | h; exact .inl h; exact .inr (by omega)) a4 with h | h
   ·exact .inl h
   ·exact .inr (by simp [h])
 ·rcases hi.home with h | h
  ·exact .inl h
  ·exact .inr (by simp [h])
theorem TrInv.pass {l : List Cert} {c now : Int} {e : Four} {work : List Int} {n k : Nat} (hi : TrInv l c now e work n k) (hk : k < l.length) (h : ¬ (l[k].c = c ∧ l[k].by_ = n ∧ now ≤ l[k].till)) : TrInv l c now e work n (k + 1) := by
 refine ⟨hi.sound, hi.wait, fun i a1 a2 a3 a4 => ?_, hi.home⟩
 by_cases hik : i = k
 ·subst hik
  exact hi.edge i a1 a2 (.inl fun hb => h ⟨a2.1, hb, a2.2⟩) a4
 ·exact hi.edge i a1 a2 (by rcases a3 with h | h; exact .inl h; exact .inr (by omega)) a4
theorem TrInv.leave {l : List Cert} {c now : Int} {e : Four} {work : List Int} {n k : Nat} (hi : TrInv l c now e work n k) (hk : ¬ k < l.length) : TrInv l c now e work (-1) 0 :=
 ⟨hi.sound, hi.wait, fun i a1 a2 _ a4 => hi.edge i a1 a2 (.inr (by omega)) a4, hi.home⟩
theorem TrInv.done {l : List Cert} {c now : Int} {e : Four} {k : Nat} (hc : catOk c = true) (hg : goodCerts l = true) (hi : TrInv l c now e [] (-1) k) (n : Nat) : e.get n = trustB l c now n := by
 have hgl := ((goodCerts_iff l).1 hg).1
 have key : ∀ h : Int, Reach l c now h → e.get h.toNat = true := by
  intro h hr
  induction hr with
  | home => exact hi.home.resolve_right (by simp)
  | step x hx h1 h2 _ ih =>
   obtain ⟨i, hlt, rfl⟩ := List.mem_iff_getElem.1 hx
   exact (hi.edge i hlt ⟨h1, h2⟩ (.inl (by have := (goodCert_range (hgl _ hx)).1; omega)) ih).resolve_right (by simp)
 cases hb : trustB l c now n
 ·cases he : e.get n
  ·rfl
  ·exact absurd (trustB_iff.2 ⟨hc, hg, hi.sound n he⟩) (by rw [hb]; simp)
 ·have := key n (trustB_iff.1 hb).2.2
  simpa using this
noncomputable def trustF (l : List Cert) (c now : Int) : Four := ⟨trustB l c now 0, trustB l c now 1, trustB l c now 2, trustB l c now 3⟩
theorem trustF_get (l : List Cert) (c now : Int) {k : Nat} (h : k < 4) : (trustF l c now).get k = trustB l c now k := by
 match k, h with
 | 0, _ => rfl
 | 1, _ => rfl
 | 2, _ => rfl
 | 3, _ => rfl
theorem addC_ok {l : List Cert} {c : Cert} (h : (addC l c).2 = 0) : goodCerts l = true ∧ goodCerts (addC l c).1 = true ∧ (∀ x ∈ l, x ∈ (addC l c).1) ∧ (∀ x ∈ (addC l c).1, x ∈ l ∨ x = c) ∧ c ∈ (addC l c).1 ∧ goodCertB c = true := by
 unfold addC at h ⊢
 by_cases h1 : (goodCerts l && goodCertB c) = false
 ·rw [if_pos h1] at h; cases h
 ·rw [if_neg h1] at h ⊢
  simp only [Bool.not_eq_false, Bool.and_eq_true] at h1
  by_cases h2 : inL l c = true
  ·rw [if_pos h2] at h ⊢
   exact ⟨h1.1, h1.1, fun _ hx => hx, fun _ hx => .inl hx, (inL_iff l c).1 h2, h1.2⟩
  ·rw [if_neg h2] at h ⊢
   by_cases h3 : 24 ≤ l.length
   ·rw [if_pos h3] at h; cases h
   ·rw [if_neg h3] at h ⊢
    have hg := (goodCerts_iff l).1 h1.1
    have hn : c ∉ l := fun hc => h2 ((inL_iff l c).2 hc)
    refine ⟨h1.1, (goodCerts_iff _).2 ⟨?_, ?_, by simp; omega⟩, fun x hx => by simp [hx], fun x hx => by simpa using hx, by simp, h1.2⟩
    ·intro x hx
     rcases List.mem_append.1 hx with hx | hx
     ·exact hg.1 x hx
     ·simp at hx; subst hx; exact h1.2
    ·refine List.nodup_append.2 ⟨hg.2.1, by simp, ?_⟩
     intro a ha b hb
     simp at hb
     subst hb
     exact fun he => hn (he ▸ ha)
end Go.Proofs.YtnjjdpiofbajlaaGreat
