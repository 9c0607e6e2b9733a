/- A row of bytes of the call's own, and what else lies in memory while it grows. -/
import Derived.Test.YtikfjmcgoamdlaaWireB
import Derived.Lib.AppendStr
import Derived.Laws.IdiomStrings
set_option linter.unusedSimpArgs false
set_option linter.unusedVariables false
namespace Go.Proofs.Ytikfjmcgoamdlaa
open Go.RowKit

theorem wpList_load_cells {P : Program} {w : World} {ops : Array Oper} {rest : List Oper} {o : Oper} {A : Act} {Q : Exit → Act → World → Prop} (hgd : Region.wanted o (yielded ops A.tmps) = true) (T : TypeId) (x : Operand) (ho : o.op = .load T x) (hagg : ∀ w, (isAgg T).run P w = .ok true w) (n : Nat) (hsz : ∀ w, (sizeOf T).run P w = .ok n w)
    (g off : Nat) (hx : A.eval x = .pointer (some ⟨g, off, none⟩)) (vs : List Value) (hl : vs.length = n) (hc : ∀ (j : Nat) (v : Value), vs[j]? = some v → w.cell? ⟨g, off + j, none⟩ = some v) (h : wpList P ops Q rest (A.put o.dst (.agg vs.toArray)) w) : wpList P ops Q (o :: rest) A w := by
  refine wpList_wanted hgd fun K hK => ?_
  have hl' : (loadCells ⟨g, off, none⟩ vs.length).run P w = .ok vs.toArray w := run_loadCells_list (P := P) w ⟨g, off, none⟩ vs (fun j v hj => by rw [add_plain]; exact hc j v hj)
  rw [hl] at hl'
  unfold Oper.wp
  simp only [execOp, ho, hx, Instr.loadAt, Instr.sureAddr, loadVar, Sem.run_bind, Sem.run_pure, Result.andThen_ok, hagg, hsz, if_true, hl']
  exact hK _ _ h

/-- A row's block is none of another type's. -/
theorem Own.apart {base : Nat} {e : TypeId} {w : World} {α : Type} {sz : Nat} {R : List Value → α → Prop} {a : Option Addr} {c : Nat} {xs : List α} (h : Own base e w sz R a c xs) {g : Nat} {cs : Array Value} {T : TypeId} {fr : Nat × Nat} (hb : w.heap[g]? = some (.cells cs T fr)) (hT : T ≠ e) : a.map (·.block) ≠ some g := by
  obtain ⟨css, _, _, _, h4⟩ := h
  intro he
  rcases h4.2 with ⟨hv, _⟩ | ⟨g', cap, cur, hv, _, hh, _⟩
  · simp only [Value.slice.injEq] at hv
    obtain ⟨rfl, _⟩ := hv
    simp at he
  · simp only [Value.slice.injEq] at hv
    obtain ⟨rfl, _⟩ := hv
    simp at he
    subst he
    rw [hb] at hh
    simp at hh
    exact hT hh.2.1

theorem St.buf {w0 wx w' : World} {own : Blks} {base : Nat} {e : TypeId} {α : Type} {sz : Nat} {R : List Value → α → Prop} {a : Option Addr} {c : Nat} {xs : List α} (st : St [] w0 wx own) (hO : Own base e wx sz R a c xs) (hb : w0.heap.size ≤ base) (hg : wx.grownBy w' (a.map (·.block))) (hT : ∀ x ∈ own, x.2.1 ≠ e) : St [] w0 w' own := by
  obtain ⟨css, h1, h2, h3, h4⟩ := id hO
  refine ⟨hg.os.trans st.os, hg.tape.trans st.tape, hg.output.trans st.output, Nat.le_trans st.size hg.size, fun b hb' _ => ?_, fun x hx => ?_, st.mine, st.ne⟩
  · rw [hg.block b (Nat.lt_of_lt_of_le hb' st.size) fun e => ?_]
    · exact st.frame b hb' (by simp)
    · have := (hO.blockLt b e.symm).1
      omega
  · rw [hg.block x.1 (st.lt hx) fun e => hO.apart (st.blk x hx) (hT x hx) e.symm]
    exact st.blk x hx

theorem St.buf1 {w0 wx w' : World} {own : Blks} {base : Nat} {e : TypeId} {α : Type} {sz : Nat} {R : List Value → α → Prop} {a : Option Addr} {c : Nat} {xs : List α} (st : St [] w0 wx own) (hO : Own base e wx sz R a c xs) (hb : w0.heap.size ≤ base) {o : Obj} (hg : (wx.alloc o).grownBy w' (a.map (·.block))) (hT : ∀ x ∈ own, x.2.1 ≠ e) : St [] w0 w' own :=
  (st.call ((Below.refl _ _).alloc (Nat.le_refl _) o)).buf (hO.below ((Below.refl _ _).alloc (Nat.le_refl _) o)) hb hg hT

theorem wpList_buildU1 {P : Program} {w0 w : World} {M : List Nat} {own : Blks} {ops : Array Oper} {rest : List Oper} {o : Oper} {A : Act} {Q : Exit → Act → World → Prop} (st : St M w0 w own) (hgd : Region.wanted o (yielded ops A.tmps) = true) (T T' : TypeId) (x0 : Operand) (ho : o.op = .buildSlice T 1 #[(0, x0)]) (ht : P.underlying T = some (.slice T')) (hsz : ∀ w, (sizeOf T').run P w = .ok 1 w) (hz : ∀ w, (zeroValue T').run P w = .ok (.int .u8 0) w) (n0 : Int) (hx0 : A.eval x0 = .int .u8 n0)
    (h : ∀ g w', w0.heap.size ≤ g → g = w.heap.size → St M w0 w' (own ++ [(g, T', [.int .u8 n0])]) → Below w.heap.size w w' → w'.heap.size = w.heap.size + 1 → wpList P ops Q rest (A.put o.dst (.slice (some ⟨g, 0, none⟩) 1 1)) w') : wpList P ops Q (o :: rest) A w := by
  refine wpList_wanted hgd fun K hK => ?_
  have hs := st.new T' [.int .u8 n0]
  have h2 := hK _ _ (h w.heap.size _ st.size rfl hs ((Below.refl _ _).alloc (Nat.le_refl _) _) (by simp))
  unfold Oper.wp
  simp [execOp, ho, Instr.buildSlice, run_underlying ht, hsz, hz, newRow, newObj, hx0, Instr.fill, Value.cells, Array.range, Result.andThen] at h2 ⊢
  exact h2

theorem wpList_buildU2 {P : Program} {w0 w : World} {M : List Nat} {own : Blks} {ops : Array Oper} {rest : List Oper} {o : Oper} {A : Act} {Q : Exit → Act → World → Prop} (st : St M w0 w own) (hgd : Region.wanted o (yielded ops A.tmps) = true) (T T' : TypeId) (x0 x1 : Operand) (ho : o.op = .buildSlice T 2 #[(0, x0), (1, x1)]) (ht : P.underlying T = some (.slice T')) (hsz : ∀ w, (sizeOf T').run P w = .ok 1 w) (hz : ∀ w, (zeroValue T').run P w = .ok (.int .u8 0) w) (n0 n1 : Int) (hx0 : A.eval x0 = .int .u8 n0) (hx1 : A.eval x1 = .int .u8 n1)
    (h : ∀ g w', w0.heap.size ≤ g → g = w.heap.size → St M w0 w' (own ++ [(g, T', [.int .u8 n0, .int .u8 n1])]) → Below w.heap.size w w' → w'.heap.size = w.heap.size + 1 → wpList P ops Q rest (A.put o.dst (.slice (some ⟨g, 0, none⟩) 2 2)) w') : wpList P ops Q (o :: rest) A w := by
  refine wpList_wanted hgd fun K hK => ?_
  have hs := st.new T' [.int .u8 n0, .int .u8 n1]
  have h2 := hK _ _ (h w.heap.size _ st.size rfl hs ((Below.refl _ _).alloc (Nat.le_refl _) _) (by simp))
  unfold Oper.wp
  simp [execOp, ho, Instr.buildSlice, run_underlying ht, hsz, hz, newRow, newObj, hx0, hx1, Instr.fill, Value.cells, Array.range, Result.andThen] at h2 ⊢
  exact h2

theorem wpList_buildU3 {P : Program} {w0 w : World} {M : List Nat} {own : Blks} {ops : Array Oper} {rest : List Oper} {o : Oper} {A : Act} {Q : Exit → Act → World → Prop} (st : St M w0 w own) (hgd : Region.wanted o (yielded ops A.tmps) = true) (T T' : TypeId) (x0 x1 x2 : Operand) (ho : o.op = .buildSlice T 3 #[(0, x0), (1, x1), (2, x2)]) (ht : P.underlying T = some (.slice T')) (hsz : ∀ w, (sizeOf T').run P w = .ok 1 w) (hz : ∀ w, (zeroValue T').run P w = .ok (.int .u8 0) w) (n0 n1 n2 : Int) (hx0 : A.eval x0 = .int .u8 n0) (hx1 : A.eval x1 = .int .u8 n1) (hx2 : A.eval x2 = .int .u8 n2)
    (h : ∀ g w', w0.heap.size ≤ g → g = w.heap.size → St M w0 w' (own ++ [(g, T', [.int .u8 n0, .int .u8 n1, .int .u8 n2])]) → Below w.heap.size w w' → w'.heap.size = w.heap.size + 1 → wpList P ops Q rest (A.put o.dst (.slice (some ⟨g, 0, none⟩) 3 3)) w') : wpList P ops Q (o :: rest) A w := by
  refine wpList_wanted hgd fun K hK => ?_
  have hs := st.new T' [.int .u8 n0, .int .u8 n1, .int .u8 n2]
  have h2 := hK _ _ (h w.heap.size _ st.size rfl hs ((Below.refl _ _).alloc (Nat.le_refl _) _) (by simp))
  unfold Oper.wp
  simp [execOp, ho, Instr.buildSlice, run_underlying ht, hsz, hz, newRow, newObj, hx0, hx1, hx2, Instr.fill, Value.cells, Array.range, Result.andThen] at h2 ⊢
  exact h2

def byteV (b : UInt8) : Value := .int .u8 b.toNat

theorem byteV_eq {x : Int} (h0 : 0 ≤ x) (h1 : x < 256) : Value.int .u8 x = byteV (byteAt x 0) := by
  unfold byteV
  rw [byteAt_int h0]
  simp
  omega

theorem RU8.iff (cs : List Value) (x : UInt8) : RU8 cs x ↔ cs = [byteV x] := Iff.rfl

theorem bytes_rows (xs : List UInt8) : (xs.map fun b => [byteV b]).flatten = xs.map byteV := by
  induction xs with
  | nil => rfl
  | cons x xs ih => simp [ih]

theorem SlR.bytes {ok : Nat → Prop} {w : World} {g : Nat} {e : TypeId} {cs : List Value} (xs : List UInt8) (hg : w.heap[g]? = some (.cells cs.toArray e (0, 0))) (hcs : cs = xs.map byteV) (ho : ok g) (hm : xs.length ≤ maxLen) : SlR ok w 1 RU8 (some ⟨g, 0, none⟩) xs.length xs := by
  refine ⟨Nat.le_refl _, hm, by simp, fun i y hy => ?_⟩
  have hi := (List.getElem?_eq_some_iff.1 hy).1
  refine ⟨g, 0, [byteV y], rfl, ho, (Array.getElem?_eq_some_iff.1 hg).1, rfl, rfl, by simp [byteV, Value.oneCell'], fun j v hv => ?_⟩
  have hj : j = 0 := by have := (List.getElem?_eq_some_iff.1 hv).1; simp at this; exact this
  subst hj
  simp at hv
  subst hv
  rw [cell_of_row w g _ cs.toArray e (0, 0) hg]
  simp [hcs, hy]

theorem Own.ofBytes {base : Nat} {w : World} {e : TypeId} {a : Option Addr} {c : Nat} {xs : List UInt8} (h : w.ownsRow base e 1 (.slice a xs.length c) xs.length (xs.map byteV)) : Own base e w 1 RU8 a c xs := by
  refine ⟨xs.map fun b => [byteV b], by simp, ?_, fun i x cs hx hc => ?_, ?_⟩
  · intro cs hcs
    obtain ⟨b, _, rfl⟩ := List.mem_map.1 hcs
    simp [byteV, Value.oneCell']
  · simp only [List.getElem?_map, hx, Option.map_some, Option.some.injEq] at hc
    exact hc.symm
  · rw [bytes_rows]
    exact h

theorem Own.toBytes {base : Nat} {w : World} {e : TypeId} {a : Option Addr} {c : Nat} {xs : List UInt8} (h : Own base e w 1 RU8 a c xs) : w.ownsRow base e 1 (.slice a xs.length c) xs.length (xs.map byteV) := by
  obtain ⟨css, h1, h2, h3, h4⟩ := h
  have e1 : css = xs.map fun b => [byteV b] := by
    apply List.ext_getElem?
    intro i
    by_cases hi : i < xs.length
    · have := h3 i xs[i] css[i] (by simp [hi]) (by simp [h1, hi])
      simp only [List.getElem?_map]
      rw [List.getElem?_eq_getElem (by omega), List.getElem?_eq_getElem hi, this]
      rfl
    · simp [hi, h1, Nat.not_lt.1 hi]
  rw [e1, bytes_rows] at h4
  exact h4

/-- A new row of bytes. -/
theorem Own.bytesNew {base : Nat} {w : World} {e : TypeId} {cs : List Value} (xs : List UInt8) (hcs : cs = xs.map byteV) (hb : base ≤ w.heap.size) (hm : xs.length ≤ maxLen) : Own base e (w.alloc (.cells cs.toArray e)) 1 RU8 (some ⟨w.heap.size, 0, none⟩) xs.length xs :=
  Own.ofBytes ⟨by simp, .inr ⟨w.heap.size, xs.length, cs.toArray, rfl, hb, heap_alloc_new w _, Nat.le_refl _, hm, by simp [hcs], by rw [hcs]; exact List.take_of_length_le (by simp)⟩⟩

theorem Own.bytesBlk {base : Nat} {w : World} {e : TypeId} {cs : List Value} {g : Nat} (xs : List UInt8) (hg : w.heap[g]? = some (.cells cs.toArray e (0, 0))) (hcs : cs = xs.map byteV) (hb : base ≤ g) (hm : xs.length ≤ maxLen) : Own base e w 1 RU8 (some ⟨g, 0, none⟩) xs.length xs :=
  Own.ofBytes ⟨by simp, .inr ⟨g, xs.length, cs.toArray, rfl, hb, hg, Nat.le_refl _, hm, by simp [hcs], by rw [hcs]; exact List.take_of_length_le (by simp)⟩⟩

theorem Own.byteFree {base : Nat} {e : TypeId} {w : World} {g c : Nat} {xs : List UInt8} (h : Own base e w 1 RU8 (some ⟨g, 0, none⟩) c xs) (j : Nat) : w.frozen? ⟨g, j, none⟩ = false := World.ownsRow.frozenAt h.toBytes j

theorem Own.byteCell {base : Nat} {e : TypeId} {w : World} {g c : Nat} {xs : List UInt8} (h : Own base e w 1 RU8 (some ⟨g, 0, none⟩) c xs) (j : Nat) (hj : j < xs.length) : w.cell? ((⟨g, 0, none⟩ : Addr).add j) = some (.int .u8 (xs[j].toNat : Int)) := by
  obtain ⟨b, o, cs, ha, _, _, hr, _, _, hc⟩ := (h.slr (ok := fun _ => True) fun _ _ => trivial).2.2.2 j xs[j] (by simp [hj])
  simp at ha
  obtain ⟨rfl, rfl⟩ := ha
  rw [hr] at hc
  have := hc 0 _ rfl
  simpa [add_plain] using this

/-- 'string(b)'. -/
theorem Own.string {P : Program} {base : Nat} {e : TypeId} {w : World} {g c : Nat} {xs : List UInt8} (h : Own base e w 1 RU8 (some ⟨g, 0, none⟩) c xs) (src dst e' : TypeId) (hs : P.underlying src = some (.slice e')) (he : P.underlying e' = some (.int .u8)) (hd : P.underlying dst = some .string) :
    (convert src dst (.slice (some ⟨g, 0, none⟩) xs.length c)).run P w = .ok (.string ⟨xs.toArray⟩) w :=
  run_convert_bytes_back (P := P) w src dst e' ⟨g, 0, none⟩ c xs hs he hd fun j hj => h.byteCell j hj

theorem Own.set {base : Nat} {e : TypeId} {w : World} {g c : Nat} {xs : List UInt8} (h : Own base e w 1 RU8 (some ⟨g, 0, none⟩) c xs) (j : Nat) (y : UInt8) : Own base e (w.setCell ⟨g, j, none⟩ (byteV y)) 1 RU8 (some ⟨g, 0, none⟩) c (xs.set j y) ∧ w.grownBy (w.setCell ⟨g, j, none⟩ (byteV y)) (some g) := by
  obtain ⟨s1, s2⟩ := World.ownsRow.stored h.toBytes j (byteV y)
  exact ⟨Own.ofBytes (by simpa [List.map_set] using s1), s2⟩

theorem strCells_bytes (s : ByteArray) : Lib.strCells s = s.data.toList.map byteV := by
  simp [Lib.strCells, byteV]

/-- 'append(b, s...)' of a string. -/
theorem wpList_appStr {P : Program} {w : World} {ops : Array Oper} {rest : List Oper} {o : Oper} {A : Act} {Q : Exit → Act → World → Prop} (hgd : o.guard = none) (sl x : Operand) (t u : TypeId)
    (ho : o.op = .call { callee := .builtin .append, args := #[sl, x], argTypes := #[t, u] })
    (base : Nat) (e : TypeId) (i : TypeInfo) (ht : P.underlying t = some (.slice e)) (hu : P.underlying u = some .string) (hi : P.info? e = some i) (hz : i.zero = some (.int .u8 0)) (hsize : i.size = 1) (hby : i.bytes = 1)
    {a : Option Addr} {c n : Nat} {xs : List UInt8} (hs : A.eval sl = .slice a n c) (hn : n = xs.length) (hO : Own base e w 1 RU8 a c xs) (s : ByteArray) (hx : A.eval x = .string s) (hl : xs.length + s.size ≤ 140737488355328) (hbase : base ≤ w.heap.size)
    (h : ∀ a' c' w', Own base e w' 1 RU8 a' c' (xs ++ s.data.toList) → w.grownBy w' (a.map (·.block)) → wpList P ops Q rest (A.put o.dst (.slice a' (n + s.size) c')) w') : wpList P ops Q (o :: rest) A w := by
  subst hn
  have hob : (Value.slice a xs.length c).ownBlock = a.map (·.block) := by cases a <;> rfl
  refine Lib.wpList_append_own_string w hgd sl x t u ho base e i ht hu hi hz hsize hby _ xs.length _ hs hO.toBytes s hx (by unfold maxLen; omega) hl hbase fun v' w' g1 g2 _ => ?_
  rw [strCells_bytes, ← List.map_append] at g1
  rw [hob] at g2
  have hsz : s.data.toList.length = s.size := by rw [Array.length_toList]; rfl
  have hl2 : xs.length + s.size = (xs ++ s.data.toList).length := by rw [List.length_append, hsz]
  rw [hl2] at g1
  have key : ∀ a' c', v' = .slice a' (xs.length + s.size) c' → Own base e w' 1 RU8 a' c' (xs ++ s.data.toList) := by
    rintro a' c' rfl
    rw [hl2] at g1
    exact Own.ofBytes g1
  rcases g1.2 with ⟨rfl, hn⟩ | ⟨g, cap, cur, rfl, _⟩
  · have := h none 0 w' (key _ _ (by rw [hl2, hn])) g2
    rw [hl2, hn] at this
    exact this
  · rw [← hl2]
    exact h _ _ w' (key _ _ (by rw [hl2])) g2

end Go.Proofs.Ytikfjmcgoamdlaa
