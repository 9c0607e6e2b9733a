/- Walks and plain laws, part 39. -/
import Derived.Test.YtnjjdpiofbajlaaGreatP13
import Derived.Test.YtnjjdpiofbajlaaGreatP5
import Derived.Deep.DeepCutAuto
import Derived.OwnWalk
set_option linter.unusedSimpArgs false
set_option linter.unusedVariables false
set_option maxHeartbeats 16000000
set_option maxRecDepth 100000
namespace Go.Proofs.YtnjjdpiofbajlaaGreat
open Go.RowKit
structure BRow (w0 w : World) (g : Nat) (bs : List UInt8) : Prop where
 below : Below w0.heap.size w0 w
 new : w0.heap.size ≤ g
 cells : ∃ cs e m, w.heap[g]? = some (.cells cs e m) ∧ bs.length ≤ m.1 ∧ ∀ (j : Nat) (h : j < bs.length), cs[j]? = some (.int .u8 (bs[j].toNat : Int))
section
variable {w0 w : World} {g : Nat} {bs : List UInt8}
theorem BRow.cell (h : BRow w0 w g bs) {j : Nat} (hj : j < bs.length) : w.cell? ⟨g, j, none⟩ = some (.int .u8 (bs[j].toNat : Int)) := by
 obtain ⟨cs, e, m, h1, -, h3⟩ := h.cells
 simp only [World.cell?, h1]
 exact h3 j hj
theorem BRow.free (h : BRow w0 w g bs) {j : Nat} (hj : j < bs.length) : w.frozen? ⟨g, j, none⟩ = false := by
 obtain ⟨cs, e, ⟨lo, hi⟩, h1, h2, -⟩ := h.cells
 simp only [World.frozen?, h1]
 simp only at h2
 simp; omega
theorem BRow.lt (h : BRow w0 w g bs) : g < w.heap.size := by
 obtain ⟨cs, e, m, h1, -, -⟩ := h.cells
 exact (Array.getElem?_eq_some_iff.1 h1).1
theorem BRow.keep (h : BRow w0 w g bs) {w' : World} (hb : Below w.heap.size w w') : BRow w0 w' g bs :=
 ⟨h.below.keep hb, h.new, by
  obtain ⟨cs, e, m, h1, h2, h3⟩ := h.cells
  exact ⟨cs, e, m, (hb.block g h.lt).trans h1, h2, h3⟩⟩
theorem BRow.set (h : BRow w0 w g bs) {j : Nat} (hj : j < bs.length) (c : UInt8) : BRow w0 (w.setCell ⟨g, j, none⟩ (.int .u8 (c.toNat : Int))) g (bs.set j c) := by
 obtain ⟨cs, e, m, h1, h2, h3⟩ := h.cells
 refine ⟨⟨h.below.os, h.below.tape, h.below.output, by simpa [World.setCell] using h.below.size, fun b hb => ?_⟩, h.new, cs.setIfInBounds j (.int .u8 (c.toNat : Int)), e, m, ?_, by simpa using h2, fun i hi => ?_⟩
 ·have hne : b ≠ g := by have := h.new; omega
  exact (heap_setCell_other w ⟨g, j, none⟩ b _ hne).trans (h.below.block b hb)
 ·simp only [World.setCell, Array.getElem?_modify, if_pos, h1, Option.map_some]
  rfl
 ·rw [List.length_set] at hi
  have hcs := (Array.getElem?_eq_some_iff.1 (h3 j hj)).1
  rw [Array.getElem?_setIfInBounds, List.getElem_set]
  by_cases e1 : j = i
  ·subst e1; rw [if_pos rfl, if_pos hcs, if_pos rfl]
  ·rw [if_neg e1, if_neg e1]; exact h3 i hi
theorem bytes_conv (w : World) (e : TypeId) (s : ByteArray) : BRow w (Lib.bytesWorld w e s) w.heap.size s.data.toList := by
 refine ⟨⟨rfl, rfl, rfl, by rw [Lib.bytesWorld_size]; omega, fun b hb => Lib.bytesWorld_at_old w e _ b hb⟩, Nat.le_refl _, _, _, _, Lib.bytesWorld_at_new w e s, ?_, fun j hj => ?_⟩
 ·simp [Lib.bytesCells]
 ·have hj' : j < s.size := by simpa using hj
  have := Lib.bytesWorld_cell w e s j hj'
  simp only [World.cell?, Lib.bytesWorld_at_new] at this
  simp only [Option.isSome_none, Bool.false_eq_true, if_false] at this
  rw [this]
  simp [List.getD, hj']
end
section
variable {P : Program} {w : World} {ops : Array Oper} {rest : List Oper} {o : Oper} {A : Act} {Q : Exit → Act → World → Prop} {K : Act → World → Prop}
theorem wpList_conv (hgd : Region.wanted o (yielded ops A.tmps) = true) (src dst e : TypeId) (x : Operand) (ho : o.op = .convert src dst x) (hs : P.underlying src = some .string) (hd : P.underlying dst = some (.slice e)) (he : P.underlying e = some (.int .u8)) (s : ByteArray) (hx : A.eval x = .string s)
  (h : ∀ g c w', BRow w w' g s.data.toList → wpList P ops Q rest (A.put o.dst (.slice (some ⟨g, 0, none⟩) s.size c)) w') : wpList P ops Q (o :: rest) A w := by
 refine wpList_wanted hgd fun K hK => ?_
 have hrun := Lib.run_convert_string_bytes (P := P) w src dst e s hs hd he
 unfold Oper.wp
 simp [execOp, ho, hx, hrun, Result.andThen]
 exact hK _ _ (h _ _ _ (bytes_conv w e s))
def xorB (a b : Int) : UInt8 := UInt8.ofNat (BitVec.ofInt 8 a ^^^ BitVec.ofInt 8 b).toNat
theorem run_rem (T T' : TypeId) (x y : Operand) (ho : o.op = .binOp .rem T x y T') (a b : Nat) (hx : A.eval x = .int .i64 a) (hy : A.eval y = .int .i64 b) (hb : b ≠ 0) : (execOp A.eval o).run P w = .ok (.value (.int .i64 ((a % b : Nat) : Int))) w := by
 have hop : (Op.intDiv .rem .i64 a b).run P w = .ok (.int .i64 ((a % b : Nat) : Int)) w := by
  unfold Op.intDiv
  rw [if_neg (by omega)]
  rw [show Int.tmod (a : Int) b = ((a % b : Nat) : Int) by rw [Int.tmod_eq_emod_of_nonneg (by omega)]; rfl]
  simp
 simp [execOp, ho, hx, hy, eqGuard, binOp, hop, Result.andThen]
theorem run_xor (T T' : TypeId) (x y : Operand) (ho : o.op = .binOp .xor T x y T') (a b : Int) (hx : A.eval x = .int .u8 a) (hy : A.eval y = .int .u8 b) : (execOp A.eval o).run P w = .ok (.value (.int .u8 ((xorB a b).toNat : Int))) w := by
 unfold xorB
 have hlt : (BitVec.ofInt 8 a ^^^ BitVec.ofInt 8 b).toNat < 256 := (BitVec.ofInt 8 a ^^^ BitVec.ofInt 8 b).isLt
 have hw : IntKind.u8.wrap ((BitVec.ofInt 8 a ^^^ BitVec.ofInt 8 b).toNat : Int) = ((BitVec.ofInt 8 a ^^^ BitVec.ofInt 8 b).toNat : Int) := by
  generalize (BitVec.ofInt 8 a ^^^ BitVec.ofInt 8 b).toNat = n at hlt
  simp [IntKind.wrap, IntKind.bits, IntKind.signed]
  omega
 have hc : ((UInt8.ofNat (BitVec.ofInt 8 a ^^^ BitVec.ofInt 8 b).toNat).toNat : Int) = ((BitVec.ofInt 8 a ^^^ BitVec.ofInt 8 b).toNat : Int) := by
  rw [UInt8.toNat_ofNat']
  congr 1
  omega
 rw [hc]
 have hop : (Op.intBits .xor .u8 a b).run P w = .ok (.int .u8 ((BitVec.ofInt 8 a ^^^ BitVec.ofInt 8 b).toNat : Int)) w := by
  unfold Op.intBits
  show (pure (.int .u8 (IntKind.u8.wrap ((BitVec.ofInt 8 a ^^^ BitVec.ofInt 8 b).toNat : Int))) : Sem Value).run P w = _
  rw [hw]
  simp
 simp [execOp, ho, hx, hy, eqGuard, binOp, hop, Result.andThen]
theorem wp_storeB (T : TypeId) (x y : Operand) (ho : o.op = .store T x y) (hsz : ∀ w, (sizeOf T).run P w = .ok 1 w) {w0 : World} {g j : Nat} {bs : List UInt8} (hr : BRow w0 w g bs) (hj : j < bs.length) (hx : A.eval x = .pointer (some ⟨g, j, none⟩)) (c : UInt8) (hy : A.eval y = .int .u8 (c.toNat : Int))
  (h : ∀ w', BRow w0 w' g (bs.set j c) → K (A.put o.dst undef) w') : Oper.wp P o A w K Q := by
 have hst := run_storeCells_cells (P := P) g j [.int .u8 (c.toNat : Int)] 0 w
  (fun i hi => by
   simp at hi; subst hi
   rw [Nat.add_zero, hr.cell hj]; rfl) (fun i hi => by
   simp at hi; subst hi
   rw [Nat.add_zero]; exact hr.free hj) (by simp [Value.oneCell'])
 unfold Oper.wp
 have hc1 : (Value.int IntKind.u8 (c.toNat : Int)).cells = #[.int .u8 (c.toNat : Int)] := rfl
 simp only [execOp, ho, hx, hy, Instr.storeAt, Instr.sureAddr, storeVar, Sem.run_bind, Sem.run_pure, Result.andThen_ok, hsz, hc1, List.size_toArray, List.length_cons, List.length_nil, ne_eq, not_true, if_false, hst]
 exact h _ (hr.set hj c)
end
theorem top_like (w : World) (s : ByteArray) (bl : List UInt8) (hs : s.size ≤ 9223372036854775807) (hbl : bl.length ≤ 9223372036854775807) :
  Calls Tryz.prog 17 #[.string s, .string (ba bl)] w fun e w' => ∃ tx : ByteArray, e = .returned (.string tx) ∧ tx.size = s.size ∧ Below w.heap.size w w' := by
 have hbz : (ba bl).size = bl.length := by simp [ba, ByteArray.size]
 have HZ := qh hbz
 clear hbz
 go_enter Tryz.func17, Tryz.ntmps17
 go_wp2_with (first
  | go_skip
  | (with_reducible refine at_convert 9 89 ?_; refine wpList_conv (wanted_none rfl) _ _ _ _ rfl Tryz.underlying9 Tryz.underlying89 Tryz.underlying5 s rfl ?_; intro g c w2 hR))
 have hsl : s.data.toList.length = s.size := by simp
 have HR := qh (And.intro hsl hR)
 clear hsl hR
 go_loopw [11] (fun v11 wr => ∃ (k : Nat) (bs : List UInt8), k ≤ s.size ∧ Hid (bs.length = s.size) ∧ v11 = .int .i64 k ∧ BRow w wr g bs) (fun v11 _ => s.size - (intOf v11).toNat)
 case atStart => exact ⟨0, _, Nat.zero_le _, HR.out.1, rfl, HR.out.2⟩
 case round =>
  clear HR
  obtain ⟨k, bs, hk, hl, rfl, hR⟩ := hrel
  by_cases hks : k < s.size
  case neg =>
   have d1 : decide ((k : Int) < (s.size : Int)) = false := by simp; omega
   have hcv := run_convert_bytes_back (P := Tryz.prog) wr 89 9 5 ⟨g, 0, none⟩ c bs Tryz.underlying89 Tryz.underlying5 Tryz.underlying9 (fun j hj => by
    have := hR.cell hj
    simpa [add_plain] using this)
   rw [hl.out] at hcv
   have HL := qh hl.out
   clear hl
   go_wp2_with (first | go_skip | fail)
   go_ret
   exact ⟨_, rfl, by rw [← HL.out]; simp [ByteArray.size], hR.below⟩
  have d1 : decide ((k : Int) < (s.size : Int)) = true := by simp; omega
  by_cases hb0 : 0 < bl.length
  case neg =>
   have d2 : decide ((0 : Int) < ((ba bl).size : Int)) = false := by rw [HZ.out]; exact decide_eq_false (by omega)
   have d3 : decide (0 < (ba bl).size) = false := by rw [HZ.out]; exact decide_eq_false (by omega)
   go_wp2_with (first | go_skip | fail)
   go_roundw
   case rel => exact ⟨k + 1, bs, hks, hl, by go_num, hR⟩
   case measure => simp [intOf] <;> omega
  have d2 : decide ((0 : Int) < ((ba bl).size : Int)) = true := by rw [HZ.out]; exact decide_eq_true (by omega)
  have d3 : decide (0 < (ba bl).size) = true := by rw [HZ.out]; exact decide_eq_true (by omega)
  have hkb : k < bs.length := by rw [hl.out]; exact hks
  have hm : k % bl.length < bl.length := Nat.mod_lt _ hb0
  have hcell := fun (U : World) (hU : Below wr.heap.size wr U) => (hR.keep hU).cell hkb
  go_upto_region 6 with (first | go_skip | fail)
  try simp only [kP, kA, kS, kZ]
  have hI := (Below.refl wr.heap.size wr).drew
  refine lex_tail (by kernel_rfl) 12 1 [12] rfl (by decide +kernel) (fun U => Below wr.heap.size wr U) ?_
  refine lexS 0 rfl hI ?_
  refine lexS 1 rfl hI ?_
  refine lexT (v := .pointer (some ⟨g, k, none⟩)) 2 rfl hI (fun W hW => by (first | (go_simp; done) | (go_simp; omega) | (go_simp; intro h; omega))) ?_
  refine lexT 3 rfl hI (fun U hU => run_cell_one 5 _ rfl Tryz.isAgg5 g k rfl _ (hcell U hU)) ?_
  refine lexS 4 rfl hI ?_
  refine lexS 5 rfl hI ?_
  refine lexS 6 rfl hI ?_
  refine lexT (v := .int .i64 (bl.length : Nat)) 7 rfl hI (fun W hW => by (have e := HZ.out; first | (go_simp; done) | (go_simp; rw [e]; done) | (go_simp; omega))) ?_
  refine lexT 8 rfl hI (fun U hU => run_rem _ _ _ _ rfl k bl.length rfl rfl (by omega)) ?_
  refine lexT 9 rfl hI (fun U hU => run_byte 9 _ _ rfl Tryz.underlying9 (l := bl) (i := k % bl.length) (c := bl[k % bl.length]) rfl rfl (gEg hm)) ?_
  refine lexT 10 rfl hI (fun U hU => run_xor _ _ _ _ rfl _ _ rfl rfl) ?_
  refine lexT (v := .pointer (some ⟨g, k, none⟩)) 11 rfl hI (fun W hW => by (first | (go_simp; done) | (go_simp; omega) | (go_simp; intro h; omega))) ?_
  have hR2 := hR.keep hI
  clear hI
  refine lex_done (by decide +kernel) ?_
  refine tail_last 12 rfl (by first | exact wanted_none rfl | exact wanted_some rfl rfl) (by decide +kernel) (by decide +kernel) fun K hK => ?_
  refine wp_storeB 5 _ _ rfl Tryz.sizeOf5 hR2 hkb rfl _ rfl ?_
  intro w5 hR5
  refine hK _ _ ?_; clear hK
  have HR5 := qh hR5
  clear hR5 hR2 hR hcell
  go_wp2_with (first | go_skip | fail)
  go_roundw
  case rel => exact ⟨k + 1, _, hks, by rw [List.length_set]; exact hl, by go_num, HR5.out⟩
  case measure => simp [intOf] <;> omega
end Go.Proofs.YtnjjdpiofbajlaaGreat
