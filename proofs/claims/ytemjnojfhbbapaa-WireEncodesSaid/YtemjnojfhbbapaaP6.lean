/- Walks and plain laws that the claim rests on, part 6. -/
import Derived.Test.YtemjnojfhbbapaaP1
import Derived.Test.YtemjnojfhbbapaaP3
import Derived.Test.YtemjnojfhbbapaaP4
import Derived.Lib.AppendStr
import Derived.Laws.IdiomStrings
set_option linter.unusedSimpArgs false
set_option linter.unusedVariables false
/- Bytes: what stands for them; the walk through wire.put. -/
namespace Go.Proofs.Ytemjnojfhbbapaa
open Go.RowKit

def RU8 (cs : List Value) (x : UInt8) : Prop := cs = [.int .u8 x.toNat]

theorem info_byte : (Try.prog.info? 5).map (fun i => (i.zero, i.size, i.bytes)) = some (some (.int .u8 0), 1, 1) := by kernel_rfl

/-- The byte of a number at a place. -/
def byteAt (v : Int) (k : Nat) : UInt8 := UInt8.ofNat (v.toNat / 256 ^ k % 256)

/-- The lowest n bytes of a number, the highest first. -/
def be (v : Int) : Nat → List UInt8
  | 0 => []
  | n + 1 => byteAt v n :: be v n

theorem be_length (v : Int) (n : Nat) : (be v n).length = n := by
  induction n with
  | zero => rfl
  | succ n ih => simp [be, ih]

theorem byteAt_int {v : Int} (hv : 0 ≤ v) (k : Nat) : ((byteAt v k).toNat : Int) = v / ((256 ^ k : Nat) : Int) % 256 := by
  obtain ⟨n, rfl⟩ := Int.eq_ofNat_of_zero_le hv
  unfold byteAt
  rw [Int.toNat_natCast]
  generalize 256 ^ k = p
  have h : (UInt8.ofNat (n / p % 256)).toNat = n / p % 256 := by
    rw [UInt8.toNat_ofNat']
    exact Nat.mod_eq_of_lt (Nat.mod_lt _ (by decide))
  rw [h, Int.natCast_emod, Int.natCast_ediv]
  rfl

theorem RU8.byte {v : Int} (hv : 0 ≤ v) (k p : Nat) (hp : 256 ^ k = p) {x : Int} (hx : x = v / (p : Int) % 256) : RU8 [.int .u8 x] (byteAt v k) := by
  unfold RU8
  rw [byteAt_int hv, hp, hx]

/-- One more append: what has turned since w. -/
theorem grown_step {w w1 w2 : World} {r r1 : Option Nat} (h : w.grownBy w1 r) (hl : ∀ j, r1 = some j → w.heap.size ≤ j ∨ r = some j) (o : Obj) (h2 : (w1.alloc o).grownBy w2 r1) : w.grownBy w2 r :=
  (h.trans (World.grownBy_alloc _ _ _)).andThen h2 hl

theorem atOrNew_step {w w1 : World} {r : Option Nat} {a : Option Addr} {g : Nat} {o : Obj} (hs : w.heap.size ≤ w1.heap.size) (hl : ∀ j, a.map (·.block) = some j → w.heap.size ≤ j ∨ r = some j) (h : AtOrNew a g (w1.alloc o)) : ∀ j, (some (⟨g, 0, none⟩ : Addr)).map (·.block) = some j → w.heap.size ≤ j ∨ r = some j := by
  intro j hj
  simp at hj
  subst hj
  rcases h with h | h
  · exact hl _ h
  · left; rw [h]; simp; omega

set_option maxHeartbeats 3200000 in
theorem wire_put (base : Nat) (w : World) (a : Option Addr) (c : Nat) (xs : List UInt8) (v : Int) (hv : 0 ≤ v) (hv' : v ≤ 1099511627776) (hx : xs.length + 6 ≤ 140737488355328) (hb : base ≤ w.heap.size) (hO : Own base 5 w 1 RU8 a c xs) :
    Calls Try.prog 25 #[.slice a xs.length c, .int .i64 v, .int .i64 6] w fun e w' => ∃ g c', e = .returned (.slice (some ⟨g, 0, none⟩) (xs.length + 6) c') ∧ Own base 5 w' 1 RU8 (some ⟨g, 0, none⟩) c' (xs ++ be v 6) ∧ w.grownBy w' (a.map (·.block)) ∧ (w.heap.size ≤ g ∨ a.map (·.block) = some g) := by
  obtain ⟨i0, hi, hz0, hz1, hz2⟩ := info_parts info_byte
  have G := World.grownBy.refl w (a.map (·.block))
  have hL : ∀ j, a.map (·.block) = some j → w.heap.size ≤ j ∨ a.map (·.block) = some j := fun _ h => .inr h
  have hs0 : w.heap.size ≤ w.heap.size := Nat.le_refl _
  have HX := Lib.hid (show xs.length = xs.length from rfl)
  go_enter Try.func25, Try.ntmps25
  go_wp2_with fail
  refine wp_loop_rounds 7 ?_
  rw [rounds_succ]
  go_wp2_with (first | (at_builtin; go_must (refine wpList_app1 (wanted_none rfl) _ _ 48 rfl 5 i0 _ 1 1 Try.underlying48 hi hz0 hz1 hz2 rfl (by decide) rfl ?n0 (hO.below ((Below.refl _ _).alloc (Nat.le_refl _) _)) rfl (SlR.one (ok := fun _ => True) _ _ (byteAt v 5) rfl ?k0 rfl (by simp [Value.oneCell']) trivial) ?l0 ?m0 ?b0 ?_)))
  case n0 => rfl
  case k0 => exact RU8.byte hv 5 1099511627776 (by decide) (by simp <;> omega)
  case l0 => simp; omega
  case m0 => simp [maxLen]; omega
  case b0 => simp; omega
  intro g0 c0 w0 hO0 hg0 hat0 _
  have hL0 := atOrNew_step hs0 hL hat0
  have G0 := grown_step G hL _ hg0
  have hs0' := G0.size
  clear hg0 hat0 hO G hL
  go_wp2_with fail
  rw [rounds_succ]
  go_wp2_with (first | (at_builtin; go_must (refine wpList_app1 (wanted_none rfl) _ _ 48 rfl 5 i0 _ 1 1 Try.underlying48 hi hz0 hz1 hz2 rfl (by decide) rfl ?n1 (hO0.below ((Below.refl _ _).alloc (Nat.le_refl _) _)) rfl (SlR.one (ok := fun _ => True) _ _ (byteAt v 4) rfl ?k1 rfl (by simp [Value.oneCell']) trivial) ?l1 ?m1 ?b1 ?_)))
  case n1 => simp
  case k1 => exact RU8.byte hv 4 4294967296 (by decide) (by simp <;> omega)
  case l1 => simp; omega
  case m1 => simp [maxLen]; omega
  case b1 => simp; omega
  intro g1 c1 w1 hO1 hg1 hat1 _
  have hL1 := atOrNew_step hs0' hL0 hat1
  have G1 := grown_step G0 hL0 _ hg1
  have hs1' := G1.size
  clear hg1 hat1 hO0 G0 hL0
  go_wp2_with fail
  rw [rounds_succ]
  go_wp2_with (first | (at_builtin; go_must (refine wpList_app1 (wanted_none rfl) _ _ 48 rfl 5 i0 _ 1 1 Try.underlying48 hi hz0 hz1 hz2 rfl (by decide) rfl ?n2 (hO1.below ((Below.refl _ _).alloc (Nat.le_refl _) _)) rfl (SlR.one (ok := fun _ => True) _ _ (byteAt v 3) rfl ?k2 rfl (by simp [Value.oneCell']) trivial) ?l2 ?m2 ?b2 ?_)))
  case n2 => simp
  case k2 => exact RU8.byte hv 3 16777216 (by decide) (by simp <;> omega)
  case l2 => simp; omega
  case m2 => simp [maxLen]; omega
  case b2 => simp; omega
  intro g2 c2 w2 hO2 hg2 hat2 _
  have hL2 := atOrNew_step hs1' hL1 hat2
  have G2 := grown_step G1 hL1 _ hg2
  have hs2' := G2.size
  clear hg2 hat2 hO1 G1 hL1
  go_wp2_with fail
  rw [rounds_succ]
  go_wp2_with (first | (at_builtin; go_must (refine wpList_app1 (wanted_none rfl) _ _ 48 rfl 5 i0 _ 1 1 Try.underlying48 hi hz0 hz1 hz2 rfl (by decide) rfl ?n3 (hO2.below ((Below.refl _ _).alloc (Nat.le_refl _) _)) rfl (SlR.one (ok := fun _ => True) _ _ (byteAt v 2) rfl ?k3 rfl (by simp [Value.oneCell']) trivial) ?l3 ?m3 ?b3 ?_)))
  case n3 => simp
  case k3 => exact RU8.byte hv 2 65536 (by decide) (by simp <;> omega)
  case l3 => simp; omega
  case m3 => simp [maxLen]; omega
  case b3 => simp; omega
  intro g3 c3 w3 hO3 hg3 hat3 _
  have hL3 := atOrNew_step hs2' hL2 hat3
  have G3 := grown_step G2 hL2 _ hg3
  have hs3' := G3.size
  clear hg3 hat3 hO2 G2 hL2
  go_wp2_with fail
  rw [rounds_succ]
  go_wp2_with (first | (at_builtin; go_must (refine wpList_app1 (wanted_none rfl) _ _ 48 rfl 5 i0 _ 1 1 Try.underlying48 hi hz0 hz1 hz2 rfl (by decide) rfl ?n4 (hO3.below ((Below.refl _ _).alloc (Nat.le_refl _) _)) rfl (SlR.one (ok := fun _ => True) _ _ (byteAt v 1) rfl ?k4 rfl (by simp [Value.oneCell']) trivial) ?l4 ?m4 ?b4 ?_)))
  case n4 => simp
  case k4 => exact RU8.byte hv 1 256 (by decide) (by simp <;> omega)
  case l4 => simp; omega
  case m4 => simp [maxLen]; omega
  case b4 => simp; omega
  intro g4 c4 w4 hO4 hg4 hat4 _
  have hL4 := atOrNew_step hs3' hL3 hat4
  have G4 := grown_step G3 hL3 _ hg4
  have hs4' := G4.size
  clear hg4 hat4 hO3 G3 hL3
  go_wp2_with fail
  rw [rounds_succ]
  go_wp2_with (first | (at_builtin; go_must (refine wpList_app1 (wanted_none rfl) _ _ 48 rfl 5 i0 _ 1 1 Try.underlying48 hi hz0 hz1 hz2 rfl (by decide) rfl ?n5 (hO4.below ((Below.refl _ _).alloc (Nat.le_refl _) _)) rfl (SlR.one (ok := fun _ => True) _ _ (byteAt v 0) rfl ?k5 rfl (by simp [Value.oneCell']) trivial) ?l5 ?m5 ?b5 ?_)))
  case n5 => simp
  case k5 => exact RU8.byte hv 0 1 (by decide) (by simp <;> omega)
  case l5 => simp; omega
  case m5 => simp [maxLen]; omega
  case b5 => simp; omega
  intro g5 c5 w5 hO5 hg5 hat5 _
  have hL5 := atOrNew_step hs4' hL4 hat5
  have G5 := grown_step G4 hL4 _ hg5
  have hs5' := G5.size
  clear hg5 hat5 hO4 G4 hL4
  have HO := Lib.hid hO5
  have HG := Lib.hid G5
  have HL := Lib.hid (hL5 g5 rfl)
  clear hO5 G5 hL5
  go_wp2_with fail
  rw [rounds_succ]
  go_wp2_with fail
  go_ret
  refine ⟨g5, c5, rfl, ?_, HG.out, HL.out⟩
  have e : be v 6 = [byteAt v 5, byteAt v 4, byteAt v 3, byteAt v 2, byteAt v 1, byteAt v 0] := rfl
  rw [e]
  exact HO.out

end Go.Proofs.Ytemjnojfhbbapaa

/- A row of bytes of the call's own, and what else lies in memory while it grows. -/
namespace Go.Proofs.Ytemjnojfhbbapaa
open Go.RowKit

/-- A row's block is none of another type's. -/
theorem Own.apartT {base : Nat} {e : TypeId} {w : World} {α : Type} {sz : Nat} {R : List Value → α → Prop} {a : Option Addr} {c : Nat} {xs : List α} (h : Own base e w sz R a c xs) {g : Nat} {cs : Array Value} {T : TypeId} {fr : Nat × Nat} (hb : w.heap[g]? = some (.cells cs T fr)) (hT : T ≠ e) : a.map (·.block) ≠ some g := by
  obtain ⟨css, _, _, _, h4⟩ := h
  intro he
  rcases h4.2 with ⟨hv, _⟩ | ⟨g', cap, cur, hv, _, hh, _⟩
  · simp only [Value.slice.injEq] at hv
    obtain ⟨rfl, _⟩ := hv
    simp at he
  · simp only [Value.slice.injEq] at hv
    obtain ⟨rfl, _⟩ := hv
    simp at he
    subst he
    rw [hb] at hh
    simp at hh
    exact hT hh.2.1

theorem St.buf {w0 wx w' : World} {own : Blks} {base : Nat} {e : TypeId} {α : Type} {sz : Nat} {R : List Value → α → Prop} {a : Option Addr} {c : Nat} {xs : List α} (st : St [] w0 wx own) (hO : Own base e wx sz R a c xs) (hb : w0.heap.size ≤ base) (hg : wx.grownBy w' (a.map (·.block))) (hT : ∀ x ∈ own, x.2.1 ≠ e) : St [] w0 w' own := by
  obtain ⟨css, h1, h2, h3, h4⟩ := id hO
  refine ⟨hg.os.trans st.os, hg.tape.trans st.tape, hg.output.trans st.output, Nat.le_trans st.size hg.size, fun b hb' _ => ?_, fun x hx => ?_, st.mine, st.ne⟩
  · rw [hg.block b (Nat.lt_of_lt_of_le hb' st.size) fun e => ?_]
    · exact st.frame b hb' (by simp)
    · have := (hO.blockLt b e.symm).1
      omega
  · rw [hg.block x.1 (st.lt hx) fun e => hO.apartT (st.blk x hx) (hT x hx) e.symm]
    exact st.blk x hx

theorem St.buf1 {w0 wx w' : World} {own : Blks} {base : Nat} {e : TypeId} {α : Type} {sz : Nat} {R : List Value → α → Prop} {a : Option Addr} {c : Nat} {xs : List α} (st : St [] w0 wx own) (hO : Own base e wx sz R a c xs) (hb : w0.heap.size ≤ base) {o : Obj} (hg : (wx.alloc o).grownBy w' (a.map (·.block))) (hT : ∀ x ∈ own, x.2.1 ≠ e) : St [] w0 w' own :=
  (st.call ((Below.refl _ _).alloc (Nat.le_refl _) o)).buf (hO.below ((Below.refl _ _).alloc (Nat.le_refl _) o)) hb hg hT

theorem wpList_buildU1 {P : Program} {w0 w : World} {M : List Nat} {own : Blks} {ops : Array Oper} {rest : List Oper} {o : Oper} {A : Act} {Q : Exit → Act → World → Prop} (st : St M w0 w own) (hgd : Region.wanted o (yielded ops A.tmps) = true) (T T' : TypeId) (x0 : Operand) (ho : o.op = .buildSlice T 1 #[(0, x0)]) (ht : P.underlying T = some (.slice T')) (hsz : ∀ w, (sizeOf T').run P w = .ok 1 w) (hz : ∀ w, (zeroValue T').run P w = .ok (.int .u8 0) w) (n0 : Int) (hx0 : A.eval x0 = .int .u8 n0)
    (h : ∀ g w', w0.heap.size ≤ g → g = w.heap.size → St M w0 w' (own ++ [(g, T', [.int .u8 n0])]) → Below w.heap.size w w' → w'.heap.size = w.heap.size + 1 → wpList P ops Q rest (A.put o.dst (.slice (some ⟨g, 0, none⟩) 1 1)) w') : wpList P ops Q (o :: rest) A w := by
  refine wpList_wanted hgd fun K hK => ?_
  have hs := st.new T' [.int .u8 n0]
  have h2 := hK _ _ (h w.heap.size _ st.size rfl hs ((Below.refl _ _).alloc (Nat.le_refl _) _) (by simp))
  unfold Oper.wp
  simp [execOp, ho, Instr.buildSlice, run_underlying ht, hsz, hz, newRow, newObj, hx0, Instr.fill, Value.cells, Array.range, Result.andThen] at h2 ⊢
  exact h2

theorem wpList_buildU2 {P : Program} {w0 w : World} {M : List Nat} {own : Blks} {ops : Array Oper} {rest : List Oper} {o : Oper} {A : Act} {Q : Exit → Act → World → Prop} (st : St M w0 w own) (hgd : Region.wanted o (yielded ops A.tmps) = true) (T T' : TypeId) (x0 x1 : Operand) (ho : o.op = .buildSlice T 2 #[(0, x0), (1, x1)]) (ht : P.underlying T = some (.slice T')) (hsz : ∀ w, (sizeOf T').run P w = .ok 1 w) (hz : ∀ w, (zeroValue T').run P w = .ok (.int .u8 0) w) (n0 n1 : Int) (hx0 : A.eval x0 = .int .u8 n0) (hx1 : A.eval x1 = .int .u8 n1)
    (h : ∀ g w', w0.heap.size ≤ g → g = w.heap.size → St M w0 w' (own ++ [(g, T', [.int .u8 n0, .int .u8 n1])]) → Below w.heap.size w w' → w'.heap.size = w.heap.size + 1 → wpList P ops Q rest (A.put o.dst (.slice (some ⟨g, 0, none⟩) 2 2)) w') : wpList P ops Q (o :: rest) A w := by
  refine wpList_wanted hgd fun K hK => ?_
  have hs := st.new T' [.int .u8 n0, .int .u8 n1]
  have h2 := hK _ _ (h w.heap.size _ st.size rfl hs ((Below.refl _ _).alloc (Nat.le_refl _) _) (by simp))
  unfold Oper.wp
  simp [execOp, ho, Instr.buildSlice, run_underlying ht, hsz, hz, newRow, newObj, hx0, hx1, Instr.fill, Value.cells, Array.range, Result.andThen] at h2 ⊢
  exact h2

theorem wpList_buildU3 {P : Program} {w0 w : World} {M : List Nat} {own : Blks} {ops : Array Oper} {rest : List Oper} {o : Oper} {A : Act} {Q : Exit → Act → World → Prop} (st : St M w0 w own) (hgd : Region.wanted o (yielded ops A.tmps) = true) (T T' : TypeId) (x0 x1 x2 : Operand) (ho : o.op = .buildSlice T 3 #[(0, x0), (1, x1), (2, x2)]) (ht : P.underlying T = some (.slice T')) (hsz : ∀ w, (sizeOf T').run P w = .ok 1 w) (hz : ∀ w, (zeroValue T').run P w = .ok (.int .u8 0) w) (n0 n1 n2 : Int) (hx0 : A.eval x0 = .int .u8 n0) (hx1 : A.eval x1 = .int .u8 n1) (hx2 : A.eval x2 = .int .u8 n2)
    (h : ∀ g w', w0.heap.size ≤ g → g = w.heap.size → St M w0 w' (own ++ [(g, T', [.int .u8 n0, .int .u8 n1, .int .u8 n2])]) → Below w.heap.size w w' → w'.heap.size = w.heap.size + 1 → wpList P ops Q rest (A.put o.dst (.slice (some ⟨g, 0, none⟩) 3 3)) w') : wpList P ops Q (o :: rest) A w := by
  refine wpList_wanted hgd fun K hK => ?_
  have hs := st.new T' [.int .u8 n0, .int .u8 n1, .int .u8 n2]
  have h2 := hK _ _ (h w.heap.size _ st.size rfl hs ((Below.refl _ _).alloc (Nat.le_refl _) _) (by simp))
  unfold Oper.wp
  simp [execOp, ho, Instr.buildSlice, run_underlying ht, hsz, hz, newRow, newObj, hx0, hx1, hx2, Instr.fill, Value.cells, Array.range, Result.andThen] at h2 ⊢
  exact h2

def byteV (b : UInt8) : Value := .int .u8 b.toNat

theorem byteV_eq {x : Int} (h0 : 0 ≤ x) (h1 : x < 256) : Value.int .u8 x = byteV (byteAt x 0) := by
  unfold byteV
  rw [byteAt_int h0]
  simp
  omega

theorem RU8.iff (cs : List Value) (x : UInt8) : RU8 cs x ↔ cs = [byteV x] := Iff.rfl

theorem bytes_rows (xs : List UInt8) : (xs.map fun b => [byteV b]).flatten = xs.map byteV := by
  induction xs with
  | nil => rfl
  | cons x xs ih => simp [ih]

theorem SlR.bytes {ok : Nat → Prop} {w : World} {g : Nat} {e : TypeId} {cs : List Value} (xs : List UInt8) (hg : w.heap[g]? = some (.cells cs.toArray e (0, 0))) (hcs : cs = xs.map byteV) (ho : ok g) (hm : xs.length ≤ maxLen) : SlR ok w 1 RU8 (some ⟨g, 0, none⟩) xs.length xs := by
  refine ⟨Nat.le_refl _, hm, by simp, fun i y hy => ?_⟩
  have hi := (List.getElem?_eq_some_iff.1 hy).1
  refine ⟨g, 0, [byteV y], rfl, ho, (Array.getElem?_eq_some_iff.1 hg).1, rfl, rfl, by simp [byteV, Value.oneCell'], fun j v hv => ?_⟩
  have hj : j = 0 := by have := (List.getElem?_eq_some_iff.1 hv).1; simp at this; exact this
  subst hj
  simp at hv
  subst hv
  rw [cell_of_row w g _ cs.toArray e (0, 0) hg]
  simp [hcs, hy]

theorem Own.ofBytes {base : Nat} {w : World} {e : TypeId} {a : Option Addr} {c : Nat} {xs : List UInt8} (h : w.ownsRow base e 1 (.slice a xs.length c) xs.length (xs.map byteV)) : Own base e w 1 RU8 a c xs := by
  refine ⟨xs.map fun b => [byteV b], by simp, ?_, fun i x cs hx hc => ?_, ?_⟩
  · intro cs hcs
    obtain ⟨b, _, rfl⟩ := List.mem_map.1 hcs
    simp [byteV, Value.oneCell']
  · simp only [List.getElem?_map, hx, Option.map_some, Option.some.injEq] at hc
    exact hc.symm
  · rw [bytes_rows]
    exact h

theorem Own.toBytes {base : Nat} {w : World} {e : TypeId} {a : Option Addr} {c : Nat} {xs : List UInt8} (h : Own base e w 1 RU8 a c xs) : w.ownsRow base e 1 (.slice a xs.length c) xs.length (xs.map byteV) := by
  obtain ⟨css, h1, h2, h3, h4⟩ := h
  have e1 : css = xs.map fun b => [byteV b] := by
    apply List.ext_getElem?
    intro i
    by_cases hi : i < xs.length
    · have := h3 i xs[i] css[i] (by simp [hi]) (by simp [h1, hi])
      simp only [List.getElem?_map]
      rw [List.getElem?_eq_getElem (by omega), List.getElem?_eq_getElem hi, this]
      rfl
    · simp [hi, h1, Nat.not_lt.1 hi]
  rw [e1, bytes_rows] at h4
  exact h4

/-- A new row of bytes. -/
theorem Own.bytesNew {base : Nat} {w : World} {e : TypeId} {cs : List Value} (xs : List UInt8) (hcs : cs = xs.map byteV) (hb : base ≤ w.heap.size) (hm : xs.length ≤ maxLen) : Own base e (w.alloc (.cells cs.toArray e)) 1 RU8 (some ⟨w.heap.size, 0, none⟩) xs.length xs :=
  Own.ofBytes ⟨by simp, .inr ⟨w.heap.size, xs.length, cs.toArray, rfl, hb, heap_alloc_new w _, Nat.le_refl _, hm, by simp [hcs], by rw [hcs]; exact List.take_of_length_le (by simp)⟩⟩

theorem Own.bytesBlk {base : Nat} {w : World} {e : TypeId} {cs : List Value} {g : Nat} (xs : List UInt8) (hg : w.heap[g]? = some (.cells cs.toArray e (0, 0))) (hcs : cs = xs.map byteV) (hb : base ≤ g) (hm : xs.length ≤ maxLen) : Own base e w 1 RU8 (some ⟨g, 0, none⟩) xs.length xs :=
  Own.ofBytes ⟨by simp, .inr ⟨g, xs.length, cs.toArray, rfl, hb, hg, Nat.le_refl _, hm, by simp [hcs], by rw [hcs]; exact List.take_of_length_le (by simp)⟩⟩

theorem Own.byteFree {base : Nat} {e : TypeId} {w : World} {g c : Nat} {xs : List UInt8} (h : Own base e w 1 RU8 (some ⟨g, 0, none⟩) c xs) (j : Nat) : w.frozen? ⟨g, j, none⟩ = false := World.ownsRow.frozenAt h.toBytes j

theorem Own.byteCell {base : Nat} {e : TypeId} {w : World} {g c : Nat} {xs : List UInt8} (h : Own base e w 1 RU8 (some ⟨g, 0, none⟩) c xs) (j : Nat) (hj : j < xs.length) : w.cell? ((⟨g, 0, none⟩ : Addr).add j) = some (.int .u8 (xs[j].toNat : Int)) := by
  obtain ⟨b, o, cs, ha, _, _, hr, _, _, hc⟩ := (h.slr (ok := fun _ => True) fun _ _ => trivial).2.2.2 j xs[j] (by simp [hj])
  simp at ha
  obtain ⟨rfl, rfl⟩ := ha
  rw [hr] at hc
  have := hc 0 _ rfl
  simpa [add_plain] using this

/-- 'string(b)'. -/
theorem Own.string {P : Program} {base : Nat} {e : TypeId} {w : World} {g c : Nat} {xs : List UInt8} (h : Own base e w 1 RU8 (some ⟨g, 0, none⟩) c xs) (src dst e' : TypeId) (hs : P.underlying src = some (.slice e')) (he : P.underlying e' = some (.int .u8)) (hd : P.underlying dst = some .string) :
    (convert src dst (.slice (some ⟨g, 0, none⟩) xs.length c)).run P w = .ok (.string ⟨xs.toArray⟩) w :=
  run_convert_bytes_back (P := P) w src dst e' ⟨g, 0, none⟩ c xs hs he hd fun j hj => h.byteCell j hj

theorem Own.set {base : Nat} {e : TypeId} {w : World} {g c : Nat} {xs : List UInt8} (h : Own base e w 1 RU8 (some ⟨g, 0, none⟩) c xs) (j : Nat) (y : UInt8) : Own base e (w.setCell ⟨g, j, none⟩ (byteV y)) 1 RU8 (some ⟨g, 0, none⟩) c (xs.set j y) ∧ w.grownBy (w.setCell ⟨g, j, none⟩ (byteV y)) (some g) := by
  obtain ⟨s1, s2⟩ := World.ownsRow.stored h.toBytes j (byteV y)
  exact ⟨Own.ofBytes (by simpa [List.map_set] using s1), s2⟩

theorem strCells_bytes (s : ByteArray) : Lib.strCells s = s.data.toList.map byteV := by
  simp [Lib.strCells, byteV]

/-- 'append(b, s...)' of a string. -/
theorem wpList_appStr {P : Program} {w : World} {ops : Array Oper} {rest : List Oper} {o : Oper} {A : Act} {Q : Exit → Act → World → Prop} (hgd : o.guard = none) (sl x : Operand) (t u : TypeId)
    (ho : o.op = .call { callee := .builtin .append, args := #[sl, x], argTypes := #[t, u] })
    (base : Nat) (e : TypeId) (i : TypeInfo) (ht : P.underlying t = some (.slice e)) (hu : P.underlying u = some .string) (hi : P.info? e = some i) (hz : i.zero = some (.int .u8 0)) (hsize : i.size = 1) (hby : i.bytes = 1)
    {a : Option Addr} {c n : Nat} {xs : List UInt8} (hs : A.eval sl = .slice a n c) (hn : n = xs.length) (hO : Own base e w 1 RU8 a c xs) (s : ByteArray) (hx : A.eval x = .string s) (hl : xs.length + s.size ≤ 140737488355328) (hbase : base ≤ w.heap.size)
    (h : ∀ a' c' w', Own base e w' 1 RU8 a' c' (xs ++ s.data.toList) → w.grownBy w' (a.map (·.block)) → wpList P ops Q rest (A.put o.dst (.slice a' (n + s.size) c')) w') : wpList P ops Q (o :: rest) A w := by
  subst hn
  have hob : (Value.slice a xs.length c).ownBlock = a.map (·.block) := by cases a <;> rfl
  refine Lib.wpList_append_own_string w hgd sl x t u ho base e i ht hu hi hz hsize hby _ xs.length _ hs hO.toBytes s hx (by unfold maxLen; omega) hl hbase fun v' w' g1 g2 _ => ?_
  rw [strCells_bytes, ← List.map_append] at g1
  rw [hob] at g2
  have hsz : s.data.toList.length = s.size := by rw [Array.length_toList]; rfl
  have hl2 : xs.length + s.size = (xs ++ s.data.toList).length := by rw [List.length_append, hsz]
  rw [hl2] at g1
  have key : ∀ a' c', v' = .slice a' (xs.length + s.size) c' → Own base e w' 1 RU8 a' c' (xs ++ s.data.toList) := by
    rintro a' c' rfl
    rw [hl2] at g1
    exact Own.ofBytes g1
  rcases g1.2 with ⟨rfl, hn⟩ | ⟨g, cap, cur, rfl, _⟩
  · have := h none 0 w' (key _ _ (by rw [hl2, hn])) g2
    rw [hl2, hn] at this
    exact this
  · rw [← hl2]
    exact h _ _ w' (key _ _ (by rw [hl2])) g2

end Go.Proofs.Ytemjnojfhbbapaa

/- Small slices of bytes that a call builds, as what they read as; a text appended. No program is in sight. -/
namespace Go.Proofs.Ytemjnojfhbbapaa
open Go.RowKit

abbrev by1 (x : Int) : UInt8 := byteAt x 0

theorem Own.isSome {base : Nat} {e : TypeId} {w : World} {α : Type} {sz : Nat} {R : List Value → α → Prop} {a : Option Addr} {c : Nat} {xs : List α} (h : Own base e w sz R a c xs) (hx : xs ≠ []) : ∃ g, a = some ⟨g, 0, none⟩ := by
  obtain ⟨css, _, _, _, h4⟩ := h
  rcases h4.2 with ⟨_, hn⟩ | ⟨g, cap, cur, hv, _⟩
  · exact absurd (List.eq_nil_of_length_eq_zero hn) hx
  · simp only [Value.slice.injEq] at hv
    exact ⟨g, hv.1⟩

section
variable {P : Program} {w : World} {ops : Array Oper} {rest : List Oper} {o : Oper} {A : Act} {Q : Exit → Act → World → Prop} {K : Act → World → Prop}

theorem bytes_new {w : World} {T : TypeId} {cs : List Value} (xs : List UInt8) (h : cs = xs.map byteV) (hm : xs.length ≤ maxLen) : SlR (fun _ => True) (w.alloc (.cells cs.toArray T)) 1 RU8 (some ⟨w.heap.size, 0, none⟩) xs.length xs :=
  SlR.bytes xs (heap_alloc_new w _) h trivial hm

theorem wp_bytes1 (T T' : TypeId) (x0 : Operand) (ho : o.op = .buildSlice T 1 #[(0, x0)]) (ht : P.underlying T = some (.slice T')) (hsz : ∀ w, (sizeOf T').run P w = .ok 1 w) (hz : ∀ w, (zeroValue T').run P w = .ok (.int .u8 0) w) (n0 : Int) (hx0 : A.eval x0 = .int .u8 n0) (h0 : 0 ≤ n0 ∧ n0 < 256)
    (h : ∀ g w', SlR (fun _ => True) w' 1 RU8 (some ⟨g, 0, none⟩) 1 [by1 n0] → Below w.heap.size w w' → K (A.put o.dst (.slice (some ⟨g, 0, none⟩) 1 1)) w') : Oper.wp P o A w K Q := by
  have h2 := h w.heap.size _ (bytes_new (w := w) (T := T') [by1 n0] (cs := [.int .u8 n0]) (by simp [byteV_eq h0.1 h0.2]) (by simp [maxLen])) ((Below.refl _ _).alloc (Nat.le_refl _) _)
  unfold Oper.wp
  simp [execOp, ho, Instr.buildSlice, run_underlying ht, hsz, hz, newRow, newObj, hx0, Instr.fill, Value.cells, Array.range, Result.andThen] at h2 ⊢
  exact h2

theorem wp_bytes2 (T T' : TypeId) (x0 x1 : Operand) (ho : o.op = .buildSlice T 2 #[(0, x0), (1, x1)]) (ht : P.underlying T = some (.slice T')) (hsz : ∀ w, (sizeOf T').run P w = .ok 1 w) (hz : ∀ w, (zeroValue T').run P w = .ok (.int .u8 0) w) (n0 n1 : Int) (hx0 : A.eval x0 = .int .u8 n0) (h0 : 0 ≤ n0 ∧ n0 < 256) (hx1 : A.eval x1 = .int .u8 n1) (h1 : 0 ≤ n1 ∧ n1 < 256)
    (h : ∀ g w', SlR (fun _ => True) w' 1 RU8 (some ⟨g, 0, none⟩) 2 [by1 n0, by1 n1] → Below w.heap.size w w' → K (A.put o.dst (.slice (some ⟨g, 0, none⟩) 2 2)) w') : Oper.wp P o A w K Q := by
  have h2 := h w.heap.size _ (bytes_new (w := w) (T := T') [by1 n0, by1 n1] (cs := [.int .u8 n0, .int .u8 n1]) (by simp [byteV_eq h0.1 h0.2, byteV_eq h1.1 h1.2]) (by simp [maxLen])) ((Below.refl _ _).alloc (Nat.le_refl _) _)
  unfold Oper.wp
  simp [execOp, ho, Instr.buildSlice, run_underlying ht, hsz, hz, newRow, newObj, hx0, hx1, Instr.fill, Value.cells, Array.range, Result.andThen] at h2 ⊢
  exact h2

theorem wp_bytes3 (T T' : TypeId) (x0 x1 x2 : Operand) (ho : o.op = .buildSlice T 3 #[(0, x0), (1, x1), (2, x2)]) (ht : P.underlying T = some (.slice T')) (hsz : ∀ w, (sizeOf T').run P w = .ok 1 w) (hz : ∀ w, (zeroValue T').run P w = .ok (.int .u8 0) w) (n0 n1 n2 : Int) (hx0 : A.eval x0 = .int .u8 n0) (h0 : 0 ≤ n0 ∧ n0 < 256) (hx1 : A.eval x1 = .int .u8 n1) (h1 : 0 ≤ n1 ∧ n1 < 256) (hx2 : A.eval x2 = .int .u8 n2) (h2' : 0 ≤ n2 ∧ n2 < 256)
    (h : ∀ g w', SlR (fun _ => True) w' 1 RU8 (some ⟨g, 0, none⟩) 3 [by1 n0, by1 n1, by1 n2] → Below w.heap.size w w' → K (A.put o.dst (.slice (some ⟨g, 0, none⟩) 3 3)) w') : Oper.wp P o A w K Q := by
  have h2 := h w.heap.size _ (bytes_new (w := w) (T := T') [by1 n0, by1 n1, by1 n2] (cs := [.int .u8 n0, .int .u8 n1, .int .u8 n2]) (by simp [byteV_eq h0.1 h0.2, byteV_eq h1.1 h1.2, byteV_eq h2'.1 h2'.2]) (by simp [maxLen])) ((Below.refl _ _).alloc (Nat.le_refl _) _)
  unfold Oper.wp
  simp [execOp, ho, Instr.buildSlice, run_underlying ht, hsz, hz, newRow, newObj, hx0, hx1, hx2, Instr.fill, Value.cells, Array.range, Result.andThen] at h2 ⊢
  exact h2

theorem wp_bytes1O (T T' : TypeId) (x0 : Operand) (ho : o.op = .buildSlice T 1 #[(0, x0)]) (ht : P.underlying T = some (.slice T')) (hsz : ∀ w, (sizeOf T').run P w = .ok 1 w) (hz : ∀ w, (zeroValue T').run P w = .ok (.int .u8 0) w) (n0 : Int) (hx0 : A.eval x0 = .int .u8 n0) (h0 : 0 ≤ n0 ∧ n0 < 256)
    (h : ∀ g w', Own w.heap.size T' w' 1 RU8 (some ⟨g, 0, none⟩) 1 [by1 n0] → Below w.heap.size w w' → K (A.put o.dst (.slice (some ⟨g, 0, none⟩) 1 1)) w') : Oper.wp P o A w K Q := by
  have h2 := h w.heap.size _ (Own.bytesNew (w := w) (e := T') [by1 n0] (cs := [.int .u8 n0]) (by simp [byteV_eq h0.1 h0.2]) (Nat.le_refl _) (by simp [maxLen])) ((Below.refl _ _).alloc (Nat.le_refl _) _)
  unfold Oper.wp
  simp [execOp, ho, Instr.buildSlice, run_underlying ht, hsz, hz, newRow, newObj, hx0, Instr.fill, Value.cells, Array.range, Result.andThen] at h2 ⊢
  exact h2

theorem ba_app (xs ys : List UInt8) : ((⟨xs.toArray⟩ : ByteArray) ++ ⟨ys.toArray⟩) = ⟨(xs ++ ys).toArray⟩ := by
  apply ByteArray.ext
  simp

theorem at_buildU {P : Program} {ops : Array Oper} {Q : Exit → Act → World → Prop} {rest : List Oper} {A : Act} {w : World} {d : Option Tmp} {ty : TypeId} {p : String} {af : Array Edge} {g : Option (Nat × Bool)} {n : Nat} {xs : Array (Nat × Operand)} (T : TypeId)
    (h : wpList P ops Q (⟨d, .buildSlice T n xs, ty, p, af, g⟩ :: rest) A w) : wpList P ops Q (⟨d, .buildSlice T n xs, ty, p, af, g⟩ :: rest) A w := h

/-- 'append(b, s...)' of a string, at an operation by itself. -/
theorem wp_appStr (hgd : o.guard = none) (sl x : Operand) (t u : TypeId)
    (ho : o.op = .call { callee := .builtin .append, args := #[sl, x], argTypes := #[t, u] })
    (base : Nat) (e : TypeId) (i : TypeInfo) (ht : P.underlying t = some (.slice e)) (hu : P.underlying u = some .string) (hi : P.info? e = some i) (hz : i.zero = some (.int .u8 0)) (hsize : i.size = 1) (hby : i.bytes = 1)
    {a : Option Addr} {c n : Nat} {xs : List UInt8} (hs : A.eval sl = .slice a n c) (hn : n = xs.length) (hO : Own base e w 1 RU8 a c xs) (s : ByteArray) (hx : A.eval x = .string s) (hl : xs.length + s.size ≤ 140737488355328) (hbase : base ≤ w.heap.size)
    (h : ∀ a' c' w', Own base e w' 1 RU8 a' c' (xs ++ s.data.toList) → w.grownBy w' (a.map (·.block)) → K (A.put o.dst (.slice a' (n + s.size) c')) w') : Oper.wp P o A w K Q := by
  subst hn
  have hob : (Value.slice a xs.length c).ownBlock = a.map (·.block) := by cases a <;> rfl
  obtain ⟨v', w', hr, g1, g2, _⟩ := Lib.run_append_own_string (P := P) w base t u o.type e i ht hu hi hz hsize hby _ xs.length _ hO.toBytes s (by unfold maxLen; omega) hl hbase
  rw [strCells_bytes, ← List.map_append] at g1
  rw [hob] at g2
  have hsz : s.data.toList.length = s.size := by rw [Array.length_toList]; rfl
  have hl2 : xs.length + s.size = (xs ++ s.data.toList).length := by rw [List.length_append, hsz]
  rw [hl2] at g1
  have key : ∀ a' c', v' = .slice a' (xs.length + s.size) c' → Own base e w' 1 RU8 a' c' (xs ++ s.data.toList) := by
    rintro a' c' rfl
    rw [hl2] at g1
    exact Own.ofBytes g1
  unfold Oper.wp execOp
  simp only [ho, resolve, invoke, builtin, Sem.run_bind, Sem.run_pure, Result.andThen_ok, List.map_toArray, List.map_cons, List.map_nil, hs, hx, hr]
  rcases g1.2 with ⟨rfl, hn⟩ | ⟨g, cap, cur, rfl, _⟩
  · have := h none 0 w' (key _ _ (by rw [hl2, hn])) g2
    rw [hl2, hn] at this
    exact this
  · rw [← hl2]
    exact h _ _ w' (key _ _ (by rw [hl2])) g2

end
end Go.Proofs.Ytemjnojfhbbapaa
