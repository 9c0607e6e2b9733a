/- Walks and plain laws that the claim rests on, part 7. -/
import Derived.Test.YtnkfemjmfalamaaP1
import Derived.Test.YtnkfemjmfalamaaP2
import Derived.Test.YtnkfemjmfalamaaP5
import Derived.Lib.AppendStr
import Derived.Laws.IdiomStrings
import Derived.LoopN
set_option linter.unusedSimpArgs false
set_option linter.unusedVariables false
/- Bytes: what stands for them; the walk through wire.put. -/
namespace Go.Proofs.Ytnkfemjmfalamaa
open Go.RowKit

def RU8 (cs : List Value) (x : UInt8) : Prop := cs = [.int .u8 x.toNat]

theorem info_byte : (Try.prog.info? 5).map (fun i => (i.zero, i.size, i.bytes)) = some (some (.int .u8 0), 1, 1) := by kernel_rfl

/-- The byte of a number at a place. -/
def byteAt (v : Int) (k : Nat) : UInt8 := UInt8.ofNat (v.toNat / 256 ^ k % 256)

/-- The lowest n bytes of a number, the highest first. -/
def be (v : Int) : Nat → List UInt8
  | 0 => []
  | n + 1 => byteAt v n :: be v n

theorem be_length (v : Int) (n : Nat) : (be v n).length = n := by
  induction n with
  | zero => rfl
  | succ n ih => simp [be, ih]

theorem byteAt_int {v : Int} (hv : 0 ≤ v) (k : Nat) : ((byteAt v k).toNat : Int) = v / ((256 ^ k : Nat) : Int) % 256 := by
  obtain ⟨n, rfl⟩ := Int.eq_ofNat_of_zero_le hv
  unfold byteAt
  rw [Int.toNat_natCast]
  generalize 256 ^ k = p
  have h : (UInt8.ofNat (n / p % 256)).toNat = n / p % 256 := by
    rw [UInt8.toNat_ofNat']
    exact Nat.mod_eq_of_lt (Nat.mod_lt _ (by decide))
  rw [h, Int.natCast_emod, Int.natCast_ediv]
  rfl

theorem RU8.byte {v : Int} (hv : 0 ≤ v) (k p : Nat) (hp : 256 ^ k = p) {x : Int} (hx : x = v / (p : Int) % 256) : RU8 [.int .u8 x] (byteAt v k) := by
  unfold RU8
  rw [byteAt_int hv, hp, hx]

/-- One more append: what has turned since w. -/
theorem grown_step {w w1 w2 : World} {r r1 : Option Nat} (h : w.grownBy w1 r) (hl : ∀ j, r1 = some j → w.heap.size ≤ j ∨ r = some j) (o : Obj) (h2 : (w1.alloc o).grownBy w2 r1) : w.grownBy w2 r :=
  (h.trans (World.grownBy_alloc _ _ _)).andThen h2 hl

theorem atOrNew_step {w w1 : World} {r : Option Nat} {a : Option Addr} {g : Nat} {o : Obj} (hs : w.heap.size ≤ w1.heap.size) (hl : ∀ j, a.map (·.block) = some j → w.heap.size ≤ j ∨ r = some j) (h : AtOrNew a g (w1.alloc o)) : ∀ j, (some (⟨g, 0, none⟩ : Addr)).map (·.block) = some j → w.heap.size ≤ j ∨ r = some j := by
  intro j hj
  simp at hj
  subst hj
  rcases h with h | h
  · exact hl _ h
  · left; rw [h]; simp; omega

end Go.Proofs.Ytnkfemjmfalamaa

/- The bytes of a frame, in plain words. -/
namespace Go.Proofs.Ytnkfemjmfalamaa

abbrev b1 (x : Int) : UInt8 := byteAt x 0
def levBytes (x : Lev) : List UInt8 := [b1 x.c, b1 x.l]
def certBytes (c : Cert) : List UInt8 := [b1 c.c, b1 c.by_, b1 c.host] ++ be c.till 6
def headBytes (f : Frame) : List UInt8 := [b1 f.src, b1 f.dst] ++ be f.seq 6
def mailBytes (f : Frame) : List UInt8 := [b1 f.thread, b1 f.mail.thread, b1 f.mail.label.length] ++ f.mail.label.flatMap levBytes ++ [b1 f.mail.grants.length] ++ f.mail.grants.map b1 ++ [b1 f.mail.text.size] ++ f.mail.text.data.toList ++ [b1 f.certs.length] ++ f.certs.flatMap certBytes
def encL (f : Frame) : List UInt8 := if f.ack = true then 1 :: headBytes f else 0 :: (headBytes f ++ mailBytes f)
def encR (f : Frame) : ByteArray × Int := if goodFrameC f = 0 then (⟨(encL f).toArray⟩, 0) else (⟨#[]⟩, goodFrameC f)

theorem good_facts {f : Frame} (h : goodFrameC f = 0) : (0 ≤ f.src ∧ f.src < 4) ∧ (0 ≤ f.dst ∧ f.dst < 4) ∧ f.src ≠ f.dst ∧ (1 ≤ f.seq ∧ f.seq ≤ 1099511627776) ∧ (0 ≤ f.thread ∧ f.thread < 4) ∧
    (f.ack = true → ackPlain f = true) ∧ (f.ack = false → goodMailC f.mail = 0 ∧ f.mail.host = f.src ∧ f.certs.length ≤ 24 ∧ ∀ c ∈ f.certs, goodCertB c = true) := by
  unfold goodFrameC at h
  by_cases hr : frameRange f = true
  · rw [if_pos hr] at h
    have hr' := hr
    unfold frameRange at hr'
    simp only [Bool.and_eq_true, four_iff, bne_iff_ne, decide_eq_true_eq] at hr'
    obtain ⟨⟨⟨⟨⟨h1, h2⟩, h3⟩, h4⟩, h5⟩, h6⟩ := hr'
    refine ⟨h1, h2, h3, ⟨h4, h5⟩, h6, fun hk => ?_, fun hk => ?_⟩
    · rw [if_pos hk] at h
      unfold ackC at h
      by_cases ha : ackPlain f = true
      · exact ha
      · rw [if_neg ha] at h; omega
    · rw [if_neg (by rw [hk]; simp)] at h
      by_cases hm : goodMailC f.mail = 0
      · rw [if_neg (by simpa using hm)] at h
        by_cases hh : f.mail.host = f.src
        · rw [if_neg (by simpa using hh)] at h
          by_cases h24 : 24 < f.certs.length
          · rw [if_pos h24] at h; omega
          · rw [if_neg h24] at h
            unfold certsC at h
            by_cases hc : f.certs.all goodCertB = true
            · exact ⟨hm, hh, by omega, List.all_eq_true.1 hc⟩
            · rw [if_neg hc] at h; omega
        · rw [if_pos hh] at h; omega
      · rw [if_pos hm] at h; exact absurd h hm
  · rw [if_neg hr] at h; omega

theorem mail_facts {m : Mail} (h : goodMailC m = 0) : (0 ≤ m.host ∧ m.host < 4) ∧ (0 ≤ m.thread ∧ m.thread < 4) ∧ goodL m.label = true ∧ risingB m.grants 8 = true ∧ m.text.size ≤ 64 := by
  unfold goodMailC at h
  by_cases hr : (four m.host && four m.thread && goodL m.label && risingB m.grants 8) = true
  · rw [if_pos hr] at h
    simp only [Bool.and_eq_true, four_iff] at hr
    obtain ⟨⟨⟨h1, h2⟩, h3⟩, h4⟩ := hr
    refine ⟨h1, h2, h3, h4, ?_⟩
    by_cases ht : 64 < m.text.size
    · rw [if_pos ht] at h; omega
    · omega
  · rw [if_neg hr] at h; omega

theorem risesI_mem {l : List Int} {p : Int} (h : risesI p l = true) : ∀ x ∈ l, 0 ≤ x ∧ x < 80 := by
  induction l generalizing p with
  | nil => simp
  | cons y l ih =>
    unfold risesI at h
    split at h
    · rename_i hh
      intro x hx
      rcases List.mem_cons.1 hx with rfl | hx
      · exact (catOk_iff _).1 hh.2
      · exact ih h x hx
    · simp at h

theorem grants_facts {l : List Int} (h : risingB l 8 = true) : l.length ≤ 8 ∧ ∀ x ∈ l, 0 ≤ x ∧ x < 80 := by
  unfold risingB at h
  simp only [Bool.and_eq_true, decide_eq_true_eq] at h
  exact ⟨by omega, risesI_mem h.1⟩

theorem cert_facts {c : Cert} (h : goodCertB c = true) : (0 ≤ c.c ∧ c.c < 80) ∧ (0 ≤ c.by_ ∧ c.by_ < 4) ∧ (0 ≤ c.host ∧ c.host < 4) ∧ c.by_ ≠ c.host ∧ (0 ≤ c.till ∧ c.till ≤ 1099511627776) := by
  unfold goodCertB at h
  simp only [Bool.and_eq_true, four_iff, catOk_iff, bne_iff_ne, decide_eq_true_eq] at h
  obtain ⟨⟨⟨⟨⟨h1, h2⟩, h3⟩, h4⟩, h5⟩, h6⟩ := h
  exact ⟨h1, h2, h3, h4, h5, h6⟩

end Go.Proofs.Ytnkfemjmfalamaa

/- A row of bytes of the call's own, and what else lies in memory while it grows. -/
namespace Go.Proofs.Ytnkfemjmfalamaa
open Go.RowKit

/-- A row's block is none of another type's. -/
theorem Own.apartT {base : Nat} {e : TypeId} {w : World} {α : Type} {sz : Nat} {R : List Value → α → Prop} {a : Option Addr} {c : Nat} {xs : List α} (h : Own base e w sz R a c xs) {g : Nat} {cs : Array Value} {T : TypeId} {fr : Nat × Nat} (hb : w.heap[g]? = some (.cells cs T fr)) (hT : T ≠ e) : a.map (·.block) ≠ some g := by
  obtain ⟨css, _, _, _, h4⟩ := h
  intro he
  rcases h4.2 with ⟨hv, _⟩ | ⟨g', cap, cur, hv, _, hh, _⟩
  · simp only [Value.slice.injEq] at hv
    obtain ⟨rfl, _⟩ := hv
    simp at he
  · simp only [Value.slice.injEq] at hv
    obtain ⟨rfl, _⟩ := hv
    simp at he
    subst he
    rw [hb] at hh
    simp at hh
    exact hT hh.2.1

theorem St.buf {w0 wx w' : World} {own : Blks} {base : Nat} {e : TypeId} {α : Type} {sz : Nat} {R : List Value → α → Prop} {a : Option Addr} {c : Nat} {xs : List α} (st : St [] w0 wx own) (hO : Own base e wx sz R a c xs) (hb : w0.heap.size ≤ base) (hg : wx.grownBy w' (a.map (·.block))) (hT : ∀ x ∈ own, x.2.1 ≠ e) : St [] w0 w' own := by
  obtain ⟨css, h1, h2, h3, h4⟩ := id hO
  refine ⟨hg.os.trans st.os, hg.tape.trans st.tape, hg.output.trans st.output, Nat.le_trans st.size hg.size, fun b hb' _ => ?_, fun x hx => ?_, st.mine, st.ne⟩
  · rw [hg.block b (Nat.lt_of_lt_of_le hb' st.size) fun e => ?_]
    · exact st.frame b hb' (by simp)
    · have := (hO.blockLt b e.symm).1
      omega
  · rw [hg.block x.1 (st.lt hx) fun e => hO.apartT (st.blk x hx) (hT x hx) e.symm]
    exact st.blk x hx

theorem St.buf1 {w0 wx w' : World} {own : Blks} {base : Nat} {e : TypeId} {α : Type} {sz : Nat} {R : List Value → α → Prop} {a : Option Addr} {c : Nat} {xs : List α} (st : St [] w0 wx own) (hO : Own base e wx sz R a c xs) (hb : w0.heap.size ≤ base) {o : Obj} (hg : (wx.alloc o).grownBy w' (a.map (·.block))) (hT : ∀ x ∈ own, x.2.1 ≠ e) : St [] w0 w' own :=
  (st.call ((Below.refl _ _).alloc (Nat.le_refl _) o)).buf (hO.below ((Below.refl _ _).alloc (Nat.le_refl _) o)) hb hg hT

theorem wpList_buildU1 {P : Program} {w0 w : World} {M : List Nat} {own : Blks} {ops : Array Oper} {rest : List Oper} {o : Oper} {A : Act} {Q : Exit → Act → World → Prop} (st : St M w0 w own) (hgd : Region.wanted o (yielded ops A.tmps) = true) (T T' : TypeId) (x0 : Operand) (ho : o.op = .buildSlice T 1 #[(0, x0)]) (ht : P.underlying T = some (.slice T')) (hsz : ∀ w, (sizeOf T').run P w = .ok 1 w) (hz : ∀ w, (zeroValue T').run P w = .ok (.int .u8 0) w) (n0 : Int) (hx0 : A.eval x0 = .int .u8 n0)
    (h : ∀ g w', w0.heap.size ≤ g → g = w.heap.size → St M w0 w' (own ++ [(g, T', [.int .u8 n0])]) → Below w.heap.size w w' → w'.heap.size = w.heap.size + 1 → wpList P ops Q rest (A.put o.dst (.slice (some ⟨g, 0, none⟩) 1 1)) w') : wpList P ops Q (o :: rest) A w := by
  refine wpList_wanted hgd fun K hK => ?_
  have hs := st.new T' [.int .u8 n0]
  have h2 := hK _ _ (h w.heap.size _ st.size rfl hs ((Below.refl _ _).alloc (Nat.le_refl _) _) (by simp))
  unfold Oper.wp
  simp [execOp, ho, Instr.buildSlice, run_underlying ht, hsz, hz, newRow, newObj, hx0, Instr.fill, Value.cells, Array.range, Result.andThen] at h2 ⊢
  exact h2

theorem wpList_buildU2 {P : Program} {w0 w : World} {M : List Nat} {own : Blks} {ops : Array Oper} {rest : List Oper} {o : Oper} {A : Act} {Q : Exit → Act → World → Prop} (st : St M w0 w own) (hgd : Region.wanted o (yielded ops A.tmps) = true) (T T' : TypeId) (x0 x1 : Operand) (ho : o.op = .buildSlice T 2 #[(0, x0), (1, x1)]) (ht : P.underlying T = some (.slice T')) (hsz : ∀ w, (sizeOf T').run P w = .ok 1 w) (hz : ∀ w, (zeroValue T').run P w = .ok (.int .u8 0) w) (n0 n1 : Int) (hx0 : A.eval x0 = .int .u8 n0) (hx1 : A.eval x1 = .int .u8 n1)
    (h : ∀ g w', w0.heap.size ≤ g → g = w.heap.size → St M w0 w' (own ++ [(g, T', [.int .u8 n0, .int .u8 n1])]) → Below w.heap.size w w' → w'.heap.size = w.heap.size + 1 → wpList P ops Q rest (A.put o.dst (.slice (some ⟨g, 0, none⟩) 2 2)) w') : wpList P ops Q (o :: rest) A w := by
  refine wpList_wanted hgd fun K hK => ?_
  have hs := st.new T' [.int .u8 n0, .int .u8 n1]
  have h2 := hK _ _ (h w.heap.size _ st.size rfl hs ((Below.refl _ _).alloc (Nat.le_refl _) _) (by simp))
  unfold Oper.wp
  simp [execOp, ho, Instr.buildSlice, run_underlying ht, hsz, hz, newRow, newObj, hx0, hx1, Instr.fill, Value.cells, Array.range, Result.andThen] at h2 ⊢
  exact h2

theorem wpList_buildU3 {P : Program} {w0 w : World} {M : List Nat} {own : Blks} {ops : Array Oper} {rest : List Oper} {o : Oper} {A : Act} {Q : Exit → Act → World → Prop} (st : St M w0 w own) (hgd : Region.wanted o (yielded ops A.tmps) = true) (T T' : TypeId) (x0 x1 x2 : Operand) (ho : o.op = .buildSlice T 3 #[(0, x0), (1, x1), (2, x2)]) (ht : P.underlying T = some (.slice T')) (hsz : ∀ w, (sizeOf T').run P w = .ok 1 w) (hz : ∀ w, (zeroValue T').run P w = .ok (.int .u8 0) w) (n0 n1 n2 : Int) (hx0 : A.eval x0 = .int .u8 n0) (hx1 : A.eval x1 = .int .u8 n1) (hx2 : A.eval x2 = .int .u8 n2)
    (h : ∀ g w', w0.heap.size ≤ g → g = w.heap.size → St M w0 w' (own ++ [(g, T', [.int .u8 n0, .int .u8 n1, .int .u8 n2])]) → Below w.heap.size w w' → w'.heap.size = w.heap.size + 1 → wpList P ops Q rest (A.put o.dst (.slice (some ⟨g, 0, none⟩) 3 3)) w') : wpList P ops Q (o :: rest) A w := by
  refine wpList_wanted hgd fun K hK => ?_
  have hs := st.new T' [.int .u8 n0, .int .u8 n1, .int .u8 n2]
  have h2 := hK _ _ (h w.heap.size _ st.size rfl hs ((Below.refl _ _).alloc (Nat.le_refl _) _) (by simp))
  unfold Oper.wp
  simp [execOp, ho, Instr.buildSlice, run_underlying ht, hsz, hz, newRow, newObj, hx0, hx1, hx2, Instr.fill, Value.cells, Array.range, Result.andThen] at h2 ⊢
  exact h2

def byteV (b : UInt8) : Value := .int .u8 b.toNat

theorem byteV_eq {x : Int} (h0 : 0 ≤ x) (h1 : x < 256) : Value.int .u8 x = byteV (byteAt x 0) := by
  unfold byteV
  rw [byteAt_int h0]
  simp
  omega

theorem RU8.iff (cs : List Value) (x : UInt8) : RU8 cs x ↔ cs = [byteV x] := Iff.rfl

theorem bytes_rows (xs : List UInt8) : (xs.map fun b => [byteV b]).flatten = xs.map byteV := by
  induction xs with
  | nil => rfl
  | cons x xs ih => simp [ih]

theorem SlR.bytes {ok : Nat → Prop} {w : World} {g : Nat} {e : TypeId} {cs : List Value} (xs : List UInt8) (hg : w.heap[g]? = some (.cells cs.toArray e (0, 0))) (hcs : cs = xs.map byteV) (ho : ok g) (hm : xs.length ≤ maxLen) : SlR ok w 1 RU8 (some ⟨g, 0, none⟩) xs.length xs := by
  refine ⟨Nat.le_refl _, hm, by simp, fun i y hy => ?_⟩
  have hi := (List.getElem?_eq_some_iff.1 hy).1
  refine ⟨g, 0, [byteV y], rfl, ho, (Array.getElem?_eq_some_iff.1 hg).1, rfl, rfl, by simp [byteV, Value.oneCell'], fun j v hv => ?_⟩
  have hj : j = 0 := by have := (List.getElem?_eq_some_iff.1 hv).1; simp at this; exact this
  subst hj
  simp at hv
  subst hv
  rw [cell_of_row w g _ cs.toArray e (0, 0) hg]
  simp [hcs, hy]

theorem Own.ofBytes {base : Nat} {w : World} {e : TypeId} {a : Option Addr} {c : Nat} {xs : List UInt8} (h : w.ownsRow base e 1 (.slice a xs.length c) xs.length (xs.map byteV)) : Own base e w 1 RU8 a c xs := by
  refine ⟨xs.map fun b => [byteV b], by simp, ?_, fun i x cs hx hc => ?_, ?_⟩
  · intro cs hcs
    obtain ⟨b, _, rfl⟩ := List.mem_map.1 hcs
    simp [byteV, Value.oneCell']
  · simp only [List.getElem?_map, hx, Option.map_some, Option.some.injEq] at hc
    exact hc.symm
  · rw [bytes_rows]
    exact h

theorem Own.toBytes {base : Nat} {w : World} {e : TypeId} {a : Option Addr} {c : Nat} {xs : List UInt8} (h : Own base e w 1 RU8 a c xs) : w.ownsRow base e 1 (.slice a xs.length c) xs.length (xs.map byteV) := by
  obtain ⟨css, h1, h2, h3, h4⟩ := h
  have e1 : css = xs.map fun b => [byteV b] := by
    apply List.ext_getElem?
    intro i
    by_cases hi : i < xs.length
    · have := h3 i xs[i] css[i] (by simp [hi]) (by simp [h1, hi])
      simp only [List.getElem?_map]
      rw [List.getElem?_eq_getElem (by omega), List.getElem?_eq_getElem hi, this]
      rfl
    · simp [hi, h1, Nat.not_lt.1 hi]
  rw [e1, bytes_rows] at h4
  exact h4

/-- A new row of bytes. -/
theorem Own.bytesNew {base : Nat} {w : World} {e : TypeId} {cs : List Value} (xs : List UInt8) (hcs : cs = xs.map byteV) (hb : base ≤ w.heap.size) (hm : xs.length ≤ maxLen) : Own base e (w.alloc (.cells cs.toArray e)) 1 RU8 (some ⟨w.heap.size, 0, none⟩) xs.length xs :=
  Own.ofBytes ⟨by simp, .inr ⟨w.heap.size, xs.length, cs.toArray, rfl, hb, heap_alloc_new w _, Nat.le_refl _, hm, by simp [hcs], by rw [hcs]; exact List.take_of_length_le (by simp)⟩⟩

theorem Own.bytesBlk {base : Nat} {w : World} {e : TypeId} {cs : List Value} {g : Nat} (xs : List UInt8) (hg : w.heap[g]? = some (.cells cs.toArray e (0, 0))) (hcs : cs = xs.map byteV) (hb : base ≤ g) (hm : xs.length ≤ maxLen) : Own base e w 1 RU8 (some ⟨g, 0, none⟩) xs.length xs :=
  Own.ofBytes ⟨by simp, .inr ⟨g, xs.length, cs.toArray, rfl, hb, hg, Nat.le_refl _, hm, by simp [hcs], by rw [hcs]; exact List.take_of_length_le (by simp)⟩⟩

theorem Own.byteFree {base : Nat} {e : TypeId} {w : World} {g c : Nat} {xs : List UInt8} (h : Own base e w 1 RU8 (some ⟨g, 0, none⟩) c xs) (j : Nat) : w.frozen? ⟨g, j, none⟩ = false := World.ownsRow.frozenAt h.toBytes j

theorem Own.byteCell {base : Nat} {e : TypeId} {w : World} {g c : Nat} {xs : List UInt8} (h : Own base e w 1 RU8 (some ⟨g, 0, none⟩) c xs) (j : Nat) (hj : j < xs.length) : w.cell? ((⟨g, 0, none⟩ : Addr).add j) = some (.int .u8 (xs[j].toNat : Int)) := by
  obtain ⟨b, o, cs, ha, _, _, hr, _, _, hc⟩ := (h.slr (ok := fun _ => True) fun _ _ => trivial).2.2.2 j xs[j] (by simp [hj])
  simp at ha
  obtain ⟨rfl, rfl⟩ := ha
  rw [hr] at hc
  have := hc 0 _ rfl
  simpa [add_plain] using this

/-- 'string(b)'. -/
theorem Own.string {P : Program} {base : Nat} {e : TypeId} {w : World} {g c : Nat} {xs : List UInt8} (h : Own base e w 1 RU8 (some ⟨g, 0, none⟩) c xs) (src dst e' : TypeId) (hs : P.underlying src = some (.slice e')) (he : P.underlying e' = some (.int .u8)) (hd : P.underlying dst = some .string) :
    (convert src dst (.slice (some ⟨g, 0, none⟩) xs.length c)).run P w = .ok (.string ⟨xs.toArray⟩) w :=
  run_convert_bytes_back (P := P) w src dst e' ⟨g, 0, none⟩ c xs hs he hd fun j hj => h.byteCell j hj

theorem Own.set {base : Nat} {e : TypeId} {w : World} {g c : Nat} {xs : List UInt8} (h : Own base e w 1 RU8 (some ⟨g, 0, none⟩) c xs) (j : Nat) (y : UInt8) : Own base e (w.setCell ⟨g, j, none⟩ (byteV y)) 1 RU8 (some ⟨g, 0, none⟩) c (xs.set j y) ∧ w.grownBy (w.setCell ⟨g, j, none⟩ (byteV y)) (some g) := by
  obtain ⟨s1, s2⟩ := World.ownsRow.stored h.toBytes j (byteV y)
  exact ⟨Own.ofBytes (by simpa [List.map_set] using s1), s2⟩

theorem strCells_bytes (s : ByteArray) : Lib.strCells s = s.data.toList.map byteV := by
  simp [Lib.strCells, byteV]

/-- 'append(b, s...)' of a string. -/
theorem wpList_appStr {P : Program} {w : World} {ops : Array Oper} {rest : List Oper} {o : Oper} {A : Act} {Q : Exit → Act → World → Prop} (hgd : o.guard = none) (sl x : Operand) (t u : TypeId)
    (ho : o.op = .call { callee := .builtin .append, args := #[sl, x], argTypes := #[t, u] })
    (base : Nat) (e : TypeId) (i : TypeInfo) (ht : P.underlying t = some (.slice e)) (hu : P.underlying u = some .string) (hi : P.info? e = some i) (hz : i.zero = some (.int .u8 0)) (hsize : i.size = 1) (hby : i.bytes = 1)
    {a : Option Addr} {c n : Nat} {xs : List UInt8} (hs : A.eval sl = .slice a n c) (hn : n = xs.length) (hO : Own base e w 1 RU8 a c xs) (s : ByteArray) (hx : A.eval x = .string s) (hl : xs.length + s.size ≤ 140737488355328) (hbase : base ≤ w.heap.size)
    (h : ∀ a' c' w', Own base e w' 1 RU8 a' c' (xs ++ s.data.toList) → w.grownBy w' (a.map (·.block)) → wpList P ops Q rest (A.put o.dst (.slice a' (n + s.size) c')) w') : wpList P ops Q (o :: rest) A w := by
  subst hn
  have hob : (Value.slice a xs.length c).ownBlock = a.map (·.block) := by cases a <;> rfl
  refine Lib.wpList_append_own_string w hgd sl x t u ho base e i ht hu hi hz hsize hby _ xs.length _ hs hO.toBytes s hx (by unfold maxLen; omega) hl hbase fun v' w' g1 g2 _ => ?_
  rw [strCells_bytes, ← List.map_append] at g1
  rw [hob] at g2
  have hsz : s.data.toList.length = s.size := by rw [Array.length_toList]; rfl
  have hl2 : xs.length + s.size = (xs ++ s.data.toList).length := by rw [List.length_append, hsz]
  rw [hl2] at g1
  have key : ∀ a' c', v' = .slice a' (xs.length + s.size) c' → Own base e w' 1 RU8 a' c' (xs ++ s.data.toList) := by
    rintro a' c' rfl
    rw [hl2] at g1
    exact Own.ofBytes g1
  rcases g1.2 with ⟨rfl, hn⟩ | ⟨g, cap, cur, rfl, _⟩
  · have := h none 0 w' (key _ _ (by rw [hl2, hn])) g2
    rw [hl2, hn] at this
    exact this
  · rw [← hl2]
    exact h _ _ w' (key _ _ (by rw [hl2])) g2

end Go.Proofs.Ytnkfemjmfalamaa

/- A fresh kernel's first category: what 'calls' asks of kernel. (printed by gen_ker0.py) -/
namespace Go.Proofs.Ytnkfemjmfalamaa
open Go.RowKit

/-- A call that turns one block of ours alone. -/
theorem St.callM {M : List Nat} {w0 w w' : World} {own : Blks} (h : St M w0 w own) {i g : Nat} {T : TypeId} {cs cs' : List Value} (hi : own[i]? = some (g, T, cs)) (h' : St [g] w w' [(g, T, cs')]) : St M w0 w' (own.set i (g, T, cs')) := by
  have hin : (g, T, cs) ∈ own := List.mem_of_getElem? hi
  have hilt : i < own.length := (List.getElem?_eq_some_iff.1 hi).1
  have hget : own[i] = (g, T, cs) := (List.getElem?_eq_some_iff.1 hi).2
  have hids : (own.set i (g, T, cs')).map (·.1) = own.map (·.1) := by
    apply List.ext_getElem?
    intro j
    simp only [List.getElem?_map, List.getElem?_set]
    by_cases hj : i = j
    · subst hj; simp [hilt, hget]
    · simp [hj]
  refine ⟨h'.os.trans h.os, h'.tape.trans h.tape, h'.output.trans h.output, Nat.le_trans h.size h'.size, ?_, ?_, ?_, ?_⟩
  · intro b hb hM
    have hbg : b ≠ g := by
      rintro rfl
      rcases h.mine _ hin with hm | hm
      · exact hM hm
      · simp at hm; omega
    rw [h'.frame b (Nat.lt_of_lt_of_le hb h.size) (by simp [hbg])]; exact h.frame b hb hM
  · intro x hx
    obtain ⟨j, hj⟩ := List.mem_iff_getElem?.1 hx
    rw [List.getElem?_set] at hj
    by_cases hij : i = j
    · subst hij; simp [hilt] at hj; subst hj; exact h'.blk _ (by simp)
    · rw [if_neg hij] at hj
      have hxin := List.mem_of_getElem? hj
      have hne : x.1 ≠ g := by
        have hp := List.pairwise_iff_getElem.1 h.ne
        have hjl := (List.getElem?_eq_some_iff.1 hj).1
        have hjx := (List.getElem?_eq_some_iff.1 hj).2
        rcases Nat.lt_or_gt_of_ne hij with hlt | hlt
        · have := hp i j hilt hjl hlt; rw [hget, hjx] at this; exact fun e => this e.symm
        · have := hp j i hjl hilt hlt; rw [hget, hjx] at this; exact this
      rw [h'.frame _ (h.lt hxin) (by simp [hne])]; exact h.blk x hxin
  · intro x hx
    have : x.1 ∈ (own.set i (g, T, cs')).map (·.1) := List.mem_map.2 ⟨x, hx, rfl⟩
    rw [hids] at this
    obtain ⟨y, hy, e⟩ := List.mem_map.1 this
    rw [← e]; exact h.mine y hy
  · have : ((own.set i (g, T, cs')).map (·.1)).Pairwise (· ≠ ·) := by rw [hids]; exact List.pairwise_map.2 h.ne
    exact List.pairwise_map.1 this

set_option maxRecDepth 100000 in
theorem kernel_New2 (w : World) : Calls Try.prog 8 #[.int .i64 2] w fun e w' => ∃ g, e = .returned (.tuple #[.pointer (some ⟨g, 0, none⟩), .int .i64 0]) ∧ w.heap.size ≤ g ∧ St [] w w' [(g, 60, [.int .i64 2, .slice none 0 0, .slice none 0 0, .string ⟨#[]⟩, .slice none 0 0, .slice none 0 0, .slice none 0 0, .slice none 0 0, .string ⟨#[]⟩, .slice none 0 0, .slice none 0 0, .slice none 0 0, .slice none 0 0, .string ⟨#[]⟩, .slice none 0 0, .slice none 0 0, .slice none 0 0, .slice none 0 0, .string ⟨#[]⟩, .slice none 0 0, .slice none 0 0, .int .i64 0])] := by
  have st := St.start w
  go_enter Try.func8, Try.ntmps8
  go_wp2_with (first | go_skip | (with_reducible refine at_box 60 ?_; refine mem_box st (wanted_none rfl) 60 _ rfl _ rfl _ rfl ?_; clear st; intro g1 w1 hg1 st hg1b; clear hg1b; simp [Act.eval, Act.put, Value.cells, putL] at st))
  go_ret2
  exact ⟨g1, rfl, hg1, st⟩

set_option maxRecDepth 100000 in
theorem search_none (w : World) (c : Int) : Calls Try.prog 36 #[.slice none 0 0, .int .i64 c] w fun e w' => e = .returned (.tuple #[.int .i64 0, .bool false]) ∧ w = w' := by
  go_enter Try.func36, Try.ntmps36
  go_wp2
  refine wp_loop_rounds 1 ?_
  rw [rounds_succ]
  go_wp2
  go_ret2
  exact ⟨rfl, rfl⟩

set_option maxRecDepth 100000 in
theorem clone_none (w : World) : Calls Try.prog 38 #[.slice none 0 0] w fun e w' => e = .returned (.slice none 0 0) ∧ w = w' := by
  have hcmp := fun (ww : World) (a : Option Addr) (n c : Nat) => Lib.run_eql_slice_nil ww 25 _ a n c 0 0 Try.underlying25
  go_enter Try.func38, Try.ntmps38
  go_wp2
  go_ret
  exact ⟨rfl, rfl⟩

set_option maxRecDepth 100000 in
theorem insert_none (ok : Nat → Prop) (w : World) (b : Addr) (c : Int) (hR : SlR ok w 1 RInt (some b) 1 [c]) : Calls Try.prog 37 #[.slice none 0 0, .int .i64 0, .slice (some b) 1 1] w fun e w' => ∃ a k, e = .returned (.slice a 1 k) ∧ Below w.heap.size w w' ∧ Own w.heap.size 3 w' 1 RInt a k [c] := by
  obtain ⟨i0, hi, hz0, hz1, hz2⟩ := info_parts info_int
  go_enter Try.func37, Try.ntmps37
  go_wp2_with (first | go_skip | (at_builtin; go_must (refine wpList_copy (wanted_none rfl) _ _ 25 rfl 3 i0 _ 1 8 Try.underlying25 hi hz0 hz1 hz2 rfl (by decide) (ys := [c]) rfl rfl rfl hR (by simp) ?_; intro a k w' hO hb)))
  go_ret
  exact ⟨a, k, rfl, hb, hO⟩

set_option maxRecDepth 100000 in
set_option maxHeartbeats 1000000 in
theorem own_first (w : World) (g : Nat) (hb : w.heap[g]? = some (.cells ([.int .i64 2, .slice none 0 0, .slice none 0 0, .string ⟨#[]⟩, .slice none 0 0, .slice none 0 0, .slice none 0 0, .slice none 0 0, .string ⟨#[]⟩, .slice none 0 0, .slice none 0 0, .slice none 0 0, .slice none 0 0, .string ⟨#[]⟩, .slice none 0 0, .slice none 0 0, .slice none 0 0, .slice none 0 0, .string ⟨#[]⟩, .slice none 0 0, .slice none 0 0, .int .i64 0]).toArray 60 (0, 0))) (c : Int) :
    Calls Try.prog 22 #[.pointer (some ⟨g, 6, none⟩), .int .i64 c] w fun e w' => ∃ a k, e = .returned (.int .i64 0) ∧ St [g] w w' [(g, 60, [.int .i64 2, .slice none 0 0, .slice none 0 0, .string ⟨#[]⟩, .slice none 0 0, .slice none 0 0, .slice none 0 0, .slice a 1 k, .string ⟨#[]⟩, .slice none 0 0, .slice none 0 0, .slice none 0 0, .slice none 0 0, .string ⟨#[]⟩, .slice none 0 0, .slice none 0 0, .slice none 0 0, .slice none 0 0, .string ⟨#[]⟩, .slice none 0 0, .slice none 0 0, .int .i64 0])] ∧ Own w.heap.size 3 w' 1 RInt a k [c] := by
  have hlt : g < w.heap.size := (Array.getElem?_eq_some_iff.1 hb).1
  have st : St [g] w w [(g, 60, [.int .i64 2, .slice none 0 0, .slice none 0 0, .string ⟨#[]⟩, .slice none 0 0, .slice none 0 0, .slice none 0 0, .slice none 0 0, .string ⟨#[]⟩, .slice none 0 0, .slice none 0 0, .slice none 0 0, .slice none 0 0, .string ⟨#[]⟩, .slice none 0 0, .slice none 0 0, .slice none 0 0, .slice none 0 0, .string ⟨#[]⟩, .slice none 0 0, .slice none 0 0, .int .i64 0])] := ⟨rfl, rfl, rfl, Nat.le_refl _, fun _ _ _ => rfl, by simp; exact hb, by simp, by simp⟩
  clear hb
  go_enter Try.func22, Try.ntmps22
  go_wp2_with (first
    | go_skip | (with_reducible refine at_load 25 ?_; (first | refine mem_load' st 25 _ rfl (wanted_none rfl) Try.isAgg25 ?_ | (refine mem_load' st 25 _ rfl (wanted_some rfl ?_) Try.isAgg25 ?_; focus (simp [yielded, Act.put]; done))); refine ⟨0, _, _, _, _, _, rfl, rfl, rfl, ?_⟩)
    | (go_at_call 36; refine (search_none _ _).mono ?_; rintro e v1 ⟨rfl, rfl⟩)
    | (go_at_call 38; refine (clone_none _).mono ?_; rintro e v1 ⟨rfl, rfl⟩)
    | ((with_reducible refine at_build1 25 ?_; refine wpList_build1 st (wanted_none rfl) 25 3 _ rfl Try.underlying25 1 Try.sizeOf3 (by decide) (by decide) _ Try.zeroValue3 _ rfl rfl ?_; have stw2 := st; clear st; intro g2 w2 hg2 hg2e st hw2b hw2z; simp [Act.eval, Act.put, Value.cells, putL] at st); clear hg2e)
    | (go_at_call 37; go_must (have sz3 := st.size; refine (insert_none (fun _ => True) _ _ c (SlR.ofBlk (R := RInt) (sz := 1) (x := c) (st.blk _ (List.mem_of_getElem? (i := 1) rfl)) rfl rfl rfl trivial)).mono ?_; rintro e v3 ⟨a, k, rfl, hb3, hO⟩; replace st := st.call hb3))
    | (with_reducible refine at_store 25 ?_; (first | refine mem_store' st 25 _ _ rfl (wanted_none rfl) _ Try.sizeOf25 ?_ | (refine mem_store' st 25 _ _ rfl (wanted_some rfl ?_) _ Try.sizeOf25 ?_; focus (simp [yielded, Act.put]; done))); refine ⟨0, _, _, _, _, _, rfl, rfl, rfl, rfl, rfl, rfl, ?_⟩; clear st; intro w4 st hw4m hw4z; simp [Act.eval, Act.put, Value.cells, putL] at st))
  go_ret
  refine ⟨a, k, rfl, st.sub (by simp) (by simp), ?_⟩
  have hO' := hO.le sz3
  exact hO'.move (fun b h1 h2 => hw4m b (by omega)) (fun _ _ h => h)

set_option maxRecDepth 100000 in
set_option maxHeartbeats 3000000 in
theorem call_first (w : World) (g : Nat) (hb : w.heap[g]? = some (.cells ([.int .i64 2, .slice none 0 0, .slice none 0 0, .string ⟨#[]⟩, .slice none 0 0, .slice none 0 0, .slice none 0 0, .slice none 0 0, .string ⟨#[]⟩, .slice none 0 0, .slice none 0 0, .slice none 0 0, .slice none 0 0, .string ⟨#[]⟩, .slice none 0 0, .slice none 0 0, .slice none 0 0, .slice none 0 0, .string ⟨#[]⟩, .slice none 0 0, .slice none 0 0, .int .i64 0]).toArray 60 (0, 0))) :
    Calls Try.prog 10 #[.pointer (some ⟨g, 0, none⟩), .int .i64 1, .agg #[.int .i64 1, .int .i64 0, .int .i64 0, .int .i64 0, .int .i64 0, .slice none 0 0, .slice none 0 0, .string .empty]] w fun e w' => ∃ a k, e = .returned (.agg #[.int .i64 0, .int .i64 40, .string ⟨#[]⟩]) ∧ St [g] w w' [(g, 60, [.int .i64 2, .slice none 0 0, .slice none 0 0, .string ⟨#[]⟩, .slice none 0 0, .slice none 0 0, .slice none 0 0, .slice a 1 k, .string ⟨#[]⟩, .slice none 0 0, .slice none 0 0, .slice none 0 0, .slice none 0 0, .string ⟨#[]⟩, .slice none 0 0, .slice none 0 0, .slice none 0 0, .slice none 0 0, .string ⟨#[]⟩, .slice none 0 0, .slice none 0 0, .int .i64 1])] ∧ Own w.heap.size 3 w' 1 RInt a k [40] := by
  have hlt : g < w.heap.size := (Array.getElem?_eq_some_iff.1 hb).1
  have st : St [g] w w [(g, 60, [.int .i64 2, .slice none 0 0, .slice none 0 0, .string ⟨#[]⟩, .slice none 0 0, .slice none 0 0, .slice none 0 0, .slice none 0 0, .string ⟨#[]⟩, .slice none 0 0, .slice none 0 0, .slice none 0 0, .slice none 0 0, .string ⟨#[]⟩, .slice none 0 0, .slice none 0 0, .slice none 0 0, .slice none 0 0, .string ⟨#[]⟩, .slice none 0 0, .slice none 0 0, .int .i64 0])] := ⟨rfl, rfl, rfl, Nat.le_refl _, fun _ _ _ => rfl, by simp; exact hb, by simp, by simp⟩
  clear hb
  go_enter Try.func10, Try.ntmps10
  go_wp2_with (first
    | go_skip | (with_reducible refine at_box 27 ?_; refine mem_box st (wanted_none rfl) 27 _ rfl _ rfl _ rfl ?_; clear st; intro g1 w1 hg1 st hg1b; clear hg1b; simp [Act.eval, Act.put, Value.cells, putL] at st) | (with_reducible refine at_alloc 39 ?_; refine mem_alloc st (wanted_none rfl) 39 rfl _ Try.zeroValue39 _ rfl ?_; clear st; intro g2 w2 hg2 st hg2b; clear hg2b; simp [Act.eval, Act.put, Value.cells, putL] at st) | (with_reducible refine at_load 9 ?_; (first | refine mem_load' st 9 _ rfl (wanted_none rfl) Try.isAgg9 ?_ | (refine mem_load' st 9 _ rfl (wanted_some rfl ?_) Try.isAgg9 ?_; focus (simp [yielded, Act.put]; done))); refine ⟨1, _, _, _, _, _, rfl, rfl, rfl, ?_⟩) | (with_reducible refine at_load 3 ?_; (first | refine mem_load' st 3 _ rfl (wanted_none rfl) Try.isAgg3 ?_ | (refine mem_load' st 3 _ rfl (wanted_some rfl ?_) Try.isAgg3 ?_; focus (simp [yielded, Act.put]; done))); refine ⟨0, _, _, _, _, _, rfl, rfl, rfl, ?_⟩) | (with_reducible refine at_load 3 ?_; (first | refine mem_load' st 3 _ rfl (wanted_none rfl) Try.isAgg3 ?_ | (refine mem_load' st 3 _ rfl (wanted_some rfl ?_) Try.isAgg3 ?_; focus (simp [yielded, Act.put]; done))); refine ⟨1, _, _, _, _, _, rfl, rfl, rfl, ?_⟩)
    | (go_at_call 22; go_must (refine (own_first _ g (st.blk _ (List.mem_of_getElem? (i := 0) rfl)) 40).mono ?_; rintro e v3 ⟨a, k, rfl, st3, hO⟩; have sz3 := st.size; have l0 := st.ltAt (i := 0) rfl; have l2 := st.ltAt (i := 2) rfl; replace st := st.callM (i := 0) rfl st3; simp only [List.set_cons_zero] at st))
    | (with_reducible refine at_store 3 ?_; (first | refine mem_store' st 3 _ _ rfl (wanted_none rfl) _ Try.sizeOf3 ?_ | (refine mem_store' st 3 _ _ rfl (wanted_some rfl ?_) _ Try.sizeOf3 ?_; focus (simp [yielded, Act.put]; done))); refine ⟨0, _, _, _, _, _, rfl, rfl, rfl, rfl, rfl, rfl, ?_⟩; clear st; intro w4 st hw4m hw4z; simp [Act.eval, Act.put, Value.cells, putL] at st) | (with_reducible refine at_store 39 ?_; (first | refine mem_store' st 39 _ _ rfl (wanted_none rfl) _ Try.sizeOf39 ?_ | (refine mem_store' st 39 _ _ rfl (wanted_some rfl ?_) _ Try.sizeOf39 ?_; focus (simp [yielded, Act.put]; done))); refine ⟨2, _, _, _, _, _, rfl, rfl, rfl, rfl, rfl, rfl, ?_⟩; clear st; intro w5 st hw5m hw5z; simp [Act.eval, Act.put, Value.cells, putL] at st))
  refine lex_still st (by kernel_rfl) 11 rfl ?_; clear st; intro hI
  refine lex_take 0 rfl (by decide +kernel) (by first | exact wanted_none rfl | exact wanted_some rfl rfl) hI (fun W hW => by first | (go_simp; done) | (go_simp; rfl)) ?_; simp only [Act.put, List.setIfInBounds_toArray, List.set_cons_succ, List.set_cons_zero]
  refine lex_take 1 rfl (by decide +kernel) (by first | exact wanted_none rfl | exact wanted_some rfl rfl) hI (fun W hW => by first | (go_simp; done) | (go_simp; rfl)) ?_; simp only [Act.put, List.setIfInBounds_toArray, List.set_cons_succ, List.set_cons_zero]
  refine lex_take 2 rfl (by decide +kernel) (by first | exact wanted_none rfl | exact wanted_some rfl rfl) hI (fun W hW => by first | (go_simp; done) | (go_simp; rfl)) ?_; simp only [Act.put, List.setIfInBounds_toArray, List.set_cons_succ, List.set_cons_zero]
  refine lex_take 3 rfl (by decide +kernel) (by first | exact wanted_none rfl | exact wanted_some rfl rfl) hI (fun W hW => St.run_load hW 0 3 _ rfl Try.isAgg3 rfl rfl rfl) ?_; simp only [Act.put, List.setIfInBounds_toArray, List.set_cons_succ, List.set_cons_zero]
  refine lex_take 4 rfl (by decide +kernel) (by first | exact wanted_none rfl | exact wanted_some rfl rfl) hI (fun W hW => by first | (go_simp; done) | (go_simp; rfl)) ?_; simp only [Act.put, List.setIfInBounds_toArray, List.set_cons_succ, List.set_cons_zero]
  refine lex_take 5 rfl (by decide +kernel) (by first | exact wanted_none rfl | exact wanted_some rfl rfl) hI (fun W hW => by first | (go_simp; done) | (go_simp; rfl)) ?_; simp only [Act.put, List.setIfInBounds_toArray, List.set_cons_succ, List.set_cons_zero]
  refine lex_take 6 rfl (by decide +kernel) (by first | exact wanted_none rfl | exact wanted_some rfl rfl) hI (fun W hW => by first | (go_simp; done) | (go_simp; rfl)) ?_; simp only [Act.put, List.setIfInBounds_toArray, List.set_cons_succ, List.set_cons_zero]
  refine lex_take 7 rfl (by decide +kernel) (by first | exact wanted_none rfl | exact wanted_some rfl rfl) hI (fun W hW => by first | (go_simp; done) | (go_simp; rfl)) ?_; simp only [Act.put, List.setIfInBounds_toArray, List.set_cons_succ, List.set_cons_zero]
  refine lex_take 8 rfl (by decide +kernel) (by first | exact wanted_none rfl | exact wanted_some rfl rfl) hI (fun W hW => St.run_load hW 0 3 _ rfl Try.isAgg3 rfl rfl rfl) ?_; simp only [Act.put, List.setIfInBounds_toArray, List.set_cons_succ, List.set_cons_zero]
  refine lex_take 9 rfl (by decide +kernel) (by first | exact wanted_none rfl | exact wanted_some rfl rfl) hI (fun W hW => by first | (go_simp; done) | (go_simp; rfl)) ?_; simp only [Act.put, List.setIfInBounds_toArray, List.set_cons_succ, List.set_cons_zero]
  refine lex_take 10 rfl (by decide +kernel) (by first | exact wanted_none rfl | exact wanted_some rfl rfl) hI (fun W hW => by first | (go_simp; done) | (go_simp; rfl)) ?_; simp only [Act.put, List.setIfInBounds_toArray, List.set_cons_succ, List.set_cons_zero]
  refine lex_done (by decide +kernel) ?_
  have st := hI
  clear hI
  go_wp2_with (first
    | go_skip | (with_reducible refine at_load 3 ?_; (first | refine mem_load' st 3 _ rfl (wanted_none rfl) Try.isAgg3 ?_ | (refine mem_load' st 3 _ rfl (wanted_some rfl ?_) Try.isAgg3 ?_; focus (simp [yielded, Act.put]; done))); refine ⟨0, _, _, _, _, _, rfl, rfl, rfl, ?_⟩) | (with_reducible refine at_load 3 ?_; (first | refine mem_load' st 3 _ rfl (wanted_none rfl) Try.isAgg3 ?_ | (refine mem_load' st 3 _ rfl (wanted_some rfl ?_) Try.isAgg3 ?_; focus (simp [yielded, Act.put]; done))); refine ⟨1, _, _, _, _, _, rfl, rfl, rfl, ?_⟩)
    | (go_at_call 22; go_must (refine (own_first _ g (st.blk _ (List.mem_of_getElem? (i := 0) rfl)) 40).mono ?_; rintro e v3 ⟨a, k, rfl, st3, hO⟩; have sz3 := st.size; have l0 := st.ltAt (i := 0) rfl; have l2 := st.ltAt (i := 2) rfl; replace st := st.callM (i := 0) rfl st3; simp only [List.set_cons_zero] at st))
    | (with_reducible refine at_store 3 ?_; (first | refine mem_store' st 3 _ _ rfl (wanted_none rfl) _ Try.sizeOf3 ?_ | (refine mem_store' st 3 _ _ rfl (wanted_some rfl ?_) _ Try.sizeOf3 ?_; focus (simp [yielded, Act.put]; done))); refine ⟨0, _, _, _, _, _, rfl, rfl, rfl, rfl, rfl, rfl, ?_⟩; clear st; intro w4 st hw4m hw4z; simp [Act.eval, Act.put, Value.cells, putL] at st) | (with_reducible refine at_store 39 ?_; (first | refine mem_store' st 39 _ _ rfl (wanted_none rfl) _ Try.sizeOf39 ?_ | (refine mem_store' st 39 _ _ rfl (wanted_some rfl ?_) _ Try.sizeOf39 ?_; focus (simp [yielded, Act.put]; done))); refine ⟨2, _, _, _, _, _, rfl, rfl, rfl, rfl, rfl, rfl, ?_⟩; clear st; intro w5 st hw5m hw5z; simp [Act.eval, Act.put, Value.cells, putL] at st))
  have hc := fun j => st.cell (i := 2) rfl j
  refine bodyPost_ret (v := _) ?hr rfl ⟨a, k, rfl, st.sub (by simp) (by simp), (hO.move (fun b h1 h2 => (hw5m b (by omega)).trans (hw4m b (by omega))) fun _ _ h => h).le sz3⟩
  case hr => simp [results, Try.results10, go_sem, hc]; try rfl

set_option maxRecDepth 100000 in
theorem kernel_levels (ok : Nat → Prop) (w : World) (a : Option Addr) (c : Nat) (l : List Lev) (hl : l.length * 16 ≤ 140737488355328) (hR : SlR ok w 2 RLev a c l) :
    Calls Try.prog 23 #[.slice a l.length c] w fun e w' => ∃ a' c', e = .returned (.slice a' l.length c') ∧ Below w.heap.size w w' ∧ Own w.heap.size 74 w' 2 RLev a' c' l := by
  obtain ⟨i0, hi, hz0, hz1, hz2⟩ := info_parts info_Level
  go_enter Try.func23, Try.ntmps23
  go_wp2_with (first | go_skip | (at_builtin; go_must (refine wpList_copy (wanted_none rfl) _ _ 24 rfl 74 i0 _ 2 16 Try.underlying24 hi hz0 hz1 hz2 rfl (by decide) rfl rfl rfl hR hl ?_; intro a' c' w' hO hb)))
  go_ret
  exact ⟨a', c', rfl, hb, hO⟩

set_option maxRecDepth 100000 in
theorem kernel_numbers (ok : Nat → Prop) (w : World) (a : Option Addr) (c : Nat) (l : List Int) (hl : l.length * 8 ≤ 140737488355328) (hR : SlR ok w 1 RInt a c l) :
    Calls Try.prog 28 #[.slice a l.length c] w fun e w' => ∃ a' c', e = .returned (.slice a' l.length c') ∧ Below w.heap.size w w' ∧ Own w.heap.size 3 w' 1 RInt a' c' l := by
  obtain ⟨i0, hi, hz0, hz1, hz2⟩ := info_parts info_int
  go_enter Try.func28, Try.ntmps28
  go_wp2_with (first | go_skip | (at_builtin; go_must (refine wpList_copy (wanted_none rfl) _ _ 25 rfl 3 i0 _ 1 8 Try.underlying25 hi hz0 hz1 hz2 rfl (by decide) rfl rfl rfl hR hl ?_; intro a' c' w' hO hb)))
  go_ret
  exact ⟨a', c', rfl, hb, hO⟩

set_option maxRecDepth 100000 in
set_option maxHeartbeats 3000000 in
theorem thread_first (w : World) (g : Nat) (a : Option Addr) (k : Nat) (hb : w.heap[g]? = some (.cells ([.int .i64 2, .slice none 0 0, .slice none 0 0, .string ⟨#[]⟩, .slice none 0 0, .slice none 0 0, .slice none 0 0, .slice a 1 k, .string ⟨#[]⟩, .slice none 0 0, .slice none 0 0, .slice none 0 0, .slice none 0 0, .string ⟨#[]⟩, .slice none 0 0, .slice none 0 0, .slice none 0 0, .slice none 0 0, .string ⟨#[]⟩, .slice none 0 0, .slice none 0 0, .int .i64 1]).toArray 60 (0, 0))) (x : Int) (hR : SlR (fun b => b ≠ g) w 1 RInt a k [x]) :
    Calls Try.prog 13 #[.pointer (some ⟨g, 0, none⟩), .int .i64 1] w fun e w' => ∃ v a' k', e = .returned (.agg #[v, .slice a' 1 k', .string ⟨#[]⟩, .slice none 0 0, .slice none 0 0]) ∧ Below w.heap.size w w' := by
  have hlt : g < w.heap.size := (Array.getElem?_eq_some_iff.1 hb).1
  have st : St [] w w [] := St.start w
  have hg : ∀ W, Below w.heap.size w W → W.heap[g]? = some (.cells ([.int .i64 2, .slice none 0 0, .slice none 0 0, .string ⟨#[]⟩, .slice none 0 0, .slice none 0 0, .slice none 0 0, .slice a 1 k, .string ⟨#[]⟩, .slice none 0 0, .slice none 0 0, .slice none 0 0, .slice none 0 0, .string ⟨#[]⟩, .slice none 0 0, .slice none 0 0, .slice none 0 0, .slice none 0 0, .string ⟨#[]⟩, .slice none 0 0, .slice none 0 0, .int .i64 1]).toArray 60 (0, 0)) := fun W h => (h.block g hlt).trans hb
  have HL := Lib.hid (fun (W : World) => kernel_levels (fun _ => True) W none 0 [] (by simp) (SlR.nil _ _ _ _))
  have HN := Lib.hid (fun (W : World) (h : Below w.heap.size w W) => kernel_numbers (fun b => b ≠ g) W a k [x] (by simp) (hR.below h))
  have HC := Lib.hid hg
  clear hb hg
  go_enter Try.func13, Try.ntmps13
  go_wp2_with (first
    | go_skip | (with_reducible refine at_alloc 46 ?_; refine mem_alloc st (wanted_none rfl) 46 rfl _ Try.zeroValue46 _ rfl ?_; clear st; intro g1 w1 hg1 st hg1b; clear hg1b; simp [Act.eval, Act.put, Value.cells, putL] at st)
    | (with_reducible refine at_load 46 ?_; refine wpList_load_cells (wanted_none rfl) 46 _ rfl Try.isAgg46 _ Try.sizeOf46 g 6 rfl [.slice none 0 0, .slice a 1 k, .string ⟨#[]⟩, .slice none 0 0, .slice none 0 0] rfl (cells_at (HC.out _ st.below) 6 5 _ rfl rfl) ?_)
    | (with_reducible refine at_alloc 46 ?_; refine mem_alloc st (wanted_none rfl) 46 rfl _ Try.zeroValue46 _ rfl ?_; clear st; intro g2 w2 hg2 st hg2b; clear hg2b; simp [Act.eval, Act.put, Value.cells, putL] at st) | (with_reducible refine at_store 46 ?_; (first | refine mem_store' st 46 _ _ rfl (wanted_none rfl) _ Try.sizeOf46 ?_ | (refine mem_store' st 46 _ _ rfl (wanted_some rfl ?_) _ Try.sizeOf46 ?_; focus (simp [yielded, Act.put]; done))); refine ⟨1, _, _, _, _, _, rfl, rfl, rfl, rfl, rfl, rfl, ?_⟩; clear st; intro w3 st hw3m hw3z; simp [Act.eval, Act.put, Value.cells, putL] at st))
  refine lex_still st (by kernel_rfl) 11 rfl ?_; clear st; intro hI
  refine lex_take 0 rfl (by decide +kernel) (by first | exact wanted_none rfl | exact wanted_some rfl rfl) hI (fun W hW => by first | (go_simp; done) | (go_simp; rfl)) ?_; simp only [Act.put, List.setIfInBounds_toArray, List.set_cons_succ, List.set_cons_zero]
  refine lex_take 1 rfl (by decide +kernel) (by first | exact wanted_none rfl | exact wanted_some rfl rfl) hI (fun W hW => St.run_load hW 1 24 _ rfl Try.isAgg24 rfl rfl rfl) ?_; simp only [Act.put, List.setIfInBounds_toArray, List.set_cons_succ, List.set_cons_zero]
  refine lex_take 3 rfl (by decide +kernel) (by first | exact wanted_none rfl | exact wanted_some rfl rfl) hI (fun W hW => by first | (go_simp; done) | (go_simp; rfl)) ?_; simp only [Act.put, List.setIfInBounds_toArray, List.set_cons_succ, List.set_cons_zero]
  refine lex_take 4 rfl (by decide +kernel) (by first | exact wanted_none rfl | exact wanted_some rfl rfl) hI (fun W hW => St.run_load hW 1 25 _ rfl Try.isAgg25 rfl rfl rfl) ?_; simp only [Act.put, List.setIfInBounds_toArray, List.set_cons_succ, List.set_cons_zero]
  refine lex_take 6 rfl (by decide +kernel) (by first | exact wanted_none rfl | exact wanted_some rfl rfl) hI (fun W hW => by first | (go_simp; done) | (go_simp; rfl)) ?_; simp only [Act.put, List.setIfInBounds_toArray, List.set_cons_succ, List.set_cons_zero]
  refine lex_take 7 rfl (by decide +kernel) (by first | exact wanted_none rfl | exact wanted_some rfl rfl) hI (fun W hW => St.run_load hW 1 9 _ rfl Try.isAgg9 rfl rfl rfl) ?_; simp only [Act.put, List.setIfInBounds_toArray, List.set_cons_succ, List.set_cons_zero]
  have st := hI
  refine lex_each [2, 9] (by decide +kernel) (by decide) ?_; intro i hi K hK; simp only [List.mem_cons, List.not_mem_nil, or_false] at hi; rcases hi with rfl | rfl <;> refine ⟨_, rfl, (by first | exact wanted_none rfl | exact wanted_some rfl rfl), ?_⟩
  · refine wp_callee (f := 23) (by first | (go_simp; done) | (go_simp; rfl)) ?_
    refine (HL.out _).mono ?_
    rintro e v4 ⟨a4, k4, rfl, hb4, -⟩
    refine ⟨_, rfl, ?_⟩
    replace st := st.call hb4
    clear hb4
    refine hK _ _ (st.take 2) ?_; clear hK; simp only [Act.put, List.setIfInBounds_toArray, List.set_cons_succ, List.set_cons_zero]
    have hI := st.take 2
    refine lex_each [5, 9] (by decide +kernel) (by decide) ?_; intro i hi K hK; simp only [List.mem_cons, List.not_mem_nil, or_false] at hi; rcases hi with rfl | rfl <;> refine ⟨_, rfl, (by first | exact wanted_none rfl | exact wanted_some rfl rfl), ?_⟩
    · refine wp_callee (f := 28) (by first | (go_simp; done) | (go_simp; rfl)) ?_
      refine (HN.out _ st.below).mono ?_
      rintro e v5 ⟨a5, k5, rfl, hb5, -⟩
      refine ⟨_, rfl, ?_⟩
      replace st := st.call hb5
      clear hb5
      refine hK _ _ (st.take 2) ?_; clear hK; simp only [Act.put, List.setIfInBounds_toArray, List.set_cons_succ, List.set_cons_zero]
      have hI := st.take 2
      refine lex_take 8 rfl (by decide +kernel) (by first | exact wanted_none rfl | exact wanted_some rfl rfl) hI (fun W hW => by first | (go_simp; done) | (go_simp; rfl)) ?_; simp only [Act.put, List.setIfInBounds_toArray, List.set_cons_succ, List.set_cons_zero]
      refine lex_only 9 rfl (by decide +kernel) (by first | exact wanted_none rfl | exact wanted_some rfl rfl) fun K hK => ?_
      refine wp_alloc st 46 rfl _ Try.zeroValue46 _ rfl ?_; clear st; intro g6 w6 hg6 st hg6b; simp [Act.eval, Act.put, Value.cells, putL] at st
      refine hK _ _ (st.take 2) ?_; clear hK; simp only [Act.put, List.setIfInBounds_toArray, List.set_cons_succ, List.set_cons_zero]
      have hI := st.take 2
      refine lex_only 10 rfl (by decide +kernel) (by first | exact wanted_none rfl | exact wanted_some rfl rfl) fun K hK => ?_
      refine wp_store' st 46 _ _ rfl _ Try.sizeOf46 ⟨2, _, _, _, _, _, rfl, rfl, rfl, rfl, rfl, rfl, ?_⟩; clear st; intro w7 st hw7m hw7z; simp [Act.eval, Act.put, Value.cells, putL] at st
      refine hK _ _ (st.take 2) ?_; clear hK; simp only [Act.put, List.setIfInBounds_toArray, List.set_cons_succ, List.set_cons_zero]
      have hI := st.take 2
      refine lex_done (by decide +kernel) ?_
      go_wp2_with (first | go_skip | (with_reducible refine at_load 43 ?_; (first | refine mem_load' st 43 _ rfl (wanted_none rfl) Try.isAgg43 ?_ | (refine mem_load' st 43 _ rfl (wanted_some rfl ?_) Try.isAgg43 ?_; focus (simp [yielded, Act.put]; done))); refine ⟨1, _, _, _, _, _, rfl, rfl, rfl, ?_⟩))
      refine wp_loop_rounds 1 ?_
      rw [rounds_succ]
      go_wp2_with (first | go_skip | (with_reducible refine at_load 44 ?_; (first | refine mem_load' st 44 _ rfl (wanted_none rfl) Try.isAgg44 ?_ | (refine mem_load' st 44 _ rfl (wanted_some rfl ?_) Try.isAgg44 ?_; focus (simp [yielded, Act.put]; done))); refine ⟨1, _, _, _, _, _, rfl, rfl, rfl, ?_⟩))
      refine wp_loop_rounds 1 ?_
      rw [rounds_succ]
      go_wp2_with (first | go_skip | (with_reducible refine at_load 46 ?_; (first | refine mem_load_agg' st 46 _ rfl (wanted_none rfl) Try.isAgg46 _ Try.sizeOf46 ?_ | (refine mem_load_agg' st 46 _ rfl (wanted_some rfl ?_) Try.isAgg46 _ Try.sizeOf46 ?_; focus (simp [yielded, Act.put]; done))); refine ⟨2, _, _, _, _, _, rfl, rfl, rfl, rfl, ?_⟩) | (with_reducible refine at_store 46 ?_; (first | refine mem_store' st 46 _ _ rfl (wanted_none rfl) _ Try.sizeOf46 ?_ | (refine mem_store' st 46 _ _ rfl (wanted_some rfl ?_) _ Try.sizeOf46 ?_; focus (simp [yielded, Act.put]; done))); refine ⟨0, _, _, _, _, _, rfl, rfl, rfl, rfl, rfl, rfl, ?_⟩; clear st; intro w8 st hw8m hw8z; simp [Act.eval, Act.put, Value.cells, putL] at st))
      have hc := fun j => st.cell (i := 0) rfl j
      refine bodyPost_ret (v := .agg #[.slice a4 0 k4, .slice a5 1 k5, .string ⟨#[]⟩, .slice none 0 0, .slice none 0 0]) (by simp [results, Try.results13, go_sem, hc]; try rfl) rfl ⟨_, _, _, rfl, st.below⟩
    · refine wp_alloc st 46 rfl _ Try.zeroValue46 _ rfl ?_; clear st; intro g6 w6 hg6 st hg6b; simp [Act.eval, Act.put, Value.cells, putL] at st
      refine hK _ _ (st.take 2) ?_; clear hK; simp only [Act.put, List.setIfInBounds_toArray, List.set_cons_succ, List.set_cons_zero]
      have hI := st.take 2
      refine lex_only 5 rfl (by decide +kernel) (by first | exact wanted_none rfl | exact wanted_some rfl rfl) fun K hK => ?_
      refine wp_callee (f := 28) (by first | (go_simp; done) | (go_simp; rfl)) ?_
      refine (HN.out _ st.below).mono ?_
      rintro e v5 ⟨a5, k5, rfl, hb5, -⟩
      refine ⟨_, rfl, ?_⟩
      replace st := st.call hb5
      clear hb5
      refine hK _ _ (st.take 2) ?_; clear hK; simp only [Act.put, List.setIfInBounds_toArray, List.set_cons_succ, List.set_cons_zero]
      have hI := st.take 2
      refine lex_take 8 rfl (by decide +kernel) (by first | exact wanted_none rfl | exact wanted_some rfl rfl) hI (fun W hW => by first | (go_simp; done) | (go_simp; rfl)) ?_; simp only [Act.put, List.setIfInBounds_toArray, List.set_cons_succ, List.set_cons_zero]
      refine lex_only 10 rfl (by decide +kernel) (by first | exact wanted_none rfl | exact wanted_some rfl rfl) fun K hK => ?_
      refine wp_store' st 46 _ _ rfl _ Try.sizeOf46 ⟨2, _, _, _, _, _, rfl, rfl, rfl, rfl, rfl, rfl, ?_⟩; clear st; intro w7 st hw7m hw7z; simp [Act.eval, Act.put, Value.cells, putL] at st
      refine hK _ _ (st.take 2) ?_; clear hK; simp only [Act.put, List.setIfInBounds_toArray, List.set_cons_succ, List.set_cons_zero]
      have hI := st.take 2
      refine lex_done (by decide +kernel) ?_
      go_wp2_with (first | go_skip | (with_reducible refine at_load 43 ?_; (first | refine mem_load' st 43 _ rfl (wanted_none rfl) Try.isAgg43 ?_ | (refine mem_load' st 43 _ rfl (wanted_some rfl ?_) Try.isAgg43 ?_; focus (simp [yielded, Act.put]; done))); refine ⟨1, _, _, _, _, _, rfl, rfl, rfl, ?_⟩))
      refine wp_loop_rounds 1 ?_
      rw [rounds_succ]
      go_wp2_with (first | go_skip | (with_reducible refine at_load 44 ?_; (first | refine mem_load' st 44 _ rfl (wanted_none rfl) Try.isAgg44 ?_ | (refine mem_load' st 44 _ rfl (wanted_some rfl ?_) Try.isAgg44 ?_; focus (simp [yielded, Act.put]; done))); refine ⟨1, _, _, _, _, _, rfl, rfl, rfl, ?_⟩))
      refine wp_loop_rounds 1 ?_
      rw [rounds_succ]
      go_wp2_with (first | go_skip | (with_reducible refine at_load 46 ?_; (first | refine mem_load_agg' st 46 _ rfl (wanted_none rfl) Try.isAgg46 _ Try.sizeOf46 ?_ | (refine mem_load_agg' st 46 _ rfl (wanted_some rfl ?_) Try.isAgg46 _ Try.sizeOf46 ?_; focus (simp [yielded, Act.put]; done))); refine ⟨2, _, _, _, _, _, rfl, rfl, rfl, rfl, ?_⟩) | (with_reducible refine at_store 46 ?_; (first | refine mem_store' st 46 _ _ rfl (wanted_none rfl) _ Try.sizeOf46 ?_ | (refine mem_store' st 46 _ _ rfl (wanted_some rfl ?_) _ Try.sizeOf46 ?_; focus (simp [yielded, Act.put]; done))); refine ⟨0, _, _, _, _, _, rfl, rfl, rfl, rfl, rfl, rfl, ?_⟩; clear st; intro w8 st hw8m hw8z; simp [Act.eval, Act.put, Value.cells, putL] at st))
      have hc := fun j => st.cell (i := 0) rfl j
      refine bodyPost_ret (v := .agg #[.slice a4 0 k4, .slice a5 1 k5, .string ⟨#[]⟩, .slice none 0 0, .slice none 0 0]) (by simp [results, Try.results13, go_sem, hc]; try rfl) rfl ⟨_, _, _, rfl, st.below⟩
  · refine wp_alloc st 46 rfl _ Try.zeroValue46 _ rfl ?_; clear st; intro g6 w6 hg6 st hg6b; simp [Act.eval, Act.put, Value.cells, putL] at st
    refine hK _ _ (st.take 2) ?_; clear hK; simp only [Act.put, List.setIfInBounds_toArray, List.set_cons_succ, List.set_cons_zero]
    have hI := st.take 2
    refine lex_only 2 rfl (by decide +kernel) (by first | exact wanted_none rfl | exact wanted_some rfl rfl) fun K hK => ?_
    refine wp_callee (f := 23) (by first | (go_simp; done) | (go_simp; rfl)) ?_
    refine (HL.out _).mono ?_
    rintro e v4 ⟨a4, k4, rfl, hb4, -⟩
    refine ⟨_, rfl, ?_⟩
    replace st := st.call hb4
    clear hb4
    refine hK _ _ (st.take 2) ?_; clear hK; simp only [Act.put, List.setIfInBounds_toArray, List.set_cons_succ, List.set_cons_zero]
    have hI := st.take 2
    refine lex_only 5 rfl (by decide +kernel) (by first | exact wanted_none rfl | exact wanted_some rfl rfl) fun K hK => ?_
    refine wp_callee (f := 28) (by first | (go_simp; done) | (go_simp; rfl)) ?_
    refine (HN.out _ st.below).mono ?_
    rintro e v5 ⟨a5, k5, rfl, hb5, -⟩
    refine ⟨_, rfl, ?_⟩
    replace st := st.call hb5
    clear hb5
    refine hK _ _ (st.take 2) ?_; clear hK; simp only [Act.put, List.setIfInBounds_toArray, List.set_cons_succ, List.set_cons_zero]
    have hI := st.take 2
    refine lex_take 8 rfl (by decide +kernel) (by first | exact wanted_none rfl | exact wanted_some rfl rfl) hI (fun W hW => by first | (go_simp; done) | (go_simp; rfl)) ?_; simp only [Act.put, List.setIfInBounds_toArray, List.set_cons_succ, List.set_cons_zero]
    refine lex_only 10 rfl (by decide +kernel) (by first | exact wanted_none rfl | exact wanted_some rfl rfl) fun K hK => ?_
    refine wp_store' st 46 _ _ rfl _ Try.sizeOf46 ⟨2, _, _, _, _, _, rfl, rfl, rfl, rfl, rfl, rfl, ?_⟩; clear st; intro w7 st hw7m hw7z; simp [Act.eval, Act.put, Value.cells, putL] at st
    refine hK _ _ (st.take 2) ?_; clear hK; simp only [Act.put, List.setIfInBounds_toArray, List.set_cons_succ, List.set_cons_zero]
    have hI := st.take 2
    refine lex_done (by decide +kernel) ?_
    go_wp2_with (first | go_skip | (with_reducible refine at_load 43 ?_; (first | refine mem_load' st 43 _ rfl (wanted_none rfl) Try.isAgg43 ?_ | (refine mem_load' st 43 _ rfl (wanted_some rfl ?_) Try.isAgg43 ?_; focus (simp [yielded, Act.put]; done))); refine ⟨1, _, _, _, _, _, rfl, rfl, rfl, ?_⟩))
    refine wp_loop_rounds 1 ?_
    rw [rounds_succ]
    go_wp2_with (first | go_skip | (with_reducible refine at_load 44 ?_; (first | refine mem_load' st 44 _ rfl (wanted_none rfl) Try.isAgg44 ?_ | (refine mem_load' st 44 _ rfl (wanted_some rfl ?_) Try.isAgg44 ?_; focus (simp [yielded, Act.put]; done))); refine ⟨1, _, _, _, _, _, rfl, rfl, rfl, ?_⟩))
    refine wp_loop_rounds 1 ?_
    rw [rounds_succ]
    go_wp2_with (first | go_skip | (with_reducible refine at_load 46 ?_; (first | refine mem_load_agg' st 46 _ rfl (wanted_none rfl) Try.isAgg46 _ Try.sizeOf46 ?_ | (refine mem_load_agg' st 46 _ rfl (wanted_some rfl ?_) Try.isAgg46 _ Try.sizeOf46 ?_; focus (simp [yielded, Act.put]; done))); refine ⟨2, _, _, _, _, _, rfl, rfl, rfl, rfl, ?_⟩) | (with_reducible refine at_store 46 ?_; (first | refine mem_store' st 46 _ _ rfl (wanted_none rfl) _ Try.sizeOf46 ?_ | (refine mem_store' st 46 _ _ rfl (wanted_some rfl ?_) _ Try.sizeOf46 ?_; focus (simp [yielded, Act.put]; done))); refine ⟨0, _, _, _, _, _, rfl, rfl, rfl, rfl, rfl, rfl, ?_⟩; clear st; intro w8 st hw8m hw8z; simp [Act.eval, Act.put, Value.cells, putL] at st))
    have hc := fun j => st.cell (i := 0) rfl j
    refine bodyPost_ret (v := .agg #[.slice a4 0 k4, .slice a5 1 k5, .string ⟨#[]⟩, .slice none 0 0, .slice none 0 0]) (by simp [results, Try.results13, go_sem, hc]; try rfl) rfl ⟨_, _, _, rfl, st.below⟩

set_option maxRecDepth 100000 in
set_option maxHeartbeats 3000000 in
theorem calls_yes_keep (w : World) : Calls Try.prog 9 #[] w fun e w' => e = .returned (.bool true) ∧ Below w.heap.size w w' := by
  have hf1 : ∀ W : World, (Instr.field 39 (.agg #[.int .i64 0, .int .i64 40, .string ⟨#[]⟩]) 1).run Try.prog W = .ok (.int .i64 40) W := fun _ => by kernel_rfl
  have hf2 : ∀ (v : Value) (a' : Option Addr) (k' : Nat) (W : World), (Instr.field 46 (.agg #[v, .slice a' 1 k', .string ⟨#[]⟩, .slice none 0 0, .slice none 0 0]) 1).run Try.prog W = .ok (.slice a' 1 k') W := fun _ _ _ _ => by kernel_rfl
  have st := St.start w
  go_enter Try.func9, Try.ntmps9
  go_wp2_with (first
    | go_skip
    | (go_at_call 8; go_must (refine (kernel_New2 _).mono ?_; rintro e v1 ⟨g, rfl, hg, st1⟩; replace st := st.join st1; simp only [List.nil_append] at st; clear st1))
    | (go_at_call 10; go_must (have lg := st.ltAt (i := 0) rfl; refine (call_first _ g (st.blk _ (List.mem_of_getElem? (i := 0) rfl))).mono ?_; rintro e v2 ⟨a, k, rfl, st2, hO⟩; replace st := st.callM (i := 0) rfl st2; simp only [List.set_cons_zero] at st))
    | (go_at_call 13; go_must (refine (thread_first _ g a k (st.blk _ (List.mem_of_getElem? (i := 0) rfl)) 40 (hO.slr fun b hb => by omega)).mono ?_; rintro e v3 ⟨v, a', k', rfl, hb3⟩; replace st := st.call hb3; clear hb3)))
  go_ret
  exact ⟨rfl, st.below⟩

end Go.Proofs.Ytnkfemjmfalamaa

/- What is owned stays owned while blocks of other types turn. No program is in sight. -/
namespace Go.Proofs.Ytnkfemjmfalamaa
open Go.RowKit

theorem Own.turn {base : Nat} {e : TypeId} {w w' : World} {α : Type} {sz : Nat} {R : List Value → α → Prop} {a : Option Addr} {c : Nat} {xs : List α} {g : Nat} {own : Blks} (h : Own base e w sz R a c xs) (ht : St [g] w w' own) {cs : Array Value} {T : TypeId} {fr : Nat × Nat} (hg : w.heap[g]? = some (.cells cs T fr)) (hT : T ≠ e) : Own base e w' sz R a c xs := by
  have hne := h.apartT hg hT
  obtain ⟨css, h1, h2, h3, h4⟩ := h
  refine ⟨css, h1, h2, h3, h4.1, ?_⟩
  rcases h4.2 with h | ⟨k, cap, cur, hv, hk, hh, r⟩
  · exact .inl h
  · refine .inr ⟨k, cap, cur, hv, hk, ?_, r⟩
    have hkl := (Array.getElem?_eq_some_iff.1 hh).1
    rw [ht.frame k hkl (by
      simp only [Value.slice.injEq] at hv
      obtain ⟨rfl, _⟩ := hv
      simp at hne ⊢
      exact hne)]
    exact hh

theorem Own.stored {base : Nat} {e : TypeId} {w w' : World} {α : Type} {sz : Nat} {R : List Value → α → Prop} {a : Option Addr} {c : Nat} {xs : List α} {g : Nat} (h : Own base e w sz R a c xs) {cs : Array Value} {T : TypeId} {fr : Nat × Nat} (hg : w.heap[g]? = some (.cells cs T fr)) (hT : T ≠ e) (hm : ∀ b, b ≠ g → w'.heap[b]? = w.heap[b]?) : Own base e w' sz R a c xs := by
  have hne := h.apartT hg hT
  obtain ⟨css, h1, h2, h3, h4⟩ := h
  refine ⟨css, h1, h2, h3, h4.1, ?_⟩
  rcases h4.2 with h | ⟨k, cap, cur, hv, hk, hh, r⟩
  · exact .inl h
  · refine .inr ⟨k, cap, cur, hv, hk, ?_, r⟩
    rw [hm k (by
      simp only [Value.slice.injEq] at hv
      obtain ⟨rfl, _⟩ := hv
      simp at hne ⊢
      exact hne)]
    exact hh

theorem Own.through {base : Nat} {e : TypeId} {v w : World} {α : Type} {sz : Nat} {R : List Value → α → Prop} {a : Option Addr} {c : Nat} {xs : List α} {M : List Nat} {w0 : World} {own0 own : Blks} (h : Own base e v sz R a c xs) (h0 : St M w0 v own0) (st : St (own0.map (·.1)) v w own) (hT : ∀ x ∈ own0, x.2.1 ≠ e) : Own base e w sz R a c xs := by
  have hne := fun x (hx : x ∈ own0) => h.apartT (h0.blk x hx) (hT x hx)
  obtain ⟨css, h1, h2, h3, h4⟩ := h
  refine ⟨css, h1, h2, h3, h4.1, ?_⟩
  rcases h4.2 with h | ⟨k, cap, cur, hv, hk, hh, r⟩
  · exact .inl h
  · refine .inr ⟨k, cap, cur, hv, hk, ?_, r⟩
    rw [st.frame k (Array.getElem?_eq_some_iff.1 hh).1 (fun hm => by
      obtain ⟨x, hx, rfl⟩ := List.mem_map.1 hm
      simp only [Value.slice.injEq] at hv
      obtain ⟨rfl, _⟩ := hv
      exact hne x hx rfl)]
    exact hh

theorem Own.slrN {base : Nat} {e : TypeId} {w : World} {α : Type} {sz : Nat} {R : List Value → α → Prop} {a : Option Addr} {c : Nat} {xs : List α} {g : Nat} (h : Own base e w sz R a c xs) {cs : Array Value} {T : TypeId} {fr : Nat × Nat} (hg : w.heap[g]? = some (.cells cs T fr)) (hT : T ≠ e) : SlR (fun b => base ≤ b ∧ b ≠ g) w sz R a c xs := by
  have hne := h.apartT hg hT
  have s := h.slr (ok := fun b => base ≤ b) fun _ h => h
  refine ⟨s.1, s.2.1, s.2.2.1, fun i x hx => ?_⟩
  obtain ⟨b, o, cs, ha, hb, r⟩ := s.2.2.2 i x hx
  exact ⟨b, o, cs, ha, ⟨hb, fun e => hne (by rw [ha, ← e]; rfl)⟩, r⟩

end Go.Proofs.Ytnkfemjmfalamaa
