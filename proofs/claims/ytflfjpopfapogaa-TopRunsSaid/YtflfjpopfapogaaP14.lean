/- Walks and plain laws that the claim rests on, part 14. -/
import Derived.Test.YtflfjpopfapogaaP13
import Derived.Test.YtflfjpopfapogaaP6
import Derived.Lib.AppendStr
import Derived.Laws.IdiomStrings
import Derived.Test.YtflfjpopfapogaaP3
import Derived.Test.YtflfjpopfapogaaP9
import Derived.LoopN
set_option linter.unusedSimpArgs false
set_option linter.unusedVariables false
/- Plain laws of Decode, third part: the whole frame. No program is in sight. -/
namespace Go.Proofs.Ytflfjpopfapogaa
abbrev zeroF : Frame := ⟨0, 0, 0, false, 0, ⟨0, 0, [], [], ⟨#[]⟩⟩, []⟩
def ackFrame (h : Int × Int × Int × Int) (k : Bool) : Frame := ⟨h.2.1, h.2.2.1, h.2.2.2, k, 0, ⟨0, 0, [], [], ⟨#[]⟩⟩, []⟩
def mailFrame (h : Int × Int × Int × Int) (k : Bool) (b : Body) : Frame := ⟨h.2.1, h.2.2.1, h.2.2.2, k, b.thread, ⟨h.2.1, b.mthread, b.label, b.grants, ⟨b.text.toArray⟩⟩, b.certs⟩
def codeT (s : List UInt8) : Tk := if (tkHead (false, s)).1.1 = 0 then (tkBody (tkHead (false, s)).2).2 else (tkHead (false, s)).2
def codeF (s : List UInt8) : Frame :=
 if (tkHead (false, s)).1.1 = 0 then mailFrame (tkHead (false, s)).1 false (tkBody (tkHead (false, s)).2).1 else ackFrame (tkHead (false, s)).1 (decide ((tkHead (false, s)).1.1 = 1))
def codeR (s : List UInt8) : Frame × Int :=
 if (codeT s).1 = true ∨ (codeT s).2 ≠ [] ∨ 1 < (tkHead (false, s)).1.1 then (zeroF, 1) else if goodFrameC (codeF s) ≠ 0 then (zeroF, goodFrameC (codeF s)) else (codeF s, 0)
def pFrame : Rd Frame := fun s => (pHead s).bind fun h => if h.1.1 = 0 then (pBody h.2).bind fun b => some (mailFrame h.1 false b.1, b.2) else if h.1.1 = 1 then some (ackFrame h.1 true, h.2) else none
def decR (s : List UInt8) : Frame × Int :=
 match pFrame s with
 | some (f, []) => if goodFrameC f = 0 then (f, 0) else (zeroF, goodFrameC f)
 | _ => (zeroF, 1)
theorem decR_some {s : List UInt8} {f : Frame} (h : pFrame s = some (f, [])) : decR s = if goodFrameC f = 0 then (f, 0) else (zeroF, goodFrameC f) := by unfold decR; rw [h]
theorem decR_more {s : List UInt8} {f : Frame} {c : UInt8} {r : List UInt8} (h : pFrame s = some (f, c :: r)) : decR s = (zeroF, 1) := by unfold decR; rw [h]
theorem decR_none {s : List UInt8} (h : pFrame s = none) : decR s = (zeroF, 1) := by unfold decR; rw [h]
theorem codeR_eq (s : List UInt8) : codeR s = decR s := by
 rcases sim_head.cases s with ⟨h, q, e1, e2⟩ | ⟨e1, e2⟩
 ·have hk := (code_head.unp s h q e1).2.1.1
  by_cases h0 : h.1 = 0
  ·rcases sim_body.cases q with ⟨b, r, e3, e4⟩ | ⟨e3, e4⟩
   ·have ep : pFrame s = some (mailFrame h false b, r) := by unfold pFrame; rw [e1]; simp only [Option.bind_some]; rw [if_pos h0, e3]; rfl
    have ec : codeT s = (false, r) := by unfold codeT; rw [e2]; simp only; rw [if_pos h0, e4]
    have ef : codeF s = mailFrame h false b := by unfold codeF; rw [e2]; simp only; rw [if_pos h0, e4]
    unfold codeR
    rw [ec, ef, e2]
    simp only [h0]
    cases r with
    | nil =>
     rw [decR_some ep, if_neg (by simp)]
     by_cases hg : goodFrameC (mailFrame h false b) = 0
     ·rw [if_neg (by simpa using hg), if_pos hg]
     ·rw [if_pos hg, if_neg hg]
    | cons c r => rw [decR_more ep, if_pos (by simp)]
   ·have ep : pFrame s = none := by unfold pFrame; rw [e1]; simp only [Option.bind_some]; rw [if_pos h0, e3]; rfl
    have ec : (codeT s).1 = true := by unfold codeT; rw [e2]; simp only; rw [if_pos h0]; exact e4
    unfold codeR
    rw [if_pos (.inl ec), decR_none ep]
  ·have ec : codeT s = (false, q) := by unfold codeT; rw [e2]; simp only; rw [if_neg h0]
   by_cases h1 : h.1 = 1
   ·have ep : pFrame s = some (ackFrame h true, q) := by unfold pFrame; rw [e1]; simp only [Option.bind_some]; rw [if_neg h0, if_pos h1]
    have ef : codeF s = ackFrame h true := by unfold codeF; rw [e2]; simp only; rw [if_neg h0, h1]; rfl
    unfold codeR
    rw [ec, ef, e2]
    simp only [h1]
    cases q with
    | nil =>
     rw [decR_some ep, if_neg (by simp)]
     by_cases hg : goodFrameC (ackFrame h true) = 0
     ·rw [if_neg (by simpa using hg), if_pos hg]
     ·rw [if_pos hg, if_neg hg]
    | cons c r => rw [decR_more ep, if_pos (by simp)]
   ·have ep : pFrame s = none := by unfold pFrame; rw [e1]; simp only [Option.bind_some]; rw [if_neg h0, if_neg h1]
    unfold codeR
    rw [e2, decR_none ep, if_pos (.inr (.inr (by simp only; omega)))]
 ·have ep : pFrame s = none := by unfold pFrame; rw [e1]; rfl
  have ec : (codeT s).1 = true := by
   unfold codeT
   split
   ·exact sim_body.bad _ e2
   ·exact e2
  unfold codeR
  rw [if_pos (.inl ec), decR_none ep]
theorem pFrame_unp {s : List UInt8} {f : Frame} {r : List UInt8} (h : pFrame s = some (f, r)) : s = encL f ++ r := by
 unfold pFrame at h
 cases hh : pHead s with
 | none => rw [hh] at h; cases h
 | some a =>
  rw [hh] at h
  simp only [Option.bind_some] at h
  obtain ⟨e1, e2⟩ := code_head.unp s a.1 a.2 hh
  by_cases h0 : a.1.1 = 0
  ·rw [if_pos h0] at h
   cases hb : pBody a.2 with
   | none => rw [hb] at h; cases h
   | some b =>
    rw [hb] at h
    simp only [Option.bind_some, Option.some.injEq, Prod.mk.injEq] at h
    obtain ⟨rfl, rfl⟩ := h
    obtain ⟨e3, e4⟩ := code_body.unp a.2 b.1 b.2 hb
    rw [e1, e3, h0]
    have ets : (⟨b.1.text.toArray⟩ : ByteArray).size = b.1.text.length := by show b.1.text.toArray.size = _; simp
    unfold encL
    rw [if_neg (by simp [mailFrame])]
    simp [mailFrame, headBytes, mailBytes, bodyBytes, b1, byteAt, ets]
  ·rw [if_neg h0] at h
   by_cases h1 : a.1.1 = 1
   ·rw [if_pos h1] at h
    simp only [Option.some.injEq, Prod.mk.injEq] at h
    obtain ⟨rfl, rfl⟩ := h
    rw [e1, h1]
    unfold encL
    rw [if_pos (by simp [ackFrame])]
    simp [ackFrame, headBytes, b1, byteAt]
   ·rw [if_neg h1] at h; cases h
theorem dec_only {s : List UInt8} {f : Frame} (h : decR s = (f, 0)) : s = encL f ∧ goodFrameC f = 0 := by
 cases hp : pFrame s with
 | none => rw [decR_none hp] at h; simp at h
 | some a =>
  obtain ⟨g, r⟩ := a
  cases r with
  | cons c r => rw [decR_more hp] at h; simp at h
  | nil =>
   rw [decR_some hp] at h
   by_cases hg : goodFrameC g = 0
   ·rw [if_pos hg] at h
    simp only [Prod.mk.injEq, and_true] at h
    subst h
    have := pFrame_unp hp
    rw [List.append_nil] at this
    exact ⟨this, hg⟩
   ·rw [if_neg hg] at h
    simp only [Prod.mk.injEq] at h
    exact absurd h.2 hg
def chunks (size : Nat) : Nat → List UInt8 → List (List UInt8)
 | 0, _ => []
 | n + 1, t => t.take size :: chunks size n (t.drop size)
def pRows (size : Nat) : Rd (List (List UInt8)) := fun s =>
 match s with
 | [] => none
 | c :: t => if t.length < c.toNat * size then none else some (chunks size c.toNat t, t.drop (c.toNat * size))
def dLev (x : List UInt8) : Lev := ⟨numOf (x.take 1), numOf ((x.drop 1).take 1)⟩
def dNum (x : List UInt8) : Int := numOf (x.take 1)
def dCert (x : List UInt8) : Cert := ⟨numOf (x.take 1), numOf ((x.drop 1).take 1), numOf ((x.drop 2).take 1), numOf ((x.drop 3).take 6)⟩
def refBody : Rd Body := fun s =>
 (pNum 1 s).bind fun a => (pNum 1 a.2).bind fun b => (pRows 2 b.2).bind fun l => (pRows 1 l.2).bind fun g => (pRows 1 g.2).bind fun x => (pRows 9 x.2).bind fun c => some (⟨a.1, b.1, l.1.map dLev, g.1.map dNum, x.1.flatten, c.1.map dCert⟩, c.2)
open Go.RowKit
theorem Own.apartT {base : Nat} {e : TypeId} {w : World} {α : Type} {sz : Nat} {R : List Value → α → Prop} {a : Option Addr} {c : Nat} {xs : List α} (h : Own base e w sz R a c xs) {g : Nat} {cs : Array Value} {T : TypeId} {fr : Nat × Nat} (hb : w.heap[g]? = some (.cells cs T fr)) (hT : T ≠ e) : a.map (·.block) ≠ some g := by
 obtain ⟨css, _, _, _, h4⟩ := h
 intro he
 rcases h4.2 with ⟨hv, _⟩ | ⟨g', cap, cur, hv, _, hh, _⟩
 ·simp only [Value.slice.injEq] at hv
  obtain ⟨rfl, _⟩ := hv
  simp at he
 ·simp only [Value.slice.injEq] at hv
  obtain ⟨rfl, _⟩ := hv
  simp at he
  subst he
  rw [hb] at hh
  simp at hh
  exact hT hh.2.1
theorem St.buf {w0 wx w' : World} {own : Blks} {base : Nat} {e : TypeId} {α : Type} {sz : Nat} {R : List Value → α → Prop} {a : Option Addr} {c : Nat} {xs : List α} (st : St [] w0 wx own) (hO : Own base e wx sz R a c xs) (hb : w0.heap.size ≤ base) (hg : wx.grownBy w' (a.map (·.block))) (hT : ∀ x ∈ own, x.2.1 ≠ e) : St [] w0 w' own := by
 obtain ⟨css, h1, h2, h3, h4⟩ := id hO
 refine ⟨hg.os.trans st.os, hg.tape.trans st.tape, hg.output.trans st.output, Nat.le_trans st.size hg.size, fun b hb' _ => ?_, fun x hx => ?_, st.mine, st.ne⟩
 ·rw [hg.block b (Nat.lt_of_lt_of_le hb' st.size) fun e => ?_]
  ·exact st.frame b hb' (by simp)
  ·have := (hO.blockLt b e.symm).1
   omega
 ·rw [hg.block x.1 (st.lt hx) fun e => hO.apartT (st.blk x hx) (hT x hx) e.symm]
  exact st.blk x hx
theorem wpList_buildU3 {P : Program} {w0 w : World} {M : List Nat} {own : Blks} {ops : Array Oper} {rest : List Oper} {o : Oper} {A : Act} {Q : Exit → Act → World → Prop} (st : St M w0 w own) (hgd : Region.wanted o (yielded ops A.tmps) = true) (T T' : TypeId) (x0 x1 x2 : Operand) (ho : o.op = .buildSlice T 3 #[(0, x0), (1, x1), (2, x2)]) (ht : P.underlying T = some (.slice T')) (hsz : ∀ w, (sizeOf T').run P w = .ok 1 w) (hz : ∀ w, (zeroValue T').run P w = .ok (.int .u8 0) w) (n0 n1 n2 : Int) (hx0 : A.eval x0 = .int .u8 n0) (hx1 : A.eval x1 = .int .u8 n1) (hx2 : A.eval x2 = .int .u8 n2)
  (h : ∀ g w', w0.heap.size ≤ g → g = w.heap.size → St M w0 w' (own ++ [(g, T', [.int .u8 n0, .int .u8 n1, .int .u8 n2])]) → Below w.heap.size w w' → w'.heap.size = w.heap.size + 1 → wpList P ops Q rest (A.put o.dst (.slice (some ⟨g, 0, none⟩) 3 3)) w') : wpList P ops Q (o :: rest) A w := by
 refine wpList_wanted hgd fun K hK => ?_
 have hs := st.new T' [.int .u8 n0, .int .u8 n1, .int .u8 n2]
 have h2 := hK _ _ (h w.heap.size _ st.size rfl hs ((Below.refl _ _).alloc (Nat.le_refl _) _) (by simp))
 unfold Oper.wp
 simp [execOp, ho, Instr.buildSlice, run_underlying ht, hsz, hz, newRow, newObj, hx0, hx1, hx2, Instr.fill, Value.cells, Array.range, Result.andThen] at h2 ⊢
 exact h2
def byteV (b : UInt8) : Value := .int .u8 b.toNat
theorem byteV_eq {x : Int} (h0 : 0 ≤ x) (h1 : x < 256) : Value.int .u8 x = byteV (byteAt x 0) := by
 unfold byteV
 rw [byteAt_int h0]
 simp
 omega
theorem bytes_rows (xs : List UInt8) : (xs.map fun b => [byteV b]).flatten = xs.map byteV := by
 induction xs with
 | nil => rfl
 | cons x xs ih => simp [ih]
theorem SlR.bytes {ok : Nat → Prop} {w : World} {g : Nat} {e : TypeId} {cs : List Value} (xs : List UInt8) (hg : w.heap[g]? = some (.cells cs.toArray e (0, 0))) (hcs : cs = xs.map byteV) (ho : ok g) (hm : xs.length ≤ maxLen) : SlR ok w 1 RU8 (some ⟨g, 0, none⟩) xs.length xs := by
 refine ⟨Nat.le_refl _, hm, by simp, fun i y hy => ?_⟩
 have hi := (List.getElem?_eq_some_iff.1 hy).1
 refine ⟨g, 0, [byteV y], rfl, ho, (Array.getElem?_eq_some_iff.1 hg).1, rfl, rfl, by simp [byteV, Value.oneCell'], fun j v hv => ?_⟩
 have hj : j = 0 := by have := (List.getElem?_eq_some_iff.1 hv).1; simp at this; exact this
 subst hj
 simp at hv
 subst hv
 rw [cell_of_row w g _ cs.toArray e (0, 0) hg]
 simp [hcs, hy]
theorem Own.ofBytes {base : Nat} {w : World} {e : TypeId} {a : Option Addr} {c : Nat} {xs : List UInt8} (h : w.ownsRow base e 1 (.slice a xs.length c) xs.length (xs.map byteV)) : Own base e w 1 RU8 a c xs := by
 refine ⟨xs.map fun b => [byteV b], by simp, ?_, fun i x cs hx hc => ?_, ?_⟩
 ·intro cs hcs
  obtain ⟨b, _, rfl⟩ := List.mem_map.1 hcs
  simp [byteV, Value.oneCell']
 ·simp only [List.getElem?_map, hx, Option.map_some, Option.some.injEq] at hc
  exact hc.symm
 ·rw [bytes_rows]
  exact h
theorem Own.toBytes {base : Nat} {w : World} {e : TypeId} {a : Option Addr} {c : Nat} {xs : List UInt8} (h : Own base e w 1 RU8 a c xs) : w.ownsRow base e 1 (.slice a xs.length c) xs.length (xs.map byteV) := by
 obtain ⟨css, h1, h2, h3, h4⟩ := h
 have e1 : css = xs.map fun b => [byteV b] := by
  apply List.ext_getElem?
  intro i
  by_cases hi : i < xs.length
  ·have := h3 i xs[i] css[i] (by simp [hi]) (by simp [h1, hi])
   simp only [List.getElem?_map]
   rw [List.getElem?_eq_getElem (by omega), List.getElem?_eq_getElem hi, this]
   rfl
  ·simp [hi, h1, Nat.not_lt.1 hi]
 rw [e1, bytes_rows] at h4
 exact h4
theorem Own.bytesBlk {base : Nat} {w : World} {e : TypeId} {cs : List Value} {g : Nat} (xs : List UInt8) (hg : w.heap[g]? = some (.cells cs.toArray e (0, 0))) (hcs : cs = xs.map byteV) (hb : base ≤ g) (hm : xs.length ≤ maxLen) : Own base e w 1 RU8 (some ⟨g, 0, none⟩) xs.length xs :=
 Own.ofBytes ⟨by simp, .inr ⟨g, xs.length, cs.toArray, rfl, hb, hg, Nat.le_refl _, hm, by simp [hcs], by rw [hcs]; exact List.take_of_length_le (by simp)⟩⟩
theorem Own.byteFree {base : Nat} {e : TypeId} {w : World} {g c : Nat} {xs : List UInt8} (h : Own base e w 1 RU8 (some ⟨g, 0, none⟩) c xs) (j : Nat) : w.frozen? ⟨g, j, none⟩ = false := World.ownsRow.frozenAt h.toBytes j
theorem Own.byteCell {base : Nat} {e : TypeId} {w : World} {g c : Nat} {xs : List UInt8} (h : Own base e w 1 RU8 (some ⟨g, 0, none⟩) c xs) (j : Nat) (hj : j < xs.length) : w.cell? ((⟨g, 0, none⟩ : Addr).add j) = some (.int .u8 (xs[j].toNat : Int)) := by
 obtain ⟨b, o, cs, ha, _, _, hr, _, _, hc⟩ := (h.slr (ok := fun _ => True) fun _ _ => trivial).2.2.2 j xs[j] (by simp [hj])
 simp at ha
 obtain ⟨rfl, rfl⟩ := ha
 rw [hr] at hc
 have := hc 0 _ rfl
 simpa [add_plain] using this
theorem Own.string {P : Program} {base : Nat} {e : TypeId} {w : World} {g c : Nat} {xs : List UInt8} (h : Own base e w 1 RU8 (some ⟨g, 0, none⟩) c xs) (src dst e' : TypeId) (hs : P.underlying src = some (.slice e')) (he : P.underlying e' = some (.int .u8)) (hd : P.underlying dst = some .string) :
  (convert src dst (.slice (some ⟨g, 0, none⟩) xs.length c)).run P w = .ok (.string ⟨xs.toArray⟩) w :=
 run_convert_bytes_back (P := P) w src dst e' ⟨g, 0, none⟩ c xs hs he hd fun j hj => h.byteCell j hj
theorem Own.set {base : Nat} {e : TypeId} {w : World} {g c : Nat} {xs : List UInt8} (h : Own base e w 1 RU8 (some ⟨g, 0, none⟩) c xs) (j : Nat) (y : UInt8) : Own base e (w.setCell ⟨g, j, none⟩ (byteV y)) 1 RU8 (some ⟨g, 0, none⟩) c (xs.set j y) ∧ w.grownBy (w.setCell ⟨g, j, none⟩ (byteV y)) (some g) := by
 obtain ⟨s1, s2⟩ := World.ownsRow.stored h.toBytes j (byteV y)
 exact ⟨Own.ofBytes (by simpa [List.map_set] using s1), s2⟩
theorem strCells_bytes (s : ByteArray) : Lib.strCells s = s.data.toList.map byteV := by
 simp [Lib.strCells, byteV]
open Go.RowKit
set_option maxRecDepth 100000 in
theorem kernel_levels (ok : Nat → Prop) (w : World) (a : Option Addr) (c : Nat) (l : List Lev) (hl : l.length * 16 ≤ 140737488355328) (hR : SlR ok w 2 RLev a c l) :
  Calls Try.prog 27 #[.slice a l.length c] w fun e w' => ∃ a' c', e = .returned (.slice a' l.length c') ∧ Below w.heap.size w w' ∧ Own w.heap.size 91 w' 2 RLev a' c' l := by
 obtain ⟨i0, hi, hz0, hz1, hz2⟩ := info_parts info_Level
 go_enter Try.func27, Try.ntmps27
 go_wp2_with (first | go_skip | (at_builtin; go_must (refine wpList_copy (wanted_none rfl) _ _ 24 rfl 91 i0 _ 2 16 Try.underlying24 hi hz0 hz1 hz2 rfl (by decide) rfl rfl rfl hR hl ?_; intro a' c' w' hO hb)))
 go_ret
 exact ⟨a', c', rfl, hb, hO⟩
set_option maxRecDepth 100000 in
theorem kernel_numbers (ok : Nat → Prop) (w : World) (a : Option Addr) (c : Nat) (l : List Int) (hl : l.length * 8 ≤ 140737488355328) (hR : SlR ok w 1 RInt a c l) :
  Calls Try.prog 28 #[.slice a l.length c] w fun e w' => ∃ a' c', e = .returned (.slice a' l.length c') ∧ Below w.heap.size w w' ∧ Own w.heap.size 3 w' 1 RInt a' c' l := by
 obtain ⟨i0, hi, hz0, hz1, hz2⟩ := info_parts info_int
 go_enter Try.func28, Try.ntmps28
 go_wp2_with (first | go_skip | (at_builtin; go_must (refine wpList_copy (wanted_none rfl) _ _ 25 rfl 3 i0 _ 1 8 Try.underlying25 hi hz0 hz1 hz2 rfl (by decide) rfl rfl rfl hR hl ?_; intro a' c' w' hO hb)))
 go_ret
 exact ⟨a', c', rfl, hb, hO⟩
open Go.RowKit
theorem Own.turn {base : Nat} {e : TypeId} {w w' : World} {α : Type} {sz : Nat} {R : List Value → α → Prop} {a : Option Addr} {c : Nat} {xs : List α} {g : Nat} {own : Blks} (h : Own base e w sz R a c xs) (ht : St [g] w w' own) {cs : Array Value} {T : TypeId} {fr : Nat × Nat} (hg : w.heap[g]? = some (.cells cs T fr)) (hT : T ≠ e) : Own base e w' sz R a c xs := by
 have hne := h.apartT hg hT
 obtain ⟨css, h1, h2, h3, h4⟩ := h
 refine ⟨css, h1, h2, h3, h4.1, ?_⟩
 rcases h4.2 with h | ⟨k, cap, cur, hv, hk, hh, r⟩
 ·exact .inl h
 ·refine .inr ⟨k, cap, cur, hv, hk, ?_, r⟩
  have hkl := (Array.getElem?_eq_some_iff.1 hh).1
  rw [ht.frame k hkl (by
   simp only [Value.slice.injEq] at hv
   obtain ⟨rfl, _⟩ := hv
   simp at hne ⊢
   exact hne)]
  exact hh
theorem Own.stored {base : Nat} {e : TypeId} {w w' : World} {α : Type} {sz : Nat} {R : List Value → α → Prop} {a : Option Addr} {c : Nat} {xs : List α} {g : Nat} (h : Own base e w sz R a c xs) {cs : Array Value} {T : TypeId} {fr : Nat × Nat} (hg : w.heap[g]? = some (.cells cs T fr)) (hT : T ≠ e) (hm : ∀ b, b ≠ g → w'.heap[b]? = w.heap[b]?) : Own base e w' sz R a c xs := by
 have hne := h.apartT hg hT
 obtain ⟨css, h1, h2, h3, h4⟩ := h
 refine ⟨css, h1, h2, h3, h4.1, ?_⟩
 rcases h4.2 with h | ⟨k, cap, cur, hv, hk, hh, r⟩
 ·exact .inl h
 ·refine .inr ⟨k, cap, cur, hv, hk, ?_, r⟩
  rw [hm k (by
   simp only [Value.slice.injEq] at hv
   obtain ⟨rfl, _⟩ := hv
   simp at hne ⊢
   exact hne)]
  exact hh
theorem Own.through {base : Nat} {e : TypeId} {v w : World} {α : Type} {sz : Nat} {R : List Value → α → Prop} {a : Option Addr} {c : Nat} {xs : List α} {M : List Nat} {w0 : World} {own0 own : Blks} (h : Own base e v sz R a c xs) (h0 : St M w0 v own0) (st : St (own0.map (·.1)) v w own) (hT : ∀ x ∈ own0, x.2.1 ≠ e) : Own base e w sz R a c xs := by
 have hne := fun x (hx : x ∈ own0) => h.apartT (h0.blk x hx) (hT x hx)
 obtain ⟨css, h1, h2, h3, h4⟩ := h
 refine ⟨css, h1, h2, h3, h4.1, ?_⟩
 rcases h4.2 with h | ⟨k, cap, cur, hv, hk, hh, r⟩
 ·exact .inl h
 ·refine .inr ⟨k, cap, cur, hv, hk, ?_, r⟩
  rw [st.frame k (Array.getElem?_eq_some_iff.1 hh).1 (fun hm => by
   obtain ⟨x, hx, rfl⟩ := List.mem_map.1 hm
   simp only [Value.slice.injEq] at hv
   obtain ⟨rfl, _⟩ := hv
   exact hne x hx rfl)]
  exact hh
theorem Own.slrN {base : Nat} {e : TypeId} {w : World} {α : Type} {sz : Nat} {R : List Value → α → Prop} {a : Option Addr} {c : Nat} {xs : List α} {g : Nat} (h : Own base e w sz R a c xs) {cs : Array Value} {T : TypeId} {fr : Nat × Nat} (hg : w.heap[g]? = some (.cells cs T fr)) (hT : T ≠ e) : SlR (fun b => base ≤ b ∧ b ≠ g) w sz R a c xs := by
 have hne := h.apartT hg hT
 have s := h.slr (ok := fun b => base ≤ b) fun _ h => h
 refine ⟨s.1, s.2.1, s.2.2.1, fun i x hx => ?_⟩
 obtain ⟨b, o, cs, ha, hb, r⟩ := s.2.2.2 i x hx
 exact ⟨b, o, cs, ha, ⟨hb, fun e => hne (by rw [ha, ← e]; rfl)⟩, r⟩
open Go.RowKit
abbrev by1 (x : Int) : UInt8 := byteAt x 0
theorem Own.isSome {base : Nat} {e : TypeId} {w : World} {α : Type} {sz : Nat} {R : List Value → α → Prop} {a : Option Addr} {c : Nat} {xs : List α} (h : Own base e w sz R a c xs) (hx : xs ≠ []) : ∃ g, a = some ⟨g, 0, none⟩ := by
 obtain ⟨css, _, _, _, h4⟩ := h
 rcases h4.2 with ⟨_, hn⟩ | ⟨g, cap, cur, hv, _⟩
 ·exact absurd (List.eq_nil_of_length_eq_zero hn) hx
 ·simp only [Value.slice.injEq] at hv
  exact ⟨g, hv.1⟩
section
variable {P : Program} {w : World} {ops : Array Oper} {rest : List Oper} {o : Oper} {A : Act} {Q : Exit → Act → World → Prop} {K : Act → World → Prop}
theorem bytes_new {w : World} {T : TypeId} {cs : List Value} (xs : List UInt8) (h : cs = xs.map byteV) (hm : xs.length ≤ maxLen) : SlR (fun _ => True) (w.alloc (.cells cs.toArray T)) 1 RU8 (some ⟨w.heap.size, 0, none⟩) xs.length xs :=
 SlR.bytes xs (heap_alloc_new w _) h trivial hm
theorem wp_bytes1 (T T' : TypeId) (x0 : Operand) (ho : o.op = .buildSlice T 1 #[(0, x0)]) (ht : P.underlying T = some (.slice T')) (hsz : ∀ w, (sizeOf T').run P w = .ok 1 w) (hz : ∀ w, (zeroValue T').run P w = .ok (.int .u8 0) w) (n0 : Int) (hx0 : A.eval x0 = .int .u8 n0) (h0 : 0 ≤ n0 ∧ n0 < 256)
  (h : ∀ g w', SlR (fun _ => True) w' 1 RU8 (some ⟨g, 0, none⟩) 1 [by1 n0] → Below w.heap.size w w' → K (A.put o.dst (.slice (some ⟨g, 0, none⟩) 1 1)) w') : Oper.wp P o A w K Q := by
 have h2 := h w.heap.size _ (bytes_new (w := w) (T := T') [by1 n0] (cs := [.int .u8 n0]) (by simp [byteV_eq h0.1 h0.2]) (by simp [maxLen])) ((Below.refl _ _).alloc (Nat.le_refl _) _)
 unfold Oper.wp
 simp [execOp, ho, Instr.buildSlice, run_underlying ht, hsz, hz, newRow, newObj, hx0, Instr.fill, Value.cells, Array.range, Result.andThen] at h2 ⊢
 exact h2
theorem wp_bytes2 (T T' : TypeId) (x0 x1 : Operand) (ho : o.op = .buildSlice T 2 #[(0, x0), (1, x1)]) (ht : P.underlying T = some (.slice T')) (hsz : ∀ w, (sizeOf T').run P w = .ok 1 w) (hz : ∀ w, (zeroValue T').run P w = .ok (.int .u8 0) w) (n0 n1 : Int) (hx0 : A.eval x0 = .int .u8 n0) (h0 : 0 ≤ n0 ∧ n0 < 256) (hx1 : A.eval x1 = .int .u8 n1) (h1 : 0 ≤ n1 ∧ n1 < 256)
  (h : ∀ g w', SlR (fun _ => True) w' 1 RU8 (some ⟨g, 0, none⟩) 2 [by1 n0, by1 n1] → Below w.heap.size w w' → K (A.put o.dst (.slice (some ⟨g, 0, none⟩) 2 2)) w') : Oper.wp P o A w K Q := by
 have h2 := h w.heap.size _ (bytes_new (w := w) (T := T') [by1 n0, by1 n1] (cs := [.int .u8 n0, .int .u8 n1]) (by simp [byteV_eq h0.1 h0.2, byteV_eq h1.1 h1.2]) (by simp [maxLen])) ((Below.refl _ _).alloc (Nat.le_refl _) _)
 unfold Oper.wp
 simp [execOp, ho, Instr.buildSlice, run_underlying ht, hsz, hz, newRow, newObj, hx0, hx1, Instr.fill, Value.cells, Array.range, Result.andThen] at h2 ⊢
 exact h2
theorem wp_bytes3 (T T' : TypeId) (x0 x1 x2 : Operand) (ho : o.op = .buildSlice T 3 #[(0, x0), (1, x1), (2, x2)]) (ht : P.underlying T = some (.slice T')) (hsz : ∀ w, (sizeOf T').run P w = .ok 1 w) (hz : ∀ w, (zeroValue T').run P w = .ok (.int .u8 0) w) (n0 n1 n2 : Int) (hx0 : A.eval x0 = .int .u8 n0) (h0 : 0 ≤ n0 ∧ n0 < 256) (hx1 : A.eval x1 = .int .u8 n1) (h1 : 0 ≤ n1 ∧ n1 < 256) (hx2 : A.eval x2 = .int .u8 n2) (h2' : 0 ≤ n2 ∧ n2 < 256)
  (h : ∀ g w', SlR (fun _ => True) w' 1 RU8 (some ⟨g, 0, none⟩) 3 [by1 n0, by1 n1, by1 n2] → Below w.heap.size w w' → K (A.put o.dst (.slice (some ⟨g, 0, none⟩) 3 3)) w') : Oper.wp P o A w K Q := by
 have h2 := h w.heap.size _ (bytes_new (w := w) (T := T') [by1 n0, by1 n1, by1 n2] (cs := [.int .u8 n0, .int .u8 n1, .int .u8 n2]) (by simp [byteV_eq h0.1 h0.2, byteV_eq h1.1 h1.2, byteV_eq h2'.1 h2'.2]) (by simp [maxLen])) ((Below.refl _ _).alloc (Nat.le_refl _) _)
 unfold Oper.wp
 simp [execOp, ho, Instr.buildSlice, run_underlying ht, hsz, hz, newRow, newObj, hx0, hx1, hx2, Instr.fill, Value.cells, Array.range, Result.andThen] at h2 ⊢
 exact h2
theorem at_buildU {P : Program} {ops : Array Oper} {Q : Exit → Act → World → Prop} {rest : List Oper} {A : Act} {w : World} {d : Option Tmp} {ty : TypeId} {p : String} {af : Array Edge} {g : Option (Nat × Bool)} {n : Nat} {xs : Array (Nat × Operand)} (T : TypeId)
  (h : wpList P ops Q (⟨d, .buildSlice T n xs, ty, p, af, g⟩ :: rest) A w) : wpList P ops Q (⟨d, .buildSlice T n xs, ty, p, af, g⟩ :: rest) A w := h
theorem wp_appStr (hgd : o.guard = none) (sl x : Operand) (t u : TypeId)
  (ho : o.op = .call { callee := .builtin .append, args := #[sl, x], argTypes := #[t, u] })
  (base : Nat) (e : TypeId) (i : TypeInfo) (ht : P.underlying t = some (.slice e)) (hu : P.underlying u = some .string) (hi : P.info? e = some i) (hz : i.zero = some (.int .u8 0)) (hsize : i.size = 1) (hby : i.bytes = 1)
  {a : Option Addr} {c n : Nat} {xs : List UInt8} (hs : A.eval sl = .slice a n c) (hn : n = xs.length) (hO : Own base e w 1 RU8 a c xs) (s : ByteArray) (hx : A.eval x = .string s) (hl : xs.length + s.size ≤ 140737488355328) (hbase : base ≤ w.heap.size)
  (h : ∀ a' c' w', Own base e w' 1 RU8 a' c' (xs ++ s.data.toList) → w.grownBy w' (a.map (·.block)) → K (A.put o.dst (.slice a' (n + s.size) c')) w') : Oper.wp P o A w K Q := by
 subst hn
 have hob : (Value.slice a xs.length c).ownBlock = a.map (·.block) := by cases a <;> rfl
 obtain ⟨v', w', hr, g1, g2, _⟩ := Lib.run_append_own_string (P := P) w base t u o.type e i ht hu hi hz hsize hby _ xs.length _ hO.toBytes s (by unfold maxLen; omega) hl hbase
 rw [strCells_bytes, ← List.map_append] at g1
 rw [hob] at g2
 have hsz : s.data.toList.length = s.size := by rw [Array.length_toList]; rfl
 have hl2 : xs.length + s.size = (xs ++ s.data.toList).length := by rw [List.length_append, hsz]
 rw [hl2] at g1
 have key : ∀ a' c', v' = .slice a' (xs.length + s.size) c' → Own base e w' 1 RU8 a' c' (xs ++ s.data.toList) := by
  rintro a' c' rfl
  rw [hl2] at g1
  exact Own.ofBytes g1
 unfold Oper.wp execOp
 simp only [ho, resolve, invoke, builtin, Sem.run_bind, Sem.run_pure, Result.andThen_ok, List.map_toArray, List.map_cons, List.map_nil, hs, hx, hr]
 rcases g1.2 with ⟨rfl, hn⟩ | ⟨g, cap, cur, rfl, _⟩
 ·have := h none 0 w' (key _ _ (by rw [hl2, hn])) g2
  rw [hl2, hn] at this
  exact this
 ·rw [← hl2]
  exact h _ _ w' (key _ _ (by rw [hl2])) g2
end
end Go.Proofs.Ytflfjpopfapogaa
