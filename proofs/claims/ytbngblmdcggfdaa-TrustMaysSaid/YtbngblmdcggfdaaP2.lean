/- Walks and plain laws that the claim rests on, part 2. -/
import Derived.Test.YtbngblmdcggfdaaP1
import Derived.Deep.RegionLaw
import Derived.Test.YtbngblmdcggfdaaProg
import Derived.Deep.RegionWith
import Derived.Shelf.Abstract
import Derived.Maps.OwnSet
set_option linter.unusedSimpArgs false
set_option linter.unusedVariables false
/- The walks through the references' copies of mail, frames, lines. -/
namespace Go.Proofs.Ytbngblmdcggfdaa
open Go.RowKit

def mailV (m : Mail) (la : Option Addr) (lc : Nat) (ga : Option Addr) (gc : Nat) : Value := .agg #[.int .i64 m.host, .int .i64 m.thread, .slice la m.label.length lc, .slice ga m.grants.length gc, .string m.text]

/-- New memory: blocks that did not lie in w. -/
abbrev newIn (w : World) : Nat → Prop := fun b => w.heap.size ≤ b

set_option maxHeartbeats 4000000 in
theorem ref_CopyMail (ok : Nat → Prop) (w : World) (m : Mail) (la : Option Addr) (lc : Nat) (ga : Option Addr) (gc : Nat) (hA : SlR ok w 2 RLev la lc m.label) (hB : SlR ok w 1 RInt ga gc m.grants) (hl : m.label.length * 16 ≤ 140737488355328) (hg : m.grants.length * 8 ≤ 140737488355328) :
    Calls Try.prog 10 #[mailV m la lc ga gc] w fun e w' => ∃ la' lc' ga' gc', e = .returned (mailV m la' lc' ga' gc') ∧ Below w.heap.size w w' ∧ SlR (newIn w) w' 2 RLev la' lc' m.label ∧ SlR (newIn w) w' 1 RInt ga' gc' m.grants := by
  obtain ⟨i0, hi, hz0, hz1, hz2⟩ := info_parts info_Level
  obtain ⟨j0, hj, hy0, hy1, hy2⟩ := info_parts info_int
  unfold mailV
  have st := St.start w
  go_enter Try.func10, Try.ntmps10
  go_wp2_with (first | (refine mem_box st (wanted_none rfl) 27 _ rfl _ rfl _ rfl ?_; clear st; intro g1 w1 hg1 st hg1b; clear hg1b; simp [Act.eval, Act.put, Value.cells, putL] at st) | (refine mem_alloc st (wanted_none rfl) 27 rfl _ Try.zeroValue27 _ rfl ?_; clear st; intro g2 w2 hg2 st hg2b; clear hg2b; simp [Act.eval, Act.put, Value.cells, putL] at st))
  have c2 : w2.cell? ⟨g1, 2, none⟩ = some (.slice la m.label.length lc) := st.cell (i := 0) rfl 2
  have c3 : w2.cell? ⟨g1, 3, none⟩ = some (.slice ga m.grants.length gc) := st.cell (i := 0) rfl 3
  have hz : g1 < w2.heap.size := st.ltAt (i := 0) rfl
  have hzz : g2 < w2.heap.size := st.ltAt (i := 1) rfl
  have f2 : w2.frozen? ⟨g1, 2, none⟩ = false := st.free (i := 0) rfl 2
  have f3 : w2.frozen? ⟨g1, 3, none⟩ = false := st.free (i := 0) rfl 3
  have h0 := (Below.refl w2.heap.size w2).drew
  have hw := st.below
  go_region_law (first
    | (refine step_copy (wanted_none rfl) _ _ 24 rfl 53 i0 _ 2 16 Try.underlying24 hi hz0 hz1 hz2 rfl (by decide) rfl rfl rfl (hA.below (hw.keep h0)) hl ?_; intro a1 k1 v1 hO1 hb1; replace hO1 := hO1.slr (ok := fun b => w2.heap.size ≤ b) (fun b hb => Nat.le_trans h0.size hb); replace h0 := h0.keep hb1; have d2 := (h0.cell (p := ⟨g1, 2, none⟩) hz).trans c2; have d3 := (h0.cell (p := ⟨g1, 3, none⟩) hz).trans c3; have e2 := (h0.frozen (p := ⟨g1, 2, none⟩) hz).trans f2; have e3 := (h0.frozen (p := ⟨g1, 3, none⟩) hz).trans f3)
    | (refine step_copy (wanted_none rfl) _ _ 25 rfl 3 j0 _ 1 8 Try.underlying25 hj hy0 hy1 hy2 rfl (by decide) rfl rfl rfl (hB.below (hw.keep h0)) hg ?_; intro a2 k2 v2 hO2 hb2; replace hO2 := hO2.slr (ok := fun b => w2.heap.size ≤ b) (fun b hb => Nat.le_trans h0.size hb); replace h0 := h0.keep hb2; have d2 := (h0.cell (p := ⟨g1, 2, none⟩) hz).trans c2; have d3 := (h0.cell (p := ⟨g1, 3, none⟩) hz).trans c3; have e2 := (h0.frozen (p := ⟨g1, 2, none⟩) hz).trans f2; have e3 := (h0.frozen (p := ⟨g1, 3, none⟩) hz).trans f3))
  all_goals
    first
      | replace hO1 := hO1.below hb2
      | replace hO2 := hO2.below hb1
    replace st := ((st.call h0).rebase.setCell (i := 0) rfl 2 (.slice a1 m.label.length k1)).setCell (i := 0) rfl 3 (.slice a2 m.grants.length k2)
    clear c2 c3 f2 f3 d2 d3 e2 e3 hb1 hb2
    go_wp2_with (first | ((first | refine mem_load_agg' st 27 _ rfl (wanted_none rfl) Try.isAgg27 _ Try.sizeOf27 ?_ | (refine mem_load_agg' st 27 _ rfl (wanted_some rfl ?_) Try.isAgg27 _ Try.sizeOf27 ?_; focus (simp [yielded, Act.put]; done))); refine ⟨0, _, _, _, _, _, rfl, rfl, rfl, rfl, ?_⟩) | ((first | refine mem_store' st 27 _ _ rfl (wanted_none rfl) _ Try.sizeOf27 ?_ | (refine mem_store' st 27 _ _ rfl (wanted_some rfl ?_) _ Try.sizeOf27 ?_; focus (simp [yielded, Act.put]; done))); refine ⟨1, _, _, _, _, _, rfl, rfl, rfl, rfl, rfl, rfl, ?_⟩; clear st; intro w3 st hw3m hw3z; simp [Act.eval, Act.put, Value.cells, putL] at st))
    have hc := fun j => st.cell (i := 1) rfl j
    have hk := st.keeps (ok := fun b => w2.heap.size ≤ b) (by simp; omega)
    refine bodyPost_ret (v := mailV m a1 k1 a2 k2) ?hr rfl ⟨_, _, _, _, rfl, ?_, ?_, ?_⟩
    case hr => simp [results, Try.results10, go_sem, hc, mailV, putL]
    · exact (hw.keep h0).trans (st.belowB (by have := hw.size; have := h0.size; omega) (by simp; omega))
    · exact (hO1.keep hk).okay (fun b hb => by have := hw.size; show w.heap.size ≤ b; omega)
    · exact (hO2.keep hk).okay (fun b hb => by have := hw.size; show w.heap.size ≤ b; omega)

end Go.Proofs.Ytbngblmdcggfdaa

/- The walk through the reference's copy of a frame. -/
namespace Go.Proofs.Ytbngblmdcggfdaa
open Go.RowKit

def frameV (f : Frame) (la : Option Addr) (lc : Nat) (ga : Option Addr) (gc : Nat) (ca : Option Addr) (cc : Nat) : Value := .agg #[.int .i64 f.src, .int .i64 f.dst, .int .i64 f.seq, .bool f.ack, .int .i64 f.thread, .int .i64 f.mail.host, .int .i64 f.mail.thread, .slice la f.mail.label.length lc, .slice ga f.mail.grants.length gc, .string f.mail.text, .slice ca f.certs.length cc]

/-- What a frame holds lies within the bounds of append. -/
structure Frame.Fits (f : Frame) : Prop where
  label : f.mail.label.length * 16 ≤ 140737488355328
  grants : f.mail.grants.length * 8 ≤ 140737488355328
  certs : f.certs.length * 32 ≤ 140737488355328

end Go.Proofs.Ytbngblmdcggfdaa

/- A slice that is built of one element: a new block of a call's own. No program is in sight. -/
namespace Go.Proofs.Ytbngblmdcggfdaa
open Go.RowKit

/-- What is owned stays owned while its blocks stay as they are. -/
theorem Own.move {base : Nat} {e : TypeId} {w w' : World} {α : Type} {sz : Nat} {R R' : List Value → α → Prop} {a : Option Addr} {c : Nat} {xs : List α} (h : Own base e w sz R a c xs) (hk : ∀ b, base ≤ b → b < w.heap.size → w'.heap[b]? = w.heap[b]?) (hR : ∀ cs x, R cs x → R' cs x) : Own base e w' sz R' a c xs := by
  obtain ⟨css, h1, h2, h3, h4⟩ := h
  refine ⟨css, h1, h2, fun i x cs hx hc => hR _ _ (h3 i x cs hx hc), h4.1, ?_⟩
  rcases h4.2 with h | ⟨g, cap, cur, hv, hg, hh, r⟩
  · exact .inl h
  · exact .inr ⟨g, cap, cur, hv, hg, by rw [hk g hg (Array.getElem?_eq_some_iff.1 hh).1]; exact hh, r⟩

theorem lay_list : ∀ (l : List Value) (k : Nat) (arr : Array Value), k + l.length ≤ arr.size → ((l.zipIdx k).foldl (fun cs p => cs.setIfInBounds p.2 p.1) arr).toList = arr.toList.take k ++ l ++ arr.toList.drop (k + l.length) := by
  intro l
  induction l with
  | nil => intro k arr _; simp
  | cons v l ih =>
    intro k arr h
    simp only [List.length_cons] at h
    rw [List.zipIdx_cons, List.foldl_cons, ih (k + 1) (arr.setIfInBounds k v) (by simp; omega)]
    have hk : k < arr.toList.length := by simp; omega
    have e1 : (arr.setIfInBounds k v).toList = arr.toList.set k v := by simp
    rw [e1]
    have e2 : (arr.toList.set k v).take (k + 1) = arr.toList.take k ++ [v] := by
      rw [List.take_succ_eq_append_getElem (by simpa using hk)]
      simp [List.take_set]
      exact List.set_eq_of_length_le (by simp; omega)
    have e3 : (arr.toList.set k v).drop (k + 1 + l.length) = arr.toList.drop (k + (l.length + 1)) := by
      rw [List.drop_set_of_lt (by omega)]
      congr 1
      omega
    rw [e2, e3]
    simp

theorem fill_one (cells : Array Value) (v : Value) (n : Nat) (h1 : v.cells.size = n) (h2 : cells.size = n) : Instr.fill (fun i => some (i * n, n)) cells [(0, v)] = some v.cells := by
  have h3 : (v.cells.zipIdx.foldl (fun cs (c, j) => cs.setIfInBounds (0 * n + j) c) cells) = v.cells := by
    have := lay_list v.cells.toList 0 cells (by simp; omega)
    rw [← Array.foldl_toList, Array.toList_zipIdx]
    simp only [Nat.zero_mul, Nat.zero_add] at this ⊢
    apply Array.toList_inj.1
    refine Eq.trans ?_ (this.trans ?_)
    · rfl
    · simp; omega
  simp only [Instr.fill]
  rw [h3]
  rw [if_neg (by simp; omega)]

section
variable {P : Program} {w0 w : World} {M : List Nat} {own : Blks} {ops : Array Oper} {rest : List Oper} {o : Oper} {A : Act} {Q : Exit → Act → World → Prop} {K : Act → World → Prop} {E : Prop}

theorem wp_build1 (st : St M w0 w own) (T T' : TypeId) (x : Operand) (ho : o.op = .buildSlice T 1 #[(0, x)]) (ht : P.underlying T = some (.slice T')) (n : Nat) (hsz : ∀ w, (sizeOf T').run P w = .ok n w) (hn : 0 < n) (hn' : n ≤ 1000) (z : Value) (hz : ∀ w, (zeroValue T').run P w = .ok z w) (cs : List Value) (hx : (A.eval x).cells.toList = cs) (hc : cs.length = n)
    (h : ∀ g w', w0.heap.size ≤ g → g = w.heap.size → St M w0 w' (own ++ [(g, T', cs)]) → Below w.heap.size w w' → w'.heap.size = w.heap.size + 1 → K (A.put o.dst (.slice (some ⟨g, 0, none⟩) 1 1)) w') : Oper.wp P o A w K Q := by
  subst hx
  have hs := st.new T' (A.eval x).cells.toList
  simp only [Array.toArray_toList] at hs
  have hf := fill_one ((Array.range (1 * n)).map (z.cells[· % z.cells.size]!)) (A.eval x) n (by simpa using hc) (by simp)
  have hgt : ¬ 2 ^ 24 < 1 * n := by omega
  have hne : ¬ 1 * n = 0 := by omega
  unfold Oper.wp
  simp only [execOp, ho, Instr.buildSlice, Sem.run_bind, run_underlying ht, Result.andThen_ok, hsz, hgt, hne, if_false, hz, Sem.run_pure, gt_iff_lt, List.map_toArray, List.map_cons, List.map_nil, hf, newRow, newObj]
  exact h w.heap.size _ st.size rfl hs ((Below.refl _ _).alloc (Nat.le_refl _) _) (by simp)

theorem wpList_build1 (st : St M w0 w own) (hgd : Region.wanted o (yielded ops A.tmps) = true) (T T' : TypeId) (x : Operand) (ho : o.op = .buildSlice T 1 #[(0, x)]) (ht : P.underlying T = some (.slice T')) (n : Nat) (hsz : ∀ w, (sizeOf T').run P w = .ok n w) (hn : 0 < n) (hn' : n ≤ 1000) (z : Value) (hz : ∀ w, (zeroValue T').run P w = .ok z w) (cs : List Value) (hx : (A.eval x).cells.toList = cs) (hc : cs.length = n)
    (h : ∀ g w', w0.heap.size ≤ g → g = w.heap.size → St M w0 w' (own ++ [(g, T', cs)]) → Below w.heap.size w w' → w'.heap.size = w.heap.size + 1 → wpList P ops Q rest (A.put o.dst (.slice (some ⟨g, 0, none⟩) 1 1)) w') : wpList P ops Q (o :: rest) A w :=
  wpList_wanted hgd fun _ hK => wp_build1 st T T' x ho ht n hsz hn hn' z hz cs hx hc fun g w' h1 h2 h3 h4 h5 => hK _ _ (h g w' h1 h2 h3 h4 h5)

theorem step_build1 (st : St M w0 w own) (hgd : Region.wanted o (yielded ops A.tmps) = true) (T T' : TypeId) (x : Operand) (ho : o.op = .buildSlice T 1 #[(0, x)]) (ht : P.underlying T = some (.slice T')) (n : Nat) (hsz : ∀ w, (sizeOf T').run P w = .ok n w) (hn : 0 < n) (hn' : n ≤ 1000) (z : Value) (hz : ∀ w, (zeroValue T').run P w = .ok z w) (cs : List Value) (hx : (A.eval x).cells.toList = cs) (hc : cs.length = n)
    (h : ∀ g w', w0.heap.size ≤ g → g = w.heap.size → St M w0 w' (own ++ [(g, T', cs)]) → Below w.heap.size w w' → w'.heap.size = w.heap.size + 1 → K (A.put o.dst (.slice (some ⟨g, 0, none⟩) 1 1)) w') : if Region.wanted o (yielded ops A.tmps) = true then Oper.wp P o A w K Q else E := by
  have hw := hgd
  rw [if_pos hw]
  exact wp_build1 st T T' x ho ht n hsz hn hn' z hz cs hx hc h

end
end Go.Proofs.Ytbngblmdcggfdaa

/- The walks through line.Good. -/
namespace Go.Proofs.Ytbngblmdcggfdaa
open Go.RowKit

def sentOk (next prev : Int) (s : Sent) : Bool := decide (1 ≤ s.frame.seq ∧ prev < s.frame.seq ∧ s.frame.seq ≤ next ∧ 1 ≤ s.tries ∧ s.tries ≤ 5 ∧ 0 ≤ s.due ∧ s.due ≤ 2199023255552)

def sentsOk (next : Int) : Int → List Sent → Bool
  | _, [] => true
  | p, s :: l => if sentOk next p s = true then sentsOk next s.frame.seq l else false

def headOk (next high : Int) (n : Nat) : Bool := decide (0 ≤ next ∧ next ≤ 1099511627775 ∧ 0 ≤ high ∧ high ≤ 1099511627776 ∧ n ≤ 8)

def lineOk (l : Line) : Bool := if headOk l.next l.high l.sent.length = true then sentsOk l.next 0 l.sent else false

/-- The number of the frame ahead of the k-th. -/
def prevS (l : List Sent) (k : Nat) : Int := if h : 0 < k ∧ k ≤ l.length then (l[k - 1]'(by omega)).frame.seq else 0
theorem prevS_zero (l : List Sent) : prevS l 0 = 0 := by simp [prevS]
theorem prevS_succ (l : List Sent) (k : Nat) (h : k < l.length) : prevS l (k + 1) = l[k].frame.seq := by
  unfold prevS
  rw [dif_pos ⟨by omega, by omega⟩]
  simp
theorem sentsOk_step (next : Int) (l : List Sent) (k : Nat) (h : k < l.length) : sentsOk next (prevS l k) (l.drop k) = (if sentOk next (prevS l k) l[k] = true then sentsOk next (prevS l (k + 1)) (l.drop (k + 1)) else false) := by
  rw [List.drop_eq_getElem_cons h, sentsOk, prevS_succ l k h]

theorem line_bad {L : Line} {k : Nat} (h : k < L.sent.length) (hI : Hid (sentsOk L.next 0 L.sent = sentsOk L.next (prevS L.sent k) (L.sent.drop k))) (hb : sentOk L.next (prevS L.sent k) L.sent[k] = false) : lineOk L = false := by
  have e : sentsOk L.next 0 L.sent = false := by rw [hI.out, sentsOk_step _ _ k h, if_neg (by rw [hb]; simp)]
  unfold lineOk
  rw [e]
  split <;> rfl
theorem line_go {L : Line} {k : Nat} (h : k < L.sent.length) (hI : Hid (sentsOk L.next 0 L.sent = sentsOk L.next (prevS L.sent k) (L.sent.drop k))) (hb : sentOk L.next (prevS L.sent k) L.sent[k] = true) : Hid (sentsOk L.next 0 L.sent = sentsOk L.next (prevS L.sent (k + 1)) (L.sent.drop (k + 1))) := by
  show _ = _
  rw [hI.out, sentsOk_step _ _ k h, if_pos hb]

/-- A line, as a value. -/
def lineV (next high : Int) (sa : Option Addr) (n sc : Nat) (e : Eight) : Value := .agg #[.int .i64 next, .slice sa n sc, .int .i64 high, .bool e.s0, .bool e.s1, .bool e.s2, .bool e.s3, .bool e.s4, .bool e.s5, .bool e.s6, .bool e.s7]

end Go.Proofs.Ytbngblmdcggfdaa

/- The walk through the reference's copy of a line. -/
namespace Go.Proofs.Ytbngblmdcggfdaa
open Go.RowKit

def sentCells (s : Sent) (la : Option Addr) (lc : Nat) (ga : Option Addr) (gc : Nat) (ca : Option Addr) (cc : Nat) : List Value := [.int .i64 s.frame.src, .int .i64 s.frame.dst, .int .i64 s.frame.seq, .bool s.frame.ack, .int .i64 s.frame.thread, .int .i64 s.frame.mail.host, .int .i64 s.frame.mail.thread, .slice la s.frame.mail.label.length lc, .slice ga s.frame.mail.grants.length gc, .string s.frame.mail.text, .slice ca s.frame.certs.length cc, .int .i64 s.tries, .int .i64 s.due]

/-- Blocks from B on, but the one at o. -/
def besides (B : Nat) (o : Option Addr) (b : Nat) : Prop := B ≤ b ∧ o.map (·.block) ≠ some b

theorem RSent.move {ok ok' : Nat → Prop} {w w' : World} {cs : List Value} {s : Sent} (h : RSent ok w cs s) (hs : w.heap.size ≤ w'.heap.size) (hk : ∀ b, b < w.heap.size → ok b → ok' b ∧ w'.heap[b]? = w.heap[b]?) : RSent ok' w' cs s := by
  obtain ⟨la, lc, ga, gc, ca, cc, e, h1, h2, h3⟩ := h
  exact ⟨la, lc, ga, gc, ca, cc, e, h1.move hs hk fun _ _ h => h, h2.move hs hk fun _ _ h => h, h3.move hs hk fun _ _ h => h⟩

/-- One element more, whose own memory is new: what the elements hold still lies apart from the row. -/
theorem sents_push {B : Nat} {wr wa w' : World} {T : TypeId} {o : Option Addr} {c g : Nat} {l : List Sent} (hr : Below wr.heap.size wr wa) (hO : Own B T w' 13 (RSent (besides B o) wa) (some ⟨g, 0, none⟩) c l) (hg : wa.grownBy w' (o.map (·.block))) (hat : AtOrNew o g wa) :
    Own B T w' 13 (RSent (besides B (some ⟨g, 0, none⟩)) w') (some ⟨g, 0, none⟩) c l :=
  hO.mono fun _ _ h => h.move hg.size fun b hb ho => ⟨⟨ho.1, fun e => by
    simp only [Option.map_some, Option.some.injEq] at e
    subst e
    rcases hat with hat | hat
    · exact ho.2 hat
    · omega⟩, hg.block b hb fun e => ho.2 e.symm⟩

end Go.Proofs.Ytbngblmdcggfdaa

/- The walks through the references' comparisons of mail, frames, lines that read alike. -/
namespace Go.Proofs.Ytbngblmdcggfdaa
open Go.RowKit

/-- Both lists that a mail holds. -/
structure MailR (ok : Nat → Prop) (w : World) (m : Mail) (la : Option Addr) (lc : Nat) (ga : Option Addr) (gc : Nat) : Prop where
  label : SlR ok w 2 RLev la lc m.label
  grants : SlR ok w 1 RInt ga gc m.grants
theorem MailR.below {ok : Nat → Prop} {w w' : World} {m : Mail} {la : Option Addr} {lc : Nat} {ga : Option Addr} {gc : Nat} (h : MailR ok w m la lc ga gc) (hb : Below w.heap.size w w') : MailR ok w' m la lc ga gc := ⟨h.label.below hb, h.grants.below hb⟩

structure FrameR (ok : Nat → Prop) (w : World) (f : Frame) (la : Option Addr) (lc : Nat) (ga : Option Addr) (gc : Nat) (ca : Option Addr) (cc : Nat) : Prop where
  mail : MailR ok w f.mail la lc ga gc
  certs : SlR ok w 4 RCert ca cc f.certs
theorem FrameR.below {ok : Nat → Prop} {w w' : World} {f : Frame} {la : Option Addr} {lc : Nat} {ga : Option Addr} {gc : Nat} {ca : Option Addr} {cc : Nat} (h : FrameR ok w f la lc ga gc ca cc) (hb : Below w.heap.size w w') : FrameR ok w' f la lc ga gc ca cc := ⟨h.mail.below hb, h.certs.below hb⟩

end Go.Proofs.Ytbngblmdcggfdaa

/- The walks through wire.host, thread, rising, GoodCert, GoodMail and Good. -/
namespace Go.Proofs.Ytbngblmdcggfdaa
open Go.RowKit

theorem wire_host (h : Int) (w : World) : Calls Try.prog 35 #[.int .i64 h] w fun e w' => e = .returned (.bool (four h)) ∧ w = w' := by
  by_cases h1 : 0 ≤ h <;> by_cases h2 : h < 4
  all_goals
    go_enter Try.func35, Try.ntmps35
    go_wp2
    go_ret
    exact ⟨ret_bool (by simp [four, h1, h2]), rfl⟩

theorem cat_Category (c : Int) (w : World) : Calls Try.prog 20 #[.int .i64 c] w fun e w' => e = .returned (.bool (catOk c)) ∧ w = w' := label_Category c w

theorem risesI_bad {l : List Int} {k : Nat} (h : k < l.length) (hI : Hid (risesI (-1) l = risesI (prevI l k) (l.drop k))) (hb : ¬ (prevI l k < l[k] ∧ catOk l[k] = true)) (m : Int) : risingB l m = false := by
  unfold risingB
  rw [hI.out, risesI_step l k h, if_neg hb]
  rfl
theorem risesI_go {l : List Int} {k : Nat} (h : k < l.length) (hI : Hid (risesI (-1) l = risesI (prevI l k) (l.drop k))) (hb : prevI l k < l[k] ∧ catOk l[k] = true) : Hid (risesI (-1) l = risesI (prevI l (k + 1)) (l.drop (k + 1))) := by
  show _ = _
  rw [hI.out, risesI_step l k h, if_pos hb]

set_option maxHeartbeats 1600000 in
theorem wire_GoodCert (c : Cert) (w : World) : Calls Try.prog 27 #[.agg #[.int .i64 c.c, .int .i64 c.by_, .int .i64 c.host, .int .i64 c.till]] w fun e w' => e = .returned (.bool (goodCertB c)) ∧ Below w.heap.size w w' := by
  rcases chain6 (catOk c.c) (four c.by_) (four c.host) ((c.by_ != c.host)) (decide (0 ≤ c.till)) (decide (c.till ≤ 1099511627776)) with h1 | ⟨h1, h2⟩ | ⟨h1, h2, h3⟩ | ⟨h1, h2, h3, h4⟩ | ⟨h1, h2, h3, h4, h5⟩ | ⟨h1, h2, h3, h4, h5, h6⟩ | ⟨h1, h2, h3, h4, h5, h6⟩
  · have HE := Lib.hid (show goodCertB c = false by simp [goodCertB, h1])
    have H1 := Lib.hid h1; clear h1
    have st := St.start w
    go_enter Try.func27, Try.ntmps27
    go_wp2_with (first | go_skip | (refine mem_box st (wanted_none rfl) 43 _ rfl _ rfl _ rfl ?_; clear st; intro g1 w1 hg1 st hg1b; clear hg1b; simp [Act.eval, Act.put, Value.cells, putL] at st) | ((first | refine mem_load' st 3 _ rfl (wanted_none rfl) Try.isAgg3 ?_ | (refine mem_load' st 3 _ rfl (wanted_some rfl ?_) Try.isAgg3 ?_; focus (simp [yielded, Act.put]; done))); refine ⟨0, _, _, _, _, _, rfl, rfl, rfl, ?_⟩) | (go_at_call 20; refine (cat_Category _ _).mono ?_; rintro e v ⟨rfl, rfl⟩; first | rw [H1.out]))
    go_ret
    exact ⟨by rw [HE.out]; rfl, st.below⟩
  · have HE := Lib.hid (show goodCertB c = false by simp [goodCertB, h1, h2])
    have H1 := Lib.hid h1; clear h1
    have H2 := Lib.hid h2; clear h2
    have st := St.start w
    go_enter Try.func27, Try.ntmps27
    go_wp2_with (first | go_skip | (refine mem_box st (wanted_none rfl) 43 _ rfl _ rfl _ rfl ?_; clear st; intro g1 w1 hg1 st hg1b; clear hg1b; simp [Act.eval, Act.put, Value.cells, putL] at st) | ((first | refine mem_load' st 3 _ rfl (wanted_none rfl) Try.isAgg3 ?_ | (refine mem_load' st 3 _ rfl (wanted_some rfl ?_) Try.isAgg3 ?_; focus (simp [yielded, Act.put]; done))); refine ⟨0, _, _, _, _, _, rfl, rfl, rfl, ?_⟩) | (go_at_call 20; refine (cat_Category _ _).mono ?_; rintro e v ⟨rfl, rfl⟩; first | rw [H1.out]) | (go_at_call 35; refine (wire_host _ _).mono ?_; rintro e v ⟨rfl, rfl⟩; first | rw [H2.out]))
    go_ret
    exact ⟨by rw [HE.out]; rfl, st.below⟩
  · have HE := Lib.hid (show goodCertB c = false by simp [goodCertB, h1, h2, h3])
    have H1 := Lib.hid h1; clear h1
    have H2 := Lib.hid h2; clear h2
    have H3 := Lib.hid h3; clear h3
    have st := St.start w
    go_enter Try.func27, Try.ntmps27
    go_wp2_with (first | go_skip | (refine mem_box st (wanted_none rfl) 43 _ rfl _ rfl _ rfl ?_; clear st; intro g1 w1 hg1 st hg1b; clear hg1b; simp [Act.eval, Act.put, Value.cells, putL] at st) | ((first | refine mem_load' st 3 _ rfl (wanted_none rfl) Try.isAgg3 ?_ | (refine mem_load' st 3 _ rfl (wanted_some rfl ?_) Try.isAgg3 ?_; focus (simp [yielded, Act.put]; done))); refine ⟨0, _, _, _, _, _, rfl, rfl, rfl, ?_⟩) | (go_at_call 20; refine (cat_Category _ _).mono ?_; rintro e v ⟨rfl, rfl⟩; first | rw [H1.out]) | (go_at_call 35; refine (wire_host _ _).mono ?_; rintro e v ⟨rfl, rfl⟩; first | rw [H2.out] | rw [H3.out]))
    go_ret
    exact ⟨by rw [HE.out]; rfl, st.below⟩
  · have HE := Lib.hid (show goodCertB c = false by simp [goodCertB, h1, h2, h3, h4])
    have H1 := Lib.hid h1; clear h1
    have H2 := Lib.hid h2; clear h2
    have H3 := Lib.hid h3; clear h3
    have st := St.start w
    go_enter Try.func27, Try.ntmps27
    go_wp2_with (first | go_skip | (refine mem_box st (wanted_none rfl) 43 _ rfl _ rfl _ rfl ?_; clear st; intro g1 w1 hg1 st hg1b; clear hg1b; simp [Act.eval, Act.put, Value.cells, putL] at st) | ((first | refine mem_load' st 3 _ rfl (wanted_none rfl) Try.isAgg3 ?_ | (refine mem_load' st 3 _ rfl (wanted_some rfl ?_) Try.isAgg3 ?_; focus (simp [yielded, Act.put]; done))); refine ⟨0, _, _, _, _, _, rfl, rfl, rfl, ?_⟩) | (go_at_call 20; refine (cat_Category _ _).mono ?_; rintro e v ⟨rfl, rfl⟩; first | rw [H1.out]) | (go_at_call 35; refine (wire_host _ _).mono ?_; rintro e v ⟨rfl, rfl⟩; first | rw [H2.out] | rw [H3.out]))
    go_ret
    exact ⟨by rw [HE.out]; rfl, st.below⟩
  · have HE := Lib.hid (show goodCertB c = false by simp [goodCertB, h1, h2, h3, h4, h5])
    have H1 := Lib.hid h1; clear h1
    have H2 := Lib.hid h2; clear h2
    have H3 := Lib.hid h3; clear h3
    have st := St.start w
    go_enter Try.func27, Try.ntmps27
    go_wp2_with (first | go_skip | (refine mem_box st (wanted_none rfl) 43 _ rfl _ rfl _ rfl ?_; clear st; intro g1 w1 hg1 st hg1b; clear hg1b; simp [Act.eval, Act.put, Value.cells, putL] at st) | ((first | refine mem_load' st 3 _ rfl (wanted_none rfl) Try.isAgg3 ?_ | (refine mem_load' st 3 _ rfl (wanted_some rfl ?_) Try.isAgg3 ?_; focus (simp [yielded, Act.put]; done))); refine ⟨0, _, _, _, _, _, rfl, rfl, rfl, ?_⟩) | (go_at_call 20; refine (cat_Category _ _).mono ?_; rintro e v ⟨rfl, rfl⟩; first | rw [H1.out]) | (go_at_call 35; refine (wire_host _ _).mono ?_; rintro e v ⟨rfl, rfl⟩; first | rw [H2.out] | rw [H3.out]))
    go_ret
    exact ⟨by rw [HE.out]; rfl, st.below⟩
  · have HE := Lib.hid (show goodCertB c = false by simp [goodCertB, h1, h2, h3, h4, h5, h6])
    have H1 := Lib.hid h1; clear h1
    have H2 := Lib.hid h2; clear h2
    have H3 := Lib.hid h3; clear h3
    have st := St.start w
    go_enter Try.func27, Try.ntmps27
    go_wp2_with (first | go_skip | (refine mem_box st (wanted_none rfl) 43 _ rfl _ rfl _ rfl ?_; clear st; intro g1 w1 hg1 st hg1b; clear hg1b; simp [Act.eval, Act.put, Value.cells, putL] at st) | ((first | refine mem_load' st 3 _ rfl (wanted_none rfl) Try.isAgg3 ?_ | (refine mem_load' st 3 _ rfl (wanted_some rfl ?_) Try.isAgg3 ?_; focus (simp [yielded, Act.put]; done))); refine ⟨0, _, _, _, _, _, rfl, rfl, rfl, ?_⟩) | (go_at_call 20; refine (cat_Category _ _).mono ?_; rintro e v ⟨rfl, rfl⟩; first | rw [H1.out]) | (go_at_call 35; refine (wire_host _ _).mono ?_; rintro e v ⟨rfl, rfl⟩; first | rw [H2.out] | rw [H3.out]))
    go_ret
    exact ⟨by rw [HE.out]; rfl, st.below⟩
  · have HE := Lib.hid (show goodCertB c = true by simp [goodCertB, h1, h2, h3, h4, h5, h6])
    have H1 := Lib.hid h1; clear h1
    have H2 := Lib.hid h2; clear h2
    have H3 := Lib.hid h3; clear h3
    have st := St.start w
    go_enter Try.func27, Try.ntmps27
    go_wp2_with (first | go_skip | (refine mem_box st (wanted_none rfl) 43 _ rfl _ rfl _ rfl ?_; clear st; intro g1 w1 hg1 st hg1b; clear hg1b; simp [Act.eval, Act.put, Value.cells, putL] at st) | ((first | refine mem_load' st 3 _ rfl (wanted_none rfl) Try.isAgg3 ?_ | (refine mem_load' st 3 _ rfl (wanted_some rfl ?_) Try.isAgg3 ?_; focus (simp [yielded, Act.put]; done))); refine ⟨0, _, _, _, _, _, rfl, rfl, rfl, ?_⟩) | (go_at_call 20; refine (cat_Category _ _).mono ?_; rintro e v ⟨rfl, rfl⟩; first | rw [H1.out]) | (go_at_call 35; refine (wire_host _ _).mono ?_; rintro e v ⟨rfl, rfl⟩; first | rw [H2.out] | rw [H3.out]))
    go_ret
    exact ⟨by rw [HE.out]; rfl, st.below⟩

end Go.Proofs.Ytbngblmdcggfdaa

/- The walks through the library's clones of lists, and line's wait. -/
namespace Go.Proofs.Ytbngblmdcggfdaa
open Go.RowKit

set_option maxHeartbeats 400000 in
theorem slices_Clone_int {R : List Value → Int → Prop} (ok : Nat → Prop) (w : World) (a : Option Addr) (c : Nat) (l : List Int) (hl : l.length * 8 ≤ 140737488355328) (hR : SlR ok w 1 R a c l) :
    Calls Try.prog 30 #[.slice a l.length c] w fun e w' => ∃ a' c', e = .returned (.slice a' l.length c') ∧ Below w.heap.size w w' ∧ Own w.heap.size 3 w' 1 R a' c' l := by
  obtain ⟨i0, hi, hz0, hz1, hz2⟩ := info_parts info_int
  have hcmp := fun (ww : World) (a : Option Addr) (n c : Nat) => Lib.run_eql_slice_nil ww 25 _ a n c 0 0 Try.underlying25
  cases a with
  | none =>
    have h0 := hR.2.2.1 rfl
    have hn := hR.1
    obtain rfl : l = [] := List.eq_nil_of_length_eq_zero (by omega)
    clear hl hR hi hz0 hz1 hz2 h0 hn
    go_enter Try.func30, Try.ntmps30
    go_wp2
    go_ret
    exact ⟨none, 0, rfl, Below.refl _ _, Own.nil _ _ _ _ _⟩
  | some ad =>
    go_enter Try.func30, Try.ntmps30
    go_wp2_with (first | (at_builtin; refine wpList_app rfl _ _ 25 rfl 3 i0 _ 1 8 Try.underlying25 hi hz0 hz1 hz2 rfl (by decide) (base := w.heap.size) rfl rfl (Own.made (Nat.le_refl _)) rfl rfl (hR.below ((Below.refl _ _).alloc (Nat.le_refl _) _)) ?_ ?_ ?_ ?_))
    · simpa using hl
    · simp [maxLen]; omega
    · simp
    · intro a' c' w' hO hg _
      go_wp2
      go_ret
      exact ⟨a', c', rfl, ((Below.refl _ _).alloc (Nat.le_refl _) _).grown hg (by simp) (by simp), hO⟩

end Go.Proofs.Ytbngblmdcggfdaa

/- The walk through line.Take. -/
namespace Go.Proofs.Ytbngblmdcggfdaa
open Go.RowKit

def Eight.get (e : Eight) : Nat → Bool
  | 0 => e.s0
  | 1 => e.s1
  | 2 => e.s2
  | 3 => e.s3
  | 4 => e.s4
  | 5 => e.s5
  | 6 => e.s6
  | 7 => e.s7
  | _ => false

def Eight.of (f : Nat → Bool) : Eight := ⟨f 0, f 1, f 2, f 3, f 4, f 5, f 6, f 7⟩
def Eight.yes (e : Eight) (k : Nat) : Eight := Eight.of fun j => if j = k then true else e.get j

/-- What a coming number makes of a line: the greatest number, what was seen, the code. -/
def takeC (good : Bool) (high seq : Int) (e : Eight) : Int × Eight × Int :=
  if good = false ∨ seq < 1 ∨ 1099511627776 < seq then (high, e, 2)
  else if seq ≤ high - 8 then (high, e, 11)
  else if seq ≤ high then (if e.get (high - seq).toNat = true then (high, e, 10) else (high, e.yes (high - seq).toNat, 0))
  else (seq, Eight.of fun j => if j = 0 then true else if seq - high ≤ j then e.get (j - (seq - high).toNat) else false, 0)

theorem lineOk_high {next high : Int} {sent : List Sent} {e : Eight} (h : lineOk ⟨next, sent, high, e⟩ = true) : 0 ≤ next ∧ next ≤ 1099511627775 ∧ 0 ≤ high ∧ high ≤ 1099511627776 ∧ sent.length ≤ 8 := by
  unfold lineOk at h
  by_cases hh : headOk next high sent.length = true
  · simpa [headOk] using hh
  · rw [if_neg hh] at h; simp at h

end Go.Proofs.Ytbngblmdcggfdaa

/- A region that draws its order, whose operations each add to what is known and take nothing away: what is known of each holds behind it, in whatever order they came. No program is in sight. -/
namespace Go.Proofs.Ytbngblmdcggfdaa
open Go.RowKit

/-- Slots set, one by one. -/
def putAll (x : Nat → Value) : List (Nat × Option Tmp) → Act → Act
  | [], a => a
  | (i, t) :: l, a => putAll x l (a.put t (x i))

def upd (x : Nat → Value) (i : Nat) (v : Value) : Nat → Value := fun j => if j = i then v else x j

/-- Two slots are not one. -/
def apartD (d d' : Option Tmp) : Bool := match d, d' with | some a, some b => a != b | _, _ => true

theorem put_comm (a : Act) (d d' : Option Tmp) (u v : Value) (h : apartD d d' = true) : (a.put d u).put d' v = (a.put d' v).put d u := by
  cases d <;> cases d' <;> simp only [Act.put]
  rename_i p q
  simp [apartD] at h
  rw [Array.setIfInBounds_comm _ _ h]

theorem put_put (a : Act) (d : Option Tmp) (u v : Value) : (a.put d u).put d v = a.put d v := by
  cases d <;> simp [Act.put]

theorem putAll_comm {x : Nat → Value} {t : Option Tmp} {v : Value} : ∀ {l : List (Nat × Option Tmp)} {a : Act}, (∀ j ∈ l, apartD j.2 t = true) → (putAll x l a).put t v = putAll x l (a.put t v) := by
  intro l
  induction l with
  | nil => intro a _; rfl
  | cons j l ih =>
    intro a h
    simp only [putAll]
    rw [ih fun k hk => h k (by simp [hk]), put_comm _ _ _ _ _ (h j (by simp))]

theorem putAll_congr {x y : Nat → Value} : ∀ {l : List (Nat × Option Tmp)} {a : Act}, (∀ j ∈ l, x j.1 = y j.1) → putAll x l a = putAll y l a := by
  intro l
  induction l with
  | nil => intro a _; rfl
  | cons j l ih =>
    intro a h
    simp only [putAll]
    rw [h j (by simp), ih fun k hk => h k (by simp [hk])]

theorem apart_symm {d d' : Option Tmp} (h : apartD d d' = true) : apartD d' d = true := by
  cases d <;> cases d' <;> simp only [apartD, bne_iff_ne] at *
  exact fun e => h e.symm

theorem put_putAll {x : Nat → Value} {i : Nat} {t : Option Tmp} {v : Value} : ∀ {l : List (Nat × Option Tmp)} {a : Act}, (i, t) ∈ l → l.Pairwise (fun j k => j.1 ≠ k.1 ∧ apartD j.2 k.2 = true) →
    (putAll x l a).put t v = putAll (upd x i v) l a := by
  intro l
  induction l with
  | nil => intro a h; simp at h
  | cons j l ih =>
    intro a hi hp
    obtain ⟨h1, h2⟩ := List.pairwise_cons.1 hp
    simp only [putAll]
    rcases List.mem_cons.1 hi with rfl | hi
    · rw [putAll_comm fun k hk => apart_symm (h1 k hk).2, put_put, show upd x i v i = v by simp [upd]]
      exact putAll_congr fun k hk => by simp [upd, Ne.symm (h1 k hk).1]
    · rw [ih hi h2, show upd x i v j.1 = x j.1 by simp [upd, (h1 _ hi).1]]

/-- Marks of those that were carried out. -/
def marked (n : Nat) (L : List Nat) : Array Bool := (Array.range n).map fun i => L.contains i

theorem marked_nil (n : Nat) : Array.replicate n false = marked n [] := by
  apply Array.ext <;> simp [marked]

theorem marked_set (n : Nat) (L : List Nat) (i : Nat) : (marked n L).setIfInBounds i true = marked n (i :: L) := by
  apply Array.ext
  · simp [marked]
  · intro j h1 h2
    have hj : j < (marked n L).size := by simpa using h1
    rw [Array.getElem_setIfInBounds hj]
    simp only [marked, Array.getElem_map, Array.getElem_range, List.contains_cons]
    by_cases e : i = j
    · subst e; simp
    · simp [e, Ne.symm e]

theorem marked_get {n : Nat} {L : List Nat} {i : Nat} {b : Bool} (h : i < n) : (marked n L).getD i b = L.contains i := by
  simp [marked, Array.getD, h]

theorem marked_congr {n : Nat} {L M : List Nat} (h : ∀ i, i ∈ L ↔ i ∈ M) : marked n L = marked n M := by
  apply Array.ext
  · simp [marked]
  · intro j h1 h2
    simp [marked, h]

theorem nodup_le : ∀ {l S : List Nat}, l.Nodup → (∀ j ∈ l, j ∈ S) → l.length ≤ S.length := by
  intro l
  induction l with
  | nil => intro S _ _; simp
  | cons i l ih =>
    intro S hn hs
    obtain ⟨h1, h2⟩ := List.nodup_cons.1 hn
    have := ih (S := S.erase i) h2 fun j hj => (List.mem_erase_of_ne (by rintro rfl; exact h1 hj)).2 (hs j (by simp [hj]))
    rw [List.length_erase_of_mem (hs i (by simp))] at this
    have h3 : 0 < S.length := List.length_pos_of_mem (hs i (by simp))
    simp; omega

/-- Those that must come ahead of the i-th. -/
def predsOf (ops : Array Oper) (i : Nat) : List Nat := ((ops[i]?).map fun o => (o.after.toList.filter fun e => Region.binds .any e).map (·.on)).getD []

/-- .. and those that must come ahead of these, and so on. -/
def anc (ops : Array Oper) : Nat → Nat → List Nat
  | 0, _ => []
  | k + 1, i => predsOf ops i ++ (predsOf ops i).flatMap (anc ops k)

theorem anc_sub {ops : Array Oper} {L : List Nat} (hL : ∀ i ∈ L, ∀ j ∈ predsOf ops i, j ∈ L) : ∀ (k i : Nat), (∀ j ∈ predsOf ops i, j ∈ L) → ∀ j ∈ anc ops k i, j ∈ L := by
  intro k
  induction k with
  | zero => intro i _ j hj; simp [anc] at hj
  | succ k ih =>
    intro i hi j hj
    simp only [anc, List.mem_append, List.mem_flatMap] at hj
    rcases hj with hj | ⟨m, hm, hj⟩
    · exact hi j hj
    · exact ih m (hL m (hi m hm)) j hj

/-- May the operations S be carried out ahead of all others, in whatever order their edges allow? -/
def aheadOk (ops : Array Oper) (D : List (Nat × Option Tmp)) : Bool :=
  let S := D.map (·.1)
  (S.all fun i => decide (i < ops.size) && ((ops[i]?).map fun o => o.after.all fun e => !Region.binds .any e || (S.contains e.on && decide (e.on < i))).getD false) &&
  ((List.range ops.size).all fun i => S.contains i || ((ops[i]?).map fun o => (o.after.any fun e => Region.binds .any e && !S.contains e.on) || S.all fun j => (anc ops ops.size i).contains j).getD false) &&
  decide (D.Pairwise fun j k => j.1 ≠ k.1 ∧ apartD j.2 k.2 = true)

section
variable {P : Program} {ops : Array Oper} {Q : Exit → Act → World → Prop}

theorem wpAny_ahead (D : List (Nat × Option Tmp)) (S : List Nat) (hS : D.map (·.1) = S) (hok : aheadOk ops D = true) (Rel : World → World → Prop) (G : Nat → Value → World → Prop) (Inv : World → Prop) (a0 : Act) (r : Nat)
    (mono : ∀ i v w w', i ∈ S → Rel w w' → Inv w → Inv w' → G i v w → G i v w')
    (step : ∀ i t, (i, t) ∈ D → ∀ (x : Nat → Value) (w : World), Inv w → (∀ j ∈ predsOf ops i, G j (x j) w) → ∀ K : Act → World → Prop,
      (∀ v w', Rel w w' → Inv w' → G i v w' → K ((putAll x D a0).put t v) w') → wpOp P ops Q i K (putAll x D a0) w)
    (fin : ∀ (x : Nat → Value) (w : World), Inv w → (∀ i ∈ S, G i (x i) w) → wpAny P .any ops Q r (marked ops.size S) (putAll x D a0) w) :
    ∀ (k : Nat) (L : List Nat) (x : Nat → Value) (w : World), L.Nodup → (∀ i ∈ L, i ∈ S) → (∀ i ∈ L, ∀ j ∈ predsOf ops i, j ∈ L) → L.length + k = S.length → Inv w → (∀ i ∈ L, G i (x i) w) →
      wpAny P .any ops Q (k + r) (marked ops.size L) (putAll x D a0) w := by
  subst hS
  simp only [aheadOk, Bool.and_eq_true, List.all_eq_true, decide_eq_true_eq, List.mem_range] at hok
  obtain ⟨⟨hc1, hc2⟩, hc4⟩ := hok
  have hSn : (D.map (·.1)).Nodup := List.pairwise_map.2 (hc4.imp fun h => h.1)
  intro k
  induction k with
  | zero =>
    intro L x w hL hsub hcl hlen hI hG
    have hall : ∀ i, i ∈ L ↔ i ∈ D.map (·.1) := fun i => ⟨hsub i, fun hi => Classical.byContradiction fun hn => by
      have h1 := nodup_le (List.nodup_cons.2 ⟨hn, hL⟩) fun j hj => by
        rcases List.mem_cons.1 hj with rfl | hj
        · exact hi
        · exact hsub j hj
      simp only [List.length_cons] at h1; omega⟩
    rw [Nat.zero_add, marked_congr hall]
    exact fin x w hI fun i hi => hG i ((hall i).2 hi)
  | succ k ih =>
    intro L x w hL hsub hcl hlen hI hG
    have hmem : ∀ i, i ∈ Region.ready .any ops (marked ops.size L) ↔ i < ops.size ∧ i ∉ L ∧ ∃ o, ops[i]? = some o ∧ ∀ e ∈ o.after, Region.binds .any e = true → e.on ∈ L ∧ e.on < ops.size := by
      intro i
      simp only [Region.ready, List.mem_filter, List.mem_range, Bool.and_eq_true, Bool.not_eq_true']
      constructor
      · rintro ⟨h1, h2, h3⟩
        rw [marked_get h1] at h2
        refine ⟨h1, by simpa using h2, ops[i], by simp [h1], fun e he hb => ?_⟩
        simp only [h1, getElem?_pos, Option.map_some, Option.getD_some, Array.all_eq_true_iff_forall_mem] at h3
        have := h3 e he
        rw [hb] at this
        simp only [Bool.not_true, Bool.false_or] at this
        by_cases hlt : e.on < ops.size
        · rw [marked_get hlt] at this
          exact ⟨by simpa using this, hlt⟩
        · have : (marked ops.size L).getD e.on false = false := by simp [marked, Array.getD, hlt]
          simp_all
      · rintro ⟨h1, h2, o, ho, h3⟩
        refine ⟨h1, by rw [marked_get h1]; simpa using h2, ?_⟩
        simp only [ho, Option.map_some, Option.getD_some, Array.all_eq_true_iff_forall_mem]
        intro e he
        cases hb : Region.binds .any e
        · simp
        · obtain ⟨h4, h5⟩ := h3 e he hb
          rw [marked_get h5]
          simpa using h4
    rw [show k + 1 + r = (k + r) + 1 by omega]
    refine ⟨fun hnil => ?_, fun i hi => ?_⟩
    · exfalso
      -- the least of S that is not carried out yet is ready
      have hex : ∃ i, i ∈ D.map (·.1) ∧ i ∉ L := Classical.byContradiction fun hn => by
        have h1 := nodup_le hSn (S := L) fun j hj => Classical.byContradiction fun hj' => hn ⟨j, hj, hj'⟩
        omega
      obtain ⟨i, ⟨hiS, hiL⟩, hmin⟩ : ∃ i, (i ∈ D.map (·.1) ∧ i ∉ L) ∧ ∀ j, j < i → ¬ (j ∈ D.map (·.1) ∧ j ∉ L) := by
        obtain ⟨i0, h0⟩ := hex
        induction i0 using Nat.strongRecOn with
        | _ i0 ih0 =>
          by_cases h : ∃ j, j < i0 ∧ j ∈ D.map (·.1) ∧ j ∉ L
          · obtain ⟨j, hj, hjS⟩ := h
            exact ih0 j hj hjS
          · exact ⟨i0, h0, fun j hj hjS => h ⟨j, hj, hjS⟩⟩
      obtain ⟨h1, h2⟩ := hc1 i hiS
      have : i ∈ Region.ready .any ops (marked ops.size L) := by
        rw [hmem]
        refine ⟨h1, hiL, ops[i], by simp [h1], fun e he hb => ?_⟩
        simp only [h1, getElem?_pos, Option.map_some, Option.getD_some, Array.all_eq_true_iff_forall_mem] at h2
        have h3 := h2 e he
        rw [hb] at h3
        simp only [Bool.not_true, Bool.false_or, Bool.and_eq_true, decide_eq_true_eq, List.contains_iff_mem] at h3
        exact ⟨Classical.byContradiction fun hn => hmin e.on h3.2 ⟨h3.1, hn⟩, (hc1 e.on h3.1).1⟩
      rw [hnil] at this
      simp at this
    · obtain ⟨h1, hiL, o, ho, hp⟩ := (hmem i).1 hi
      have hiS : i ∈ D.map (·.1) := by
        have h2 := hc2 i h1
        simp only [ho, Option.map_some, Option.getD_some, Bool.or_eq_true, List.contains_iff_mem, Array.any_eq_true', List.all_eq_true, Bool.and_eq_true, Bool.not_eq_true', beq_iff_eq] at h2
        rcases h2 with h2 | ⟨e, he, hb, hn⟩ | h2
        · exact h2
        · exfalso
          have := hsub _ (hp e he hb).1
          rw [← List.contains_iff_mem, hn] at this
          simp at this
        · exfalso
          have h4 : ∀ j ∈ predsOf ops i, j ∈ L := fun j hj => by
            simp only [predsOf, ho, Option.map_some, Option.getD_some, List.mem_map, List.mem_filter, Array.mem_toList_iff] at hj
            obtain ⟨e, ⟨he, hb⟩, rfl⟩ := hj
            exact (hp e he hb).1
          have h3 := nodup_le hSn (S := L) fun j hj => anc_sub hcl _ i h4 j (h2 j hj)
          omega
      have hpreL : ∀ j ∈ predsOf ops i, j ∈ L := fun j hj => by
        simp only [predsOf, ho, Option.map_some, Option.getD_some, List.mem_map, List.mem_filter, Array.mem_toList_iff] at hj
        obtain ⟨e, ⟨he, hb⟩, rfl⟩ := hj
        exact (hp e he hb).1
      have hpre : ∀ j ∈ predsOf ops i, G j (x j) w := fun j hj => by
        simp only [predsOf, ho, Option.map_some, Option.getD_some, List.mem_map, List.mem_filter, Array.mem_toList_iff] at hj
        obtain ⟨e, ⟨he, hb⟩, rfl⟩ := hj
        exact hG _ (hp e he hb).1
      obtain ⟨⟨i', t⟩, hit, hii⟩ := List.mem_map.1 hiS
      have hii' : i = i' := hii.symm
      subst hii'
      refine step i t hit x w hI hpre _ fun v w' hbw hI' hGv => ?_
      rw [put_putAll hit hc4, marked_set]
      refine ih (i :: L) (upd x i v) w' (List.nodup_cons.2 ⟨hiL, hL⟩) (fun j hj => ?_) (fun j hj m hm => ?_) (by simp only [List.length_cons]; omega) hI' fun j hj => ?_
      · rcases List.mem_cons.1 hj with rfl | hj
        · exact hiS
        · exact hsub j hj
      · rcases List.mem_cons.1 hj with rfl | hjL
        · exact List.mem_cons_of_mem _ (hpreL m hm)
        · exact List.mem_cons_of_mem _ (hcl j hjL m hm)
      · rcases List.mem_cons.1 hj with rfl | hjL
        · simpa [upd] using hGv
        · have hne : j ≠ i := by rintro rfl; exact hiL hjL
          rw [show upd x i v j = x j by simp [upd, hne]]
          exact mono j _ w w' (hsub j hjL) hbw hI hI' (hG j hjL)

theorem put_same (a : Act) (d : Option Tmp) : a.put d ((d.map fun t => a.tmps.getD t undef).getD undef) = a := by
  cases d with
  | none => rfl
  | some t =>
    simp only [Act.put, Option.map_some, Option.getD_some]
    have : a.tmps.setIfInBounds t (a.tmps.getD t undef) = a.tmps := by
      apply Array.ext
      · simp
      · intro i h1 h2
        rw [Array.getElem_setIfInBounds h2]
        by_cases e : t = i
        · subst e; simp [Array.getD, h2]
        · simp [e]
    rw [this]

def lookD (D : List (Nat × Option Tmp)) (a : Act) (i : Nat) : Value := match D.find? (fun p => p.1 == i) with | some p => (p.2.map fun t => a.tmps.getD t undef).getD undef | none => undef

theorem putAll_same (a : Act) {x : Nat → Value} : ∀ {l : List (Nat × Option Tmp)}, (∀ p ∈ l, x p.1 = (p.2.map fun t => a.tmps.getD t undef).getD undef) → putAll x l a = a := by
  intro l
  induction l with
  | nil => intro _; rfl
  | cons p l ih =>
    intro h
    obtain ⟨i, t⟩ := p
    have e := put_same a t
    simp only [putAll]
    rw [h (i, t) (by simp)]
    simp only
    rw [e]
    exact ih fun q hq => h q (by simp [hq])

theorem lookD_at {D : List (Nat × Option Tmp)} {a : Act} (hp : D.Pairwise (fun j k => j.1 ≠ k.1 ∧ apartD j.2 k.2 = true)) : ∀ p ∈ D, lookD D a p.1 = (p.2.map fun t => a.tmps.getD t undef).getD undef := by
  intro p hpD
  have h : D.find? (fun q => q.1 == p.1) = some p := by
    induction D with
    | nil => simp at hpD
    | cons q D ih =>
      obtain ⟨h1, h2⟩ := List.pairwise_cons.1 hp
      rcases List.mem_cons.1 hpD with rfl | hq
      · simp
      · rw [List.find?_cons_of_neg (by simpa using (h1 p hq).1)]
        exact ih h2 hq
  unfold lookD
  rw [h]

/-- THE LAW, at a region: the operations S come first, in whatever order; of each there is known G, in whatever order; the others follow. -/
theorem wp_region_ahead {id : Nat} {a0 : Act} {w : World} (hm : P.follows .mixedOrders = true) (D : List (Nat × Option Tmp)) (S : List Nat) (hS : D.map (·.1) = S) (r : Nat) (hok : aheadOk ops D = true) (hr : S.length + r = ops.size) (Rel : World → World → Prop) (G : Nat → Value → World → Prop) (Inv : World → Prop) (hI : Inv w.drew)
    (mono : ∀ i v w w', i ∈ S → Rel w w' → Inv w → Inv w' → G i v w → G i v w')
    (step : ∀ i t, (i, t) ∈ D → ∀ (x : Nat → Value) (w : World), Inv w → (∀ j ∈ predsOf ops i, G j (x j) w) → ∀ K : Act → World → Prop,
      (∀ v w', Rel w w' → Inv w' → G i v w' → K ((putAll x D a0).put t v) w') → wpOp P ops Q i K (putAll x D a0) w)
    (fin : ∀ (x : Nat → Value) (w : World), Inv w → (∀ i ∈ S, G i (x i) w) → wpAny P .any ops Q r (marked ops.size S) (putAll x D a0) w) : (Code.region id ops true).wp P Q a0 w := by
  refine wp_region_any hm ?_
  rw [marked_nil]
  have h := wpAny_ahead (P := P) (Q := Q) D S hS hok Rel G Inv a0 r mono step fin S.length [] (lookD D a0) w.drew List.nodup_nil (by simp) (by simp) (by simp) hI (by simp)
  rw [putAll_same a0 (lookD_at (by simp only [aheadOk, Bool.and_eq_true, decide_eq_true_eq] at hok; exact hok.2)), hr] at h
  exact h

theorem wpOp_plain {i : Nat} {o : Oper} {K : Act → World → Prop} {a : Act} {w : World} (ho : ops[i]? = some o) (hg : Region.wanted o (yielded ops a.tmps) = true) (h : o.wp P a w K Q) : wpOp P ops Q i K a w := by
  simp only [wpOp, ho, hg, if_true]
  exact .inl h

theorem wpOp_at {l : List Oper} {i : Nat} {o : Oper} {K : Act → World → Prop} {a : Act} {w : World} (ho : l[i]? = some o) (hg : o.guard = none) (h : o.wp P a w K Q) : wpOp P l.toArray Q i K a w :=
  wpOp_plain (by simpa using ho) (wanted_none hg) h

/-- An operation that just yields. -/
theorem wp_value {o : Oper} {K : Act → World → Prop} {a : Act} {w w' : World} {v : Value} (h : (execOp a.eval o).run P w = .ok (.value v) w') (hK : K (a.put o.dst v) w') : o.wp P a w K Q := by
  unfold Oper.wp
  rw [h]
  exact hK

/-- Behind those: the one that is next. -/
theorem wpAny_next {i r : Nat} {o : Oper} {listed : Array Bool} {a : Act} {w : World} (hr : Region.ready .any ops listed = [i]) (ho : ops[i]? = some o) (hg : Region.wanted o (yielded ops a.tmps) = true)
    (h : ∀ K : Act → World → Prop, (∀ a w, wpAny P .any ops Q r (listed.setIfInBounds i true) a w → K a w) → o.wp P a w K Q) : wpAny P .any ops Q (r + 1) listed a w :=
  wpAny_all hr (by simp) fun j hj => by
    simp only [List.mem_singleton] at hj
    subst hj
    exact wpOp_plain ho hg (h _ fun _ _ h => h)

theorem wpAny_at {l : List Oper} {i r : Nat} {o : Oper} {listed : Array Bool} {a : Act} {w : World} (ho : l[i]? = some o) (hg : o.guard = none) (hr : Region.ready .any l.toArray listed = [i])
    (h : ∀ K : Act → World → Prop, (∀ a w, wpAny P .any l.toArray Q r (listed.setIfInBounds i true) a w → K a w) → o.wp P a w K Q) : wpAny P .any l.toArray Q (r + 1) listed a w :=
  wpAny_next hr (by simpa using ho) (wanted_none hg) h

end
end Go.Proofs.Ytbngblmdcggfdaa

/- New blocks, loads and stores of a call's own memory, at an operation by itself. No program is in sight. -/
namespace Go.Proofs.Ytbngblmdcggfdaa
open Go.RowKit

section
variable {P : Program} {w0 w : World} {M : List Nat} {own : Blks} {o : Oper} {A : Act} {Q : Exit → Act → World → Prop} {K : Act → World → Prop}

theorem wp_box (st : St M w0 w own) (T : TypeId) (x : Operand) (ho : o.op = .box T x) (v : Value) (hx : A.eval x = v) (cs : List Value) (hcs : v.cells.toList = cs)
    (h : ∀ g w', w0.heap.size ≤ g → St M w0 w' (own ++ [(g, T, cs)]) → Below w.heap.size w w' → K (A.put o.dst (.pointer (some ⟨g, 0, none⟩))) w') : Oper.wp P o A w K Q := by
  subst hcs
  have hs := st.new T v.cells.toList
  simp only [Array.toArray_toList] at hs
  unfold Oper.wp
  simp only [execOp, ho, hx, Instr.box, newVar, newRow, newObj]
  exact (h w.heap.size _ st.size hs ((Below.refl _ _).alloc (Nat.le_refl _) _))

theorem wp_alloc (st : St M w0 w own) (T : TypeId) (ho : o.op = .alloc T) (z : Value) (hz : ∀ w, (zeroValue T).run P w = .ok z w) (cs : List Value) (hcs : z.cells.toList = cs)
    (h : ∀ g w', w0.heap.size ≤ g → St M w0 w' (own ++ [(g, T, cs)]) → Below w.heap.size w w' → K (A.put o.dst (.pointer (some ⟨g, 0, none⟩))) w') : Oper.wp P o A w K Q := by
  subst hcs
  have hs := st.new T z.cells.toList
  simp only [Array.toArray_toList] at hs
  unfold Oper.wp
  simp only [execOp, ho, Instr.alloc, Sem.run_bind, hz, Result.andThen_ok, newVar, newRow, newObj]
  exact (h w.heap.size _ st.size hs ((Below.refl _ _).alloc (Nat.le_refl _) _))

theorem wp_load (st : St M w0 w own) (T : TypeId) (x : Operand) (ho : o.op = .load T x) (g off : Nat) (hx : A.eval x = .pointer (some ⟨g, off, none⟩)) (hagg : ∀ w, (isAgg T).run P w = .ok false w)
    (i : Nat) (T' : TypeId) (cs : List Value) (hi : own[i]? = some (g, T', cs)) (v : Value) (hv : cs[off]? = some v)
    (h : K (A.put o.dst v) w) : Oper.wp P o A w K Q := by
  have hc := (st.cell hi off).trans hv
  unfold Oper.wp
  simp only [execOp, ho, hx, Instr.loadAt, Instr.sureAddr, loadVar, Sem.run_bind, Sem.run_pure, Result.andThen_ok, hagg]
  simp [load, Sem.run, hc, Result.andThen]
  exact h

theorem wp_load_agg (st : St M w0 w own) (T : TypeId) (x : Operand) (ho : o.op = .load T x) (g off : Nat) (hx : A.eval x = .pointer (some ⟨g, off, none⟩)) (hagg : ∀ w, (isAgg T).run P w = .ok true w)
    (n : Nat) (hsz : ∀ w, (sizeOf T).run P w = .ok n w) (i : Nat) (T' : TypeId) (cs : List Value) (hi : own[i]? = some (g, T', cs)) (vs : List Value) (hv : (cs.drop off).take n = vs) (hl : vs.length = n)
    (h : K (A.put o.dst (.agg vs.toArray)) w) : Oper.wp P o A w K Q := by
  have hl' : (loadCells ⟨g, off, none⟩ vs.length).run P w = .ok vs.toArray w := run_loadCells_list (P := P) w ⟨g, off, none⟩ vs (fun j v hj => by
    rw [add_plain, st.cell hi]
    subst hv
    have hjn : j < n := by have := (List.getElem?_eq_some_iff.1 hj).1; omega
    rw [List.getElem?_take_of_lt hjn, List.getElem?_drop] at hj
    exact hj)
  rw [hl] at hl'
  unfold Oper.wp
  simp only [execOp, ho, hx, Instr.loadAt, Instr.sureAddr, loadVar, Sem.run_bind, Sem.run_pure, Result.andThen_ok, hagg, hsz, if_true, hl']
  exact h

theorem wp_store (st : St M w0 w own) (T : TypeId) (x y : Operand) (ho : o.op = .store T x y) (g off : Nat) (hx : A.eval x = .pointer (some ⟨g, off, none⟩))
    (v : Value) (hy : A.eval y = v) (vs : List Value) (hvs : v.cells.toList = vs) (hsz : ∀ w, (sizeOf T).run P w = .ok vs.length w) (h1 : ∀ u ∈ vs, u.oneCell' = true)
    (i : Nat) (T' : TypeId) (cs : List Value) (hi : own[i]? = some (g, T', cs)) (hl : off + vs.length ≤ cs.length)
    (h : ∀ w', St M w0 w' (own.set i (g, T', putL cs off vs)) → (∀ b, b ≠ g → w'.heap[b]? = w.heap[b]?) → w'.heap.size = w.heap.size → K (A.put o.dst undef) w') : Oper.wp P o A w K Q := by
  have hst : (storeCells ⟨g, off, none⟩ vs 0).run P w = .ok () (w.setCells g off vs) := run_storeCells_cells (P := P) g off vs 0 w
    (fun j hj => by rw [Nat.add_zero, st.cell hi]; rw [List.getElem?_eq_getElem (by omega)]; rfl) (fun j hj => by rw [Nat.add_zero]; exact st.free hi _) h1
  obtain ⟨a1, a2, a3, a4, a5, a6⟩ := setCells_block (w := w) vs off cs (st.blk _ (List.mem_of_getElem? hi))
  have hs' := st.put hi a1 a2 a3 a4 a5 a6
  have hcs : v.cells.size = vs.length := by rw [← hvs]; simp
  unfold Oper.wp
  simp only [execOp, ho, hx, hy, Instr.storeAt, Instr.sureAddr, storeVar, Sem.run_bind, Sem.run_pure, Result.andThen_ok, hsz, hcs, hvs, ne_eq, not_true, if_false, hst]
  exact (h _ hs' a2 a3)

/-! ### The same, for the arms of a walk: what is found by looking stands behind one existential -/

theorem wp_load' (st : St M w0 w own) (T : TypeId) (x : Operand) (ho : o.op = .load T x) (hagg : ∀ w, (isAgg T).run P w = .ok false w)
    (h : ∃ (i g off : Nat) (T' : TypeId) (cs : List Value) (v : Value), A.eval x = .pointer (some ⟨g, off, none⟩) ∧ own[i]? = some (g, T', cs) ∧ cs[off]? = some v ∧ K (A.put o.dst v) w) : Oper.wp P o A w K Q := by
  obtain ⟨i, g, off, T', cs, v, hx, hi, hv, h⟩ := h
  exact wp_load st T x ho g off hx hagg i T' cs hi v hv h

theorem wp_load_agg' (st : St M w0 w own) (T : TypeId) (x : Operand) (ho : o.op = .load T x) (hagg : ∀ w, (isAgg T).run P w = .ok true w) (n : Nat) (hsz : ∀ w, (sizeOf T).run P w = .ok n w)
    (h : ∃ (i g off : Nat) (T' : TypeId) (cs vs : List Value), A.eval x = .pointer (some ⟨g, off, none⟩) ∧ own[i]? = some (g, T', cs) ∧ (cs.drop off).take n = vs ∧ vs.length = n ∧ K (A.put o.dst (.agg vs.toArray)) w) : Oper.wp P o A w K Q := by
  obtain ⟨i, g, off, T', cs, vs, hx, hi, hv, hl, h⟩ := h
  exact wp_load_agg st T x ho g off hx hagg n hsz i T' cs hi vs hv hl h

theorem wp_store' (st : St M w0 w own) (T : TypeId) (x y : Operand) (ho : o.op = .store T x y) (n : Nat) (hsz : ∀ w, (sizeOf T).run P w = .ok n w)
    (h : ∃ (i g off : Nat) (T' : TypeId) (cs vs : List Value), A.eval x = .pointer (some ⟨g, off, none⟩) ∧ own[i]? = some (g, T', cs) ∧ (A.eval y).cells.toList = vs ∧ vs.length = n ∧ vs.all Value.oneCell' = true ∧ Nat.ble (off + vs.length) cs.length = true ∧
      ∀ w', St M w0 w' (own.set i (g, T', putL cs off vs)) → (∀ b, b ≠ g → w'.heap[b]? = w.heap[b]?) → w'.heap.size = w.heap.size → K (A.put o.dst undef) w') : Oper.wp P o A w K Q := by
  obtain ⟨i, g, off, T', cs, vs, hx, hi, hv, hl, h1, hle, h⟩ := h
  exact wp_store st T x y ho g off hx _ rfl vs hv (by rw [hl]; exact hsz) (by simpa using h1) i T' cs hi (Nat.le_of_ble_eq_true hle) h

end
end Go.Proofs.Ytbngblmdcggfdaa

/- The walk through line.Answered's closure and the library's IndexFunc with it. -/
namespace Go.Proofs.Ytbngblmdcggfdaa
open Go.RowKit

/-- A list of ours, opened: the block that it lies in, cell for cell. -/
theorem Own.open {base : Nat} {e : TypeId} {w : World} {α : Type} {sz : Nat} {R : List Value → α → Prop} {a : Option Addr} {c : Nat} {xs : List α} (h : Own base e w sz R a c xs) :
    (a = none ∧ xs = []) ∨ ∃ (g : Nat) (css : List (List Value)) (rest : List Value), a = some ⟨g, 0, none⟩ ∧ base ≤ g ∧ w.heap[g]? = some (.cells (css.flatten ++ rest).toArray e (0, 0)) ∧ css.length = xs.length ∧ (∀ cs ∈ css, cs.length = sz ∧ ∀ v ∈ cs, v.oneCell' = true) ∧
      (∀ (i : Nat) (x : α) (cs : List Value), xs[i]? = some x → css[i]? = some cs → R cs x) ∧ c ≤ maxLen ∧ xs.length ≤ c ∧ (css.flatten ++ rest).length = c * sz := by
  obtain ⟨css, h1, h2, h3, h4, h5⟩ := h
  rcases h5 with ⟨e1, e2⟩ | ⟨g, cap, cur, e1, hb, hg, hn, hm, hs, ht⟩
  · simp at e1
    exact .inl ⟨e1.1, List.eq_nil_of_length_eq_zero e2⟩
  · simp only [Value.slice.injEq] at e1
    obtain ⟨rfl, _, rfl⟩ := e1
    have hc : css.flatten ++ cur.toList.drop (xs.length * sz) = cur.toList := by rw [← ht, List.take_append_drop]
    refine .inr ⟨g, css, cur.toList.drop (xs.length * sz), rfl, hb, ?_, h1, h2, h3, hm, hn, ?_⟩
    · rw [hc]; simpa using hg
    · rw [hc]; simpa using hs

set_option maxHeartbeats 400000 in
/-- The closure: is it the one that is answered? -/
abbrev atSeq (seq : Int) (s : Sent) : Bool := s.frame.seq == seq

end Go.Proofs.Ytbngblmdcggfdaa

/- The law on a region that draws its order, with a ghost: what the operations have made so far. No program is in sight. -/
namespace Go.Proofs.Ytbngblmdcggfdaa
open Go.RowKit

section
variable {P : Program} {ops : Array Oper} {Q : Exit → Act → World → Prop}

/-- As wpAny_ahead; Rel tells which operation acts, and no operation need keep what it says itself; s is a ghost. -/
theorem wpAny_ghost (D : List (Nat × Option Tmp)) (S : List Nat) (hS : D.map (·.1) = S) (hok : aheadOk ops D = true) {σ : Type} (Rel : Nat → σ → World → σ → World → Prop) (G : Nat → Value → σ → World → Prop) (Inv : σ → World → Prop) (a0 : Act) (r : Nat)
    (mono : ∀ i k v s w s' w', i ∈ S → k ∈ S → i ≠ k → k ∉ predsOf ops i → Rel k s w s' w' → Inv s w → Inv s' w' → G i v s w → G i v s' w')
    (step : ∀ i t, (i, t) ∈ D → ∀ (x : Nat → Value) (s : σ) (w : World), Inv s w → (∀ j ∈ predsOf ops i, G j (x j) s w) → ∀ K : Act → World → Prop,
      (∀ v s' w', Rel i s w s' w' → Inv s' w' → G i v s' w' → K ((putAll x D a0).put t v) w') → wpOp P ops Q i K (putAll x D a0) w)
    (fin : ∀ (x : Nat → Value) (s : σ) (w : World), Inv s w → (∀ i ∈ S, G i (x i) s w) → wpAny P .any ops Q r (marked ops.size S) (putAll x D a0) w) :
    ∀ (k : Nat) (L : List Nat) (x : Nat → Value) (s : σ) (w : World), L.Nodup → (∀ i ∈ L, i ∈ S) → (∀ i ∈ L, ∀ j ∈ predsOf ops i, j ∈ L) → L.length + k = S.length → Inv s w → (∀ i ∈ L, G i (x i) s w) →
      wpAny P .any ops Q (k + r) (marked ops.size L) (putAll x D a0) w := by
  subst hS
  simp only [aheadOk, Bool.and_eq_true, List.all_eq_true, decide_eq_true_eq, List.mem_range] at hok
  obtain ⟨⟨hc1, hc2⟩, hc4⟩ := hok
  have hSn : (D.map (·.1)).Nodup := List.pairwise_map.2 (hc4.imp fun h => h.1)
  intro k
  induction k with
  | zero =>
    intro L x s w hL hsub hcl hlen hI hG
    have hall : ∀ i, i ∈ L ↔ i ∈ D.map (·.1) := fun i => ⟨hsub i, fun hi => Classical.byContradiction fun hn => by
      have h1 := nodup_le (List.nodup_cons.2 ⟨hn, hL⟩) fun j hj => by
        rcases List.mem_cons.1 hj with rfl | hj
        · exact hi
        · exact hsub j hj
      simp only [List.length_cons] at h1; omega⟩
    rw [Nat.zero_add, marked_congr hall]
    exact fin x s w hI fun i hi => hG i ((hall i).2 hi)
  | succ k ih =>
    intro L x s w hL hsub hcl hlen hI hG
    have hmem : ∀ i, i ∈ Region.ready .any ops (marked ops.size L) ↔ i < ops.size ∧ i ∉ L ∧ ∃ o, ops[i]? = some o ∧ ∀ e ∈ o.after, Region.binds .any e = true → e.on ∈ L ∧ e.on < ops.size := by
      intro i
      simp only [Region.ready, List.mem_filter, List.mem_range, Bool.and_eq_true, Bool.not_eq_true']
      constructor
      · rintro ⟨h1, h2, h3⟩
        rw [marked_get h1] at h2
        refine ⟨h1, by simpa using h2, ops[i], by simp [h1], fun e he hb => ?_⟩
        simp only [h1, getElem?_pos, Option.map_some, Option.getD_some, Array.all_eq_true_iff_forall_mem] at h3
        have := h3 e he
        rw [hb] at this
        simp only [Bool.not_true, Bool.false_or] at this
        by_cases hlt : e.on < ops.size
        · rw [marked_get hlt] at this
          exact ⟨by simpa using this, hlt⟩
        · have : (marked ops.size L).getD e.on false = false := by simp [marked, Array.getD, hlt]
          simp_all
      · rintro ⟨h1, h2, o, ho, h3⟩
        refine ⟨h1, by rw [marked_get h1]; simpa using h2, ?_⟩
        simp only [ho, Option.map_some, Option.getD_some, Array.all_eq_true_iff_forall_mem]
        intro e he
        cases hb : Region.binds .any e
        · simp
        · obtain ⟨h4, h5⟩ := h3 e he hb
          rw [marked_get h5]
          simpa using h4
    rw [show k + 1 + r = (k + r) + 1 by omega]
    refine ⟨fun hnil => ?_, fun i hi => ?_⟩
    · exfalso
      -- the least of S that is not carried out yet is ready
      have hex : ∃ i, i ∈ D.map (·.1) ∧ i ∉ L := Classical.byContradiction fun hn => by
        have h1 := nodup_le hSn (S := L) fun j hj => Classical.byContradiction fun hj' => hn ⟨j, hj, hj'⟩
        omega
      obtain ⟨i, ⟨hiS, hiL⟩, hmin⟩ : ∃ i, (i ∈ D.map (·.1) ∧ i ∉ L) ∧ ∀ j, j < i → ¬ (j ∈ D.map (·.1) ∧ j ∉ L) := by
        obtain ⟨i0, h0⟩ := hex
        induction i0 using Nat.strongRecOn with
        | _ i0 ih0 =>
          by_cases h : ∃ j, j < i0 ∧ j ∈ D.map (·.1) ∧ j ∉ L
          · obtain ⟨j, hj, hjS⟩ := h
            exact ih0 j hj hjS
          · exact ⟨i0, h0, fun j hj hjS => h ⟨j, hj, hjS⟩⟩
      obtain ⟨h1, h2⟩ := hc1 i hiS
      have : i ∈ Region.ready .any ops (marked ops.size L) := by
        rw [hmem]
        refine ⟨h1, hiL, ops[i], by simp [h1], fun e he hb => ?_⟩
        simp only [h1, getElem?_pos, Option.map_some, Option.getD_some, Array.all_eq_true_iff_forall_mem] at h2
        have h3 := h2 e he
        rw [hb] at h3
        simp only [Bool.not_true, Bool.false_or, Bool.and_eq_true, decide_eq_true_eq, List.contains_iff_mem] at h3
        exact ⟨Classical.byContradiction fun hn => hmin e.on h3.2 ⟨h3.1, hn⟩, (hc1 e.on h3.1).1⟩
      rw [hnil] at this
      simp at this
    · obtain ⟨h1, hiL, o, ho, hp⟩ := (hmem i).1 hi
      have hiS : i ∈ D.map (·.1) := by
        have h2 := hc2 i h1
        simp only [ho, Option.map_some, Option.getD_some, Bool.or_eq_true, List.contains_iff_mem, Array.any_eq_true', List.all_eq_true, Bool.and_eq_true, Bool.not_eq_true', beq_iff_eq] at h2
        rcases h2 with h2 | ⟨e, he, hb, hn⟩ | h2
        · exact h2
        · exfalso
          have := hsub _ (hp e he hb).1
          rw [← List.contains_iff_mem, hn] at this
          simp at this
        · exfalso
          have h4 : ∀ j ∈ predsOf ops i, j ∈ L := fun j hj => by
            simp only [predsOf, ho, Option.map_some, Option.getD_some, List.mem_map, List.mem_filter, Array.mem_toList_iff] at hj
            obtain ⟨e, ⟨he, hb⟩, rfl⟩ := hj
            exact (hp e he hb).1
          have h3 := nodup_le hSn (S := L) fun j hj => anc_sub hcl _ i h4 j (h2 j hj)
          omega
      have hpreL : ∀ j ∈ predsOf ops i, j ∈ L := fun j hj => by
        simp only [predsOf, ho, Option.map_some, Option.getD_some, List.mem_map, List.mem_filter, Array.mem_toList_iff] at hj
        obtain ⟨e, ⟨he, hb⟩, rfl⟩ := hj
        exact (hp e he hb).1
      have hpre : ∀ j ∈ predsOf ops i, G j (x j) s w := fun j hj => by
        simp only [predsOf, ho, Option.map_some, Option.getD_some, List.mem_map, List.mem_filter, Array.mem_toList_iff] at hj
        obtain ⟨e, ⟨he, hb⟩, rfl⟩ := hj
        exact hG _ (hp e he hb).1
      obtain ⟨⟨i', t⟩, hit, hii⟩ := List.mem_map.1 hiS
      have hii' : i = i' := hii.symm
      subst hii'
      refine step i t hit x s w hI hpre _ fun v s' w' hbw hI' hGv => ?_
      rw [put_putAll hit hc4, marked_set]
      refine ih (i :: L) (upd x i v) s' w' (List.nodup_cons.2 ⟨hiL, hL⟩) (fun j hj => ?_) (fun j hj m hm => ?_) (by simp only [List.length_cons]; omega) hI' fun j hj => ?_
      · rcases List.mem_cons.1 hj with rfl | hj
        · exact hiS
        · exact hsub j hj
      · rcases List.mem_cons.1 hj with rfl | hjL
        · exact List.mem_cons_of_mem _ (hpreL m hm)
        · exact List.mem_cons_of_mem _ (hcl j hjL m hm)
      · rcases List.mem_cons.1 hj with rfl | hjL
        · simpa [upd] using hGv
        · have hne : j ≠ i := by rintro rfl; exact hiL hjL
          rw [show upd x i v j = x j by simp [upd, hne]]
          exact mono j i _ s w s' w' (hsub j hjL) hiS hne (fun hm => hiL (hcl j hjL i hm)) hbw hI hI' (hG j hjL)

/-- THE LAW, at a region: the operations S come first, in whatever order; of each there is known G, in whatever order; the others follow. -/
theorem wp_region_ghost {id : Nat} {a0 : Act} {w : World} (hm : P.follows .mixedOrders = true) (D : List (Nat × Option Tmp)) (S : List Nat) (hS : D.map (·.1) = S) (r : Nat) (hok : aheadOk ops D = true) (hr : S.length + r = ops.size) {σ : Type} (Rel : Nat → σ → World → σ → World → Prop) (G : Nat → Value → σ → World → Prop) (Inv : σ → World → Prop) (s0 : σ) (hI : Inv s0 w.drew)
    (mono : ∀ i k v s w s' w', i ∈ S → k ∈ S → i ≠ k → k ∉ predsOf ops i → Rel k s w s' w' → Inv s w → Inv s' w' → G i v s w → G i v s' w')
    (step : ∀ i t, (i, t) ∈ D → ∀ (x : Nat → Value) (s : σ) (w : World), Inv s w → (∀ j ∈ predsOf ops i, G j (x j) s w) → ∀ K : Act → World → Prop,
      (∀ v s' w', Rel i s w s' w' → Inv s' w' → G i v s' w' → K ((putAll x D a0).put t v) w') → wpOp P ops Q i K (putAll x D a0) w)
    (fin : ∀ (x : Nat → Value) (s : σ) (w : World), Inv s w → (∀ i ∈ S, G i (x i) s w) → wpAny P .any ops Q r (marked ops.size S) (putAll x D a0) w) : (Code.region id ops true).wp P Q a0 w := by
  refine wp_region_any hm ?_
  rw [marked_nil]
  have h := wpAny_ghost (P := P) (Q := Q) D S hS hok Rel G Inv a0 r mono step fin S.length [] (lookD D a0) s0 w.drew List.nodup_nil (by simp) (by simp) (by simp) hI (by simp)
  rw [putAll_same a0 (lookD_at (by simp only [aheadOk, Bool.and_eq_true, decide_eq_true_eq] at hok; exact hok.2)), hr] at h
  exact h

end

theorem St.perm {M : List Nat} {w0 w : World} {own own' : Blks} (h : St M w0 w own) (hp : own.Perm own') : St M w0 w own' :=
  ⟨h.os, h.tape, h.output, h.size, h.frame, fun x hx => h.blk x (hp.mem_iff.2 hx), fun x hx => h.mine x (hp.mem_iff.2 hx), hp.pairwise h.ne fun h => h.symm⟩

theorem St.sub {M : List Nat} {w0 w : World} {own own' : Blks} (h : St M w0 w own) (hs : ∀ x ∈ own', x ∈ own) (hn : own'.Pairwise fun x y => x.1 ≠ y.1) : St M w0 w own' :=
  ⟨h.os, h.tape, h.output, h.size, h.frame, fun x hx => h.blk x (hs x hx), fun x hx => h.mine x (hs x hx), hn⟩

/-- What has been made since, beside what was known before. -/
theorem St.join {M : List Nat} {w0 w w' : World} {own own' : Blks} (h : St M w0 w own) (h' : St [] w w' own') : St M w0 w' (own ++ own') := by
  have hc := h.call h'.below
  refine ⟨hc.os, hc.tape, hc.output, hc.size, hc.frame, fun x hx => ?_, fun x hx => ?_, List.pairwise_append.2 ⟨h.ne, h'.ne, fun x hx y hy => ?_⟩⟩
  · rcases List.mem_append.1 hx with hx | hx
    · exact hc.blk x hx
    · exact h'.blk x hx
  · rcases List.mem_append.1 hx with hx | hx
    · exact h.mine x hx
    · rcases h'.mine x hx with h1 | h1
      · simp at h1
      · exact .inr (Nat.le_trans h.size h1)
  · have h1 := h.lt hx
    rcases h'.mine y hy with h2 | h2
    · simp at h2
    · omega

theorem putL_all : ∀ {cs vs : List Value}, vs.length = cs.length → putL cs 0 vs = vs
  | [], [], _ => rfl
  | [], _ :: _, h => by simp at h
  | _ :: _, [], h => by simp at h
  | c :: cs, v :: vs, h => by simp only [putL]; rw [putL_all (by simpa using h)]

/-- What two operations have made: their blocks, with their cells. -/
abbrev Two := Option (Nat × List Value) × Option (Nat × List Value)
def Two.own (T1 T2 : TypeId) (s : Two) : Blks := (s.1.map fun p => (p.1, T1, p.2)).toList ++ (s.2.map fun p => (p.1, T2, p.2)).toList
def Two.held (s : Two) (b : Nat) : Prop := s.1.map (·.1) = some b ∨ s.2.map (·.1) = some b
def Two.free (s : Two) (b : Nat) : Prop := ¬ s.held b

/-- The k-th operation has acted; a1, a2 are those that make the blocks, s1, s2 those that store there. -/
structure Two.Rel (a1 s1 a2 s2 k : Nat) (s : Two) (w : World) (s' : Two) (w' : World) : Prop where
  size : w.heap.size ≤ w'.heap.size
  keep : ∀ b, b < w.heap.size → s.free b → s'.free b ∧ w'.heap[b]? = w.heap[b]?
  one : k ≠ a1 → k ≠ s1 → s'.1 = s.1
  two : k ≠ a2 → k ≠ s2 → s'.2 = s.2
  one' : k ≠ a1 → ∀ g c, s.1 = some (g, c) → ∃ c', s'.1 = some (g, c') ∧ c'.length = c.length
  two' : k ≠ a2 → ∀ g c, s.2 = some (g, c) → ∃ c', s'.2 = some (g, c') ∧ c'.length = c.length

theorem Two.Rel.below {a1 s1 a2 s2 k : Nat} {s : Two} {w w' : World} (hb : Below w.heap.size w w') : Two.Rel a1 s1 a2 s2 k s w s w' :=
  ⟨hb.size, fun b hb' hf => ⟨hf, hb.block b hb'⟩, fun _ _ => rfl, fun _ _ => rfl, fun _ g c h => ⟨c, h, rfl⟩, fun _ g c h => ⟨c, h, rfl⟩⟩

theorem Two.old {B w : World} {T1 T2 : TypeId} {s : Two} (st : St [] B w (s.own T1 T2)) {b : Nat} (hb : b < B.heap.size) : s.free b := by
  intro hh
  obtain ⟨o1, o2⟩ := s
  rcases hh with hh | hh
  · cases o1 with
    | none => simp at hh
    | some p => have := st.mine (p.1, T1, p.2) (by simp [Two.own]); simp at hh; simp at this; omega
  · cases o2 with
    | none => simp at hh
    | some p => have := st.mine (p.1, T2, p.2) (by simp [Two.own]); simp at hh; simp at this; omega

theorem Two.new {B w : World} {T1 T2 : TypeId} {s : Two} (st : St [] B w (s.own T1 T2)) {b : Nat} (hb : w.heap.size ≤ b) : s.free b := by
  intro hh
  obtain ⟨o1, o2⟩ := s
  rcases hh with hh | hh
  · cases o1 with
    | none => simp at hh
    | some p => have := st.lt (x := (p.1, T1, p.2)) (by simp [Two.own]); simp at hh; simp at this; omega
  · cases o2 with
    | none => simp at hh
    | some p => have := st.lt (x := (p.1, T2, p.2)) (by simp [Two.own]); simp at hh; simp at this; omega

section
variable {P : Program} {B w : World} {T1 T2 : TypeId} {s : Two} {o : Oper} {A : Act} {Q : Exit → Act → World → Prop} {K : Act → World → Prop}

theorem Two.alloc1 (a1 s1 a2 s2 : Nat) (st : St [] B w (s.own T1 T2)) (ho : o.op = .alloc T1) (z : Value) (hz : ∀ w, (zeroValue T1).run P w = .ok z w) (cs : List Value) (hcs : z.cells.toList = cs)
    (h : ∀ (g : Nat) w', Two.Rel a1 s1 a2 s2 a1 s w (some (g, cs), s.2) w' → St [] B w' (Two.own T1 T2 (some (g, cs), s.2)) → K (A.put o.dst (.pointer (some ⟨g, 0, none⟩))) w') : Oper.wp P o A w K Q := by
  refine wp_alloc (St.start w) T1 ho z hz cs hcs fun g w' hg st' hb => h g w' ?_ ?_
  · refine ⟨hb.size, fun b hb' hf => ⟨?_, hb.block b hb'⟩, ?_, ?_, ?_, ?_⟩
    · intro hh
      apply hf
      rcases hh with hh | hh
      · first | exact .inl hh | (simp at hh; omega)
      · first | exact .inr hh | (simp at hh; omega)
    · first | exact fun _ _ => rfl | exact fun h _ => absurd rfl h
    · first | exact fun _ _ => rfl | exact fun h _ => absurd rfl h
    · first | exact fun _ g c h => ⟨c, h, rfl⟩ | exact fun h => absurd rfl h
    · first | exact fun _ g c h => ⟨c, h, rfl⟩ | exact fun h => absurd rfl h
  · refine (st.join st').sub ?_ ?_
    · obtain ⟨o1, o2⟩ := s
      cases o1 <;> cases o2 <;> simp [Two.own] <;> simp_all
    · obtain ⟨o1, o2⟩ := s
      have hlt := fun x hx => st.lt (x := x) hx
      cases o1 <;> cases o2 <;> simp [Two.own] <;> (try (simp [Two.own] at hlt)) <;> omega
theorem Two.alloc2 (a1 s1 a2 s2 : Nat) (st : St [] B w (s.own T1 T2)) (ho : o.op = .alloc T2) (z : Value) (hz : ∀ w, (zeroValue T2).run P w = .ok z w) (cs : List Value) (hcs : z.cells.toList = cs)
    (h : ∀ (g : Nat) w', Two.Rel a1 s1 a2 s2 a2 s w (s.1, some (g, cs)) w' → St [] B w' (Two.own T1 T2 (s.1, some (g, cs))) → K (A.put o.dst (.pointer (some ⟨g, 0, none⟩))) w') : Oper.wp P o A w K Q := by
  refine wp_alloc (St.start w) T2 ho z hz cs hcs fun g w' hg st' hb => h g w' ?_ ?_
  · refine ⟨hb.size, fun b hb' hf => ⟨?_, hb.block b hb'⟩, ?_, ?_, ?_, ?_⟩
    · intro hh
      apply hf
      rcases hh with hh | hh
      · first | exact .inl hh | (simp at hh; omega)
      · first | exact .inr hh | (simp at hh; omega)
    · first | exact fun _ _ => rfl | exact fun h _ => absurd rfl h
    · first | exact fun _ _ => rfl | exact fun h _ => absurd rfl h
    · first | exact fun _ g c h => ⟨c, h, rfl⟩ | exact fun h => absurd rfl h
    · first | exact fun _ g c h => ⟨c, h, rfl⟩ | exact fun h => absurd rfl h
  · refine (st.join st').sub ?_ ?_
    · obtain ⟨o1, o2⟩ := s
      cases o1 <;> cases o2 <;> simp [Two.own] <;> simp_all
    · obtain ⟨o1, o2⟩ := s
      have hlt := fun x hx => st.lt (x := x) hx
      cases o1 <;> cases o2 <;> simp [Two.own] <;> (try (simp [Two.own] at hlt)) <;> omega

theorem Two.store1 (a1 s1 a2 s2 : Nat) (st : St [] B w (s.own T1 T2)) (T : TypeId) (x y : Operand) (ho : o.op = .store T x y) (n : Nat) (hsz : ∀ w, (sizeOf T).run P w = .ok n w) (g : Nat) (c : List Value) (hs : s.1 = some (g, c)) (hx : A.eval x = .pointer (some ⟨g, 0, none⟩)) (vs : List Value) (hy : (A.eval y).cells.toList = vs) (hl : vs.length = n) (hn : c.length = n) (h1 : vs.all Value.oneCell' = true)
    (h : ∀ w', Two.Rel a1 s1 a2 s2 s1 s w (some (g, vs), s.2) w' → St [] B w' (Two.own T1 T2 (some (g, vs), s.2)) → K (A.put o.dst undef) w') : Oper.wp P o A w K Q := by
  obtain ⟨o1, o2⟩ := s
  simp only at hs
  subst hs
  refine wp_store' st T x y ho n hsz ⟨0, g, 0, T1, c, vs, hx, rfl, hy, hl, h1, ?_, fun w' st' hm hz => h w' ?_ ?_⟩
  · rw [Nat.ble_eq]; omega
  · refine ⟨by omega, fun b hb hf => ⟨hf, hm b fun e => hf (.inl (by simp [e]))⟩, fun _ h => absurd rfl h, fun _ _ => rfl, fun _ g' c' e => ?_, fun _ g c h => ⟨c, h, rfl⟩⟩
    simp at e
    exact ⟨vs, by simp [e.1], by rw [← e.2]; omega⟩
  · rw [putL_all (by omega)] at st'
    exact st'

theorem Two.store2 (a1 s1 a2 s2 : Nat) (st : St [] B w (s.own T1 T2)) (T : TypeId) (x y : Operand) (ho : o.op = .store T x y) (n : Nat) (hsz : ∀ w, (sizeOf T).run P w = .ok n w) (g : Nat) (c : List Value) (hs : s.2 = some (g, c)) (hx : A.eval x = .pointer (some ⟨g, 0, none⟩)) (vs : List Value) (hy : (A.eval y).cells.toList = vs) (hl : vs.length = n) (hn : c.length = n) (h1 : vs.all Value.oneCell' = true)
    (h : ∀ w', Two.Rel a1 s1 a2 s2 s2 s w (s.1, some (g, vs)) w' → St [] B w' (Two.own T1 T2 (s.1, some (g, vs))) → K (A.put o.dst undef) w') : Oper.wp P o A w K Q := by
  obtain ⟨o1, o2⟩ := s
  simp only at hs
  subst hs
  cases o1 with
  | none =>
    refine wp_store' st T x y ho n hsz ⟨0, g, 0, T2, c, vs, hx, rfl, hy, hl, h1, ?_, fun w' st' hm hz => h w' ?_ ?_⟩
    · rw [Nat.ble_eq]; omega
    · refine ⟨by omega, fun b hb hf => ⟨hf, hm b fun e => hf (.inr (by simp [e]))⟩, fun _ _ => rfl, fun _ h => absurd rfl h, fun _ g c h => ⟨c, h, rfl⟩, fun _ g' c' e => ?_⟩
      simp at e
      exact ⟨vs, by simp [e.1], by rw [← e.2]; omega⟩
    · rw [putL_all (by omega)] at st'
      exact st'
  | some p =>
    refine wp_store' st T x y ho n hsz ⟨1, g, 0, T2, c, vs, hx, rfl, hy, hl, h1, ?_, fun w' st' hm hz => h w' ?_ ?_⟩
    · rw [Nat.ble_eq]; omega
    · refine ⟨by omega, fun b hb hf => ⟨hf, hm b fun e => hf (.inr (by simp [e]))⟩, fun _ _ => rfl, fun _ h => absurd rfl h, fun _ g c h => ⟨c, h, rfl⟩, fun _ g' c' e => ?_⟩
      simp at e
      exact ⟨vs, by simp [e.1], by rw [← e.2]; omega⟩
    · rw [putL_all (by omega)] at st'
      exact st'

end

theorem SlR.two {a1 s1 a2 s2 k : Nat} {s s' : Two} {w w' : World} {α : Type} {sz : Nat} {R : List Value → α → Prop} {a : Option Addr} {c : Nat} {xs : List α} (h : SlR s.free w sz R a c xs) (hr : Two.Rel a1 s1 a2 s2 k s w s' w') : SlR s'.free w' sz R a c xs :=
  h.move hr.size (fun b hb ho => hr.keep b hb ho) fun _ _ h => h

end Go.Proofs.Ytbngblmdcggfdaa

/- The walk through the library's DeleteFunc with line.Answered's closure. -/
namespace Go.Proofs.Ytbngblmdcggfdaa
open Go.RowKit

theorem flat_at {sz : Nat} {rest : List Value} : ∀ {css : List (List Value)}, (∀ cs ∈ css, cs.length = sz) → ∀ {i : Nat} {cs : List Value}, css[i]? = some cs → ((css.flatten ++ rest).drop (i * sz)).take sz = cs
  | [], _, i, cs, h => by simp at h
  | c0 :: css, hs, 0, cs, h => by
    simp at h
    subst h
    have := hs c0 (by simp)
    simp [List.take_append_of_le_length, ← this]
  | c0 :: css, hs, i + 1, cs, h => by
    have hc := hs c0 (by simp)
    have := flat_at (rest := rest) (css := css) (fun c hc => hs c (by simp [hc])) (i := i) (cs := cs) (by simpa using h)
    rw [← this]
    simp only [List.flatten_cons, List.append_assoc]
    rw [show (i + 1) * sz = c0.length + i * sz by rw [hc, Nat.succ_mul]; omega, ← List.drop_drop, List.drop_left]

theorem putL_skip : ∀ (us : List Value) {cs vs : List Value} (o : Nat), putL (us ++ cs) (us.length + o) vs = us ++ putL cs o vs
  | [], _, _, o => by simp
  | u :: us, cs, vs, o => by
    have := putL_skip us (cs := cs) (vs := vs) o
    simp only [List.cons_append, List.length_cons]
    rw [show us.length + 1 + o = us.length + o + 1 by omega]
    simp only [putL, this]

theorem putL_front : ∀ {cs vs rest : List Value}, vs.length = cs.length → putL (cs ++ rest) 0 vs = vs ++ rest
  | [], [], rest, _ => by cases rest <;> rfl
  | [], _ :: _, _, h => by simp at h
  | _ :: _, [], _, h => by simp at h
  | c :: cs, v :: vs, rest, h => by simp only [List.cons_append, putL]; rw [putL_front (by simpa using h)]

theorem flat_put {sz : Nat} {rest vs : List Value} (hv : vs.length = sz) : ∀ {css : List (List Value)}, (∀ cs ∈ css, cs.length = sz) → ∀ {i : Nat}, i < css.length → putL (css.flatten ++ rest) (i * sz) vs = (css.set i vs).flatten ++ rest
  | [], _, i, h => by simp at h
  | c0 :: css, hs, 0, h => by
    have hc := hs c0 (by simp)
    simp only [List.flatten_cons, List.append_assoc, Nat.zero_mul, List.set_cons_zero]
    exact putL_front (by omega)
  | c0 :: css, hs, i + 1, h => by
    have hc := hs c0 (by simp)
    have := flat_put (rest := rest) hv (css := css) (fun c hc => hs c (by simp [hc])) (i := i) (by simpa using h)
    simp only [List.flatten_cons, List.append_assoc, List.set_cons_succ]
    rw [show (i + 1) * sz = c0.length + i * sz by rw [hc, Nat.succ_mul]; omega, putL_skip, this]

theorem flat_len {sz : Nat} {css : List (List Value)} (h : ∀ cs ∈ css, cs.length = sz) : css.flatten.length = css.length * sz := flatten_length h

theorem zero_cells (z : Array Value) (hz : 0 < z.size) (n : Nat) : (Builtin.zeroCells z n).toList = (List.replicate n z.toList).flatten := by
  apply List.ext_getElem?
  intro i
  have hl : ∀ cs ∈ List.replicate n z.toList, cs.length = z.size := fun cs h => by rw [List.eq_of_mem_replicate h]; simp
  by_cases hi : i < n * z.size
  · have h1 : i / z.size < n := Nat.div_lt_of_lt_mul (by rwa [Nat.mul_comm])
    have h2 := flatten_at hl (i := i / z.size) (cs := z.toList) (by rw [List.getElem?_replicate, if_pos h1]) (j := i % z.size) (v := z[i % z.size]'(Nat.mod_lt _ hz)) (by simp [List.getElem?_eq_getElem, Nat.mod_lt _ hz])
    rw [Nat.mul_comm, Nat.div_add_mod] at h2
    rw [h2]
    simp [Builtin.zeroCells, Array.getElem?_ofFn, hi, Nat.mod_lt _ hz]
  · rw [List.getElem?_eq_none, List.getElem?_eq_none]
    · rw [flatten_length hl]; simp; omega
    · simp [Builtin.zeroCells]; omega

theorem wpList_clear {P : Program} {w0 w : World} {M : List Nat} {own : Blks} {ops : Array Oper} {rest : List Oper} {o : Oper} {A : Act} {Q : Exit → Act → World → Prop} (st : St M w0 w own) (hgd : Region.wanted o (yielded ops A.tmps) = true) (x : Operand) (t e : TypeId)
    (ho : o.op = .call { callee := .builtin .clear, args := #[x], argTypes := #[t] }) (ht : P.underlying t = some (.slice e)) (z : Value) (hz : ∀ w, (zeroValue e).run P w = .ok z w) (zs : List Value) (hzs : z.cells.toList = zs) (hz0 : 0 < zs.length) (h1 : zs.all Value.oneCell' = true)
    (g off n c : Nat) (hx : A.eval x = .slice (some ⟨g, off, none⟩) n c) (hn : 0 < n) (i : Nat) (T : TypeId) (cs : List Value) (hi : own[i]? = some (g, T, cs)) (hle : off + n * zs.length ≤ cs.length)
    (h : ∀ w', St M w0 w' (own.set i (g, T, putL cs off (List.replicate n zs).flatten)) → w'.heap.size = w.heap.size → wpList P ops Q rest (A.put o.dst (.tuple #[])) w') : wpList P ops Q (o :: rest) A w := by
  have hsz : z.cells.size = zs.length := by rw [← hzs]; simp
  have hlz : ∀ cs ∈ List.replicate n zs, cs.length = zs.length := fun cs h => by rw [List.eq_of_mem_replicate h]
  have hvl : (List.replicate n zs).flatten.length = n * zs.length := by rw [flatten_length hlz]; simp
  have hzc : (Builtin.zeroCells z.cells n).toList = (List.replicate n zs).flatten := by rw [zero_cells _ (by omega), hzs]
  have hone : ∀ u ∈ (List.replicate n zs).flatten, u.oneCell' = true := fun u hu => by
    obtain ⟨cs, hcs, hu⟩ := List.mem_flatten.1 hu
    rw [List.eq_of_mem_replicate hcs] at hu
    exact List.all_eq_true.1 h1 u hu
  have hst : (storeCells ⟨g, off, none⟩ (List.replicate n zs).flatten 0).run P w = .ok () (w.setCells g off (List.replicate n zs).flatten) := run_storeCells_cells (P := P) g off _ 0 w
    (fun j hj => by rw [Nat.add_zero, st.cell hi]; rw [List.getElem?_eq_getElem (by omega)]; rfl) (fun j hj => by rw [Nat.add_zero]; exact st.free hi _) hone
  obtain ⟨a1, a2, a3, a4, a5, a6⟩ := setCells_block (w := w) (List.replicate n zs).flatten off cs (st.blk _ (List.mem_of_getElem? hi))
  have hs' := st.put hi a1 a2 a3 a4 a5 a6
  obtain ⟨m, rfl⟩ : ∃ m, n = m + 1 := ⟨n - 1, by omega⟩
  have hrun : ∀ ty, (Builtin.clear_ #[t] ty #[.slice (some ⟨g, off, none⟩) (m + 1) c]).run P w = .ok (.tuple #[]) (w.setCells g off (List.replicate (m + 1) zs).flatten) := fun ty => by
    simp [Builtin.clear_, run_underlying ht, hz, hzc, hst]
  refine wpList_wanted hgd fun K hK => ?_
  unfold Oper.wp
  simp [execOp, ho, resolve, invoke, builtin, hx, hrun, Result.andThen]
  exact hK _ _ (h _ hs' a3)

theorem putL_before : ∀ {cs : List Value} {o : Nat} {vs : List Value} {p : Nat}, p < o → (putL cs o vs)[p]? = cs[p]?
  | [], _, _, _, _ => by simp [putL]
  | c :: cs, 0, _, _, h => by omega
  | c :: cs, o + 1, vs, 0, _ => by simp [putL]
  | c :: cs, o + 1, vs, p + 1, h => by simp only [putL, List.getElem?_cons_succ]; exact putL_before (by omega)

/-- The front of a block, as a slice. -/
theorem SlR.front {w : World} {g : Nat} {T : TypeId} {cells : List Value} {cur : List (List Value)} {sz c : Nat} {α : Type} {R : List Value → α → Prop} {xs : List α} (hg : w.heap[g]? = some (.cells cells.toArray T (0, 0))) (hc : ∀ cs ∈ cur, cs.length = sz ∧ ∀ v ∈ cs, v.oneCell' = true)
    (hn : xs.length ≤ cur.length) (hcell : ∀ p, p < xs.length * sz → cells[p]? = cur.flatten[p]?) (hR : ∀ (m : Nat) (x : α) (cs : List Value), xs[m]? = some x → cur[m]? = some cs → R cs x) (hxc : xs.length ≤ c) (hcm : c ≤ maxLen) {ok : Nat → Prop} (ho : ok g) : SlR ok w sz R (some ⟨g, 0, none⟩) c xs := by
  refine ⟨hxc, hcm, by simp, fun i x hx => ?_⟩
  have hi := (List.getElem?_eq_some_iff.1 hx).1
  have hcur : cur[i]? = some (cur[i]'(by omega)) := List.getElem?_eq_getElem _
  have hcs := hc _ (List.mem_of_getElem? hcur)
  refine ⟨g, 0, cur[i]'(by omega), rfl, ho, (Array.getElem?_eq_some_iff.1 hg).1, hR i x _ hx hcur, hcs.1, hcs.2, fun j v hv => ?_⟩
  have hj := (List.getElem?_eq_some_iff.1 hv).1
  rw [hcs.1] at hj
  rw [cell_of_row w g _ cells.toArray T (0, 0) hg, List.getElem?_toArray, Nat.zero_add, hcell _ (by
    have : (i + 1) * sz ≤ xs.length * sz := Nat.mul_le_mul_right _ hi
    rw [Nat.succ_mul] at this
    omega)]
  exact flatten_at (fun cs h => (hc cs h).1) hcur hv

/-- Those that are kept. -/
abbrev offSeq (seq : Int) (s : Sent) : Bool := !(s.frame.seq == seq)

theorem del_keep {R : List Value → Sent → Prop} {q : Sent → Bool} {l : List Sent} {cur css : List (List Value)} {i j : Nat} (hjl : j < l.length) (hjc : j < css.length) (hq : q l[j] = true) (hi : i = ((l.take j).filter q).length) (hij : i < j) (hl : cur.length = l.length)
    (hB : ∀ (m : Nat) (x : Sent) (cs : List Value), ((l.take j).filter q)[m]? = some x → cur[m]? = some cs → R cs x) (hC : ∀ m, j ≤ m → cur[m]? = css[m]?) (hR : R css[j] l[j]) :
    i + 1 = ((l.take (j + 1)).filter q).length ∧ (∀ (m : Nat) (x : Sent) (cs : List Value), ((l.take (j + 1)).filter q)[m]? = some x → (cur.set i css[j])[m]? = some cs → R cs x) ∧ (∀ m, j + 1 ≤ m → (cur.set i css[j])[m]? = css[m]?) := by
  have e : (l.take (j + 1)).filter q = (l.take j).filter q ++ [l[j]] := by
    rw [List.take_succ_eq_append_getElem hjl, List.filter_append]
    simp [hq]
  rw [e]
  refine ⟨by simp [← hi], fun m x cs hx hc => ?_, fun m hm => ?_⟩
  · by_cases hm : m < i
    · rw [List.getElem?_append_left (by omega)] at hx
      rw [List.getElem?_set_ne (by omega)] at hc
      exact hB m x cs hx hc
    · have hlen := (List.getElem?_eq_some_iff.1 hx).1
      rw [List.length_append, ← hi, List.length_singleton] at hlen
      obtain rfl : m = i := by omega
      rw [List.getElem?_append_right (by omega), ← hi] at hx
      simp at hx
      rw [List.getElem?_set_self (by omega)] at hc
      simp at hc
      rw [← hx, ← hc]
      exact hR
  · rw [List.getElem?_set_ne (by omega)]
    exact hC m (by omega)

theorem del_drop {q : Sent → Bool} {l : List Sent} {j : Nat} (hjl : j < l.length) (hq : q l[j] = false) : (l.take (j + 1)).filter q = (l.take j).filter q := by
  rw [List.take_succ_eq_append_getElem hjl, List.filter_append]
  simp [hq]

end Go.Proofs.Ytbngblmdcggfdaa

/- The walk through the reference's word on good lines. -/
namespace Go.Proofs.Ytbngblmdcggfdaa
open Go.RowKit

end Go.Proofs.Ytbngblmdcggfdaa

/- The walk through line.Send. -/
namespace Go.Proofs.Ytbngblmdcggfdaa
open Go.RowKit

/-- A frame of nothing, as a value. -/
def frameZ : Value := .agg #[.int .i64 0, .int .i64 0, .int .i64 0, .bool false, .int .i64 0, .int .i64 0, .int .i64 0, .slice none 0 0, .slice none 0 0, .string ⟨#[]⟩, .slice none 0 0]

end Go.Proofs.Ytbngblmdcggfdaa

/- What lies apart from the blocks that a region's operations have made: lines' and frames' lists. -/
namespace Go.Proofs.Ytbngblmdcggfdaa
open Go.RowKit

theorem RSent.two {a1 s1 a2 s2 k : Nat} {s s' : Two} {w w' : World} (hr : Two.Rel a1 s1 a2 s2 k s w s' w') {cs : List Value} {x : Sent} (h : RSent s.free w cs x) : RSent s'.free w' cs x := h.move hr.size fun b hb ho => hr.keep b hb ho
theorem SentR.two {a1 s1 a2 s2 k : Nat} {s s' : Two} {w w' : World} {a : Option Addr} {c : Nat} {xs : List Sent} (h : SentR s.free w a c xs) (hr : Two.Rel a1 s1 a2 s2 k s w s' w') : SentR s'.free w' a c xs :=
  SlR.move h hr.size (fun b hb ho => hr.keep b hb ho) fun _ _ h => RSent.two hr h
theorem FrameR.two {a1 s1 a2 s2 k : Nat} {s s' : Two} {w w' : World} {f : Frame} {la : Option Addr} {lc : Nat} {ga : Option Addr} {gc : Nat} {ca : Option Addr} {cc : Nat} (h : FrameR s.free w f la lc ga gc ca cc) (hr : Two.Rel a1 s1 a2 s2 k s w s' w') : FrameR s'.free w' f la lc ga gc ca cc :=
  ⟨⟨h.mail.label.two hr, h.mail.grants.two hr⟩, h.certs.two hr⟩
theorem FrameR.move {ok ok' : Nat → Prop} {w w' : World} {f : Frame} {la : Option Addr} {lc : Nat} {ga : Option Addr} {gc : Nat} {ca : Option Addr} {cc : Nat} (h : FrameR ok w f la lc ga gc ca cc) (hs : w.heap.size ≤ w'.heap.size) (hk : ∀ b, b < w.heap.size → ok b → ok' b ∧ w'.heap[b]? = w.heap[b]?) : FrameR ok' w' f la lc ga gc ca cc :=
  ⟨⟨h.mail.label.move hs hk fun _ _ h => h, h.mail.grants.move hs hk fun _ _ h => h⟩, h.certs.move hs hk fun _ _ h => h⟩
theorem SentR.move {ok ok' : Nat → Prop} {w w' : World} {a : Option Addr} {c : Nat} {xs : List Sent} (h : SentR ok w a c xs) (hs : w.heap.size ≤ w'.heap.size) (hk : ∀ b, b < w.heap.size → ok b → ok' b ∧ w'.heap[b]? = w.heap[b]?) : SentR ok' w' a c xs :=
  SlR.move h hs hk fun _ _ h => RSent.move h hs hk

theorem fitsF {f : Frame} (h : f.fit) : f.Fits := by
  obtain ⟨_, _, _, _, _, ⟨_, _, ⟨h3, _⟩, ⟨h4, _⟩, _⟩, ⟨h5, _⟩⟩ := h
  exact ⟨by omega, by omega, by omega⟩

theorem fitsL {L : Line} (h : L.fit) : L.sent.length * 160 ≤ 140737488355328 ∧ ∀ s ∈ L.sent, s.frame.Fits := by
  obtain ⟨_, ⟨h1, h2⟩, _⟩ := h
  exact ⟨by omega, fun s hs => fitsF (h2 s hs).1⟩

end Go.Proofs.Ytbngblmdcggfdaa

/- The walks through line.Answered and the reference's word on it. -/
namespace Go.Proofs.Ytbngblmdcggfdaa
open Go.RowKit

/-- A call that leaves whatever lies below B as it was. -/
theorem St.callB {M : List Nat} {w0 w w' : World} {own : Blks} (h : St M w0 w own) {B : Nat} (hb : Below B w w') (h0 : w0.heap.size ≤ B) (hlt : ∀ x ∈ own, x.1 < B) : St M w0 w' own :=
  ⟨hb.os.trans h.os, hb.tape.trans h.tape, hb.output.trans h.output, Nat.le_trans h.size hb.size, fun b hb' hM => (hb.block b (by omega)).trans (h.frame b hb' hM), fun x hx => (hb.block x.1 (hlt x hx)).trans (h.blk x hx), h.mine, h.ne⟩

/-- What an answer makes of it: the error, and what is left. -/
def answX (g : Bool) (sent : List Sent) (seq : Int) : Int × List Sent :=
  if g = false then (2, sent) else if (sent.filter (offSeq seq)).length = sent.length then (4, sent) else (0, sent.filter (offSeq seq))

end Go.Proofs.Ytbngblmdcggfdaa

/- The walk through the reference's word on an answer. -/
namespace Go.Proofs.Ytbngblmdcggfdaa
open Go.RowKit

/-- A row of ours, that lies in what is new, has grown. -/
theorem St.grownNew {M : List Nat} {w0 w w' : World} {own : Blks} {row : Option Nat} (st : St M w0 w own) (hg : w.grownBy w' row) (hrow : ∀ k, row = some k → w0.heap.size ≤ k) (hn : ∀ x ∈ own, row ≠ some x.1) : St M w0 w' own := by
  refine ⟨hg.os.trans st.os, hg.tape.trans st.tape, hg.output.trans st.output, Nat.le_trans st.size hg.size, fun b hb hM => ?_, fun x hx => ?_, st.mine, st.ne⟩
  · rw [hg.block b (Nat.lt_of_lt_of_le hb st.size) (fun e => by have := hrow _ e.symm; omega), st.frame b hb hM]
  · rw [hg.block _ (st.lt hx) fun e => hn x hx e.symm]
    exact st.blk x hx

theorem St.comp {M : List Nat} {w0 w1 w2 : World} {own1 own2 : Blks} (h1 : St M w0 w1 own1) (h2 : St M w1 w2 own2) : St M w0 w2 own2 :=
  ⟨h2.os.trans h1.os, h2.tape.trans h1.tape, h2.output.trans h1.output, Nat.le_trans h1.size h2.size, fun b hb hM => (h2.frame b (Nat.lt_of_lt_of_le hb h1.size) hM).trans (h1.frame b hb hM), h2.blk,
    fun x hx => (h2.mine x hx).imp id fun h => Nat.le_trans h1.size h, h2.ne⟩

end Go.Proofs.Ytbngblmdcggfdaa

/- The law on a region that draws its order, where what is known depends on what has been carried out. No program is in sight. -/
namespace Go.Proofs.Ytbngblmdcggfdaa
open Go.RowKit

section
variable {P : Program} {ops : Array Oper} {Q : Exit → Act → World → Prop}

/-- As wpAny_ahead, 'Inv' told which operations are done; Rel tells which operation acts, and no operation need keep what it says itself; s is a ghost. -/
theorem wpAny_done1 (D : List (Nat × Option Tmp)) (S : List Nat) (hS : D.map (·.1) = S) (hok : aheadOk ops D = true) {σ : Type} (Rel : Nat → σ → World → σ → World → Prop) (G : Nat → Value → σ → World → Prop) (Inv : List Nat → σ → World → Prop) (a0 : Act) (r : Nat)
    (mono : ∀ i k v s w s' w', i ∈ S → k ∈ S → i ≠ k → k ∉ predsOf ops i → Rel k s w s' w' → G i v s w → G i v s' w')
    (step : ∀ i t, (i, t) ∈ D → ∀ (L : List Nat) (x : Nat → Value) (s : σ) (w : World), i ∉ L → (∀ j ∈ predsOf ops i, j ∈ L) → Inv L s w → (∀ j ∈ predsOf ops i, G j (x j) s w) → ∀ K : Act → World → Prop,
      (∀ v s' w', Rel i s w s' w' → Inv (i :: L) s' w' → G i v s' w' → K ((putAll x D a0).put t v) w') → wpOp P ops Q i K (putAll x D a0) w)
    (fin : ∀ (L : List Nat) (x : Nat → Value) (s : σ) (w : World), (∀ i ∈ S, i ∈ L) → Inv L s w → (∀ i ∈ S, G i (x i) s w) → wpAny P .any ops Q r (marked ops.size S) (putAll x D a0) w) :
    ∀ (k : Nat) (L : List Nat) (x : Nat → Value) (s : σ) (w : World), L.Nodup → (∀ i ∈ L, i ∈ S) → (∀ i ∈ L, ∀ j ∈ predsOf ops i, j ∈ L) → L.length + k = S.length → Inv L s w → (∀ i ∈ L, G i (x i) s w) →
      wpAny P .any ops Q (k + r) (marked ops.size L) (putAll x D a0) w := by
  subst hS
  simp only [aheadOk, Bool.and_eq_true, List.all_eq_true, decide_eq_true_eq, List.mem_range] at hok
  obtain ⟨⟨hc1, hc2⟩, hc4⟩ := hok
  have hSn : (D.map (·.1)).Nodup := List.pairwise_map.2 (hc4.imp fun h => h.1)
  intro k
  induction k with
  | zero =>
    intro L x s w hL hsub hcl hlen hI hG
    have hall : ∀ i, i ∈ L ↔ i ∈ D.map (·.1) := fun i => ⟨hsub i, fun hi => Classical.byContradiction fun hn => by
      have h1 := nodup_le (List.nodup_cons.2 ⟨hn, hL⟩) fun j hj => by
        rcases List.mem_cons.1 hj with rfl | hj
        · exact hi
        · exact hsub j hj
      simp only [List.length_cons] at h1; omega⟩
    rw [Nat.zero_add, marked_congr hall]
    exact fin L x s w (fun i hi => (hall i).2 hi) hI fun i hi => hG i ((hall i).2 hi)
  | succ k ih =>
    intro L x s w hL hsub hcl hlen hI hG
    have hmem : ∀ i, i ∈ Region.ready .any ops (marked ops.size L) ↔ i < ops.size ∧ i ∉ L ∧ ∃ o, ops[i]? = some o ∧ ∀ e ∈ o.after, Region.binds .any e = true → e.on ∈ L ∧ e.on < ops.size := by
      intro i
      simp only [Region.ready, List.mem_filter, List.mem_range, Bool.and_eq_true, Bool.not_eq_true']
      constructor
      · rintro ⟨h1, h2, h3⟩
        rw [marked_get h1] at h2
        refine ⟨h1, by simpa using h2, ops[i], by simp [h1], fun e he hb => ?_⟩
        simp only [h1, getElem?_pos, Option.map_some, Option.getD_some, Array.all_eq_true_iff_forall_mem] at h3
        have := h3 e he
        rw [hb] at this
        simp only [Bool.not_true, Bool.false_or] at this
        by_cases hlt : e.on < ops.size
        · rw [marked_get hlt] at this
          exact ⟨by simpa using this, hlt⟩
        · have : (marked ops.size L).getD e.on false = false := by simp [marked, Array.getD, hlt]
          simp_all
      · rintro ⟨h1, h2, o, ho, h3⟩
        refine ⟨h1, by rw [marked_get h1]; simpa using h2, ?_⟩
        simp only [ho, Option.map_some, Option.getD_some, Array.all_eq_true_iff_forall_mem]
        intro e he
        cases hb : Region.binds .any e
        · simp
        · obtain ⟨h4, h5⟩ := h3 e he hb
          rw [marked_get h5]
          simpa using h4
    rw [show k + 1 + r = (k + r) + 1 by omega]
    refine ⟨fun hnil => ?_, fun i hi => ?_⟩
    · exfalso
      -- the least of S that is not carried out yet is ready
      have hex : ∃ i, i ∈ D.map (·.1) ∧ i ∉ L := Classical.byContradiction fun hn => by
        have h1 := nodup_le hSn (S := L) fun j hj => Classical.byContradiction fun hj' => hn ⟨j, hj, hj'⟩
        omega
      obtain ⟨i, ⟨hiS, hiL⟩, hmin⟩ : ∃ i, (i ∈ D.map (·.1) ∧ i ∉ L) ∧ ∀ j, j < i → ¬ (j ∈ D.map (·.1) ∧ j ∉ L) := by
        obtain ⟨i0, h0⟩ := hex
        induction i0 using Nat.strongRecOn with
        | _ i0 ih0 =>
          by_cases h : ∃ j, j < i0 ∧ j ∈ D.map (·.1) ∧ j ∉ L
          · obtain ⟨j, hj, hjS⟩ := h
            exact ih0 j hj hjS
          · exact ⟨i0, h0, fun j hj hjS => h ⟨j, hj, hjS⟩⟩
      obtain ⟨h1, h2⟩ := hc1 i hiS
      have : i ∈ Region.ready .any ops (marked ops.size L) := by
        rw [hmem]
        refine ⟨h1, hiL, ops[i], by simp [h1], fun e he hb => ?_⟩
        simp only [h1, getElem?_pos, Option.map_some, Option.getD_some, Array.all_eq_true_iff_forall_mem] at h2
        have h3 := h2 e he
        rw [hb] at h3
        simp only [Bool.not_true, Bool.false_or, Bool.and_eq_true, decide_eq_true_eq, List.contains_iff_mem] at h3
        exact ⟨Classical.byContradiction fun hn => hmin e.on h3.2 ⟨h3.1, hn⟩, (hc1 e.on h3.1).1⟩
      rw [hnil] at this
      simp at this
    · obtain ⟨h1, hiL, o, ho, hp⟩ := (hmem i).1 hi
      have hiS : i ∈ D.map (·.1) := by
        have h2 := hc2 i h1
        simp only [ho, Option.map_some, Option.getD_some, Bool.or_eq_true, List.contains_iff_mem, Array.any_eq_true', List.all_eq_true, Bool.and_eq_true, Bool.not_eq_true', beq_iff_eq] at h2
        rcases h2 with h2 | ⟨e, he, hb, hn⟩ | h2
        · exact h2
        · exfalso
          have := hsub _ (hp e he hb).1
          rw [← List.contains_iff_mem, hn] at this
          simp at this
        · exfalso
          have h4 : ∀ j ∈ predsOf ops i, j ∈ L := fun j hj => by
            simp only [predsOf, ho, Option.map_some, Option.getD_some, List.mem_map, List.mem_filter, Array.mem_toList_iff] at hj
            obtain ⟨e, ⟨he, hb⟩, rfl⟩ := hj
            exact (hp e he hb).1
          have h3 := nodup_le hSn (S := L) fun j hj => anc_sub hcl _ i h4 j (h2 j hj)
          omega
      have hpreL : ∀ j ∈ predsOf ops i, j ∈ L := fun j hj => by
        simp only [predsOf, ho, Option.map_some, Option.getD_some, List.mem_map, List.mem_filter, Array.mem_toList_iff] at hj
        obtain ⟨e, ⟨he, hb⟩, rfl⟩ := hj
        exact (hp e he hb).1
      have hpre : ∀ j ∈ predsOf ops i, G j (x j) s w := fun j hj => by
        simp only [predsOf, ho, Option.map_some, Option.getD_some, List.mem_map, List.mem_filter, Array.mem_toList_iff] at hj
        obtain ⟨e, ⟨he, hb⟩, rfl⟩ := hj
        exact hG _ (hp e he hb).1
      obtain ⟨⟨i', t⟩, hit, hii⟩ := List.mem_map.1 hiS
      have hii' : i = i' := hii.symm
      subst hii'
      refine step i t hit L x s w hiL hpreL hI hpre _ fun v s' w' hbw hI' hGv => ?_
      rw [put_putAll hit hc4, marked_set]
      refine ih (i :: L) (upd x i v) s' w' (List.nodup_cons.2 ⟨hiL, hL⟩) (fun j hj => ?_) (fun j hj m hm => ?_) (by simp only [List.length_cons]; omega) hI' fun j hj => ?_
      · rcases List.mem_cons.1 hj with rfl | hj
        · exact hiS
        · exact hsub j hj
      · rcases List.mem_cons.1 hj with rfl | hjL
        · exact List.mem_cons_of_mem _ (hpreL m hm)
        · exact List.mem_cons_of_mem _ (hcl j hjL m hm)
      · rcases List.mem_cons.1 hj with rfl | hjL
        · simpa [upd] using hGv
        · have hne : j ≠ i := by rintro rfl; exact hiL hjL
          rw [show upd x i v j = x j by simp [upd, hne]]
          exact mono j i _ s w s' w' (hsub j hjL) hiS hne (fun hm => hiL (hcl j hjL i hm)) hbw (hG j hjL)

/-- THE LAW, at a region: the operations S come first, in whatever order; of each there is known G, in whatever order; the others follow. -/
theorem wp_region_done {id : Nat} {a0 : Act} {w : World} (hm : P.follows .mixedOrders = true) (D : List (Nat × Option Tmp)) (S : List Nat) (hS : D.map (·.1) = S) (r : Nat) (hok : aheadOk ops D = true) (hr : S.length + r = ops.size) {σ : Type} (Rel : Nat → σ → World → σ → World → Prop) (G : Nat → Value → σ → World → Prop) (Inv : List Nat → σ → World → Prop) (s0 : σ) (hI : Inv [] s0 w.drew)
    (mono : ∀ i k v s w s' w', i ∈ S → k ∈ S → i ≠ k → k ∉ predsOf ops i → Rel k s w s' w' → G i v s w → G i v s' w')
    (step : ∀ i t, (i, t) ∈ D → ∀ (L : List Nat) (x : Nat → Value) (s : σ) (w : World), i ∉ L → (∀ j ∈ predsOf ops i, j ∈ L) → Inv L s w → (∀ j ∈ predsOf ops i, G j (x j) s w) → ∀ K : Act → World → Prop,
      (∀ v s' w', Rel i s w s' w' → Inv (i :: L) s' w' → G i v s' w' → K ((putAll x D a0).put t v) w') → wpOp P ops Q i K (putAll x D a0) w)
    (fin : ∀ (L : List Nat) (x : Nat → Value) (s : σ) (w : World), (∀ i ∈ S, i ∈ L) → Inv L s w → (∀ i ∈ S, G i (x i) s w) → wpAny P .any ops Q r (marked ops.size S) (putAll x D a0) w) : (Code.region id ops true).wp P Q a0 w := by
  refine wp_region_any hm ?_
  rw [marked_nil]
  have h := wpAny_done1 (P := P) (Q := Q) D S hS hok Rel G Inv a0 r mono step fin S.length [] (lookD D a0) s0 w.drew List.nodup_nil (by simp) (by simp) (by simp) hI (by simp)
  rw [putAll_same a0 (lookD_at (by simp only [aheadOk, Bool.and_eq_true, decide_eq_true_eq] at hok; exact hok.2)), hr] at h
  exact h

end

theorem Own.apart {b b' : Nat} {e e' : TypeId} {w : World} {α β : Type} {sz sz' : Nat} {R : List Value → α → Prop} {R' : List Value → β → Prop} {a a' : Option Addr} {c c' : Nat} {xs : List α} {ys : List β} (h : Own b e w sz R a c xs) (h' : Own b' e' w sz' R' a' c' ys) (he : e ≠ e') :
    ∀ k, a.map (·.block) = some k → a'.map (·.block) ≠ some k := by
  obtain ⟨_, _, _, _, _, h5⟩ := h
  obtain ⟨_, _, _, _, _, h5'⟩ := h'
  intro k hk hk'
  rcases h5 with ⟨e1, _⟩ | ⟨g, cap, cur, e1, _, hg, _⟩
  · simp at e1; simp [e1.1] at hk
  · rcases h5' with ⟨e2, _⟩ | ⟨g', cap', cur', e2, _, hg', _⟩
    · simp at e2; simp [e2.1] at hk'
    · simp at e1 e2
      rw [e1.1] at hk
      rw [e2.1] at hk'
      simp at hk hk'
      subst hk hk'
      rw [hg] at hg'
      simp at hg'
      exact he hg'.2

/-- A row of ours stays where another one grows. -/
theorem Own.aside {b : Nat} {e : TypeId} {w w' : World} {α : Type} {sz : Nat} {R : List Value → α → Prop} {a : Option Addr} {c : Nat} {xs : List α} {row : Option Nat} (h : Own b e w sz R a c xs) (hg : w.grownBy w' row) (hne : ∀ k, a.map (·.block) = some k → row ≠ some k) : Own b e w' sz R a c xs := by
  obtain ⟨css, h1, h2, h3, h4⟩ := h
  refine ⟨css, h1, h2, h3, h4.kept hg ?_⟩
  cases a with
  | none => exact .inl rfl
  | some p => exact .inr fun e => hne p.block rfl e.symm

end Go.Proofs.Ytbngblmdcggfdaa

/- What is sent again, in plain words; the walk through line.Again. -/
namespace Go.Proofs.Ytbngblmdcggfdaa
open Go.RowKit

theorem sentsOk_mem : ∀ {next prev : Int} {l : List Sent}, sentsOk next prev l = true → ∀ s ∈ l, 1 ≤ s.tries ∧ s.tries ≤ 5 ∧ 0 ≤ s.due ∧ s.due ≤ 2199023255552
  | _, _, [], _, _, h => by simp at h
  | next, prev, x :: l, h, s, hs => by
    unfold sentsOk at h
    by_cases hx : sentOk next prev x = true
    · rw [if_pos hx] at h
      rcases List.mem_cons.1 hs with rfl | hs
      · simp only [sentOk, decide_eq_true_eq] at hx
        omega
      · exact sentsOk_mem h s hs
    · rw [if_neg hx] at h
      simp at h

theorem lineOk_mem {next high : Int} {sent : List Sent} {e : Eight} (h : lineOk ⟨next, sent, high, e⟩ = true) : ∀ s ∈ sent, 1 ≤ s.tries ∧ s.tries ≤ 5 ∧ 0 ≤ s.due ∧ s.due ≤ 2199023255552 := by
  unfold lineOk at h
  by_cases hh : headOk next high sent.length = true
  · rw [if_pos hh] at h
    exact sentsOk_mem h
  · rw [if_neg hh] at h
    simp at h

/-- What is kept of one that is under way. -/
def keepS (now : Int) (s : Sent) : Option Sent := if now < s.due then some s else if s.tries < 5 then some { s with tries := s.tries + 1, due := now + 2 ^ (s.tries + 1).toNat } else none
/-- What is sent again of it. -/
def outS (now : Int) (s : Sent) : Option Frame := if now < s.due then none else if s.tries < 5 then some s.frame else none

structure AgainX where
  k : Int
  sent : List Sent
  out : List Frame

def againX (g : Bool) (sent : List Sent) (now : Int) : AgainX :=
  if g = false ∨ now < 0 ∨ 1099511627776 < now then ⟨2, sent, []⟩ else ⟨0, sent.filterMap (keepS now), sent.filterMap (outS now)⟩

theorem fm_step {α β : Type} {f : α → Option β} {l : List α} {k : Nat} (h : k < l.length) : (l.take (k + 1)).filterMap f = (l.take k).filterMap f ++ (f l[k]).toList := by
  rw [List.take_succ_eq_append_getElem h, List.filterMap_append]
  cases hx : f l[k] <;> simp [hx]

theorem World.grownBy.ofBelow {w w' : World} (h : Below w.heap.size w w') (row : Option Nat) : w.grownBy w' row := ⟨h.os, h.tape, h.output, h.size, fun k hk _ => h.block k hk⟩

end Go.Proofs.Ytbngblmdcggfdaa

/- The walk through line.Again. -/
namespace Go.Proofs.Ytbngblmdcggfdaa
open Go.RowKit

/-- Two rows may have grown, all else stays. -/
structure Aside (r1 r2 : Option Nat) (w w' : World) : Prop where
  os : w'.os = w.os
  tape : w'.tape = w.tape
  output : w'.output = w.output
  size : w.heap.size ≤ w'.heap.size
  block : ∀ b, b < w.heap.size → r1 ≠ some b → r2 ≠ some b → w'.heap[b]? = w.heap[b]?

theorem Aside.refl (r1 r2 : Option Nat) (w : World) : Aside r1 r2 w w := ⟨rfl, rfl, rfl, Nat.le_refl _, fun _ _ _ _ => rfl⟩
theorem Aside.grown {r1 r2 r : Option Nat} {w w' w'' : World} (h : Aside r1 r2 w w') (hg : w'.grownBy w'' r) (hr : r = none ∨ r = r1 ∨ r = r2) : Aside r1 r2 w w'' :=
  ⟨hg.os.trans h.os, hg.tape.trans h.tape, hg.output.trans h.output, Nat.le_trans h.size hg.size, fun b hb h1 h2 => (hg.block b (Nat.lt_of_lt_of_le hb h.size) (by
    rcases hr with rfl | rfl | rfl
    · simp
    · exact fun e => h1 e.symm
    · exact fun e => h2 e.symm)).trans (h.block b hb h1 h2)⟩
theorem Aside.drew {r1 r2 : Option Nat} {w w' : World} (h : Aside r1 r2 w w') : Aside r1 r2 w w'.drew := h.grown (World.grownBy.ofBelow (Below.refl _ _).drew none) (.inl rfl)
theorem Own.drew {b : Nat} {e : TypeId} {w : World} {α : Type} {sz : Nat} {R : List Value → α → Prop} {a : Option Addr} {c : Nat} {xs : List α} (h : Own b e w sz R a c xs) : Own b e w.drew sz R a c xs := h.below (Below.refl _ _).drew

theorem St.aside {M : List Nat} {w0 w w' : World} {own : Blks} {r1 r2 : Option Nat} (st : St M w0 w own) (ha : Aside r1 r2 w w') (h1 : ∀ k, r1 = some k → w0.heap.size ≤ k) (h2 : ∀ k, r2 = some k → w0.heap.size ≤ k) (h3 : ∀ x ∈ own, r1 ≠ some x.1 ∧ r2 ≠ some x.1) : St M w0 w' own :=
  ⟨ha.os.trans st.os, ha.tape.trans st.tape, ha.output.trans st.output, Nat.le_trans st.size ha.size,
    fun b hb hM => (ha.block b (Nat.lt_of_lt_of_le hb st.size) (fun e => by have := h1 b e; omega) (fun e => by have := h2 b e; omega)).trans (st.frame b hb hM),
    fun x hx => (ha.block x.1 (st.lt hx) (h3 x hx).1 (h3 x hx).2).trans (st.blk x hx), st.mine, st.ne⟩

theorem two_pow {n : Int} (h1 : 1 ≤ n) (h2 : n ≤ 5) : 2 ≤ (2 : Int) ^ n.toNat ∧ (2 : Int) ^ n.toNat ≤ 32 := by
  rcases (show n = 1 ∨ n = 2 ∨ n = 3 ∨ n = 4 ∨ n = 5 by omega) with rfl | rfl | rfl | rfl | rfl <;> decide

end Go.Proofs.Ytbngblmdcggfdaa

/- Maps whose elements are bools, in one word: what a look-up says. No program is in sight. -/
namespace Go.Proofs.Ytbngblmdcggfdaa
open Go.RowKit
open Go.Maps (Keyed IsMap)

section
variable {P : Program} {k e t : TypeId} {w w' : World} {b n : Nat} {f : Lit → Bool}

/-- Block b is a map of at most n entries, that tells f of each key. -/
def MapB (P : Program) (k e : TypeId) (w : World) (b n : Nat) (f : Lit → Bool) : Prop :=
  ∃ D : DataW Unit, w.ownsMap P k (plainElem P e) b n D ∧ IsMap D ∧ ∀ kl, WideAt.IsKeyLit kl → D.atKey kl (.lit (.bool false)) = .lit (.bool (f kl))

theorem MapB.made (P : Program) (k e : TypeId) (w : World) : MapB P k e (w.alloc (.map #[] 0)) w.heap.size 0 fun _ => false :=
  ⟨.map [], World.ownsMap_made w P k _, Maps.isMap_empty, fun _ _ => rfl⟩

theorem MapB.kept {row : Option Nat} (h : MapB P k e w b n f) (hg : w.grownBy w' row) (hne : row ≠ some b) : MapB P k e w' b n f := by
  obtain ⟨D, h1, h2⟩ := h
  exact ⟨D, h1.kept hg fun e => hne e.symm, h2⟩

theorem MapB.below (h : MapB P k e w b n f) (hb : Below w.heap.size w w') : MapB P k e w' b n f := h.kept (World.grownBy.ofBelow hb none) (by simp)

theorem MapB.lt (h : MapB P k e w b n f) : b < w.heap.size := by
  obtain ⟨D, h1, _⟩ := h
  exact h1.lt

theorem MapB.block (h : MapB P k e w b n f) (hs : w.heap.size ≤ w'.heap.size) (hb : w'.heap[b]? = w.heap[b]?) : MapB P k e w' b n f := by
  obtain ⟨D, ⟨es, clock, h1, h2⟩, h3⟩ := h
  exact ⟨D, ⟨es, clock, hb.trans h1, h2⟩, h3⟩

theorem plainElem_bool_inv (he : P.underlying e = some .bool) {v : Value} {x : Bool} {ps : List MemPlace} (h : plainElem (H := Unit) P e v = some (.lit (.bool x), ps)) : v = .bool x := by
  unfold plainElem at h
  rw [he] at h
  cases v <;> simp at h
  rw [h.1]

theorem MapB.lookup (h : MapB P k e w b n f) (K : Keyed P k) (ht : P.underlying t = some (.map k e)) (he : P.underlying e = some .bool) (hz : (zeroValue e).run P w = .ok (.bool false) w) {key : Value} {kl : Lit} (hkey : keyOf P k key = some kl) :
    (Instr.lookup t (.map (some b)) key false).run P w = .ok (.bool (f kl)) w := by
  obtain ⟨D, h1, _, h3⟩ := h
  obtain ⟨v, ps, hrun, hv⟩ := h1.lookup K ht hz (plainElem_bool he false) hkey
  rw [h3 kl (K.key hkey)] at hv
  rw [hrun, plainElem_bool_inv he hv]

theorem MapB.update (h : MapB P k e w b n f) (K : Keyed P k) (ht : P.underlying t = some (.map k e)) (he : P.underlying e = some .bool) (hn : n < maxLen) {key : Value} {kl : Lit} (x : Bool) (hkey : keyOf P k key = some kl) :
    ∃ w', (Instr.mapUpdate t (.map (some b)) key (.bool x)).run P w = .ok () w' ∧ MapB P k e w' b (n + 1) (fun l => if l.sameKey kl then x else f l) ∧ w.grownBy w' (some b) := by
  obtain ⟨D, h1, h2, h3⟩ := h
  obtain ⟨w', hrun, h4, h5⟩ := h1.update K ht hn hkey (plainElem_bool he x)
  refine ⟨w', hrun, ⟨_, h4, h2.put _ _, fun l hl => ?_⟩, h5⟩
  show _ = DataW.lit (Lit.bool (if l.sameKey kl = true then x else f l))
  by_cases hlk : l = kl
  · subst hlk
    rw [if_pos (WideAt.sameKey_self hl), Maps.atKey_put_same h2 hl]
  · rw [if_neg (by rw [Maps.sameKey_ne hlk]; simp), Maps.atKey_put_other hlk, h3 l hl]

variable {ops : Array Oper} {rest : List Oper} {o : Oper} {A : Act} {Q : Exit → Act → World → Prop} {K' : Act → World → Prop}

theorem wp_mapLookup (h : MapB P k e w b n f) (K : Keyed P k) (m x : Operand) (t : TypeId) (hop : o.op = Op.lookup t m x false) (ht : P.underlying t = some (.map k e)) (he : P.underlying e = some .bool) (hz : ∀ w, (zeroValue e).run P w = .ok (.bool false) w)
    (hm : A.eval m = .map (some b)) {kl : Lit} (hkey : keyOf P k (A.eval x) = some kl) (hK : K' (A.put o.dst (.bool (f kl))) w) : Oper.wp P o A w K' Q := by
  have hrun := h.lookup K ht he (hz w) hkey
  unfold Oper.wp
  simp [execOp, hop, hm, hrun, Result.andThen]
  exact hK

theorem wpList_mapLookup (h : MapB P k e w b n f) (K : Keyed P k) (hgd : Region.wanted o (yielded ops A.tmps) = true) (m x : Operand) (t : TypeId) (hop : o.op = Op.lookup t m x false) (ht : P.underlying t = some (.map k e)) (he : P.underlying e = some .bool) (hz : ∀ w, (zeroValue e).run P w = .ok (.bool false) w)
    (hm : A.eval m = .map (some b)) {kl : Lit} (hkey : keyOf P k (A.eval x) = some kl) (hK : wpList P ops Q rest (A.put o.dst (.bool (f kl))) w) : wpList P ops Q (o :: rest) A w :=
  wpList_wanted hgd fun _ h' => wp_mapLookup h K m x t hop ht he hz hm hkey (h' _ _ hK)

theorem wpList_mapUpdate (h : MapB P k e w b n f) (K : Keyed P k) (hgd : Region.wanted o (yielded ops A.tmps) = true) (m x v : Operand) (t : TypeId) (hop : o.op = Op.mapUpdate t m x v) (ht : P.underlying t = some (.map k e)) (he : P.underlying e = some .bool) (hn : n < maxLen)
    (hm : A.eval m = .map (some b)) {kl : Lit} (hkey : keyOf P k (A.eval x) = some kl) (y : Bool) (hv : A.eval v = .bool y)
    (hK : ∀ w', MapB P k e w' b (n + 1) (fun l => if l.sameKey kl then y else f l) → w.grownBy w' (some b) → wpList P ops Q rest (A.put o.dst undef) w') : wpList P ops Q (o :: rest) A w := by
  refine wpList_wanted hgd fun K1 h' => ?_
  obtain ⟨w', hrun, h1, h2⟩ := h.update K ht he hn y hkey
  unfold Oper.wp
  simp [execOp, hop, hm, hv, hrun, Result.andThen]
  exact h' _ _ (hK w' h1 h2)

theorem wpList_makeMap (k e : TypeId) (hgd : Region.wanted o (yielded ops A.tmps) = true) (t : TypeId) (hop : o.op = Op.makeMap t none)
    (hK : ∀ b w', w.heap.size ≤ b → MapB P k e w' b 0 (fun _ => false) → Below w.heap.size w w' → wpList P ops Q rest (A.put o.dst (.map (some b))) w') : wpList P ops Q (o :: rest) A w := by
  refine wpList_wanted hgd fun K1 h' => ?_
  have hrun := run_makeMap (P := P) t w
  unfold Oper.wp
  simp [execOp, hop, hrun, Result.andThen]
  exact h' _ _ (hK _ _ (Nat.le_refl _) (MapB.made P k e w) ((Below.refl _ _).alloc (Nat.le_refl _) _))

end

/-- A map that is written may be called a row of ours that has grown. -/
theorem St.map {M : List Nat} {w0 w w' : World} {own : Blks} {b : Nat} (st : St M w0 w own) (hg : w.grownBy w' (some b)) (hb : w0.heap.size ≤ b) (hn : ∀ x ∈ own, x.1 ≠ b) : St M w0 w' own :=
  st.grownNew hg (fun k e => by simp at e; omega) fun x hx e => hn x hx (by simpa using e.symm)

theorem St.back {M : List Nat} {a w0 w : World} {own0 own : Blks} (h0 : St M a w0 own0) (h : St (own0.map (·.1)) w0 w own) : St M a w own := by
  refine ⟨h.os.trans h0.os, h.tape.trans h0.tape, h.output.trans h0.output, Nat.le_trans h0.size h.size, fun b hb hM => ?_, h.blk, fun x hx => ?_, h.ne⟩
  · refine (h.frame b (Nat.lt_of_lt_of_le hb h0.size) fun hm => ?_).trans (h0.frame b hb hM)
    obtain ⟨x, hx, rfl⟩ := List.mem_map.1 hm
    rcases h0.mine x hx with h1 | h1
    · exact hM h1
    · omega
  · rcases h.mine x hx with h1 | h1
    · obtain ⟨y, hy, e⟩ := List.mem_map.1 h1
      rw [← e]
      exact h0.mine y hy
    · exact .inr (Nat.le_trans h0.size h1)

theorem wpOp_skip {P : Program} {ops : Array Oper} {Q : Exit → Act → World → Prop} {i : Nat} {o : Oper} {K : Act → World → Prop} {a : Act} {w : World} (ho : ops[i]? = some o) (hg : Region.wanted o (yielded ops a.tmps) = false) (h : K (a.put o.dst undef) w) : wpOp P ops Q i K a w := by
  simp only [wpOp, ho, hg]
  exact h

end Go.Proofs.Ytbngblmdcggfdaa

/- None is taken twice, in plain words; no program is in sight. -/
namespace Go.Proofs.Ytbngblmdcggfdaa
open Go.RowKit

theorem Eight.get_of (f : Nat → Bool) {j : Nat} (h : j < 8) : (Eight.of f).get j = f j := by
  match j, h with
  | 0, _ => rfl
  | 1, _ => rfl
  | 2, _ => rfl
  | 3, _ => rfl
  | 4, _ => rfl
  | 5, _ => rfl
  | 6, _ => rfl
  | 7, _ => rfl

/-- Whatever was had is marked, or too old to be marked. -/
def OnceInv (good : Bool) (high : Int) (e : Eight) (f : Lit → Bool) : Prop :=
  ∀ x : Int, f (.int .i64 x) = true → good = true ∧ 1 ≤ x ∧ x ≤ high ∧ (high - 8 < x → e.get (high - x).toNat = true)

theorem sameKey_int (x y : Int) : (Lit.int .i64 x).sameKey (.int .i64 y) = (x == y) := by
  simp only [Lit.sameKey]
  by_cases h : x = y <;> simp [h]

theorem lineOk_take {next high high' : Int} {sent : List Sent} {e e' : Eight} (h0 : 0 ≤ high) (h1 : high ≤ 1099511627776) (h2 : 0 ≤ high') (h3 : high' ≤ 1099511627776) : lineOk ⟨next, sent, high', e'⟩ = lineOk ⟨next, sent, high, e⟩ := by
  unfold lineOk headOk
  simp only [h0, h1, h2, h3, true_and]

theorem once_step {good : Bool} {next high : Int} {sent : List Sent} {e : Eight} {f : Lit → Bool} (hg : lineOk ⟨next, sent, high, e⟩ = good) (hI : OnceInv good high e f) {s : Int} (s1 : 1 ≤ s) (s2 : s ≤ 60) {r : Int × Eight × Int} (hr : takeC good high s e = r) :
    lineOk ⟨next, sent, r.1, r.2.1⟩ = good ∧
    ((r.2.2 = 0 ∧ f (.int .i64 s) = false ∧ s ≤ r.1 ∧ OnceInv good r.1 r.2.1 (fun l => if l.sameKey (.int .i64 s) then true else f l)) ∨
     (r.1 = high ∧ r.2.1 = e ∧ (f (.int .i64 s) = false ∧ r.2.2 ≠ 0 ∨ f (.int .i64 s) = true ∧ r.2.2 = 10 ∨ f (.int .i64 s) = true ∧ r.2.2 = 11))) := by
  unfold takeC at hr
  have hf : ∀ b, f (.int .i64 s) = b → b = true → good = true ∧ 1 ≤ s ∧ s ≤ high ∧ (high - 8 < s → e.get (high - s).toNat = true) := fun b h1 h2 => hI s (h1.trans h2)
  by_cases c0 : good = false ∨ s < 1 ∨ 1099511627776 < s
  · rw [if_pos c0] at hr
    subst hr
    refine ⟨hg, .inr ⟨rfl, rfl, .inl ⟨?_, by simp⟩⟩⟩
    have : good = false := by
      rcases c0 with h | h | h
      · exact h
      · omega
      · omega
    cases h : f (.int .i64 s)
    · rfl
    · have := (hf true h rfl).1
      simp_all
  · rw [if_neg c0] at hr
    have hgt : good = true := by
      cases good
      · exact absurd (Or.inl rfl) c0
      · rfl
    subst hgt
    obtain ⟨_, _, b1, b2, _⟩ := lineOk_high hg
    by_cases c1 : s ≤ high - 8
    · rw [if_pos c1] at hr
      subst hr
      refine ⟨hg, .inr ⟨rfl, rfl, ?_⟩⟩
      cases h : f (.int .i64 s)
      · exact .inl ⟨rfl, by simp⟩
      · exact .inr (.inr ⟨rfl, rfl⟩)
    · rw [if_neg c1] at hr
      by_cases c2 : s ≤ high
      · rw [if_pos c2] at hr
        by_cases c3 : e.get (high - s).toNat = true
        · rw [if_pos c3] at hr
          subst hr
          refine ⟨hg, .inr ⟨rfl, rfl, ?_⟩⟩
          cases h : f (.int .i64 s)
          · exact .inl ⟨rfl, by simp⟩
          · exact .inr (.inl ⟨rfl, rfl⟩)
        · rw [if_neg c3] at hr
          subst hr
          have hfs : f (.int .i64 s) = false := by
            cases h : f (.int .i64 s)
            · rfl
            · exact absurd ((hf true h rfl).2.2.2 (by omega)) c3
          refine ⟨(lineOk_take b1 b2 b1 b2).trans hg, .inl ⟨rfl, hfs, c2, fun x hx => ?_⟩⟩
          replace hx : (if (Lit.int .i64 x).sameKey (.int .i64 s) = true then true else f (.int .i64 x)) = true := hx
          rw [sameKey_int] at hx
          show true = true ∧ 1 ≤ x ∧ x ≤ high ∧ (high - 8 < x → (Eight.of _).get (high - x).toNat = true)
          by_cases hxs : x = s
          · subst hxs
            refine ⟨rfl, s1, c2, fun h => ?_⟩
            rw [Eight.get_of _ (by omega), if_pos rfl]
          · rw [if_neg (by simpa using hxs)] at hx
            obtain ⟨_, h1, h2, h3⟩ := hI x hx
            refine ⟨rfl, h1, h2, fun h => ?_⟩
            rw [Eight.get_of _ (by omega), h3 h]
            simp
      · rw [if_neg c2] at hr
        subst hr
        have hfs : f (.int .i64 s) = false := by
          cases h : f (.int .i64 s)
          · rfl
          · exact absurd (hf true h rfl).2.2.1 c2
        refine ⟨(lineOk_take b1 b2 (by show 0 ≤ s; omega) (by show s ≤ _; omega)).trans hg, .inl ⟨rfl, hfs, Int.le_refl _, fun x hx => ?_⟩⟩
        replace hx : (if (Lit.int .i64 x).sameKey (.int .i64 s) = true then true else f (.int .i64 x)) = true := hx
        rw [sameKey_int] at hx
        show true = true ∧ 1 ≤ x ∧ x ≤ s ∧ (s - 8 < x → (Eight.of _).get (s - x).toNat = true)
        by_cases hxs : x = s
        · subst hxs
          refine ⟨rfl, s1, Int.le_refl _, fun h => ?_⟩
          rw [Eight.get_of _ (by omega), if_pos (by omega)]
        · rw [if_neg (by simpa using hxs)] at hx
          obtain ⟨_, h1, h2, h3⟩ := hI x hx
          refine ⟨rfl, h1, by omega, fun h => ?_⟩
          rw [Eight.get_of _ (by omega), if_neg (by omega), if_pos (by omega)]
          rw [show (s - x).toNat - (s - high).toNat = (high - x).toNat by omega]
          exact h3 (by omega)

end Go.Proofs.Ytbngblmdcggfdaa

/- The first eight numbers in whatever order, in plain words; slices of slices. No program is in sight. -/
namespace Go.Proofs.Ytbngblmdcggfdaa
open Go.RowKit

structure TurnInv (left : List Int) (high : Int) (e : Eight) : Prop where
  nd : left.Nodup
  rng : ∀ x ∈ left, 1 ≤ x ∧ x ≤ 8
  lo : 0 ≤ high
  hi : high ≤ 8
  yes : ∀ x, 1 ≤ x → x ≤ 8 → x ∉ left → x ≤ high ∧ e.get (high - x).toNat = true
  no : ∀ x ∈ left, x ≤ high → e.get (high - x).toNat = false

theorem TurnInv.start : TurnInv [1, 2, 3, 4, 5, 6, 7, 8] 0 ⟨false, false, false, false, false, false, false, false⟩ := by
  refine ⟨by decide, by decide, by decide, by decide, fun x h1 h2 h3 => ?_, fun x h1 h2 => ?_⟩
  · exfalso
    apply h3
    rcases (show x = 1 ∨ x = 2 ∨ x = 3 ∨ x = 4 ∨ x = 5 ∨ x = 6 ∨ x = 7 ∨ x = 8 by omega) with rfl | rfl | rfl | rfl | rfl | rfl | rfl | rfl <;> decide
  · have : ∀ x ∈ [1, 2, 3, 4, 5, 6, 7, (8 : Int)], 1 ≤ x := by decide
    have := this x h1
    omega

theorem lineOk_none {high : Int} {e : Eight} (h0 : 0 ≤ high) (h1 : high ≤ 8) : lineOk ⟨0, [], high, e⟩ = true := by
  unfold lineOk headOk
  simp only [List.length_nil]
  rw [if_pos (by simp; omega)]
  rfl

theorem mem_erase {l : List Int} (hn : l.Nodup) {k : Nat} (hk : k < l.length) (y : Int) : y ∈ l.take k ++ l.drop (k + 1) ↔ y ∈ l ∧ y ≠ l[k] := by
  have e : l = l.take k ++ l[k] :: l.drop (k + 1) := by rw [List.getElem_cons_drop, List.take_append_drop]
  have hn' := hn
  rw [e] at hn'
  rw [List.nodup_append, List.nodup_cons] at hn'
  obtain ⟨h1, ⟨h2, h3⟩, h4⟩ := hn'
  constructor
  · intro h
    rw [List.mem_append] at h
    rcases h with h | h
    · exact ⟨List.mem_of_mem_take h, fun e => h4 y h l[k] (List.mem_cons_self ..) e⟩
    · exact ⟨List.mem_of_mem_drop h, fun e => h2 (e ▸ h)⟩
  · rintro ⟨h, hne⟩
    rw [e, List.mem_append, List.mem_cons] at h
    rw [List.mem_append]
    rcases h with h | h | h
    · exact .inl h
    · exact absurd h hne
    · exact .inr h

theorem turn_step {left : List Int} {high : Int} {e : Eight} (hI : TurnInv left high e) {k : Nat} (hk : k < left.length) : ∃ (h' : Int) (e' : Eight), takeC true high left[k] e = (h', e', 0) ∧ takeC true h' left[k] e' = (h', e', 10) ∧ TurnInv (left.take k ++ left.drop (k + 1)) h' e' := by
  have hm : left[k] ∈ left := List.getElem_mem hk
  obtain ⟨x1, x2⟩ := hI.rng _ hm
  have hno := hI.no _ hm
  have hlo := hI.lo
  have hhi := hI.hi
  have hmem := mem_erase hI.nd hk
  have hnd : (left.take k ++ left.drop (k + 1)).Nodup := by
    have := hI.nd
    rw [← List.eraseIdx_eq_take_drop_succ]
    exact this.sublist (List.eraseIdx_sublist ..)
  generalize left[k] = x at hm x1 x2 hno hmem
  by_cases c2 : x ≤ high
  · refine ⟨high, e.yes (high - x).toNat, ?_, ?_, hnd, fun y hy => hI.rng y ((hmem y).1 hy).1, hlo, hhi, fun y y1 y2 hy => ?_, fun y hy hyh => ?_⟩
    · unfold takeC
      rw [if_neg (by simp; omega), if_neg (by omega), if_pos c2, if_neg (by rw [hno c2]; simp)]
    · unfold takeC
      rw [if_neg (by simp; omega), if_neg (by omega), if_pos c2, if_pos (by show (Eight.of _).get _ = true; rw [Eight.get_of _ (by omega), if_pos rfl])]
    · by_cases hxy : y = x
      · subst hxy
        exact ⟨c2, by show (Eight.of _).get _ = true; rw [Eight.get_of _ (by omega), if_pos rfl]⟩
      · obtain ⟨h1, h2⟩ := hI.yes y y1 y2 fun h => hy ((hmem y).2 ⟨h, hxy⟩)
        refine ⟨h1, ?_⟩
        show (Eight.of _).get _ = true
        rw [Eight.get_of _ (by omega), h2]
        simp
    · obtain ⟨hyl, hne⟩ := (hmem y).1 hy
      show (Eight.of _).get _ = false
      have := hI.rng y hyl
      rw [Eight.get_of _ (by omega), if_neg (by omega)]
      exact hI.no y hyl hyh
  · refine ⟨x, Eight.of fun j => if j = 0 then true else if x - high ≤ j then e.get (j - (x - high).toNat) else false, ?_, ?_, hnd, fun y hy => hI.rng y ((hmem y).1 hy).1, by omega, x2, fun y y1 y2 hy => ?_, fun y hy hyh => ?_⟩
    · unfold takeC
      rw [if_neg (by simp; omega), if_neg (by omega), if_neg c2]
    · unfold takeC
      rw [if_neg (by simp; omega), if_neg (by omega), if_pos (Int.le_refl _), if_pos (by rw [Eight.get_of _ (by omega), if_pos (by omega)])]
    · by_cases hxy : y = x
      · subst hxy
        exact ⟨Int.le_refl _, by rw [Eight.get_of _ (by omega), if_pos (by omega)]⟩
      · obtain ⟨h1, h2⟩ := hI.yes y y1 y2 fun h => hy ((hmem y).2 ⟨h, hxy⟩)
        refine ⟨by omega, ?_⟩
        rw [Eight.get_of _ (by omega), if_neg (by omega), if_pos (by omega), show (x - y).toNat - (x - high).toNat = (high - y).toNat by omega]
        exact h2
    · obtain ⟨hyl, hne⟩ := (hmem y).1 hy
      have := hI.rng y hyl
      rw [Eight.get_of _ (by omega), if_neg (by omega)]
      by_cases c : x - high ≤ ((x - y).toNat : Int)
      · rw [if_pos c, show (x - y).toNat - (x - high).toNat = (high - y).toNat by omega]
        exact hI.no y hyl (by omega)
      · rw [if_neg c]

theorem TurnInv.done {high : Int} {e : Eight} (h : TurnInv [] high e) : high = 8 := by
  have := (h.yes 8 (by omega) (by omega) (by simp)).1
  have := h.hi
  omega

theorem SlR.take {ok : Nat → Prop} {w : World} {α : Type} {sz : Nat} {R : List Value → α → Prop} {a : Option Addr} {c : Nat} {xs : List α} (h : SlR ok w sz R a c xs) (k : Nat) : SlR ok w sz R a c (xs.take k) := by
  refine ⟨Nat.le_trans (by simp; omega) h.1, h.2.1, h.2.2.1, fun i x hx => h.2.2.2 i x ?_⟩
  rw [List.getElem?_take] at hx
  split at hx
  · exact hx
  · cases hx

theorem SlR.drop {ok : Nat → Prop} {w : World} {α : Type} {sz : Nat} {R : List Value → α → Prop} {b o c : Nat} {xs : List α} (h : SlR ok w sz R (some ⟨b, o, none⟩) c xs) (k : Nat) : SlR ok w sz R (some ⟨b, o + k * sz, none⟩) (c - k) (xs.drop k) := by
  refine ⟨by have := h.1; simp; omega, by have := h.2.1; omega, by simp, fun i x hx => ?_⟩
  rw [List.getElem?_drop] at hx
  obtain ⟨b', o', cs, ha, h1, h2, h3, h4, h5, h6⟩ := h.2.2.2 (k + i) x hx
  simp at ha
  obtain ⟨rfl, rfl⟩ := ha
  refine ⟨b, o + k * sz, cs, rfl, h1, h2, h3, h4, h5, fun j v hv => ?_⟩
  rw [← h6 j v hv]
  congr 2
  rw [Nat.add_mul]
  omega

/-- A block of just these numbers, as a slice. -/
theorem slr_ints {w : World} {g : Nat} {T : TypeId} {xs : List Int} {ok : Nat → Prop} (h : w.heap[g]? = some (.cells (xs.map (Value.int .i64)).toArray T (0, 0))) (ho : ok g) (hm : xs.length ≤ maxLen := by decide) : SlR ok w 1 RInt (some ⟨g, 0, none⟩) xs.length xs := by
  refine ⟨Nat.le_refl _, hm, by simp, fun i x hx => ⟨g, 0, [.int .i64 x], rfl, ho, (Array.getElem?_eq_some_iff.1 h).1, rfl, rfl, by simp [Value.oneCell'], fun j v hv => ?_⟩⟩
  have hj := (List.getElem?_eq_some_iff.1 hv).1
  simp at hj
  subst hj
  simp at hv
  subst hv
  rw [cell_of_row w g _ _ T (0, 0) h]
  simp [hx]

end Go.Proofs.Ytbngblmdcggfdaa
