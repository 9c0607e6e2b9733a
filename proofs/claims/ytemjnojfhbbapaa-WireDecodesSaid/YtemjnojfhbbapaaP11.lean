/- Walks and plain laws that the claim rests on, part 11. -/
import Derived.Test.YtemjnojfhbbapaaP9
import Derived.Test.YtemjnojfhbbapaaP4
import Derived.Test.YtemjnojfhbbapaaP7
import Derived.Test.YtemjnojfhbbapaaP10
import Derived.Test.YtemjnojfhbbapaaP1
import Derived.Maps.OwnSet
import Derived.Test.YtemjnojfhbbapaaP6
import Derived.IntWalk
import Derived.Test.YtemjnojfhbbapaaP2
import Derived.Maps.RangeWalk
import Derived.Test.YtemjnojfhbbapaaP3
import Derived.Test.YtemjnojfhbbapaaP5
import Derived.DeepKeys4
set_option linter.unusedSimpArgs false
set_option linter.unusedVariables false
/- The walks through line.Answered and the reference's word on it. -/
namespace Go.Proofs.Ytemjnojfhbbapaa
open Go.RowKit

/-- A call that leaves whatever lies below B as it was. -/
theorem St.callB {M : List Nat} {w0 w w' : World} {own : Blks} (h : St M w0 w own) {B : Nat} (hb : Below B w w') (h0 : w0.heap.size ≤ B) (hlt : ∀ x ∈ own, x.1 < B) : St M w0 w' own :=
  ⟨hb.os.trans h.os, hb.tape.trans h.tape, hb.output.trans h.output, Nat.le_trans h.size hb.size, fun b hb' hM => (hb.block b (by omega)).trans (h.frame b hb' hM), fun x hx => (hb.block x.1 (hlt x hx)).trans (h.blk x hx), h.mine, h.ne⟩

/-- What an answer makes of it: the error, and what is left. -/
def answX (g : Bool) (sent : List Sent) (seq : Int) : Int × List Sent :=
  if g = false then (2, sent) else if (sent.filter (offSeq seq)).length = sent.length then (4, sent) else (0, sent.filter (offSeq seq))

end Go.Proofs.Ytemjnojfhbbapaa

/- The walk through the reference's word on an answer. -/
namespace Go.Proofs.Ytemjnojfhbbapaa
open Go.RowKit

/-- A row of ours, that lies in what is new, has grown. -/
theorem St.grownNew {M : List Nat} {w0 w w' : World} {own : Blks} {row : Option Nat} (st : St M w0 w own) (hg : w.grownBy w' row) (hrow : ∀ k, row = some k → w0.heap.size ≤ k) (hn : ∀ x ∈ own, row ≠ some x.1) : St M w0 w' own := by
  refine ⟨hg.os.trans st.os, hg.tape.trans st.tape, hg.output.trans st.output, Nat.le_trans st.size hg.size, fun b hb hM => ?_, fun x hx => ?_, st.mine, st.ne⟩
  · rw [hg.block b (Nat.lt_of_lt_of_le hb st.size) (fun e => by have := hrow _ e.symm; omega), st.frame b hb hM]
  · rw [hg.block _ (st.lt hx) fun e => hn x hx e.symm]
    exact st.blk x hx

theorem St.comp {M : List Nat} {w0 w1 w2 : World} {own1 own2 : Blks} (h1 : St M w0 w1 own1) (h2 : St M w1 w2 own2) : St M w0 w2 own2 :=
  ⟨h2.os.trans h1.os, h2.tape.trans h1.tape, h2.output.trans h1.output, Nat.le_trans h1.size h2.size, fun b hb hM => (h2.frame b (Nat.lt_of_lt_of_le hb h1.size) hM).trans (h1.frame b hb hM), h2.blk,
    fun x hx => (h2.mine x hx).imp id fun h => Nat.le_trans h1.size h, h2.ne⟩

end Go.Proofs.Ytemjnojfhbbapaa

/- What is sent again, in plain words; the walk through line.Again. -/
namespace Go.Proofs.Ytemjnojfhbbapaa
open Go.RowKit

theorem sentsOk_mem : ∀ {next prev : Int} {l : List Sent}, sentsOk next prev l = true → ∀ s ∈ l, 1 ≤ s.tries ∧ s.tries ≤ 5 ∧ 0 ≤ s.due ∧ s.due ≤ 2199023255552
  | _, _, [], _, _, h => by simp at h
  | next, prev, x :: l, h, s, hs => by
    unfold sentsOk at h
    by_cases hx : sentOk next prev x = true
    · rw [if_pos hx] at h
      rcases List.mem_cons.1 hs with rfl | hs
      · simp only [sentOk, decide_eq_true_eq] at hx
        omega
      · exact sentsOk_mem h s hs
    · rw [if_neg hx] at h
      simp at h

theorem lineOk_mem {next high : Int} {sent : List Sent} {e : Eight} (h : lineOk ⟨next, sent, high, e⟩ = true) : ∀ s ∈ sent, 1 ≤ s.tries ∧ s.tries ≤ 5 ∧ 0 ≤ s.due ∧ s.due ≤ 2199023255552 := by
  unfold lineOk at h
  by_cases hh : headOk next high sent.length = true
  · rw [if_pos hh] at h
    exact sentsOk_mem h
  · rw [if_neg hh] at h
    simp at h

/-- What is kept of one that is under way. -/
def keepS (now : Int) (s : Sent) : Option Sent := if now < s.due then some s else if s.tries < 5 then some { s with tries := s.tries + 1, due := now + 2 ^ (s.tries + 1).toNat } else none
/-- What is sent again of it. -/
def outS (now : Int) (s : Sent) : Option Frame := if now < s.due then none else if s.tries < 5 then some s.frame else none

structure AgainX where
  k : Int
  sent : List Sent
  out : List Frame

def againX (g : Bool) (sent : List Sent) (now : Int) : AgainX :=
  if g = false ∨ now < 0 ∨ 1099511627776 < now then ⟨2, sent, []⟩ else ⟨0, sent.filterMap (keepS now), sent.filterMap (outS now)⟩

theorem fm_step {α β : Type} {f : α → Option β} {l : List α} {k : Nat} (h : k < l.length) : (l.take (k + 1)).filterMap f = (l.take k).filterMap f ++ (f l[k]).toList := by
  rw [List.take_succ_eq_append_getElem h, List.filterMap_append]
  cases hx : f l[k] <;> simp [hx]

theorem World.grownBy.ofBelow {w w' : World} (h : Below w.heap.size w w') (row : Option Nat) : w.grownBy w' row := ⟨h.os, h.tape, h.output, h.size, fun k hk _ => h.block k hk⟩

theorem info_Frame : (Try.prog.info? 29).map (fun i => (i.zero, i.size, i.bytes)) = some (some (.agg #[.int .i64 0, .int .i64 0, .int .i64 0, .bool false, .int .i64 0, .int .i64 0, .int .i64 0, .slice none 0 0, .slice none 0 0, .string .empty, .slice none 0 0]), 11, 144) := by kernel_rfl

end Go.Proofs.Ytemjnojfhbbapaa

/- The walk through line.Again. -/
namespace Go.Proofs.Ytemjnojfhbbapaa
open Go.RowKit

/-- Two rows may have grown, all else stays. -/
structure Aside (r1 r2 : Option Nat) (w w' : World) : Prop where
  os : w'.os = w.os
  tape : w'.tape = w.tape
  output : w'.output = w.output
  size : w.heap.size ≤ w'.heap.size
  block : ∀ b, b < w.heap.size → r1 ≠ some b → r2 ≠ some b → w'.heap[b]? = w.heap[b]?

theorem Aside.refl (r1 r2 : Option Nat) (w : World) : Aside r1 r2 w w := ⟨rfl, rfl, rfl, Nat.le_refl _, fun _ _ _ _ => rfl⟩
theorem Aside.grown {r1 r2 r : Option Nat} {w w' w'' : World} (h : Aside r1 r2 w w') (hg : w'.grownBy w'' r) (hr : r = none ∨ r = r1 ∨ r = r2) : Aside r1 r2 w w'' :=
  ⟨hg.os.trans h.os, hg.tape.trans h.tape, hg.output.trans h.output, Nat.le_trans h.size hg.size, fun b hb h1 h2 => (hg.block b (Nat.lt_of_lt_of_le hb h.size) (by
    rcases hr with rfl | rfl | rfl
    · simp
    · exact fun e => h1 e.symm
    · exact fun e => h2 e.symm)).trans (h.block b hb h1 h2)⟩
theorem Aside.drew {r1 r2 : Option Nat} {w w' : World} (h : Aside r1 r2 w w') : Aside r1 r2 w w'.drew := h.grown (World.grownBy.ofBelow (Below.refl _ _).drew none) (.inl rfl)
theorem Own.drew {b : Nat} {e : TypeId} {w : World} {α : Type} {sz : Nat} {R : List Value → α → Prop} {a : Option Addr} {c : Nat} {xs : List α} (h : Own b e w sz R a c xs) : Own b e w.drew sz R a c xs := h.below (Below.refl _ _).drew

theorem St.aside {M : List Nat} {w0 w w' : World} {own : Blks} {r1 r2 : Option Nat} (st : St M w0 w own) (ha : Aside r1 r2 w w') (h1 : ∀ k, r1 = some k → w0.heap.size ≤ k) (h2 : ∀ k, r2 = some k → w0.heap.size ≤ k) (h3 : ∀ x ∈ own, r1 ≠ some x.1 ∧ r2 ≠ some x.1) : St M w0 w' own :=
  ⟨ha.os.trans st.os, ha.tape.trans st.tape, ha.output.trans st.output, Nat.le_trans st.size ha.size,
    fun b hb hM => (ha.block b (Nat.lt_of_lt_of_le hb st.size) (fun e => by have := h1 b e; omega) (fun e => by have := h2 b e; omega)).trans (st.frame b hb hM),
    fun x hx => (ha.block x.1 (st.lt hx) (h3 x hx).1 (h3 x hx).2).trans (st.blk x hx), st.mine, st.ne⟩

theorem two_pow {n : Int} (h1 : 1 ≤ n) (h2 : n ≤ 5) : 2 ≤ (2 : Int) ^ n.toNat ∧ (2 : Int) ^ n.toNat ≤ 32 := by
  rcases (show n = 1 ∨ n = 2 ∨ n = 3 ∨ n = 4 ∨ n = 5 by omega) with rfl | rfl | rfl | rfl | rfl <;> decide

end Go.Proofs.Ytemjnojfhbbapaa

/- Maps whose elements are bools, in one word: what a look-up says. No program is in sight. -/
namespace Go.Proofs.Ytemjnojfhbbapaa
open Go.RowKit
open Go.Maps (Keyed IsMap)

section
variable {P : Program} {k e t : TypeId} {w w' : World} {b n : Nat} {f : Lit → Bool}

/-- Block b is a map of at most n entries, that tells f of each key. -/
def MapB (P : Program) (k e : TypeId) (w : World) (b n : Nat) (f : Lit → Bool) : Prop :=
  ∃ D : DataW Unit, w.ownsMap P k (plainElem P e) b n D ∧ IsMap D ∧ ∀ kl, WideAt.IsKeyLit kl → D.atKey kl (.lit (.bool false)) = .lit (.bool (f kl))

theorem MapB.made (P : Program) (k e : TypeId) (w : World) : MapB P k e (w.alloc (.map #[] 0)) w.heap.size 0 fun _ => false :=
  ⟨.map [], World.ownsMap_made w P k _, Maps.isMap_empty, fun _ _ => rfl⟩

theorem MapB.kept {row : Option Nat} (h : MapB P k e w b n f) (hg : w.grownBy w' row) (hne : row ≠ some b) : MapB P k e w' b n f := by
  obtain ⟨D, h1, h2⟩ := h
  exact ⟨D, h1.kept hg fun e => hne e.symm, h2⟩

theorem MapB.below (h : MapB P k e w b n f) (hb : Below w.heap.size w w') : MapB P k e w' b n f := h.kept (World.grownBy.ofBelow hb none) (by simp)

theorem MapB.lt (h : MapB P k e w b n f) : b < w.heap.size := by
  obtain ⟨D, h1, _⟩ := h
  exact h1.lt

theorem MapB.block (h : MapB P k e w b n f) (hs : w.heap.size ≤ w'.heap.size) (hb : w'.heap[b]? = w.heap[b]?) : MapB P k e w' b n f := by
  obtain ⟨D, ⟨es, clock, h1, h2⟩, h3⟩ := h
  exact ⟨D, ⟨es, clock, hb.trans h1, h2⟩, h3⟩

theorem plainElem_bool_inv (he : P.underlying e = some .bool) {v : Value} {x : Bool} {ps : List MemPlace} (h : plainElem (H := Unit) P e v = some (.lit (.bool x), ps)) : v = .bool x := by
  unfold plainElem at h
  rw [he] at h
  cases v <;> simp at h
  rw [h.1]

theorem MapB.lookup (h : MapB P k e w b n f) (K : Keyed P k) (ht : P.underlying t = some (.map k e)) (he : P.underlying e = some .bool) (hz : (zeroValue e).run P w = .ok (.bool false) w) {key : Value} {kl : Lit} (hkey : keyOf P k key = some kl) :
    (Instr.lookup t (.map (some b)) key false).run P w = .ok (.bool (f kl)) w := by
  obtain ⟨D, h1, _, h3⟩ := h
  obtain ⟨v, ps, hrun, hv⟩ := h1.lookup K ht hz (plainElem_bool he false) hkey
  rw [h3 kl (K.key hkey)] at hv
  rw [hrun, plainElem_bool_inv he hv]

theorem MapB.update (h : MapB P k e w b n f) (K : Keyed P k) (ht : P.underlying t = some (.map k e)) (he : P.underlying e = some .bool) (hn : n < maxLen) {key : Value} {kl : Lit} (x : Bool) (hkey : keyOf P k key = some kl) :
    ∃ w', (Instr.mapUpdate t (.map (some b)) key (.bool x)).run P w = .ok () w' ∧ MapB P k e w' b (n + 1) (fun l => if l.sameKey kl then x else f l) ∧ w.grownBy w' (some b) := by
  obtain ⟨D, h1, h2, h3⟩ := h
  obtain ⟨w', hrun, h4, h5⟩ := h1.update K ht hn hkey (plainElem_bool he x)
  refine ⟨w', hrun, ⟨_, h4, h2.put _ _, fun l hl => ?_⟩, h5⟩
  show _ = DataW.lit (Lit.bool (if l.sameKey kl = true then x else f l))
  by_cases hlk : l = kl
  · subst hlk
    rw [if_pos (WideAt.sameKey_self hl), Maps.atKey_put_same h2 hl]
  · rw [if_neg (by rw [Maps.sameKey_ne hlk]; simp), Maps.atKey_put_other hlk, h3 l hl]

variable {ops : Array Oper} {rest : List Oper} {o : Oper} {A : Act} {Q : Exit → Act → World → Prop} {K' : Act → World → Prop}

theorem wp_mapLookup (h : MapB P k e w b n f) (K : Keyed P k) (m x : Operand) (t : TypeId) (hop : o.op = Op.lookup t m x false) (ht : P.underlying t = some (.map k e)) (he : P.underlying e = some .bool) (hz : ∀ w, (zeroValue e).run P w = .ok (.bool false) w)
    (hm : A.eval m = .map (some b)) {kl : Lit} (hkey : keyOf P k (A.eval x) = some kl) (hK : K' (A.put o.dst (.bool (f kl))) w) : Oper.wp P o A w K' Q := by
  have hrun := h.lookup K ht he (hz w) hkey
  unfold Oper.wp
  simp [execOp, hop, hm, hrun, Result.andThen]
  exact hK

theorem wpList_mapLookup (h : MapB P k e w b n f) (K : Keyed P k) (hgd : Region.wanted o (yielded ops A.tmps) = true) (m x : Operand) (t : TypeId) (hop : o.op = Op.lookup t m x false) (ht : P.underlying t = some (.map k e)) (he : P.underlying e = some .bool) (hz : ∀ w, (zeroValue e).run P w = .ok (.bool false) w)
    (hm : A.eval m = .map (some b)) {kl : Lit} (hkey : keyOf P k (A.eval x) = some kl) (hK : wpList P ops Q rest (A.put o.dst (.bool (f kl))) w) : wpList P ops Q (o :: rest) A w :=
  wpList_wanted hgd fun _ h' => wp_mapLookup h K m x t hop ht he hz hm hkey (h' _ _ hK)

theorem wpList_mapUpdate (h : MapB P k e w b n f) (K : Keyed P k) (hgd : Region.wanted o (yielded ops A.tmps) = true) (m x v : Operand) (t : TypeId) (hop : o.op = Op.mapUpdate t m x v) (ht : P.underlying t = some (.map k e)) (he : P.underlying e = some .bool) (hn : n < maxLen)
    (hm : A.eval m = .map (some b)) {kl : Lit} (hkey : keyOf P k (A.eval x) = some kl) (y : Bool) (hv : A.eval v = .bool y)
    (hK : ∀ w', MapB P k e w' b (n + 1) (fun l => if l.sameKey kl then y else f l) → w.grownBy w' (some b) → wpList P ops Q rest (A.put o.dst undef) w') : wpList P ops Q (o :: rest) A w := by
  refine wpList_wanted hgd fun K1 h' => ?_
  obtain ⟨w', hrun, h1, h2⟩ := h.update K ht he hn y hkey
  unfold Oper.wp
  simp [execOp, hop, hm, hv, hrun, Result.andThen]
  exact h' _ _ (hK w' h1 h2)

theorem wpList_makeMap (k e : TypeId) (hgd : Region.wanted o (yielded ops A.tmps) = true) (t : TypeId) (hop : o.op = Op.makeMap t none)
    (hK : ∀ b w', w.heap.size ≤ b → MapB P k e w' b 0 (fun _ => false) → Below w.heap.size w w' → wpList P ops Q rest (A.put o.dst (.map (some b))) w') : wpList P ops Q (o :: rest) A w := by
  refine wpList_wanted hgd fun K1 h' => ?_
  have hrun := run_makeMap (P := P) t w
  unfold Oper.wp
  simp [execOp, hop, hrun, Result.andThen]
  exact h' _ _ (hK _ _ (Nat.le_refl _) (MapB.made P k e w) ((Below.refl _ _).alloc (Nat.le_refl _) _))

end

/-- A map that is written may be called a row of ours that has grown. -/
theorem St.map {M : List Nat} {w0 w w' : World} {own : Blks} {b : Nat} (st : St M w0 w own) (hg : w.grownBy w' (some b)) (hb : w0.heap.size ≤ b) (hn : ∀ x ∈ own, x.1 ≠ b) : St M w0 w' own :=
  st.grownNew hg (fun k e => by simp at e; omega) fun x hx e => hn x hx (by simpa using e.symm)

theorem St.back {M : List Nat} {a w0 w : World} {own0 own : Blks} (h0 : St M a w0 own0) (h : St (own0.map (·.1)) w0 w own) : St M a w own := by
  refine ⟨h.os.trans h0.os, h.tape.trans h0.tape, h.output.trans h0.output, Nat.le_trans h0.size h.size, fun b hb hM => ?_, h.blk, fun x hx => ?_, h.ne⟩
  · refine (h.frame b (Nat.lt_of_lt_of_le hb h0.size) fun hm => ?_).trans (h0.frame b hb hM)
    obtain ⟨x, hx, rfl⟩ := List.mem_map.1 hm
    rcases h0.mine x hx with h1 | h1
    · exact hM h1
    · omega
  · rcases h.mine x hx with h1 | h1
    · obtain ⟨y, hy, e⟩ := List.mem_map.1 h1
      rw [← e]
      exact h0.mine y hy
    · exact .inr (Nat.le_trans h0.size h1)

theorem wpOp_skip {P : Program} {ops : Array Oper} {Q : Exit → Act → World → Prop} {i : Nat} {o : Oper} {K : Act → World → Prop} {a : Act} {w : World} (ho : ops[i]? = some o) (hg : Region.wanted o (yielded ops a.tmps) = false) (h : K (a.put o.dst undef) w) : wpOp P ops Q i K a w := by
  simp only [wpOp, ho, hg]
  exact h

end Go.Proofs.Ytemjnojfhbbapaa

/- The walk through wire.Encode at a frame of mail. -/
namespace Go.Proofs.Ytemjnojfhbbapaa
open Go.RowKit

/-- What has been written behind the head. -/
def mailHead (f : Frame) : List UInt8 := 0 :: headBytes f ++ [b1 f.thread, b1 f.mail.thread, b1 f.mail.label.length]
def mailMid (f : Frame) : List UInt8 := mailHead f ++ f.mail.label.flatMap levBytes ++ [b1 f.mail.grants.length]
def mailText (f : Frame) : List UInt8 := mailMid f ++ f.mail.grants.map b1 ++ [b1 f.mail.text.size] ++ f.mail.text.data.toList ++ [b1 f.certs.length]

theorem mailHead_len (f : Frame) : (mailHead f).length = 12 := by simp [mailHead, headBytes, be_length]
theorem flat_lev_len (l : List Lev) : (l.flatMap levBytes).length = 2 * l.length := by
  induction l with
  | nil => rfl
  | cons x l ih => simp only [List.flatMap_cons, List.length_append, ih, levBytes, List.length_cons, List.length_nil]; omega
theorem flat_cert_len (l : List Cert) : (l.flatMap certBytes).length = 9 * l.length := by
  induction l with
  | nil => rfl
  | cons x l ih => simp only [List.flatMap_cons, List.length_append, ih, certBytes, List.length_cons, List.length_nil, be_length]; omega
theorem text_len (s : ByteArray) : s.data.toList.length = s.size := by rw [Array.length_toList]; rfl
theorem mailMid_len (f : Frame) : (mailMid f).length = 13 + 2 * f.mail.label.length := by
  simp only [mailMid, List.length_append, mailHead_len, flat_lev_len, List.length_cons, List.length_nil]; omega
theorem mailText_len (f : Frame) : (mailText f).length = 15 + 2 * f.mail.label.length + f.mail.grants.length + f.mail.text.size := by
  simp only [mailText, List.length_append, mailMid_len, List.length_map, text_len, List.length_cons, List.length_nil]; omega
theorem encL_mail {f : Frame} (h : f.ack = false) : encL f = mailText f ++ f.certs.flatMap certBytes := by
  unfold encL
  rw [if_neg (by rw [h]; simp)]
  simp only [mailText, mailMid, mailHead, mailBytes, List.append_assoc, List.cons_append]

theorem flatMap_take {α : Type} (g : α → List UInt8) (l : List α) (k : Nat) (h : k < l.length) : (l.take (k + 1)).flatMap g = (l.take k).flatMap g ++ g l[k] := by
  rw [List.take_succ_eq_append_getElem h, List.flatMap_append]; simp
theorem map_take {α : Type} (g : α → UInt8) (l : List α) (k : Nat) (h : k < l.length) : (l.take (k + 1)).map g = (l.take k).map g ++ [g l[k]] := by
  rw [List.take_succ_eq_append_getElem h, List.map_append]; simp

set_option maxRecDepth 100000 in
set_option maxHeartbeats 6400000 in
theorem wire_Encode_mail (ok : Nat → Prop) (w : World) (f : Frame) (la : Option Addr) (lc : Nat) (ga : Option Addr) (gc : Nat) (ca : Option Addr) (cc : Nat) (hf : f.FitsW) (hR : FrameR ok w f la lc ga gc ca cc) (h : goodFrameC f = 0) (hk : f.ack = false) :
    Calls Try.prog 8 #[frameV f la lc ga gc ca cc] w fun e w' => e = .returned (.tuple #[.string ⟨(encL f).toArray⟩, .int .i64 0]) ∧ Below w.heap.size w w' := by
  obtain ⟨⟨s1, s2⟩, ⟨s3, s4⟩, -, ⟨s5, s6⟩, ⟨s7, s8⟩, -, hm⟩ := good_facts h
  obtain ⟨hm1, -, hc24, hcs⟩ := hm hk
  obtain ⟨-, ⟨s9, s10⟩, hgl, hgr, ht⟩ := mail_facts hm1
  obtain ⟨hl8, hlv, -⟩ := (goodL_iff _).1 hgl
  obtain ⟨hg8, hgv⟩ := grants_facts hgr
  have HG := Lib.hid (fun (W : World) (hW : FrameR ok W f la lc ga gc ca cc) => wire_Good ok W f la lc ga gc ca cc hf hW)
  have HLV := Lib.hid hlv; have HGV := Lib.hid hgv; have HCS := Lib.hid hcs
  have HE := Lib.hid (encL_mail hk)
  have HH := Lib.hid (show mailHead f = ([0, b1 f.src, b1 f.dst] ++ be f.seq 6) ++ [b1 f.thread, b1 f.mail.thread, b1 f.mail.label.length] from rfl)
  have HN1 := Lib.hid (mailHead_len f)
  have HN2 := Lib.hid (mailMid_len f)
  have HN3 := Lib.hid (mailText_len f)
  rw [h] at HG
  have hk1 : Value.bool f.ack = .bool false := by rw [hk]
  obtain ⟨⟨hA, hB⟩, hC⟩ := id hR
  obtain ⟨i0, hi, hz0, hz1, hz2⟩ := info_parts info_byte
  clear h hk hm hm1 hgl hgr hlv hgv hcs
  unfold frameV at *
  rw [hk1] at HG ⊢
  clear hk1
  have st := St.start w
  go_enter Try.func8, Try.ntmps8
  go_wp2_with (first
    | go_skip | (with_reducible refine at_box 29 ?_; refine mem_box st (wanted_none rfl) 29 _ rfl _ rfl _ rfl ?_; clear st; intro g1 w1 hg1 st hg1b; clear hg1b; simp [Act.eval, Act.put, Value.cells, putL] at st) | (with_reducible refine at_load 29 ?_; (first | refine mem_load_agg' st 29 _ rfl (wanted_none rfl) Try.isAgg29 _ Try.sizeOf29 ?_ | (refine mem_load_agg' st 29 _ rfl (wanted_some rfl ?_) Try.isAgg29 _ Try.sizeOf29 ?_; focus (simp [yielded, Act.put]; done))); refine ⟨0, _, _, _, _, _, rfl, rfl, rfl, rfl, ?_⟩) | (with_reducible refine at_load 3 ?_; (first | refine mem_load' st 3 _ rfl (wanted_none rfl) Try.isAgg3 ?_ | (refine mem_load' st 3 _ rfl (wanted_some rfl ?_) Try.isAgg3 ?_; focus (simp [yielded, Act.put]; done))); refine ⟨0, _, _, _, _, _, rfl, rfl, rfl, ?_⟩) | (with_reducible refine at_load 4 ?_; (first | refine mem_load' st 4 _ rfl (wanted_none rfl) Try.isAgg4 ?_ | (refine mem_load' st 4 _ rfl (wanted_some rfl ?_) Try.isAgg4 ?_; focus (simp [yielded, Act.put]; done))); refine ⟨0, _, _, _, _, _, rfl, rfl, rfl, ?_⟩)
    | (go_at_call 11; go_must (refine (HG.out _ (hR.below st.below)).mono ?_; rintro e v2 ⟨rfl, hb2⟩; replace st := st.call hb2; clear hb2))
    | (with_reducible refine at_buildU 48 ?_; (refine wpList_buildU3 st (wanted_none rfl) 48 5 _ _ _ rfl Try.underlying48 Try.sizeOf5 Try.zeroValue5 _ _ _ rfl rfl rfl ?_; have stw4 := st; clear st; intro g4 w4 hg4 hg4e st hg4b hg4z; clear hg4e; simp [Act.eval, Act.put, Value.cells, putL] at st)))
  have hO4 : Own w.heap.size 5 w4 1 RU8 (some ⟨g4, 0, none⟩) 3 [0, b1 f.src, b1 f.dst] := Own.bytesBlk [0, b1 f.src, b1 f.dst] (st.blk _ (List.mem_of_getElem? (i := 1) rfl)) (by simp only [List.map, b1]; rw [← byteV_eq s1 (by omega), ← byteV_eq s3 (by omega)]; rfl) hg4 (by simp [maxLen])
  replace st := st.take 1
  simp only [List.take_succ_cons, List.take_zero] at st
  refine (wire_put w.heap.size _ _ _ [0, b1 f.src, b1 f.dst] f.seq (by omega) (by omega) (by simp) st.size hO4).mono ?_
  rintro e v5 ⟨g5, c5, rfl, hO, hg5, _⟩
  replace st := st.buf hO4 (Nat.le_refl _) hg5 (by simp)
  clear hO4 hg5 HG hg4 hg1
  simp only [List.length_cons, List.length_nil, Nat.zero_add, Nat.reduceAdd]
  have stb := st
  replace st := st.rebase
  go_wp2_with (first
    | go_skip | (with_reducible refine at_load 4 ?_; (first | refine mem_load' st 4 _ rfl (wanted_none rfl) Try.isAgg4 ?_ | (refine mem_load' st 4 _ rfl (wanted_some rfl ?_) Try.isAgg4 ?_; focus (simp [yielded, Act.put]; done))); refine ⟨0, _, _, _, _, _, rfl, rfl, rfl, ?_⟩) | (with_reducible refine at_load 26 ?_; (first | refine mem_load_agg' st 26 _ rfl (wanted_none rfl) Try.isAgg26 _ Try.sizeOf26 ?_ | (refine mem_load_agg' st 26 _ rfl (wanted_some rfl ?_) Try.isAgg26 _ Try.sizeOf26 ?_; focus (simp [yielded, Act.put]; done))); refine ⟨0, _, _, _, _, _, rfl, rfl, rfl, rfl, ?_⟩) | (with_reducible refine at_alloc 26 ?_; refine mem_alloc st (wanted_none rfl) 26 rfl _ Try.zeroValue26 _ rfl ?_; clear st; intro g6 w6 hg6 st hg6b; clear hg6b; simp [Act.eval, Act.put, Value.cells, putL] at st) | (with_reducible refine at_store 26 ?_; (first | refine mem_store' st 26 _ _ rfl (wanted_none rfl) _ Try.sizeOf26 ?_ | (refine mem_store' st 26 _ _ rfl (wanted_some rfl ?_) _ Try.sizeOf26 ?_; focus (simp [yielded, Act.put]; done))); refine ⟨1, _, _, _, _, _, rfl, rfl, rfl, rfl, rfl, rfl, ?_⟩; clear st; intro w7 st hw7m hw7z; simp [Act.eval, Act.put, Value.cells, putL] at st) | (with_reducible refine at_load 3 ?_; (first | refine mem_load' st 3 _ rfl (wanted_none rfl) Try.isAgg3 ?_ | (refine mem_load' st 3 _ rfl (wanted_some rfl ?_) Try.isAgg3 ?_; focus (simp [yielded, Act.put]; done))); refine ⟨0, _, _, _, _, _, rfl, rfl, rfl, ?_⟩) | (with_reducible refine at_load 3 ?_; (first | refine mem_load' st 3 _ rfl (wanted_none rfl) Try.isAgg3 ?_ | (refine mem_load' st 3 _ rfl (wanted_some rfl ?_) Try.isAgg3 ?_; focus (simp [yielded, Act.put]; done))); refine ⟨1, _, _, _, _, _, rfl, rfl, rfl, ?_⟩) | (with_reducible refine at_load 23 ?_; (first | refine mem_load' st 23 _ rfl (wanted_none rfl) Try.isAgg23 ?_ | (refine mem_load' st 23 _ rfl (wanted_some rfl ?_) Try.isAgg23 ?_; focus (simp [yielded, Act.put]; done))); refine ⟨1, _, _, _, _, _, rfl, rfl, rfl, ?_⟩)
    | (with_reducible refine at_buildU 48 ?_; refine wpList_wanted (wanted_none rfl) fun K9 hK9 => wp_bytes3 48 5 _ _ _ rfl Try.underlying48 Try.sizeOf5 Try.zeroValue5 _ _ _ rfl (by omega) rfl (by omega) rfl (by omega) fun g9 w9 hS9 hb9 => hK9 _ _ ?_; clear hK9 K9; replace st := st.call hb9; clear hb9)
    | (at_builtin; have hOx := hO.below (stb.below2 st (by simp)); go_must (refine wpList_app rfl _ _ 48 rfl 5 i0 _ 1 1 Try.underlying48 hi hz0 hz1 hz2 rfl (by decide) rfl (by simp [be_length]) hOx rfl rfl hS9 (by simp [be_length]) (by simp [be_length, maxLen]) (St.back stb st).size ?_; intro a10 c10 w10 hO10 hg10 _; have stn := (St.back stb st).buf hOx (Nat.le_refl _) hg10 (by simp); clear stb st hO hOx hg10 hS9; have hO := hO10; have st := stn; clear hO10 stn)))
  rw [← HH.out] at hO
  have HL1 := Lib.hid (flat_lev_len f.mail.label)
  have hstart : 12 = (mailHead f ++ (f.mail.label.take 0).flatMap levBytes).length := by simp [HN1.out]
  go_loopw [52, 5, 8] (fun i p _ wr => ∃ (k : Nat) (a : Option Addr) (n c : Nat), k ≤ f.mail.label.length ∧ i = .int .i64 k ∧ p = .slice a n c ∧ St [] w wr [(g1, 29, [.int .i64 f.src, .int .i64 f.dst, .int .i64 f.seq, .bool false, .int .i64 f.thread, .int .i64 f.mail.host, .int .i64 f.mail.thread, .slice la f.mail.label.length lc, .slice ga f.mail.grants.length gc, .string f.mail.text, .slice ca f.certs.length cc]), (g6, 26, [.int .i64 f.mail.host, .int .i64 f.mail.thread, .slice la f.mail.label.length lc, .slice ga f.mail.grants.length gc, .string f.mail.text])] ∧ Own w.heap.size 5 wr 1 RU8 a c (mailHead f ++ (f.mail.label.take k).flatMap levBytes) ∧ Hid (n = (mailHead f ++ (f.mail.label.take k).flatMap levBytes).length)) (fun i _ _ _ => f.mail.label.length - (intOf i).toNat)
  case atStart => exact ⟨0, a10, _, c10, Nat.zero_le _, rfl, rfl, st, by simpa using hO, hstart⟩
  case round =>
    clear st hO hstart
    obtain ⟨k, a, n, c, hk, rfl, rfl, st, hO, HN⟩ := hrel
    have hln : (mailHead f ++ (f.mail.label.take k).flatMap levBytes).length ≤ 12 + 2 * k := by
      rw [List.length_append, HN1.out, flat_lev_len, List.length_take]; omega
    by_cases hlt : k < f.mail.label.length
    · obtain ⟨b, o, rfl, hb, _⟩ := (hA.below st.below).lev_at k hlt
      have hrow := (hA.below st.below).lev_row k hlt
      have hlv := HLV.out _ (List.getElem_mem hlt)
      rw [lvOk_iff] at hlv
      obtain ⟨q1, q2, q3, q4, -⟩ := hlv
      have HT := Lib.hid (show mailHead f ++ (f.mail.label.take (k + 1)).flatMap levBytes = (mailHead f ++ (f.mail.label.take k).flatMap levBytes) ++ levBytes f.mail.label[k] by rw [flatMap_take levBytes f.mail.label k hlt, List.append_assoc])
      generalize hx : f.mail.label[k] = x at hrow q1 q2 q3 q4 HT
      generalize mailHead f ++ (f.mail.label.take k).flatMap levBytes = xs at hO HN hln HT
      clear hx
      have stb := st
      replace st := st.rebase
      go_wp2_with (first
        | go_skip | (with_reducible refine at_load 51 ?_; refine wpList_load_cells (wanted_none rfl) 51 _ rfl Try.isAgg51 _ Try.sizeOf51 b (o + k * 2) rfl [.int .i64 x.c, .int .i64 x.l] rfl hrow ?_) | (with_reducible refine at_alloc 51 ?_; refine mem_alloc st (wanted_none rfl) 51 rfl _ Try.zeroValue51 _ rfl ?_; clear st; intro g11 w11 hg11 st hg11b; clear hg11b; simp [Act.eval, Act.put, Value.cells, putL] at st) | (with_reducible refine at_store 51 ?_; (first | refine mem_store' st 51 _ _ rfl (wanted_none rfl) _ Try.sizeOf51 ?_ | (refine mem_store' st 51 _ _ rfl (wanted_some rfl ?_) _ Try.sizeOf51 ?_; focus (simp [yielded, Act.put]; done))); refine ⟨2, _, _, _, _, _, rfl, rfl, rfl, rfl, rfl, rfl, ?_⟩; clear st; intro w12 st hw12m hw12z; simp [Act.eval, Act.put, Value.cells, putL] at st) | (with_reducible refine at_load 3 ?_; (first | refine mem_load' st 3 _ rfl (wanted_none rfl) Try.isAgg3 ?_ | (refine mem_load' st 3 _ rfl (wanted_some rfl ?_) Try.isAgg3 ?_; focus (simp [yielded, Act.put]; done))); refine ⟨2, _, _, _, _, _, rfl, rfl, rfl, ?_⟩)
        | (with_reducible refine at_buildU 48 ?_; refine wpList_wanted (wanted_none rfl) fun K13 hK13 => wp_bytes2 48 5 _ _ rfl Try.underlying48 Try.sizeOf5 Try.zeroValue5 _ _ rfl (by omega) rfl (by omega) fun g13 w13 hS13 hb13 => hK13 _ _ ?_; clear hK13 K13; replace st := st.call hb13; clear hb13)
        | (at_builtin; have hOx := hO.below (stb.below2 st (by simp)); go_must (refine wpList_app rfl _ _ 48 rfl 5 i0 _ 1 1 Try.underlying48 hi hz0 hz1 hz2 rfl (by decide) rfl (HN.out) hOx rfl rfl hS13 (by simp; omega) (by simp [maxLen]; omega) (St.back stb st).size ?_; intro a14 c14 w14 hO14 hg14 _; have stn := (St.back stb st).buf hOx (Nat.le_refl _) hg14 (by simp); clear stb st hO hOx hg14 hS13; have hO := hO14; have st := stn; clear hO14 stn)))
      replace st := st.take 2
      simp only [List.take_succ_cons, List.take_zero] at st
      go_roundw
      case rel => exact ⟨k + 1, a14, _, c14, hlt, by go_num, rfl, st, by rw [HT.out]; exact hO, Lib.hid (by rw [HT.out, List.length_append, HN.out]; rfl)⟩
      case measure => simp [intOf]; omega
    · obtain rfl : k = f.mail.label.length := by omega
      have ht0 : f.mail.label.take f.mail.label.length = f.mail.label := List.take_length
      rw [ht0] at hO HN hln
      clear ht0
      have HM := Lib.hid (show mailMid f = (mailHead f ++ f.mail.label.flatMap levBytes) ++ [b1 f.mail.grants.length] from rfl)
      generalize mailHead f ++ f.mail.label.flatMap levBytes = xs at hO HN hln HM
      have stb := st
      replace st := st.rebase
      go_wp2_with (first
        | go_skip | (with_reducible refine at_load 24 ?_; (first | refine mem_load' st 24 _ rfl (wanted_none rfl) Try.isAgg24 ?_ | (refine mem_load' st 24 _ rfl (wanted_some rfl ?_) Try.isAgg24 ?_; focus (simp [yielded, Act.put]; done))); refine ⟨1, _, _, _, _, _, rfl, rfl, rfl, ?_⟩)
        | (with_reducible refine at_buildU 48 ?_; refine wpList_wanted (wanted_none rfl) fun K15 hK15 => wp_bytes1 48 5 _ rfl Try.underlying48 Try.sizeOf5 Try.zeroValue5 _ rfl (by omega) fun g15 w15 hS15 hb15 => hK15 _ _ ?_; clear hK15 K15; replace st := st.call hb15; clear hb15)
        | (at_builtin; have hOx := hO.below (stb.below2 st (by simp)); go_must (refine wpList_app rfl _ _ 48 rfl 5 i0 _ 1 1 Try.underlying48 hi hz0 hz1 hz2 rfl (by decide) rfl (HN.out) hOx rfl rfl hS15 (by simp; omega) (by simp [maxLen]; omega) (St.back stb st).size ?_; intro a16 c16 w16 hO16 hg16 _; have stn := (St.back stb st).buf hOx (Nat.le_refl _) hg16 (by simp); clear stb st hO hOx hg16 hS15; have hO := hO16; have st := stn; clear hO16 stn)))
      have HN2' := Lib.hid (show n + 1 = (mailMid f ++ (f.mail.grants.take 0).map b1).length by rw [HM.out, HN.out]; simp)
      rw [← HM.out] at hO
      clear HN hln HM
      go_loopw [76, 5, 10] (fun i p _ wr => ∃ (k : Nat) (a : Option Addr) (n c : Nat), k ≤ f.mail.grants.length ∧ i = .int .i64 k ∧ p = .slice a n c ∧ St [] w wr [(g1, 29, [.int .i64 f.src, .int .i64 f.dst, .int .i64 f.seq, .bool false, .int .i64 f.thread, .int .i64 f.mail.host, .int .i64 f.mail.thread, .slice la f.mail.label.length lc, .slice ga f.mail.grants.length gc, .string f.mail.text, .slice ca f.certs.length cc]), (g6, 26, [.int .i64 f.mail.host, .int .i64 f.mail.thread, .slice la f.mail.label.length lc, .slice ga f.mail.grants.length gc, .string f.mail.text])] ∧ Own w.heap.size 5 wr 1 RU8 a c (mailMid f ++ (f.mail.grants.take k).map b1) ∧ Hid (n = (mailMid f ++ (f.mail.grants.take k).map b1).length)) (fun i _ _ _ => f.mail.grants.length - (intOf i).toNat)
      case atStart => exact ⟨0, a16, _, c16, Nat.zero_le _, rfl, rfl, st, by simpa using hO, HN2'⟩
      case round =>
        clear st hO HN2'
        obtain ⟨k, a, n, c, hk, rfl, rfl, st, hO, HN⟩ := hrel
        have hln : (mailMid f ++ (f.mail.grants.take k).map b1).length ≤ 13 + 2 * f.mail.label.length + k := by
          rw [List.length_append, HN2.out, List.length_map, List.length_take]; omega
        by_cases hlt : k < f.mail.grants.length
        · obtain ⟨b, o, rfl, hb, hc1⟩ := (hB.below st.below).int_at k hlt
          obtain ⟨q1, q2⟩ := HGV.out _ (List.getElem_mem hlt)
          have HT := Lib.hid (show mailMid f ++ (f.mail.grants.take (k + 1)).map b1 = (mailMid f ++ (f.mail.grants.take k).map b1) ++ [b1 f.mail.grants[k]] by rw [map_take b1 f.mail.grants k hlt, List.append_assoc])
          generalize hx : f.mail.grants[k] = x at hc1 q1 q2 HT
          generalize mailMid f ++ (f.mail.grants.take k).map b1 = xs at hO HN hln HT
          clear hx
          have stb := st
          replace st := st.rebase
          go_wp2_with (first
            | go_skip
            | (with_reducible refine at_buildU 48 ?_; refine wpList_wanted (wanted_none rfl) fun K17 hK17 => wp_bytes1 48 5 _ rfl Try.underlying48 Try.sizeOf5 Try.zeroValue5 _ rfl (by omega) fun g17 w17 hS17 hb17 => hK17 _ _ ?_; clear hK17 K17; replace st := st.call hb17; clear hb17)
            | (at_builtin; have hOx := hO.below (stb.below2 st (by simp)); go_must (refine wpList_app rfl _ _ 48 rfl 5 i0 _ 1 1 Try.underlying48 hi hz0 hz1 hz2 rfl (by decide) rfl (HN.out) hOx rfl rfl hS17 (by simp; omega) (by simp [maxLen]; omega) (St.back stb st).size ?_; intro a18 c18 w18 hO18 hg18 _; have stn := (St.back stb st).buf hOx (Nat.le_refl _) hg18 (by simp); clear stb st hO hOx hg18 hS17; have hO := hO18; have st := stn; clear hO18 stn)))
          go_roundw
          case rel => exact ⟨k + 1, a18, _, c18, hlt, by go_num, rfl, st, by rw [HT.out]; exact hO, Lib.hid (by rw [HT.out, List.length_append, HN.out]; rfl)⟩
          case measure => simp [intOf]; omega
        · obtain rfl : k = f.mail.grants.length := by omega
          have ht0 : f.mail.grants.take f.mail.grants.length = f.mail.grants := List.take_length
          rw [ht0] at hO HN hln
          clear ht0
          have HM := Lib.hid (show mailText f = (((mailMid f ++ f.mail.grants.map b1) ++ [b1 f.mail.text.size]) ++ f.mail.text.data.toList) ++ [b1 f.certs.length] from rfl)
          have HTL := Lib.hid (text_len f.mail.text)
          generalize mailMid f ++ f.mail.grants.map b1 = xs at hO HN hln HM
          go_wp2
          have hO0 := hO.below (Below.refl _ _).drew
          have hwr : IntKind.u8.wrap (f.mail.text.size : Int) = f.mail.text.size := IntWalk.u8_in _ (by omega)
          refine lex_still st (by kernel_rfl) 11 rfl ?_; clear st; intro hI
          refine lex_take 0 rfl (by decide +kernel) (by first | exact wanted_none rfl | exact wanted_some rfl rfl) hI (fun W hW => by first | (go_simp; done) | (go_simp; rfl)) ?_; simp only [Act.put, List.setIfInBounds_toArray, List.set_cons_succ, List.set_cons_zero]
          refine lex_take 1 rfl (by decide +kernel) (by first | exact wanted_none rfl | exact wanted_some rfl rfl) hI (fun W hW => by first | (go_simp; done) | (go_simp; rfl)) ?_; simp only [Act.put, List.setIfInBounds_toArray, List.set_cons_succ, List.set_cons_zero]
          refine lex_take 2 rfl (by decide +kernel) (by first | exact wanted_none rfl | exact wanted_some rfl rfl) hI (fun W hW => St.run_load hW 1 9 _ rfl Try.isAgg9 rfl rfl rfl) ?_; simp only [Act.put, List.setIfInBounds_toArray, List.set_cons_succ, List.set_cons_zero]
          refine lex_take 3 rfl (by decide +kernel) (by first | exact wanted_none rfl | exact wanted_some rfl rfl) hI (fun W hW => by first | (go_simp; done) | (go_simp; rfl)) ?_; simp only [Act.put, List.setIfInBounds_toArray, List.set_cons_succ, List.set_cons_zero]
          refine lex_take 4 rfl (by decide +kernel) (by first | exact wanted_none rfl | exact wanted_some rfl rfl) hI (fun W hW => by first | (go_simp; done) | (go_simp; rfl)) ?_; simp only [Act.put, List.setIfInBounds_toArray, List.set_cons_succ, List.set_cons_zero]
          refine lex_take 7 rfl (by decide +kernel) (by first | exact wanted_none rfl | exact wanted_some rfl rfl) hI (fun W hW => by first | (go_simp; done) | (go_simp; rfl)) ?_; simp only [Act.put, List.setIfInBounds_toArray, List.set_cons_succ, List.set_cons_zero]
          refine lex_take 8 rfl (by decide +kernel) (by first | exact wanted_none rfl | exact wanted_some rfl rfl) hI (fun W hW => St.run_load hW 1 9 _ rfl Try.isAgg9 rfl rfl rfl) ?_; simp only [Act.put, List.setIfInBounds_toArray, List.set_cons_succ, List.set_cons_zero]
          refine lex_only 5 rfl (by decide +kernel) (by first | exact wanted_none rfl | exact wanted_some rfl rfl) fun K hK => ?_
          refine wp_bytes1 48 5 _ rfl Try.underlying48 Try.sizeOf5 Try.zeroValue5 _ rfl (by omega) ?_
          intro g20 w20 hS20 hb20
          refine hK _ _ (hI.call hb20) ?_; clear hK; simp only [Act.put, List.setIfInBounds_toArray, List.set_cons_succ, List.set_cons_zero]
          replace hI := hI.call hb20
          replace hO0 := hO0.below hb20
          refine lex_only 6 rfl (by decide +kernel) (by first | exact wanted_none rfl | exact wanted_some rfl rfl) fun K hK => ?_
          refine wp_app _ _ 48 rfl 5 i0 _ 1 1 Try.underlying48 hi hz0 hz1 hz2 rfl (by decide) rfl HN.out hO0 rfl rfl hS20 (by simp; omega) (by simp [maxLen]; omega) hI.size ?_
          intro a21 c21 w21 hO21 hg21 _
          have hI21 := hI.buf hO0 (Nat.le_refl _) hg21 (by simp)
          refine hK _ _ (hI21) ?_; clear hK; simp only [Act.put, List.setIfInBounds_toArray, List.set_cons_succ, List.set_cons_zero]
          refine lex_only 9 rfl (by decide +kernel) (by first | exact wanted_none rfl | exact wanted_some rfl rfl) fun K hK => ?_
          refine wp_appStr rfl _ _ 48 9 rfl w.heap.size 5 i0 Try.underlying48 Try.underlying9 hi hz0 hz1 hz2 rfl (by rw [List.length_append, HN.out]; rfl) hO21 f.mail.text rfl (by simp; omega) hI21.size ?_
          intro a22 c22 w22 hO22 hg22
          have hI22 := hI21.buf hO21 (Nat.le_refl _) hg22 (by simp)
          refine hK _ _ (hI22) ?_; clear hK; simp only [Act.put, List.setIfInBounds_toArray, List.set_cons_succ, List.set_cons_zero]
          clear hI
          have hI := hI22
          refine lex_take 10 rfl (by decide +kernel) (by first | exact wanted_none rfl | exact wanted_some rfl rfl) hI (fun W hW => by first | (go_simp; done) | (go_simp; rfl)) ?_; simp only [Act.put, List.setIfInBounds_toArray, List.set_cons_succ, List.set_cons_zero]
          refine lex_done (by decide +kernel) ?_
          have st := hI22
          have HN22 := Lib.hid (show n + 1 + f.mail.text.size = (((xs ++ [b1 f.mail.text.size]) ++ f.mail.text.data.toList)).length by rw [List.length_append, HTL.out, List.length_append, HN.out]; rfl)
          have hln22 : (((xs ++ [b1 f.mail.text.size]) ++ f.mail.text.data.toList)).length ≤ 14 + 2 * f.mail.label.length + f.mail.grants.length + f.mail.text.size := by rw [List.length_append, HTL.out, List.length_append]; simp; omega
          clear hwr hO hO0 hO21 hg21 hg22 hI hI21 hI22 hS20 HN hln
          have hO := hO22
          clear hO22
          generalize ((xs ++ [b1 f.mail.text.size]) ++ f.mail.text.data.toList) = ys at hO HN22 hln22 HM
          have stb := st
          replace st := st.rebase
          go_wp2_with (first
            | go_skip | (with_reducible refine at_load 27 ?_; (first | refine mem_load' st 27 _ rfl (wanted_none rfl) Try.isAgg27 ?_ | (refine mem_load' st 27 _ rfl (wanted_some rfl ?_) Try.isAgg27 ?_; focus (simp [yielded, Act.put]; done))); refine ⟨0, _, _, _, _, _, rfl, rfl, rfl, ?_⟩)
            | (with_reducible refine at_buildU 48 ?_; refine wpList_wanted (wanted_none rfl) fun K23 hK23 => wp_bytes1 48 5 _ rfl Try.underlying48 Try.sizeOf5 Try.zeroValue5 _ rfl (by omega) fun g23 w23 hS23 hb23 => hK23 _ _ ?_; clear hK23 K23; replace st := st.call hb23; clear hb23)
            | (at_builtin; have hOx := hO.below (stb.below2 st (by simp)); go_must (refine wpList_app rfl _ _ 48 rfl 5 i0 _ 1 1 Try.underlying48 hi hz0 hz1 hz2 rfl (by decide) rfl (HN22.out) hOx rfl rfl hS23 (by simp; omega) (by simp [maxLen]; omega) (St.back stb st).size ?_; intro a24 c24 w24 hO24 hg24 _; have stn := (St.back stb st).buf hOx (Nat.le_refl _) hg24 (by simp); clear stb st hO hOx hg24 hS23; have hO := hO24; have st := stn; clear hO24 stn)))
          have HN3' := Lib.hid (show n + 1 + f.mail.text.size + 1 = (mailText f ++ (f.certs.take 0).flatMap certBytes).length by rw [HM.out, List.take_zero, List.flatMap_nil, List.append_nil, List.length_append, HN22.out]; rfl)
          rw [← HM.out] at hO
          clear HN22 hln22 HM
          go_loopw [106, 5, 12] (fun i p _ wr => ∃ (k : Nat) (a : Option Addr) (n c : Nat), k ≤ f.certs.length ∧ i = .int .i64 k ∧ p = .slice a n c ∧ St [] w wr [(g1, 29, [.int .i64 f.src, .int .i64 f.dst, .int .i64 f.seq, .bool false, .int .i64 f.thread, .int .i64 f.mail.host, .int .i64 f.mail.thread, .slice la f.mail.label.length lc, .slice ga f.mail.grants.length gc, .string f.mail.text, .slice ca f.certs.length cc]), (g6, 26, [.int .i64 f.mail.host, .int .i64 f.mail.thread, .slice la f.mail.label.length lc, .slice ga f.mail.grants.length gc, .string f.mail.text])] ∧ Own w.heap.size 5 wr 1 RU8 a c (mailText f ++ (f.certs.take k).flatMap certBytes) ∧ Hid (n = (mailText f ++ (f.certs.take k).flatMap certBytes).length)) (fun i _ _ _ => f.certs.length - (intOf i).toNat)
          case atStart => exact ⟨0, a24, _, c24, Nat.zero_le _, rfl, rfl, st, by simpa using hO, HN3'⟩
          case round =>
            clear st hO HN3'
            obtain ⟨k, a, n, c, hk, rfl, rfl, st, hO, HN⟩ := hrel
            have hln : (mailText f ++ (f.certs.take k).flatMap certBytes).length ≤ 15 + 2 * f.mail.label.length + f.mail.grants.length + f.mail.text.size + 9 * k := by
              rw [List.length_append, HN3.out, flat_cert_len, List.length_take]; omega
            by_cases hlt : k < f.certs.length
            · obtain ⟨b, o, rfl, hb, _⟩ := (hC.below st.below).cert_at k hlt
              have hrow := (hC.below st.below).cert_row k hlt
              have hgc := cert_facts (HCS.out _ (List.getElem_mem hlt))
              obtain ⟨⟨q1, q2⟩, ⟨q3, q4⟩, ⟨q5, q6⟩, -, q7, q8⟩ := hgc
              have HT := Lib.hid (show mailText f ++ (f.certs.take (k + 1)).flatMap certBytes = (mailText f ++ (f.certs.take k).flatMap certBytes) ++ certBytes f.certs[k] by rw [flatMap_take certBytes f.certs k hlt, List.append_assoc])
              generalize hx : f.certs[k] = x at hrow q1 q2 q3 q4 q5 q6 q7 q8 HT
              generalize mailText f ++ (f.certs.take k).flatMap certBytes = xs at hO HN hln HT
              clear hx
              have stb := st
              replace st := st.rebase
              go_wp2_with (first | go_skip | (with_reducible refine at_load 39 ?_; refine wpList_load_cells (wanted_none rfl) 39 _ rfl Try.isAgg39 _ Try.sizeOf39 b (o + k * 4) rfl [.int .i64 x.c, .int .i64 x.by_, .int .i64 x.host, .int .i64 x.till] rfl hrow ?_) | (with_reducible refine at_alloc 39 ?_; refine mem_alloc st (wanted_none rfl) 39 rfl _ Try.zeroValue39 _ rfl ?_; clear st; intro g31 w31 hg31 st hg31b; clear hg31b; simp [Act.eval, Act.put, Value.cells, putL] at st) | (with_reducible refine at_store 39 ?_; (first | refine mem_store' st 39 _ _ rfl (wanted_none rfl) _ Try.sizeOf39 ?_ | (refine mem_store' st 39 _ _ rfl (wanted_some rfl ?_) _ Try.sizeOf39 ?_; focus (simp [yielded, Act.put]; done))); refine ⟨2, _, _, _, _, _, rfl, rfl, rfl, rfl, rfl, rfl, ?_⟩; clear st; intro w32 st hw32m hw32z; simp [Act.eval, Act.put, Value.cells, putL] at st))
              have hO0 := (hO.below (stb.below2 st (by simp))).below (Below.refl _ _).drew
              have stn := St.back stb st
              clear st hO
              have st := stn
              clear stn
              have hw1 : IntKind.u8.wrap x.c = x.c := IntWalk.u8_in _ (by omega)
              have hw2 : IntKind.u8.wrap x.by_ = x.by_ := IntWalk.u8_in _ (by omega)
              have hw3 : IntKind.u8.wrap x.host = x.host := IntWalk.u8_in _ (by omega)
              refine lex_still st (by kernel_rfl) 16 rfl ?_; clear st; intro hI
              refine lex_take 0 rfl (by decide +kernel) (by first | exact wanted_none rfl | exact wanted_some rfl rfl) hI (fun W hW => by first | (go_simp; done) | (go_simp; rfl)) ?_; simp only [Act.put, List.setIfInBounds_toArray, List.set_cons_succ, List.set_cons_zero]
              refine lex_take 1 rfl (by decide +kernel) (by first | exact wanted_none rfl | exact wanted_some rfl rfl) hI (fun W hW => by first | (go_simp; done) | (go_simp; rfl)) ?_; simp only [Act.put, List.setIfInBounds_toArray, List.set_cons_succ, List.set_cons_zero]
              refine lex_take 2 rfl (by decide +kernel) (by first | exact wanted_none rfl | exact wanted_some rfl rfl) hI (fun W hW => St.run_load hW 2 3 _ rfl Try.isAgg3 rfl rfl rfl) ?_; simp only [Act.put, List.setIfInBounds_toArray, List.set_cons_succ, List.set_cons_zero]
              refine lex_take 3 rfl (by decide +kernel) (by first | exact wanted_none rfl | exact wanted_some rfl rfl) hI (fun W hW => by first | (go_simp; done) | (go_simp; rfl)) ?_; simp only [Act.put, List.setIfInBounds_toArray, List.set_cons_succ, List.set_cons_zero]
              refine lex_take 4 rfl (by decide +kernel) (by first | exact wanted_none rfl | exact wanted_some rfl rfl) hI (fun W hW => by first | (go_simp; done) | (go_simp; rfl)) ?_; simp only [Act.put, List.setIfInBounds_toArray, List.set_cons_succ, List.set_cons_zero]
              refine lex_take 5 rfl (by decide +kernel) (by first | exact wanted_none rfl | exact wanted_some rfl rfl) hI (fun W hW => St.run_load hW 2 3 _ rfl Try.isAgg3 rfl rfl rfl) ?_; simp only [Act.put, List.setIfInBounds_toArray, List.set_cons_succ, List.set_cons_zero]
              refine lex_take 6 rfl (by decide +kernel) (by first | exact wanted_none rfl | exact wanted_some rfl rfl) hI (fun W hW => by first | (go_simp; done) | (go_simp; rfl)) ?_; simp only [Act.put, List.setIfInBounds_toArray, List.set_cons_succ, List.set_cons_zero]
              refine lex_take 7 rfl (by decide +kernel) (by first | exact wanted_none rfl | exact wanted_some rfl rfl) hI (fun W hW => by first | (go_simp; done) | (go_simp; rfl)) ?_; simp only [Act.put, List.setIfInBounds_toArray, List.set_cons_succ, List.set_cons_zero]
              refine lex_take 8 rfl (by decide +kernel) (by first | exact wanted_none rfl | exact wanted_some rfl rfl) hI (fun W hW => St.run_load hW 2 3 _ rfl Try.isAgg3 rfl rfl rfl) ?_; simp only [Act.put, List.setIfInBounds_toArray, List.set_cons_succ, List.set_cons_zero]
              refine lex_take 9 rfl (by decide +kernel) (by first | exact wanted_none rfl | exact wanted_some rfl rfl) hI (fun W hW => by first | (go_simp; done) | (go_simp; rfl)) ?_; simp only [Act.put, List.setIfInBounds_toArray, List.set_cons_succ, List.set_cons_zero]
              refine lex_take 12 rfl (by decide +kernel) (by first | exact wanted_none rfl | exact wanted_some rfl rfl) hI (fun W hW => by first | (go_simp; done) | (go_simp; rfl)) ?_; simp only [Act.put, List.setIfInBounds_toArray, List.set_cons_succ, List.set_cons_zero]
              refine lex_take 13 rfl (by decide +kernel) (by first | exact wanted_none rfl | exact wanted_some rfl rfl) hI (fun W hW => St.run_load hW 2 3 _ rfl Try.isAgg3 rfl rfl rfl) ?_; simp only [Act.put, List.setIfInBounds_toArray, List.set_cons_succ, List.set_cons_zero]
              refine lex_only 10 rfl (by decide +kernel) (by first | exact wanted_none rfl | exact wanted_some rfl rfl) fun K hK => ?_
              refine wp_bytes3 48 5 _ _ _ rfl Try.underlying48 Try.sizeOf5 Try.zeroValue5 _ _ _ rfl (by omega) rfl (by omega) rfl (by omega) ?_
              intro g33 w33 hS33 hb33
              refine hK _ _ (hI.call hb33) ?_; clear hK; simp only [Act.put, List.setIfInBounds_toArray, List.set_cons_succ, List.set_cons_zero]
              replace hI := hI.call hb33
              replace hO0 := hO0.below hb33
              refine lex_only 11 rfl (by decide +kernel) (by first | exact wanted_none rfl | exact wanted_some rfl rfl) fun K hK => ?_
              refine wp_app _ _ 48 rfl 5 i0 _ 1 1 Try.underlying48 hi hz0 hz1 hz2 rfl (by decide) rfl HN.out hO0 rfl rfl hS33 (by simp; omega) (by simp [maxLen]; omega) hI.size ?_
              intro a34 c34 w34 hO34 hg34 _
              have hI34 := hI.buf hO0 (Nat.le_refl _) hg34 (by simp)
              refine hK _ _ (hI34) ?_; clear hK; simp only [Act.put, List.setIfInBounds_toArray, List.set_cons_succ, List.set_cons_zero]
              refine lex_only 14 rfl (by decide +kernel) (by first | exact wanted_none rfl | exact wanted_some rfl rfl) fun K hK => ?_
              refine wp_callee (f := 25) (by first | (go_simp; done) | (go_simp; rfl)) ?_
              rw [show n + 3 = (xs ++ [by1 x.c, by1 x.by_, by1 x.host]).length by rw [List.length_append, HN.out]; rfl]
              refine (wire_put w.heap.size _ _ _ (xs ++ [by1 x.c, by1 x.by_, by1 x.host]) x.till q7 q8 (by simp; omega) hI34.size hO34).mono ?_
              rintro e w35 ⟨g35, c35, rfl, hO35, hg35, _⟩
              refine ⟨_, rfl, ?_⟩
              have hI35 := hI34.buf hO34 (Nat.le_refl _) hg35 (by simp)
              refine hK _ _ (hI35) ?_; clear hK; simp only [Act.put, List.setIfInBounds_toArray, List.set_cons_succ, List.set_cons_zero]
              clear hI
              have hI := hI35
              refine lex_take 15 rfl (by decide +kernel) (by first | exact wanted_none rfl | exact wanted_some rfl rfl) hI (fun W hW => by first | (go_simp; done) | (go_simp; rfl)) ?_; simp only [Act.put, List.setIfInBounds_toArray, List.set_cons_succ, List.set_cons_zero]
              refine lex_done (by decide +kernel) ?_
              have st := hI.take 2
              simp only [List.take_succ_cons, List.take_zero] at st
              clear hw1 hw2 hw3 hI hI35 hI34 hg35 hg34 hO34 hO0 hS33
              go_wp2
              go_roundw
              case rel => exact ⟨k + 1, _, _, c35, hlt, by go_num, rfl, st, by rw [HT.out, show certBytes x = [by1 x.c, by1 x.by_, by1 x.host] ++ be x.till 6 from rfl, ← List.append_assoc]; exact hO35, Lib.hid (by rw [HT.out, show certBytes x = [by1 x.c, by1 x.by_, by1 x.host] ++ be x.till 6 from rfl, ← List.append_assoc, List.length_append, be_length]; simp [List.length_append])⟩
              case measure => simp [intOf]; omega
            · obtain rfl : k = f.certs.length := by omega
              have ht0 : f.certs.take f.certs.length = f.certs := List.take_length
              rw [ht0, ← HE.out] at hO HN hln
              clear ht0
              have hlen0 : encL f ≠ [] := by rw [HE.out]; intro h; have := congrArg List.length h; rw [List.length_append, HN3.out] at this; simp only [List.length_nil] at this; omega
              obtain ⟨g, rfl⟩ := hO.isSome hlen0
              have hcv := hO.string (P := Try.prog) 48 9 5 Try.underlying48 Try.underlying5 Try.underlying9
              rw [← HN.out] at hcv
              replace hcv : (convert 48 9 (.slice (some ⟨g, 0, none⟩) n c)).run Try.prog wr = .ok (.string ⟨(encL f).toArray⟩) wr := hcv
              clear hlen0 hln HN
              go_wp2
              go_ret2
              exact ⟨rfl, st.below⟩

end Go.Proofs.Ytemjnojfhbbapaa

/- Maps that are sets of numbers, and the range over one. No program is in sight. -/
namespace Go.Proofs.Ytemjnojfhbbapaa
open Go.RowKit
open Go.Maps (Keyed IsMap)

theorem wfI {n : Int} (h : fitI n) : (Lit.int .i64 n).wf = true := by
  unfold fitI at h
  simp only [Lit.wf, decide_eq_true_eq, Bool.and_eq_true]
  exact h

section
variable {P : Program} {k e t : TypeId} {w w' : World} {b r n cnt : Nat} {l seen : List Int}

/-- Block b is a set of numbers, of at most n entries: just those of l are in it. -/
def SetB (P : Program) (k e : TypeId) (w : World) (b n : Nat) (l : List Int) : Prop :=
  ∃ D : DataW Unit, w.ownsMap P k (plainElem P e) b n D ∧ IsMap D ∧ ∀ x : Int, (Lit.int .i64 x).wf = true → Maps.has D (.int .i64 x) = inL l x ∧ D.atKey (.int .i64 x) (.lit (.bool false)) = .lit (.bool (inL l x))

theorem SetB.made (P : Program) (k e : TypeId) (w : World) : SetB P k e (w.alloc (.map #[] 0)) w.heap.size 0 [] :=
  ⟨.map [], World.ownsMap_made w P k _, Maps.isMap_empty, fun _ _ => ⟨rfl, rfl⟩⟩

theorem SetB.kept {row : Option Nat} (h : SetB P k e w b n l) (hg : w.grownBy w' row) (hne : row ≠ some b) : SetB P k e w' b n l := by
  obtain ⟨D, h1, h2⟩ := h
  exact ⟨D, h1.kept hg fun e => hne e.symm, h2⟩

theorem SetB.below (h : SetB P k e w b n l) (hb : Below w.heap.size w w') : SetB P k e w' b n l := h.kept (World.grownBy.ofBelow hb none) (by simp)

theorem SetB.lt (h : SetB P k e w b n l) : b < w.heap.size := by
  obtain ⟨D, h1, _⟩ := h
  exact h1.lt

theorem SetB.same {l' : List Int} (h : SetB P k e w b n l) (hl : ∀ x, inL l x = inL l' x) : SetB P k e w b n l' := by
  obtain ⟨D, h1, h2, h3⟩ := h
  exact ⟨D, h1, h2, fun x hx => by rw [← hl]; exact h3 x hx⟩

theorem inL_snoc (l : List Int) (x y : Int) : inL (l ++ [x]) y = if y = x then true else inL l y := by
  by_cases h : y = x
  · subst h
    rw [if_pos rfl, inL_iff]
    simp
  · rw [if_neg h, Bool.eq_iff_iff, inL_iff, inL_iff]
    simp [h]

theorem SetB.lookup (h : SetB P k e w b n l) (K : Keyed P k) (hk : P.underlying k = some (.int .i64)) (ht : P.underlying t = some (.map k e)) (he : P.underlying e = some .bool) (hz : (zeroValue e).run P w = .ok (.bool false) w) {z : Int} (hf : fitI z) :
    (Instr.lookup t (.map (some b)) (.int .i64 z) false).run P w = .ok (.bool (inL l z)) w := by
  obtain ⟨D, h1, _, h3⟩ := h
  have hkey : keyOf P k (.int .i64 z) = some (.int .i64 z) := Maps.keyOf_int_mk hk (wfI hf)
  obtain ⟨v, ps, hrun, hv⟩ := h1.lookup K ht hz (plainElem_bool he false) hkey
  rw [(h3 z (wfI hf)).2] at hv
  rw [hrun, plainElem_bool_inv he hv]

theorem SetB.update (h : SetB P k e w b n l) (K : Keyed P k) (hk : P.underlying k = some (.int .i64)) (ht : P.underlying t = some (.map k e)) (he : P.underlying e = some .bool) (hn : n < maxLen) {z : Int} (hf : fitI z) :
    ∃ w', (Instr.mapUpdate t (.map (some b)) (.int .i64 z) (.bool true)).run P w = .ok () w' ∧ SetB P k e w' b (n + 1) (l ++ [z]) ∧ w.grownBy w' (some b) := by
  obtain ⟨D, h1, h2, h3⟩ := h
  have hkey : keyOf P k (.int .i64 z) = some (.int .i64 z) := Maps.keyOf_int_mk hk (wfI hf)
  obtain ⟨w', hrun, h4, h5⟩ := h1.update K ht hn hkey (plainElem_bool he true)
  refine ⟨w', hrun, ⟨_, h4, h2.put _ _, fun x hx => ?_⟩, h5⟩
  rw [inL_snoc]
  by_cases hxz : x = z
  · subst hxz
    rw [if_pos rfl]
    exact ⟨Maps.has_put_same h2 (K.key hkey) _, Maps.atKey_put_same h2 (K.key hkey) _ _⟩
  · have hne : (Lit.int .i64 x) ≠ .int .i64 z := fun h => hxz (by injection h)
    rw [if_neg hxz]
    exact ⟨(Maps.has_put_other hne _).trans (h3 x hx).1, (Maps.atKey_put_other hne _ _).trans (h3 x hx).2⟩

/-- Block r is a range over it: those of 'seen' have come. -/
def RangeB (P : Program) (k e : TypeId) (w : World) (b r n : Nat) (l seen : List Int) (cnt : Nat) : Prop :=
  ∃ (D : DataW Unit) (left : Lit → Bool), w.ranges P k (plainElem P e) b r n D left cnt ∧ ∀ x : Int, (Lit.int .i64 x).wf = true → left (.int .i64 x) = (inL l x && !inL seen x)

theorem RangeB.left_eq (h : RangeB P k e w b r n l seen cnt) : w.rangeLeft b r = cnt := by
  obtain ⟨D, left, h1, _⟩ := h
  exact h1.left_eq

theorem RangeB.kept {row : Option Nat} (h : RangeB P k e w b r n l seen cnt) (hg : w.grownBy w' row) (hb' : some b ≠ row) (hr' : some r ≠ row) : RangeB P k e w' b r n l seen cnt := by
  obtain ⟨D, left, h1, h2⟩ := h
  exact ⟨D, left, h1.kept hg hb' hr', h2⟩

theorem RangeB.below (h : RangeB P k e w b r n l seen cnt) (hb : Below w.heap.size w w') : RangeB P k e w' b r n l seen cnt := h.kept (World.grownBy.ofBelow hb none) (by simp) (by simp)

theorem RangeB.lt (h : RangeB P k e w b r n l seen cnt) : r < w.heap.size ∧ b < w.heap.size := by
  obtain ⟨D, left, h1, _⟩ := h
  exact ⟨h1.lt, h1.owns.lt⟩

variable {ops : Array Oper} {rest : List Oper} {o : Oper} {A : Act} {Q : Exit → Act → World → Prop} {K' : Act → World → Prop}

theorem wpList_setMake (k e : TypeId) (hgd : Region.wanted o (yielded ops A.tmps) = true) (t : TypeId) (hop : o.op = Op.makeMap t none)
    (hK : ∀ b w', w.heap.size ≤ b → SetB P k e w' b 0 [] → Below w.heap.size w w' → wpList P ops Q rest (A.put o.dst (.map (some b))) w') : wpList P ops Q (o :: rest) A w := by
  refine wpList_wanted hgd fun K1 h' => ?_
  have hrun := run_makeMap (P := P) t w
  unfold Oper.wp
  simp [execOp, hop, hrun, Result.andThen]
  exact h' _ _ (hK _ _ (Nat.le_refl _) (SetB.made P k e w) ((Below.refl _ _).alloc (Nat.le_refl _) _))

theorem wpList_setUpdate (h : SetB P k e w b n l) (K : Keyed P k) (hk : P.underlying k = some (.int .i64)) (hgd : Region.wanted o (yielded ops A.tmps) = true) (m x v : Operand) (t : TypeId) (hop : o.op = Op.mapUpdate t m x v) (ht : P.underlying t = some (.map k e)) (he : P.underlying e = some .bool) (hn : n < maxLen)
    (hm : A.eval m = .map (some b)) (z : Int) (hx : A.eval x = .int .i64 z) (hf : fitI z) (hv : A.eval v = .bool true)
    (hK : ∀ w', SetB P k e w' b (n + 1) (l ++ [z]) → w.grownBy w' (some b) → wpList P ops Q rest (A.put o.dst undef) w') : wpList P ops Q (o :: rest) A w := by
  refine wpList_wanted hgd fun K1 h' => ?_
  obtain ⟨w', hrun, h1, h2⟩ := h.update K hk ht he hn hf
  unfold Oper.wp
  simp [execOp, hop, hm, hx, hv, hrun, Result.andThen]
  exact h' _ _ (hK w' h1 h2)

theorem wp_setLookup (h : SetB P k e w b n l) (K : Keyed P k) (hk : P.underlying k = some (.int .i64)) (m x : Operand) (t : TypeId) (hop : o.op = Op.lookup t m x false) (ht : P.underlying t = some (.map k e)) (he : P.underlying e = some .bool) (hz : ∀ w, (zeroValue e).run P w = .ok (.bool false) w)
    (hm : A.eval m = .map (some b)) (z : Int) (hx : A.eval x = .int .i64 z) (hf : fitI z) (hK : K' (A.put o.dst (.bool (inL l z))) w) : Oper.wp P o A w K' Q := by
  have hrun := h.lookup K hk ht he (hz w) hf
  unfold Oper.wp
  simp [execOp, hop, hm, hx, hrun, Result.andThen]
  exact hK

theorem wpList_setRange (h : SetB P k e w b n l) (K : Keyed P k) (hgd : o.guard = none) (m : Operand) (t : TypeId) (hop : o.op = Op.range t m) (ht : P.underlying t = some (.map k e)) (hm : A.eval m = .map (some b))
    (hK : ∀ r w' cnt, w.heap.size ≤ r → RangeB P k e w' b r n l [] cnt → Below w.heap.size w w' → wpList P ops Q rest (A.put o.dst (.pointer (some ⟨r, 0, none⟩))) w') : wpList P ops Q (o :: rest) A w := by
  obtain ⟨D, h1, h2, h3⟩ := h
  refine wpList_range_own w hgd m t hop k e K ht (plainElem P e) b n D hm h1 fun w' r1 r2 r3 => ?_
  refine hK _ w' _ (Nat.le_refl _) ⟨D, _, r1, fun x hx => ?_⟩ ⟨r2.os, r2.tape, r2.output, r2.size, fun q hq => r2.block q hq (by simp)⟩
  rw [(h3 x hx).1]
  simp [inL]

theorem wpList_setNext (h : RangeB P k e w b r n l seen cnt) (K : Keyed P k) (hk : P.underlying k = some (.int .i64)) (he : P.underlying e = some .bool) (hgd : o.guard = none) (it : Operand) (hop : o.op = Op.next it false) (hit : A.eval it = .pointer (some ⟨r, 0, none⟩))
    (hDone : Hid (∀ x : Int, fitI x → inL l x = true → inL seen x = true) → wpList P ops Q rest (A.put o.dst (.tuple #[.bool false])) w)
    (hMore : ∀ (x : Int) (c : Bool) (w' : World) (cnt' : Nat), fitI x → inL l x = true → RangeB P k e w' b r n l (seen ++ [x]) cnt' → cnt' < cnt → w.grownBy w' (some r) → w'.heap.size = w.heap.size →
      (Instr.entry (.pointer (some ⟨r, 0, none⟩))).run P w' = .ok (.tuple #[.int .i64 x, .bool c]) w' → wpList P ops Q rest (A.put o.dst (.tuple #[.bool true, .int .i64 x, .bool c])) w') : wpList P ops Q (o :: rest) A w := by
  obtain ⟨D, left, h1, h2⟩ := h
  refine wpList_next_ranges w hgd it hop k K (plainElem P e) (Value.int .i64) Value.bool (fun key kl hkey => by obtain ⟨x, rfl, _⟩ := Maps.keyOf_int_inv hk hkey; exact ⟨x, rfl⟩)
    (fun v y hv => by
      unfold plainElem at hv
      rw [he] at hv
      cases v <;> simp at hv
      exact ⟨_, rfl⟩) b r n D left cnt hit h1 (fun h0 hl => hDone (Lib.hid fun x hx hin => ?_)) (fun x c kl y w' cnt' hkey hlk hv hat hrg hlt hgr hsz hen => ?_)
  · have := h2 x (wfI hx)
    rw [hl, hin] at this
    cases hs : inL seen x
    · rw [hs] at this; simp at this
    · rfl
  · obtain ⟨x', ex, rfl, hwx⟩ := Maps.keyOf_int_inv hk hkey
    cases ex
    have hfx : fitI x := by
      simp only [Lit.wf, decide_eq_true_eq, Bool.and_eq_true] at hwx
      exact hwx
    have h3 := h2 x hwx
    rw [hlk] at h3
    have h4 : inL l x = true := by
      cases hl : inL l x
      · rw [hl] at h3; simp at h3
      · rfl
    refine hMore x c w' cnt' hfx h4 ⟨D, _, hrg, fun z hz => ?_⟩ hlt hgr hsz hen
    rw [inL_snoc, h2 z hz]
    by_cases hzx : z = x
    · subst hzx
      rw [if_pos rfl, WideAt.sameKey_self (K.key hkey)]
      simp
    · have hne : (Lit.int .i64 z) ≠ .int .i64 x := fun h => hzx (by injection h)
      rw [if_neg hzx, Maps.sameKey_ne hne]
      simp

end
end Go.Proofs.Ytemjnojfhbbapaa

/- The walks through parcloseref.names, in, At. -/
namespace Go.Proofs.Ytemjnojfhbbapaa
open Go.RowKit
open Go.Maps (Keyed IsMap int_keyed)

/-- A label among labels. -/
def RLabel (ok : Nat → Prop) (w : World) (cs : List Value) (x : List Lev) : Prop := ∃ la lc, cs = [.slice la x.length lc] ∧ SlR ok w 2 RLev la lc x

theorem RLabel.keep {ok : Nat → Prop} {w w' : World} (hk : Keeps ok w w') {cs : List Value} {x : List Lev} (h : RLabel ok w cs x) : RLabel ok w' cs x := by
  obtain ⟨la, lc, e, h1⟩ := h
  exact ⟨la, lc, e, h1.keep hk⟩

abbrev LabelsR (ok : Nat → Prop) (w : World) (a : Option Addr) (c : Nat) (ls : List (List Lev)) : Prop := SlR ok w 1 (RLabel ok w) a c ls

theorem LabelsR.below {ok : Nat → Prop} {w w' : World} {a : Option Addr} {c : Nat} {ls : List (List Lev)} (h : LabelsR ok w a c ls) (hb : Below w.heap.size w w') : LabelsR ok w' a c ls := h.mono (.of_below hb) fun _ _ => RLabel.keep (.of_below hb)

def namesL (ls : List (List Lev)) : List Int := ls.flatMap fun x => x.map (·.c)

theorem namesL_take {ls : List (List Lev)} {k : Nat} (h : k < ls.length) : namesL (ls.take (k + 1)) = namesL (ls.take k) ++ (ls[k].map (·.c)) := by
  unfold namesL
  rw [List.take_succ_eq_append_getElem h, List.flatMap_append]
  simp

end Go.Proofs.Ytemjnojfhbbapaa

/- The walks through parcloseref.in, At, GoodLabel and Flows. -/
namespace Go.Proofs.Ytemjnojfhbbapaa
open Go.RowKit
open Go.Maps (Keyed IsMap int_keyed)

theorem wpList_buildV2 {P : Program} {w0 w : World} {M : List Nat} {own : Blks} {ops : Array Oper} {rest : List Oper} {o : Oper} {A : Act} {Q : Exit → Act → World → Prop} (st : St M w0 w own) (hgd : Region.wanted o (yielded ops A.tmps) = true) (T T' : TypeId) (x0 x1 : Operand) (ho : o.op = .buildSlice T 2 #[(0, x0), (1, x1)]) (ht : P.underlying T = some (.slice T')) (hsz : ∀ w, (sizeOf T').run P w = .ok 1 w) (hz : ∀ w, (zeroValue T').run P w = .ok (.slice none 0 0) w) (a0 a1 : Option Addr) (n0 n1 c0 c1 : Nat) (hx0 : A.eval x0 = .slice a0 n0 c0) (hx1 : A.eval x1 = .slice a1 n1 c1)
    (h : ∀ g w', w0.heap.size ≤ g → St M w0 w' (own ++ [(g, T', [.slice a0 n0 c0, .slice a1 n1 c1])]) → Below w.heap.size w w' → wpList P ops Q rest (A.put o.dst (.slice (some ⟨g, 0, none⟩) 2 2)) w') : wpList P ops Q (o :: rest) A w := by
  refine wpList_wanted hgd fun K hK => ?_
  have hs := st.new T' [.slice a0 n0 c0, .slice a1 n1 c1]
  have h2 := hK _ _ (h w.heap.size _ st.size hs ((Below.refl _ _).alloc (Nat.le_refl _) _))
  unfold Oper.wp
  simp [execOp, ho, Instr.buildSlice, run_underlying ht, hsz, hz, newRow, newObj, hx0, hx1, Instr.fill, Value.cells, Array.range, Result.andThen] at h2 ⊢
  exact h2

theorem labels2 {w : World} {g : Nat} {T : TypeId} {a b : List Lev} {la lb : Option Addr} {ca cb : Nat} (h : w.heap[g]? = some (.cells [Value.slice la a.length ca, .slice lb b.length cb].toArray T (0, 0))) {ok : Nat → Prop} (hA : SlR ok w 2 RLev la ca a) (hB : SlR ok w 2 RLev lb cb b) : LabelsR (fun _ => True) w (some ⟨g, 0, none⟩) 2 [a, b] := by
  refine ⟨by simp, by decide, by simp, fun i x hx => ?_⟩
  have hg := (Array.getElem?_eq_some_iff.1 h).1
  have hcell : ∀ (j : Nat) (v : Value), [Value.slice la a.length ca, .slice lb b.length cb][j]? = some v → w.cell? ⟨g, 0 + j, none⟩ = some v := fun j v hj => by
    rw [Nat.zero_add, cell_of_row w g _ _ T (0, 0) h]
    simpa using hj
  rcases i with _ | _ | i
  · simp at hx
    subst hx
    refine ⟨g, 0, [.slice la a.length ca], rfl, trivial, hg, ⟨la, ca, rfl, hA.okay fun _ _ => trivial⟩, rfl, by simp [Value.oneCell'], fun j v hj => ?_⟩
    rcases j with _ | j
    · simp at hj; subst hj; exact hcell 0 _ rfl
    · simp at hj
  · simp at hx
    subst hx
    refine ⟨g, 0, [.slice lb b.length cb], rfl, trivial, hg, ⟨lb, cb, rfl, hB.okay fun _ _ => trivial⟩, rfl, by simp [Value.oneCell'], fun j v hj => ?_⟩
    rcases j with _ | j
    · simp at hj; subst hj; exact hcell 1 _ rfl
    · simp at hj
  · simp at hx

end Go.Proofs.Ytemjnojfhbbapaa

/- The walk through parcloseref.GoodLabel. -/
namespace Go.Proofs.Ytemjnojfhbbapaa
open Go.RowKit

theorem prevC_ge {l : List Lev} {k : Nat} (h : -1 ≤ prevC l k) (hk : k < l.length) (hc : 0 ≤ l[k].c) : -1 ≤ prevC l (k + 1) := by
  rw [prevC_succ l k hk]
  omega

set_option maxRecDepth 100000 in
set_option maxHeartbeats 3000000 in
theorem ref_GoodLabel (ok : Nat → Prop) (w : World) (la : Option Addr) (lc : Nat) (l : List Lev) (hR : SlR ok w 2 RLev la lc l) :
    Calls Try.prog 33 #[.slice la l.length lc] w fun e w' => e = .returned (.bool (goodL l)) ∧ Below w.heap.size w w' := by
  have hl : l.length ≤ 9223372036854775807 := by have h1 := hR.1; have h2 := hR.2.1; unfold maxLen at h2; omega
  go_enter Try.func33, Try.ntmps33
  go_wp2
  go_loopw [8, 3] (fun i p wr => ∃ k : Nat, k ≤ l.length ∧ i = .int .i64 k ∧ p = .int .i64 (prevC l k) ∧ Below w.heap.size w wr ∧ Hid (risesL (-1) l = risesL (prevC l k) (l.drop k)) ∧ -1 ≤ prevC l k) (fun i _ _ => l.length - (intOf i).toNat)
  case atStart => exact ⟨0, Nat.zero_le _, rfl, by rw [prevC_zero], Below.refl _ _, by rw [prevC_zero]; rfl, by rw [prevC_zero]; decide⟩
  case round =>
    obtain ⟨k, hk, rfl, rfl, hB, hI, hge⟩ := hrel
    by_cases hlt : k < l.length
    · obtain ⟨b, o, rfl, hb, _⟩ := hR.lev_at k hlt
      have hrow := (hR.below hB).lev_row k hlt
      have hbad := @good_bad l k hlt hI
      have hgo := @good_go l k hlt hI
      have hps := prevC_succ l k hlt
      have hpg := @prevC_ge l k hge hlt
      generalize prevC l k = p at hbad hgo hge hpg ⊢
      generalize hx : l[k] = x at hrow hbad hgo hps hpg
      have HBad := Lib.hid hbad
      have HGo := Lib.hid hgo
      have HPs := Lib.hid hps
      have HPg := Lib.hid hpg
      clear hx hbad hgo hI hps hpg
      have st := St.start wr
      by_cases e1 : x.c ≤ p
      · have d1 : decide (x.c ≤ p) = true := by simpa using e1
        have HE := Lib.hid (HBad.out fun h => by omega)
        clear e1
        go_wp2_with (first | go_skip | (with_reducible refine at_load 51 ?_; refine wpList_load_cells (wanted_none rfl) 51 _ rfl Try.isAgg51 _ Try.sizeOf51 b (o + k * 2) rfl [.int .i64 x.c, .int .i64 x.l] rfl hrow ?_) | (with_reducible refine at_alloc 51 ?_; refine mem_alloc st (wanted_none rfl) 51 rfl _ Try.zeroValue51 _ rfl ?_; clear st; intro g1 w1 hg1 st hg1b; clear hg1b; simp [Act.eval, Act.put, Value.cells, putL] at st) | (with_reducible refine at_store 51 ?_; (first | refine mem_store' st 51 _ _ rfl (wanted_none rfl) _ Try.sizeOf51 ?_ | (refine mem_store' st 51 _ _ rfl (wanted_some rfl ?_) _ Try.sizeOf51 ?_; focus (simp [yielded, Act.put]; done))); refine ⟨0, _, _, _, _, _, rfl, rfl, rfl, rfl, rfl, rfl, ?_⟩; clear st; intro w2 st hw2m hw2z; simp [Act.eval, Act.put, Value.cells, putL] at st) | (with_reducible refine at_load 3 ?_; (first | refine mem_load' st 3 _ rfl (wanted_none rfl) Try.isAgg3 ?_ | (refine mem_load' st 3 _ rfl (wanted_some rfl ?_) Try.isAgg3 ?_; focus (simp [yielded, Act.put]; done))); refine ⟨0, _, _, _, _, _, rfl, rfl, rfl, ?_⟩))
        go_ret
        exact ⟨ret_bool HE.out.symm, hB.keep st.below⟩
      · have d1 : decide (x.c ≤ p) = false := by simpa using e1
        by_cases e2 : 79 < x.c
        · have d2 : decide (79 < x.c) = true := by simpa using e2
          have HE := Lib.hid (HBad.out fun h => by have := h.2; simp only [lvOk, decide_eq_true_eq] at this; omega)
          clear e1 e2
          go_wp2_with (first | go_skip | (with_reducible refine at_load 51 ?_; refine wpList_load_cells (wanted_none rfl) 51 _ rfl Try.isAgg51 _ Try.sizeOf51 b (o + k * 2) rfl [.int .i64 x.c, .int .i64 x.l] rfl hrow ?_) | (with_reducible refine at_alloc 51 ?_; refine mem_alloc st (wanted_none rfl) 51 rfl _ Try.zeroValue51 _ rfl ?_; clear st; intro g1 w1 hg1 st hg1b; clear hg1b; simp [Act.eval, Act.put, Value.cells, putL] at st) | (with_reducible refine at_store 51 ?_; (first | refine mem_store' st 51 _ _ rfl (wanted_none rfl) _ Try.sizeOf51 ?_ | (refine mem_store' st 51 _ _ rfl (wanted_some rfl ?_) _ Try.sizeOf51 ?_; focus (simp [yielded, Act.put]; done))); refine ⟨0, _, _, _, _, _, rfl, rfl, rfl, rfl, rfl, rfl, ?_⟩; clear st; intro w2 st hw2m hw2z; simp [Act.eval, Act.put, Value.cells, putL] at st) | (with_reducible refine at_load 3 ?_; (first | refine mem_load' st 3 _ rfl (wanted_none rfl) Try.isAgg3 ?_ | (refine mem_load' st 3 _ rfl (wanted_some rfl ?_) Try.isAgg3 ?_; focus (simp [yielded, Act.put]; done))); refine ⟨0, _, _, _, _, _, rfl, rfl, rfl, ?_⟩))
          go_ret
          exact ⟨ret_bool HE.out.symm, hB.keep st.below⟩
        · have d2 : decide (79 < x.c) = false := by simpa using e2
          rcases (show x.l = 0 ∨ (x.l ≠ 0 ∧ x.l = 2) ∨ (x.l ≠ 0 ∧ x.l ≠ 2 ∧ x.l = 3) ∨ (x.l ≠ 0 ∧ x.l ≠ 2 ∧ x.l ≠ 3) by omega) with h3 | ⟨h4, h5⟩ | ⟨h4, h5, h6⟩ | ⟨h4, h5, h6⟩
          · have HOk := Lib.hid (show p < x.c ∧ lvOk x = true from ⟨by omega, by simp only [lvOk, decide_eq_true_eq]; omega⟩)
            have hx0 : 0 ≤ x.c := by omega
            have d3 : (x.l != 0) = false := by simp; omega
            skip
            clear e1 e2 h3
            go_wp2_with (first | go_skip | (with_reducible refine at_load 51 ?_; refine wpList_load_cells (wanted_none rfl) 51 _ rfl Try.isAgg51 _ Try.sizeOf51 b (o + k * 2) rfl [.int .i64 x.c, .int .i64 x.l] rfl hrow ?_) | (with_reducible refine at_alloc 51 ?_; refine mem_alloc st (wanted_none rfl) 51 rfl _ Try.zeroValue51 _ rfl ?_; clear st; intro g1 w1 hg1 st hg1b; clear hg1b; simp [Act.eval, Act.put, Value.cells, putL] at st) | (with_reducible refine at_store 51 ?_; (first | refine mem_store' st 51 _ _ rfl (wanted_none rfl) _ Try.sizeOf51 ?_ | (refine mem_store' st 51 _ _ rfl (wanted_some rfl ?_) _ Try.sizeOf51 ?_; focus (simp [yielded, Act.put]; done))); refine ⟨0, _, _, _, _, _, rfl, rfl, rfl, rfl, rfl, rfl, ?_⟩; clear st; intro w2 st hw2m hw2z; simp [Act.eval, Act.put, Value.cells, putL] at st) | (with_reducible refine at_load 3 ?_; (first | refine mem_load' st 3 _ rfl (wanted_none rfl) Try.isAgg3 ?_ | (refine mem_load' st 3 _ rfl (wanted_some rfl ?_) Try.isAgg3 ?_; focus (simp [yielded, Act.put]; done))); refine ⟨0, _, _, _, _, _, rfl, rfl, rfl, ?_⟩))
            go_roundw
            case rel => exact ⟨k + 1, hlt, by go_num, by rw [HPs.out], hB.keep st.below, HGo.out HOk.out, HPg.out hx0⟩
            case measure => simp [intOf]; omega
          · have HOk := Lib.hid (show p < x.c ∧ lvOk x = true from ⟨by omega, by simp only [lvOk, decide_eq_true_eq]; omega⟩)
            have hx0 : 0 ≤ x.c := by omega
            have d3 : (x.l != 0) = true := by simp; omega
            have d4 : (x.l != 2) = false := by simp; omega
            clear e1 e2 h4 h5
            go_wp2_with (first | go_skip | (with_reducible refine at_load 51 ?_; refine wpList_load_cells (wanted_none rfl) 51 _ rfl Try.isAgg51 _ Try.sizeOf51 b (o + k * 2) rfl [.int .i64 x.c, .int .i64 x.l] rfl hrow ?_) | (with_reducible refine at_alloc 51 ?_; refine mem_alloc st (wanted_none rfl) 51 rfl _ Try.zeroValue51 _ rfl ?_; clear st; intro g1 w1 hg1 st hg1b; clear hg1b; simp [Act.eval, Act.put, Value.cells, putL] at st) | (with_reducible refine at_store 51 ?_; (first | refine mem_store' st 51 _ _ rfl (wanted_none rfl) _ Try.sizeOf51 ?_ | (refine mem_store' st 51 _ _ rfl (wanted_some rfl ?_) _ Try.sizeOf51 ?_; focus (simp [yielded, Act.put]; done))); refine ⟨0, _, _, _, _, _, rfl, rfl, rfl, rfl, rfl, rfl, ?_⟩; clear st; intro w2 st hw2m hw2z; simp [Act.eval, Act.put, Value.cells, putL] at st) | (with_reducible refine at_load 3 ?_; (first | refine mem_load' st 3 _ rfl (wanted_none rfl) Try.isAgg3 ?_ | (refine mem_load' st 3 _ rfl (wanted_some rfl ?_) Try.isAgg3 ?_; focus (simp [yielded, Act.put]; done))); refine ⟨0, _, _, _, _, _, rfl, rfl, rfl, ?_⟩))
            go_roundw
            case rel => exact ⟨k + 1, hlt, by go_num, by rw [HPs.out], hB.keep st.below, HGo.out HOk.out, HPg.out hx0⟩
            case measure => simp [intOf]; omega
          · have HOk := Lib.hid (show p < x.c ∧ lvOk x = true from ⟨by omega, by simp only [lvOk, decide_eq_true_eq]; omega⟩)
            have hx0 : 0 ≤ x.c := by omega
            have d3 : (x.l != 0) = true := by simp; omega
            have d4 : (x.l != 2) = true := by simp; omega
            have d5 : (x.l != 3) = false := by simp; omega
            clear e1 e2 h4 h5 h6
            go_wp2_with (first | go_skip | (with_reducible refine at_load 51 ?_; refine wpList_load_cells (wanted_none rfl) 51 _ rfl Try.isAgg51 _ Try.sizeOf51 b (o + k * 2) rfl [.int .i64 x.c, .int .i64 x.l] rfl hrow ?_) | (with_reducible refine at_alloc 51 ?_; refine mem_alloc st (wanted_none rfl) 51 rfl _ Try.zeroValue51 _ rfl ?_; clear st; intro g1 w1 hg1 st hg1b; clear hg1b; simp [Act.eval, Act.put, Value.cells, putL] at st) | (with_reducible refine at_store 51 ?_; (first | refine mem_store' st 51 _ _ rfl (wanted_none rfl) _ Try.sizeOf51 ?_ | (refine mem_store' st 51 _ _ rfl (wanted_some rfl ?_) _ Try.sizeOf51 ?_; focus (simp [yielded, Act.put]; done))); refine ⟨0, _, _, _, _, _, rfl, rfl, rfl, rfl, rfl, rfl, ?_⟩; clear st; intro w2 st hw2m hw2z; simp [Act.eval, Act.put, Value.cells, putL] at st) | (with_reducible refine at_load 3 ?_; (first | refine mem_load' st 3 _ rfl (wanted_none rfl) Try.isAgg3 ?_ | (refine mem_load' st 3 _ rfl (wanted_some rfl ?_) Try.isAgg3 ?_; focus (simp [yielded, Act.put]; done))); refine ⟨0, _, _, _, _, _, rfl, rfl, rfl, ?_⟩))
            go_roundw
            case rel => exact ⟨k + 1, hlt, by go_num, by rw [HPs.out], hB.keep st.below, HGo.out HOk.out, HPg.out hx0⟩
            case measure => simp [intOf]; omega
          · have HE := Lib.hid (HBad.out fun h => by have := h.2; simp only [lvOk, decide_eq_true_eq] at this; omega)
            have d3 : (x.l != 0) = true := by simp; omega
            have d4 : (x.l != 2) = true := by simp; omega
            have d5 : (x.l != 3) = true := by simp; omega
            clear e1 e2 h4 h5 h6
            go_wp2_with (first | go_skip | (with_reducible refine at_load 51 ?_; refine wpList_load_cells (wanted_none rfl) 51 _ rfl Try.isAgg51 _ Try.sizeOf51 b (o + k * 2) rfl [.int .i64 x.c, .int .i64 x.l] rfl hrow ?_) | (with_reducible refine at_alloc 51 ?_; refine mem_alloc st (wanted_none rfl) 51 rfl _ Try.zeroValue51 _ rfl ?_; clear st; intro g1 w1 hg1 st hg1b; clear hg1b; simp [Act.eval, Act.put, Value.cells, putL] at st) | (with_reducible refine at_store 51 ?_; (first | refine mem_store' st 51 _ _ rfl (wanted_none rfl) _ Try.sizeOf51 ?_ | (refine mem_store' st 51 _ _ rfl (wanted_some rfl ?_) _ Try.sizeOf51 ?_; focus (simp [yielded, Act.put]; done))); refine ⟨0, _, _, _, _, _, rfl, rfl, rfl, rfl, rfl, rfl, ?_⟩; clear st; intro w2 st hw2m hw2z; simp [Act.eval, Act.put, Value.cells, putL] at st) | (with_reducible refine at_load 3 ?_; (first | refine mem_load' st 3 _ rfl (wanted_none rfl) Try.isAgg3 ?_ | (refine mem_load' st 3 _ rfl (wanted_some rfl ?_) Try.isAgg3 ?_; focus (simp [yielded, Act.put]; done))); refine ⟨0, _, _, _, _, _, rfl, rfl, rfl, ?_⟩))
            go_ret
            exact ⟨ret_bool HE.out.symm, hB.keep st.below⟩
    · have HE := Lib.hid (show goodL l = decide (l.length ≤ 8) by
        unfold goodL
        rw [hI.out, List.drop_of_length_le (by omega)]
        by_cases h8 : l.length ≤ 8 <;> simp [h8, risesL])
      go_wp2
      go_ret
      exact ⟨ret_bool (by rw [HE.out]; simp; omega), hB⟩

end Go.Proofs.Ytemjnojfhbbapaa

/- None is taken twice, in plain words; no program is in sight. -/
namespace Go.Proofs.Ytemjnojfhbbapaa
open Go.RowKit

theorem Eight.get_of (f : Nat → Bool) {j : Nat} (h : j < 8) : (Eight.of f).get j = f j := by
  match j, h with
  | 0, _ => rfl
  | 1, _ => rfl
  | 2, _ => rfl
  | 3, _ => rfl
  | 4, _ => rfl
  | 5, _ => rfl
  | 6, _ => rfl
  | 7, _ => rfl

/-- Whatever was had is marked, or too old to be marked. -/
def OnceInv (good : Bool) (high : Int) (e : Eight) (f : Lit → Bool) : Prop :=
  ∀ x : Int, f (.int .i64 x) = true → good = true ∧ 1 ≤ x ∧ x ≤ high ∧ (high - 8 < x → e.get (high - x).toNat = true)

theorem sameKey_int (x y : Int) : (Lit.int .i64 x).sameKey (.int .i64 y) = (x == y) := by
  simp only [Lit.sameKey]
  by_cases h : x = y <;> simp [h]

theorem lineOk_take {next high high' : Int} {sent : List Sent} {e e' : Eight} (h0 : 0 ≤ high) (h1 : high ≤ 1099511627776) (h2 : 0 ≤ high') (h3 : high' ≤ 1099511627776) : lineOk ⟨next, sent, high', e'⟩ = lineOk ⟨next, sent, high, e⟩ := by
  unfold lineOk headOk
  simp only [h0, h1, h2, h3, true_and]

theorem once_step {good : Bool} {next high : Int} {sent : List Sent} {e : Eight} {f : Lit → Bool} (hg : lineOk ⟨next, sent, high, e⟩ = good) (hI : OnceInv good high e f) {s : Int} (s1 : 1 ≤ s) (s2 : s ≤ 60) {r : Int × Eight × Int} (hr : takeC good high s e = r) :
    lineOk ⟨next, sent, r.1, r.2.1⟩ = good ∧
    ((r.2.2 = 0 ∧ f (.int .i64 s) = false ∧ s ≤ r.1 ∧ OnceInv good r.1 r.2.1 (fun l => if l.sameKey (.int .i64 s) then true else f l)) ∨
     (r.1 = high ∧ r.2.1 = e ∧ (f (.int .i64 s) = false ∧ r.2.2 ≠ 0 ∨ f (.int .i64 s) = true ∧ r.2.2 = 10 ∨ f (.int .i64 s) = true ∧ r.2.2 = 11))) := by
  unfold takeC at hr
  have hf : ∀ b, f (.int .i64 s) = b → b = true → good = true ∧ 1 ≤ s ∧ s ≤ high ∧ (high - 8 < s → e.get (high - s).toNat = true) := fun b h1 h2 => hI s (h1.trans h2)
  by_cases c0 : good = false ∨ s < 1 ∨ 1099511627776 < s
  · rw [if_pos c0] at hr
    subst hr
    refine ⟨hg, .inr ⟨rfl, rfl, .inl ⟨?_, by simp⟩⟩⟩
    have : good = false := by
      rcases c0 with h | h | h
      · exact h
      · omega
      · omega
    cases h : f (.int .i64 s)
    · rfl
    · have := (hf true h rfl).1
      simp_all
  · rw [if_neg c0] at hr
    have hgt : good = true := by
      cases good
      · exact absurd (Or.inl rfl) c0
      · rfl
    subst hgt
    obtain ⟨_, _, b1, b2, _⟩ := lineOk_high hg
    by_cases c1 : s ≤ high - 8
    · rw [if_pos c1] at hr
      subst hr
      refine ⟨hg, .inr ⟨rfl, rfl, ?_⟩⟩
      cases h : f (.int .i64 s)
      · exact .inl ⟨rfl, by simp⟩
      · exact .inr (.inr ⟨rfl, rfl⟩)
    · rw [if_neg c1] at hr
      by_cases c2 : s ≤ high
      · rw [if_pos c2] at hr
        by_cases c3 : e.get (high - s).toNat = true
        · rw [if_pos c3] at hr
          subst hr
          refine ⟨hg, .inr ⟨rfl, rfl, ?_⟩⟩
          cases h : f (.int .i64 s)
          · exact .inl ⟨rfl, by simp⟩
          · exact .inr (.inl ⟨rfl, rfl⟩)
        · rw [if_neg c3] at hr
          subst hr
          have hfs : f (.int .i64 s) = false := by
            cases h : f (.int .i64 s)
            · rfl
            · exact absurd ((hf true h rfl).2.2.2 (by omega)) c3
          refine ⟨(lineOk_take b1 b2 b1 b2).trans hg, .inl ⟨rfl, hfs, c2, fun x hx => ?_⟩⟩
          replace hx : (if (Lit.int .i64 x).sameKey (.int .i64 s) = true then true else f (.int .i64 x)) = true := hx
          rw [sameKey_int] at hx
          show true = true ∧ 1 ≤ x ∧ x ≤ high ∧ (high - 8 < x → (Eight.of _).get (high - x).toNat = true)
          by_cases hxs : x = s
          · subst hxs
            refine ⟨rfl, s1, c2, fun h => ?_⟩
            rw [Eight.get_of _ (by omega), if_pos rfl]
          · rw [if_neg (by simpa using hxs)] at hx
            obtain ⟨_, h1, h2, h3⟩ := hI x hx
            refine ⟨rfl, h1, h2, fun h => ?_⟩
            rw [Eight.get_of _ (by omega), h3 h]
            simp
      · rw [if_neg c2] at hr
        subst hr
        have hfs : f (.int .i64 s) = false := by
          cases h : f (.int .i64 s)
          · rfl
          · exact absurd (hf true h rfl).2.2.1 c2
        refine ⟨(lineOk_take b1 b2 (by show 0 ≤ s; omega) (by show s ≤ _; omega)).trans hg, .inl ⟨rfl, hfs, Int.le_refl _, fun x hx => ?_⟩⟩
        replace hx : (if (Lit.int .i64 x).sameKey (.int .i64 s) = true then true else f (.int .i64 x)) = true := hx
        rw [sameKey_int] at hx
        show true = true ∧ 1 ≤ x ∧ x ≤ s ∧ (s - 8 < x → (Eight.of _).get (s - x).toNat = true)
        by_cases hxs : x = s
        · subst hxs
          refine ⟨rfl, s1, Int.le_refl _, fun h => ?_⟩
          rw [Eight.get_of _ (by omega), if_pos (by omega)]
        · rw [if_neg (by simpa using hxs)] at hx
          obtain ⟨_, h1, h2, h3⟩ := hI x hx
          refine ⟨rfl, h1, by omega, fun h => ?_⟩
          rw [Eight.get_of _ (by omega), if_neg (by omega), if_pos (by omega)]
          rw [show (s - x).toNat - (s - high).toNat = (high - x).toNat by omega]
          exact h3 (by omega)

end Go.Proofs.Ytemjnojfhbbapaa

/- The first eight numbers in whatever order, in plain words; slices of slices. No program is in sight. -/
namespace Go.Proofs.Ytemjnojfhbbapaa
open Go.RowKit

structure TurnInv (left : List Int) (high : Int) (e : Eight) : Prop where
  nd : left.Nodup
  rng : ∀ x ∈ left, 1 ≤ x ∧ x ≤ 8
  lo : 0 ≤ high
  hi : high ≤ 8
  yes : ∀ x, 1 ≤ x → x ≤ 8 → x ∉ left → x ≤ high ∧ e.get (high - x).toNat = true
  no : ∀ x ∈ left, x ≤ high → e.get (high - x).toNat = false

theorem TurnInv.start : TurnInv [1, 2, 3, 4, 5, 6, 7, 8] 0 ⟨false, false, false, false, false, false, false, false⟩ := by
  refine ⟨by decide, by decide, by decide, by decide, fun x h1 h2 h3 => ?_, fun x h1 h2 => ?_⟩
  · exfalso
    apply h3
    rcases (show x = 1 ∨ x = 2 ∨ x = 3 ∨ x = 4 ∨ x = 5 ∨ x = 6 ∨ x = 7 ∨ x = 8 by omega) with rfl | rfl | rfl | rfl | rfl | rfl | rfl | rfl <;> decide
  · have : ∀ x ∈ [1, 2, 3, 4, 5, 6, 7, (8 : Int)], 1 ≤ x := by decide
    have := this x h1
    omega

theorem lineOk_none {high : Int} {e : Eight} (h0 : 0 ≤ high) (h1 : high ≤ 8) : lineOk ⟨0, [], high, e⟩ = true := by
  unfold lineOk headOk
  simp only [List.length_nil]
  rw [if_pos (by simp; omega)]
  rfl

theorem mem_erase {l : List Int} (hn : l.Nodup) {k : Nat} (hk : k < l.length) (y : Int) : y ∈ l.take k ++ l.drop (k + 1) ↔ y ∈ l ∧ y ≠ l[k] := by
  have e : l = l.take k ++ l[k] :: l.drop (k + 1) := by rw [List.getElem_cons_drop, List.take_append_drop]
  have hn' := hn
  rw [e] at hn'
  rw [List.nodup_append, List.nodup_cons] at hn'
  obtain ⟨h1, ⟨h2, h3⟩, h4⟩ := hn'
  constructor
  · intro h
    rw [List.mem_append] at h
    rcases h with h | h
    · exact ⟨List.mem_of_mem_take h, fun e => h4 y h l[k] (List.mem_cons_self ..) e⟩
    · exact ⟨List.mem_of_mem_drop h, fun e => h2 (e ▸ h)⟩
  · rintro ⟨h, hne⟩
    rw [e, List.mem_append, List.mem_cons] at h
    rw [List.mem_append]
    rcases h with h | h | h
    · exact .inl h
    · exact absurd h hne
    · exact .inr h

theorem turn_step {left : List Int} {high : Int} {e : Eight} (hI : TurnInv left high e) {k : Nat} (hk : k < left.length) : ∃ (h' : Int) (e' : Eight), takeC true high left[k] e = (h', e', 0) ∧ takeC true h' left[k] e' = (h', e', 10) ∧ TurnInv (left.take k ++ left.drop (k + 1)) h' e' := by
  have hm : left[k] ∈ left := List.getElem_mem hk
  obtain ⟨x1, x2⟩ := hI.rng _ hm
  have hno := hI.no _ hm
  have hlo := hI.lo
  have hhi := hI.hi
  have hmem := mem_erase hI.nd hk
  have hnd : (left.take k ++ left.drop (k + 1)).Nodup := by
    have := hI.nd
    rw [← List.eraseIdx_eq_take_drop_succ]
    exact this.sublist (List.eraseIdx_sublist ..)
  generalize left[k] = x at hm x1 x2 hno hmem
  by_cases c2 : x ≤ high
  · refine ⟨high, e.yes (high - x).toNat, ?_, ?_, hnd, fun y hy => hI.rng y ((hmem y).1 hy).1, hlo, hhi, fun y y1 y2 hy => ?_, fun y hy hyh => ?_⟩
    · unfold takeC
      rw [if_neg (by simp; omega), if_neg (by omega), if_pos c2, if_neg (by rw [hno c2]; simp)]
    · unfold takeC
      rw [if_neg (by simp; omega), if_neg (by omega), if_pos c2, if_pos (by show (Eight.of _).get _ = true; rw [Eight.get_of _ (by omega), if_pos rfl])]
    · by_cases hxy : y = x
      · subst hxy
        exact ⟨c2, by show (Eight.of _).get _ = true; rw [Eight.get_of _ (by omega), if_pos rfl]⟩
      · obtain ⟨h1, h2⟩ := hI.yes y y1 y2 fun h => hy ((hmem y).2 ⟨h, hxy⟩)
        refine ⟨h1, ?_⟩
        show (Eight.of _).get _ = true
        rw [Eight.get_of _ (by omega), h2]
        simp
    · obtain ⟨hyl, hne⟩ := (hmem y).1 hy
      show (Eight.of _).get _ = false
      have := hI.rng y hyl
      rw [Eight.get_of _ (by omega), if_neg (by omega)]
      exact hI.no y hyl hyh
  · refine ⟨x, Eight.of fun j => if j = 0 then true else if x - high ≤ j then e.get (j - (x - high).toNat) else false, ?_, ?_, hnd, fun y hy => hI.rng y ((hmem y).1 hy).1, by omega, x2, fun y y1 y2 hy => ?_, fun y hy hyh => ?_⟩
    · unfold takeC
      rw [if_neg (by simp; omega), if_neg (by omega), if_neg c2]
    · unfold takeC
      rw [if_neg (by simp; omega), if_neg (by omega), if_pos (Int.le_refl _), if_pos (by rw [Eight.get_of _ (by omega), if_pos (by omega)])]
    · by_cases hxy : y = x
      · subst hxy
        exact ⟨Int.le_refl _, by rw [Eight.get_of _ (by omega), if_pos (by omega)]⟩
      · obtain ⟨h1, h2⟩ := hI.yes y y1 y2 fun h => hy ((hmem y).2 ⟨h, hxy⟩)
        refine ⟨by omega, ?_⟩
        rw [Eight.get_of _ (by omega), if_neg (by omega), if_pos (by omega), show (x - y).toNat - (x - high).toNat = (high - y).toNat by omega]
        exact h2
    · obtain ⟨hyl, hne⟩ := (hmem y).1 hy
      have := hI.rng y hyl
      rw [Eight.get_of _ (by omega), if_neg (by omega)]
      by_cases c : x - high ≤ ((x - y).toNat : Int)
      · rw [if_pos c, show (x - y).toNat - (x - high).toNat = (high - y).toNat by omega]
        exact hI.no y hyl (by omega)
      · rw [if_neg c]

theorem TurnInv.done {high : Int} {e : Eight} (h : TurnInv [] high e) : high = 8 := by
  have := (h.yes 8 (by omega) (by omega) (by simp)).1
  have := h.hi
  omega

theorem SlR.take {ok : Nat → Prop} {w : World} {α : Type} {sz : Nat} {R : List Value → α → Prop} {a : Option Addr} {c : Nat} {xs : List α} (h : SlR ok w sz R a c xs) (k : Nat) : SlR ok w sz R a c (xs.take k) := by
  refine ⟨Nat.le_trans (by simp; omega) h.1, h.2.1, h.2.2.1, fun i x hx => h.2.2.2 i x ?_⟩
  rw [List.getElem?_take] at hx
  split at hx
  · exact hx
  · cases hx

theorem SlR.drop {ok : Nat → Prop} {w : World} {α : Type} {sz : Nat} {R : List Value → α → Prop} {b o c : Nat} {xs : List α} (h : SlR ok w sz R (some ⟨b, o, none⟩) c xs) (k : Nat) : SlR ok w sz R (some ⟨b, o + k * sz, none⟩) (c - k) (xs.drop k) := by
  refine ⟨by have := h.1; simp; omega, by have := h.2.1; omega, by simp, fun i x hx => ?_⟩
  rw [List.getElem?_drop] at hx
  obtain ⟨b', o', cs, ha, h1, h2, h3, h4, h5, h6⟩ := h.2.2.2 (k + i) x hx
  simp at ha
  obtain ⟨rfl, rfl⟩ := ha
  refine ⟨b, o + k * sz, cs, rfl, h1, h2, h3, h4, h5, fun j v hv => ?_⟩
  rw [← h6 j v hv]
  congr 2
  rw [Nat.add_mul]
  omega

/-- A block of just these numbers, as a slice. -/
theorem slr_ints {w : World} {g : Nat} {T : TypeId} {xs : List Int} {ok : Nat → Prop} (h : w.heap[g]? = some (.cells (xs.map (Value.int .i64)).toArray T (0, 0))) (ho : ok g) (hm : xs.length ≤ maxLen := by decide) : SlR ok w 1 RInt (some ⟨g, 0, none⟩) xs.length xs := by
  refine ⟨Nat.le_refl _, hm, by simp, fun i x hx => ⟨g, 0, [.int .i64 x], rfl, ho, (Array.getElem?_eq_some_iff.1 h).1, rfl, rfl, by simp [Value.oneCell'], fun j v hv => ?_⟩⟩
  have hj := (List.getElem?_eq_some_iff.1 hv).1
  simp at hj
  subst hj
  simp at hv
  subst hv
  rw [cell_of_row w g _ _ T (0, 0) h]
  simp [hx]

end Go.Proofs.Ytemjnojfhbbapaa

/- The walks through trust.Good and trust.Add. -/
namespace Go.Proofs.Ytemjnojfhbbapaa
open Go.RowKit

abbrev certV (x : Cert) : Value := .agg #[.int .i64 x.c, .int .i64 x.by_, .int .i64 x.host, .int .i64 x.till]

end Go.Proofs.Ytemjnojfhbbapaa

/- A cert as a map's key. -/
namespace Go.Proofs.Ytemjnojfhbbapaa
open Go.RowKit
open Go.Maps (Keyed)

def certLit (x : Cert) : Lit := .string (keyBytes [.int .i64 x.c, .int .i64 x.by_, .int .i64 x.host, .int .i64 x.till])

theorem wf_i64 {n : Int} (h : fitI n) : (Lit.int .i64 n).wf = true := by
  unfold fitI at h
  simp only [Lit.wf, decide_eq_true_eq, Bool.and_eq_true]
  exact h

theorem cert_keyed : Keyed Try.prog 39 :=
  Keyed.of_law (deep_law_laid (by kernel_rfl) (m := 2) (by decide) (of_decide_eq_true (by kernel_rfl)) (by kernel_rfl) (by kernel_rfl))

theorem cert_key (x : Cert) (hx : x.fit) : keyOf Try.prog 39 (.agg #[.int .i64 x.c, .int .i64 x.by_, .int .i64 x.host, .int .i64 x.till]) = some (certLit x) := by
  obtain ⟨h1, h2, h3, h4⟩ := hx
  have w1 := wf_i64 h1; have w2 := wf_i64 h2; have w3 := wf_i64 h3; have w4 := wf_i64 h4
  have hU := Try.underlying39
  have hI := Try.underlying3
  have hkt : Try.prog.keyType 39 = true := by kernel_rfl
  have hc1 : Try.prog.cellsOf 3 = 1 := by kernel_rfl
  have hc4 : Try.prog.cellsOf 39 = 4 := by kernel_rfl
  have hsz : 2 ≤ Try.prog.types.size := of_decide_eq_true (by kernel_rfl)
  obtain ⟨m, hm⟩ := Nat.exists_eq_add_of_le hsz
  unfold keyOf
  simp only [hU]
  rw [if_pos (by simp [hkt, Value.formed, hU, hc4]), hm, show 2 + m + 1 = (m + 1 + 1) + 1 by omega]
  unfold Program.keyLits
  simp only [hU, Value.cells]
  rw [if_pos (by rw [hc4]; simp)]
  simp [List.mapM_cons, Program.keyLits, hI, hc1, w1, w2, w3, w4, certLit]

theorem certLit_inj {x y : Cert} (hx : x.fit) (hy : y.fit) (h : certLit x = certLit y) : x = y := by
  have := cert_keyed.inj (cert_key x hx) (h ▸ cert_key y hy)
  simp only [Value.agg.injEq, Array.mk.injEq, List.cons.injEq, Value.int.injEq, true_and, and_true] at this
  obtain ⟨a, b, c, d⟩ := x
  obtain ⟨a', b', c', d'⟩ := y
  simp at this
  simp [this]

end Go.Proofs.Ytemjnojfhbbapaa

/- The document's own trust: the walks through parcloseref.GoodCert, GoodCerts, AddCert. (printed by gen_trustref.py) -/
namespace Go.Proofs.Ytemjnojfhbbapaa
open Go.RowKit
open Go.Maps (Keyed)

set_option maxHeartbeats 1600000 in
theorem ref_GoodCert (c : Cert) (w : World) : Calls Try.prog 17 #[.agg #[.int .i64 c.c, .int .i64 c.by_, .int .i64 c.host, .int .i64 c.till]] w fun e w' => e = .returned (.bool (goodCertB c)) ∧ Below w.heap.size w w' := by
  rcases chain6 (catOk c.c) (four c.by_) (four c.host) ((c.by_ != c.host)) (decide (0 ≤ c.till)) (decide (c.till ≤ 1099511627776)) with h1 | ⟨h1, h2⟩ | ⟨h1, h2, h3⟩ | ⟨h1, h2, h3, h4⟩ | ⟨h1, h2, h3, h4, h5⟩ | ⟨h1, h2, h3, h4, h5, h6⟩ | ⟨h1, h2, h3, h4, h5, h6⟩
  · have HE := Lib.hid (show goodCertB c = false by simp [goodCertB, h1])
    have H1 := Lib.hid h1; clear h1
    have st := St.start w
    go_enter Try.func17, Try.ntmps17
    go_wp2_with (first | go_skip | (with_reducible refine at_box 39 ?_; refine mem_box st (wanted_none rfl) 39 _ rfl _ rfl _ rfl ?_; clear st; intro g1 w1 hg1 st hg1b; clear hg1b; simp [Act.eval, Act.put, Value.cells, putL] at st) | (with_reducible refine at_load 3 ?_; (first | refine mem_load' st 3 _ rfl (wanted_none rfl) Try.isAgg3 ?_ | (refine mem_load' st 3 _ rfl (wanted_some rfl ?_) Try.isAgg3 ?_; focus (simp [yielded, Act.put]; done))); refine ⟨0, _, _, _, _, _, rfl, rfl, rfl, ?_⟩) | (go_at_call 35; refine (ref_IsCategory _ _).mono ?_; rintro e v ⟨rfl, rfl⟩; first | rw [H1.out]))
    go_ret
    exact ⟨by rw [HE.out]; rfl, st.below⟩
  · have HE := Lib.hid (show goodCertB c = false by simp [goodCertB, h1, h2])
    have H1 := Lib.hid h1; clear h1
    have H2 := Lib.hid h2; clear h2
    have st := St.start w
    go_enter Try.func17, Try.ntmps17
    go_wp2_with (first | go_skip | (with_reducible refine at_box 39 ?_; refine mem_box st (wanted_none rfl) 39 _ rfl _ rfl _ rfl ?_; clear st; intro g1 w1 hg1 st hg1b; clear hg1b; simp [Act.eval, Act.put, Value.cells, putL] at st) | (with_reducible refine at_load 3 ?_; (first | refine mem_load' st 3 _ rfl (wanted_none rfl) Try.isAgg3 ?_ | (refine mem_load' st 3 _ rfl (wanted_some rfl ?_) Try.isAgg3 ?_; focus (simp [yielded, Act.put]; done))); refine ⟨0, _, _, _, _, _, rfl, rfl, rfl, ?_⟩) | (go_at_call 35; refine (ref_IsCategory _ _).mono ?_; rintro e v ⟨rfl, rfl⟩; first | rw [H1.out]) | (go_at_call 29; refine (ref_four _ _).mono ?_; rintro e v ⟨rfl, rfl⟩; first | rw [H2.out]))
    go_ret
    exact ⟨by rw [HE.out]; rfl, st.below⟩
  · have HE := Lib.hid (show goodCertB c = false by simp [goodCertB, h1, h2, h3])
    have H1 := Lib.hid h1; clear h1
    have H2 := Lib.hid h2; clear h2
    have H3 := Lib.hid h3; clear h3
    have st := St.start w
    go_enter Try.func17, Try.ntmps17
    go_wp2_with (first | go_skip | (with_reducible refine at_box 39 ?_; refine mem_box st (wanted_none rfl) 39 _ rfl _ rfl _ rfl ?_; clear st; intro g1 w1 hg1 st hg1b; clear hg1b; simp [Act.eval, Act.put, Value.cells, putL] at st) | (with_reducible refine at_load 3 ?_; (first | refine mem_load' st 3 _ rfl (wanted_none rfl) Try.isAgg3 ?_ | (refine mem_load' st 3 _ rfl (wanted_some rfl ?_) Try.isAgg3 ?_; focus (simp [yielded, Act.put]; done))); refine ⟨0, _, _, _, _, _, rfl, rfl, rfl, ?_⟩) | (go_at_call 35; refine (ref_IsCategory _ _).mono ?_; rintro e v ⟨rfl, rfl⟩; first | rw [H1.out]) | (go_at_call 29; refine (ref_four _ _).mono ?_; rintro e v ⟨rfl, rfl⟩; first | rw [H2.out] | rw [H3.out]))
    go_ret
    exact ⟨by rw [HE.out]; rfl, st.below⟩
  · have HE := Lib.hid (show goodCertB c = false by simp [goodCertB, h1, h2, h3, h4])
    have H1 := Lib.hid h1; clear h1
    have H2 := Lib.hid h2; clear h2
    have H3 := Lib.hid h3; clear h3
    have st := St.start w
    go_enter Try.func17, Try.ntmps17
    go_wp2_with (first | go_skip | (with_reducible refine at_box 39 ?_; refine mem_box st (wanted_none rfl) 39 _ rfl _ rfl _ rfl ?_; clear st; intro g1 w1 hg1 st hg1b; clear hg1b; simp [Act.eval, Act.put, Value.cells, putL] at st) | (with_reducible refine at_load 3 ?_; (first | refine mem_load' st 3 _ rfl (wanted_none rfl) Try.isAgg3 ?_ | (refine mem_load' st 3 _ rfl (wanted_some rfl ?_) Try.isAgg3 ?_; focus (simp [yielded, Act.put]; done))); refine ⟨0, _, _, _, _, _, rfl, rfl, rfl, ?_⟩) | (go_at_call 35; refine (ref_IsCategory _ _).mono ?_; rintro e v ⟨rfl, rfl⟩; first | rw [H1.out]) | (go_at_call 29; refine (ref_four _ _).mono ?_; rintro e v ⟨rfl, rfl⟩; first | rw [H2.out] | rw [H3.out]))
    go_ret
    exact ⟨by rw [HE.out]; rfl, st.below⟩
  · have HE := Lib.hid (show goodCertB c = false by simp [goodCertB, h1, h2, h3, h4, h5])
    have H1 := Lib.hid h1; clear h1
    have H2 := Lib.hid h2; clear h2
    have H3 := Lib.hid h3; clear h3
    have st := St.start w
    go_enter Try.func17, Try.ntmps17
    go_wp2_with (first | go_skip | (with_reducible refine at_box 39 ?_; refine mem_box st (wanted_none rfl) 39 _ rfl _ rfl _ rfl ?_; clear st; intro g1 w1 hg1 st hg1b; clear hg1b; simp [Act.eval, Act.put, Value.cells, putL] at st) | (with_reducible refine at_load 3 ?_; (first | refine mem_load' st 3 _ rfl (wanted_none rfl) Try.isAgg3 ?_ | (refine mem_load' st 3 _ rfl (wanted_some rfl ?_) Try.isAgg3 ?_; focus (simp [yielded, Act.put]; done))); refine ⟨0, _, _, _, _, _, rfl, rfl, rfl, ?_⟩) | (go_at_call 35; refine (ref_IsCategory _ _).mono ?_; rintro e v ⟨rfl, rfl⟩; first | rw [H1.out]) | (go_at_call 29; refine (ref_four _ _).mono ?_; rintro e v ⟨rfl, rfl⟩; first | rw [H2.out] | rw [H3.out]))
    go_ret
    exact ⟨by rw [HE.out]; rfl, st.below⟩
  · have HE := Lib.hid (show goodCertB c = false by simp [goodCertB, h1, h2, h3, h4, h5, h6])
    have H1 := Lib.hid h1; clear h1
    have H2 := Lib.hid h2; clear h2
    have H3 := Lib.hid h3; clear h3
    have st := St.start w
    go_enter Try.func17, Try.ntmps17
    go_wp2_with (first | go_skip | (with_reducible refine at_box 39 ?_; refine mem_box st (wanted_none rfl) 39 _ rfl _ rfl _ rfl ?_; clear st; intro g1 w1 hg1 st hg1b; clear hg1b; simp [Act.eval, Act.put, Value.cells, putL] at st) | (with_reducible refine at_load 3 ?_; (first | refine mem_load' st 3 _ rfl (wanted_none rfl) Try.isAgg3 ?_ | (refine mem_load' st 3 _ rfl (wanted_some rfl ?_) Try.isAgg3 ?_; focus (simp [yielded, Act.put]; done))); refine ⟨0, _, _, _, _, _, rfl, rfl, rfl, ?_⟩) | (go_at_call 35; refine (ref_IsCategory _ _).mono ?_; rintro e v ⟨rfl, rfl⟩; first | rw [H1.out]) | (go_at_call 29; refine (ref_four _ _).mono ?_; rintro e v ⟨rfl, rfl⟩; first | rw [H2.out] | rw [H3.out]))
    go_ret
    exact ⟨by rw [HE.out]; rfl, st.below⟩
  · have HE := Lib.hid (show goodCertB c = true by simp [goodCertB, h1, h2, h3, h4, h5, h6])
    have H1 := Lib.hid h1; clear h1
    have H2 := Lib.hid h2; clear h2
    have H3 := Lib.hid h3; clear h3
    have st := St.start w
    go_enter Try.func17, Try.ntmps17
    go_wp2_with (first | go_skip | (with_reducible refine at_box 39 ?_; refine mem_box st (wanted_none rfl) 39 _ rfl _ rfl _ rfl ?_; clear st; intro g1 w1 hg1 st hg1b; clear hg1b; simp [Act.eval, Act.put, Value.cells, putL] at st) | (with_reducible refine at_load 3 ?_; (first | refine mem_load' st 3 _ rfl (wanted_none rfl) Try.isAgg3 ?_ | (refine mem_load' st 3 _ rfl (wanted_some rfl ?_) Try.isAgg3 ?_; focus (simp [yielded, Act.put]; done))); refine ⟨0, _, _, _, _, _, rfl, rfl, rfl, ?_⟩) | (go_at_call 35; refine (ref_IsCategory _ _).mono ?_; rintro e v ⟨rfl, rfl⟩; first | rw [H1.out]) | (go_at_call 29; refine (ref_four _ _).mono ?_; rintro e v ⟨rfl, rfl⟩; first | rw [H2.out] | rw [H3.out]))
    go_ret
    exact ⟨by rw [HE.out]; rfl, st.below⟩

end Go.Proofs.Ytemjnojfhbbapaa

/- The walks through parcloseref.bytesOf, GoodMail, GoodFrame and EncodeFrame. -/
namespace Go.Proofs.Ytemjnojfhbbapaa
open Go.RowKit

theorem be_succ (v : Int) (n : Nat) : be v (n + 1) = byteAt v n :: be v n := rfl

theorem byte_at_div {v : Int} (hv : 0 ≤ v) (j : Nat) : byteAt v j = by1 (v / (256 ^ j : Int) % 256) := by
  have h1 := byteAt_int hv j
  have h2 : (0 : Int) ≤ v / (256 ^ j : Int) % 256 := Int.emod_nonneg _ (by decide)
  have h3 := byteAt_int h2 0
  have h4 : ((256 ^ j : Nat) : Int) = (256 ^ j : Int) := by simp
  rw [h4] at h1
  have h5 : ((by1 (v / (256 ^ j : Int) % 256)).toNat : Int) = v / (256 ^ j : Int) % 256 := by
    rw [show by1 (v / (256 ^ j : Int) % 256) = byteAt (v / (256 ^ j : Int) % 256) 0 from rfl, h3]
    simp
  apply UInt8.toNat_inj.1
  omega

set_option maxRecDepth 100000 in
set_option maxHeartbeats 1600000 in
theorem ref_bytesOf (w : World) (v : Int) (n : Nat) (hv : 0 ≤ v) (hv' : v ≤ 1099511627776) (hn : n ≤ 8) :
    Calls Try.prog 26 #[.int .i64 v, .int .i64 n] w fun e w' => e = .returned (.string ⟨(be v n).toArray⟩) ∧ Below w.heap.size w w' := by
  go_enter Try.func26, Try.ntmps26
  go_wp2
  go_loopw [1, 5, 0] (fun i s x wr => ∃ j : Nat, j ≤ n ∧ i = .int .i64 ((n : Int) - j) ∧ s = .string ⟨(be v j).toArray⟩ ∧ Hid (True) ∧ (∃ y : Int, x = .int .i64 y ∧ 0 ≤ y ∧ y ≤ 1099511627776 ∧ Hid (y = v / (256 ^ j : Int))) ∧ Below w.heap.size w wr) (fun i _ _ _ => (intOf i).toNat)
  case atStart => exact ⟨0, Nat.zero_le _, by simp, rfl, trivial, ⟨v, rfl, hv, hv', by simp [Hid]⟩, Below.refl _ _⟩
  case round =>
    obtain ⟨j, hj, rfl, rfl, -, ⟨y, rfl, hy0, hy1, HY⟩, hB⟩ := hrel
    by_cases hlt : j < n
    · have hd : (0 : Int) < (n : Int) - j := by omega
      have hm0 : 0 ≤ y % 256 := by omega
      have hm1 : y % 256 < 256 := by omega
      have hlen : (be v j).length = j := be_length v j
      go_wp2_with (first | go_skip | ((with_reducible refine at_buildU 48 ?_); refine wpList_wanted (wanted_none rfl) fun K1 hK1 => wp_bytes1O 48 5 _ rfl Try.underlying48 Try.sizeOf5 Try.zeroValue5 _ rfl ⟨hm0, hm1⟩ fun g1 w1 hO1 hb1 => hK1 _ _ ?_; clear hK1 K1; (have hcv : (convert 48 9 (.slice (some ⟨g1, 0, none⟩) 1 1)).run Try.prog w1 = .ok (.string ⟨[by1 (y % 256)].toArray⟩) w1 := hO1.string (P := Try.prog) 48 9 5 Try.underlying48 Try.underlying5 Try.underlying9)))
      go_roundw
      case rel =>
        refine ⟨j + 1, hlt, by go_num, ?_, trivial, ⟨_, rfl, by omega, by omega, ?_⟩, hB.keep hb1⟩
        · rw [be_succ, byte_at_div hv, ← HY.out]
          rfl
        · show _ = _
          rw [HY.out, Int.ediv_ediv_of_nonneg (by exact_mod_cast Nat.zero_le _), Int.pow_succ]
      case measure => simp [intOf]; omega
    · obtain rfl : j = n := by omega
      have hd : ¬ ((0 : Int) < (j : Int) - j) := by omega
      go_wp2
      go_ret
      exact ⟨rfl, hB⟩

theorem goodMail_bad {m : Mail} (h : (four m.host && four m.thread && goodL m.label && risingB m.grants 8) = false) : goodMailC m = 2 := by
  unfold goodMailC; rw [h]; rfl

set_option maxRecDepth 100000 in
set_option maxHeartbeats 4000000 in
theorem ref_GoodMail (ok : Nat → Prop) (w : World) (m : Mail) (la : Option Addr) (lc : Nat) (ga : Option Addr) (gc : Nat) (ht : m.text.size ≤ 140737488355328) (hR : MailR ok w m la lc ga gc) :
    Calls Try.prog 15 #[mailV m la lc ga gc] w fun e w' => e = .returned (.int .i64 (goodMailC m)) ∧ Below w.heap.size w w' := by
  obtain ⟨hL, hGr⟩ := hR
  have HG := Lib.hid (fun (W : World) (h : Below w.heap.size w W) => ref_GoodLabel ok W la lc m.label (hL.below h))
  have hgl : m.grants.length ≤ 9223372036854775807 := by have h1 := hGr.1; have h2 := hGr.2.1; unfold maxLen at h2; omega
  have st := St.start w
  unfold mailV
  go_enter Try.func15, Try.ntmps15
  go_wp2_with (first | go_skip | (with_reducible refine at_box 26 ?_; refine mem_box st (wanted_none rfl) 26 _ rfl _ rfl _ rfl ?_; clear st; intro g1 w1 hg1 st hg1b; clear hg1b; simp [Act.eval, Act.put, Value.cells, putL] at st) | (with_reducible refine at_load 24 ?_; (first | refine mem_load' st 24 _ rfl (wanted_none rfl) Try.isAgg24 ?_ | (refine mem_load' st 24 _ rfl (wanted_some rfl ?_) Try.isAgg24 ?_; focus (simp [yielded, Act.put]; done))); refine ⟨0, _, _, _, _, _, rfl, rfl, rfl, ?_⟩))
  go_loopw [9, 3, 5] (fun i p _ wr => ∃ k : Nat, k ≤ m.grants.length ∧ i = .int .i64 k ∧ p = .int .i64 (prevI m.grants k) ∧ St [] w wr [(g1, 26, [.int .i64 m.host, .int .i64 m.thread, .slice la m.label.length lc, .slice ga m.grants.length gc, .string m.text])] ∧ Hid (risesI (-1) m.grants = risesI (prevI m.grants k) (m.grants.drop k)) ∧ -1 ≤ prevI m.grants k) (fun i _ _ _ => m.grants.length - (intOf i).toNat)
  case atStart => exact ⟨0, Nat.zero_le _, rfl, by rw [prevI_zero], st, by rw [prevI_zero]; rfl, by rw [prevI_zero]; decide⟩
  case round =>
    clear st
    obtain ⟨k, hk, rfl, rfl, st, hI, hge⟩ := hrel
    by_cases hlt : k < m.grants.length
    · obtain ⟨b, o, rfl, hb, h1⟩ := (hGr.below st.below).int_at k hlt
      have HBad := Lib.hid (fun h => goodMail_bad (m := m) (by rw [risesI_bad hlt hI h 8]; simp))
      have HGo := Lib.hid (@risesI_go _ _ hlt hI)
      have HPs := Lib.hid (prevI_succ m.grants k hlt)
      generalize prevI m.grants k = p at HBad HGo hge ⊢
      generalize m.grants[k] = x at h1 HBad HGo HPs
      clear hI
      by_cases e1 : x ≤ p
      · have d1 : decide (x ≤ p) = true := by simpa using e1
        have HE := Lib.hid (HBad.out fun h => by omega)
        clear e1
        go_wp2_with (first | go_skip)
        go_ret
        exact ⟨by rw [HE.out]; rfl, st.below⟩
      · have d1 : decide (x ≤ p) = false := by simpa using e1
        by_cases e2 : 79 < x
        · have d2 : decide (79 < x) = true := by simpa using e2
          have HE := Lib.hid (HBad.out fun h => by have := (catOk_iff _).1 h.2; omega)
          clear e1 e2
          go_wp2_with (first | go_skip)
          go_ret
          exact ⟨by rw [HE.out]; rfl, st.below⟩
        · have d2 : decide (79 < x) = false := by simpa using e2
          have HN := Lib.hid (HGo.out ⟨by omega, (catOk_iff _).2 ⟨by omega, by omega⟩⟩)
          have hx0 : -1 ≤ x := by omega
          clear e1 e2
          go_wp2_with (first | go_skip)
          go_roundw
          case rel => exact ⟨k + 1, hlt, by go_num, by rw [HPs.out], st, HN.out, by rw [HPs.out]; exact hx0⟩
          case measure => simp [intOf]; omega
    · have hri : risesI (-1) m.grants = true := by rw [hI.out, List.drop_of_length_le (by omega)]; rfl
      have HX : ∀ b, decide ((m.grants.length : Int) ≤ 8) = b → risingB m.grants 8 = b := fun b hb => by unfold risingB; rw [hri, hb]; rfl
      have HRi := Lib.hid HX
      have hB := st.below
      have st0 := st
      replace st := st.rebase
      clear hI HX hri hge
      cases h1 : four m.host
      · have H1 := Lib.hid h1
        have HE := Lib.hid (goodMail_bad (m := m) (by simp [h1]))
        clear h1
        go_wp2_with (first
          | go_skip | (with_reducible refine at_load 3 ?_; (first | refine mem_load' st 3 _ rfl (wanted_none rfl) Try.isAgg3 ?_ | (refine mem_load' st 3 _ rfl (wanted_some rfl ?_) Try.isAgg3 ?_; focus (simp [yielded, Act.put]; done))); refine ⟨0, _, _, _, _, _, rfl, rfl, rfl, ?_⟩) | (with_reducible refine at_load 23 ?_; (first | refine mem_load' st 23 _ rfl (wanted_none rfl) Try.isAgg23 ?_ | (refine mem_load' st 23 _ rfl (wanted_some rfl ?_) Try.isAgg23 ?_; focus (simp [yielded, Act.put]; done))); refine ⟨0, _, _, _, _, _, rfl, rfl, rfl, ?_⟩) | (with_reducible refine at_load 24 ?_; (first | refine mem_load' st 24 _ rfl (wanted_none rfl) Try.isAgg24 ?_ | (refine mem_load' st 24 _ rfl (wanted_some rfl ?_) Try.isAgg24 ?_; focus (simp [yielded, Act.put]; done))); refine ⟨0, _, _, _, _, _, rfl, rfl, rfl, ?_⟩) | (with_reducible refine at_load 9 ?_; (first | refine mem_load' st 9 _ rfl (wanted_none rfl) Try.isAgg9 ?_ | (refine mem_load' st 9 _ rfl (wanted_some rfl ?_) Try.isAgg9 ?_; focus (simp [yielded, Act.put]; done))); refine ⟨0, _, _, _, _, _, rfl, rfl, rfl, ?_⟩)
          | (go_at_call 29; go_must (refine (ref_four _ _).mono ?_; rintro e v ⟨rfl, rfl⟩; first | rw [H1.out] | rw [H2.out]))
          | (go_at_call 33; go_must (refine (HG.out _ (hB.keep (st0.below2 st (by simp)))).mono ?_; rintro e v2 ⟨rfl, hb2⟩; rw [H3.out]; replace st := st.call hb2; clear hb2)))
        go_ret
        exact ⟨by rw [HE.out]; rfl, hB.keep (st0.below2 st (by simp))⟩
      · have H1 := Lib.hid h1
        cases h2 : four m.thread
        · have H2 := Lib.hid h2
          have HE := Lib.hid (goodMail_bad (m := m) (by simp [h1, h2]))
          clear h1 h2
          go_wp2_with (first
            | go_skip | (with_reducible refine at_load 3 ?_; (first | refine mem_load' st 3 _ rfl (wanted_none rfl) Try.isAgg3 ?_ | (refine mem_load' st 3 _ rfl (wanted_some rfl ?_) Try.isAgg3 ?_; focus (simp [yielded, Act.put]; done))); refine ⟨0, _, _, _, _, _, rfl, rfl, rfl, ?_⟩) | (with_reducible refine at_load 23 ?_; (first | refine mem_load' st 23 _ rfl (wanted_none rfl) Try.isAgg23 ?_ | (refine mem_load' st 23 _ rfl (wanted_some rfl ?_) Try.isAgg23 ?_; focus (simp [yielded, Act.put]; done))); refine ⟨0, _, _, _, _, _, rfl, rfl, rfl, ?_⟩) | (with_reducible refine at_load 24 ?_; (first | refine mem_load' st 24 _ rfl (wanted_none rfl) Try.isAgg24 ?_ | (refine mem_load' st 24 _ rfl (wanted_some rfl ?_) Try.isAgg24 ?_; focus (simp [yielded, Act.put]; done))); refine ⟨0, _, _, _, _, _, rfl, rfl, rfl, ?_⟩) | (with_reducible refine at_load 9 ?_; (first | refine mem_load' st 9 _ rfl (wanted_none rfl) Try.isAgg9 ?_ | (refine mem_load' st 9 _ rfl (wanted_some rfl ?_) Try.isAgg9 ?_; focus (simp [yielded, Act.put]; done))); refine ⟨0, _, _, _, _, _, rfl, rfl, rfl, ?_⟩)
            | (go_at_call 29; go_must (refine (ref_four _ _).mono ?_; rintro e v ⟨rfl, rfl⟩; first | rw [H1.out] | rw [H2.out]))
            | (go_at_call 33; go_must (refine (HG.out _ (hB.keep (st0.below2 st (by simp)))).mono ?_; rintro e v2 ⟨rfl, hb2⟩; rw [H3.out]; replace st := st.call hb2; clear hb2)))
          go_ret
          exact ⟨by rw [HE.out]; rfl, hB.keep (st0.below2 st (by simp))⟩
        · have H2 := Lib.hid h2
          cases h3 : goodL m.label
          · have H3 := Lib.hid h3
            have HE := Lib.hid (goodMail_bad (m := m) (by simp [h1, h2, h3]))
            clear h1 h2 h3
            go_wp2_with (first
              | go_skip | (with_reducible refine at_load 3 ?_; (first | refine mem_load' st 3 _ rfl (wanted_none rfl) Try.isAgg3 ?_ | (refine mem_load' st 3 _ rfl (wanted_some rfl ?_) Try.isAgg3 ?_; focus (simp [yielded, Act.put]; done))); refine ⟨0, _, _, _, _, _, rfl, rfl, rfl, ?_⟩) | (with_reducible refine at_load 23 ?_; (first | refine mem_load' st 23 _ rfl (wanted_none rfl) Try.isAgg23 ?_ | (refine mem_load' st 23 _ rfl (wanted_some rfl ?_) Try.isAgg23 ?_; focus (simp [yielded, Act.put]; done))); refine ⟨0, _, _, _, _, _, rfl, rfl, rfl, ?_⟩) | (with_reducible refine at_load 24 ?_; (first | refine mem_load' st 24 _ rfl (wanted_none rfl) Try.isAgg24 ?_ | (refine mem_load' st 24 _ rfl (wanted_some rfl ?_) Try.isAgg24 ?_; focus (simp [yielded, Act.put]; done))); refine ⟨0, _, _, _, _, _, rfl, rfl, rfl, ?_⟩) | (with_reducible refine at_load 9 ?_; (first | refine mem_load' st 9 _ rfl (wanted_none rfl) Try.isAgg9 ?_ | (refine mem_load' st 9 _ rfl (wanted_some rfl ?_) Try.isAgg9 ?_; focus (simp [yielded, Act.put]; done))); refine ⟨0, _, _, _, _, _, rfl, rfl, rfl, ?_⟩)
              | (go_at_call 29; go_must (refine (ref_four _ _).mono ?_; rintro e v ⟨rfl, rfl⟩; first | rw [H1.out] | rw [H2.out]))
              | (go_at_call 33; go_must (refine (HG.out _ (hB.keep (st0.below2 st (by simp)))).mono ?_; rintro e v2 ⟨rfl, hb2⟩; rw [H3.out]; replace st := st.call hb2; clear hb2)))
            go_ret
            exact ⟨by rw [HE.out]; rfl, hB.keep (st0.below2 st (by simp))⟩
          · have H3 := Lib.hid h3
            by_cases h8 : (m.grants.length : Int) ≤ 8
            · have d8 : decide ((8 : Int) < (m.grants.length : Int)) = false := by simp; omega
              have HC := Lib.hid (show goodMailC m = if 64 < m.text.size then 9 else 0 by unfold goodMailC; rw [HRi.out true (by simpa using h8), h1, h2, h3]; rfl)
              by_cases h64 : 64 < m.text.size
              · have d9 : decide ((64 : Int) < (m.text.size : Int)) = true := by simp; omega
                have HE := Lib.hid (show goodMailC m = 9 by rw [HC.out, if_pos h64])
                clear h1 h2 h3 h8 h64
                go_wp2_with (first
                  | go_skip | (with_reducible refine at_load 3 ?_; (first | refine mem_load' st 3 _ rfl (wanted_none rfl) Try.isAgg3 ?_ | (refine mem_load' st 3 _ rfl (wanted_some rfl ?_) Try.isAgg3 ?_; focus (simp [yielded, Act.put]; done))); refine ⟨0, _, _, _, _, _, rfl, rfl, rfl, ?_⟩) | (with_reducible refine at_load 23 ?_; (first | refine mem_load' st 23 _ rfl (wanted_none rfl) Try.isAgg23 ?_ | (refine mem_load' st 23 _ rfl (wanted_some rfl ?_) Try.isAgg23 ?_; focus (simp [yielded, Act.put]; done))); refine ⟨0, _, _, _, _, _, rfl, rfl, rfl, ?_⟩) | (with_reducible refine at_load 24 ?_; (first | refine mem_load' st 24 _ rfl (wanted_none rfl) Try.isAgg24 ?_ | (refine mem_load' st 24 _ rfl (wanted_some rfl ?_) Try.isAgg24 ?_; focus (simp [yielded, Act.put]; done))); refine ⟨0, _, _, _, _, _, rfl, rfl, rfl, ?_⟩) | (with_reducible refine at_load 9 ?_; (first | refine mem_load' st 9 _ rfl (wanted_none rfl) Try.isAgg9 ?_ | (refine mem_load' st 9 _ rfl (wanted_some rfl ?_) Try.isAgg9 ?_; focus (simp [yielded, Act.put]; done))); refine ⟨0, _, _, _, _, _, rfl, rfl, rfl, ?_⟩)
                  | (go_at_call 29; go_must (refine (ref_four _ _).mono ?_; rintro e v ⟨rfl, rfl⟩; first | rw [H1.out] | rw [H2.out]))
                  | (go_at_call 33; go_must (refine (HG.out _ (hB.keep (st0.below2 st (by simp)))).mono ?_; rintro e v2 ⟨rfl, hb2⟩; rw [H3.out]; replace st := st.call hb2; clear hb2)))
                go_ret
                exact ⟨by rw [HE.out]; rfl, hB.keep (st0.below2 st (by simp))⟩
              · have d9 : decide ((64 : Int) < (m.text.size : Int)) = false := by simp; omega
                have HE := Lib.hid (show goodMailC m = 0 by rw [HC.out, if_neg h64])
                clear h1 h2 h3 h8 h64
                go_wp2_with (first
                  | go_skip | (with_reducible refine at_load 3 ?_; (first | refine mem_load' st 3 _ rfl (wanted_none rfl) Try.isAgg3 ?_ | (refine mem_load' st 3 _ rfl (wanted_some rfl ?_) Try.isAgg3 ?_; focus (simp [yielded, Act.put]; done))); refine ⟨0, _, _, _, _, _, rfl, rfl, rfl, ?_⟩) | (with_reducible refine at_load 23 ?_; (first | refine mem_load' st 23 _ rfl (wanted_none rfl) Try.isAgg23 ?_ | (refine mem_load' st 23 _ rfl (wanted_some rfl ?_) Try.isAgg23 ?_; focus (simp [yielded, Act.put]; done))); refine ⟨0, _, _, _, _, _, rfl, rfl, rfl, ?_⟩) | (with_reducible refine at_load 24 ?_; (first | refine mem_load' st 24 _ rfl (wanted_none rfl) Try.isAgg24 ?_ | (refine mem_load' st 24 _ rfl (wanted_some rfl ?_) Try.isAgg24 ?_; focus (simp [yielded, Act.put]; done))); refine ⟨0, _, _, _, _, _, rfl, rfl, rfl, ?_⟩) | (with_reducible refine at_load 9 ?_; (first | refine mem_load' st 9 _ rfl (wanted_none rfl) Try.isAgg9 ?_ | (refine mem_load' st 9 _ rfl (wanted_some rfl ?_) Try.isAgg9 ?_; focus (simp [yielded, Act.put]; done))); refine ⟨0, _, _, _, _, _, rfl, rfl, rfl, ?_⟩)
                  | (go_at_call 29; go_must (refine (ref_four _ _).mono ?_; rintro e v ⟨rfl, rfl⟩; first | rw [H1.out] | rw [H2.out]))
                  | (go_at_call 33; go_must (refine (HG.out _ (hB.keep (st0.below2 st (by simp)))).mono ?_; rintro e v2 ⟨rfl, hb2⟩; rw [H3.out]; replace st := st.call hb2; clear hb2)))
                go_ret
                exact ⟨by rw [HE.out]; rfl, hB.keep (st0.below2 st (by simp))⟩
            · have d8 : decide ((8 : Int) < (m.grants.length : Int)) = true := by simp; omega
              have HE := Lib.hid (goodMail_bad (m := m) (by rw [HRi.out false (by simpa using h8)]; simp))
              clear h1 h2 h3 h8
              go_wp2_with (first
                | go_skip | (with_reducible refine at_load 3 ?_; (first | refine mem_load' st 3 _ rfl (wanted_none rfl) Try.isAgg3 ?_ | (refine mem_load' st 3 _ rfl (wanted_some rfl ?_) Try.isAgg3 ?_; focus (simp [yielded, Act.put]; done))); refine ⟨0, _, _, _, _, _, rfl, rfl, rfl, ?_⟩) | (with_reducible refine at_load 23 ?_; (first | refine mem_load' st 23 _ rfl (wanted_none rfl) Try.isAgg23 ?_ | (refine mem_load' st 23 _ rfl (wanted_some rfl ?_) Try.isAgg23 ?_; focus (simp [yielded, Act.put]; done))); refine ⟨0, _, _, _, _, _, rfl, rfl, rfl, ?_⟩) | (with_reducible refine at_load 24 ?_; (first | refine mem_load' st 24 _ rfl (wanted_none rfl) Try.isAgg24 ?_ | (refine mem_load' st 24 _ rfl (wanted_some rfl ?_) Try.isAgg24 ?_; focus (simp [yielded, Act.put]; done))); refine ⟨0, _, _, _, _, _, rfl, rfl, rfl, ?_⟩) | (with_reducible refine at_load 9 ?_; (first | refine mem_load' st 9 _ rfl (wanted_none rfl) Try.isAgg9 ?_ | (refine mem_load' st 9 _ rfl (wanted_some rfl ?_) Try.isAgg9 ?_; focus (simp [yielded, Act.put]; done))); refine ⟨0, _, _, _, _, _, rfl, rfl, rfl, ?_⟩)
                | (go_at_call 29; go_must (refine (ref_four _ _).mono ?_; rintro e v ⟨rfl, rfl⟩; first | rw [H1.out] | rw [H2.out]))
                | (go_at_call 33; go_must (refine (HG.out _ (hB.keep (st0.below2 st (by simp)))).mono ?_; rintro e v2 ⟨rfl, hb2⟩; rw [H3.out]; replace st := st.call hb2; clear hb2)))
              go_ret
              exact ⟨by rw [HE.out]; rfl, hB.keep (st0.below2 st (by simp))⟩

def noMail : Mail := ⟨0, 0, [], [], ⟨#[]⟩⟩

theorem ackPlain_eq (f : Frame) : ackPlain f = ((f.thread == 0) && decide (f.mail = noMail) && decide (f.certs.length = 0)) := by
  unfold ackPlain
  rw [Bool.eq_iff_iff]
  simp only [Bool.and_eq_true, beq_iff_eq, decide_eq_true_eq]
  constructor
  · rintro ⟨⟨⟨h1, h2⟩, h3⟩, h4⟩
    rcases hm : f.mail with ⟨a, b, c, d, e⟩
    rw [hm] at h2 h3 h4
    simp only at h2 h3 h4
    refine ⟨⟨h1, ?_⟩, by omega⟩
    have h5 : c = [] := List.eq_nil_of_length_eq_zero (by omega)
    have h6 : d = [] := List.eq_nil_of_length_eq_zero (by omega)
    have h7 : e = ⟨#[]⟩ := ByteArray.ext (by
      have : e.data.size = 0 := by have : e.size = 0 := by omega
                                   exact this
      exact Array.eq_empty_of_size_eq_zero this)
    subst h2 h3 h5 h6 h7
    rfl
  · rintro ⟨⟨h1, h2⟩, h3⟩
    rw [h2]
    refine ⟨⟨⟨h1, rfl⟩, rfl⟩, ?_⟩
    show 0 + 0 + (⟨#[]⟩ : ByteArray).size + f.certs.length = 0
    rw [h3]; rfl

theorem goodFrame_bad {f : Frame} (h : frameRange f = false) : goodFrameC f = 2 := by
  unfold goodFrameC; rw [h]; rfl

set_option maxRecDepth 100000 in
set_option maxHeartbeats 8000000 in
theorem ref_GoodFrame (ok : Nat → Prop) (w : World) (f : Frame) (la : Option Addr) (lc : Nat) (ga : Option Addr) (gc : Nat) (ca : Option Addr) (cc : Nat) (hf : f.FitsW) (hR : FrameR ok w f la lc ga gc ca cc) :
    Calls Try.prog 12 #[frameV f la lc ga gc ca cc] w fun e w' => e = .returned (.int .i64 (goodFrameC f)) ∧ Below w.heap.size w w' := by
  have HGM := Lib.hid (fun (W : World) (h : Below w.heap.size w W) => ref_GoodMail ok W f.mail la lc ga gc (by have := hf.text; omega) (hR.below h).mail)
  have HSM := Lib.hid (fun (W : World) (h : Below w.heap.size w W) => ref_SameMail_dec ok ok W f.mail noMail la lc ga gc none 0 none 0 (hR.below h).mail ⟨SlR.nil _ _ _ _, SlR.nil _ _ _ _⟩)
  have hC := hR.certs
  have hcl : f.certs.length ≤ 9223372036854775807 := by have h1 := hC.1; have h2 := hC.2.1; unfold maxLen at h2; omega
  have HP := Lib.hid (ackPlain_eq f)
  have st := St.start w
  unfold frameV mailV noMail at *
  clear hR hf
  cases h1 : four f.src
  case false =>
    have H1 := Lib.hid h1
    have HE := Lib.hid (goodFrame_bad (f := f) (by unfold frameRange; simp [h1] at *; try omega))
    clear h1
    go_enter Try.func12, Try.ntmps12
    go_wp2_with (first
      | go_skip | (with_reducible refine at_box 29 ?_; refine mem_box st (wanted_none rfl) 29 _ rfl _ rfl _ rfl ?_; clear st; intro g1 w1 hg1 st hg1b; clear hg1b; simp [Act.eval, Act.put, Value.cells, putL] at st) | (with_reducible refine at_load 3 ?_; (first | refine mem_load' st 3 _ rfl (wanted_none rfl) Try.isAgg3 ?_ | (refine mem_load' st 3 _ rfl (wanted_some rfl ?_) Try.isAgg3 ?_; focus (simp [yielded, Act.put]; done))); refine ⟨0, _, _, _, _, _, rfl, rfl, rfl, ?_⟩) | (with_reducible refine at_load 4 ?_; (first | refine mem_load' st 4 _ rfl (wanted_none rfl) Try.isAgg4 ?_ | (refine mem_load' st 4 _ rfl (wanted_some rfl ?_) Try.isAgg4 ?_; focus (simp [yielded, Act.put]; done))); refine ⟨0, _, _, _, _, _, rfl, rfl, rfl, ?_⟩) | (with_reducible refine at_load 26 ?_; (first | refine mem_load_agg' st 26 _ rfl (wanted_none rfl) Try.isAgg26 _ Try.sizeOf26 ?_ | (refine mem_load_agg' st 26 _ rfl (wanted_some rfl ?_) Try.isAgg26 _ Try.sizeOf26 ?_; focus (simp [yielded, Act.put]; done))); refine ⟨0, _, _, _, _, _, rfl, rfl, rfl, rfl, ?_⟩) | (with_reducible refine at_load 27 ?_; (first | refine mem_load' st 27 _ rfl (wanted_none rfl) Try.isAgg27 ?_ | (refine mem_load' st 27 _ rfl (wanted_some rfl ?_) Try.isAgg27 ?_; focus (simp [yielded, Act.put]; done))); refine ⟨0, _, _, _, _, _, rfl, rfl, rfl, ?_⟩)
      | (go_at_call 29; go_must (refine (ref_four _ _).mono ?_; rintro e v ⟨rfl, rfl⟩; first | rw [H1.out] | rw [H2.out] | rw [H6.out]))
      | (go_at_call 30; go_must (refine (HSM.out _ st.below).mono ?_; rintro e v2 ⟨rfl, hb2⟩; rw [HM.out]; replace st := st.call hb2; clear hb2))
      | (go_at_call 15; go_must (refine (HGM.out _ st.below).mono ?_; rintro e v2 ⟨rfl, hb2⟩; (try rw [HQ.out]); replace st := st.call hb2; clear hb2)))
    go_ret
    exact ⟨by rw [HE.out]; rfl, st.below⟩
  case true =>
    have H1 := Lib.hid h1
    cases h2 : four f.dst
    case false =>
      have H2 := Lib.hid h2
      have HE := Lib.hid (goodFrame_bad (f := f) (by unfold frameRange; simp [h1, h2] at *; try omega))
      clear h1 h2
      go_enter Try.func12, Try.ntmps12
      go_wp2_with (first
        | go_skip | (with_reducible refine at_box 29 ?_; refine mem_box st (wanted_none rfl) 29 _ rfl _ rfl _ rfl ?_; clear st; intro g1 w1 hg1 st hg1b; clear hg1b; simp [Act.eval, Act.put, Value.cells, putL] at st) | (with_reducible refine at_load 3 ?_; (first | refine mem_load' st 3 _ rfl (wanted_none rfl) Try.isAgg3 ?_ | (refine mem_load' st 3 _ rfl (wanted_some rfl ?_) Try.isAgg3 ?_; focus (simp [yielded, Act.put]; done))); refine ⟨0, _, _, _, _, _, rfl, rfl, rfl, ?_⟩) | (with_reducible refine at_load 4 ?_; (first | refine mem_load' st 4 _ rfl (wanted_none rfl) Try.isAgg4 ?_ | (refine mem_load' st 4 _ rfl (wanted_some rfl ?_) Try.isAgg4 ?_; focus (simp [yielded, Act.put]; done))); refine ⟨0, _, _, _, _, _, rfl, rfl, rfl, ?_⟩) | (with_reducible refine at_load 26 ?_; (first | refine mem_load_agg' st 26 _ rfl (wanted_none rfl) Try.isAgg26 _ Try.sizeOf26 ?_ | (refine mem_load_agg' st 26 _ rfl (wanted_some rfl ?_) Try.isAgg26 _ Try.sizeOf26 ?_; focus (simp [yielded, Act.put]; done))); refine ⟨0, _, _, _, _, _, rfl, rfl, rfl, rfl, ?_⟩) | (with_reducible refine at_load 27 ?_; (first | refine mem_load' st 27 _ rfl (wanted_none rfl) Try.isAgg27 ?_ | (refine mem_load' st 27 _ rfl (wanted_some rfl ?_) Try.isAgg27 ?_; focus (simp [yielded, Act.put]; done))); refine ⟨0, _, _, _, _, _, rfl, rfl, rfl, ?_⟩)
        | (go_at_call 29; go_must (refine (ref_four _ _).mono ?_; rintro e v ⟨rfl, rfl⟩; first | rw [H1.out] | rw [H2.out] | rw [H6.out]))
        | (go_at_call 30; go_must (refine (HSM.out _ st.below).mono ?_; rintro e v2 ⟨rfl, hb2⟩; rw [HM.out]; replace st := st.call hb2; clear hb2))
        | (go_at_call 15; go_must (refine (HGM.out _ st.below).mono ?_; rintro e v2 ⟨rfl, hb2⟩; (try rw [HQ.out]); replace st := st.call hb2; clear hb2)))
      go_ret
      exact ⟨by rw [HE.out]; rfl, st.below⟩
    case true =>
      have H2 := Lib.hid h2
      cases h3 : (f.src == f.dst)
      case false =>
        cases h4 : decide (f.seq < 1)
        case false =>
          cases h5 : decide (1099511627776 < f.seq)
          case false =>
            cases h6 : four f.thread
            case false =>
              have H6 := Lib.hid h6
              have HE := Lib.hid (goodFrame_bad (f := f) (by unfold frameRange; simp [h1, h2, h3, h4, h5, h6] at *; try omega))
              clear h1 h2 h6
              go_enter Try.func12, Try.ntmps12
              go_wp2_with (first
                | go_skip | (with_reducible refine at_box 29 ?_; refine mem_box st (wanted_none rfl) 29 _ rfl _ rfl _ rfl ?_; clear st; intro g1 w1 hg1 st hg1b; clear hg1b; simp [Act.eval, Act.put, Value.cells, putL] at st) | (with_reducible refine at_load 3 ?_; (first | refine mem_load' st 3 _ rfl (wanted_none rfl) Try.isAgg3 ?_ | (refine mem_load' st 3 _ rfl (wanted_some rfl ?_) Try.isAgg3 ?_; focus (simp [yielded, Act.put]; done))); refine ⟨0, _, _, _, _, _, rfl, rfl, rfl, ?_⟩) | (with_reducible refine at_load 4 ?_; (first | refine mem_load' st 4 _ rfl (wanted_none rfl) Try.isAgg4 ?_ | (refine mem_load' st 4 _ rfl (wanted_some rfl ?_) Try.isAgg4 ?_; focus (simp [yielded, Act.put]; done))); refine ⟨0, _, _, _, _, _, rfl, rfl, rfl, ?_⟩) | (with_reducible refine at_load 26 ?_; (first | refine mem_load_agg' st 26 _ rfl (wanted_none rfl) Try.isAgg26 _ Try.sizeOf26 ?_ | (refine mem_load_agg' st 26 _ rfl (wanted_some rfl ?_) Try.isAgg26 _ Try.sizeOf26 ?_; focus (simp [yielded, Act.put]; done))); refine ⟨0, _, _, _, _, _, rfl, rfl, rfl, rfl, ?_⟩) | (with_reducible refine at_load 27 ?_; (first | refine mem_load' st 27 _ rfl (wanted_none rfl) Try.isAgg27 ?_ | (refine mem_load' st 27 _ rfl (wanted_some rfl ?_) Try.isAgg27 ?_; focus (simp [yielded, Act.put]; done))); refine ⟨0, _, _, _, _, _, rfl, rfl, rfl, ?_⟩)
                | (go_at_call 29; go_must (refine (ref_four _ _).mono ?_; rintro e v ⟨rfl, rfl⟩; first | rw [H1.out] | rw [H2.out] | rw [H6.out]))
                | (go_at_call 30; go_must (refine (HSM.out _ st.below).mono ?_; rintro e v2 ⟨rfl, hb2⟩; rw [HM.out]; replace st := st.call hb2; clear hb2))
                | (go_at_call 15; go_must (refine (HGM.out _ st.below).mono ?_; rintro e v2 ⟨rfl, hb2⟩; (try rw [HQ.out]); replace st := st.call hb2; clear hb2)))
              go_ret
              exact ⟨by rw [HE.out]; rfl, st.below⟩
            case true =>
              have H6 := Lib.hid h6
              have HRg := Lib.hid (show frameRange f = true by unfold frameRange; rw [h1, h2, h6]; simp at *; omega)
              have HF0 := Lib.hid (show goodFrameC f = (if f.ack = true then ackC f else if goodMailC f.mail ≠ 0 then goodMailC f.mail else if f.mail.host ≠ f.src then 1 else if 24 < f.certs.length then 5 else certsC f) by unfold goodFrameC; rw [HRg.out, if_pos rfl])
              clear h1 h2 h6
              cases hk : f.ack
              case true =>
                have HA := Lib.hid (show goodFrameC f = if ackPlain f = true then 0 else 1 by rw [HF0.out, hk]; rfl)
                clear HF0
                cases ht : (f.thread == 0)
                · have HE := Lib.hid (show goodFrameC f = 1 by rw [HA.out, HP.out, ht]; rfl)
                  go_enter Try.func12, Try.ntmps12
                  go_wp2_with (first
                    | go_skip | (with_reducible refine at_box 29 ?_; refine mem_box st (wanted_none rfl) 29 _ rfl _ rfl _ rfl ?_; clear st; intro g1 w1 hg1 st hg1b; clear hg1b; simp [Act.eval, Act.put, Value.cells, putL] at st) | (with_reducible refine at_load 3 ?_; (first | refine mem_load' st 3 _ rfl (wanted_none rfl) Try.isAgg3 ?_ | (refine mem_load' st 3 _ rfl (wanted_some rfl ?_) Try.isAgg3 ?_; focus (simp [yielded, Act.put]; done))); refine ⟨0, _, _, _, _, _, rfl, rfl, rfl, ?_⟩) | (with_reducible refine at_load 4 ?_; (first | refine mem_load' st 4 _ rfl (wanted_none rfl) Try.isAgg4 ?_ | (refine mem_load' st 4 _ rfl (wanted_some rfl ?_) Try.isAgg4 ?_; focus (simp [yielded, Act.put]; done))); refine ⟨0, _, _, _, _, _, rfl, rfl, rfl, ?_⟩) | (with_reducible refine at_load 26 ?_; (first | refine mem_load_agg' st 26 _ rfl (wanted_none rfl) Try.isAgg26 _ Try.sizeOf26 ?_ | (refine mem_load_agg' st 26 _ rfl (wanted_some rfl ?_) Try.isAgg26 _ Try.sizeOf26 ?_; focus (simp [yielded, Act.put]; done))); refine ⟨0, _, _, _, _, _, rfl, rfl, rfl, rfl, ?_⟩) | (with_reducible refine at_load 27 ?_; (first | refine mem_load' st 27 _ rfl (wanted_none rfl) Try.isAgg27 ?_ | (refine mem_load' st 27 _ rfl (wanted_some rfl ?_) Try.isAgg27 ?_; focus (simp [yielded, Act.put]; done))); refine ⟨0, _, _, _, _, _, rfl, rfl, rfl, ?_⟩)
                    | (go_at_call 29; go_must (refine (ref_four _ _).mono ?_; rintro e v ⟨rfl, rfl⟩; first | rw [H1.out] | rw [H2.out] | rw [H6.out]))
                    | (go_at_call 30; go_must (refine (HSM.out _ st.below).mono ?_; rintro e v2 ⟨rfl, hb2⟩; rw [HM.out]; replace st := st.call hb2; clear hb2))
                    | (go_at_call 15; go_must (refine (HGM.out _ st.below).mono ?_; rintro e v2 ⟨rfl, hb2⟩; (try rw [HQ.out]); replace st := st.call hb2; clear hb2)))
                  go_ret
                  exact ⟨by rw [HE.out]; rfl, st.below⟩
                · cases hm : decide (f.mail = ⟨0, 0, [], [], ⟨#[]⟩⟩)
                  · have HM := Lib.hid hm
                    have HE := Lib.hid (show goodFrameC f = 1 by rw [HA.out, HP.out, ht, hm]; rfl)
                    clear hm
                    go_enter Try.func12, Try.ntmps12
                    go_wp2_with (first
                      | go_skip | (with_reducible refine at_box 29 ?_; refine mem_box st (wanted_none rfl) 29 _ rfl _ rfl _ rfl ?_; clear st; intro g1 w1 hg1 st hg1b; clear hg1b; simp [Act.eval, Act.put, Value.cells, putL] at st) | (with_reducible refine at_load 3 ?_; (first | refine mem_load' st 3 _ rfl (wanted_none rfl) Try.isAgg3 ?_ | (refine mem_load' st 3 _ rfl (wanted_some rfl ?_) Try.isAgg3 ?_; focus (simp [yielded, Act.put]; done))); refine ⟨0, _, _, _, _, _, rfl, rfl, rfl, ?_⟩) | (with_reducible refine at_load 4 ?_; (first | refine mem_load' st 4 _ rfl (wanted_none rfl) Try.isAgg4 ?_ | (refine mem_load' st 4 _ rfl (wanted_some rfl ?_) Try.isAgg4 ?_; focus (simp [yielded, Act.put]; done))); refine ⟨0, _, _, _, _, _, rfl, rfl, rfl, ?_⟩) | (with_reducible refine at_load 26 ?_; (first | refine mem_load_agg' st 26 _ rfl (wanted_none rfl) Try.isAgg26 _ Try.sizeOf26 ?_ | (refine mem_load_agg' st 26 _ rfl (wanted_some rfl ?_) Try.isAgg26 _ Try.sizeOf26 ?_; focus (simp [yielded, Act.put]; done))); refine ⟨0, _, _, _, _, _, rfl, rfl, rfl, rfl, ?_⟩) | (with_reducible refine at_load 27 ?_; (first | refine mem_load' st 27 _ rfl (wanted_none rfl) Try.isAgg27 ?_ | (refine mem_load' st 27 _ rfl (wanted_some rfl ?_) Try.isAgg27 ?_; focus (simp [yielded, Act.put]; done))); refine ⟨0, _, _, _, _, _, rfl, rfl, rfl, ?_⟩)
                      | (go_at_call 29; go_must (refine (ref_four _ _).mono ?_; rintro e v ⟨rfl, rfl⟩; first | rw [H1.out] | rw [H2.out] | rw [H6.out]))
                      | (go_at_call 30; go_must (refine (HSM.out _ st.below).mono ?_; rintro e v2 ⟨rfl, hb2⟩; rw [HM.out]; replace st := st.call hb2; clear hb2))
                      | (go_at_call 15; go_must (refine (HGM.out _ st.below).mono ?_; rintro e v2 ⟨rfl, hb2⟩; (try rw [HQ.out]); replace st := st.call hb2; clear hb2)))
                    go_ret
                    exact ⟨by rw [HE.out]; rfl, st.below⟩
                  · have HM := Lib.hid hm
                    cases hl : ((f.certs.length : Int) == 0)
                    · have HE := Lib.hid (show goodFrameC f = 1 by rw [HA.out, HP.out, ht, hm]; simp at hl ⊢; exact hl)
                      clear hm
                      go_enter Try.func12, Try.ntmps12
                      go_wp2_with (first
                        | go_skip | (with_reducible refine at_box 29 ?_; refine mem_box st (wanted_none rfl) 29 _ rfl _ rfl _ rfl ?_; clear st; intro g1 w1 hg1 st hg1b; clear hg1b; simp [Act.eval, Act.put, Value.cells, putL] at st) | (with_reducible refine at_load 3 ?_; (first | refine mem_load' st 3 _ rfl (wanted_none rfl) Try.isAgg3 ?_ | (refine mem_load' st 3 _ rfl (wanted_some rfl ?_) Try.isAgg3 ?_; focus (simp [yielded, Act.put]; done))); refine ⟨0, _, _, _, _, _, rfl, rfl, rfl, ?_⟩) | (with_reducible refine at_load 4 ?_; (first | refine mem_load' st 4 _ rfl (wanted_none rfl) Try.isAgg4 ?_ | (refine mem_load' st 4 _ rfl (wanted_some rfl ?_) Try.isAgg4 ?_; focus (simp [yielded, Act.put]; done))); refine ⟨0, _, _, _, _, _, rfl, rfl, rfl, ?_⟩) | (with_reducible refine at_load 26 ?_; (first | refine mem_load_agg' st 26 _ rfl (wanted_none rfl) Try.isAgg26 _ Try.sizeOf26 ?_ | (refine mem_load_agg' st 26 _ rfl (wanted_some rfl ?_) Try.isAgg26 _ Try.sizeOf26 ?_; focus (simp [yielded, Act.put]; done))); refine ⟨0, _, _, _, _, _, rfl, rfl, rfl, rfl, ?_⟩) | (with_reducible refine at_load 27 ?_; (first | refine mem_load' st 27 _ rfl (wanted_none rfl) Try.isAgg27 ?_ | (refine mem_load' st 27 _ rfl (wanted_some rfl ?_) Try.isAgg27 ?_; focus (simp [yielded, Act.put]; done))); refine ⟨0, _, _, _, _, _, rfl, rfl, rfl, ?_⟩)
                        | (go_at_call 29; go_must (refine (ref_four _ _).mono ?_; rintro e v ⟨rfl, rfl⟩; first | rw [H1.out] | rw [H2.out] | rw [H6.out]))
                        | (go_at_call 30; go_must (refine (HSM.out _ st.below).mono ?_; rintro e v2 ⟨rfl, hb2⟩; rw [HM.out]; replace st := st.call hb2; clear hb2))
                        | (go_at_call 15; go_must (refine (HGM.out _ st.below).mono ?_; rintro e v2 ⟨rfl, hb2⟩; (try rw [HQ.out]); replace st := st.call hb2; clear hb2)))
                      go_ret
                      exact ⟨by rw [HE.out]; rfl, st.below⟩
                    · have HE := Lib.hid (show goodFrameC f = 0 by rw [HA.out, HP.out, ht, hm]; simp at hl ⊢; exact hl)
                      clear hm
                      go_enter Try.func12, Try.ntmps12
                      go_wp2_with (first
                        | go_skip | (with_reducible refine at_box 29 ?_; refine mem_box st (wanted_none rfl) 29 _ rfl _ rfl _ rfl ?_; clear st; intro g1 w1 hg1 st hg1b; clear hg1b; simp [Act.eval, Act.put, Value.cells, putL] at st) | (with_reducible refine at_load 3 ?_; (first | refine mem_load' st 3 _ rfl (wanted_none rfl) Try.isAgg3 ?_ | (refine mem_load' st 3 _ rfl (wanted_some rfl ?_) Try.isAgg3 ?_; focus (simp [yielded, Act.put]; done))); refine ⟨0, _, _, _, _, _, rfl, rfl, rfl, ?_⟩) | (with_reducible refine at_load 4 ?_; (first | refine mem_load' st 4 _ rfl (wanted_none rfl) Try.isAgg4 ?_ | (refine mem_load' st 4 _ rfl (wanted_some rfl ?_) Try.isAgg4 ?_; focus (simp [yielded, Act.put]; done))); refine ⟨0, _, _, _, _, _, rfl, rfl, rfl, ?_⟩) | (with_reducible refine at_load 26 ?_; (first | refine mem_load_agg' st 26 _ rfl (wanted_none rfl) Try.isAgg26 _ Try.sizeOf26 ?_ | (refine mem_load_agg' st 26 _ rfl (wanted_some rfl ?_) Try.isAgg26 _ Try.sizeOf26 ?_; focus (simp [yielded, Act.put]; done))); refine ⟨0, _, _, _, _, _, rfl, rfl, rfl, rfl, ?_⟩) | (with_reducible refine at_load 27 ?_; (first | refine mem_load' st 27 _ rfl (wanted_none rfl) Try.isAgg27 ?_ | (refine mem_load' st 27 _ rfl (wanted_some rfl ?_) Try.isAgg27 ?_; focus (simp [yielded, Act.put]; done))); refine ⟨0, _, _, _, _, _, rfl, rfl, rfl, ?_⟩)
                        | (go_at_call 29; go_must (refine (ref_four _ _).mono ?_; rintro e v ⟨rfl, rfl⟩; first | rw [H1.out] | rw [H2.out] | rw [H6.out]))
                        | (go_at_call 30; go_must (refine (HSM.out _ st.below).mono ?_; rintro e v2 ⟨rfl, hb2⟩; rw [HM.out]; replace st := st.call hb2; clear hb2))
                        | (go_at_call 15; go_must (refine (HGM.out _ st.below).mono ?_; rintro e v2 ⟨rfl, hb2⟩; (try rw [HQ.out]); replace st := st.call hb2; clear hb2)))
                      go_ret
                      exact ⟨by rw [HE.out]; rfl, st.below⟩
              case false =>
                rw [hk] at HF0
                clear hk
                cases hq : (goodMailC f.mail != 0)
                case true =>
                  have HE := Lib.hid (show goodFrameC f = goodMailC f.mail by rw [HF0.out, if_neg (by simp), if_pos (by simpa using hq)])
                  generalize goodMailC f.mail = q at *
                  have HQ := Lib.hid (show q = q from rfl)
                  go_enter Try.func12, Try.ntmps12
                  go_wp2_with (first
                    | go_skip | (with_reducible refine at_box 29 ?_; refine mem_box st (wanted_none rfl) 29 _ rfl _ rfl _ rfl ?_; clear st; intro g1 w1 hg1 st hg1b; clear hg1b; simp [Act.eval, Act.put, Value.cells, putL] at st) | (with_reducible refine at_load 3 ?_; (first | refine mem_load' st 3 _ rfl (wanted_none rfl) Try.isAgg3 ?_ | (refine mem_load' st 3 _ rfl (wanted_some rfl ?_) Try.isAgg3 ?_; focus (simp [yielded, Act.put]; done))); refine ⟨0, _, _, _, _, _, rfl, rfl, rfl, ?_⟩) | (with_reducible refine at_load 4 ?_; (first | refine mem_load' st 4 _ rfl (wanted_none rfl) Try.isAgg4 ?_ | (refine mem_load' st 4 _ rfl (wanted_some rfl ?_) Try.isAgg4 ?_; focus (simp [yielded, Act.put]; done))); refine ⟨0, _, _, _, _, _, rfl, rfl, rfl, ?_⟩) | (with_reducible refine at_load 26 ?_; (first | refine mem_load_agg' st 26 _ rfl (wanted_none rfl) Try.isAgg26 _ Try.sizeOf26 ?_ | (refine mem_load_agg' st 26 _ rfl (wanted_some rfl ?_) Try.isAgg26 _ Try.sizeOf26 ?_; focus (simp [yielded, Act.put]; done))); refine ⟨0, _, _, _, _, _, rfl, rfl, rfl, rfl, ?_⟩) | (with_reducible refine at_load 27 ?_; (first | refine mem_load' st 27 _ rfl (wanted_none rfl) Try.isAgg27 ?_ | (refine mem_load' st 27 _ rfl (wanted_some rfl ?_) Try.isAgg27 ?_; focus (simp [yielded, Act.put]; done))); refine ⟨0, _, _, _, _, _, rfl, rfl, rfl, ?_⟩)
                    | (go_at_call 29; go_must (refine (ref_four _ _).mono ?_; rintro e v ⟨rfl, rfl⟩; first | rw [H1.out] | rw [H2.out] | rw [H6.out]))
                    | (go_at_call 30; go_must (refine (HSM.out _ st.below).mono ?_; rintro e v2 ⟨rfl, hb2⟩; rw [HM.out]; replace st := st.call hb2; clear hb2))
                    | (go_at_call 15; go_must (refine (HGM.out _ st.below).mono ?_; rintro e v2 ⟨rfl, hb2⟩; (try rw [HQ.out]); replace st := st.call hb2; clear hb2)))
                  go_ret
                  exact ⟨by rw [HE.out]; rfl, st.below⟩
                case false =>
                  have HQ := Lib.hid (show goodMailC f.mail = 0 by simpa using hq)
                  clear hq
                  cases hs : (f.src != f.mail.host)
                  case true =>
                    have HE := Lib.hid (show goodFrameC f = 1 by rw [HF0.out, if_neg (by simp), if_neg (by rw [HQ.out]; simp), if_pos (by simp at hs; exact fun h => hs h.symm)])
                    go_enter Try.func12, Try.ntmps12
                    go_wp2_with (first
                      | go_skip | (with_reducible refine at_box 29 ?_; refine mem_box st (wanted_none rfl) 29 _ rfl _ rfl _ rfl ?_; clear st; intro g1 w1 hg1 st hg1b; clear hg1b; simp [Act.eval, Act.put, Value.cells, putL] at st) | (with_reducible refine at_load 3 ?_; (first | refine mem_load' st 3 _ rfl (wanted_none rfl) Try.isAgg3 ?_ | (refine mem_load' st 3 _ rfl (wanted_some rfl ?_) Try.isAgg3 ?_; focus (simp [yielded, Act.put]; done))); refine ⟨0, _, _, _, _, _, rfl, rfl, rfl, ?_⟩) | (with_reducible refine at_load 4 ?_; (first | refine mem_load' st 4 _ rfl (wanted_none rfl) Try.isAgg4 ?_ | (refine mem_load' st 4 _ rfl (wanted_some rfl ?_) Try.isAgg4 ?_; focus (simp [yielded, Act.put]; done))); refine ⟨0, _, _, _, _, _, rfl, rfl, rfl, ?_⟩) | (with_reducible refine at_load 26 ?_; (first | refine mem_load_agg' st 26 _ rfl (wanted_none rfl) Try.isAgg26 _ Try.sizeOf26 ?_ | (refine mem_load_agg' st 26 _ rfl (wanted_some rfl ?_) Try.isAgg26 _ Try.sizeOf26 ?_; focus (simp [yielded, Act.put]; done))); refine ⟨0, _, _, _, _, _, rfl, rfl, rfl, rfl, ?_⟩) | (with_reducible refine at_load 27 ?_; (first | refine mem_load' st 27 _ rfl (wanted_none rfl) Try.isAgg27 ?_ | (refine mem_load' st 27 _ rfl (wanted_some rfl ?_) Try.isAgg27 ?_; focus (simp [yielded, Act.put]; done))); refine ⟨0, _, _, _, _, _, rfl, rfl, rfl, ?_⟩)
                      | (go_at_call 29; go_must (refine (ref_four _ _).mono ?_; rintro e v ⟨rfl, rfl⟩; first | rw [H1.out] | rw [H2.out] | rw [H6.out]))
                      | (go_at_call 30; go_must (refine (HSM.out _ st.below).mono ?_; rintro e v2 ⟨rfl, hb2⟩; rw [HM.out]; replace st := st.call hb2; clear hb2))
                      | (go_at_call 15; go_must (refine (HGM.out _ st.below).mono ?_; rintro e v2 ⟨rfl, hb2⟩; (try rw [HQ.out]); replace st := st.call hb2; clear hb2)))
                    go_ret
                    exact ⟨by rw [HE.out]; rfl, st.below⟩
                  case false =>
                    by_cases h24 : 24 < f.certs.length
                    · have d24 : decide ((24 : Int) < (f.certs.length : Int)) = true := by simp; omega
                      have HE := Lib.hid (show goodFrameC f = 5 by rw [HF0.out, if_neg (by simp), if_neg (by rw [HQ.out]; simp), if_neg (by simp at hs; simp [hs]), if_pos h24])
                      clear h24
                      go_enter Try.func12, Try.ntmps12
                      go_wp2_with (first
                        | go_skip | (with_reducible refine at_box 29 ?_; refine mem_box st (wanted_none rfl) 29 _ rfl _ rfl _ rfl ?_; clear st; intro g1 w1 hg1 st hg1b; clear hg1b; simp [Act.eval, Act.put, Value.cells, putL] at st) | (with_reducible refine at_load 3 ?_; (first | refine mem_load' st 3 _ rfl (wanted_none rfl) Try.isAgg3 ?_ | (refine mem_load' st 3 _ rfl (wanted_some rfl ?_) Try.isAgg3 ?_; focus (simp [yielded, Act.put]; done))); refine ⟨0, _, _, _, _, _, rfl, rfl, rfl, ?_⟩) | (with_reducible refine at_load 4 ?_; (first | refine mem_load' st 4 _ rfl (wanted_none rfl) Try.isAgg4 ?_ | (refine mem_load' st 4 _ rfl (wanted_some rfl ?_) Try.isAgg4 ?_; focus (simp [yielded, Act.put]; done))); refine ⟨0, _, _, _, _, _, rfl, rfl, rfl, ?_⟩) | (with_reducible refine at_load 26 ?_; (first | refine mem_load_agg' st 26 _ rfl (wanted_none rfl) Try.isAgg26 _ Try.sizeOf26 ?_ | (refine mem_load_agg' st 26 _ rfl (wanted_some rfl ?_) Try.isAgg26 _ Try.sizeOf26 ?_; focus (simp [yielded, Act.put]; done))); refine ⟨0, _, _, _, _, _, rfl, rfl, rfl, rfl, ?_⟩) | (with_reducible refine at_load 27 ?_; (first | refine mem_load' st 27 _ rfl (wanted_none rfl) Try.isAgg27 ?_ | (refine mem_load' st 27 _ rfl (wanted_some rfl ?_) Try.isAgg27 ?_; focus (simp [yielded, Act.put]; done))); refine ⟨0, _, _, _, _, _, rfl, rfl, rfl, ?_⟩)
                        | (go_at_call 29; go_must (refine (ref_four _ _).mono ?_; rintro e v ⟨rfl, rfl⟩; first | rw [H1.out] | rw [H2.out] | rw [H6.out]))
                        | (go_at_call 30; go_must (refine (HSM.out _ st.below).mono ?_; rintro e v2 ⟨rfl, hb2⟩; rw [HM.out]; replace st := st.call hb2; clear hb2))
                        | (go_at_call 15; go_must (refine (HGM.out _ st.below).mono ?_; rintro e v2 ⟨rfl, hb2⟩; (try rw [HQ.out]); replace st := st.call hb2; clear hb2)))
                      go_ret
                      exact ⟨by rw [HE.out]; rfl, st.below⟩
                    · have d24 : decide ((24 : Int) < (f.certs.length : Int)) = false := by simp; omega
                      have HE := Lib.hid (show goodFrameC f = certsC f by rw [HF0.out, if_neg (by simp), if_neg (by rw [HQ.out]; simp), if_neg (by simp at hs; simp [hs]), if_neg h24])
                      clear h24
                      go_enter Try.func12, Try.ntmps12
                      go_wp2_with (first
                        | go_skip | (with_reducible refine at_box 29 ?_; refine mem_box st (wanted_none rfl) 29 _ rfl _ rfl _ rfl ?_; clear st; intro g1 w1 hg1 st hg1b; clear hg1b; simp [Act.eval, Act.put, Value.cells, putL] at st) | (with_reducible refine at_load 3 ?_; (first | refine mem_load' st 3 _ rfl (wanted_none rfl) Try.isAgg3 ?_ | (refine mem_load' st 3 _ rfl (wanted_some rfl ?_) Try.isAgg3 ?_; focus (simp [yielded, Act.put]; done))); refine ⟨0, _, _, _, _, _, rfl, rfl, rfl, ?_⟩) | (with_reducible refine at_load 4 ?_; (first | refine mem_load' st 4 _ rfl (wanted_none rfl) Try.isAgg4 ?_ | (refine mem_load' st 4 _ rfl (wanted_some rfl ?_) Try.isAgg4 ?_; focus (simp [yielded, Act.put]; done))); refine ⟨0, _, _, _, _, _, rfl, rfl, rfl, ?_⟩) | (with_reducible refine at_load 26 ?_; (first | refine mem_load_agg' st 26 _ rfl (wanted_none rfl) Try.isAgg26 _ Try.sizeOf26 ?_ | (refine mem_load_agg' st 26 _ rfl (wanted_some rfl ?_) Try.isAgg26 _ Try.sizeOf26 ?_; focus (simp [yielded, Act.put]; done))); refine ⟨0, _, _, _, _, _, rfl, rfl, rfl, rfl, ?_⟩) | (with_reducible refine at_load 27 ?_; (first | refine mem_load' st 27 _ rfl (wanted_none rfl) Try.isAgg27 ?_ | (refine mem_load' st 27 _ rfl (wanted_some rfl ?_) Try.isAgg27 ?_; focus (simp [yielded, Act.put]; done))); refine ⟨0, _, _, _, _, _, rfl, rfl, rfl, ?_⟩)
                        | (go_at_call 29; go_must (refine (ref_four _ _).mono ?_; rintro e v ⟨rfl, rfl⟩; first | rw [H1.out] | rw [H2.out] | rw [H6.out]))
                        | (go_at_call 30; go_must (refine (HSM.out _ st.below).mono ?_; rintro e v2 ⟨rfl, hb2⟩; rw [HM.out]; replace st := st.call hb2; clear hb2))
                        | (go_at_call 15; go_must (refine (HGM.out _ st.below).mono ?_; rintro e v2 ⟨rfl, hb2⟩; (try rw [HQ.out]); replace st := st.call hb2; clear hb2)))
                      have HCe := Lib.hid (show certsC f = if f.certs.all goodCertB = true then 0 else 2 from rfl)
                      go_loopw [75, 5] (fun i _ wr => ∃ k : Nat, k ≤ f.certs.length ∧ i = .int .i64 k ∧ Below w.heap.size w wr ∧ Hid (f.certs.all goodCertB = (f.certs.drop k).all goodCertB)) (fun i _ _ => f.certs.length - (intOf i).toNat)
                      case atStart => exact ⟨0, Nat.zero_le _, rfl, st.below, rfl⟩
                      case round =>
                        clear st
                        obtain ⟨k, hk, rfl, hB, hI⟩ := hrel
                        by_cases hlt : k < f.certs.length
                        · obtain ⟨b, o, rfl, hb, _⟩ := (hC.below hB).cert_at k hlt
                          have hrow := (hC.below hB).cert_row k hlt
                          have HD := Lib.hid (drop_at hlt)
                          have HGC := Lib.hid (ref_GoodCert f.certs[k])
                          have st := St.start wr
                          cases hg : goodCertB f.certs[k]
                          · have HG := Lib.hid hg
                            have HE2 := Lib.hid (show goodFrameC f = 2 by rw [HE.out, HCe.out, hI.out, HD.out, List.all_cons, hg]; rfl)
                            clear hg
                            go_wp2_with (first
                              | go_skip | (with_reducible refine at_load 39 ?_; refine wpList_load_cells (wanted_none rfl) 39 _ rfl Try.isAgg39 _ Try.sizeOf39 b (o + k * 4) rfl [.int .i64 f.certs[k].c, .int .i64 f.certs[k].by_, .int .i64 f.certs[k].host, .int .i64 f.certs[k].till] rfl hrow ?_) | (with_reducible refine at_alloc 39 ?_; refine mem_alloc st (wanted_none rfl) 39 rfl _ Try.zeroValue39 _ rfl ?_; clear st; intro g5 w5 hg5 st hg5b; clear hg5b; simp [Act.eval, Act.put, Value.cells, putL] at st) | (with_reducible refine at_store 39 ?_; (first | refine mem_store' st 39 _ _ rfl (wanted_none rfl) _ Try.sizeOf39 ?_ | (refine mem_store' st 39 _ _ rfl (wanted_some rfl ?_) _ Try.sizeOf39 ?_; focus (simp [yielded, Act.put]; done))); refine ⟨0, _, _, _, _, _, rfl, rfl, rfl, rfl, rfl, rfl, ?_⟩; clear st; intro w6 st hw6m hw6z; simp [Act.eval, Act.put, Value.cells, putL] at st) | (with_reducible refine at_load 39 ?_; (first | refine mem_load_agg' st 39 _ rfl (wanted_none rfl) Try.isAgg39 _ Try.sizeOf39 ?_ | (refine mem_load_agg' st 39 _ rfl (wanted_some rfl ?_) Try.isAgg39 _ Try.sizeOf39 ?_; focus (simp [yielded, Act.put]; done))); refine ⟨0, _, _, _, _, _, rfl, rfl, rfl, rfl, ?_⟩)
                              | (go_at_call 17; go_must (refine (HGC.out _).mono ?_; rintro e v2 ⟨rfl, hb2⟩; rw [HG.out]; replace st := st.call hb2; clear hb2)))
                            go_ret
                            exact ⟨by rw [HE2.out]; rfl, hB.keep st.below⟩
                          · have HG := Lib.hid hg
                            have HE2 := Lib.hid (show f.certs.all goodCertB = (f.certs.drop (k + 1)).all goodCertB by rw [hI.out, HD.out, List.all_cons, hg]; rfl)
                            clear hg
                            go_wp2_with (first
                              | go_skip | (with_reducible refine at_load 39 ?_; refine wpList_load_cells (wanted_none rfl) 39 _ rfl Try.isAgg39 _ Try.sizeOf39 b (o + k * 4) rfl [.int .i64 f.certs[k].c, .int .i64 f.certs[k].by_, .int .i64 f.certs[k].host, .int .i64 f.certs[k].till] rfl hrow ?_) | (with_reducible refine at_alloc 39 ?_; refine mem_alloc st (wanted_none rfl) 39 rfl _ Try.zeroValue39 _ rfl ?_; clear st; intro g5 w5 hg5 st hg5b; clear hg5b; simp [Act.eval, Act.put, Value.cells, putL] at st) | (with_reducible refine at_store 39 ?_; (first | refine mem_store' st 39 _ _ rfl (wanted_none rfl) _ Try.sizeOf39 ?_ | (refine mem_store' st 39 _ _ rfl (wanted_some rfl ?_) _ Try.sizeOf39 ?_; focus (simp [yielded, Act.put]; done))); refine ⟨0, _, _, _, _, _, rfl, rfl, rfl, rfl, rfl, rfl, ?_⟩; clear st; intro w6 st hw6m hw6z; simp [Act.eval, Act.put, Value.cells, putL] at st) | (with_reducible refine at_load 39 ?_; (first | refine mem_load_agg' st 39 _ rfl (wanted_none rfl) Try.isAgg39 _ Try.sizeOf39 ?_ | (refine mem_load_agg' st 39 _ rfl (wanted_some rfl ?_) Try.isAgg39 _ Try.sizeOf39 ?_; focus (simp [yielded, Act.put]; done))); refine ⟨0, _, _, _, _, _, rfl, rfl, rfl, rfl, ?_⟩)
                              | (go_at_call 17; go_must (refine (HGC.out _).mono ?_; rintro e v2 ⟨rfl, hb2⟩; rw [HG.out]; replace st := st.call hb2; clear hb2)))
                            go_roundw
                            case rel => exact ⟨k + 1, hlt, by go_num, hB.keep st.below, HE2⟩
                            case measure => simp [intOf]; omega
                        · have HE2 := Lib.hid (show goodFrameC f = 0 by rw [HE.out, HCe.out, hI.out, List.drop_of_length_le (by omega)]; rfl)
                          go_wp2
                          go_ret
                          exact ⟨by rw [HE2.out]; rfl, hB⟩
          case true =>
            have HE := Lib.hid (goodFrame_bad (f := f) (by unfold frameRange; rw [Bool.eq_false_iff]; intro hc; simp only [Bool.and_eq_true, bne_iff_ne, decide_eq_true_eq] at hc; have hbad := h5; simp only [beq_iff_eq, decide_eq_true_eq] at hbad; omega))
            clear h1 h2
            go_enter Try.func12, Try.ntmps12
            go_wp2_with (first
              | go_skip | (with_reducible refine at_box 29 ?_; refine mem_box st (wanted_none rfl) 29 _ rfl _ rfl _ rfl ?_; clear st; intro g1 w1 hg1 st hg1b; clear hg1b; simp [Act.eval, Act.put, Value.cells, putL] at st) | (with_reducible refine at_load 3 ?_; (first | refine mem_load' st 3 _ rfl (wanted_none rfl) Try.isAgg3 ?_ | (refine mem_load' st 3 _ rfl (wanted_some rfl ?_) Try.isAgg3 ?_; focus (simp [yielded, Act.put]; done))); refine ⟨0, _, _, _, _, _, rfl, rfl, rfl, ?_⟩) | (with_reducible refine at_load 4 ?_; (first | refine mem_load' st 4 _ rfl (wanted_none rfl) Try.isAgg4 ?_ | (refine mem_load' st 4 _ rfl (wanted_some rfl ?_) Try.isAgg4 ?_; focus (simp [yielded, Act.put]; done))); refine ⟨0, _, _, _, _, _, rfl, rfl, rfl, ?_⟩) | (with_reducible refine at_load 26 ?_; (first | refine mem_load_agg' st 26 _ rfl (wanted_none rfl) Try.isAgg26 _ Try.sizeOf26 ?_ | (refine mem_load_agg' st 26 _ rfl (wanted_some rfl ?_) Try.isAgg26 _ Try.sizeOf26 ?_; focus (simp [yielded, Act.put]; done))); refine ⟨0, _, _, _, _, _, rfl, rfl, rfl, rfl, ?_⟩) | (with_reducible refine at_load 27 ?_; (first | refine mem_load' st 27 _ rfl (wanted_none rfl) Try.isAgg27 ?_ | (refine mem_load' st 27 _ rfl (wanted_some rfl ?_) Try.isAgg27 ?_; focus (simp [yielded, Act.put]; done))); refine ⟨0, _, _, _, _, _, rfl, rfl, rfl, ?_⟩)
              | (go_at_call 29; go_must (refine (ref_four _ _).mono ?_; rintro e v ⟨rfl, rfl⟩; first | rw [H1.out] | rw [H2.out] | rw [H6.out]))
              | (go_at_call 30; go_must (refine (HSM.out _ st.below).mono ?_; rintro e v2 ⟨rfl, hb2⟩; rw [HM.out]; replace st := st.call hb2; clear hb2))
              | (go_at_call 15; go_must (refine (HGM.out _ st.below).mono ?_; rintro e v2 ⟨rfl, hb2⟩; (try rw [HQ.out]); replace st := st.call hb2; clear hb2)))
            go_ret
            exact ⟨by rw [HE.out]; rfl, st.below⟩
        case true =>
          have HE := Lib.hid (goodFrame_bad (f := f) (by unfold frameRange; rw [Bool.eq_false_iff]; intro hc; simp only [Bool.and_eq_true, bne_iff_ne, decide_eq_true_eq] at hc; have hbad := h4; simp only [beq_iff_eq, decide_eq_true_eq] at hbad; omega))
          clear h1 h2
          go_enter Try.func12, Try.ntmps12
          go_wp2_with (first
            | go_skip | (with_reducible refine at_box 29 ?_; refine mem_box st (wanted_none rfl) 29 _ rfl _ rfl _ rfl ?_; clear st; intro g1 w1 hg1 st hg1b; clear hg1b; simp [Act.eval, Act.put, Value.cells, putL] at st) | (with_reducible refine at_load 3 ?_; (first | refine mem_load' st 3 _ rfl (wanted_none rfl) Try.isAgg3 ?_ | (refine mem_load' st 3 _ rfl (wanted_some rfl ?_) Try.isAgg3 ?_; focus (simp [yielded, Act.put]; done))); refine ⟨0, _, _, _, _, _, rfl, rfl, rfl, ?_⟩) | (with_reducible refine at_load 4 ?_; (first | refine mem_load' st 4 _ rfl (wanted_none rfl) Try.isAgg4 ?_ | (refine mem_load' st 4 _ rfl (wanted_some rfl ?_) Try.isAgg4 ?_; focus (simp [yielded, Act.put]; done))); refine ⟨0, _, _, _, _, _, rfl, rfl, rfl, ?_⟩) | (with_reducible refine at_load 26 ?_; (first | refine mem_load_agg' st 26 _ rfl (wanted_none rfl) Try.isAgg26 _ Try.sizeOf26 ?_ | (refine mem_load_agg' st 26 _ rfl (wanted_some rfl ?_) Try.isAgg26 _ Try.sizeOf26 ?_; focus (simp [yielded, Act.put]; done))); refine ⟨0, _, _, _, _, _, rfl, rfl, rfl, rfl, ?_⟩) | (with_reducible refine at_load 27 ?_; (first | refine mem_load' st 27 _ rfl (wanted_none rfl) Try.isAgg27 ?_ | (refine mem_load' st 27 _ rfl (wanted_some rfl ?_) Try.isAgg27 ?_; focus (simp [yielded, Act.put]; done))); refine ⟨0, _, _, _, _, _, rfl, rfl, rfl, ?_⟩)
            | (go_at_call 29; go_must (refine (ref_four _ _).mono ?_; rintro e v ⟨rfl, rfl⟩; first | rw [H1.out] | rw [H2.out] | rw [H6.out]))
            | (go_at_call 30; go_must (refine (HSM.out _ st.below).mono ?_; rintro e v2 ⟨rfl, hb2⟩; rw [HM.out]; replace st := st.call hb2; clear hb2))
            | (go_at_call 15; go_must (refine (HGM.out _ st.below).mono ?_; rintro e v2 ⟨rfl, hb2⟩; (try rw [HQ.out]); replace st := st.call hb2; clear hb2)))
          go_ret
          exact ⟨by rw [HE.out]; rfl, st.below⟩
      case true =>
        have HE := Lib.hid (goodFrame_bad (f := f) (by unfold frameRange; rw [Bool.eq_false_iff]; intro hc; simp only [Bool.and_eq_true, bne_iff_ne, decide_eq_true_eq] at hc; have hbad := h3; simp only [beq_iff_eq, decide_eq_true_eq] at hbad; omega))
        clear h1 h2
        go_enter Try.func12, Try.ntmps12
        go_wp2_with (first
          | go_skip | (with_reducible refine at_box 29 ?_; refine mem_box st (wanted_none rfl) 29 _ rfl _ rfl _ rfl ?_; clear st; intro g1 w1 hg1 st hg1b; clear hg1b; simp [Act.eval, Act.put, Value.cells, putL] at st) | (with_reducible refine at_load 3 ?_; (first | refine mem_load' st 3 _ rfl (wanted_none rfl) Try.isAgg3 ?_ | (refine mem_load' st 3 _ rfl (wanted_some rfl ?_) Try.isAgg3 ?_; focus (simp [yielded, Act.put]; done))); refine ⟨0, _, _, _, _, _, rfl, rfl, rfl, ?_⟩) | (with_reducible refine at_load 4 ?_; (first | refine mem_load' st 4 _ rfl (wanted_none rfl) Try.isAgg4 ?_ | (refine mem_load' st 4 _ rfl (wanted_some rfl ?_) Try.isAgg4 ?_; focus (simp [yielded, Act.put]; done))); refine ⟨0, _, _, _, _, _, rfl, rfl, rfl, ?_⟩) | (with_reducible refine at_load 26 ?_; (first | refine mem_load_agg' st 26 _ rfl (wanted_none rfl) Try.isAgg26 _ Try.sizeOf26 ?_ | (refine mem_load_agg' st 26 _ rfl (wanted_some rfl ?_) Try.isAgg26 _ Try.sizeOf26 ?_; focus (simp [yielded, Act.put]; done))); refine ⟨0, _, _, _, _, _, rfl, rfl, rfl, rfl, ?_⟩) | (with_reducible refine at_load 27 ?_; (first | refine mem_load' st 27 _ rfl (wanted_none rfl) Try.isAgg27 ?_ | (refine mem_load' st 27 _ rfl (wanted_some rfl ?_) Try.isAgg27 ?_; focus (simp [yielded, Act.put]; done))); refine ⟨0, _, _, _, _, _, rfl, rfl, rfl, ?_⟩)
          | (go_at_call 29; go_must (refine (ref_four _ _).mono ?_; rintro e v ⟨rfl, rfl⟩; first | rw [H1.out] | rw [H2.out] | rw [H6.out]))
          | (go_at_call 30; go_must (refine (HSM.out _ st.below).mono ?_; rintro e v2 ⟨rfl, hb2⟩; rw [HM.out]; replace st := st.call hb2; clear hb2))
          | (go_at_call 15; go_must (refine (HGM.out _ st.below).mono ?_; rintro e v2 ⟨rfl, hb2⟩; (try rw [HQ.out]); replace st := st.call hb2; clear hb2)))
        go_ret
        exact ⟨by rw [HE.out]; rfl, st.below⟩

end Go.Proofs.Ytemjnojfhbbapaa
