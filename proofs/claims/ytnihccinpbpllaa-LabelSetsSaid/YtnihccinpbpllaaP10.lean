/- Walks and plain laws that the claim rests on, part 10. -/
import Derived.Test.YtnihccinpbpllaaP8
import Derived.Test.YtnihccinpbpllaaP4
import Derived.Test.YtnihccinpbpllaaP6
import Derived.Test.YtnihccinpbpllaaP9
import Derived.Test.YtnihccinpbpllaaP1
import Derived.Maps.OwnSet
import Derived.Test.YtnihccinpbpllaaP3
import Derived.Maps.RangeWalk
import Derived.Test.YtnihccinpbpllaaP2
import Derived.ArgAppend
set_option linter.unusedSimpArgs false
set_option linter.unusedVariables false
/- The walks through line.Answered and the reference's word on it. -/
namespace Go.Proofs.Ytnihccinpbpllaa
open Go.RowKit

/-- A call that leaves whatever lies below B as it was. -/
theorem St.callB {M : List Nat} {w0 w w' : World} {own : Blks} (h : St M w0 w own) {B : Nat} (hb : Below B w w') (h0 : w0.heap.size ≤ B) (hlt : ∀ x ∈ own, x.1 < B) : St M w0 w' own :=
  ⟨hb.os.trans h.os, hb.tape.trans h.tape, hb.output.trans h.output, Nat.le_trans h.size hb.size, fun b hb' hM => (hb.block b (by omega)).trans (h.frame b hb' hM), fun x hx => (hb.block x.1 (hlt x hx)).trans (h.blk x hx), h.mine, h.ne⟩

/-- What an answer makes of it: the error, and what is left. -/
def answX (g : Bool) (sent : List Sent) (seq : Int) : Int × List Sent :=
  if g = false then (2, sent) else if (sent.filter (offSeq seq)).length = sent.length then (4, sent) else (0, sent.filter (offSeq seq))

end Go.Proofs.Ytnihccinpbpllaa

/- The walk through the reference's word on an answer. -/
namespace Go.Proofs.Ytnihccinpbpllaa
open Go.RowKit

/-- A row of ours, that lies in what is new, has grown. -/
theorem St.grownNew {M : List Nat} {w0 w w' : World} {own : Blks} {row : Option Nat} (st : St M w0 w own) (hg : w.grownBy w' row) (hrow : ∀ k, row = some k → w0.heap.size ≤ k) (hn : ∀ x ∈ own, row ≠ some x.1) : St M w0 w' own := by
  refine ⟨hg.os.trans st.os, hg.tape.trans st.tape, hg.output.trans st.output, Nat.le_trans st.size hg.size, fun b hb hM => ?_, fun x hx => ?_, st.mine, st.ne⟩
  · rw [hg.block b (Nat.lt_of_lt_of_le hb st.size) (fun e => by have := hrow _ e.symm; omega), st.frame b hb hM]
  · rw [hg.block _ (st.lt hx) fun e => hn x hx e.symm]
    exact st.blk x hx

theorem St.comp {M : List Nat} {w0 w1 w2 : World} {own1 own2 : Blks} (h1 : St M w0 w1 own1) (h2 : St M w1 w2 own2) : St M w0 w2 own2 :=
  ⟨h2.os.trans h1.os, h2.tape.trans h1.tape, h2.output.trans h1.output, Nat.le_trans h1.size h2.size, fun b hb hM => (h2.frame b (Nat.lt_of_lt_of_le hb h1.size) hM).trans (h1.frame b hb hM), h2.blk,
    fun x hx => (h2.mine x hx).imp id fun h => Nat.le_trans h1.size h, h2.ne⟩

end Go.Proofs.Ytnihccinpbpllaa

/- What is sent again, in plain words; the walk through line.Again. -/
namespace Go.Proofs.Ytnihccinpbpllaa
open Go.RowKit

theorem sentsOk_mem : ∀ {next prev : Int} {l : List Sent}, sentsOk next prev l = true → ∀ s ∈ l, 1 ≤ s.tries ∧ s.tries ≤ 5 ∧ 0 ≤ s.due ∧ s.due ≤ 2199023255552
  | _, _, [], _, _, h => by simp at h
  | next, prev, x :: l, h, s, hs => by
    unfold sentsOk at h
    by_cases hx : sentOk next prev x = true
    · rw [if_pos hx] at h
      rcases List.mem_cons.1 hs with rfl | hs
      · simp only [sentOk, decide_eq_true_eq] at hx
        omega
      · exact sentsOk_mem h s hs
    · rw [if_neg hx] at h
      simp at h

theorem lineOk_mem {next high : Int} {sent : List Sent} {e : Eight} (h : lineOk ⟨next, sent, high, e⟩ = true) : ∀ s ∈ sent, 1 ≤ s.tries ∧ s.tries ≤ 5 ∧ 0 ≤ s.due ∧ s.due ≤ 2199023255552 := by
  unfold lineOk at h
  by_cases hh : headOk next high sent.length = true
  · rw [if_pos hh] at h
    exact sentsOk_mem h
  · rw [if_neg hh] at h
    simp at h

/-- What is kept of one that is under way. -/
def keepS (now : Int) (s : Sent) : Option Sent := if now < s.due then some s else if s.tries < 5 then some { s with tries := s.tries + 1, due := now + 2 ^ (s.tries + 1).toNat } else none
/-- What is sent again of it. -/
def outS (now : Int) (s : Sent) : Option Frame := if now < s.due then none else if s.tries < 5 then some s.frame else none

structure AgainX where
  k : Int
  sent : List Sent
  out : List Frame

def againX (g : Bool) (sent : List Sent) (now : Int) : AgainX :=
  if g = false ∨ now < 0 ∨ 1099511627776 < now then ⟨2, sent, []⟩ else ⟨0, sent.filterMap (keepS now), sent.filterMap (outS now)⟩

theorem fm_step {α β : Type} {f : α → Option β} {l : List α} {k : Nat} (h : k < l.length) : (l.take (k + 1)).filterMap f = (l.take k).filterMap f ++ (f l[k]).toList := by
  rw [List.take_succ_eq_append_getElem h, List.filterMap_append]
  cases hx : f l[k] <;> simp [hx]

theorem World.grownBy.ofBelow {w w' : World} (h : Below w.heap.size w w') (row : Option Nat) : w.grownBy w' row := ⟨h.os, h.tape, h.output, h.size, fun k hk _ => h.block k hk⟩

end Go.Proofs.Ytnihccinpbpllaa

/- The walk through line.Again. -/
namespace Go.Proofs.Ytnihccinpbpllaa
open Go.RowKit

/-- Two rows may have grown, all else stays. -/
structure Aside (r1 r2 : Option Nat) (w w' : World) : Prop where
  os : w'.os = w.os
  tape : w'.tape = w.tape
  output : w'.output = w.output
  size : w.heap.size ≤ w'.heap.size
  block : ∀ b, b < w.heap.size → r1 ≠ some b → r2 ≠ some b → w'.heap[b]? = w.heap[b]?

theorem Aside.refl (r1 r2 : Option Nat) (w : World) : Aside r1 r2 w w := ⟨rfl, rfl, rfl, Nat.le_refl _, fun _ _ _ _ => rfl⟩
theorem Aside.grown {r1 r2 r : Option Nat} {w w' w'' : World} (h : Aside r1 r2 w w') (hg : w'.grownBy w'' r) (hr : r = none ∨ r = r1 ∨ r = r2) : Aside r1 r2 w w'' :=
  ⟨hg.os.trans h.os, hg.tape.trans h.tape, hg.output.trans h.output, Nat.le_trans h.size hg.size, fun b hb h1 h2 => (hg.block b (Nat.lt_of_lt_of_le hb h.size) (by
    rcases hr with rfl | rfl | rfl
    · simp
    · exact fun e => h1 e.symm
    · exact fun e => h2 e.symm)).trans (h.block b hb h1 h2)⟩
theorem Aside.drew {r1 r2 : Option Nat} {w w' : World} (h : Aside r1 r2 w w') : Aside r1 r2 w w'.drew := h.grown (World.grownBy.ofBelow (Below.refl _ _).drew none) (.inl rfl)
theorem Own.drew {b : Nat} {e : TypeId} {w : World} {α : Type} {sz : Nat} {R : List Value → α → Prop} {a : Option Addr} {c : Nat} {xs : List α} (h : Own b e w sz R a c xs) : Own b e w.drew sz R a c xs := h.below (Below.refl _ _).drew

theorem St.aside {M : List Nat} {w0 w w' : World} {own : Blks} {r1 r2 : Option Nat} (st : St M w0 w own) (ha : Aside r1 r2 w w') (h1 : ∀ k, r1 = some k → w0.heap.size ≤ k) (h2 : ∀ k, r2 = some k → w0.heap.size ≤ k) (h3 : ∀ x ∈ own, r1 ≠ some x.1 ∧ r2 ≠ some x.1) : St M w0 w' own :=
  ⟨ha.os.trans st.os, ha.tape.trans st.tape, ha.output.trans st.output, Nat.le_trans st.size ha.size,
    fun b hb hM => (ha.block b (Nat.lt_of_lt_of_le hb st.size) (fun e => by have := h1 b e; omega) (fun e => by have := h2 b e; omega)).trans (st.frame b hb hM),
    fun x hx => (ha.block x.1 (st.lt hx) (h3 x hx).1 (h3 x hx).2).trans (st.blk x hx), st.mine, st.ne⟩

theorem two_pow {n : Int} (h1 : 1 ≤ n) (h2 : n ≤ 5) : 2 ≤ (2 : Int) ^ n.toNat ∧ (2 : Int) ^ n.toNat ≤ 32 := by
  rcases (show n = 1 ∨ n = 2 ∨ n = 3 ∨ n = 4 ∨ n = 5 by omega) with rfl | rfl | rfl | rfl | rfl <;> decide

end Go.Proofs.Ytnihccinpbpllaa

/- Maps whose elements are bools, in one word: what a look-up says. No program is in sight. -/
namespace Go.Proofs.Ytnihccinpbpllaa
open Go.RowKit
open Go.Maps (Keyed IsMap)

section
variable {P : Program} {k e t : TypeId} {w w' : World} {b n : Nat} {f : Lit → Bool}

/-- Block b is a map of at most n entries, that tells f of each key. -/
def MapB (P : Program) (k e : TypeId) (w : World) (b n : Nat) (f : Lit → Bool) : Prop :=
  ∃ D : DataW Unit, w.ownsMap P k (plainElem P e) b n D ∧ IsMap D ∧ ∀ kl, WideAt.IsKeyLit kl → D.atKey kl (.lit (.bool false)) = .lit (.bool (f kl))

theorem MapB.made (P : Program) (k e : TypeId) (w : World) : MapB P k e (w.alloc (.map #[] 0)) w.heap.size 0 fun _ => false :=
  ⟨.map [], World.ownsMap_made w P k _, Maps.isMap_empty, fun _ _ => rfl⟩

theorem MapB.kept {row : Option Nat} (h : MapB P k e w b n f) (hg : w.grownBy w' row) (hne : row ≠ some b) : MapB P k e w' b n f := by
  obtain ⟨D, h1, h2⟩ := h
  exact ⟨D, h1.kept hg fun e => hne e.symm, h2⟩

theorem MapB.below (h : MapB P k e w b n f) (hb : Below w.heap.size w w') : MapB P k e w' b n f := h.kept (World.grownBy.ofBelow hb none) (by simp)

theorem MapB.lt (h : MapB P k e w b n f) : b < w.heap.size := by
  obtain ⟨D, h1, _⟩ := h
  exact h1.lt

theorem MapB.block (h : MapB P k e w b n f) (hs : w.heap.size ≤ w'.heap.size) (hb : w'.heap[b]? = w.heap[b]?) : MapB P k e w' b n f := by
  obtain ⟨D, ⟨es, clock, h1, h2⟩, h3⟩ := h
  exact ⟨D, ⟨es, clock, hb.trans h1, h2⟩, h3⟩

theorem plainElem_bool_inv (he : P.underlying e = some .bool) {v : Value} {x : Bool} {ps : List MemPlace} (h : plainElem (H := Unit) P e v = some (.lit (.bool x), ps)) : v = .bool x := by
  unfold plainElem at h
  rw [he] at h
  cases v <;> simp at h
  rw [h.1]

theorem MapB.lookup (h : MapB P k e w b n f) (K : Keyed P k) (ht : P.underlying t = some (.map k e)) (he : P.underlying e = some .bool) (hz : (zeroValue e).run P w = .ok (.bool false) w) {key : Value} {kl : Lit} (hkey : keyOf P k key = some kl) :
    (Instr.lookup t (.map (some b)) key false).run P w = .ok (.bool (f kl)) w := by
  obtain ⟨D, h1, _, h3⟩ := h
  obtain ⟨v, ps, hrun, hv⟩ := h1.lookup K ht hz (plainElem_bool he false) hkey
  rw [h3 kl (K.key hkey)] at hv
  rw [hrun, plainElem_bool_inv he hv]

theorem MapB.update (h : MapB P k e w b n f) (K : Keyed P k) (ht : P.underlying t = some (.map k e)) (he : P.underlying e = some .bool) (hn : n < maxLen) {key : Value} {kl : Lit} (x : Bool) (hkey : keyOf P k key = some kl) :
    ∃ w', (Instr.mapUpdate t (.map (some b)) key (.bool x)).run P w = .ok () w' ∧ MapB P k e w' b (n + 1) (fun l => if l.sameKey kl then x else f l) ∧ w.grownBy w' (some b) := by
  obtain ⟨D, h1, h2, h3⟩ := h
  obtain ⟨w', hrun, h4, h5⟩ := h1.update K ht hn hkey (plainElem_bool he x)
  refine ⟨w', hrun, ⟨_, h4, h2.put _ _, fun l hl => ?_⟩, h5⟩
  show _ = DataW.lit (Lit.bool (if l.sameKey kl = true then x else f l))
  by_cases hlk : l = kl
  · subst hlk
    rw [if_pos (WideAt.sameKey_self hl), Maps.atKey_put_same h2 hl]
  · rw [if_neg (by rw [Maps.sameKey_ne hlk]; simp), Maps.atKey_put_other hlk, h3 l hl]

variable {ops : Array Oper} {rest : List Oper} {o : Oper} {A : Act} {Q : Exit → Act → World → Prop} {K' : Act → World → Prop}

theorem wp_mapLookup (h : MapB P k e w b n f) (K : Keyed P k) (m x : Operand) (t : TypeId) (hop : o.op = Op.lookup t m x false) (ht : P.underlying t = some (.map k e)) (he : P.underlying e = some .bool) (hz : ∀ w, (zeroValue e).run P w = .ok (.bool false) w)
    (hm : A.eval m = .map (some b)) {kl : Lit} (hkey : keyOf P k (A.eval x) = some kl) (hK : K' (A.put o.dst (.bool (f kl))) w) : Oper.wp P o A w K' Q := by
  have hrun := h.lookup K ht he (hz w) hkey
  unfold Oper.wp
  simp [execOp, hop, hm, hrun, Result.andThen]
  exact hK

theorem wpList_mapLookup (h : MapB P k e w b n f) (K : Keyed P k) (hgd : Region.wanted o (yielded ops A.tmps) = true) (m x : Operand) (t : TypeId) (hop : o.op = Op.lookup t m x false) (ht : P.underlying t = some (.map k e)) (he : P.underlying e = some .bool) (hz : ∀ w, (zeroValue e).run P w = .ok (.bool false) w)
    (hm : A.eval m = .map (some b)) {kl : Lit} (hkey : keyOf P k (A.eval x) = some kl) (hK : wpList P ops Q rest (A.put o.dst (.bool (f kl))) w) : wpList P ops Q (o :: rest) A w :=
  wpList_wanted hgd fun _ h' => wp_mapLookup h K m x t hop ht he hz hm hkey (h' _ _ hK)

theorem wpList_mapUpdate (h : MapB P k e w b n f) (K : Keyed P k) (hgd : Region.wanted o (yielded ops A.tmps) = true) (m x v : Operand) (t : TypeId) (hop : o.op = Op.mapUpdate t m x v) (ht : P.underlying t = some (.map k e)) (he : P.underlying e = some .bool) (hn : n < maxLen)
    (hm : A.eval m = .map (some b)) {kl : Lit} (hkey : keyOf P k (A.eval x) = some kl) (y : Bool) (hv : A.eval v = .bool y)
    (hK : ∀ w', MapB P k e w' b (n + 1) (fun l => if l.sameKey kl then y else f l) → w.grownBy w' (some b) → wpList P ops Q rest (A.put o.dst undef) w') : wpList P ops Q (o :: rest) A w := by
  refine wpList_wanted hgd fun K1 h' => ?_
  obtain ⟨w', hrun, h1, h2⟩ := h.update K ht he hn y hkey
  unfold Oper.wp
  simp [execOp, hop, hm, hv, hrun, Result.andThen]
  exact h' _ _ (hK w' h1 h2)

theorem wpList_makeMap (k e : TypeId) (hgd : Region.wanted o (yielded ops A.tmps) = true) (t : TypeId) (hop : o.op = Op.makeMap t none)
    (hK : ∀ b w', w.heap.size ≤ b → MapB P k e w' b 0 (fun _ => false) → Below w.heap.size w w' → wpList P ops Q rest (A.put o.dst (.map (some b))) w') : wpList P ops Q (o :: rest) A w := by
  refine wpList_wanted hgd fun K1 h' => ?_
  have hrun := run_makeMap (P := P) t w
  unfold Oper.wp
  simp [execOp, hop, hrun, Result.andThen]
  exact h' _ _ (hK _ _ (Nat.le_refl _) (MapB.made P k e w) ((Below.refl _ _).alloc (Nat.le_refl _) _))

end

/-- A map that is written may be called a row of ours that has grown. -/
theorem St.map {M : List Nat} {w0 w w' : World} {own : Blks} {b : Nat} (st : St M w0 w own) (hg : w.grownBy w' (some b)) (hb : w0.heap.size ≤ b) (hn : ∀ x ∈ own, x.1 ≠ b) : St M w0 w' own :=
  st.grownNew hg (fun k e => by simp at e; omega) fun x hx e => hn x hx (by simpa using e.symm)

theorem St.back {M : List Nat} {a w0 w : World} {own0 own : Blks} (h0 : St M a w0 own0) (h : St (own0.map (·.1)) w0 w own) : St M a w own := by
  refine ⟨h.os.trans h0.os, h.tape.trans h0.tape, h.output.trans h0.output, Nat.le_trans h0.size h.size, fun b hb hM => ?_, h.blk, fun x hx => ?_, h.ne⟩
  · refine (h.frame b (Nat.lt_of_lt_of_le hb h0.size) fun hm => ?_).trans (h0.frame b hb hM)
    obtain ⟨x, hx, rfl⟩ := List.mem_map.1 hm
    rcases h0.mine x hx with h1 | h1
    · exact hM h1
    · omega
  · rcases h.mine x hx with h1 | h1
    · obtain ⟨y, hy, e⟩ := List.mem_map.1 h1
      rw [← e]
      exact h0.mine y hy
    · exact .inr (Nat.le_trans h0.size h1)

theorem wpOp_skip {P : Program} {ops : Array Oper} {Q : Exit → Act → World → Prop} {i : Nat} {o : Oper} {K : Act → World → Prop} {a : Act} {w : World} (ho : ops[i]? = some o) (hg : Region.wanted o (yielded ops a.tmps) = false) (h : K (a.put o.dst undef) w) : wpOp P ops Q i K a w := by
  simp only [wpOp, ho, hg]
  exact h

end Go.Proofs.Ytnihccinpbpllaa

/- Maps that are sets of numbers, and the range over one. No program is in sight. -/
namespace Go.Proofs.Ytnihccinpbpllaa
open Go.RowKit
open Go.Maps (Keyed IsMap)

theorem wfI {n : Int} (h : fitI n) : (Lit.int .i64 n).wf = true := by
  unfold fitI at h
  simp only [Lit.wf, decide_eq_true_eq, Bool.and_eq_true]
  exact h

section
variable {P : Program} {k e t : TypeId} {w w' : World} {b r n cnt : Nat} {l seen : List Int}

/-- Block b is a set of numbers, of at most n entries: just those of l are in it. -/
def SetB (P : Program) (k e : TypeId) (w : World) (b n : Nat) (l : List Int) : Prop :=
  ∃ D : DataW Unit, w.ownsMap P k (plainElem P e) b n D ∧ IsMap D ∧ ∀ x : Int, (Lit.int .i64 x).wf = true → Maps.has D (.int .i64 x) = inL l x ∧ D.atKey (.int .i64 x) (.lit (.bool false)) = .lit (.bool (inL l x))

theorem SetB.made (P : Program) (k e : TypeId) (w : World) : SetB P k e (w.alloc (.map #[] 0)) w.heap.size 0 [] :=
  ⟨.map [], World.ownsMap_made w P k _, Maps.isMap_empty, fun _ _ => ⟨rfl, rfl⟩⟩

theorem SetB.kept {row : Option Nat} (h : SetB P k e w b n l) (hg : w.grownBy w' row) (hne : row ≠ some b) : SetB P k e w' b n l := by
  obtain ⟨D, h1, h2⟩ := h
  exact ⟨D, h1.kept hg fun e => hne e.symm, h2⟩

theorem SetB.below (h : SetB P k e w b n l) (hb : Below w.heap.size w w') : SetB P k e w' b n l := h.kept (World.grownBy.ofBelow hb none) (by simp)

theorem SetB.lt (h : SetB P k e w b n l) : b < w.heap.size := by
  obtain ⟨D, h1, _⟩ := h
  exact h1.lt

theorem SetB.same {l' : List Int} (h : SetB P k e w b n l) (hl : ∀ x, inL l x = inL l' x) : SetB P k e w b n l' := by
  obtain ⟨D, h1, h2, h3⟩ := h
  exact ⟨D, h1, h2, fun x hx => by rw [← hl]; exact h3 x hx⟩

theorem inL_snoc (l : List Int) (x y : Int) : inL (l ++ [x]) y = if y = x then true else inL l y := by
  by_cases h : y = x
  · subst h
    rw [if_pos rfl, inL_iff]
    simp
  · rw [if_neg h, Bool.eq_iff_iff, inL_iff, inL_iff]
    simp [h]

theorem SetB.lookup (h : SetB P k e w b n l) (K : Keyed P k) (hk : P.underlying k = some (.int .i64)) (ht : P.underlying t = some (.map k e)) (he : P.underlying e = some .bool) (hz : (zeroValue e).run P w = .ok (.bool false) w) {z : Int} (hf : fitI z) :
    (Instr.lookup t (.map (some b)) (.int .i64 z) false).run P w = .ok (.bool (inL l z)) w := by
  obtain ⟨D, h1, _, h3⟩ := h
  have hkey : keyOf P k (.int .i64 z) = some (.int .i64 z) := Maps.keyOf_int_mk hk (wfI hf)
  obtain ⟨v, ps, hrun, hv⟩ := h1.lookup K ht hz (plainElem_bool he false) hkey
  rw [(h3 z (wfI hf)).2] at hv
  rw [hrun, plainElem_bool_inv he hv]

theorem SetB.update (h : SetB P k e w b n l) (K : Keyed P k) (hk : P.underlying k = some (.int .i64)) (ht : P.underlying t = some (.map k e)) (he : P.underlying e = some .bool) (hn : n < maxLen) {z : Int} (hf : fitI z) :
    ∃ w', (Instr.mapUpdate t (.map (some b)) (.int .i64 z) (.bool true)).run P w = .ok () w' ∧ SetB P k e w' b (n + 1) (l ++ [z]) ∧ w.grownBy w' (some b) := by
  obtain ⟨D, h1, h2, h3⟩ := h
  have hkey : keyOf P k (.int .i64 z) = some (.int .i64 z) := Maps.keyOf_int_mk hk (wfI hf)
  obtain ⟨w', hrun, h4, h5⟩ := h1.update K ht hn hkey (plainElem_bool he true)
  refine ⟨w', hrun, ⟨_, h4, h2.put _ _, fun x hx => ?_⟩, h5⟩
  rw [inL_snoc]
  by_cases hxz : x = z
  · subst hxz
    rw [if_pos rfl]
    exact ⟨Maps.has_put_same h2 (K.key hkey) _, Maps.atKey_put_same h2 (K.key hkey) _ _⟩
  · have hne : (Lit.int .i64 x) ≠ .int .i64 z := fun h => hxz (by injection h)
    rw [if_neg hxz]
    exact ⟨(Maps.has_put_other hne _).trans (h3 x hx).1, (Maps.atKey_put_other hne _ _).trans (h3 x hx).2⟩

/-- Block r is a range over it: those of 'seen' have come. -/
def RangeB (P : Program) (k e : TypeId) (w : World) (b r n : Nat) (l seen : List Int) (cnt : Nat) : Prop :=
  ∃ (D : DataW Unit) (left : Lit → Bool), w.ranges P k (plainElem P e) b r n D left cnt ∧ ∀ x : Int, (Lit.int .i64 x).wf = true → left (.int .i64 x) = (inL l x && !inL seen x)

theorem RangeB.left_eq (h : RangeB P k e w b r n l seen cnt) : w.rangeLeft b r = cnt := by
  obtain ⟨D, left, h1, _⟩ := h
  exact h1.left_eq

theorem RangeB.kept {row : Option Nat} (h : RangeB P k e w b r n l seen cnt) (hg : w.grownBy w' row) (hb' : some b ≠ row) (hr' : some r ≠ row) : RangeB P k e w' b r n l seen cnt := by
  obtain ⟨D, left, h1, h2⟩ := h
  exact ⟨D, left, h1.kept hg hb' hr', h2⟩

theorem RangeB.below (h : RangeB P k e w b r n l seen cnt) (hb : Below w.heap.size w w') : RangeB P k e w' b r n l seen cnt := h.kept (World.grownBy.ofBelow hb none) (by simp) (by simp)

theorem RangeB.lt (h : RangeB P k e w b r n l seen cnt) : r < w.heap.size ∧ b < w.heap.size := by
  obtain ⟨D, left, h1, _⟩ := h
  exact ⟨h1.lt, h1.owns.lt⟩

variable {ops : Array Oper} {rest : List Oper} {o : Oper} {A : Act} {Q : Exit → Act → World → Prop} {K' : Act → World → Prop}

theorem wpList_setMake (k e : TypeId) (hgd : Region.wanted o (yielded ops A.tmps) = true) (t : TypeId) (hop : o.op = Op.makeMap t none)
    (hK : ∀ b w', w.heap.size ≤ b → SetB P k e w' b 0 [] → Below w.heap.size w w' → wpList P ops Q rest (A.put o.dst (.map (some b))) w') : wpList P ops Q (o :: rest) A w := by
  refine wpList_wanted hgd fun K1 h' => ?_
  have hrun := run_makeMap (P := P) t w
  unfold Oper.wp
  simp [execOp, hop, hrun, Result.andThen]
  exact h' _ _ (hK _ _ (Nat.le_refl _) (SetB.made P k e w) ((Below.refl _ _).alloc (Nat.le_refl _) _))

theorem wpList_setUpdate (h : SetB P k e w b n l) (K : Keyed P k) (hk : P.underlying k = some (.int .i64)) (hgd : Region.wanted o (yielded ops A.tmps) = true) (m x v : Operand) (t : TypeId) (hop : o.op = Op.mapUpdate t m x v) (ht : P.underlying t = some (.map k e)) (he : P.underlying e = some .bool) (hn : n < maxLen)
    (hm : A.eval m = .map (some b)) (z : Int) (hx : A.eval x = .int .i64 z) (hf : fitI z) (hv : A.eval v = .bool true)
    (hK : ∀ w', SetB P k e w' b (n + 1) (l ++ [z]) → w.grownBy w' (some b) → wpList P ops Q rest (A.put o.dst undef) w') : wpList P ops Q (o :: rest) A w := by
  refine wpList_wanted hgd fun K1 h' => ?_
  obtain ⟨w', hrun, h1, h2⟩ := h.update K hk ht he hn hf
  unfold Oper.wp
  simp [execOp, hop, hm, hx, hv, hrun, Result.andThen]
  exact h' _ _ (hK w' h1 h2)

theorem wp_setLookup (h : SetB P k e w b n l) (K : Keyed P k) (hk : P.underlying k = some (.int .i64)) (m x : Operand) (t : TypeId) (hop : o.op = Op.lookup t m x false) (ht : P.underlying t = some (.map k e)) (he : P.underlying e = some .bool) (hz : ∀ w, (zeroValue e).run P w = .ok (.bool false) w)
    (hm : A.eval m = .map (some b)) (z : Int) (hx : A.eval x = .int .i64 z) (hf : fitI z) (hK : K' (A.put o.dst (.bool (inL l z))) w) : Oper.wp P o A w K' Q := by
  have hrun := h.lookup K hk ht he (hz w) hf
  unfold Oper.wp
  simp [execOp, hop, hm, hx, hrun, Result.andThen]
  exact hK

theorem wpList_setRange (h : SetB P k e w b n l) (K : Keyed P k) (hgd : o.guard = none) (m : Operand) (t : TypeId) (hop : o.op = Op.range t m) (ht : P.underlying t = some (.map k e)) (hm : A.eval m = .map (some b))
    (hK : ∀ r w' cnt, w.heap.size ≤ r → RangeB P k e w' b r n l [] cnt → Below w.heap.size w w' → wpList P ops Q rest (A.put o.dst (.pointer (some ⟨r, 0, none⟩))) w') : wpList P ops Q (o :: rest) A w := by
  obtain ⟨D, h1, h2, h3⟩ := h
  refine wpList_range_own w hgd m t hop k e K ht (plainElem P e) b n D hm h1 fun w' r1 r2 r3 => ?_
  refine hK _ w' _ (Nat.le_refl _) ⟨D, _, r1, fun x hx => ?_⟩ ⟨r2.os, r2.tape, r2.output, r2.size, fun q hq => r2.block q hq (by simp)⟩
  rw [(h3 x hx).1]
  simp [inL]

theorem wpList_setNext (h : RangeB P k e w b r n l seen cnt) (K : Keyed P k) (hk : P.underlying k = some (.int .i64)) (he : P.underlying e = some .bool) (hgd : o.guard = none) (it : Operand) (hop : o.op = Op.next it false) (hit : A.eval it = .pointer (some ⟨r, 0, none⟩))
    (hDone : Hid (∀ x : Int, fitI x → inL l x = true → inL seen x = true) → wpList P ops Q rest (A.put o.dst (.tuple #[.bool false])) w)
    (hMore : ∀ (x : Int) (c : Bool) (w' : World) (cnt' : Nat), fitI x → inL l x = true → RangeB P k e w' b r n l (seen ++ [x]) cnt' → cnt' < cnt → w.grownBy w' (some r) → w'.heap.size = w.heap.size →
      (Instr.entry (.pointer (some ⟨r, 0, none⟩))).run P w' = .ok (.tuple #[.int .i64 x, .bool c]) w' → wpList P ops Q rest (A.put o.dst (.tuple #[.bool true, .int .i64 x, .bool c])) w') : wpList P ops Q (o :: rest) A w := by
  obtain ⟨D, left, h1, h2⟩ := h
  refine wpList_next_ranges w hgd it hop k K (plainElem P e) (Value.int .i64) Value.bool (fun key kl hkey => by obtain ⟨x, rfl, _⟩ := Maps.keyOf_int_inv hk hkey; exact ⟨x, rfl⟩)
    (fun v y hv => by
      unfold plainElem at hv
      rw [he] at hv
      cases v <;> simp at hv
      exact ⟨_, rfl⟩) b r n D left cnt hit h1 (fun h0 hl => hDone (Lib.hid fun x hx hin => ?_)) (fun x c kl y w' cnt' hkey hlk hv hat hrg hlt hgr hsz hen => ?_)
  · have := h2 x (wfI hx)
    rw [hl, hin] at this
    cases hs : inL seen x
    · rw [hs] at this; simp at this
    · rfl
  · obtain ⟨x', ex, rfl, hwx⟩ := Maps.keyOf_int_inv hk hkey
    cases ex
    have hfx : fitI x := by
      simp only [Lit.wf, decide_eq_true_eq, Bool.and_eq_true] at hwx
      exact hwx
    have h3 := h2 x hwx
    rw [hlk] at h3
    have h4 : inL l x = true := by
      cases hl : inL l x
      · rw [hl] at h3; simp at h3
      · rfl
    refine hMore x c w' cnt' hfx h4 ⟨D, _, hrg, fun z hz => ?_⟩ hlt hgr hsz hen
    rw [inL_snoc, h2 z hz]
    by_cases hzx : z = x
    · subst hzx
      rw [if_pos rfl, WideAt.sameKey_self (K.key hkey)]
      simp
    · have hne : (Lit.int .i64 z) ≠ .int .i64 x := fun h => hzx (by injection h)
      rw [if_neg hzx, Maps.sameKey_ne hne]
      simp

end
end Go.Proofs.Ytnihccinpbpllaa

/- Maps from numbers to numbers, and the range over one. No program is in sight. -/
namespace Go.Proofs.Ytnihccinpbpllaa
open Go.RowKit
open Go.Maps (Keyed IsMap)

section
variable {P : Program} {k e t : TypeId} {w w' : World} {b r n cnt : Nat} {keys seen : List Int} {val : Int → Int}

/-- Block b is a map of numbers, of at most n entries: of each of 'keys' what 'val' says. -/
def MapZ (P : Program) (k e : TypeId) (w : World) (b n : Nat) (keys : List Int) (val : Int → Int) : Prop :=
  ∃ D : DataW Unit, w.ownsMap P k (plainElem P e) b n D ∧ IsMap D ∧ ∀ x : Int, (Lit.int .i64 x).wf = true → Maps.has D (.int .i64 x) = inL keys x ∧ (inL keys x = true → ∀ zd, D.atKey (.int .i64 x) zd = .lit (.int .i64 (val x)))

theorem MapZ.made (P : Program) (k e : TypeId) (w : World) (val : Int → Int) : MapZ P k e (w.alloc (.map #[] 0)) w.heap.size 0 [] val :=
  ⟨.map [], World.ownsMap_made w P k _, Maps.isMap_empty, fun _ _ => ⟨rfl, fun h => by cases h⟩⟩

theorem MapZ.kept {row : Option Nat} (h : MapZ P k e w b n keys val) (hg : w.grownBy w' row) (hne : row ≠ some b) : MapZ P k e w' b n keys val := by
  obtain ⟨D, h1, h2⟩ := h
  exact ⟨D, h1.kept hg fun e => hne e.symm, h2⟩

theorem MapZ.below (h : MapZ P k e w b n keys val) (hb : Below w.heap.size w w') : MapZ P k e w' b n keys val := h.kept (World.grownBy.ofBelow hb none) (by simp)

theorem MapZ.lt (h : MapZ P k e w b n keys val) : b < w.heap.size := by
  obtain ⟨D, h1, _⟩ := h
  exact h1.lt

theorem MapZ.congr {val' : Int → Int} (h : MapZ P k e w b n keys val) (hv : ∀ x, inL keys x = true → val x = val' x) : MapZ P k e w b n keys val' := by
  obtain ⟨D, h1, h2, h3⟩ := h
  exact ⟨D, h1, h2, fun x hx => ⟨(h3 x hx).1, fun hk zd => by rw [(h3 x hx).2 hk zd, hv x hk]⟩⟩

theorem MapZ.update (h : MapZ P k e w b n keys val) (K : Keyed P k) (hk : P.underlying k = some (.int .i64)) (ht : P.underlying t = some (.map k e)) (he : P.underlying e = some (.int .i64)) (hn : n < maxLen) {z c : Int} (hf : fitI z) (hc : fitI c) :
    ∃ w', (Instr.mapUpdate t (.map (some b)) (.int .i64 z) (.int .i64 c)).run P w = .ok () w' ∧ MapZ P k e w' b (n + 1) (keys ++ [z]) (fun x => if x = z then c else val x) ∧ w.grownBy w' (some b) := by
  obtain ⟨D, h1, h2, h3⟩ := h
  have hkey : keyOf P k (.int .i64 z) = some (.int .i64 z) := Maps.keyOf_int_mk hk (wfI hf)
  obtain ⟨w', hrun, h4, h5⟩ := h1.update K ht hn hkey (plainElem_int he (wfI hc))
  refine ⟨w', hrun, ⟨_, h4, h2.put _ _, fun x hx => ?_⟩, h5⟩
  rw [inL_snoc]
  by_cases hxz : x = z
  · subst hxz
    rw [if_pos rfl]
    exact ⟨Maps.has_put_same h2 (K.key hkey) _, fun _ zd => by show _ = DataW.lit (Lit.int .i64 (if x = x then c else val x)); rw [if_pos rfl]; exact Maps.atKey_put_same h2 (K.key hkey) _ _⟩
  · have hne : (Lit.int .i64 x) ≠ .int .i64 z := fun h => hxz (by injection h)
    rw [if_neg hxz]
    exact ⟨(Maps.has_put_other hne _).trans (h3 x hx).1, fun hk zd => by show _ = DataW.lit (Lit.int .i64 (if x = z then c else val x)); rw [if_neg hxz]; exact (Maps.atKey_put_other hne _ _).trans ((h3 x hx).2 hk zd)⟩

/-- Block r is a range over it: those of 'seen' have come. -/
def RangeZ (P : Program) (k e : TypeId) (w : World) (b r n : Nat) (keys : List Int) (val : Int → Int) (seen : List Int) (cnt : Nat) : Prop :=
  ∃ (D : DataW Unit) (left : Lit → Bool), w.ranges P k (plainElem P e) b r n D left cnt ∧ (∀ x : Int, (Lit.int .i64 x).wf = true → left (.int .i64 x) = (inL keys x && !inL seen x)) ∧ ∀ x : Int, (Lit.int .i64 x).wf = true → inL keys x = true → ∀ zd, D.atKey (.int .i64 x) zd = .lit (.int .i64 (val x))

theorem RangeZ.left_eq (h : RangeZ P k e w b r n keys val seen cnt) : w.rangeLeft b r = cnt := by
  obtain ⟨D, left, h1, _⟩ := h
  exact h1.left_eq

theorem RangeZ.kept {row : Option Nat} (h : RangeZ P k e w b r n keys val seen cnt) (hg : w.grownBy w' row) (hb' : some b ≠ row) (hr' : some r ≠ row) : RangeZ P k e w' b r n keys val seen cnt := by
  obtain ⟨D, left, h1, h2⟩ := h
  exact ⟨D, left, h1.kept hg hb' hr', h2⟩

theorem RangeZ.below (h : RangeZ P k e w b r n keys val seen cnt) (hb : Below w.heap.size w w') : RangeZ P k e w' b r n keys val seen cnt := h.kept (World.grownBy.ofBelow hb none) (by simp) (by simp)

theorem RangeZ.lt (h : RangeZ P k e w b r n keys val seen cnt) : r < w.heap.size ∧ b < w.heap.size := by
  obtain ⟨D, left, h1, _⟩ := h
  exact ⟨h1.lt, h1.owns.lt⟩

variable {ops : Array Oper} {rest : List Oper} {o : Oper} {A : Act} {Q : Exit → Act → World → Prop} {K' : Act → World → Prop}

theorem wpList_zMake (k e : TypeId) (val : Int → Int) (hgd : Region.wanted o (yielded ops A.tmps) = true) (t : TypeId) (hop : o.op = Op.makeMap t none)
    (hK : ∀ b w', w.heap.size ≤ b → MapZ P k e w' b 0 [] val → Below w.heap.size w w' → wpList P ops Q rest (A.put o.dst (.map (some b))) w') : wpList P ops Q (o :: rest) A w := by
  refine wpList_wanted hgd fun K1 h' => ?_
  have hrun := run_makeMap (P := P) t w
  unfold Oper.wp
  simp [execOp, hop, hrun, Result.andThen]
  exact h' _ _ (hK _ _ (Nat.le_refl _) (MapZ.made P k e w val) ((Below.refl _ _).alloc (Nat.le_refl _) _))

theorem wpList_zUpdate (h : MapZ P k e w b n keys val) (K : Keyed P k) (hk : P.underlying k = some (.int .i64)) (hgd : Region.wanted o (yielded ops A.tmps) = true) (m x v : Operand) (t : TypeId) (hop : o.op = Op.mapUpdate t m x v) (ht : P.underlying t = some (.map k e)) (he : P.underlying e = some (.int .i64)) (hn : n < maxLen)
    (hm : A.eval m = .map (some b)) (z c : Int) (hx : A.eval x = .int .i64 z) (hf : fitI z) (hv : A.eval v = .int .i64 c) (hc : fitI c)
    (hK : ∀ w', MapZ P k e w' b (n + 1) (keys ++ [z]) (fun x => if x = z then c else val x) → w.grownBy w' (some b) → wpList P ops Q rest (A.put o.dst undef) w') : wpList P ops Q (o :: rest) A w := by
  refine wpList_wanted hgd fun K1 h' => ?_
  obtain ⟨w', hrun, h1, h2⟩ := h.update K hk ht he hn hf hc
  unfold Oper.wp
  simp [execOp, hop, hm, hx, hv, hrun, Result.andThen]
  exact h' _ _ (hK w' h1 h2)

theorem wpList_zRange (h : MapZ P k e w b n keys val) (K : Keyed P k) (hgd : o.guard = none) (m : Operand) (t : TypeId) (hop : o.op = Op.range t m) (ht : P.underlying t = some (.map k e)) (hm : A.eval m = .map (some b))
    (hK : ∀ r w' cnt, w.heap.size ≤ r → RangeZ P k e w' b r n keys val [] cnt → Below w.heap.size w w' → wpList P ops Q rest (A.put o.dst (.pointer (some ⟨r, 0, none⟩))) w') : wpList P ops Q (o :: rest) A w := by
  obtain ⟨D, h1, h2, h3⟩ := h
  refine wpList_range_own w hgd m t hop k e K ht (plainElem P e) b n D hm h1 fun w' r1 r2 r3 => ?_
  refine hK _ w' _ (Nat.le_refl _) ⟨D, _, r1, fun x hx => ?_, fun x hx => (h3 x hx).2⟩ ⟨r2.os, r2.tape, r2.output, r2.size, fun q hq => r2.block q hq (by simp)⟩
  rw [(h3 x hx).1]
  simp [inL]

theorem wpList_zNext (h : RangeZ P k e w b r n keys val seen cnt) (K : Keyed P k) (hk : P.underlying k = some (.int .i64)) (he : P.underlying e = some (.int .i64)) (hgd : o.guard = none) (it : Operand) (hop : o.op = Op.next it false) (hit : A.eval it = .pointer (some ⟨r, 0, none⟩))
    (hDone : Hid (∀ x : Int, fitI x → inL keys x = true → inL seen x = true) → wpList P ops Q rest (A.put o.dst (.tuple #[.bool false])) w)
    (hMore : ∀ (x : Int) (w' : World) (cnt' : Nat), fitI x → fitI (val x) → inL keys x = true → inL seen x = false → RangeZ P k e w' b r n keys val (seen ++ [x]) cnt' → cnt' < cnt → w.grownBy w' (some r) → w'.heap.size = w.heap.size →
      (Instr.entry (.pointer (some ⟨r, 0, none⟩))).run P w' = .ok (.tuple #[.int .i64 x, .int .i64 (val x)]) w' → wpList P ops Q rest (A.put o.dst (.tuple #[.bool true, .int .i64 x, .int .i64 (val x)])) w') : wpList P ops Q (o :: rest) A w := by
  obtain ⟨D, left, h1, h2, hval⟩ := h
  refine wpList_next_ranges_ii w hgd it hop k e .i64 .i64 K hk he b r n D left cnt hit h1 (fun h0 hl => hDone (Lib.hid fun x hx hin => ?_)) (fun x c w' cnt' hwx hwc hlk hat hrg hlt hgr hsz hen => ?_)
  · have := h2 x (wfI hx)
    rw [hl, hin] at this
    cases hs : inL seen x
    · rw [hs] at this; simp at this
    · rfl
  · have fit_of : ∀ z : Int, (Lit.int .i64 z).wf = true → fitI z := fun z hz => by
      simp only [Lit.wf, decide_eq_true_eq, Bool.and_eq_true] at hz
      exact hz
    have h3 := h2 x hwx
    rw [hlk] at h3
    have h4 : inL keys x = true := by
      cases hl : inL keys x
      · rw [hl] at h3; simp at h3
      · rfl
    have h5 : inL seen x = false := by
      cases hl : inL seen x
      · rfl
      · rw [hl, h4] at h3; simp at h3
    obtain rfl : c = val x := by
      have := (hat (.lit (.int .i64 0))).symm.trans (hval x hwx h4 _)
      simpa using this
    refine hMore x w' cnt' (fit_of x hwx) (fit_of _ hwc) h4 h5 ⟨D, _, hrg, fun z hz => ?_, hval⟩ hlt hgr hsz hen
    rw [inL_snoc, h2 z hz]
    by_cases hzx : z = x
    · subst hzx
      rw [if_pos rfl, WideAt.sameKey_self (K.key (Maps.keyOf_int_mk hk hwx))]
      simp
    · have hne : (Lit.int .i64 z) ≠ .int .i64 x := fun h => hzx (by injection h)
      rw [if_neg hzx, Maps.sameKey_ne hne]
      simp

variable {l : List Int}
/-- .. each once. -/
theorem wpList_setNext1 (h : RangeB P k e w b r n l seen cnt) (K : Keyed P k) (hk : P.underlying k = some (.int .i64)) (he : P.underlying e = some .bool) (hgd : o.guard = none) (it : Operand) (hop : o.op = Op.next it false) (hit : A.eval it = .pointer (some ⟨r, 0, none⟩))
    (hDone : Hid (∀ x : Int, fitI x → inL l x = true → inL seen x = true) → wpList P ops Q rest (A.put o.dst (.tuple #[.bool false])) w)
    (hMore : ∀ (x : Int) (c : Bool) (w' : World) (cnt' : Nat), fitI x → inL l x = true → inL seen x = false → RangeB P k e w' b r n l (seen ++ [x]) cnt' → cnt' < cnt → w.grownBy w' (some r) → w'.heap.size = w.heap.size →
      (Instr.entry (.pointer (some ⟨r, 0, none⟩))).run P w' = .ok (.tuple #[.int .i64 x, .bool c]) w' → wpList P ops Q rest (A.put o.dst (.tuple #[.bool true, .int .i64 x, .bool c])) w') : wpList P ops Q (o :: rest) A w := by
  obtain ⟨D, left, h1, h2⟩ := h
  refine wpList_next_ranges w hgd it hop k K (plainElem P e) (Value.int .i64) Value.bool (fun key kl hkey => by obtain ⟨x, rfl, _⟩ := Maps.keyOf_int_inv hk hkey; exact ⟨x, rfl⟩)
    (fun v y hv => by
      unfold plainElem at hv
      rw [he] at hv
      cases v <;> simp at hv
      exact ⟨_, rfl⟩) b r n D left cnt hit h1 (fun h0 hl => hDone (Lib.hid fun x hx hin => ?_)) (fun x c kl y w' cnt' hkey hlk hv hat hrg hlt hgr hsz hen => ?_)
  · have := h2 x (wfI hx)
    rw [hl, hin] at this
    cases hs : inL seen x
    · rw [hs] at this; simp at this
    · rfl
  · obtain ⟨x', ex, rfl, hwx⟩ := Maps.keyOf_int_inv hk hkey
    cases ex
    have hfx : fitI x := by
      simp only [Lit.wf, decide_eq_true_eq, Bool.and_eq_true] at hwx
      exact hwx
    have h3 := h2 x hwx
    rw [hlk] at h3
    have h4 : inL l x = true := by
      cases hl : inL l x
      · rw [hl] at h3; simp at h3
      · rfl
    have h5 : inL seen x = false := by
      cases hl : inL seen x
      · rfl
      · rw [hl, h4] at h3; simp at h3
    refine hMore x c w' cnt' hfx h4 h5 ⟨D, _, hrg, fun z hz => ?_⟩ hlt hgr hsz hen
    rw [inL_snoc, h2 z hz]
    by_cases hzx : z = x
    · subst hzx
      rw [if_pos rfl, WideAt.sameKey_self (K.key hkey)]
      simp
    · have hne : (Lit.int .i64 z) ≠ .int .i64 x := fun h => hzx (by injection h)
      rw [if_neg hzx, Maps.sameKey_ne hne]
      simp

end
end Go.Proofs.Ytnihccinpbpllaa

/- None is taken twice, in plain words; no program is in sight. -/
namespace Go.Proofs.Ytnihccinpbpllaa
open Go.RowKit

theorem Eight.get_of (f : Nat → Bool) {j : Nat} (h : j < 8) : (Eight.of f).get j = f j := by
  match j, h with
  | 0, _ => rfl
  | 1, _ => rfl
  | 2, _ => rfl
  | 3, _ => rfl
  | 4, _ => rfl
  | 5, _ => rfl
  | 6, _ => rfl
  | 7, _ => rfl

/-- Whatever was had is marked, or too old to be marked. -/
def OnceInv (good : Bool) (high : Int) (e : Eight) (f : Lit → Bool) : Prop :=
  ∀ x : Int, f (.int .i64 x) = true → good = true ∧ 1 ≤ x ∧ x ≤ high ∧ (high - 8 < x → e.get (high - x).toNat = true)

theorem sameKey_int (x y : Int) : (Lit.int .i64 x).sameKey (.int .i64 y) = (x == y) := by
  simp only [Lit.sameKey]
  by_cases h : x = y <;> simp [h]

theorem lineOk_take {next high high' : Int} {sent : List Sent} {e e' : Eight} (h0 : 0 ≤ high) (h1 : high ≤ 1099511627776) (h2 : 0 ≤ high') (h3 : high' ≤ 1099511627776) : lineOk ⟨next, sent, high', e'⟩ = lineOk ⟨next, sent, high, e⟩ := by
  unfold lineOk headOk
  simp only [h0, h1, h2, h3, true_and]

theorem once_step {good : Bool} {next high : Int} {sent : List Sent} {e : Eight} {f : Lit → Bool} (hg : lineOk ⟨next, sent, high, e⟩ = good) (hI : OnceInv good high e f) {s : Int} (s1 : 1 ≤ s) (s2 : s ≤ 60) {r : Int × Eight × Int} (hr : takeC good high s e = r) :
    lineOk ⟨next, sent, r.1, r.2.1⟩ = good ∧
    ((r.2.2 = 0 ∧ f (.int .i64 s) = false ∧ s ≤ r.1 ∧ OnceInv good r.1 r.2.1 (fun l => if l.sameKey (.int .i64 s) then true else f l)) ∨
     (r.1 = high ∧ r.2.1 = e ∧ (f (.int .i64 s) = false ∧ r.2.2 ≠ 0 ∨ f (.int .i64 s) = true ∧ r.2.2 = 10 ∨ f (.int .i64 s) = true ∧ r.2.2 = 11))) := by
  unfold takeC at hr
  have hf : ∀ b, f (.int .i64 s) = b → b = true → good = true ∧ 1 ≤ s ∧ s ≤ high ∧ (high - 8 < s → e.get (high - s).toNat = true) := fun b h1 h2 => hI s (h1.trans h2)
  by_cases c0 : good = false ∨ s < 1 ∨ 1099511627776 < s
  · rw [if_pos c0] at hr
    subst hr
    refine ⟨hg, .inr ⟨rfl, rfl, .inl ⟨?_, by simp⟩⟩⟩
    have : good = false := by
      rcases c0 with h | h | h
      · exact h
      · omega
      · omega
    cases h : f (.int .i64 s)
    · rfl
    · have := (hf true h rfl).1
      simp_all
  · rw [if_neg c0] at hr
    have hgt : good = true := by
      cases good
      · exact absurd (Or.inl rfl) c0
      · rfl
    subst hgt
    obtain ⟨_, _, b1, b2, _⟩ := lineOk_high hg
    by_cases c1 : s ≤ high - 8
    · rw [if_pos c1] at hr
      subst hr
      refine ⟨hg, .inr ⟨rfl, rfl, ?_⟩⟩
      cases h : f (.int .i64 s)
      · exact .inl ⟨rfl, by simp⟩
      · exact .inr (.inr ⟨rfl, rfl⟩)
    · rw [if_neg c1] at hr
      by_cases c2 : s ≤ high
      · rw [if_pos c2] at hr
        by_cases c3 : e.get (high - s).toNat = true
        · rw [if_pos c3] at hr
          subst hr
          refine ⟨hg, .inr ⟨rfl, rfl, ?_⟩⟩
          cases h : f (.int .i64 s)
          · exact .inl ⟨rfl, by simp⟩
          · exact .inr (.inl ⟨rfl, rfl⟩)
        · rw [if_neg c3] at hr
          subst hr
          have hfs : f (.int .i64 s) = false := by
            cases h : f (.int .i64 s)
            · rfl
            · exact absurd ((hf true h rfl).2.2.2 (by omega)) c3
          refine ⟨(lineOk_take b1 b2 b1 b2).trans hg, .inl ⟨rfl, hfs, c2, fun x hx => ?_⟩⟩
          replace hx : (if (Lit.int .i64 x).sameKey (.int .i64 s) = true then true else f (.int .i64 x)) = true := hx
          rw [sameKey_int] at hx
          show true = true ∧ 1 ≤ x ∧ x ≤ high ∧ (high - 8 < x → (Eight.of _).get (high - x).toNat = true)
          by_cases hxs : x = s
          · subst hxs
            refine ⟨rfl, s1, c2, fun h => ?_⟩
            rw [Eight.get_of _ (by omega), if_pos rfl]
          · rw [if_neg (by simpa using hxs)] at hx
            obtain ⟨_, h1, h2, h3⟩ := hI x hx
            refine ⟨rfl, h1, h2, fun h => ?_⟩
            rw [Eight.get_of _ (by omega), h3 h]
            simp
      · rw [if_neg c2] at hr
        subst hr
        have hfs : f (.int .i64 s) = false := by
          cases h : f (.int .i64 s)
          · rfl
          · exact absurd (hf true h rfl).2.2.1 c2
        refine ⟨(lineOk_take b1 b2 (by show 0 ≤ s; omega) (by show s ≤ _; omega)).trans hg, .inl ⟨rfl, hfs, Int.le_refl _, fun x hx => ?_⟩⟩
        replace hx : (if (Lit.int .i64 x).sameKey (.int .i64 s) = true then true else f (.int .i64 x)) = true := hx
        rw [sameKey_int] at hx
        show true = true ∧ 1 ≤ x ∧ x ≤ s ∧ (s - 8 < x → (Eight.of _).get (s - x).toNat = true)
        by_cases hxs : x = s
        · subst hxs
          refine ⟨rfl, s1, Int.le_refl _, fun h => ?_⟩
          rw [Eight.get_of _ (by omega), if_pos (by omega)]
        · rw [if_neg (by simpa using hxs)] at hx
          obtain ⟨_, h1, h2, h3⟩ := hI x hx
          refine ⟨rfl, h1, by omega, fun h => ?_⟩
          rw [Eight.get_of _ (by omega), if_neg (by omega), if_pos (by omega)]
          rw [show (s - x).toNat - (s - high).toNat = (high - x).toNat by omega]
          exact h3 (by omega)

end Go.Proofs.Ytnihccinpbpllaa

/- The first eight numbers in whatever order, in plain words; slices of slices. No program is in sight. -/
namespace Go.Proofs.Ytnihccinpbpllaa
open Go.RowKit

structure TurnInv (left : List Int) (high : Int) (e : Eight) : Prop where
  nd : left.Nodup
  rng : ∀ x ∈ left, 1 ≤ x ∧ x ≤ 8
  lo : 0 ≤ high
  hi : high ≤ 8
  yes : ∀ x, 1 ≤ x → x ≤ 8 → x ∉ left → x ≤ high ∧ e.get (high - x).toNat = true
  no : ∀ x ∈ left, x ≤ high → e.get (high - x).toNat = false

theorem TurnInv.start : TurnInv [1, 2, 3, 4, 5, 6, 7, 8] 0 ⟨false, false, false, false, false, false, false, false⟩ := by
  refine ⟨by decide, by decide, by decide, by decide, fun x h1 h2 h3 => ?_, fun x h1 h2 => ?_⟩
  · exfalso
    apply h3
    rcases (show x = 1 ∨ x = 2 ∨ x = 3 ∨ x = 4 ∨ x = 5 ∨ x = 6 ∨ x = 7 ∨ x = 8 by omega) with rfl | rfl | rfl | rfl | rfl | rfl | rfl | rfl <;> decide
  · have : ∀ x ∈ [1, 2, 3, 4, 5, 6, 7, (8 : Int)], 1 ≤ x := by decide
    have := this x h1
    omega

theorem lineOk_none {high : Int} {e : Eight} (h0 : 0 ≤ high) (h1 : high ≤ 8) : lineOk ⟨0, [], high, e⟩ = true := by
  unfold lineOk headOk
  simp only [List.length_nil]
  rw [if_pos (by simp; omega)]
  rfl

theorem mem_erase {l : List Int} (hn : l.Nodup) {k : Nat} (hk : k < l.length) (y : Int) : y ∈ l.take k ++ l.drop (k + 1) ↔ y ∈ l ∧ y ≠ l[k] := by
  have e : l = l.take k ++ l[k] :: l.drop (k + 1) := by rw [List.getElem_cons_drop, List.take_append_drop]
  have hn' := hn
  rw [e] at hn'
  rw [List.nodup_append, List.nodup_cons] at hn'
  obtain ⟨h1, ⟨h2, h3⟩, h4⟩ := hn'
  constructor
  · intro h
    rw [List.mem_append] at h
    rcases h with h | h
    · exact ⟨List.mem_of_mem_take h, fun e => h4 y h l[k] (List.mem_cons_self ..) e⟩
    · exact ⟨List.mem_of_mem_drop h, fun e => h2 (e ▸ h)⟩
  · rintro ⟨h, hne⟩
    rw [e, List.mem_append, List.mem_cons] at h
    rw [List.mem_append]
    rcases h with h | h | h
    · exact .inl h
    · exact absurd h hne
    · exact .inr h

theorem turn_step {left : List Int} {high : Int} {e : Eight} (hI : TurnInv left high e) {k : Nat} (hk : k < left.length) : ∃ (h' : Int) (e' : Eight), takeC true high left[k] e = (h', e', 0) ∧ takeC true h' left[k] e' = (h', e', 10) ∧ TurnInv (left.take k ++ left.drop (k + 1)) h' e' := by
  have hm : left[k] ∈ left := List.getElem_mem hk
  obtain ⟨x1, x2⟩ := hI.rng _ hm
  have hno := hI.no _ hm
  have hlo := hI.lo
  have hhi := hI.hi
  have hmem := mem_erase hI.nd hk
  have hnd : (left.take k ++ left.drop (k + 1)).Nodup := by
    have := hI.nd
    rw [← List.eraseIdx_eq_take_drop_succ]
    exact this.sublist (List.eraseIdx_sublist ..)
  generalize left[k] = x at hm x1 x2 hno hmem
  by_cases c2 : x ≤ high
  · refine ⟨high, e.yes (high - x).toNat, ?_, ?_, hnd, fun y hy => hI.rng y ((hmem y).1 hy).1, hlo, hhi, fun y y1 y2 hy => ?_, fun y hy hyh => ?_⟩
    · unfold takeC
      rw [if_neg (by simp; omega), if_neg (by omega), if_pos c2, if_neg (by rw [hno c2]; simp)]
    · unfold takeC
      rw [if_neg (by simp; omega), if_neg (by omega), if_pos c2, if_pos (by show (Eight.of _).get _ = true; rw [Eight.get_of _ (by omega), if_pos rfl])]
    · by_cases hxy : y = x
      · subst hxy
        exact ⟨c2, by show (Eight.of _).get _ = true; rw [Eight.get_of _ (by omega), if_pos rfl]⟩
      · obtain ⟨h1, h2⟩ := hI.yes y y1 y2 fun h => hy ((hmem y).2 ⟨h, hxy⟩)
        refine ⟨h1, ?_⟩
        show (Eight.of _).get _ = true
        rw [Eight.get_of _ (by omega), h2]
        simp
    · obtain ⟨hyl, hne⟩ := (hmem y).1 hy
      show (Eight.of _).get _ = false
      have := hI.rng y hyl
      rw [Eight.get_of _ (by omega), if_neg (by omega)]
      exact hI.no y hyl hyh
  · refine ⟨x, Eight.of fun j => if j = 0 then true else if x - high ≤ j then e.get (j - (x - high).toNat) else false, ?_, ?_, hnd, fun y hy => hI.rng y ((hmem y).1 hy).1, by omega, x2, fun y y1 y2 hy => ?_, fun y hy hyh => ?_⟩
    · unfold takeC
      rw [if_neg (by simp; omega), if_neg (by omega), if_neg c2]
    · unfold takeC
      rw [if_neg (by simp; omega), if_neg (by omega), if_pos (Int.le_refl _), if_pos (by rw [Eight.get_of _ (by omega), if_pos (by omega)])]
    · by_cases hxy : y = x
      · subst hxy
        exact ⟨Int.le_refl _, by rw [Eight.get_of _ (by omega), if_pos (by omega)]⟩
      · obtain ⟨h1, h2⟩ := hI.yes y y1 y2 fun h => hy ((hmem y).2 ⟨h, hxy⟩)
        refine ⟨by omega, ?_⟩
        rw [Eight.get_of _ (by omega), if_neg (by omega), if_pos (by omega), show (x - y).toNat - (x - high).toNat = (high - y).toNat by omega]
        exact h2
    · obtain ⟨hyl, hne⟩ := (hmem y).1 hy
      have := hI.rng y hyl
      rw [Eight.get_of _ (by omega), if_neg (by omega)]
      by_cases c : x - high ≤ ((x - y).toNat : Int)
      · rw [if_pos c, show (x - y).toNat - (x - high).toNat = (high - y).toNat by omega]
        exact hI.no y hyl (by omega)
      · rw [if_neg c]

theorem TurnInv.done {high : Int} {e : Eight} (h : TurnInv [] high e) : high = 8 := by
  have := (h.yes 8 (by omega) (by omega) (by simp)).1
  have := h.hi
  omega

theorem SlR.take {ok : Nat → Prop} {w : World} {α : Type} {sz : Nat} {R : List Value → α → Prop} {a : Option Addr} {c : Nat} {xs : List α} (h : SlR ok w sz R a c xs) (k : Nat) : SlR ok w sz R a c (xs.take k) := by
  refine ⟨Nat.le_trans (by simp; omega) h.1, h.2.1, h.2.2.1, fun i x hx => h.2.2.2 i x ?_⟩
  rw [List.getElem?_take] at hx
  split at hx
  · exact hx
  · cases hx

theorem SlR.drop {ok : Nat → Prop} {w : World} {α : Type} {sz : Nat} {R : List Value → α → Prop} {b o c : Nat} {xs : List α} (h : SlR ok w sz R (some ⟨b, o, none⟩) c xs) (k : Nat) : SlR ok w sz R (some ⟨b, o + k * sz, none⟩) (c - k) (xs.drop k) := by
  refine ⟨by have := h.1; simp; omega, by have := h.2.1; omega, by simp, fun i x hx => ?_⟩
  rw [List.getElem?_drop] at hx
  obtain ⟨b', o', cs, ha, h1, h2, h3, h4, h5, h6⟩ := h.2.2.2 (k + i) x hx
  simp at ha
  obtain ⟨rfl, rfl⟩ := ha
  refine ⟨b, o + k * sz, cs, rfl, h1, h2, h3, h4, h5, fun j v hv => ?_⟩
  rw [← h6 j v hv]
  congr 2
  rw [Nat.add_mul]
  omega

/-- A block of just these numbers, as a slice. -/
theorem slr_ints {w : World} {g : Nat} {T : TypeId} {xs : List Int} {ok : Nat → Prop} (h : w.heap[g]? = some (.cells (xs.map (Value.int .i64)).toArray T (0, 0))) (ho : ok g) (hm : xs.length ≤ maxLen := by decide) : SlR ok w 1 RInt (some ⟨g, 0, none⟩) xs.length xs := by
  refine ⟨Nat.le_refl _, hm, by simp, fun i x hx => ⟨g, 0, [.int .i64 x], rfl, ho, (Array.getElem?_eq_some_iff.1 h).1, rfl, rfl, by simp [Value.oneCell'], fun j v hv => ?_⟩⟩
  have hj := (List.getElem?_eq_some_iff.1 hv).1
  simp at hj
  subst hj
  simp at hv
  subst hv
  rw [cell_of_row w g _ _ T (0, 0) h]
  simp [hx]

end Go.Proofs.Ytnihccinpbpllaa

/- A row of the call's own that begins anywhere in its block: 'work = work[1:]', 'work = append(work, x)'. No program is in sight. -/
namespace Go.Proofs.Ytnihccinpbpllaa
open Go.RowKit

def Queue (base : Nat) (e : TypeId) (w : World) {α : Type} (sz : Nat) (R : List Value → α → Prop) (a : Option Addr) (c : Nat) (xs : List α) : Prop :=
  SlR (fun b => base ≤ b) w sz R a c xs ∧ (0 < c → ∃ g off cur, a = some ⟨g, off, none⟩ ∧ base ≤ g ∧ w.heap[g]? = some (.cells cur e (0, 0)) ∧ off + c * sz ≤ cur.size)

section
variable {base : Nat} {e : TypeId} {w w' : World} {α : Type} {sz : Nat} {R : List Value → α → Prop} {a : Option Addr} {c : Nat} {xs : List α}

theorem putL_at : ∀ {vs cs : List Value} {o j : Nat} {v : Value}, o + vs.length ≤ cs.length → vs[j]? = some v → (putL cs o vs)[o + j]? = some v := by
  intro vs
  induction vs with
  | nil => intro cs o j v _ h; simp at h
  | cons u vs ih =>
    intro cs o j v hl hj
    rw [putL_cons]
    cases j with
    | zero =>
      simp at hj
      subst hj
      simp only [List.length_cons] at hl
      rw [putL_before (by omega)]
      show (cs.set o u)[o]? = some u
      rw [List.getElem?_set_self (by omega)]
    | succ j =>
      have := ih (cs := cs.set o u) (o := o + 1) (j := j) (v := v) (by simp at hl ⊢; omega) (by simpa using hj)
      rw [← this]
      congr 1
      omega

theorem Queue.slr (h : Queue base e w sz R a c xs) : SlR (fun b => base ≤ b) w sz R a c xs := h.1

theorem Queue.move (h : Queue base e w sz R a c xs) (hs : w.heap.size ≤ w'.heap.size) (hk : ∀ b, base ≤ b → b < w.heap.size → w'.heap[b]? = w.heap[b]?) : Queue base e w' sz R a c xs := by
  refine ⟨h.1.keep ⟨hs, fun b hb ho => hk b ho hb⟩, fun hc => ?_⟩
  obtain ⟨g, off, cur, h1, h2, h3, h4⟩ := h.2 hc
  exact ⟨g, off, cur, h1, h2, by rw [hk g h2 (Array.getElem?_eq_some_iff.1 h3).1]; exact h3, h4⟩

theorem Queue.below (h : Queue base e w sz R a c xs) (hb : Below w.heap.size w w') : Queue base e w' sz R a c xs := h.move hb.size fun b _ hb' => hb.block b hb'

theorem Queue.ofBlk {g : Nat} {cs : List Value} {x : α} (h : w.heap[g]? = some (.cells cs.toArray e (0, 0))) (hR : R cs x) (hl : cs.length = sz) (h1 : cs.all Value.oneCell' = true) (hb : base ≤ g) : Queue base e w sz R (some ⟨g, 0, none⟩) 1 [x] :=
  ⟨SlR.ofBlk h hR hl h1 hb, fun _ => ⟨g, 0, cs.toArray, rfl, hb, h, by simp; omega⟩⟩

theorem Queue.ofOwn {b : Nat} (h : Own b e w sz R a c xs) (hb : base ≤ b) : Queue base e w sz R a c xs := by
  refine ⟨h.slr fun k hk => Nat.le_trans hb hk, fun hc => ?_⟩
  obtain ⟨css, _, _, _, h4⟩ := h
  rcases h4.2 with ⟨hv, _⟩ | ⟨g, cap, cur, hv, hg, hh, _, _, hs, _⟩
  · simp only [Value.slice.injEq] at hv
    omega
  · simp only [Value.slice.injEq] at hv
    obtain ⟨rfl, _, rfl⟩ := hv
    exact ⟨g, 0, cur, rfl, by omega, hh, by omega⟩

/-- 'l[1:]', where there is room behind. -/
theorem Queue.tail {g off : Nat} {x : α} (h : Queue base e w sz R (some ⟨g, off, none⟩) c (x :: xs)) : Queue base e w sz R (some ⟨g, off + sz, none⟩) (c - 1) xs := by
  refine ⟨by have := h.1.drop 1; simpa using this, fun hc => ?_⟩
  obtain ⟨g', off', cur, h1, h2, h3, h4⟩ := h.2 (by omega)
  simp only [Option.some.injEq, Addr.mk.injEq, and_true] at h1
  obtain ⟨rfl, rfl⟩ := h1
  refine ⟨g, off + sz, cur, rfl, h2, h3, ?_⟩
  have : c * sz = sz + (c - 1) * sz := by
    obtain ⟨k, rfl⟩ : ∃ k, c = k + 1 := ⟨c - 1, by omega⟩
    rw [Nat.add_sub_cancel, Nat.add_mul]; omega
  omega

/-- .. where there is none. -/
theorem Queue.none_left (a : Option Addr) : Queue base e w sz R a 0 ([] : List α) :=
  ⟨⟨Nat.le_refl _, Nat.zero_le _, fun _ => rfl, fun i x hx => by simp at hx⟩, fun h => absurd h (Nat.lt_irrefl 0)⟩

end

theorem wp_appQ {P : Program} {w : World} {o : Oper} {A : Act} {Q : Exit → Act → World → Prop} {K : Act → World → Prop} (s x : Operand) (t : TypeId)
    (ho : o.op = .call { callee := .builtin .append, args := #[s, x], argTypes := #[t, t] })
    (e : TypeId) (i : TypeInfo) (z : Value) (sz bytes : Nat) (ht : P.underlying t = some (.slice e)) (hi : P.info? e = some i) (hz : i.zero = some z) (hsize : i.size = sz) (hby : i.bytes = bytes) (hzs : z.cells.size = sz) (hsz : 0 < sz)
    {α : Type} {R : List Value → α → Prop} {base : Nat} {ok : Nat → Prop} {a : Option Addr} {c n : Nat} {xs : List α} (hs : A.eval s = .slice a n c) (hn : n = xs.length) (hO : Queue base e w sz R a c xs)
    {b : Option Addr} {d : Nat} {y : α} (hx : A.eval x = .slice b 1 d) (hR : SlR ok w sz R b d [y]) (hl : (xs.length + 1) * bytes ≤ 140737488355328) (h63 : xs.length + 1 ≤ maxLen) (hbase : base ≤ w.heap.size)
    (h : ∀ a' c' w' row, Queue base e w' sz R a' c' (xs ++ [y]) → w.grownBy w' row → (∀ k, row = some k → base ≤ k) → K (A.put o.dst (.slice a' (n + 1) c')) w') : Oper.wp P o A w K Q := by
  subst hn
  obtain ⟨hS, hsp⟩ := hO
  obtain ⟨css, g1, g2, g3, g4⟩ := hS.all
  obtain ⟨dss, f1, f2, f3, f4⟩ := hR.all
  match dss, f1 with
  | [ds], _ =>
    have hds := f2 ds (by simp)
    obtain ⟨b0, o0, rfl, _, _, hc⟩ := f4 0 ds rfl
    have hnews : ∀ (j : Nat) (u : Value), ds[j]? = some u → w.cell? ((⟨b0, o0, none⟩ : Addr).add j) = some u := fun j u hj => by
      rw [Addr.add_lit, ← hc j u hj]
      congr 2
      omega
    by_cases hr : xs.length + 1 ≤ c
    · obtain ⟨g, off, cur, rfl, k1, k2, k3⟩ := hsp (by omega)
      subst hsize
      have hmul : (xs.length + 1) * i.size ≤ c * i.size := Nat.mul_le_mul_right _ hr
      have hadd : (xs.length + 1) * i.size = xs.length * i.size + i.size := by rw [Nat.add_mul, Nat.one_mul]
      have k2' : w.heap[g]? = some (.cells cur.toList.toArray e (0, 0)) := by simpa using k2
      have hcs : cur.toList.length = cur.size := by simp
      have hrun := run_append_room_cells (P := P) w t o.type e i ht hi g off xs.length c ⟨b0, o0, none⟩ 1 d ds (by rw [hds.1]; omega) hnews hds.2 hr
        (fun j hj => by rw [cell_of_row w g _ cur e (0, 0) k2]; simp; have := hds.1; omega) (fun j hj => by simp [World.frozen?, k2])
      obtain ⟨a1, a2, a3, a4, a5, a6⟩ := setCells_block (w := w) ds (off + xs.length * i.size) cur.toList k2'
      unfold Oper.wp
      simp [execOp, ho, resolve, invoke, builtin, hs, hx, hrun, Result.andThen]
      refine h _ _ _ (some g) ⟨⟨by simp; omega, hS.2.1, by simp, fun j u hj => ?_⟩, fun _ => ⟨g, off, _, rfl, k1, a1, by simp [putL_length]; omega⟩⟩ ⟨a4, a5, a6, by rw [a3]; exact Nat.le_refl _, fun k _ hk => a2 k fun he => hk (by rw [he])⟩ (fun k hk => by simp at hk; omega)
      have hg : g < w.heap.size := (Array.getElem?_eq_some_iff.1 k2).1
      by_cases hj' : j < xs.length
      · rw [List.getElem?_append_left hj'] at hj
        obtain ⟨g', o', cs, ha, h1, h2, h3, h4, h5, h6⟩ := hS.2.2.2 j u hj
        simp only [Option.some.injEq, Addr.mk.injEq, and_true] at ha
        obtain ⟨rfl, rfl⟩ := ha
        refine ⟨g, off, cs, rfl, h1, by rw [a3]; exact hg, h3, h4, h5, fun q v hv => ?_⟩
        have hq : q < i.size := by rw [← h4]; exact (List.getElem?_eq_some_iff.1 hv).1
        have hle : (j + 1) * i.size ≤ xs.length * i.size := Nat.mul_le_mul_right _ hj'
        rw [Nat.add_mul, Nat.one_mul] at hle
        rw [cell_of_row _ g _ _ e (0, 0) a1]
        simp only [List.getElem?_toArray]
        rw [putL_before (by omega)]
        have := h6 q v hv
        rw [cell_of_row w g _ cur e (0, 0) k2] at this
        simpa using this
      · have hjx : j = xs.length := by
          have := (List.getElem?_eq_some_iff.1 hj).1
          simp at this
          omega
        subst hjx
        simp at hj
        subst hj
        refine ⟨g, off, ds, rfl, k1, by rw [a3]; exact hg, f3 0 y ds rfl rfl, hds.1, hds.2, fun q v hv => ?_⟩
        rw [cell_of_row _ g _ _ e (0, 0) a1]
        simp only [List.getElem?_toArray]
        exact putL_at (by rw [hds.1, hcs]; omega) hv
    · have key : ∀ v' w', w'.ownsRow w.heap.size e sz v' (xs.length + 1) (css.flatten ++ ds) → w.grownBy w' none → K (A.put o.dst v') w' := by
        intro v' w' hown hgr
        have hO : ∀ a' c', v' = .slice a' (xs.length + 1) c' → Own w.heap.size e w' sz R a' c' (xs ++ [y]) := by
          rintro a' c' rfl
          refine ⟨css ++ [ds], by simp [g1], ?_, ?_, by simpa using hown⟩
          · intro cs hcs
            rcases List.mem_append.1 hcs with hcs | hcs
            · exact g2 cs hcs
            · simp at hcs; subst hcs; exact hds
          · intro i x cs hx hc
            by_cases hi : i < xs.length
            · rw [List.getElem?_append_left hi] at hx
              rw [List.getElem?_append_left (by omega)] at hc
              exact g3 i x cs hx hc
            · rw [List.getElem?_append_right (by omega)] at hx
              rw [List.getElem?_append_right (by omega), g1] at hc
              exact f3 _ x cs hx hc
        obtain ⟨hlen, ⟨rfl, h0⟩ | ⟨g, cap, cur, rfl, _⟩⟩ := hown
        · omega
        · exact h _ _ w' none (Queue.ofOwn (hO _ _ rfl) hbase) hgr (by simp)
      cases a with
      | some ad =>
        have hfl : css.flatten.length = xs.length * sz := by rw [flatten_length fun cs h => (g2 cs h).1, g1]
        obtain ⟨v', w', hrun, r1, r2⟩ := run_append_arg_grows (P := P) w t o.type e i z sz bytes ht hi hz hsize hby hzs hsz ad xs.length c css.flatten hfl (fun j u hj => by
          obtain ⟨p, q, cs, rfl, hq, hp, hv⟩ := flatten_inv (fun cs h => (g2 cs h).1) hj
          obtain ⟨b, o, ha, _, _, hc⟩ := g4 p cs hp
          simp only [Option.some.injEq] at ha
          subst ha
          rw [Addr.add_lit, ← hc q u hv]
          congr 2
          omega) ⟨b0, o0, none⟩ 1 d ds (by rw [hds.1]; omega) hnews (by omega) h63 hl
        unfold Oper.wp
        simp [execOp, ho, resolve, invoke, builtin, hs, hx, hrun, Result.andThen]
        exact key v' w' r1 r2
      | none =>
        have hc0 := hS.2.2.1 rfl
        have hx0 : xs = [] := List.eq_nil_of_length_eq_zero (by have := hS.1; omega)
        subst hc0
        subst hx0
        have hcss : css = [] := List.eq_nil_of_length_eq_zero (by simpa using g1)
        subst hcss
        obtain ⟨v', w', hrun, r1, r2, _⟩ := run_append_own (P := P) w w.heap.size t o.type e i z sz bytes ht hi hz hsize hby hzs hsz (.slice none 0 0) 0 [] (World.ownsRow_nil w _ e sz) ⟨b0, o0, none⟩ 1 d ds (by rw [hds.1]; omega) hnews hds.2 h63 hl (Nat.le_refl _)
        unfold Oper.wp
        simp only [List.length_nil] at hs
        simp [execOp, ho, resolve, invoke, builtin, hs, hx, hrun, Result.andThen]
        exact key v' w' (by simpa using r1) r2

theorem wpList_appQ {P : Program} {w : World} {ops : Array Oper} {rest : List Oper} {o : Oper} {A : Act} {Q : Exit → Act → World → Prop} (hgd : Region.wanted o (yielded ops A.tmps) = true) (s x : Operand) (t : TypeId)
    (ho : o.op = .call { callee := .builtin .append, args := #[s, x], argTypes := #[t, t] })
    (e : TypeId) (i : TypeInfo) (z : Value) (sz bytes : Nat) (ht : P.underlying t = some (.slice e)) (hi : P.info? e = some i) (hz : i.zero = some z) (hsize : i.size = sz) (hby : i.bytes = bytes) (hzs : z.cells.size = sz) (hsz : 0 < sz)
    {α : Type} {R : List Value → α → Prop} {base : Nat} {ok : Nat → Prop} {a : Option Addr} {c n : Nat} {xs : List α} (hs : A.eval s = .slice a n c) (hn : n = xs.length) (hO : Queue base e w sz R a c xs)
    {b : Option Addr} {d : Nat} {y : α} (hx : A.eval x = .slice b 1 d) (hR : SlR ok w sz R b d [y]) (hl : (xs.length + 1) * bytes ≤ 140737488355328) (h63 : xs.length + 1 ≤ maxLen) (hbase : base ≤ w.heap.size)
    (h : ∀ a' c' w' row, Queue base e w' sz R a' c' (xs ++ [y]) → w.grownBy w' row → (∀ k, row = some k → base ≤ k) → wpList P ops Q rest (A.put o.dst (.slice a' (n + 1) c')) w') : wpList P ops Q (o :: rest) A w :=
  wpList_wanted hgd fun _ hK => wp_appQ s x t ho e i z sz bytes ht hi hz hsize hby hzs hsz hs hn hO hx hR hl h63 hbase fun a' c' w' row h1 h2 h3 => hK _ _ (h a' c' w' row h1 h2 h3)

end Go.Proofs.Ytnihccinpbpllaa

/- 'append(xs, ys...)' where there is no room behind xs: a new block. No program is in sight. -/
namespace Go.Proofs.Ytnihccinpbpllaa
open Go.RowKit

theorem wp_appFull {P : Program} {w : World} {o : Oper} {A : Act} {Q : Exit → Act → World → Prop} {K : Act → World → Prop} (s x : Operand) (t : TypeId)
    (ho : o.op = .call { callee := .builtin .append, args := #[s, x], argTypes := #[t, t] })
    (e : TypeId) (i : TypeInfo) (z : Value) (sz bytes : Nat) (ht : P.underlying t = some (.slice e)) (hi : P.info? e = some i) (hz : i.zero = some z) (hsize : i.size = sz) (hby : i.bytes = bytes) (hzs : z.cells.size = sz) (hsz : 0 < sz)
    {α : Type} {R : List Value → α → Prop} {ok ok' : Nat → Prop} {a : Option Addr} {c n : Nat} {xs : List α} (hs : A.eval s = .slice a n c) (hn : n = xs.length) (hS : SlR ok w sz R a c xs)
    {b : Option Addr} {m d : Nat} {ys : List α} (hx : A.eval x = .slice b m d) (hm : m = ys.length) (hR : SlR ok' w sz R b d ys) (hroom : c < xs.length + ys.length) (hl : (xs.length + ys.length) * bytes ≤ 140737488355328) (h63 : xs.length + ys.length ≤ maxLen)
    (h : ∀ a' c' w', Own w.heap.size e w' sz R (some ⟨a', 0, none⟩) c' (xs ++ ys) → Below w.heap.size w w' → K (A.put o.dst (.slice (some ⟨a', 0, none⟩) (n + m) c')) w') : Oper.wp P o A w K Q := by
  subst hn hm
  obtain ⟨css, g1, g2, g3, g4⟩ := hS.all
  obtain ⟨dss, f1, f2, f3, f4⟩ := hR.all
  have hcx := hS.1
  have hy0 : 0 < ys.length := by omega
  have hfl : css.flatten.length = xs.length * sz := by rw [flatten_length fun cs h => (g2 cs h).1, g1]
  have hfy : dss.flatten.length = ys.length * sz := by rw [flatten_length fun cs h => (f2 cs h).1, f1]
  obtain ⟨b0, o0, rfl, _, _, _⟩ := f4 0 (dss[0]'(by omega)) (by simp)
  have hnews : ∀ (j : Nat) (u : Value), dss.flatten[j]? = some u → w.cell? ((⟨b0, o0, none⟩ : Addr).add j) = some u := fun j u hj => by
    obtain ⟨p, q, cs, rfl, hq, hp, hv⟩ := flatten_inv (fun cs h => (f2 cs h).1) hj
    obtain ⟨b, o, ha, _, _, hc⟩ := f4 p cs hp
    simp only [Option.some.injEq, Addr.mk.injEq, and_true] at ha
    obtain ⟨rfl, rfl⟩ := ha
    rw [Addr.add_lit, ← hc q u hv]
    congr 2
    omega
  have key : ∀ v' w', w'.ownsRow w.heap.size e sz v' (xs.length + ys.length) (css.flatten ++ dss.flatten) → w.grownBy w' none → K (A.put o.dst v') w' := by
    intro v' w' hown hgr
    have hO : ∀ a' c', v' = .slice a' (xs.length + ys.length) c' → Own w.heap.size e w' sz R a' c' (xs ++ ys) := by
      rintro a' c' rfl
      refine ⟨css ++ dss, by simp [g1, f1], ?_, ?_, by simpa using hown⟩
      · intro cs hcs
        rcases List.mem_append.1 hcs with hcs | hcs
        · exact g2 cs hcs
        · exact f2 cs hcs
      · intro i x cs hx hc
        by_cases hi : i < xs.length
        · rw [List.getElem?_append_left hi] at hx
          rw [List.getElem?_append_left (by omega)] at hc
          exact g3 i x cs hx hc
        · rw [List.getElem?_append_right (by omega)] at hx
          rw [List.getElem?_append_right (by omega), g1] at hc
          exact f3 _ x cs hx hc
    obtain ⟨hlen, ⟨rfl, h0⟩ | ⟨g, cap, cur, rfl, _⟩⟩ := hown
    · omega
    · exact h _ _ w' (hO _ _ rfl) ⟨hgr.os, hgr.tape, hgr.output, hgr.size, fun q hq => hgr.block q hq (by simp)⟩
  cases a with
  | some ad =>
    obtain ⟨v', w', hrun, r1, r2⟩ := run_append_arg_grows (P := P) w t o.type e i z sz bytes ht hi hz hsize hby hzs hsz ad xs.length c css.flatten hfl (fun j u hj => by
      obtain ⟨p, q, cs, rfl, hq, hp, hv⟩ := flatten_inv (fun cs h => (g2 cs h).1) hj
      obtain ⟨b, o, ha, _, _, hc⟩ := g4 p cs hp
      simp only [Option.some.injEq] at ha
      subst ha
      rw [Addr.add_lit, ← hc q u hv]
      congr 2
      omega) ⟨b0, o0, none⟩ ys.length d dss.flatten hfy hnews (by omega) h63 hl
    unfold Oper.wp
    simp [execOp, ho, resolve, invoke, builtin, hs, hx, hrun, Result.andThen]
    exact key v' w' r1 r2
  | none =>
    have hc0 := hS.2.2.1 rfl
    have hx0 : xs = [] := List.eq_nil_of_length_eq_zero (by omega)
    subst hc0
    subst hx0
    have hcss : css = [] := List.eq_nil_of_length_eq_zero (by simpa using g1)
    subst hcss
    obtain ⟨v', w', hrun, r1, r2, _⟩ := run_append_own (P := P) w w.heap.size t o.type e i z sz bytes ht hi hz hsize hby hzs hsz (.slice none 0 0) 0 [] (World.ownsRow_nil w _ e sz) ⟨b0, o0, none⟩ ys.length d dss.flatten hfy hnews (fun u hu => by
      obtain ⟨cs, hcs, huc⟩ := List.mem_flatten.1 hu
      exact (f2 cs hcs).2 u huc) (by simpa using h63) (by simpa using hl) (Nat.le_refl _)
    unfold Oper.wp
    simp only [List.length_nil] at hs
    simp [execOp, ho, resolve, invoke, builtin, hs, hx, hrun, Result.andThen]
    exact key v' w' (by simpa using r1) r2

end Go.Proofs.Ytnihccinpbpllaa

/- The walks through parcloseref.names, in, At. -/
namespace Go.Proofs.Ytnihccinpbpllaa
open Go.RowKit
open Go.Maps (Keyed IsMap int_keyed)

/-- A label among labels. -/
def RLabel (ok : Nat → Prop) (w : World) (cs : List Value) (x : List Lev) : Prop := ∃ la lc, cs = [.slice la x.length lc] ∧ SlR ok w 2 RLev la lc x

theorem RLabel.keep {ok : Nat → Prop} {w w' : World} (hk : Keeps ok w w') {cs : List Value} {x : List Lev} (h : RLabel ok w cs x) : RLabel ok w' cs x := by
  obtain ⟨la, lc, e, h1⟩ := h
  exact ⟨la, lc, e, h1.keep hk⟩

abbrev LabelsR (ok : Nat → Prop) (w : World) (a : Option Addr) (c : Nat) (ls : List (List Lev)) : Prop := SlR ok w 1 (RLabel ok w) a c ls

theorem LabelsR.below {ok : Nat → Prop} {w w' : World} {a : Option Addr} {c : Nat} {ls : List (List Lev)} (h : LabelsR ok w a c ls) (hb : Below w.heap.size w w') : LabelsR ok w' a c ls := h.mono (.of_below hb) fun _ _ => RLabel.keep (.of_below hb)

def namesL (ls : List (List Lev)) : List Int := ls.flatMap fun x => x.map (·.c)

theorem namesL_take {ls : List (List Lev)} {k : Nat} (h : k < ls.length) : namesL (ls.take (k + 1)) = namesL (ls.take k) ++ (ls[k].map (·.c)) := by
  unfold namesL
  rw [List.take_succ_eq_append_getElem h, List.flatMap_append]
  simp

set_option maxRecDepth 100000 in
set_option maxHeartbeats 3000000 in
theorem ref_names (ok : Nat → Prop) (w : World) (a : Option Addr) (c : Nat) (ls : List (List Lev)) (hfit : ∀ x ∈ ls, ∀ y ∈ x, fitI y.c) (hn : (namesL ls).length < maxLen) (hR : LabelsR ok w a c ls) :
    Calls Try.prog 31 #[.slice a ls.length c] w fun e w' => ∃ b, e = .returned (.map (some b)) ∧ w.heap.size ≤ b ∧ Below w.heap.size w w' ∧ SetB Try.prog 3 4 w' b (namesL ls).length (namesL ls) := by
  have hl : ls.length ≤ 9223372036854775807 := by have h1 := hR.1; have h2 := hR.2.1; unfold maxLen at h2; omega
  have HF := Lib.hid hfit
  clear hfit
  go_enter Try.func31, Try.ntmps31
  go_wp2_with (first | go_skip | (refine wpList_setMake 3 4 (wanted_none rfl) _ rfl ?_; intro bm w1 hbm hM hb1))
  go_loopw [11] (fun i wr => ∃ k : Nat, k ≤ ls.length ∧ i = .int .i64 k ∧ Below w.heap.size w wr ∧ SetB Try.prog 3 4 wr bm (namesL (ls.take k)).length (namesL (ls.take k))) (fun i _ => ls.length - (intOf i).toNat)
  case atStart => exact ⟨0, Nat.zero_le _, rfl, hb1, hM⟩
  case round =>
    clear hM hb1
    obtain ⟨k, hk, rfl, hB, hM⟩ := hrel
    by_cases hlt : k < ls.length
    · obtain ⟨b, o, cs, rfl, _, hb, ⟨la, lc, rfl, hL⟩, _, _, hc⟩ := hR.2.2.2 k ls[k] (by simp [hlt])
      have h1 : wr.cell? ⟨b, o + k, none⟩ = some (.slice la ls[k].length lc) := (hB.cell (p := ⟨b, o + k, none⟩) hb).trans (by simpa using hc 0 _ rfl)
      have hll : ls[k].length ≤ 9223372036854775807 := by have h1 := hL.1; have h2 := hL.2.1; unfold maxLen at h2; omega
      have HT := Lib.hid (namesL_take hlt)
      have HFk := Lib.hid (HF.out ls[k] (List.getElem_mem hlt))
      have hnk : (namesL (ls.take k)).length + ls[k].length ≤ (namesL ls).length := by
        have e : namesL ls = namesL (ls.take (k + 1)) ++ namesL (ls.drop (k + 1)) := by
          unfold namesL
          rw [← List.flatMap_append, List.take_append_drop]
        rw [e, HT.out]
        simp
      generalize namesL (ls.take k) = done at hM hnk HT
      generalize hx : ls[k] = x at hL h1 hll HFk hnk HT
      clear hx hc
      go_wp2
      go_loopw [17] (fun i wj => ∃ j : Nat, j ≤ x.length ∧ i = .int .i64 j ∧ Below w.heap.size w wj ∧ SetB Try.prog 3 4 wj bm (done.length + j) (done ++ (x.map (·.c)).take j)) (fun i _ => x.length - (intOf i).toNat)
      case atStart => exact ⟨0, Nat.zero_le _, rfl, hB, by simpa using hM⟩
      case round =>
        clear hM
        obtain ⟨j, hj, rfl, hBj, hM⟩ := hrel
        by_cases hlj : j < x.length
        · obtain ⟨b2, o2, rfl, hb2, h21, h22⟩ := (hL.below hBj).lev_at j hlj
          have hrow : ∀ (q : Nat) (v : Value), [Value.int .i64 x[j].c, .int .i64 x[j].l][q]? = some v → wr.cell? ⟨b2, o2 + j * 2 + q, none⟩ = some v := fun q v hq => by
            rcases q with _ | _ | q
            · simp at hq; subst hq; exact h21
            · simp at hq; subst hq; exact h22
            · simp at hq
          have hfj := HFk.out x[j] (List.getElem_mem hlj)
          have htk : (x.map (·.c)).take (j + 1) = (x.map (·.c)).take j ++ [x[j].c] := by
            rw [List.take_succ_eq_append_getElem (by simpa using hlj)]; simp
          have HTK := Lib.hid htk
          have hmm : done.length + j < maxLen := by omega
          clear htk h21 h22
          have st := St.start wr
          go_wp2_with (first
            | go_skip | (with_reducible refine at_load 43 ?_; refine wpList_load_cells (wanted_none rfl) 43 _ rfl Try.isAgg43 _ Try.sizeOf43 b2 (o2 + j * 2) rfl [.int .i64 x[j].c, .int .i64 x[j].l] rfl hrow ?_)
            | (with_reducible refine at_alloc 43 ?_; refine mem_alloc st (wanted_none rfl) 43 rfl _ Try.zeroValue43 _ rfl ?_; clear st; intro g5 w5 hg5 st hg5b; clear hg5b; simp [Act.eval, Act.put, Value.cells, putL] at st) | (with_reducible refine at_store 43 ?_; (first | refine mem_store' st 43 _ _ rfl (wanted_none rfl) _ Try.sizeOf43 ?_ | (refine mem_store' st 43 _ _ rfl (wanted_some rfl ?_) _ Try.sizeOf43 ?_; focus (simp [yielded, Act.put]; done))); refine ⟨0, _, _, _, _, _, rfl, rfl, rfl, rfl, rfl, rfl, ?_⟩; clear st; intro w6 st hw6m hw6z; simp [Act.eval, Act.put, Value.cells, putL] at st) | (with_reducible refine at_load 3 ?_; (first | refine mem_load' st 3 _ rfl (wanted_none rfl) Try.isAgg3 ?_ | (refine mem_load' st 3 _ rfl (wanted_some rfl ?_) Try.isAgg3 ?_; focus (simp [yielded, Act.put]; done))); refine ⟨0, _, _, _, _, _, rfl, rfl, rfl, ?_⟩)
            | (at_mapUpdate; go_must (refine wpList_setUpdate (hM.below st.below) (int_keyed Try.underlying3) Try.underlying3 (wanted_none rfl) _ _ _ 47 rfl Try.underlying47 Try.underlying4 hmm rfl _ rfl hfj rfl ?_; intro w7 hM7 hg7)))
          go_roundw
          case rel =>
            have hbz := hM.lt
            refine ⟨j + 1, hlj, by go_num, (hBj.keep st.below).grown hg7 (Nat.le_trans hBj.size st.size) fun q hq => by simp at hq; omega, by rw [HTK.out, ← List.append_assoc]; exact hM7⟩
          case measure => simp [intOf]; omega
        · have hjx : j = x.length := by omega
          subst hjx
          have e : (x.map (·.c)).take x.length = x.map (·.c) := List.take_of_length_le (by simp)
          rw [e] at hM
          go_wp2
          go_roundw
          case rel => exact ⟨k + 1, hlt, by go_num, hBj, by rw [HT.out]; simpa using hM⟩
          case measure => simp [intOf]; omega
    · have e : ls.take k = ls := List.take_of_length_le (by omega)
      rw [e] at hM
      go_wp2
      go_ret
      exact ⟨bm, rfl, hbm, hB, hM⟩

end Go.Proofs.Ytnihccinpbpllaa

/- The walks through parcloseref.in, At, GoodLabel and Flows. -/
namespace Go.Proofs.Ytnihccinpbpllaa
open Go.RowKit
open Go.Maps (Keyed IsMap int_keyed)

theorem wpList_buildV2 {P : Program} {w0 w : World} {M : List Nat} {own : Blks} {ops : Array Oper} {rest : List Oper} {o : Oper} {A : Act} {Q : Exit → Act → World → Prop} (st : St M w0 w own) (hgd : Region.wanted o (yielded ops A.tmps) = true) (T T' : TypeId) (x0 x1 : Operand) (ho : o.op = .buildSlice T 2 #[(0, x0), (1, x1)]) (ht : P.underlying T = some (.slice T')) (hsz : ∀ w, (sizeOf T').run P w = .ok 1 w) (hz : ∀ w, (zeroValue T').run P w = .ok (.slice none 0 0) w) (a0 a1 : Option Addr) (n0 n1 c0 c1 : Nat) (hx0 : A.eval x0 = .slice a0 n0 c0) (hx1 : A.eval x1 = .slice a1 n1 c1)
    (h : ∀ g w', w0.heap.size ≤ g → St M w0 w' (own ++ [(g, T', [.slice a0 n0 c0, .slice a1 n1 c1])]) → Below w.heap.size w w' → wpList P ops Q rest (A.put o.dst (.slice (some ⟨g, 0, none⟩) 2 2)) w') : wpList P ops Q (o :: rest) A w := by
  refine wpList_wanted hgd fun K hK => ?_
  have hs := st.new T' [.slice a0 n0 c0, .slice a1 n1 c1]
  have h2 := hK _ _ (h w.heap.size _ st.size hs ((Below.refl _ _).alloc (Nat.le_refl _) _))
  unfold Oper.wp
  simp [execOp, ho, Instr.buildSlice, run_underlying ht, hsz, hz, newRow, newObj, hx0, hx1, Instr.fill, Value.cells, Array.range, Result.andThen] at h2 ⊢
  exact h2

theorem SlR.lev_row {ok : Nat → Prop} {w : World} {b o c : Nat} {xs : List Lev} (h : SlR ok w 2 RLev (some ⟨b, o, none⟩) c xs) (i : Nat) (hi : i < xs.length) :
    ∀ (j : Nat) (v : Value), [Value.int .i64 xs[i].c, .int .i64 xs[i].l][j]? = some v → w.cell? ⟨b, o + i * 2 + j, none⟩ = some v := by
  obtain ⟨b', o', cs, ha, _, hb, hr, _, _, hc⟩ := h.2.2.2 i xs[i] (by simp [hi])
  simp only [Option.some.injEq, Addr.mk.injEq, and_true] at ha
  obtain ⟨rfl, rfl⟩ := ha
  unfold RLev at hr
  subst hr
  exact hc

theorem labels2 {w : World} {g : Nat} {T : TypeId} {a b : List Lev} {la lb : Option Addr} {ca cb : Nat} (h : w.heap[g]? = some (.cells [Value.slice la a.length ca, .slice lb b.length cb].toArray T (0, 0))) {ok : Nat → Prop} (hA : SlR ok w 2 RLev la ca a) (hB : SlR ok w 2 RLev lb cb b) : LabelsR (fun _ => True) w (some ⟨g, 0, none⟩) 2 [a, b] := by
  refine ⟨by simp, by decide, by simp, fun i x hx => ?_⟩
  have hg := (Array.getElem?_eq_some_iff.1 h).1
  have hcell : ∀ (j : Nat) (v : Value), [Value.slice la a.length ca, .slice lb b.length cb][j]? = some v → w.cell? ⟨g, 0 + j, none⟩ = some v := fun j v hj => by
    rw [Nat.zero_add, cell_of_row w g _ _ T (0, 0) h]
    simpa using hj
  rcases i with _ | _ | i
  · simp at hx
    subst hx
    refine ⟨g, 0, [.slice la a.length ca], rfl, trivial, hg, ⟨la, ca, rfl, hA.okay fun _ _ => trivial⟩, rfl, by simp [Value.oneCell'], fun j v hj => ?_⟩
    rcases j with _ | j
    · simp at hj; subst hj; exact hcell 0 _ rfl
    · simp at hj
  · simp at hx
    subst hx
    refine ⟨g, 0, [.slice lb b.length cb], rfl, trivial, hg, ⟨lb, cb, rfl, hB.okay fun _ _ => trivial⟩, rfl, by simp [Value.oneCell'], fun j v hj => ?_⟩
    rcases j with _ | j
    · simp at hj; subst hj; exact hcell 1 _ rfl
    · simp at hj
  · simp at hx

theorem ref_in (ok : Nat → Prop) (w : World) (a : Option Addr) (c : Nat) (l : List Int) (v : Int) (hR : SlR ok w 1 RInt a c l) :
    Calls Try.prog 36 #[.slice a l.length c, .int .i64 v] w fun e w' => e = .returned (.bool (inL l v)) ∧ w = w' := by
  have hl : l.length ≤ 9223372036854775807 := by have h1 := hR.1; have h2 := hR.2.1; unfold maxLen at h2; omega
  go_enter Try.func36, Try.ntmps36
  go_wp2
  go_loop [9] (fun i => ∃ k : Nat, k ≤ l.length ∧ i = .int .i64 k ∧ Hid (inL l v = inL (l.drop k) v)) (fun i => l.length - (intOf i).toNat)
  case atStart => exact ⟨0, Nat.zero_le _, rfl, rfl⟩
  case round =>
    obtain ⟨k, hk, rfl, hI⟩ := hrel
    by_cases hlt : k < l.length
    · obtain ⟨b, o, rfl, hb, h1⟩ := hR.int_at k hlt
      by_cases he : l[k] = v
      · have d1 : (l[k] == v) = true := by simpa using he
        have HE := Lib.hid (show inL l v = true by rw [hI.out, inL_hit hlt he.symm])
        clear he
        go_wp2
        go_ret
        exact ⟨ret_bool HE.out.symm, rfl⟩
      · have d1 : (l[k] == v) = false := by simpa using he
        have HE := Lib.hid (show inL l v = inL (l.drop (k + 1)) v by rw [hI.out, inL_pass hlt fun h => he h.symm])
        clear he
        go_wp2
        go_round
        case rel => exact ⟨k + 1, hlt, by go_num, HE⟩
        case measure => simp [intOf]; omega
    · have HE := Lib.hid (show inL l v = false by rw [hI.out, inL_end hlt])
      go_wp2
      go_ret
      exact ⟨ret_bool HE.out.symm, rfl⟩

set_option maxRecDepth 100000 in
set_option maxHeartbeats 1600000 in
theorem ref_At (ok : Nat → Prop) (w : World) (la : Option Addr) (lc : Nat) (l : List Lev) (c : Int) (hR : SlR ok w 2 RLev la lc l) :
    Calls Try.prog 22 #[.slice la l.length lc, .int .i64 c] w fun e w' => e = .returned (.int .i64 (lAt l c)) ∧ Below w.heap.size w w' := by
  have hl : l.length ≤ 9223372036854775807 := by have h1 := hR.1; have h2 := hR.2.1; unfold maxLen at h2; omega
  go_enter Try.func22, Try.ntmps22
  go_wp2
  go_loopw [9] (fun i wr => ∃ k : Nat, k ≤ l.length ∧ i = .int .i64 k ∧ Below w.heap.size w wr ∧ Hid (lAt l c = lAt (l.drop k) c)) (fun i _ => l.length - (intOf i).toNat)
  case atStart => exact ⟨0, Nat.zero_le _, rfl, Below.refl _ _, rfl⟩
  case round =>
    obtain ⟨k, hk, rfl, hB, hI⟩ := hrel
    by_cases hlt : k < l.length
    · obtain ⟨b, o, rfl, hb, _⟩ := hR.lev_at k hlt
      have hrow := (hR.below hB).lev_row k hlt
      have HD := Lib.hid (drop_at hlt)
      have st := St.start wr
      by_cases he : l[k].c = c
      · have d1 : (l[k].c == c) = true := by simpa using he
        have HE := Lib.hid (show lAt l c = l[k].l by rw [hI.out, HD.out, lAt, if_pos he])
        clear he
        go_wp2_with (first | go_skip | (with_reducible refine at_load 43 ?_; refine wpList_load_cells (wanted_none rfl) 43 _ rfl Try.isAgg43 _ Try.sizeOf43 b (o + k * 2) rfl [.int .i64 l[k].c, .int .i64 l[k].l] rfl hrow ?_) | (with_reducible refine at_alloc 43 ?_; refine mem_alloc st (wanted_none rfl) 43 rfl _ Try.zeroValue43 _ rfl ?_; clear st; intro g1 w1 hg1 st hg1b; clear hg1b; simp [Act.eval, Act.put, Value.cells, putL] at st) | (with_reducible refine at_store 43 ?_; (first | refine mem_store' st 43 _ _ rfl (wanted_none rfl) _ Try.sizeOf43 ?_ | (refine mem_store' st 43 _ _ rfl (wanted_some rfl ?_) _ Try.sizeOf43 ?_; focus (simp [yielded, Act.put]; done))); refine ⟨0, _, _, _, _, _, rfl, rfl, rfl, rfl, rfl, rfl, ?_⟩; clear st; intro w2 st hw2m hw2z; simp [Act.eval, Act.put, Value.cells, putL] at st) | (with_reducible refine at_load 3 ?_; (first | refine mem_load' st 3 _ rfl (wanted_none rfl) Try.isAgg3 ?_ | (refine mem_load' st 3 _ rfl (wanted_some rfl ?_) Try.isAgg3 ?_; focus (simp [yielded, Act.put]; done))); refine ⟨0, _, _, _, _, _, rfl, rfl, rfl, ?_⟩))
        go_ret
        exact ⟨ret_int HE.out.symm, hB.keep st.below⟩
      · have d1 : (l[k].c == c) = false := by simpa using he
        have HE := Lib.hid (show lAt l c = lAt (l.drop (k + 1)) c by rw [hI.out, HD.out, lAt, if_neg he])
        clear he
        go_wp2_with (first | go_skip | (with_reducible refine at_load 43 ?_; refine wpList_load_cells (wanted_none rfl) 43 _ rfl Try.isAgg43 _ Try.sizeOf43 b (o + k * 2) rfl [.int .i64 l[k].c, .int .i64 l[k].l] rfl hrow ?_) | (with_reducible refine at_alloc 43 ?_; refine mem_alloc st (wanted_none rfl) 43 rfl _ Try.zeroValue43 _ rfl ?_; clear st; intro g1 w1 hg1 st hg1b; clear hg1b; simp [Act.eval, Act.put, Value.cells, putL] at st) | (with_reducible refine at_store 43 ?_; (first | refine mem_store' st 43 _ _ rfl (wanted_none rfl) _ Try.sizeOf43 ?_ | (refine mem_store' st 43 _ _ rfl (wanted_some rfl ?_) _ Try.sizeOf43 ?_; focus (simp [yielded, Act.put]; done))); refine ⟨0, _, _, _, _, _, rfl, rfl, rfl, rfl, rfl, rfl, ?_⟩; clear st; intro w2 st hw2m hw2z; simp [Act.eval, Act.put, Value.cells, putL] at st) | (with_reducible refine at_load 3 ?_; (first | refine mem_load' st 3 _ rfl (wanted_none rfl) Try.isAgg3 ?_ | (refine mem_load' st 3 _ rfl (wanted_some rfl ?_) Try.isAgg3 ?_; focus (simp [yielded, Act.put]; done))); refine ⟨0, _, _, _, _, _, rfl, rfl, rfl, ?_⟩))
        go_roundw
        case rel => exact ⟨k + 1, hlt, by go_num, hB.keep st.below, HE⟩
        case measure => simp [intOf]; omega
    · have HE := Lib.hid (show lAt l c = 1 by rw [hI.out, List.drop_of_length_le (by omega)]; rfl)
      go_wp2
      go_ret
      exact ⟨ret_int HE.out.symm, hB⟩

set_option maxRecDepth 100000 in
set_option maxHeartbeats 3000000 in
theorem ref_Flows (ok : Nat → Prop) (w : World) (la lb lo : Option Addr) (ca cb co : Nat) (a b : List Lev) (own : List Int) (hfa : ∀ y ∈ a, fitI y.c) (hfb : ∀ y ∈ b, fitI y.c) (hn : a.length + b.length < maxLen)
    (hA : SlR ok w 2 RLev la ca a) (hB' : SlR ok w 2 RLev lb cb b) (hC : SlR ok w 1 RInt lo co own) :
    Calls Try.prog 18 #[.slice la a.length ca, .slice lb b.length cb, .slice lo own.length co] w fun e w' => e = .returned (.bool (flowsL a b own)) ∧ Below w.heap.size w w' := by
  have HNm := Lib.hid (fun (W : World) (g : Nat) (h : LabelsR (fun _ => True) W (some ⟨g, 0, none⟩) 2 [a, b]) => ref_names (fun _ => True) W (some ⟨g, 0, none⟩) 2 [a, b] (fun x hx y hy => by
    simp at hx
    rcases hx with rfl | rfl
    · exact hfa y hy
    · exact hfb y hy) (by simpa [namesL] using hn) h)
  have hmem : ∀ x, inL (namesL [a, b]) x = true ↔ x ∈ eachL a b := fun x => by
    rw [inL_iff, eachL_mem]
    simp [namesL, catsOf]
  have HF := Lib.hid (flowsFrom_iff a b own (eachL a b))
  have HMem := Lib.hid hmem
  have HFit := Lib.hid (show ∀ x ∈ eachL a b, fitI x from fun x hx => by
    rcases eachL_mem.1 hx with h | h
    · obtain ⟨y, hy, rfl⟩ := List.mem_map.1 h
      exact hfa y hy
    · obtain ⟨y, hy, rfl⟩ := List.mem_map.1 h
      exact hfb y hy)
  clear hfa hfb hn hmem
  have st := St.start w
  go_enter Try.func18, Try.ntmps18
  go_wp2_with (first
    | go_skip | (refine wpList_buildV2 st (wanted_none rfl) 52 23 _ _ rfl Try.underlying52 Try.sizeOf23 Try.zeroValue23 _ _ _ _ _ _ rfl rfl ?_; clear st; intro g1 w1 hg1 st hb1; simp at st)
    | (go_at_call 31; go_must (refine (HNm.out _ g1 (labels2 (st.blk _ (List.mem_of_getElem? (i := 0) rfl)) (hA.below st.below) (hB'.below st.below))).mono ?_; rintro e v2 ⟨bm, rfl, hbm, hb2, hM⟩; replace st := st.call hb2; clear hb2))
    | (at_range; go_must (refine wpList_setRange hM (int_keyed Try.underlying3) rfl _ 47 rfl Try.underlying47 rfl ?_; intro r w3 cnt0 hr0 hrg hb3; have hs2 := st.size; replace st := st.call hb3; clear hb3)))
  go_frame
  have hbw : w.heap.size ≤ r := Nat.le_trans hs2 hr0
  have hB0 := st.below
  clear st hM hg1 hbm hr0
  go_loopw [7] (fun _ wr => ∃ seen cnt, RangeB Try.prog 3 4 wr bm r (namesL [a, b]).length (namesL [a, b]) seen cnt ∧ Below w.heap.size w wr ∧ Hid (∀ x ∈ seen, x ∉ own → lAt a x ≤ lAt b x)) (fun _ wr => wr.rangeLeft bm r)
  case atStart => exact ⟨[], _, hrg, hB0, fun x hx => by simp at hx⟩
  case round =>
    clear hrg hB0
    obtain ⟨seen, cnt, hrg, hB, hI⟩ := hrel
    have hm0 := hrg.left_eq
    go_wp2_with (first | go_skip | (at_next; refine wpList_setNext hrg (int_keyed Try.underlying3) Try.underlying3 Try.underlying4 rfl _ rfl rfl (fun hD => ?_) (fun x c w4 cnt4 hfx hx hrg4 hcnt hg4 hz4 hen => ?_)))
    · have HE := Lib.hid (show flowsL a b own = true from HF.out.2 fun x hx hxo => by
        by_cases hfx : fitI x
        · exact hI.out x ((inL_iff _ _).1 (hD.out x hfx ((HMem.out x).2 hx))) hxo
        · exact absurd (HFit.out x hx) hfx)
      go_ret
      exact ⟨ret_bool HE.out.symm, hB⟩
    · have hB4 : Below w.heap.size w w4 := hB.grown hg4 hB.size fun q hq => by simp at hq; omega
      have hxe := (HMem.out x).1 hx
      have st := St.start w4
      have HA := Lib.hid (fun (W : World) (h : Below w.heap.size w W) => ref_At ok W la ca a x (hA.below h))
      have HB := Lib.hid (fun (W : World) (h : Below w.heap.size w W) => ref_At ok W lb cb b x (hB'.below h))
      have HI := Lib.hid (fun (W : World) (h : Below w.heap.size w W) => ref_in ok W lo co own x (hC.below h))
      clear hrg hx hg4
      cases ho : inL own x
      · have hno : x ∉ own := (inL_not own x).1 ho
        by_cases hgt : lAt b x < lAt a x
        · have HE := Lib.hid (show flowsL a b own = false by
            rw [Bool.eq_false_iff]
            intro h
            have := HF.out.1 h x hxe hno
            omega)
          have d1 : decide (lAt b x < lAt a x) = true := by simpa using hgt
          have HO := Lib.hid ho
          clear ho hgt hno
          have tk := trivial
          go_wp2_with (first
            | go_skip
            | (go_at_call 36; go_must (refine (HI.out _ (hB4.keep st.below)).mono ?_; rintro e v5 ⟨rfl, rfl⟩; rw [HO.out]))
            | (go_at_call 22; clear tk; go_must (refine (HA.out _ (hB4.keep st.below)).mono ?_; rintro e v6 ⟨rfl, hb6⟩; replace st := st.call hb6; clear hb6))
            | (go_at_call 22; go_must (refine (HB.out _ (hB4.keep st.below)).mono ?_; rintro e v7 ⟨rfl, hb7⟩; replace st := st.call hb7; clear hb7)))
          go_ret
          exact ⟨ret_bool HE.out.symm, hB4.keep st.below⟩
        · have HE := Lib.hid (show ∀ y ∈ seen ++ [x], y ∉ own → lAt a y ≤ lAt b y from fun y hy hyo => by
            rcases List.mem_append.1 hy with hy | hy
            · exact hI.out y hy hyo
            · simp at hy; subst hy; omega)
          have d1 : decide (lAt b x < lAt a x) = false := by simpa using hgt
          have HO := Lib.hid ho
          clear ho hgt hno
          have tk := trivial
          go_wp2_with (first
            | go_skip
            | (go_at_call 36; go_must (refine (HI.out _ (hB4.keep st.below)).mono ?_; rintro e v5 ⟨rfl, rfl⟩; rw [HO.out]))
            | (go_at_call 22; clear tk; go_must (refine (HA.out _ (hB4.keep st.below)).mono ?_; rintro e v6 ⟨rfl, hb6⟩; replace st := st.call hb6; clear hb6))
            | (go_at_call 22; go_must (refine (HB.out _ (hB4.keep st.below)).mono ?_; rintro e v7 ⟨rfl, hb7⟩; replace st := st.call hb7; clear hb7)))
          go_roundw
          case rel => exact ⟨_, _, hrg4.below st.below, hB4.keep st.below, HE⟩
          case measure => rw [(hrg4.below st.below).left_eq, hm0]; exact hcnt
      · have hyes : x ∈ own := (inL_iff own x).1 ho
        have HE := Lib.hid (show ∀ y ∈ seen ++ [x], y ∉ own → lAt a y ≤ lAt b y from fun y hy hyo => by
          rcases List.mem_append.1 hy with hy | hy
          · exact hI.out y hy hyo
          · simp at hy; subst hy; exact absurd hyes hyo)
        have HO := Lib.hid ho
        clear ho hyes
        go_wp2_with (first
          | go_skip
          | (go_at_call 36; go_must (refine (HI.out _ (hB4.keep st.below)).mono ?_; rintro e v5 ⟨rfl, rfl⟩; rw [HO.out])))
        go_roundw
        case rel => exact ⟨_, _, hrg4.below st.below, hB4.keep st.below, HE⟩
        case measure => rw [(hrg4.below st.below).left_eq, hm0]; exact hcnt

end Go.Proofs.Ytnihccinpbpllaa

/- The walk through parcloseref.made. -/
namespace Go.Proofs.Ytnihccinpbpllaa
open Go.RowKit
open Go.Maps (Keyed IsMap int_keyed)

/-- What a label out of levels says of a category. -/
def MadeOf (keys : List Int) (val : Int → Int) (l : List Lev) : Prop := Norm l ∧ ∀ c, lAt l c = if inL keys c = true then val c else 1

theorem made_insert {seen : List Int} {val : Int → Int} {l : List Lev} {x : Int} {k : Nat} (h : MadeOf seen val l) (hx : inL seen x = false) (hv : val x ≠ 1) (hk : k ≤ l.length) (hlo : ∀ (i : Nat) (hi : i < l.length), i < k → l[i].c < x) (hhi : ∀ hk' : k < l.length, ¬ l[k].c < x) :
    MadeOf (seen ++ [x]) val (l.take k ++ ([⟨x, val x⟩] ++ l.drop k)) := by
  obtain ⟨⟨hr, hne⟩, hat⟩ := h
  have hlx : lAt l x = 1 := by rw [hat, hx]; rfl
  have hnx : x ∉ catsOf l := fun hm => (norm_mem ⟨hr, hne⟩ x).1 hm hlx
  have hlt : ∀ y ∈ l.take k, y.c < x := fun y hy => by
    obtain ⟨i, hi, rfl⟩ := List.mem_iff_getElem.1 hy
    rw [List.getElem_take]
    have hi' := hi
    rw [List.length_take] at hi'
    exact hlo i (by omega) (by omega)
  have hsplit : catsOf l = catsOf (l.take k) ++ catsOf (l.drop k) := by
    unfold catsOf; rw [← List.map_append, List.take_append_drop]
  have hr' := hr
  rw [hsplit] at hr'
  have hgt : ∀ y ∈ l.drop k, x < y.c := fun y hy => by
    obtain ⟨i, hi, rfl⟩ := List.mem_iff_getElem.1 hy
    rw [List.length_drop] at hi
    rw [List.getElem_drop]
    have h0 := hhi (by omega)
    have hxe : l[k + i].c ≠ x := fun he => hnx (by rw [← he]; exact List.mem_map.2 ⟨_, List.getElem_mem _, rfl⟩)
    rcases Nat.eq_zero_or_pos i with rfl | hi0
    · simp only [Nat.add_zero] at hxe ⊢; omega
    · have h1 := List.pairwise_iff_getElem.1 hr k (k + i) (by simp [catsOf]; omega) (by simp [catsOf]; omega) (by omega)
      simp only [catsOf, List.getElem_map] at h1
      omega
  refine ⟨⟨?_, ?_⟩, fun c => ?_⟩
  · have e : catsOf (l.take k ++ ([⟨x, val x⟩] ++ l.drop k)) = catsOf (l.take k) ++ (x :: catsOf (l.drop k)) := by simp [catsOf]
    rw [e]
    unfold Rising at hr' ⊢
    obtain ⟨p1, p2, p3⟩ := List.pairwise_append.1 hr'
    refine List.pairwise_append.2 ⟨p1, List.pairwise_cons.2 ⟨fun y hy => ?_, p2⟩, fun a ha b hb => ?_⟩
    · obtain ⟨z, hz, rfl⟩ := List.mem_map.1 hy
      exact hgt z hz
    · rcases List.mem_cons.1 hb with rfl | hb
      · obtain ⟨z, hz, rfl⟩ := List.mem_map.1 ha
        exact hlt z hz
      · exact p3 a ha b hb
  · intro y hy
    rcases List.mem_append.1 hy with hy | hy
    · exact hne y (List.mem_of_mem_take hy)
    · rcases List.mem_append.1 hy with hy | hy
      · simp at hy; subst hy; exact hv
      · exact hne y (List.mem_of_mem_drop hy)
  · rw [lAt_append, inL_snoc]
    have hl : lAt l c = if c ∈ catsOf (l.take k) then lAt (l.take k) c else lAt (l.drop k) c := by
      rw [← lAt_append, List.take_append_drop]
    by_cases hcx : c = x
    · subst hcx
      have : c ∉ catsOf (l.take k) := fun hm => by
        obtain ⟨z, hz, hzc⟩ := List.mem_map.1 hm
        have := hlt z hz
        omega
      rw [if_neg this, if_pos rfl, if_pos rfl]
      simp [lAt]
    · rw [if_neg hcx, ← hat c, hl]
      congr 1
      show lAt (⟨x, val x⟩ :: l.drop k) c = _
      rw [lAt, if_neg (fun h => hcx h.symm)]

theorem made_skip {seen : List Int} {val : Int → Int} {l : List Lev} {x : Int} (h : MadeOf seen val l) (hx : inL seen x = false) (hv : val x = 1) : MadeOf (seen ++ [x]) val l := by
  refine ⟨h.1, fun c => ?_⟩
  rw [inL_snoc, h.2 c]
  by_cases hcx : c = x
  · subst hcx; rw [if_pos rfl, hx, hv]; simp
  · rw [if_neg hcx]

theorem made_nil (val : Int → Int) : MadeOf [] val [] := ⟨⟨List.Pairwise.nil, by simp⟩, fun c => by simp [lAt, inL]⟩

theorem nodup_leI : ∀ {l S : List Int}, l.Nodup → (∀ j ∈ l, j ∈ S) → l.length ≤ S.length := by
  intro l
  induction l with
  | nil => intro S _ _; simp
  | cons i l ih =>
    intro S hn hs
    obtain ⟨h1, h2⟩ := List.nodup_cons.1 hn
    have := ih (S := S.erase i) h2 fun j hj => (List.mem_erase_of_ne (by rintro rfl; exact h1 hj)).2 (hs j (by simp [hj]))
    rw [List.length_erase_of_mem (hs i (by simp))] at this
    have h3 : 0 < S.length := List.length_pos_of_mem (hs i (by simp))
    simp; omega

theorem seen_le {keys seen : List Int} (hn : seen.Nodup) (hs : ∀ x ∈ seen, inL keys x = true) : seen.length ≤ keys.length := nodup_leI hn fun x hx => (inL_iff _ _).1 (hs x hx)

theorem slice_front {w : World} (a : Option Addr) (n c k : Nat) (hk : k ≤ n) (hn : n ≤ c) (hc : c ≤ maxLen) (ha : a = none → c = 0) : ∃ a', (∀ W : World, (Instr.slice 23 (.slice a n c) none (some (.int .i64 k)) (some (.int .i64 k))).run Try.prog W = .ok (.slice a' k k) W) ∧ (∀ ad, a = some ad → a' = some ad) ∧ (a = none → a' = none) := by
  have hc' : c ≤ 9223372036854775807 := hc
  cases a with
  | none => 
    obtain rfl := ha rfl
    obtain rfl : n = 0 := by omega
    obtain rfl : k = 0 := by omega
    exact ⟨none, fun W => by kernel_rfl, by simp, by simp⟩
  | some ad =>
    obtain ⟨b, o, f⟩ := ad
    have h0 : k ≤ c := by omega
    refine ⟨some ⟨b, o, f⟩, fun W => ?_, by simp, by simp⟩
    go_simp

/-- 'l[k:]', as a value, and what it reads as. -/
theorem slice_back {ok : Nat → Prop} {w : World} {a : Option Addr} {c k : Nat} {l : List Lev} (h : SlR ok w 2 RLev a c l) (hk : k ≤ l.length) : ∃ a', (∀ W : World, (Instr.slice 23 (.slice a l.length c) (some (.int .i64 k)) none none).run Try.prog W = .ok (.slice a' (l.length - k) (c - k)) W) ∧ SlR ok w 2 RLev a' (c - k) (l.drop k) := by
  have hc' : c ≤ 9223372036854775807 := h.2.1
  have h1 := h.1
  cases a with
  | none =>
    obtain rfl := h.2.2.1 rfl
    have hl0 : l.length = 0 := by omega
    obtain rfl : k = 0 := by omega
    rw [hl0]
    exact ⟨none, fun W => by kernel_rfl, by simpa using h⟩
  | some ad =>
    obtain ⟨b, o, f⟩ := ad
    by_cases hck : c = k
    · subst hck
      have hl : l.length = c := by omega
      refine ⟨some ⟨b, o, f⟩, fun W => ?_, ?_⟩
      · rw [hl]
        go_simp
      · refine ⟨by simp; omega, by have := h.2.1; omega, by simp, fun i x hx => ?_⟩
        rw [List.getElem?_drop] at hx
        have := (List.getElem?_eq_some_iff.1 hx).1
        omega
    · refine ⟨some ((⟨b, o, f⟩ : Addr).add (k * 2)), fun W => ?_, ?_⟩
      · go_simp
      · refine ⟨by simp; omega, by have := h.2.1; omega, by simp, fun i x hx => ?_⟩
        rw [List.getElem?_drop] at hx
        obtain ⟨b', o', cs, ha, r1, r2, r3, r4, r5, r6⟩ := h.2.2.2 (k + i) x hx
        simp only [Option.some.injEq, Addr.mk.injEq] at ha
        obtain ⟨rfl, rfl, rfl⟩ := ha
        exact ⟨b, o + k * 2, cs, by rw [Addr.add_lit], r1, r2, r3, r4, r5, fun j v hj => by rw [← r6 j v hj]; congr 2; rw [Nat.add_mul]; omega⟩

theorem Own.ofBlk1 {base : Nat} {e : TypeId} {w : World} {α : Type} {sz : Nat} {R : List Value → α → Prop} {g : Nat} {cs : List Value} {x : α} (h : w.heap[g]? = some (.cells cs.toArray e (0, 0))) (hR : R cs x) (hl : cs.length = sz) (h1 : cs.all Value.oneCell' = true) (hb : base ≤ g) : Own base e w sz R (some ⟨g, 0, none⟩) 1 [x] := by
  refine ⟨[cs], rfl, ?_, ?_, ?_⟩
  · intro c hc
    simp at hc
    subst hc
    exact ⟨hl, by simpa using h1⟩
  · intro i y c hy hc
    rcases i with _ | i
    · simp at hy hc; subst hy hc; exact hR
    · simp at hy
  · refine ⟨by simp [hl], .inr ⟨g, 1, cs.toArray, rfl, hb, h, Nat.le_refl _, by simp [maxLen], by simp [hl], ?_⟩⟩
    simp [← hl]

theorem SlR.takeC {ok : Nat → Prop} {w : World} {α : Type} {sz : Nat} {R : List Value → α → Prop} {a a' : Option Addr} {c k : Nat} {xs : List α} (h : SlR ok w sz R a c xs) (hk : k ≤ xs.length) (h1 : ∀ ad, a = some ad → a' = some ad) (h2 : a = none → a' = none) : SlR ok w sz R a' k (xs.take k) := by
  refine ⟨by simp; omega, by have := h.1; have := h.2.1; omega, fun ha' => ?_, fun i x hx => ?_⟩
  · cases a with
    | none => have := h.2.2.1 rfl; have := h.1; omega
    | some ad => rw [h1 ad rfl] at ha'; cases ha'
  · rw [List.getElem?_take] at hx
    split at hx
    · obtain ⟨b, o, cs, ha, r⟩ := h.2.2.2 i x hx
      exact ⟨b, o, cs, h1 _ ha, r⟩
    · cases hx

set_option maxRecDepth 100000 in
set_option maxHeartbeats 4000000 in
theorem ref_made (w : World) (bm n : Nat) (keys : List Int) (val : Int → Int) (hkf : ∀ x ∈ keys, fitI x) (hk16 : keys.length * 16 ≤ 140737488355328) (hM : MapZ Try.prog 3 3 w bm n keys val) :
    Calls Try.prog 32 #[.map (some bm)] w fun e w' => ∃ (l : List Lev) (a : Option Addr) (c : Nat), e = .returned (.slice a l.length c) ∧ MadeOf keys val l ∧ l.length ≤ keys.length ∧ Below w.heap.size w w' ∧ SlR (fun b => w.heap.size ≤ b) w' 2 RLev a c l := by
  obtain ⟨i0, hi, hz0, hz1, hz2⟩ := info_parts info_Level
  have HKF := Lib.hid hkf
  clear hkf
  go_enter Try.func32, Try.ntmps32
  go_wp2_with (first
    | go_skip
    | (at_range; go_must (refine wpList_zRange hM (int_keyed Try.underlying3) rfl _ 46 rfl Try.underlying46 rfl ?_; intro r w3 cnt0 hr0 hrg hb3)))
  go_frame
  have hS0 : SlR (fun b => w.heap.size ≤ b) w3 2 RLev none 0 ([] : List Lev) := SlR.nil _ _ _ _
  have HMd := Lib.hid (made_nil val)
  have hlt0 := hM.lt
  clear hM
  go_loopw [4, 5, 6, 3] (fun _ _ _ p wr => ∃ seen cnt, RangeZ Try.prog 3 3 wr bm r n keys val seen cnt ∧ Below w.heap.size w wr ∧ ∃ (l : List Lev) (a : Option Addr) (c : Nat), p = .slice a l.length c ∧ SlR (fun b => w.heap.size ≤ b ∧ b ≠ r) wr 2 RLev a c l ∧ Hid (MadeOf seen val l) ∧ l.length ≤ seen.length ∧ Hid (seen.Nodup ∧ ∀ x ∈ seen, inL keys x = true)) (fun _ _ _ _ wr => wr.rangeLeft bm r)
  case atStart => exact ⟨[], _, hrg, hb3, [], none, 0, rfl, SlR.nil _ _ _ _, HMd, Nat.le_refl _, List.nodup_nil, by simp⟩
  case round =>
    clear hrg hb3 hS0 HMd
    obtain ⟨seen, cnt, hrg, hB, l, a, c, rfl, hS, hMd, hls, hN⟩ := hrel
    have hm0 := hrg.left_eq
    have hsl := seen_le hN.out.1 hN.out.2
    go_wp2_with (first | go_skip | (at_next; refine wpList_zNext hrg (int_keyed Try.underlying3) Try.underlying3 Try.underlying3 rfl _ rfl rfl (fun hD => ?_) (fun x w4 cnt4 hfx hfv hx hns hrg4 hcnt hg4 hz4 hen => RowKit.Hid.out ?_)))
    · have HE := Lib.hid (show MadeOf keys val l from ⟨hMd.out.1, fun c => by
        rw [hMd.out.2 c]
        have : inL seen c = inL keys c := by
          rw [Bool.eq_iff_iff]
          exact ⟨fun h => hN.out.2 c ((inL_iff _ _).1 h), fun h => hD.out c (HKF.out c ((inL_iff _ _).1 h)) h⟩
        rw [this]⟩)
      go_ret
      exact ⟨l, a, c, rfl, HE.out, by omega, hB, hS.okay fun _ h => h.1⟩
    · have hrlt := hrg.lt.1
      have hB4 : Below w.heap.size w w4 := hB.grown hg4 hB.size fun q hq => by simp at hq; omega
      have hS4 : SlR (fun b => w.heap.size ≤ b ∧ b ≠ r) w4 2 RLev a c l := hS.keep ⟨by omega, fun b hb ho => hg4.block b hb (by simp; exact ho.2)⟩
      have hbr4 := hrg4.lt.1
      have HN4 := Lib.hid (show (seen ++ [x]).Nodup ∧ ∀ y ∈ seen ++ [x], inL keys y = true from ⟨List.nodup_append.2 ⟨hN.out.1, by simp, fun a ha b hb => by simp at hb; subst hb; intro he; subst he; exact (inL_not _ _).1 hns ha⟩, fun y hy => by
        rcases List.mem_append.1 hy with hy | hy
        · exact hN.out.2 y hy
        · simp at hy; subst hy; exact hx⟩)
      have hsl4 : seen.length + 1 ≤ keys.length := by have := seen_le HN4.out.1 HN4.out.2; simpa using this
      clear hrg hS hg4 hx hB hN
      by_cases hv : val x = 1
      · have d1 : (val x == 1) = true := by simpa using hv
        have HE := Lib.hid (made_skip hMd.out hns hv)
        clear hv hns
        refine Lib.hid ?_
        go_wp2
        go_roundw
        case rel => exact ⟨_, _, hrg4, hB4, l, a, c, rfl, hS4, HE, by simp; omega, HN4⟩
        case measure => rw [hrg4.left_eq, hm0]; exact hcnt
      · have d1 : (val x == 1) = false := by simpa using hv
        have HV := Lib.hid hv
        have HNS := Lib.hid hns
        have hll : l.length ≤ 9223372036854775807 := by omega
        clear hv hns
        refine Lib.hid ?_
        go_wp2
        go_loop [6] (fun i => ∃ k : Nat, k ≤ l.length ∧ i = .int .i64 k ∧ Hid (∀ (i : Nat) (hi : i < l.length), i < k → l[i].c < x)) (fun i => l.length - (intOf i).toNat)
        case atStart => exact ⟨0, Nat.zero_le _, rfl, fun i _ h => absurd h (by omega)⟩
        case round =>
          obtain ⟨k, hk, rfl, hlo⟩ := hrel
          have HNI := Lib.hid (fun hkl h => made_insert hMd.out HNS.out HV.out hkl hlo.out h)
          by_cases hgo : ∃ h : k < l.length, l[k].c < x
          · obtain ⟨hkl, hlt⟩ := hgo
            obtain ⟨b, o, rfl, hb, hc1, _⟩ := hS4.lev_at k hkl
            have d2 : decide (l[k].c < x) = true := by simpa using hlt
            have HE := Lib.hid (show ∀ (i : Nat) (hi : i < l.length), i < k + 1 → l[i].c < x from fun i hi hik => by
              by_cases hik' : i = k
              · subst hik'; exact hlt
              · exact hlo.out i hi (by omega))
            clear hlt
            go_wp2
            go_round
            case rel => exact ⟨k + 1, hkl, by go_num, HE⟩
            case measure => simp [intOf]; omega
          · have HNI2 := Lib.hid (HNI.out hk fun hkl h => hgo ⟨hkl, h⟩)
            obtain ⟨af, hsf, hf1, hf2⟩ := slice_front (w := w4) a l.length c k hk hS4.1 hS4.2.1 hS4.2.2.1
            obtain ⟨ab, hsb, hSb⟩ := slice_back hS4 hk
            have hSf := hS4.takeC hk hf1 hf2
            have hlen2 : (l.take k).length = k := by simp; omega
            have hlen3 : (l.drop k).length = l.length - k := by simp
            have HL2 := Lib.hid hlen2
            have HL3 := Lib.hid hlen3
            clear hlen2 hlen3
            by_cases hkl : k < l.length
            · obtain ⟨b, o, rfl, hb, hc1, _⟩ := hS4.lev_at k hkl
              have d2 : decide (l[k].c < x) = false := by simp; exact Int.not_lt.1 fun h => hgo ⟨hkl, h⟩
              obtain rfl := hf1 _ rfl
              clear hgo
              go_wp2
              have hI : Below w4.heap.size w4 w4.drew := (Below.refl _ _).drew
              refine lex_region (by kernel_rfl) 14 rfl (fun W => Below w4.heap.size w4 W) ?_
              refine lex_take 0 rfl (by decide +kernel) (by first | exact wanted_none rfl | exact wanted_some rfl rfl) hI (fun W hW => by first | (go_simp; done) | (go_simp; rfl)) ?_; simp only [Act.put, List.setIfInBounds_toArray, List.set_cons_succ, List.set_cons_zero]
              refine lex_take 1 rfl (by decide +kernel) (by first | exact wanted_none rfl | exact wanted_some rfl rfl) hI (fun W hW => by first | (go_simp; done) | (go_simp; rfl)) ?_; simp only [Act.put, List.setIfInBounds_toArray, List.set_cons_succ, List.set_cons_zero]
              refine lex_take 2 rfl (by decide +kernel) (by first | exact wanted_none rfl | exact wanted_some rfl rfl) hI (fun W hW => by first | (go_simp; done) | (go_simp; rfl)) ?_; simp only [Act.put, List.setIfInBounds_toArray, List.set_cons_succ, List.set_cons_zero]
              refine lex_take 3 rfl (by decide +kernel) (by first | exact wanted_none rfl | exact wanted_some rfl rfl) hI (fun W hW => by first | (go_simp; done) | (go_simp; rfl)) ?_; simp only [Act.put, List.setIfInBounds_toArray, List.set_cons_succ, List.set_cons_zero]
              refine lex_take 4 rfl (by decide +kernel) (by first | exact wanted_none rfl | exact wanted_some rfl rfl) hI (fun W hW => by first | (go_simp; done) | (go_simp; rfl)) ?_; simp only [Act.put, List.setIfInBounds_toArray, List.set_cons_succ, List.set_cons_zero]
              refine lex_take 5 rfl (by decide +kernel) (by first | exact wanted_none rfl | exact wanted_some rfl rfl) hI (fun W hW => by first | (go_simp; done) | (go_simp; rfl)) ?_; simp only [Act.put, List.setIfInBounds_toArray, List.set_cons_succ, List.set_cons_zero]
              refine lex_take 6 rfl (by decide +kernel) (by first | exact wanted_none rfl | exact wanted_some rfl rfl) hI (fun W hW => by first | (go_simp; done) | (go_simp; rfl)) ?_; simp only [Act.put, List.setIfInBounds_toArray, List.set_cons_succ, List.set_cons_zero]
              refine lex_take 8 rfl (by decide +kernel) (by first | exact wanted_none rfl | exact wanted_some rfl rfl) hI (fun W hW => by first | (go_simp; done) | (go_simp; rfl)) ?_; simp only [Act.put, List.setIfInBounds_toArray, List.set_cons_succ, List.set_cons_zero]
              refine lex_take 9 rfl (by decide +kernel) (by first | exact wanted_none rfl | exact wanted_some rfl rfl) hI (fun W hW => by first | (go_simp; done) | (go_simp; rfl)) ?_; simp only [Act.put, List.setIfInBounds_toArray, List.set_cons_succ, List.set_cons_zero]
              refine lex_take 10 rfl (by decide +kernel) (by first | exact wanted_none rfl | exact wanted_some rfl rfl) hI (fun W hW => by first | (go_simp; done) | (go_simp; rfl)) ?_; simp only [Act.put, List.setIfInBounds_toArray, List.set_cons_succ, List.set_cons_zero]
              have st := St.start w4.drew
              refine lex_only 7 rfl (by decide +kernel) (by first | exact wanted_none rfl | exact wanted_some rfl rfl) fun K hK => ?_
              refine wp_build1 st 23 43 _ rfl Try.underlying23 2 Try.sizeOf43 (by decide) (by decide) _ Try.zeroValue43 _ rfl rfl ?_; clear st; intro g7 w7 hg7 hg7e st hg7b hw7z; clear hg7e; simp [Act.eval, Act.put, Value.cells, putL] at st
              refine hK _ _ (hI.keep hg7b) ?_; clear hK; simp only [Act.put, List.setIfInBounds_toArray, List.set_cons_succ, List.set_cons_zero]
              replace hI := hI.keep hg7b
              have hz7 := hI.size
              have hO7 : Own w4.heap.size 43 w7 2 RLev (some ⟨g7, 0, none⟩) 1 [(⟨x, val x⟩ : Lev)] := Own.ofBlk1 (R := RLev) (st.blk _ (List.mem_of_getElem? (i := 0) rfl)) rfl rfl rfl hg7
              have hSb7 := hSb.below hI
              have hSf7 := hSf.below hI
              refine lex_only 11 rfl (by decide +kernel) (by first | exact wanted_none rfl | exact wanted_some rfl rfl) fun K hK => ?_
              refine wp_app _ _ 23 rfl 43 i0 _ 2 16 Try.underlying23 hi hz0 hz1 hz2 rfl (by decide) rfl rfl hO7 rfl HL3.out.symm hSb7 (by rw [HL3.out]; simp; omega) (by rw [HL3.out]; simp [maxLen]; omega) hz7 ?_
              intro a8 c8 w8 hO8 hg8 hn8
              have hI8 := Own.grown hO7 hI hg8 (Nat.le_refl _) hz7
              refine hK _ _ (hI8) ?_; clear hK; simp only [Act.put, List.setIfInBounds_toArray, List.set_cons_succ, List.set_cons_zero]
              have hz8 := hI8.size
              refine lex_only 12 rfl (by decide +kernel) (by first | exact wanted_none rfl | exact wanted_some rfl rfl) fun K hK => ?_
              refine wp_appFull _ _ 23 rfl 43 i0 _ 2 16 Try.underlying23 hi hz0 hz1 hz2 rfl (by decide) rfl HL2.out.symm (hSf.below hI8) rfl (by simp; omega) (hO8.slr (ok := fun _ => True) fun _ _ => trivial) (by simp; omega) (by simp; omega) (by simp [maxLen]; omega) ?_
              intro a9 c9 w9 hO9 hb9
              replace hI := hI8.keep hb9
              refine hK _ _ (hI) ?_; clear hK; simp only [Act.put, List.setIfInBounds_toArray, List.set_cons_succ, List.set_cons_zero]
              refine lex_take 13 rfl (by decide +kernel) (by first | exact wanted_none rfl | exact wanted_some rfl rfl) hI (fun W hW => by first | (go_simp; done) | (go_simp; rfl)) ?_; simp only [Act.put, List.setIfInBounds_toArray, List.set_cons_succ, List.set_cons_zero]
              refine lex_done (by decide +kernel) ?_
              clear st hO7 hSb7 hSf7 hO8 hg8 hn8 hI8 hSb hSf
              go_wp2
              go_roundw
              case rel => exact ⟨_, _, hrg4.below hI, hB4.keep hI, _, _, c9, by simp; omega, hO9.slr (fun b hb => ⟨Nat.le_trans hB4.size (Nat.le_trans hz8 hb), by omega⟩), HNI2, by simp; omega, HN4⟩
              case measure => rw [(hrg4.below hI).left_eq, hm0]; exact hcnt
            · clear hgo
              go_wp2
              have hI : Below w4.heap.size w4 w4.drew := (Below.refl _ _).drew
              refine lex_region (by kernel_rfl) 14 rfl (fun W => Below w4.heap.size w4 W) ?_
              refine lex_take 0 rfl (by decide +kernel) (by first | exact wanted_none rfl | exact wanted_some rfl rfl) hI (fun W hW => by first | (go_simp; done) | (go_simp; rfl)) ?_; simp only [Act.put, List.setIfInBounds_toArray, List.set_cons_succ, List.set_cons_zero]
              refine lex_take 1 rfl (by decide +kernel) (by first | exact wanted_none rfl | exact wanted_some rfl rfl) hI (fun W hW => by first | (go_simp; done) | (go_simp; rfl)) ?_; simp only [Act.put, List.setIfInBounds_toArray, List.set_cons_succ, List.set_cons_zero]
              refine lex_take 2 rfl (by decide +kernel) (by first | exact wanted_none rfl | exact wanted_some rfl rfl) hI (fun W hW => by first | (go_simp; done) | (go_simp; rfl)) ?_; simp only [Act.put, List.setIfInBounds_toArray, List.set_cons_succ, List.set_cons_zero]
              refine lex_take 3 rfl (by decide +kernel) (by first | exact wanted_none rfl | exact wanted_some rfl rfl) hI (fun W hW => by first | (go_simp; done) | (go_simp; rfl)) ?_; simp only [Act.put, List.setIfInBounds_toArray, List.set_cons_succ, List.set_cons_zero]
              refine lex_take 4 rfl (by decide +kernel) (by first | exact wanted_none rfl | exact wanted_some rfl rfl) hI (fun W hW => by first | (go_simp; done) | (go_simp; rfl)) ?_; simp only [Act.put, List.setIfInBounds_toArray, List.set_cons_succ, List.set_cons_zero]
              refine lex_take 5 rfl (by decide +kernel) (by first | exact wanted_none rfl | exact wanted_some rfl rfl) hI (fun W hW => by first | (go_simp; done) | (go_simp; rfl)) ?_; simp only [Act.put, List.setIfInBounds_toArray, List.set_cons_succ, List.set_cons_zero]
              refine lex_take 6 rfl (by decide +kernel) (by first | exact wanted_none rfl | exact wanted_some rfl rfl) hI (fun W hW => by first | (go_simp; done) | (go_simp; rfl)) ?_; simp only [Act.put, List.setIfInBounds_toArray, List.set_cons_succ, List.set_cons_zero]
              refine lex_take 8 rfl (by decide +kernel) (by first | exact wanted_none rfl | exact wanted_some rfl rfl) hI (fun W hW => by first | (go_simp; done) | (go_simp; rfl)) ?_; simp only [Act.put, List.setIfInBounds_toArray, List.set_cons_succ, List.set_cons_zero]
              refine lex_take 9 rfl (by decide +kernel) (by first | exact wanted_none rfl | exact wanted_some rfl rfl) hI (fun W hW => by first | (go_simp; done) | (go_simp; rfl)) ?_; simp only [Act.put, List.setIfInBounds_toArray, List.set_cons_succ, List.set_cons_zero]
              refine lex_take 10 rfl (by decide +kernel) (by first | exact wanted_none rfl | exact wanted_some rfl rfl) hI (fun W hW => by first | (go_simp; done) | (go_simp; rfl)) ?_; simp only [Act.put, List.setIfInBounds_toArray, List.set_cons_succ, List.set_cons_zero]
              have st := St.start w4.drew
              refine lex_only 7 rfl (by decide +kernel) (by first | exact wanted_none rfl | exact wanted_some rfl rfl) fun K hK => ?_
              refine wp_build1 st 23 43 _ rfl Try.underlying23 2 Try.sizeOf43 (by decide) (by decide) _ Try.zeroValue43 _ rfl rfl ?_; clear st; intro g7 w7 hg7 hg7e st hg7b hw7z; clear hg7e; simp [Act.eval, Act.put, Value.cells, putL] at st
              refine hK _ _ (hI.keep hg7b) ?_; clear hK; simp only [Act.put, List.setIfInBounds_toArray, List.set_cons_succ, List.set_cons_zero]
              replace hI := hI.keep hg7b
              have hz7 := hI.size
              have hO7 : Own w4.heap.size 43 w7 2 RLev (some ⟨g7, 0, none⟩) 1 [(⟨x, val x⟩ : Lev)] := Own.ofBlk1 (R := RLev) (st.blk _ (List.mem_of_getElem? (i := 0) rfl)) rfl rfl rfl hg7
              have hSb7 := hSb.below hI
              have hSf7 := hSf.below hI
              refine lex_only 11 rfl (by decide +kernel) (by first | exact wanted_none rfl | exact wanted_some rfl rfl) fun K hK => ?_
              refine wp_app _ _ 23 rfl 43 i0 _ 2 16 Try.underlying23 hi hz0 hz1 hz2 rfl (by decide) rfl rfl hO7 rfl HL3.out.symm hSb7 (by rw [HL3.out]; simp; omega) (by rw [HL3.out]; simp [maxLen]; omega) hz7 ?_
              intro a8 c8 w8 hO8 hg8 hn8
              have hI8 := Own.grown hO7 hI hg8 (Nat.le_refl _) hz7
              refine hK _ _ (hI8) ?_; clear hK; simp only [Act.put, List.setIfInBounds_toArray, List.set_cons_succ, List.set_cons_zero]
              have hz8 := hI8.size
              refine lex_only 12 rfl (by decide +kernel) (by first | exact wanted_none rfl | exact wanted_some rfl rfl) fun K hK => ?_
              refine wp_appFull _ _ 23 rfl 43 i0 _ 2 16 Try.underlying23 hi hz0 hz1 hz2 rfl (by decide) rfl HL2.out.symm (hSf.below hI8) rfl (by simp; omega) (hO8.slr (ok := fun _ => True) fun _ _ => trivial) (by simp; omega) (by simp; omega) (by simp [maxLen]; omega) ?_
              intro a9 c9 w9 hO9 hb9
              replace hI := hI8.keep hb9
              refine hK _ _ (hI) ?_; clear hK; simp only [Act.put, List.setIfInBounds_toArray, List.set_cons_succ, List.set_cons_zero]
              refine lex_take 13 rfl (by decide +kernel) (by first | exact wanted_none rfl | exact wanted_some rfl rfl) hI (fun W hW => by first | (go_simp; done) | (go_simp; rfl)) ?_; simp only [Act.put, List.setIfInBounds_toArray, List.set_cons_succ, List.set_cons_zero]
              refine lex_done (by decide +kernel) ?_
              clear st hO7 hSb7 hSf7 hO8 hg8 hn8 hI8 hSb hSf
              go_wp2
              go_roundw
              case rel => exact ⟨_, _, hrg4.below hI, hB4.keep hI, _, _, c9, by simp; omega, hO9.slr (fun b hb => ⟨Nat.le_trans hB4.size (Nat.le_trans hz8 hb), by omega⟩), HNI2, by simp; omega, HN4⟩
              case measure => rw [(hrg4.below hI).left_eq, hm0]; exact hcnt

end Go.Proofs.Ytnihccinpbpllaa

/- The walk through parcloseref.GoodLabel. -/
namespace Go.Proofs.Ytnihccinpbpllaa
open Go.RowKit

theorem prevC_ge {l : List Lev} {k : Nat} (h : -1 ≤ prevC l k) (hk : k < l.length) (hc : 0 ≤ l[k].c) : -1 ≤ prevC l (k + 1) := by
  rw [prevC_succ l k hk]
  omega

set_option maxRecDepth 100000 in
set_option maxHeartbeats 3000000 in
theorem ref_GoodLabel (ok : Nat → Prop) (w : World) (la : Option Addr) (lc : Nat) (l : List Lev) (hR : SlR ok w 2 RLev la lc l) :
    Calls Try.prog 20 #[.slice la l.length lc] w fun e w' => e = .returned (.bool (goodL l)) ∧ Below w.heap.size w w' := by
  have hl : l.length ≤ 9223372036854775807 := by have h1 := hR.1; have h2 := hR.2.1; unfold maxLen at h2; omega
  go_enter Try.func20, Try.ntmps20
  go_wp2
  go_loopw [8, 3] (fun i p wr => ∃ k : Nat, k ≤ l.length ∧ i = .int .i64 k ∧ p = .int .i64 (prevC l k) ∧ Below w.heap.size w wr ∧ Hid (risesL (-1) l = risesL (prevC l k) (l.drop k)) ∧ -1 ≤ prevC l k) (fun i _ _ => l.length - (intOf i).toNat)
  case atStart => exact ⟨0, Nat.zero_le _, rfl, by rw [prevC_zero], Below.refl _ _, by rw [prevC_zero]; rfl, by rw [prevC_zero]; decide⟩
  case round =>
    obtain ⟨k, hk, rfl, rfl, hB, hI, hge⟩ := hrel
    by_cases hlt : k < l.length
    · obtain ⟨b, o, rfl, hb, _⟩ := hR.lev_at k hlt
      have hrow := (hR.below hB).lev_row k hlt
      have hbad := @good_bad l k hlt hI
      have hgo := @good_go l k hlt hI
      have hps := prevC_succ l k hlt
      have hpg := @prevC_ge l k hge hlt
      generalize prevC l k = p at hbad hgo hge hpg ⊢
      generalize hx : l[k] = x at hrow hbad hgo hps hpg
      have HBad := Lib.hid hbad
      have HGo := Lib.hid hgo
      have HPs := Lib.hid hps
      have HPg := Lib.hid hpg
      clear hx hbad hgo hI hps hpg
      have st := St.start wr
      by_cases e1 : x.c ≤ p
      · have d1 : decide (x.c ≤ p) = true := by simpa using e1
        have HE := Lib.hid (HBad.out fun h => by omega)
        clear e1
        go_wp2_with (first | go_skip | (with_reducible refine at_load 43 ?_; refine wpList_load_cells (wanted_none rfl) 43 _ rfl Try.isAgg43 _ Try.sizeOf43 b (o + k * 2) rfl [.int .i64 x.c, .int .i64 x.l] rfl hrow ?_) | (with_reducible refine at_alloc 43 ?_; refine mem_alloc st (wanted_none rfl) 43 rfl _ Try.zeroValue43 _ rfl ?_; clear st; intro g1 w1 hg1 st hg1b; clear hg1b; simp [Act.eval, Act.put, Value.cells, putL] at st) | (with_reducible refine at_store 43 ?_; (first | refine mem_store' st 43 _ _ rfl (wanted_none rfl) _ Try.sizeOf43 ?_ | (refine mem_store' st 43 _ _ rfl (wanted_some rfl ?_) _ Try.sizeOf43 ?_; focus (simp [yielded, Act.put]; done))); refine ⟨0, _, _, _, _, _, rfl, rfl, rfl, rfl, rfl, rfl, ?_⟩; clear st; intro w2 st hw2m hw2z; simp [Act.eval, Act.put, Value.cells, putL] at st) | (with_reducible refine at_load 3 ?_; (first | refine mem_load' st 3 _ rfl (wanted_none rfl) Try.isAgg3 ?_ | (refine mem_load' st 3 _ rfl (wanted_some rfl ?_) Try.isAgg3 ?_; focus (simp [yielded, Act.put]; done))); refine ⟨0, _, _, _, _, _, rfl, rfl, rfl, ?_⟩))
        go_ret
        exact ⟨ret_bool HE.out.symm, hB.keep st.below⟩
      · have d1 : decide (x.c ≤ p) = false := by simpa using e1
        by_cases e2 : 79 < x.c
        · have d2 : decide (79 < x.c) = true := by simpa using e2
          have HE := Lib.hid (HBad.out fun h => by have := h.2; simp only [lvOk, decide_eq_true_eq] at this; omega)
          clear e1 e2
          go_wp2_with (first | go_skip | (with_reducible refine at_load 43 ?_; refine wpList_load_cells (wanted_none rfl) 43 _ rfl Try.isAgg43 _ Try.sizeOf43 b (o + k * 2) rfl [.int .i64 x.c, .int .i64 x.l] rfl hrow ?_) | (with_reducible refine at_alloc 43 ?_; refine mem_alloc st (wanted_none rfl) 43 rfl _ Try.zeroValue43 _ rfl ?_; clear st; intro g1 w1 hg1 st hg1b; clear hg1b; simp [Act.eval, Act.put, Value.cells, putL] at st) | (with_reducible refine at_store 43 ?_; (first | refine mem_store' st 43 _ _ rfl (wanted_none rfl) _ Try.sizeOf43 ?_ | (refine mem_store' st 43 _ _ rfl (wanted_some rfl ?_) _ Try.sizeOf43 ?_; focus (simp [yielded, Act.put]; done))); refine ⟨0, _, _, _, _, _, rfl, rfl, rfl, rfl, rfl, rfl, ?_⟩; clear st; intro w2 st hw2m hw2z; simp [Act.eval, Act.put, Value.cells, putL] at st) | (with_reducible refine at_load 3 ?_; (first | refine mem_load' st 3 _ rfl (wanted_none rfl) Try.isAgg3 ?_ | (refine mem_load' st 3 _ rfl (wanted_some rfl ?_) Try.isAgg3 ?_; focus (simp [yielded, Act.put]; done))); refine ⟨0, _, _, _, _, _, rfl, rfl, rfl, ?_⟩))
          go_ret
          exact ⟨ret_bool HE.out.symm, hB.keep st.below⟩
        · have d2 : decide (79 < x.c) = false := by simpa using e2
          rcases (show x.l = 0 ∨ (x.l ≠ 0 ∧ x.l = 2) ∨ (x.l ≠ 0 ∧ x.l ≠ 2 ∧ x.l = 3) ∨ (x.l ≠ 0 ∧ x.l ≠ 2 ∧ x.l ≠ 3) by omega) with h3 | ⟨h4, h5⟩ | ⟨h4, h5, h6⟩ | ⟨h4, h5, h6⟩
          · have HOk := Lib.hid (show p < x.c ∧ lvOk x = true from ⟨by omega, by simp only [lvOk, decide_eq_true_eq]; omega⟩)
            have hx0 : 0 ≤ x.c := by omega
            have d3 : (x.l != 0) = false := by simp; omega
            skip
            clear e1 e2 h3
            go_wp2_with (first | go_skip | (with_reducible refine at_load 43 ?_; refine wpList_load_cells (wanted_none rfl) 43 _ rfl Try.isAgg43 _ Try.sizeOf43 b (o + k * 2) rfl [.int .i64 x.c, .int .i64 x.l] rfl hrow ?_) | (with_reducible refine at_alloc 43 ?_; refine mem_alloc st (wanted_none rfl) 43 rfl _ Try.zeroValue43 _ rfl ?_; clear st; intro g1 w1 hg1 st hg1b; clear hg1b; simp [Act.eval, Act.put, Value.cells, putL] at st) | (with_reducible refine at_store 43 ?_; (first | refine mem_store' st 43 _ _ rfl (wanted_none rfl) _ Try.sizeOf43 ?_ | (refine mem_store' st 43 _ _ rfl (wanted_some rfl ?_) _ Try.sizeOf43 ?_; focus (simp [yielded, Act.put]; done))); refine ⟨0, _, _, _, _, _, rfl, rfl, rfl, rfl, rfl, rfl, ?_⟩; clear st; intro w2 st hw2m hw2z; simp [Act.eval, Act.put, Value.cells, putL] at st) | (with_reducible refine at_load 3 ?_; (first | refine mem_load' st 3 _ rfl (wanted_none rfl) Try.isAgg3 ?_ | (refine mem_load' st 3 _ rfl (wanted_some rfl ?_) Try.isAgg3 ?_; focus (simp [yielded, Act.put]; done))); refine ⟨0, _, _, _, _, _, rfl, rfl, rfl, ?_⟩))
            go_roundw
            case rel => exact ⟨k + 1, hlt, by go_num, by rw [HPs.out], hB.keep st.below, HGo.out HOk.out, HPg.out hx0⟩
            case measure => simp [intOf]; omega
          · have HOk := Lib.hid (show p < x.c ∧ lvOk x = true from ⟨by omega, by simp only [lvOk, decide_eq_true_eq]; omega⟩)
            have hx0 : 0 ≤ x.c := by omega
            have d3 : (x.l != 0) = true := by simp; omega
            have d4 : (x.l != 2) = false := by simp; omega
            clear e1 e2 h4 h5
            go_wp2_with (first | go_skip | (with_reducible refine at_load 43 ?_; refine wpList_load_cells (wanted_none rfl) 43 _ rfl Try.isAgg43 _ Try.sizeOf43 b (o + k * 2) rfl [.int .i64 x.c, .int .i64 x.l] rfl hrow ?_) | (with_reducible refine at_alloc 43 ?_; refine mem_alloc st (wanted_none rfl) 43 rfl _ Try.zeroValue43 _ rfl ?_; clear st; intro g1 w1 hg1 st hg1b; clear hg1b; simp [Act.eval, Act.put, Value.cells, putL] at st) | (with_reducible refine at_store 43 ?_; (first | refine mem_store' st 43 _ _ rfl (wanted_none rfl) _ Try.sizeOf43 ?_ | (refine mem_store' st 43 _ _ rfl (wanted_some rfl ?_) _ Try.sizeOf43 ?_; focus (simp [yielded, Act.put]; done))); refine ⟨0, _, _, _, _, _, rfl, rfl, rfl, rfl, rfl, rfl, ?_⟩; clear st; intro w2 st hw2m hw2z; simp [Act.eval, Act.put, Value.cells, putL] at st) | (with_reducible refine at_load 3 ?_; (first | refine mem_load' st 3 _ rfl (wanted_none rfl) Try.isAgg3 ?_ | (refine mem_load' st 3 _ rfl (wanted_some rfl ?_) Try.isAgg3 ?_; focus (simp [yielded, Act.put]; done))); refine ⟨0, _, _, _, _, _, rfl, rfl, rfl, ?_⟩))
            go_roundw
            case rel => exact ⟨k + 1, hlt, by go_num, by rw [HPs.out], hB.keep st.below, HGo.out HOk.out, HPg.out hx0⟩
            case measure => simp [intOf]; omega
          · have HOk := Lib.hid (show p < x.c ∧ lvOk x = true from ⟨by omega, by simp only [lvOk, decide_eq_true_eq]; omega⟩)
            have hx0 : 0 ≤ x.c := by omega
            have d3 : (x.l != 0) = true := by simp; omega
            have d4 : (x.l != 2) = true := by simp; omega
            have d5 : (x.l != 3) = false := by simp; omega
            clear e1 e2 h4 h5 h6
            go_wp2_with (first | go_skip | (with_reducible refine at_load 43 ?_; refine wpList_load_cells (wanted_none rfl) 43 _ rfl Try.isAgg43 _ Try.sizeOf43 b (o + k * 2) rfl [.int .i64 x.c, .int .i64 x.l] rfl hrow ?_) | (with_reducible refine at_alloc 43 ?_; refine mem_alloc st (wanted_none rfl) 43 rfl _ Try.zeroValue43 _ rfl ?_; clear st; intro g1 w1 hg1 st hg1b; clear hg1b; simp [Act.eval, Act.put, Value.cells, putL] at st) | (with_reducible refine at_store 43 ?_; (first | refine mem_store' st 43 _ _ rfl (wanted_none rfl) _ Try.sizeOf43 ?_ | (refine mem_store' st 43 _ _ rfl (wanted_some rfl ?_) _ Try.sizeOf43 ?_; focus (simp [yielded, Act.put]; done))); refine ⟨0, _, _, _, _, _, rfl, rfl, rfl, rfl, rfl, rfl, ?_⟩; clear st; intro w2 st hw2m hw2z; simp [Act.eval, Act.put, Value.cells, putL] at st) | (with_reducible refine at_load 3 ?_; (first | refine mem_load' st 3 _ rfl (wanted_none rfl) Try.isAgg3 ?_ | (refine mem_load' st 3 _ rfl (wanted_some rfl ?_) Try.isAgg3 ?_; focus (simp [yielded, Act.put]; done))); refine ⟨0, _, _, _, _, _, rfl, rfl, rfl, ?_⟩))
            go_roundw
            case rel => exact ⟨k + 1, hlt, by go_num, by rw [HPs.out], hB.keep st.below, HGo.out HOk.out, HPg.out hx0⟩
            case measure => simp [intOf]; omega
          · have HE := Lib.hid (HBad.out fun h => by have := h.2; simp only [lvOk, decide_eq_true_eq] at this; omega)
            have d3 : (x.l != 0) = true := by simp; omega
            have d4 : (x.l != 2) = true := by simp; omega
            have d5 : (x.l != 3) = true := by simp; omega
            clear e1 e2 h4 h5 h6
            go_wp2_with (first | go_skip | (with_reducible refine at_load 43 ?_; refine wpList_load_cells (wanted_none rfl) 43 _ rfl Try.isAgg43 _ Try.sizeOf43 b (o + k * 2) rfl [.int .i64 x.c, .int .i64 x.l] rfl hrow ?_) | (with_reducible refine at_alloc 43 ?_; refine mem_alloc st (wanted_none rfl) 43 rfl _ Try.zeroValue43 _ rfl ?_; clear st; intro g1 w1 hg1 st hg1b; clear hg1b; simp [Act.eval, Act.put, Value.cells, putL] at st) | (with_reducible refine at_store 43 ?_; (first | refine mem_store' st 43 _ _ rfl (wanted_none rfl) _ Try.sizeOf43 ?_ | (refine mem_store' st 43 _ _ rfl (wanted_some rfl ?_) _ Try.sizeOf43 ?_; focus (simp [yielded, Act.put]; done))); refine ⟨0, _, _, _, _, _, rfl, rfl, rfl, rfl, rfl, rfl, ?_⟩; clear st; intro w2 st hw2m hw2z; simp [Act.eval, Act.put, Value.cells, putL] at st) | (with_reducible refine at_load 3 ?_; (first | refine mem_load' st 3 _ rfl (wanted_none rfl) Try.isAgg3 ?_ | (refine mem_load' st 3 _ rfl (wanted_some rfl ?_) Try.isAgg3 ?_; focus (simp [yielded, Act.put]; done))); refine ⟨0, _, _, _, _, _, rfl, rfl, rfl, ?_⟩))
            go_ret
            exact ⟨ret_bool HE.out.symm, hB.keep st.below⟩
    · have HE := Lib.hid (show goodL l = decide (l.length ≤ 8) by
        unfold goodL
        rw [hI.out, List.drop_of_length_le (by omega)]
        by_cases h8 : l.length ≤ 8 <;> simp [h8, risesL])
      go_wp2
      go_ret
      exact ⟨ret_bool (by rw [HE.out]; simp; omega), hB⟩

end Go.Proofs.Ytnihccinpbpllaa

/- The walks through parcloseref.Join, Meet and Set. -/
namespace Go.Proofs.Ytnihccinpbpllaa
open Go.RowKit
open Go.Maps (Keyed IsMap int_keyed)

theorem lAt_fit {l : List Lev} (h : ∀ y ∈ l, y.fit) (c : Int) : fitI (lAt l c) := by
  induction l with
  | nil => unfold lAt fitI; omega
  | cons x l ih =>
    unfold lAt
    split
    · exact (h x (by simp)).2
    · exact ih fun y hy => h y (by simp [hy])

theorem lAt_out {l : List Lev} {c : Int} (h : c ∉ catsOf l) : lAt l c = 1 := by
  induction l with
  | nil => rfl
  | cons x l ih =>
    have : ¬ x.c = c := fun he => h (by simp [catsOf, he])
    rw [lAt, if_neg this]
    exact ih fun hm => h (by simp [catsOf] at hm ⊢; exact .inr hm)

theorem made_both {a b l : List Lev} {seen : List Int} {f : Int → Int → Int} (h1 : f 1 1 = 1) (h : MadeOf seen (fun c => f (lAt a c) (lAt b c)) l) (hs : ∀ c, c ∈ catsOf a ∨ c ∈ catsOf b → inL seen c = true) : l = bothL f a b := by
  refine norm_ext h.1 (norm_both f a b) fun c => ?_
  rw [h.2 c, lAt_both h1]
  cases hc : inL seen c
  · have ha : c ∉ catsOf a := fun hm => by have := hs c (.inl hm); rw [hc] at this; cases this
    have hb : c ∉ catsOf b := fun hm => by have := hs c (.inr hm); rw [hc] at this; cases this
    rw [lAt_out ha, lAt_out hb, h1]
    rfl
  · rfl

set_option maxRecDepth 100000 in
set_option maxHeartbeats 4000000 in
theorem ref_Join (ok : Nat → Prop) (w : World) (la lb : Option Addr) (ca cb : Nat) (a b : List Lev) (hfa : ∀ y ∈ a, y.fit) (hfb : ∀ y ∈ b, y.fit) (hn : (a.length + b.length) * 16 ≤ 140737488355328)
    (hA : SlR ok w 2 RLev la ca a) (hB' : SlR ok w 2 RLev lb cb b) :
    Calls Try.prog 12 #[.slice la a.length ca, .slice lb b.length cb] w fun e w' => ∃ o c, e = .returned (.slice o (bothL max a b).length c) ∧ Below w.heap.size w w' ∧ SlR (fun b => w.heap.size ≤ b) w' 2 RLev o c (bothL max a b) := by
  have hnl : (namesL [a, b]).length = a.length + b.length := by simp [namesL]
  have HNm := Lib.hid (fun (W : World) (g : Nat) (h : LabelsR (fun _ => True) W (some ⟨g, 0, none⟩) 2 [a, b]) => ref_names (fun _ => True) W (some ⟨g, 0, none⟩) 2 [a, b] (fun x hx y hy => by
    simp at hx
    rcases hx with rfl | rfl
    · exact (hfa y hy).1
    · exact (hfb y hy).1) (by rw [hnl]; unfold maxLen; omega) h)
  have HFit := Lib.hid (show ∀ x, inL (namesL [a, b]) x = true → fitI x from fun x hx => by
    rw [inL_iff] at hx
    simp [namesL] at hx
    rcases hx with ⟨y, hy, rfl⟩ | ⟨y, hy, rfl⟩
    · exact (hfa y hy).1
    · exact (hfb y hy).1)
  have HMem := Lib.hid (show ∀ x, x ∈ catsOf a ∨ x ∈ catsOf b → inL (namesL [a, b]) x = true from fun x hx => by
    rw [inL_iff]
    simpa [namesL, catsOf] using hx)
  have HLa := Lib.hid (fun c => lAt_fit hfa c)
  have HLb := Lib.hid (fun c => lAt_fit hfb c)
  have HNL := Lib.hid hnl
  clear hfa hfb hnl
  have st := St.start w
  go_enter Try.func12, Try.ntmps12
  go_wp2_with (first
    | go_skip | (refine wpList_zMake 3 3 (fun c => max (lAt a c) (lAt b c)) (wanted_none rfl) _ rfl ?_; intro mz w0 hmz hZ hb0; have hlz := hZ.lt; replace st := st.call hb0; clear hb0)
    | (refine wpList_buildV2 st (wanted_none rfl) 52 23 _ _ rfl Try.underlying52 Try.sizeOf23 Try.zeroValue23 _ _ _ _ _ _ rfl rfl ?_; have st0 := st; clear st; intro g1 w1 hg1 st hb1; simp at st; replace hZ := hZ.below hb1)
    | (go_at_call 31; go_must (refine (HNm.out _ g1 (labels2 (st.blk _ (List.mem_of_getElem? (i := 0) rfl)) (hA.below st.below) (hB'.below st.below))).mono ?_; rintro e v2 ⟨bm, rfl, hbm, hb2, hM⟩; have hzs := hZ.lt; replace hZ := hZ.below hb2; replace st := st.call hb2; clear hb2))
    | (at_range; go_must (refine wpList_setRange hM (int_keyed Try.underlying3) rfl _ 47 rfl Try.underlying47 rfl ?_; intro r w3 cnt0 hr0 hrg hb3; have hzs2 := hZ.lt; have hml := hM.lt; replace hZ := hZ.below hb3; replace st := st.call hb3; clear hb3)))
  go_frame
  have hzr : mz ≠ r := by omega
  have hzb : mz ≠ bm := by omega
  have hbw : w.heap.size ≤ r := by omega
  have hB0 := st.below
  clear st st0 hM hg1 hbm hr0 hml hzs hzs2 hlz hb1
  go_loopw [6] (fun _ wr => ∃ seen cnt, RangeB Try.prog 3 4 wr bm r (namesL [a, b]).length (namesL [a, b]) seen cnt ∧ MapZ Try.prog 3 3 wr mz seen.length seen (fun c => max (lAt a c) (lAt b c)) ∧ Below w.heap.size w wr ∧ Hid (seen.Nodup ∧ ∀ x ∈ seen, inL (namesL [a, b]) x = true)) (fun _ wr => wr.rangeLeft bm r)
  case atStart => exact ⟨[], _, hrg, hZ, hB0, List.nodup_nil, by simp⟩
  case round =>
    clear hrg hB0 hZ
    obtain ⟨seen, cnt, hrg, hZ, hB, hN⟩ := hrel
    have hm0 := hrg.left_eq
    go_wp2_with (first | go_skip | (at_next; refine wpList_setNext1 hrg (int_keyed Try.underlying3) Try.underlying3 Try.underlying4 rfl _ rfl rfl (fun hD => RowKit.Hid.out ?_) (fun x c w4 cnt4 hfx hx hns hrg4 hcnt hg4 hz4 hen => RowKit.Hid.out ?_)))
    · refine Lib.hid ?_
      have hsl := seen_le hN.out.1 hN.out.2
      rw [HNL.out] at hsl
      have HD := Lib.hid (fun l (h : MadeOf seen (fun c => max (lAt a c) (lAt b c)) l) => made_both (f := max) (by decide) h fun c hc => hD.out c (HFit.out c (HMem.out c hc)) (HMem.out c hc))
      go_wp2_with (first | go_skip | (go_at_call 32; go_must (refine (ref_made _ mz _ seen _ (fun x hx => HFit.out x (hN.out.2 x hx)) (by omega) hZ).mono ?_; rintro e v5 ⟨l, o, c, rfl, hMd, hll, hb5, hS5⟩; obtain rfl := HD.out l hMd)))
      have hBs := hB.size
      go_ret
      exact ⟨o, c, rfl, hB.keep hb5, hS5.okay fun b hb => Nat.le_trans hBs hb⟩
    · refine Lib.hid ?_
      have hB4 : Below w.heap.size w w4 := hB.grown hg4 hB.size fun q hq => by simp at hq; omega
      have hZ4 := hZ.kept hg4 (by simp; exact fun h => hzr h.symm)
      have hZl := hZ4.lt
      have st := St.start w4
      have HA := Lib.hid (fun (W : World) (h : Below w.heap.size w W) => ref_At ok W la ca a x (hA.below h))
      have HB := Lib.hid (fun (W : World) (h : Below w.heap.size w W) => ref_At ok W lb cb b x (hB'.below h))
      have HN4 := Lib.hid (show (seen ++ [x]).Nodup ∧ ∀ y ∈ seen ++ [x], inL (namesL [a, b]) y = true from ⟨List.nodup_append.2 ⟨hN.out.1, by simp, fun a ha b hb => by simp at hb; subst hb; intro he; subst he; exact (inL_not _ _).1 hns ha⟩, fun y hy => by
        rcases List.mem_append.1 hy with hy | hy
        · exact hN.out.2 y hy
        · simp at hy; subst hy; exact hx⟩)
      have hsl := seen_le hN.out.1 hN.out.2
      rw [HNL.out] at hsl
      have hfm : fitI (if lAt a x < lAt b x then lAt b x else lAt a x) := by have h1 := HLa.out x; have h2 := HLb.out x; split <;> assumption
      have hfm2 : fitI (max (lAt a x) (lAt b x)) := by have h1 := HLa.out x; have h2 := HLb.out x; unfold fitI at *; omega
      have HI := Lib.hid (show (if lAt a x < lAt b x then lAt b x else lAt a x) = max (lAt a x) (lAt b x) by split <;> omega)
      have hsm : seen.length < maxLen := by unfold maxLen; omega
      have hrl := hrg4.lt
      clear hrg hx hg4 hN hns hZ
      have tk := trivial
      go_wp2_with (first
        | go_skip
        | (go_at_call 22; clear tk; go_must (refine (HA.out _ (hB4.keep st.below)).mono ?_; rintro e v6 ⟨rfl, hb6⟩; replace hZ4 := hZ4.below hb6; replace hrg4 := hrg4.below hb6; replace st := st.call hb6; clear hb6))
        | (go_at_call 22; go_must (refine (HB.out _ (hB4.keep st.below)).mono ?_; rintro e v7 ⟨rfl, hb7⟩; replace hZ4 := hZ4.below hb7; replace hrg4 := hrg4.below hb7; replace st := st.call hb7; clear hb7))
        | (at_mapUpdate; go_must (refine wpList_zUpdate hZ4 (int_keyed Try.underlying3) Try.underlying3 (wanted_none rfl) _ _ _ 46 rfl Try.underlying46 Try.underlying3 hsm rfl _ _ rfl hfx rfl (by first | exact hfm | exact hfm2) ?_; intro w8 hZ8 hg8)))
      all_goals
        go_roundw
        case rel =>
          have hrg8 := hrg4.kept hg8 (by simp; exact fun h => hzb h.symm) (by simp; exact fun h => hzr h.symm)
          have hZ9 := hZ8.congr (val' := fun c => max (lAt a c) (lAt b c)) (fun y _ => by
            by_cases hyx : y = x
            · subst hyx; rw [if_pos rfl]; first | exact HI.out | rfl
            · rw [if_neg hyx])
          exact ⟨_, ⟨_, hrg8⟩, by simpa using hZ9, (hB4.keep st.below).grown hg8 (hB4.keep st.below).size fun q hq => (by simp at hq; omega), HN4⟩
        case measure => rw [(hrg4.kept hg8 (by simp; exact fun h => hzb h.symm) (by simp; exact fun h => hzr h.symm)).left_eq]; exact hcnt

set_option maxRecDepth 100000 in
set_option maxHeartbeats 4000000 in
theorem ref_Meet (ok : Nat → Prop) (w : World) (la lb : Option Addr) (ca cb : Nat) (a b : List Lev) (hfa : ∀ y ∈ a, y.fit) (hfb : ∀ y ∈ b, y.fit) (hn : (a.length + b.length) * 16 ≤ 140737488355328)
    (hA : SlR ok w 2 RLev la ca a) (hB' : SlR ok w 2 RLev lb cb b) :
    Calls Try.prog 14 #[.slice la a.length ca, .slice lb b.length cb] w fun e w' => ∃ o c, e = .returned (.slice o (bothL min a b).length c) ∧ Below w.heap.size w w' ∧ SlR (fun b => w.heap.size ≤ b) w' 2 RLev o c (bothL min a b) := by
  have hnl : (namesL [a, b]).length = a.length + b.length := by simp [namesL]
  have HNm := Lib.hid (fun (W : World) (g : Nat) (h : LabelsR (fun _ => True) W (some ⟨g, 0, none⟩) 2 [a, b]) => ref_names (fun _ => True) W (some ⟨g, 0, none⟩) 2 [a, b] (fun x hx y hy => by
    simp at hx
    rcases hx with rfl | rfl
    · exact (hfa y hy).1
    · exact (hfb y hy).1) (by rw [hnl]; unfold maxLen; omega) h)
  have HFit := Lib.hid (show ∀ x, inL (namesL [a, b]) x = true → fitI x from fun x hx => by
    rw [inL_iff] at hx
    simp [namesL] at hx
    rcases hx with ⟨y, hy, rfl⟩ | ⟨y, hy, rfl⟩
    · exact (hfa y hy).1
    · exact (hfb y hy).1)
  have HMem := Lib.hid (show ∀ x, x ∈ catsOf a ∨ x ∈ catsOf b → inL (namesL [a, b]) x = true from fun x hx => by
    rw [inL_iff]
    simpa [namesL, catsOf] using hx)
  have HLa := Lib.hid (fun c => lAt_fit hfa c)
  have HLb := Lib.hid (fun c => lAt_fit hfb c)
  have HNL := Lib.hid hnl
  clear hfa hfb hnl
  have st := St.start w
  go_enter Try.func14, Try.ntmps14
  go_wp2_with (first
    | go_skip | (refine wpList_zMake 3 3 (fun c => min (lAt a c) (lAt b c)) (wanted_none rfl) _ rfl ?_; intro mz w0 hmz hZ hb0; have hlz := hZ.lt; replace st := st.call hb0; clear hb0)
    | (refine wpList_buildV2 st (wanted_none rfl) 52 23 _ _ rfl Try.underlying52 Try.sizeOf23 Try.zeroValue23 _ _ _ _ _ _ rfl rfl ?_; have st0 := st; clear st; intro g1 w1 hg1 st hb1; simp at st; replace hZ := hZ.below hb1)
    | (go_at_call 31; go_must (refine (HNm.out _ g1 (labels2 (st.blk _ (List.mem_of_getElem? (i := 0) rfl)) (hA.below st.below) (hB'.below st.below))).mono ?_; rintro e v2 ⟨bm, rfl, hbm, hb2, hM⟩; have hzs := hZ.lt; replace hZ := hZ.below hb2; replace st := st.call hb2; clear hb2))
    | (at_range; go_must (refine wpList_setRange hM (int_keyed Try.underlying3) rfl _ 47 rfl Try.underlying47 rfl ?_; intro r w3 cnt0 hr0 hrg hb3; have hzs2 := hZ.lt; have hml := hM.lt; replace hZ := hZ.below hb3; replace st := st.call hb3; clear hb3)))
  go_frame
  have hzr : mz ≠ r := by omega
  have hzb : mz ≠ bm := by omega
  have hbw : w.heap.size ≤ r := by omega
  have hB0 := st.below
  clear st st0 hM hg1 hbm hr0 hml hzs hzs2 hlz hb1
  go_loopw [6] (fun _ wr => ∃ seen cnt, RangeB Try.prog 3 4 wr bm r (namesL [a, b]).length (namesL [a, b]) seen cnt ∧ MapZ Try.prog 3 3 wr mz seen.length seen (fun c => min (lAt a c) (lAt b c)) ∧ Below w.heap.size w wr ∧ Hid (seen.Nodup ∧ ∀ x ∈ seen, inL (namesL [a, b]) x = true)) (fun _ wr => wr.rangeLeft bm r)
  case atStart => exact ⟨[], _, hrg, hZ, hB0, List.nodup_nil, by simp⟩
  case round =>
    clear hrg hB0 hZ
    obtain ⟨seen, cnt, hrg, hZ, hB, hN⟩ := hrel
    have hm0 := hrg.left_eq
    go_wp2_with (first | go_skip | (at_next; refine wpList_setNext1 hrg (int_keyed Try.underlying3) Try.underlying3 Try.underlying4 rfl _ rfl rfl (fun hD => RowKit.Hid.out ?_) (fun x c w4 cnt4 hfx hx hns hrg4 hcnt hg4 hz4 hen => RowKit.Hid.out ?_)))
    · refine Lib.hid ?_
      have hsl := seen_le hN.out.1 hN.out.2
      rw [HNL.out] at hsl
      have HD := Lib.hid (fun l (h : MadeOf seen (fun c => min (lAt a c) (lAt b c)) l) => made_both (f := min) (by decide) h fun c hc => hD.out c (HFit.out c (HMem.out c hc)) (HMem.out c hc))
      go_wp2_with (first | go_skip | (go_at_call 32; go_must (refine (ref_made _ mz _ seen _ (fun x hx => HFit.out x (hN.out.2 x hx)) (by omega) hZ).mono ?_; rintro e v5 ⟨l, o, c, rfl, hMd, hll, hb5, hS5⟩; obtain rfl := HD.out l hMd)))
      have hBs := hB.size
      go_ret
      exact ⟨o, c, rfl, hB.keep hb5, hS5.okay fun b hb => Nat.le_trans hBs hb⟩
    · refine Lib.hid ?_
      have hB4 : Below w.heap.size w w4 := hB.grown hg4 hB.size fun q hq => by simp at hq; omega
      have hZ4 := hZ.kept hg4 (by simp; exact fun h => hzr h.symm)
      have hZl := hZ4.lt
      have st := St.start w4
      have HA := Lib.hid (fun (W : World) (h : Below w.heap.size w W) => ref_At ok W la ca a x (hA.below h))
      have HB := Lib.hid (fun (W : World) (h : Below w.heap.size w W) => ref_At ok W lb cb b x (hB'.below h))
      have HN4 := Lib.hid (show (seen ++ [x]).Nodup ∧ ∀ y ∈ seen ++ [x], inL (namesL [a, b]) y = true from ⟨List.nodup_append.2 ⟨hN.out.1, by simp, fun a ha b hb => by simp at hb; subst hb; intro he; subst he; exact (inL_not _ _).1 hns ha⟩, fun y hy => by
        rcases List.mem_append.1 hy with hy | hy
        · exact hN.out.2 y hy
        · simp at hy; subst hy; exact hx⟩)
      have hsl := seen_le hN.out.1 hN.out.2
      rw [HNL.out] at hsl
      have hfm : fitI (if lAt b x < lAt a x then lAt b x else lAt a x) := by have h1 := HLa.out x; have h2 := HLb.out x; split <;> assumption
      have hfm2 : fitI (min (lAt a x) (lAt b x)) := by have h1 := HLa.out x; have h2 := HLb.out x; unfold fitI at *; omega
      have HI := Lib.hid (show (if lAt b x < lAt a x then lAt b x else lAt a x) = min (lAt a x) (lAt b x) by split <;> omega)
      have hsm : seen.length < maxLen := by unfold maxLen; omega
      have hrl := hrg4.lt
      clear hrg hx hg4 hN hns hZ
      have tk := trivial
      go_wp2_with (first
        | go_skip
        | (go_at_call 22; clear tk; go_must (refine (HA.out _ (hB4.keep st.below)).mono ?_; rintro e v6 ⟨rfl, hb6⟩; replace hZ4 := hZ4.below hb6; replace hrg4 := hrg4.below hb6; replace st := st.call hb6; clear hb6))
        | (go_at_call 22; go_must (refine (HB.out _ (hB4.keep st.below)).mono ?_; rintro e v7 ⟨rfl, hb7⟩; replace hZ4 := hZ4.below hb7; replace hrg4 := hrg4.below hb7; replace st := st.call hb7; clear hb7))
        | (at_mapUpdate; go_must (refine wpList_zUpdate hZ4 (int_keyed Try.underlying3) Try.underlying3 (wanted_none rfl) _ _ _ 46 rfl Try.underlying46 Try.underlying3 hsm rfl _ _ rfl hfx rfl (by first | exact hfm | exact hfm2) ?_; intro w8 hZ8 hg8)))
      all_goals
        go_roundw
        case rel =>
          have hrg8 := hrg4.kept hg8 (by simp; exact fun h => hzb h.symm) (by simp; exact fun h => hzr h.symm)
          have hZ9 := hZ8.congr (val' := fun c => min (lAt a c) (lAt b c)) (fun y _ => by
            by_cases hyx : y = x
            · subst hyx; rw [if_pos rfl]; first | exact HI.out | rfl
            · rw [if_neg hyx])
          exact ⟨_, ⟨_, hrg8⟩, by simpa using hZ9, (hB4.keep st.below).grown hg8 (hB4.keep st.below).size fun q hq => (by simp at hq; omega), HN4⟩
        case measure => rw [(hrg4.kept hg8 (by simp; exact fun h => hzb h.symm) (by simp; exact fun h => hzr h.symm)).left_eq]; exact hcnt

end Go.Proofs.Ytnihccinpbpllaa

/- The walk through parcloseref.Set. -/
namespace Go.Proofs.Ytnihccinpbpllaa
open Go.RowKit
open Go.Maps (Keyed IsMap int_keyed)

theorem made_set {l L : List Lev} {c n : Int} (hg : goodL l = true) (hc : 0 ≤ c ∧ c < 80) (hn : 0 ≤ n ∧ n ≤ 3) (h : MadeOf (catsOf l ++ [c]) (fun x => if x = c then n else lAt l x) L) : L = setL l c n := by
  refine norm_ext h.1 (set_norm hg hc hn) fun d => ?_
  rw [h.2 d, lAt_set, inL_snoc]
  by_cases hd : d = c
  · rw [if_pos hd, if_pos rfl, if_pos hd]
    show (if d = c then n else lAt l d) = n
    rw [if_pos hd]
  · rw [if_neg hd, if_neg hd]
    show (if inL (catsOf l) d = true then (if d = c then n else lAt l d) else 1) = lAt l d
    rw [if_neg hd]
    cases hi : inL (catsOf l) d
    · rw [lAt_out ((inL_not _ _).1 hi)]; rfl
    · rfl

set_option maxRecDepth 100000 in
set_option maxHeartbeats 4000000 in
theorem ref_Set (ok : Nat → Prop) (w : World) (la : Option Addr) (lc : Nat) (l : List Lev) (c n : Int) (hfit : ∀ y ∈ l, y.fit) (hR : SlR ok w 2 RLev la lc l) (r : List Lev × Int) (hr : setR l c n = r) :
    Calls Try.prog 28 #[.slice la l.length lc, .int .i64 c, .int .i64 n] w fun e w' => ∃ a k, e = .returned (.tuple #[.slice a r.1.length k, .int .i64 r.2]) ∧ Below w.heap.size w w' ∧ SlR (fun _ => True) w' 2 RLev a k r.1 := by
  have HG := Lib.hid (fun (W : World) (h : Below w.heap.size w W) => ref_GoodLabel ok W la lc l (hR.below h))
  have st := St.start w
  by_cases hno : goodL l = false ∨ catOk c = false ∨ n < 0 ∨ 3 < n
  · have HR := Lib.hid (show r = ([], 2) by
      rw [← hr]
      unfold setR
      rw [if_neg]
      rintro ⟨a1, a2, a3⟩
      rcases hno with h | h | h | h
      · rw [h] at a1; cases a1
      · have := (catOk_iff c).2 a2; rw [h] at this; cases this
      · omega
      · omega)
    clear hr hfit
    cases h1 : goodL l
    · have H1 := Lib.hid h1
      clear h1 hno
      go_enter Try.func28, Try.ntmps28
      go_wp2_with (first | go_skip | (go_at_call 20; go_must (refine (HG.out _ st.below).mono ?_; rintro e v2 ⟨rfl, hb2⟩; rw [H1.out]; replace st := st.call hb2; clear hb2)))
      go_ret2
      rw [HR.out]
      exact ⟨none, 0, rfl, st.below, SlR.nil _ _ _ _⟩
    · have H1 := Lib.hid h1
      rw [h1] at hno
      cases h2 : catOk c
      · have H2 := Lib.hid h2
        clear h1 h2 hno
        go_enter Try.func28, Try.ntmps28
        go_wp2_with (first
          | go_skip | (go_at_call 20; go_must (refine (HG.out _ st.below).mono ?_; rintro e v2 ⟨rfl, hb2⟩; rw [H1.out]; replace st := st.call hb2; clear hb2))
          | (go_at_call 24; go_must (refine (ref_IsCategory c _).mono ?_; rintro e v ⟨rfl, rfl⟩; rw [H2.out])))
        go_ret2
        rw [HR.out]
        exact ⟨none, 0, rfl, st.below, SlR.nil _ _ _ _⟩
      · have H2 := Lib.hid h2
        rw [h2] at hno
        by_cases h3 : n < 0
        · have d3 : decide (n < 0) = true := by simpa using h3
          clear h1 h2 hno h3
          go_enter Try.func28, Try.ntmps28
          go_wp2_with (first
            | go_skip | (go_at_call 20; go_must (refine (HG.out _ st.below).mono ?_; rintro e v2 ⟨rfl, hb2⟩; rw [H1.out]; replace st := st.call hb2; clear hb2))
            | (go_at_call 24; go_must (refine (ref_IsCategory c _).mono ?_; rintro e v ⟨rfl, rfl⟩; rw [H2.out])))
          go_ret2
          rw [HR.out]
          exact ⟨none, 0, rfl, st.below, SlR.nil _ _ _ _⟩
        · have d3 : decide (n < 0) = false := by simpa using h3
          have d4 : decide (3 < n) = true := by simp at hno ⊢; omega
          clear h1 h2 hno h3
          go_enter Try.func28, Try.ntmps28
          go_wp2_with (first
            | go_skip | (go_at_call 20; go_must (refine (HG.out _ st.below).mono ?_; rintro e v2 ⟨rfl, hb2⟩; rw [H1.out]; replace st := st.call hb2; clear hb2))
            | (go_at_call 24; go_must (refine (ref_IsCategory c _).mono ?_; rintro e v ⟨rfl, rfl⟩; rw [H2.out])))
          go_ret2
          rw [HR.out]
          exact ⟨none, 0, rfl, st.below, SlR.nil _ _ _ _⟩
  · have h1 : goodL l = true := by cases h : goodL l; exact absurd (.inl h) hno; rfl
    have h2 : catOk c = true := by cases h : catOk c; exact absurd (.inr (.inl h)) hno; rfl
    have h3 : 0 ≤ n ∧ n ≤ 3 := by omega
    have hc := (catOk_iff c).1 h2
    have H1 := Lib.hid h1
    have H2 := Lib.hid h2
    have d3 : decide (n < 0) = false := by simp; omega
    have d4 : decide (3 < n) = false := by simp; omega
    have hlen : l.length ≤ 8 := ((goodL_iff l).1 h1).1
    have HNo := good_norm h1
    have HAt := Lib.hid (fun x (hx : x ∈ l) => lAt_mem HNo.1 hx)
    have HFl := Lib.hid hfit
    have HS := Lib.hid (fun L h => made_set (L := L) h1 hc h3 h)
    have HR := Lib.hid (show (if (setL l c n).length ≤ 8 then (setL l c n, 0) else (([], 5) : List Lev × Int)) = r by
      rw [← hr]
      unfold setR
      rw [if_pos (show goodL l = true ∧ (0 ≤ c ∧ c < 80) ∧ 0 ≤ n ∧ n ≤ 3 from ⟨h1, hc, h3⟩)])
    have hfc : fitI c := by unfold fitI; omega
    have hfn : fitI n := by unfold fitI; omega
    have HCl := Lib.hid (show (catsOf l).length = l.length by simp [catsOf])
    have HCF := Lib.hid (show ∀ x ∈ catsOf l ++ [c], fitI x from fun x hx => by
      rcases List.mem_append.1 hx with hx | hx
      · obtain ⟨y, hy, rfl⟩ := List.mem_map.1 hx
        exact (hfit y hy).1
      · simp at hx; subst hx; exact hfc)
    clear h1 h2 hno hr hfit HNo hc h3
    go_enter Try.func28, Try.ntmps28
    go_wp2_with (first
      | go_skip | (go_at_call 20; go_must (refine (HG.out _ st.below).mono ?_; rintro e v2 ⟨rfl, hb2⟩; rw [H1.out]; replace st := st.call hb2; clear hb2))
      | (go_at_call 24; go_must (refine (ref_IsCategory c _).mono ?_; rintro e v ⟨rfl, rfl⟩; rw [H2.out]))
      | (refine wpList_zMake 3 3 (fun x => lAt l x) (wanted_none rfl) _ rfl ?_; intro mz w0 hmz hZ hb0; have hzw := st.size; replace st := st.call hb0; clear hb0))
    have hB0 := st.below
    have hmw : w.heap.size ≤ mz := by omega
    clear st hmz hzw
    go_loopw [31] (fun i wr => ∃ k : Nat, k ≤ l.length ∧ i = .int .i64 k ∧ Below w.heap.size w wr ∧ MapZ Try.prog 3 3 wr mz k ((catsOf l).take k) (fun x => lAt l x)) (fun i _ => l.length - (intOf i).toNat)
    case atStart => exact ⟨0, Nat.zero_le _, rfl, hB0, hZ⟩
    case round =>
      clear hZ hB0
      obtain ⟨k, hk, rfl, hB, hZ⟩ := hrel
      by_cases hlt : k < l.length
      · obtain ⟨b, o, rfl, hb, _⟩ := hR.lev_at k hlt
        have hrow := (hR.below hB).lev_row k hlt
        have hfx := HFl.out l[k] (List.getElem_mem hlt)
        have hfx1 := hfx.1
        have hfx2 := hfx.2
        have HA := Lib.hid (HAt.out l[k] (List.getElem_mem hlt))
        have HT := Lib.hid (show (catsOf l).take (k + 1) = (catsOf l).take k ++ [l[k].c] by
          rw [List.take_succ_eq_append_getElem (by rw [HCl.out]; exact hlt)]
          simp [catsOf])
        have hkm : k < maxLen := by unfold maxLen; omega
        have st := St.start wr
        clear hfx
        go_wp2_with (first
          | go_skip | (with_reducible refine at_load 43 ?_; refine wpList_load_cells (wanted_none rfl) 43 _ rfl Try.isAgg43 _ Try.sizeOf43 b (o + k * 2) rfl [.int .i64 l[k].c, .int .i64 l[k].l] rfl hrow ?_) | (with_reducible refine at_alloc 43 ?_; refine mem_alloc st (wanted_none rfl) 43 rfl _ Try.zeroValue43 _ rfl ?_; clear st; intro g1 w1 hg1 st hg1b; clear hg1b; simp [Act.eval, Act.put, Value.cells, putL] at st) | (with_reducible refine at_store 43 ?_; (first | refine mem_store' st 43 _ _ rfl (wanted_none rfl) _ Try.sizeOf43 ?_ | (refine mem_store' st 43 _ _ rfl (wanted_some rfl ?_) _ Try.sizeOf43 ?_; focus (simp [yielded, Act.put]; done))); refine ⟨0, _, _, _, _, _, rfl, rfl, rfl, rfl, rfl, rfl, ?_⟩; clear st; intro w2 st hw2m hw2z; simp [Act.eval, Act.put, Value.cells, putL] at st) | (with_reducible refine at_load 3 ?_; (first | refine mem_load' st 3 _ rfl (wanted_none rfl) Try.isAgg3 ?_ | (refine mem_load' st 3 _ rfl (wanted_some rfl ?_) Try.isAgg3 ?_; focus (simp [yielded, Act.put]; done))); refine ⟨0, _, _, _, _, _, rfl, rfl, rfl, ?_⟩)
          | (at_mapUpdate; go_must (refine wpList_zUpdate (hZ.below st.below) (int_keyed Try.underlying3) Try.underlying3 (wanted_none rfl) _ _ _ 46 rfl Try.underlying46 Try.underlying3 hkm rfl _ _ rfl hfx1 rfl hfx2 ?_; intro w8 hZ8 hg8)))
        go_roundw
        case rel =>
          have hZ9 := hZ8.congr (val' := fun x => lAt l x) (fun y _ => by
            by_cases hyx : y = l[k].c
            · subst hyx; rw [if_pos rfl]; exact HA.out.symm
            · rw [if_neg hyx])
          exact ⟨k + 1, hlt, by go_num, (hB.keep st.below).grown hg8 (hB.keep st.below).size fun q hq => (by simp at hq; omega), by rw [HT.out]; exact hZ9⟩
        case measure => simp [intOf]; omega
      · have hkn : (catsOf l).take k = catsOf l := List.take_of_length_le (by rw [HCl.out]; omega)
        rw [hkn] at hZ
        have hkm : k < maxLen := by unfold maxLen; omega
        clear hkn
        by_cases h8 : 8 < (setL l c n).length
        · have d5 : decide ((8 : Int) < ((setL l c n).length : Int)) = true := by simp; omega
          have HRR := Lib.hid (show r = ([], 5) by rw [← HR.out, if_neg (by omega)])
          clear h8
          go_wp2_with (first
            | go_skip
            | (at_mapUpdate; go_must (refine wpList_zUpdate hZ (int_keyed Try.underlying3) Try.underlying3 (wanted_none rfl) _ _ _ 46 rfl Try.underlying46 Try.underlying3 hkm rfl _ _ rfl hfc rfl hfn ?_; intro w8 hZ8 hg8))
            | (go_at_call 32; go_must (refine (ref_made _ mz _ (catsOf l ++ [c]) _ HCF.out (by rw [List.length_append, HCl.out]; simp; omega) hZ8).mono ?_; rintro e v5 ⟨L, o, q, rfl, hMd, hll, hb5, hS5⟩; obtain rfl := HS.out L hMd)))
          go_ret2
          rw [HRR.out]
          exact ⟨none, 0, rfl, (hB.grown hg8 hB.size fun q hq => (by simp at hq; omega)).keep hb5, SlR.nil _ _ _ _⟩
        · have d5 : decide ((8 : Int) < ((setL l c n).length : Int)) = false := by simp; omega
          have HRR := Lib.hid (show r = (setL l c n, 0) by rw [← HR.out, if_pos (by omega)])
          clear h8
          go_wp2_with (first
            | go_skip
            | (at_mapUpdate; go_must (refine wpList_zUpdate hZ (int_keyed Try.underlying3) Try.underlying3 (wanted_none rfl) _ _ _ 46 rfl Try.underlying46 Try.underlying3 hkm rfl _ _ rfl hfc rfl hfn ?_; intro w8 hZ8 hg8))
            | (go_at_call 32; go_must (refine (ref_made _ mz _ (catsOf l ++ [c]) _ HCF.out (by rw [List.length_append, HCl.out]; simp; omega) hZ8).mono ?_; rintro e v5 ⟨L, o, q, rfl, hMd, hll, hb5, hS5⟩; obtain rfl := HS.out L hMd)))
          go_ret2
          rw [HRR.out]
          exact ⟨o, q, rfl, (hB.grown hg8 hB.size fun q hq => (by simp at hq; omega)).keep hb5, hS5.okay fun _ _ => trivial⟩

end Go.Proofs.Ytnihccinpbpllaa
