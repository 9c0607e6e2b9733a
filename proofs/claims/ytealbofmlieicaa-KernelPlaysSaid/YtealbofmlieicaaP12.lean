/- Walks and plain laws, part 12. -/
import Derived.Test.YtealbofmlieicaaP10
import Derived.Test.YtealbofmlieicaaP11
import Derived.Maps.OwnSet
import Derived.ArgAppend
set_option linter.unusedSimpArgs false
set_option linter.unusedVariables false
set_option maxHeartbeats 16000000
set_option maxRecDepth 100000
namespace Go.Proofs.Ytealbofmlieicaa
open Go.RowKit
def answX (g : Bool) (sent : List Sent) (seq : Int) : Int × List Sent :=
 if g = false then (2, sent) else if (sent.filter (offSeq seq)).length = sent.length then (4, sent) else (0, sent.filter (offSeq seq))
theorem St.grownNew {M : List Nat} {w0 w w' : World} {own : Blks} {row : Option Nat} (st : St M w0 w own) (hg : w.grownBy w' row) (hrow : ∀ k, row = some k → w0.heap.size ≤ k) (hn : ∀ x ∈ own, row ≠ some x.1) : St M w0 w' own := by
 refine ⟨hg.os.trans st.os, hg.tape.trans st.tape, hg.output.trans st.output, Nat.le_trans st.size hg.size, fun b hb hM => ?_, fun x hx => ?_, st.mine, st.ne⟩
 ·rw [hg.block b (Nat.lt_of_lt_of_le hb st.size) (fun e => by have := hrow _ e.symm; omega), st.frame b hb hM]
 ·rw [hg.block _ (st.lt hx) fun e => hn x hx e.symm]
  exact st.blk x hx
theorem St.comp {M : List Nat} {w0 w1 w2 : World} {own1 own2 : Blks} (h1 : St M w0 w1 own1) (h2 : St M w1 w2 own2) : St M w0 w2 own2 :=
 ⟨h2.os.trans h1.os, h2.tape.trans h1.tape, h2.output.trans h1.output, Nat.le_trans h1.size h2.size, fun b hb hM => (h2.frame b (Nat.lt_of_lt_of_le hb h1.size) hM).trans (h1.frame b hb hM), h2.blk,
  fun x hx => (h2.mine x hx).imp id fun h => Nat.le_trans h1.size h, h2.ne⟩
def keepS (now : Int) (s : Sent) : Option Sent := if now < s.due then some s else if s.tries < 5 then some { s with tries := s.tries + 1, due := now + 2 ^ (s.tries + 1).toNat } else none
def outS (now : Int) (s : Sent) : Option Frame := if now < s.due then none else if s.tries < 5 then some s.frame else none
structure AgainX where
 k : Int
 sent : List Sent
 out : List Frame
def againX (g : Bool) (sent : List Sent) (now : Int) : AgainX :=
 if g = false ∨ now < 0 ∨ 1099511627776 < now then ⟨2, sent, []⟩ else ⟨0, sent.filterMap (keepS now), sent.filterMap (outS now)⟩
theorem World.grownBy.ofBelow {w w' : World} (h : Below w.heap.size w w') (row : Option Nat) : w.grownBy w' row := ⟨h.os, h.tape, h.output, h.size, fun k hk _ => h.block k hk⟩
structure Aside (r1 r2 : Option Nat) (w w' : World) : Prop where
 os : w'.os = w.os
 tape : w'.tape = w.tape
 output : w'.output = w.output
 size : w.heap.size ≤ w'.heap.size
 block : ∀ b, b < w.heap.size → r1 ≠ some b → r2 ≠ some b → w'.heap[b]? = w.heap[b]?
theorem Aside.refl (r1 r2 : Option Nat) (w : World) : Aside r1 r2 w w := ⟨rfl, rfl, rfl, Nat.le_refl _, fun _ _ _ _ => rfl⟩
theorem Aside.grown {r1 r2 r : Option Nat} {w w' w'' : World} (h : Aside r1 r2 w w') (hg : w'.grownBy w'' r) (hr : r = none ∨ r = r1 ∨ r = r2) : Aside r1 r2 w w'' :=
 ⟨hg.os.trans h.os, hg.tape.trans h.tape, hg.output.trans h.output, Nat.le_trans h.size hg.size, fun b hb h1 h2 => (hg.block b (Nat.lt_of_lt_of_le hb h.size) (by
  rcases hr with rfl | rfl | rfl
  ·simp
  ·exact fun e => h1 e.symm
  ·exact fun e => h2 e.symm)).trans (h.block b hb h1 h2)⟩
theorem Aside.drew {r1 r2 : Option Nat} {w w' : World} (h : Aside r1 r2 w w') : Aside r1 r2 w w'.drew := h.grown (World.grownBy.ofBelow (Below.refl _ _).drew none) (.inl rfl)
theorem Own.drew {b : Nat} {e : TypeId} {w : World} {α : Type} {sz : Nat} {R : List Value → α → Prop} {a : Option Addr} {c : Nat} {xs : List α} (h : Own b e w sz R a c xs) : Own b e w.drew sz R a c xs := h.below (Below.refl _ _).drew
open Go.Maps (Keyed IsMap)
section
variable {P : Program} {k e t : TypeId} {w w' : World} {b n : Nat} {f : Lit → Bool}
def MapB (P : Program) (k e : TypeId) (w : World) (b n : Nat) (f : Lit → Bool) : Prop :=
 ∃ D : DataW Unit, w.ownsMap P k (plainElem P e) b n D ∧ IsMap D ∧ ∀ kl, WideAt.IsKeyLit kl → D.atKey kl (.lit (.bool false)) = .lit (.bool (f kl))
theorem MapB.made (P : Program) (k e : TypeId) (w : World) : MapB P k e (w.alloc (.map #[] 0)) w.heap.size 0 fun _ => false :=
 ⟨.map [], World.ownsMap_made w P k _, Maps.isMap_empty, fun _ _ => rfl⟩
theorem MapB.kept {row : Option Nat} (h : MapB P k e w b n f) (hg : w.grownBy w' row) (hne : row ≠ some b) : MapB P k e w' b n f := by
 obtain ⟨D, h1, h2⟩ := h
 exact ⟨D, h1.kept hg fun e => hne e.symm, h2⟩
theorem MapB.below (h : MapB P k e w b n f) (hb : Below w.heap.size w w') : MapB P k e w' b n f := h.kept (World.grownBy.ofBelow hb none) (by simp)
theorem MapB.lt (h : MapB P k e w b n f) : b < w.heap.size := by
 obtain ⟨D, h1, _⟩ := h
 exact h1.lt
theorem MapB.block (h : MapB P k e w b n f) (hs : w.heap.size ≤ w'.heap.size) (hb : w'.heap[b]? = w.heap[b]?) : MapB P k e w' b n f := by
 obtain ⟨D, ⟨es, clock, h1, h2⟩, h3⟩ := h
 exact ⟨D, ⟨es, clock, hb.trans h1, h2⟩, h3⟩
theorem MapB.update (h : MapB P k e w b n f) (K : Keyed P k) (ht : P.underlying t = some (.map k e)) (he : P.underlying e = some .bool) (hn : n < maxLen) {key : Value} {kl : Lit} (x : Bool) (hkey : keyOf P k key = some kl) :
  ∃ w', (Instr.mapUpdate t (.map (some b)) key (.bool x)).run P w = .ok () w' ∧ MapB P k e w' b (n + 1) (fun l => if l.sameKey kl then x else f l) ∧ w.grownBy w' (some b) := by
 obtain ⟨D, h1, h2, h3⟩ := h
 obtain ⟨w', hrun, h4, h5⟩ := h1.update K ht hn hkey (plainElem_bool he x)
 refine ⟨w', hrun, ⟨_, h4, h2.put _ _, fun l hl => ?_⟩, h5⟩
 show _ = DataW.lit (Lit.bool (if l.sameKey kl = true then x else f l))
 by_cases hlk : l = kl
 ·subst hlk
  rw [if_pos (WideAt.sameKey_self hl), Maps.atKey_put_same h2 hl]
 ·rw [if_neg (by rw [Maps.sameKey_ne hlk]; simp), Maps.atKey_put_other hlk, h3 l hl]
variable {ops : Array Oper} {rest : List Oper} {o : Oper} {A : Act} {Q : Exit → Act → World → Prop} {K' : Act → World → Prop}
end
theorem St.map {M : List Nat} {w0 w w' : World} {own : Blks} {b : Nat} (st : St M w0 w own) (hg : w.grownBy w' (some b)) (hb : w0.heap.size ≤ b) (hn : ∀ x ∈ own, x.1 ≠ b) : St M w0 w' own :=
 st.grownNew hg (fun k e => by simp at e; omega) fun x hx e => hn x hx (by simpa using e.symm)
theorem St.back {M : List Nat} {a w0 w : World} {own0 own : Blks} (h0 : St M a w0 own0) (h : St (own0.map (·.1)) w0 w own) : St M a w own := by
 refine ⟨h.os.trans h0.os, h.tape.trans h0.tape, h.output.trans h0.output, Nat.le_trans h0.size h.size, fun b hb hM => ?_, h.blk, fun x hx => ?_, h.ne⟩
 ·refine (h.frame b (Nat.lt_of_lt_of_le hb h0.size) fun hm => ?_).trans (h0.frame b hb hM)
  obtain ⟨x, hx, rfl⟩ := List.mem_map.1 hm
  rcases h0.mine x hx with h1 | h1
  ·exact hM h1
  ·omega
 ·rcases h.mine x hx with h1 | h1
  ·obtain ⟨y, hy, e⟩ := List.mem_map.1 h1
   rw [← e]
   exact h0.mine y hy
  ·exact .inr (Nat.le_trans h0.size h1)
def OnceInv (good : Bool) (high : Int) (e : Eight) (f : Lit → Bool) : Prop :=
 ∀ x : Int, f (.int .i64 x) = true → good = true ∧ 1 ≤ x ∧ x ≤ high ∧ (high - 8 < x → e.get (high - x).toNat = true)
structure TurnInv (left : List Int) (high : Int) (e : Eight) : Prop where
 nd : left.Nodup
 rng : ∀ x ∈ left, 1 ≤ x ∧ x ≤ 8
 lo : 0 ≤ high
 hi : high ≤ 8
 yes : ∀ x, 1 ≤ x → x ≤ 8 → x ∉ left → x ≤ high ∧ e.get (high - x).toNat = true
 no : ∀ x ∈ left, x ≤ high → e.get (high - x).toNat = false
theorem TurnInv.start : TurnInv [1, 2, 3, 4, 5, 6, 7, 8] 0 ⟨false, false, false, false, false, false, false, false⟩ := by
 refine ⟨by decide, by decide, by decide, by decide, fun x h1 h2 h3 => ?_, fun x h1 h2 => ?_⟩
 ·exfalso
  apply h3
  rcases (show x = 1 ∨ x = 2 ∨ x = 3 ∨ x = 4 ∨ x = 5 ∨ x = 6 ∨ x = 7 ∨ x = 8 by omega) with rfl | rfl | rfl | rfl | rfl | rfl | rfl | rfl <;> decide
 ·have : ∀ x ∈ [1, 2, 3, 4, 5, 6, 7, (8 : Int)], 1 ≤ x := by decide
  have := this x h1
  omega
theorem SlR.take {ok : Nat → Prop} {w : World} {α : Type} {sz : Nat} {R : List Value → α → Prop} {a : Option Addr} {c : Nat} {xs : List α} (h : SlR ok w sz R a c xs) (k : Nat) : SlR ok w sz R a c (xs.take k) := by
 refine ⟨Nat.le_trans (by simp; omega) h.1, h.2.1, h.2.2.1, fun i x hx => h.2.2.2 i x ?_⟩
 rw [List.getElem?_take] at hx
 split at hx
 ·exact hx
 ·cases hx
theorem SlR.drop {ok : Nat → Prop} {w : World} {α : Type} {sz : Nat} {R : List Value → α → Prop} {b o c : Nat} {xs : List α} (h : SlR ok w sz R (some ⟨b, o, none⟩) c xs) (k : Nat) : SlR ok w sz R (some ⟨b, o + k * sz, none⟩) (c - k) (xs.drop k) := by
 refine ⟨by have := h.1; simp; omega, by have := h.2.1; omega, by simp, fun i x hx => ?_⟩
 rw [List.getElem?_drop] at hx
 obtain ⟨b', o', cs, ha, h1, h2, h3, h4, h5, h6⟩ := h.2.2.2 (k + i) x hx
 simp at ha
 obtain ⟨rfl, rfl⟩ := ha
 refine ⟨b, o + k * sz, cs, rfl, h1, h2, h3, h4, h5, fun j v hv => ?_⟩
 rw [← h6 j v hv]
 congr 2
 rw [Nat.add_mul]
 omega
def Queue (base : Nat) (e : TypeId) (w : World) {α : Type} (sz : Nat) (R : List Value → α → Prop) (a : Option Addr) (c : Nat) (xs : List α) : Prop :=
 SlR (fun b => base ≤ b) w sz R a c xs ∧ (0 < c → ∃ g off cur, a = some ⟨g, off, none⟩ ∧ base ≤ g ∧ w.heap[g]? = some (.cells cur e (0, 0)) ∧ off + c * sz ≤ cur.size)
section
variable {base : Nat} {e : TypeId} {w w' : World} {α : Type} {sz : Nat} {R : List Value → α → Prop} {a : Option Addr} {c : Nat} {xs : List α}
theorem putL_at : ∀ {vs cs : List Value} {o j : Nat} {v : Value}, o + vs.length ≤ cs.length → vs[j]? = some v → (putL cs o vs)[o + j]? = some v := by
 intro vs
 induction vs with
 | nil => intro cs o j v _ h; simp at h
 | cons u vs ih =>
  intro cs o j v hl hj
  rw [putL_cons]
  cases j with
  | zero =>
   simp at hj
   subst hj
   simp only [List.length_cons] at hl
   rw [putL_before (by omega)]
   show (cs.set o u)[o]? = some u
   rw [List.getElem?_set_self (by omega)]
  | succ j =>
   have := ih (cs := cs.set o u) (o := o + 1) (j := j) (v := v) (by simp at hl ⊢; omega) (by simpa using hj)
   rw [← this]
   congr 1
   omega
theorem Queue.slr (h : Queue base e w sz R a c xs) : SlR (fun b => base ≤ b) w sz R a c xs := h.1
theorem Queue.move (h : Queue base e w sz R a c xs) (hs : w.heap.size ≤ w'.heap.size) (hk : ∀ b, base ≤ b → b < w.heap.size → w'.heap[b]? = w.heap[b]?) : Queue base e w' sz R a c xs := by
 refine ⟨h.1.keep ⟨hs, fun b hb ho => hk b ho hb⟩, fun hc => ?_⟩
 obtain ⟨g, off, cur, h1, h2, h3, h4⟩ := h.2 hc
 exact ⟨g, off, cur, h1, h2, by rw [hk g h2 (Array.getElem?_eq_some_iff.1 h3).1]; exact h3, h4⟩
theorem Queue.below (h : Queue base e w sz R a c xs) (hb : Below w.heap.size w w') : Queue base e w' sz R a c xs := h.move hb.size fun b _ hb' => hb.block b hb'
theorem Queue.ofBlk {g : Nat} {cs : List Value} {x : α} (h : w.heap[g]? = some (.cells cs.toArray e (0, 0))) (hR : R cs x) (hl : cs.length = sz) (h1 : cs.all Value.oneCell' = true) (hb : base ≤ g) : Queue base e w sz R (some ⟨g, 0, none⟩) 1 [x] :=
 ⟨SlR.ofBlk h hR hl h1 hb, fun _ => ⟨g, 0, cs.toArray, rfl, hb, h, by simp; omega⟩⟩
theorem Queue.tail {g off : Nat} {x : α} (h : Queue base e w sz R (some ⟨g, off, none⟩) c (x :: xs)) : Queue base e w sz R (some ⟨g, off + sz, none⟩) (c - 1) xs := by
 refine ⟨by have := h.1.drop 1; simpa using this, fun hc => ?_⟩
 obtain ⟨g', off', cur, h1, h2, h3, h4⟩ := h.2 (by omega)
 simp only [Option.some.injEq, Addr.mk.injEq, and_true] at h1
 obtain ⟨rfl, rfl⟩ := h1
 refine ⟨g, off + sz, cur, rfl, h2, h3, ?_⟩
 have : c * sz = sz + (c - 1) * sz := by
  obtain ⟨k, rfl⟩ : ∃ k, c = k + 1 := ⟨c - 1, by omega⟩
  rw [Nat.add_sub_cancel, Nat.add_mul]; omega
 omega
end
theorem wp_appFull {P : Program} {w : World} {o : Oper} {A : Act} {Q : Exit → Act → World → Prop} {K : Act → World → Prop} (s x : Operand) (t : TypeId)
  (ho : o.op = .call { callee := .builtin .append, args := #[s, x], argTypes := #[t, t] })
  (e : TypeId) (i : TypeInfo) (z : Value) (sz bytes : Nat) (ht : P.underlying t = some (.slice e)) (hi : P.info? e = some i) (hz : i.zero = some z) (hsize : i.size = sz) (hby : i.bytes = bytes) (hzs : z.cells.size = sz) (hsz : 0 < sz)
  {α : Type} {R : List Value → α → Prop} {ok ok' : Nat → Prop} {a : Option Addr} {c n : Nat} {xs : List α} (hs : A.eval s = .slice a n c) (hn : n = xs.length) (hS : SlR ok w sz R a c xs)
  {b : Option Addr} {m d : Nat} {ys : List α} (hx : A.eval x = .slice b m d) (hm : m = ys.length) (hR : SlR ok' w sz R b d ys) (hroom : c < xs.length + ys.length) (hl : (xs.length + ys.length) * bytes ≤ 140737488355328) (h63 : xs.length + ys.length ≤ maxLen)
  (h : ∀ a' c' w', Own w.heap.size e w' sz R (some ⟨a', 0, none⟩) c' (xs ++ ys) → Below w.heap.size w w' → K (A.put o.dst (.slice (some ⟨a', 0, none⟩) (n + m) c')) w') : Oper.wp P o A w K Q := by
 subst hn hm
 obtain ⟨css, g1, g2, g3, g4⟩ := hS.all
 obtain ⟨dss, f1, f2, f3, f4⟩ := hR.all
 have hcx := hS.1
 have hy0 : 0 < ys.length := by omega
 have hfl : css.flatten.length = xs.length * sz := by rw [flatten_length fun cs h => (g2 cs h).1, g1]
 have hfy : dss.flatten.length = ys.length * sz := by rw [flatten_length fun cs h => (f2 cs h).1, f1]
 obtain ⟨b0, o0, rfl, _, _, _⟩ := f4 0 (dss[0]'(by omega)) (by simp)
 have hnews : ∀ (j : Nat) (u : Value), dss.flatten[j]? = some u → w.cell? ((⟨b0, o0, none⟩ : Addr).add j) = some u := fun j u hj => by
  obtain ⟨p, q, cs, rfl, hq, hp, hv⟩ := flatten_inv (fun cs h => (f2 cs h).1) hj
  obtain ⟨b, o, ha, _, _, hc⟩ := f4 p cs hp
  simp only [Option.some.injEq, Addr.mk.injEq, and_true] at ha
  obtain ⟨rfl, rfl⟩ := ha
  rw [Addr.add_lit, ← hc q u hv]
  congr 2
  omega
 have key : ∀ v' w', w'.ownsRow w.heap.size e sz v' (xs.length + ys.length) (css.flatten ++ dss.flatten) → w.grownBy w' none → K (A.put o.dst v') w' := by
  intro v' w' hown hgr
  have hO : ∀ a' c', v' = .slice a' (xs.length + ys.length) c' → Own w.heap.size e w' sz R a' c' (xs ++ ys) := by
   rintro a' c' rfl
   refine ⟨css ++ dss, by simp [g1, f1], ?_, ?_, by simpa using hown⟩
   ·intro cs hcs
    rcases List.mem_append.1 hcs with hcs | hcs
    ·exact g2 cs hcs
    ·exact f2 cs hcs
   ·intro i x cs hx hc
    by_cases hi : i < xs.length
    ·rw [List.getElem?_append_left hi] at hx
     rw [List.getElem?_append_left (by omega)] at hc
     exact g3 i x cs hx hc
    ·rw [List.getElem?_append_right (by omega)] at hx
     rw [List.getElem?_append_right (by omega), g1] at hc
     exact f3 _ x cs hx hc
  obtain ⟨hlen, ⟨rfl, h0⟩ | ⟨g, cap, cur, rfl, _⟩⟩ := hown
  ·omega
  ·exact h _ _ w' (hO _ _ rfl) ⟨hgr.os, hgr.tape, hgr.output, hgr.size, fun q hq => hgr.block q hq (by simp)⟩
 cases a with
 | some ad =>
  obtain ⟨v', w', hrun, r1, r2⟩ := run_append_arg_grows (P := P) w t o.type e i z sz bytes ht hi hz hsize hby hzs hsz ad xs.length c css.flatten hfl (fun j u hj => by
   obtain ⟨p, q, cs, rfl, hq, hp, hv⟩ := flatten_inv (fun cs h => (g2 cs h).1) hj
   obtain ⟨b, o, ha, _, _, hc⟩ := g4 p cs hp
   simp only [Option.some.injEq] at ha
   subst ha
   rw [Addr.add_lit, ← hc q u hv]
   congr 2
   omega) ⟨b0, o0, none⟩ ys.length d dss.flatten hfy hnews (by omega) h63 hl
  unfold Oper.wp
  simp [execOp, ho, resolve, invoke, builtin, hs, hx, hrun, Result.andThen]
  exact key v' w' r1 r2
 | none =>
  have hc0 := hS.2.2.1 rfl
  have hx0 : xs = [] := List.eq_nil_of_length_eq_zero (by omega)
  subst hc0
  subst hx0
  have hcss : css = [] := List.eq_nil_of_length_eq_zero (by simpa using g1)
  subst hcss
  obtain ⟨v', w', hrun, r1, r2, _⟩ := run_append_own (P := P) w w.heap.size t o.type e i z sz bytes ht hi hz hsize hby hzs hsz (.slice none 0 0) 0 [] (World.ownsRow_nil w _ e sz) ⟨b0, o0, none⟩ ys.length d dss.flatten hfy hnews (fun u hu => by
   obtain ⟨cs, hcs, huc⟩ := List.mem_flatten.1 hu
   exact (f2 cs hcs).2 u huc) (by simpa using h63) (by simpa using hl) (Nat.le_refl _)
  unfold Oper.wp
  simp only [List.length_nil] at hs
  simp [execOp, ho, resolve, invoke, builtin, hs, hx, hrun, Result.andThen]
  exact key v' w' (by simpa using r1) r2
theorem putL_after : ∀ {cs : List Value} {o : Nat} {vs : List Value} {p : Nat}, o + vs.length ≤ p → (putL cs o vs)[p]? = cs[p]?
 | [], o, vs, p, _ => by simp [putL]
 | c :: cs, 0, [], p, _ => by simp [putL]
 | c :: cs, 0, v :: vs, 0, h => by simp at h
 | c :: cs, 0, v :: vs, p + 1, h => by
  simp only [putL, List.getElem?_cons_succ]
  exact putL_after (by simp at h; omega)
 | c :: cs, o + 1, vs, 0, h => by omega
 | c :: cs, o + 1, vs, p + 1, h => by
  simp only [putL, List.getElem?_cons_succ]
  exact putL_after (by omega)
theorem putL_ahead : ∀ {cs : List Value} {o : Nat} {vs : List Value} {p : Nat}, p < o → (putL cs o vs)[p]? = cs[p]?
 | [], o, vs, p, _ => by simp [putL]
 | c :: cs, 0, vs, p, h => by omega
 | c :: cs, o + 1, vs, 0, h => by simp [putL]
 | c :: cs, o + 1, vs, p + 1, h => by
  simp only [putL, List.getElem?_cons_succ]
  exact putL_ahead (by omega)
def RowAt (e : TypeId) (w : World) {α : Type} (sz : Nat) (R : List Value → α → Prop) (a : Option Addr) (c : Nat) (xs : List α) : Prop :=
 xs.length ≤ c ∧ c ≤ maxLen ∧
 ((a = none ∧ c = 0) ∨ ∃ g off cells, a = some ⟨g, off, none⟩ ∧ w.heap[g]? = some (.cells (List.toArray cells) e (0, 0)) ∧ off + c * sz ≤ cells.length ∧
  ∀ i x, xs[i]? = some x → ∃ cs, R cs x ∧ cs.length = sz ∧ (∀ v ∈ cs, v.oneCell' = true) ∧ ∀ j v, cs[j]? = some v → cells[off + i * sz + j]? = some v)
section
variable {e : TypeId} {w w' : World} {α : Type} {sz : Nat} {R R' : List Value → α → Prop} {a : Option Addr} {c : Nat} {xs : List α}
theorem RowAt.nil (e : TypeId) (w : World) {α : Type} (sz : Nat) (R : List Value → α → Prop) : RowAt e w sz R none 0 ([] : List α) := ⟨Nat.le_refl _, Nat.zero_le _, .inl ⟨rfl, rfl⟩⟩
theorem RowAt.lt (h : RowAt e w sz R a c xs) {b : Nat} (hb : a.map (·.block) = some b) : b < w.heap.size := by
 rcases h.2.2 with ⟨rfl, _⟩ | ⟨g, off, cells, rfl, hg, _⟩
 ·simp at hb
 ·simp at hb; subst hb; exact (Array.getElem?_eq_some_iff.1 hg).1
theorem RowAt.slr (h : RowAt e w sz R a c xs) {ok : Nat → Prop} (hok : ∀ b, a.map (·.block) = some b → ok b) : SlR ok w sz R a c xs := by
 refine ⟨h.1, h.2.1, fun ha => ?_, fun i x hx => ?_⟩
 ·rcases h.2.2 with ⟨_, h⟩ | ⟨g, off, cells, rfl, _⟩
  ·exact h
  ·cases ha
 ·rcases h.2.2 with ⟨_, hc⟩ | ⟨g, off, cells, rfl, hg, hle, hx2⟩
  ·have := (gEs hx).1
   have := h.1
   omega
  ·obtain ⟨cs, h1, h2, h3, h4⟩ := hx2 i x hx
   refine ⟨g, off, cs, rfl, hok g rfl, (Array.getElem?_eq_some_iff.1 hg).1, h1, h2, h3, fun j v hv => ?_⟩
   rw [cell_of_row w g _ cells.toArray e (0, 0) hg]
   simpa using h4 j v hv
theorem RowAt.kept (h : RowAt e w sz R a c xs) (hk : ∀ b, a.map (·.block) = some b → w'.heap[b]? = w.heap[b]?) (hR : ∀ cs x, R cs x → R' cs x) : RowAt e w' sz R' a c xs := by
 refine ⟨h.1, h.2.1, ?_⟩
 rcases h.2.2 with h | ⟨g, off, cells, rfl, hg, hle, hx2⟩
 ·exact .inl h
 ·refine .inr ⟨g, off, cells, rfl, by rw [hk g rfl]; exact hg, hle, fun i x hx => ?_⟩
  obtain ⟨cs, h1, h2⟩ := hx2 i x hx
  exact ⟨cs, hR _ _ h1, h2⟩
theorem RowAt.below (h : RowAt e w sz R a c xs) (hb : Below w.heap.size w w') (hR : ∀ cs x, R cs x → R' cs x) : RowAt e w' sz R' a c xs :=
 h.kept (fun b hb' => hb.block b (h.lt hb')) hR
theorem Own.row {base : Nat} (h : Own base e w sz R a c xs) : RowAt e w sz R a c xs := by
 obtain ⟨css, h1, h2, h3, h4⟩ := h
 obtain ⟨hl, ⟨hv, hn⟩ | ⟨g, cap, cur, hv, hg, hh, hnc, hm, hs, ht⟩⟩ := h4
 ·simp only [Value.slice.injEq] at hv
  obtain ⟨rfl, _, rfl⟩ := hv
  have : xs = [] := List.eq_nil_of_length_eq_zero hn
  subst this
  exact RowAt.nil _ _ _ _
 ·simp only [Value.slice.injEq] at hv
  obtain ⟨rfl, _, rfl⟩ := hv
  refine ⟨hnc, hm, .inr ⟨g, 0, cur.toList, rfl, by simpa using hh, by simp [hs], fun i x hx => ?_⟩⟩
  have hi : i < css.length := by rw [h1]; exact (gEs hx).1
  have hcs := h2 css[i] (by simp)
  refine ⟨css[i], h3 i x _ hx (by simp [hi]), hcs.1, hcs.2, fun j v hv => ?_⟩
  have := flatten_at (fun cs h => (h2 cs h).1) (i := i) (cs := css[i]) (by simp [hi]) hv
  have hj : i * sz + j < xs.length * sz := by
   have := (gEs this).1
   rw [flatten_length fun cs h => (h2 cs h).1, h1] at this
   exact this
  rw [← ht, List.getElem?_take_of_lt hj] at this
  simpa using this
theorem RowAt.tail {x : α} {g off : Nat} (h : RowAt e w sz R (some ⟨g, off, none⟩) c (x :: xs)) : RowAt e w sz R (some ⟨g, off + sz, none⟩) (c - 1) xs ∧ (c = 1 → RowAt e w sz R (some ⟨g, off, none⟩) 0 xs) := by
 have h1 := h.1
 simp only [List.length_cons] at h1
 rcases h.2.2 with ⟨h, _⟩ | ⟨g', off', cells, ha, hg, hle, hx2⟩
 ·cases h
 ·simp only [Option.some.injEq, Addr.mk.injEq, and_true] at ha
  obtain ⟨rfl, rfl⟩ := ha
  obtain ⟨k, rfl⟩ : ∃ k, c = k + 1 := ⟨c - 1, by omega⟩
  refine ⟨⟨by omega, by have := h.2.1; omega, .inr ⟨g, off + sz, cells, rfl, hg, by rw [Nat.add_mul] at hle; simp; omega, fun i y hy => ?_⟩⟩, fun hc => ?_⟩
  ·obtain ⟨cs, h3, h4, h5, h6⟩ := hx2 (i + 1) y (by simpa using hy)
   refine ⟨cs, h3, h4, h5, fun j v hv => ?_⟩
   have := h6 j v hv
   rw [Nat.add_mul] at this
   rw [← this]
   congr 1
   omega
  ·have hxs : xs = [] := List.eq_nil_of_length_eq_zero (by omega)
   subst hxs
   exact ⟨Nat.le_refl _, Nat.zero_le _, .inr ⟨g, off, cells, rfl, hg, by omega, fun i x hx => by simp at hx⟩⟩
theorem RowAt.set {g off i : Nat} {y : α} {cs' : List Value} (h : RowAt e w sz R (some ⟨g, off, none⟩) c xs) (hi : i < xs.length) (hR : ∀ cs x, R cs x → R' cs x) (hy : R' cs' y) (hl : cs'.length = sz) (h1 : ∀ v ∈ cs', v.oneCell' = true)
  (hw : ∀ cells, w.heap[g]? = some (.cells (List.toArray cells) e (0, 0)) → w'.heap[g]? = some (.cells (putL cells (off + i * sz) cs').toArray e (0, 0))) : RowAt e w' sz R' (some ⟨g, off, none⟩) c (xs.set i y) := by
 refine ⟨by simpa using h.1, h.2.1, ?_⟩
 rcases h.2.2 with ⟨h, _⟩ | ⟨g', off', cells, ha, hg, hle, hx2⟩
 ·cases h
 ·simp only [Option.some.injEq, Addr.mk.injEq, and_true] at ha
  obtain ⟨rfl, rfl⟩ := ha
  refine .inr ⟨g, off, putL cells (off + i * sz) cs', rfl, hw _ hg, by rw [putL_length]; exact hle, fun j x hx => ?_⟩
  have hin : i * sz + sz ≤ c * sz := by
   have : (i + 1) * sz ≤ c * sz := Nat.mul_le_mul_right _ (by have := h.1; omega)
   rwa [Nat.succ_mul] at this
  rw [List.getElem?_set] at hx
  by_cases hij : i = j
  ·subst hij
   simp [hi] at hx
   subst hx
   exact ⟨cs', hy, hl, h1, fun j v hv => putL_at (by omega) hv⟩
  ·rw [if_neg hij] at hx
   obtain ⟨cs, h3, h4, h5, h6⟩ := hx2 j x hx
   refine ⟨cs, hR _ _ h3, h4, h5, fun k v hv => ?_⟩
   have hk : k < sz := by rw [← h4]; exact (gEs hv).1
   rw [← h6 k v hv]
   rcases Nat.lt_or_gt_of_ne hij with hlt | hlt
   ·have : (i + 1) * sz ≤ j * sz := Nat.mul_le_mul_right _ hlt
    rw [Nat.succ_mul] at this
    exact putL_after (by omega)
   ·have : (j + 1) * sz ≤ i * sz := Nat.mul_le_mul_right _ hlt
    rw [Nat.succ_mul] at this
    exact putL_ahead (by omega)
theorem wp_rowApp {P : Program} {o : Oper} {A : Act} {Q : Exit → Act → World → Prop} {K : Act → World → Prop} (s x : Operand) (t : TypeId)
  (ho : o.op = .call { callee := .builtin .append, args := #[s, x], argTypes := #[t, t] })
  (i : TypeInfo) (z : Value) (bytes : Nat) (ht : P.underlying t = some (.slice e)) (hi : P.info? e = some i) (hz : i.zero = some z) (hsize : i.size = sz) (hby : i.bytes = bytes) (hzs : z.cells.size = sz) (hsz : 0 < sz)
  {ok : Nat → Prop} {n : Nat} (hs : A.eval s = .slice a n c) (hn : n = xs.length) (hO : RowAt e w sz R a c xs)
  {b : Option Addr} {d : Nat} {y : α} (hx : A.eval x = .slice b 1 d) (hR : SlR ok w sz R b d [y]) (hl : (xs.length + 1) * bytes ≤ 140737488355328) (h63 : xs.length + 1 ≤ maxLen)
  (h : ∀ g off c' w', RowAt e w' sz R (some ⟨g, off, none⟩) c' (xs ++ [y]) → w.grownBy w' (a.map (·.block)) → (a.map (·.block) = some g ∨ w.heap.size ≤ g) → K (A.put o.dst (.slice (some ⟨g, off, none⟩) (n + 1) c')) w') : Oper.wp P o A w K Q := by
 by_cases hroom : c < xs.length + 1
 ·refine wp_appFull s x t ho e i z sz bytes ht hi hz hsize hby hzs hsz hs hn (hO.slr (ok := fun _ => True) fun _ _ => trivial) hx rfl hR (by simpa using hroom) (by simpa using hl) (by simpa using h63) ?_
  intro g c' w' hO' hb
  exact h g 0 c' w' hO'.row (World.grownBy.ofBelow hb _) (.inr (hO'.blockLt g rfl).1)
 ·subst hn
  obtain ⟨dss, g1, g2, g3, g4⟩ := hR.all
  match dss, g1 with
  | [ds], _ =>
   have hds := g2 ds (by simp)
   obtain ⟨b0, o0, rfl, _, _, hc⟩ := g4 0 ds rfl
   have hO2 := hO
   rcases hO.2.2 with ⟨_, hc0⟩ | ⟨g, off, cells, rfl, hg, hle, hx2⟩
   ·omega
   ·have hin : xs.length * sz + sz ≤ c * sz := by
     have : (xs.length + 1) * sz ≤ c * sz := Nat.mul_le_mul_right _ (by omega)
     rwa [Nat.succ_mul] at this
    have hcell : ∀ j, w.cell? ⟨g, j, none⟩ = cells[j]? := fun j => by rw [cell_of_row w g _ cells.toArray e (0, 0) hg]; simp
    have hrun := run_append_room_cells (P := P) w t o.type e i ht hi g off xs.length c ⟨b0, o0, none⟩ 1 d ds (by rw [hds.1, hsize, Nat.one_mul]) (fun j u hj => by
     have := hc j u hj
     rw [Addr.add_lit, ← this]
     congr 2
     omega) hds.2 (by omega) (fun j hj => by
      rw [hsize, hcell, gEg (by rw [hds.1] at hj; omega)]; rfl) (fun j hj => by
      exact frozen_of_row w g _ cells.toArray e hg)
    obtain ⟨a1, a2, a3, a4, a5, a6⟩ := setCells_block (w := w) ds (off + xs.length * sz) cells hg
    unfold Oper.wp
    simp [execOp, ho, resolve, invoke, builtin, hs, hx, hrun, Result.andThen]
    rw [hsize]
    refine h g off c _ ⟨by simp; omega, hO2.2.1, .inr ⟨g, off, _, rfl, a1, by rw [putL_length]; exact hle, fun j x hx => ?_⟩⟩ ⟨a4, a5, a6, by rw [a3]; exact Nat.le_refl _, fun k _ hk => a2 k (fun e => hk (by rw [e]; rfl))⟩ (.inl rfl)
    by_cases hj : j < xs.length
    ·rw [List.getElem?_append_left hj] at hx
     obtain ⟨cs, h3, h4, h5, h6⟩ := hx2 j x hx
     refine ⟨cs, h3, h4, h5, fun k v hv => ?_⟩
     have hk : k < sz := by rw [← h4]; exact (gEs hv).1
     have : (j + 1) * sz ≤ xs.length * sz := Nat.mul_le_mul_right _ hj
     rw [Nat.succ_mul] at this
     rw [putL_ahead (by omega)]
     exact h6 k v hv
    ·rw [List.getElem?_append_right (by omega)] at hx
     have hj0 : j = xs.length := by
      have := (gEs hx).1
      simp at this
      omega
     subst hj0
     simp at hx
     subst hx
     exact ⟨ds, g3 0 y ds rfl rfl, hds.1, hds.2, fun k v hv => putL_at (by rw [hds.1]; omega) hv⟩
end
def winC (pre win post : List Value) : List Value := pre ++ (win ++ post)
theorem winC_get {pre win post : List Value} {p j : Nat} {v : Value} (hp : pre.length = p) (h : win[j]? = some v) : (winC pre win post)[p + j]? = some v := by
 subst hp
 unfold winC
 have := (gEs h).1
 rw [List.getElem?_append_right (by omega), Nat.add_sub_cancel_left, List.getElem?_append_left this, h]
theorem winC_length (pre win post : List Value) : (winC pre win post).length = pre.length + win.length + post.length := by unfold winC; simp; omega
theorem putL_pre : ∀ (pre rest : List Value) (j : Nat) (vs : List Value), putL (pre ++ rest) (pre.length + j) vs = pre ++ putL rest j vs
 | [], rest, j, vs => by simp
 | c :: pre, rest, j, vs => by
  simp only [List.cons_append, List.length_cons]
  rw [Nat.add_right_comm]
  simp only [putL]
  rw [putL_pre]
theorem putL_win : ∀ (win post : List Value) (j : Nat) (vs : List Value), j + vs.length ≤ win.length → putL (win ++ post) j vs = putL win j vs ++ post
 | [], post, j, vs, h => by
  have : vs = [] := List.eq_nil_of_length_eq_zero (by simp only [List.length_nil] at h; omega)
  subst this
  rw [putL_nil]; simp [putL]
 | c :: win, post, 0, [], h => by simp [putL]
 | c :: win, post, 0, v :: vs, h => by
  simp only [List.cons_append, putL]
  rw [putL_win win post 0 vs (by simpa using h)]
 | c :: win, post, j + 1, vs, h => by
  simp only [List.cons_append, putL]
  rw [putL_win win post j vs (by simp only [List.length_cons] at h; omega)]
theorem putL_winC {pre win post : List Value} {p j : Nat} {vs : List Value} (hp : pre.length = p) (h : j + vs.length ≤ win.length) : putL (winC pre win post) (p + j) vs = winC pre (putL win j vs) post := by
 subst hp
 unfold winC
 rw [putL_pre, putL_win _ _ _ _ h]
section
variable {P : Program} {w0 w : World} {M : List Nat} {own : Blks} {ops : Array Oper} {rest : List Oper} {o : Oper} {A : Act} {Q : Exit → Act → World → Prop} {K : Act → World → Prop}
theorem mem_loadW (st : St M w0 w own) (T : TypeId) (x : Operand) (ho : o.op = .load T x) (hgd : Region.wanted o (yielded ops A.tmps) = true) (hagg : ∀ w, (isAgg T).run P w = .ok false w) (j : Nat)
  (h : ∃ (i g p : Nat) (T' : TypeId) (pre win post : List Value) (v : Value), pre.length = p ∧ own[i]? = some (g, T', winC pre win post) ∧ A.eval x = .pointer (some ⟨g, p + j, none⟩) ∧ win[j]? = some v ∧ wpList P ops Q rest (A.put o.dst v) w) : wpList P ops Q (o :: rest) A w := by
 obtain ⟨i, g, p, T', pre, win, post, v, hp, hi, hx, hv, h⟩ := h
 exact mem_load st hgd T x ho g (p + j) hx hagg i T' _ hi v (winC_get hp hv) h
theorem mem_storeW (st : St M w0 w own) (T : TypeId) (x y : Operand) (ho : o.op = .store T x y) (hgd : Region.wanted o (yielded ops A.tmps) = true) (n : Nat) (hsz : ∀ w, (sizeOf T).run P w = .ok n w) (j : Nat)
  (h : ∃ (i g p : Nat) (T' : TypeId) (pre win post vs : List Value), pre.length = p ∧ own[i]? = some (g, T', winC pre win post) ∧ A.eval x = .pointer (some ⟨g, p + j, none⟩) ∧ (A.eval y).cells.toList = vs ∧ vs.length = n ∧ vs.all Value.oneCell' = true ∧ Nat.ble (j + vs.length) win.length = true ∧
   ∀ w', St M w0 w' (own.set i (g, T', winC pre (putL win j vs) post)) → (∀ b, b ≠ g → w'.heap[b]? = w.heap[b]?) → w'.heap.size = w.heap.size → wpList P ops Q rest (A.put o.dst undef) w') : wpList P ops Q (o :: rest) A w := by
 obtain ⟨i, g, p, T', pre, win, post, vs, hp, hi, hx, hv, hl, h1, hle, h⟩ := h
 have hle' := Nat.le_of_ble_eq_true hle
 refine mem_store st hgd T x y ho g (p + j) hx _ rfl vs hv (by rw [hl]; exact hsz) (by simpa using h1) i T' _ hi (by rw [winC_length, hp]; omega) fun w' st' hm hz => ?_
 rw [putL_winC hp hle'] at st'
 exact h w' st' hm hz
theorem wp_storeW (st : St M w0 w own) (T : TypeId) (x y : Operand) (ho : o.op = .store T x y) (n : Nat) (hsz : ∀ w, (sizeOf T).run P w = .ok n w) (j : Nat)
  (h : ∃ (i g p : Nat) (T' : TypeId) (pre win post vs : List Value), pre.length = p ∧ own[i]? = some (g, T', winC pre win post) ∧ A.eval x = .pointer (some ⟨g, p + j, none⟩) ∧ (A.eval y).cells.toList = vs ∧ vs.length = n ∧ vs.all Value.oneCell' = true ∧ Nat.ble (j + vs.length) win.length = true ∧
   ∀ w', St M w0 w' (own.set i (g, T', winC pre (putL win j vs) post)) → (∀ b, b ≠ g → w'.heap[b]? = w.heap[b]?) → w'.heap.size = w.heap.size → K (A.put o.dst undef) w') : Oper.wp P o A w K Q := by
 obtain ⟨i, g, p, T', pre, win, post, vs, hp, hi, hx, hv, hl, h1, hle, h⟩ := h
 have hle' := Nat.le_of_ble_eq_true hle
 refine wp_store st T x y ho g (p + j) hx _ rfl vs hv (by rw [hl]; exact hsz) (by simpa using h1) i T' _ hi (by rw [winC_length, hp]; omega) fun w' st' hm hz => ?_
 rw [putL_winC hp hle'] at st'
 exact h w' st' hm hz
theorem St.run_loadW (st : St M w0 w own) (i : Nat) (T : TypeId) (x : Operand) (ho : o.op = .load T x) (hagg : ∀ w, (isAgg T).run P w = .ok false w) (j : Nat) {g p : Nat} {T' : TypeId} {pre win post : List Value} {v : Value} (hp : pre.length = p) (hi : own[i]? = some (g, T', winC pre win post)) (hx : A.eval x = .pointer (some ⟨g, p + j, none⟩)) (hv : win[j]? = some v) :
  (execOp A.eval o).run P w = .ok (.value v) w := st.run_load i T x ho hagg hx hi (winC_get hp hv)
theorem St.run_loadWin (st : St M w0 w own) (i : Nat) (T : TypeId) (x : Operand) (ho : o.op = .load T x) (hagg : ∀ w, (isAgg T).run P w = .ok true w) (n : Nat) (hsz : ∀ w, (sizeOf T).run P w = .ok n w) {g p : Nat} {T' : TypeId} {pre win post : List Value} (hp : pre.length = p) (hi : own[i]? = some (g, T', winC pre win post)) (hx : A.eval x = .pointer (some ⟨g, p, none⟩)) (hl : win.length = n) :
  (execOp A.eval o).run P w = .ok (.value (.agg win.toArray)) w :=
 st.run_load_agg i T x ho hagg n hsz hx hi (by subst hp; unfold winC; simp [← hl]) hl
theorem mem_loadWin (st : St M w0 w own) (T : TypeId) (x : Operand) (ho : o.op = .load T x) (hgd : Region.wanted o (yielded ops A.tmps) = true) (hagg : ∀ w, (isAgg T).run P w = .ok true w) (n : Nat) (hsz : ∀ w, (sizeOf T).run P w = .ok n w)
  (h : ∃ (i g p : Nat) (T' : TypeId) (pre win post : List Value), pre.length = p ∧ own[i]? = some (g, T', winC pre win post) ∧ A.eval x = .pointer (some ⟨g, p, none⟩) ∧ win.length = n ∧ wpList P ops Q rest (A.put o.dst (.agg win.toArray)) w) : wpList P ops Q (o :: rest) A w := by
 obtain ⟨i, g, p, T', pre, win, post, hp, hi, hx, hl, h⟩ := h
 refine wpList_wanted hgd fun K hK => ?_
 have hr := st.run_loadWin (P := P) i T x ho hagg n hsz hp hi hx hl
 unfold Oper.wp
 rw [hr]
 exact hK _ _ h
end
def RObj (ok : Nat → Prop) (w : World) (cs : List Value) (o : KObj) : Prop := ∃ la lc, cs = [.slice la o.label.length lc, .string o.text] ∧ SlR ok w 2 RLev la lc o.label
theorem RObj.move {ok ok' : Nat → Prop} {w w' : World} {cs : List Value} {o : KObj} (h : RObj ok w cs o) (hs : w.heap.size ≤ w'.heap.size) (hk : ∀ b, b < w.heap.size → ok b → ok' b ∧ w'.heap[b]? = w.heap[b]?) : RObj ok' w' cs o := by
 obtain ⟨la, lc, e, h1⟩ := h
 exact ⟨la, lc, e, h1.move hs hk fun _ _ h => h⟩
theorem RMail.move {ok ok' : Nat → Prop} {w w' : World} {cs : List Value} {m : Mail} (h : RMail ok w cs m) (hs : w.heap.size ≤ w'.heap.size) (hk : ∀ b, b < w.heap.size → ok b → ok' b ∧ w'.heap[b]? = w.heap[b]?) : RMail ok' w' cs m := by
 obtain ⟨la, lc, ga, gc, e, h1, h2⟩ := h
 exact ⟨la, lc, ga, gc, e, h1.move hs hk fun _ _ h => h, h2.move hs hk fun _ _ h => h⟩
structure ThrR (ok : Nat → Prop) (w : World) (x : Thr) (la : Option Addr) (lc : Nat) (oa : Option Addr) (oc : Nat) (ba : Option Addr) (bc : Nat) (ma : Option Addr) (mc : Nat) : Prop where
 label : SlR ok w 2 RLev la lc x.label
 own : SlR ok w 1 RInt oa oc x.own
 objs : RowAt 73 w 2 (RObj ok w) ba bc x.objects
 mails : RowAt 42 w 5 (RMail ok w) ma mc x.mails
def thrC (x : Thr) (la : Option Addr) (lc : Nat) (oa : Option Addr) (oc : Nat) (ba : Option Addr) (bc : Nat) (ma : Option Addr) (mc : Nat) : List Value :=
 [.slice la x.label.length lc, .slice oa x.own.length oc, .string x.text, .slice ba x.objects.length bc, .slice ma x.mails.length mc]
def rows2 (ba ma : Option Addr) : List Nat := (ba.map (·.block)).toList ++ (ma.map (·.block)).toList
def ThrAt (ok : Nat → Prop) (w : World) (cs : List Value) (x : Thr) (B : List Nat) : Prop :=
 ∃ la lc oa oc ba bc ma mc, cs = thrC x la lc oa oc ba bc ma mc ∧ ThrR ok w x la lc oa oc ba bc ma mc ∧ B = rows2 ba ma
theorem mem_rows2 {ba ma : Option Addr} {b : Nat} : b ∈ rows2 ba ma ↔ ba.map (·.block) = some b ∨ ma.map (·.block) = some b := by
 unfold rows2
 cases ba <;> cases ma <;> simp [eq_comm]
theorem ThrAt.move {ok ok' : Nat → Prop} {w w' : World} {cs : List Value} {x : Thr} {B : List Nat} (h : ThrAt ok w cs x B) (hs : w.heap.size ≤ w'.heap.size) (hk : ∀ b, b < w.heap.size → ok b → ok' b ∧ w'.heap[b]? = w.heap[b]?) (hB : ∀ b ∈ B, w'.heap[b]? = w.heap[b]?) : ThrAt ok' w' cs x B := by
 obtain ⟨la, lc, oa, oc, ba, bc, ma, mc, e, ⟨h1, h2, h3, h4⟩, rfl⟩ := h
 exact ⟨la, lc, oa, oc, ba, bc, ma, mc, e, ⟨h1.move hs hk fun _ _ h => h, h2.move hs hk fun _ _ h => h, h3.kept (fun b hb => hB b (mem_rows2.2 (.inl hb))) fun _ _ h => h.move hs hk, h4.kept (fun b hb => hB b (mem_rows2.2 (.inr hb))) fun _ _ h => h.move hs hk⟩, rfl⟩
theorem ThrR.move {ok ok' : Nat → Prop} {w w' : World} {x : Thr} {la : Option Addr} {lc : Nat} {oa : Option Addr} {oc : Nat} {ba : Option Addr} {bc : Nat} {ma : Option Addr} {mc : Nat} (h : ThrR ok w x la lc oa oc ba bc ma mc) (hs : w.heap.size ≤ w'.heap.size) (hk : ∀ b, b < w.heap.size → ok b → ok' b ∧ w'.heap[b]? = w.heap[b]?) (hB : ∀ b ∈ rows2 ba ma, w'.heap[b]? = w.heap[b]?) : ThrR ok' w' x la lc oa oc ba bc ma mc :=
 ⟨h.label.move hs hk fun _ _ h => h, h.own.move hs hk fun _ _ h => h, h.objs.kept (fun b hb => hB b (mem_rows2.2 (.inl hb))) fun _ _ h => h.move hs hk, h.mails.kept (fun b hb => hB b (mem_rows2.2 (.inr hb))) fun _ _ h => h.move hs hk⟩
theorem ThrR.ltB {ok : Nat → Prop} {w : World} {x : Thr} {la : Option Addr} {lc : Nat} {oa : Option Addr} {oc : Nat} {ba : Option Addr} {bc : Nat} {ma : Option Addr} {mc : Nat} (h : ThrR ok w x la lc oa oc ba bc ma mc) : ∀ b ∈ rows2 ba ma, b < w.heap.size := fun b hb => by
 rcases mem_rows2.1 hb with hb | hb
 ·exact h.objs.lt hb
 ·exact h.mails.lt hb
theorem ThrR.later {ok : Nat → Prop} {w w' : World} {x : Thr} {la : Option Addr} {lc : Nat} {oa : Option Addr} {oc : Nat} {ba : Option Addr} {bc : Nat} {ma : Option Addr} {mc : Nat} (h : ThrR ok w x la lc oa oc ba bc ma mc) (hb : Below w.heap.size w w') : ThrR (fun b => ok b ∧ b < w.heap.size) w' x la lc oa oc ba bc ma mc :=
 h.move hb.size (fun b hb' ho => ⟨⟨ho, hb'⟩, hb.block b hb'⟩) fun b hb' => hb.block b (h.ltB b hb')
theorem ThrAt.len {ok : Nat → Prop} {w : World} {cs : List Value} {x : Thr} {B : List Nat} (h : ThrAt ok w cs x B) : cs.length = 5 := by
 obtain ⟨la, lc, oa, oc, ba, bc, ma, mc, rfl, _⟩ := h
 rfl
theorem ThrAt.ltB {ok : Nat → Prop} {w : World} {cs : List Value} {x : Thr} {B : List Nat} (h : ThrAt ok w cs x B) : ∀ b ∈ B, b < w.heap.size := by
 obtain ⟨la, lc, oa, oc, ba, bc, ma, mc, _, ⟨_, _, h3, h4⟩, rfl⟩ := h
 intro b hb
 rcases mem_rows2.1 hb with hb | hb
 ·exact h3.lt hb
 ·exact h4.lt hb
theorem St.wider2 {M M' : List Nat} {w0 w : World} {own : Blks} (h : St M w0 w own) (hM : ∀ b ∈ M, b ∈ M') : St M' w0 w own :=
 ⟨h.os, h.tape, h.output, h.size, fun b hb hm => h.frame b hb fun hm2 => hm (hM b hm2), h.blk, fun x hx => (h.mine x hx).imp (hM _) id, h.ne⟩
structure KerAt (ok : Nat → Prop) (w : World) (g : Nat) (k : Ker) (css : List (List Value)) (Bs : List (List Nat)) : Prop where
 n1 : css.length = 4
 n2 : Bs.length = 4
 n3 : k.threads.length = 4
 thr : ∀ (i : Nat) (x : Thr) (cs : List Value) (B : List Nat), k.threads[i]? = some x → css[i]? = some cs → Bs[i]? = some B → ThrAt ok w cs x B
 blk : w.heap[g]? = some (.cells (.int .i64 k.host :: (css.flatten ++ [.int .i64 k.made])).toArray 58 (0, 0))
 nodup : (g :: Bs.flatten).Nodup
 apart : ∀ b ∈ g :: Bs.flatten, ¬ ok b
theorem KerAt.lt {ok : Nat → Prop} {w : World} {g : Nat} {k : Ker} {css : List (List Value)} {Bs : List (List Nat)} (h : KerAt ok w g k css Bs) : ∀ b ∈ g :: Bs.flatten, b < w.heap.size := by
 intro b hb
 rcases List.mem_cons.1 hb with rfl | hb
 ·exact (Array.getElem?_eq_some_iff.1 h.blk).1
 ·obtain ⟨B, hB, hb⟩ := List.mem_flatten.1 hb
  obtain ⟨i, hi⟩ := List.mem_iff_getElem?.1 hB
  have hil : i < 4 := by have := (gEs hi).1; rw [h.n2] at this; exact this
  have e1 : k.threads[i]? = some (k.threads[i]'(by rw [h.n3]; exact hil)) := gEg _
  have e2 : css[i]? = some (css[i]'(by rw [h.n1]; exact hil)) := gEg _
  exact (h.thr i _ _ _ e1 e2 hi).ltB b hb
theorem KerAt.move {ok ok' : Nat → Prop} {w w' : World} {g : Nat} {k : Ker} {css : List (List Value)} {Bs : List (List Nat)} (h : KerAt ok w g k css Bs) (hs : w.heap.size ≤ w'.heap.size) (hk : ∀ b, b < w.heap.size → ok b → ok' b ∧ w'.heap[b]? = w.heap[b]?) (hB : ∀ b ∈ g :: Bs.flatten, w'.heap[b]? = w.heap[b]? ∧ ¬ ok' b) : KerAt ok' w' g k css Bs :=
 ⟨h.n1, h.n2, h.n3, fun i x cs B e1 e2 e3 => (h.thr i x cs B e1 e2 e3).move hs hk fun b hb => (hB b (List.mem_cons_of_mem _ (List.mem_flatten.2 ⟨B, mgE e3, hb⟩))).1, by rw [(hB g (by simp)).1]; exact h.blk, h.nodup, fun b hb => (hB b hb).2⟩
theorem KerAt.below {ok : Nat → Prop} {w w' : World} {g : Nat} {k : Ker} {css : List (List Value)} {Bs : List (List Nat)} (h : KerAt ok w g k css Bs) (hb : Below w.heap.size w w') : KerAt ok w' g k css Bs :=
 h.move hb.size (fun b hb' ho => ⟨ho, hb.block b hb'⟩) fun b hb' => ⟨hb.block b (h.lt b hb'), h.apart b hb'⟩
def preC (k : Ker) (css : List (List Value)) (t : Nat) : List Value := .int .i64 k.host :: (css.take t).flatten
def postC (k : Ker) (css : List (List Value)) (t : Nat) : List Value := (css.drop (t + 1)).flatten ++ [.int .i64 k.made]
theorem flatten5 : ∀ (css : List (List Value)), (∀ cs ∈ css, cs.length = 5) → css.flatten.length = 5 * css.length
 | [], _ => rfl
 | c :: css, h => by
  simp only [List.flatten_cons, List.length_append, List.length_cons, h c (by simp), flatten5 css fun cs hc => h cs (by simp [hc])]
  omega
section
variable {ok : Nat → Prop} {w : World} {g : Nat} {k : Ker} {css : List (List Value)} {Bs : List (List Nat)}
theorem KerAt.five (h : KerAt ok w g k css Bs) : ∀ cs ∈ css, cs.length = 5 := by
 intro cs hcs
 obtain ⟨i, hi⟩ := List.mem_iff_getElem?.1 hcs
 have hil : i < 4 := by have := (gEs hi).1; rw [h.n1] at this; exact this
 have e1 : k.threads[i]? = some (k.threads[i]'(by rw [h.n3]; exact hil)) := gEg _
 have e2 : Bs[i]? = some (Bs[i]'(by rw [h.n2]; exact hil)) := gEg _
 exact (h.thr i _ _ _ e1 hi e2).len
theorem KerAt.preLen (h : KerAt ok w g k css Bs) {t : Nat} (ht : t < 4) : (preC k css t).length = 1 + t * 5 := by
 unfold preC
 rw [List.length_cons, flatten5 _ fun cs hc => h.five cs (List.mem_of_mem_take hc), List.length_take, h.n1]
 omega
theorem KerAt.cells (h : KerAt ok w g k css Bs) {t : Nat} (ht : t < 4) {cs : List Value} (hc : css[t]? = some cs) : .int .i64 k.host :: (css.flatten ++ [.int .i64 k.made]) = winC (preC k css t) cs (postC k css t) := by
 unfold winC preC postC
 have hl : t < css.length := by rw [h.n1]; exact ht
 have e : css = css.take t ++ cs :: css.drop (t + 1) := by
  have hcs : css[t] = cs := by rw [gEg hl] at hc; exact Option.some.inj hc
  rw [← hcs, ← List.drop_eq_getElem_cons hl, List.take_append_drop]
 conv => lhs; rw [e]
 simp
theorem KerAt.open (h : KerAt ok w g k css Bs) {t : Nat} (ht : t < 4) : ∃ x la lc oa oc ba bc ma mc, k.threads[t]? = some x ∧ css[t]? = some (thrC x la lc oa oc ba bc ma mc) ∧ Bs[t]? = some (rows2 ba ma) ∧ ThrR ok w x la lc oa oc ba bc ma mc ∧
  w.heap[g]? = some (.cells (winC (preC k css t) (thrC x la lc oa oc ba bc ma mc) (postC k css t)).toArray 58 (0, 0)) := by
 have e1 : k.threads[t]? = some (k.threads[t]'(by rw [h.n3]; exact ht)) := gEg _
 have e2 : css[t]? = some (css[t]'(by rw [h.n1]; exact ht)) := gEg _
 have e3 : Bs[t]? = some (Bs[t]'(by rw [h.n2]; exact ht)) := gEg _
 obtain ⟨la, lc, oa, oc, ba, bc, ma, mc, h1, h2, h3⟩ := h.thr t _ _ _ e1 e2 e3
 rw [h1] at e2
 rw [h3] at e3
 refine ⟨_, la, lc, oa, oc, ba, bc, ma, mc, e1, e2, e3, h2, ?_⟩
 rw [← h.cells ht e2]
 exact h.blk
theorem flatten_set_mem {α : Type} : ∀ {L : List (List α)} {i : Nat} {B : List α} {b : α}, b ∈ (L.set i B).flatten → b ∈ B ∨ ∃ j C, j ≠ i ∧ L[j]? = some C ∧ b ∈ C := by
 intro L i B b h
 obtain ⟨C, hC, hb⟩ := List.mem_flatten.1 h
 obtain ⟨j, hj⟩ := List.mem_iff_getElem?.1 hC
 rw [List.getElem?_set] at hj
 by_cases hij : i = j
 ·subst hij
  rw [if_pos rfl] at hj
  split at hj
  ·exact .inl (Option.some.inj hj ▸ hb)
  ·cases hj
 ·rw [if_neg hij] at hj
  exact .inr ⟨j, C, fun e => hij e.symm, hj, hb⟩
theorem nodup_set {α : Type} : ∀ {L : List (List α)} {i : Nat} {B0 B : List α}, L.flatten.Nodup → L[i]? = some B0 → B.Nodup → (∀ b ∈ B, b ∈ B0 ∨ b ∉ L.flatten) → (L.set i B).flatten.Nodup
 | [], i, B0, B, _, h, _, _ => by simp at h
 | C :: L, 0, B0, B, hn, h, hB, hb => by
  simp only [List.getElem?_cons_zero, Option.some.injEq] at h
  subst h
  simp only [List.set_cons_zero, List.flatten_cons] at hn ⊢
  obtain ⟨h1, h2, h3⟩ := List.nodup_append.1 hn
  refine List.nodup_append.2 ⟨hB, h2, fun a ha c hc e => ?_⟩
  subst e
  rcases hb a ha with h | h
  ·exact h3 a h a hc rfl
  ·exact h (by simp only [List.flatten_cons, List.mem_append]; exact .inr hc)
 | C :: L, i + 1, B0, B, hn, h, hB, hb => by
  simp only [List.getElem?_cons_succ] at h
  simp only [List.set_cons_succ, List.flatten_cons] at hn ⊢
  obtain ⟨h1, h2, h3⟩ := List.nodup_append.1 hn
  refine List.nodup_append.2 ⟨h1, nodup_set h2 h hB fun b hb' => (hb b hb').imp id fun h4 h5 => h4 (by simp only [List.flatten_cons, List.mem_append]; exact .inr h5), fun a ha c hc e => ?_⟩
  subst e
  rcases flatten_set_mem hc with hc | ⟨j, D, _, hj, hc⟩
  ·rcases hb a hc with h4 | h4
   ·exact h3 a ha a (List.mem_flatten.2 ⟨B0, mgE h, h4⟩) rfl
   ·exact h4 (by simp only [List.flatten_cons, List.mem_append]; exact .inl ha)
  ·exact h3 a ha a (List.mem_flatten.2 ⟨D, mgE hj, hc⟩) rfl
theorem nodup_apart {α : Type} : ∀ {L : List (List α)} {i j : Nat} {B C : List α}, L.flatten.Nodup → L[i]? = some B → L[j]? = some C → i ≠ j → ∀ b ∈ B, b ∉ C
 | [], i, j, B, C, _, h, _, _ => by simp at h
 | D :: L, 0, 0, B, C, _, _, _, hne => absurd rfl hne
 | D :: L, 0, j + 1, B, C, hn, hB, hC, _ => fun b hb hc => by
  simp only [List.getElem?_cons_zero, Option.some.injEq] at hB
  subst hB
  simp only [List.getElem?_cons_succ] at hC
  exact (List.nodup_append.1 (by simpa using hn)).2.2 b hb b (List.mem_flatten.2 ⟨C, mgE hC, hc⟩) rfl
 | D :: L, i + 1, 0, B, C, hn, hB, hC, _ => fun b hb hc => by
  simp only [List.getElem?_cons_zero, Option.some.injEq] at hC
  subst hC
  simp only [List.getElem?_cons_succ] at hB
  exact (List.nodup_append.1 (by simpa using hn)).2.2 b hc b (List.mem_flatten.2 ⟨B, mgE hB, hb⟩) rfl
 | D :: L, i + 1, j + 1, B, C, hn, hB, hC, hne => by
  simp only [List.getElem?_cons_succ] at hB hC
  exact nodup_apart (List.nodup_append.1 (by simpa using hn)).2.1 hB hC (by omega)
theorem KerAt.inB (_ : KerAt ok w g k css Bs) {t : Nat} {B : List Nat} (hB : Bs[t]? = some B) {b : Nat} (hb : b ∈ B) : b ∈ Bs.flatten := List.mem_flatten.2 ⟨B, mgE hB, hb⟩
theorem KerAt.gOut (h : KerAt ok w g k css Bs) {t : Nat} {B : List Nat} (hB : Bs[t]? = some B) : g ∉ B := fun hb => (List.nodup_cons.1 h.nodup).1 (h.inB hB hb)
theorem KerAt.apartAt (h : KerAt ok w g k css Bs) {t : Nat} {B : List Nat} (hB : Bs[t]? = some B) {b : Nat} (hb : b ∈ B) : ¬ ok b := h.apart b (List.mem_cons_of_mem _ (h.inB hB hb))
theorem flatten_nodup {α : Type} : ∀ {L : List (List α)} {i : Nat} {B : List α}, L.flatten.Nodup → L[i]? = some B → B.Nodup
 | [], i, B, _, h => by simp at h
 | C :: L, 0, B, hn, h => by
  simp only [List.getElem?_cons_zero, Option.some.injEq] at h
  subst h
  exact (List.nodup_append.1 (by simpa using hn)).1
 | C :: L, i + 1, B, hn, h => by
  simp only [List.getElem?_cons_succ] at h
  exact flatten_nodup (List.nodup_append.1 (by simpa using hn)).2.1 h
theorem KerAt.rowsNe (h : KerAt ok w g k css Bs) {t : Nat} {ba ma : Option Addr} (hB : Bs[t]? = some (rows2 ba ma)) {b : Nat} (hb : ba.map (·.block) = some b) : ma.map (·.block) ≠ some b := fun hm => by
 have hn := flatten_nodup (List.nodup_cons.1 h.nodup).2 hB
 unfold rows2 at hn
 rw [hb, hm] at hn
 simp at hn
theorem KerAt.len22 (h : KerAt ok w g k css Bs) {t : Nat} (ht : t < 4) (A B C D E : Value) : (winC (preC k css t) [A, B, C, D, E] (postC k css t)).length = 22 := by
 rw [winC_length, h.preLen ht]
 unfold postC
 rw [List.length_append, flatten5 _ fun cs hc => h.five cs (List.mem_of_mem_drop hc), List.length_drop, h.n1]
 simp
 omega
theorem KerAt.host (_ : KerAt ok w g k css Bs) (t : Nat) (win post : List Value) : (winC (preC k css t) win post)[0]? = some (.int .i64 k.host) := rfl
theorem KerAt.madeAt (h : KerAt ok w g k css Bs) {t : Nat} (ht : t < 4) (A B C D E : Value) : (winC (preC k css t) [A, B, C, D, E] (postC k css t))[21]? = some (.int .i64 k.made) := by
 have h1 := h.preLen ht
 have h2 : (css.drop (t + 1)).flatten.length = 5 * (4 - (t + 1)) := by rw [flatten5 _ fun cs hc => h.five cs (List.mem_of_mem_drop hc), List.length_drop, h.n1]
 unfold winC postC
 rw [List.getElem?_append_right (by omega), List.getElem?_append_right (by simp only [List.length_cons, List.length_nil]; omega), List.getElem?_append_right (by simp only [List.length_cons, List.length_nil]; omega)]
 have : 21 - (preC k css t).length - [A, B, C, D, E].length - (css.drop (t + 1)).flatten.length = 0 := by simp only [List.length_cons, List.length_nil]; omega
 rw [this]
 rfl
theorem KerAt.madePut (h : KerAt ok w g k css Bs) {t : Nat} (ht : t < 4) (A B C D E : Value) (m : Int) : putL (winC (preC k css t) [A, B, C, D, E] (postC k css t)) 21 [.int .i64 m] = winC (preC k css t) [A, B, C, D, E] (postC { k with made := m } css t) := by
 have h1 := h.preLen ht
 have h2 : (css.drop (t + 1)).flatten.length = 5 * (4 - (t + 1)) := by rw [flatten5 _ fun cs hc => h.five cs (List.mem_of_mem_drop hc), List.length_drop, h.n1]
 unfold winC postC
 rw [← List.append_assoc, ← List.append_assoc, ← List.append_assoc, ← List.append_assoc]
 have : 21 = (preC k css t ++ [A, B, C, D, E] ++ (css.drop (t + 1)).flatten).length + 0 := by simp only [List.length_append, List.length_cons, List.length_nil]; omega
 conv => lhs; rw [this]
 rw [putL_pre]
 simp [putL]
def KerTo (ok : Nat → Prop) (w : World) (g : Nat) (Bs : List (List Nat)) (w' : World) (k' : Ker) : Prop :=
 ∃ css' Bs', KerAt (fun b => (ok b ∨ w.heap.size ≤ b) ∧ b ∉ g :: Bs'.flatten) w' g k' css' Bs' ∧ St (g :: Bs.flatten) w w' [] ∧ ∀ b ∈ Bs'.flatten, b ∈ Bs.flatten ∨ w.heap.size ≤ b
theorem KerTo.none (h : KerAt ok w g k css Bs) {w' : World} (hb : Below w.heap.size w w') : KerTo ok w g Bs w' k :=
 ⟨css, Bs, h.move hb.size (fun b hb' ho => ⟨⟨.inl ho, fun hm => h.apart b hm ho⟩, hb.block b hb'⟩) fun b hb' => ⟨hb.block b (h.lt b hb'), fun hh => hh.2 hb'⟩, ⟨hb.os, hb.tape, hb.output, hb.size, fun b hb' _ => hb.block b hb', by simp, by simp, by simp⟩, fun b hb => .inl hb⟩
theorem KerAt.close (h : KerAt ok w g k css Bs) {t : Nat} (ht : t < 4) {cs : List Value} {B : List Nat} (hc : css[t]? = some cs) (hB : Bs[t]? = some B) {w' : World} {cs' : List Value} {x' : Thr} {B' : List Nat} {made' : Int} {own : Blks}
  (st : St (g :: B) w w' own) (hb : w'.heap[g]? = some (.cells (winC (preC k css t) cs' (postC { k with made := made' } css t)).toArray 58 (0, 0)))
  (hT : ThrAt (fun b => (ok b ∨ w.heap.size ≤ b) ∧ b ∉ g :: B') w' cs' x' B') (hn : B'.Nodup) (hin : ∀ b ∈ B', b ∈ B ∨ w.heap.size ≤ b) : KerTo ok w g Bs w' { k.put t x' with made := made' } := by
 have hgl := (h.lt g (by simp))
 have hBm := mgE hB
 have hBB : ∀ b ∈ B, b ∈ Bs.flatten := fun b hb => List.mem_flatten.2 ⟨B, hBm, hb⟩
 have hn0 := List.nodup_cons.1 h.nodup
 have hin' : ∀ b ∈ (Bs.set t B').flatten, b ∈ Bs.flatten ∨ w.heap.size ≤ b := fun b hb => by
  rcases flatten_set_mem hb with hb | ⟨j, D, _, hj, hb⟩
  ·exact (hin b hb).imp (hBB b) id
  ·exact .inl (List.mem_flatten.2 ⟨D, mgE hj, hb⟩)
 have hsame : ∀ b, b < w.heap.size → b ∉ g :: B → w'.heap[b]? = w.heap[b]? := st.frame
 refine ⟨css.set t cs', Bs.set t B', ⟨by simp [h.n1], by simp [h.n2], by simp [Ker.put, h.n3], fun i x cs2 B2 e1 e2 e3 => ?_, ?_, ?_, fun b hb hh => hh.2 hb⟩, ⟨st.os, st.tape, st.output, st.size, fun b hb' hm => hsame b hb' fun hm2 => hm (by
  rcases List.mem_cons.1 hm2 with rfl | h2
  ·simp
  ·exact List.mem_cons_of_mem _ (hBB b h2)), by simp, by simp, by simp⟩, hin'⟩
 ·simp only [Ker.put, Int.toNat_natCast] at e1
  rw [List.getElem?_set] at e1 e2 e3
  by_cases hti : t = i
  ·subst hti
   rw [if_pos rfl, if_pos (by rw [h.n3]; exact ht)] at e1
   rw [if_pos rfl, if_pos (by rw [h.n1]; exact ht)] at e2
   rw [if_pos rfl, if_pos (by rw [h.n2]; exact ht)] at e3
   cases e1; cases e2; cases e3
   refine hT.move (Nat.le_refl _) (fun b hb ho => ⟨⟨ho.1, fun hm => ?_⟩, rfl⟩) fun _ _ => rfl
   rcases List.mem_cons.1 hm with rfl | hm
   ·exact ho.2 (by simp)
   ·rcases flatten_set_mem hm with hm | ⟨j, D, hj, hD, hm⟩
    ·exact ho.2 (by simp [hm])
    ·have hmB : b ∈ Bs.flatten := List.mem_flatten.2 ⟨D, mgE hD, hm⟩
     rcases ho.1 with ho1 | ho1
     ·exact h.apart b (List.mem_cons_of_mem _ hmB) ho1
     ·have := h.lt b (List.mem_cons_of_mem _ hmB); omega
  ·rw [if_neg hti] at e1 e2 e3
   have hother : ∀ b ∈ B2, b ∉ g :: B := fun b hbm hm => by
    rcases List.mem_cons.1 hm with hm | hm
    ·exact hn0.1 (hm ▸ List.mem_flatten.2 ⟨B2, mgE e3, hbm⟩)
    ·exact nodup_apart hn0.2 hB e3 hti b hm hbm
   refine (h.thr i x cs2 B2 e1 e2 e3).move st.size (fun b hb ho => ⟨⟨.inl ho, fun hm => ?_⟩, hsame b hb fun hm => h.apart b (by
    rcases List.mem_cons.1 hm with rfl | h2
    ·simp
    ·exact List.mem_cons_of_mem _ (hBB b h2)) ho⟩) fun b hb => hsame b (h.lt b (List.mem_cons_of_mem _ (List.mem_flatten.2 ⟨B2, mgE e3, hb⟩))) (hother b hb)
   rcases List.mem_cons.1 hm with rfl | hm
   ·exact h.apart b (by simp) ho
   ·rcases hin' b hm with hm | hm
    ·exact h.apart b (List.mem_cons_of_mem _ hm) ho
    ·omega
 ·rw [hb]
  have hc' : (css.set t cs')[t]? = some cs' := by rw [List.getElem?_set_self (by rw [h.n1]; exact ht)]
  congr 3
  unfold winC preC postC
  have hl : t < (css.set t cs').length := by simp [h.n1]; exact ht
  have e : css.set t cs' = css.take t ++ cs' :: css.drop (t + 1) := by
   rw [List.set_eq_take_append_cons_drop, if_pos (by rw [h.n1]; exact ht)]
  rw [e]
  simp [Ker.put]
 ·refine List.nodup_cons.2 ⟨fun hm => ?_, nodup_set hn0.2 hB hn fun b hb => (hin b hb).imp id fun h1 hm => ?_⟩
  ·rcases hin' g hm with hm | hm
   ·exact hn0.1 hm
   ·omega
  ·have := h.lt b (List.mem_cons_of_mem _ hm); omega
theorem KerAt.closeSame (h : KerAt ok w g k css Bs) {t : Nat} (ht : t < 4) {x x' : Thr} {la : Option Addr} {lc : Nat} {oa : Option Addr} {oc : Nat} {ba : Option Addr} {bc : Nat} {ma : Option Addr} {mc : Nat} {la' : Option Addr} {lc' : Nat} {oa' : Option Addr} {oc' : Nat}
  (hc : css[t]? = some (thrC x la lc oa oc ba bc ma mc)) (hB : Bs[t]? = some (rows2 ba ma)) {w' : World} {made' : Int} (hT : ThrR ok w x la lc oa oc ba bc ma mc)
  (st : St [g] w w' [(g, 58, winC (preC k css t) (thrC x' la' lc' oa' oc' ba bc ma mc) (postC { k with made := made' } css t))])
  (ho : x'.objects = x.objects) (hm : x'.mails = x.mails)
  (hl : SlR (fun b => (ok b ∨ w.heap.size ≤ b) ∧ b ∉ g :: rows2 ba ma) w' 2 RLev la' lc' x'.label) (ho' : SlR (fun b => (ok b ∨ w.heap.size ≤ b) ∧ b ∉ g :: rows2 ba ma) w' 1 RInt oa' oc' x'.own) : KerTo ok w g Bs w' { k.put t x' with made := made' } := by
 have hokw : ∀ b, b < w.heap.size → ok b → ((ok b ∨ w.heap.size ≤ b) ∧ b ∉ g :: rows2 ba ma) ∧ w'.heap[b]? = w.heap[b]? := fun b hb hob => by
  refine ⟨⟨.inl hob, fun hmm => ?_⟩, st.frame b hb fun hmm => ?_⟩
  ·rcases List.mem_cons.1 hmm with rfl | hmm
   ·exact h.apart b (by simp) hob
   ·exact h.apartAt hB hmm hob
  ·simp at hmm; subst hmm; exact h.apart b (by simp) hob
 refine h.close ht hc hB (st.wider2 (by simp)) (st.blk _ (mgE (i := 0) rfl)) ⟨la', lc', oa', oc', ba, bc, ma, mc, rfl, ⟨hl, ho', ?_, ?_⟩, rfl⟩ (flatten_nodup (List.nodup_cons.1 h.nodup).2 hB) fun b hb => .inl hb
 ·rw [ho]; exact hT.objs.kept (fun b e => st.frame b (hT.objs.lt e) (by simp; rintro rfl; exact h.gOut hB (mem_rows2.2 (.inl e)))) fun _ _ r => r.move st.size hokw
 ·rw [hm]; exact hT.mails.kept (fun b e => st.frame b (hT.mails.lt e) (by simp; rintro rfl; exact h.gOut hB (mem_rows2.2 (.inr e)))) fun _ _ r => r.move st.size hokw
theorem KerAt.closeMails (h : KerAt ok w g k css Bs) {t : Nat} (ht : t < 4) {x x' : Thr} {la : Option Addr} {lc : Nat} {oa : Option Addr} {oc : Nat} {ba : Option Addr} {bc : Nat} {ma : Option Addr} {mc : Nat} {la' : Option Addr} {lc' : Nat} {oa' : Option Addr} {oc' : Nat} {ma' : Option Addr} {mc' : Nat}
  (hc : css[t]? = some (thrC x la lc oa oc ba bc ma mc)) (hB : Bs[t]? = some (rows2 ba ma)) {w' : World} {made' : Int} (hT : ThrR ok w x la lc oa oc ba bc ma mc)
  (st : St [g] w w' [(g, 58, winC (preC k css t) (thrC x' la' lc' oa' oc' ba bc ma' mc') (postC { k with made := made' } css t))])
  (ho : x'.objects = x.objects)
  (hl : SlR (fun b => (ok b ∨ w.heap.size ≤ b) ∧ b ∉ g :: rows2 ba ma) w' 2 RLev la' lc' x'.label) (ho' : SlR (fun b => (ok b ∨ w.heap.size ≤ b) ∧ b ∉ g :: rows2 ba ma) w' 1 RInt oa' oc' x'.own)
  (hm : RowAt 42 w' 5 (RMail (fun b => (ok b ∨ w.heap.size ≤ b) ∧ b ∉ g :: rows2 ba ma) w') ma' mc' x'.mails) (hin : ∀ b, ma'.map (·.block) = some b → ma.map (·.block) = some b) : KerTo ok w g Bs w' { k.put t x' with made := made' } := by
 have hsub : ∀ b, b ∈ rows2 ba ma' → b ∈ rows2 ba ma := fun b hb => by
  rcases mem_rows2.1 hb with hb | hb
  ·exact mem_rows2.2 (.inl hb)
  ·exact mem_rows2.2 (.inr (hin b hb))
 have hsub2 : ∀ b, b ∉ g :: rows2 ba ma → b ∉ g :: rows2 ba ma' := fun b hb hm => by
  rcases List.mem_cons.1 hm with rfl | hm
  ·exact hb (by simp)
  ·exact hb (List.mem_cons_of_mem _ (hsub b hm))
 have hokw : ∀ b, b < w.heap.size → ok b → ((ok b ∨ w.heap.size ≤ b) ∧ b ∉ g :: rows2 ba ma') ∧ w'.heap[b]? = w.heap[b]? := fun b hb hob => by
  refine ⟨⟨.inl hob, hsub2 b fun hmm => ?_⟩, st.frame b hb fun hmm => ?_⟩
  ·rcases List.mem_cons.1 hmm with rfl | hmm
   ·exact h.apart b (by simp) hob
   ·exact h.apartAt hB hmm hob
  ·simp at hmm; subst hmm; exact h.apart b (by simp) hob
 have hnd : (rows2 ba ma').Nodup := by
  have := flatten_nodup (List.nodup_cons.1 h.nodup).2 hB
  unfold rows2 at this ⊢
  cases hma : ma' with
  | none => cases ba <;> simp
  | some ad =>
   have e := hin ad.block (by rw [hma]; rfl)
   rw [e] at this
   exact this
 refine h.close ht hc hB (st.wider2 (by simp)) (st.blk _ (mgE (i := 0) rfl)) ⟨la', lc', oa', oc', ba, bc, ma', mc', rfl, ⟨hl.okay fun b hb => ⟨hb.1, hsub2 b hb.2⟩, ho'.okay fun b hb => ⟨hb.1, hsub2 b hb.2⟩, ?_, hm.kept (fun _ _ => rfl) fun _ _ r => r.move (Nat.le_refl _) fun b _ hb => ⟨⟨hb.1, hsub2 b hb.2⟩, rfl⟩⟩, rfl⟩ hnd fun b hb => .inl (hsub b hb)
 rw [ho]; exact hT.objs.kept (fun b e => st.frame b (hT.objs.lt e) (by simp; rintro rfl; exact h.gOut hB (mem_rows2.2 (.inl e)))) fun _ _ r => r.move st.size hokw
theorem KerAt.fine (h : KerAt ok w g k css Bs) {t : Nat} {B : List Nat} (hB : Bs[t]? = some B) {w' : World} {α : Type} {sz : Nat} {R : List Value → α → Prop} {a : Option Addr} {c : Nat} {xs : List α} (hs : SlR (fun b => ok b ∨ w.heap.size ≤ b) w' sz R a c xs) : SlR (fun b => (ok b ∨ w.heap.size ≤ b) ∧ b ∉ g :: B) w' sz R a c xs :=
 hs.okay fun b hb => ⟨hb, fun hm => by
  have hlt := h.lt b (by
   rcases List.mem_cons.1 hm with rfl | hm
   ·simp
   ·exact List.mem_cons_of_mem _ (h.inB hB hm))
  rcases hb with hb | hb
  ·rcases List.mem_cons.1 hm with rfl | hm
   ·exact h.apart b (by simp) hb
   ·exact h.apartAt hB hm hb
  ·omega⟩
end
end Go.Proofs.Ytealbofmlieicaa
