/- Walks and plain laws that the claim rests on, part 21. -/
import Derived.Test.YtflfjpopfapogaaP20
import Derived.Test.YtflfjpopfapogaaP6
import Derived.ArgAppend
import Derived.Test.YtflfjpopfapogaaP2
set_option linter.unusedSimpArgs false
set_option linter.unusedVariables false
/- A row of the call's own that begins anywhere in its block: 'work = work[1:]', 'work = append(work, x)'. No program is in sight. -/
namespace Go.Proofs.Ytflfjpopfapogaa
open Go.RowKit
def Queue (base : Nat) (e : TypeId) (w : World) {α : Type} (sz : Nat) (R : List Value → α → Prop) (a : Option Addr) (c : Nat) (xs : List α) : Prop :=
 SlR (fun b => base ≤ b) w sz R a c xs ∧ (0 < c → ∃ g off cur, a = some ⟨g, off, none⟩ ∧ base ≤ g ∧ w.heap[g]? = some (.cells cur e (0, 0)) ∧ off + c * sz ≤ cur.size)
section
variable {base : Nat} {e : TypeId} {w w' : World} {α : Type} {sz : Nat} {R : List Value → α → Prop} {a : Option Addr} {c : Nat} {xs : List α}
theorem putL_at : ∀ {vs cs : List Value} {o j : Nat} {v : Value}, o + vs.length ≤ cs.length → vs[j]? = some v → (putL cs o vs)[o + j]? = some v := by
 intro vs
 induction vs with
 | nil => intro cs o j v _ h; simp at h
 | cons u vs ih =>
  intro cs o j v hl hj
  rw [putL_cons]
  cases j with
  | zero =>
   simp at hj
   subst hj
   simp only [List.length_cons] at hl
   rw [putL_before (by omega)]
   show (cs.set o u)[o]? = some u
   rw [List.getElem?_set_self (by omega)]
  | succ j =>
   have := ih (cs := cs.set o u) (o := o + 1) (j := j) (v := v) (by simp at hl ⊢; omega) (by simpa using hj)
   rw [← this]
   congr 1
   omega
theorem Queue.slr (h : Queue base e w sz R a c xs) : SlR (fun b => base ≤ b) w sz R a c xs := h.1
theorem Queue.move (h : Queue base e w sz R a c xs) (hs : w.heap.size ≤ w'.heap.size) (hk : ∀ b, base ≤ b → b < w.heap.size → w'.heap[b]? = w.heap[b]?) : Queue base e w' sz R a c xs := by
 refine ⟨h.1.keep ⟨hs, fun b hb ho => hk b ho hb⟩, fun hc => ?_⟩
 obtain ⟨g, off, cur, h1, h2, h3, h4⟩ := h.2 hc
 exact ⟨g, off, cur, h1, h2, by rw [hk g h2 (Array.getElem?_eq_some_iff.1 h3).1]; exact h3, h4⟩
theorem Queue.below (h : Queue base e w sz R a c xs) (hb : Below w.heap.size w w') : Queue base e w' sz R a c xs := h.move hb.size fun b _ hb' => hb.block b hb'
theorem Queue.ofBlk {g : Nat} {cs : List Value} {x : α} (h : w.heap[g]? = some (.cells cs.toArray e (0, 0))) (hR : R cs x) (hl : cs.length = sz) (h1 : cs.all Value.oneCell' = true) (hb : base ≤ g) : Queue base e w sz R (some ⟨g, 0, none⟩) 1 [x] :=
 ⟨SlR.ofBlk h hR hl h1 hb, fun _ => ⟨g, 0, cs.toArray, rfl, hb, h, by simp; omega⟩⟩
theorem Queue.ofOwn {b : Nat} (h : Own b e w sz R a c xs) (hb : base ≤ b) : Queue base e w sz R a c xs := by
 refine ⟨h.slr fun k hk => Nat.le_trans hb hk, fun hc => ?_⟩
 obtain ⟨css, _, _, _, h4⟩ := h
 rcases h4.2 with ⟨hv, _⟩ | ⟨g, cap, cur, hv, hg, hh, _, _, hs, _⟩
 ·simp only [Value.slice.injEq] at hv
  omega
 ·simp only [Value.slice.injEq] at hv
  obtain ⟨rfl, _, rfl⟩ := hv
  exact ⟨g, 0, cur, rfl, by omega, hh, by omega⟩
theorem Queue.tail {g off : Nat} {x : α} (h : Queue base e w sz R (some ⟨g, off, none⟩) c (x :: xs)) : Queue base e w sz R (some ⟨g, off + sz, none⟩) (c - 1) xs := by
 refine ⟨by have := h.1.drop 1; simpa using this, fun hc => ?_⟩
 obtain ⟨g', off', cur, h1, h2, h3, h4⟩ := h.2 (by omega)
 simp only [Option.some.injEq, Addr.mk.injEq, and_true] at h1
 obtain ⟨rfl, rfl⟩ := h1
 refine ⟨g, off + sz, cur, rfl, h2, h3, ?_⟩
 have : c * sz = sz + (c - 1) * sz := by
  obtain ⟨k, rfl⟩ : ∃ k, c = k + 1 := ⟨c - 1, by omega⟩
  rw [Nat.add_sub_cancel, Nat.add_mul]; omega
 omega
theorem Queue.none_left (a : Option Addr) : Queue base e w sz R a 0 ([] : List α) :=
 ⟨⟨Nat.le_refl _, Nat.zero_le _, fun _ => rfl, fun i x hx => by simp at hx⟩, fun h => absurd h (Nat.lt_irrefl 0)⟩
end
theorem wp_appQ {P : Program} {w : World} {o : Oper} {A : Act} {Q : Exit → Act → World → Prop} {K : Act → World → Prop} (s x : Operand) (t : TypeId)
  (ho : o.op = .call { callee := .builtin .append, args := #[s, x], argTypes := #[t, t] })
  (e : TypeId) (i : TypeInfo) (z : Value) (sz bytes : Nat) (ht : P.underlying t = some (.slice e)) (hi : P.info? e = some i) (hz : i.zero = some z) (hsize : i.size = sz) (hby : i.bytes = bytes) (hzs : z.cells.size = sz) (hsz : 0 < sz)
  {α : Type} {R : List Value → α → Prop} {base : Nat} {ok : Nat → Prop} {a : Option Addr} {c n : Nat} {xs : List α} (hs : A.eval s = .slice a n c) (hn : n = xs.length) (hO : Queue base e w sz R a c xs)
  {b : Option Addr} {d : Nat} {y : α} (hx : A.eval x = .slice b 1 d) (hR : SlR ok w sz R b d [y]) (hl : (xs.length + 1) * bytes ≤ 140737488355328) (h63 : xs.length + 1 ≤ maxLen) (hbase : base ≤ w.heap.size)
  (h : ∀ a' c' w' row, Queue base e w' sz R a' c' (xs ++ [y]) → w.grownBy w' row → (∀ k, row = some k → base ≤ k) → K (A.put o.dst (.slice a' (n + 1) c')) w') : Oper.wp P o A w K Q := by
 subst hn
 obtain ⟨hS, hsp⟩ := hO
 obtain ⟨css, g1, g2, g3, g4⟩ := hS.all
 obtain ⟨dss, f1, f2, f3, f4⟩ := hR.all
 match dss, f1 with
 | [ds], _ =>
  have hds := f2 ds (by simp)
  obtain ⟨b0, o0, rfl, _, _, hc⟩ := f4 0 ds rfl
  have hnews : ∀ (j : Nat) (u : Value), ds[j]? = some u → w.cell? ((⟨b0, o0, none⟩ : Addr).add j) = some u := fun j u hj => by
   rw [Addr.add_lit, ← hc j u hj]
   congr 2
   omega
  by_cases hr : xs.length + 1 ≤ c
  ·obtain ⟨g, off, cur, rfl, k1, k2, k3⟩ := hsp (by omega)
   subst hsize
   have hmul : (xs.length + 1) * i.size ≤ c * i.size := Nat.mul_le_mul_right _ hr
   have hadd : (xs.length + 1) * i.size = xs.length * i.size + i.size := by rw [Nat.add_mul, Nat.one_mul]
   have k2' : w.heap[g]? = some (.cells cur.toList.toArray e (0, 0)) := by simpa using k2
   have hcs : cur.toList.length = cur.size := by simp
   have hrun := run_append_room_cells (P := P) w t o.type e i ht hi g off xs.length c ⟨b0, o0, none⟩ 1 d ds (by rw [hds.1]; omega) hnews hds.2 hr
    (fun j hj => by rw [cell_of_row w g _ cur e (0, 0) k2]; simp; have := hds.1; omega) (fun j hj => by simp [World.frozen?, k2])
   obtain ⟨a1, a2, a3, a4, a5, a6⟩ := setCells_block (w := w) ds (off + xs.length * i.size) cur.toList k2'
   unfold Oper.wp
   simp [execOp, ho, resolve, invoke, builtin, hs, hx, hrun, Result.andThen]
   refine h _ _ _ (some g) ⟨⟨by simp; omega, hS.2.1, by simp, fun j u hj => ?_⟩, fun _ => ⟨g, off, _, rfl, k1, a1, by simp [putL_length]; omega⟩⟩ ⟨a4, a5, a6, by rw [a3]; exact Nat.le_refl _, fun k _ hk => a2 k fun he => hk (by rw [he])⟩ (fun k hk => by simp at hk; omega)
   have hg : g < w.heap.size := (Array.getElem?_eq_some_iff.1 k2).1
   by_cases hj' : j < xs.length
   ·rw [List.getElem?_append_left hj'] at hj
    obtain ⟨g', o', cs, ha, h1, h2, h3, h4, h5, h6⟩ := hS.2.2.2 j u hj
    simp only [Option.some.injEq, Addr.mk.injEq, and_true] at ha
    obtain ⟨rfl, rfl⟩ := ha
    refine ⟨g, off, cs, rfl, h1, by rw [a3]; exact hg, h3, h4, h5, fun q v hv => ?_⟩
    have hq : q < i.size := by rw [← h4]; exact (List.getElem?_eq_some_iff.1 hv).1
    have hle : (j + 1) * i.size ≤ xs.length * i.size := Nat.mul_le_mul_right _ hj'
    rw [Nat.add_mul, Nat.one_mul] at hle
    rw [cell_of_row _ g _ _ e (0, 0) a1]
    simp only [List.getElem?_toArray]
    rw [putL_before (by omega)]
    have := h6 q v hv
    rw [cell_of_row w g _ cur e (0, 0) k2] at this
    simpa using this
   ·have hjx : j = xs.length := by
     have := (List.getElem?_eq_some_iff.1 hj).1
     simp at this
     omega
    subst hjx
    simp at hj
    subst hj
    refine ⟨g, off, ds, rfl, k1, by rw [a3]; exact hg, f3 0 y ds rfl rfl, hds.1, hds.2, fun q v hv => ?_⟩
    rw [cell_of_row _ g _ _ e (0, 0) a1]
    simp only [List.getElem?_toArray]
    exact putL_at (by rw [hds.1, hcs]; omega) hv
  ·have key : ∀ v' w', w'.ownsRow w.heap.size e sz v' (xs.length + 1) (css.flatten ++ ds) → w.grownBy w' none → K (A.put o.dst v') w' := by
    intro v' w' hown hgr
    have hO : ∀ a' c', v' = .slice a' (xs.length + 1) c' → Own w.heap.size e w' sz R a' c' (xs ++ [y]) := by
     rintro a' c' rfl
     refine ⟨css ++ [ds], by simp [g1], ?_, ?_, by simpa using hown⟩
     ·intro cs hcs
      rcases List.mem_append.1 hcs with hcs | hcs
      ·exact g2 cs hcs
      ·simp at hcs; subst hcs; exact hds
     ·intro i x cs hx hc
      by_cases hi : i < xs.length
      ·rw [List.getElem?_append_left hi] at hx
       rw [List.getElem?_append_left (by omega)] at hc
       exact g3 i x cs hx hc
      ·rw [List.getElem?_append_right (by omega)] at hx
       rw [List.getElem?_append_right (by omega), g1] at hc
       exact f3 _ x cs hx hc
    obtain ⟨hlen, ⟨rfl, h0⟩ | ⟨g, cap, cur, rfl, _⟩⟩ := hown
    ·omega
    ·exact h _ _ w' none (Queue.ofOwn (hO _ _ rfl) hbase) hgr (by simp)
   cases a with
   | some ad =>
    have hfl : css.flatten.length = xs.length * sz := by rw [flatten_length fun cs h => (g2 cs h).1, g1]
    obtain ⟨v', w', hrun, r1, r2⟩ := run_append_arg_grows (P := P) w t o.type e i z sz bytes ht hi hz hsize hby hzs hsz ad xs.length c css.flatten hfl (fun j u hj => by
     obtain ⟨p, q, cs, rfl, hq, hp, hv⟩ := flatten_inv (fun cs h => (g2 cs h).1) hj
     obtain ⟨b, o, ha, _, _, hc⟩ := g4 p cs hp
     simp only [Option.some.injEq] at ha
     subst ha
     rw [Addr.add_lit, ← hc q u hv]
     congr 2
     omega) ⟨b0, o0, none⟩ 1 d ds (by rw [hds.1]; omega) hnews (by omega) h63 hl
    unfold Oper.wp
    simp [execOp, ho, resolve, invoke, builtin, hs, hx, hrun, Result.andThen]
    exact key v' w' r1 r2
   | none =>
    have hc0 := hS.2.2.1 rfl
    have hx0 : xs = [] := List.eq_nil_of_length_eq_zero (by have := hS.1; omega)
    subst hc0
    subst hx0
    have hcss : css = [] := List.eq_nil_of_length_eq_zero (by simpa using g1)
    subst hcss
    obtain ⟨v', w', hrun, r1, r2, _⟩ := run_append_own (P := P) w w.heap.size t o.type e i z sz bytes ht hi hz hsize hby hzs hsz (.slice none 0 0) 0 [] (World.ownsRow_nil w _ e sz) ⟨b0, o0, none⟩ 1 d ds (by rw [hds.1]; omega) hnews hds.2 h63 hl (Nat.le_refl _)
    unfold Oper.wp
    simp only [List.length_nil] at hs
    simp [execOp, ho, resolve, invoke, builtin, hs, hx, hrun, Result.andThen]
    exact key v' w' (by simpa using r1) r2
theorem wpList_appQ {P : Program} {w : World} {ops : Array Oper} {rest : List Oper} {o : Oper} {A : Act} {Q : Exit → Act → World → Prop} (hgd : Region.wanted o (yielded ops A.tmps) = true) (s x : Operand) (t : TypeId)
  (ho : o.op = .call { callee := .builtin .append, args := #[s, x], argTypes := #[t, t] })
  (e : TypeId) (i : TypeInfo) (z : Value) (sz bytes : Nat) (ht : P.underlying t = some (.slice e)) (hi : P.info? e = some i) (hz : i.zero = some z) (hsize : i.size = sz) (hby : i.bytes = bytes) (hzs : z.cells.size = sz) (hsz : 0 < sz)
  {α : Type} {R : List Value → α → Prop} {base : Nat} {ok : Nat → Prop} {a : Option Addr} {c n : Nat} {xs : List α} (hs : A.eval s = .slice a n c) (hn : n = xs.length) (hO : Queue base e w sz R a c xs)
  {b : Option Addr} {d : Nat} {y : α} (hx : A.eval x = .slice b 1 d) (hR : SlR ok w sz R b d [y]) (hl : (xs.length + 1) * bytes ≤ 140737488355328) (h63 : xs.length + 1 ≤ maxLen) (hbase : base ≤ w.heap.size)
  (h : ∀ a' c' w' row, Queue base e w' sz R a' c' (xs ++ [y]) → w.grownBy w' row → (∀ k, row = some k → base ≤ k) → wpList P ops Q rest (A.put o.dst (.slice a' (n + 1) c')) w') : wpList P ops Q (o :: rest) A w :=
 wpList_wanted hgd fun _ hK => wp_appQ s x t ho e i z sz bytes ht hi hz hsize hby hzs hsz hs hn hO hx hR hl h63 hbase fun a' c' w' row h1 h2 h3 => hK _ _ (h a' c' w' row h1 h2 h3)
open Go.RowKit
theorem wp_appFull {P : Program} {w : World} {o : Oper} {A : Act} {Q : Exit → Act → World → Prop} {K : Act → World → Prop} (s x : Operand) (t : TypeId)
  (ho : o.op = .call { callee := .builtin .append, args := #[s, x], argTypes := #[t, t] })
  (e : TypeId) (i : TypeInfo) (z : Value) (sz bytes : Nat) (ht : P.underlying t = some (.slice e)) (hi : P.info? e = some i) (hz : i.zero = some z) (hsize : i.size = sz) (hby : i.bytes = bytes) (hzs : z.cells.size = sz) (hsz : 0 < sz)
  {α : Type} {R : List Value → α → Prop} {ok ok' : Nat → Prop} {a : Option Addr} {c n : Nat} {xs : List α} (hs : A.eval s = .slice a n c) (hn : n = xs.length) (hS : SlR ok w sz R a c xs)
  {b : Option Addr} {m d : Nat} {ys : List α} (hx : A.eval x = .slice b m d) (hm : m = ys.length) (hR : SlR ok' w sz R b d ys) (hroom : c < xs.length + ys.length) (hl : (xs.length + ys.length) * bytes ≤ 140737488355328) (h63 : xs.length + ys.length ≤ maxLen)
  (h : ∀ a' c' w', Own w.heap.size e w' sz R (some ⟨a', 0, none⟩) c' (xs ++ ys) → Below w.heap.size w w' → K (A.put o.dst (.slice (some ⟨a', 0, none⟩) (n + m) c')) w') : Oper.wp P o A w K Q := by
 subst hn hm
 obtain ⟨css, g1, g2, g3, g4⟩ := hS.all
 obtain ⟨dss, f1, f2, f3, f4⟩ := hR.all
 have hcx := hS.1
 have hy0 : 0 < ys.length := by omega
 have hfl : css.flatten.length = xs.length * sz := by rw [flatten_length fun cs h => (g2 cs h).1, g1]
 have hfy : dss.flatten.length = ys.length * sz := by rw [flatten_length fun cs h => (f2 cs h).1, f1]
 obtain ⟨b0, o0, rfl, _, _, _⟩ := f4 0 (dss[0]'(by omega)) (by simp)
 have hnews : ∀ (j : Nat) (u : Value), dss.flatten[j]? = some u → w.cell? ((⟨b0, o0, none⟩ : Addr).add j) = some u := fun j u hj => by
  obtain ⟨p, q, cs, rfl, hq, hp, hv⟩ := flatten_inv (fun cs h => (f2 cs h).1) hj
  obtain ⟨b, o, ha, _, _, hc⟩ := f4 p cs hp
  simp only [Option.some.injEq, Addr.mk.injEq, and_true] at ha
  obtain ⟨rfl, rfl⟩ := ha
  rw [Addr.add_lit, ← hc q u hv]
  congr 2
  omega
 have key : ∀ v' w', w'.ownsRow w.heap.size e sz v' (xs.length + ys.length) (css.flatten ++ dss.flatten) → w.grownBy w' none → K (A.put o.dst v') w' := by
  intro v' w' hown hgr
  have hO : ∀ a' c', v' = .slice a' (xs.length + ys.length) c' → Own w.heap.size e w' sz R a' c' (xs ++ ys) := by
   rintro a' c' rfl
   refine ⟨css ++ dss, by simp [g1, f1], ?_, ?_, by simpa using hown⟩
   ·intro cs hcs
    rcases List.mem_append.1 hcs with hcs | hcs
    ·exact g2 cs hcs
    ·exact f2 cs hcs
   ·intro i x cs hx hc
    by_cases hi : i < xs.length
    ·rw [List.getElem?_append_left hi] at hx
     rw [List.getElem?_append_left (by omega)] at hc
     exact g3 i x cs hx hc
    ·rw [List.getElem?_append_right (by omega)] at hx
     rw [List.getElem?_append_right (by omega), g1] at hc
     exact f3 _ x cs hx hc
  obtain ⟨hlen, ⟨rfl, h0⟩ | ⟨g, cap, cur, rfl, _⟩⟩ := hown
  ·omega
  ·exact h _ _ w' (hO _ _ rfl) ⟨hgr.os, hgr.tape, hgr.output, hgr.size, fun q hq => hgr.block q hq (by simp)⟩
 cases a with
 | some ad =>
  obtain ⟨v', w', hrun, r1, r2⟩ := run_append_arg_grows (P := P) w t o.type e i z sz bytes ht hi hz hsize hby hzs hsz ad xs.length c css.flatten hfl (fun j u hj => by
   obtain ⟨p, q, cs, rfl, hq, hp, hv⟩ := flatten_inv (fun cs h => (g2 cs h).1) hj
   obtain ⟨b, o, ha, _, _, hc⟩ := g4 p cs hp
   simp only [Option.some.injEq] at ha
   subst ha
   rw [Addr.add_lit, ← hc q u hv]
   congr 2
   omega) ⟨b0, o0, none⟩ ys.length d dss.flatten hfy hnews (by omega) h63 hl
  unfold Oper.wp
  simp [execOp, ho, resolve, invoke, builtin, hs, hx, hrun, Result.andThen]
  exact key v' w' r1 r2
 | none =>
  have hc0 := hS.2.2.1 rfl
  have hx0 : xs = [] := List.eq_nil_of_length_eq_zero (by omega)
  subst hc0
  subst hx0
  have hcss : css = [] := List.eq_nil_of_length_eq_zero (by simpa using g1)
  subst hcss
  obtain ⟨v', w', hrun, r1, r2, _⟩ := run_append_own (P := P) w w.heap.size t o.type e i z sz bytes ht hi hz hsize hby hzs hsz (.slice none 0 0) 0 [] (World.ownsRow_nil w _ e sz) ⟨b0, o0, none⟩ ys.length d dss.flatten hfy hnews (fun u hu => by
   obtain ⟨cs, hcs, huc⟩ := List.mem_flatten.1 hu
   exact (f2 cs hcs).2 u huc) (by simpa using h63) (by simpa using hl) (Nat.le_refl _)
  unfold Oper.wp
  simp only [List.length_nil] at hs
  simp [execOp, ho, resolve, invoke, builtin, hs, hx, hrun, Result.andThen]
  exact key v' w' (by simpa using r1) r2
open Go.RowKit
theorem putL_after : ∀ {cs : List Value} {o : Nat} {vs : List Value} {p : Nat}, o + vs.length ≤ p → (putL cs o vs)[p]? = cs[p]?
 | [], o, vs, p, _ => by simp [putL]
 | c :: cs, 0, [], p, _ => by simp [putL]
 | c :: cs, 0, v :: vs, 0, h => by simp at h
 | c :: cs, 0, v :: vs, p + 1, h => by
  simp only [putL, List.getElem?_cons_succ]
  exact putL_after (by simp at h; omega)
 | c :: cs, o + 1, vs, 0, h => by omega
 | c :: cs, o + 1, vs, p + 1, h => by
  simp only [putL, List.getElem?_cons_succ]
  exact putL_after (by omega)
theorem putL_ahead : ∀ {cs : List Value} {o : Nat} {vs : List Value} {p : Nat}, p < o → (putL cs o vs)[p]? = cs[p]?
 | [], o, vs, p, _ => by simp [putL]
 | c :: cs, 0, vs, p, h => by omega
 | c :: cs, o + 1, vs, 0, h => by simp [putL]
 | c :: cs, o + 1, vs, p + 1, h => by
  simp only [putL, List.getElem?_cons_succ]
  exact putL_ahead (by omega)
def RowAt (e : TypeId) (w : World) {α : Type} (sz : Nat) (R : List Value → α → Prop) (a : Option Addr) (c : Nat) (xs : List α) : Prop :=
 xs.length ≤ c ∧ c ≤ maxLen ∧
 ((a = none ∧ c = 0) ∨ ∃ g off cells, a = some ⟨g, off, none⟩ ∧ w.heap[g]? = some (.cells (List.toArray cells) e (0, 0)) ∧ off + c * sz ≤ cells.length ∧
  ∀ i x, xs[i]? = some x → ∃ cs, R cs x ∧ cs.length = sz ∧ (∀ v ∈ cs, v.oneCell' = true) ∧ ∀ j v, cs[j]? = some v → cells[off + i * sz + j]? = some v)
section
variable {e : TypeId} {w w' : World} {α : Type} {sz : Nat} {R R' : List Value → α → Prop} {a : Option Addr} {c : Nat} {xs : List α}
theorem RowAt.nil (e : TypeId) (w : World) {α : Type} (sz : Nat) (R : List Value → α → Prop) : RowAt e w sz R none 0 ([] : List α) := ⟨Nat.le_refl _, Nat.zero_le _, .inl ⟨rfl, rfl⟩⟩
theorem RowAt.lt (h : RowAt e w sz R a c xs) {b : Nat} (hb : a.map (·.block) = some b) : b < w.heap.size := by
 rcases h.2.2 with ⟨rfl, _⟩ | ⟨g, off, cells, rfl, hg, _⟩
 ·simp at hb
 ·simp at hb; subst hb; exact (Array.getElem?_eq_some_iff.1 hg).1
theorem RowAt.slr (h : RowAt e w sz R a c xs) {ok : Nat → Prop} (hok : ∀ b, a.map (·.block) = some b → ok b) : SlR ok w sz R a c xs := by
 refine ⟨h.1, h.2.1, fun ha => ?_, fun i x hx => ?_⟩
 ·rcases h.2.2 with ⟨_, h⟩ | ⟨g, off, cells, rfl, _⟩
  ·exact h
  ·cases ha
 ·rcases h.2.2 with ⟨_, hc⟩ | ⟨g, off, cells, rfl, hg, hle, hx2⟩
  ·have := (List.getElem?_eq_some_iff.1 hx).1
   have := h.1
   omega
  ·obtain ⟨cs, h1, h2, h3, h4⟩ := hx2 i x hx
   refine ⟨g, off, cs, rfl, hok g rfl, (Array.getElem?_eq_some_iff.1 hg).1, h1, h2, h3, fun j v hv => ?_⟩
   rw [cell_of_row w g _ cells.toArray e (0, 0) hg]
   simpa using h4 j v hv
theorem RowAt.kept (h : RowAt e w sz R a c xs) (hk : ∀ b, a.map (·.block) = some b → w'.heap[b]? = w.heap[b]?) (hR : ∀ cs x, R cs x → R' cs x) : RowAt e w' sz R' a c xs := by
 refine ⟨h.1, h.2.1, ?_⟩
 rcases h.2.2 with h | ⟨g, off, cells, rfl, hg, hle, hx2⟩
 ·exact .inl h
 ·refine .inr ⟨g, off, cells, rfl, by rw [hk g rfl]; exact hg, hle, fun i x hx => ?_⟩
  obtain ⟨cs, h1, h2⟩ := hx2 i x hx
  exact ⟨cs, hR _ _ h1, h2⟩
theorem RowAt.below (h : RowAt e w sz R a c xs) (hb : Below w.heap.size w w') (hR : ∀ cs x, R cs x → R' cs x) : RowAt e w' sz R' a c xs :=
 h.kept (fun b hb' => hb.block b (h.lt hb')) hR
theorem Own.row {base : Nat} (h : Own base e w sz R a c xs) : RowAt e w sz R a c xs := by
 obtain ⟨css, h1, h2, h3, h4⟩ := h
 obtain ⟨hl, ⟨hv, hn⟩ | ⟨g, cap, cur, hv, hg, hh, hnc, hm, hs, ht⟩⟩ := h4
 ·simp only [Value.slice.injEq] at hv
  obtain ⟨rfl, _, rfl⟩ := hv
  have : xs = [] := List.eq_nil_of_length_eq_zero hn
  subst this
  exact RowAt.nil _ _ _ _
 ·simp only [Value.slice.injEq] at hv
  obtain ⟨rfl, _, rfl⟩ := hv
  refine ⟨hnc, hm, .inr ⟨g, 0, cur.toList, rfl, by simpa using hh, by simp [hs], fun i x hx => ?_⟩⟩
  have hi : i < css.length := by rw [h1]; exact (List.getElem?_eq_some_iff.1 hx).1
  have hcs := h2 css[i] (by simp)
  refine ⟨css[i], h3 i x _ hx (by simp [hi]), hcs.1, hcs.2, fun j v hv => ?_⟩
  have := flatten_at (fun cs h => (h2 cs h).1) (i := i) (cs := css[i]) (by simp [hi]) hv
  have hj : i * sz + j < xs.length * sz := by
   have := (List.getElem?_eq_some_iff.1 this).1
   rw [flatten_length fun cs h => (h2 cs h).1, h1] at this
   exact this
  rw [← ht, List.getElem?_take_of_lt hj] at this
  simpa using this
theorem RowAt.tail {x : α} {g off : Nat} (h : RowAt e w sz R (some ⟨g, off, none⟩) c (x :: xs)) : RowAt e w sz R (some ⟨g, off + sz, none⟩) (c - 1) xs ∧ (c = 1 → RowAt e w sz R (some ⟨g, off, none⟩) 0 xs) := by
 have h1 := h.1
 simp only [List.length_cons] at h1
 rcases h.2.2 with ⟨h, _⟩ | ⟨g', off', cells, ha, hg, hle, hx2⟩
 ·cases h
 ·simp only [Option.some.injEq, Addr.mk.injEq, and_true] at ha
  obtain ⟨rfl, rfl⟩ := ha
  obtain ⟨k, rfl⟩ : ∃ k, c = k + 1 := ⟨c - 1, by omega⟩
  refine ⟨⟨by omega, by have := h.2.1; omega, .inr ⟨g, off + sz, cells, rfl, hg, by rw [Nat.add_mul] at hle; simp; omega, fun i y hy => ?_⟩⟩, fun hc => ?_⟩
  ·obtain ⟨cs, h3, h4, h5, h6⟩ := hx2 (i + 1) y (by simpa using hy)
   refine ⟨cs, h3, h4, h5, fun j v hv => ?_⟩
   have := h6 j v hv
   rw [Nat.add_mul] at this
   rw [← this]
   congr 1
   omega
  ·have hxs : xs = [] := List.eq_nil_of_length_eq_zero (by omega)
   subst hxs
   exact ⟨Nat.le_refl _, Nat.zero_le _, .inr ⟨g, off, cells, rfl, hg, by omega, fun i x hx => by simp at hx⟩⟩
theorem RowAt.set {g off i : Nat} {y : α} {cs' : List Value} (h : RowAt e w sz R (some ⟨g, off, none⟩) c xs) (hi : i < xs.length) (hR : ∀ cs x, R cs x → R' cs x) (hy : R' cs' y) (hl : cs'.length = sz) (h1 : ∀ v ∈ cs', v.oneCell' = true)
  (hw : ∀ cells, w.heap[g]? = some (.cells (List.toArray cells) e (0, 0)) → w'.heap[g]? = some (.cells (putL cells (off + i * sz) cs').toArray e (0, 0))) : RowAt e w' sz R' (some ⟨g, off, none⟩) c (xs.set i y) := by
 refine ⟨by simpa using h.1, h.2.1, ?_⟩
 rcases h.2.2 with ⟨h, _⟩ | ⟨g', off', cells, ha, hg, hle, hx2⟩
 ·cases h
 ·simp only [Option.some.injEq, Addr.mk.injEq, and_true] at ha
  obtain ⟨rfl, rfl⟩ := ha
  refine .inr ⟨g, off, putL cells (off + i * sz) cs', rfl, hw _ hg, by rw [putL_length]; exact hle, fun j x hx => ?_⟩
  have hin : i * sz + sz ≤ c * sz := by
   have : (i + 1) * sz ≤ c * sz := Nat.mul_le_mul_right _ (by have := h.1; omega)
   rwa [Nat.succ_mul] at this
  rw [List.getElem?_set] at hx
  by_cases hij : i = j
  ·subst hij
   simp [hi] at hx
   subst hx
   exact ⟨cs', hy, hl, h1, fun j v hv => putL_at (by omega) hv⟩
  ·rw [if_neg hij] at hx
   obtain ⟨cs, h3, h4, h5, h6⟩ := hx2 j x hx
   refine ⟨cs, hR _ _ h3, h4, h5, fun k v hv => ?_⟩
   have hk : k < sz := by rw [← h4]; exact (List.getElem?_eq_some_iff.1 hv).1
   rw [← h6 k v hv]
   rcases Nat.lt_or_gt_of_ne hij with hlt | hlt
   ·have : (i + 1) * sz ≤ j * sz := Nat.mul_le_mul_right _ hlt
    rw [Nat.succ_mul] at this
    exact putL_after (by omega)
   ·have : (j + 1) * sz ≤ i * sz := Nat.mul_le_mul_right _ hlt
    rw [Nat.succ_mul] at this
    exact putL_ahead (by omega)
theorem wp_rowApp {P : Program} {o : Oper} {A : Act} {Q : Exit → Act → World → Prop} {K : Act → World → Prop} (s x : Operand) (t : TypeId)
  (ho : o.op = .call { callee := .builtin .append, args := #[s, x], argTypes := #[t, t] })
  (i : TypeInfo) (z : Value) (bytes : Nat) (ht : P.underlying t = some (.slice e)) (hi : P.info? e = some i) (hz : i.zero = some z) (hsize : i.size = sz) (hby : i.bytes = bytes) (hzs : z.cells.size = sz) (hsz : 0 < sz)
  {ok : Nat → Prop} {n : Nat} (hs : A.eval s = .slice a n c) (hn : n = xs.length) (hO : RowAt e w sz R a c xs)
  {b : Option Addr} {d : Nat} {y : α} (hx : A.eval x = .slice b 1 d) (hR : SlR ok w sz R b d [y]) (hl : (xs.length + 1) * bytes ≤ 140737488355328) (h63 : xs.length + 1 ≤ maxLen)
  (h : ∀ g off c' w', RowAt e w' sz R (some ⟨g, off, none⟩) c' (xs ++ [y]) → w.grownBy w' (a.map (·.block)) → (a.map (·.block) = some g ∨ w.heap.size ≤ g) → K (A.put o.dst (.slice (some ⟨g, off, none⟩) (n + 1) c')) w') : Oper.wp P o A w K Q := by
 by_cases hroom : c < xs.length + 1
 ·refine wp_appFull s x t ho e i z sz bytes ht hi hz hsize hby hzs hsz hs hn (hO.slr (ok := fun _ => True) fun _ _ => trivial) hx rfl hR (by simpa using hroom) (by simpa using hl) (by simpa using h63) ?_
  intro g c' w' hO' hb
  exact h g 0 c' w' hO'.row (World.grownBy.ofBelow hb _) (.inr (hO'.blockLt g rfl).1)
 ·subst hn
  obtain ⟨dss, g1, g2, g3, g4⟩ := hR.all
  match dss, g1 with
  | [ds], _ =>
   have hds := g2 ds (by simp)
   obtain ⟨b0, o0, rfl, _, _, hc⟩ := g4 0 ds rfl
   have hO2 := hO
   rcases hO.2.2 with ⟨_, hc0⟩ | ⟨g, off, cells, rfl, hg, hle, hx2⟩
   ·omega
   ·have hin : xs.length * sz + sz ≤ c * sz := by
     have : (xs.length + 1) * sz ≤ c * sz := Nat.mul_le_mul_right _ (by omega)
     rwa [Nat.succ_mul] at this
    have hcell : ∀ j, w.cell? ⟨g, j, none⟩ = cells[j]? := fun j => by rw [cell_of_row w g _ cells.toArray e (0, 0) hg]; simp
    have hrun := run_append_room_cells (P := P) w t o.type e i ht hi g off xs.length c ⟨b0, o0, none⟩ 1 d ds (by rw [hds.1, hsize, Nat.one_mul]) (fun j u hj => by
     have := hc j u hj
     rw [Addr.add_lit, ← this]
     congr 2
     omega) hds.2 (by omega) (fun j hj => by
      rw [hsize, hcell, List.getElem?_eq_getElem (by rw [hds.1] at hj; omega)]; rfl) (fun j hj => by
      exact frozen_of_row w g _ cells.toArray e hg)
    obtain ⟨a1, a2, a3, a4, a5, a6⟩ := setCells_block (w := w) ds (off + xs.length * sz) cells hg
    unfold Oper.wp
    simp [execOp, ho, resolve, invoke, builtin, hs, hx, hrun, Result.andThen]
    rw [hsize]
    refine h g off c _ ⟨by simp; omega, hO2.2.1, .inr ⟨g, off, _, rfl, a1, by rw [putL_length]; exact hle, fun j x hx => ?_⟩⟩ ⟨a4, a5, a6, by rw [a3]; exact Nat.le_refl _, fun k _ hk => a2 k (fun e => hk (by rw [e]; rfl))⟩ (.inl rfl)
    by_cases hj : j < xs.length
    ·rw [List.getElem?_append_left hj] at hx
     obtain ⟨cs, h3, h4, h5, h6⟩ := hx2 j x hx
     refine ⟨cs, h3, h4, h5, fun k v hv => ?_⟩
     have hk : k < sz := by rw [← h4]; exact (List.getElem?_eq_some_iff.1 hv).1
     have : (j + 1) * sz ≤ xs.length * sz := Nat.mul_le_mul_right _ hj
     rw [Nat.succ_mul] at this
     rw [putL_ahead (by omega)]
     exact h6 k v hv
    ·rw [List.getElem?_append_right (by omega)] at hx
     have hj0 : j = xs.length := by
      have := (List.getElem?_eq_some_iff.1 hx).1
      simp at this
      omega
     subst hj0
     simp at hx
     subst hx
     exact ⟨ds, g3 0 y ds rfl rfl, hds.1, hds.2, fun k v hv => putL_at (by rw [hds.1]; omega) hv⟩
end
open Go.RowKit
def winC (pre win post : List Value) : List Value := pre ++ (win ++ post)
theorem winC_get {pre win post : List Value} {p j : Nat} {v : Value} (hp : pre.length = p) (h : win[j]? = some v) : (winC pre win post)[p + j]? = some v := by
 subst hp
 unfold winC
 have := (List.getElem?_eq_some_iff.1 h).1
 rw [List.getElem?_append_right (by omega), Nat.add_sub_cancel_left, List.getElem?_append_left this, h]
theorem winC_length (pre win post : List Value) : (winC pre win post).length = pre.length + win.length + post.length := by unfold winC; simp; omega
theorem putL_pre : ∀ (pre rest : List Value) (j : Nat) (vs : List Value), putL (pre ++ rest) (pre.length + j) vs = pre ++ putL rest j vs
 | [], rest, j, vs => by simp
 | c :: pre, rest, j, vs => by
  simp only [List.cons_append, List.length_cons]
  rw [Nat.add_right_comm]
  simp only [putL]
  rw [putL_pre]
theorem putL_win : ∀ (win post : List Value) (j : Nat) (vs : List Value), j + vs.length ≤ win.length → putL (win ++ post) j vs = putL win j vs ++ post
 | [], post, j, vs, h => by
  have : vs = [] := List.eq_nil_of_length_eq_zero (by simp only [List.length_nil] at h; omega)
  subst this
  rw [putL_nil]; simp [putL]
 | c :: win, post, 0, [], h => by simp [putL]
 | c :: win, post, 0, v :: vs, h => by
  simp only [List.cons_append, putL]
  rw [putL_win win post 0 vs (by simpa using h)]
 | c :: win, post, j + 1, vs, h => by
  simp only [List.cons_append, putL]
  rw [putL_win win post j vs (by simp only [List.length_cons] at h; omega)]
theorem putL_winC {pre win post : List Value} {p j : Nat} {vs : List Value} (hp : pre.length = p) (h : j + vs.length ≤ win.length) : putL (winC pre win post) (p + j) vs = winC pre (putL win j vs) post := by
 subst hp
 unfold winC
 rw [putL_pre, putL_win _ _ _ _ h]
section
variable {P : Program} {w0 w : World} {M : List Nat} {own : Blks} {ops : Array Oper} {rest : List Oper} {o : Oper} {A : Act} {Q : Exit → Act → World → Prop} {K : Act → World → Prop}
theorem mem_loadW (st : St M w0 w own) (T : TypeId) (x : Operand) (ho : o.op = .load T x) (hgd : Region.wanted o (yielded ops A.tmps) = true) (hagg : ∀ w, (isAgg T).run P w = .ok false w) (j : Nat)
  (h : ∃ (i g p : Nat) (T' : TypeId) (pre win post : List Value) (v : Value), pre.length = p ∧ own[i]? = some (g, T', winC pre win post) ∧ A.eval x = .pointer (some ⟨g, p + j, none⟩) ∧ win[j]? = some v ∧ wpList P ops Q rest (A.put o.dst v) w) : wpList P ops Q (o :: rest) A w := by
 obtain ⟨i, g, p, T', pre, win, post, v, hp, hi, hx, hv, h⟩ := h
 exact mem_load st hgd T x ho g (p + j) hx hagg i T' _ hi v (winC_get hp hv) h
theorem mem_storeW (st : St M w0 w own) (T : TypeId) (x y : Operand) (ho : o.op = .store T x y) (hgd : Region.wanted o (yielded ops A.tmps) = true) (n : Nat) (hsz : ∀ w, (sizeOf T).run P w = .ok n w) (j : Nat)
  (h : ∃ (i g p : Nat) (T' : TypeId) (pre win post vs : List Value), pre.length = p ∧ own[i]? = some (g, T', winC pre win post) ∧ A.eval x = .pointer (some ⟨g, p + j, none⟩) ∧ (A.eval y).cells.toList = vs ∧ vs.length = n ∧ vs.all Value.oneCell' = true ∧ Nat.ble (j + vs.length) win.length = true ∧
   ∀ w', St M w0 w' (own.set i (g, T', winC pre (putL win j vs) post)) → (∀ b, b ≠ g → w'.heap[b]? = w.heap[b]?) → w'.heap.size = w.heap.size → wpList P ops Q rest (A.put o.dst undef) w') : wpList P ops Q (o :: rest) A w := by
 obtain ⟨i, g, p, T', pre, win, post, vs, hp, hi, hx, hv, hl, h1, hle, h⟩ := h
 have hle' := Nat.le_of_ble_eq_true hle
 refine mem_store st hgd T x y ho g (p + j) hx _ rfl vs hv (by rw [hl]; exact hsz) (by simpa using h1) i T' _ hi (by rw [winC_length, hp]; omega) fun w' st' hm hz => ?_
 rw [putL_winC hp hle'] at st'
 exact h w' st' hm hz
theorem wp_storeW (st : St M w0 w own) (T : TypeId) (x y : Operand) (ho : o.op = .store T x y) (n : Nat) (hsz : ∀ w, (sizeOf T).run P w = .ok n w) (j : Nat)
  (h : ∃ (i g p : Nat) (T' : TypeId) (pre win post vs : List Value), pre.length = p ∧ own[i]? = some (g, T', winC pre win post) ∧ A.eval x = .pointer (some ⟨g, p + j, none⟩) ∧ (A.eval y).cells.toList = vs ∧ vs.length = n ∧ vs.all Value.oneCell' = true ∧ Nat.ble (j + vs.length) win.length = true ∧
   ∀ w', St M w0 w' (own.set i (g, T', winC pre (putL win j vs) post)) → (∀ b, b ≠ g → w'.heap[b]? = w.heap[b]?) → w'.heap.size = w.heap.size → K (A.put o.dst undef) w') : Oper.wp P o A w K Q := by
 obtain ⟨i, g, p, T', pre, win, post, vs, hp, hi, hx, hv, hl, h1, hle, h⟩ := h
 have hle' := Nat.le_of_ble_eq_true hle
 refine wp_store st T x y ho g (p + j) hx _ rfl vs hv (by rw [hl]; exact hsz) (by simpa using h1) i T' _ hi (by rw [winC_length, hp]; omega) fun w' st' hm hz => ?_
 rw [putL_winC hp hle'] at st'
 exact h w' st' hm hz
theorem St.run_loadW (st : St M w0 w own) (i : Nat) (T : TypeId) (x : Operand) (ho : o.op = .load T x) (hagg : ∀ w, (isAgg T).run P w = .ok false w) (j : Nat) {g p : Nat} {T' : TypeId} {pre win post : List Value} {v : Value} (hp : pre.length = p) (hi : own[i]? = some (g, T', winC pre win post)) (hx : A.eval x = .pointer (some ⟨g, p + j, none⟩)) (hv : win[j]? = some v) :
  (execOp A.eval o).run P w = .ok (.value v) w := st.run_load i T x ho hagg hx hi (winC_get hp hv)
theorem St.run_loadWin (st : St M w0 w own) (i : Nat) (T : TypeId) (x : Operand) (ho : o.op = .load T x) (hagg : ∀ w, (isAgg T).run P w = .ok true w) (n : Nat) (hsz : ∀ w, (sizeOf T).run P w = .ok n w) {g p : Nat} {T' : TypeId} {pre win post : List Value} (hp : pre.length = p) (hi : own[i]? = some (g, T', winC pre win post)) (hx : A.eval x = .pointer (some ⟨g, p, none⟩)) (hl : win.length = n) :
  (execOp A.eval o).run P w = .ok (.value (.agg win.toArray)) w :=
 st.run_load_agg i T x ho hagg n hsz hx hi (by subst hp; unfold winC; simp [← hl]) hl
theorem mem_loadWin (st : St M w0 w own) (T : TypeId) (x : Operand) (ho : o.op = .load T x) (hgd : Region.wanted o (yielded ops A.tmps) = true) (hagg : ∀ w, (isAgg T).run P w = .ok true w) (n : Nat) (hsz : ∀ w, (sizeOf T).run P w = .ok n w)
  (h : ∃ (i g p : Nat) (T' : TypeId) (pre win post : List Value), pre.length = p ∧ own[i]? = some (g, T', winC pre win post) ∧ A.eval x = .pointer (some ⟨g, p, none⟩) ∧ win.length = n ∧ wpList P ops Q rest (A.put o.dst (.agg win.toArray)) w) : wpList P ops Q (o :: rest) A w := by
 obtain ⟨i, g, p, T', pre, win, post, hp, hi, hx, hl, h⟩ := h
 refine wpList_wanted hgd fun K hK => ?_
 have hr := st.run_loadWin (P := P) i T x ho hagg n hsz hp hi hx hl
 unfold Oper.wp
 rw [hr]
 exact hK _ _ h
end
end Go.Proofs.Ytflfjpopfapogaa
