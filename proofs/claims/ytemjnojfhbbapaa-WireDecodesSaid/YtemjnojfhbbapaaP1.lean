/- Walks and plain laws that the claim rests on, part 1. -/
import Derived.WalkKit
import Derived.WalkSpells
import Derived.WalkLawsBesides
import Derived.Handy
import Derived.Lib.Hide
import Derived.Deep.RegionHeld3
import Derived.Deep.QuietTactic
import Derived.BigQuiet
import Derived.Laws.IdiomCopy
import Derived.Laws.Rows
import Derived.Deep.RegionWith
set_option linter.unusedSimpArgs false
set_option linter.unusedVariables false
/- Small words for what lies in memory: what a slice of records reads as, and that it goes on to read so while memory only grows. No program is in sight. -/
namespace Go.Proofs.Ytemjnojfhbbapaa
open Go.RowKit

/-- Of the blocks that 'ok' lets, w' holds what w held; none has gone. -/
structure Keeps (ok : Nat → Prop) (w w' : World) : Prop where
  size : w.heap.size ≤ w'.heap.size
  block : ∀ b, b < w.heap.size → ok b → w'.heap[b]? = w.heap[b]?

theorem Keeps.of_below {ok : Nat → Prop} {w w' : World} (h : Below w.heap.size w w') : Keeps ok w w' := ⟨h.size, fun b hb _ => h.block b hb⟩
theorem Keeps.refl (ok : Nat → Prop) (w : World) : Keeps ok w w := ⟨Nat.le_refl _, fun _ _ _ => rfl⟩
theorem Keeps.trans {ok : Nat → Prop} {w w1 w2 : World} (h : Keeps ok w w1) (k : Keeps ok w1 w2) : Keeps ok w w2 :=
  ⟨Nat.le_trans h.size k.size, fun b hb ho => (k.block b (Nat.lt_of_lt_of_le hb h.size) ho).trans (h.block b hb ho)⟩
theorem Keeps.cell {ok : Nat → Prop} {w w' : World} (h : Keeps ok w w') {p : Addr} (hp : p.block < w.heap.size) (ho : ok p.block) : w'.cell? p = w.cell? p :=
  World.cell?_of_block (w := w) (h.block p.block hp ho)
theorem _root_.Go.RowKit.Below.keep {w w1 w2 : World} (h : Below w.heap.size w w1) (k : Below w1.heap.size w1 w2) : Below w.heap.size w w2 := h.trans (k.mono h.size)

theorem _root_.Go.RowKit.Below.drewN {B : Nat} {a w : World} (h : Below B a w) (n : Nat) : Below B a (w.drewN n) := ⟨h.os, h.tape, h.output, h.size, h.block⟩

/-- The slice at a, of capacity c, reads as xs: element i lies at i * sz behind a, and its cells stand for x by R; its block is one that 'ok' lets. -/
def SlR (ok : Nat → Prop) (w : World) {α : Type} (sz : Nat) (R : List Value → α → Prop) (a : Option Addr) (c : Nat) (xs : List α) : Prop :=
  xs.length ≤ c ∧ c ≤ maxLen ∧ (a = none → c = 0) ∧
  ∀ i x, xs[i]? = some x → ∃ b o cs, a = some ⟨b, o, none⟩ ∧ ok b ∧ b < w.heap.size ∧ R cs x ∧ cs.length = sz ∧ (∀ v ∈ cs, v.oneCell' = true) ∧ ∀ j v, cs[j]? = some v → w.cell? ⟨b, o + i * sz + j, none⟩ = some v

theorem SlR.mono {ok : Nat → Prop} {w w' : World} {α : Type} {sz : Nat} {R R' : List Value → α → Prop} {a : Option Addr} {c : Nat} {xs : List α} (h : SlR ok w sz R a c xs) (hk : Keeps ok w w') (hR : ∀ cs x, R cs x → R' cs x) :
    SlR ok w' sz R' a c xs := by
  refine ⟨h.1, h.2.1, h.2.2.1, fun i x hx => ?_⟩
  obtain ⟨b, o, cs, ha, ho, hb, hr, hl, h1, hc⟩ := h.2.2.2 i x hx
  exact ⟨b, o, cs, ha, ho, Nat.lt_of_lt_of_le hb hk.size, hR _ _ hr, hl, h1, fun j v hv => (hk.cell (p := ⟨b, _, none⟩) hb ho).trans (hc j v hv)⟩

theorem SlR.keep {ok : Nat → Prop} {w w' : World} {α : Type} {sz : Nat} {R : List Value → α → Prop} {a : Option Addr} {c : Nat} {xs : List α} (h : SlR ok w sz R a c xs) (hk : Keeps ok w w') : SlR ok w' sz R a c xs := h.mono hk fun _ _ h => h

theorem SlR.below {ok : Nat → Prop} {w w' : World} {α : Type} {sz : Nat} {R : List Value → α → Prop} {a : Option Addr} {c : Nat} {xs : List α} (h : SlR ok w sz R a c xs) (hk : Below w.heap.size w w') : SlR ok w' sz R a c xs := h.keep (.of_below hk)

theorem SlR.nil (ok : Nat → Prop) (w : World) {α : Type} (sz : Nat) (R : List Value → α → Prop) : SlR ok w sz R none 0 ([] : List α) := ⟨Nat.le_refl _, Nat.zero_le _, fun _ => rfl, fun i x hx => by simp at hx⟩

/-- The cells of such a slice, all of them. -/
theorem SlR.all {ok : Nat → Prop} {w : World} {α : Type} {sz : Nat} {R : List Value → α → Prop} {a : Option Addr} {c : Nat} {xs : List α} (h : SlR ok w sz R a c xs) :
    ∃ css : List (List Value), css.length = xs.length ∧ (∀ cs ∈ css, cs.length = sz ∧ ∀ v ∈ cs, v.oneCell' = true) ∧ (∀ (i : Nat) (x : α) (cs : List Value), xs[i]? = some x → css[i]? = some cs → R cs x) ∧
      ∀ (i : Nat) (cs : List Value), css[i]? = some cs → ∃ b o, a = some ⟨b, o, none⟩ ∧ ok b ∧ b < w.heap.size ∧ ∀ j v, cs[j]? = some v → w.cell? ⟨b, o + i * sz + j, none⟩ = some v := by
  classical
  have hh := h.2.2.2
  clear h
  suffices H : ∀ k, k ≤ xs.length → ∃ css : List (List Value), css.length = k ∧ (∀ cs ∈ css, cs.length = sz ∧ ∀ v ∈ cs, v.oneCell' = true) ∧ (∀ (i : Nat) (x : α) (cs : List Value), xs[i]? = some x → css[i]? = some cs → R cs x) ∧
      ∀ (i : Nat) (cs : List Value), css[i]? = some cs → ∃ b o, a = some ⟨b, o, none⟩ ∧ ok b ∧ b < w.heap.size ∧ ∀ j v, cs[j]? = some v → w.cell? ⟨b, o + i * sz + j, none⟩ = some v by
    exact H xs.length (Nat.le_refl _)
  intro k
  induction k with
  | zero => exact fun _ => ⟨[], rfl, by simp, by simp, by simp⟩
  | succ k ih =>
    intro hk
    obtain ⟨css, h1, h2, h3, h4⟩ := ih (by omega)
    obtain ⟨b, o, cs, ha, ho, hb, hr, hl, hone, hc⟩ := hh k xs[k] (by simp [hk])
    refine ⟨css ++ [cs], by simp [h1], ?_, ?_, ?_⟩
    · intro x hx
      rcases List.mem_append.1 hx with hx | hx
      · exact h2 x hx
      · simp at hx; subst hx; exact ⟨hl, hone⟩
    · intro i x d hx hd
      by_cases hi : i < k
      · rw [List.getElem?_append_left (by omega)] at hd
        exact h3 i x d hx hd
      · rw [List.getElem?_append_right (by omega)] at hd
        have : i - css.length = 0 := by
          have := (List.getElem?_eq_some_iff.1 hd).1
          simp at this; omega
        rw [this] at hd
        simp at hd
        subst hd
        have hik : i = k := by omega
        subst hik
        rw [List.getElem?_eq_getElem (by omega)] at hx
        simp at hx
        subst hx
        exact hr
    · intro i d hd
      by_cases hi : i < k
      · rw [List.getElem?_append_left (by omega)] at hd
        exact h4 i d hd
      · rw [List.getElem?_append_right (by omega)] at hd
        have : i - css.length = 0 := by
          have := (List.getElem?_eq_some_iff.1 hd).1
          simp at this; omega
        rw [this] at hd
        simp at hd
        subst hd
        have hik : i = k := by omega
        subst hik
        exact ⟨b, o, ha, ho, hb, hc⟩

/-- One list of cells behind the other. -/
theorem flatten_at {css : List (List Value)} {sz : Nat} (hs : ∀ cs ∈ css, cs.length = sz) {i : Nat} {cs : List Value} (hi : css[i]? = some cs) {j : Nat} {v : Value} (hj : cs[j]? = some v) : css.flatten[i * sz + j]? = some v := by
  induction css generalizing i with
  | nil => simp at hi
  | cons c css ih =>
    have hc := hs c (by simp)
    have hcs := hs cs (List.mem_of_getElem? hi)
    have hj' : j < sz := by rw [← hcs]; exact (List.getElem?_eq_some_iff.1 hj).1
    cases i with
    | zero =>
      simp only [List.getElem?_cons_zero, Option.some.injEq] at hi
      subst hi
      simp only [List.flatten_cons, Nat.zero_mul, Nat.zero_add]
      rw [List.getElem?_append_left (by omega)]
      exact hj
    | succ i =>
      simp only [List.getElem?_cons_succ] at hi
      simp only [List.flatten_cons]
      rw [List.getElem?_append_right (by rw [hc, Nat.succ_mul]; omega), hc, show (i + 1) * sz + j - sz = i * sz + j by rw [Nat.succ_mul]; omega]
      exact ih (fun x hx => hs x (by simp [hx])) hi

theorem flatten_length {css : List (List Value)} {sz : Nat} (hs : ∀ cs ∈ css, cs.length = sz) : css.flatten.length = css.length * sz := by
  induction css with
  | nil => simp
  | cons c css ih => simp only [List.flatten_cons, List.length_append, List.length_cons, hs c (by simp), ih (fun x hx => hs x (by simp [hx])), Nat.succ_mul]; omega

/-- .. and what stands at a place of all of them. -/
theorem flatten_inv {css : List (List Value)} {sz : Nat} (hs : ∀ cs ∈ css, cs.length = sz) {n : Nat} {v : Value} (h : css.flatten[n]? = some v) : ∃ i j cs, n = i * sz + j ∧ j < sz ∧ css[i]? = some cs ∧ cs[j]? = some v := by
  induction css generalizing n with
  | nil => simp at h
  | cons c css ih =>
    have hc := hs c (by simp)
    simp only [List.flatten_cons] at h
    by_cases hn : n < c.length
    · rw [List.getElem?_append_left hn] at h
      exact ⟨0, n, c, by simp, by omega, rfl, h⟩
    · rw [List.getElem?_append_right (by omega)] at h
      obtain ⟨i, j, cs, h1, h2, h3, h4⟩ := ih (fun x hx => hs x (by simp [hx])) h
      exact ⟨i + 1, j, cs, by rw [Nat.succ_mul]; omega, h2, h3, h4⟩

/-- The slice at a, of capacity c, is the call's own (its block is one from 'base' on, and no other slice lies there), and reads as xs. -/
def Own (base : Nat) (e : TypeId) (w : World) {α : Type} (sz : Nat) (R : List Value → α → Prop) (a : Option Addr) (c : Nat) (xs : List α) : Prop :=
  ∃ css : List (List Value), css.length = xs.length ∧ (∀ cs ∈ css, cs.length = sz ∧ ∀ v ∈ cs, v.oneCell' = true) ∧ (∀ (i : Nat) (x : α) (cs : List Value), xs[i]? = some x → css[i]? = some cs → R cs x) ∧ w.ownsRow base e sz (.slice a xs.length c) xs.length css.flatten

theorem Own.nil (base : Nat) (e : TypeId) (w : World) {α : Type} (sz : Nat) (R : List Value → α → Prop) : Own base e w sz R none 0 ([] : List α) := ⟨[], rfl, by simp, by simp, World.ownsRow_nil _ _ _ _⟩

/-- What is the call's own can be read. -/
theorem Own.slr {base : Nat} {e : TypeId} {w : World} {α : Type} {sz : Nat} {R : List Value → α → Prop} {a : Option Addr} {c : Nat} {xs : List α} (h : Own base e w sz R a c xs) {ok : Nat → Prop} (hok : ∀ b, base ≤ b → ok b) : SlR ok w sz R a c xs := by
  obtain ⟨css, h1, h2, h3, h4⟩ := h
  have h4' := h4
  rcases h4.2 with ⟨hv, hn⟩ | ⟨g, cap, cur, hv, hg, hh, hnc, hm, hs, ht⟩
  · simp only [Value.slice.injEq] at hv
    obtain ⟨rfl, _, rfl⟩ := hv
    have : xs = [] := List.eq_nil_of_length_eq_zero hn
    subst this
    exact SlR.nil _ _ _ _
  · simp only [Value.slice.injEq] at hv
    obtain ⟨rfl, _, rfl⟩ := hv
    refine ⟨hnc, hm, by simp, fun i x hx => ?_⟩
    have hi : i < css.length := by rw [h1]; exact (List.getElem?_eq_some_iff.1 hx).1
    have hcs := h2 css[i] (by simp)
    have hb : g < w.heap.size := (Array.getElem?_eq_some_iff.1 hh).1
    refine ⟨g, 0, css[i], rfl, hok _ hg, hb, h3 i x _ hx (by simp [hi]), hcs.1, hcs.2, fun j v hv => ?_⟩
    have := flatten_at (fun cs h => (h2 cs h).1) (i := i) (cs := css[i]) (by simp [hi]) hv
    have hj : i * sz + j < xs.length * sz := by
      have := (List.getElem?_eq_some_iff.1 this).1
      rw [flatten_length fun cs h => (h2 cs h).1, h1] at this
      exact this
    rw [show 0 + i * sz + j = i * sz + j by omega, h4'.cellAt _ hj]
    exact this

theorem Own.mono {base : Nat} {e : TypeId} {w : World} {α : Type} {sz : Nat} {R R' : List Value → α → Prop} {a : Option Addr} {c : Nat} {xs : List α} (h : Own base e w sz R a c xs) (hR : ∀ cs x, R cs x → R' cs x) : Own base e w sz R' a c xs := by
  obtain ⟨css, h1, h2, h3, h4⟩ := h
  exact ⟨css, h1, h2, fun i x cs hx hc => hR _ _ (h3 i x cs hx hc), h4⟩

/-- While memory only grows what is owned stays owned. -/
theorem Own.below {base : Nat} {e : TypeId} {w w' : World} {α : Type} {sz : Nat} {R : List Value → α → Prop} {a : Option Addr} {c : Nat} {xs : List α} (h : Own base e w sz R a c xs) (hk : Below w.heap.size w w') : Own base e w' sz R a c xs := by
  obtain ⟨css, h1, h2, h3, h4⟩ := h
  refine ⟨css, h1, h2, h3, h4.1, ?_⟩
  rcases h4.2 with h | ⟨g, cap, cur, hv, hg, hh, r⟩
  · exact .inl h
  · exact .inr ⟨g, cap, cur, hv, hg, by rw [hk.block g (Array.getElem?_eq_some_iff.1 hh).1]; exact hh, r⟩

/-- 'append(xs, ys...)' onto a slice that is the call's own; it may grow. -/
theorem wpList_app {P : Program} {w : World} {ops : Array Oper} {rest : List Oper} {o : Oper} {A : Act} {Q : Exit → Act → World → Prop} (hgd : o.guard = none) (s x : Operand) (t : TypeId)
    (ho : o.op = .call { callee := .builtin .append, args := #[s, x], argTypes := #[t, t] })
    (e : TypeId) (i : TypeInfo) (z : Value) (sz bytes : Nat) (ht : P.underlying t = some (.slice e)) (hi : P.info? e = some i) (hz : i.zero = some z) (hsize : i.size = sz) (hby : i.bytes = bytes) (hzs : z.cells.size = sz) (hsz : 0 < sz)
    {α : Type} {R : List Value → α → Prop} {base : Nat} {ok : Nat → Prop} {a : Option Addr} {c n : Nat} {xs : List α} (hs : A.eval s = .slice a n c) (hn : n = xs.length) (hO : Own base e w sz R a c xs)
    {b : Option Addr} {m d : Nat} {ys : List α} (hx : A.eval x = .slice b m d) (hm : m = ys.length) (hR : SlR ok w sz R b d ys) (hl : (xs.length + ys.length) * bytes ≤ 140737488355328) (h63 : xs.length + ys.length ≤ maxLen) (hbase : base ≤ w.heap.size)
    (h : ∀ a' c' w', Own base e w' sz R a' c' (xs ++ ys) → w.grownBy w' (a.map (·.block)) → (a' = none → xs = [] ∧ ys = []) → wpList P ops Q rest (A.put o.dst (.slice a' (n + m) c')) w') : wpList P ops Q (o :: rest) A w := by
  subst hn hm
  obtain ⟨css, h1, h2, h3, hown⟩ := hO
  obtain ⟨dss, g1, g2, g3, g4⟩ := hR.all
  have hob : (Value.slice a xs.length c).ownBlock = a.map (·.block) := by cases a <;> rfl
  have hall : ∀ cs ∈ css ++ dss, cs.length = sz ∧ ∀ v ∈ cs, v.oneCell' = true := by
    intro cs hcs
    rcases List.mem_append.1 hcs with hcs | hcs
    · exact h2 cs hcs
    · exact g2 cs hcs
  have hRR : ∀ (i : Nat) (x : α) (cs : List Value), (xs ++ ys)[i]? = some x → (css ++ dss)[i]? = some cs → R cs x := by
    intro i x cs hx hc
    by_cases hi : i < xs.length
    · rw [List.getElem?_append_left hi] at hx
      rw [List.getElem?_append_left (by omega)] at hc
      exact h3 i x cs hx hc
    · rw [List.getElem?_append_right (by omega)] at hx
      rw [List.getElem?_append_right (by omega), h1] at hc
      exact g3 _ x cs hx hc
  cases b with
  | none =>
    have hd := hR.2.2.1 rfl
    subst hd
    have hys : ys = [] := List.eq_nil_of_length_eq_zero (by have := hR.1; omega)
    subst hys
    have hdss : dss = [] := List.eq_nil_of_length_eq_zero (by simpa using g1)
    subst hdss
    refine wpList_plain hgd fun K hK' => ?_
    have hrun := run_append_owned_none (P := P) (w := w) base t o.type e i sz ht hi _ xs.length css.flatten hown
    unfold Oper.wp
    simp only [List.length_nil] at hx
    simp [execOp, ho, resolve, invoke, builtin, hs, hx, hrun, Result.andThen]
    refine hK' _ _ ?_
    have := h a c w (by rw [List.append_nil]; exact ⟨css, h1, h2, h3, hown⟩) (World.grownBy.refl _ _) (by
      rintro rfl
      rcases hown.2 with ⟨_, hn⟩ | ⟨_, _, _, hv, _⟩
      · exact ⟨List.eq_nil_of_length_eq_zero hn, rfl⟩
      · simp at hv)
    simpa using this
  | some ad =>
    have hfl : dss.flatten.length = ys.length * sz := by rw [flatten_length fun cs h => (g2 cs h).1, g1]
    refine wpList_append_own w hgd s x t ho base e i z sz bytes ht hi hz hsize hby hzs hsz _ xs.length css.flatten hs hown ad ys.length d dss.flatten hx hfl ?_ ?_ h63 hl hbase ?_
    · intro j u hj
      obtain ⟨p, q, cs, rfl, hq, hp, hv⟩ := flatten_inv (fun cs h => (g2 cs h).1) hj
      obtain ⟨b, o, ha, _, _, hc⟩ := g4 p cs hp
      simp only [Option.some.injEq] at ha
      subst ha
      have := hc q u hv
      rw [Addr.add_lit]
      rw [← this]
      congr 2
      omega
    · intro u hu
      obtain ⟨cs, hcs, huc⟩ := List.mem_flatten.1 hu
      exact (g2 cs hcs).2 u huc
    · intro v' w' hown' hgr hnil
      rw [hob] at hgr
      have hOwn : ∀ a' c', v' = .slice a' (xs.length + ys.length) c' → Own base e w' sz R a' c' (xs ++ ys) := by
        rintro a' c' rfl
        exact ⟨css ++ dss, by simp [h1, g1], hall, hRR, by simpa using hown'⟩
      rcases hown'.2 with ⟨rfl, hn⟩ | ⟨g, cap, cur, rfl, _⟩
      · have e1 : xs = [] := List.eq_nil_of_length_eq_zero (by omega)
        have e2 : ys = [] := List.eq_nil_of_length_eq_zero (by omega)
        have := h none 0 w' (hOwn _ _ (by simp [e1, e2])) hgr (fun _ => ⟨e1, e2⟩)
        simpa [e1, e2] using this
      · exact h _ _ w' (hOwn _ _ rfl) hgr (by simp)

theorem Own.made {base : Nat} {e : TypeId} {w : World} {α : Type} {sz : Nat} {R : List Value → α → Prop} (h : base ≤ w.heap.size) : Own base e (w.alloc (.cells #[] e)) sz R (some ⟨w.heap.size, 0, none⟩) 0 ([] : List α) :=
  ⟨[], rfl, by simp, by simp, World.ownsRow_made _ _ _ h (Nat.zero_le _) (by simp)⟩

/-- A new block of just one element's cells, as a slice. -/
theorem SlR.one {ok : Nat → Prop} {w : World} {α : Type} {sz : Nat} {R : List Value → α → Prop} {g : Nat} (cs : List Value) (e : TypeId) (x : α) (hg : g = w.heap.size) (hR : R cs x) (hl : cs.length = sz) (h1 : ∀ v ∈ cs, v.oneCell' = true) (ho : ok w.heap.size) :
    SlR ok (w.alloc (.cells cs.toArray e)) sz R (some ⟨g, 0, none⟩) 1 [x] := by
  subst hg
  refine ⟨Nat.le_refl _, by simp [maxLen], by simp, fun i y hy => ?_⟩
  have hi : i = 0 := by
    have := (List.getElem?_eq_some_iff.1 hy).1
    simp at this; exact this
  subst hi
  simp at hy
  subst hy
  refine ⟨_, _, cs, rfl, ho, by simp, hR, hl, h1, fun j v hv => ?_⟩
  rw [World.cell?_alloc_at _ _ _ _ rfl]
  simpa using hv

theorem Own.le {base base' : Nat} {e : TypeId} {w : World} {α : Type} {sz : Nat} {R : List Value → α → Prop} {a : Option Addr} {c : Nat} {xs : List α} (h : Own base e w sz R a c xs) (hb : base' ≤ base) : Own base' e w sz R a c xs := by
  obtain ⟨css, h1, h2, h3, h4⟩ := h
  refine ⟨css, h1, h2, h3, h4.1, ?_⟩
  rcases h4.2 with h | ⟨g, cap, cur, hv, hg, r⟩
  · exact .inl h
  · exact .inr ⟨g, cap, cur, hv, by omega, r⟩

theorem Own.grown {B base : Nat} {e : TypeId} {W w w' : World} {α : Type} {sz : Nat} {R : List Value → α → Prop} {a : Option Addr} {c : Nat} {xs : List α} (hO : Own base e w sz R a c xs) (h : Below B W w) (hg : w.grownBy w' (a.map (·.block))) (hb : B ≤ base) (hs : B ≤ w.heap.size) : Below B W w' := by
  obtain ⟨css, _, _, _, h4⟩ := hO
  refine h.grown hg hs fun k hk => ?_
  have := (h4.lt k (by cases a <;> simp at hk; subst hk; rfl)).1
  omega

/-- Is it in the list? (A word of its own, so that no rewriting takes it apart.) -/
def inL {α : Type} [DecidableEq α] : List α → α → Bool
  | [], _ => false
  | x :: l, v => if v = x then true else inL l v

theorem inL_iff {α : Type} [DecidableEq α] (l : List α) (v : α) : inL l v = true ↔ v ∈ l := by
  induction l with
  | nil => simp [inL]
  | cons x l ih =>
    unfold inL
    by_cases h : v = x
    · simp [h]
    · rw [if_neg h, ih]; simp [h]

theorem inL_not {α : Type} [DecidableEq α] (l : List α) (v : α) : inL l v = false ↔ v ∉ l := by
  rw [← inL_iff]; cases inL l v <;> simp

theorem drop_at {α : Type} {l : List α} {k : Nat} (h : k < l.length) : l.drop k = l[k] :: l.drop (k + 1) := List.drop_eq_getElem_cons h
theorem inL_hit {α : Type} [DecidableEq α] {l : List α} {v : α} {k : Nat} (h : k < l.length) (e : v = l[k]) : inL (l.drop k) v = true := by rw [drop_at h, inL, if_pos e]
theorem inL_pass {α : Type} [DecidableEq α] {l : List α} {v : α} {k : Nat} (h : k < l.length) (e : ¬ v = l[k]) : inL (l.drop k) v = inL (l.drop (k + 1)) v := by rw [drop_at h, inL, if_neg e]
theorem inL_end {α : Type} [DecidableEq α] {l : List α} {v : α} {k : Nat} (h : ¬ k < l.length) : inL (l.drop k) v = false := by rw [List.drop_of_length_le (by omega)]; rfl

/-- A number says yes (not below 0) or no (below 0). -/
def Says (e : Ending) (b : Bool) : Prop := ∃ n : Int, e = .returned (.int .i64 n) ∧ (b = true → 0 ≤ n) ∧ (b = false → n < 0)

theorem ret_bool {a b : Bool} (h : a = b) : Ending.returned (.bool a) = .returned (.bool b) := by rw [h]
theorem ret_int {k : IntKind} {a b : Int} (h : a = b) : Ending.returned (.int k a) = .returned (.int k b) := by rw [h]

/-- Behind a call that leaves old memory as it was: each old cell and each old mark reads as before (two rules for the walk). -/
theorem bcell {W w1 : World} (hb : Below W.heap.size W w1) : (∀ b o, b < W.heap.size → w1.cell? ⟨b, o, none⟩ = W.cell? ⟨b, o, none⟩) ∧ (∀ b o, b < W.heap.size → w1.frozen? ⟨b, o, none⟩ = W.frozen? ⟨b, o, none⟩) :=
  ⟨fun b o h => hb.cell (p := ⟨b, o, none⟩) h, fun b o h => hb.frozen (p := ⟨b, o, none⟩) h⟩

/-- .. and a cell that is written behind it reads as what was written. -/
theorem bset {W w1 : World} (hb : Below W.heap.size W w1) : ∀ (b o : Nat) (v : Value), b < W.heap.size → (W.cell? ⟨b, o, none⟩).isSome = true → (w1.setCell ⟨b, o, none⟩ v).cell? ⟨b, o, none⟩ = some v := by
  intro b o v hlt hs
  rw [← hb.cell (p := ⟨b, o, none⟩) hlt] at hs
  exact World.cell?_setCell_same' _ _ _ hs

/-! ### The first of some tests that says yes -/

theorem or2 (a0 a1 : Bool) : (a0 = true) ∨ (a0 = false ∧ a1 = true) ∨ (a0 = false ∧ a1 = false) := by
  cases a0 <;> cases a1 <;> simp

theorem or3 (a0 a1 a2 : Bool) : (a0 = true) ∨ (a0 = false ∧ a1 = true) ∨ (a0 = false ∧ a1 = false ∧ a2 = true) ∨ (a0 = false ∧ a1 = false ∧ a2 = false) := by
  cases a0 <;> cases a1 <;> cases a2 <;> simp

theorem or4 (a0 a1 a2 a3 : Bool) : (a0 = true) ∨ (a0 = false ∧ a1 = true) ∨ (a0 = false ∧ a1 = false ∧ a2 = true) ∨ (a0 = false ∧ a1 = false ∧ a2 = false ∧ a3 = true) ∨ (a0 = false ∧ a1 = false ∧ a2 = false ∧ a3 = false) := by
  cases a0 <;> cases a1 <;> cases a2 <;> cases a3 <;> simp

theorem or5 (a0 a1 a2 a3 a4 : Bool) : (a0 = true) ∨ (a0 = false ∧ a1 = true) ∨ (a0 = false ∧ a1 = false ∧ a2 = true) ∨ (a0 = false ∧ a1 = false ∧ a2 = false ∧ a3 = true) ∨ (a0 = false ∧ a1 = false ∧ a2 = false ∧ a3 = false ∧ a4 = true) ∨ (a0 = false ∧ a1 = false ∧ a2 = false ∧ a3 = false ∧ a4 = false) := by
  cases a0 <;> cases a1 <;> cases a2 <;> cases a3 <;> cases a4 <;> simp

theorem or6 (a0 a1 a2 a3 a4 a5 : Bool) : (a0 = true) ∨ (a0 = false ∧ a1 = true) ∨ (a0 = false ∧ a1 = false ∧ a2 = true) ∨ (a0 = false ∧ a1 = false ∧ a2 = false ∧ a3 = true) ∨ (a0 = false ∧ a1 = false ∧ a2 = false ∧ a3 = false ∧ a4 = true) ∨ (a0 = false ∧ a1 = false ∧ a2 = false ∧ a3 = false ∧ a4 = false ∧ a5 = true) ∨ (a0 = false ∧ a1 = false ∧ a2 = false ∧ a3 = false ∧ a4 = false ∧ a5 = false) := by
  cases a0 <;> cases a1 <;> cases a2 <;> cases a3 <;> cases a4 <;> cases a5 <;> simp

theorem or7 (a0 a1 a2 a3 a4 a5 a6 : Bool) : (a0 = true) ∨ (a0 = false ∧ a1 = true) ∨ (a0 = false ∧ a1 = false ∧ a2 = true) ∨ (a0 = false ∧ a1 = false ∧ a2 = false ∧ a3 = true) ∨ (a0 = false ∧ a1 = false ∧ a2 = false ∧ a3 = false ∧ a4 = true) ∨ (a0 = false ∧ a1 = false ∧ a2 = false ∧ a3 = false ∧ a4 = false ∧ a5 = true) ∨ (a0 = false ∧ a1 = false ∧ a2 = false ∧ a3 = false ∧ a4 = false ∧ a5 = false ∧ a6 = true) ∨ (a0 = false ∧ a1 = false ∧ a2 = false ∧ a3 = false ∧ a4 = false ∧ a5 = false ∧ a6 = false) := by
  cases a0 <;> cases a1 <;> cases a2 <;> cases a3 <;> cases a4 <;> cases a5 <;> cases a6 <;> simp

theorem or8 (a0 a1 a2 a3 a4 a5 a6 a7 : Bool) : (a0 = true) ∨ (a0 = false ∧ a1 = true) ∨ (a0 = false ∧ a1 = false ∧ a2 = true) ∨ (a0 = false ∧ a1 = false ∧ a2 = false ∧ a3 = true) ∨ (a0 = false ∧ a1 = false ∧ a2 = false ∧ a3 = false ∧ a4 = true) ∨ (a0 = false ∧ a1 = false ∧ a2 = false ∧ a3 = false ∧ a4 = false ∧ a5 = true) ∨ (a0 = false ∧ a1 = false ∧ a2 = false ∧ a3 = false ∧ a4 = false ∧ a5 = false ∧ a6 = true) ∨ (a0 = false ∧ a1 = false ∧ a2 = false ∧ a3 = false ∧ a4 = false ∧ a5 = false ∧ a6 = false ∧ a7 = true) ∨ (a0 = false ∧ a1 = false ∧ a2 = false ∧ a3 = false ∧ a4 = false ∧ a5 = false ∧ a6 = false ∧ a7 = false) := by
  cases a0 <;> cases a1 <;> cases a2 <;> cases a3 <;> cases a4 <;> cases a5 <;> cases a6 <;> cases a7 <;> simp

end Go.Proofs.Ytemjnojfhbbapaa

/- The program's plain records as Lean's own, and what cells stand for each. No program is in sight. -/
namespace Go.Proofs.Ytemjnojfhbbapaa
open Go.RowKit

structure Lev where
  c : Int
  l : Int
  deriving DecidableEq

structure Mail where
  host : Int
  thread : Int
  label : List Lev
  grants : List Int
  text : ByteArray
  deriving DecidableEq

structure Cert where
  c : Int
  by_ : Int
  host : Int
  till : Int
  deriving DecidableEq

structure Frame where
  src : Int
  dst : Int
  seq : Int
  ack : Bool
  thread : Int
  mail : Mail
  certs : List Cert
  deriving DecidableEq

structure Sent where
  frame : Frame
  tries : Int
  due : Int
  deriving DecidableEq

/-- Cells of the line's eight truths. -/
structure Eight where
  s0 : Bool
  s1 : Bool
  s2 : Bool
  s3 : Bool
  s4 : Bool
  s5 : Bool
  s6 : Bool
  s7 : Bool
  deriving DecidableEq

structure Line where
  next : Int
  sent : List Sent
  high : Int
  seen : Eight
  deriving DecidableEq

def RInt (cs : List Value) (x : Int) : Prop := cs = [.int .i64 x]
def RLev (cs : List Value) (x : Lev) : Prop := cs = [.int .i64 x.c, .int .i64 x.l]
def RCert (cs : List Value) (x : Cert) : Prop := cs = [.int .i64 x.c, .int .i64 x.by_, .int .i64 x.host, .int .i64 x.till]
def RStr (cs : List Value) (x : ByteArray) : Prop := cs = [.string x]

def RMail (ok : Nat → Prop) (w : World) (cs : List Value) (m : Mail) : Prop :=
  ∃ la lc ga gc, cs = [.int .i64 m.host, .int .i64 m.thread, .slice la m.label.length lc, .slice ga m.grants.length gc, .string m.text] ∧ SlR ok w 2 RLev la lc m.label ∧ SlR ok w 1 RInt ga gc m.grants

def RFrame (ok : Nat → Prop) (w : World) (cs : List Value) (f : Frame) : Prop :=
  ∃ la lc ga gc ca cc, cs = [.int .i64 f.src, .int .i64 f.dst, .int .i64 f.seq, .bool f.ack, .int .i64 f.thread, .int .i64 f.mail.host, .int .i64 f.mail.thread, .slice la f.mail.label.length lc, .slice ga f.mail.grants.length gc, .string f.mail.text, .slice ca f.certs.length cc] ∧
    SlR ok w 2 RLev la lc f.mail.label ∧ SlR ok w 1 RInt ga gc f.mail.grants ∧ SlR ok w 4 RCert ca cc f.certs

def RSent (ok : Nat → Prop) (w : World) (cs : List Value) (s : Sent) : Prop :=
  ∃ la lc ga gc ca cc, cs = [.int .i64 s.frame.src, .int .i64 s.frame.dst, .int .i64 s.frame.seq, .bool s.frame.ack, .int .i64 s.frame.thread, .int .i64 s.frame.mail.host, .int .i64 s.frame.mail.thread, .slice la s.frame.mail.label.length lc, .slice ga s.frame.mail.grants.length gc, .string s.frame.mail.text, .slice ca s.frame.certs.length cc, .int .i64 s.tries, .int .i64 s.due] ∧
    SlR ok w 2 RLev la lc s.frame.mail.label ∧ SlR ok w 1 RInt ga gc s.frame.mail.grants ∧ SlR ok w 4 RCert ca cc s.frame.certs

theorem RMail.keep {ok : Nat → Prop} {w w' : World} (hk : Keeps ok w w') {cs : List Value} {m : Mail} (h : RMail ok w cs m) : RMail ok w' cs m := by
  obtain ⟨la, lc, ga, gc, e, h1, h2⟩ := h
  exact ⟨la, lc, ga, gc, e, h1.keep hk, h2.keep hk⟩
theorem RFrame.keep {ok : Nat → Prop} {w w' : World} (hk : Keeps ok w w') {cs : List Value} {f : Frame} (h : RFrame ok w cs f) : RFrame ok w' cs f := by
  obtain ⟨la, lc, ga, gc, ca, cc, e, h1, h2, h3⟩ := h
  exact ⟨la, lc, ga, gc, ca, cc, e, h1.keep hk, h2.keep hk, h3.keep hk⟩
theorem RSent.keep {ok : Nat → Prop} {w w' : World} (hk : Keeps ok w w') {cs : List Value} {s : Sent} (h : RSent ok w cs s) : RSent ok w' cs s := by
  obtain ⟨la, lc, ga, gc, ca, cc, e, h1, h2, h3⟩ := h
  exact ⟨la, lc, ga, gc, ca, cc, e, h1.keep hk, h2.keep hk, h3.keep hk⟩

/-- A list of frames that were sent. -/
abbrev SentR (ok : Nat → Prop) (w : World) (a : Option Addr) (c : Nat) (l : List Sent) : Prop := SlR ok w 13 (RSent ok w) a c l
theorem SentR.keep {ok : Nat → Prop} {w w' : World} {a : Option Addr} {c : Nat} {l : List Sent} (h : SentR ok w a c l) (hk : Keeps ok w w') : SentR ok w' a c l := h.mono hk fun _ _ => RSent.keep hk
theorem SentR.below {ok : Nat → Prop} {w w' : World} {a : Option Addr} {c : Nat} {l : List Sent} (h : SentR ok w a c l) (hk : Below w.heap.size w w') : SentR ok w' a c l := SentR.keep h (.of_below hk)

section
variable {ok : Nat → Prop} {w w' : World} {a : Option Addr} {c : Nat}

theorem SlR.int_at {xs : List Int} (h : SlR ok w 1 RInt a c xs) (i : Nat) (hi : i < xs.length) :
    ∃ b o, a = some ⟨b, o, none⟩ ∧ b < w.heap.size ∧ w.cell? ⟨b, o + i, none⟩ = some (.int .i64 xs[i]) := by
  obtain ⟨b, o, cs, ha, _, hb, rfl, _, _, hc⟩ := h.2.2.2 i xs[i] (by simp [hi])
  exact ⟨b, o, ha, hb, by simpa using hc 0 _ rfl⟩

theorem SlR.lev_at {xs : List Lev} (h : SlR ok w 2 RLev a c xs) (i : Nat) (hi : i < xs.length) :
    ∃ b o, a = some ⟨b, o, none⟩ ∧ b < w.heap.size ∧ w.cell? ⟨b, o + i * 2, none⟩ = some (.int .i64 xs[i].c) ∧ w.cell? ⟨b, o + i * 2 + 1, none⟩ = some (.int .i64 xs[i].l) := by
  obtain ⟨b, o, cs, ha, _, hb, rfl, _, _, hc⟩ := h.2.2.2 i xs[i] (by simp [hi])
  exact ⟨b, o, ha, hb, by simpa using hc 0 _ rfl, by simpa using hc 1 _ rfl⟩

theorem SlR.cert_at {xs : List Cert} (h : SlR ok w 4 RCert a c xs) (i : Nat) (hi : i < xs.length) :
    ∃ b o, a = some ⟨b, o, none⟩ ∧ b < w.heap.size ∧ w.cell? ⟨b, o + i * 4, none⟩ = some (.int .i64 xs[i].c) ∧ w.cell? ⟨b, o + i * 4 + 1, none⟩ = some (.int .i64 xs[i].by_) ∧
      w.cell? ⟨b, o + i * 4 + 2, none⟩ = some (.int .i64 xs[i].host) ∧ w.cell? ⟨b, o + i * 4 + 3, none⟩ = some (.int .i64 xs[i].till) := by
  obtain ⟨b, o, cs, ha, _, hb, rfl, _, _, hc⟩ := h.2.2.2 i xs[i] (by simp [hi])
  exact ⟨b, o, ha, hb, by simpa using hc 0 _ rfl, by simpa using hc 1 _ rfl, by simpa using hc 2 _ rfl, by simpa using hc 3 _ rfl⟩

theorem SlR.sent_at {xs : List Sent} (h : SentR ok w a c xs) (i : Nat) (hi : i < xs.length) :
    ∃ b o la lc ga gc ca cc, a = some ⟨b, o, none⟩ ∧ b < w.heap.size ∧ (SlR ok w 2 RLev la lc xs[i].frame.mail.label ∧ SlR ok w 1 RInt ga gc xs[i].frame.mail.grants ∧ SlR ok w 4 RCert ca cc xs[i].frame.certs) ∧
      w.cell? ⟨b, o + i * 13, none⟩ = some (.int .i64 xs[i].frame.src) ∧ w.cell? ⟨b, o + i * 13 + 1, none⟩ = some (.int .i64 xs[i].frame.dst) ∧ w.cell? ⟨b, o + i * 13 + 2, none⟩ = some (.int .i64 xs[i].frame.seq) ∧ w.cell? ⟨b, o + i * 13 + 3, none⟩ = some (.bool xs[i].frame.ack) ∧
      w.cell? ⟨b, o + i * 13 + 4, none⟩ = some (.int .i64 xs[i].frame.thread) ∧ w.cell? ⟨b, o + i * 13 + 5, none⟩ = some (.int .i64 xs[i].frame.mail.host) ∧ w.cell? ⟨b, o + i * 13 + 6, none⟩ = some (.int .i64 xs[i].frame.mail.thread) ∧
      w.cell? ⟨b, o + i * 13 + 7, none⟩ = some (.slice la xs[i].frame.mail.label.length lc) ∧ w.cell? ⟨b, o + i * 13 + 8, none⟩ = some (.slice ga xs[i].frame.mail.grants.length gc) ∧ w.cell? ⟨b, o + i * 13 + 9, none⟩ = some (.string xs[i].frame.mail.text) ∧
      w.cell? ⟨b, o + i * 13 + 10, none⟩ = some (.slice ca xs[i].frame.certs.length cc) ∧ w.cell? ⟨b, o + i * 13 + 11, none⟩ = some (.int .i64 xs[i].tries) ∧ w.cell? ⟨b, o + i * 13 + 12, none⟩ = some (.int .i64 xs[i].due) := by
  obtain ⟨b, o, cs, ha, _, hb, ⟨la, lc, ga, gc, ca, cc, rfl, r1, r2, r3⟩, _, _, hc⟩ := h.2.2.2 i xs[i] (by simp [hi])
  exact ⟨b, o, la, lc, ga, gc, ca, cc, ha, hb, ⟨r1, r2, r3⟩, by simpa using hc 0 _ rfl, by simpa using hc 1 _ rfl, by simpa using hc 2 _ rfl, by simpa using hc 3 _ rfl, by simpa using hc 4 _ rfl, by simpa using hc 5 _ rfl, by simpa using hc 6 _ rfl, by simpa using hc 7 _ rfl, by simpa using hc 8 _ rfl, by simpa using hc 9 _ rfl, by simpa using hc 10 _ rfl, by simpa using hc 11 _ rfl, by simpa using hc 12 _ rfl⟩
end

theorem SlR.lev_row {ok : Nat → Prop} {w : World} {b o c : Nat} {xs : List Lev} (h : SlR ok w 2 RLev (some ⟨b, o, none⟩) c xs) (i : Nat) (hi : i < xs.length) :
    ∀ (j : Nat) (v : Value), [Value.int .i64 xs[i].c, .int .i64 xs[i].l][j]? = some v → w.cell? ⟨b, o + i * 2 + j, none⟩ = some v := by
  obtain ⟨b', o', cs, ha, _, hb, hr, _, _, hc⟩ := h.2.2.2 i xs[i] (by simp [hi])
  simp only [Option.some.injEq, Addr.mk.injEq, and_true] at ha
  obtain ⟨rfl, rfl⟩ := ha
  unfold RLev at hr
  subst hr
  exact hc

theorem SlR.cert_row {ok : Nat → Prop} {w : World} {b o c : Nat} {xs : List Cert} (h : SlR ok w 4 RCert (some ⟨b, o, none⟩) c xs) (i : Nat) (hi : i < xs.length) :
    ∀ (j : Nat) (v : Value), [Value.int .i64 xs[i].c, .int .i64 xs[i].by_, .int .i64 xs[i].host, .int .i64 xs[i].till][j]? = some v → w.cell? ⟨b, o + i * 4 + j, none⟩ = some v := by
  obtain ⟨b', o', cs, ha, _, hb, hr, _, _, hc⟩ := h.2.2.2 i xs[i] (by simp [hi])
  simp only [Option.some.injEq, Addr.mk.injEq, and_true] at ha
  obtain ⟨rfl, rfl⟩ := ha
  unfold RCert at hr
  subst hr
  exact hc

/-- The level of a category in a label: the first that names it, else the plain one. -/
def lAt : List Lev → Int → Int
  | [], _ => 1
  | x :: l, c => if x.c = c then x.l else lAt l c

end Go.Proofs.Ytemjnojfhbbapaa

/- Memory of a call's own, block by block: one fact for all of them, and what new blocks, loads and stores make of it. No program is in sight. -/
namespace Go.Proofs.Ytemjnojfhbbapaa
open Go.RowKit

theorem wpList_wanted {P : Program} {w : World} {ops : Array Oper} {rest : List Oper} {o : Oper} {A : Act} {Q : Exit → Act → World → Prop} (hg : Region.wanted o (yielded ops A.tmps) = true)
    (h : ∀ K : Act → World → Prop, (∀ a w, wpList P ops Q rest a w → K a w) → o.wp P A w K Q) : wpList P ops Q (o :: rest) A w :=
  wpList_step fun K hK => by simp only [hg, if_true]; exact h K hK

/-! Each stands only at one kind of operation: an arm that begins with it ('with_reducible refine at_.. ?_') falls fast elsewhere. -/
theorem at_store {P : Program} {ops : Array Oper} {Q : Exit → Act → World → Prop} {rest : List Oper} {A : Act} {w : World} {d : Option Tmp} {ty : TypeId} {p : String} {af : Array Edge} {g : Option (Nat × Bool)} {x y : Operand} (T : TypeId)
    (h : wpList P ops Q (⟨d, .store T x y, ty, p, af, g⟩ :: rest) A w) : wpList P ops Q (⟨d, .store T x y, ty, p, af, g⟩ :: rest) A w := h
theorem at_load {P : Program} {ops : Array Oper} {Q : Exit → Act → World → Prop} {rest : List Oper} {A : Act} {w : World} {d : Option Tmp} {ty : TypeId} {p : String} {af : Array Edge} {g : Option (Nat × Bool)} {x : Operand} (T : TypeId)
    (h : wpList P ops Q (⟨d, .load T x, ty, p, af, g⟩ :: rest) A w) : wpList P ops Q (⟨d, .load T x, ty, p, af, g⟩ :: rest) A w := h
theorem at_box {P : Program} {ops : Array Oper} {Q : Exit → Act → World → Prop} {rest : List Oper} {A : Act} {w : World} {d : Option Tmp} {ty : TypeId} {p : String} {af : Array Edge} {g : Option (Nat × Bool)} {x : Operand} (T : TypeId)
    (h : wpList P ops Q (⟨d, .box T x, ty, p, af, g⟩ :: rest) A w) : wpList P ops Q (⟨d, .box T x, ty, p, af, g⟩ :: rest) A w := h
theorem at_alloc {P : Program} {ops : Array Oper} {Q : Exit → Act → World → Prop} {rest : List Oper} {A : Act} {w : World} {d : Option Tmp} {ty : TypeId} {p : String} {af : Array Edge} {g : Option (Nat × Bool)} (T : TypeId)
    (h : wpList P ops Q (⟨d, .alloc T, ty, p, af, g⟩ :: rest) A w) : wpList P ops Q (⟨d, .alloc T, ty, p, af, g⟩ :: rest) A w := h
theorem at_build1 {P : Program} {ops : Array Oper} {Q : Exit → Act → World → Prop} {rest : List Oper} {A : Act} {w : World} {d : Option Tmp} {ty : TypeId} {p : String} {af : Array Edge} {g : Option (Nat × Bool)} {x : Operand} (T : TypeId)
    (h : wpList P ops Q (⟨d, .buildSlice T 1 #[(0, x)], ty, p, af, g⟩ :: rest) A w) : wpList P ops Q (⟨d, .buildSlice T 1 #[(0, x)], ty, p, af, g⟩ :: rest) A w := h

theorem wanted_none {o : Oper} {y : Nat → Option Bool} (h : o.guard = none) : Region.wanted o y = true := by simp [Region.wanted, h]
theorem wanted_some {o : Oper} {y : Nat → Option Bool} {g : Nat} {b : Bool} (h : o.guard = some (g, b)) (hy : y g = some b) : Region.wanted o y = true := by simp [Region.wanted, h, hy]

abbrev Blks := List (Nat × TypeId × List Value)

/-- The world w, which began as w0: of what was there only the blocks in M may have turned; 'own' are blocks of the call's own (or of M), each as it stands. -/
structure St (M : List Nat) (w0 w : World) (own : Blks) : Prop where
  os : w.os = w0.os
  tape : w.tape = w0.tape
  output : w.output = w0.output
  size : w0.heap.size ≤ w.heap.size
  frame : ∀ b, b < w0.heap.size → b ∉ M → w.heap[b]? = w0.heap[b]?
  blk : ∀ x ∈ own, w.heap[x.1]? = some (.cells x.2.2.toArray x.2.1 (0, 0))
  mine : ∀ x ∈ own, x.1 ∈ M ∨ w0.heap.size ≤ x.1
  ne : own.Pairwise (fun x y => x.1 ≠ y.1)

theorem St.start (w : World) : St [] w w [] := ⟨rfl, rfl, rfl, Nat.le_refl _, fun _ _ _ => rfl, by simp, by simp, by simp⟩

theorem St.below {w0 w : World} {own : Blks} (h : St [] w0 w own) : Below w0.heap.size w0 w := ⟨h.os, h.tape, h.output, h.size, fun k hk => h.frame k hk (by simp)⟩

theorem St.lt {M : List Nat} {w0 w : World} {own : Blks} (h : St M w0 w own) {x : Nat × TypeId × List Value} (hx : x ∈ own) : x.1 < w.heap.size := (Array.getElem?_eq_some_iff.1 (h.blk x hx)).1

theorem St.ltAt {M : List Nat} {w0 w : World} {own : Blks} (h : St M w0 w own) {i g : Nat} {T : TypeId} {cs : List Value} (hi : own[i]? = some (g, T, cs)) : g < w.heap.size := h.lt (List.mem_of_getElem? hi)

/-- A call (or whatever leaves old memory as it was). -/
theorem St.call {M : List Nat} {w0 w w' : World} {own : Blks} (h : St M w0 w own) (hb : Below w.heap.size w w') : St M w0 w' own :=
  ⟨hb.os.trans h.os, hb.tape.trans h.tape, hb.output.trans h.output, Nat.le_trans h.size hb.size, fun b hb' hM => (hb.block b (Nat.lt_of_lt_of_le hb' h.size)).trans (h.frame b hb' hM),
    fun x hx => (hb.block x.1 (h.lt hx)).trans (h.blk x hx), h.mine, h.ne⟩

theorem St.drewN {M : List Nat} {w0 w : World} {own : Blks} (h : St M w0 w own) (n : Nat) : St M w0 (w.drewN n) own := h.call ((Below.refl _ _).drewN n)
theorem St.drew {M : List Nat} {w0 w : World} {own : Blks} (h : St M w0 w own) : St M w0 w.drew own := h.call (Below.refl _ _).drew

theorem St.new {M : List Nat} {w0 w : World} {own : Blks} (h : St M w0 w own) (T : TypeId) (cs : List Value) : St M w0 (w.alloc (.cells cs.toArray T)) (own ++ [(w.heap.size, T, cs)]) := by
  have hc := h.call ((Below.refl w.heap.size w).alloc (Nat.le_refl _) (.cells cs.toArray T))
  refine ⟨hc.os, hc.tape, hc.output, hc.size, hc.frame, ?_, ?_, ?_⟩
  · intro x hx
    rcases List.mem_append.1 hx with hx | hx
    · exact hc.blk x hx
    · simp at hx; subst hx; exact heap_alloc_new w _
  · intro x hx
    rcases List.mem_append.1 hx with hx | hx
    · exact h.mine x hx
    · simp at hx; subst hx; exact .inr h.size
  · refine List.pairwise_append.2 ⟨h.ne, by simp, fun x hx y hy => ?_⟩
    simp at hy; subst hy
    have := h.lt hx
    exact Nat.ne_of_lt this

/-- The cells with others laid over them from a place on. -/
def putL : List Value → Nat → List Value → List Value
  | [], _, _ => []
  | c :: cs, 0, [] => c :: cs
  | _ :: cs, 0, v :: vs => v :: putL cs 0 vs
  | c :: cs, o + 1, vs => c :: putL cs o vs

theorem putL_length (cs : List Value) (o : Nat) (vs : List Value) : (putL cs o vs).length = cs.length := by
  induction cs generalizing o vs with
  | nil => simp [putL]
  | cons c cs ih =>
    cases o with
    | zero => cases vs with
      | nil => simp [putL]
      | cons v vs => simp [putL, ih]
    | succ o => simp [putL, ih]

theorem putL_cons (cs : List Value) (o : Nat) (v : Value) (vs : List Value) : putL cs o (v :: vs) = putL (cs.set o v) (o + 1) vs := by
  induction cs generalizing o with
  | nil => simp [putL]
  | cons c cs ih =>
    cases o with
    | zero => simp [putL]
    | succ o => simp only [putL, List.set_cons_succ]; rw [ih]

theorem putL_nil (cs : List Value) (o : Nat) : putL cs o [] = cs := by
  induction cs generalizing o with
  | nil => simp [putL]
  | cons c cs ih => cases o <;> simp [putL, ih]

/-- A row written over: block g alone turns. -/
theorem setCells_block {w : World} {g : Nat} {T : TypeId} : ∀ (vs : List Value) (o : Nat) (cs : List Value), w.heap[g]? = some (.cells cs.toArray T (0, 0)) →
    (w.setCells g o vs).heap[g]? = some (.cells (putL cs o vs).toArray T (0, 0)) ∧ (∀ b, b ≠ g → (w.setCells g o vs).heap[b]? = w.heap[b]?) ∧ (w.setCells g o vs).heap.size = w.heap.size ∧
      (w.setCells g o vs).os = w.os ∧ (w.setCells g o vs).tape = w.tape ∧ (w.setCells g o vs).output = w.output := by
  intro vs
  induction vs generalizing w with
  | nil => intro o cs h; rw [putL_nil]; exact ⟨h, fun _ _ => rfl, rfl, rfl, rfl, rfl⟩
  | cons v vs ih =>
    intro o cs h
    have h1 := heap_setCell_same w g o cs.toArray T v h
    have h1' : (w.setCell ⟨g, o, none⟩ v).heap[g]? = some (.cells (cs.set o v).toArray T (0, 0)) := by rw [h1]; simp
    obtain ⟨a1, a2, a3, a4, a5, a6⟩ := ih (w := w.setCell ⟨g, o, none⟩ v) (o + 1) (cs.set o v) h1'
    rw [putL_cons]
    refine ⟨a1, fun b hb => (a2 b hb).trans (heap_setCell_other w ⟨g, o, none⟩ b v hb), a3.trans (by simp [World.setCell]), a4, a5, a6⟩

theorem St.put {M : List Nat} {w0 w w' : World} {own : Blks} (h : St M w0 w own) {i g : Nat} {T : TypeId} {cs cs' : List Value} (hi : own[i]? = some (g, T, cs))
    (h1 : w'.heap[g]? = some (.cells cs'.toArray T (0, 0))) (h2 : ∀ b, b ≠ g → w'.heap[b]? = w.heap[b]?) (h3 : w'.heap.size = w.heap.size) (h4 : w'.os = w.os) (h5 : w'.tape = w.tape) (h6 : w'.output = w.output) :
    St M w0 w' (own.set i (g, T, cs')) := by
  have hin : (g, T, cs) ∈ own := List.mem_of_getElem? hi
  have hilt : i < own.length := (List.getElem?_eq_some_iff.1 hi).1
  have hget : own[i] = (g, T, cs) := (List.getElem?_eq_some_iff.1 hi).2
  have hids : (own.set i (g, T, cs')).map (·.1) = own.map (·.1) := by
    apply List.ext_getElem?
    intro j
    simp only [List.getElem?_map, List.getElem?_set]
    by_cases hj : i = j
    · subst hj; simp [hilt, hget]
    · simp [hj]
  refine ⟨h4.trans h.os, h5.trans h.tape, h6.trans h.output, by rw [h3]; exact h.size, ?_, ?_, ?_, ?_⟩
  · intro b hb hM
    have hbg : b ≠ g := by
      rintro rfl
      rcases h.mine _ hin with hm | hm
      · exact hM hm
      · simp at hm; omega
    rw [h2 b hbg]; exact h.frame b hb hM
  · intro x hx
    obtain ⟨j, hj⟩ := List.mem_iff_getElem?.1 hx
    rw [List.getElem?_set] at hj
    by_cases hij : i = j
    · subst hij; simp [hilt] at hj; subst hj; exact h1
    · rw [if_neg hij] at hj
      have hxin := List.mem_of_getElem? hj
      have hne : x.1 ≠ g := by
        have hp := List.pairwise_iff_getElem.1 h.ne
        have hjl := (List.getElem?_eq_some_iff.1 hj).1
        have hjx := (List.getElem?_eq_some_iff.1 hj).2
        rcases Nat.lt_or_gt_of_ne hij with hlt | hlt
        · have := hp i j hilt hjl hlt; rw [hget, hjx] at this; exact fun e => this e.symm
        · have := hp j i hjl hilt hlt; rw [hget, hjx] at this; exact this
      rw [h2 _ hne]; exact h.blk x hxin
  · intro x hx
    have : x.1 ∈ (own.set i (g, T, cs')).map (·.1) := List.mem_map.2 ⟨x, hx, rfl⟩
    rw [hids] at this
    obtain ⟨y, hy, e⟩ := List.mem_map.1 this
    rw [← e]; exact h.mine y hy
  · have : ((own.set i (g, T, cs')).map (·.1)).Pairwise (· ≠ ·) := by rw [hids]; exact List.pairwise_map.2 h.ne
    exact List.pairwise_map.1 this

theorem St.setCell {M : List Nat} {w0 w : World} {own : Blks} (h : St M w0 w own) {i g : Nat} {T : TypeId} {cs : List Value} (hi : own[i]? = some (g, T, cs)) (j : Nat) (v : Value) : St M w0 (w.setCell ⟨g, j, none⟩ v) (own.set i (g, T, cs.set j v)) := by
  have h1 := heap_setCell_same w g j cs.toArray T v (h.blk _ (List.mem_of_getElem? hi))
  have h1' : (w.setCell ⟨g, j, none⟩ v).heap[g]? = some (.cells (cs.set j v).toArray T (0, 0)) := by rw [h1]; simp
  exact h.put hi h1' (fun b hb => heap_setCell_other w ⟨g, j, none⟩ b v hb) (by simp [World.setCell]) rfl rfl rfl

/-- From here on: only the blocks at hand may turn. -/
theorem St.rebase {M : List Nat} {w0 w : World} {own : Blks} (h : St M w0 w own) : St (own.map (·.1)) w w own :=
  ⟨rfl, rfl, rfl, Nat.le_refl _, fun _ _ _ => rfl, h.blk, fun x hx => .inl (List.mem_map.2 ⟨x, hx, rfl⟩), h.ne⟩

theorem St.keeps {M : List Nat} {w0 w : World} {own : Blks} (h : St M w0 w own) {ok : Nat → Prop} (hM : ∀ g ∈ M, ¬ ok g) : Keeps ok w0 w := ⟨h.size, fun b hb ho => h.frame b hb fun hm => hM b hm ho⟩

theorem St.belowB {M : List Nat} {w0 w : World} {own : Blks} (h : St M w0 w own) {B : Nat} (hB : B ≤ w0.heap.size) (hM : ∀ g ∈ M, B ≤ g) : Below B w0 w :=
  ⟨h.os, h.tape, h.output, h.size, fun b hb => h.frame b (Nat.lt_of_lt_of_le hb hB) fun hm => by have := hM b hm; omega⟩

theorem SlR.okay {ok ok' : Nat → Prop} {w : World} {α : Type} {sz : Nat} {R : List Value → α → Prop} {a : Option Addr} {c : Nat} {xs : List α} (h : SlR ok w sz R a c xs) (hok : ∀ b, ok b → ok' b) : SlR ok' w sz R a c xs := by
  refine ⟨h.1, h.2.1, h.2.2.1, fun i x hx => ?_⟩
  obtain ⟨b, o, cs, ha, ho, r⟩ := h.2.2.2 i x hx
  exact ⟨b, o, cs, ha, hok _ ho, r⟩

theorem SlR.okayR {ok ok' : Nat → Prop} {w : World} {α : Type} {sz : Nat} {R R' : List Value → α → Prop} {a : Option Addr} {c : Nat} {xs : List α} (h : SlR ok w sz R a c xs) (hok : ∀ b, ok b → ok' b) (hR : ∀ cs x, R cs x → R' cs x) : SlR ok' w sz R' a c xs := by
  refine ⟨h.1, h.2.1, h.2.2.1, fun i x hx => ?_⟩
  obtain ⟨b, o, cs, ha, ho, hb, hr, r⟩ := h.2.2.2 i x hx
  exact ⟨b, o, cs, ha, hok _ ho, hb, hR _ _ hr, r⟩

theorem St.ofBelow {w0 w : World} (h : Below w0.heap.size w0 w) : St [] w0 w [] := (St.start w0).call h

/-- What a slice lies in stays as it is, and is let by the new bounds. -/
theorem SlR.move {ok ok' : Nat → Prop} {w w' : World} {α : Type} {sz : Nat} {R R' : List Value → α → Prop} {a : Option Addr} {c : Nat} {xs : List α} (h : SlR ok w sz R a c xs) (hs : w.heap.size ≤ w'.heap.size) (hk : ∀ b, b < w.heap.size → ok b → ok' b ∧ w'.heap[b]? = w.heap[b]?)
    (hR : ∀ cs x, R cs x → R' cs x) : SlR ok' w' sz R' a c xs := by
  refine ⟨h.1, h.2.1, h.2.2.1, fun i x hx => ?_⟩
  obtain ⟨b, o, cs, ha, ho, hb, hr, hl, h1, hc⟩ := h.2.2.2 i x hx
  obtain ⟨h2, h3⟩ := hk b hb ho
  exact ⟨b, o, cs, ha, h2, Nat.lt_of_lt_of_le hb hs, hR _ _ hr, hl, h1, fun j v hv => (World.cell?_of_block (w := w) h3).trans (hc j v hv)⟩

theorem Own.blockLt {base : Nat} {e : TypeId} {w : World} {α : Type} {sz : Nat} {R : List Value → α → Prop} {a : Option Addr} {c : Nat} {xs : List α} (h : Own base e w sz R a c xs) : ∀ k, a.map (·.block) = some k → base ≤ k ∧ k < w.heap.size := by
  obtain ⟨css, _, _, _, h4⟩ := h
  intro k hk
  exact h4.lt k (by cases a <;> simp at hk; subst hk; rfl)

/-- A block of just one element's cells, as a slice. -/
theorem SlR.ofBlk {w : World} {α : Type} {sz : Nat} {R : List Value → α → Prop} {g : Nat} {T : TypeId} {cs : List Value} {x : α} (h : w.heap[g]? = some (.cells cs.toArray T (0, 0))) (hR : R cs x) (hl : cs.length = sz) (h1 : cs.all Value.oneCell' = true) {ok : Nat → Prop} (ho : ok g) :
    SlR ok w sz R (some ⟨g, 0, none⟩) 1 [x] := by
  refine ⟨Nat.le_refl _, by simp [maxLen], by simp, fun i y hy => ?_⟩
  have hi : i = 0 := by
    have := (List.getElem?_eq_some_iff.1 hy).1
    simp at this; exact this
  subst hi
  simp at hy
  subst hy
  refine ⟨_, _, cs, rfl, ho, (Array.getElem?_eq_some_iff.1 h).1, hR, hl, by simpa using h1, fun j v hv => ?_⟩
  rw [cell_of_row w g _ cs.toArray T (0, 0) h]
  simpa using hv

/-- Whatever lies in the blocks at hand lay there before. -/
theorem St.below2 {M : List Nat} {a w0 w : World} {own0 own : Blks} (h0 : St M a w0 own0) (h : St (own0.map (·.1)) w0 w own) (hsub : ∀ x ∈ own0, x ∈ own) : Below w0.heap.size w0 w := by
  refine ⟨h.os, h.tape, h.output, h.size, fun b hb => ?_⟩
  by_cases hm : b ∈ own0.map (·.1)
  · obtain ⟨x, hx, rfl⟩ := List.mem_map.1 hm
    rw [h.blk x (hsub x hx), h0.blk x hx]
  · exact h.frame b hb hm

end Go.Proofs.Ytemjnojfhbbapaa

/- New blocks, loads and stores of a call's own memory, as steps of a walk. No program is in sight. -/
namespace Go.Proofs.Ytemjnojfhbbapaa
open Go.RowKit

section
variable {P : Program} {w0 w : World} {M : List Nat} {own : Blks} {ops : Array Oper} {rest : List Oper} {o : Oper} {A : Act} {Q : Exit → Act → World → Prop}

theorem mem_box (st : St M w0 w own) (hgd : Region.wanted o (yielded ops A.tmps) = true) (T : TypeId) (x : Operand) (ho : o.op = .box T x) (v : Value) (hx : A.eval x = v) (cs : List Value) (hcs : v.cells.toList = cs)
    (h : ∀ g w', w0.heap.size ≤ g → St M w0 w' (own ++ [(g, T, cs)]) → Below w.heap.size w w' → wpList P ops Q rest (A.put o.dst (.pointer (some ⟨g, 0, none⟩))) w') : wpList P ops Q (o :: rest) A w := by
  subst hcs
  refine wpList_wanted hgd fun K hK' => ?_
  have hs := st.new T v.cells.toList
  simp only [Array.toArray_toList] at hs
  unfold Oper.wp
  simp only [execOp, ho, hx, Instr.box, newVar, newRow, newObj]
  exact hK' _ _ (h w.heap.size _ st.size hs ((Below.refl _ _).alloc (Nat.le_refl _) _))

theorem mem_alloc (st : St M w0 w own) (hgd : Region.wanted o (yielded ops A.tmps) = true) (T : TypeId) (ho : o.op = .alloc T) (z : Value) (hz : ∀ w, (zeroValue T).run P w = .ok z w) (cs : List Value) (hcs : z.cells.toList = cs)
    (h : ∀ g w', w0.heap.size ≤ g → St M w0 w' (own ++ [(g, T, cs)]) → Below w.heap.size w w' → wpList P ops Q rest (A.put o.dst (.pointer (some ⟨g, 0, none⟩))) w') : wpList P ops Q (o :: rest) A w := by
  subst hcs
  refine wpList_wanted hgd fun K hK' => ?_
  have hs := st.new T z.cells.toList
  simp only [Array.toArray_toList] at hs
  unfold Oper.wp
  simp only [execOp, ho, Instr.alloc, Sem.run_bind, hz, Result.andThen_ok, newVar, newRow, newObj]
  exact hK' _ _ (h w.heap.size _ st.size hs ((Below.refl _ _).alloc (Nat.le_refl _) _))

theorem St.cell (st : St M w0 w own) {i g : Nat} {T : TypeId} {cs : List Value} (hi : own[i]? = some (g, T, cs)) (j : Nat) : w.cell? ⟨g, j, none⟩ = cs[j]? := by
  rw [cell_of_row w g j cs.toArray T (0, 0) (st.blk _ (List.mem_of_getElem? hi))]
  simp

theorem St.free (st : St M w0 w own) {i g : Nat} {T : TypeId} {cs : List Value} (hi : own[i]? = some (g, T, cs)) (j : Nat) : w.frozen? ⟨g, j, none⟩ = false :=
  frozen_of_row w g j cs.toArray T (st.blk _ (List.mem_of_getElem? hi))

theorem add_plain (g o i : Nat) : (⟨g, o, none⟩ : Addr).add i = ⟨g, o + i, none⟩ := by unfold Addr.add; split <;> simp_all

theorem mem_load (st : St M w0 w own) (hgd : Region.wanted o (yielded ops A.tmps) = true) (T : TypeId) (x : Operand) (ho : o.op = .load T x) (g off : Nat) (hx : A.eval x = .pointer (some ⟨g, off, none⟩)) (hagg : ∀ w, (isAgg T).run P w = .ok false w)
    (i : Nat) (T' : TypeId) (cs : List Value) (hi : own[i]? = some (g, T', cs)) (v : Value) (hv : cs[off]? = some v)
    (h : wpList P ops Q rest (A.put o.dst v) w) : wpList P ops Q (o :: rest) A w := by
  refine wpList_wanted hgd fun K hK' => ?_
  have hc := (st.cell hi off).trans hv
  unfold Oper.wp
  simp only [execOp, ho, hx, Instr.loadAt, Instr.sureAddr, loadVar, Sem.run_bind, Sem.run_pure, Result.andThen_ok, hagg]
  simp [load, Sem.run, hc, Result.andThen]
  exact hK' _ _ h

theorem mem_load_agg (st : St M w0 w own) (hgd : Region.wanted o (yielded ops A.tmps) = true) (T : TypeId) (x : Operand) (ho : o.op = .load T x) (g off : Nat) (hx : A.eval x = .pointer (some ⟨g, off, none⟩)) (hagg : ∀ w, (isAgg T).run P w = .ok true w)
    (n : Nat) (hsz : ∀ w, (sizeOf T).run P w = .ok n w) (i : Nat) (T' : TypeId) (cs : List Value) (hi : own[i]? = some (g, T', cs)) (vs : List Value) (hv : (cs.drop off).take n = vs) (hl : vs.length = n)
    (h : wpList P ops Q rest (A.put o.dst (.agg vs.toArray)) w) : wpList P ops Q (o :: rest) A w := by
  refine wpList_wanted hgd fun K hK' => ?_
  have hl' : (loadCells ⟨g, off, none⟩ vs.length).run P w = .ok vs.toArray w := run_loadCells_list (P := P) w ⟨g, off, none⟩ vs (fun j v hj => by
    rw [add_plain, st.cell hi]
    subst hv
    have hjn : j < n := by have := (List.getElem?_eq_some_iff.1 hj).1; omega
    rw [List.getElem?_take_of_lt hjn, List.getElem?_drop] at hj
    exact hj)
  rw [hl] at hl'
  unfold Oper.wp
  simp only [execOp, ho, hx, Instr.loadAt, Instr.sureAddr, loadVar, Sem.run_bind, Sem.run_pure, Result.andThen_ok, hagg, hsz, if_true, hl']
  exact hK' _ _ h

theorem mem_store (st : St M w0 w own) (hgd : Region.wanted o (yielded ops A.tmps) = true) (T : TypeId) (x y : Operand) (ho : o.op = .store T x y) (g off : Nat) (hx : A.eval x = .pointer (some ⟨g, off, none⟩))
    (v : Value) (hy : A.eval y = v) (vs : List Value) (hvs : v.cells.toList = vs) (hsz : ∀ w, (sizeOf T).run P w = .ok vs.length w) (h1 : ∀ u ∈ vs, u.oneCell' = true)
    (i : Nat) (T' : TypeId) (cs : List Value) (hi : own[i]? = some (g, T', cs)) (hl : off + vs.length ≤ cs.length)
    (h : ∀ w', St M w0 w' (own.set i (g, T', putL cs off vs)) → (∀ b, b ≠ g → w'.heap[b]? = w.heap[b]?) → w'.heap.size = w.heap.size → wpList P ops Q rest (A.put o.dst undef) w') : wpList P ops Q (o :: rest) A w := by
  refine wpList_wanted hgd fun K hK' => ?_
  have hst : (storeCells ⟨g, off, none⟩ vs 0).run P w = .ok () (w.setCells g off vs) := run_storeCells_cells (P := P) g off vs 0 w
    (fun j hj => by rw [Nat.add_zero, st.cell hi]; rw [List.getElem?_eq_getElem (by omega)]; rfl) (fun j hj => by rw [Nat.add_zero]; exact st.free hi _) h1
  obtain ⟨a1, a2, a3, a4, a5, a6⟩ := setCells_block (w := w) vs off cs (st.blk _ (List.mem_of_getElem? hi))
  have hs' := st.put hi a1 a2 a3 a4 a5 a6
  have hcs : v.cells.size = vs.length := by rw [← hvs]; simp
  unfold Oper.wp
  simp only [execOp, ho, hx, hy, Instr.storeAt, Instr.sureAddr, storeVar, Sem.run_bind, Sem.run_pure, Result.andThen_ok, hsz, hcs, hvs, ne_eq, not_true, if_false, hst]
  exact hK' _ _ (h _ hs' a2 a3)

/-! ### The same, for the arms of a walk: what is found by looking stands behind one existential -/

theorem mem_load' (st : St M w0 w own) (T : TypeId) (x : Operand) (ho : o.op = .load T x) (hgd : Region.wanted o (yielded ops A.tmps) = true) (hagg : ∀ w, (isAgg T).run P w = .ok false w)
    (h : ∃ (i g off : Nat) (T' : TypeId) (cs : List Value) (v : Value), A.eval x = .pointer (some ⟨g, off, none⟩) ∧ own[i]? = some (g, T', cs) ∧ cs[off]? = some v ∧ wpList P ops Q rest (A.put o.dst v) w) : wpList P ops Q (o :: rest) A w := by
  obtain ⟨i, g, off, T', cs, v, hx, hi, hv, h⟩ := h
  exact mem_load st hgd T x ho g off hx hagg i T' cs hi v hv h

theorem mem_load_agg' (st : St M w0 w own) (T : TypeId) (x : Operand) (ho : o.op = .load T x) (hgd : Region.wanted o (yielded ops A.tmps) = true) (hagg : ∀ w, (isAgg T).run P w = .ok true w) (n : Nat) (hsz : ∀ w, (sizeOf T).run P w = .ok n w)
    (h : ∃ (i g off : Nat) (T' : TypeId) (cs vs : List Value), A.eval x = .pointer (some ⟨g, off, none⟩) ∧ own[i]? = some (g, T', cs) ∧ (cs.drop off).take n = vs ∧ vs.length = n ∧ wpList P ops Q rest (A.put o.dst (.agg vs.toArray)) w) : wpList P ops Q (o :: rest) A w := by
  obtain ⟨i, g, off, T', cs, vs, hx, hi, hv, hl, h⟩ := h
  exact mem_load_agg st hgd T x ho g off hx hagg n hsz i T' cs hi vs hv hl h

theorem mem_store' (st : St M w0 w own) (T : TypeId) (x y : Operand) (ho : o.op = .store T x y) (hgd : Region.wanted o (yielded ops A.tmps) = true) (n : Nat) (hsz : ∀ w, (sizeOf T).run P w = .ok n w)
    (h : ∃ (i g off : Nat) (T' : TypeId) (cs vs : List Value), A.eval x = .pointer (some ⟨g, off, none⟩) ∧ own[i]? = some (g, T', cs) ∧ (A.eval y).cells.toList = vs ∧ vs.length = n ∧ vs.all Value.oneCell' = true ∧ Nat.ble (off + vs.length) cs.length = true ∧
      ∀ w', St M w0 w' (own.set i (g, T', putL cs off vs)) → (∀ b, b ≠ g → w'.heap[b]? = w.heap[b]?) → w'.heap.size = w.heap.size → wpList P ops Q rest (A.put o.dst undef) w') : wpList P ops Q (o :: rest) A w := by
  obtain ⟨i, g, off, T', cs, vs, hx, hi, hv, hl, h1, hle, h⟩ := h
  exact mem_store st hgd T x y ho g off hx _ rfl vs hv (by rw [hl]; exact hsz) (by simpa using h1) i T' cs hi (Nat.le_of_ble_eq_true hle) h

end
end Go.Proofs.Ytemjnojfhbbapaa

/- A slice that is built of one element: a new block of a call's own. No program is in sight. -/
namespace Go.Proofs.Ytemjnojfhbbapaa
open Go.RowKit

/-- What is owned stays owned while its blocks stay as they are. -/
theorem Own.move {base : Nat} {e : TypeId} {w w' : World} {α : Type} {sz : Nat} {R R' : List Value → α → Prop} {a : Option Addr} {c : Nat} {xs : List α} (h : Own base e w sz R a c xs) (hk : ∀ b, base ≤ b → b < w.heap.size → w'.heap[b]? = w.heap[b]?) (hR : ∀ cs x, R cs x → R' cs x) : Own base e w' sz R' a c xs := by
  obtain ⟨css, h1, h2, h3, h4⟩ := h
  refine ⟨css, h1, h2, fun i x cs hx hc => hR _ _ (h3 i x cs hx hc), h4.1, ?_⟩
  rcases h4.2 with h | ⟨g, cap, cur, hv, hg, hh, r⟩
  · exact .inl h
  · exact .inr ⟨g, cap, cur, hv, hg, by rw [hk g hg (Array.getElem?_eq_some_iff.1 hh).1]; exact hh, r⟩

theorem lay_list : ∀ (l : List Value) (k : Nat) (arr : Array Value), k + l.length ≤ arr.size → ((l.zipIdx k).foldl (fun cs p => cs.setIfInBounds p.2 p.1) arr).toList = arr.toList.take k ++ l ++ arr.toList.drop (k + l.length) := by
  intro l
  induction l with
  | nil => intro k arr _; simp
  | cons v l ih =>
    intro k arr h
    simp only [List.length_cons] at h
    rw [List.zipIdx_cons, List.foldl_cons, ih (k + 1) (arr.setIfInBounds k v) (by simp; omega)]
    have hk : k < arr.toList.length := by simp; omega
    have e1 : (arr.setIfInBounds k v).toList = arr.toList.set k v := by simp
    rw [e1]
    have e2 : (arr.toList.set k v).take (k + 1) = arr.toList.take k ++ [v] := by
      rw [List.take_succ_eq_append_getElem (by simpa using hk)]
      simp [List.take_set]
      exact List.set_eq_of_length_le (by simp; omega)
    have e3 : (arr.toList.set k v).drop (k + 1 + l.length) = arr.toList.drop (k + (l.length + 1)) := by
      rw [List.drop_set_of_lt (by omega)]
      congr 1
      omega
    rw [e2, e3]
    simp

theorem fill_one (cells : Array Value) (v : Value) (n : Nat) (h1 : v.cells.size = n) (h2 : cells.size = n) : Instr.fill (fun i => some (i * n, n)) cells [(0, v)] = some v.cells := by
  have h3 : (v.cells.zipIdx.foldl (fun cs (c, j) => cs.setIfInBounds (0 * n + j) c) cells) = v.cells := by
    have := lay_list v.cells.toList 0 cells (by simp; omega)
    rw [← Array.foldl_toList, Array.toList_zipIdx]
    simp only [Nat.zero_mul, Nat.zero_add] at this ⊢
    apply Array.toList_inj.1
    refine Eq.trans ?_ (this.trans ?_)
    · rfl
    · simp; omega
  simp only [Instr.fill]
  rw [h3]
  rw [if_neg (by simp; omega)]

section
variable {P : Program} {w0 w : World} {M : List Nat} {own : Blks} {ops : Array Oper} {rest : List Oper} {o : Oper} {A : Act} {Q : Exit → Act → World → Prop} {K : Act → World → Prop} {E : Prop}

theorem wp_build1 (st : St M w0 w own) (T T' : TypeId) (x : Operand) (ho : o.op = .buildSlice T 1 #[(0, x)]) (ht : P.underlying T = some (.slice T')) (n : Nat) (hsz : ∀ w, (sizeOf T').run P w = .ok n w) (hn : 0 < n) (hn' : n ≤ 1000) (z : Value) (hz : ∀ w, (zeroValue T').run P w = .ok z w) (cs : List Value) (hx : (A.eval x).cells.toList = cs) (hc : cs.length = n)
    (h : ∀ g w', w0.heap.size ≤ g → g = w.heap.size → St M w0 w' (own ++ [(g, T', cs)]) → Below w.heap.size w w' → w'.heap.size = w.heap.size + 1 → K (A.put o.dst (.slice (some ⟨g, 0, none⟩) 1 1)) w') : Oper.wp P o A w K Q := by
  subst hx
  have hs := st.new T' (A.eval x).cells.toList
  simp only [Array.toArray_toList] at hs
  have hf := fill_one ((Array.range (1 * n)).map (z.cells[· % z.cells.size]!)) (A.eval x) n (by simpa using hc) (by simp)
  have hgt : ¬ 2 ^ 24 < 1 * n := by omega
  have hne : ¬ 1 * n = 0 := by omega
  unfold Oper.wp
  simp only [execOp, ho, Instr.buildSlice, Sem.run_bind, run_underlying ht, Result.andThen_ok, hsz, hgt, hne, if_false, hz, Sem.run_pure, gt_iff_lt, List.map_toArray, List.map_cons, List.map_nil, hf, newRow, newObj]
  exact h w.heap.size _ st.size rfl hs ((Below.refl _ _).alloc (Nat.le_refl _) _) (by simp)

theorem wpList_build1 (st : St M w0 w own) (hgd : Region.wanted o (yielded ops A.tmps) = true) (T T' : TypeId) (x : Operand) (ho : o.op = .buildSlice T 1 #[(0, x)]) (ht : P.underlying T = some (.slice T')) (n : Nat) (hsz : ∀ w, (sizeOf T').run P w = .ok n w) (hn : 0 < n) (hn' : n ≤ 1000) (z : Value) (hz : ∀ w, (zeroValue T').run P w = .ok z w) (cs : List Value) (hx : (A.eval x).cells.toList = cs) (hc : cs.length = n)
    (h : ∀ g w', w0.heap.size ≤ g → g = w.heap.size → St M w0 w' (own ++ [(g, T', cs)]) → Below w.heap.size w w' → w'.heap.size = w.heap.size + 1 → wpList P ops Q rest (A.put o.dst (.slice (some ⟨g, 0, none⟩) 1 1)) w') : wpList P ops Q (o :: rest) A w :=
  wpList_wanted hgd fun _ hK => wp_build1 st T T' x ho ht n hsz hn hn' z hz cs hx hc fun g w' h1 h2 h3 h4 h5 => hK _ _ (h g w' h1 h2 h3 h4 h5)

theorem step_build1 (st : St M w0 w own) (hgd : Region.wanted o (yielded ops A.tmps) = true) (T T' : TypeId) (x : Operand) (ho : o.op = .buildSlice T 1 #[(0, x)]) (ht : P.underlying T = some (.slice T')) (n : Nat) (hsz : ∀ w, (sizeOf T').run P w = .ok n w) (hn : 0 < n) (hn' : n ≤ 1000) (z : Value) (hz : ∀ w, (zeroValue T').run P w = .ok z w) (cs : List Value) (hx : (A.eval x).cells.toList = cs) (hc : cs.length = n)
    (h : ∀ g w', w0.heap.size ≤ g → g = w.heap.size → St M w0 w' (own ++ [(g, T', cs)]) → Below w.heap.size w w' → w'.heap.size = w.heap.size + 1 → K (A.put o.dst (.slice (some ⟨g, 0, none⟩) 1 1)) w') : if Region.wanted o (yielded ops A.tmps) = true then Oper.wp P o A w K Q else E := by
  have hw := hgd
  rw [if_pos hw]
  exact wp_build1 st T T' x ho ht n hsz hn hn' z hz cs hx hc h

end
end Go.Proofs.Ytemjnojfhbbapaa

/- Plain laws on labels: lists of levels; no program, no memory. -/
namespace Go.Proofs.Ytemjnojfhbbapaa

/-! ### Lists that rise, each number once -/

def insI (x : Int) : List Int → List Int
  | [] => [x]
  | y :: l => if x < y then x :: y :: l else if x = y then y :: l else y :: insI x l

def uniq (l : List Int) : List Int := l.foldr insI []

abbrev Rising (l : List Int) : Prop := l.Pairwise (· < ·)

theorem insI_mem {x z : Int} {l : List Int} : z ∈ insI x l ↔ z = x ∨ z ∈ l := by
  induction l with
  | nil => simp [insI]
  | cons y l ih =>
    unfold insI
    split
    · simp
    · split
      · rename_i h; subst h; simp
      · simp only [List.mem_cons, ih]
        constructor
        · rintro (h | h | h) <;> simp [h]
        · rintro (h | h | h) <;> simp [h]

theorem insI_rising {x : Int} {l : List Int} (h : Rising l) : Rising (insI x l) := by
  induction l with
  | nil => simp [insI]
  | cons y l ih =>
    unfold insI
    have hy := List.pairwise_cons.1 h
    split
    · rename_i hxy
      exact List.pairwise_cons.2 ⟨fun z hz => by rcases List.mem_cons.1 hz with rfl | hz; exact hxy; exact Int.lt_trans hxy (hy.1 z hz), h⟩
    · split
      · exact h
      · rename_i h1 h2
        refine List.pairwise_cons.2 ⟨fun z hz => ?_, ih hy.2⟩
        rcases insI_mem.1 hz with rfl | hz
        · omega
        · exact hy.1 z hz

theorem uniq_mem {z : Int} {l : List Int} : z ∈ uniq l ↔ z ∈ l := by
  induction l with
  | nil => simp [uniq]
  | cons y l ih => show z ∈ insI y (uniq l) ↔ _; rw [insI_mem, ih, List.mem_cons]

theorem uniq_rising (l : List Int) : Rising (uniq l) := by
  induction l with
  | nil => exact List.Pairwise.nil
  | cons y l ih => exact insI_rising ih

theorem rising_ext {a b : List Int} (ha : Rising a) (hb : Rising b) (h : ∀ z, z ∈ a ↔ z ∈ b) : a = b := by
  induction a generalizing b with
  | nil =>
    cases b with
    | nil => rfl
    | cons y b => have := (h y).2 (by simp); simp at this
  | cons x a ih =>
    cases b with
    | nil => have := (h x).1 (by simp); simp at this
    | cons y b =>
      have ha' := List.pairwise_cons.1 ha
      have hb' := List.pairwise_cons.1 hb
      have hxy : x = y := by
        rcases List.mem_cons.1 ((h x).1 (by simp)) with e | e
        · exact e
        · rcases List.mem_cons.1 ((h y).2 (by simp)) with e' | e'
          · exact e'.symm
          · have := hb'.1 x e; have := ha'.1 y e'; omega
      subst hxy
      rw [ih ha'.2 hb'.2 fun z => ?_]
      constructor
      · intro hz
        rcases List.mem_cons.1 ((h z).1 (by simp [hz])) with e | e
        · have := ha'.1 z hz; omega
        · exact e
      · intro hz
        rcases List.mem_cons.1 ((h z).2 (by simp [hz])) with e | e
        · have := hb'.1 z hz; omega
        · exact e

theorem uniq_of {a l : List Int} (ha : Rising a) (h : ∀ z, z ∈ a ↔ z ∈ l) : a = uniq l := rising_ext ha (uniq_rising l) fun z => (h z).trans uniq_mem.symm

/-! ### Labels -/

def catsOf (l : List Lev) : List Int := l.map (·.c)
def eachL (a b : List Lev) : List Int := uniq (catsOf a ++ catsOf b)

theorem eachL_mem {a b : List Lev} {z : Int} : z ∈ eachL a b ↔ z ∈ catsOf a ∨ z ∈ catsOf b := by rw [eachL, uniq_mem, List.mem_append]

theorem eachL_comm (a b : List Lev) : eachL a b = eachL b a := rising_ext (uniq_rising _) (uniq_rising _) fun z => by
  rw [eachL_mem, eachL_mem]; exact Or.comm

theorem lAt_not {l : List Lev} {c : Int} (h : c ∉ catsOf l) : lAt l c = 1 := by
  induction l with
  | nil => rfl
  | cons x l ih =>
    simp only [catsOf, List.map_cons, List.mem_cons, not_or] at h
    rw [lAt, if_neg (fun e => h.1 e.symm)]
    exact ih h.2

/-- From the k-th category on: do they all flow? -/
def flowsFrom (a b : List Lev) (own : List Int) : List Int → Bool
  | [] => true
  | c :: l => if lAt b c < lAt a c then (if inL own c then flowsFrom a b own l else false) else flowsFrom a b own l

def flowsL (a b : List Lev) (own : List Int) : Bool := flowsFrom a b own (eachL a b)

theorem flowsFrom_iff (a b : List Lev) (own : List Int) (l : List Int) : flowsFrom a b own l = true ↔ ∀ c ∈ l, c ∉ own → lAt a c ≤ lAt b c := by
  induction l with
  | nil => simp [flowsFrom]
  | cons c l ih =>
    unfold flowsFrom
    by_cases h : lAt b c < lAt a c
    · rw [if_pos h]
      by_cases ho : inL own c = true
      · rw [if_pos ho, ih]
        have := (inL_iff own c).1 ho
        constructor
        · intro H d hd hn
          rcases List.mem_cons.1 hd with rfl | hd
          · exact absurd this hn
          · exact H d hd hn
        · exact fun H d hd hn => H d (by simp [hd]) hn
      · rw [if_neg ho]
        simp only [Bool.false_eq_true, false_iff]
        intro H
        have := H c (by simp) (by rwa [← inL_not, Bool.eq_false_iff])
        omega
    · rw [if_neg h, ih]
      constructor
      · intro H d hd hn
        rcases List.mem_cons.1 hd with rfl | hd
        · omega
        · exact H d hd hn
      · exact fun H d hd hn => H d (by simp [hd]) hn

/-- What flows: at each category that is not one's own the level is no greater. -/
theorem flowsL_iff (a b : List Lev) (own : List Int) : flowsL a b own = true ↔ ∀ c, c ∉ own → lAt a c ≤ lAt b c := by
  rw [flowsL, flowsFrom_iff]
  constructor
  · intro H c hn
    by_cases hc : c ∈ eachL a b
    · exact H c hc hn
    · rw [eachL_mem, not_or] at hc
      rw [lAt_not hc.1, lAt_not hc.2]
      exact Int.le_refl _
  · exact fun H c _ hn => H c hn

/-- Each category at a level made of two, but not the plain one. -/
def bothFrom (f : Int → Int → Int) (a b : List Lev) : List Int → List Lev
  | [] => []
  | c :: l => if f (lAt a c) (lAt b c) = 1 then bothFrom f a b l else ⟨c, f (lAt a c) (lAt b c)⟩ :: bothFrom f a b l

def bothL (f : Int → Int → Int) (a b : List Lev) : List Lev := bothFrom f a b (eachL a b)

/-! ### Good labels -/

def lvOk (x : Lev) : Bool := decide (0 ≤ x.c ∧ x.c < 80 ∧ 0 ≤ x.l ∧ x.l ≤ 3 ∧ x.l ≠ 1)

def risesL : Int → List Lev → Bool
  | _, [] => true
  | p, x :: l => if p < x.c ∧ lvOk x = true then risesL x.c l else false

/-- The category ahead of the k-th level. -/
def prevC (l : List Lev) (k : Nat) : Int := if h : 0 < k ∧ k ≤ l.length then (l[k - 1]'(by omega)).c else -1

theorem prevC_zero (l : List Lev) : prevC l 0 = -1 := by simp [prevC]
theorem prevC_succ (l : List Lev) (k : Nat) (h : k < l.length) : prevC l (k + 1) = l[k].c := by
  unfold prevC
  rw [dif_pos ⟨by omega, by omega⟩]
  simp

theorem risesL_step (l : List Lev) (k : Nat) (h : k < l.length) : risesL (prevC l k) (l.drop k) = (if prevC l k < l[k].c ∧ lvOk l[k] = true then risesL (prevC l (k + 1)) (l.drop (k + 1)) else false) := by
  rw [List.drop_eq_getElem_cons h, risesL, prevC_succ l k h]

def goodL (l : List Lev) : Bool := if l.length ≤ 8 then risesL (-1) l else false

end Go.Proofs.Ytemjnojfhbbapaa

/- Plain words for what a frame may be. No program, no memory. -/
namespace Go.Proofs.Ytemjnojfhbbapaa

def four (h : Int) : Bool := decide (0 ≤ h ∧ h < 4)
def catOk (c : Int) : Bool := decide (0 ≤ c ∧ c < 80)

theorem four_iff (h : Int) : four h = true ↔ 0 ≤ h ∧ h < 4 := by simp [four]
theorem catOk_iff (h : Int) : catOk h = true ↔ 0 ≤ h ∧ h < 80 := by simp [catOk]

def goodCertB (c : Cert) : Bool := catOk c.c && four c.by_ && four c.host && (c.by_ != c.host) && decide (0 ≤ c.till) && decide (c.till ≤ 1099511627776)

/-- Do categories rise, each once, from p on? -/
def risesI : Int → List Int → Bool
  | _, [] => true
  | p, x :: l => if p < x ∧ catOk x = true then risesI x l else false

def prevI (l : List Int) (k : Nat) : Int := if h : 0 < k ∧ k ≤ l.length then l[k - 1]'(by omega) else -1
theorem prevI_zero (l : List Int) : prevI l 0 = -1 := by simp [prevI]
theorem prevI_succ (l : List Int) (k : Nat) (h : k < l.length) : prevI l (k + 1) = l[k] := by
  unfold prevI
  rw [dif_pos ⟨by omega, by omega⟩]
  simp
theorem prevI_pos (l : List Int) (k : Nat) (h : k < l.length) (h0 : 0 < k) : prevI l k = l[k - 1]'(by omega) := by
  unfold prevI
  rw [dif_pos ⟨h0, by omega⟩]
theorem risesI_step (l : List Int) (k : Nat) (h : k < l.length) : risesI (prevI l k) (l.drop k) = (if prevI l k < l[k] ∧ catOk l[k] = true then risesI (prevI l (k + 1)) (l.drop (k + 1)) else false) := by
  rw [List.drop_eq_getElem_cons h, risesI, prevI_succ l k h]

def risingB (l : List Int) (most : Int) : Bool := risesI (-1) l && decide ((l.length : Int) ≤ most)

def goodMailC (m : Mail) : Int :=
  if (four m.host && four m.thread && goodL m.label && risingB m.grants 8) = true then (if 64 < m.text.size then 9 else 0) else 2

def frameRange (f : Frame) : Bool := four f.src && four f.dst && (f.src != f.dst) && decide (1 ≤ f.seq) && decide (f.seq ≤ 1099511627776) && four f.thread
def ackPlain (f : Frame) : Bool := (f.thread == 0) && (f.mail.host == 0) && (f.mail.thread == 0) && decide (f.mail.label.length + f.mail.grants.length + f.mail.text.size + f.certs.length = 0)

def ackC (f : Frame) : Int := if ackPlain f = true then 0 else 1
def certsC (f : Frame) : Int := if f.certs.all goodCertB = true then 0 else 2

def goodFrameC (f : Frame) : Int :=
  if frameRange f = true then
    if f.ack = true then ackC f
    else if goodMailC f.mail ≠ 0 then goodMailC f.mail
    else if f.mail.host ≠ f.src then 1
    else if 24 < f.certs.length then 5
    else certsC f
  else 2

theorem chain2 (a b : Bool) : a = false ∨ (a = true ∧ b = false) ∨ (a = true ∧ b = true) := by cases a <;> cases b <;> simp
theorem chain4 (a b c d : Bool) : a = false ∨ (a = true ∧ b = false) ∨ (a = true ∧ b = true ∧ c = false) ∨ (a = true ∧ b = true ∧ c = true ∧ d = false) ∨ (a = true ∧ b = true ∧ c = true ∧ d = true) := by
  cases a <;> cases b <;> cases c <;> cases d <;> simp
theorem chain6 (a b c d e f : Bool) : a = false ∨ (a = true ∧ b = false) ∨ (a = true ∧ b = true ∧ c = false) ∨ (a = true ∧ b = true ∧ c = true ∧ d = false) ∨ (a = true ∧ b = true ∧ c = true ∧ d = true ∧ e = false) ∨ (a = true ∧ b = true ∧ c = true ∧ d = true ∧ e = true ∧ f = false) ∨ (a = true ∧ b = true ∧ c = true ∧ d = true ∧ e = true ∧ f = true) := by
  cases a <;> cases b <;> cases c <;> cases d <;> cases e <;> cases f <;> simp

end Go.Proofs.Ytemjnojfhbbapaa

/- A region that draws its order, whose operations each add to what is known and take nothing away: what is known of each holds behind it, in whatever order they came. No program is in sight. -/
namespace Go.Proofs.Ytemjnojfhbbapaa
open Go.RowKit

/-- Slots set, one by one. -/
def putAll (x : Nat → Value) : List (Nat × Option Tmp) → Act → Act
  | [], a => a
  | (i, t) :: l, a => putAll x l (a.put t (x i))

def upd (x : Nat → Value) (i : Nat) (v : Value) : Nat → Value := fun j => if j = i then v else x j

/-- Two slots are not one. -/
def apartD (d d' : Option Tmp) : Bool := match d, d' with | some a, some b => a != b | _, _ => true

theorem put_comm (a : Act) (d d' : Option Tmp) (u v : Value) (h : apartD d d' = true) : (a.put d u).put d' v = (a.put d' v).put d u := by
  cases d <;> cases d' <;> simp only [Act.put]
  rename_i p q
  simp [apartD] at h
  rw [Array.setIfInBounds_comm _ _ h]

theorem put_put (a : Act) (d : Option Tmp) (u v : Value) : (a.put d u).put d v = a.put d v := by
  cases d <;> simp [Act.put]

theorem putAll_comm {x : Nat → Value} {t : Option Tmp} {v : Value} : ∀ {l : List (Nat × Option Tmp)} {a : Act}, (∀ j ∈ l, apartD j.2 t = true) → (putAll x l a).put t v = putAll x l (a.put t v) := by
  intro l
  induction l with
  | nil => intro a _; rfl
  | cons j l ih =>
    intro a h
    simp only [putAll]
    rw [ih fun k hk => h k (by simp [hk]), put_comm _ _ _ _ _ (h j (by simp))]

theorem putAll_congr {x y : Nat → Value} : ∀ {l : List (Nat × Option Tmp)} {a : Act}, (∀ j ∈ l, x j.1 = y j.1) → putAll x l a = putAll y l a := by
  intro l
  induction l with
  | nil => intro a _; rfl
  | cons j l ih =>
    intro a h
    simp only [putAll]
    rw [h j (by simp), ih fun k hk => h k (by simp [hk])]

theorem apart_symm {d d' : Option Tmp} (h : apartD d d' = true) : apartD d' d = true := by
  cases d <;> cases d' <;> simp only [apartD, bne_iff_ne] at *
  exact fun e => h e.symm

theorem put_putAll {x : Nat → Value} {i : Nat} {t : Option Tmp} {v : Value} : ∀ {l : List (Nat × Option Tmp)} {a : Act}, (i, t) ∈ l → l.Pairwise (fun j k => j.1 ≠ k.1 ∧ apartD j.2 k.2 = true) →
    (putAll x l a).put t v = putAll (upd x i v) l a := by
  intro l
  induction l with
  | nil => intro a h; simp at h
  | cons j l ih =>
    intro a hi hp
    obtain ⟨h1, h2⟩ := List.pairwise_cons.1 hp
    simp only [putAll]
    rcases List.mem_cons.1 hi with rfl | hi
    · rw [putAll_comm fun k hk => apart_symm (h1 k hk).2, put_put, show upd x i v i = v by simp [upd]]
      exact putAll_congr fun k hk => by simp [upd, Ne.symm (h1 k hk).1]
    · rw [ih hi h2, show upd x i v j.1 = x j.1 by simp [upd, (h1 _ hi).1]]

/-- Marks of those that were carried out. -/
def marked (n : Nat) (L : List Nat) : Array Bool := (Array.range n).map fun i => L.contains i

theorem marked_nil (n : Nat) : Array.replicate n false = marked n [] := by
  apply Array.ext <;> simp [marked]

theorem marked_set (n : Nat) (L : List Nat) (i : Nat) : (marked n L).setIfInBounds i true = marked n (i :: L) := by
  apply Array.ext
  · simp [marked]
  · intro j h1 h2
    have hj : j < (marked n L).size := by simpa using h1
    rw [Array.getElem_setIfInBounds hj]
    simp only [marked, Array.getElem_map, Array.getElem_range, List.contains_cons]
    by_cases e : i = j
    · subst e; simp
    · simp [e, Ne.symm e]

theorem marked_get {n : Nat} {L : List Nat} {i : Nat} {b : Bool} (h : i < n) : (marked n L).getD i b = L.contains i := by
  simp [marked, Array.getD, h]

theorem marked_congr {n : Nat} {L M : List Nat} (h : ∀ i, i ∈ L ↔ i ∈ M) : marked n L = marked n M := by
  apply Array.ext
  · simp [marked]
  · intro j h1 h2
    simp [marked, h]

theorem nodup_le : ∀ {l S : List Nat}, l.Nodup → (∀ j ∈ l, j ∈ S) → l.length ≤ S.length := by
  intro l
  induction l with
  | nil => intro S _ _; simp
  | cons i l ih =>
    intro S hn hs
    obtain ⟨h1, h2⟩ := List.nodup_cons.1 hn
    have := ih (S := S.erase i) h2 fun j hj => (List.mem_erase_of_ne (by rintro rfl; exact h1 hj)).2 (hs j (by simp [hj]))
    rw [List.length_erase_of_mem (hs i (by simp))] at this
    have h3 : 0 < S.length := List.length_pos_of_mem (hs i (by simp))
    simp; omega

/-- Those that must come ahead of the i-th. -/
def predsOf (ops : Array Oper) (i : Nat) : List Nat := ((ops[i]?).map fun o => (o.after.toList.filter fun e => Region.binds .any e).map (·.on)).getD []

/-- .. and those that must come ahead of these, and so on. -/
def anc (ops : Array Oper) : Nat → Nat → List Nat
  | 0, _ => []
  | k + 1, i => predsOf ops i ++ (predsOf ops i).flatMap (anc ops k)

theorem anc_sub {ops : Array Oper} {L : List Nat} (hL : ∀ i ∈ L, ∀ j ∈ predsOf ops i, j ∈ L) : ∀ (k i : Nat), (∀ j ∈ predsOf ops i, j ∈ L) → ∀ j ∈ anc ops k i, j ∈ L := by
  intro k
  induction k with
  | zero => intro i _ j hj; simp [anc] at hj
  | succ k ih =>
    intro i hi j hj
    simp only [anc, List.mem_append, List.mem_flatMap] at hj
    rcases hj with hj | ⟨m, hm, hj⟩
    · exact hi j hj
    · exact ih m (hL m (hi m hm)) j hj

/-- May the operations S be carried out ahead of all others, in whatever order their edges allow? -/
def aheadOk (ops : Array Oper) (D : List (Nat × Option Tmp)) : Bool :=
  let S := D.map (·.1)
  (S.all fun i => decide (i < ops.size) && ((ops[i]?).map fun o => o.after.all fun e => !Region.binds .any e || (S.contains e.on && decide (e.on < i))).getD false) &&
  ((List.range ops.size).all fun i => S.contains i || ((ops[i]?).map fun o => (o.after.any fun e => Region.binds .any e && !S.contains e.on) || S.all fun j => (anc ops ops.size i).contains j).getD false) &&
  decide (D.Pairwise fun j k => j.1 ≠ k.1 ∧ apartD j.2 k.2 = true)

section
variable {P : Program} {ops : Array Oper} {Q : Exit → Act → World → Prop}

theorem wpAny_ahead (D : List (Nat × Option Tmp)) (S : List Nat) (hS : D.map (·.1) = S) (hok : aheadOk ops D = true) (Rel : World → World → Prop) (G : Nat → Value → World → Prop) (Inv : World → Prop) (a0 : Act) (r : Nat)
    (mono : ∀ i v w w', i ∈ S → Rel w w' → Inv w → Inv w' → G i v w → G i v w')
    (step : ∀ i t, (i, t) ∈ D → ∀ (x : Nat → Value) (w : World), Inv w → (∀ j ∈ predsOf ops i, G j (x j) w) → ∀ K : Act → World → Prop,
      (∀ v w', Rel w w' → Inv w' → G i v w' → K ((putAll x D a0).put t v) w') → wpOp P ops Q i K (putAll x D a0) w)
    (fin : ∀ (x : Nat → Value) (w : World), Inv w → (∀ i ∈ S, G i (x i) w) → wpAny P .any ops Q r (marked ops.size S) (putAll x D a0) w) :
    ∀ (k : Nat) (L : List Nat) (x : Nat → Value) (w : World), L.Nodup → (∀ i ∈ L, i ∈ S) → (∀ i ∈ L, ∀ j ∈ predsOf ops i, j ∈ L) → L.length + k = S.length → Inv w → (∀ i ∈ L, G i (x i) w) →
      wpAny P .any ops Q (k + r) (marked ops.size L) (putAll x D a0) w := by
  subst hS
  simp only [aheadOk, Bool.and_eq_true, List.all_eq_true, decide_eq_true_eq, List.mem_range] at hok
  obtain ⟨⟨hc1, hc2⟩, hc4⟩ := hok
  have hSn : (D.map (·.1)).Nodup := List.pairwise_map.2 (hc4.imp fun h => h.1)
  intro k
  induction k with
  | zero =>
    intro L x w hL hsub hcl hlen hI hG
    have hall : ∀ i, i ∈ L ↔ i ∈ D.map (·.1) := fun i => ⟨hsub i, fun hi => Classical.byContradiction fun hn => by
      have h1 := nodup_le (List.nodup_cons.2 ⟨hn, hL⟩) fun j hj => by
        rcases List.mem_cons.1 hj with rfl | hj
        · exact hi
        · exact hsub j hj
      simp only [List.length_cons] at h1; omega⟩
    rw [Nat.zero_add, marked_congr hall]
    exact fin x w hI fun i hi => hG i ((hall i).2 hi)
  | succ k ih =>
    intro L x w hL hsub hcl hlen hI hG
    have hmem : ∀ i, i ∈ Region.ready .any ops (marked ops.size L) ↔ i < ops.size ∧ i ∉ L ∧ ∃ o, ops[i]? = some o ∧ ∀ e ∈ o.after, Region.binds .any e = true → e.on ∈ L ∧ e.on < ops.size := by
      intro i
      simp only [Region.ready, List.mem_filter, List.mem_range, Bool.and_eq_true, Bool.not_eq_true']
      constructor
      · rintro ⟨h1, h2, h3⟩
        rw [marked_get h1] at h2
        refine ⟨h1, by simpa using h2, ops[i], by simp [h1], fun e he hb => ?_⟩
        simp only [h1, getElem?_pos, Option.map_some, Option.getD_some, Array.all_eq_true_iff_forall_mem] at h3
        have := h3 e he
        rw [hb] at this
        simp only [Bool.not_true, Bool.false_or] at this
        by_cases hlt : e.on < ops.size
        · rw [marked_get hlt] at this
          exact ⟨by simpa using this, hlt⟩
        · have : (marked ops.size L).getD e.on false = false := by simp [marked, Array.getD, hlt]
          simp_all
      · rintro ⟨h1, h2, o, ho, h3⟩
        refine ⟨h1, by rw [marked_get h1]; simpa using h2, ?_⟩
        simp only [ho, Option.map_some, Option.getD_some, Array.all_eq_true_iff_forall_mem]
        intro e he
        cases hb : Region.binds .any e
        · simp
        · obtain ⟨h4, h5⟩ := h3 e he hb
          rw [marked_get h5]
          simpa using h4
    rw [show k + 1 + r = (k + r) + 1 by omega]
    refine ⟨fun hnil => ?_, fun i hi => ?_⟩
    · exfalso
      -- the least of S that is not carried out yet is ready
      have hex : ∃ i, i ∈ D.map (·.1) ∧ i ∉ L := Classical.byContradiction fun hn => by
        have h1 := nodup_le hSn (S := L) fun j hj => Classical.byContradiction fun hj' => hn ⟨j, hj, hj'⟩
        omega
      obtain ⟨i, ⟨hiS, hiL⟩, hmin⟩ : ∃ i, (i ∈ D.map (·.1) ∧ i ∉ L) ∧ ∀ j, j < i → ¬ (j ∈ D.map (·.1) ∧ j ∉ L) := by
        obtain ⟨i0, h0⟩ := hex
        induction i0 using Nat.strongRecOn with
        | _ i0 ih0 =>
          by_cases h : ∃ j, j < i0 ∧ j ∈ D.map (·.1) ∧ j ∉ L
          · obtain ⟨j, hj, hjS⟩ := h
            exact ih0 j hj hjS
          · exact ⟨i0, h0, fun j hj hjS => h ⟨j, hj, hjS⟩⟩
      obtain ⟨h1, h2⟩ := hc1 i hiS
      have : i ∈ Region.ready .any ops (marked ops.size L) := by
        rw [hmem]
        refine ⟨h1, hiL, ops[i], by simp [h1], fun e he hb => ?_⟩
        simp only [h1, getElem?_pos, Option.map_some, Option.getD_some, Array.all_eq_true_iff_forall_mem] at h2
        have h3 := h2 e he
        rw [hb] at h3
        simp only [Bool.not_true, Bool.false_or, Bool.and_eq_true, decide_eq_true_eq, List.contains_iff_mem] at h3
        exact ⟨Classical.byContradiction fun hn => hmin e.on h3.2 ⟨h3.1, hn⟩, (hc1 e.on h3.1).1⟩
      rw [hnil] at this
      simp at this
    · obtain ⟨h1, hiL, o, ho, hp⟩ := (hmem i).1 hi
      have hiS : i ∈ D.map (·.1) := by
        have h2 := hc2 i h1
        simp only [ho, Option.map_some, Option.getD_some, Bool.or_eq_true, List.contains_iff_mem, Array.any_eq_true', List.all_eq_true, Bool.and_eq_true, Bool.not_eq_true', beq_iff_eq] at h2
        rcases h2 with h2 | ⟨e, he, hb, hn⟩ | h2
        · exact h2
        · exfalso
          have := hsub _ (hp e he hb).1
          rw [← List.contains_iff_mem, hn] at this
          simp at this
        · exfalso
          have h4 : ∀ j ∈ predsOf ops i, j ∈ L := fun j hj => by
            simp only [predsOf, ho, Option.map_some, Option.getD_some, List.mem_map, List.mem_filter, Array.mem_toList_iff] at hj
            obtain ⟨e, ⟨he, hb⟩, rfl⟩ := hj
            exact (hp e he hb).1
          have h3 := nodup_le hSn (S := L) fun j hj => anc_sub hcl _ i h4 j (h2 j hj)
          omega
      have hpreL : ∀ j ∈ predsOf ops i, j ∈ L := fun j hj => by
        simp only [predsOf, ho, Option.map_some, Option.getD_some, List.mem_map, List.mem_filter, Array.mem_toList_iff] at hj
        obtain ⟨e, ⟨he, hb⟩, rfl⟩ := hj
        exact (hp e he hb).1
      have hpre : ∀ j ∈ predsOf ops i, G j (x j) w := fun j hj => by
        simp only [predsOf, ho, Option.map_some, Option.getD_some, List.mem_map, List.mem_filter, Array.mem_toList_iff] at hj
        obtain ⟨e, ⟨he, hb⟩, rfl⟩ := hj
        exact hG _ (hp e he hb).1
      obtain ⟨⟨i', t⟩, hit, hii⟩ := List.mem_map.1 hiS
      have hii' : i = i' := hii.symm
      subst hii'
      refine step i t hit x w hI hpre _ fun v w' hbw hI' hGv => ?_
      rw [put_putAll hit hc4, marked_set]
      refine ih (i :: L) (upd x i v) w' (List.nodup_cons.2 ⟨hiL, hL⟩) (fun j hj => ?_) (fun j hj m hm => ?_) (by simp only [List.length_cons]; omega) hI' fun j hj => ?_
      · rcases List.mem_cons.1 hj with rfl | hj
        · exact hiS
        · exact hsub j hj
      · rcases List.mem_cons.1 hj with rfl | hjL
        · exact List.mem_cons_of_mem _ (hpreL m hm)
        · exact List.mem_cons_of_mem _ (hcl j hjL m hm)
      · rcases List.mem_cons.1 hj with rfl | hjL
        · simpa [upd] using hGv
        · have hne : j ≠ i := by rintro rfl; exact hiL hjL
          rw [show upd x i v j = x j by simp [upd, hne]]
          exact mono j _ w w' (hsub j hjL) hbw hI hI' (hG j hjL)

theorem put_same (a : Act) (d : Option Tmp) : a.put d ((d.map fun t => a.tmps.getD t undef).getD undef) = a := by
  cases d with
  | none => rfl
  | some t =>
    simp only [Act.put, Option.map_some, Option.getD_some]
    have : a.tmps.setIfInBounds t (a.tmps.getD t undef) = a.tmps := by
      apply Array.ext
      · simp
      · intro i h1 h2
        rw [Array.getElem_setIfInBounds h2]
        by_cases e : t = i
        · subst e; simp [Array.getD, h2]
        · simp [e]
    rw [this]

def lookD (D : List (Nat × Option Tmp)) (a : Act) (i : Nat) : Value := match D.find? (fun p => p.1 == i) with | some p => (p.2.map fun t => a.tmps.getD t undef).getD undef | none => undef

theorem putAll_same (a : Act) {x : Nat → Value} : ∀ {l : List (Nat × Option Tmp)}, (∀ p ∈ l, x p.1 = (p.2.map fun t => a.tmps.getD t undef).getD undef) → putAll x l a = a := by
  intro l
  induction l with
  | nil => intro _; rfl
  | cons p l ih =>
    intro h
    obtain ⟨i, t⟩ := p
    have e := put_same a t
    simp only [putAll]
    rw [h (i, t) (by simp)]
    simp only
    rw [e]
    exact ih fun q hq => h q (by simp [hq])

theorem lookD_at {D : List (Nat × Option Tmp)} {a : Act} (hp : D.Pairwise (fun j k => j.1 ≠ k.1 ∧ apartD j.2 k.2 = true)) : ∀ p ∈ D, lookD D a p.1 = (p.2.map fun t => a.tmps.getD t undef).getD undef := by
  intro p hpD
  have h : D.find? (fun q => q.1 == p.1) = some p := by
    induction D with
    | nil => simp at hpD
    | cons q D ih =>
      obtain ⟨h1, h2⟩ := List.pairwise_cons.1 hp
      rcases List.mem_cons.1 hpD with rfl | hq
      · simp
      · rw [List.find?_cons_of_neg (by simpa using (h1 p hq).1)]
        exact ih h2 hq
  unfold lookD
  rw [h]

/-- THE LAW, at a region: the operations S come first, in whatever order; of each there is known G, in whatever order; the others follow. -/
theorem wp_region_ahead {id : Nat} {a0 : Act} {w : World} (hm : P.follows .mixedOrders = true) (D : List (Nat × Option Tmp)) (S : List Nat) (hS : D.map (·.1) = S) (r : Nat) (hok : aheadOk ops D = true) (hr : S.length + r = ops.size) (Rel : World → World → Prop) (G : Nat → Value → World → Prop) (Inv : World → Prop) (hI : Inv w.drew)
    (mono : ∀ i v w w', i ∈ S → Rel w w' → Inv w → Inv w' → G i v w → G i v w')
    (step : ∀ i t, (i, t) ∈ D → ∀ (x : Nat → Value) (w : World), Inv w → (∀ j ∈ predsOf ops i, G j (x j) w) → ∀ K : Act → World → Prop,
      (∀ v w', Rel w w' → Inv w' → G i v w' → K ((putAll x D a0).put t v) w') → wpOp P ops Q i K (putAll x D a0) w)
    (fin : ∀ (x : Nat → Value) (w : World), Inv w → (∀ i ∈ S, G i (x i) w) → wpAny P .any ops Q r (marked ops.size S) (putAll x D a0) w) : (Code.region id ops true).wp P Q a0 w := by
  refine wp_region_any hm ?_
  rw [marked_nil]
  have h := wpAny_ahead (P := P) (Q := Q) D S hS hok Rel G Inv a0 r mono step fin S.length [] (lookD D a0) w.drew List.nodup_nil (by simp) (by simp) (by simp) hI (by simp)
  rw [putAll_same a0 (lookD_at (by simp only [aheadOk, Bool.and_eq_true, decide_eq_true_eq] at hok; exact hok.2)), hr] at h
  exact h

theorem wpOp_plain {i : Nat} {o : Oper} {K : Act → World → Prop} {a : Act} {w : World} (ho : ops[i]? = some o) (hg : Region.wanted o (yielded ops a.tmps) = true) (h : o.wp P a w K Q) : wpOp P ops Q i K a w := by
  simp only [wpOp, ho, hg, if_true]
  exact .inl h

theorem wpOp_at {l : List Oper} {i : Nat} {o : Oper} {K : Act → World → Prop} {a : Act} {w : World} (ho : l[i]? = some o) (hg : o.guard = none) (h : o.wp P a w K Q) : wpOp P l.toArray Q i K a w :=
  wpOp_plain (by simpa using ho) (wanted_none hg) h

/-- An operation that just yields. -/
theorem wp_value {o : Oper} {K : Act → World → Prop} {a : Act} {w w' : World} {v : Value} (h : (execOp a.eval o).run P w = .ok (.value v) w') (hK : K (a.put o.dst v) w') : o.wp P a w K Q := by
  unfold Oper.wp
  rw [h]
  exact hK

/-- Behind those: the one that is next. -/
theorem wpAny_next {i r : Nat} {o : Oper} {listed : Array Bool} {a : Act} {w : World} (hr : Region.ready .any ops listed = [i]) (ho : ops[i]? = some o) (hg : Region.wanted o (yielded ops a.tmps) = true)
    (h : ∀ K : Act → World → Prop, (∀ a w, wpAny P .any ops Q r (listed.setIfInBounds i true) a w → K a w) → o.wp P a w K Q) : wpAny P .any ops Q (r + 1) listed a w :=
  wpAny_all hr (by simp) fun j hj => by
    simp only [List.mem_singleton] at hj
    subst hj
    exact wpOp_plain ho hg (h _ fun _ _ h => h)

theorem wpAny_at {l : List Oper} {i r : Nat} {o : Oper} {listed : Array Bool} {a : Act} {w : World} (ho : l[i]? = some o) (hg : o.guard = none) (hr : Region.ready .any l.toArray listed = [i])
    (h : ∀ K : Act → World → Prop, (∀ a w, wpAny P .any l.toArray Q r (listed.setIfInBounds i true) a w → K a w) → o.wp P a w K Q) : wpAny P .any l.toArray Q (r + 1) listed a w :=
  wpAny_next hr (by simpa using ho) (wanted_none hg) h

end
end Go.Proofs.Ytemjnojfhbbapaa

/- The law on a region that draws its order, where what is known depends on what has been carried out. No program is in sight. -/
namespace Go.Proofs.Ytemjnojfhbbapaa
open Go.RowKit

section
variable {P : Program} {ops : Array Oper} {Q : Exit → Act → World → Prop}

/-- As wpAny_ahead, 'Inv' told which operations are done; Rel tells which operation acts, and no operation need keep what it says itself; s is a ghost. -/
theorem wpAny_done1 (D : List (Nat × Option Tmp)) (S : List Nat) (hS : D.map (·.1) = S) (hok : aheadOk ops D = true) {σ : Type} (Rel : Nat → σ → World → σ → World → Prop) (G : Nat → Value → σ → World → Prop) (Inv : List Nat → σ → World → Prop) (a0 : Act) (r : Nat)
    (mono : ∀ i k v s w s' w', i ∈ S → k ∈ S → i ≠ k → k ∉ predsOf ops i → Rel k s w s' w' → G i v s w → G i v s' w')
    (step : ∀ i t, (i, t) ∈ D → ∀ (L : List Nat) (x : Nat → Value) (s : σ) (w : World), i ∉ L → (∀ j ∈ predsOf ops i, j ∈ L) → Inv L s w → (∀ j ∈ predsOf ops i, G j (x j) s w) → ∀ K : Act → World → Prop,
      (∀ v s' w', Rel i s w s' w' → Inv (i :: L) s' w' → G i v s' w' → K ((putAll x D a0).put t v) w') → wpOp P ops Q i K (putAll x D a0) w)
    (fin : ∀ (L : List Nat) (x : Nat → Value) (s : σ) (w : World), (∀ i ∈ S, i ∈ L) → Inv L s w → (∀ i ∈ S, G i (x i) s w) → wpAny P .any ops Q r (marked ops.size S) (putAll x D a0) w) :
    ∀ (k : Nat) (L : List Nat) (x : Nat → Value) (s : σ) (w : World), L.Nodup → (∀ i ∈ L, i ∈ S) → (∀ i ∈ L, ∀ j ∈ predsOf ops i, j ∈ L) → L.length + k = S.length → Inv L s w → (∀ i ∈ L, G i (x i) s w) →
      wpAny P .any ops Q (k + r) (marked ops.size L) (putAll x D a0) w := by
  subst hS
  simp only [aheadOk, Bool.and_eq_true, List.all_eq_true, decide_eq_true_eq, List.mem_range] at hok
  obtain ⟨⟨hc1, hc2⟩, hc4⟩ := hok
  have hSn : (D.map (·.1)).Nodup := List.pairwise_map.2 (hc4.imp fun h => h.1)
  intro k
  induction k with
  | zero =>
    intro L x s w hL hsub hcl hlen hI hG
    have hall : ∀ i, i ∈ L ↔ i ∈ D.map (·.1) := fun i => ⟨hsub i, fun hi => Classical.byContradiction fun hn => by
      have h1 := nodup_le (List.nodup_cons.2 ⟨hn, hL⟩) fun j hj => by
        rcases List.mem_cons.1 hj with rfl | hj
        · exact hi
        · exact hsub j hj
      simp only [List.length_cons] at h1; omega⟩
    rw [Nat.zero_add, marked_congr hall]
    exact fin L x s w (fun i hi => (hall i).2 hi) hI fun i hi => hG i ((hall i).2 hi)
  | succ k ih =>
    intro L x s w hL hsub hcl hlen hI hG
    have hmem : ∀ i, i ∈ Region.ready .any ops (marked ops.size L) ↔ i < ops.size ∧ i ∉ L ∧ ∃ o, ops[i]? = some o ∧ ∀ e ∈ o.after, Region.binds .any e = true → e.on ∈ L ∧ e.on < ops.size := by
      intro i
      simp only [Region.ready, List.mem_filter, List.mem_range, Bool.and_eq_true, Bool.not_eq_true']
      constructor
      · rintro ⟨h1, h2, h3⟩
        rw [marked_get h1] at h2
        refine ⟨h1, by simpa using h2, ops[i], by simp [h1], fun e he hb => ?_⟩
        simp only [h1, getElem?_pos, Option.map_some, Option.getD_some, Array.all_eq_true_iff_forall_mem] at h3
        have := h3 e he
        rw [hb] at this
        simp only [Bool.not_true, Bool.false_or] at this
        by_cases hlt : e.on < ops.size
        · rw [marked_get hlt] at this
          exact ⟨by simpa using this, hlt⟩
        · have : (marked ops.size L).getD e.on false = false := by simp [marked, Array.getD, hlt]
          simp_all
      · rintro ⟨h1, h2, o, ho, h3⟩
        refine ⟨h1, by rw [marked_get h1]; simpa using h2, ?_⟩
        simp only [ho, Option.map_some, Option.getD_some, Array.all_eq_true_iff_forall_mem]
        intro e he
        cases hb : Region.binds .any e
        · simp
        · obtain ⟨h4, h5⟩ := h3 e he hb
          rw [marked_get h5]
          simpa using h4
    rw [show k + 1 + r = (k + r) + 1 by omega]
    refine ⟨fun hnil => ?_, fun i hi => ?_⟩
    · exfalso
      -- the least of S that is not carried out yet is ready
      have hex : ∃ i, i ∈ D.map (·.1) ∧ i ∉ L := Classical.byContradiction fun hn => by
        have h1 := nodup_le hSn (S := L) fun j hj => Classical.byContradiction fun hj' => hn ⟨j, hj, hj'⟩
        omega
      obtain ⟨i, ⟨hiS, hiL⟩, hmin⟩ : ∃ i, (i ∈ D.map (·.1) ∧ i ∉ L) ∧ ∀ j, j < i → ¬ (j ∈ D.map (·.1) ∧ j ∉ L) := by
        obtain ⟨i0, h0⟩ := hex
        induction i0 using Nat.strongRecOn with
        | _ i0 ih0 =>
          by_cases h : ∃ j, j < i0 ∧ j ∈ D.map (·.1) ∧ j ∉ L
          · obtain ⟨j, hj, hjS⟩ := h
            exact ih0 j hj hjS
          · exact ⟨i0, h0, fun j hj hjS => h ⟨j, hj, hjS⟩⟩
      obtain ⟨h1, h2⟩ := hc1 i hiS
      have : i ∈ Region.ready .any ops (marked ops.size L) := by
        rw [hmem]
        refine ⟨h1, hiL, ops[i], by simp [h1], fun e he hb => ?_⟩
        simp only [h1, getElem?_pos, Option.map_some, Option.getD_some, Array.all_eq_true_iff_forall_mem] at h2
        have h3 := h2 e he
        rw [hb] at h3
        simp only [Bool.not_true, Bool.false_or, Bool.and_eq_true, decide_eq_true_eq, List.contains_iff_mem] at h3
        exact ⟨Classical.byContradiction fun hn => hmin e.on h3.2 ⟨h3.1, hn⟩, (hc1 e.on h3.1).1⟩
      rw [hnil] at this
      simp at this
    · obtain ⟨h1, hiL, o, ho, hp⟩ := (hmem i).1 hi
      have hiS : i ∈ D.map (·.1) := by
        have h2 := hc2 i h1
        simp only [ho, Option.map_some, Option.getD_some, Bool.or_eq_true, List.contains_iff_mem, Array.any_eq_true', List.all_eq_true, Bool.and_eq_true, Bool.not_eq_true', beq_iff_eq] at h2
        rcases h2 with h2 | ⟨e, he, hb, hn⟩ | h2
        · exact h2
        · exfalso
          have := hsub _ (hp e he hb).1
          rw [← List.contains_iff_mem, hn] at this
          simp at this
        · exfalso
          have h4 : ∀ j ∈ predsOf ops i, j ∈ L := fun j hj => by
            simp only [predsOf, ho, Option.map_some, Option.getD_some, List.mem_map, List.mem_filter, Array.mem_toList_iff] at hj
            obtain ⟨e, ⟨he, hb⟩, rfl⟩ := hj
            exact (hp e he hb).1
          have h3 := nodup_le hSn (S := L) fun j hj => anc_sub hcl _ i h4 j (h2 j hj)
          omega
      have hpreL : ∀ j ∈ predsOf ops i, j ∈ L := fun j hj => by
        simp only [predsOf, ho, Option.map_some, Option.getD_some, List.mem_map, List.mem_filter, Array.mem_toList_iff] at hj
        obtain ⟨e, ⟨he, hb⟩, rfl⟩ := hj
        exact (hp e he hb).1
      have hpre : ∀ j ∈ predsOf ops i, G j (x j) s w := fun j hj => by
        simp only [predsOf, ho, Option.map_some, Option.getD_some, List.mem_map, List.mem_filter, Array.mem_toList_iff] at hj
        obtain ⟨e, ⟨he, hb⟩, rfl⟩ := hj
        exact hG _ (hp e he hb).1
      obtain ⟨⟨i', t⟩, hit, hii⟩ := List.mem_map.1 hiS
      have hii' : i = i' := hii.symm
      subst hii'
      refine step i t hit L x s w hiL hpreL hI hpre _ fun v s' w' hbw hI' hGv => ?_
      rw [put_putAll hit hc4, marked_set]
      refine ih (i :: L) (upd x i v) s' w' (List.nodup_cons.2 ⟨hiL, hL⟩) (fun j hj => ?_) (fun j hj m hm => ?_) (by simp only [List.length_cons]; omega) hI' fun j hj => ?_
      · rcases List.mem_cons.1 hj with rfl | hj
        · exact hiS
        · exact hsub j hj
      · rcases List.mem_cons.1 hj with rfl | hjL
        · exact List.mem_cons_of_mem _ (hpreL m hm)
        · exact List.mem_cons_of_mem _ (hcl j hjL m hm)
      · rcases List.mem_cons.1 hj with rfl | hjL
        · simpa [upd] using hGv
        · have hne : j ≠ i := by rintro rfl; exact hiL hjL
          rw [show upd x i v j = x j by simp [upd, hne]]
          exact mono j i _ s w s' w' (hsub j hjL) hiS hne (fun hm => hiL (hcl j hjL i hm)) hbw (hG j hjL)

/-- THE LAW, at a region: the operations S come first, in whatever order; of each there is known G, in whatever order; the others follow. -/
theorem wp_region_done {id : Nat} {a0 : Act} {w : World} (hm : P.follows .mixedOrders = true) (D : List (Nat × Option Tmp)) (S : List Nat) (hS : D.map (·.1) = S) (r : Nat) (hok : aheadOk ops D = true) (hr : S.length + r = ops.size) {σ : Type} (Rel : Nat → σ → World → σ → World → Prop) (G : Nat → Value → σ → World → Prop) (Inv : List Nat → σ → World → Prop) (s0 : σ) (hI : Inv [] s0 w.drew)
    (mono : ∀ i k v s w s' w', i ∈ S → k ∈ S → i ≠ k → k ∉ predsOf ops i → Rel k s w s' w' → G i v s w → G i v s' w')
    (step : ∀ i t, (i, t) ∈ D → ∀ (L : List Nat) (x : Nat → Value) (s : σ) (w : World), i ∉ L → (∀ j ∈ predsOf ops i, j ∈ L) → Inv L s w → (∀ j ∈ predsOf ops i, G j (x j) s w) → ∀ K : Act → World → Prop,
      (∀ v s' w', Rel i s w s' w' → Inv (i :: L) s' w' → G i v s' w' → K ((putAll x D a0).put t v) w') → wpOp P ops Q i K (putAll x D a0) w)
    (fin : ∀ (L : List Nat) (x : Nat → Value) (s : σ) (w : World), (∀ i ∈ S, i ∈ L) → Inv L s w → (∀ i ∈ S, G i (x i) s w) → wpAny P .any ops Q r (marked ops.size S) (putAll x D a0) w) : (Code.region id ops true).wp P Q a0 w := by
  refine wp_region_any hm ?_
  rw [marked_nil]
  have h := wpAny_done1 (P := P) (Q := Q) D S hS hok Rel G Inv a0 r mono step fin S.length [] (lookD D a0) s0 w.drew List.nodup_nil (by simp) (by simp) (by simp) hI (by simp)
  rw [putAll_same a0 (lookD_at (by simp only [aheadOk, Bool.and_eq_true, decide_eq_true_eq] at hok; exact hok.2)), hr] at h
  exact h

end

theorem Own.apart {b b' : Nat} {e e' : TypeId} {w : World} {α β : Type} {sz sz' : Nat} {R : List Value → α → Prop} {R' : List Value → β → Prop} {a a' : Option Addr} {c c' : Nat} {xs : List α} {ys : List β} (h : Own b e w sz R a c xs) (h' : Own b' e' w sz' R' a' c' ys) (he : e ≠ e') :
    ∀ k, a.map (·.block) = some k → a'.map (·.block) ≠ some k := by
  obtain ⟨_, _, _, _, _, h5⟩ := h
  obtain ⟨_, _, _, _, _, h5'⟩ := h'
  intro k hk hk'
  rcases h5 with ⟨e1, _⟩ | ⟨g, cap, cur, e1, _, hg, _⟩
  · simp at e1; simp [e1.1] at hk
  · rcases h5' with ⟨e2, _⟩ | ⟨g', cap', cur', e2, _, hg', _⟩
    · simp at e2; simp [e2.1] at hk'
    · simp at e1 e2
      rw [e1.1] at hk
      rw [e2.1] at hk'
      simp at hk hk'
      subst hk hk'
      rw [hg] at hg'
      simp at hg'
      exact he hg'.2

/-- A row of ours stays where another one grows. -/
theorem Own.aside {b : Nat} {e : TypeId} {w w' : World} {α : Type} {sz : Nat} {R : List Value → α → Prop} {a : Option Addr} {c : Nat} {xs : List α} {row : Option Nat} (h : Own b e w sz R a c xs) (hg : w.grownBy w' row) (hne : ∀ k, a.map (·.block) = some k → row ≠ some k) : Own b e w' sz R a c xs := by
  obtain ⟨css, h1, h2, h3, h4⟩ := h
  refine ⟨css, h1, h2, h3, h4.kept hg ?_⟩
  cases a with
  | none => exact .inl rfl
  | some p => exact .inr fun e => hne p.block rfl e.symm

end Go.Proofs.Ytemjnojfhbbapaa

/- Plain laws of labels: what Join, Meet and Set make, and that good labels are told by their levels. No program, no memory. -/
namespace Go.Proofs.Ytemjnojfhbbapaa

/-- A label in its plain form: categories rise, no level is the plain one. -/
def Norm (l : List Lev) : Prop := Rising (catsOf l) ∧ ∀ x ∈ l, x.l ≠ 1

theorem lAt_mem {l : List Lev} (h : Rising (catsOf l)) {x : Lev} (hx : x ∈ l) : lAt l x.c = x.l := by
  induction l with
  | nil => simp at hx
  | cons y l ih =>
    have h' := List.pairwise_cons.1 (show (y.c :: catsOf l).Pairwise (· < ·) from h)
    rcases List.mem_cons.1 hx with rfl | hx
    · rw [lAt, if_pos rfl]
    · have := h'.1 x.c (List.mem_map.2 ⟨x, hx, rfl⟩)
      rw [lAt, if_neg (by omega)]
      exact ih h'.2 hx

theorem norm_mem {l : List Lev} (h : Norm l) (c : Int) : c ∈ catsOf l ↔ lAt l c ≠ 1 := by
  constructor
  · intro hc
    obtain ⟨x, hx, rfl⟩ := List.mem_map.1 hc
    rw [lAt_mem h.1 hx]
    exact h.2 x hx
  · intro hc
    apply Classical.byContradiction
    exact fun hn => hc (lAt_not hn)

theorem norm_map {l : List Lev} (h : Rising (catsOf l)) : (catsOf l).map (fun c => (⟨c, lAt l c⟩ : Lev)) = l := by
  unfold catsOf
  rw [List.map_map]
  have : l.map ((fun c => (⟨c, lAt l c⟩ : Lev)) ∘ fun x => x.c) = l.map id := List.map_congr_left fun x hx => by
    simp only [Function.comp, id]
    rw [lAt_mem h hx]
  rw [this, List.map_id]

theorem norm_ext {a b : List Lev} (ha : Norm a) (hb : Norm b) (h : ∀ c, lAt a c = lAt b c) : a = b := by
  have e : catsOf a = catsOf b := rising_ext ha.1 hb.1 fun z => by rw [norm_mem ha, norm_mem hb, h]
  rw [← norm_map ha.1, ← norm_map hb.1, e]
  exact List.map_congr_left fun c _ => by rw [h]

theorem bothFrom_sub (f : Int → Int → Int) (a b : List Lev) (l : List Int) : (catsOf (bothFrom f a b l)).Sublist l := by
  induction l with
  | nil => exact List.Sublist.slnil
  | cons c l ih =>
    unfold bothFrom
    split
    · exact List.Sublist.cons _ ih
    · exact List.Sublist.cons_cons c ih

theorem bothFrom_ne (f : Int → Int → Int) (a b : List Lev) (l : List Int) : ∀ x ∈ bothFrom f a b l, x.l ≠ 1 := by
  induction l with
  | nil => simp [bothFrom]
  | cons c l ih =>
    intro x hx
    unfold bothFrom at hx
    split at hx
    · exact ih x hx
    · rename_i h
      rcases List.mem_cons.1 hx with rfl | hx
      · exact h
      · exact ih x hx

theorem norm_both (f : Int → Int → Int) (a b : List Lev) : Norm (bothL f a b) :=
  ⟨List.Pairwise.sublist (bothFrom_sub f a b _) (uniq_rising _), bothFrom_ne f a b _⟩

theorem lAt_bothFrom (f : Int → Int → Int) (a b : List Lev) (l : List Int) (c : Int) : lAt (bothFrom f a b l) c = if c ∈ l then f (lAt a c) (lAt b c) else 1 := by
  induction l with
  | nil => simp [bothFrom, lAt]
  | cons d l ih =>
    unfold bothFrom
    by_cases hd : d = c
    · subst hd
      rw [if_pos (List.mem_cons_self ..)]
      split
      · rename_i h
        rw [ih, h]; split <;> rfl
      · rw [lAt, if_pos rfl]
    · have e : (c ∈ d :: l) ↔ c ∈ l := by rw [List.mem_cons]; constructor; (rintro (h | h); exact absurd h.symm hd; exact h); exact Or.inr
      simp only [e]
      split
      · exact ih
      · rw [lAt, if_neg hd]; exact ih

theorem lAt_both {f : Int → Int → Int} (h1 : f 1 1 = 1) (a b : List Lev) (c : Int) : lAt (bothL f a b) c = f (lAt a c) (lAt b c) := by
  rw [bothL, lAt_bothFrom]
  by_cases hc : c ∈ eachL a b
  · rw [if_pos hc]
  · rw [if_neg hc]
    rw [eachL_mem, not_or] at hc
    rw [lAt_not hc.1, lAt_not hc.2, h1]

theorem bothL_comm {f : Int → Int → Int} (h1 : f 1 1 = 1) (hf : ∀ x y, f x y = f y x) (a b : List Lev) : bothL f a b = bothL f b a :=
  norm_ext (norm_both ..) (norm_both ..) fun c => by rw [lAt_both h1, lAt_both h1, hf]

/-! ### Good labels -/

theorem risesL_iff (l : List Lev) (p : Int) : risesL p l = true ↔ (∀ x ∈ l, p < x.c ∧ lvOk x = true) ∧ Rising (catsOf l) := by
  induction l generalizing p with
  | nil => simp [risesL, catsOf]
  | cons x l ih =>
    unfold risesL
    have hc : Rising (catsOf (x :: l)) ↔ (∀ z ∈ catsOf l, x.c < z) ∧ Rising (catsOf l) := List.pairwise_cons
    split
    · rename_i h
      rw [ih, hc]
      constructor
      · rintro ⟨h1, h2⟩
        refine ⟨fun y hy => ?_, fun z hz => ?_, h2⟩
        · rcases List.mem_cons.1 hy with rfl | hy
          · exact h
          · exact ⟨by have := (h1 y hy).1; omega, (h1 y hy).2⟩
        · obtain ⟨y, hy, rfl⟩ := List.mem_map.1 hz
          exact (h1 y hy).1
      · rintro ⟨h1, h2, h3⟩
        exact ⟨fun y hy => ⟨h2 _ (List.mem_map.2 ⟨y, hy, rfl⟩), (h1 y (List.mem_cons_of_mem _ hy)).2⟩, h3⟩
    · rename_i h
      simp only [Bool.false_eq_true, false_iff]
      rintro ⟨h1, _⟩
      exact h (h1 x (List.mem_cons_self ..))

theorem lvOk_iff (x : Lev) : lvOk x = true ↔ 0 ≤ x.c ∧ x.c < 80 ∧ 0 ≤ x.l ∧ x.l ≤ 3 ∧ x.l ≠ 1 := by simp only [lvOk, decide_eq_true_eq]

theorem goodL_iff (l : List Lev) : goodL l = true ↔ l.length ≤ 8 ∧ (∀ x ∈ l, lvOk x = true) ∧ Rising (catsOf l) := by
  unfold goodL
  split
  · rename_i h
    rw [risesL_iff]
    constructor
    · exact fun H => ⟨h, fun x hx => (H.1 x hx).2, H.2⟩
    · exact fun H => ⟨fun x hx => ⟨by have := (lvOk_iff x).1 (H.2.1 x hx); omega, H.2.1 x hx⟩, H.2.2⟩
  · rename_i h
    simp [h]

theorem good_norm {l : List Lev} (h : goodL l = true) : Norm l := by
  obtain ⟨_, h2, h3⟩ := (goodL_iff l).1 h
  exact ⟨h3, fun x hx => by have := (lvOk_iff x).1 (h2 x hx); omega⟩

theorem good_lAt {l : List Lev} (h : goodL l = true) (c : Int) : 0 ≤ lAt l c ∧ lAt l c ≤ 3 := by
  obtain ⟨_, h2, h3⟩ := (goodL_iff l).1 h
  by_cases hc : c ∈ catsOf l
  · obtain ⟨x, hx, rfl⟩ := List.mem_map.1 hc
    rw [lAt_mem h3 hx]
    have := (lvOk_iff x).1 (h2 x hx)
    omega
  · rw [lAt_not hc]; omega

/-! ### Set -/

def setL (l : List Lev) (c n : Int) : List Lev := l.filter (fun x => decide (x.c < c)) ++ ((if n = 1 then [] else [⟨c, n⟩]) ++ l.filter (fun x => decide (c < x.c)))

/-- What Set answers: a label, an error's number. -/
def setR (l : List Lev) (c n : Int) : List Lev × Int :=
  if goodL l = true ∧ (0 ≤ c ∧ c < 80) ∧ 0 ≤ n ∧ n ≤ 3 then (if (setL l c n).length ≤ 8 then (setL l c n, 0) else ([], 5)) else ([], 2)

theorem lAt_filter (p : Int → Bool) (l : List Lev) (d : Int) : lAt (l.filter fun x => p x.c) d = if p d = true then lAt l d else 1 := by
  induction l with
  | nil => simp [lAt]
  | cons x l ih =>
    rw [List.filter_cons]
    by_cases hx : p x.c = true
    · rw [if_pos hx]
      by_cases hd : x.c = d
      · subst hd; rw [lAt, if_pos rfl, if_pos hx, lAt, if_pos rfl]
      · rw [lAt, if_neg hd, ih]; split
        · rw [lAt, if_neg hd]
        · rfl
    · rw [if_neg hx, ih]
      by_cases hd : x.c = d
      · subst hd; rw [if_neg hx, if_neg hx]
      · split
        · rw [lAt, if_neg hd]
        · rfl

theorem lAt_append (x y : List Lev) (d : Int) : lAt (x ++ y) d = if d ∈ catsOf x then lAt x d else lAt y d := by
  induction x with
  | nil => simp [catsOf]
  | cons z x ih =>
    simp only [List.cons_append, lAt, catsOf, List.map_cons, List.mem_cons]
    by_cases hd : z.c = d
    · simp [hd]
    · have : ¬ d = z.c := fun e => hd e.symm
      simp only [if_neg hd, this, false_or]
      exact ih

theorem filter_cats {p : Int → Bool} {l : List Lev} {d : Int} (h : d ∈ catsOf (l.filter fun x => p x.c)) : p d = true := by
  obtain ⟨x, hx, rfl⟩ := List.mem_map.1 h
  exact (List.mem_filter.1 hx).2

theorem lAt_set (l : List Lev) (c n d : Int) : lAt (setL l c n) d = if d = c then n else lAt l d := by
  unfold setL
  rw [lAt_append]
  have hf1 := lAt_filter (fun x => decide (x < c)) l d
  have hf2 := lAt_filter (fun x => decide (c < x)) l d
  simp only [decide_eq_true_eq] at hf1 hf2
  by_cases hm : d ∈ catsOf (l.filter fun x => decide (x.c < c))
  · have hlt := filter_cats (p := fun x => decide (x < c)) hm
    simp only [decide_eq_true_eq] at hlt
    rw [if_pos hm, if_neg (by omega), hf1, if_pos hlt]
  · rw [if_neg hm]
    by_cases hdc : d = c
    · subst hdc
      rw [if_pos rfl]
      split
      · rename_i h; subst h
        rw [List.nil_append, hf2, if_neg (by omega)]
      · simp [lAt]
    · rw [if_neg hdc]
      have e : lAt ((if n = 1 then [] else [⟨c, n⟩]) ++ l.filter fun x => decide (c < x.c)) d = lAt (l.filter fun x => decide (c < x.c)) d := by
        split
        · rfl
        · simp only [List.cons_append, List.nil_append, lAt]; rw [if_neg (fun e => hdc e.symm)]
      rw [e, hf2]
      by_cases hlt : c < d
      · rw [if_pos hlt]
      · rw [if_neg hlt]
        have h1 := lAt_not hm
        rw [hf1, if_pos (by omega)] at h1
        exact h1.symm

theorem cats_filter_sub (p : Lev → Bool) (l : List Lev) : (catsOf (l.filter p)).Sublist (catsOf l) := List.Sublist.map _ List.filter_sublist

theorem set_rising {l : List Lev} (h : Rising (catsOf l)) (c n : Int) : Rising (catsOf (setL l c n)) := by
  unfold setL
  have e : ∀ x y : List Lev, catsOf (x ++ y) = catsOf x ++ catsOf y := fun x y => List.map_append
  have h1 := List.Pairwise.sublist (cats_filter_sub (fun x => decide (x.c < c)) l) h
  have h2 := List.Pairwise.sublist (cats_filter_sub (fun x => decide (c < x.c)) l) h
  have m1 : ∀ d ∈ catsOf (l.filter fun x => decide (x.c < c)), d < c := fun d hd => by simpa using filter_cats (p := fun x => decide (x < c)) hd
  have m2 : ∀ d ∈ catsOf (l.filter fun x => decide (c < x.c)), c < d := fun d hd => by simpa using filter_cats (p := fun x => decide (c < x)) hd
  rw [e, e]
  split
  · refine List.pairwise_append.2 ⟨h1, by simpa [catsOf] using h2, fun a ha b hb => ?_⟩
    have := m1 a ha; have := m2 b (by simpa [catsOf] using hb); omega
  · refine List.pairwise_append.2 ⟨h1, ?_, fun a ha b hb => ?_⟩
    · exact List.pairwise_cons.2 ⟨fun d hd => m2 d (by simpa [catsOf] using hd), by simpa [catsOf] using h2⟩
    · have := m1 a ha
      rcases List.mem_append.1 hb with hb | hb
      · simp [catsOf] at hb; omega
      · have := m2 b hb; omega

theorem set_lv {l : List Lev} (h : ∀ x ∈ l, lvOk x = true) {c n : Int} (hc : 0 ≤ c ∧ c < 80) (hn : 0 ≤ n ∧ n ≤ 3) : ∀ x ∈ setL l c n, lvOk x = true := by
  intro x hx
  unfold setL at hx
  rcases List.mem_append.1 hx with hx | hx
  · exact h x (List.mem_filter.1 hx).1
  · rcases List.mem_append.1 hx with hx | hx
    · split at hx
      · simp at hx
      · rename_i hn1
        simp only [List.mem_singleton] at hx
        subst hx
        exact (lvOk_iff _).2 ⟨hc.1, hc.2, hn.1, hn.2, hn1⟩
    · exact h x (List.mem_filter.1 hx).1

theorem set_good {l : List Lev} (h : goodL l = true) {c n : Int} (hc : 0 ≤ c ∧ c < 80) (hn : 0 ≤ n ∧ n ≤ 3) (h8 : (setL l c n).length ≤ 8) : goodL (setL l c n) = true := by
  obtain ⟨_, h2, h3⟩ := (goodL_iff l).1 h
  exact (goodL_iff _).2 ⟨h8, set_lv h2 hc hn, set_rising h3 c n⟩

theorem lv_norm {l : List Lev} (h2 : ∀ x ∈ l, lvOk x = true) (h3 : Rising (catsOf l)) : Norm l := ⟨h3, fun x hx => by have := (lvOk_iff x).1 (h2 x hx); omega⟩

theorem set_norm {l : List Lev} (h : goodL l = true) {c n : Int} (hc : 0 ≤ c ∧ c < 80) (hn : 0 ≤ n ∧ n ≤ 3) : Norm (setL l c n) := by
  obtain ⟨_, h2, h3⟩ := (goodL_iff l).1 h
  exact lv_norm (set_lv h2 hc hn) (set_rising h3 c n)

theorem setL_back {l : List Lev} (h : goodL l = true) {c n : Int} (hc : 0 ≤ c ∧ c < 80) (hn : 0 ≤ n ∧ n ≤ 3) (h8 : (setL l c n).length ≤ 8) : setL (setL l c n) c (lAt l c) = l := by
  have hg := set_good h hc hn h8
  exact norm_ext (set_norm hg hc (good_lAt h c)) (good_norm h) fun d => by
    rw [lAt_set, lAt_set]
    split
    · rename_i e; rw [e]
    · rfl

theorem setR_cases (l : List Lev) (c n : Int) : (∃ k, setR l c n = ([], k) ∧ k ≠ 0) ∨ (setR l c n = (setL l c n, 0) ∧ goodL l = true ∧ (0 ≤ c ∧ c < 80) ∧ (0 ≤ n ∧ n ≤ 3) ∧ (setL l c n).length ≤ 8) := by
  unfold setR
  split
  · rename_i h
    split
    · rename_i h8
      exact .inr ⟨rfl, h.1, h.2.1, h.2.2, h8⟩
    · exact .inl ⟨5, rfl, by decide⟩
  · exact .inl ⟨2, rfl, by decide⟩

theorem setR_back {l : List Lev} (h : goodL l = true) {c n : Int} (hc : 0 ≤ c ∧ c < 80) (hn : 0 ≤ n ∧ n ≤ 3) (h8 : (setL l c n).length ≤ 8) : setR (setL l c n) c (lAt l c) = (l, 0) := by
  have hl := good_lAt h c
  unfold setR
  rw [if_pos ⟨set_good h hc hn h8, hc, hl.1, hl.2⟩, setL_back h hc hn h8, if_pos ((goodL_iff l).1 h).1]

theorem flows_set {l : List Lev} (c n : Int) : flowsL l (setL l c n) [] = decide (lAt l c ≤ n) := by
  rw [Bool.eq_iff_iff, flowsL_iff, decide_eq_true_eq]
  constructor
  · intro H
    have := H c (by simp)
    rwa [lAt_set, if_pos rfl] at this
  · intro H d _
    rw [lAt_set]
    split
    · rename_i e; rw [e]; exact H
    · exact Int.le_refl _

theorem flows_set_own {l : List Lev} (c n : Int) : flowsL l (setL l c n) [c] = true := by
  rw [flowsL_iff]
  intro d hd
  rw [lAt_set, if_neg (by simpa using hd)]
  exact Int.le_refl _

/-! ### The order of labels, Join and Meet in it -/

theorem flows_refl (a : List Lev) (own : List Int) : flowsL a a own = true := (flowsL_iff ..).2 fun _ _ => Int.le_refl _
theorem flows_trans {a b c : List Lev} {own : List Int} (h1 : flowsL a b own = true) (h2 : flowsL b c own = true) : flowsL a c own = true :=
  (flowsL_iff ..).2 fun d hd => Int.le_trans ((flowsL_iff ..).1 h1 d hd) ((flowsL_iff ..).1 h2 d hd)
theorem flows_own {a b : List Lev} {own : List Int} (h : flowsL a b [] = true) : flowsL a b own = true := (flowsL_iff ..).2 fun d _ => (flowsL_iff ..).1 h d (by simp)
theorem flows_anti {a b : List Lev} (ha : goodL a = true) (hb : goodL b = true) (h1 : flowsL a b [] = true) (h2 : flowsL b a [] = true) : a = b :=
  norm_ext (good_norm ha) (good_norm hb) fun c => Int.le_antisymm ((flowsL_iff ..).1 h1 c (by simp)) ((flowsL_iff ..).1 h2 c (by simp))

theorem max11 : max (1 : Int) 1 = 1 := by omega
theorem min11 : min (1 : Int) 1 = 1 := by omega

theorem flows_join_l (a b : List Lev) : flowsL a (bothL max a b) [] = true := (flowsL_iff ..).2 fun c _ => by rw [lAt_both max11]; omega
theorem flows_join_r (a b : List Lev) : flowsL b (bothL max a b) [] = true := (flowsL_iff ..).2 fun c _ => by rw [lAt_both max11]; omega
theorem flows_meet_l (a b : List Lev) : flowsL (bothL min a b) a [] = true := (flowsL_iff ..).2 fun c _ => by rw [lAt_both min11]; omega
theorem flows_meet_r (a b : List Lev) : flowsL (bothL min a b) b [] = true := (flowsL_iff ..).2 fun c _ => by rw [lAt_both min11]; omega

theorem flows_join_iff (a b c : List Lev) : flowsL (bothL max a b) c [] = (flowsL a c [] && flowsL b c []) := by
  rw [Bool.eq_iff_iff, Bool.and_eq_true, flowsL_iff, flowsL_iff, flowsL_iff]
  constructor
  · intro H
    exact ⟨fun d hd => by have := H d hd; rw [lAt_both max11] at this; omega, fun d hd => by have := H d hd; rw [lAt_both max11] at this; omega⟩
  · rintro ⟨h1, h2⟩ d hd
    have := h1 d hd; have := h2 d hd
    rw [lAt_both max11]; omega

theorem flows_meet_iff (a b c : List Lev) : flowsL c (bothL min a b) [] = (flowsL c a [] && flowsL c b []) := by
  rw [Bool.eq_iff_iff, Bool.and_eq_true, flowsL_iff, flowsL_iff, flowsL_iff]
  constructor
  · intro H
    exact ⟨fun d hd => by have := H d hd; rw [lAt_both min11] at this; omega, fun d hd => by have := H d hd; rw [lAt_both min11] at this; omega⟩
  · rintro ⟨h1, h2⟩ d hd
    have := h1 d hd; have := h2 d hd
    rw [lAt_both min11]; omega

theorem join_comm (a b : List Lev) : bothL max a b = bothL max b a := bothL_comm max11 (fun x y => by omega) a b
theorem meet_comm (a b : List Lev) : bothL min a b = bothL min b a := bothL_comm min11 (fun x y => by omega) a b
theorem join_meet {a : List Lev} (h : goodL a = true) (b : List Lev) : bothL max a (bothL min a b) = a :=
  norm_ext (norm_both ..) (good_norm h) fun c => by rw [lAt_both max11, lAt_both min11]; omega
theorem meet_join {a : List Lev} (h : goodL a = true) (b : List Lev) : bothL min a (bothL max a b) = a :=
  norm_ext (norm_both ..) (good_norm h) fun c => by rw [lAt_both min11, lAt_both max11]; omega
theorem join_self {a : List Lev} (h : goodL a = true) : bothL max a a = a :=
  norm_ext (norm_both ..) (good_norm h) fun c => by rw [lAt_both max11]; omega

end Go.Proofs.Ytemjnojfhbbapaa

/- What trust answers, in plain words; no program is in sight. -/
namespace Go.Proofs.Ytemjnojfhbbapaa
open Go.RowKit

/-- Each good and new behind those that went before. -/
def certsOk : List Cert → List Cert → Bool
  | _, [] => true
  | pre, x :: l => goodCertB x && !(inL pre x) && certsOk (pre ++ [x]) l
def goodCerts (l : List Cert) : Bool := certsOk [] l && decide (l.length ≤ 24)

theorem certsOk_at {l : List Cert} {k : Nat} (h : k < l.length) : certsOk (l.take k) (l.drop k) = (goodCertB l[k] && !(inL (l.take k) l[k]) && certsOk (l.take (k + 1)) (l.drop (k + 1))) := by
  rw [drop_at h, certsOk, List.take_succ_eq_append_getElem h]

theorem certsOk_iff (l : List Cert) : ∀ pre, certsOk pre l = true ↔ (∀ x ∈ l, goodCertB x = true) ∧ l.Nodup ∧ ∀ x ∈ l, x ∉ pre := by
  induction l with
  | nil => simp [certsOk]
  | cons x l ih =>
    intro pre
    simp only [certsOk, Bool.and_eq_true, Bool.not_eq_true', inL_not, ih, List.mem_cons, List.nodup_cons, List.mem_append, List.not_mem_nil, or_false]
    constructor
    · rintro ⟨⟨h1, h2⟩, h3, h4, h5⟩
      refine ⟨?_, ⟨fun hx => (h5 x hx) (.inr rfl), h4⟩, ?_⟩
      · rintro y (rfl | hy)
        · exact h1
        · exact h3 y hy
      · rintro y (rfl | hy)
        · exact h2
        · exact fun hp => h5 y hy (.inl hp)
    · rintro ⟨h1, ⟨h2, h3⟩, h4⟩
      refine ⟨⟨h1 x (.inl rfl), h4 x (.inl rfl)⟩, fun y hy => h1 y (.inr hy), h3, ?_⟩
      rintro y hy (hp | rfl)
      · exact h4 y (.inr hy) hp
      · exact h2 hy

theorem goodCerts_iff (l : List Cert) : goodCerts l = true ↔ (∀ x ∈ l, goodCertB x = true) ∧ l.Nodup ∧ l.length ≤ 24 := by
  unfold goodCerts
  rw [Bool.and_eq_true, certsOk_iff]
  simp [and_assoc]

/-- The list with a cert more, and the error. -/
def addC (l : List Cert) (c : Cert) : List Cert × Int :=
  if (goodCerts l && goodCertB c) = false then ([], 2) else if inL l c = true then (l, 0) else if 24 ≤ l.length then ([], 5) else (l ++ [c], 0)

/-- Who may be trusted: who made the category, and whom one of these names. -/
inductive Reach (l : List Cert) (c now : Int) : Int → Prop
  | home : Reach l c now ((c / 20))
  | step (x : Cert) : x ∈ l → x.c = c → now ≤ x.till → Reach l c now x.by_ → Reach l c now x.host

noncomputable def trustB (l : List Cert) (c now h : Int) : Bool := @decide (catOk c = true ∧ goodCerts l = true ∧ Reach l c now h) (Classical.propDecidable _)

theorem trustB_iff {l : List Cert} {c now h : Int} : trustB l c now h = true ↔ catOk c = true ∧ goodCerts l = true ∧ Reach l c now h := by
  unfold trustB
  exact @decide_eq_true_iff _ (Classical.propDecidable _)

theorem home_range {c : Int} (h : catOk c = true) : 0 ≤ c / 20 ∧ c / 20 < 4 := by
  have hc := (catOk_iff _).1 h
  omega

theorem goodCert_range {x : Cert} (h : goodCertB x = true) : (0 ≤ x.by_ ∧ x.by_ < 4) ∧ (0 ≤ x.host ∧ x.host < 4) := by
  unfold goodCertB at h
  simp only [Bool.and_eq_true, four_iff] at h
  exact ⟨h.1.1.1.1.2, h.1.1.1.2⟩

theorem reach_range {l : List Cert} {c now h : Int} (hc : catOk c = true) (hg : goodCerts l = true) (hr : Reach l c now h) : 0 ≤ h ∧ h < 4 := by
  induction hr with
  | home => exact home_range hc
  | step x hx _ _ _ _ => exact (goodCert_range (((goodCerts_iff l).1 hg).1 x hx)).2

structure Four where
  b0 : Bool
  b1 : Bool
  b2 : Bool
  b3 : Bool
  deriving DecidableEq

def Four.get (e : Four) : Nat → Bool
  | 0 => e.b0
  | 1 => e.b1
  | 2 => e.b2
  | 3 => e.b3
  | _ => false
def Four.set (e : Four) : Nat → Four
  | 0 => { e with b0 := true }
  | 1 => { e with b1 := true }
  | 2 => { e with b2 := true }
  | 3 => { e with b3 := true }
  | _ => e
def Four.no (e : Four) : Nat := (if e.b0 then 0 else 1) + (if e.b1 then 0 else 1) + (if e.b2 then 0 else 1) + (if e.b3 then 0 else 1)
def fourL (e : Four) : List Value := [.bool e.b0, .bool e.b1, .bool e.b2, .bool e.b3]

theorem fourL_get (e : Four) {k : Nat} (h : k < 4) : (fourL e)[k]? = some (.bool (e.get k)) := by
  match k, h with
  | 0, _ => rfl
  | 1, _ => rfl
  | 2, _ => rfl
  | 3, _ => rfl
theorem fourL_put (e : Four) {k : Nat} (h : k < 4) : putL (fourL e) k [.bool true] = fourL (e.set k) := by
  match k, h with
  | 0, _ => rfl
  | 1, _ => rfl
  | 2, _ => rfl
  | 3, _ => rfl
theorem Four.get_set (e : Four) {k : Nat} (h : k < 4) (j : Nat) : (e.set k).get j = if j = k then true else e.get j := by
  match k, h with
  | 0, _ => match j with | 0 => rfl | 1 => rfl | 2 => rfl | 3 => rfl | n + 4 => rfl
  | 1, _ => match j with | 0 => rfl | 1 => rfl | 2 => rfl | 3 => rfl | n + 4 => rfl
  | 2, _ => match j with | 0 => rfl | 1 => rfl | 2 => rfl | 3 => rfl | n + 4 => rfl
  | 3, _ => match j with | 0 => rfl | 1 => rfl | 2 => rfl | 3 => rfl | n + 4 => rfl
theorem Four.no_set (e : Four) {k : Nat} (h : k < 4) (hk : e.get k = false) : (e.set k).no + 1 = e.no := by
  obtain ⟨b0, b1, b2, b3⟩ := e
  match k, h with
  | 0, _ => simp [Four.get] at hk; subst hk; cases b1 <;> cases b2 <;> cases b3 <;> rfl
  | 1, _ => simp [Four.get] at hk; subst hk; cases b0 <;> cases b2 <;> cases b3 <;> rfl
  | 2, _ => simp [Four.get] at hk; subst hk; cases b0 <;> cases b1 <;> cases b3 <;> rfl
  | 3, _ => simp [Four.get] at hk; subst hk; cases b0 <;> cases b1 <;> cases b2 <;> rfl

def live (c now : Int) (x : Cert) : Prop := x.c = c ∧ now ≤ x.till

/-- How far the work has come: who is in, who waits; of h's certs those from k on are still to be looked at. -/
structure TrInv (l : List Cert) (c now : Int) (e : Four) (work : List Int) (h : Int) (k : Nat) : Prop where
  sound : ∀ n : Nat, e.get n = true → Reach l c now n
  wait : ∀ x ∈ work, Reach l c now x ∧ 0 ≤ x ∧ x < 4
  edge : ∀ (i : Nat) (hi : i < l.length), live c now l[i] → (l[i].by_ ≠ h ∨ i < k) → e.get l[i].by_.toNat = true → e.get l[i].host.toNat = true ∨ l[i].host ∈ work
  home : e.get ((c / 20)).toNat = true ∨ (c / 20) ∈ work

def four0 : Four := ⟨false, false, false, false⟩

theorem four0_get (n : Nat) : four0.get n = false := by
  match n with
  | 0 => rfl
  | 1 => rfl
  | 2 => rfl
  | 3 => rfl
  | n + 4 => rfl

theorem TrInv.start {l : List Cert} {c now : Int} (hc : catOk c = true) : TrInv l c now four0 [(c / 20)] (-1) 0 :=
  ⟨fun n hn => absurd hn (by rw [four0_get]; simp), fun x hx => (by simp at hx; subst hx; exact ⟨.home, home_range hc⟩),
   fun i hi _ _ hh => absurd hh (by rw [four0_get]; simp), .inr (by simp)⟩

theorem TrInv.pop {l : List Cert} {c now : Int} {e : Four} {work : List Int} {n : Nat} {k : Nat} (hi : TrInv l c now e ((n : Int) :: work) (-1) k) (hn : e.get n = true) : TrInv l c now e work (-1) k := by
  refine ⟨hi.sound, fun x hx => hi.wait x (by simp [hx]), fun i h1 h2 h3 h4 => ?_, ?_⟩
  · rcases hi.edge i h1 h2 h3 h4 with h | h
    · exact .inl h
    · rcases List.mem_cons.1 h with h | h
      · exact .inl (by rw [h]; simpa using hn)
      · exact .inr h
  · rcases hi.home with h | h
    · exact .inl h
    · rcases List.mem_cons.1 h with h | h
      · exact .inl (by rw [h]; simpa using hn)
      · exact .inr h

theorem TrInv.enter {l : List Cert} {c now : Int} {e : Four} {work : List Int} {n : Nat} {k : Nat} (hl : ∀ x ∈ l, 0 ≤ x.by_ ∧ 0 ≤ x.host) (hc : 0 ≤ (c / 20)) (hn : n < 4) (hi : TrInv l c now e ((n : Int) :: work) (-1) k) : TrInv l c now (e.set n) work n 0 := by
  have hg : ∀ j, e.get j = true → (e.set n).get j = true := fun j hj => by rw [Four.get_set e hn]; split <;> simp_all
  refine ⟨fun j hj => ?_, fun x hx => hi.wait x (by simp [hx]), fun i h1 h2 h3 h4 => ?_, ?_⟩
  · rw [Four.get_set e hn] at hj
    by_cases h : j = n
    · subst h; exact (hi.wait _ (by simp)).1
    · rw [if_neg h] at hj; exact hi.sound j hj
  · have hb := hl _ (List.getElem_mem h1)
    have hne : l[i].by_ ≠ (n : Int) := by rcases h3 with h | h; exact h; omega
    rw [Four.get_set e hn, if_neg (by omega)] at h4
    rcases hi.edge i h1 h2 (.inl (by omega)) h4 with h | h
    · exact .inl (hg _ h)
    · rcases List.mem_cons.1 h with h | h
      · exact .inl (by rw [h, Four.get_set e hn]; simp)
      · exact .inr h
  · rcases hi.home with h | h
    · exact .inl (hg _ h)
    · rcases List.mem_cons.1 h with h | h
      · exact .inl (by rw [h, Four.get_set e hn]; simp)
      · exact .inr h

theorem TrInv.push {l : List Cert} {c now : Int} {e : Four} {work : List Int} {n k : Nat} (hi : TrInv l c now e work n k) (hk : k < l.length) (hg : 0 ≤ l[k].host ∧ l[k].host < 4) (hn : e.get n = true) (h1 : l[k].c = c) (h2 : l[k].by_ = n) (h3 : now ≤ l[k].till) : TrInv l c now e (work ++ [l[k].host]) n (k + 1) := by
  refine ⟨hi.sound, fun x hx => ?_, fun i a1 a2 a3 a4 => ?_, ?_⟩
  · rcases List.mem_append.1 hx with hx | hx
    · exact hi.wait x hx
    · simp at hx; subst hx
      exact ⟨.step l[k] (List.getElem_mem hk) h1 h3 (by rw [h2]; exact hi.sound n hn), hg⟩
  · by_cases hik : i = k
    · subst hik; exact .inr (by simp)
    · rcases hi.edge i a1 a2 (by rcases a3 with h | h; exact .inl h; exact .inr (by omega)) a4 with h | h
      · exact .inl h
      · exact .inr (by simp [h])
  · rcases hi.home with h | h
    · exact .inl h
    · exact .inr (by simp [h])

theorem TrInv.pass {l : List Cert} {c now : Int} {e : Four} {work : List Int} {n k : Nat} (hi : TrInv l c now e work n k) (hk : k < l.length) (h : ¬ (l[k].c = c ∧ l[k].by_ = n ∧ now ≤ l[k].till)) : TrInv l c now e work n (k + 1) := by
  refine ⟨hi.sound, hi.wait, fun i a1 a2 a3 a4 => ?_, hi.home⟩
  by_cases hik : i = k
  · subst hik
    exact hi.edge i a1 a2 (.inl fun hb => h ⟨a2.1, hb, a2.2⟩) a4
  · exact hi.edge i a1 a2 (by rcases a3 with h | h; exact .inl h; exact .inr (by omega)) a4

theorem TrInv.leave {l : List Cert} {c now : Int} {e : Four} {work : List Int} {n k : Nat} (hi : TrInv l c now e work n k) (hk : ¬ k < l.length) : TrInv l c now e work (-1) 0 :=
  ⟨hi.sound, hi.wait, fun i a1 a2 _ a4 => hi.edge i a1 a2 (.inr (by omega)) a4, hi.home⟩

theorem TrInv.done {l : List Cert} {c now : Int} {e : Four} {k : Nat} (hc : catOk c = true) (hg : goodCerts l = true) (hi : TrInv l c now e [] (-1) k) (n : Nat) : e.get n = trustB l c now n := by
  have hgl := ((goodCerts_iff l).1 hg).1
  have key : ∀ h : Int, Reach l c now h → e.get h.toNat = true := by
    intro h hr
    induction hr with
    | home => exact hi.home.resolve_right (by simp)
    | step x hx h1 h2 _ ih =>
      obtain ⟨i, hlt, rfl⟩ := List.mem_iff_getElem.1 hx
      exact (hi.edge i hlt ⟨h1, h2⟩ (.inl (by have := (goodCert_range (hgl _ hx)).1; omega)) ih).resolve_right (by simp)
  cases hb : trustB l c now n
  · cases he : e.get n
    · rfl
    · exact absurd (trustB_iff.2 ⟨hc, hg, hi.sound n he⟩) (by rw [hb]; simp)
  · have := key n (trustB_iff.1 hb).2.2
    simpa using this

noncomputable def trustF (l : List Cert) (c now : Int) : Four := ⟨trustB l c now 0, trustB l c now 1, trustB l c now 2, trustB l c now 3⟩

theorem trustF_get (l : List Cert) (c now : Int) {k : Nat} (h : k < 4) : (trustF l c now).get k = trustB l c now k := by
  match k, h with
  | 0, _ => rfl
  | 1, _ => rfl
  | 2, _ => rfl
  | 3, _ => rfl

theorem Reach.more {l l' : List Cert} {c now now' h : Int} (hl : ∀ x ∈ l, x ∈ l') (hn : now' ≤ now) (hr : Reach l c now h) : Reach l' c now' h := by
  induction hr with
  | home => exact .home
  | step x hx h1 h2 _ ih => exact .step x (hl x hx) h1 (Int.le_trans hn h2) ih

theorem Reach.less {l l' : List Cert} {c now h : Int} {y : Cert} (hl : ∀ x ∈ l', x ∈ l ∨ x = y) (hy : ¬ (y.c = c ∧ now ≤ y.till)) (hr : Reach l' c now h) : Reach l c now h := by
  induction hr with
  | home => exact .home
  | step x hx h1 h2 _ ih =>
    rcases hl x hx with hx | rfl
    · exact .step x hx h1 h2 ih
    · exact absurd ⟨h1, h2⟩ hy

theorem addC_ok {l : List Cert} {c : Cert} (h : (addC l c).2 = 0) : goodCerts l = true ∧ goodCerts (addC l c).1 = true ∧ (∀ x ∈ l, x ∈ (addC l c).1) ∧ (∀ x ∈ (addC l c).1, x ∈ l ∨ x = c) ∧ c ∈ (addC l c).1 ∧ goodCertB c = true := by
  unfold addC at h ⊢
  by_cases h1 : (goodCerts l && goodCertB c) = false
  · rw [if_pos h1] at h; cases h
  · rw [if_neg h1] at h ⊢
    simp only [Bool.not_eq_false, Bool.and_eq_true] at h1
    by_cases h2 : inL l c = true
    · rw [if_pos h2] at h ⊢
      exact ⟨h1.1, h1.1, fun _ hx => hx, fun _ hx => .inl hx, (inL_iff l c).1 h2, h1.2⟩
    · rw [if_neg h2] at h ⊢
      by_cases h3 : 24 ≤ l.length
      · rw [if_pos h3] at h; cases h
      · rw [if_neg h3] at h ⊢
        have hg := (goodCerts_iff l).1 h1.1
        have hn : c ∉ l := fun hc => h2 ((inL_iff l c).2 hc)
        refine ⟨h1.1, (goodCerts_iff _).2 ⟨?_, ?_, by simp; omega⟩, fun x hx => by simp [hx], fun x hx => by simpa using hx, by simp, h1.2⟩
        · intro x hx
          rcases List.mem_append.1 hx with hx | hx
          · exact hg.1 x hx
          · simp at hx; subst hx; exact h1.2
        · refine List.nodup_append.2 ⟨hg.2.1, by simp, ?_⟩
          intro a ha b hb
          simp at hb
          subst hb
          exact fun he => hn (he ▸ ha)

theorem addC_bad {l : List Cert} {c : Cert} (h : (addC l c).2 ≠ 0) : (addC l c).1 = [] := by
  unfold addC at h ⊢
  by_cases h1 : (goodCerts l && goodCertB c) = false
  · rw [if_pos h1]
  · rw [if_neg h1] at h ⊢
    by_cases h2 : inL l c = true
    · rw [if_pos h2] at h; simp at h
    · rw [if_neg h2] at h ⊢
      by_cases h3 : 24 ≤ l.length
      · rw [if_pos h3]
      · rw [if_neg h3] at h; simp at h

theorem addC_again {l : List Cert} {c : Cert} (hg : goodCerts l = true) (hc : c ∈ l) (hb : goodCertB c = true) : addC l c = (l, 0) := by
  unfold addC
  rw [hg, hb, if_neg (by simp), if_pos ((inL_iff l c).2 hc)]

theorem trusts_plain : trustF [⟨25, 1, 3, 9⟩] 25 9 = ⟨false, true, false, true⟩ := by
  have hc : catOk 25 = true := by decide
  have hg : goodCerts [⟨25, 1, 3, 9⟩] = true := by decide
  have key : ∀ h, Reach [⟨25, 1, 3, 9⟩] 25 9 h → h = 1 ∨ h = 3 := by
    intro h hr
    induction hr with
    | home => exact .inl rfl
    | step x hx _ _ _ _ => simp at hx; subst hx; exact .inr rfl
  have r1 : Reach [⟨25, 1, 3, 9⟩] 25 9 1 := .home
  have r3 : Reach [⟨25, 1, 3, 9⟩] 25 9 3 := .step ⟨25, 1, 3, 9⟩ (by simp) rfl (by decide) r1
  have hf : ∀ n, n ≠ 1 → n ≠ 3 → trustB [⟨25, 1, 3, 9⟩] 25 9 n = false := fun n h1 h3 => by
    cases hb : trustB [⟨25, 1, 3, 9⟩] 25 9 n
    · rfl
    · rcases key n (trustB_iff.1 hb).2.2 with h | h
      · exact absurd h h1
      · exact absurd h h3
  unfold trustF
  rw [hf 0 (by decide) (by decide), hf 2 (by decide) (by decide), trustB_iff.2 ⟨hc, hg, r1⟩, trustB_iff.2 ⟨hc, hg, r3⟩]

/-- What TrustGrows asks at each host. -/
theorem grows {l : List Cert} {x : Cert} {c now later : Int} (h : (addC l x).2 = 0) (n : Int) : (trustB l c now n = true → trustB (addC l x).1 c now n = true) ∧ (trustB l c (max now later) n = true → trustB l c now n = true) ∧
    (trustB (addC l x).1 c now n = true → trustB l c now n = false → x.c = c ∧ now ≤ x.till) := by
  obtain ⟨h1, h2, h3, h4, h5, h6⟩ := addC_ok h
  refine ⟨fun ht => ?_, fun ht => ?_, fun ht hf => ?_⟩
  · obtain ⟨a, _, b⟩ := trustB_iff.1 ht
    exact trustB_iff.2 ⟨a, h2, b.more h3 (Int.le_refl _)⟩
  · obtain ⟨a, g, b⟩ := trustB_iff.1 ht
    exact trustB_iff.2 ⟨a, g, b.more (fun _ h => h) (by omega)⟩
  · obtain ⟨a, _, b⟩ := trustB_iff.1 ht
    refine Classical.byContradiction fun hn => ?_
    have := trustB_iff.2 ⟨a, h1, b.less h4 hn⟩
    rw [hf] at this
    cases this

end Go.Proofs.Ytemjnojfhbbapaa

/- A call that turns one of the blocks at hand. No program is in sight. -/
namespace Go.Proofs.Ytemjnojfhbbapaa
open Go.RowKit

theorem St.turn {M : List Nat} {w0 w w' : World} {own : Blks} (st : St M w0 w own) {i g : Nat} {T : TypeId} {cs cs' : List Value} (hi : own[i]? = some (g, T, cs)) (h : St [g] w w' [(g, T, cs')]) : St M w0 w' (own.set i (g, T, cs')) := by
  have hin : (g, T, cs) ∈ own := List.mem_of_getElem? hi
  have hilt : i < own.length := (List.getElem?_eq_some_iff.1 hi).1
  have hget : own[i] = (g, T, cs) := (List.getElem?_eq_some_iff.1 hi).2
  have hids : (own.set i (g, T, cs')).map (·.1) = own.map (·.1) := by
    apply List.ext_getElem?
    intro j
    simp only [List.getElem?_map, List.getElem?_set]
    by_cases hj : i = j
    · subst hj; simp [hilt, hget]
    · simp [hj]
  refine ⟨h.os.trans st.os, h.tape.trans st.tape, h.output.trans st.output, Nat.le_trans st.size h.size, ?_, ?_, ?_, ?_⟩
  · intro b hb hM
    have hbg : b ≠ g := by
      rintro rfl
      rcases st.mine _ hin with hm | hm
      · exact hM hm
      · simp at hm; omega
    rw [h.frame b (Nat.lt_of_lt_of_le hb st.size) (by simpa using hbg)]
    exact st.frame b hb hM
  · intro x hx
    obtain ⟨j, hj⟩ := List.mem_iff_getElem?.1 hx
    rw [List.getElem?_set] at hj
    by_cases hij : i = j
    · subst hij; simp [hilt] at hj; subst hj; exact h.blk (g, T, cs') (by simp)
    · rw [if_neg hij] at hj
      have hxin := List.mem_of_getElem? hj
      have hne : x.1 ≠ g := by
        have hp := List.pairwise_iff_getElem.1 st.ne
        have hjl := (List.getElem?_eq_some_iff.1 hj).1
        have hjx := (List.getElem?_eq_some_iff.1 hj).2
        rcases Nat.lt_or_gt_of_ne hij with hlt | hlt
        · have := hp i j hilt hjl hlt; rw [hget, hjx] at this; exact fun e => this e.symm
        · have := hp j i hjl hilt hlt; rw [hget, hjx] at this; exact this
      rw [h.frame x.1 (st.lt hxin) (by simpa using hne)]
      exact st.blk x hxin
  · intro x hx
    have : x.1 ∈ (own.set i (g, T, cs')).map (·.1) := List.mem_map.2 ⟨x, hx, rfl⟩
    rw [hids] at this
    obtain ⟨y, hy, e⟩ := List.mem_map.1 this
    rw [← e]; exact st.mine y hy
  · have : ((own.set i (g, T, cs')).map (·.1)).Pairwise (· ≠ ·) := by rw [hids]; exact List.pairwise_map.2 st.ne
    exact List.pairwise_map.1 this

/-- A block of somebody else's, taken in hand. -/
theorem St.hand {w : World} {g : Nat} {T : TypeId} {cs : List Value} (h : w.heap[g]? = some (.cells cs.toArray T (0, 0))) : St [g] w w [(g, T, cs)] :=
  ⟨rfl, rfl, rfl, Nat.le_refl _, fun _ _ _ => rfl, by simpa using h, by simp, by simp⟩

end Go.Proofs.Ytemjnojfhbbapaa
