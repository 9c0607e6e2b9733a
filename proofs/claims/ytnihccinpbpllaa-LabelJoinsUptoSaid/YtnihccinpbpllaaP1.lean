/- Walks and plain laws that the claim rests on, part 1. -/
import Derived.WalkKit
import Derived.WalkSpells
import Derived.WalkLawsBesides
import Derived.Handy
import Derived.Lib.Hide
import Derived.Deep.RegionHeld3
import Derived.Deep.QuietTactic
import Derived.BigQuiet
import Derived.Test.YtnihccinpbpllaaProg
import Derived.Sort.Row
import Derived.Sort.Grow
import Derived.Lib.SlicesCompact
import Derived.Test.YtnihccinpbpllaaShelf
import Derived.Laws.IdiomCopy
import Derived.Laws.Rows
import Derived.Deep.AppendLies
import Derived.Deep.RegionLaw
set_option linter.unusedSimpArgs false
set_option linter.unusedVariables false
/- Small words for what lies in memory: what a slice of records reads as, and that it goes on to read so while memory only grows. No program is in sight. -/
namespace Go.Proofs.Ytnihccinpbpllaa
open Go.RowKit

/-- Of the blocks that 'ok' lets, w' holds what w held; none has gone. -/
structure Keeps (ok : Nat → Prop) (w w' : World) : Prop where
  size : w.heap.size ≤ w'.heap.size
  block : ∀ b, b < w.heap.size → ok b → w'.heap[b]? = w.heap[b]?

theorem Keeps.of_below {ok : Nat → Prop} {w w' : World} (h : Below w.heap.size w w') : Keeps ok w w' := ⟨h.size, fun b hb _ => h.block b hb⟩
theorem Keeps.refl (ok : Nat → Prop) (w : World) : Keeps ok w w := ⟨Nat.le_refl _, fun _ _ _ => rfl⟩
theorem Keeps.trans {ok : Nat → Prop} {w w1 w2 : World} (h : Keeps ok w w1) (k : Keeps ok w1 w2) : Keeps ok w w2 :=
  ⟨Nat.le_trans h.size k.size, fun b hb ho => (k.block b (Nat.lt_of_lt_of_le hb h.size) ho).trans (h.block b hb ho)⟩
theorem Keeps.cell {ok : Nat → Prop} {w w' : World} (h : Keeps ok w w') {p : Addr} (hp : p.block < w.heap.size) (ho : ok p.block) : w'.cell? p = w.cell? p :=
  World.cell?_of_block (w := w) (h.block p.block hp ho)
theorem _root_.Go.RowKit.Below.keep {w w1 w2 : World} (h : Below w.heap.size w w1) (k : Below w1.heap.size w1 w2) : Below w.heap.size w w2 := h.trans (k.mono h.size)

theorem _root_.Go.RowKit.Below.drewN {B : Nat} {a w : World} (h : Below B a w) (n : Nat) : Below B a (w.drewN n) := ⟨h.os, h.tape, h.output, h.size, h.block⟩

/-- The slice at a, of capacity c, reads as xs: element i lies at i * sz behind a, and its cells stand for x by R; its block is one that 'ok' lets. -/
def SlR (ok : Nat → Prop) (w : World) {α : Type} (sz : Nat) (R : List Value → α → Prop) (a : Option Addr) (c : Nat) (xs : List α) : Prop :=
  xs.length ≤ c ∧ c ≤ maxLen ∧ (a = none → c = 0) ∧
  ∀ i x, xs[i]? = some x → ∃ b o cs, a = some ⟨b, o, none⟩ ∧ ok b ∧ b < w.heap.size ∧ R cs x ∧ cs.length = sz ∧ (∀ v ∈ cs, v.oneCell' = true) ∧ ∀ j v, cs[j]? = some v → w.cell? ⟨b, o + i * sz + j, none⟩ = some v

theorem SlR.mono {ok : Nat → Prop} {w w' : World} {α : Type} {sz : Nat} {R R' : List Value → α → Prop} {a : Option Addr} {c : Nat} {xs : List α} (h : SlR ok w sz R a c xs) (hk : Keeps ok w w') (hR : ∀ cs x, R cs x → R' cs x) :
    SlR ok w' sz R' a c xs := by
  refine ⟨h.1, h.2.1, h.2.2.1, fun i x hx => ?_⟩
  obtain ⟨b, o, cs, ha, ho, hb, hr, hl, h1, hc⟩ := h.2.2.2 i x hx
  exact ⟨b, o, cs, ha, ho, Nat.lt_of_lt_of_le hb hk.size, hR _ _ hr, hl, h1, fun j v hv => (hk.cell (p := ⟨b, _, none⟩) hb ho).trans (hc j v hv)⟩

theorem SlR.keep {ok : Nat → Prop} {w w' : World} {α : Type} {sz : Nat} {R : List Value → α → Prop} {a : Option Addr} {c : Nat} {xs : List α} (h : SlR ok w sz R a c xs) (hk : Keeps ok w w') : SlR ok w' sz R a c xs := h.mono hk fun _ _ h => h

theorem SlR.below {ok : Nat → Prop} {w w' : World} {α : Type} {sz : Nat} {R : List Value → α → Prop} {a : Option Addr} {c : Nat} {xs : List α} (h : SlR ok w sz R a c xs) (hk : Below w.heap.size w w') : SlR ok w' sz R a c xs := h.keep (.of_below hk)

theorem SlR.nil (ok : Nat → Prop) (w : World) {α : Type} (sz : Nat) (R : List Value → α → Prop) : SlR ok w sz R none 0 ([] : List α) := ⟨Nat.le_refl _, Nat.zero_le _, fun _ => rfl, fun i x hx => by simp at hx⟩

/-- The cells of such a slice, all of them. -/
theorem SlR.all {ok : Nat → Prop} {w : World} {α : Type} {sz : Nat} {R : List Value → α → Prop} {a : Option Addr} {c : Nat} {xs : List α} (h : SlR ok w sz R a c xs) :
    ∃ css : List (List Value), css.length = xs.length ∧ (∀ cs ∈ css, cs.length = sz ∧ ∀ v ∈ cs, v.oneCell' = true) ∧ (∀ (i : Nat) (x : α) (cs : List Value), xs[i]? = some x → css[i]? = some cs → R cs x) ∧
      ∀ (i : Nat) (cs : List Value), css[i]? = some cs → ∃ b o, a = some ⟨b, o, none⟩ ∧ ok b ∧ b < w.heap.size ∧ ∀ j v, cs[j]? = some v → w.cell? ⟨b, o + i * sz + j, none⟩ = some v := by
  classical
  have hh := h.2.2.2
  clear h
  suffices H : ∀ k, k ≤ xs.length → ∃ css : List (List Value), css.length = k ∧ (∀ cs ∈ css, cs.length = sz ∧ ∀ v ∈ cs, v.oneCell' = true) ∧ (∀ (i : Nat) (x : α) (cs : List Value), xs[i]? = some x → css[i]? = some cs → R cs x) ∧
      ∀ (i : Nat) (cs : List Value), css[i]? = some cs → ∃ b o, a = some ⟨b, o, none⟩ ∧ ok b ∧ b < w.heap.size ∧ ∀ j v, cs[j]? = some v → w.cell? ⟨b, o + i * sz + j, none⟩ = some v by
    exact H xs.length (Nat.le_refl _)
  intro k
  induction k with
  | zero => exact fun _ => ⟨[], rfl, by simp, by simp, by simp⟩
  | succ k ih =>
    intro hk
    obtain ⟨css, h1, h2, h3, h4⟩ := ih (by omega)
    obtain ⟨b, o, cs, ha, ho, hb, hr, hl, hone, hc⟩ := hh k xs[k] (by simp [hk])
    refine ⟨css ++ [cs], by simp [h1], ?_, ?_, ?_⟩
    · intro x hx
      rcases List.mem_append.1 hx with hx | hx
      · exact h2 x hx
      · simp at hx; subst hx; exact ⟨hl, hone⟩
    · intro i x d hx hd
      by_cases hi : i < k
      · rw [List.getElem?_append_left (by omega)] at hd
        exact h3 i x d hx hd
      · rw [List.getElem?_append_right (by omega)] at hd
        have : i - css.length = 0 := by
          have := (List.getElem?_eq_some_iff.1 hd).1
          simp at this; omega
        rw [this] at hd
        simp at hd
        subst hd
        have hik : i = k := by omega
        subst hik
        rw [List.getElem?_eq_getElem (by omega)] at hx
        simp at hx
        subst hx
        exact hr
    · intro i d hd
      by_cases hi : i < k
      · rw [List.getElem?_append_left (by omega)] at hd
        exact h4 i d hd
      · rw [List.getElem?_append_right (by omega)] at hd
        have : i - css.length = 0 := by
          have := (List.getElem?_eq_some_iff.1 hd).1
          simp at this; omega
        rw [this] at hd
        simp at hd
        subst hd
        have hik : i = k := by omega
        subst hik
        exact ⟨b, o, ha, ho, hb, hc⟩

/-- One list of cells behind the other. -/
theorem flatten_at {css : List (List Value)} {sz : Nat} (hs : ∀ cs ∈ css, cs.length = sz) {i : Nat} {cs : List Value} (hi : css[i]? = some cs) {j : Nat} {v : Value} (hj : cs[j]? = some v) : css.flatten[i * sz + j]? = some v := by
  induction css generalizing i with
  | nil => simp at hi
  | cons c css ih =>
    have hc := hs c (by simp)
    have hcs := hs cs (List.mem_of_getElem? hi)
    have hj' : j < sz := by rw [← hcs]; exact (List.getElem?_eq_some_iff.1 hj).1
    cases i with
    | zero =>
      simp only [List.getElem?_cons_zero, Option.some.injEq] at hi
      subst hi
      simp only [List.flatten_cons, Nat.zero_mul, Nat.zero_add]
      rw [List.getElem?_append_left (by omega)]
      exact hj
    | succ i =>
      simp only [List.getElem?_cons_succ] at hi
      simp only [List.flatten_cons]
      rw [List.getElem?_append_right (by rw [hc, Nat.succ_mul]; omega), hc, show (i + 1) * sz + j - sz = i * sz + j by rw [Nat.succ_mul]; omega]
      exact ih (fun x hx => hs x (by simp [hx])) hi

theorem flatten_length {css : List (List Value)} {sz : Nat} (hs : ∀ cs ∈ css, cs.length = sz) : css.flatten.length = css.length * sz := by
  induction css with
  | nil => simp
  | cons c css ih => simp only [List.flatten_cons, List.length_append, List.length_cons, hs c (by simp), ih (fun x hx => hs x (by simp [hx])), Nat.succ_mul]; omega

/-- .. and what stands at a place of all of them. -/
theorem flatten_inv {css : List (List Value)} {sz : Nat} (hs : ∀ cs ∈ css, cs.length = sz) {n : Nat} {v : Value} (h : css.flatten[n]? = some v) : ∃ i j cs, n = i * sz + j ∧ j < sz ∧ css[i]? = some cs ∧ cs[j]? = some v := by
  induction css generalizing n with
  | nil => simp at h
  | cons c css ih =>
    have hc := hs c (by simp)
    simp only [List.flatten_cons] at h
    by_cases hn : n < c.length
    · rw [List.getElem?_append_left hn] at h
      exact ⟨0, n, c, by simp, by omega, rfl, h⟩
    · rw [List.getElem?_append_right (by omega)] at h
      obtain ⟨i, j, cs, h1, h2, h3, h4⟩ := ih (fun x hx => hs x (by simp [hx])) h
      exact ⟨i + 1, j, cs, by rw [Nat.succ_mul]; omega, h2, h3, h4⟩

/-- The slice at a, of capacity c, is the call's own (its block is one from 'base' on, and no other slice lies there), and reads as xs. -/
def Own (base : Nat) (e : TypeId) (w : World) {α : Type} (sz : Nat) (R : List Value → α → Prop) (a : Option Addr) (c : Nat) (xs : List α) : Prop :=
  ∃ css : List (List Value), css.length = xs.length ∧ (∀ cs ∈ css, cs.length = sz ∧ ∀ v ∈ cs, v.oneCell' = true) ∧ (∀ (i : Nat) (x : α) (cs : List Value), xs[i]? = some x → css[i]? = some cs → R cs x) ∧ w.ownsRow base e sz (.slice a xs.length c) xs.length css.flatten

theorem Own.nil (base : Nat) (e : TypeId) (w : World) {α : Type} (sz : Nat) (R : List Value → α → Prop) : Own base e w sz R none 0 ([] : List α) := ⟨[], rfl, by simp, by simp, World.ownsRow_nil _ _ _ _⟩

/-- What is the call's own can be read. -/
theorem Own.slr {base : Nat} {e : TypeId} {w : World} {α : Type} {sz : Nat} {R : List Value → α → Prop} {a : Option Addr} {c : Nat} {xs : List α} (h : Own base e w sz R a c xs) {ok : Nat → Prop} (hok : ∀ b, base ≤ b → ok b) : SlR ok w sz R a c xs := by
  obtain ⟨css, h1, h2, h3, h4⟩ := h
  have h4' := h4
  rcases h4.2 with ⟨hv, hn⟩ | ⟨g, cap, cur, hv, hg, hh, hnc, hm, hs, ht⟩
  · simp only [Value.slice.injEq] at hv
    obtain ⟨rfl, _, rfl⟩ := hv
    have : xs = [] := List.eq_nil_of_length_eq_zero hn
    subst this
    exact SlR.nil _ _ _ _
  · simp only [Value.slice.injEq] at hv
    obtain ⟨rfl, _, rfl⟩ := hv
    refine ⟨hnc, hm, by simp, fun i x hx => ?_⟩
    have hi : i < css.length := by rw [h1]; exact (List.getElem?_eq_some_iff.1 hx).1
    have hcs := h2 css[i] (by simp)
    have hb : g < w.heap.size := (Array.getElem?_eq_some_iff.1 hh).1
    refine ⟨g, 0, css[i], rfl, hok _ hg, hb, h3 i x _ hx (by simp [hi]), hcs.1, hcs.2, fun j v hv => ?_⟩
    have := flatten_at (fun cs h => (h2 cs h).1) (i := i) (cs := css[i]) (by simp [hi]) hv
    have hj : i * sz + j < xs.length * sz := by
      have := (List.getElem?_eq_some_iff.1 this).1
      rw [flatten_length fun cs h => (h2 cs h).1, h1] at this
      exact this
    rw [show 0 + i * sz + j = i * sz + j by omega, h4'.cellAt _ hj]
    exact this

theorem Own.mono {base : Nat} {e : TypeId} {w : World} {α : Type} {sz : Nat} {R R' : List Value → α → Prop} {a : Option Addr} {c : Nat} {xs : List α} (h : Own base e w sz R a c xs) (hR : ∀ cs x, R cs x → R' cs x) : Own base e w sz R' a c xs := by
  obtain ⟨css, h1, h2, h3, h4⟩ := h
  exact ⟨css, h1, h2, fun i x cs hx hc => hR _ _ (h3 i x cs hx hc), h4⟩

/-- While memory only grows what is owned stays owned. -/
theorem Own.below {base : Nat} {e : TypeId} {w w' : World} {α : Type} {sz : Nat} {R : List Value → α → Prop} {a : Option Addr} {c : Nat} {xs : List α} (h : Own base e w sz R a c xs) (hk : Below w.heap.size w w') : Own base e w' sz R a c xs := by
  obtain ⟨css, h1, h2, h3, h4⟩ := h
  refine ⟨css, h1, h2, h3, h4.1, ?_⟩
  rcases h4.2 with h | ⟨g, cap, cur, hv, hg, hh, r⟩
  · exact .inl h
  · exact .inr ⟨g, cap, cur, hv, hg, by rw [hk.block g (Array.getElem?_eq_some_iff.1 hh).1]; exact hh, r⟩

/-- 'append(xs, ys...)' onto a slice that is the call's own; it may grow. -/
theorem wpList_app {P : Program} {w : World} {ops : Array Oper} {rest : List Oper} {o : Oper} {A : Act} {Q : Exit → Act → World → Prop} (hgd : o.guard = none) (s x : Operand) (t : TypeId)
    (ho : o.op = .call { callee := .builtin .append, args := #[s, x], argTypes := #[t, t] })
    (e : TypeId) (i : TypeInfo) (z : Value) (sz bytes : Nat) (ht : P.underlying t = some (.slice e)) (hi : P.info? e = some i) (hz : i.zero = some z) (hsize : i.size = sz) (hby : i.bytes = bytes) (hzs : z.cells.size = sz) (hsz : 0 < sz)
    {α : Type} {R : List Value → α → Prop} {base : Nat} {ok : Nat → Prop} {a : Option Addr} {c n : Nat} {xs : List α} (hs : A.eval s = .slice a n c) (hn : n = xs.length) (hO : Own base e w sz R a c xs)
    {b : Option Addr} {m d : Nat} {ys : List α} (hx : A.eval x = .slice b m d) (hm : m = ys.length) (hR : SlR ok w sz R b d ys) (hl : (xs.length + ys.length) * bytes ≤ 140737488355328) (h63 : xs.length + ys.length ≤ maxLen) (hbase : base ≤ w.heap.size)
    (h : ∀ a' c' w', Own base e w' sz R a' c' (xs ++ ys) → w.grownBy w' (a.map (·.block)) → (a' = none → xs = [] ∧ ys = []) → wpList P ops Q rest (A.put o.dst (.slice a' (n + m) c')) w') : wpList P ops Q (o :: rest) A w := by
  subst hn hm
  obtain ⟨css, h1, h2, h3, hown⟩ := hO
  obtain ⟨dss, g1, g2, g3, g4⟩ := hR.all
  have hob : (Value.slice a xs.length c).ownBlock = a.map (·.block) := by cases a <;> rfl
  have hall : ∀ cs ∈ css ++ dss, cs.length = sz ∧ ∀ v ∈ cs, v.oneCell' = true := by
    intro cs hcs
    rcases List.mem_append.1 hcs with hcs | hcs
    · exact h2 cs hcs
    · exact g2 cs hcs
  have hRR : ∀ (i : Nat) (x : α) (cs : List Value), (xs ++ ys)[i]? = some x → (css ++ dss)[i]? = some cs → R cs x := by
    intro i x cs hx hc
    by_cases hi : i < xs.length
    · rw [List.getElem?_append_left hi] at hx
      rw [List.getElem?_append_left (by omega)] at hc
      exact h3 i x cs hx hc
    · rw [List.getElem?_append_right (by omega)] at hx
      rw [List.getElem?_append_right (by omega), h1] at hc
      exact g3 _ x cs hx hc
  cases b with
  | none =>
    have hd := hR.2.2.1 rfl
    subst hd
    have hys : ys = [] := List.eq_nil_of_length_eq_zero (by have := hR.1; omega)
    subst hys
    have hdss : dss = [] := List.eq_nil_of_length_eq_zero (by simpa using g1)
    subst hdss
    refine wpList_plain hgd fun K hK' => ?_
    have hrun := run_append_owned_none (P := P) (w := w) base t o.type e i sz ht hi _ xs.length css.flatten hown
    unfold Oper.wp
    simp only [List.length_nil] at hx
    simp [execOp, ho, resolve, invoke, builtin, hs, hx, hrun, Result.andThen]
    refine hK' _ _ ?_
    have := h a c w (by rw [List.append_nil]; exact ⟨css, h1, h2, h3, hown⟩) (World.grownBy.refl _ _) (by
      rintro rfl
      rcases hown.2 with ⟨_, hn⟩ | ⟨_, _, _, hv, _⟩
      · exact ⟨List.eq_nil_of_length_eq_zero hn, rfl⟩
      · simp at hv)
    simpa using this
  | some ad =>
    have hfl : dss.flatten.length = ys.length * sz := by rw [flatten_length fun cs h => (g2 cs h).1, g1]
    refine wpList_append_own w hgd s x t ho base e i z sz bytes ht hi hz hsize hby hzs hsz _ xs.length css.flatten hs hown ad ys.length d dss.flatten hx hfl ?_ ?_ h63 hl hbase ?_
    · intro j u hj
      obtain ⟨p, q, cs, rfl, hq, hp, hv⟩ := flatten_inv (fun cs h => (g2 cs h).1) hj
      obtain ⟨b, o, ha, _, _, hc⟩ := g4 p cs hp
      simp only [Option.some.injEq] at ha
      subst ha
      have := hc q u hv
      rw [Addr.add_lit]
      rw [← this]
      congr 2
      omega
    · intro u hu
      obtain ⟨cs, hcs, huc⟩ := List.mem_flatten.1 hu
      exact (g2 cs hcs).2 u huc
    · intro v' w' hown' hgr hnil
      rw [hob] at hgr
      have hOwn : ∀ a' c', v' = .slice a' (xs.length + ys.length) c' → Own base e w' sz R a' c' (xs ++ ys) := by
        rintro a' c' rfl
        exact ⟨css ++ dss, by simp [h1, g1], hall, hRR, by simpa using hown'⟩
      rcases hown'.2 with ⟨rfl, hn⟩ | ⟨g, cap, cur, rfl, _⟩
      · have e1 : xs = [] := List.eq_nil_of_length_eq_zero (by omega)
        have e2 : ys = [] := List.eq_nil_of_length_eq_zero (by omega)
        have := h none 0 w' (hOwn _ _ (by simp [e1, e2])) hgr (fun _ => ⟨e1, e2⟩)
        simpa [e1, e2] using this
      · exact h _ _ w' (hOwn _ _ rfl) hgr (by simp)

theorem Own.made {base : Nat} {e : TypeId} {w : World} {α : Type} {sz : Nat} {R : List Value → α → Prop} (h : base ≤ w.heap.size) : Own base e (w.alloc (.cells #[] e)) sz R (some ⟨w.heap.size, 0, none⟩) 0 ([] : List α) :=
  ⟨[], rfl, by simp, by simp, World.ownsRow_made _ _ _ h (Nat.zero_le _) (by simp)⟩

/-- A new block of just one element's cells, as a slice. -/
theorem SlR.one {ok : Nat → Prop} {w : World} {α : Type} {sz : Nat} {R : List Value → α → Prop} {g : Nat} (cs : List Value) (e : TypeId) (x : α) (hg : g = w.heap.size) (hR : R cs x) (hl : cs.length = sz) (h1 : ∀ v ∈ cs, v.oneCell' = true) (ho : ok w.heap.size) :
    SlR ok (w.alloc (.cells cs.toArray e)) sz R (some ⟨g, 0, none⟩) 1 [x] := by
  subst hg
  refine ⟨Nat.le_refl _, by simp [maxLen], by simp, fun i y hy => ?_⟩
  have hi : i = 0 := by
    have := (List.getElem?_eq_some_iff.1 hy).1
    simp at this; exact this
  subst hi
  simp at hy
  subst hy
  refine ⟨_, _, cs, rfl, ho, by simp, hR, hl, h1, fun j v hv => ?_⟩
  rw [World.cell?_alloc_at _ _ _ _ rfl]
  simpa using hv

theorem Own.le {base base' : Nat} {e : TypeId} {w : World} {α : Type} {sz : Nat} {R : List Value → α → Prop} {a : Option Addr} {c : Nat} {xs : List α} (h : Own base e w sz R a c xs) (hb : base' ≤ base) : Own base' e w sz R a c xs := by
  obtain ⟨css, h1, h2, h3, h4⟩ := h
  refine ⟨css, h1, h2, h3, h4.1, ?_⟩
  rcases h4.2 with h | ⟨g, cap, cur, hv, hg, r⟩
  · exact .inl h
  · exact .inr ⟨g, cap, cur, hv, by omega, r⟩

theorem Own.grown {B base : Nat} {e : TypeId} {W w w' : World} {α : Type} {sz : Nat} {R : List Value → α → Prop} {a : Option Addr} {c : Nat} {xs : List α} (hO : Own base e w sz R a c xs) (h : Below B W w) (hg : w.grownBy w' (a.map (·.block))) (hb : B ≤ base) (hs : B ≤ w.heap.size) : Below B W w' := by
  obtain ⟨css, _, _, _, h4⟩ := hO
  refine h.grown hg hs fun k hk => ?_
  have := (h4.lt k (by cases a <;> simp at hk; subst hk; rfl)).1
  omega

/-- Is it in the list? (A word of its own, so that no rewriting takes it apart.) -/
def inL {α : Type} [DecidableEq α] : List α → α → Bool
  | [], _ => false
  | x :: l, v => if v = x then true else inL l v

theorem inL_iff {α : Type} [DecidableEq α] (l : List α) (v : α) : inL l v = true ↔ v ∈ l := by
  induction l with
  | nil => simp [inL]
  | cons x l ih =>
    unfold inL
    by_cases h : v = x
    · simp [h]
    · rw [if_neg h, ih]; simp [h]

theorem inL_not {α : Type} [DecidableEq α] (l : List α) (v : α) : inL l v = false ↔ v ∉ l := by
  rw [← inL_iff]; cases inL l v <;> simp

theorem drop_at {α : Type} {l : List α} {k : Nat} (h : k < l.length) : l.drop k = l[k] :: l.drop (k + 1) := List.drop_eq_getElem_cons h
theorem inL_hit {α : Type} [DecidableEq α] {l : List α} {v : α} {k : Nat} (h : k < l.length) (e : v = l[k]) : inL (l.drop k) v = true := by rw [drop_at h, inL, if_pos e]
theorem inL_pass {α : Type} [DecidableEq α] {l : List α} {v : α} {k : Nat} (h : k < l.length) (e : ¬ v = l[k]) : inL (l.drop k) v = inL (l.drop (k + 1)) v := by rw [drop_at h, inL, if_neg e]
theorem inL_end {α : Type} [DecidableEq α] {l : List α} {v : α} {k : Nat} (h : ¬ k < l.length) : inL (l.drop k) v = false := by rw [List.drop_of_length_le (by omega)]; rfl

/-- A number says yes (not below 0) or no (below 0). -/
def Says (e : Ending) (b : Bool) : Prop := ∃ n : Int, e = .returned (.int .i64 n) ∧ (b = true → 0 ≤ n) ∧ (b = false → n < 0)

theorem ret_bool {a b : Bool} (h : a = b) : Ending.returned (.bool a) = .returned (.bool b) := by rw [h]
theorem ret_int {k : IntKind} {a b : Int} (h : a = b) : Ending.returned (.int k a) = .returned (.int k b) := by rw [h]

/-- Behind a call that leaves old memory as it was: each old cell and each old mark reads as before (two rules for the walk). -/
theorem bcell {W w1 : World} (hb : Below W.heap.size W w1) : (∀ b o, b < W.heap.size → w1.cell? ⟨b, o, none⟩ = W.cell? ⟨b, o, none⟩) ∧ (∀ b o, b < W.heap.size → w1.frozen? ⟨b, o, none⟩ = W.frozen? ⟨b, o, none⟩) :=
  ⟨fun b o h => hb.cell (p := ⟨b, o, none⟩) h, fun b o h => hb.frozen (p := ⟨b, o, none⟩) h⟩

/-- .. and a cell that is written behind it reads as what was written. -/
theorem bset {W w1 : World} (hb : Below W.heap.size W w1) : ∀ (b o : Nat) (v : Value), b < W.heap.size → (W.cell? ⟨b, o, none⟩).isSome = true → (w1.setCell ⟨b, o, none⟩ v).cell? ⟨b, o, none⟩ = some v := by
  intro b o v hlt hs
  rw [← hb.cell (p := ⟨b, o, none⟩) hlt] at hs
  exact World.cell?_setCell_same' _ _ _ hs

/-! ### The first of some tests that says yes -/

theorem or2 (a0 a1 : Bool) : (a0 = true) ∨ (a0 = false ∧ a1 = true) ∨ (a0 = false ∧ a1 = false) := by
  cases a0 <;> cases a1 <;> simp

theorem or3 (a0 a1 a2 : Bool) : (a0 = true) ∨ (a0 = false ∧ a1 = true) ∨ (a0 = false ∧ a1 = false ∧ a2 = true) ∨ (a0 = false ∧ a1 = false ∧ a2 = false) := by
  cases a0 <;> cases a1 <;> cases a2 <;> simp

theorem or4 (a0 a1 a2 a3 : Bool) : (a0 = true) ∨ (a0 = false ∧ a1 = true) ∨ (a0 = false ∧ a1 = false ∧ a2 = true) ∨ (a0 = false ∧ a1 = false ∧ a2 = false ∧ a3 = true) ∨ (a0 = false ∧ a1 = false ∧ a2 = false ∧ a3 = false) := by
  cases a0 <;> cases a1 <;> cases a2 <;> cases a3 <;> simp

theorem or5 (a0 a1 a2 a3 a4 : Bool) : (a0 = true) ∨ (a0 = false ∧ a1 = true) ∨ (a0 = false ∧ a1 = false ∧ a2 = true) ∨ (a0 = false ∧ a1 = false ∧ a2 = false ∧ a3 = true) ∨ (a0 = false ∧ a1 = false ∧ a2 = false ∧ a3 = false ∧ a4 = true) ∨ (a0 = false ∧ a1 = false ∧ a2 = false ∧ a3 = false ∧ a4 = false) := by
  cases a0 <;> cases a1 <;> cases a2 <;> cases a3 <;> cases a4 <;> simp

theorem or6 (a0 a1 a2 a3 a4 a5 : Bool) : (a0 = true) ∨ (a0 = false ∧ a1 = true) ∨ (a0 = false ∧ a1 = false ∧ a2 = true) ∨ (a0 = false ∧ a1 = false ∧ a2 = false ∧ a3 = true) ∨ (a0 = false ∧ a1 = false ∧ a2 = false ∧ a3 = false ∧ a4 = true) ∨ (a0 = false ∧ a1 = false ∧ a2 = false ∧ a3 = false ∧ a4 = false ∧ a5 = true) ∨ (a0 = false ∧ a1 = false ∧ a2 = false ∧ a3 = false ∧ a4 = false ∧ a5 = false) := by
  cases a0 <;> cases a1 <;> cases a2 <;> cases a3 <;> cases a4 <;> cases a5 <;> simp

theorem or7 (a0 a1 a2 a3 a4 a5 a6 : Bool) : (a0 = true) ∨ (a0 = false ∧ a1 = true) ∨ (a0 = false ∧ a1 = false ∧ a2 = true) ∨ (a0 = false ∧ a1 = false ∧ a2 = false ∧ a3 = true) ∨ (a0 = false ∧ a1 = false ∧ a2 = false ∧ a3 = false ∧ a4 = true) ∨ (a0 = false ∧ a1 = false ∧ a2 = false ∧ a3 = false ∧ a4 = false ∧ a5 = true) ∨ (a0 = false ∧ a1 = false ∧ a2 = false ∧ a3 = false ∧ a4 = false ∧ a5 = false ∧ a6 = true) ∨ (a0 = false ∧ a1 = false ∧ a2 = false ∧ a3 = false ∧ a4 = false ∧ a5 = false ∧ a6 = false) := by
  cases a0 <;> cases a1 <;> cases a2 <;> cases a3 <;> cases a4 <;> cases a5 <;> cases a6 <;> simp

theorem or8 (a0 a1 a2 a3 a4 a5 a6 a7 : Bool) : (a0 = true) ∨ (a0 = false ∧ a1 = true) ∨ (a0 = false ∧ a1 = false ∧ a2 = true) ∨ (a0 = false ∧ a1 = false ∧ a2 = false ∧ a3 = true) ∨ (a0 = false ∧ a1 = false ∧ a2 = false ∧ a3 = false ∧ a4 = true) ∨ (a0 = false ∧ a1 = false ∧ a2 = false ∧ a3 = false ∧ a4 = false ∧ a5 = true) ∨ (a0 = false ∧ a1 = false ∧ a2 = false ∧ a3 = false ∧ a4 = false ∧ a5 = false ∧ a6 = true) ∨ (a0 = false ∧ a1 = false ∧ a2 = false ∧ a3 = false ∧ a4 = false ∧ a5 = false ∧ a6 = false ∧ a7 = true) ∨ (a0 = false ∧ a1 = false ∧ a2 = false ∧ a3 = false ∧ a4 = false ∧ a5 = false ∧ a6 = false ∧ a7 = false) := by
  cases a0 <;> cases a1 <;> cases a2 <;> cases a3 <;> cases a4 <;> cases a5 <;> cases a6 <;> cases a7 <;> simp

end Go.Proofs.Ytnihccinpbpllaa

/- The program's plain records as Lean's own, and what cells stand for each. No program is in sight. -/
namespace Go.Proofs.Ytnihccinpbpllaa
open Go.RowKit

structure Lev where
  c : Int
  l : Int
  deriving DecidableEq

structure Mail where
  host : Int
  thread : Int
  label : List Lev
  grants : List Int
  text : ByteArray

structure Cert where
  c : Int
  by_ : Int
  host : Int
  till : Int
  deriving DecidableEq

structure Frame where
  src : Int
  dst : Int
  seq : Int
  ack : Bool
  thread : Int
  mail : Mail
  certs : List Cert

structure Sent where
  frame : Frame
  tries : Int
  due : Int

/-- Cells of the line's eight truths. -/
structure Eight where
  s0 : Bool
  s1 : Bool
  s2 : Bool
  s3 : Bool
  s4 : Bool
  s5 : Bool
  s6 : Bool
  s7 : Bool
  deriving DecidableEq

structure Line where
  next : Int
  sent : List Sent
  high : Int
  seen : Eight

def RInt (cs : List Value) (x : Int) : Prop := cs = [.int .i64 x]
def RLev (cs : List Value) (x : Lev) : Prop := cs = [.int .i64 x.c, .int .i64 x.l]
def RCert (cs : List Value) (x : Cert) : Prop := cs = [.int .i64 x.c, .int .i64 x.by_, .int .i64 x.host, .int .i64 x.till]
def RStr (cs : List Value) (x : ByteArray) : Prop := cs = [.string x]

def RMail (ok : Nat → Prop) (w : World) (cs : List Value) (m : Mail) : Prop :=
  ∃ la lc ga gc, cs = [.int .i64 m.host, .int .i64 m.thread, .slice la m.label.length lc, .slice ga m.grants.length gc, .string m.text] ∧ SlR ok w 2 RLev la lc m.label ∧ SlR ok w 1 RInt ga gc m.grants

def RFrame (ok : Nat → Prop) (w : World) (cs : List Value) (f : Frame) : Prop :=
  ∃ la lc ga gc ca cc, cs = [.int .i64 f.src, .int .i64 f.dst, .int .i64 f.seq, .bool f.ack, .int .i64 f.thread, .int .i64 f.mail.host, .int .i64 f.mail.thread, .slice la f.mail.label.length lc, .slice ga f.mail.grants.length gc, .string f.mail.text, .slice ca f.certs.length cc] ∧
    SlR ok w 2 RLev la lc f.mail.label ∧ SlR ok w 1 RInt ga gc f.mail.grants ∧ SlR ok w 4 RCert ca cc f.certs

def RSent (ok : Nat → Prop) (w : World) (cs : List Value) (s : Sent) : Prop :=
  ∃ la lc ga gc ca cc, cs = [.int .i64 s.frame.src, .int .i64 s.frame.dst, .int .i64 s.frame.seq, .bool s.frame.ack, .int .i64 s.frame.thread, .int .i64 s.frame.mail.host, .int .i64 s.frame.mail.thread, .slice la s.frame.mail.label.length lc, .slice ga s.frame.mail.grants.length gc, .string s.frame.mail.text, .slice ca s.frame.certs.length cc, .int .i64 s.tries, .int .i64 s.due] ∧
    SlR ok w 2 RLev la lc s.frame.mail.label ∧ SlR ok w 1 RInt ga gc s.frame.mail.grants ∧ SlR ok w 4 RCert ca cc s.frame.certs

theorem RMail.keep {ok : Nat → Prop} {w w' : World} (hk : Keeps ok w w') {cs : List Value} {m : Mail} (h : RMail ok w cs m) : RMail ok w' cs m := by
  obtain ⟨la, lc, ga, gc, e, h1, h2⟩ := h
  exact ⟨la, lc, ga, gc, e, h1.keep hk, h2.keep hk⟩
theorem RFrame.keep {ok : Nat → Prop} {w w' : World} (hk : Keeps ok w w') {cs : List Value} {f : Frame} (h : RFrame ok w cs f) : RFrame ok w' cs f := by
  obtain ⟨la, lc, ga, gc, ca, cc, e, h1, h2, h3⟩ := h
  exact ⟨la, lc, ga, gc, ca, cc, e, h1.keep hk, h2.keep hk, h3.keep hk⟩
theorem RSent.keep {ok : Nat → Prop} {w w' : World} (hk : Keeps ok w w') {cs : List Value} {s : Sent} (h : RSent ok w cs s) : RSent ok w' cs s := by
  obtain ⟨la, lc, ga, gc, ca, cc, e, h1, h2, h3⟩ := h
  exact ⟨la, lc, ga, gc, ca, cc, e, h1.keep hk, h2.keep hk, h3.keep hk⟩

/-- A list of frames that were sent. -/
abbrev SentR (ok : Nat → Prop) (w : World) (a : Option Addr) (c : Nat) (l : List Sent) : Prop := SlR ok w 13 (RSent ok w) a c l
theorem SentR.keep {ok : Nat → Prop} {w w' : World} {a : Option Addr} {c : Nat} {l : List Sent} (h : SentR ok w a c l) (hk : Keeps ok w w') : SentR ok w' a c l := h.mono hk fun _ _ => RSent.keep hk
theorem SentR.below {ok : Nat → Prop} {w w' : World} {a : Option Addr} {c : Nat} {l : List Sent} (h : SentR ok w a c l) (hk : Below w.heap.size w w') : SentR ok w' a c l := SentR.keep h (.of_below hk)

section
variable {ok : Nat → Prop} {w w' : World} {a : Option Addr} {c : Nat}

theorem SlR.int_at {xs : List Int} (h : SlR ok w 1 RInt a c xs) (i : Nat) (hi : i < xs.length) :
    ∃ b o, a = some ⟨b, o, none⟩ ∧ b < w.heap.size ∧ w.cell? ⟨b, o + i, none⟩ = some (.int .i64 xs[i]) := by
  obtain ⟨b, o, cs, ha, _, hb, rfl, _, _, hc⟩ := h.2.2.2 i xs[i] (by simp [hi])
  exact ⟨b, o, ha, hb, by simpa using hc 0 _ rfl⟩

theorem SlR.lev_at {xs : List Lev} (h : SlR ok w 2 RLev a c xs) (i : Nat) (hi : i < xs.length) :
    ∃ b o, a = some ⟨b, o, none⟩ ∧ b < w.heap.size ∧ w.cell? ⟨b, o + i * 2, none⟩ = some (.int .i64 xs[i].c) ∧ w.cell? ⟨b, o + i * 2 + 1, none⟩ = some (.int .i64 xs[i].l) := by
  obtain ⟨b, o, cs, ha, _, hb, rfl, _, _, hc⟩ := h.2.2.2 i xs[i] (by simp [hi])
  exact ⟨b, o, ha, hb, by simpa using hc 0 _ rfl, by simpa using hc 1 _ rfl⟩

theorem SlR.cert_at {xs : List Cert} (h : SlR ok w 4 RCert a c xs) (i : Nat) (hi : i < xs.length) :
    ∃ b o, a = some ⟨b, o, none⟩ ∧ b < w.heap.size ∧ w.cell? ⟨b, o + i * 4, none⟩ = some (.int .i64 xs[i].c) ∧ w.cell? ⟨b, o + i * 4 + 1, none⟩ = some (.int .i64 xs[i].by_) ∧
      w.cell? ⟨b, o + i * 4 + 2, none⟩ = some (.int .i64 xs[i].host) ∧ w.cell? ⟨b, o + i * 4 + 3, none⟩ = some (.int .i64 xs[i].till) := by
  obtain ⟨b, o, cs, ha, _, hb, rfl, _, _, hc⟩ := h.2.2.2 i xs[i] (by simp [hi])
  exact ⟨b, o, ha, hb, by simpa using hc 0 _ rfl, by simpa using hc 1 _ rfl, by simpa using hc 2 _ rfl, by simpa using hc 3 _ rfl⟩

theorem SlR.sent_at {xs : List Sent} (h : SentR ok w a c xs) (i : Nat) (hi : i < xs.length) :
    ∃ b o la lc ga gc ca cc, a = some ⟨b, o, none⟩ ∧ b < w.heap.size ∧ (SlR ok w 2 RLev la lc xs[i].frame.mail.label ∧ SlR ok w 1 RInt ga gc xs[i].frame.mail.grants ∧ SlR ok w 4 RCert ca cc xs[i].frame.certs) ∧
      w.cell? ⟨b, o + i * 13, none⟩ = some (.int .i64 xs[i].frame.src) ∧ w.cell? ⟨b, o + i * 13 + 1, none⟩ = some (.int .i64 xs[i].frame.dst) ∧ w.cell? ⟨b, o + i * 13 + 2, none⟩ = some (.int .i64 xs[i].frame.seq) ∧ w.cell? ⟨b, o + i * 13 + 3, none⟩ = some (.bool xs[i].frame.ack) ∧
      w.cell? ⟨b, o + i * 13 + 4, none⟩ = some (.int .i64 xs[i].frame.thread) ∧ w.cell? ⟨b, o + i * 13 + 5, none⟩ = some (.int .i64 xs[i].frame.mail.host) ∧ w.cell? ⟨b, o + i * 13 + 6, none⟩ = some (.int .i64 xs[i].frame.mail.thread) ∧
      w.cell? ⟨b, o + i * 13 + 7, none⟩ = some (.slice la xs[i].frame.mail.label.length lc) ∧ w.cell? ⟨b, o + i * 13 + 8, none⟩ = some (.slice ga xs[i].frame.mail.grants.length gc) ∧ w.cell? ⟨b, o + i * 13 + 9, none⟩ = some (.string xs[i].frame.mail.text) ∧
      w.cell? ⟨b, o + i * 13 + 10, none⟩ = some (.slice ca xs[i].frame.certs.length cc) ∧ w.cell? ⟨b, o + i * 13 + 11, none⟩ = some (.int .i64 xs[i].tries) ∧ w.cell? ⟨b, o + i * 13 + 12, none⟩ = some (.int .i64 xs[i].due) := by
  obtain ⟨b, o, cs, ha, _, hb, ⟨la, lc, ga, gc, ca, cc, rfl, r1, r2, r3⟩, _, _, hc⟩ := h.2.2.2 i xs[i] (by simp [hi])
  exact ⟨b, o, la, lc, ga, gc, ca, cc, ha, hb, ⟨r1, r2, r3⟩, by simpa using hc 0 _ rfl, by simpa using hc 1 _ rfl, by simpa using hc 2 _ rfl, by simpa using hc 3 _ rfl, by simpa using hc 4 _ rfl, by simpa using hc 5 _ rfl, by simpa using hc 6 _ rfl, by simpa using hc 7 _ rfl, by simpa using hc 8 _ rfl, by simpa using hc 9 _ rfl, by simpa using hc 10 _ rfl, by simpa using hc 11 _ rfl, by simpa using hc 12 _ rfl⟩
end

/-- The level of a category in a label: the first that names it, else the plain one. -/
def lAt : List Lev → Int → Int
  | [], _ => 1
  | x :: l, c => if x.c = c then x.l else lAt l c

end Go.Proofs.Ytnihccinpbpllaa

/- The walks through the library's functions on slices. -/
namespace Go.Proofs.Ytnihccinpbpllaa
open Go.RowKit

theorem info_Level : (Try.prog.info? 43).map (fun i => (i.zero, i.size, i.bytes)) = some (some (.agg #[.int .i64 0, .int .i64 0]), 2, 16) := by kernel_rfl
theorem info_int : (Try.prog.info? 3).map (fun i => (i.zero, i.size, i.bytes)) = some (some (.int .i64 0), 1, 8) := by kernel_rfl
set_option maxHeartbeats 400000 in
theorem slices_Index_int (ok : Nat → Prop) (w : World) (a : Option Addr) (c : Nat) (l : List Int) (v : Int) (hl : l.length ≤ 4611686018427387903) (hR : SlR ok w 1 RInt a c l) :
    Calls Try.prog 41 #[.slice a l.length c, .int .i64 v] w fun e w' => Says e (inL l v) ∧ w = w' := by
  go_enter Try.func41, Try.ntmps41
  go_wp2
  go_loop [8] (fun i => ∃ k : Nat, k ≤ l.length ∧ i = .int .i64 k ∧ Hid (inL l v = inL (l.drop k) v)) (fun i => l.length - (intOf i).toNat)
  case atStart => exact ⟨0, Nat.zero_le _, rfl, rfl⟩
  case round =>
    obtain ⟨k, hk, rfl, hI⟩ := hrel
    by_cases hlt : k < l.length
    · obtain ⟨b, o, rfl, hb, h1⟩ := hR.int_at k hlt
      go_wp2
      · have hc : (v == l[k]) = true := by assumption
        go_ret
        have e : inL l v = true := by rw [hI.out, inL_hit hlt (by simpa using hc)]
        exact ⟨⟨k, rfl, by simp, by simp [e]⟩, rfl⟩
      · have hc : (v == l[k]) = false := by assumption
        go_round
        case rel => exact ⟨k + 1, hlt, by go_num, by rw [hI.out, inL_pass hlt (by simpa using hc)]; rfl⟩
        case measure => simp [intOf]; omega
    · go_wp2
      go_ret
      have e : inL l v = false := by rw [hI.out, inL_end hlt]
      exact ⟨⟨-1, rfl, by simp [e], by simp⟩, rfl⟩

set_option maxHeartbeats 400000 in
theorem slices_Contains_int (ok : Nat → Prop) (w : World) (a : Option Addr) (c : Nat) (l : List Int) (v : Int) (hl : l.length ≤ 4611686018427387903) (hR : SlR ok w 1 RInt a c l) :
    Calls Try.prog 35 #[.slice a l.length c, .int .i64 v] w fun e w' => e = .returned (.bool (inL l v)) ∧ w = w' := by
  cases hb : inL l v
  all_goals
    have HB := Lib.hid hb
    clear hb
    go_enter Try.func35, Try.ntmps35
    go_wp2_with fail
    refine (slices_Index_int ok _ _ _ _ _ hl hR).mono ?_
    rintro e w' ⟨⟨n, rfl, h1, h2⟩, rfl⟩
    rw [HB.out] at h1 h2
    simp only [forall_const, reduceCtorEq, false_implies] at h1 h2
    go_wp2
    go_ret
    exact ⟨by first | rfl | (apply ret_bool; simp; omega), rfl⟩

set_option maxHeartbeats 400000 in
theorem slices_Clone_Label (ok : Nat → Prop) (w : World) (a : Option Addr) (c : Nat) (l : List Lev) (hl : l.length * 16 ≤ 140737488355328) (hR : SlR ok w 2 RLev a c l) :
    Calls Try.prog 38 #[.slice a l.length c] w fun e w' => ∃ a' c', e = .returned (.slice a' l.length c') ∧ Below w.heap.size w w' ∧ Own w.heap.size 43 w' 2 RLev a' c' l := by
  obtain ⟨i0, hi, hz0, hz1, hz2⟩ := info_parts info_Level
  have hcmp := fun (ww : World) (a : Option Addr) (n c : Nat) => Lib.run_eql_slice_nil ww 23 _ a n c 0 0 Try.underlying23
  cases a with
  | none =>
    have h0 := hR.2.2.1 rfl
    have hn := hR.1
    obtain rfl : l = [] := List.eq_nil_of_length_eq_zero (by omega)
    clear hl hR hi hz0 hz1 hz2 h0 hn
    go_enter Try.func38, Try.ntmps38
    go_wp2
    go_ret
    exact ⟨none, 0, rfl, Below.refl _ _, Own.nil _ _ _ _ _⟩
  | some ad =>
    go_enter Try.func38, Try.ntmps38
    go_wp2_with (first | (at_builtin; refine wpList_app rfl _ _ 23 rfl 43 i0 _ 2 16 Try.underlying23 hi hz0 hz1 hz2 rfl (by decide) (base := w.heap.size) rfl rfl (Own.made (Nat.le_refl _)) rfl rfl (hR.below ((Below.refl _ _).alloc (Nat.le_refl _) _)) ?_ ?_ ?_ ?_))
    · simpa using hl
    · simp [maxLen]; omega
    · simp
    · intro a' c' w' hO hg _
      go_wp2
      go_ret
      exact ⟨a', c', rfl, ((Below.refl _ _).alloc (Nat.le_refl _) _).grown hg (by simp) (by simp), hO⟩

end Go.Proofs.Ytnihccinpbpllaa

/- Plain laws on labels: lists of levels; no program, no memory. -/
namespace Go.Proofs.Ytnihccinpbpllaa

/-! ### Lists that rise, each number once -/

def insI (x : Int) : List Int → List Int
  | [] => [x]
  | y :: l => if x < y then x :: y :: l else if x = y then y :: l else y :: insI x l

def uniq (l : List Int) : List Int := l.foldr insI []

abbrev Rising (l : List Int) : Prop := l.Pairwise (· < ·)

theorem insI_mem {x z : Int} {l : List Int} : z ∈ insI x l ↔ z = x ∨ z ∈ l := by
  induction l with
  | nil => simp [insI]
  | cons y l ih =>
    unfold insI
    split
    · simp
    · split
      · rename_i h; subst h; simp
      · simp only [List.mem_cons, ih]
        constructor
        · rintro (h | h | h) <;> simp [h]
        · rintro (h | h | h) <;> simp [h]

theorem insI_rising {x : Int} {l : List Int} (h : Rising l) : Rising (insI x l) := by
  induction l with
  | nil => simp [insI]
  | cons y l ih =>
    unfold insI
    have hy := List.pairwise_cons.1 h
    split
    · rename_i hxy
      exact List.pairwise_cons.2 ⟨fun z hz => by rcases List.mem_cons.1 hz with rfl | hz; exact hxy; exact Int.lt_trans hxy (hy.1 z hz), h⟩
    · split
      · exact h
      · rename_i h1 h2
        refine List.pairwise_cons.2 ⟨fun z hz => ?_, ih hy.2⟩
        rcases insI_mem.1 hz with rfl | hz
        · omega
        · exact hy.1 z hz

theorem uniq_mem {z : Int} {l : List Int} : z ∈ uniq l ↔ z ∈ l := by
  induction l with
  | nil => simp [uniq]
  | cons y l ih => show z ∈ insI y (uniq l) ↔ _; rw [insI_mem, ih, List.mem_cons]

theorem uniq_rising (l : List Int) : Rising (uniq l) := by
  induction l with
  | nil => exact List.Pairwise.nil
  | cons y l ih => exact insI_rising ih

theorem rising_ext {a b : List Int} (ha : Rising a) (hb : Rising b) (h : ∀ z, z ∈ a ↔ z ∈ b) : a = b := by
  induction a generalizing b with
  | nil =>
    cases b with
    | nil => rfl
    | cons y b => have := (h y).2 (by simp); simp at this
  | cons x a ih =>
    cases b with
    | nil => have := (h x).1 (by simp); simp at this
    | cons y b =>
      have ha' := List.pairwise_cons.1 ha
      have hb' := List.pairwise_cons.1 hb
      have hxy : x = y := by
        rcases List.mem_cons.1 ((h x).1 (by simp)) with e | e
        · exact e
        · rcases List.mem_cons.1 ((h y).2 (by simp)) with e' | e'
          · exact e'.symm
          · have := hb'.1 x e; have := ha'.1 y e'; omega
      subst hxy
      rw [ih ha'.2 hb'.2 fun z => ?_]
      constructor
      · intro hz
        rcases List.mem_cons.1 ((h z).1 (by simp [hz])) with e | e
        · have := ha'.1 z hz; omega
        · exact e
      · intro hz
        rcases List.mem_cons.1 ((h z).2 (by simp [hz])) with e | e
        · have := hb'.1 z hz; omega
        · exact e

theorem uniq_of {a l : List Int} (ha : Rising a) (h : ∀ z, z ∈ a ↔ z ∈ l) : a = uniq l := rising_ext ha (uniq_rising l) fun z => (h z).trans uniq_mem.symm

/-! ### Labels -/

def catsOf (l : List Lev) : List Int := l.map (·.c)
def eachL (a b : List Lev) : List Int := uniq (catsOf a ++ catsOf b)

theorem eachL_mem {a b : List Lev} {z : Int} : z ∈ eachL a b ↔ z ∈ catsOf a ∨ z ∈ catsOf b := by rw [eachL, uniq_mem, List.mem_append]

theorem eachL_comm (a b : List Lev) : eachL a b = eachL b a := rising_ext (uniq_rising _) (uniq_rising _) fun z => by
  rw [eachL_mem, eachL_mem]; exact Or.comm

theorem lAt_not {l : List Lev} {c : Int} (h : c ∉ catsOf l) : lAt l c = 1 := by
  induction l with
  | nil => rfl
  | cons x l ih =>
    simp only [catsOf, List.map_cons, List.mem_cons, not_or] at h
    rw [lAt, if_neg (fun e => h.1 e.symm)]
    exact ih h.2

/-- From the k-th category on: do they all flow? -/
def flowsFrom (a b : List Lev) (own : List Int) : List Int → Bool
  | [] => true
  | c :: l => if lAt b c < lAt a c then (if inL own c then flowsFrom a b own l else false) else flowsFrom a b own l

def flowsL (a b : List Lev) (own : List Int) : Bool := flowsFrom a b own (eachL a b)

theorem flowsFrom_iff (a b : List Lev) (own : List Int) (l : List Int) : flowsFrom a b own l = true ↔ ∀ c ∈ l, c ∉ own → lAt a c ≤ lAt b c := by
  induction l with
  | nil => simp [flowsFrom]
  | cons c l ih =>
    unfold flowsFrom
    by_cases h : lAt b c < lAt a c
    · rw [if_pos h]
      by_cases ho : inL own c = true
      · rw [if_pos ho, ih]
        have := (inL_iff own c).1 ho
        constructor
        · intro H d hd hn
          rcases List.mem_cons.1 hd with rfl | hd
          · exact absurd this hn
          · exact H d hd hn
        · exact fun H d hd hn => H d (by simp [hd]) hn
      · rw [if_neg ho]
        simp only [Bool.false_eq_true, false_iff]
        intro H
        have := H c (by simp) (by rwa [← inL_not, Bool.eq_false_iff])
        omega
    · rw [if_neg h, ih]
      constructor
      · intro H d hd hn
        rcases List.mem_cons.1 hd with rfl | hd
        · omega
        · exact H d hd hn
      · exact fun H d hd hn => H d (by simp [hd]) hn

/-- What flows: at each category that is not one's own the level is no greater. -/
theorem flowsL_iff (a b : List Lev) (own : List Int) : flowsL a b own = true ↔ ∀ c, c ∉ own → lAt a c ≤ lAt b c := by
  rw [flowsL, flowsFrom_iff]
  constructor
  · intro H c hn
    by_cases hc : c ∈ eachL a b
    · exact H c hc hn
    · rw [eachL_mem, not_or] at hc
      rw [lAt_not hc.1, lAt_not hc.2]
      exact Int.le_refl _
  · exact fun H c _ hn => H c hn

/-- Each category at a level made of two, but not the plain one. -/
def bothFrom (f : Int → Int → Int) (a b : List Lev) : List Int → List Lev
  | [] => []
  | c :: l => if f (lAt a c) (lAt b c) = 1 then bothFrom f a b l else ⟨c, f (lAt a c) (lAt b c)⟩ :: bothFrom f a b l

def bothL (f : Int → Int → Int) (a b : List Lev) : List Lev := bothFrom f a b (eachL a b)

/-! ### Good labels -/

def lvOk (x : Lev) : Bool := decide (0 ≤ x.c ∧ x.c < 80 ∧ 0 ≤ x.l ∧ x.l ≤ 3 ∧ x.l ≠ 1)

def risesL : Int → List Lev → Bool
  | _, [] => true
  | p, x :: l => if p < x.c ∧ lvOk x = true then risesL x.c l else false

/-- The category ahead of the k-th level. -/
def prevC (l : List Lev) (k : Nat) : Int := if h : 0 < k ∧ k ≤ l.length then (l[k - 1]'(by omega)).c else -1

theorem prevC_zero (l : List Lev) : prevC l 0 = -1 := by simp [prevC]
theorem prevC_succ (l : List Lev) (k : Nat) (h : k < l.length) : prevC l (k + 1) = l[k].c := by
  unfold prevC
  rw [dif_pos ⟨by omega, by omega⟩]
  simp

theorem risesL_step (l : List Lev) (k : Nat) (h : k < l.length) : risesL (prevC l k) (l.drop k) = (if prevC l k < l[k].c ∧ lvOk l[k] = true then risesL (prevC l (k + 1)) (l.drop (k + 1)) else false) := by
  rw [List.drop_eq_getElem_cons h, risesL, prevC_succ l k h]

def goodL (l : List Lev) : Bool := if l.length ≤ 8 then risesL (-1) l else false

end Go.Proofs.Ytnihccinpbpllaa

/- Slices of numbers that are the call's own, in the words of the library's contracts on sorting. No program is in sight. -/
namespace Go.Proofs.Ytnihccinpbpllaa
open Go.RowKit Go.Sort

theorem flatten_ints {css : List (List Value)} {xs : List Int} (hl : css.length = xs.length) (h : ∀ (i : Nat) (x : Int) (cs : List Value), xs[i]? = some x → css[i]? = some cs → RInt cs x) : css.flatten = xs.map (Value.int .i64) := by
  induction css generalizing xs with
  | nil => cases xs with
    | nil => rfl
    | cons x xs => simp at hl
  | cons c css ih =>
    cases xs with
    | nil => simp at hl
    | cons x xs =>
      have h0 := h 0 x c rfl rfl
      simp only [List.flatten_cons, List.map_cons, RInt] at *
      rw [h0, ih (by simpa using hl) fun i y cs hy hc => h (i + 1) y cs (by simpa using hy) (by simpa using hc)]
      rfl

theorem Own.ints {base : Nat} {e : TypeId} {w : World} {a : Option Addr} {c : Nat} {xs : List Int} (h : Own base e w 1 RInt a c xs) : w.ownsRow base e 1 (.slice a xs.length c) xs.length (xs.map (Value.int .i64)) := by
  obtain ⟨css, h1, h2, h3, h4⟩ := h
  rwa [flatten_ints h1 h3] at h4

theorem Own.of_ints {base : Nat} {e : TypeId} {w : World} {a : Option Addr} {c : Nat} {xs : List Int} (h : w.ownsRow base e 1 (.slice a xs.length c) xs.length (xs.map (Value.int .i64))) : Own base e w 1 RInt a c xs := by
  have hf : (xs.map fun x => [Value.int .i64 x]).flatten = xs.map (Value.int .i64) := by clear h; induction xs <;> simp_all
  refine ⟨xs.map fun x => [.int .i64 x], by simp, ?_, ?_, by rw [hf]; exact h⟩
  · intro cs hcs
    obtain ⟨x, _, rfl⟩ := List.mem_map.1 hcs
    exact ⟨rfl, by simp [Value.oneCell']⟩
  · intro i x cs hx hc
    rw [List.getElem?_map, hx] at hc
    simp at hc
    exact hc.symm

theorem Own.holds {base : Nat} {e : TypeId} {w : World} {ad : Addr} {c : Nat} {xs : List Int} (h : Own base e w 1 RInt (some ad) c xs) :
    ∃ g, ad = ⟨g, 0, none⟩ ∧ base ≤ g ∧ g < w.heap.size ∧ xs.length ≤ c ∧ c ≤ maxLen ∧ Holds (Value.int .i64) w g 0 xs.toArray := by
  have hi := h.ints
  rcases hi.2 with ⟨hv, _⟩ | ⟨g, cap, cur, hv, hg, hh, hnc, hm, hs, ht⟩
  · simp at hv
  · simp only [Value.slice.injEq, Option.some.injEq] at hv
    obtain ⟨rfl, _, rfl⟩ := hv
    refine ⟨g, rfl, hg, (Array.getElem?_eq_some_iff.1 hh).1, hnc, hm, fun j hj => ?_⟩
    simp only [List.size_toArray] at hj
    rw [Nat.zero_add]
    refine ⟨?_, hi.frozenAt j⟩
    rw [hi.cellAt j (by omega)]
    simp [hj]

theorem grownBy_row {w : World} {n g : Nat} {d : Array Int} {os : Array Obj} : w.grownBy (grow (putRow (Value.int .i64) (Sort.ahead w n) g 0 d) os) (some g) := by
  refine ⟨rfl, rfl, rfl, by simp [grow, Sort.ahead], fun k hk hne => ?_⟩
  rw [heap_grow_old _ _ (by simpa [Sort.ahead] using hk)]
  simp only [putRow, mapBlock, Array.getElem?_modify, Sort.ahead]
  rw [if_neg (fun e => hne (by rw [e]))]

theorem Own.put {base : Nat} {e : TypeId} {w : World} {g c : Nat} {xs ys : List Int} (h : Own base e w 1 RInt (some ⟨g, 0, none⟩) c xs) (hl : ys.length = xs.length) (n : Nat) (os : Array Obj) :
    Own base e (grow (putRow (Value.int .i64) (Sort.ahead w n) g 0 ys.toArray) os) 1 RInt (some ⟨g, 0, none⟩) c ys := by
  apply Own.of_ints
  have hi := h.ints
  rcases hi.2 with ⟨hv, _⟩ | ⟨g', cap, cur, hv, hg, hh, hnc, hm, hs, ht⟩
  · simp at hv
  · simp only [Value.slice.injEq, Option.some.injEq, Addr.mk.injEq] at hv
    obtain ⟨⟨rfl, _, _⟩, _, rfl⟩ := hv
    have hlt := (Array.getElem?_eq_some_iff.1 hh).1
    refine ⟨by simp, .inr ⟨g, c, putCells (Value.int .i64) 0 ys.toArray cur, rfl, hg, ?_, by omega, hm, by simpa [putCells] using hs, ?_⟩⟩
    · rw [heap_grow_old _ _ (by simpa [Sort.ahead] using hlt)]
      simp only [putRow, mapBlock, Array.getElem?_modify, Sort.ahead, hh, if_true, Option.map_some, onCells]
    · apply List.ext_getElem?
      intro i
      simp only [Nat.mul_one] at hs ⊢
      by_cases hi : i < ys.length
      · rw [List.getElem?_take_of_lt hi]
        simp only [putCells, Array.toList_mapIdx, List.getElem?_mapIdx, List.getElem?_map]
        rw [List.getElem?_eq_getElem (by simp [hs]; omega), List.getElem?_eq_getElem hi]
        simp [hi]
      · rw [List.getElem?_eq_none (by simp; omega), List.getElem?_eq_none (by simp; omega)]

/-- A beginning of what is owned, at the same capacity. -/
theorem Own.front {base : Nat} {e : TypeId} {w : World} {α : Type} {sz : Nat} {R : List Value → α → Prop} {a : Option Addr} {c : Nat} {ys zs : List α} (h : Own base e w sz R a c (ys ++ zs)) : Own base e w sz R a c ys := by
  obtain ⟨css, h1, h2, h3, h4⟩ := h
  have hle : ys.length ≤ css.length := by rw [h1]; simp
  have hfl : (css.take ys.length).flatten = css.flatten.take (ys.length * sz) := by
    have e1 : css.flatten = (css.take ys.length).flatten ++ (css.drop ys.length).flatten := by rw [← List.flatten_append, List.take_append_drop]
    have e2 : (css.take ys.length).flatten.length = ys.length * sz := by
      rw [flatten_length fun cs hc => (h2 cs (List.mem_of_mem_take hc)).1, List.length_take, Nat.min_eq_left hle]
    rw [e1, ← e2, List.take_left']
    rfl
  refine ⟨css.take ys.length, by simp [hle], fun cs hc => h2 cs (List.mem_of_mem_take hc), fun i x cs hx hc => ?_, ?_, ?_⟩
  · have hi : i < ys.length := (List.getElem?_eq_some_iff.1 hx).1
    rw [List.getElem?_take_of_lt hi] at hc
    exact h3 i x cs (by rw [List.getElem?_append_left hi]; exact hx) hc
  · rw [hfl, List.length_take, h4.1, List.length_append]
    exact Nat.min_eq_left (Nat.mul_le_mul_right _ (by omega))
  · rcases h4.2 with ⟨hv, hn⟩ | ⟨g, cap, cur, hv, hg, hh, hnc, hm, hs, ht⟩
    · have : ys = [] := List.eq_nil_of_length_eq_zero (by have := @List.length_append _ ys zs; omega)
      subst this
      simp only [Value.slice.injEq] at hv
      obtain ⟨rfl, _, rfl⟩ := hv
      exact .inl ⟨rfl, rfl⟩
    · simp only [Value.slice.injEq] at hv
      obtain ⟨rfl, _, rfl⟩ := hv
      refine .inr ⟨g, c, cur, rfl, hg, hh, by simp at hnc; omega, hm, hs, ?_⟩
      rw [hfl, ← ht, List.take_take, Nat.min_eq_left (Nat.mul_le_mul_right _ (by simp))]

/-- What the sort hands on, each once. -/
theorem compact_sorted {l : List Int} (h : l.Pairwise (· ≤ ·)) : Rising (Lib.compact l) ∧ ∀ z, z ∈ Lib.compact l ↔ z ∈ l := by
  have hget : ∀ j, j < l.length → l.toArray[j]! = l.getD j 0 := fun j hj => by simp [List.getD, hj]
  have hle : ∀ i j, i < j → j < l.length → l.getD i 0 ≤ l.getD j 0 := by
    intro i j hij hj
    have := List.pairwise_iff_getElem.1 h i j (by omega) hj hij
    simpa [List.getD, hj, show i < l.length by omega] using this
  have key : ∀ m, m ≤ l.length → Rising (Lib.compactUpTo l.toArray m) ∧ ∀ z, z ∈ Lib.compactUpTo l.toArray m ↔ ∃ j, j < m ∧ l.getD j 0 = z := by
    intro m
    induction m with
    | zero => exact fun _ => ⟨by simp [Lib.compactUpTo], fun z => by simp [Lib.compactUpTo]⟩
    | succ m ih =>
      intro hm
      obtain ⟨h1, h2⟩ := ih (by omega)
      rw [Lib.compactUpTo_succ]
      by_cases hk : Lib.keeps l.toArray m = true
      · rw [if_pos hk, hget m (by omega)]
        simp only [Lib.keeps, decide_eq_true_eq] at hk
        have hlt : ∀ j, j < m → l.getD j 0 < l.getD m 0 := by
          intro j hj
          rcases hk with hk | hk
          · omega
          · rw [hget m (by omega), hget (m - 1) (by omega)] at hk
            have a1 := hle (m - 1) m (by omega) (by omega)
            by_cases hj' : j = m - 1
            · subst hj'; omega
            · have a2 := hle j (m - 1) (by omega) (by omega); omega
        refine ⟨List.pairwise_append.2 ⟨h1, by simp, fun x hx y hy => ?_⟩, fun z => ?_⟩
        · simp at hy
          subst hy
          obtain ⟨j, hj, rfl⟩ := (h2 x).1 hx
          simpa [List.getD] using hlt j hj
        · rw [List.mem_append, h2]
          simp only [List.mem_singleton]
          constructor
          · rintro (⟨j, hj, e⟩ | e)
            · exact ⟨j, by omega, e⟩
            · exact ⟨m, by omega, e.symm⟩
          · rintro ⟨j, hj, e⟩
            by_cases hj' : j = m
            · subst hj'; exact .inr e.symm
            · exact .inl ⟨j, by omega, e⟩
      · rw [if_neg hk, List.append_nil]
        refine ⟨h1, fun z => (h2 z).trans ?_⟩
        simp only [Lib.keeps, decide_eq_true_eq, not_or, Decidable.not_not] at hk
        rw [hget m (by omega), hget (m - 1) (by omega)] at hk
        constructor
        · rintro ⟨j, hj, e⟩; exact ⟨j, by omega, e⟩
        · rintro ⟨j, hj, e⟩
          by_cases hj' : j = m
          · subst hj'; exact ⟨j - 1, by omega, by rw [← hk.2]; exact e⟩
          · exact ⟨j, by omega, e⟩
  obtain ⟨h1, h2⟩ := key l.length (Nat.le_refl _)
  refine ⟨h1, fun z => (h2 z).trans ?_⟩
  rw [List.mem_iff_getElem]
  constructor
  · rintro ⟨j, hj, e⟩; exact ⟨j, hj, by simpa [List.getD, hj] using e⟩
  · rintro ⟨j, hj, e⟩; exact ⟨j, hj, by simpa [List.getD, hj] using e⟩

theorem sort_compact (l : List Int) : Lib.compact (l.mergeSort fun x y => decide (x ≤ y)) = uniq l := by
  have hs : (l.mergeSort fun x y => decide (x ≤ y)).Pairwise (· ≤ ·) := by
    have := List.pairwise_mergeSort (le := fun x y : Int => decide (x ≤ y)) (by simp; omega) (by simp; omega) l
    exact this.imp (by simp)
  obtain ⟨h1, h2⟩ := compact_sorted hs
  exact uniq_of h1 fun z => (h2 z).trans (List.mergeSort_perm l _).mem_iff

end Go.Proofs.Ytnihccinpbpllaa

/- The library's sort and compact on a slice of numbers that is the call's own. -/
namespace Go.Proofs.Ytnihccinpbpllaa
open Go.RowKit Go.Sort

theorem slices_Sort_own {base : Nat} {w : World} {o : Option Addr} {c : Nat} {l : List Int} (hO : Own base 3 w 1 RInt o c l) (hl : l.length ≤ 4611686018427387903) :
    Calls Try.prog 39 #[.slice o l.length c] w fun e w' => e = .returned (.tuple #[]) ∧ Own base 3 w' 1 RInt o c (l.mergeSort fun x y => decide (x ≤ y)) ∧ w.grownBy w' (o.map (·.block)) := by
  cases o with
  | none =>
    have hS := hO.slr (ok := fun _ => True) fun _ _ => trivial
    have h0 := hS.2.2.1 rfl
    obtain rfl : l = [] := List.eq_nil_of_length_eq_zero (by have := hS.1; omega)
    refine (Try.slices_Sort_int_none none c w).mono fun e w' h => ?_
    obtain ⟨h1, h2⟩ := h
    subst h2
    exact ⟨h1, by simpa using hO, World.grownBy.refl _ _⟩
  | some ad =>
    obtain ⟨g, rfl, hg, hlt, hc, hm, hH⟩ := hO.holds
    refine (Try.slices_Sort_int g 0 c l w hH hlt (by omega)).mono fun e w' h => ?_
    obtain ⟨h1, n, os, h2⟩ := h
    subst h2
    refine ⟨h1, ?_, grownBy_row⟩
    exact hO.put (List.length_mergeSort l) n os

theorem slices_Compact_own {base : Nat} {w : World} {o : Option Addr} {c : Nat} {l : List Int} (hO : Own base 3 w 1 RInt o c l) (hl : l.length ≤ 4611686018427387903) :
    Calls Try.prog 40 #[.slice o l.length c] w fun e w' => e = .returned (.slice o (Lib.compact l).length c) ∧ Own base 3 w' 1 RInt o c (Lib.compact l) ∧ w.grownBy w' (o.map (·.block)) := by
  cases o with
  | none =>
    have hS := hO.slr (ok := fun _ => True) fun _ _ => trivial
    have h0 := hS.2.2.1 rfl
    obtain rfl : l = [] := List.eq_nil_of_length_eq_zero (by have := hS.1; omega)
    refine (Try.slices_Compact_int_empty none c w).mono fun e w' h => ?_
    obtain ⟨h1, h2⟩ := h
    subst h2
    exact ⟨h1, by simpa [Lib.compact, Lib.compactUpTo] using hO, World.grownBy.refl _ _⟩
  | some ad =>
    obtain ⟨g, rfl, hg, hlt, hc, hm, hH⟩ := hO.holds
    refine (Try.slices_Compact_int g 0 c l w hH (by omega) hc).mono fun e w' h => ?_
    obtain ⟨h1, q, h2⟩ := h
    subst h2
    have hle : (Lib.compact l).length ≤ l.length := by
      unfold Lib.compact Lib.compactUpTo
      rw [List.length_map]
      exact Nat.le_trans (List.length_filter_le _ _) (by simp)
    have hp := hO.put (ys := Lib.compact l ++ List.replicate (l.length - (Lib.compact l).length) 0) (by simp; omega) q #[]
    have e0 : ∀ ww : World, grow ww #[] = ww := fun ww => by simp [grow]
    rw [e0] at hp
    refine ⟨h1, ?_, ?_⟩
    · exact hp.front
    · have := @grownBy_row w q g (Lib.compact l ++ List.replicate (l.length - (Lib.compact l).length) 0).toArray #[]
      rwa [e0] at this

end Go.Proofs.Ytnihccinpbpllaa

/- The walks through label.Category and At. -/
namespace Go.Proofs.Ytnihccinpbpllaa
open Go.RowKit

set_option maxHeartbeats 400000 in
theorem label_Category (c : Int) (w : World) : Calls Try.prog 23 #[.int .i64 c] w fun e w' => e = .returned (.bool (decide (0 ≤ c ∧ c < 80))) ∧ w = w' := by
  by_cases h1 : 0 ≤ c <;> by_cases h2 : c < 80
  all_goals
    go_enter Try.func23, Try.ntmps23
    go_wp2
    go_ret
    exact ⟨ret_bool (by simp [h1, h2]), rfl⟩

set_option maxHeartbeats 400000 in
theorem label_At (ok : Nat → Prop) (w : World) (la : Option Addr) (lc : Nat) (l : List Lev) (c : Int) (hl : l.length * 16 ≤ 140737488355328) (hR : SlR ok w 2 RLev la lc l) :
    Calls Try.prog 21 #[.slice la l.length lc, .int .i64 c] w fun e w' => e = .returned (.int .i64 (lAt l c)) ∧ Below w.heap.size w w' := by
  go_enter Try.func21, Try.ntmps21
  go_wp2
  go_loopw [9] (fun i wr => ∃ k : Nat, k ≤ l.length ∧ i = .int .i64 k ∧ Below w.heap.size w wr ∧ Hid (lAt l c = lAt (l.drop k) c)) (fun i _ => l.length - (intOf i).toNat)
  case atStart => exact ⟨0, Nat.zero_le _, rfl, Below.refl _ _, rfl⟩
  case round =>
    obtain ⟨k, hk, rfl, hB, hI⟩ := hrel
    by_cases hlt : k < l.length
    · obtain ⟨b, o, rfl, hb, h1, h2⟩ := (hR.below hB).lev_at k hlt
      have hbs := hB.size
      go_wp2
      · have hc : (l[k].c == c) = true := by assumption
        go_ret
        have e : lAt l c = l[k].l := by rw [hI.out, drop_at hlt, lAt, if_pos (by simpa using hc)]
        exact ⟨by rw [e]; rfl, hB.alloc hbs _⟩
      · have hc : (l[k].c == c) = false := by assumption
        go_roundw
        case rel => exact ⟨k + 1, hlt, by go_num, hB.alloc hbs _, by rw [hI.out, drop_at hlt, lAt, if_neg (by simpa using hc)]; rfl⟩
        case measure => simp [intOf]; omega
    · go_wp2
      go_ret
      have e : lAt l c = 1 := by rw [hI.out, List.drop_of_length_le (by omega), lAt]
      exact ⟨by rw [e]; rfl, hB⟩

end Go.Proofs.Ytnihccinpbpllaa

/- The walks through label.each and Flows. -/
namespace Go.Proofs.Ytnihccinpbpllaa
open Go.RowKit

set_option maxHeartbeats 800000 in
theorem label_each (ok : Nat → Prop) (w : World) (la lb : Option Addr) (ca cb : Nat) (a b : List Lev) (hl : (a.length + b.length) * 16 ≤ 140737488355328) (hA : SlR ok w 2 RLev la ca a) (hB : SlR ok w 2 RLev lb cb b) :
    Calls Try.prog 34 #[.slice la a.length ca, .slice lb b.length cb] w fun e w' => ∃ o c, e = .returned (.slice o (eachL a b).length c) ∧ Below w.heap.size w w' ∧ Own w.heap.size 3 w' 1 RInt o c (eachL a b) := by
  obtain ⟨i0, hi, hz0, hz1, hz2⟩ := info_parts info_Level
  obtain ⟨j0, hj, hy0, hy1, hy2⟩ := info_parts info_int
  go_enter Try.func34, Try.ntmps34
  go_wp2_with (first
    | (go_at_call 38; refine (slices_Clone_Label ok _ _ _ _ (by omega) hA).mono ?_; rintro e w1 ⟨a1, c1, rfl, hb1, hO1⟩)
    | (at_builtin; refine wpList_app rfl _ _ 23 rfl 43 i0 _ 2 16 Try.underlying23 hi hz0 hz1 hz2 rfl (by decide) rfl rfl hO1 rfl rfl (hB.below hb1) ?_ ?_ ?_ ?_))
  · exact hl
  · simp [maxLen]; omega
  · exact hb1.size
  · intro a2 c2 w2 hO2 hg2 _
    have hb2 : Below w.heap.size w w2 := hO1.grown hb1 hg2 (Nat.le_refl _) hb1.size
    have hs2 := hb2.size
    have hS : SlR (fun _ => True) w2 2 RLev a2 c2 (a ++ b) := hO2.slr fun _ _ => trivial
    clear hO2 hO1 hg2 hA hB hb1 hi hz0 hz1 hz2
    have hn : (a ++ b).length = a.length + b.length := List.length_append
    generalize hab : a ++ b = ab at hS hn
    have HN := Lib.hid hn
    have HAB := Lib.hid hab
    clear hn hab
    have hab8 : (a.length + b.length) * 16 ≤ 140737488355328 := hl
    generalize hnn : a.length + b.length = n at HN hl hab8 ⊢
    clear hnn
    go_wp2
    go_loopw [5, 13] (fun v i wr => ∃ (k : Nat) (o : Option Addr) (c : Nat), k ≤ n ∧ i = .int .i64 k ∧ v = .slice o k c ∧ Own w2.heap.size 3 wr 1 RInt o c ((catsOf ab).take k) ∧ Below w2.heap.size w2 wr) (fun _ i _ => n - (intOf i).toNat)
    case atStart => exact ⟨0, none, 0, Nat.zero_le _, rfl, rfl, Own.nil _ _ _ _ _, Below.refl _ _⟩
    case round =>
      obtain ⟨k, o, c, hk, rfl, rfl, hO, hB⟩ := hrel
      by_cases hlt : k < n
      · have hlt' : k < ab.length := by rw [HN.out]; exact hlt
        obtain ⟨b0, o0, rfl, hb, h1, h2⟩ := (hS.below hB).lev_at k hlt'
        go_wp2_with (first
          | (at_builtin; go_must (refine wpList_app rfl _ _ 28 rfl 3 j0 _ 1 8 Try.underlying28 hj hy0 hy1 hy2 rfl (by decide) rfl ?x1 ((hO.below ((Below.refl _ _).alloc (Nat.le_refl _) _)).below ((Below.refl _ _).alloc (Nat.le_refl _) _)) rfl rfl (SlR.one (ok := fun _ => True) [.int .i64 ab[k].c] _ ab[k].c (by simp) rfl rfl (by simp [Value.oneCell']) trivial) ?_ ?_ ?_ ?_)))
        case x1 => simp [catsOf, HN.out]; omega
        · simp [catsOf, HN.out]; omega
        · simp [catsOf, HN.out, maxLen]; omega
        · have := hB.size; simp; omega
        · intro a' c' w' hO' hg' _
          have hB' : Below w2.heap.size w2 w' := ((hO.below ((Below.refl _ _).alloc (Nat.le_refl _) _)).below ((Below.refl _ _).alloc (Nat.le_refl _) _)).grown ((hB.alloc hB.size _).alloc (by have := hB.size; simp; omega) _) hg' (Nat.le_refl _) (by have := hB.size; simp; omega)
          have e : (catsOf ab).take k ++ [ab[k].c] = (catsOf ab).take (k + 1) := by
            rw [List.take_succ_eq_append_getElem (by simpa [catsOf] using hlt')]
            simp [catsOf]
          rw [e] at hO'
          have HE := Lib.hid e
          clear e hO hg' h1 h2
          go_wp2
          go_roundw
          case rel => exact ⟨k + 1, a', c', hlt, by go_num, rfl, hO', hB'⟩
          case measure => simp [intOf]; omega
      · have hkn : k = n := by omega
        subst hkn
        have e1 : (catsOf ab).take k = catsOf ab := List.take_of_length_le (by simp [catsOf, HN.out])
        have e2 : (catsOf ab).length = k := by simp [catsOf, HN.out]
        have e3 : Lib.compact ((catsOf ab).mergeSort fun x y => decide (x ≤ y)) = eachL a b := by
          rw [sort_compact, ← HAB.out, eachL]; simp [catsOf]
        rw [e1] at hO
        have E2 := Lib.hid e2
        have E3 := Lib.hid e3
        clear e1 e2 e3
        go_wp2_with fail
        rw [← E2.out]
        refine (slices_Sort_own hO (by rw [E2.out]; omega)).mono ?_
        rintro e w3 ⟨rfl, hO3, hg3⟩
        have hB3 := hO.grown hB hg3 (Nat.le_refl _) hB.size
        have e4 : (catsOf ab).length = ((catsOf ab).mergeSort fun x y => decide (x ≤ y)).length := by simp
        have E4 := Lib.hid e4
        clear e4 hO hg3 hB
        go_wp2_with fail
        rw [E4.out]
        refine (slices_Compact_own hO3 (by rw [← E4.out, E2.out]; omega)).mono ?_
        rintro e w4 ⟨rfl, hO4, hg4⟩
        have hB4 := hO3.grown hB3 hg4 (Nat.le_refl _) hB3.size
        rw [E3.out] at hO4 ⊢
        clear hO3 hg4 hB3
        go_wp2
        go_ret
        exact ⟨o, c, rfl, hb2.trans (hB4.mono hs2), hO4.le hs2⟩

set_option maxHeartbeats 800000 in
theorem label_Flows (ok : Nat → Prop) (w : World) (la lb lo : Option Addr) (ca cb co : Nat) (a b : List Lev) (own : List Int) (hl : (a.length + b.length) * 16 ≤ 140737488355328) (hlo : own.length * 8 ≤ 140737488355328)
    (hA : SlR ok w 2 RLev la ca a) (hB : SlR ok w 2 RLev lb cb b) (hC : SlR ok w 1 RInt lo co own) :
    Calls Try.prog 16 #[.slice la a.length ca, .slice lb b.length cb, .slice lo own.length co] w fun e w' => e = .returned (.bool (flowsL a b own)) ∧ Below w.heap.size w w' := by
  have E0 := Lib.hid (show flowsL a b own = flowsFrom a b own (eachL a b) from rfl)
  go_enter Try.func16, Try.ntmps16
  go_wp2_with (first
    | (go_at_call 34; refine (label_each ok _ _ _ _ _ _ _ hl hA hB).mono ?_; rintro e w1 ⟨o, c, rfl, hb1, hO1⟩))
  have hS : SlR (fun _ => True) w1 1 RInt o c (eachL a b) := hO1.slr fun _ _ => trivial
  have hb1s := hb1.size
  generalize eachL a b = es at hS E0 ⊢
  have hes : es.length ≤ 9223372036854775807 := by have h1 := hS.1; have h2 := hS.2.1; unfold maxLen at h2; omega
  go_loopw [13] (fun i wr => ∃ k : Nat, k ≤ es.length ∧ i = .int .i64 k ∧ Below w1.heap.size w1 wr ∧ Hid (flowsL a b own = flowsFrom a b own (es.drop k))) (fun i _ => es.length - (intOf i).toNat)
  case atStart => exact ⟨0, Nat.zero_le _, rfl, Below.refl _ _, E0.out⟩
  case round =>
    obtain ⟨k, hk, rfl, hB', hI⟩ := hrel
    by_cases hlt : k < es.length
    · obtain ⟨b0, o0, rfl, hb, h1⟩ := (hS.below hB').int_at k hlt
      have hbr : Below w.heap.size w wr := hb1.trans (hB'.mono hb1s)
      by_cases hgt : lAt b es[k] < lAt a es[k]
      · cases hin : inL own es[k]
        all_goals
          have HIN := Lib.hid hin
          clear hin
          go_wp2_with fail
          refine (label_At ok _ _ _ _ _ (by omega) (hA.below hbr)).mono ?_
          rintro e w2 ⟨rfl, hb2⟩
          have hb2' := hbr.keep hb2
          go_wp2_with fail
          refine (label_At ok _ _ _ _ _ (by omega) (hB.below hb2')).mono ?_
          rintro e w3 ⟨rfl, hb3⟩
          have hb3' := hb2'.keep hb3
          go_wp2_with fail
          refine (slices_Contains_int ok _ _ _ _ _ (by omega) (hC.below hb3')).mono ?_
          rintro e w4 ⟨rfl, rfl⟩
          rw [HIN.out]
          go_wp2
        · go_ret
          have e : flowsL a b own = false := by rw [hI.out, drop_at hlt, flowsFrom, if_pos hgt, if_neg (by rw [HIN.out]; simp)]
          exact ⟨by rw [e]; rfl, hb3'⟩
        · go_roundw
          case rel => exact ⟨k + 1, hlt, by go_num, (hB'.keep hb2).keep hb3, by rw [hI.out, drop_at hlt, flowsFrom, if_pos hgt, if_pos HIN.out]; rfl⟩
          case measure => simp [intOf]; omega
      · go_wp2_with fail
        refine (label_At ok _ _ _ _ _ (by omega) (hA.below hbr)).mono ?_
        rintro e w2 ⟨rfl, hb2⟩
        have hb2' := hbr.keep hb2
        go_wp2_with fail
        refine (label_At ok _ _ _ _ _ (by omega) (hB.below hb2')).mono ?_
        rintro e w3 ⟨rfl, hb3⟩
        have hb3' := hb2'.keep hb3
        go_wp2
        go_roundw
        case rel => exact ⟨k + 1, hlt, by go_num, (hB'.keep hb2).keep hb3, by rw [hI.out, drop_at hlt, flowsFrom, if_neg (by omega)]; rfl⟩
        case measure => simp [intOf]; omega
    · go_wp2
      go_ret
      have e : flowsL a b own = true := by rw [hI.out, List.drop_of_length_le (by omega), flowsFrom]
      exact ⟨by rw [e]; rfl, hb1.trans (hB'.mono hb1s)⟩

end Go.Proofs.Ytnihccinpbpllaa

/- Memory of a call's own, block by block: one fact for all of them, and what new blocks, loads and stores make of it. No program is in sight. -/
namespace Go.Proofs.Ytnihccinpbpllaa
open Go.RowKit

theorem wpList_wanted {P : Program} {w : World} {ops : Array Oper} {rest : List Oper} {o : Oper} {A : Act} {Q : Exit → Act → World → Prop} (hg : Region.wanted o (yielded ops A.tmps) = true)
    (h : ∀ K : Act → World → Prop, (∀ a w, wpList P ops Q rest a w → K a w) → o.wp P A w K Q) : wpList P ops Q (o :: rest) A w :=
  wpList_step fun K hK => by simp only [hg, if_true]; exact h K hK

/-! Each stands only at one kind of operation: an arm that begins with it ('with_reducible refine at_.. ?_') falls fast elsewhere. -/
theorem at_store {P : Program} {ops : Array Oper} {Q : Exit → Act → World → Prop} {rest : List Oper} {A : Act} {w : World} {d : Option Tmp} {ty : TypeId} {p : String} {af : Array Edge} {g : Option (Nat × Bool)} {x y : Operand} (T : TypeId)
    (h : wpList P ops Q (⟨d, .store T x y, ty, p, af, g⟩ :: rest) A w) : wpList P ops Q (⟨d, .store T x y, ty, p, af, g⟩ :: rest) A w := h
theorem at_load {P : Program} {ops : Array Oper} {Q : Exit → Act → World → Prop} {rest : List Oper} {A : Act} {w : World} {d : Option Tmp} {ty : TypeId} {p : String} {af : Array Edge} {g : Option (Nat × Bool)} {x : Operand} (T : TypeId)
    (h : wpList P ops Q (⟨d, .load T x, ty, p, af, g⟩ :: rest) A w) : wpList P ops Q (⟨d, .load T x, ty, p, af, g⟩ :: rest) A w := h
theorem at_box {P : Program} {ops : Array Oper} {Q : Exit → Act → World → Prop} {rest : List Oper} {A : Act} {w : World} {d : Option Tmp} {ty : TypeId} {p : String} {af : Array Edge} {g : Option (Nat × Bool)} {x : Operand} (T : TypeId)
    (h : wpList P ops Q (⟨d, .box T x, ty, p, af, g⟩ :: rest) A w) : wpList P ops Q (⟨d, .box T x, ty, p, af, g⟩ :: rest) A w := h
theorem at_alloc {P : Program} {ops : Array Oper} {Q : Exit → Act → World → Prop} {rest : List Oper} {A : Act} {w : World} {d : Option Tmp} {ty : TypeId} {p : String} {af : Array Edge} {g : Option (Nat × Bool)} (T : TypeId)
    (h : wpList P ops Q (⟨d, .alloc T, ty, p, af, g⟩ :: rest) A w) : wpList P ops Q (⟨d, .alloc T, ty, p, af, g⟩ :: rest) A w := h
theorem at_build1 {P : Program} {ops : Array Oper} {Q : Exit → Act → World → Prop} {rest : List Oper} {A : Act} {w : World} {d : Option Tmp} {ty : TypeId} {p : String} {af : Array Edge} {g : Option (Nat × Bool)} {x : Operand} (T : TypeId)
    (h : wpList P ops Q (⟨d, .buildSlice T 1 #[(0, x)], ty, p, af, g⟩ :: rest) A w) : wpList P ops Q (⟨d, .buildSlice T 1 #[(0, x)], ty, p, af, g⟩ :: rest) A w := h

theorem wanted_none {o : Oper} {y : Nat → Option Bool} (h : o.guard = none) : Region.wanted o y = true := by simp [Region.wanted, h]
theorem wanted_some {o : Oper} {y : Nat → Option Bool} {g : Nat} {b : Bool} (h : o.guard = some (g, b)) (hy : y g = some b) : Region.wanted o y = true := by simp [Region.wanted, h, hy]

abbrev Blks := List (Nat × TypeId × List Value)

/-- The world w, which began as w0: of what was there only the blocks in M may have turned; 'own' are blocks of the call's own (or of M), each as it stands. -/
structure St (M : List Nat) (w0 w : World) (own : Blks) : Prop where
  os : w.os = w0.os
  tape : w.tape = w0.tape
  output : w.output = w0.output
  size : w0.heap.size ≤ w.heap.size
  frame : ∀ b, b < w0.heap.size → b ∉ M → w.heap[b]? = w0.heap[b]?
  blk : ∀ x ∈ own, w.heap[x.1]? = some (.cells x.2.2.toArray x.2.1 (0, 0))
  mine : ∀ x ∈ own, x.1 ∈ M ∨ w0.heap.size ≤ x.1
  ne : own.Pairwise (fun x y => x.1 ≠ y.1)

theorem St.start (w : World) : St [] w w [] := ⟨rfl, rfl, rfl, Nat.le_refl _, fun _ _ _ => rfl, by simp, by simp, by simp⟩

theorem St.below {w0 w : World} {own : Blks} (h : St [] w0 w own) : Below w0.heap.size w0 w := ⟨h.os, h.tape, h.output, h.size, fun k hk => h.frame k hk (by simp)⟩

theorem St.lt {M : List Nat} {w0 w : World} {own : Blks} (h : St M w0 w own) {x : Nat × TypeId × List Value} (hx : x ∈ own) : x.1 < w.heap.size := (Array.getElem?_eq_some_iff.1 (h.blk x hx)).1

theorem St.ltAt {M : List Nat} {w0 w : World} {own : Blks} (h : St M w0 w own) {i g : Nat} {T : TypeId} {cs : List Value} (hi : own[i]? = some (g, T, cs)) : g < w.heap.size := h.lt (List.mem_of_getElem? hi)

/-- A call (or whatever leaves old memory as it was). -/
theorem St.call {M : List Nat} {w0 w w' : World} {own : Blks} (h : St M w0 w own) (hb : Below w.heap.size w w') : St M w0 w' own :=
  ⟨hb.os.trans h.os, hb.tape.trans h.tape, hb.output.trans h.output, Nat.le_trans h.size hb.size, fun b hb' hM => (hb.block b (Nat.lt_of_lt_of_le hb' h.size)).trans (h.frame b hb' hM),
    fun x hx => (hb.block x.1 (h.lt hx)).trans (h.blk x hx), h.mine, h.ne⟩

theorem St.drewN {M : List Nat} {w0 w : World} {own : Blks} (h : St M w0 w own) (n : Nat) : St M w0 (w.drewN n) own := h.call ((Below.refl _ _).drewN n)
theorem St.drew {M : List Nat} {w0 w : World} {own : Blks} (h : St M w0 w own) : St M w0 w.drew own := h.call (Below.refl _ _).drew

theorem St.new {M : List Nat} {w0 w : World} {own : Blks} (h : St M w0 w own) (T : TypeId) (cs : List Value) : St M w0 (w.alloc (.cells cs.toArray T)) (own ++ [(w.heap.size, T, cs)]) := by
  have hc := h.call ((Below.refl w.heap.size w).alloc (Nat.le_refl _) (.cells cs.toArray T))
  refine ⟨hc.os, hc.tape, hc.output, hc.size, hc.frame, ?_, ?_, ?_⟩
  · intro x hx
    rcases List.mem_append.1 hx with hx | hx
    · exact hc.blk x hx
    · simp at hx; subst hx; exact heap_alloc_new w _
  · intro x hx
    rcases List.mem_append.1 hx with hx | hx
    · exact h.mine x hx
    · simp at hx; subst hx; exact .inr h.size
  · refine List.pairwise_append.2 ⟨h.ne, by simp, fun x hx y hy => ?_⟩
    simp at hy; subst hy
    have := h.lt hx
    exact Nat.ne_of_lt this

/-- The cells with others laid over them from a place on. -/
def putL : List Value → Nat → List Value → List Value
  | [], _, _ => []
  | c :: cs, 0, [] => c :: cs
  | _ :: cs, 0, v :: vs => v :: putL cs 0 vs
  | c :: cs, o + 1, vs => c :: putL cs o vs

theorem putL_length (cs : List Value) (o : Nat) (vs : List Value) : (putL cs o vs).length = cs.length := by
  induction cs generalizing o vs with
  | nil => simp [putL]
  | cons c cs ih =>
    cases o with
    | zero => cases vs with
      | nil => simp [putL]
      | cons v vs => simp [putL, ih]
    | succ o => simp [putL, ih]

theorem putL_cons (cs : List Value) (o : Nat) (v : Value) (vs : List Value) : putL cs o (v :: vs) = putL (cs.set o v) (o + 1) vs := by
  induction cs generalizing o with
  | nil => simp [putL]
  | cons c cs ih =>
    cases o with
    | zero => simp [putL]
    | succ o => simp only [putL, List.set_cons_succ]; rw [ih]

theorem putL_nil (cs : List Value) (o : Nat) : putL cs o [] = cs := by
  induction cs generalizing o with
  | nil => simp [putL]
  | cons c cs ih => cases o <;> simp [putL, ih]

/-- A row written over: block g alone turns. -/
theorem setCells_block {w : World} {g : Nat} {T : TypeId} : ∀ (vs : List Value) (o : Nat) (cs : List Value), w.heap[g]? = some (.cells cs.toArray T (0, 0)) →
    (w.setCells g o vs).heap[g]? = some (.cells (putL cs o vs).toArray T (0, 0)) ∧ (∀ b, b ≠ g → (w.setCells g o vs).heap[b]? = w.heap[b]?) ∧ (w.setCells g o vs).heap.size = w.heap.size ∧
      (w.setCells g o vs).os = w.os ∧ (w.setCells g o vs).tape = w.tape ∧ (w.setCells g o vs).output = w.output := by
  intro vs
  induction vs generalizing w with
  | nil => intro o cs h; rw [putL_nil]; exact ⟨h, fun _ _ => rfl, rfl, rfl, rfl, rfl⟩
  | cons v vs ih =>
    intro o cs h
    have h1 := heap_setCell_same w g o cs.toArray T v h
    have h1' : (w.setCell ⟨g, o, none⟩ v).heap[g]? = some (.cells (cs.set o v).toArray T (0, 0)) := by rw [h1]; simp
    obtain ⟨a1, a2, a3, a4, a5, a6⟩ := ih (w := w.setCell ⟨g, o, none⟩ v) (o + 1) (cs.set o v) h1'
    rw [putL_cons]
    refine ⟨a1, fun b hb => (a2 b hb).trans (heap_setCell_other w ⟨g, o, none⟩ b v hb), a3.trans (by simp [World.setCell]), a4, a5, a6⟩

theorem St.put {M : List Nat} {w0 w w' : World} {own : Blks} (h : St M w0 w own) {i g : Nat} {T : TypeId} {cs cs' : List Value} (hi : own[i]? = some (g, T, cs))
    (h1 : w'.heap[g]? = some (.cells cs'.toArray T (0, 0))) (h2 : ∀ b, b ≠ g → w'.heap[b]? = w.heap[b]?) (h3 : w'.heap.size = w.heap.size) (h4 : w'.os = w.os) (h5 : w'.tape = w.tape) (h6 : w'.output = w.output) :
    St M w0 w' (own.set i (g, T, cs')) := by
  have hin : (g, T, cs) ∈ own := List.mem_of_getElem? hi
  have hilt : i < own.length := (List.getElem?_eq_some_iff.1 hi).1
  have hget : own[i] = (g, T, cs) := (List.getElem?_eq_some_iff.1 hi).2
  have hids : (own.set i (g, T, cs')).map (·.1) = own.map (·.1) := by
    apply List.ext_getElem?
    intro j
    simp only [List.getElem?_map, List.getElem?_set]
    by_cases hj : i = j
    · subst hj; simp [hilt, hget]
    · simp [hj]
  refine ⟨h4.trans h.os, h5.trans h.tape, h6.trans h.output, by rw [h3]; exact h.size, ?_, ?_, ?_, ?_⟩
  · intro b hb hM
    have hbg : b ≠ g := by
      rintro rfl
      rcases h.mine _ hin with hm | hm
      · exact hM hm
      · simp at hm; omega
    rw [h2 b hbg]; exact h.frame b hb hM
  · intro x hx
    obtain ⟨j, hj⟩ := List.mem_iff_getElem?.1 hx
    rw [List.getElem?_set] at hj
    by_cases hij : i = j
    · subst hij; simp [hilt] at hj; subst hj; exact h1
    · rw [if_neg hij] at hj
      have hxin := List.mem_of_getElem? hj
      have hne : x.1 ≠ g := by
        have hp := List.pairwise_iff_getElem.1 h.ne
        have hjl := (List.getElem?_eq_some_iff.1 hj).1
        have hjx := (List.getElem?_eq_some_iff.1 hj).2
        rcases Nat.lt_or_gt_of_ne hij with hlt | hlt
        · have := hp i j hilt hjl hlt; rw [hget, hjx] at this; exact fun e => this e.symm
        · have := hp j i hjl hilt hlt; rw [hget, hjx] at this; exact this
      rw [h2 _ hne]; exact h.blk x hxin
  · intro x hx
    have : x.1 ∈ (own.set i (g, T, cs')).map (·.1) := List.mem_map.2 ⟨x, hx, rfl⟩
    rw [hids] at this
    obtain ⟨y, hy, e⟩ := List.mem_map.1 this
    rw [← e]; exact h.mine y hy
  · have : ((own.set i (g, T, cs')).map (·.1)).Pairwise (· ≠ ·) := by rw [hids]; exact List.pairwise_map.2 h.ne
    exact List.pairwise_map.1 this

theorem St.setCell {M : List Nat} {w0 w : World} {own : Blks} (h : St M w0 w own) {i g : Nat} {T : TypeId} {cs : List Value} (hi : own[i]? = some (g, T, cs)) (j : Nat) (v : Value) : St M w0 (w.setCell ⟨g, j, none⟩ v) (own.set i (g, T, cs.set j v)) := by
  have h1 := heap_setCell_same w g j cs.toArray T v (h.blk _ (List.mem_of_getElem? hi))
  have h1' : (w.setCell ⟨g, j, none⟩ v).heap[g]? = some (.cells (cs.set j v).toArray T (0, 0)) := by rw [h1]; simp
  exact h.put hi h1' (fun b hb => heap_setCell_other w ⟨g, j, none⟩ b v hb) (by simp [World.setCell]) rfl rfl rfl

/-- From here on: only the blocks at hand may turn. -/
theorem St.rebase {M : List Nat} {w0 w : World} {own : Blks} (h : St M w0 w own) : St (own.map (·.1)) w w own :=
  ⟨rfl, rfl, rfl, Nat.le_refl _, fun _ _ _ => rfl, h.blk, fun x hx => .inl (List.mem_map.2 ⟨x, hx, rfl⟩), h.ne⟩

theorem St.keeps {M : List Nat} {w0 w : World} {own : Blks} (h : St M w0 w own) {ok : Nat → Prop} (hM : ∀ g ∈ M, ¬ ok g) : Keeps ok w0 w := ⟨h.size, fun b hb ho => h.frame b hb fun hm => hM b hm ho⟩

theorem St.belowB {M : List Nat} {w0 w : World} {own : Blks} (h : St M w0 w own) {B : Nat} (hB : B ≤ w0.heap.size) (hM : ∀ g ∈ M, B ≤ g) : Below B w0 w :=
  ⟨h.os, h.tape, h.output, h.size, fun b hb => h.frame b (Nat.lt_of_lt_of_le hb hB) fun hm => by have := hM b hm; omega⟩

theorem SlR.okay {ok ok' : Nat → Prop} {w : World} {α : Type} {sz : Nat} {R : List Value → α → Prop} {a : Option Addr} {c : Nat} {xs : List α} (h : SlR ok w sz R a c xs) (hok : ∀ b, ok b → ok' b) : SlR ok' w sz R a c xs := by
  refine ⟨h.1, h.2.1, h.2.2.1, fun i x hx => ?_⟩
  obtain ⟨b, o, cs, ha, ho, r⟩ := h.2.2.2 i x hx
  exact ⟨b, o, cs, ha, hok _ ho, r⟩

theorem SlR.okayR {ok ok' : Nat → Prop} {w : World} {α : Type} {sz : Nat} {R R' : List Value → α → Prop} {a : Option Addr} {c : Nat} {xs : List α} (h : SlR ok w sz R a c xs) (hok : ∀ b, ok b → ok' b) (hR : ∀ cs x, R cs x → R' cs x) : SlR ok' w sz R' a c xs := by
  refine ⟨h.1, h.2.1, h.2.2.1, fun i x hx => ?_⟩
  obtain ⟨b, o, cs, ha, ho, hb, hr, r⟩ := h.2.2.2 i x hx
  exact ⟨b, o, cs, ha, hok _ ho, hb, hR _ _ hr, r⟩

theorem St.ofBelow {w0 w : World} (h : Below w0.heap.size w0 w) : St [] w0 w [] := (St.start w0).call h

/-- What a slice lies in stays as it is, and is let by the new bounds. -/
theorem SlR.move {ok ok' : Nat → Prop} {w w' : World} {α : Type} {sz : Nat} {R R' : List Value → α → Prop} {a : Option Addr} {c : Nat} {xs : List α} (h : SlR ok w sz R a c xs) (hs : w.heap.size ≤ w'.heap.size) (hk : ∀ b, b < w.heap.size → ok b → ok' b ∧ w'.heap[b]? = w.heap[b]?)
    (hR : ∀ cs x, R cs x → R' cs x) : SlR ok' w' sz R' a c xs := by
  refine ⟨h.1, h.2.1, h.2.2.1, fun i x hx => ?_⟩
  obtain ⟨b, o, cs, ha, ho, hb, hr, hl, h1, hc⟩ := h.2.2.2 i x hx
  obtain ⟨h2, h3⟩ := hk b hb ho
  exact ⟨b, o, cs, ha, h2, Nat.lt_of_lt_of_le hb hs, hR _ _ hr, hl, h1, fun j v hv => (World.cell?_of_block (w := w) h3).trans (hc j v hv)⟩

theorem Own.blockLt {base : Nat} {e : TypeId} {w : World} {α : Type} {sz : Nat} {R : List Value → α → Prop} {a : Option Addr} {c : Nat} {xs : List α} (h : Own base e w sz R a c xs) : ∀ k, a.map (·.block) = some k → base ≤ k ∧ k < w.heap.size := by
  obtain ⟨css, _, _, _, h4⟩ := h
  intro k hk
  exact h4.lt k (by cases a <;> simp at hk; subst hk; rfl)

/-- A block of just one element's cells, as a slice. -/
theorem SlR.ofBlk {w : World} {α : Type} {sz : Nat} {R : List Value → α → Prop} {g : Nat} {T : TypeId} {cs : List Value} {x : α} (h : w.heap[g]? = some (.cells cs.toArray T (0, 0))) (hR : R cs x) (hl : cs.length = sz) (h1 : cs.all Value.oneCell' = true) {ok : Nat → Prop} (ho : ok g) :
    SlR ok w sz R (some ⟨g, 0, none⟩) 1 [x] := by
  refine ⟨Nat.le_refl _, by simp [maxLen], by simp, fun i y hy => ?_⟩
  have hi : i = 0 := by
    have := (List.getElem?_eq_some_iff.1 hy).1
    simp at this; exact this
  subst hi
  simp at hy
  subst hy
  refine ⟨_, _, cs, rfl, ho, (Array.getElem?_eq_some_iff.1 h).1, hR, hl, by simpa using h1, fun j v hv => ?_⟩
  rw [cell_of_row w g _ cs.toArray T (0, 0) h]
  simpa using hv

/-- Whatever lies in the blocks at hand lay there before. -/
theorem St.below2 {M : List Nat} {a w0 w : World} {own0 own : Blks} (h0 : St M a w0 own0) (h : St (own0.map (·.1)) w0 w own) (hsub : ∀ x ∈ own0, x ∈ own) : Below w0.heap.size w0 w := by
  refine ⟨h.os, h.tape, h.output, h.size, fun b hb => ?_⟩
  by_cases hm : b ∈ own0.map (·.1)
  · obtain ⟨x, hx, rfl⟩ := List.mem_map.1 hm
    rw [h.blk x (hsub x hx), h0.blk x hx]
  · exact h.frame b hb hm

end Go.Proofs.Ytnihccinpbpllaa

/- New blocks, loads and stores of a call's own memory, as steps of a walk. No program is in sight. -/
namespace Go.Proofs.Ytnihccinpbpllaa
open Go.RowKit

section
variable {P : Program} {w0 w : World} {M : List Nat} {own : Blks} {ops : Array Oper} {rest : List Oper} {o : Oper} {A : Act} {Q : Exit → Act → World → Prop}

theorem mem_box (st : St M w0 w own) (hgd : Region.wanted o (yielded ops A.tmps) = true) (T : TypeId) (x : Operand) (ho : o.op = .box T x) (v : Value) (hx : A.eval x = v) (cs : List Value) (hcs : v.cells.toList = cs)
    (h : ∀ g w', w0.heap.size ≤ g → St M w0 w' (own ++ [(g, T, cs)]) → Below w.heap.size w w' → wpList P ops Q rest (A.put o.dst (.pointer (some ⟨g, 0, none⟩))) w') : wpList P ops Q (o :: rest) A w := by
  subst hcs
  refine wpList_wanted hgd fun K hK' => ?_
  have hs := st.new T v.cells.toList
  simp only [Array.toArray_toList] at hs
  unfold Oper.wp
  simp only [execOp, ho, hx, Instr.box, newVar, newRow, newObj]
  exact hK' _ _ (h w.heap.size _ st.size hs ((Below.refl _ _).alloc (Nat.le_refl _) _))

theorem mem_alloc (st : St M w0 w own) (hgd : Region.wanted o (yielded ops A.tmps) = true) (T : TypeId) (ho : o.op = .alloc T) (z : Value) (hz : ∀ w, (zeroValue T).run P w = .ok z w) (cs : List Value) (hcs : z.cells.toList = cs)
    (h : ∀ g w', w0.heap.size ≤ g → St M w0 w' (own ++ [(g, T, cs)]) → Below w.heap.size w w' → wpList P ops Q rest (A.put o.dst (.pointer (some ⟨g, 0, none⟩))) w') : wpList P ops Q (o :: rest) A w := by
  subst hcs
  refine wpList_wanted hgd fun K hK' => ?_
  have hs := st.new T z.cells.toList
  simp only [Array.toArray_toList] at hs
  unfold Oper.wp
  simp only [execOp, ho, Instr.alloc, Sem.run_bind, hz, Result.andThen_ok, newVar, newRow, newObj]
  exact hK' _ _ (h w.heap.size _ st.size hs ((Below.refl _ _).alloc (Nat.le_refl _) _))

theorem St.cell (st : St M w0 w own) {i g : Nat} {T : TypeId} {cs : List Value} (hi : own[i]? = some (g, T, cs)) (j : Nat) : w.cell? ⟨g, j, none⟩ = cs[j]? := by
  rw [cell_of_row w g j cs.toArray T (0, 0) (st.blk _ (List.mem_of_getElem? hi))]
  simp

theorem St.free (st : St M w0 w own) {i g : Nat} {T : TypeId} {cs : List Value} (hi : own[i]? = some (g, T, cs)) (j : Nat) : w.frozen? ⟨g, j, none⟩ = false :=
  frozen_of_row w g j cs.toArray T (st.blk _ (List.mem_of_getElem? hi))

theorem add_plain (g o i : Nat) : (⟨g, o, none⟩ : Addr).add i = ⟨g, o + i, none⟩ := by unfold Addr.add; split <;> simp_all

theorem mem_load (st : St M w0 w own) (hgd : Region.wanted o (yielded ops A.tmps) = true) (T : TypeId) (x : Operand) (ho : o.op = .load T x) (g off : Nat) (hx : A.eval x = .pointer (some ⟨g, off, none⟩)) (hagg : ∀ w, (isAgg T).run P w = .ok false w)
    (i : Nat) (T' : TypeId) (cs : List Value) (hi : own[i]? = some (g, T', cs)) (v : Value) (hv : cs[off]? = some v)
    (h : wpList P ops Q rest (A.put o.dst v) w) : wpList P ops Q (o :: rest) A w := by
  refine wpList_wanted hgd fun K hK' => ?_
  have hc := (st.cell hi off).trans hv
  unfold Oper.wp
  simp only [execOp, ho, hx, Instr.loadAt, Instr.sureAddr, loadVar, Sem.run_bind, Sem.run_pure, Result.andThen_ok, hagg]
  simp [load, Sem.run, hc, Result.andThen]
  exact hK' _ _ h

theorem mem_load_agg (st : St M w0 w own) (hgd : Region.wanted o (yielded ops A.tmps) = true) (T : TypeId) (x : Operand) (ho : o.op = .load T x) (g off : Nat) (hx : A.eval x = .pointer (some ⟨g, off, none⟩)) (hagg : ∀ w, (isAgg T).run P w = .ok true w)
    (n : Nat) (hsz : ∀ w, (sizeOf T).run P w = .ok n w) (i : Nat) (T' : TypeId) (cs : List Value) (hi : own[i]? = some (g, T', cs)) (vs : List Value) (hv : (cs.drop off).take n = vs) (hl : vs.length = n)
    (h : wpList P ops Q rest (A.put o.dst (.agg vs.toArray)) w) : wpList P ops Q (o :: rest) A w := by
  refine wpList_wanted hgd fun K hK' => ?_
  have hl' : (loadCells ⟨g, off, none⟩ vs.length).run P w = .ok vs.toArray w := run_loadCells_list (P := P) w ⟨g, off, none⟩ vs (fun j v hj => by
    rw [add_plain, st.cell hi]
    subst hv
    have hjn : j < n := by have := (List.getElem?_eq_some_iff.1 hj).1; omega
    rw [List.getElem?_take_of_lt hjn, List.getElem?_drop] at hj
    exact hj)
  rw [hl] at hl'
  unfold Oper.wp
  simp only [execOp, ho, hx, Instr.loadAt, Instr.sureAddr, loadVar, Sem.run_bind, Sem.run_pure, Result.andThen_ok, hagg, hsz, if_true, hl']
  exact hK' _ _ h

theorem mem_store (st : St M w0 w own) (hgd : Region.wanted o (yielded ops A.tmps) = true) (T : TypeId) (x y : Operand) (ho : o.op = .store T x y) (g off : Nat) (hx : A.eval x = .pointer (some ⟨g, off, none⟩))
    (v : Value) (hy : A.eval y = v) (vs : List Value) (hvs : v.cells.toList = vs) (hsz : ∀ w, (sizeOf T).run P w = .ok vs.length w) (h1 : ∀ u ∈ vs, u.oneCell' = true)
    (i : Nat) (T' : TypeId) (cs : List Value) (hi : own[i]? = some (g, T', cs)) (hl : off + vs.length ≤ cs.length)
    (h : ∀ w', St M w0 w' (own.set i (g, T', putL cs off vs)) → (∀ b, b ≠ g → w'.heap[b]? = w.heap[b]?) → w'.heap.size = w.heap.size → wpList P ops Q rest (A.put o.dst undef) w') : wpList P ops Q (o :: rest) A w := by
  refine wpList_wanted hgd fun K hK' => ?_
  have hst : (storeCells ⟨g, off, none⟩ vs 0).run P w = .ok () (w.setCells g off vs) := run_storeCells_cells (P := P) g off vs 0 w
    (fun j hj => by rw [Nat.add_zero, st.cell hi]; rw [List.getElem?_eq_getElem (by omega)]; rfl) (fun j hj => by rw [Nat.add_zero]; exact st.free hi _) h1
  obtain ⟨a1, a2, a3, a4, a5, a6⟩ := setCells_block (w := w) vs off cs (st.blk _ (List.mem_of_getElem? hi))
  have hs' := st.put hi a1 a2 a3 a4 a5 a6
  have hcs : v.cells.size = vs.length := by rw [← hvs]; simp
  unfold Oper.wp
  simp only [execOp, ho, hx, hy, Instr.storeAt, Instr.sureAddr, storeVar, Sem.run_bind, Sem.run_pure, Result.andThen_ok, hsz, hcs, hvs, ne_eq, not_true, if_false, hst]
  exact hK' _ _ (h _ hs' a2 a3)

/-! ### The same, for the arms of a walk: what is found by looking stands behind one existential -/

theorem mem_load' (st : St M w0 w own) (T : TypeId) (x : Operand) (ho : o.op = .load T x) (hgd : Region.wanted o (yielded ops A.tmps) = true) (hagg : ∀ w, (isAgg T).run P w = .ok false w)
    (h : ∃ (i g off : Nat) (T' : TypeId) (cs : List Value) (v : Value), A.eval x = .pointer (some ⟨g, off, none⟩) ∧ own[i]? = some (g, T', cs) ∧ cs[off]? = some v ∧ wpList P ops Q rest (A.put o.dst v) w) : wpList P ops Q (o :: rest) A w := by
  obtain ⟨i, g, off, T', cs, v, hx, hi, hv, h⟩ := h
  exact mem_load st hgd T x ho g off hx hagg i T' cs hi v hv h

theorem mem_load_agg' (st : St M w0 w own) (T : TypeId) (x : Operand) (ho : o.op = .load T x) (hgd : Region.wanted o (yielded ops A.tmps) = true) (hagg : ∀ w, (isAgg T).run P w = .ok true w) (n : Nat) (hsz : ∀ w, (sizeOf T).run P w = .ok n w)
    (h : ∃ (i g off : Nat) (T' : TypeId) (cs vs : List Value), A.eval x = .pointer (some ⟨g, off, none⟩) ∧ own[i]? = some (g, T', cs) ∧ (cs.drop off).take n = vs ∧ vs.length = n ∧ wpList P ops Q rest (A.put o.dst (.agg vs.toArray)) w) : wpList P ops Q (o :: rest) A w := by
  obtain ⟨i, g, off, T', cs, vs, hx, hi, hv, hl, h⟩ := h
  exact mem_load_agg st hgd T x ho g off hx hagg n hsz i T' cs hi vs hv hl h

theorem mem_store' (st : St M w0 w own) (T : TypeId) (x y : Operand) (ho : o.op = .store T x y) (hgd : Region.wanted o (yielded ops A.tmps) = true) (n : Nat) (hsz : ∀ w, (sizeOf T).run P w = .ok n w)
    (h : ∃ (i g off : Nat) (T' : TypeId) (cs vs : List Value), A.eval x = .pointer (some ⟨g, off, none⟩) ∧ own[i]? = some (g, T', cs) ∧ (A.eval y).cells.toList = vs ∧ vs.length = n ∧ vs.all Value.oneCell' = true ∧ Nat.ble (off + vs.length) cs.length = true ∧
      ∀ w', St M w0 w' (own.set i (g, T', putL cs off vs)) → (∀ b, b ≠ g → w'.heap[b]? = w.heap[b]?) → w'.heap.size = w.heap.size → wpList P ops Q rest (A.put o.dst undef) w') : wpList P ops Q (o :: rest) A w := by
  obtain ⟨i, g, off, T', cs, vs, hx, hi, hv, hl, h1, hle, h⟩ := h
  exact mem_store st hgd T x y ho g off hx _ rfl vs hv (by rw [hl]; exact hsz) (by simpa using h1) i T' cs hi (Nat.le_of_ble_eq_true hle) h

end
end Go.Proofs.Ytnihccinpbpllaa

/- A slice that is built of one element: a new block of a call's own. No program is in sight. -/
namespace Go.Proofs.Ytnihccinpbpllaa
open Go.RowKit

/-- What is owned stays owned while its blocks stay as they are. -/
theorem Own.move {base : Nat} {e : TypeId} {w w' : World} {α : Type} {sz : Nat} {R R' : List Value → α → Prop} {a : Option Addr} {c : Nat} {xs : List α} (h : Own base e w sz R a c xs) (hk : ∀ b, base ≤ b → b < w.heap.size → w'.heap[b]? = w.heap[b]?) (hR : ∀ cs x, R cs x → R' cs x) : Own base e w' sz R' a c xs := by
  obtain ⟨css, h1, h2, h3, h4⟩ := h
  refine ⟨css, h1, h2, fun i x cs hx hc => hR _ _ (h3 i x cs hx hc), h4.1, ?_⟩
  rcases h4.2 with h | ⟨g, cap, cur, hv, hg, hh, r⟩
  · exact .inl h
  · exact .inr ⟨g, cap, cur, hv, hg, by rw [hk g hg (Array.getElem?_eq_some_iff.1 hh).1]; exact hh, r⟩

theorem lay_list : ∀ (l : List Value) (k : Nat) (arr : Array Value), k + l.length ≤ arr.size → ((l.zipIdx k).foldl (fun cs p => cs.setIfInBounds p.2 p.1) arr).toList = arr.toList.take k ++ l ++ arr.toList.drop (k + l.length) := by
  intro l
  induction l with
  | nil => intro k arr _; simp
  | cons v l ih =>
    intro k arr h
    simp only [List.length_cons] at h
    rw [List.zipIdx_cons, List.foldl_cons, ih (k + 1) (arr.setIfInBounds k v) (by simp; omega)]
    have hk : k < arr.toList.length := by simp; omega
    have e1 : (arr.setIfInBounds k v).toList = arr.toList.set k v := by simp
    rw [e1]
    have e2 : (arr.toList.set k v).take (k + 1) = arr.toList.take k ++ [v] := by
      rw [List.take_succ_eq_append_getElem (by simpa using hk)]
      simp [List.take_set]
      exact List.set_eq_of_length_le (by simp; omega)
    have e3 : (arr.toList.set k v).drop (k + 1 + l.length) = arr.toList.drop (k + (l.length + 1)) := by
      rw [List.drop_set_of_lt (by omega)]
      congr 1
      omega
    rw [e2, e3]
    simp

theorem fill_one (cells : Array Value) (v : Value) (n : Nat) (h1 : v.cells.size = n) (h2 : cells.size = n) : Instr.fill (fun i => some (i * n, n)) cells [(0, v)] = some v.cells := by
  have h3 : (v.cells.zipIdx.foldl (fun cs (c, j) => cs.setIfInBounds (0 * n + j) c) cells) = v.cells := by
    have := lay_list v.cells.toList 0 cells (by simp; omega)
    rw [← Array.foldl_toList, Array.toList_zipIdx]
    simp only [Nat.zero_mul, Nat.zero_add] at this ⊢
    apply Array.toList_inj.1
    refine Eq.trans ?_ (this.trans ?_)
    · rfl
    · simp; omega
  simp only [Instr.fill]
  rw [h3]
  rw [if_neg (by simp; omega)]

section
variable {P : Program} {w0 w : World} {M : List Nat} {own : Blks} {ops : Array Oper} {rest : List Oper} {o : Oper} {A : Act} {Q : Exit → Act → World → Prop} {K : Act → World → Prop} {E : Prop}

theorem wp_build1 (st : St M w0 w own) (T T' : TypeId) (x : Operand) (ho : o.op = .buildSlice T 1 #[(0, x)]) (ht : P.underlying T = some (.slice T')) (n : Nat) (hsz : ∀ w, (sizeOf T').run P w = .ok n w) (hn : 0 < n) (hn' : n ≤ 1000) (z : Value) (hz : ∀ w, (zeroValue T').run P w = .ok z w) (cs : List Value) (hx : (A.eval x).cells.toList = cs) (hc : cs.length = n)
    (h : ∀ g w', w0.heap.size ≤ g → g = w.heap.size → St M w0 w' (own ++ [(g, T', cs)]) → Below w.heap.size w w' → w'.heap.size = w.heap.size + 1 → K (A.put o.dst (.slice (some ⟨g, 0, none⟩) 1 1)) w') : Oper.wp P o A w K Q := by
  subst hx
  have hs := st.new T' (A.eval x).cells.toList
  simp only [Array.toArray_toList] at hs
  have hf := fill_one ((Array.range (1 * n)).map (z.cells[· % z.cells.size]!)) (A.eval x) n (by simpa using hc) (by simp)
  have hgt : ¬ 2 ^ 24 < 1 * n := by omega
  have hne : ¬ 1 * n = 0 := by omega
  unfold Oper.wp
  simp only [execOp, ho, Instr.buildSlice, Sem.run_bind, run_underlying ht, Result.andThen_ok, hsz, hgt, hne, if_false, hz, Sem.run_pure, gt_iff_lt, List.map_toArray, List.map_cons, List.map_nil, hf, newRow, newObj]
  exact h w.heap.size _ st.size rfl hs ((Below.refl _ _).alloc (Nat.le_refl _) _) (by simp)

theorem wpList_build1 (st : St M w0 w own) (hgd : Region.wanted o (yielded ops A.tmps) = true) (T T' : TypeId) (x : Operand) (ho : o.op = .buildSlice T 1 #[(0, x)]) (ht : P.underlying T = some (.slice T')) (n : Nat) (hsz : ∀ w, (sizeOf T').run P w = .ok n w) (hn : 0 < n) (hn' : n ≤ 1000) (z : Value) (hz : ∀ w, (zeroValue T').run P w = .ok z w) (cs : List Value) (hx : (A.eval x).cells.toList = cs) (hc : cs.length = n)
    (h : ∀ g w', w0.heap.size ≤ g → g = w.heap.size → St M w0 w' (own ++ [(g, T', cs)]) → Below w.heap.size w w' → w'.heap.size = w.heap.size + 1 → wpList P ops Q rest (A.put o.dst (.slice (some ⟨g, 0, none⟩) 1 1)) w') : wpList P ops Q (o :: rest) A w :=
  wpList_wanted hgd fun _ hK => wp_build1 st T T' x ho ht n hsz hn hn' z hz cs hx hc fun g w' h1 h2 h3 h4 h5 => hK _ _ (h g w' h1 h2 h3 h4 h5)

theorem step_build1 (st : St M w0 w own) (hgd : Region.wanted o (yielded ops A.tmps) = true) (T T' : TypeId) (x : Operand) (ho : o.op = .buildSlice T 1 #[(0, x)]) (ht : P.underlying T = some (.slice T')) (n : Nat) (hsz : ∀ w, (sizeOf T').run P w = .ok n w) (hn : 0 < n) (hn' : n ≤ 1000) (z : Value) (hz : ∀ w, (zeroValue T').run P w = .ok z w) (cs : List Value) (hx : (A.eval x).cells.toList = cs) (hc : cs.length = n)
    (h : ∀ g w', w0.heap.size ≤ g → g = w.heap.size → St M w0 w' (own ++ [(g, T', cs)]) → Below w.heap.size w w' → w'.heap.size = w.heap.size + 1 → K (A.put o.dst (.slice (some ⟨g, 0, none⟩) 1 1)) w') : if Region.wanted o (yielded ops A.tmps) = true then Oper.wp P o A w K Q else E := by
  have hw := hgd
  rw [if_pos hw]
  exact wp_build1 st T T' x ho ht n hsz hn hn' z hz cs hx hc h

end
end Go.Proofs.Ytnihccinpbpllaa

/- The walks through the laws' 'does label answer at all', and label.Flows for one who owns nothing. -/
namespace Go.Proofs.Ytnihccinpbpllaa
open Go.RowKit

def lev32 : List Lev := [⟨3, 2⟩]

theorem label_Flows_nil (ok : Nat → Prop) (w : World) (la lb : Option Addr) (ca cb : Nat) (a b : List Lev) (hl : (a.length + b.length) * 16 ≤ 140737488355328) (hA : SlR ok w 2 RLev la ca a) (hB : SlR ok w 2 RLev lb cb b) :
    Calls Try.prog 16 #[.slice la a.length ca, .slice lb b.length cb, .slice none 0 0] w fun e w' => e = .returned (.bool (flowsL a b [])) ∧ Below w.heap.size w w' :=
  label_Flows ok w la lb none ca cb 0 a b [] hl (by simp) hA hB (SlR.nil ..)

set_option maxHeartbeats 1000000 in
theorem law_flows (w : World) : Calls Try.prog 15 #[] w fun e w' => e = .returned (.bool true) ∧ Below w.heap.size w w' := by
  have H1 := Lib.hid (show flowsL [] lev32 [] = true by decide)
  have H2 := Lib.hid (show flowsL lev32 [] [] = false by decide)
  have H3 := Lib.hid (show flowsL lev32 [] [3] = true by decide)
  have HA := Lib.hid (fun (W : World) (g : Nat) (h : SlR (fun _ => True) W 2 RLev (some ⟨g, 0, none⟩) 1 lev32) => label_Flows (fun _ => True) W none (some ⟨g, 0, none⟩) none 0 1 0 [] lev32 [] (by decide) (by decide) (SlR.nil ..) h (SlR.nil ..))
  have HB := Lib.hid (fun (W : World) (g : Nat) (h : SlR (fun _ => True) W 2 RLev (some ⟨g, 0, none⟩) 1 lev32) => label_Flows (fun _ => True) W (some ⟨g, 0, none⟩) none none 1 0 0 lev32 [] [] (by decide) (by decide) h (SlR.nil ..) (SlR.nil ..))
  have HC := Lib.hid (fun (W : World) (g g' : Nat) (h : SlR (fun _ => True) W 2 RLev (some ⟨g, 0, none⟩) 1 lev32) (h' : SlR (fun _ => True) W 1 RInt (some ⟨g', 0, none⟩) 1 [3]) => label_Flows (fun _ => True) W (some ⟨g, 0, none⟩) none (some ⟨g', 0, none⟩) 1 0 1 lev32 [] [3] (by decide) (by decide) h (SlR.nil ..) h')
  have st := St.start w
  go_enter Try.func15, Try.ntmps15
  go_wp2_with (first | go_skip | ((with_reducible refine at_build1 23 ?_; refine wpList_build1 st (wanted_none rfl) 23 43 _ rfl Try.underlying23 2 Try.sizeOf43 (by decide) (by decide) _ Try.zeroValue43 _ rfl rfl ?_; have stw1 := st; clear st; intro g1 w1 hg1 hg1e st hw1b hw1z; simp [Act.eval, Act.put, Value.cells, putL] at st); clear hg1e))
  have hS1 : SlR (fun _ => True) w1 2 RLev (some ⟨g1, 0, none⟩) 1 lev32 := SlR.ofBlk (R := RLev) (x := (⟨3, 2⟩ : Lev)) (sz := 2) (st.blk (g1, 43, [.int .i64 3, .int .i64 2]) (List.mem_of_getElem? (i := 0) rfl)) rfl rfl rfl trivial
  refine (HA.out w1 g1 hS1).mono ?_
  rintro e w2 ⟨rfl, hb2⟩
  rw [H1.out]
  have hS2 := hS1.below hb2
  replace st := st.call hb2
  clear hb2
  go_wp2_with fail
  refine (HB.out w2 g1 hS2).mono ?_
  rintro e w3 ⟨rfl, hb3⟩
  rw [H2.out]
  have hS3 := hS2.below hb3
  replace st := st.call hb3
  clear hb3
  go_wp2_with fail
  have st4 := st.new 3 [.int .i64 3]
  refine (HC.out _ g1 w3.heap.size (SlR.ofBlk (R := RLev) (x := (⟨3, 2⟩ : Lev)) (sz := 2) (st4.blk (g1, 43, [.int .i64 3, .int .i64 2]) (List.mem_of_getElem? (i := 0) rfl)) rfl rfl rfl trivial) (SlR.ofBlk (R := RInt) (x := (3 : Int)) (sz := 1) (st4.blk (w3.heap.size, 3, [.int .i64 3]) (List.mem_of_getElem? (i := 1) rfl)) rfl rfl rfl trivial)).mono ?_
  rintro e w5 ⟨rfl, hb5⟩
  rw [H3.out]
  replace st := st4.call hb5
  clear hb5
  go_wp2
  go_ret
  exact ⟨rfl, st.below⟩

set_option maxHeartbeats 1000000 in
theorem keep_flows (w : World) : Calls Try.prog 26 #[] w fun e w' => e = .returned (.bool true) ∧ Below w.heap.size w w' := by
  have H1 := Lib.hid (show flowsL [] lev32 [] = true by decide)
  have H2 := Lib.hid (show flowsL lev32 [] [] = false by decide)
  have H3 := Lib.hid (show flowsL lev32 [] [3] = true by decide)
  have HA := Lib.hid (fun (W : World) (g : Nat) (h : SlR (fun _ => True) W 2 RLev (some ⟨g, 0, none⟩) 1 lev32) => label_Flows (fun _ => True) W none (some ⟨g, 0, none⟩) none 0 1 0 [] lev32 [] (by decide) (by decide) (SlR.nil ..) h (SlR.nil ..))
  have HB := Lib.hid (fun (W : World) (g : Nat) (h : SlR (fun _ => True) W 2 RLev (some ⟨g, 0, none⟩) 1 lev32) => label_Flows (fun _ => True) W (some ⟨g, 0, none⟩) none none 1 0 0 lev32 [] [] (by decide) (by decide) h (SlR.nil ..) (SlR.nil ..))
  have HC := Lib.hid (fun (W : World) (g g' : Nat) (h : SlR (fun _ => True) W 2 RLev (some ⟨g, 0, none⟩) 1 lev32) (h' : SlR (fun _ => True) W 1 RInt (some ⟨g', 0, none⟩) 1 [3]) => label_Flows (fun _ => True) W (some ⟨g, 0, none⟩) none (some ⟨g', 0, none⟩) 1 0 1 lev32 [] [3] (by decide) (by decide) h (SlR.nil ..) h')
  have st := St.start w
  go_enter Try.func26, Try.ntmps26
  go_wp2_with (first | go_skip | ((with_reducible refine at_build1 23 ?_; refine wpList_build1 st (wanted_none rfl) 23 43 _ rfl Try.underlying23 2 Try.sizeOf43 (by decide) (by decide) _ Try.zeroValue43 _ rfl rfl ?_; have stw1 := st; clear st; intro g1 w1 hg1 hg1e st hw1b hw1z; simp [Act.eval, Act.put, Value.cells, putL] at st); clear hg1e))
  have hS1 : SlR (fun _ => True) w1 2 RLev (some ⟨g1, 0, none⟩) 1 lev32 := SlR.ofBlk (R := RLev) (x := (⟨3, 2⟩ : Lev)) (sz := 2) (st.blk (g1, 43, [.int .i64 3, .int .i64 2]) (List.mem_of_getElem? (i := 0) rfl)) rfl rfl rfl trivial
  refine (HA.out w1 g1 hS1).mono ?_
  rintro e w2 ⟨rfl, hb2⟩
  rw [H1.out]
  have hS2 := hS1.below hb2
  replace st := st.call hb2
  clear hb2
  go_wp2_with fail
  refine (HB.out w2 g1 hS2).mono ?_
  rintro e w3 ⟨rfl, hb3⟩
  rw [H2.out]
  have hS3 := hS2.below hb3
  replace st := st.call hb3
  clear hb3
  go_wp2_with fail
  have st4 := st.new 3 [.int .i64 3]
  refine (HC.out _ g1 w3.heap.size (SlR.ofBlk (R := RLev) (x := (⟨3, 2⟩ : Lev)) (sz := 2) (st4.blk (g1, 43, [.int .i64 3, .int .i64 2]) (List.mem_of_getElem? (i := 0) rfl)) rfl rfl rfl trivial) (SlR.ofBlk (R := RInt) (x := (3 : Int)) (sz := 1) (st4.blk (w3.heap.size, 3, [.int .i64 3]) (List.mem_of_getElem? (i := 1) rfl)) rfl rfl rfl trivial)).mono ?_
  rintro e w5 ⟨rfl, hb5⟩
  rw [H3.out]
  replace st := st4.call hb5
  clear hb5
  go_wp2
  go_ret
  exact ⟨rfl, st.below⟩

end Go.Proofs.Ytnihccinpbpllaa

/- The walks through label.Join, Meet. -/
namespace Go.Proofs.Ytnihccinpbpllaa
open Go.RowKit

set_option maxHeartbeats 400000 in
theorem label_max (x y : Int) (w : World) : Calls Try.prog 30 #[.int .i64 x, .int .i64 y] w fun e w' => e = .returned (.int .i64 (max x y)) ∧ w = w' := by
  by_cases h : x ≤ y
  all_goals
    go_enter Try.func30, Try.ntmps30
    go_wp2
    go_ret
    exact ⟨ret_int (by omega), rfl⟩

set_option maxHeartbeats 400000 in
theorem label_min (x y : Int) (w : World) : Calls Try.prog 33 #[.int .i64 x, .int .i64 y] w fun e w' => e = .returned (.int .i64 (min x y)) ∧ w = w' := by
  by_cases h : x ≤ y
  all_goals
    go_enter Try.func33, Try.ntmps33
    go_wp2
    go_ret
    exact ⟨ret_int (by omega), rfl⟩

theorem insI_length (x : Int) (l : List Int) : (insI x l).length ≤ l.length + 1 := by
  induction l with
  | nil => simp [insI]
  | cons y l ih =>
    unfold insI
    split
    · simp
    · split
      · simp
      · simp; omega

theorem eachL_length (a b : List Lev) : (eachL a b).length ≤ a.length + b.length := by
  have h : ∀ l : List Int, (uniq l).length ≤ l.length := by
    intro l
    induction l with
    | nil => simp [uniq]
    | cons y l ih => have := insI_length y (uniq l); show (insI y (uniq l)).length ≤ _; simp; omega
  have := h (catsOf a ++ catsOf b)
  simpa [eachL, catsOf] using this

theorem bothFrom_length (f : Int → Int → Int) (a b : List Lev) (l : List Int) : (bothFrom f a b l).length ≤ l.length := by
  induction l with
  | nil => simp [bothFrom]
  | cons c l ih => unfold bothFrom; split <;> simp <;> omega

/-- What has been gathered behind k of the categories. -/
theorem bothFrom_snoc (f : Int → Int → Int) (a b : List Lev) (l : List Int) (k : Nat) (h : k < l.length) :
    bothFrom f a b (l.take (k + 1)) = bothFrom f a b (l.take k) ++ (if f (lAt a l[k]) (lAt b l[k]) = 1 then [] else [⟨l[k], f (lAt a l[k]) (lAt b l[k])⟩]) := by
  rw [List.take_succ_eq_append_getElem h]
  generalize l.take k = t
  induction t with
  | nil => simp only [List.nil_append, bothFrom]
  | cons c t ih => simp only [List.cons_append, bothFrom]; split <;> simp [ih]

set_option maxHeartbeats 1600000 in
theorem label_both_max
    (ok : Nat → Prop) (w : World) (la lb : Option Addr) (ca cb : Nat) (a b : List Lev) (hl : (a.length + b.length) * 16 ≤ 140737488355328)
    (hA : SlR ok w 2 RLev la ca a) (hB : SlR ok w 2 RLev lb cb b) :
    Calls Try.prog 29 #[.slice la a.length ca, .slice lb b.length cb, .func (.func 30) #[] #[]] w fun e w' => ∃ o c, e = .returned (.slice o (bothL max a b).length c) ∧ Below w.heap.size w w' ∧ Own w.heap.size 43 w' 2 RLev o c (bothL max a b) := by
  obtain ⟨f, HF, HFE⟩ : ∃ f : Int → Int → Int, Hid (∀ (x y : Int) (w : World), Calls Try.prog 30 #[.int .i64 x, .int .i64 y] w fun e w' => e = .returned (.int .i64 (f x y)) ∧ w = w') ∧ max = f := ⟨max, label_max, rfl⟩
  rw [HFE]
  clear HFE
  obtain ⟨i0, hi, hz0, hz1, hz2⟩ := info_parts info_Level
  have E0 := Lib.hid (show bothL f a b = bothFrom f a b (eachL a b) from rfl)
  have E1 := Lib.hid (eachL_length a b)
  go_enter Try.func29, Try.ntmps29
  go_wp2_with (first
    | (go_at_call 34; refine (label_each ok _ _ _ _ _ _ _ hl hA hB).mono ?_; rintro e w1 ⟨o, c, rfl, hb1, hO1⟩))
  have hS : SlR (fun _ => True) w1 1 RInt o c (eachL a b) := hO1.slr fun _ _ => trivial
  have hb1s := hb1.size
  clear hO1
  generalize eachL a b = es at hS E0 E1 ⊢
  have hes : es.length ≤ 9223372036854775807 := by have h1 := hS.1; have h2 := hS.2.1; unfold maxLen at h2; omega
  go_loopw [7, 15] (fun v i wr => ∃ (k : Nat) (o : Option Addr) (c n : Nat), k ≤ es.length ∧ i = .int .i64 k ∧ v = .slice o n c ∧ Hid (n = (bothFrom f a b (es.take k)).length) ∧ Own w1.heap.size 43 wr 2 RLev o c (bothFrom f a b (es.take k)) ∧ Below w1.heap.size w1 wr) (fun _ i _ => es.length - (intOf i).toNat)
  case atStart => exact ⟨0, none, 0, 0, Nat.zero_le _, rfl, rfl, rfl, Own.nil _ _ _ _ _, Below.refl _ _⟩
  case round =>
    obtain ⟨k, o, c, n, hk, rfl, rfl, HN, hO, hB'⟩ := hrel
    by_cases hlt : k < es.length
    · obtain ⟨b0, o0, rfl, hb, h1⟩ := (hS.below hB').int_at k hlt
      have hbr : Below w.heap.size w wr := hb1.trans (hB'.mono hb1s)
      have hsn := bothFrom_snoc f a b es k hlt
      generalize hv : f (lAt a es[k]) (lAt b es[k]) = v at hsn
      have HV := Lib.hid hv
      have HSN := Lib.hid hsn
      clear hv hsn
      cases hv1 : (v == 1)
      all_goals
        go_wp2_with fail
        refine (label_At ok _ _ _ _ _ (by omega) (hA.below hbr)).mono ?_
        rintro e w2 ⟨rfl, hb2⟩
        have hb2' := hbr.keep hb2
        go_wp2_with fail
        refine (label_At ok _ _ _ _ _ (by omega) (hB.below hb2')).mono ?_
        rintro e w3 ⟨rfl, hb3⟩
        have hb3' := hb2'.keep hb3
        go_wp2_with fail
        refine (HF.out _ _ _).mono ?_
        rintro e w4 ⟨rfl, rfl⟩
        rw [HV.out]
        have hO3 := (hO.below hb2).below hb3
        have hB3 := (hB'.keep hb2).keep hb3
        clear hO hb2 hb3 h1
      · have hne : (v != 1) = true := by simp [bne, hv1]
        have HV1 := Lib.hid hv1
        clear hv1
        go_wp2_with (first
          | (at_builtin; go_must (refine wpList_app rfl _ _ 23 rfl 43 i0 _ 2 16 Try.underlying23 hi hz0 hz1 hz2 rfl (by decide) rfl HN.out (hO3.below ((Below.refl _ _).alloc (Nat.le_refl _) _)) rfl rfl (SlR.one (ok := fun _ => True) [.int .i64 es[k], .int .i64 v] _ (Lev.mk es[k] v) rfl rfl rfl (by simp [Value.oneCell']) trivial) ?_ ?_ ?_ ?_)))
        · have := bothFrom_length f a b (es.take k); have := E1.out; have := HN.out; simp at *; omega
        · have := bothFrom_length f a b (es.take k); have := E1.out; have := HN.out; simp [maxLen] at *; omega
        · have := hB3.size; simp; omega
        · intro a' c' w' hO' hg' _
          have hB4 : Below w1.heap.size w1 w' := (hO3.below ((Below.refl _ _).alloc (Nat.le_refl _) _)).grown (hB3.alloc hB3.size _) hg' (Nat.le_refl _) (by have := hB3.size; simp; omega)
          have hv1' : v ≠ 1 := by simpa using HV1.out
          have e : bothFrom f a b (es.take k) ++ [Lev.mk es[k] v] = bothFrom f a b (es.take (k + 1)) := by rw [HSN.out, if_neg hv1']
          rw [e] at hO'
          have hn : n + 1 = (bothFrom f a b (es.take (k + 1))).length := by rw [← e, HN.out]; simp
          have HN' := Lib.hid hn
          clear e hn hO3 hg' hv1'
          go_wp2
          go_roundw
          case rel => exact ⟨k + 1, a', c', n + 1, hlt, by go_num, rfl, HN', hO', hB4⟩
          case measure => simp [intOf]; omega
      · have hne : (v != 1) = false := by simp [bne, hv1]
        have hv1' : v = 1 := by simpa using hv1
        have e : bothFrom f a b (es.take (k + 1)) = bothFrom f a b (es.take k) := by rw [HSN.out, if_pos hv1', List.append_nil]
        have HE := Lib.hid e
        clear e hv1'
        go_wp2
        go_roundw
        case rel => exact ⟨k + 1, o, c, n, hlt, by go_num, rfl, by rw [HE.out]; exact HN, by rw [HE.out]; exact hO3, hB3⟩
        case measure => simp [intOf]; omega
    · go_wp2
      go_ret
      have e : bothFrom f a b (es.take k) = bothL f a b := by rw [E0.out, List.take_of_length_le (by omega)]
      rw [e] at hO HN
      exact ⟨o, c, by rw [← HN.out]; rfl, hb1.trans (hB'.mono hb1s), hO.le hb1s⟩

set_option maxHeartbeats 1600000 in
theorem label_both_min
    (ok : Nat → Prop) (w : World) (la lb : Option Addr) (ca cb : Nat) (a b : List Lev) (hl : (a.length + b.length) * 16 ≤ 140737488355328)
    (hA : SlR ok w 2 RLev la ca a) (hB : SlR ok w 2 RLev lb cb b) :
    Calls Try.prog 29 #[.slice la a.length ca, .slice lb b.length cb, .func (.func 33) #[] #[]] w fun e w' => ∃ o c, e = .returned (.slice o (bothL min a b).length c) ∧ Below w.heap.size w w' ∧ Own w.heap.size 43 w' 2 RLev o c (bothL min a b) := by
  obtain ⟨f, HF, HFE⟩ : ∃ f : Int → Int → Int, Hid (∀ (x y : Int) (w : World), Calls Try.prog 33 #[.int .i64 x, .int .i64 y] w fun e w' => e = .returned (.int .i64 (f x y)) ∧ w = w') ∧ min = f := ⟨min, label_min, rfl⟩
  rw [HFE]
  clear HFE
  obtain ⟨i0, hi, hz0, hz1, hz2⟩ := info_parts info_Level
  have E0 := Lib.hid (show bothL f a b = bothFrom f a b (eachL a b) from rfl)
  have E1 := Lib.hid (eachL_length a b)
  go_enter Try.func29, Try.ntmps29
  go_wp2_with (first
    | (go_at_call 34; refine (label_each ok _ _ _ _ _ _ _ hl hA hB).mono ?_; rintro e w1 ⟨o, c, rfl, hb1, hO1⟩))
  have hS : SlR (fun _ => True) w1 1 RInt o c (eachL a b) := hO1.slr fun _ _ => trivial
  have hb1s := hb1.size
  clear hO1
  generalize eachL a b = es at hS E0 E1 ⊢
  have hes : es.length ≤ 9223372036854775807 := by have h1 := hS.1; have h2 := hS.2.1; unfold maxLen at h2; omega
  go_loopw [7, 15] (fun v i wr => ∃ (k : Nat) (o : Option Addr) (c n : Nat), k ≤ es.length ∧ i = .int .i64 k ∧ v = .slice o n c ∧ Hid (n = (bothFrom f a b (es.take k)).length) ∧ Own w1.heap.size 43 wr 2 RLev o c (bothFrom f a b (es.take k)) ∧ Below w1.heap.size w1 wr) (fun _ i _ => es.length - (intOf i).toNat)
  case atStart => exact ⟨0, none, 0, 0, Nat.zero_le _, rfl, rfl, rfl, Own.nil _ _ _ _ _, Below.refl _ _⟩
  case round =>
    obtain ⟨k, o, c, n, hk, rfl, rfl, HN, hO, hB'⟩ := hrel
    by_cases hlt : k < es.length
    · obtain ⟨b0, o0, rfl, hb, h1⟩ := (hS.below hB').int_at k hlt
      have hbr : Below w.heap.size w wr := hb1.trans (hB'.mono hb1s)
      have hsn := bothFrom_snoc f a b es k hlt
      generalize hv : f (lAt a es[k]) (lAt b es[k]) = v at hsn
      have HV := Lib.hid hv
      have HSN := Lib.hid hsn
      clear hv hsn
      cases hv1 : (v == 1)
      all_goals
        go_wp2_with fail
        refine (label_At ok _ _ _ _ _ (by omega) (hA.below hbr)).mono ?_
        rintro e w2 ⟨rfl, hb2⟩
        have hb2' := hbr.keep hb2
        go_wp2_with fail
        refine (label_At ok _ _ _ _ _ (by omega) (hB.below hb2')).mono ?_
        rintro e w3 ⟨rfl, hb3⟩
        have hb3' := hb2'.keep hb3
        go_wp2_with fail
        refine (HF.out _ _ _).mono ?_
        rintro e w4 ⟨rfl, rfl⟩
        rw [HV.out]
        have hO3 := (hO.below hb2).below hb3
        have hB3 := (hB'.keep hb2).keep hb3
        clear hO hb2 hb3 h1
      · have hne : (v != 1) = true := by simp [bne, hv1]
        have HV1 := Lib.hid hv1
        clear hv1
        go_wp2_with (first
          | (at_builtin; go_must (refine wpList_app rfl _ _ 23 rfl 43 i0 _ 2 16 Try.underlying23 hi hz0 hz1 hz2 rfl (by decide) rfl HN.out (hO3.below ((Below.refl _ _).alloc (Nat.le_refl _) _)) rfl rfl (SlR.one (ok := fun _ => True) [.int .i64 es[k], .int .i64 v] _ (Lev.mk es[k] v) rfl rfl rfl (by simp [Value.oneCell']) trivial) ?_ ?_ ?_ ?_)))
        · have := bothFrom_length f a b (es.take k); have := E1.out; have := HN.out; simp at *; omega
        · have := bothFrom_length f a b (es.take k); have := E1.out; have := HN.out; simp [maxLen] at *; omega
        · have := hB3.size; simp; omega
        · intro a' c' w' hO' hg' _
          have hB4 : Below w1.heap.size w1 w' := (hO3.below ((Below.refl _ _).alloc (Nat.le_refl _) _)).grown (hB3.alloc hB3.size _) hg' (Nat.le_refl _) (by have := hB3.size; simp; omega)
          have hv1' : v ≠ 1 := by simpa using HV1.out
          have e : bothFrom f a b (es.take k) ++ [Lev.mk es[k] v] = bothFrom f a b (es.take (k + 1)) := by rw [HSN.out, if_neg hv1']
          rw [e] at hO'
          have hn : n + 1 = (bothFrom f a b (es.take (k + 1))).length := by rw [← e, HN.out]; simp
          have HN' := Lib.hid hn
          clear e hn hO3 hg' hv1'
          go_wp2
          go_roundw
          case rel => exact ⟨k + 1, a', c', n + 1, hlt, by go_num, rfl, HN', hO', hB4⟩
          case measure => simp [intOf]; omega
      · have hne : (v != 1) = false := by simp [bne, hv1]
        have hv1' : v = 1 := by simpa using hv1
        have e : bothFrom f a b (es.take (k + 1)) = bothFrom f a b (es.take k) := by rw [HSN.out, if_pos hv1', List.append_nil]
        have HE := Lib.hid e
        clear e hv1'
        go_wp2
        go_roundw
        case rel => exact ⟨k + 1, o, c, n, hlt, by go_num, rfl, by rw [HE.out]; exact HN, by rw [HE.out]; exact hO3, hB3⟩
        case measure => simp [intOf]; omega
    · go_wp2
      go_ret
      have e : bothFrom f a b (es.take k) = bothL f a b := by rw [E0.out, List.take_of_length_le (by omega)]
      rw [e] at hO HN
      exact ⟨o, c, by rw [← HN.out]; rfl, hb1.trans (hB'.mono hb1s), hO.le hb1s⟩

set_option maxHeartbeats 400000 in
theorem label_Join (ok : Nat → Prop) (w : World) (la lb : Option Addr) (ca cb : Nat) (a b : List Lev) (hl : (a.length + b.length) * 16 ≤ 140737488355328) (hA : SlR ok w 2 RLev la ca a) (hB : SlR ok w 2 RLev lb cb b) :
    Calls Try.prog 10 #[.slice la a.length ca, .slice lb b.length cb] w fun e w' => ∃ o c, e = .returned (.slice o (bothL max a b).length c) ∧ Below w.heap.size w w' ∧ Own w.heap.size 43 w' 2 RLev o c (bothL max a b) := by
  go_enter Try.func10, Try.ntmps10
  go_wp2_with fail
  refine (label_both_max ok _ _ _ _ _ _ _ hl hA hB).mono ?_
  rintro e w1 ⟨o, c, rfl, hb, hO⟩
  go_wp2
  go_ret
  exact ⟨o, c, rfl, hb, hO⟩

set_option maxHeartbeats 400000 in
theorem label_Meet (ok : Nat → Prop) (w : World) (la lb : Option Addr) (ca cb : Nat) (a b : List Lev) (hl : (a.length + b.length) * 16 ≤ 140737488355328) (hA : SlR ok w 2 RLev la ca a) (hB : SlR ok w 2 RLev lb cb b) :
    Calls Try.prog 13 #[.slice la a.length ca, .slice lb b.length cb] w fun e w' => ∃ o c, e = .returned (.slice o (bothL min a b).length c) ∧ Below w.heap.size w w' ∧ Own w.heap.size 43 w' 2 RLev o c (bothL min a b) := by
  go_enter Try.func13, Try.ntmps13
  go_wp2_with fail
  refine (label_both_min ok _ _ _ _ _ _ _ hl hA hB).mono ?_
  rintro e w1 ⟨o, c, rfl, hb, hO⟩
  go_wp2
  go_ret
  exact ⟨o, c, rfl, hb, hO⟩

end Go.Proofs.Ytnihccinpbpllaa

/- 'append' in the words of SlR and Own, wherever it stands: in a list of operations, in a region that draws its order. No program is in sight. -/
namespace Go.Proofs.Ytnihccinpbpllaa
open Go.RowKit

/-- The block is the one at o, or new in w. -/
def AtOrNew (o : Option Addr) (g : Nat) (w : World) : Prop := o.map (·.block) = some g ∨ g = w.heap.size

section
variable {P : Program} {w : World} {ops : Array Oper} {rest : List Oper} {o : Oper} {A : Act} {Q : Exit → Act → World → Prop} {K : Act → World → Prop} {E : Prop}

theorem wp_app (s x : Operand) (t : TypeId)
    (ho : o.op = .call { callee := .builtin .append, args := #[s, x], argTypes := #[t, t] })
    (e : TypeId) (i : TypeInfo) (z : Value) (sz bytes : Nat) (ht : P.underlying t = some (.slice e)) (hi : P.info? e = some i) (hz : i.zero = some z) (hsize : i.size = sz) (hby : i.bytes = bytes) (hzs : z.cells.size = sz) (hsz : 0 < sz)
    {α : Type} {R : List Value → α → Prop} {base : Nat} {ok : Nat → Prop} {a : Option Addr} {c n : Nat} {xs : List α} (hs : A.eval s = .slice a n c) (hn : n = xs.length) (hO : Own base e w sz R a c xs)
    {b : Option Addr} {m d : Nat} {ys : List α} (hx : A.eval x = .slice b m d) (hm : m = ys.length) (hR : SlR ok w sz R b d ys) (hl : (xs.length + ys.length) * bytes ≤ 140737488355328) (h63 : xs.length + ys.length ≤ maxLen) (hbase : base ≤ w.heap.size)
    (h : ∀ a' c' w', Own base e w' sz R a' c' (xs ++ ys) → w.grownBy w' (a.map (·.block)) → (a' = none → xs = [] ∧ ys = []) → K (A.put o.dst (.slice a' (n + m) c')) w') : Oper.wp P o A w K Q := by
  subst hn hm
  obtain ⟨css, h1, h2, h3, hown⟩ := hO
  obtain ⟨dss, g1, g2, g3, g4⟩ := hR.all
  have hob : (Value.slice a xs.length c).ownBlock = a.map (·.block) := by cases a <;> rfl
  have hall : ∀ cs ∈ css ++ dss, cs.length = sz ∧ ∀ v ∈ cs, v.oneCell' = true := by
    intro cs hcs
    rcases List.mem_append.1 hcs with hcs | hcs
    · exact h2 cs hcs
    · exact g2 cs hcs
  have hRR : ∀ (i : Nat) (x : α) (cs : List Value), (xs ++ ys)[i]? = some x → (css ++ dss)[i]? = some cs → R cs x := by
    intro i x cs hx hc
    by_cases hi : i < xs.length
    · rw [List.getElem?_append_left hi] at hx
      rw [List.getElem?_append_left (by omega)] at hc
      exact h3 i x cs hx hc
    · rw [List.getElem?_append_right (by omega)] at hx
      rw [List.getElem?_append_right (by omega), h1] at hc
      exact g3 _ x cs hx hc
  cases b with
  | none =>
    have hd := hR.2.2.1 rfl
    subst hd
    have hys : ys = [] := List.eq_nil_of_length_eq_zero (by have := hR.1; omega)
    subst hys
    have hdss : dss = [] := List.eq_nil_of_length_eq_zero (by simpa using g1)
    subst hdss
    have hrun := run_append_owned_none (P := P) (w := w) base t o.type e i sz ht hi _ xs.length css.flatten hown
    unfold Oper.wp
    simp only [List.length_nil] at hx
    simp [execOp, ho, resolve, invoke, builtin, hs, hx, hrun, Result.andThen]
    have := h a c w (by rw [List.append_nil]; exact ⟨css, h1, h2, h3, hown⟩) (World.grownBy.refl _ _) (by
      rintro rfl
      rcases hown.2 with ⟨_, hn⟩ | ⟨_, _, _, hv, _⟩
      · exact ⟨List.eq_nil_of_length_eq_zero hn, rfl⟩
      · simp at hv)
    have h' : K (A.put o.dst (.slice a xs.length c)) w := by simpa using this
    exact h'
  | some ad =>
    have hfl : dss.flatten.length = ys.length * sz := by rw [flatten_length fun cs h => (g2 cs h).1, g1]
    refine wp_append_own w s x t ho base e i z sz bytes ht hi hz hsize hby hzs hsz _ xs.length css.flatten hs hown ad ys.length d dss.flatten hx hfl ?_ ?_ h63 hl hbase ?_
    · intro j u hj
      obtain ⟨p, q, cs, rfl, hq, hp, hv⟩ := flatten_inv (fun cs h => (g2 cs h).1) hj
      obtain ⟨b, o, ha, _, _, hc⟩ := g4 p cs hp
      simp only [Option.some.injEq] at ha
      subst ha
      have := hc q u hv
      rw [Addr.add_lit]
      rw [← this]
      congr 2
      omega
    · intro u hu
      obtain ⟨cs, hcs, huc⟩ := List.mem_flatten.1 hu
      exact (g2 cs hcs).2 u huc
    · intro v' w' hown' hgr hnil
      rw [hob] at hgr
      have hOwn : ∀ a' c', v' = .slice a' (xs.length + ys.length) c' → Own base e w' sz R a' c' (xs ++ ys) := by
        rintro a' c' rfl
        exact ⟨css ++ dss, by simp [h1, g1], hall, hRR, by simpa using hown'⟩
      rcases hown'.2 with ⟨rfl, hn⟩ | ⟨g, cap, cur, rfl, _⟩
      · have e1 : xs = [] := List.eq_nil_of_length_eq_zero (by omega)
        have e2 : ys = [] := List.eq_nil_of_length_eq_zero (by omega)
        have := h none 0 w' (hOwn _ _ (by simp [e1, e2])) hgr (fun _ => ⟨e1, e2⟩)
        simpa [e1, e2] using this
      · exact h _ _ w' (hOwn _ _ rfl) hgr (by simp)

/-- 'append([]T(nil), ys...)': a copy. -/
theorem wp_copy (s x : Operand) (t : TypeId)
    (ho : o.op = .call { callee := .builtin .append, args := #[s, x], argTypes := #[t, t] })
    (e : TypeId) (i : TypeInfo) (z : Value) (sz bytes : Nat) (ht : P.underlying t = some (.slice e)) (hi : P.info? e = some i) (hz : i.zero = some z) (hsize : i.size = sz) (hby : i.bytes = bytes) (hzs : z.cells.size = sz) (hsz : 0 < sz)
    {α : Type} {R : List Value → α → Prop} {ok : Nat → Prop} (hs : A.eval s = .slice none 0 0)
    {b : Option Addr} {m d : Nat} {ys : List α} (hx : A.eval x = .slice b m d) (hm : m = ys.length) (hR : SlR ok w sz R b d ys) (hl : ys.length * bytes ≤ 140737488355328)
    (h : ∀ a' c' w', Own w.heap.size e w' sz R a' c' ys → Below w.heap.size w w' → K (A.put o.dst (.slice a' m c')) w') : Oper.wp P o A w K Q := by
  refine wp_app s x t ho e i z sz bytes ht hi hz hsize hby hzs hsz (xs := ([] : List α)) hs rfl (Own.nil w.heap.size _ _ _ _) hx hm hR (by simpa using hl) ?_ (Nat.le_refl _) ?_
  · have := hR.1; have := hR.2.1; simp; omega
  · intro a' c' w' hO hg _
    rw [Nat.zero_add]
    exact h a' c' w' (by simpa using hO) ((Below.refl _ _).grown hg (Nat.le_refl _) (by simp))

theorem wpList_copy (hgd : Region.wanted o (yielded ops A.tmps) = true) (s x : Operand) (t : TypeId)
    (ho : o.op = .call { callee := .builtin .append, args := #[s, x], argTypes := #[t, t] })
    (e : TypeId) (i : TypeInfo) (z : Value) (sz bytes : Nat) (ht : P.underlying t = some (.slice e)) (hi : P.info? e = some i) (hz : i.zero = some z) (hsize : i.size = sz) (hby : i.bytes = bytes) (hzs : z.cells.size = sz) (hsz : 0 < sz)
    {α : Type} {R : List Value → α → Prop} {ok : Nat → Prop} (hs : A.eval s = .slice none 0 0)
    {b : Option Addr} {m d : Nat} {ys : List α} (hx : A.eval x = .slice b m d) (hm : m = ys.length) (hR : SlR ok w sz R b d ys) (hl : ys.length * bytes ≤ 140737488355328)
    (h : ∀ a' c' w', Own w.heap.size e w' sz R a' c' ys → Below w.heap.size w w' → wpList P ops Q rest (A.put o.dst (.slice a' m c')) w') : wpList P ops Q (o :: rest) A w :=
  wpList_wanted hgd fun _ hK => wp_copy s x t ho e i z sz bytes ht hi hz hsize hby hzs hsz hs hx hm hR hl fun a' c' w' h1 h2 => hK _ _ (h a' c' w' h1 h2)

theorem step_copy (hgd : Region.wanted o (yielded ops A.tmps) = true) (s x : Operand) (t : TypeId)
    (ho : o.op = .call { callee := .builtin .append, args := #[s, x], argTypes := #[t, t] })
    (e : TypeId) (i : TypeInfo) (z : Value) (sz bytes : Nat) (ht : P.underlying t = some (.slice e)) (hi : P.info? e = some i) (hz : i.zero = some z) (hsize : i.size = sz) (hby : i.bytes = bytes) (hzs : z.cells.size = sz) (hsz : 0 < sz)
    {α : Type} {R : List Value → α → Prop} {ok : Nat → Prop} (hs : A.eval s = .slice none 0 0)
    {b : Option Addr} {m d : Nat} {ys : List α} (hx : A.eval x = .slice b m d) (hm : m = ys.length) (hR : SlR ok w sz R b d ys) (hl : ys.length * bytes ≤ 140737488355328)
    (h : ∀ a' c' w', Own w.heap.size e w' sz R a' c' ys → Below w.heap.size w w' → K (A.put o.dst (.slice a' m c')) w') : if Region.wanted o (yielded ops A.tmps) = true then Oper.wp P o A w K Q else E := by
  have hw := hgd
  rw [if_pos hw]
  exact wp_copy s x t ho e i z sz bytes ht hi hz hsize hby hzs hsz hs hx hm hR hl h

theorem step_app (hgd : Region.wanted o (yielded ops A.tmps) = true) (s x : Operand) (t : TypeId)
    (ho : o.op = .call { callee := .builtin .append, args := #[s, x], argTypes := #[t, t] })
    (e : TypeId) (i : TypeInfo) (z : Value) (sz bytes : Nat) (ht : P.underlying t = some (.slice e)) (hi : P.info? e = some i) (hz : i.zero = some z) (hsize : i.size = sz) (hby : i.bytes = bytes) (hzs : z.cells.size = sz) (hsz : 0 < sz)
    {α : Type} {R : List Value → α → Prop} {base : Nat} {ok : Nat → Prop} {a : Option Addr} {c n : Nat} {xs : List α} (hs : A.eval s = .slice a n c) (hn : n = xs.length) (hO : Own base e w sz R a c xs)
    {b : Option Addr} {m d : Nat} {ys : List α} (hx : A.eval x = .slice b m d) (hm : m = ys.length) (hR : SlR ok w sz R b d ys) (hl : (xs.length + ys.length) * bytes ≤ 140737488355328) (h63 : xs.length + ys.length ≤ maxLen) (hbase : base ≤ w.heap.size)
    (h : ∀ a' c' w', Own base e w' sz R a' c' (xs ++ ys) → w.grownBy w' (a.map (·.block)) → (a' = none → xs = [] ∧ ys = []) → K (A.put o.dst (.slice a' (n + m) c')) w') : if Region.wanted o (yielded ops A.tmps) = true then Oper.wp P o A w K Q else E := by
  have hw := hgd
  rw [if_pos hw]
  exact wp_app s x t ho e i z sz bytes ht hi hz hsize hby hzs hsz hs hn hO hx hm hR hl h63 hbase h

/-- One element more: the row lies where it lay, or in a block that is new. -/
theorem wp_app1 (s x : Operand) (t : TypeId)
    (ho : o.op = .call { callee := .builtin .append, args := #[s, x], argTypes := #[t, t] })
    (e : TypeId) (i : TypeInfo) (z : Value) (sz bytes : Nat) (ht : P.underlying t = some (.slice e)) (hi : P.info? e = some i) (hz : i.zero = some z) (hsize : i.size = sz) (hby : i.bytes = bytes) (hzs : z.cells.size = sz) (hsz : 0 < sz)
    {α : Type} {R : List Value → α → Prop} {base : Nat} {ok : Nat → Prop} {a : Option Addr} {c n : Nat} {xs : List α} (hs : A.eval s = .slice a n c) (hn : n = xs.length) (hO : Own base e w sz R a c xs)
    {b : Option Addr} {d : Nat} {y : α} (hx : A.eval x = .slice b 1 d) (hR : SlR ok w sz R b d [y]) (hl : (xs.length + 1) * bytes ≤ 140737488355328) (h63 : xs.length + 1 ≤ maxLen) (hbase : base ≤ w.heap.size)
    (h : ∀ g c' w', Own base e w' sz R (some ⟨g, 0, none⟩) c' (xs ++ [y]) → w.grownBy w' (a.map (·.block)) → AtOrNew a g w → g < w'.heap.size → K (A.put o.dst (.slice (some ⟨g, 0, none⟩) (n + 1) c')) w') : Oper.wp P o A w K Q := by
  subst hn
  obtain ⟨css, h1, h2, h3, hown⟩ := hO
  obtain ⟨dss, g1, g2, g3, g4⟩ := hR.all
  have hob : (Value.slice a xs.length c).ownBlock = a.map (·.block) := by cases a <;> rfl
  match dss, g1 with
  | [ds], _ =>
    have hds := g2 ds (by simp)
    obtain ⟨b0, o0, rfl, _, _, hc⟩ := g4 0 ds rfl
    refine wp_append_lies w s x t ho base e i z sz bytes ht hi hz hsize hby hzs hsz _ xs.length css.flatten hs hown ⟨b0, o0, none⟩ 1 d ds hx (by rw [hds.1]; omega) ?_ hds.2 (by omega) h63 hl hbase _ rfl ?_
    · intro j u hj
      have := hc j u hj
      rw [Addr.add_lit]
      rw [← this]
      congr 2
      omega
    · intro g cap w' hown' hgr hg hlt
      rw [hob] at hgr hg
      refine h g cap w' ⟨css ++ [ds], by simp [h1], ?_, ?_, by simpa using hown'⟩ hgr hg hlt
      · intro cs hcs
        rcases List.mem_append.1 hcs with hcs | hcs
        · exact h2 cs hcs
        · simp at hcs; subst hcs; exact hds
      · intro i x cs hx hc
        by_cases hi : i < xs.length
        · rw [List.getElem?_append_left hi] at hx
          rw [List.getElem?_append_left (by omega)] at hc
          exact h3 i x cs hx hc
        · rw [List.getElem?_append_right (by omega)] at hx
          rw [List.getElem?_append_right (by omega), h1] at hc
          exact g3 _ x cs hx hc

theorem wpList_app1 (hgd : Region.wanted o (yielded ops A.tmps) = true) (s x : Operand) (t : TypeId)
    (ho : o.op = .call { callee := .builtin .append, args := #[s, x], argTypes := #[t, t] })
    (e : TypeId) (i : TypeInfo) (z : Value) (sz bytes : Nat) (ht : P.underlying t = some (.slice e)) (hi : P.info? e = some i) (hz : i.zero = some z) (hsize : i.size = sz) (hby : i.bytes = bytes) (hzs : z.cells.size = sz) (hsz : 0 < sz)
    {α : Type} {R : List Value → α → Prop} {base : Nat} {ok : Nat → Prop} {a : Option Addr} {c n : Nat} {xs : List α} (hs : A.eval s = .slice a n c) (hn : n = xs.length) (hO : Own base e w sz R a c xs)
    {b : Option Addr} {d : Nat} {y : α} (hx : A.eval x = .slice b 1 d) (hR : SlR ok w sz R b d [y]) (hl : (xs.length + 1) * bytes ≤ 140737488355328) (h63 : xs.length + 1 ≤ maxLen) (hbase : base ≤ w.heap.size)
    (h : ∀ g c' w', Own base e w' sz R (some ⟨g, 0, none⟩) c' (xs ++ [y]) → w.grownBy w' (a.map (·.block)) → AtOrNew a g w → g < w'.heap.size → wpList P ops Q rest (A.put o.dst (.slice (some ⟨g, 0, none⟩) (n + 1) c')) w') : wpList P ops Q (o :: rest) A w :=
  wpList_wanted hgd fun _ hK => wp_app1 s x t ho e i z sz bytes ht hi hz hsize hby hzs hsz hs hn hO hx hR hl h63 hbase fun g c' w' h1 h2 h3 h4 => hK _ _ (h g c' w' h1 h2 h3 h4)

theorem step_app1 (hgd : Region.wanted o (yielded ops A.tmps) = true) (s x : Operand) (t : TypeId)
    (ho : o.op = .call { callee := .builtin .append, args := #[s, x], argTypes := #[t, t] })
    (e : TypeId) (i : TypeInfo) (z : Value) (sz bytes : Nat) (ht : P.underlying t = some (.slice e)) (hi : P.info? e = some i) (hz : i.zero = some z) (hsize : i.size = sz) (hby : i.bytes = bytes) (hzs : z.cells.size = sz) (hsz : 0 < sz)
    {α : Type} {R : List Value → α → Prop} {base : Nat} {ok : Nat → Prop} {a : Option Addr} {c n : Nat} {xs : List α} (hs : A.eval s = .slice a n c) (hn : n = xs.length) (hO : Own base e w sz R a c xs)
    {b : Option Addr} {d : Nat} {y : α} (hx : A.eval x = .slice b 1 d) (hR : SlR ok w sz R b d [y]) (hl : (xs.length + 1) * bytes ≤ 140737488355328) (h63 : xs.length + 1 ≤ maxLen) (hbase : base ≤ w.heap.size)
    (h : ∀ g c' w', Own base e w' sz R (some ⟨g, 0, none⟩) c' (xs ++ [y]) → w.grownBy w' (a.map (·.block)) → AtOrNew a g w → g < w'.heap.size → K (A.put o.dst (.slice (some ⟨g, 0, none⟩) (n + 1) c')) w') : if Region.wanted o (yielded ops A.tmps) = true then Oper.wp P o A w K Q else E := by
  have hw := hgd
  rw [if_pos hw]
  exact wp_app1 s x t ho e i z sz bytes ht hi hz hsize hby hzs hsz hs hn hO hx hR hl h63 hbase h

end
end Go.Proofs.Ytnihccinpbpllaa

/- The walks through the references' copies of mail, frames, lines. -/
namespace Go.Proofs.Ytnihccinpbpllaa
open Go.RowKit

def mailV (m : Mail) (la : Option Addr) (lc : Nat) (ga : Option Addr) (gc : Nat) : Value := .agg #[.int .i64 m.host, .int .i64 m.thread, .slice la m.label.length lc, .slice ga m.grants.length gc, .string m.text]

/-- New memory: blocks that did not lie in w. -/
abbrev newIn (w : World) : Nat → Prop := fun b => w.heap.size ≤ b

end Go.Proofs.Ytnihccinpbpllaa

/- The walk through the reference's copy of a frame. -/
namespace Go.Proofs.Ytnihccinpbpllaa
open Go.RowKit

def frameV (f : Frame) (la : Option Addr) (lc : Nat) (ga : Option Addr) (gc : Nat) (ca : Option Addr) (cc : Nat) : Value := .agg #[.int .i64 f.src, .int .i64 f.dst, .int .i64 f.seq, .bool f.ack, .int .i64 f.thread, .int .i64 f.mail.host, .int .i64 f.mail.thread, .slice la f.mail.label.length lc, .slice ga f.mail.grants.length gc, .string f.mail.text, .slice ca f.certs.length cc]

/-- What a frame holds lies within the bounds of append. -/
structure Frame.Fits (f : Frame) : Prop where
  label : f.mail.label.length * 16 ≤ 140737488355328
  grants : f.mail.grants.length * 8 ≤ 140737488355328
  certs : f.certs.length * 32 ≤ 140737488355328

end Go.Proofs.Ytnihccinpbpllaa

/- The walks through line.Good. -/
namespace Go.Proofs.Ytnihccinpbpllaa
open Go.RowKit

def sentOk (next prev : Int) (s : Sent) : Bool := decide (1 ≤ s.frame.seq ∧ prev < s.frame.seq ∧ s.frame.seq ≤ next ∧ 1 ≤ s.tries ∧ s.tries ≤ 5 ∧ 0 ≤ s.due ∧ s.due ≤ 2199023255552)

def sentsOk (next : Int) : Int → List Sent → Bool
  | _, [] => true
  | p, s :: l => if sentOk next p s = true then sentsOk next s.frame.seq l else false

def headOk (next high : Int) (n : Nat) : Bool := decide (0 ≤ next ∧ next ≤ 1099511627775 ∧ 0 ≤ high ∧ high ≤ 1099511627776 ∧ n ≤ 8)

def lineOk (l : Line) : Bool := if headOk l.next l.high l.sent.length = true then sentsOk l.next 0 l.sent else false

/-- The number of the frame ahead of the k-th. -/
def prevS (l : List Sent) (k : Nat) : Int := if h : 0 < k ∧ k ≤ l.length then (l[k - 1]'(by omega)).frame.seq else 0
theorem prevS_zero (l : List Sent) : prevS l 0 = 0 := by simp [prevS]
theorem prevS_succ (l : List Sent) (k : Nat) (h : k < l.length) : prevS l (k + 1) = l[k].frame.seq := by
  unfold prevS
  rw [dif_pos ⟨by omega, by omega⟩]
  simp
theorem sentsOk_step (next : Int) (l : List Sent) (k : Nat) (h : k < l.length) : sentsOk next (prevS l k) (l.drop k) = (if sentOk next (prevS l k) l[k] = true then sentsOk next (prevS l (k + 1)) (l.drop (k + 1)) else false) := by
  rw [List.drop_eq_getElem_cons h, sentsOk, prevS_succ l k h]

theorem line_bad {L : Line} {k : Nat} (h : k < L.sent.length) (hI : Hid (sentsOk L.next 0 L.sent = sentsOk L.next (prevS L.sent k) (L.sent.drop k))) (hb : sentOk L.next (prevS L.sent k) L.sent[k] = false) : lineOk L = false := by
  have e : sentsOk L.next 0 L.sent = false := by rw [hI.out, sentsOk_step _ _ k h, if_neg (by rw [hb]; simp)]
  unfold lineOk
  rw [e]
  split <;> rfl
theorem line_go {L : Line} {k : Nat} (h : k < L.sent.length) (hI : Hid (sentsOk L.next 0 L.sent = sentsOk L.next (prevS L.sent k) (L.sent.drop k))) (hb : sentOk L.next (prevS L.sent k) L.sent[k] = true) : Hid (sentsOk L.next 0 L.sent = sentsOk L.next (prevS L.sent (k + 1)) (L.sent.drop (k + 1))) := by
  show _ = _
  rw [hI.out, sentsOk_step _ _ k h, if_pos hb]

/-- A line, as a value. -/
def lineV (next high : Int) (sa : Option Addr) (n sc : Nat) (e : Eight) : Value := .agg #[.int .i64 next, .slice sa n sc, .int .i64 high, .bool e.s0, .bool e.s1, .bool e.s2, .bool e.s3, .bool e.s4, .bool e.s5, .bool e.s6, .bool e.s7]

end Go.Proofs.Ytnihccinpbpllaa

/- The walk through the reference's copy of a line. -/
namespace Go.Proofs.Ytnihccinpbpllaa
open Go.RowKit

def sentCells (s : Sent) (la : Option Addr) (lc : Nat) (ga : Option Addr) (gc : Nat) (ca : Option Addr) (cc : Nat) : List Value := [.int .i64 s.frame.src, .int .i64 s.frame.dst, .int .i64 s.frame.seq, .bool s.frame.ack, .int .i64 s.frame.thread, .int .i64 s.frame.mail.host, .int .i64 s.frame.mail.thread, .slice la s.frame.mail.label.length lc, .slice ga s.frame.mail.grants.length gc, .string s.frame.mail.text, .slice ca s.frame.certs.length cc, .int .i64 s.tries, .int .i64 s.due]

/-- Blocks from B on, but the one at o. -/
def besides (B : Nat) (o : Option Addr) (b : Nat) : Prop := B ≤ b ∧ o.map (·.block) ≠ some b

theorem RSent.move {ok ok' : Nat → Prop} {w w' : World} {cs : List Value} {s : Sent} (h : RSent ok w cs s) (hs : w.heap.size ≤ w'.heap.size) (hk : ∀ b, b < w.heap.size → ok b → ok' b ∧ w'.heap[b]? = w.heap[b]?) : RSent ok' w' cs s := by
  obtain ⟨la, lc, ga, gc, ca, cc, e, h1, h2, h3⟩ := h
  exact ⟨la, lc, ga, gc, ca, cc, e, h1.move hs hk fun _ _ h => h, h2.move hs hk fun _ _ h => h, h3.move hs hk fun _ _ h => h⟩

/-- One element more, whose own memory is new: what the elements hold still lies apart from the row. -/
theorem sents_push {B : Nat} {wr wa w' : World} {T : TypeId} {o : Option Addr} {c g : Nat} {l : List Sent} (hr : Below wr.heap.size wr wa) (hO : Own B T w' 13 (RSent (besides B o) wa) (some ⟨g, 0, none⟩) c l) (hg : wa.grownBy w' (o.map (·.block))) (hat : AtOrNew o g wa) :
    Own B T w' 13 (RSent (besides B (some ⟨g, 0, none⟩)) w') (some ⟨g, 0, none⟩) c l :=
  hO.mono fun _ _ h => h.move hg.size fun b hb ho => ⟨⟨ho.1, fun e => by
    simp only [Option.map_some, Option.some.injEq] at e
    subst e
    rcases hat with hat | hat
    · exact ho.2 hat
    · omega⟩, hg.block b hb fun e => ho.2 e.symm⟩

end Go.Proofs.Ytnihccinpbpllaa

/- The walks through the library's clones of lists, and line's wait. -/
namespace Go.Proofs.Ytnihccinpbpllaa
open Go.RowKit

end Go.Proofs.Ytnihccinpbpllaa
