/- Small words for what lies in memory: what a slice of records reads as, and that it goes on to read so while memory only grows. No program is in sight. -/
import Derived.WalkKit
import Derived.WalkSpells
import Derived.WalkLawsBesides
import Derived.Handy
import Derived.Lib.Hide
import Derived.Deep.RegionHeld3
import Derived.Deep.QuietTactic
import Derived.BigQuiet
set_option linter.unusedSimpArgs false
set_option linter.unusedVariables false
namespace Go.Proofs.Ytbngblmdcggfdaa
open Go.RowKit

/-- Of the blocks that 'ok' lets, w' holds what w held; none has gone. -/
structure Keeps (ok : Nat → Prop) (w w' : World) : Prop where
  size : w.heap.size ≤ w'.heap.size
  block : ∀ b, b < w.heap.size → ok b → w'.heap[b]? = w.heap[b]?

theorem Keeps.of_below {ok : Nat → Prop} {w w' : World} (h : Below w.heap.size w w') : Keeps ok w w' := ⟨h.size, fun b hb _ => h.block b hb⟩
theorem Keeps.refl (ok : Nat → Prop) (w : World) : Keeps ok w w := ⟨Nat.le_refl _, fun _ _ _ => rfl⟩
theorem Keeps.trans {ok : Nat → Prop} {w w1 w2 : World} (h : Keeps ok w w1) (k : Keeps ok w1 w2) : Keeps ok w w2 :=
  ⟨Nat.le_trans h.size k.size, fun b hb ho => (k.block b (Nat.lt_of_lt_of_le hb h.size) ho).trans (h.block b hb ho)⟩
theorem Keeps.cell {ok : Nat → Prop} {w w' : World} (h : Keeps ok w w') {p : Addr} (hp : p.block < w.heap.size) (ho : ok p.block) : w'.cell? p = w.cell? p :=
  World.cell?_of_block (w := w) (h.block p.block hp ho)
theorem _root_.Go.RowKit.Below.keep {w w1 w2 : World} (h : Below w.heap.size w w1) (k : Below w1.heap.size w1 w2) : Below w.heap.size w w2 := h.trans (k.mono h.size)

theorem _root_.Go.RowKit.Below.drewN {B : Nat} {a w : World} (h : Below B a w) (n : Nat) : Below B a (w.drewN n) := ⟨h.os, h.tape, h.output, h.size, h.block⟩

/-- The slice at a, of capacity c, reads as xs: element i lies at i * sz behind a, and its cells stand for x by R; its block is one that 'ok' lets. -/
def SlR (ok : Nat → Prop) (w : World) {α : Type} (sz : Nat) (R : List Value → α → Prop) (a : Option Addr) (c : Nat) (xs : List α) : Prop :=
  xs.length ≤ c ∧ c ≤ maxLen ∧ (a = none → c = 0) ∧
  ∀ i x, xs[i]? = some x → ∃ b o cs, a = some ⟨b, o, none⟩ ∧ ok b ∧ b < w.heap.size ∧ R cs x ∧ cs.length = sz ∧ (∀ v ∈ cs, v.oneCell' = true) ∧ ∀ j v, cs[j]? = some v → w.cell? ⟨b, o + i * sz + j, none⟩ = some v

theorem SlR.mono {ok : Nat → Prop} {w w' : World} {α : Type} {sz : Nat} {R R' : List Value → α → Prop} {a : Option Addr} {c : Nat} {xs : List α} (h : SlR ok w sz R a c xs) (hk : Keeps ok w w') (hR : ∀ cs x, R cs x → R' cs x) :
    SlR ok w' sz R' a c xs := by
  refine ⟨h.1, h.2.1, h.2.2.1, fun i x hx => ?_⟩
  obtain ⟨b, o, cs, ha, ho, hb, hr, hl, h1, hc⟩ := h.2.2.2 i x hx
  exact ⟨b, o, cs, ha, ho, Nat.lt_of_lt_of_le hb hk.size, hR _ _ hr, hl, h1, fun j v hv => (hk.cell (p := ⟨b, _, none⟩) hb ho).trans (hc j v hv)⟩

theorem SlR.keep {ok : Nat → Prop} {w w' : World} {α : Type} {sz : Nat} {R : List Value → α → Prop} {a : Option Addr} {c : Nat} {xs : List α} (h : SlR ok w sz R a c xs) (hk : Keeps ok w w') : SlR ok w' sz R a c xs := h.mono hk fun _ _ h => h

theorem SlR.below {ok : Nat → Prop} {w w' : World} {α : Type} {sz : Nat} {R : List Value → α → Prop} {a : Option Addr} {c : Nat} {xs : List α} (h : SlR ok w sz R a c xs) (hk : Below w.heap.size w w') : SlR ok w' sz R a c xs := h.keep (.of_below hk)

theorem SlR.nil (ok : Nat → Prop) (w : World) {α : Type} (sz : Nat) (R : List Value → α → Prop) : SlR ok w sz R none 0 ([] : List α) := ⟨Nat.le_refl _, Nat.zero_le _, fun _ => rfl, fun i x hx => by simp at hx⟩

/-- The cells of such a slice, all of them. -/
theorem SlR.all {ok : Nat → Prop} {w : World} {α : Type} {sz : Nat} {R : List Value → α → Prop} {a : Option Addr} {c : Nat} {xs : List α} (h : SlR ok w sz R a c xs) :
    ∃ css : List (List Value), css.length = xs.length ∧ (∀ cs ∈ css, cs.length = sz ∧ ∀ v ∈ cs, v.oneCell' = true) ∧ (∀ (i : Nat) (x : α) (cs : List Value), xs[i]? = some x → css[i]? = some cs → R cs x) ∧
      ∀ (i : Nat) (cs : List Value), css[i]? = some cs → ∃ b o, a = some ⟨b, o, none⟩ ∧ ok b ∧ b < w.heap.size ∧ ∀ j v, cs[j]? = some v → w.cell? ⟨b, o + i * sz + j, none⟩ = some v := by
  classical
  have hh := h.2.2.2
  clear h
  suffices H : ∀ k, k ≤ xs.length → ∃ css : List (List Value), css.length = k ∧ (∀ cs ∈ css, cs.length = sz ∧ ∀ v ∈ cs, v.oneCell' = true) ∧ (∀ (i : Nat) (x : α) (cs : List Value), xs[i]? = some x → css[i]? = some cs → R cs x) ∧
      ∀ (i : Nat) (cs : List Value), css[i]? = some cs → ∃ b o, a = some ⟨b, o, none⟩ ∧ ok b ∧ b < w.heap.size ∧ ∀ j v, cs[j]? = some v → w.cell? ⟨b, o + i * sz + j, none⟩ = some v by
    exact H xs.length (Nat.le_refl _)
  intro k
  induction k with
  | zero => exact fun _ => ⟨[], rfl, by simp, by simp, by simp⟩
  | succ k ih =>
    intro hk
    obtain ⟨css, h1, h2, h3, h4⟩ := ih (by omega)
    obtain ⟨b, o, cs, ha, ho, hb, hr, hl, hone, hc⟩ := hh k xs[k] (by simp [hk])
    refine ⟨css ++ [cs], by simp [h1], ?_, ?_, ?_⟩
    · intro x hx
      rcases List.mem_append.1 hx with hx | hx
      · exact h2 x hx
      · simp at hx; subst hx; exact ⟨hl, hone⟩
    · intro i x d hx hd
      by_cases hi : i < k
      · rw [List.getElem?_append_left (by omega)] at hd
        exact h3 i x d hx hd
      · rw [List.getElem?_append_right (by omega)] at hd
        have : i - css.length = 0 := by
          have := (List.getElem?_eq_some_iff.1 hd).1
          simp at this; omega
        rw [this] at hd
        simp at hd
        subst hd
        have hik : i = k := by omega
        subst hik
        rw [List.getElem?_eq_getElem (by omega)] at hx
        simp at hx
        subst hx
        exact hr
    · intro i d hd
      by_cases hi : i < k
      · rw [List.getElem?_append_left (by omega)] at hd
        exact h4 i d hd
      · rw [List.getElem?_append_right (by omega)] at hd
        have : i - css.length = 0 := by
          have := (List.getElem?_eq_some_iff.1 hd).1
          simp at this; omega
        rw [this] at hd
        simp at hd
        subst hd
        have hik : i = k := by omega
        subst hik
        exact ⟨b, o, ha, ho, hb, hc⟩

/-- One list of cells behind the other. -/
theorem flatten_at {css : List (List Value)} {sz : Nat} (hs : ∀ cs ∈ css, cs.length = sz) {i : Nat} {cs : List Value} (hi : css[i]? = some cs) {j : Nat} {v : Value} (hj : cs[j]? = some v) : css.flatten[i * sz + j]? = some v := by
  induction css generalizing i with
  | nil => simp at hi
  | cons c css ih =>
    have hc := hs c (by simp)
    have hcs := hs cs (List.mem_of_getElem? hi)
    have hj' : j < sz := by rw [← hcs]; exact (List.getElem?_eq_some_iff.1 hj).1
    cases i with
    | zero =>
      simp only [List.getElem?_cons_zero, Option.some.injEq] at hi
      subst hi
      simp only [List.flatten_cons, Nat.zero_mul, Nat.zero_add]
      rw [List.getElem?_append_left (by omega)]
      exact hj
    | succ i =>
      simp only [List.getElem?_cons_succ] at hi
      simp only [List.flatten_cons]
      rw [List.getElem?_append_right (by rw [hc, Nat.succ_mul]; omega), hc, show (i + 1) * sz + j - sz = i * sz + j by rw [Nat.succ_mul]; omega]
      exact ih (fun x hx => hs x (by simp [hx])) hi

theorem flatten_length {css : List (List Value)} {sz : Nat} (hs : ∀ cs ∈ css, cs.length = sz) : css.flatten.length = css.length * sz := by
  induction css with
  | nil => simp
  | cons c css ih => simp only [List.flatten_cons, List.length_append, List.length_cons, hs c (by simp), ih (fun x hx => hs x (by simp [hx])), Nat.succ_mul]; omega

/-- .. and what stands at a place of all of them. -/
theorem flatten_inv {css : List (List Value)} {sz : Nat} (hs : ∀ cs ∈ css, cs.length = sz) {n : Nat} {v : Value} (h : css.flatten[n]? = some v) : ∃ i j cs, n = i * sz + j ∧ j < sz ∧ css[i]? = some cs ∧ cs[j]? = some v := by
  induction css generalizing n with
  | nil => simp at h
  | cons c css ih =>
    have hc := hs c (by simp)
    simp only [List.flatten_cons] at h
    by_cases hn : n < c.length
    · rw [List.getElem?_append_left hn] at h
      exact ⟨0, n, c, by simp, by omega, rfl, h⟩
    · rw [List.getElem?_append_right (by omega)] at h
      obtain ⟨i, j, cs, h1, h2, h3, h4⟩ := ih (fun x hx => hs x (by simp [hx])) h
      exact ⟨i + 1, j, cs, by rw [Nat.succ_mul]; omega, h2, h3, h4⟩

/-- The slice at a, of capacity c, is the call's own (its block is one from 'base' on, and no other slice lies there), and reads as xs. -/
def Own (base : Nat) (e : TypeId) (w : World) {α : Type} (sz : Nat) (R : List Value → α → Prop) (a : Option Addr) (c : Nat) (xs : List α) : Prop :=
  ∃ css : List (List Value), css.length = xs.length ∧ (∀ cs ∈ css, cs.length = sz ∧ ∀ v ∈ cs, v.oneCell' = true) ∧ (∀ (i : Nat) (x : α) (cs : List Value), xs[i]? = some x → css[i]? = some cs → R cs x) ∧ w.ownsRow base e sz (.slice a xs.length c) xs.length css.flatten

theorem Own.nil (base : Nat) (e : TypeId) (w : World) {α : Type} (sz : Nat) (R : List Value → α → Prop) : Own base e w sz R none 0 ([] : List α) := ⟨[], rfl, by simp, by simp, World.ownsRow_nil _ _ _ _⟩

/-- What is the call's own can be read. -/
theorem Own.slr {base : Nat} {e : TypeId} {w : World} {α : Type} {sz : Nat} {R : List Value → α → Prop} {a : Option Addr} {c : Nat} {xs : List α} (h : Own base e w sz R a c xs) {ok : Nat → Prop} (hok : ∀ b, base ≤ b → ok b) : SlR ok w sz R a c xs := by
  obtain ⟨css, h1, h2, h3, h4⟩ := h
  have h4' := h4
  rcases h4.2 with ⟨hv, hn⟩ | ⟨g, cap, cur, hv, hg, hh, hnc, hm, hs, ht⟩
  · simp only [Value.slice.injEq] at hv
    obtain ⟨rfl, _, rfl⟩ := hv
    have : xs = [] := List.eq_nil_of_length_eq_zero hn
    subst this
    exact SlR.nil _ _ _ _
  · simp only [Value.slice.injEq] at hv
    obtain ⟨rfl, _, rfl⟩ := hv
    refine ⟨hnc, hm, by simp, fun i x hx => ?_⟩
    have hi : i < css.length := by rw [h1]; exact (List.getElem?_eq_some_iff.1 hx).1
    have hcs := h2 css[i] (by simp)
    have hb : g < w.heap.size := (Array.getElem?_eq_some_iff.1 hh).1
    refine ⟨g, 0, css[i], rfl, hok _ hg, hb, h3 i x _ hx (by simp [hi]), hcs.1, hcs.2, fun j v hv => ?_⟩
    have := flatten_at (fun cs h => (h2 cs h).1) (i := i) (cs := css[i]) (by simp [hi]) hv
    have hj : i * sz + j < xs.length * sz := by
      have := (List.getElem?_eq_some_iff.1 this).1
      rw [flatten_length fun cs h => (h2 cs h).1, h1] at this
      exact this
    rw [show 0 + i * sz + j = i * sz + j by omega, h4'.cellAt _ hj]
    exact this

theorem Own.mono {base : Nat} {e : TypeId} {w : World} {α : Type} {sz : Nat} {R R' : List Value → α → Prop} {a : Option Addr} {c : Nat} {xs : List α} (h : Own base e w sz R a c xs) (hR : ∀ cs x, R cs x → R' cs x) : Own base e w sz R' a c xs := by
  obtain ⟨css, h1, h2, h3, h4⟩ := h
  exact ⟨css, h1, h2, fun i x cs hx hc => hR _ _ (h3 i x cs hx hc), h4⟩

/-- While memory only grows what is owned stays owned. -/
theorem Own.below {base : Nat} {e : TypeId} {w w' : World} {α : Type} {sz : Nat} {R : List Value → α → Prop} {a : Option Addr} {c : Nat} {xs : List α} (h : Own base e w sz R a c xs) (hk : Below w.heap.size w w') : Own base e w' sz R a c xs := by
  obtain ⟨css, h1, h2, h3, h4⟩ := h
  refine ⟨css, h1, h2, h3, h4.1, ?_⟩
  rcases h4.2 with h | ⟨g, cap, cur, hv, hg, hh, r⟩
  · exact .inl h
  · exact .inr ⟨g, cap, cur, hv, hg, by rw [hk.block g (Array.getElem?_eq_some_iff.1 hh).1]; exact hh, r⟩

/-- 'append(xs, ys...)' onto a slice that is the call's own; it may grow. -/
theorem wpList_app {P : Program} {w : World} {ops : Array Oper} {rest : List Oper} {o : Oper} {A : Act} {Q : Exit → Act → World → Prop} (hgd : o.guard = none) (s x : Operand) (t : TypeId)
    (ho : o.op = .call { callee := .builtin .append, args := #[s, x], argTypes := #[t, t] })
    (e : TypeId) (i : TypeInfo) (z : Value) (sz bytes : Nat) (ht : P.underlying t = some (.slice e)) (hi : P.info? e = some i) (hz : i.zero = some z) (hsize : i.size = sz) (hby : i.bytes = bytes) (hzs : z.cells.size = sz) (hsz : 0 < sz)
    {α : Type} {R : List Value → α → Prop} {base : Nat} {ok : Nat → Prop} {a : Option Addr} {c n : Nat} {xs : List α} (hs : A.eval s = .slice a n c) (hn : n = xs.length) (hO : Own base e w sz R a c xs)
    {b : Option Addr} {m d : Nat} {ys : List α} (hx : A.eval x = .slice b m d) (hm : m = ys.length) (hR : SlR ok w sz R b d ys) (hl : (xs.length + ys.length) * bytes ≤ 140737488355328) (h63 : xs.length + ys.length ≤ maxLen) (hbase : base ≤ w.heap.size)
    (h : ∀ a' c' w', Own base e w' sz R a' c' (xs ++ ys) → w.grownBy w' (a.map (·.block)) → (a' = none → xs = [] ∧ ys = []) → wpList P ops Q rest (A.put o.dst (.slice a' (n + m) c')) w') : wpList P ops Q (o :: rest) A w := by
  subst hn hm
  obtain ⟨css, h1, h2, h3, hown⟩ := hO
  obtain ⟨dss, g1, g2, g3, g4⟩ := hR.all
  have hob : (Value.slice a xs.length c).ownBlock = a.map (·.block) := by cases a <;> rfl
  have hall : ∀ cs ∈ css ++ dss, cs.length = sz ∧ ∀ v ∈ cs, v.oneCell' = true := by
    intro cs hcs
    rcases List.mem_append.1 hcs with hcs | hcs
    · exact h2 cs hcs
    · exact g2 cs hcs
  have hRR : ∀ (i : Nat) (x : α) (cs : List Value), (xs ++ ys)[i]? = some x → (css ++ dss)[i]? = some cs → R cs x := by
    intro i x cs hx hc
    by_cases hi : i < xs.length
    · rw [List.getElem?_append_left hi] at hx
      rw [List.getElem?_append_left (by omega)] at hc
      exact h3 i x cs hx hc
    · rw [List.getElem?_append_right (by omega)] at hx
      rw [List.getElem?_append_right (by omega), h1] at hc
      exact g3 _ x cs hx hc
  cases b with
  | none =>
    have hd := hR.2.2.1 rfl
    subst hd
    have hys : ys = [] := List.eq_nil_of_length_eq_zero (by have := hR.1; omega)
    subst hys
    have hdss : dss = [] := List.eq_nil_of_length_eq_zero (by simpa using g1)
    subst hdss
    refine wpList_plain hgd fun K hK' => ?_
    have hrun := run_append_owned_none (P := P) (w := w) base t o.type e i sz ht hi _ xs.length css.flatten hown
    unfold Oper.wp
    simp only [List.length_nil] at hx
    simp [execOp, ho, resolve, invoke, builtin, hs, hx, hrun, Result.andThen]
    refine hK' _ _ ?_
    have := h a c w (by rw [List.append_nil]; exact ⟨css, h1, h2, h3, hown⟩) (World.grownBy.refl _ _) (by
      rintro rfl
      rcases hown.2 with ⟨_, hn⟩ | ⟨_, _, _, hv, _⟩
      · exact ⟨List.eq_nil_of_length_eq_zero hn, rfl⟩
      · simp at hv)
    simpa using this
  | some ad =>
    have hfl : dss.flatten.length = ys.length * sz := by rw [flatten_length fun cs h => (g2 cs h).1, g1]
    refine wpList_append_own w hgd s x t ho base e i z sz bytes ht hi hz hsize hby hzs hsz _ xs.length css.flatten hs hown ad ys.length d dss.flatten hx hfl ?_ ?_ h63 hl hbase ?_
    · intro j u hj
      obtain ⟨p, q, cs, rfl, hq, hp, hv⟩ := flatten_inv (fun cs h => (g2 cs h).1) hj
      obtain ⟨b, o, ha, _, _, hc⟩ := g4 p cs hp
      simp only [Option.some.injEq] at ha
      subst ha
      have := hc q u hv
      rw [Addr.add_lit]
      rw [← this]
      congr 2
      omega
    · intro u hu
      obtain ⟨cs, hcs, huc⟩ := List.mem_flatten.1 hu
      exact (g2 cs hcs).2 u huc
    · intro v' w' hown' hgr hnil
      rw [hob] at hgr
      have hOwn : ∀ a' c', v' = .slice a' (xs.length + ys.length) c' → Own base e w' sz R a' c' (xs ++ ys) := by
        rintro a' c' rfl
        exact ⟨css ++ dss, by simp [h1, g1], hall, hRR, by simpa using hown'⟩
      rcases hown'.2 with ⟨rfl, hn⟩ | ⟨g, cap, cur, rfl, _⟩
      · have e1 : xs = [] := List.eq_nil_of_length_eq_zero (by omega)
        have e2 : ys = [] := List.eq_nil_of_length_eq_zero (by omega)
        have := h none 0 w' (hOwn _ _ (by simp [e1, e2])) hgr (fun _ => ⟨e1, e2⟩)
        simpa [e1, e2] using this
      · exact h _ _ w' (hOwn _ _ rfl) hgr (by simp)

theorem Own.made {base : Nat} {e : TypeId} {w : World} {α : Type} {sz : Nat} {R : List Value → α → Prop} (h : base ≤ w.heap.size) : Own base e (w.alloc (.cells #[] e)) sz R (some ⟨w.heap.size, 0, none⟩) 0 ([] : List α) :=
  ⟨[], rfl, by simp, by simp, World.ownsRow_made _ _ _ h (Nat.zero_le _) (by simp)⟩

/-- A new block of just one element's cells, as a slice. -/
theorem SlR.one {ok : Nat → Prop} {w : World} {α : Type} {sz : Nat} {R : List Value → α → Prop} {g : Nat} (cs : List Value) (e : TypeId) (x : α) (hg : g = w.heap.size) (hR : R cs x) (hl : cs.length = sz) (h1 : ∀ v ∈ cs, v.oneCell' = true) (ho : ok w.heap.size) :
    SlR ok (w.alloc (.cells cs.toArray e)) sz R (some ⟨g, 0, none⟩) 1 [x] := by
  subst hg
  refine ⟨Nat.le_refl _, by simp [maxLen], by simp, fun i y hy => ?_⟩
  have hi : i = 0 := by
    have := (List.getElem?_eq_some_iff.1 hy).1
    simp at this; exact this
  subst hi
  simp at hy
  subst hy
  refine ⟨_, _, cs, rfl, ho, by simp, hR, hl, h1, fun j v hv => ?_⟩
  rw [World.cell?_alloc_at _ _ _ _ rfl]
  simpa using hv

theorem Own.le {base base' : Nat} {e : TypeId} {w : World} {α : Type} {sz : Nat} {R : List Value → α → Prop} {a : Option Addr} {c : Nat} {xs : List α} (h : Own base e w sz R a c xs) (hb : base' ≤ base) : Own base' e w sz R a c xs := by
  obtain ⟨css, h1, h2, h3, h4⟩ := h
  refine ⟨css, h1, h2, h3, h4.1, ?_⟩
  rcases h4.2 with h | ⟨g, cap, cur, hv, hg, r⟩
  · exact .inl h
  · exact .inr ⟨g, cap, cur, hv, by omega, r⟩

theorem Own.grown {B base : Nat} {e : TypeId} {W w w' : World} {α : Type} {sz : Nat} {R : List Value → α → Prop} {a : Option Addr} {c : Nat} {xs : List α} (hO : Own base e w sz R a c xs) (h : Below B W w) (hg : w.grownBy w' (a.map (·.block))) (hb : B ≤ base) (hs : B ≤ w.heap.size) : Below B W w' := by
  obtain ⟨css, _, _, _, h4⟩ := hO
  refine h.grown hg hs fun k hk => ?_
  have := (h4.lt k (by cases a <;> simp at hk; subst hk; rfl)).1
  omega

/-- Is it in the list? (A word of its own, so that no rewriting takes it apart.) -/
def inL {α : Type} [DecidableEq α] : List α → α → Bool
  | [], _ => false
  | x :: l, v => if v = x then true else inL l v

theorem inL_iff {α : Type} [DecidableEq α] (l : List α) (v : α) : inL l v = true ↔ v ∈ l := by
  induction l with
  | nil => simp [inL]
  | cons x l ih =>
    unfold inL
    by_cases h : v = x
    · simp [h]
    · rw [if_neg h, ih]; simp [h]

theorem inL_not {α : Type} [DecidableEq α] (l : List α) (v : α) : inL l v = false ↔ v ∉ l := by
  rw [← inL_iff]; cases inL l v <;> simp

theorem drop_at {α : Type} {l : List α} {k : Nat} (h : k < l.length) : l.drop k = l[k] :: l.drop (k + 1) := List.drop_eq_getElem_cons h
theorem inL_hit {α : Type} [DecidableEq α] {l : List α} {v : α} {k : Nat} (h : k < l.length) (e : v = l[k]) : inL (l.drop k) v = true := by rw [drop_at h, inL, if_pos e]
theorem inL_pass {α : Type} [DecidableEq α] {l : List α} {v : α} {k : Nat} (h : k < l.length) (e : ¬ v = l[k]) : inL (l.drop k) v = inL (l.drop (k + 1)) v := by rw [drop_at h, inL, if_neg e]
theorem inL_end {α : Type} [DecidableEq α] {l : List α} {v : α} {k : Nat} (h : ¬ k < l.length) : inL (l.drop k) v = false := by rw [List.drop_of_length_le (by omega)]; rfl

/-- A number says yes (not below 0) or no (below 0). -/
def Says (e : Ending) (b : Bool) : Prop := ∃ n : Int, e = .returned (.int .i64 n) ∧ (b = true → 0 ≤ n) ∧ (b = false → n < 0)

theorem ret_bool {a b : Bool} (h : a = b) : Ending.returned (.bool a) = .returned (.bool b) := by rw [h]
theorem ret_int {k : IntKind} {a b : Int} (h : a = b) : Ending.returned (.int k a) = .returned (.int k b) := by rw [h]

/-- Behind a call that leaves old memory as it was: each old cell and each old mark reads as before (two rules for the walk). -/
theorem bcell {W w1 : World} (hb : Below W.heap.size W w1) : (∀ b o, b < W.heap.size → w1.cell? ⟨b, o, none⟩ = W.cell? ⟨b, o, none⟩) ∧ (∀ b o, b < W.heap.size → w1.frozen? ⟨b, o, none⟩ = W.frozen? ⟨b, o, none⟩) :=
  ⟨fun b o h => hb.cell (p := ⟨b, o, none⟩) h, fun b o h => hb.frozen (p := ⟨b, o, none⟩) h⟩

/-- .. and a cell that is written behind it reads as what was written. -/
theorem bset {W w1 : World} (hb : Below W.heap.size W w1) : ∀ (b o : Nat) (v : Value), b < W.heap.size → (W.cell? ⟨b, o, none⟩).isSome = true → (w1.setCell ⟨b, o, none⟩ v).cell? ⟨b, o, none⟩ = some v := by
  intro b o v hlt hs
  rw [← hb.cell (p := ⟨b, o, none⟩) hlt] at hs
  exact World.cell?_setCell_same' _ _ _ hs

/-! ### The first of some tests that says yes -/

theorem or2 (a0 a1 : Bool) : (a0 = true) ∨ (a0 = false ∧ a1 = true) ∨ (a0 = false ∧ a1 = false) := by
  cases a0 <;> cases a1 <;> simp

theorem or3 (a0 a1 a2 : Bool) : (a0 = true) ∨ (a0 = false ∧ a1 = true) ∨ (a0 = false ∧ a1 = false ∧ a2 = true) ∨ (a0 = false ∧ a1 = false ∧ a2 = false) := by
  cases a0 <;> cases a1 <;> cases a2 <;> simp

theorem or4 (a0 a1 a2 a3 : Bool) : (a0 = true) ∨ (a0 = false ∧ a1 = true) ∨ (a0 = false ∧ a1 = false ∧ a2 = true) ∨ (a0 = false ∧ a1 = false ∧ a2 = false ∧ a3 = true) ∨ (a0 = false ∧ a1 = false ∧ a2 = false ∧ a3 = false) := by
  cases a0 <;> cases a1 <;> cases a2 <;> cases a3 <;> simp

theorem or5 (a0 a1 a2 a3 a4 : Bool) : (a0 = true) ∨ (a0 = false ∧ a1 = true) ∨ (a0 = false ∧ a1 = false ∧ a2 = true) ∨ (a0 = false ∧ a1 = false ∧ a2 = false ∧ a3 = true) ∨ (a0 = false ∧ a1 = false ∧ a2 = false ∧ a3 = false ∧ a4 = true) ∨ (a0 = false ∧ a1 = false ∧ a2 = false ∧ a3 = false ∧ a4 = false) := by
  cases a0 <;> cases a1 <;> cases a2 <;> cases a3 <;> cases a4 <;> simp

theorem or6 (a0 a1 a2 a3 a4 a5 : Bool) : (a0 = true) ∨ (a0 = false ∧ a1 = true) ∨ (a0 = false ∧ a1 = false ∧ a2 = true) ∨ (a0 = false ∧ a1 = false ∧ a2 = false ∧ a3 = true) ∨ (a0 = false ∧ a1 = false ∧ a2 = false ∧ a3 = false ∧ a4 = true) ∨ (a0 = false ∧ a1 = false ∧ a2 = false ∧ a3 = false ∧ a4 = false ∧ a5 = true) ∨ (a0 = false ∧ a1 = false ∧ a2 = false ∧ a3 = false ∧ a4 = false ∧ a5 = false) := by
  cases a0 <;> cases a1 <;> cases a2 <;> cases a3 <;> cases a4 <;> cases a5 <;> simp

theorem or7 (a0 a1 a2 a3 a4 a5 a6 : Bool) : (a0 = true) ∨ (a0 = false ∧ a1 = true) ∨ (a0 = false ∧ a1 = false ∧ a2 = true) ∨ (a0 = false ∧ a1 = false ∧ a2 = false ∧ a3 = true) ∨ (a0 = false ∧ a1 = false ∧ a2 = false ∧ a3 = false ∧ a4 = true) ∨ (a0 = false ∧ a1 = false ∧ a2 = false ∧ a3 = false ∧ a4 = false ∧ a5 = true) ∨ (a0 = false ∧ a1 = false ∧ a2 = false ∧ a3 = false ∧ a4 = false ∧ a5 = false ∧ a6 = true) ∨ (a0 = false ∧ a1 = false ∧ a2 = false ∧ a3 = false ∧ a4 = false ∧ a5 = false ∧ a6 = false) := by
  cases a0 <;> cases a1 <;> cases a2 <;> cases a3 <;> cases a4 <;> cases a5 <;> cases a6 <;> simp

theorem or8 (a0 a1 a2 a3 a4 a5 a6 a7 : Bool) : (a0 = true) ∨ (a0 = false ∧ a1 = true) ∨ (a0 = false ∧ a1 = false ∧ a2 = true) ∨ (a0 = false ∧ a1 = false ∧ a2 = false ∧ a3 = true) ∨ (a0 = false ∧ a1 = false ∧ a2 = false ∧ a3 = false ∧ a4 = true) ∨ (a0 = false ∧ a1 = false ∧ a2 = false ∧ a3 = false ∧ a4 = false ∧ a5 = true) ∨ (a0 = false ∧ a1 = false ∧ a2 = false ∧ a3 = false ∧ a4 = false ∧ a5 = false ∧ a6 = true) ∨ (a0 = false ∧ a1 = false ∧ a2 = false ∧ a3 = false ∧ a4 = false ∧ a5 = false ∧ a6 = false ∧ a7 = true) ∨ (a0 = false ∧ a1 = false ∧ a2 = false ∧ a3 = false ∧ a4 = false ∧ a5 = false ∧ a6 = false ∧ a7 = false) := by
  cases a0 <;> cases a1 <;> cases a2 <;> cases a3 <;> cases a4 <;> cases a5 <;> cases a6 <;> cases a7 <;> simp

end Go.Proofs.Ytbngblmdcggfdaa
