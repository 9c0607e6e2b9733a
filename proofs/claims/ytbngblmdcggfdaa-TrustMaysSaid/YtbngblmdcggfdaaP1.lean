/- Walks and plain laws that the claim rests on, part 1. -/
import Derived.WalkKit
import Derived.WalkSpells
import Derived.WalkLawsBesides
import Derived.Handy
import Derived.Lib.Hide
import Derived.Deep.RegionHeld3
import Derived.Deep.QuietTactic
import Derived.BigQuiet
import Derived.ProofKit
import Derived.OpenShut
import Derived.Deep.CondSized
import Derived.Test.YtbngblmdcggfdaaProg
import Derived.Laws.IdiomCopy
import Derived.Laws.Rows
import Derived.Laws.StructEq
import Derived.ChangeKeysEq
import Derived.Deep.AppendLies
set_option linter.unusedSimpArgs false
set_option linter.unusedVariables false
/- Small words for what lies in memory: what a slice of records reads as, and that it goes on to read so while memory only grows. No program is in sight. -/
namespace Go.Proofs.Ytbngblmdcggfdaa
open Go.RowKit

/-- Of the blocks that 'ok' lets, w' holds what w held; none has gone. -/
structure Keeps (ok : Nat → Prop) (w w' : World) : Prop where
  size : w.heap.size ≤ w'.heap.size
  block : ∀ b, b < w.heap.size → ok b → w'.heap[b]? = w.heap[b]?

theorem Keeps.of_below {ok : Nat → Prop} {w w' : World} (h : Below w.heap.size w w') : Keeps ok w w' := ⟨h.size, fun b hb _ => h.block b hb⟩
theorem Keeps.refl (ok : Nat → Prop) (w : World) : Keeps ok w w := ⟨Nat.le_refl _, fun _ _ _ => rfl⟩
theorem Keeps.trans {ok : Nat → Prop} {w w1 w2 : World} (h : Keeps ok w w1) (k : Keeps ok w1 w2) : Keeps ok w w2 :=
  ⟨Nat.le_trans h.size k.size, fun b hb ho => (k.block b (Nat.lt_of_lt_of_le hb h.size) ho).trans (h.block b hb ho)⟩
theorem Keeps.cell {ok : Nat → Prop} {w w' : World} (h : Keeps ok w w') {p : Addr} (hp : p.block < w.heap.size) (ho : ok p.block) : w'.cell? p = w.cell? p :=
  World.cell?_of_block (w := w) (h.block p.block hp ho)
theorem _root_.Go.RowKit.Below.keep {w w1 w2 : World} (h : Below w.heap.size w w1) (k : Below w1.heap.size w1 w2) : Below w.heap.size w w2 := h.trans (k.mono h.size)

theorem _root_.Go.RowKit.Below.drewN {B : Nat} {a w : World} (h : Below B a w) (n : Nat) : Below B a (w.drewN n) := ⟨h.os, h.tape, h.output, h.size, h.block⟩

/-- The slice at a, of capacity c, reads as xs: element i lies at i * sz behind a, and its cells stand for x by R; its block is one that 'ok' lets. -/
def SlR (ok : Nat → Prop) (w : World) {α : Type} (sz : Nat) (R : List Value → α → Prop) (a : Option Addr) (c : Nat) (xs : List α) : Prop :=
  xs.length ≤ c ∧ c ≤ maxLen ∧ (a = none → c = 0) ∧
  ∀ i x, xs[i]? = some x → ∃ b o cs, a = some ⟨b, o, none⟩ ∧ ok b ∧ b < w.heap.size ∧ R cs x ∧ cs.length = sz ∧ (∀ v ∈ cs, v.oneCell' = true) ∧ ∀ j v, cs[j]? = some v → w.cell? ⟨b, o + i * sz + j, none⟩ = some v

theorem SlR.mono {ok : Nat → Prop} {w w' : World} {α : Type} {sz : Nat} {R R' : List Value → α → Prop} {a : Option Addr} {c : Nat} {xs : List α} (h : SlR ok w sz R a c xs) (hk : Keeps ok w w') (hR : ∀ cs x, R cs x → R' cs x) :
    SlR ok w' sz R' a c xs := by
  refine ⟨h.1, h.2.1, h.2.2.1, fun i x hx => ?_⟩
  obtain ⟨b, o, cs, ha, ho, hb, hr, hl, h1, hc⟩ := h.2.2.2 i x hx
  exact ⟨b, o, cs, ha, ho, Nat.lt_of_lt_of_le hb hk.size, hR _ _ hr, hl, h1, fun j v hv => (hk.cell (p := ⟨b, _, none⟩) hb ho).trans (hc j v hv)⟩

theorem SlR.keep {ok : Nat → Prop} {w w' : World} {α : Type} {sz : Nat} {R : List Value → α → Prop} {a : Option Addr} {c : Nat} {xs : List α} (h : SlR ok w sz R a c xs) (hk : Keeps ok w w') : SlR ok w' sz R a c xs := h.mono hk fun _ _ h => h

theorem SlR.below {ok : Nat → Prop} {w w' : World} {α : Type} {sz : Nat} {R : List Value → α → Prop} {a : Option Addr} {c : Nat} {xs : List α} (h : SlR ok w sz R a c xs) (hk : Below w.heap.size w w') : SlR ok w' sz R a c xs := h.keep (.of_below hk)

theorem SlR.nil (ok : Nat → Prop) (w : World) {α : Type} (sz : Nat) (R : List Value → α → Prop) : SlR ok w sz R none 0 ([] : List α) := ⟨Nat.le_refl _, Nat.zero_le _, fun _ => rfl, fun i x hx => by simp at hx⟩

/-- The cells of such a slice, all of them. -/
theorem SlR.all {ok : Nat → Prop} {w : World} {α : Type} {sz : Nat} {R : List Value → α → Prop} {a : Option Addr} {c : Nat} {xs : List α} (h : SlR ok w sz R a c xs) :
    ∃ css : List (List Value), css.length = xs.length ∧ (∀ cs ∈ css, cs.length = sz ∧ ∀ v ∈ cs, v.oneCell' = true) ∧ (∀ (i : Nat) (x : α) (cs : List Value), xs[i]? = some x → css[i]? = some cs → R cs x) ∧
      ∀ (i : Nat) (cs : List Value), css[i]? = some cs → ∃ b o, a = some ⟨b, o, none⟩ ∧ ok b ∧ b < w.heap.size ∧ ∀ j v, cs[j]? = some v → w.cell? ⟨b, o + i * sz + j, none⟩ = some v := by
  classical
  have hh := h.2.2.2
  clear h
  suffices H : ∀ k, k ≤ xs.length → ∃ css : List (List Value), css.length = k ∧ (∀ cs ∈ css, cs.length = sz ∧ ∀ v ∈ cs, v.oneCell' = true) ∧ (∀ (i : Nat) (x : α) (cs : List Value), xs[i]? = some x → css[i]? = some cs → R cs x) ∧
      ∀ (i : Nat) (cs : List Value), css[i]? = some cs → ∃ b o, a = some ⟨b, o, none⟩ ∧ ok b ∧ b < w.heap.size ∧ ∀ j v, cs[j]? = some v → w.cell? ⟨b, o + i * sz + j, none⟩ = some v by
    exact H xs.length (Nat.le_refl _)
  intro k
  induction k with
  | zero => exact fun _ => ⟨[], rfl, by simp, by simp, by simp⟩
  | succ k ih =>
    intro hk
    obtain ⟨css, h1, h2, h3, h4⟩ := ih (by omega)
    obtain ⟨b, o, cs, ha, ho, hb, hr, hl, hone, hc⟩ := hh k xs[k] (by simp [hk])
    refine ⟨css ++ [cs], by simp [h1], ?_, ?_, ?_⟩
    · intro x hx
      rcases List.mem_append.1 hx with hx | hx
      · exact h2 x hx
      · simp at hx; subst hx; exact ⟨hl, hone⟩
    · intro i x d hx hd
      by_cases hi : i < k
      · rw [List.getElem?_append_left (by omega)] at hd
        exact h3 i x d hx hd
      · rw [List.getElem?_append_right (by omega)] at hd
        have : i - css.length = 0 := by
          have := (List.getElem?_eq_some_iff.1 hd).1
          simp at this; omega
        rw [this] at hd
        simp at hd
        subst hd
        have hik : i = k := by omega
        subst hik
        rw [List.getElem?_eq_getElem (by omega)] at hx
        simp at hx
        subst hx
        exact hr
    · intro i d hd
      by_cases hi : i < k
      · rw [List.getElem?_append_left (by omega)] at hd
        exact h4 i d hd
      · rw [List.getElem?_append_right (by omega)] at hd
        have : i - css.length = 0 := by
          have := (List.getElem?_eq_some_iff.1 hd).1
          simp at this; omega
        rw [this] at hd
        simp at hd
        subst hd
        have hik : i = k := by omega
        subst hik
        exact ⟨b, o, ha, ho, hb, hc⟩

/-- One list of cells behind the other. -/
theorem flatten_at {css : List (List Value)} {sz : Nat} (hs : ∀ cs ∈ css, cs.length = sz) {i : Nat} {cs : List Value} (hi : css[i]? = some cs) {j : Nat} {v : Value} (hj : cs[j]? = some v) : css.flatten[i * sz + j]? = some v := by
  induction css generalizing i with
  | nil => simp at hi
  | cons c css ih =>
    have hc := hs c (by simp)
    have hcs := hs cs (List.mem_of_getElem? hi)
    have hj' : j < sz := by rw [← hcs]; exact (List.getElem?_eq_some_iff.1 hj).1
    cases i with
    | zero =>
      simp only [List.getElem?_cons_zero, Option.some.injEq] at hi
      subst hi
      simp only [List.flatten_cons, Nat.zero_mul, Nat.zero_add]
      rw [List.getElem?_append_left (by omega)]
      exact hj
    | succ i =>
      simp only [List.getElem?_cons_succ] at hi
      simp only [List.flatten_cons]
      rw [List.getElem?_append_right (by rw [hc, Nat.succ_mul]; omega), hc, show (i + 1) * sz + j - sz = i * sz + j by rw [Nat.succ_mul]; omega]
      exact ih (fun x hx => hs x (by simp [hx])) hi

theorem flatten_length {css : List (List Value)} {sz : Nat} (hs : ∀ cs ∈ css, cs.length = sz) : css.flatten.length = css.length * sz := by
  induction css with
  | nil => simp
  | cons c css ih => simp only [List.flatten_cons, List.length_append, List.length_cons, hs c (by simp), ih (fun x hx => hs x (by simp [hx])), Nat.succ_mul]; omega

/-- .. and what stands at a place of all of them. -/
theorem flatten_inv {css : List (List Value)} {sz : Nat} (hs : ∀ cs ∈ css, cs.length = sz) {n : Nat} {v : Value} (h : css.flatten[n]? = some v) : ∃ i j cs, n = i * sz + j ∧ j < sz ∧ css[i]? = some cs ∧ cs[j]? = some v := by
  induction css generalizing n with
  | nil => simp at h
  | cons c css ih =>
    have hc := hs c (by simp)
    simp only [List.flatten_cons] at h
    by_cases hn : n < c.length
    · rw [List.getElem?_append_left hn] at h
      exact ⟨0, n, c, by simp, by omega, rfl, h⟩
    · rw [List.getElem?_append_right (by omega)] at h
      obtain ⟨i, j, cs, h1, h2, h3, h4⟩ := ih (fun x hx => hs x (by simp [hx])) h
      exact ⟨i + 1, j, cs, by rw [Nat.succ_mul]; omega, h2, h3, h4⟩

/-- The slice at a, of capacity c, is the call's own (its block is one from 'base' on, and no other slice lies there), and reads as xs. -/
def Own (base : Nat) (e : TypeId) (w : World) {α : Type} (sz : Nat) (R : List Value → α → Prop) (a : Option Addr) (c : Nat) (xs : List α) : Prop :=
  ∃ css : List (List Value), css.length = xs.length ∧ (∀ cs ∈ css, cs.length = sz ∧ ∀ v ∈ cs, v.oneCell' = true) ∧ (∀ (i : Nat) (x : α) (cs : List Value), xs[i]? = some x → css[i]? = some cs → R cs x) ∧ w.ownsRow base e sz (.slice a xs.length c) xs.length css.flatten

theorem Own.nil (base : Nat) (e : TypeId) (w : World) {α : Type} (sz : Nat) (R : List Value → α → Prop) : Own base e w sz R none 0 ([] : List α) := ⟨[], rfl, by simp, by simp, World.ownsRow_nil _ _ _ _⟩

/-- What is the call's own can be read. -/
theorem Own.slr {base : Nat} {e : TypeId} {w : World} {α : Type} {sz : Nat} {R : List Value → α → Prop} {a : Option Addr} {c : Nat} {xs : List α} (h : Own base e w sz R a c xs) {ok : Nat → Prop} (hok : ∀ b, base ≤ b → ok b) : SlR ok w sz R a c xs := by
  obtain ⟨css, h1, h2, h3, h4⟩ := h
  have h4' := h4
  rcases h4.2 with ⟨hv, hn⟩ | ⟨g, cap, cur, hv, hg, hh, hnc, hm, hs, ht⟩
  · simp only [Value.slice.injEq] at hv
    obtain ⟨rfl, _, rfl⟩ := hv
    have : xs = [] := List.eq_nil_of_length_eq_zero hn
    subst this
    exact SlR.nil _ _ _ _
  · simp only [Value.slice.injEq] at hv
    obtain ⟨rfl, _, rfl⟩ := hv
    refine ⟨hnc, hm, by simp, fun i x hx => ?_⟩
    have hi : i < css.length := by rw [h1]; exact (List.getElem?_eq_some_iff.1 hx).1
    have hcs := h2 css[i] (by simp)
    have hb : g < w.heap.size := (Array.getElem?_eq_some_iff.1 hh).1
    refine ⟨g, 0, css[i], rfl, hok _ hg, hb, h3 i x _ hx (by simp [hi]), hcs.1, hcs.2, fun j v hv => ?_⟩
    have := flatten_at (fun cs h => (h2 cs h).1) (i := i) (cs := css[i]) (by simp [hi]) hv
    have hj : i * sz + j < xs.length * sz := by
      have := (List.getElem?_eq_some_iff.1 this).1
      rw [flatten_length fun cs h => (h2 cs h).1, h1] at this
      exact this
    rw [show 0 + i * sz + j = i * sz + j by omega, h4'.cellAt _ hj]
    exact this

theorem Own.mono {base : Nat} {e : TypeId} {w : World} {α : Type} {sz : Nat} {R R' : List Value → α → Prop} {a : Option Addr} {c : Nat} {xs : List α} (h : Own base e w sz R a c xs) (hR : ∀ cs x, R cs x → R' cs x) : Own base e w sz R' a c xs := by
  obtain ⟨css, h1, h2, h3, h4⟩ := h
  exact ⟨css, h1, h2, fun i x cs hx hc => hR _ _ (h3 i x cs hx hc), h4⟩

/-- While memory only grows what is owned stays owned. -/
theorem Own.below {base : Nat} {e : TypeId} {w w' : World} {α : Type} {sz : Nat} {R : List Value → α → Prop} {a : Option Addr} {c : Nat} {xs : List α} (h : Own base e w sz R a c xs) (hk : Below w.heap.size w w') : Own base e w' sz R a c xs := by
  obtain ⟨css, h1, h2, h3, h4⟩ := h
  refine ⟨css, h1, h2, h3, h4.1, ?_⟩
  rcases h4.2 with h | ⟨g, cap, cur, hv, hg, hh, r⟩
  · exact .inl h
  · exact .inr ⟨g, cap, cur, hv, hg, by rw [hk.block g (Array.getElem?_eq_some_iff.1 hh).1]; exact hh, r⟩

/-- 'append(xs, ys...)' onto a slice that is the call's own; it may grow. -/
theorem wpList_app {P : Program} {w : World} {ops : Array Oper} {rest : List Oper} {o : Oper} {A : Act} {Q : Exit → Act → World → Prop} (hgd : o.guard = none) (s x : Operand) (t : TypeId)
    (ho : o.op = .call { callee := .builtin .append, args := #[s, x], argTypes := #[t, t] })
    (e : TypeId) (i : TypeInfo) (z : Value) (sz bytes : Nat) (ht : P.underlying t = some (.slice e)) (hi : P.info? e = some i) (hz : i.zero = some z) (hsize : i.size = sz) (hby : i.bytes = bytes) (hzs : z.cells.size = sz) (hsz : 0 < sz)
    {α : Type} {R : List Value → α → Prop} {base : Nat} {ok : Nat → Prop} {a : Option Addr} {c n : Nat} {xs : List α} (hs : A.eval s = .slice a n c) (hn : n = xs.length) (hO : Own base e w sz R a c xs)
    {b : Option Addr} {m d : Nat} {ys : List α} (hx : A.eval x = .slice b m d) (hm : m = ys.length) (hR : SlR ok w sz R b d ys) (hl : (xs.length + ys.length) * bytes ≤ 140737488355328) (h63 : xs.length + ys.length ≤ maxLen) (hbase : base ≤ w.heap.size)
    (h : ∀ a' c' w', Own base e w' sz R a' c' (xs ++ ys) → w.grownBy w' (a.map (·.block)) → (a' = none → xs = [] ∧ ys = []) → wpList P ops Q rest (A.put o.dst (.slice a' (n + m) c')) w') : wpList P ops Q (o :: rest) A w := by
  subst hn hm
  obtain ⟨css, h1, h2, h3, hown⟩ := hO
  obtain ⟨dss, g1, g2, g3, g4⟩ := hR.all
  have hob : (Value.slice a xs.length c).ownBlock = a.map (·.block) := by cases a <;> rfl
  have hall : ∀ cs ∈ css ++ dss, cs.length = sz ∧ ∀ v ∈ cs, v.oneCell' = true := by
    intro cs hcs
    rcases List.mem_append.1 hcs with hcs | hcs
    · exact h2 cs hcs
    · exact g2 cs hcs
  have hRR : ∀ (i : Nat) (x : α) (cs : List Value), (xs ++ ys)[i]? = some x → (css ++ dss)[i]? = some cs → R cs x := by
    intro i x cs hx hc
    by_cases hi : i < xs.length
    · rw [List.getElem?_append_left hi] at hx
      rw [List.getElem?_append_left (by omega)] at hc
      exact h3 i x cs hx hc
    · rw [List.getElem?_append_right (by omega)] at hx
      rw [List.getElem?_append_right (by omega), h1] at hc
      exact g3 _ x cs hx hc
  cases b with
  | none =>
    have hd := hR.2.2.1 rfl
    subst hd
    have hys : ys = [] := List.eq_nil_of_length_eq_zero (by have := hR.1; omega)
    subst hys
    have hdss : dss = [] := List.eq_nil_of_length_eq_zero (by simpa using g1)
    subst hdss
    refine wpList_plain hgd fun K hK' => ?_
    have hrun := run_append_owned_none (P := P) (w := w) base t o.type e i sz ht hi _ xs.length css.flatten hown
    unfold Oper.wp
    simp only [List.length_nil] at hx
    simp [execOp, ho, resolve, invoke, builtin, hs, hx, hrun, Result.andThen]
    refine hK' _ _ ?_
    have := h a c w (by rw [List.append_nil]; exact ⟨css, h1, h2, h3, hown⟩) (World.grownBy.refl _ _) (by
      rintro rfl
      rcases hown.2 with ⟨_, hn⟩ | ⟨_, _, _, hv, _⟩
      · exact ⟨List.eq_nil_of_length_eq_zero hn, rfl⟩
      · simp at hv)
    simpa using this
  | some ad =>
    have hfl : dss.flatten.length = ys.length * sz := by rw [flatten_length fun cs h => (g2 cs h).1, g1]
    refine wpList_append_own w hgd s x t ho base e i z sz bytes ht hi hz hsize hby hzs hsz _ xs.length css.flatten hs hown ad ys.length d dss.flatten hx hfl ?_ ?_ h63 hl hbase ?_
    · intro j u hj
      obtain ⟨p, q, cs, rfl, hq, hp, hv⟩ := flatten_inv (fun cs h => (g2 cs h).1) hj
      obtain ⟨b, o, ha, _, _, hc⟩ := g4 p cs hp
      simp only [Option.some.injEq] at ha
      subst ha
      have := hc q u hv
      rw [Addr.add_lit]
      rw [← this]
      congr 2
      omega
    · intro u hu
      obtain ⟨cs, hcs, huc⟩ := List.mem_flatten.1 hu
      exact (g2 cs hcs).2 u huc
    · intro v' w' hown' hgr hnil
      rw [hob] at hgr
      have hOwn : ∀ a' c', v' = .slice a' (xs.length + ys.length) c' → Own base e w' sz R a' c' (xs ++ ys) := by
        rintro a' c' rfl
        exact ⟨css ++ dss, by simp [h1, g1], hall, hRR, by simpa using hown'⟩
      rcases hown'.2 with ⟨rfl, hn⟩ | ⟨g, cap, cur, rfl, _⟩
      · have e1 : xs = [] := List.eq_nil_of_length_eq_zero (by omega)
        have e2 : ys = [] := List.eq_nil_of_length_eq_zero (by omega)
        have := h none 0 w' (hOwn _ _ (by simp [e1, e2])) hgr (fun _ => ⟨e1, e2⟩)
        simpa [e1, e2] using this
      · exact h _ _ w' (hOwn _ _ rfl) hgr (by simp)

theorem Own.made {base : Nat} {e : TypeId} {w : World} {α : Type} {sz : Nat} {R : List Value → α → Prop} (h : base ≤ w.heap.size) : Own base e (w.alloc (.cells #[] e)) sz R (some ⟨w.heap.size, 0, none⟩) 0 ([] : List α) :=
  ⟨[], rfl, by simp, by simp, World.ownsRow_made _ _ _ h (Nat.zero_le _) (by simp)⟩

/-- A new block of just one element's cells, as a slice. -/
theorem SlR.one {ok : Nat → Prop} {w : World} {α : Type} {sz : Nat} {R : List Value → α → Prop} {g : Nat} (cs : List Value) (e : TypeId) (x : α) (hg : g = w.heap.size) (hR : R cs x) (hl : cs.length = sz) (h1 : ∀ v ∈ cs, v.oneCell' = true) (ho : ok w.heap.size) :
    SlR ok (w.alloc (.cells cs.toArray e)) sz R (some ⟨g, 0, none⟩) 1 [x] := by
  subst hg
  refine ⟨Nat.le_refl _, by simp [maxLen], by simp, fun i y hy => ?_⟩
  have hi : i = 0 := by
    have := (List.getElem?_eq_some_iff.1 hy).1
    simp at this; exact this
  subst hi
  simp at hy
  subst hy
  refine ⟨_, _, cs, rfl, ho, by simp, hR, hl, h1, fun j v hv => ?_⟩
  rw [World.cell?_alloc_at _ _ _ _ rfl]
  simpa using hv

theorem Own.le {base base' : Nat} {e : TypeId} {w : World} {α : Type} {sz : Nat} {R : List Value → α → Prop} {a : Option Addr} {c : Nat} {xs : List α} (h : Own base e w sz R a c xs) (hb : base' ≤ base) : Own base' e w sz R a c xs := by
  obtain ⟨css, h1, h2, h3, h4⟩ := h
  refine ⟨css, h1, h2, h3, h4.1, ?_⟩
  rcases h4.2 with h | ⟨g, cap, cur, hv, hg, r⟩
  · exact .inl h
  · exact .inr ⟨g, cap, cur, hv, by omega, r⟩

theorem Own.grown {B base : Nat} {e : TypeId} {W w w' : World} {α : Type} {sz : Nat} {R : List Value → α → Prop} {a : Option Addr} {c : Nat} {xs : List α} (hO : Own base e w sz R a c xs) (h : Below B W w) (hg : w.grownBy w' (a.map (·.block))) (hb : B ≤ base) (hs : B ≤ w.heap.size) : Below B W w' := by
  obtain ⟨css, _, _, _, h4⟩ := hO
  refine h.grown hg hs fun k hk => ?_
  have := (h4.lt k (by cases a <;> simp at hk; subst hk; rfl)).1
  omega

/-- Is it in the list? (A word of its own, so that no rewriting takes it apart.) -/
def inL {α : Type} [DecidableEq α] : List α → α → Bool
  | [], _ => false
  | x :: l, v => if v = x then true else inL l v

theorem inL_iff {α : Type} [DecidableEq α] (l : List α) (v : α) : inL l v = true ↔ v ∈ l := by
  induction l with
  | nil => simp [inL]
  | cons x l ih =>
    unfold inL
    by_cases h : v = x
    · simp [h]
    · rw [if_neg h, ih]; simp [h]

theorem inL_not {α : Type} [DecidableEq α] (l : List α) (v : α) : inL l v = false ↔ v ∉ l := by
  rw [← inL_iff]; cases inL l v <;> simp

theorem drop_at {α : Type} {l : List α} {k : Nat} (h : k < l.length) : l.drop k = l[k] :: l.drop (k + 1) := List.drop_eq_getElem_cons h
theorem inL_hit {α : Type} [DecidableEq α] {l : List α} {v : α} {k : Nat} (h : k < l.length) (e : v = l[k]) : inL (l.drop k) v = true := by rw [drop_at h, inL, if_pos e]
theorem inL_pass {α : Type} [DecidableEq α] {l : List α} {v : α} {k : Nat} (h : k < l.length) (e : ¬ v = l[k]) : inL (l.drop k) v = inL (l.drop (k + 1)) v := by rw [drop_at h, inL, if_neg e]
theorem inL_end {α : Type} [DecidableEq α] {l : List α} {v : α} {k : Nat} (h : ¬ k < l.length) : inL (l.drop k) v = false := by rw [List.drop_of_length_le (by omega)]; rfl

/-- A number says yes (not below 0) or no (below 0). -/
def Says (e : Ending) (b : Bool) : Prop := ∃ n : Int, e = .returned (.int .i64 n) ∧ (b = true → 0 ≤ n) ∧ (b = false → n < 0)

theorem ret_bool {a b : Bool} (h : a = b) : Ending.returned (.bool a) = .returned (.bool b) := by rw [h]
theorem ret_int {k : IntKind} {a b : Int} (h : a = b) : Ending.returned (.int k a) = .returned (.int k b) := by rw [h]

/-- Behind a call that leaves old memory as it was: each old cell and each old mark reads as before (two rules for the walk). -/
theorem bcell {W w1 : World} (hb : Below W.heap.size W w1) : (∀ b o, b < W.heap.size → w1.cell? ⟨b, o, none⟩ = W.cell? ⟨b, o, none⟩) ∧ (∀ b o, b < W.heap.size → w1.frozen? ⟨b, o, none⟩ = W.frozen? ⟨b, o, none⟩) :=
  ⟨fun b o h => hb.cell (p := ⟨b, o, none⟩) h, fun b o h => hb.frozen (p := ⟨b, o, none⟩) h⟩

/-- .. and a cell that is written behind it reads as what was written. -/
theorem bset {W w1 : World} (hb : Below W.heap.size W w1) : ∀ (b o : Nat) (v : Value), b < W.heap.size → (W.cell? ⟨b, o, none⟩).isSome = true → (w1.setCell ⟨b, o, none⟩ v).cell? ⟨b, o, none⟩ = some v := by
  intro b o v hlt hs
  rw [← hb.cell (p := ⟨b, o, none⟩) hlt] at hs
  exact World.cell?_setCell_same' _ _ _ hs

/-! ### The first of some tests that says yes -/

theorem or2 (a0 a1 : Bool) : (a0 = true) ∨ (a0 = false ∧ a1 = true) ∨ (a0 = false ∧ a1 = false) := by
  cases a0 <;> cases a1 <;> simp

theorem or3 (a0 a1 a2 : Bool) : (a0 = true) ∨ (a0 = false ∧ a1 = true) ∨ (a0 = false ∧ a1 = false ∧ a2 = true) ∨ (a0 = false ∧ a1 = false ∧ a2 = false) := by
  cases a0 <;> cases a1 <;> cases a2 <;> simp

theorem or4 (a0 a1 a2 a3 : Bool) : (a0 = true) ∨ (a0 = false ∧ a1 = true) ∨ (a0 = false ∧ a1 = false ∧ a2 = true) ∨ (a0 = false ∧ a1 = false ∧ a2 = false ∧ a3 = true) ∨ (a0 = false ∧ a1 = false ∧ a2 = false ∧ a3 = false) := by
  cases a0 <;> cases a1 <;> cases a2 <;> cases a3 <;> simp

theorem or5 (a0 a1 a2 a3 a4 : Bool) : (a0 = true) ∨ (a0 = false ∧ a1 = true) ∨ (a0 = false ∧ a1 = false ∧ a2 = true) ∨ (a0 = false ∧ a1 = false ∧ a2 = false ∧ a3 = true) ∨ (a0 = false ∧ a1 = false ∧ a2 = false ∧ a3 = false ∧ a4 = true) ∨ (a0 = false ∧ a1 = false ∧ a2 = false ∧ a3 = false ∧ a4 = false) := by
  cases a0 <;> cases a1 <;> cases a2 <;> cases a3 <;> cases a4 <;> simp

theorem or6 (a0 a1 a2 a3 a4 a5 : Bool) : (a0 = true) ∨ (a0 = false ∧ a1 = true) ∨ (a0 = false ∧ a1 = false ∧ a2 = true) ∨ (a0 = false ∧ a1 = false ∧ a2 = false ∧ a3 = true) ∨ (a0 = false ∧ a1 = false ∧ a2 = false ∧ a3 = false ∧ a4 = true) ∨ (a0 = false ∧ a1 = false ∧ a2 = false ∧ a3 = false ∧ a4 = false ∧ a5 = true) ∨ (a0 = false ∧ a1 = false ∧ a2 = false ∧ a3 = false ∧ a4 = false ∧ a5 = false) := by
  cases a0 <;> cases a1 <;> cases a2 <;> cases a3 <;> cases a4 <;> cases a5 <;> simp

theorem or7 (a0 a1 a2 a3 a4 a5 a6 : Bool) : (a0 = true) ∨ (a0 = false ∧ a1 = true) ∨ (a0 = false ∧ a1 = false ∧ a2 = true) ∨ (a0 = false ∧ a1 = false ∧ a2 = false ∧ a3 = true) ∨ (a0 = false ∧ a1 = false ∧ a2 = false ∧ a3 = false ∧ a4 = true) ∨ (a0 = false ∧ a1 = false ∧ a2 = false ∧ a3 = false ∧ a4 = false ∧ a5 = true) ∨ (a0 = false ∧ a1 = false ∧ a2 = false ∧ a3 = false ∧ a4 = false ∧ a5 = false ∧ a6 = true) ∨ (a0 = false ∧ a1 = false ∧ a2 = false ∧ a3 = false ∧ a4 = false ∧ a5 = false ∧ a6 = false) := by
  cases a0 <;> cases a1 <;> cases a2 <;> cases a3 <;> cases a4 <;> cases a5 <;> cases a6 <;> simp

theorem or8 (a0 a1 a2 a3 a4 a5 a6 a7 : Bool) : (a0 = true) ∨ (a0 = false ∧ a1 = true) ∨ (a0 = false ∧ a1 = false ∧ a2 = true) ∨ (a0 = false ∧ a1 = false ∧ a2 = false ∧ a3 = true) ∨ (a0 = false ∧ a1 = false ∧ a2 = false ∧ a3 = false ∧ a4 = true) ∨ (a0 = false ∧ a1 = false ∧ a2 = false ∧ a3 = false ∧ a4 = false ∧ a5 = true) ∨ (a0 = false ∧ a1 = false ∧ a2 = false ∧ a3 = false ∧ a4 = false ∧ a5 = false ∧ a6 = true) ∨ (a0 = false ∧ a1 = false ∧ a2 = false ∧ a3 = false ∧ a4 = false ∧ a5 = false ∧ a6 = false ∧ a7 = true) ∨ (a0 = false ∧ a1 = false ∧ a2 = false ∧ a3 = false ∧ a4 = false ∧ a5 = false ∧ a6 = false ∧ a7 = false) := by
  cases a0 <;> cases a1 <;> cases a2 <;> cases a3 <;> cases a4 <;> cases a5 <;> cases a6 <;> cases a7 <;> simp

end Go.Proofs.Ytbngblmdcggfdaa

/- The frame of a law's proof: a law answers true, and what it was given reads as before. No program is in sight. -/
namespace Go.Proofs.Ytbngblmdcggfdaa
open Go.ChangeShapes Go.WideShapes Go.RowKit

section
variable {H : Type} {enc : TypeId × Value → H} {P : Program}

/-- A world of which 'Below' alone is known keeps whatever the row asks. -/
theorem post_of_below {f : Func} {s : ChangeSpec} {apart fresh handsOn again : Bool} {W W' : World} {args : Array Value} {v : Value} {ds gs : List (DataW H)} {before pa pv : List MemPlace}
    (hW : DataW.Whole enc P f.params.toList s.vars apart W args.toList ds gs before)
    (hres : ∀ (b : Nat) (sp : Nat → Bool) (hd : Bool), DataW.TrodAll enc P W' b sp hd f.resultTypes.toList (v.resultList f.resultTypes.size) (s.fn H (ds ++ gs)).results [])
    (hargs : ∀ sp : Nat → Bool, (∀ p ∈ before, sp p.block = true) → DataW.TrodAll enc P W' 0 sp true f.params.toList args.toList (s.fn H (ds ++ gs)).args pa)
    (hvars : ∀ sp : Nat → Bool, (∀ p ∈ before, sp p.block = true) → DataW.TrodVars enc P W' sp s.vars (s.fn H (ds ++ gs)).vars pv)
    (hps : before = pa ++ pv) (hb : Below W.heap.size W W')
    (hok : ∀ (j : Nat) (t : TypeId) (r : Value), f.resultTypes[j]? = some t → (v.resultList f.resultTypes.size)[j]? = some r → Value.okWide P W' .any 0 t r) :
    s.post enc P f apart fresh handsOn again W args v W' := by
  have hlt : ∀ p ∈ before, p.block < W.heap.size := fun p hp => hW.lt p hp
  have hold : ∀ p ∈ before, (fun b => decide (b < W.heap.size)) p.block = true := fun p hp => by simpa using hlt p hp
  refine ⟨ds, gs, before, [], pa, pv, hW, hres _ _ _, hargs _ hold, hvars _ hold, World.keptBut_mono (fun p hp => ⟨hp, ?_⟩) (hb.frame (· ∈ before)), fun _ => ?_⟩
  · rw [hps, List.mem_append] at hp
    exact Or.inr hp
  · obtain ⟨_, _, _, _, _, hz, hn⟩ := hW
    refine ⟨hok, _, _, ([] ++ pa) ++ pv, ⟨[] ++ pa, pv, trodAll_append (hargs _ (fun _ _ => rfl)) (hres _ _ _), hvars _ (fun _ _ => rfl), rfl, ?_, ?_⟩, ?_⟩
    · intro b off hp
      have hin : MemPlace.cell b off ∈ before := by rw [hps]; simpa using hp
      rw [hb.frozen (hlt _ hin)]
      exact hz b off hin
    · intro ha
      have := hn ha
      rw [hps] at this
      simpa using this
    · intro p hp _
      rw [hps]
      simpa using hp

/-- The arguments, read once more behind the call. -/
theorem args_again (hl : laidOutB P = true) {W W' : World} (hb : Below W.heap.size W W') (sp : Nat → Bool) : ∀ {ts : List TypeId} {vs : List Value} {ds : List (DataW H)} {ps : List MemPlace}, (∀ t ∈ ts, P.readableRec t = true ∧ t < P.types.size) →
    DataW.TrodAll enc P W 0 (fun _ => true) true ts vs ds ps → (∀ x ∈ ps, x.block < W.heap.size) → (∀ x ∈ ps, sp x.block = true) → DataW.TrodAll enc P W' 0 sp true ts vs ds ps
  | [], _, _, _, _, h, _, _ => by
    obtain ⟨rfl, rfl, rfl⟩ := trodAll_nil h
    exact trodAll_mk0
  | t :: ts, _, _, _, ht, h, hlt, hs => by
    obtain ⟨v, vs, d, ds, p, q, rfl, rfl, rfl, h1, h2⟩ := trodAll_cons h
    refine trodAll_cons_mk (WideElems.Trod_stays hl (ht t (by simp)).1 (ht t (by simp)).2 h1 (fun x hx => hb.same (hlt x (by simp [hx]))) fun x hx => hs x (by simp [hx])) ?_
    exact args_again hl hb sp (fun t h => ht t (by simp [h])) h2 (fun x hx => hlt x (by simp [hx])) fun x hx => hs x (by simp [hx])

/-- WHAT A LAW's ROW ASKS BEHIND THE CALL, from: it answered true; below the heap's old end nothing turned. -/
theorem law_post {f : Func} {s : ChangeSpec} {W W' : World} {args : Array Value} {ds gs : List (DataW H)} {before : List MemPlace} {tb : TypeId} (hl : laidOutB P = true) (htb : (f.params.toList.all fun t => P.readableRec t && decide (t < P.types.size)) = true)
    (hW : DataW.Whole enc P f.params.toList s.vars false W args.toList ds gs before) (hv : s.vars = []) (hfn : s.fn H (ds ++ gs) = { results := [.lit (.bool true)], args := ds })
    (hr : f.resultTypes = #[tb]) (hu : P.underlying tb = some .bool) (hb : Below W.heap.size W W') :
    s.post enc P f false true false false W args (.bool true) W' := by
  have hts : ∀ t ∈ f.params.toList, P.readableRec t = true ∧ t < P.types.size := fun t ht => by
    have := List.all_eq_true.1 htb t ht
    simpa using this
  have hW' := hW
  obtain ⟨p, q, hA, hV, rfl, hfz, hnd⟩ := hW
  rw [hv] at hV
  obtain ⟨rfl, rfl⟩ := trodVars_none hV
  have hlt : ∀ x ∈ p, x.block < W.heap.size := fun x hx => hW'.lt x (by simp [hx])
  refine post_of_below (pa := p) (pv := []) hW' (fun b sp hd => ?_) (fun sp hs => ?_) (fun sp hs => ?_) rfl hb ?_
  · rw [hfn, hr]
    exact trodAll_cons_mk (shut_bool hu _) trodAll_mk0
  · rw [hfn]
    exact args_again hl hb sp hts hA hlt fun x hx => hs x (by simp [hx])
  · rw [hfn, hv]
    rfl
  · exact ok_one hr rfl (okWide_bool_mk hu _)

end
end Go.Proofs.Ytbngblmdcggfdaa

/- What the form reads as data, as records of ours. No program is in sight. -/
namespace Go.Proofs.Ytbngblmdcggfdaa
open Go.ChangeShapes Go.WideShapes Go.RowKit

mutual
/-- How many values and letters (of maps: none) a reading holds. -/
def bk {H : Type} : DataW H → Nat
  | .lit (.string bytes) => bytes.length + 1
  | .lit _ => 1
  | .nil => 1
  | .ptr d => bk d + 1
  | .slice elems spare => bkAll elems + bkAll spare + 1
  | .agg parts => bkAll parts + 1
  | .iface _ d => bk d + 1
  | .map _ => 0
  | .held _ => 1
def bkAll {H : Type} : List (DataW H) → Nat
  | [] => 0
  | d :: r => bk d + bkAll r
end

/-- Whatever reads as data at type t is a record of ours: by R; what is weighed gives 'fit'; its mass is no greater than the bulk. -/
def Reads (P : Program) (t : TypeId) (sz : Nat) {α : Type} (R : World → List Value → α → Prop) (fit : α → Prop) (mass : α → Nat) : Prop :=
  ∀ (H : Type) (enc : TypeId × Value → H) (w : World) (fuel : Nat) (cs : List Value) (x : DataW H × List MemPlace),
    DataW.trod enc P w 0 (fun _ => true) true fuel t cs = some x → (∀ n ∈ x.1.weights P t, n ≤ reachBytes) →
    ∃ y : α, R w cs y ∧ cs.length = sz ∧ (∀ v ∈ cs, v.oneCell' = true) ∧ fit y ∧ mass y ≤ bk x.1

def fitI (n : Int) : Prop := -9223372036854775808 ≤ n ∧ n ≤ 9223372036854775807

theorem len1 {α : Type} {l : List α} (h : l.length = 1) : ∃ a0, l = [a0] := by
  match l, h with
  | [a0], _ => exact ⟨a0, rfl⟩
theorem len2 {α : Type} {l : List α} (h : l.length = 2) : ∃ a0 a1, l = [a0, a1] := by
  match l, h with
  | [a0, a1], _ => exact ⟨a0, a1, rfl⟩
theorem len3 {α : Type} {l : List α} (h : l.length = 3) : ∃ a0 a1 a2, l = [a0, a1, a2] := by
  match l, h with
  | [a0, a1, a2], _ => exact ⟨a0, a1, a2, rfl⟩
theorem len4 {α : Type} {l : List α} (h : l.length = 4) : ∃ a0 a1 a2 a3, l = [a0, a1, a2, a3] := by
  match l, h with
  | [a0, a1, a2, a3], _ => exact ⟨a0, a1, a2, a3, rfl⟩
theorem len5 {α : Type} {l : List α} (h : l.length = 5) : ∃ a0 a1 a2 a3 a4, l = [a0, a1, a2, a3, a4] := by
  match l, h with
  | [a0, a1, a2, a3, a4], _ => exact ⟨a0, a1, a2, a3, a4, rfl⟩
theorem len6 {α : Type} {l : List α} (h : l.length = 6) : ∃ a0 a1 a2 a3 a4 a5, l = [a0, a1, a2, a3, a4, a5] := by
  match l, h with
  | [a0, a1, a2, a3, a4, a5], _ => exact ⟨a0, a1, a2, a3, a4, a5, rfl⟩
theorem len7 {α : Type} {l : List α} (h : l.length = 7) : ∃ a0 a1 a2 a3 a4 a5 a6, l = [a0, a1, a2, a3, a4, a5, a6] := by
  match l, h with
  | [a0, a1, a2, a3, a4, a5, a6], _ => exact ⟨a0, a1, a2, a3, a4, a5, a6, rfl⟩
theorem len8 {α : Type} {l : List α} (h : l.length = 8) : ∃ a0 a1 a2 a3 a4 a5 a6 a7, l = [a0, a1, a2, a3, a4, a5, a6, a7] := by
  match l, h with
  | [a0, a1, a2, a3, a4, a5, a6, a7], _ => exact ⟨a0, a1, a2, a3, a4, a5, a6, a7, rfl⟩
theorem len9 {α : Type} {l : List α} (h : l.length = 9) : ∃ a0 a1 a2 a3 a4 a5 a6 a7 a8, l = [a0, a1, a2, a3, a4, a5, a6, a7, a8] := by
  match l, h with
  | [a0, a1, a2, a3, a4, a5, a6, a7, a8], _ => exact ⟨a0, a1, a2, a3, a4, a5, a6, a7, a8, rfl⟩
theorem len10 {α : Type} {l : List α} (h : l.length = 10) : ∃ a0 a1 a2 a3 a4 a5 a6 a7 a8 a9, l = [a0, a1, a2, a3, a4, a5, a6, a7, a8, a9] := by
  match l, h with
  | [a0, a1, a2, a3, a4, a5, a6, a7, a8, a9], _ => exact ⟨a0, a1, a2, a3, a4, a5, a6, a7, a8, a9, rfl⟩
theorem len11 {α : Type} {l : List α} (h : l.length = 11) : ∃ a0 a1 a2 a3 a4 a5 a6 a7 a8 a9 a10, l = [a0, a1, a2, a3, a4, a5, a6, a7, a8, a9, a10] := by
  match l, h with
  | [a0, a1, a2, a3, a4, a5, a6, a7, a8, a9, a10], _ => exact ⟨a0, a1, a2, a3, a4, a5, a6, a7, a8, a9, a10, rfl⟩
theorem len12 {α : Type} {l : List α} (h : l.length = 12) : ∃ a0 a1 a2 a3 a4 a5 a6 a7 a8 a9 a10 a11, l = [a0, a1, a2, a3, a4, a5, a6, a7, a8, a9, a10, a11] := by
  match l, h with
  | [a0, a1, a2, a3, a4, a5, a6, a7, a8, a9, a10, a11], _ => exact ⟨a0, a1, a2, a3, a4, a5, a6, a7, a8, a9, a10, a11, rfl⟩
theorem len13 {α : Type} {l : List α} (h : l.length = 13) : ∃ a0 a1 a2 a3 a4 a5 a6 a7 a8 a9 a10 a11 a12, l = [a0, a1, a2, a3, a4, a5, a6, a7, a8, a9, a10, a11, a12] := by
  match l, h with
  | [a0, a1, a2, a3, a4, a5, a6, a7, a8, a9, a10, a11, a12], _ => exact ⟨a0, a1, a2, a3, a4, a5, a6, a7, a8, a9, a10, a11, a12, rfl⟩
theorem len14 {α : Type} {l : List α} (h : l.length = 14) : ∃ a0 a1 a2 a3 a4 a5 a6 a7 a8 a9 a10 a11 a12 a13, l = [a0, a1, a2, a3, a4, a5, a6, a7, a8, a9, a10, a11, a12, a13] := by
  match l, h with
  | [a0, a1, a2, a3, a4, a5, a6, a7, a8, a9, a10, a11, a12, a13], _ => exact ⟨a0, a1, a2, a3, a4, a5, a6, a7, a8, a9, a10, a11, a12, a13, rfl⟩
theorem len15 {α : Type} {l : List α} (h : l.length = 15) : ∃ a0 a1 a2 a3 a4 a5 a6 a7 a8 a9 a10 a11 a12 a13 a14, l = [a0, a1, a2, a3, a4, a5, a6, a7, a8, a9, a10, a11, a12, a13, a14] := by
  match l, h with
  | [a0, a1, a2, a3, a4, a5, a6, a7, a8, a9, a10, a11, a12, a13, a14], _ => exact ⟨a0, a1, a2, a3, a4, a5, a6, a7, a8, a9, a10, a11, a12, a13, a14, rfl⟩
theorem len16 {α : Type} {l : List α} (h : l.length = 16) : ∃ a0 a1 a2 a3 a4 a5 a6 a7 a8 a9 a10 a11 a12 a13 a14 a15, l = [a0, a1, a2, a3, a4, a5, a6, a7, a8, a9, a10, a11, a12, a13, a14, a15] := by
  match l, h with
  | [a0, a1, a2, a3, a4, a5, a6, a7, a8, a9, a10, a11, a12, a13, a14, a15], _ => exact ⟨a0, a1, a2, a3, a4, a5, a6, a7, a8, a9, a10, a11, a12, a13, a14, a15, rfl⟩

section
variable {P : Program} {t : TypeId}

theorem reads_int (ht : P.underlying t = some (.int .i64)) : Reads P t 1 (fun _ cs (n : Int) => cs = [.int .i64 n]) fitI (fun _ => 1) := by
  intro H enc w fuel cs x hx _
  obtain ⟨n, rfl, rfl, hw⟩ := DataW.trod_int ht hx
  exact ⟨n, rfl, rfl, by simp [Value.oneCell'], bounds_i64 hw, by simp [bk]⟩

theorem reads_bool (ht : P.underlying t = some .bool) : Reads P t 1 (fun _ cs (b : Bool) => cs = [.bool b]) (fun _ => True) (fun _ => 1) := by
  intro H enc w fuel cs x hx _
  obtain ⟨b, rfl, rfl⟩ := DataW.trod_bool ht hx
  exact ⟨b, rfl, rfl, by simp [Value.oneCell'], trivial, by simp [bk]⟩

theorem reads_string (ht : P.underlying t = some .string) : Reads P t 1 (fun _ cs (s : ByteArray) => cs = [.string s]) (fun s => s.size ≤ 140737488351232) (fun s => s.size + 1) := by
  intro H enc w fuel cs x hx hw
  obtain ⟨s, rfl, rfl, _⟩ := DataW.trod_string ht hx
  have e : s.data.toList.length = s.size := by rw [Array.length_toList]; rfl
  refine ⟨s, rfl, rfl, by simp [Value.oneCell'], ?_, by simp only [bk, e]; omega⟩
  have := hw s.data.toList.length (by simp [DataW.weights])
  rw [e] at this
  exact this

theorem exists_list {α : Type} {Q : Nat → α → Prop} : ∀ {n : Nat}, (∀ i, i < n → ∃ y, Q i y) → ∃ l : List α, l.length = n ∧ ∀ i y, l[i]? = some y → Q i y := by
  intro n
  induction n with
  | zero => exact fun _ => ⟨[], rfl, by simp⟩
  | succ n ih =>
    intro h
    obtain ⟨l, h1, h2⟩ := ih fun i hi => h i (by omega)
    obtain ⟨y, hy⟩ := h n (by omega)
    refine ⟨l ++ [y], by simp [h1], fun i z hz => ?_⟩
    by_cases hi : i < n
    · rw [List.getElem?_append_left (by omega)] at hz
      exact h2 i z hz
    · have hl := (List.getElem?_eq_some_iff.1 hz).1
      simp [h1] at hl
      obtain rfl : i = n := by omega
      rw [List.getElem?_append_right (by omega), h1] at hz
      simp at hz
      subst hz
      exact hy

theorem cell_lt {w : World} {b o : Nat} {v : Value} (h : w.cell? ⟨b, o, none⟩ = some v) : b < w.heap.size := by
  rcases Nat.lt_or_ge b w.heap.size with hb | hb
  · exact hb
  · have e : w.heap[b]? = none := by simp [hb]
    simp [World.cell?, e] at h

theorem mass_le {α H : Type} {mass : α → Nat} : ∀ {l : List α} {es : List (DataW H × List MemPlace)}, l.length = es.length → (∀ (i : Nat) (y : α) (e : DataW H × List MemPlace), l[i]? = some y → es[i]? = some e → mass y ≤ bk e.1) → (l.map mass).sum ≤ bkAll (es.map (·.1)) := by
  intro l
  induction l with
  | nil => intro es _ _; simp
  | cons y l ih =>
    intro es hl h
    cases es with
    | nil => simp at hl
    | cons e es =>
      have h0 := h 0 y e rfl rfl
      have := ih (es := es) (by simpa using hl) fun i z d hz hd => h (i + 1) z d (by simpa using hz) (by simpa using hd)
      simp only [List.map_cons, List.sum_cons, bkAll]
      omega

theorem weights_all {H : Type} {e : TypeId} : ∀ {l : List (DataW H)} {d : DataW H}, d ∈ l → ∀ n ∈ d.weights P e, n ∈ DataW.weightsAll P e l := by
  intro l
  induction l with
  | nil => intro d hd; simp at hd
  | cons x l ih =>
    intro d hd n hn
    simp only [DataW.weightsAll, List.mem_append]
    rcases List.mem_cons.1 hd with rfl | hd
    · exact .inl hn
    · exact .inr (ih hd n hn)

theorem reads_slice {e : TypeId} {sz bytes : Nat} {α : Type} {R : World → List Value → α → Prop} {fit : α → Prop} {mass : α → Nat} (h : Reads P e sz R fit mass) (ht : P.underlying t = some (.slice e)) (hsz : P.cellsOf e = sz) (hpos : 0 < sz) (hb : P.bytesOf e = bytes) :
    Reads P t 1 (fun w cs (l : List α) => ∃ a c, cs = [.slice a l.length c] ∧ SlR (fun _ => True) w sz (R w) a c l) (fun l => l.length * bytes ≤ 140737488351232 ∧ ∀ x ∈ l, fit x) (fun l => (l.map mass).sum + 1) := by
  intro H enc w fuel cs x hx hw
  rcases DataW.trod_slice ht hx with ⟨rfl, rfl⟩ | ⟨a, len, cap, elems, rest, n, rfl, rfl, rfl, _, hle, hcap, hlen, hel, _, _⟩
  · exact ⟨[], ⟨none, 0, rfl, SlR.nil _ _ _ _⟩, rfl, by simp [Value.oneCell'], ⟨by simp, by simp⟩, by simp [bk]⟩
  · have hw0 : (elems.length + rest.length) * bytes ≤ 140737488351232 := by
      have := hw ((elems.length + rest.length) * P.bytesOf e) (by simp [DataW.weights, ht])
      rw [hb] at this
      exact this
    have hw1 : ∀ d ∈ elems.map (·.1), ∀ n ∈ d.weights P e, n ≤ reachBytes := fun d hd n hn => hw n (by
      simp only [DataW.weights, ht, List.mem_cons, List.mem_append]
      exact .inr (.inl (weights_all hd n hn)))
    have key : ∀ i, i < len → ∃ y, ∃ cs, w.cells? 0 (a.add (i * sz)) sz = some cs ∧ R w cs y ∧ cs.length = sz ∧ (∀ v ∈ cs, v.oneCell' = true) ∧ fit y ∧ ∀ d, elems[i]? = some d → mass y ≤ bk d.1 := by
      intro i hi
      have h1 := hel i hi
      rw [hsz] at h1
      have hi' : i < elems.length := by omega
      rw [List.getElem?_eq_getElem hi'] at h1
      obtain ⟨cs, hc, hd⟩ := Option.bind_eq_some_iff.1 h1
      obtain ⟨y, r1, r2, r3, r4, r5⟩ := h H enc w _ cs _ hd (hw1 _ (List.mem_map.2 ⟨_, List.getElem_mem hi', rfl⟩))
      refine ⟨y, cs, hc, r1, r2, r3, r4, fun d hd => ?_⟩
      rw [List.getElem?_eq_getElem hi'] at hd
      simp only [Option.some.injEq] at hd
      subst hd
      exact r5
    obtain ⟨l, hl, hq⟩ := exists_list key
    subst hl
    refine ⟨l, ⟨some a, cap, rfl, hle, hcap, by simp, fun i y hy => ?_⟩, rfl, by simp [Value.oneCell'], ⟨?_, fun y hy => ?_⟩, ?_⟩
    · obtain ⟨cs, hc, r1, r2, r3, r4, r5⟩ := hq i y hy
      obtain ⟨_, hcl, hcell⟩ := World.cells?_some hc
      have hspot : a.spot = none := by
        have h0l : 0 < l.length := by have := (List.getElem?_eq_some_iff.1 hy).1; omega
        obtain ⟨cs0, hc0, _, q2, _⟩ := hq 0 l[0] (by simp [h0l])
        obtain ⟨_, hcl0, hcell0⟩ := World.cells?_some hc0
        have h0 := hcell0 0 hpos
        rw [List.getElem?_eq_getElem (by omega)] at h0
        have := World.cell?_spot h0
        simpa [Addr.add] using this
      obtain ⟨b, off, spot⟩ := a
      simp only at hspot
      subst hspot
      have hcell' : ∀ j v, cs[j]? = some v → w.cell? ⟨b, off + i * sz + j, none⟩ = some v := by
        intro j v hj
        have hjl := (List.getElem?_eq_some_iff.1 hj).1
        have := hcell j (by omega)
        rw [Go.WideShapes.add_plain, Go.WideShapes.add_plain] at this
        rw [this]
        exact hj
      have hb0 := hcell' 0 cs[0] (by simp)
      exact ⟨b, off, cs, rfl, trivial, cell_lt hb0, r1, r2, r3, hcell'⟩
    · have : l.length * bytes ≤ (elems.length + rest.length) * bytes := Nat.mul_le_mul_right _ (by omega)
      omega
    · obtain ⟨i, hi⟩ := List.mem_iff_getElem?.1 hy
      obtain ⟨cs, hc, r1, r2, r3, r4, r5⟩ := hq i y hi
      exact r4
    · have := mass_le (mass := mass) (l := l) (es := elems) (by omega) fun i y d hy hd => by
        obtain ⟨cs, hc, r1, r2, r3, r4, r5⟩ := hq i y hy
        exact r5 d hd
      simp only [bk]
      omega

/-- A record's fields, read one by one. -/
theorem reads_fields {fs : Array Field} {α : Type} {sz : Nat} {R : World → List Value → α → Prop} {fit : α → Prop} {mass : α → Nat} (ht : P.underlying t = some (.struct fs)) (hsz : P.cellsOf t = sz)
    (h : ∀ (H : Type) (enc : TypeId × Value → H) (w : World) (n : Nat) (cs : List Value) (xs : List (DataW H × List MemPlace)), cs.length = sz → xs.length = fs.size →
      (∀ (i : Nat) (f : Field), fs[i]? = some f → DataW.trod enc P w 0 (fun _ => true) true n f.type ((cs.drop f.offset).take (P.cellsOf f.type)) = xs[i]?) →
      (∀ (i : Nat) (f : Field) (x : DataW H × List MemPlace), fs[i]? = some f → xs[i]? = some x → ∀ n ∈ x.1.weights P f.type, n ≤ reachBytes) →
      ∃ y : α, R w cs y ∧ (∀ v ∈ cs, v.oneCell' = true) ∧ fit y ∧ mass y ≤ bkAll (xs.map (·.1)) + 1) : Reads P t sz R fit mass := by
  intro H enc w fuel cs x hx hw
  obtain ⟨xs, n, rfl, rfl, hl, hn, hf⟩ := DataW.trod_struct ht hx
  rw [hsz] at hl
  have hw' : ∀ n ∈ DataW.weightsEach P (fs.toList.map (·.type)) (xs.map (·.1)), n ≤ reachBytes := fun n hn => hw n (by simp only [DataW.weights, ht]; exact hn)
  obtain ⟨y, r1, r2, r3, r4⟩ := h H enc w n cs xs hl hn hf fun i f x hfi hx m hm => hw' m (DataW.weights_mem_each (j := i) (t := f.type) (d := x.1) (by simp only [List.getElem?_map, Array.getElem?_toList, hfi]; rfl) (by simp only [List.getElem?_map, hx]; rfl) m hm)
  exact ⟨y, r1, hl, r2, r3, by simp only [bk]; exact r4⟩

/-! ### Arguments -/

theorem arg_int {H : Type} {enc : TypeId × Value → H} {w : World} {r : Reach} {b0 : Nat} {v : Value} {d : DataW H} {p : List MemPlace} (ht : P.underlying t = some (.int .i64)) (hval : Value.okWide P w r b0 t v) (hd : DataW.Trod enc P w 0 (fun _ => true) true t v d p) :
    ∃ n : Int, v = .int .i64 n ∧ fitI n := by
  obtain ⟨n, rfl⟩ := okWide_int ht hval
  obtain ⟨fuel, hf⟩ := hd
  obtain ⟨m, hm, _, hw⟩ := DataW.trod_int ht hf
  simp only [Value.cells, List.cons.injEq, Value.int.injEq, and_true, true_and] at hm
  subst hm
  exact ⟨n, rfl, bounds_i64 hw⟩

theorem arg_string {H : Type} {enc : TypeId × Value → H} {w : World} {r : Reach} {b0 : Nat} {v : Value} {d : DataW H} {p : List MemPlace} (ht : P.underlying t = some .string) (hval : Value.okWide P w r b0 t v) (hd : DataW.Trod enc P w 0 (fun _ => true) true t v d p) (hw : ∀ n ∈ d.weights P t, n ≤ reachBytes) :
    ∃ s : ByteArray, v = .string s ∧ s.size ≤ 140737488351232 ∧ s.size + 1 ≤ bk d := by
  obtain ⟨s, rfl⟩ := okWide_string ht hval
  obtain ⟨fuel, hf⟩ := hd
  obtain ⟨y, h1, _, _, h4, h5⟩ := reads_string ht H enc w fuel _ _ hf hw
  simp only [Value.cells, List.cons.injEq, Value.string.injEq, and_true] at h1
  subst h1
  exact ⟨s, rfl, h4, h5⟩

theorem arg_slice {H : Type} {enc : TypeId × Value → H} {w : World} {r : Reach} {b0 : Nat} {v : Value} {d : DataW H} {p : List MemPlace} {e : TypeId} {sz bytes : Nat} {α : Type} {R : World → List Value → α → Prop} {fit : α → Prop} {mass : α → Nat}
    (h : Reads P e sz R fit mass) (ht : P.underlying t = some (.slice e)) (hsz : P.cellsOf e = sz) (hpos : 0 < sz) (hb : P.bytesOf e = bytes) (hval : Value.okWide P w r b0 t v) (hd : DataW.Trod enc P w 0 (fun _ => true) true t v d p) (hw : ∀ n ∈ d.weights P t, n ≤ reachBytes) :
    ∃ (l : List α) (a : Option Addr) (c : Nat), v = .slice a l.length c ∧ SlR (fun _ => True) w sz (R w) a c l ∧ l.length * bytes ≤ 140737488351232 ∧ (∀ x ∈ l, fit x) ∧ (l.map mass).sum + 1 ≤ bk d := by
  obtain ⟨a, n, c, rfl⟩ := okWide_slice ht hval
  obtain ⟨fuel, hf⟩ := hd
  obtain ⟨l, ⟨a', c', h1, h2⟩, _, _, ⟨h4, h5⟩, h6⟩ := reads_slice h ht hsz hpos hb H enc w fuel _ _ hf hw
  simp only [Value.cells, List.cons.injEq, Value.slice.injEq, and_true] at h1
  obtain ⟨rfl, rfl, rfl⟩ := h1
  exact ⟨l, a, c, rfl, h2, h4, h5, h6⟩

theorem arg_struct {H : Type} {enc : TypeId × Value → H} {w : World} {r : Reach} {b0 : Nat} {v : Value} {d : DataW H} {p : List MemPlace} {fs : Array Field} {sz : Nat} {α : Type} {R : World → List Value → α → Prop} {fit : α → Prop} {mass : α → Nat}
    (h : Reads P t sz R fit mass) (ht : P.underlying t = some (.struct fs)) (hval : Value.okWide P w r b0 t v) (hd : DataW.Trod enc P w 0 (fun _ => true) true t v d p) (hw : ∀ n ∈ d.weights P t, n ≤ reachBytes) :
    ∃ (y : α) (cs : List Value), v = .agg cs.toArray ∧ R w cs y ∧ fit y ∧ mass y ≤ bk d := by
  obtain ⟨cs, rfl, _⟩ := okWide_struct ht hval
  obtain ⟨fuel, hf⟩ := hd
  obtain ⟨y, h1, _, _, h4, h5⟩ := h H enc w fuel _ _ hf hw
  exact ⟨y, cs.toList, by simp, h1, h4, h5⟩

end
end Go.Proofs.Ytbngblmdcggfdaa

/- The program's plain records as Lean's own, and what cells stand for each. No program is in sight. -/
namespace Go.Proofs.Ytbngblmdcggfdaa
open Go.RowKit

structure Lev where
  c : Int
  l : Int
  deriving DecidableEq

structure Mail where
  host : Int
  thread : Int
  label : List Lev
  grants : List Int
  text : ByteArray

structure Cert where
  c : Int
  by_ : Int
  host : Int
  till : Int
  deriving DecidableEq

structure Frame where
  src : Int
  dst : Int
  seq : Int
  ack : Bool
  thread : Int
  mail : Mail
  certs : List Cert

structure Sent where
  frame : Frame
  tries : Int
  due : Int

/-- Cells of the line's eight truths. -/
structure Eight where
  s0 : Bool
  s1 : Bool
  s2 : Bool
  s3 : Bool
  s4 : Bool
  s5 : Bool
  s6 : Bool
  s7 : Bool
  deriving DecidableEq

structure Line where
  next : Int
  sent : List Sent
  high : Int
  seen : Eight

def RInt (cs : List Value) (x : Int) : Prop := cs = [.int .i64 x]
def RLev (cs : List Value) (x : Lev) : Prop := cs = [.int .i64 x.c, .int .i64 x.l]
def RCert (cs : List Value) (x : Cert) : Prop := cs = [.int .i64 x.c, .int .i64 x.by_, .int .i64 x.host, .int .i64 x.till]
def RStr (cs : List Value) (x : ByteArray) : Prop := cs = [.string x]

def RMail (ok : Nat → Prop) (w : World) (cs : List Value) (m : Mail) : Prop :=
  ∃ la lc ga gc, cs = [.int .i64 m.host, .int .i64 m.thread, .slice la m.label.length lc, .slice ga m.grants.length gc, .string m.text] ∧ SlR ok w 2 RLev la lc m.label ∧ SlR ok w 1 RInt ga gc m.grants

def RFrame (ok : Nat → Prop) (w : World) (cs : List Value) (f : Frame) : Prop :=
  ∃ la lc ga gc ca cc, cs = [.int .i64 f.src, .int .i64 f.dst, .int .i64 f.seq, .bool f.ack, .int .i64 f.thread, .int .i64 f.mail.host, .int .i64 f.mail.thread, .slice la f.mail.label.length lc, .slice ga f.mail.grants.length gc, .string f.mail.text, .slice ca f.certs.length cc] ∧
    SlR ok w 2 RLev la lc f.mail.label ∧ SlR ok w 1 RInt ga gc f.mail.grants ∧ SlR ok w 4 RCert ca cc f.certs

def RSent (ok : Nat → Prop) (w : World) (cs : List Value) (s : Sent) : Prop :=
  ∃ la lc ga gc ca cc, cs = [.int .i64 s.frame.src, .int .i64 s.frame.dst, .int .i64 s.frame.seq, .bool s.frame.ack, .int .i64 s.frame.thread, .int .i64 s.frame.mail.host, .int .i64 s.frame.mail.thread, .slice la s.frame.mail.label.length lc, .slice ga s.frame.mail.grants.length gc, .string s.frame.mail.text, .slice ca s.frame.certs.length cc, .int .i64 s.tries, .int .i64 s.due] ∧
    SlR ok w 2 RLev la lc s.frame.mail.label ∧ SlR ok w 1 RInt ga gc s.frame.mail.grants ∧ SlR ok w 4 RCert ca cc s.frame.certs

theorem RMail.keep {ok : Nat → Prop} {w w' : World} (hk : Keeps ok w w') {cs : List Value} {m : Mail} (h : RMail ok w cs m) : RMail ok w' cs m := by
  obtain ⟨la, lc, ga, gc, e, h1, h2⟩ := h
  exact ⟨la, lc, ga, gc, e, h1.keep hk, h2.keep hk⟩
theorem RFrame.keep {ok : Nat → Prop} {w w' : World} (hk : Keeps ok w w') {cs : List Value} {f : Frame} (h : RFrame ok w cs f) : RFrame ok w' cs f := by
  obtain ⟨la, lc, ga, gc, ca, cc, e, h1, h2, h3⟩ := h
  exact ⟨la, lc, ga, gc, ca, cc, e, h1.keep hk, h2.keep hk, h3.keep hk⟩
theorem RSent.keep {ok : Nat → Prop} {w w' : World} (hk : Keeps ok w w') {cs : List Value} {s : Sent} (h : RSent ok w cs s) : RSent ok w' cs s := by
  obtain ⟨la, lc, ga, gc, ca, cc, e, h1, h2, h3⟩ := h
  exact ⟨la, lc, ga, gc, ca, cc, e, h1.keep hk, h2.keep hk, h3.keep hk⟩

/-- A list of frames that were sent. -/
abbrev SentR (ok : Nat → Prop) (w : World) (a : Option Addr) (c : Nat) (l : List Sent) : Prop := SlR ok w 13 (RSent ok w) a c l
theorem SentR.keep {ok : Nat → Prop} {w w' : World} {a : Option Addr} {c : Nat} {l : List Sent} (h : SentR ok w a c l) (hk : Keeps ok w w') : SentR ok w' a c l := h.mono hk fun _ _ => RSent.keep hk
theorem SentR.below {ok : Nat → Prop} {w w' : World} {a : Option Addr} {c : Nat} {l : List Sent} (h : SentR ok w a c l) (hk : Below w.heap.size w w') : SentR ok w' a c l := SentR.keep h (.of_below hk)

section
variable {ok : Nat → Prop} {w w' : World} {a : Option Addr} {c : Nat}

theorem SlR.int_at {xs : List Int} (h : SlR ok w 1 RInt a c xs) (i : Nat) (hi : i < xs.length) :
    ∃ b o, a = some ⟨b, o, none⟩ ∧ b < w.heap.size ∧ w.cell? ⟨b, o + i, none⟩ = some (.int .i64 xs[i]) := by
  obtain ⟨b, o, cs, ha, _, hb, rfl, _, _, hc⟩ := h.2.2.2 i xs[i] (by simp [hi])
  exact ⟨b, o, ha, hb, by simpa using hc 0 _ rfl⟩

theorem SlR.lev_at {xs : List Lev} (h : SlR ok w 2 RLev a c xs) (i : Nat) (hi : i < xs.length) :
    ∃ b o, a = some ⟨b, o, none⟩ ∧ b < w.heap.size ∧ w.cell? ⟨b, o + i * 2, none⟩ = some (.int .i64 xs[i].c) ∧ w.cell? ⟨b, o + i * 2 + 1, none⟩ = some (.int .i64 xs[i].l) := by
  obtain ⟨b, o, cs, ha, _, hb, rfl, _, _, hc⟩ := h.2.2.2 i xs[i] (by simp [hi])
  exact ⟨b, o, ha, hb, by simpa using hc 0 _ rfl, by simpa using hc 1 _ rfl⟩

theorem SlR.cert_at {xs : List Cert} (h : SlR ok w 4 RCert a c xs) (i : Nat) (hi : i < xs.length) :
    ∃ b o, a = some ⟨b, o, none⟩ ∧ b < w.heap.size ∧ w.cell? ⟨b, o + i * 4, none⟩ = some (.int .i64 xs[i].c) ∧ w.cell? ⟨b, o + i * 4 + 1, none⟩ = some (.int .i64 xs[i].by_) ∧
      w.cell? ⟨b, o + i * 4 + 2, none⟩ = some (.int .i64 xs[i].host) ∧ w.cell? ⟨b, o + i * 4 + 3, none⟩ = some (.int .i64 xs[i].till) := by
  obtain ⟨b, o, cs, ha, _, hb, rfl, _, _, hc⟩ := h.2.2.2 i xs[i] (by simp [hi])
  exact ⟨b, o, ha, hb, by simpa using hc 0 _ rfl, by simpa using hc 1 _ rfl, by simpa using hc 2 _ rfl, by simpa using hc 3 _ rfl⟩

theorem SlR.sent_at {xs : List Sent} (h : SentR ok w a c xs) (i : Nat) (hi : i < xs.length) :
    ∃ b o la lc ga gc ca cc, a = some ⟨b, o, none⟩ ∧ b < w.heap.size ∧ (SlR ok w 2 RLev la lc xs[i].frame.mail.label ∧ SlR ok w 1 RInt ga gc xs[i].frame.mail.grants ∧ SlR ok w 4 RCert ca cc xs[i].frame.certs) ∧
      w.cell? ⟨b, o + i * 13, none⟩ = some (.int .i64 xs[i].frame.src) ∧ w.cell? ⟨b, o + i * 13 + 1, none⟩ = some (.int .i64 xs[i].frame.dst) ∧ w.cell? ⟨b, o + i * 13 + 2, none⟩ = some (.int .i64 xs[i].frame.seq) ∧ w.cell? ⟨b, o + i * 13 + 3, none⟩ = some (.bool xs[i].frame.ack) ∧
      w.cell? ⟨b, o + i * 13 + 4, none⟩ = some (.int .i64 xs[i].frame.thread) ∧ w.cell? ⟨b, o + i * 13 + 5, none⟩ = some (.int .i64 xs[i].frame.mail.host) ∧ w.cell? ⟨b, o + i * 13 + 6, none⟩ = some (.int .i64 xs[i].frame.mail.thread) ∧
      w.cell? ⟨b, o + i * 13 + 7, none⟩ = some (.slice la xs[i].frame.mail.label.length lc) ∧ w.cell? ⟨b, o + i * 13 + 8, none⟩ = some (.slice ga xs[i].frame.mail.grants.length gc) ∧ w.cell? ⟨b, o + i * 13 + 9, none⟩ = some (.string xs[i].frame.mail.text) ∧
      w.cell? ⟨b, o + i * 13 + 10, none⟩ = some (.slice ca xs[i].frame.certs.length cc) ∧ w.cell? ⟨b, o + i * 13 + 11, none⟩ = some (.int .i64 xs[i].tries) ∧ w.cell? ⟨b, o + i * 13 + 12, none⟩ = some (.int .i64 xs[i].due) := by
  obtain ⟨b, o, cs, ha, _, hb, ⟨la, lc, ga, gc, ca, cc, rfl, r1, r2, r3⟩, _, _, hc⟩ := h.2.2.2 i xs[i] (by simp [hi])
  exact ⟨b, o, la, lc, ga, gc, ca, cc, ha, hb, ⟨r1, r2, r3⟩, by simpa using hc 0 _ rfl, by simpa using hc 1 _ rfl, by simpa using hc 2 _ rfl, by simpa using hc 3 _ rfl, by simpa using hc 4 _ rfl, by simpa using hc 5 _ rfl, by simpa using hc 6 _ rfl, by simpa using hc 7 _ rfl, by simpa using hc 8 _ rfl, by simpa using hc 9 _ rfl, by simpa using hc 10 _ rfl, by simpa using hc 11 _ rfl, by simpa using hc 12 _ rfl⟩
end

/-- The level of a category in a label: the first that names it, else the plain one. -/
def lAt : List Lev → Int → Int
  | [], _ => 1
  | x :: l, c => if x.c = c then x.l else lAt l c

end Go.Proofs.Ytbngblmdcggfdaa

/- What reads as data at the program's structs, as records of ours (printed by opens.py). -/
namespace Go.Proofs.Ytbngblmdcggfdaa
open Go.RowKit

theorem reads_Int : Reads Try.prog 3 1 (fun _ => RInt) fitI (fun _ => 1) := reads_int Try.underlying3

def Eight.list (e : Eight) : List Value := [.bool e.s0, .bool e.s1, .bool e.s2, .bool e.s3, .bool e.s4, .bool e.s5, .bool e.s6, .bool e.s7]

def RLine (ok : Nat → Prop) (w : World) (cs : List Value) (L : Line) : Prop :=
  ∃ sa sc, cs = [.int .i64 L.next, .slice sa L.sent.length sc, .int .i64 L.high, .bool L.seen.s0, .bool L.seen.s1, .bool L.seen.s2, .bool L.seen.s3, .bool L.seen.s4, .bool L.seen.s5, .bool L.seen.s6, .bool L.seen.s7] ∧ SentR ok w sa sc L.sent

def Lev.fit (x : Lev) : Prop := fitI x.c ∧ fitI x.l
def Lev.mass (x : Lev) : Nat := 1 + 1

theorem reads_Lev : Reads Try.prog 53 2 (fun _ cs (x : Lev) => RLev cs x) Lev.fit Lev.mass := by
  refine reads_fields Try.underlying53 (by kernel_rfl) ?_
  intro H enc w n cs xs hl hn hf hw
  have k0 : Try.prog.cellsOf 3 = 1 := by kernel_rfl
  obtain ⟨c0, c1, rfl⟩ := len2 hl
  obtain ⟨x0, x1, rfl⟩ := len2 hn
  have h0 : DataW.trod enc Try.prog w 0 (fun _ => true) true n 3 (([c0, c1].drop 0).take (Try.prog.cellsOf 3)) = some x0 := hf 0 _ rfl
  have w0 : ∀ n ∈ x0.1.weights Try.prog 3, n ≤ reachBytes := hw 0 _ _ rfl rfl
  rw [k0] at h0
  obtain ⟨y0, r0, _, o0, f0, m0⟩ := (reads_int Try.underlying3) H enc w n _ _ h0 w0
  simp only [List.drop_succ_cons, List.drop_zero, List.take_succ_cons, List.take_zero, List.cons.injEq, and_true] at r0 o0
  have h1 : DataW.trod enc Try.prog w 0 (fun _ => true) true n 3 (([c0, c1].drop 1).take (Try.prog.cellsOf 3)) = some x1 := hf 1 _ rfl
  have w1 : ∀ n ∈ x1.1.weights Try.prog 3, n ≤ reachBytes := hw 1 _ _ rfl rfl
  rw [k0] at h1
  obtain ⟨y1, r1, _, o1, f1, m1⟩ := (reads_int Try.underlying3) H enc w n _ _ h1 w1
  simp only [List.drop_succ_cons, List.drop_zero, List.take_succ_cons, List.take_zero, List.cons.injEq, and_true] at r1 o1
  subst r0
  subst r1
  try dsimp only at m0
  try dsimp only at m1
  exact ⟨⟨y0, y1⟩, rfl, by simp [Value.oneCell'], ⟨f0, f1⟩, by simp only [Lev.mass, bkAll, List.map_cons, List.map_nil]; omega⟩

def Cert.fit (x : Cert) : Prop := fitI x.c ∧ fitI x.by_ ∧ fitI x.host ∧ fitI x.till
def Cert.mass (x : Cert) : Nat := 1 + 1 + 1 + 1

theorem reads_Cert : Reads Try.prog 43 4 (fun _ cs (x : Cert) => RCert cs x) Cert.fit Cert.mass := by
  refine reads_fields Try.underlying43 (by kernel_rfl) ?_
  intro H enc w n cs xs hl hn hf hw
  have k0 : Try.prog.cellsOf 3 = 1 := by kernel_rfl
  obtain ⟨c0, c1, c2, c3, rfl⟩ := len4 hl
  obtain ⟨x0, x1, x2, x3, rfl⟩ := len4 hn
  have h0 : DataW.trod enc Try.prog w 0 (fun _ => true) true n 3 (([c0, c1, c2, c3].drop 0).take (Try.prog.cellsOf 3)) = some x0 := hf 0 _ rfl
  have w0 : ∀ n ∈ x0.1.weights Try.prog 3, n ≤ reachBytes := hw 0 _ _ rfl rfl
  rw [k0] at h0
  obtain ⟨y0, r0, _, o0, f0, m0⟩ := (reads_int Try.underlying3) H enc w n _ _ h0 w0
  simp only [List.drop_succ_cons, List.drop_zero, List.take_succ_cons, List.take_zero, List.cons.injEq, and_true] at r0 o0
  have h1 : DataW.trod enc Try.prog w 0 (fun _ => true) true n 3 (([c0, c1, c2, c3].drop 1).take (Try.prog.cellsOf 3)) = some x1 := hf 1 _ rfl
  have w1 : ∀ n ∈ x1.1.weights Try.prog 3, n ≤ reachBytes := hw 1 _ _ rfl rfl
  rw [k0] at h1
  obtain ⟨y1, r1, _, o1, f1, m1⟩ := (reads_int Try.underlying3) H enc w n _ _ h1 w1
  simp only [List.drop_succ_cons, List.drop_zero, List.take_succ_cons, List.take_zero, List.cons.injEq, and_true] at r1 o1
  have h2 : DataW.trod enc Try.prog w 0 (fun _ => true) true n 3 (([c0, c1, c2, c3].drop 2).take (Try.prog.cellsOf 3)) = some x2 := hf 2 _ rfl
  have w2 : ∀ n ∈ x2.1.weights Try.prog 3, n ≤ reachBytes := hw 2 _ _ rfl rfl
  rw [k0] at h2
  obtain ⟨y2, r2, _, o2, f2, m2⟩ := (reads_int Try.underlying3) H enc w n _ _ h2 w2
  simp only [List.drop_succ_cons, List.drop_zero, List.take_succ_cons, List.take_zero, List.cons.injEq, and_true] at r2 o2
  have h3 : DataW.trod enc Try.prog w 0 (fun _ => true) true n 3 (([c0, c1, c2, c3].drop 3).take (Try.prog.cellsOf 3)) = some x3 := hf 3 _ rfl
  have w3 : ∀ n ∈ x3.1.weights Try.prog 3, n ≤ reachBytes := hw 3 _ _ rfl rfl
  rw [k0] at h3
  obtain ⟨y3, r3, _, o3, f3, m3⟩ := (reads_int Try.underlying3) H enc w n _ _ h3 w3
  simp only [List.drop_succ_cons, List.drop_zero, List.take_succ_cons, List.take_zero, List.cons.injEq, and_true] at r3 o3
  subst r0
  subst r1
  subst r2
  subst r3
  try dsimp only at m0
  try dsimp only at m1
  try dsimp only at m2
  try dsimp only at m3
  exact ⟨⟨y0, y1, y2, y3⟩, rfl, by simp [Value.oneCell'], ⟨f0, f1, f2, f3⟩, by simp only [Cert.mass, bkAll, List.map_cons, List.map_nil]; omega⟩

theorem reads_LLev : Reads Try.prog 24 1 (fun w cs (l : List Lev) => ∃ a c, cs = [.slice a l.length c] ∧ SlR (fun _ => True) w 2 ((fun w cs x => RLev cs x) w) a c l) (fun l => l.length * 16 ≤ 140737488351232 ∧ ∀ y ∈ l, y.fit) (fun l => (l.map (Lev.mass)).sum + 1) :=
  reads_slice (fit := Lev.fit) (mass := Lev.mass) reads_Lev Try.underlying24 (by kernel_rfl) (by decide) (by kernel_rfl)

theorem reads_LInt : Reads Try.prog 25 1 (fun w cs (l : List Int) => ∃ a c, cs = [.slice a l.length c] ∧ SlR (fun _ => True) w 1 ((fun _ => RInt) w) a c l) (fun l => l.length * 8 ≤ 140737488351232 ∧ ∀ y ∈ l, fitI y) (fun l => (l.map (fun _ => 1)).sum + 1) :=
  reads_slice (fit := fitI) (mass := fun _ => 1) reads_Int Try.underlying25 (by kernel_rfl) (by decide) (by kernel_rfl)

def Mail.fit (x : Mail) : Prop := fitI x.host ∧ fitI x.thread ∧ (x.label.length * 16 ≤ 140737488351232 ∧ ∀ y ∈ x.label, y.fit) ∧ (x.grants.length * 8 ≤ 140737488351232 ∧ ∀ y ∈ x.grants, fitI y) ∧ x.text.size ≤ 140737488351232
def Mail.mass (x : Mail) : Nat := 1 + 1 + ((x.label.map Lev.mass).sum + 1) + ((x.grants.map fun _ => 1).sum + 1) + (x.text.size + 1)

theorem reads_Mail : Reads Try.prog 27 5 (fun w cs (x : Mail) => RMail (fun _ => True) w cs x) Mail.fit Mail.mass := by
  refine reads_fields Try.underlying27 (by kernel_rfl) ?_
  intro H enc w n cs xs hl hn hf hw
  have k0 : Try.prog.cellsOf 3 = 1 := by kernel_rfl
  have k1 : Try.prog.cellsOf 24 = 1 := by kernel_rfl
  have k2 : Try.prog.cellsOf 25 = 1 := by kernel_rfl
  have k3 : Try.prog.cellsOf 9 = 1 := by kernel_rfl
  obtain ⟨c0, c1, c2, c3, c4, rfl⟩ := len5 hl
  obtain ⟨x0, x1, x2, x3, x4, rfl⟩ := len5 hn
  have h0 : DataW.trod enc Try.prog w 0 (fun _ => true) true n 3 (([c0, c1, c2, c3, c4].drop 0).take (Try.prog.cellsOf 3)) = some x0 := hf 0 _ rfl
  have w0 : ∀ n ∈ x0.1.weights Try.prog 3, n ≤ reachBytes := hw 0 _ _ rfl rfl
  rw [k0] at h0
  obtain ⟨y0, r0, _, o0, f0, m0⟩ := (reads_int Try.underlying3) H enc w n _ _ h0 w0
  simp only [List.drop_succ_cons, List.drop_zero, List.take_succ_cons, List.take_zero, List.cons.injEq, and_true] at r0 o0
  have h1 : DataW.trod enc Try.prog w 0 (fun _ => true) true n 3 (([c0, c1, c2, c3, c4].drop 1).take (Try.prog.cellsOf 3)) = some x1 := hf 1 _ rfl
  have w1 : ∀ n ∈ x1.1.weights Try.prog 3, n ≤ reachBytes := hw 1 _ _ rfl rfl
  rw [k0] at h1
  obtain ⟨y1, r1, _, o1, f1, m1⟩ := (reads_int Try.underlying3) H enc w n _ _ h1 w1
  simp only [List.drop_succ_cons, List.drop_zero, List.take_succ_cons, List.take_zero, List.cons.injEq, and_true] at r1 o1
  have h2 : DataW.trod enc Try.prog w 0 (fun _ => true) true n 24 (([c0, c1, c2, c3, c4].drop 2).take (Try.prog.cellsOf 24)) = some x2 := hf 2 _ rfl
  have w2 : ∀ n ∈ x2.1.weights Try.prog 24, n ≤ reachBytes := hw 2 _ _ rfl rfl
  rw [k1] at h2
  obtain ⟨y2, r2, _, o2, f2, m2⟩ := reads_LLev H enc w n _ _ h2 w2
  simp only [List.drop_succ_cons, List.drop_zero, List.take_succ_cons, List.take_zero, List.cons.injEq, and_true] at r2 o2
  have h3 : DataW.trod enc Try.prog w 0 (fun _ => true) true n 25 (([c0, c1, c2, c3, c4].drop 3).take (Try.prog.cellsOf 25)) = some x3 := hf 3 _ rfl
  have w3 : ∀ n ∈ x3.1.weights Try.prog 25, n ≤ reachBytes := hw 3 _ _ rfl rfl
  rw [k2] at h3
  obtain ⟨y3, r3, _, o3, f3, m3⟩ := reads_LInt H enc w n _ _ h3 w3
  simp only [List.drop_succ_cons, List.drop_zero, List.take_succ_cons, List.take_zero, List.cons.injEq, and_true] at r3 o3
  have h4 : DataW.trod enc Try.prog w 0 (fun _ => true) true n 9 (([c0, c1, c2, c3, c4].drop 4).take (Try.prog.cellsOf 9)) = some x4 := hf 4 _ rfl
  have w4 : ∀ n ∈ x4.1.weights Try.prog 9, n ≤ reachBytes := hw 4 _ _ rfl rfl
  rw [k3] at h4
  obtain ⟨y4, r4, _, o4, f4, m4⟩ := (reads_string Try.underlying9) H enc w n _ _ h4 w4
  simp only [List.drop_succ_cons, List.drop_zero, List.take_succ_cons, List.take_zero, List.cons.injEq, and_true] at r4 o4
  subst r0
  subst r1
  obtain ⟨a2, b2, q2, s2⟩ := r2
  try simp only [List.cons.injEq, and_true] at q2
  subst q2
  obtain ⟨a3, b3, q3, s3⟩ := r3
  try simp only [List.cons.injEq, and_true] at q3
  subst q3
  subst r4
  try dsimp only at m0
  try dsimp only at m1
  try dsimp only at m2
  try dsimp only at m3
  try dsimp only at m4
  exact ⟨⟨y0, y1, y2, y3, y4⟩, ⟨a2, b2, a3, b3, rfl, s2, s3⟩, by simp [Value.oneCell'], ⟨f0, f1, f2, f3, f4⟩, by simp only [Mail.mass, bkAll, List.map_cons, List.map_nil]; omega⟩

theorem reads_LCert : Reads Try.prog 22 1 (fun w cs (l : List Cert) => ∃ a c, cs = [.slice a l.length c] ∧ SlR (fun _ => True) w 4 ((fun w cs x => RCert cs x) w) a c l) (fun l => l.length * 32 ≤ 140737488351232 ∧ ∀ y ∈ l, y.fit) (fun l => (l.map (Cert.mass)).sum + 1) :=
  reads_slice (fit := Cert.fit) (mass := Cert.mass) reads_Cert Try.underlying22 (by kernel_rfl) (by decide) (by kernel_rfl)

def Frame.fit (x : Frame) : Prop := fitI x.src ∧ fitI x.dst ∧ fitI x.seq ∧ True ∧ fitI x.thread ∧ x.mail.fit ∧ (x.certs.length * 32 ≤ 140737488351232 ∧ ∀ y ∈ x.certs, y.fit)
def Frame.mass (x : Frame) : Nat := 1 + 1 + 1 + 1 + 1 + x.mail.mass + ((x.certs.map Cert.mass).sum + 1)

def Sent.fit (x : Sent) : Prop := x.frame.fit ∧ fitI x.tries ∧ fitI x.due
def Sent.mass (x : Sent) : Nat := x.frame.mass + 1 + 1

def Line.fit (x : Line) : Prop := fitI x.next ∧ (x.sent.length * 160 ≤ 140737488351232 ∧ ∀ y ∈ x.sent, y.fit) ∧ fitI x.high ∧ True
def Line.mass (x : Line) : Nat := 1 + ((x.sent.map Sent.mass).sum + 1) + 1 + 1

end Go.Proofs.Ytbngblmdcggfdaa

/- Plain laws on labels: lists of levels; no program, no memory. -/
namespace Go.Proofs.Ytbngblmdcggfdaa

/-! ### Lists that rise, each number once -/

def insI (x : Int) : List Int → List Int
  | [] => [x]
  | y :: l => if x < y then x :: y :: l else if x = y then y :: l else y :: insI x l

def uniq (l : List Int) : List Int := l.foldr insI []

abbrev Rising (l : List Int) : Prop := l.Pairwise (· < ·)

theorem insI_mem {x z : Int} {l : List Int} : z ∈ insI x l ↔ z = x ∨ z ∈ l := by
  induction l with
  | nil => simp [insI]
  | cons y l ih =>
    unfold insI
    split
    · simp
    · split
      · rename_i h; subst h; simp
      · simp only [List.mem_cons, ih]
        constructor
        · rintro (h | h | h) <;> simp [h]
        · rintro (h | h | h) <;> simp [h]

theorem insI_rising {x : Int} {l : List Int} (h : Rising l) : Rising (insI x l) := by
  induction l with
  | nil => simp [insI]
  | cons y l ih =>
    unfold insI
    have hy := List.pairwise_cons.1 h
    split
    · rename_i hxy
      exact List.pairwise_cons.2 ⟨fun z hz => by rcases List.mem_cons.1 hz with rfl | hz; exact hxy; exact Int.lt_trans hxy (hy.1 z hz), h⟩
    · split
      · exact h
      · rename_i h1 h2
        refine List.pairwise_cons.2 ⟨fun z hz => ?_, ih hy.2⟩
        rcases insI_mem.1 hz with rfl | hz
        · omega
        · exact hy.1 z hz

theorem uniq_mem {z : Int} {l : List Int} : z ∈ uniq l ↔ z ∈ l := by
  induction l with
  | nil => simp [uniq]
  | cons y l ih => show z ∈ insI y (uniq l) ↔ _; rw [insI_mem, ih, List.mem_cons]

theorem uniq_rising (l : List Int) : Rising (uniq l) := by
  induction l with
  | nil => exact List.Pairwise.nil
  | cons y l ih => exact insI_rising ih

theorem rising_ext {a b : List Int} (ha : Rising a) (hb : Rising b) (h : ∀ z, z ∈ a ↔ z ∈ b) : a = b := by
  induction a generalizing b with
  | nil =>
    cases b with
    | nil => rfl
    | cons y b => have := (h y).2 (by simp); simp at this
  | cons x a ih =>
    cases b with
    | nil => have := (h x).1 (by simp); simp at this
    | cons y b =>
      have ha' := List.pairwise_cons.1 ha
      have hb' := List.pairwise_cons.1 hb
      have hxy : x = y := by
        rcases List.mem_cons.1 ((h x).1 (by simp)) with e | e
        · exact e
        · rcases List.mem_cons.1 ((h y).2 (by simp)) with e' | e'
          · exact e'.symm
          · have := hb'.1 x e; have := ha'.1 y e'; omega
      subst hxy
      rw [ih ha'.2 hb'.2 fun z => ?_]
      constructor
      · intro hz
        rcases List.mem_cons.1 ((h z).1 (by simp [hz])) with e | e
        · have := ha'.1 z hz; omega
        · exact e
      · intro hz
        rcases List.mem_cons.1 ((h z).2 (by simp [hz])) with e | e
        · have := hb'.1 z hz; omega
        · exact e

theorem uniq_of {a l : List Int} (ha : Rising a) (h : ∀ z, z ∈ a ↔ z ∈ l) : a = uniq l := rising_ext ha (uniq_rising l) fun z => (h z).trans uniq_mem.symm

/-! ### Labels -/

def catsOf (l : List Lev) : List Int := l.map (·.c)
def eachL (a b : List Lev) : List Int := uniq (catsOf a ++ catsOf b)

theorem eachL_mem {a b : List Lev} {z : Int} : z ∈ eachL a b ↔ z ∈ catsOf a ∨ z ∈ catsOf b := by rw [eachL, uniq_mem, List.mem_append]

theorem eachL_comm (a b : List Lev) : eachL a b = eachL b a := rising_ext (uniq_rising _) (uniq_rising _) fun z => by
  rw [eachL_mem, eachL_mem]; exact Or.comm

theorem lAt_not {l : List Lev} {c : Int} (h : c ∉ catsOf l) : lAt l c = 1 := by
  induction l with
  | nil => rfl
  | cons x l ih =>
    simp only [catsOf, List.map_cons, List.mem_cons, not_or] at h
    rw [lAt, if_neg (fun e => h.1 e.symm)]
    exact ih h.2

/-- From the k-th category on: do they all flow? -/
def flowsFrom (a b : List Lev) (own : List Int) : List Int → Bool
  | [] => true
  | c :: l => if lAt b c < lAt a c then (if inL own c then flowsFrom a b own l else false) else flowsFrom a b own l

def flowsL (a b : List Lev) (own : List Int) : Bool := flowsFrom a b own (eachL a b)

theorem flowsFrom_iff (a b : List Lev) (own : List Int) (l : List Int) : flowsFrom a b own l = true ↔ ∀ c ∈ l, c ∉ own → lAt a c ≤ lAt b c := by
  induction l with
  | nil => simp [flowsFrom]
  | cons c l ih =>
    unfold flowsFrom
    by_cases h : lAt b c < lAt a c
    · rw [if_pos h]
      by_cases ho : inL own c = true
      · rw [if_pos ho, ih]
        have := (inL_iff own c).1 ho
        constructor
        · intro H d hd hn
          rcases List.mem_cons.1 hd with rfl | hd
          · exact absurd this hn
          · exact H d hd hn
        · exact fun H d hd hn => H d (by simp [hd]) hn
      · rw [if_neg ho]
        simp only [Bool.false_eq_true, false_iff]
        intro H
        have := H c (by simp) (by rwa [← inL_not, Bool.eq_false_iff])
        omega
    · rw [if_neg h, ih]
      constructor
      · intro H d hd hn
        rcases List.mem_cons.1 hd with rfl | hd
        · omega
        · exact H d hd hn
      · exact fun H d hd hn => H d (by simp [hd]) hn

/-- What flows: at each category that is not one's own the level is no greater. -/
theorem flowsL_iff (a b : List Lev) (own : List Int) : flowsL a b own = true ↔ ∀ c, c ∉ own → lAt a c ≤ lAt b c := by
  rw [flowsL, flowsFrom_iff]
  constructor
  · intro H c hn
    by_cases hc : c ∈ eachL a b
    · exact H c hc hn
    · rw [eachL_mem, not_or] at hc
      rw [lAt_not hc.1, lAt_not hc.2]
      exact Int.le_refl _
  · exact fun H c _ hn => H c hn

/-- Each category at a level made of two, but not the plain one. -/
def bothFrom (f : Int → Int → Int) (a b : List Lev) : List Int → List Lev
  | [] => []
  | c :: l => if f (lAt a c) (lAt b c) = 1 then bothFrom f a b l else ⟨c, f (lAt a c) (lAt b c)⟩ :: bothFrom f a b l

def bothL (f : Int → Int → Int) (a b : List Lev) : List Lev := bothFrom f a b (eachL a b)

/-! ### Good labels -/

def lvOk (x : Lev) : Bool := decide (0 ≤ x.c ∧ x.c < 80 ∧ 0 ≤ x.l ∧ x.l ≤ 3 ∧ x.l ≠ 1)

def risesL : Int → List Lev → Bool
  | _, [] => true
  | p, x :: l => if p < x.c ∧ lvOk x = true then risesL x.c l else false

/-- The category ahead of the k-th level. -/
def prevC (l : List Lev) (k : Nat) : Int := if h : 0 < k ∧ k ≤ l.length then (l[k - 1]'(by omega)).c else -1

theorem prevC_zero (l : List Lev) : prevC l 0 = -1 := by simp [prevC]
theorem prevC_succ (l : List Lev) (k : Nat) (h : k < l.length) : prevC l (k + 1) = l[k].c := by
  unfold prevC
  rw [dif_pos ⟨by omega, by omega⟩]
  simp

theorem risesL_step (l : List Lev) (k : Nat) (h : k < l.length) : risesL (prevC l k) (l.drop k) = (if prevC l k < l[k].c ∧ lvOk l[k] = true then risesL (prevC l (k + 1)) (l.drop (k + 1)) else false) := by
  rw [List.drop_eq_getElem_cons h, risesL, prevC_succ l k h]

def goodL (l : List Lev) : Bool := if l.length ≤ 8 then risesL (-1) l else false

end Go.Proofs.Ytbngblmdcggfdaa

/- Plain words for what a frame may be. No program, no memory. -/
namespace Go.Proofs.Ytbngblmdcggfdaa

def four (h : Int) : Bool := decide (0 ≤ h ∧ h < 4)
def catOk (c : Int) : Bool := decide (0 ≤ c ∧ c < 80)

theorem four_iff (h : Int) : four h = true ↔ 0 ≤ h ∧ h < 4 := by simp [four]
theorem catOk_iff (h : Int) : catOk h = true ↔ 0 ≤ h ∧ h < 80 := by simp [catOk]

def goodCertB (c : Cert) : Bool := catOk c.c && four c.by_ && four c.host && (c.by_ != c.host) && decide (0 ≤ c.till) && decide (c.till ≤ 1099511627776)

/-- Do categories rise, each once, from p on? -/
def risesI : Int → List Int → Bool
  | _, [] => true
  | p, x :: l => if p < x ∧ catOk x = true then risesI x l else false

def prevI (l : List Int) (k : Nat) : Int := if h : 0 < k ∧ k ≤ l.length then l[k - 1]'(by omega) else -1
theorem prevI_zero (l : List Int) : prevI l 0 = -1 := by simp [prevI]
theorem prevI_succ (l : List Int) (k : Nat) (h : k < l.length) : prevI l (k + 1) = l[k] := by
  unfold prevI
  rw [dif_pos ⟨by omega, by omega⟩]
  simp
theorem prevI_pos (l : List Int) (k : Nat) (h : k < l.length) (h0 : 0 < k) : prevI l k = l[k - 1]'(by omega) := by
  unfold prevI
  rw [dif_pos ⟨h0, by omega⟩]
theorem risesI_step (l : List Int) (k : Nat) (h : k < l.length) : risesI (prevI l k) (l.drop k) = (if prevI l k < l[k] ∧ catOk l[k] = true then risesI (prevI l (k + 1)) (l.drop (k + 1)) else false) := by
  rw [List.drop_eq_getElem_cons h, risesI, prevI_succ l k h]

def risingB (l : List Int) (most : Int) : Bool := risesI (-1) l && decide ((l.length : Int) ≤ most)

def goodMailC (m : Mail) : Int :=
  if (four m.host && four m.thread && goodL m.label && risingB m.grants 8) = true then (if 64 < m.text.size then 9 else 0) else 2

def frameRange (f : Frame) : Bool := four f.src && four f.dst && (f.src != f.dst) && decide (1 ≤ f.seq) && decide (f.seq ≤ 1099511627776) && four f.thread
def ackPlain (f : Frame) : Bool := (f.thread == 0) && (f.mail.host == 0) && (f.mail.thread == 0) && decide (f.mail.label.length + f.mail.grants.length + f.mail.text.size + f.certs.length = 0)

def ackC (f : Frame) : Int := if ackPlain f = true then 0 else 1
def certsC (f : Frame) : Int := if f.certs.all goodCertB = true then 0 else 2

def goodFrameC (f : Frame) : Int :=
  if frameRange f = true then
    if f.ack = true then ackC f
    else if goodMailC f.mail ≠ 0 then goodMailC f.mail
    else if f.mail.host ≠ f.src then 1
    else if 24 < f.certs.length then 5
    else certsC f
  else 2

theorem chain2 (a b : Bool) : a = false ∨ (a = true ∧ b = false) ∨ (a = true ∧ b = true) := by cases a <;> cases b <;> simp
theorem chain4 (a b c d : Bool) : a = false ∨ (a = true ∧ b = false) ∨ (a = true ∧ b = true ∧ c = false) ∨ (a = true ∧ b = true ∧ c = true ∧ d = false) ∨ (a = true ∧ b = true ∧ c = true ∧ d = true) := by
  cases a <;> cases b <;> cases c <;> cases d <;> simp
theorem chain6 (a b c d e f : Bool) : a = false ∨ (a = true ∧ b = false) ∨ (a = true ∧ b = true ∧ c = false) ∨ (a = true ∧ b = true ∧ c = true ∧ d = false) ∨ (a = true ∧ b = true ∧ c = true ∧ d = true ∧ e = false) ∨ (a = true ∧ b = true ∧ c = true ∧ d = true ∧ e = true ∧ f = false) ∨ (a = true ∧ b = true ∧ c = true ∧ d = true ∧ e = true ∧ f = true) := by
  cases a <;> cases b <;> cases c <;> cases d <;> cases e <;> cases f <;> simp

end Go.Proofs.Ytbngblmdcggfdaa

/- Memory of a call's own, block by block: one fact for all of them, and what new blocks, loads and stores make of it. No program is in sight. -/
namespace Go.Proofs.Ytbngblmdcggfdaa
open Go.RowKit

theorem wpList_wanted {P : Program} {w : World} {ops : Array Oper} {rest : List Oper} {o : Oper} {A : Act} {Q : Exit → Act → World → Prop} (hg : Region.wanted o (yielded ops A.tmps) = true)
    (h : ∀ K : Act → World → Prop, (∀ a w, wpList P ops Q rest a w → K a w) → o.wp P A w K Q) : wpList P ops Q (o :: rest) A w :=
  wpList_step fun K hK => by simp only [hg, if_true]; exact h K hK

theorem wanted_none {o : Oper} {y : Nat → Option Bool} (h : o.guard = none) : Region.wanted o y = true := by simp [Region.wanted, h]
theorem wanted_some {o : Oper} {y : Nat → Option Bool} {g : Nat} {b : Bool} (h : o.guard = some (g, b)) (hy : y g = some b) : Region.wanted o y = true := by simp [Region.wanted, h, hy]

abbrev Blks := List (Nat × TypeId × List Value)

/-- The world w, which began as w0: of what was there only the blocks in M may have turned; 'own' are blocks of the call's own (or of M), each as it stands. -/
structure St (M : List Nat) (w0 w : World) (own : Blks) : Prop where
  os : w.os = w0.os
  tape : w.tape = w0.tape
  output : w.output = w0.output
  size : w0.heap.size ≤ w.heap.size
  frame : ∀ b, b < w0.heap.size → b ∉ M → w.heap[b]? = w0.heap[b]?
  blk : ∀ x ∈ own, w.heap[x.1]? = some (.cells x.2.2.toArray x.2.1 (0, 0))
  mine : ∀ x ∈ own, x.1 ∈ M ∨ w0.heap.size ≤ x.1
  ne : own.Pairwise (fun x y => x.1 ≠ y.1)

theorem St.start (w : World) : St [] w w [] := ⟨rfl, rfl, rfl, Nat.le_refl _, fun _ _ _ => rfl, by simp, by simp, by simp⟩

theorem St.below {w0 w : World} {own : Blks} (h : St [] w0 w own) : Below w0.heap.size w0 w := ⟨h.os, h.tape, h.output, h.size, fun k hk => h.frame k hk (by simp)⟩

theorem St.lt {M : List Nat} {w0 w : World} {own : Blks} (h : St M w0 w own) {x : Nat × TypeId × List Value} (hx : x ∈ own) : x.1 < w.heap.size := (Array.getElem?_eq_some_iff.1 (h.blk x hx)).1

theorem St.ltAt {M : List Nat} {w0 w : World} {own : Blks} (h : St M w0 w own) {i g : Nat} {T : TypeId} {cs : List Value} (hi : own[i]? = some (g, T, cs)) : g < w.heap.size := h.lt (List.mem_of_getElem? hi)

/-- A call (or whatever leaves old memory as it was). -/
theorem St.call {M : List Nat} {w0 w w' : World} {own : Blks} (h : St M w0 w own) (hb : Below w.heap.size w w') : St M w0 w' own :=
  ⟨hb.os.trans h.os, hb.tape.trans h.tape, hb.output.trans h.output, Nat.le_trans h.size hb.size, fun b hb' hM => (hb.block b (Nat.lt_of_lt_of_le hb' h.size)).trans (h.frame b hb' hM),
    fun x hx => (hb.block x.1 (h.lt hx)).trans (h.blk x hx), h.mine, h.ne⟩

theorem St.drewN {M : List Nat} {w0 w : World} {own : Blks} (h : St M w0 w own) (n : Nat) : St M w0 (w.drewN n) own := h.call ((Below.refl _ _).drewN n)
theorem St.drew {M : List Nat} {w0 w : World} {own : Blks} (h : St M w0 w own) : St M w0 w.drew own := h.call (Below.refl _ _).drew

theorem St.new {M : List Nat} {w0 w : World} {own : Blks} (h : St M w0 w own) (T : TypeId) (cs : List Value) : St M w0 (w.alloc (.cells cs.toArray T)) (own ++ [(w.heap.size, T, cs)]) := by
  have hc := h.call ((Below.refl w.heap.size w).alloc (Nat.le_refl _) (.cells cs.toArray T))
  refine ⟨hc.os, hc.tape, hc.output, hc.size, hc.frame, ?_, ?_, ?_⟩
  · intro x hx
    rcases List.mem_append.1 hx with hx | hx
    · exact hc.blk x hx
    · simp at hx; subst hx; exact heap_alloc_new w _
  · intro x hx
    rcases List.mem_append.1 hx with hx | hx
    · exact h.mine x hx
    · simp at hx; subst hx; exact .inr h.size
  · refine List.pairwise_append.2 ⟨h.ne, by simp, fun x hx y hy => ?_⟩
    simp at hy; subst hy
    have := h.lt hx
    exact Nat.ne_of_lt this

/-- The cells with others laid over them from a place on. -/
def putL : List Value → Nat → List Value → List Value
  | [], _, _ => []
  | c :: cs, 0, [] => c :: cs
  | _ :: cs, 0, v :: vs => v :: putL cs 0 vs
  | c :: cs, o + 1, vs => c :: putL cs o vs

theorem putL_length (cs : List Value) (o : Nat) (vs : List Value) : (putL cs o vs).length = cs.length := by
  induction cs generalizing o vs with
  | nil => simp [putL]
  | cons c cs ih =>
    cases o with
    | zero => cases vs with
      | nil => simp [putL]
      | cons v vs => simp [putL, ih]
    | succ o => simp [putL, ih]

theorem putL_cons (cs : List Value) (o : Nat) (v : Value) (vs : List Value) : putL cs o (v :: vs) = putL (cs.set o v) (o + 1) vs := by
  induction cs generalizing o with
  | nil => simp [putL]
  | cons c cs ih =>
    cases o with
    | zero => simp [putL]
    | succ o => simp only [putL, List.set_cons_succ]; rw [ih]

theorem putL_nil (cs : List Value) (o : Nat) : putL cs o [] = cs := by
  induction cs generalizing o with
  | nil => simp [putL]
  | cons c cs ih => cases o <;> simp [putL, ih]

/-- A row written over: block g alone turns. -/
theorem setCells_block {w : World} {g : Nat} {T : TypeId} : ∀ (vs : List Value) (o : Nat) (cs : List Value), w.heap[g]? = some (.cells cs.toArray T (0, 0)) →
    (w.setCells g o vs).heap[g]? = some (.cells (putL cs o vs).toArray T (0, 0)) ∧ (∀ b, b ≠ g → (w.setCells g o vs).heap[b]? = w.heap[b]?) ∧ (w.setCells g o vs).heap.size = w.heap.size ∧
      (w.setCells g o vs).os = w.os ∧ (w.setCells g o vs).tape = w.tape ∧ (w.setCells g o vs).output = w.output := by
  intro vs
  induction vs generalizing w with
  | nil => intro o cs h; rw [putL_nil]; exact ⟨h, fun _ _ => rfl, rfl, rfl, rfl, rfl⟩
  | cons v vs ih =>
    intro o cs h
    have h1 := heap_setCell_same w g o cs.toArray T v h
    have h1' : (w.setCell ⟨g, o, none⟩ v).heap[g]? = some (.cells (cs.set o v).toArray T (0, 0)) := by rw [h1]; simp
    obtain ⟨a1, a2, a3, a4, a5, a6⟩ := ih (w := w.setCell ⟨g, o, none⟩ v) (o + 1) (cs.set o v) h1'
    rw [putL_cons]
    refine ⟨a1, fun b hb => (a2 b hb).trans (heap_setCell_other w ⟨g, o, none⟩ b v hb), a3.trans (by simp [World.setCell]), a4, a5, a6⟩

theorem St.put {M : List Nat} {w0 w w' : World} {own : Blks} (h : St M w0 w own) {i g : Nat} {T : TypeId} {cs cs' : List Value} (hi : own[i]? = some (g, T, cs))
    (h1 : w'.heap[g]? = some (.cells cs'.toArray T (0, 0))) (h2 : ∀ b, b ≠ g → w'.heap[b]? = w.heap[b]?) (h3 : w'.heap.size = w.heap.size) (h4 : w'.os = w.os) (h5 : w'.tape = w.tape) (h6 : w'.output = w.output) :
    St M w0 w' (own.set i (g, T, cs')) := by
  have hin : (g, T, cs) ∈ own := List.mem_of_getElem? hi
  have hilt : i < own.length := (List.getElem?_eq_some_iff.1 hi).1
  have hget : own[i] = (g, T, cs) := (List.getElem?_eq_some_iff.1 hi).2
  have hids : (own.set i (g, T, cs')).map (·.1) = own.map (·.1) := by
    apply List.ext_getElem?
    intro j
    simp only [List.getElem?_map, List.getElem?_set]
    by_cases hj : i = j
    · subst hj; simp [hilt, hget]
    · simp [hj]
  refine ⟨h4.trans h.os, h5.trans h.tape, h6.trans h.output, by rw [h3]; exact h.size, ?_, ?_, ?_, ?_⟩
  · intro b hb hM
    have hbg : b ≠ g := by
      rintro rfl
      rcases h.mine _ hin with hm | hm
      · exact hM hm
      · simp at hm; omega
    rw [h2 b hbg]; exact h.frame b hb hM
  · intro x hx
    obtain ⟨j, hj⟩ := List.mem_iff_getElem?.1 hx
    rw [List.getElem?_set] at hj
    by_cases hij : i = j
    · subst hij; simp [hilt] at hj; subst hj; exact h1
    · rw [if_neg hij] at hj
      have hxin := List.mem_of_getElem? hj
      have hne : x.1 ≠ g := by
        have hp := List.pairwise_iff_getElem.1 h.ne
        have hjl := (List.getElem?_eq_some_iff.1 hj).1
        have hjx := (List.getElem?_eq_some_iff.1 hj).2
        rcases Nat.lt_or_gt_of_ne hij with hlt | hlt
        · have := hp i j hilt hjl hlt; rw [hget, hjx] at this; exact fun e => this e.symm
        · have := hp j i hjl hilt hlt; rw [hget, hjx] at this; exact this
      rw [h2 _ hne]; exact h.blk x hxin
  · intro x hx
    have : x.1 ∈ (own.set i (g, T, cs')).map (·.1) := List.mem_map.2 ⟨x, hx, rfl⟩
    rw [hids] at this
    obtain ⟨y, hy, e⟩ := List.mem_map.1 this
    rw [← e]; exact h.mine y hy
  · have : ((own.set i (g, T, cs')).map (·.1)).Pairwise (· ≠ ·) := by rw [hids]; exact List.pairwise_map.2 h.ne
    exact List.pairwise_map.1 this

theorem St.setCell {M : List Nat} {w0 w : World} {own : Blks} (h : St M w0 w own) {i g : Nat} {T : TypeId} {cs : List Value} (hi : own[i]? = some (g, T, cs)) (j : Nat) (v : Value) : St M w0 (w.setCell ⟨g, j, none⟩ v) (own.set i (g, T, cs.set j v)) := by
  have h1 := heap_setCell_same w g j cs.toArray T v (h.blk _ (List.mem_of_getElem? hi))
  have h1' : (w.setCell ⟨g, j, none⟩ v).heap[g]? = some (.cells (cs.set j v).toArray T (0, 0)) := by rw [h1]; simp
  exact h.put hi h1' (fun b hb => heap_setCell_other w ⟨g, j, none⟩ b v hb) (by simp [World.setCell]) rfl rfl rfl

/-- From here on: only the blocks at hand may turn. -/
theorem St.rebase {M : List Nat} {w0 w : World} {own : Blks} (h : St M w0 w own) : St (own.map (·.1)) w w own :=
  ⟨rfl, rfl, rfl, Nat.le_refl _, fun _ _ _ => rfl, h.blk, fun x hx => .inl (List.mem_map.2 ⟨x, hx, rfl⟩), h.ne⟩

theorem St.keeps {M : List Nat} {w0 w : World} {own : Blks} (h : St M w0 w own) {ok : Nat → Prop} (hM : ∀ g ∈ M, ¬ ok g) : Keeps ok w0 w := ⟨h.size, fun b hb ho => h.frame b hb fun hm => hM b hm ho⟩

theorem St.belowB {M : List Nat} {w0 w : World} {own : Blks} (h : St M w0 w own) {B : Nat} (hB : B ≤ w0.heap.size) (hM : ∀ g ∈ M, B ≤ g) : Below B w0 w :=
  ⟨h.os, h.tape, h.output, h.size, fun b hb => h.frame b (Nat.lt_of_lt_of_le hb hB) fun hm => by have := hM b hm; omega⟩

theorem SlR.okay {ok ok' : Nat → Prop} {w : World} {α : Type} {sz : Nat} {R : List Value → α → Prop} {a : Option Addr} {c : Nat} {xs : List α} (h : SlR ok w sz R a c xs) (hok : ∀ b, ok b → ok' b) : SlR ok' w sz R a c xs := by
  refine ⟨h.1, h.2.1, h.2.2.1, fun i x hx => ?_⟩
  obtain ⟨b, o, cs, ha, ho, r⟩ := h.2.2.2 i x hx
  exact ⟨b, o, cs, ha, hok _ ho, r⟩

theorem SlR.okayR {ok ok' : Nat → Prop} {w : World} {α : Type} {sz : Nat} {R R' : List Value → α → Prop} {a : Option Addr} {c : Nat} {xs : List α} (h : SlR ok w sz R a c xs) (hok : ∀ b, ok b → ok' b) (hR : ∀ cs x, R cs x → R' cs x) : SlR ok' w sz R' a c xs := by
  refine ⟨h.1, h.2.1, h.2.2.1, fun i x hx => ?_⟩
  obtain ⟨b, o, cs, ha, ho, hb, hr, r⟩ := h.2.2.2 i x hx
  exact ⟨b, o, cs, ha, hok _ ho, hb, hR _ _ hr, r⟩

theorem St.ofBelow {w0 w : World} (h : Below w0.heap.size w0 w) : St [] w0 w [] := (St.start w0).call h

/-- What a slice lies in stays as it is, and is let by the new bounds. -/
theorem SlR.move {ok ok' : Nat → Prop} {w w' : World} {α : Type} {sz : Nat} {R R' : List Value → α → Prop} {a : Option Addr} {c : Nat} {xs : List α} (h : SlR ok w sz R a c xs) (hs : w.heap.size ≤ w'.heap.size) (hk : ∀ b, b < w.heap.size → ok b → ok' b ∧ w'.heap[b]? = w.heap[b]?)
    (hR : ∀ cs x, R cs x → R' cs x) : SlR ok' w' sz R' a c xs := by
  refine ⟨h.1, h.2.1, h.2.2.1, fun i x hx => ?_⟩
  obtain ⟨b, o, cs, ha, ho, hb, hr, hl, h1, hc⟩ := h.2.2.2 i x hx
  obtain ⟨h2, h3⟩ := hk b hb ho
  exact ⟨b, o, cs, ha, h2, Nat.lt_of_lt_of_le hb hs, hR _ _ hr, hl, h1, fun j v hv => (World.cell?_of_block (w := w) h3).trans (hc j v hv)⟩

theorem Own.blockLt {base : Nat} {e : TypeId} {w : World} {α : Type} {sz : Nat} {R : List Value → α → Prop} {a : Option Addr} {c : Nat} {xs : List α} (h : Own base e w sz R a c xs) : ∀ k, a.map (·.block) = some k → base ≤ k ∧ k < w.heap.size := by
  obtain ⟨css, _, _, _, h4⟩ := h
  intro k hk
  exact h4.lt k (by cases a <;> simp at hk; subst hk; rfl)

/-- A block of just one element's cells, as a slice. -/
theorem SlR.ofBlk {w : World} {α : Type} {sz : Nat} {R : List Value → α → Prop} {g : Nat} {T : TypeId} {cs : List Value} {x : α} (h : w.heap[g]? = some (.cells cs.toArray T (0, 0))) (hR : R cs x) (hl : cs.length = sz) (h1 : cs.all Value.oneCell' = true) {ok : Nat → Prop} (ho : ok g) :
    SlR ok w sz R (some ⟨g, 0, none⟩) 1 [x] := by
  refine ⟨Nat.le_refl _, by simp [maxLen], by simp, fun i y hy => ?_⟩
  have hi : i = 0 := by
    have := (List.getElem?_eq_some_iff.1 hy).1
    simp at this; exact this
  subst hi
  simp at hy
  subst hy
  refine ⟨_, _, cs, rfl, ho, (Array.getElem?_eq_some_iff.1 h).1, hR, hl, by simpa using h1, fun j v hv => ?_⟩
  rw [cell_of_row w g _ cs.toArray T (0, 0) h]
  simpa using hv

/-- Whatever lies in the blocks at hand lay there before. -/
theorem St.below2 {M : List Nat} {a w0 w : World} {own0 own : Blks} (h0 : St M a w0 own0) (h : St (own0.map (·.1)) w0 w own) (hsub : ∀ x ∈ own0, x ∈ own) : Below w0.heap.size w0 w := by
  refine ⟨h.os, h.tape, h.output, h.size, fun b hb => ?_⟩
  by_cases hm : b ∈ own0.map (·.1)
  · obtain ⟨x, hx, rfl⟩ := List.mem_map.1 hm
    rw [h.blk x (hsub x hx), h0.blk x hx]
  · exact h.frame b hb hm

end Go.Proofs.Ytbngblmdcggfdaa

/- What trust answers, in plain words; no program is in sight. -/
namespace Go.Proofs.Ytbngblmdcggfdaa
open Go.RowKit

/-- Each good and new behind those that went before. -/
def certsOk : List Cert → List Cert → Bool
  | _, [] => true
  | pre, x :: l => goodCertB x && !(inL pre x) && certsOk (pre ++ [x]) l
def goodCerts (l : List Cert) : Bool := certsOk [] l && decide (l.length ≤ 24)

theorem certsOk_at {l : List Cert} {k : Nat} (h : k < l.length) : certsOk (l.take k) (l.drop k) = (goodCertB l[k] && !(inL (l.take k) l[k]) && certsOk (l.take (k + 1)) (l.drop (k + 1))) := by
  rw [drop_at h, certsOk, List.take_succ_eq_append_getElem h]

theorem certsOk_iff (l : List Cert) : ∀ pre, certsOk pre l = true ↔ (∀ x ∈ l, goodCertB x = true) ∧ l.Nodup ∧ ∀ x ∈ l, x ∉ pre := by
  induction l with
  | nil => simp [certsOk]
  | cons x l ih =>
    intro pre
    simp only [certsOk, Bool.and_eq_true, Bool.not_eq_true', inL_not, ih, List.mem_cons, List.nodup_cons, List.mem_append, List.not_mem_nil, or_false]
    constructor
    · rintro ⟨⟨h1, h2⟩, h3, h4, h5⟩
      refine ⟨?_, ⟨fun hx => (h5 x hx) (.inr rfl), h4⟩, ?_⟩
      · rintro y (rfl | hy)
        · exact h1
        · exact h3 y hy
      · rintro y (rfl | hy)
        · exact h2
        · exact fun hp => h5 y hy (.inl hp)
    · rintro ⟨h1, ⟨h2, h3⟩, h4⟩
      refine ⟨⟨h1 x (.inl rfl), h4 x (.inl rfl)⟩, fun y hy => h1 y (.inr hy), h3, ?_⟩
      rintro y hy (hp | rfl)
      · exact h4 y (.inr hy) hp
      · exact h2 hy

theorem goodCerts_iff (l : List Cert) : goodCerts l = true ↔ (∀ x ∈ l, goodCertB x = true) ∧ l.Nodup ∧ l.length ≤ 24 := by
  unfold goodCerts
  rw [Bool.and_eq_true, certsOk_iff]
  simp [and_assoc]

/-- The list with a cert more, and the error. -/
def addC (l : List Cert) (c : Cert) : List Cert × Int :=
  if (goodCerts l && goodCertB c) = false then ([], 2) else if inL l c = true then (l, 0) else if 24 ≤ l.length then ([], 5) else (l ++ [c], 0)

/-- Who may be trusted: who made the category, and whom one of these names. -/
inductive Reach (l : List Cert) (c now : Int) : Int → Prop
  | home : Reach l c now ((c / 20))
  | step (x : Cert) : x ∈ l → x.c = c → now ≤ x.till → Reach l c now x.by_ → Reach l c now x.host

noncomputable def trustB (l : List Cert) (c now h : Int) : Bool := @decide (catOk c = true ∧ goodCerts l = true ∧ Reach l c now h) (Classical.propDecidable _)

theorem trustB_iff {l : List Cert} {c now h : Int} : trustB l c now h = true ↔ catOk c = true ∧ goodCerts l = true ∧ Reach l c now h := by
  unfold trustB
  exact @decide_eq_true_iff _ (Classical.propDecidable _)

theorem home_range {c : Int} (h : catOk c = true) : 0 ≤ c / 20 ∧ c / 20 < 4 := by
  have hc := (catOk_iff _).1 h
  omega

theorem goodCert_range {x : Cert} (h : goodCertB x = true) : (0 ≤ x.by_ ∧ x.by_ < 4) ∧ (0 ≤ x.host ∧ x.host < 4) := by
  unfold goodCertB at h
  simp only [Bool.and_eq_true, four_iff] at h
  exact ⟨h.1.1.1.1.2, h.1.1.1.2⟩

theorem reach_range {l : List Cert} {c now h : Int} (hc : catOk c = true) (hg : goodCerts l = true) (hr : Reach l c now h) : 0 ≤ h ∧ h < 4 := by
  induction hr with
  | home => exact home_range hc
  | step x hx _ _ _ _ => exact (goodCert_range (((goodCerts_iff l).1 hg).1 x hx)).2

structure Four where
  b0 : Bool
  b1 : Bool
  b2 : Bool
  b3 : Bool
  deriving DecidableEq

def Four.get (e : Four) : Nat → Bool
  | 0 => e.b0
  | 1 => e.b1
  | 2 => e.b2
  | 3 => e.b3
  | _ => false
def Four.set (e : Four) : Nat → Four
  | 0 => { e with b0 := true }
  | 1 => { e with b1 := true }
  | 2 => { e with b2 := true }
  | 3 => { e with b3 := true }
  | _ => e
def Four.no (e : Four) : Nat := (if e.b0 then 0 else 1) + (if e.b1 then 0 else 1) + (if e.b2 then 0 else 1) + (if e.b3 then 0 else 1)
def fourL (e : Four) : List Value := [.bool e.b0, .bool e.b1, .bool e.b2, .bool e.b3]

theorem fourL_get (e : Four) {k : Nat} (h : k < 4) : (fourL e)[k]? = some (.bool (e.get k)) := by
  match k, h with
  | 0, _ => rfl
  | 1, _ => rfl
  | 2, _ => rfl
  | 3, _ => rfl
theorem fourL_put (e : Four) {k : Nat} (h : k < 4) : putL (fourL e) k [.bool true] = fourL (e.set k) := by
  match k, h with
  | 0, _ => rfl
  | 1, _ => rfl
  | 2, _ => rfl
  | 3, _ => rfl
theorem Four.get_set (e : Four) {k : Nat} (h : k < 4) (j : Nat) : (e.set k).get j = if j = k then true else e.get j := by
  match k, h with
  | 0, _ => match j with | 0 => rfl | 1 => rfl | 2 => rfl | 3 => rfl | n + 4 => rfl
  | 1, _ => match j with | 0 => rfl | 1 => rfl | 2 => rfl | 3 => rfl | n + 4 => rfl
  | 2, _ => match j with | 0 => rfl | 1 => rfl | 2 => rfl | 3 => rfl | n + 4 => rfl
  | 3, _ => match j with | 0 => rfl | 1 => rfl | 2 => rfl | 3 => rfl | n + 4 => rfl
theorem Four.no_set (e : Four) {k : Nat} (h : k < 4) (hk : e.get k = false) : (e.set k).no + 1 = e.no := by
  obtain ⟨b0, b1, b2, b3⟩ := e
  match k, h with
  | 0, _ => simp [Four.get] at hk; subst hk; cases b1 <;> cases b2 <;> cases b3 <;> rfl
  | 1, _ => simp [Four.get] at hk; subst hk; cases b0 <;> cases b2 <;> cases b3 <;> rfl
  | 2, _ => simp [Four.get] at hk; subst hk; cases b0 <;> cases b1 <;> cases b3 <;> rfl
  | 3, _ => simp [Four.get] at hk; subst hk; cases b0 <;> cases b1 <;> cases b2 <;> rfl

def live (c now : Int) (x : Cert) : Prop := x.c = c ∧ now ≤ x.till

/-- How far the work has come: who is in, who waits; of h's certs those from k on are still to be looked at. -/
structure TrInv (l : List Cert) (c now : Int) (e : Four) (work : List Int) (h : Int) (k : Nat) : Prop where
  sound : ∀ n : Nat, e.get n = true → Reach l c now n
  wait : ∀ x ∈ work, Reach l c now x ∧ 0 ≤ x ∧ x < 4
  edge : ∀ (i : Nat) (hi : i < l.length), live c now l[i] → (l[i].by_ ≠ h ∨ i < k) → e.get l[i].by_.toNat = true → e.get l[i].host.toNat = true ∨ l[i].host ∈ work
  home : e.get ((c / 20)).toNat = true ∨ (c / 20) ∈ work

def four0 : Four := ⟨false, false, false, false⟩

theorem four0_get (n : Nat) : four0.get n = false := by
  match n with
  | 0 => rfl
  | 1 => rfl
  | 2 => rfl
  | 3 => rfl
  | n + 4 => rfl

theorem TrInv.start {l : List Cert} {c now : Int} (hc : catOk c = true) : TrInv l c now four0 [(c / 20)] (-1) 0 :=
  ⟨fun n hn => absurd hn (by rw [four0_get]; simp), fun x hx => (by simp at hx; subst hx; exact ⟨.home, home_range hc⟩),
   fun i hi _ _ hh => absurd hh (by rw [four0_get]; simp), .inr (by simp)⟩

theorem TrInv.pop {l : List Cert} {c now : Int} {e : Four} {work : List Int} {n : Nat} {k : Nat} (hi : TrInv l c now e ((n : Int) :: work) (-1) k) (hn : e.get n = true) : TrInv l c now e work (-1) k := by
  refine ⟨hi.sound, fun x hx => hi.wait x (by simp [hx]), fun i h1 h2 h3 h4 => ?_, ?_⟩
  · rcases hi.edge i h1 h2 h3 h4 with h | h
    · exact .inl h
    · rcases List.mem_cons.1 h with h | h
      · exact .inl (by rw [h]; simpa using hn)
      · exact .inr h
  · rcases hi.home with h | h
    · exact .inl h
    · rcases List.mem_cons.1 h with h | h
      · exact .inl (by rw [h]; simpa using hn)
      · exact .inr h

theorem TrInv.enter {l : List Cert} {c now : Int} {e : Four} {work : List Int} {n : Nat} {k : Nat} (hl : ∀ x ∈ l, 0 ≤ x.by_ ∧ 0 ≤ x.host) (hc : 0 ≤ (c / 20)) (hn : n < 4) (hi : TrInv l c now e ((n : Int) :: work) (-1) k) : TrInv l c now (e.set n) work n 0 := by
  have hg : ∀ j, e.get j = true → (e.set n).get j = true := fun j hj => by rw [Four.get_set e hn]; split <;> simp_all
  refine ⟨fun j hj => ?_, fun x hx => hi.wait x (by simp [hx]), fun i h1 h2 h3 h4 => ?_, ?_⟩
  · rw [Four.get_set e hn] at hj
    by_cases h : j = n
    · subst h; exact (hi.wait _ (by simp)).1
    · rw [if_neg h] at hj; exact hi.sound j hj
  · have hb := hl _ (List.getElem_mem h1)
    have hne : l[i].by_ ≠ (n : Int) := by rcases h3 with h | h; exact h; omega
    rw [Four.get_set e hn, if_neg (by omega)] at h4
    rcases hi.edge i h1 h2 (.inl (by omega)) h4 with h | h
    · exact .inl (hg _ h)
    · rcases List.mem_cons.1 h with h | h
      · exact .inl (by rw [h, Four.get_set e hn]; simp)
      · exact .inr h
  · rcases hi.home with h | h
    · exact .inl (hg _ h)
    · rcases List.mem_cons.1 h with h | h
      · exact .inl (by rw [h, Four.get_set e hn]; simp)
      · exact .inr h

theorem TrInv.push {l : List Cert} {c now : Int} {e : Four} {work : List Int} {n k : Nat} (hi : TrInv l c now e work n k) (hk : k < l.length) (hg : 0 ≤ l[k].host ∧ l[k].host < 4) (hn : e.get n = true) (h1 : l[k].c = c) (h2 : l[k].by_ = n) (h3 : now ≤ l[k].till) : TrInv l c now e (work ++ [l[k].host]) n (k + 1) := by
  refine ⟨hi.sound, fun x hx => ?_, fun i a1 a2 a3 a4 => ?_, ?_⟩
  · rcases List.mem_append.1 hx with hx | hx
    · exact hi.wait x hx
    · simp at hx; subst hx
      exact ⟨.step l[k] (List.getElem_mem hk) h1 h3 (by rw [h2]; exact hi.sound n hn), hg⟩
  · by_cases hik : i = k
    · subst hik; exact .inr (by simp)
    · rcases hi.edge i a1 a2 (by rcases a3 with h | h; exact .inl h; exact .inr (by omega)) a4 with h | h
      · exact .inl h
      · exact .inr (by simp [h])
  · rcases hi.home with h | h
    · exact .inl h
    · exact .inr (by simp [h])

theorem TrInv.pass {l : List Cert} {c now : Int} {e : Four} {work : List Int} {n k : Nat} (hi : TrInv l c now e work n k) (hk : k < l.length) (h : ¬ (l[k].c = c ∧ l[k].by_ = n ∧ now ≤ l[k].till)) : TrInv l c now e work n (k + 1) := by
  refine ⟨hi.sound, hi.wait, fun i a1 a2 a3 a4 => ?_, hi.home⟩
  by_cases hik : i = k
  · subst hik
    exact hi.edge i a1 a2 (.inl fun hb => h ⟨a2.1, hb, a2.2⟩) a4
  · exact hi.edge i a1 a2 (by rcases a3 with h | h; exact .inl h; exact .inr (by omega)) a4

theorem TrInv.leave {l : List Cert} {c now : Int} {e : Four} {work : List Int} {n k : Nat} (hi : TrInv l c now e work n k) (hk : ¬ k < l.length) : TrInv l c now e work (-1) 0 :=
  ⟨hi.sound, hi.wait, fun i a1 a2 _ a4 => hi.edge i a1 a2 (.inr (by omega)) a4, hi.home⟩

theorem TrInv.done {l : List Cert} {c now : Int} {e : Four} {k : Nat} (hc : catOk c = true) (hg : goodCerts l = true) (hi : TrInv l c now e [] (-1) k) (n : Nat) : e.get n = trustB l c now n := by
  have hgl := ((goodCerts_iff l).1 hg).1
  have key : ∀ h : Int, Reach l c now h → e.get h.toNat = true := by
    intro h hr
    induction hr with
    | home => exact hi.home.resolve_right (by simp)
    | step x hx h1 h2 _ ih =>
      obtain ⟨i, hlt, rfl⟩ := List.mem_iff_getElem.1 hx
      exact (hi.edge i hlt ⟨h1, h2⟩ (.inl (by have := (goodCert_range (hgl _ hx)).1; omega)) ih).resolve_right (by simp)
  cases hb : trustB l c now n
  · cases he : e.get n
    · rfl
    · exact absurd (trustB_iff.2 ⟨hc, hg, hi.sound n he⟩) (by rw [hb]; simp)
  · have := key n (trustB_iff.1 hb).2.2
    simpa using this

noncomputable def trustF (l : List Cert) (c now : Int) : Four := ⟨trustB l c now 0, trustB l c now 1, trustB l c now 2, trustB l c now 3⟩

theorem trustF_get (l : List Cert) (c now : Int) {k : Nat} (h : k < 4) : (trustF l c now).get k = trustB l c now k := by
  match k, h with
  | 0, _ => rfl
  | 1, _ => rfl
  | 2, _ => rfl
  | 3, _ => rfl

theorem Reach.more {l l' : List Cert} {c now now' h : Int} (hl : ∀ x ∈ l, x ∈ l') (hn : now' ≤ now) (hr : Reach l c now h) : Reach l' c now' h := by
  induction hr with
  | home => exact .home
  | step x hx h1 h2 _ ih => exact .step x (hl x hx) h1 (Int.le_trans hn h2) ih

theorem Reach.less {l l' : List Cert} {c now h : Int} {y : Cert} (hl : ∀ x ∈ l', x ∈ l ∨ x = y) (hy : ¬ (y.c = c ∧ now ≤ y.till)) (hr : Reach l' c now h) : Reach l c now h := by
  induction hr with
  | home => exact .home
  | step x hx h1 h2 _ ih =>
    rcases hl x hx with hx | rfl
    · exact .step x hx h1 h2 ih
    · exact absurd ⟨h1, h2⟩ hy

theorem addC_ok {l : List Cert} {c : Cert} (h : (addC l c).2 = 0) : goodCerts l = true ∧ goodCerts (addC l c).1 = true ∧ (∀ x ∈ l, x ∈ (addC l c).1) ∧ (∀ x ∈ (addC l c).1, x ∈ l ∨ x = c) ∧ c ∈ (addC l c).1 ∧ goodCertB c = true := by
  unfold addC at h ⊢
  by_cases h1 : (goodCerts l && goodCertB c) = false
  · rw [if_pos h1] at h; cases h
  · rw [if_neg h1] at h ⊢
    simp only [Bool.not_eq_false, Bool.and_eq_true] at h1
    by_cases h2 : inL l c = true
    · rw [if_pos h2] at h ⊢
      exact ⟨h1.1, h1.1, fun _ hx => hx, fun _ hx => .inl hx, (inL_iff l c).1 h2, h1.2⟩
    · rw [if_neg h2] at h ⊢
      by_cases h3 : 24 ≤ l.length
      · rw [if_pos h3] at h; cases h
      · rw [if_neg h3] at h ⊢
        have hg := (goodCerts_iff l).1 h1.1
        have hn : c ∉ l := fun hc => h2 ((inL_iff l c).2 hc)
        refine ⟨h1.1, (goodCerts_iff _).2 ⟨?_, ?_, by simp; omega⟩, fun x hx => by simp [hx], fun x hx => by simpa using hx, by simp, h1.2⟩
        · intro x hx
          rcases List.mem_append.1 hx with hx | hx
          · exact hg.1 x hx
          · simp at hx; subst hx; exact h1.2
        · refine List.nodup_append.2 ⟨hg.2.1, by simp, ?_⟩
          intro a ha b hb
          simp at hb
          subst hb
          exact fun he => hn (he ▸ ha)

theorem addC_bad {l : List Cert} {c : Cert} (h : (addC l c).2 ≠ 0) : (addC l c).1 = [] := by
  unfold addC at h ⊢
  by_cases h1 : (goodCerts l && goodCertB c) = false
  · rw [if_pos h1]
  · rw [if_neg h1] at h ⊢
    by_cases h2 : inL l c = true
    · rw [if_pos h2] at h; simp at h
    · rw [if_neg h2] at h ⊢
      by_cases h3 : 24 ≤ l.length
      · rw [if_pos h3]
      · rw [if_neg h3] at h; simp at h

theorem addC_again {l : List Cert} {c : Cert} (hg : goodCerts l = true) (hc : c ∈ l) (hb : goodCertB c = true) : addC l c = (l, 0) := by
  unfold addC
  rw [hg, hb, if_neg (by simp), if_pos ((inL_iff l c).2 hc)]

theorem trusts_plain : trustF [⟨25, 1, 3, 9⟩] 25 9 = ⟨false, true, false, true⟩ := by
  have hc : catOk 25 = true := by decide
  have hg : goodCerts [⟨25, 1, 3, 9⟩] = true := by decide
  have key : ∀ h, Reach [⟨25, 1, 3, 9⟩] 25 9 h → h = 1 ∨ h = 3 := by
    intro h hr
    induction hr with
    | home => exact .inl rfl
    | step x hx _ _ _ _ => simp at hx; subst hx; exact .inr rfl
  have r1 : Reach [⟨25, 1, 3, 9⟩] 25 9 1 := .home
  have r3 : Reach [⟨25, 1, 3, 9⟩] 25 9 3 := .step ⟨25, 1, 3, 9⟩ (by simp) rfl (by decide) r1
  have hf : ∀ n, n ≠ 1 → n ≠ 3 → trustB [⟨25, 1, 3, 9⟩] 25 9 n = false := fun n h1 h3 => by
    cases hb : trustB [⟨25, 1, 3, 9⟩] 25 9 n
    · rfl
    · rcases key n (trustB_iff.1 hb).2.2 with h | h
      · exact absurd h h1
      · exact absurd h h3
  unfold trustF
  rw [hf 0 (by decide) (by decide), hf 2 (by decide) (by decide), trustB_iff.2 ⟨hc, hg, r1⟩, trustB_iff.2 ⟨hc, hg, r3⟩]

/-- What TrustGrows asks at each host. -/
theorem grows {l : List Cert} {x : Cert} {c now later : Int} (h : (addC l x).2 = 0) (n : Int) : (trustB l c now n = true → trustB (addC l x).1 c now n = true) ∧ (trustB l c (max now later) n = true → trustB l c now n = true) ∧
    (trustB (addC l x).1 c now n = true → trustB l c now n = false → x.c = c ∧ now ≤ x.till) := by
  obtain ⟨h1, h2, h3, h4, h5, h6⟩ := addC_ok h
  refine ⟨fun ht => ?_, fun ht => ?_, fun ht hf => ?_⟩
  · obtain ⟨a, _, b⟩ := trustB_iff.1 ht
    exact trustB_iff.2 ⟨a, h2, b.more h3 (Int.le_refl _)⟩
  · obtain ⟨a, g, b⟩ := trustB_iff.1 ht
    exact trustB_iff.2 ⟨a, g, b.more (fun _ h => h) (by omega)⟩
  · obtain ⟨a, _, b⟩ := trustB_iff.1 ht
    refine Classical.byContradiction fun hn => ?_
    have := trustB_iff.2 ⟨a, h1, b.less h4 hn⟩
    rw [hf] at this
    cases this

end Go.Proofs.Ytbngblmdcggfdaa

/- The walks through the library's functions on slices. -/
namespace Go.Proofs.Ytbngblmdcggfdaa
open Go.RowKit

theorem info_Level : (Try.prog.info? 53).map (fun i => (i.zero, i.size, i.bytes)) = some (some (.agg #[.int .i64 0, .int .i64 0]), 2, 16) := by kernel_rfl
theorem info_int : (Try.prog.info? 3).map (fun i => (i.zero, i.size, i.bytes)) = some (some (.int .i64 0), 1, 8) := by kernel_rfl
theorem info_Cert : (Try.prog.info? 43).map (fun i => (i.zero, i.size, i.bytes)) = some (some (.agg #[.int .i64 0, .int .i64 0, .int .i64 0, .int .i64 0]), 4, 32) := by kernel_rfl

set_option maxHeartbeats 400000 in
theorem slices_Index_int (ok : Nat → Prop) (w : World) (a : Option Addr) (c : Nat) (l : List Int) (v : Int) (hl : l.length ≤ 4611686018427387903) (hR : SlR ok w 1 RInt a c l) :
    Calls Try.prog 34 #[.slice a l.length c, .int .i64 v] w fun e w' => Says e (inL l v) ∧ w = w' := by
  go_enter Try.func34, Try.ntmps34
  go_wp2
  go_loop [8] (fun i => ∃ k : Nat, k ≤ l.length ∧ i = .int .i64 k ∧ Hid (inL l v = inL (l.drop k) v)) (fun i => l.length - (intOf i).toNat)
  case atStart => exact ⟨0, Nat.zero_le _, rfl, rfl⟩
  case round =>
    obtain ⟨k, hk, rfl, hI⟩ := hrel
    by_cases hlt : k < l.length
    · obtain ⟨b, o, rfl, hb, h1⟩ := hR.int_at k hlt
      go_wp2
      · have hc : (v == l[k]) = true := by assumption
        go_ret
        have e : inL l v = true := by rw [hI.out, inL_hit hlt (by simpa using hc)]
        exact ⟨⟨k, rfl, by simp, by simp [e]⟩, rfl⟩
      · have hc : (v == l[k]) = false := by assumption
        go_round
        case rel => exact ⟨k + 1, hlt, by go_num, by rw [hI.out, inL_pass hlt (by simpa using hc)]; rfl⟩
        case measure => simp [intOf]; omega
    · go_wp2
      go_ret
      have e : inL l v = false := by rw [hI.out, inL_end hlt]
      exact ⟨⟨-1, rfl, by simp [e], by simp⟩, rfl⟩

set_option maxHeartbeats 400000 in
theorem slices_Contains_int (ok : Nat → Prop) (w : World) (a : Option Addr) (c : Nat) (l : List Int) (v : Int) (hl : l.length ≤ 4611686018427387903) (hR : SlR ok w 1 RInt a c l) :
    Calls Try.prog 26 #[.slice a l.length c, .int .i64 v] w fun e w' => e = .returned (.bool (inL l v)) ∧ w = w' := by
  cases hb : inL l v
  all_goals
    have HB := Lib.hid hb
    clear hb
    go_enter Try.func26, Try.ntmps26
    go_wp2_with fail
    refine (slices_Index_int ok _ _ _ _ _ hl hR).mono ?_
    rintro e w' ⟨⟨n, rfl, h1, h2⟩, rfl⟩
    rw [HB.out] at h1 h2
    simp only [forall_const, reduceCtorEq, false_implies] at h1 h2
    go_wp2
    go_ret
    exact ⟨by first | rfl | (apply ret_bool; simp; omega), rfl⟩

end Go.Proofs.Ytbngblmdcggfdaa

/- The walks through label.Category and At. -/
namespace Go.Proofs.Ytbngblmdcggfdaa
open Go.RowKit

set_option maxHeartbeats 400000 in
theorem label_Category (c : Int) (w : World) : Calls Try.prog 20 #[.int .i64 c] w fun e w' => e = .returned (.bool (decide (0 ≤ c ∧ c < 80))) ∧ w = w' := by
  by_cases h1 : 0 ≤ c <;> by_cases h2 : c < 80
  all_goals
    go_enter Try.func20, Try.ntmps20
    go_wp2
    go_ret
    exact ⟨ret_bool (by simp [h1, h2]), rfl⟩

end Go.Proofs.Ytbngblmdcggfdaa

/- The walk through label.Good. -/
namespace Go.Proofs.Ytbngblmdcggfdaa
open Go.RowKit

theorem good_bad {l : List Lev} {k : Nat} (h : k < l.length) (hI : Hid (risesL (-1) l = risesL (prevC l k) (l.drop k))) (hb : ¬ (prevC l k < l[k].c ∧ lvOk l[k] = true)) : goodL l = false := by
  unfold goodL
  rw [hI.out, risesL_step l k h, if_neg hb]
  split <;> rfl

theorem good_go {l : List Lev} {k : Nat} (h : k < l.length) (hI : Hid (risesL (-1) l = risesL (prevC l k) (l.drop k))) (hb : prevC l k < l[k].c ∧ lvOk l[k] = true) : Hid (risesL (-1) l = risesL (prevC l (k + 1)) (l.drop (k + 1))) := by
  show _ = _
  rw [hI.out, risesL_step l k h, if_pos hb]

end Go.Proofs.Ytbngblmdcggfdaa

/- '==' and '!=' on the program's plain structs. -/
namespace Go.Proofs.Ytbngblmdcggfdaa
open Go.RowKit

theorem eqin_Level (d : Nat) (a b : Lev) (W : World) : (Op.equalIn (d + 2) 53 (.agg #[.int .i64 a.c, .int .i64 a.l]) (.agg #[.int .i64 b.c, .int .i64 b.l])).run Try.prog W = .ok (decide (a = b)) W := by
  have h1 : Try.prog.underlying 53 = some (.struct (Try.prog.fieldsOf 53)) := by kernel_rfl
  have h2 : Try.prog.stoodInHeld 53 = false := by kernel_rfl
  have hU := Try.underlying53
  have hz : ∀ W, (sizeOf 3).run Try.prog W = .ok 1 W := Try.sizeOf3
  have ha : ∀ W, (isAgg 3).run Try.prog W = .ok false W := Try.isAgg3
  have e : ∀ d a b W, (Op.equalIn (d + 1) 3 (.int .i64 a) (.int .i64 b)).run Try.prog W = .ok (a == b) W := fun d a b W => run_equalIn_int W d _ _ _ a b Try.underlying3
  rw [run_equalIn_agg W (d + 1) _ _ _ h1 h2]
  obtain ⟨x, y⟩ := a
  obtain ⟨x', y'⟩ := b
  simp [Program.fieldsOf, hU, Op.eqFields, part, ha, hz, e _ _ _ W, Result.andThen]
  by_cases e1 : x = x' <;> by_cases e2 : y = y' <;> simp [e1, e2]

theorem eqin_Cert (d : Nat) (a b : Cert) (W : World) : (Op.equalIn (d + 2) 43 (.agg #[.int .i64 a.c, .int .i64 a.by_, .int .i64 a.host, .int .i64 a.till]) (.agg #[.int .i64 b.c, .int .i64 b.by_, .int .i64 b.host, .int .i64 b.till])).run Try.prog W = .ok (decide (a = b)) W := by
  have h1 : Try.prog.underlying 43 = some (.struct (Try.prog.fieldsOf 43)) := by kernel_rfl
  have h2 : Try.prog.stoodInHeld 43 = false := by kernel_rfl
  have hU := Try.underlying43
  have hz : ∀ W, (sizeOf 3).run Try.prog W = .ok 1 W := Try.sizeOf3
  have ha : ∀ W, (isAgg 3).run Try.prog W = .ok false W := Try.isAgg3
  have e : ∀ d a b W, (Op.equalIn (d + 1) 3 (.int .i64 a) (.int .i64 b)).run Try.prog W = .ok (a == b) W := fun d a b W => run_equalIn_int W d _ _ _ a b Try.underlying3
  rw [run_equalIn_agg W (d + 1) _ _ _ h1 h2]
  obtain ⟨x, y, z, u⟩ := a
  obtain ⟨x', y', z', u'⟩ := b
  simp [Program.fieldsOf, hU, Op.eqFields, part, ha, hz, e _ _ _ W, Result.andThen]
  by_cases e1 : x = x' <;> by_cases e2 : y = y' <;> by_cases e3 : z = z' <;> by_cases e4 : u = u' <;> simp [e1, e2, e3, e4]

theorem neq_Level (a b : Lev) (r : Bool) (h : decide (a = b) = r) (W : World) : (binOp .neq 53 (.agg #[.int .i64 a.c, .int .i64 a.l]) (.agg #[.int .i64 b.c, .int .i64 b.l])).run Try.prog W = .ok (.bool (!r)) W := by
  rw [run_neq_struct, eqin_Level 9998 a b W, h]
  rfl

theorem eql_Level (a b : Lev) (r : Bool) (h : decide (a = b) = r) (W : World) : (binOp .eql 53 (.agg #[.int .i64 a.c, .int .i64 a.l]) (.agg #[.int .i64 b.c, .int .i64 b.l])).run Try.prog W = .ok (.bool r) W := by
  rw [run_eql_struct, eqin_Level 9998 a b W, h]
  rfl

theorem guard_Level (op : BinOp) (x y : Operand) (xs ys : Array Value) (W : World) : (eqGuard op 53 x y (.agg xs) (.agg ys)).run Try.prog W = .ok () W := run_eqGuard_agg W op _ x y xs ys (by kernel_rfl)

theorem neq_Cert (a b : Cert) (r : Bool) (h : decide (a = b) = r) (W : World) : (binOp .neq 43 (.agg #[.int .i64 a.c, .int .i64 a.by_, .int .i64 a.host, .int .i64 a.till]) (.agg #[.int .i64 b.c, .int .i64 b.by_, .int .i64 b.host, .int .i64 b.till])).run Try.prog W = .ok (.bool (!r)) W := by
  rw [run_neq_struct, eqin_Cert 9998 a b W, h]
  rfl

theorem eql_Cert (a b : Cert) (r : Bool) (h : decide (a = b) = r) (W : World) : (binOp .eql 43 (.agg #[.int .i64 a.c, .int .i64 a.by_, .int .i64 a.host, .int .i64 a.till]) (.agg #[.int .i64 b.c, .int .i64 b.by_, .int .i64 b.host, .int .i64 b.till])).run Try.prog W = .ok (.bool r) W := by
  rw [run_eql_struct, eqin_Cert 9998 a b W, h]
  rfl

theorem guard_Cert (op : BinOp) (x y : Operand) (xs ys : Array Value) (W : World) : (eqGuard op 43 x y (.agg xs) (.agg ys)).run Try.prog W = .ok () W := run_eqGuard_agg W op _ x y xs ys (by kernel_rfl)

end Go.Proofs.Ytbngblmdcggfdaa

/- The walks through the references' comparisons of lists. -/
namespace Go.Proofs.Ytbngblmdcggfdaa
open Go.RowKit

theorem take_ne {α : Type} {a b : List α} {k : Nat} (ha : k < a.length) (hb : k < b.length) (h : a[k] ≠ b[k]) : a ≠ b := by
  rintro rfl
  exact h rfl

theorem take_eq_succ {α : Type} {a b : List α} {k : Nat} (ha : k < a.length) (hb : k < b.length) (h : a.take k = b.take k) (e : a[k] = b[k]) : a.take (k + 1) = b.take (k + 1) := by
  rw [List.take_succ_eq_append_getElem ha, List.take_succ_eq_append_getElem hb, h, e]

set_option maxHeartbeats 1000000 in
theorem ref_SameCerts (ok ok' : Nat → Prop) (w : World) (la : Option Addr) (lc : Nat) (ma : Option Addr) (mc : Nat) (a b : List Cert) (hA : SlR ok w 4 RCert la lc a) (hB : SlR ok' w 4 RCert ma mc b) :
    Calls Try.prog 12 #[.slice la a.length lc, .slice ma b.length mc] w fun e w' => e = .returned (.bool (decide (a = b))) ∧ Below w.heap.size w w' := by
  have hl : a.length ≤ 9223372036854775807 := by have h1 := hA.1; have h2 := hA.2.1; unfold maxLen at h2; omega
  have hm : b.length ≤ 9223372036854775807 := by have h1 := hB.1; have h2 := hB.2.1; unfold maxLen at h2; omega
  by_cases hn : a.length = b.length
  · have d1 : (((a.length : Nat) : Int) != ((b.length : Nat) : Int)) = false := by rw [hn]; simp
    have HN := Lib.hid hn
    have hlb : a.length ≤ b.length := by omega
    clear hn
    go_enter Try.func12, Try.ntmps12
    go_wp2
    go_loopw [13] (fun i wr => ∃ k : Nat, k ≤ a.length ∧ i = .int .i64 k ∧ Below w.heap.size w wr ∧ Hid (a.take k = b.take k)) (fun i _ => a.length - (intOf i).toNat)
    case atStart => exact ⟨0, Nat.zero_le _, rfl, Below.refl _ _, rfl⟩
    case round =>
      obtain ⟨k, hk, rfl, hBw, hI⟩ := hrel
      by_cases hlt : k < a.length
      · have hlt' : k < b.length := by omega
        obtain ⟨b1, o1, rfl, hb1, f1, f2, f3, f4⟩ := (hA.below hBw).cert_at k hlt
        obtain ⟨b2, o2, rfl, hb2, g1, g2, g3, g4⟩ := (hB.below hBw).cert_at k hlt'
        cases hd : decide (a[k] = b[k])
        all_goals
          have HD := Lib.hid hd
          have hne := neq_Cert a[k] b[k] _ hd; have hgu := guard_Cert
          first | (have hni : (a[k] != b[k]) = true := by simpa using hd) | (have hni : (a[k] != b[k]) = false := by simpa using hd) | skip
          clear hd
          go_wp2
          go_quiet (fail)
          go_wp2
        · go_ret
          have e : decide (a = b) = false := by simpa using take_ne hlt hlt' (by simpa using HD.out)
          exact ⟨by rw [e]; rfl, hBw.drewN _⟩
        · have HI := Lib.hid (take_eq_succ hlt hlt' hI.out (by simpa using HD.out))
          go_roundw
          case rel => exact ⟨k + 1, hlt, by go_num, hBw.drewN _, HI⟩
          case measure => simp [intOf]; omega
      · go_wp2
        go_ret
        have e : decide (a = b) = true := by
          have := hI.out
          rw [List.take_of_length_le (by omega), List.take_of_length_le (by have := HN.out; omega)] at this
          simpa using this
        exact ⟨by rw [e]; rfl, hBw⟩
  · have d1 : (((a.length : Nat) : Int) != ((b.length : Nat) : Int)) = true := by simp; omega
    have e : decide (a = b) = false := by simpa using fun e => hn (by rw [e])
    have HE := Lib.hid e
    clear e hn
    go_enter Try.func12, Try.ntmps12
    go_wp2
    go_ret
    exact ⟨by rw [HE.out]; rfl, Below.refl _ _⟩

end Go.Proofs.Ytbngblmdcggfdaa

/- 'append' in the words of SlR and Own, wherever it stands: in a list of operations, in a region that draws its order. No program is in sight. -/
namespace Go.Proofs.Ytbngblmdcggfdaa
open Go.RowKit

/-- The block is the one at o, or new in w. -/
def AtOrNew (o : Option Addr) (g : Nat) (w : World) : Prop := o.map (·.block) = some g ∨ g = w.heap.size

section
variable {P : Program} {w : World} {ops : Array Oper} {rest : List Oper} {o : Oper} {A : Act} {Q : Exit → Act → World → Prop} {K : Act → World → Prop} {E : Prop}

theorem wp_app (s x : Operand) (t : TypeId)
    (ho : o.op = .call { callee := .builtin .append, args := #[s, x], argTypes := #[t, t] })
    (e : TypeId) (i : TypeInfo) (z : Value) (sz bytes : Nat) (ht : P.underlying t = some (.slice e)) (hi : P.info? e = some i) (hz : i.zero = some z) (hsize : i.size = sz) (hby : i.bytes = bytes) (hzs : z.cells.size = sz) (hsz : 0 < sz)
    {α : Type} {R : List Value → α → Prop} {base : Nat} {ok : Nat → Prop} {a : Option Addr} {c n : Nat} {xs : List α} (hs : A.eval s = .slice a n c) (hn : n = xs.length) (hO : Own base e w sz R a c xs)
    {b : Option Addr} {m d : Nat} {ys : List α} (hx : A.eval x = .slice b m d) (hm : m = ys.length) (hR : SlR ok w sz R b d ys) (hl : (xs.length + ys.length) * bytes ≤ 140737488355328) (h63 : xs.length + ys.length ≤ maxLen) (hbase : base ≤ w.heap.size)
    (h : ∀ a' c' w', Own base e w' sz R a' c' (xs ++ ys) → w.grownBy w' (a.map (·.block)) → (a' = none → xs = [] ∧ ys = []) → K (A.put o.dst (.slice a' (n + m) c')) w') : Oper.wp P o A w K Q := by
  subst hn hm
  obtain ⟨css, h1, h2, h3, hown⟩ := hO
  obtain ⟨dss, g1, g2, g3, g4⟩ := hR.all
  have hob : (Value.slice a xs.length c).ownBlock = a.map (·.block) := by cases a <;> rfl
  have hall : ∀ cs ∈ css ++ dss, cs.length = sz ∧ ∀ v ∈ cs, v.oneCell' = true := by
    intro cs hcs
    rcases List.mem_append.1 hcs with hcs | hcs
    · exact h2 cs hcs
    · exact g2 cs hcs
  have hRR : ∀ (i : Nat) (x : α) (cs : List Value), (xs ++ ys)[i]? = some x → (css ++ dss)[i]? = some cs → R cs x := by
    intro i x cs hx hc
    by_cases hi : i < xs.length
    · rw [List.getElem?_append_left hi] at hx
      rw [List.getElem?_append_left (by omega)] at hc
      exact h3 i x cs hx hc
    · rw [List.getElem?_append_right (by omega)] at hx
      rw [List.getElem?_append_right (by omega), h1] at hc
      exact g3 _ x cs hx hc
  cases b with
  | none =>
    have hd := hR.2.2.1 rfl
    subst hd
    have hys : ys = [] := List.eq_nil_of_length_eq_zero (by have := hR.1; omega)
    subst hys
    have hdss : dss = [] := List.eq_nil_of_length_eq_zero (by simpa using g1)
    subst hdss
    have hrun := run_append_owned_none (P := P) (w := w) base t o.type e i sz ht hi _ xs.length css.flatten hown
    unfold Oper.wp
    simp only [List.length_nil] at hx
    simp [execOp, ho, resolve, invoke, builtin, hs, hx, hrun, Result.andThen]
    have := h a c w (by rw [List.append_nil]; exact ⟨css, h1, h2, h3, hown⟩) (World.grownBy.refl _ _) (by
      rintro rfl
      rcases hown.2 with ⟨_, hn⟩ | ⟨_, _, _, hv, _⟩
      · exact ⟨List.eq_nil_of_length_eq_zero hn, rfl⟩
      · simp at hv)
    have h' : K (A.put o.dst (.slice a xs.length c)) w := by simpa using this
    exact h'
  | some ad =>
    have hfl : dss.flatten.length = ys.length * sz := by rw [flatten_length fun cs h => (g2 cs h).1, g1]
    refine wp_append_own w s x t ho base e i z sz bytes ht hi hz hsize hby hzs hsz _ xs.length css.flatten hs hown ad ys.length d dss.flatten hx hfl ?_ ?_ h63 hl hbase ?_
    · intro j u hj
      obtain ⟨p, q, cs, rfl, hq, hp, hv⟩ := flatten_inv (fun cs h => (g2 cs h).1) hj
      obtain ⟨b, o, ha, _, _, hc⟩ := g4 p cs hp
      simp only [Option.some.injEq] at ha
      subst ha
      have := hc q u hv
      rw [Addr.add_lit]
      rw [← this]
      congr 2
      omega
    · intro u hu
      obtain ⟨cs, hcs, huc⟩ := List.mem_flatten.1 hu
      exact (g2 cs hcs).2 u huc
    · intro v' w' hown' hgr hnil
      rw [hob] at hgr
      have hOwn : ∀ a' c', v' = .slice a' (xs.length + ys.length) c' → Own base e w' sz R a' c' (xs ++ ys) := by
        rintro a' c' rfl
        exact ⟨css ++ dss, by simp [h1, g1], hall, hRR, by simpa using hown'⟩
      rcases hown'.2 with ⟨rfl, hn⟩ | ⟨g, cap, cur, rfl, _⟩
      · have e1 : xs = [] := List.eq_nil_of_length_eq_zero (by omega)
        have e2 : ys = [] := List.eq_nil_of_length_eq_zero (by omega)
        have := h none 0 w' (hOwn _ _ (by simp [e1, e2])) hgr (fun _ => ⟨e1, e2⟩)
        simpa [e1, e2] using this
      · exact h _ _ w' (hOwn _ _ rfl) hgr (by simp)

/-- 'append([]T(nil), ys...)': a copy. -/
theorem wp_copy (s x : Operand) (t : TypeId)
    (ho : o.op = .call { callee := .builtin .append, args := #[s, x], argTypes := #[t, t] })
    (e : TypeId) (i : TypeInfo) (z : Value) (sz bytes : Nat) (ht : P.underlying t = some (.slice e)) (hi : P.info? e = some i) (hz : i.zero = some z) (hsize : i.size = sz) (hby : i.bytes = bytes) (hzs : z.cells.size = sz) (hsz : 0 < sz)
    {α : Type} {R : List Value → α → Prop} {ok : Nat → Prop} (hs : A.eval s = .slice none 0 0)
    {b : Option Addr} {m d : Nat} {ys : List α} (hx : A.eval x = .slice b m d) (hm : m = ys.length) (hR : SlR ok w sz R b d ys) (hl : ys.length * bytes ≤ 140737488355328)
    (h : ∀ a' c' w', Own w.heap.size e w' sz R a' c' ys → Below w.heap.size w w' → K (A.put o.dst (.slice a' m c')) w') : Oper.wp P o A w K Q := by
  refine wp_app s x t ho e i z sz bytes ht hi hz hsize hby hzs hsz (xs := ([] : List α)) hs rfl (Own.nil w.heap.size _ _ _ _) hx hm hR (by simpa using hl) ?_ (Nat.le_refl _) ?_
  · have := hR.1; have := hR.2.1; simp; omega
  · intro a' c' w' hO hg _
    rw [Nat.zero_add]
    exact h a' c' w' (by simpa using hO) ((Below.refl _ _).grown hg (Nat.le_refl _) (by simp))

theorem wpList_copy (hgd : Region.wanted o (yielded ops A.tmps) = true) (s x : Operand) (t : TypeId)
    (ho : o.op = .call { callee := .builtin .append, args := #[s, x], argTypes := #[t, t] })
    (e : TypeId) (i : TypeInfo) (z : Value) (sz bytes : Nat) (ht : P.underlying t = some (.slice e)) (hi : P.info? e = some i) (hz : i.zero = some z) (hsize : i.size = sz) (hby : i.bytes = bytes) (hzs : z.cells.size = sz) (hsz : 0 < sz)
    {α : Type} {R : List Value → α → Prop} {ok : Nat → Prop} (hs : A.eval s = .slice none 0 0)
    {b : Option Addr} {m d : Nat} {ys : List α} (hx : A.eval x = .slice b m d) (hm : m = ys.length) (hR : SlR ok w sz R b d ys) (hl : ys.length * bytes ≤ 140737488355328)
    (h : ∀ a' c' w', Own w.heap.size e w' sz R a' c' ys → Below w.heap.size w w' → wpList P ops Q rest (A.put o.dst (.slice a' m c')) w') : wpList P ops Q (o :: rest) A w :=
  wpList_wanted hgd fun _ hK => wp_copy s x t ho e i z sz bytes ht hi hz hsize hby hzs hsz hs hx hm hR hl fun a' c' w' h1 h2 => hK _ _ (h a' c' w' h1 h2)

theorem step_copy (hgd : Region.wanted o (yielded ops A.tmps) = true) (s x : Operand) (t : TypeId)
    (ho : o.op = .call { callee := .builtin .append, args := #[s, x], argTypes := #[t, t] })
    (e : TypeId) (i : TypeInfo) (z : Value) (sz bytes : Nat) (ht : P.underlying t = some (.slice e)) (hi : P.info? e = some i) (hz : i.zero = some z) (hsize : i.size = sz) (hby : i.bytes = bytes) (hzs : z.cells.size = sz) (hsz : 0 < sz)
    {α : Type} {R : List Value → α → Prop} {ok : Nat → Prop} (hs : A.eval s = .slice none 0 0)
    {b : Option Addr} {m d : Nat} {ys : List α} (hx : A.eval x = .slice b m d) (hm : m = ys.length) (hR : SlR ok w sz R b d ys) (hl : ys.length * bytes ≤ 140737488355328)
    (h : ∀ a' c' w', Own w.heap.size e w' sz R a' c' ys → Below w.heap.size w w' → K (A.put o.dst (.slice a' m c')) w') : if Region.wanted o (yielded ops A.tmps) = true then Oper.wp P o A w K Q else E := by
  have hw := hgd
  rw [if_pos hw]
  exact wp_copy s x t ho e i z sz bytes ht hi hz hsize hby hzs hsz hs hx hm hR hl h

theorem step_app (hgd : Region.wanted o (yielded ops A.tmps) = true) (s x : Operand) (t : TypeId)
    (ho : o.op = .call { callee := .builtin .append, args := #[s, x], argTypes := #[t, t] })
    (e : TypeId) (i : TypeInfo) (z : Value) (sz bytes : Nat) (ht : P.underlying t = some (.slice e)) (hi : P.info? e = some i) (hz : i.zero = some z) (hsize : i.size = sz) (hby : i.bytes = bytes) (hzs : z.cells.size = sz) (hsz : 0 < sz)
    {α : Type} {R : List Value → α → Prop} {base : Nat} {ok : Nat → Prop} {a : Option Addr} {c n : Nat} {xs : List α} (hs : A.eval s = .slice a n c) (hn : n = xs.length) (hO : Own base e w sz R a c xs)
    {b : Option Addr} {m d : Nat} {ys : List α} (hx : A.eval x = .slice b m d) (hm : m = ys.length) (hR : SlR ok w sz R b d ys) (hl : (xs.length + ys.length) * bytes ≤ 140737488355328) (h63 : xs.length + ys.length ≤ maxLen) (hbase : base ≤ w.heap.size)
    (h : ∀ a' c' w', Own base e w' sz R a' c' (xs ++ ys) → w.grownBy w' (a.map (·.block)) → (a' = none → xs = [] ∧ ys = []) → K (A.put o.dst (.slice a' (n + m) c')) w') : if Region.wanted o (yielded ops A.tmps) = true then Oper.wp P o A w K Q else E := by
  have hw := hgd
  rw [if_pos hw]
  exact wp_app s x t ho e i z sz bytes ht hi hz hsize hby hzs hsz hs hn hO hx hm hR hl h63 hbase h

/-- One element more: the row lies where it lay, or in a block that is new. -/
theorem wp_app1 (s x : Operand) (t : TypeId)
    (ho : o.op = .call { callee := .builtin .append, args := #[s, x], argTypes := #[t, t] })
    (e : TypeId) (i : TypeInfo) (z : Value) (sz bytes : Nat) (ht : P.underlying t = some (.slice e)) (hi : P.info? e = some i) (hz : i.zero = some z) (hsize : i.size = sz) (hby : i.bytes = bytes) (hzs : z.cells.size = sz) (hsz : 0 < sz)
    {α : Type} {R : List Value → α → Prop} {base : Nat} {ok : Nat → Prop} {a : Option Addr} {c n : Nat} {xs : List α} (hs : A.eval s = .slice a n c) (hn : n = xs.length) (hO : Own base e w sz R a c xs)
    {b : Option Addr} {d : Nat} {y : α} (hx : A.eval x = .slice b 1 d) (hR : SlR ok w sz R b d [y]) (hl : (xs.length + 1) * bytes ≤ 140737488355328) (h63 : xs.length + 1 ≤ maxLen) (hbase : base ≤ w.heap.size)
    (h : ∀ g c' w', Own base e w' sz R (some ⟨g, 0, none⟩) c' (xs ++ [y]) → w.grownBy w' (a.map (·.block)) → AtOrNew a g w → g < w'.heap.size → K (A.put o.dst (.slice (some ⟨g, 0, none⟩) (n + 1) c')) w') : Oper.wp P o A w K Q := by
  subst hn
  obtain ⟨css, h1, h2, h3, hown⟩ := hO
  obtain ⟨dss, g1, g2, g3, g4⟩ := hR.all
  have hob : (Value.slice a xs.length c).ownBlock = a.map (·.block) := by cases a <;> rfl
  match dss, g1 with
  | [ds], _ =>
    have hds := g2 ds (by simp)
    obtain ⟨b0, o0, rfl, _, _, hc⟩ := g4 0 ds rfl
    refine wp_append_lies w s x t ho base e i z sz bytes ht hi hz hsize hby hzs hsz _ xs.length css.flatten hs hown ⟨b0, o0, none⟩ 1 d ds hx (by rw [hds.1]; omega) ?_ hds.2 (by omega) h63 hl hbase _ rfl ?_
    · intro j u hj
      have := hc j u hj
      rw [Addr.add_lit]
      rw [← this]
      congr 2
      omega
    · intro g cap w' hown' hgr hg hlt
      rw [hob] at hgr hg
      refine h g cap w' ⟨css ++ [ds], by simp [h1], ?_, ?_, by simpa using hown'⟩ hgr hg hlt
      · intro cs hcs
        rcases List.mem_append.1 hcs with hcs | hcs
        · exact h2 cs hcs
        · simp at hcs; subst hcs; exact hds
      · intro i x cs hx hc
        by_cases hi : i < xs.length
        · rw [List.getElem?_append_left hi] at hx
          rw [List.getElem?_append_left (by omega)] at hc
          exact h3 i x cs hx hc
        · rw [List.getElem?_append_right (by omega)] at hx
          rw [List.getElem?_append_right (by omega), h1] at hc
          exact g3 _ x cs hx hc

theorem wpList_app1 (hgd : Region.wanted o (yielded ops A.tmps) = true) (s x : Operand) (t : TypeId)
    (ho : o.op = .call { callee := .builtin .append, args := #[s, x], argTypes := #[t, t] })
    (e : TypeId) (i : TypeInfo) (z : Value) (sz bytes : Nat) (ht : P.underlying t = some (.slice e)) (hi : P.info? e = some i) (hz : i.zero = some z) (hsize : i.size = sz) (hby : i.bytes = bytes) (hzs : z.cells.size = sz) (hsz : 0 < sz)
    {α : Type} {R : List Value → α → Prop} {base : Nat} {ok : Nat → Prop} {a : Option Addr} {c n : Nat} {xs : List α} (hs : A.eval s = .slice a n c) (hn : n = xs.length) (hO : Own base e w sz R a c xs)
    {b : Option Addr} {d : Nat} {y : α} (hx : A.eval x = .slice b 1 d) (hR : SlR ok w sz R b d [y]) (hl : (xs.length + 1) * bytes ≤ 140737488355328) (h63 : xs.length + 1 ≤ maxLen) (hbase : base ≤ w.heap.size)
    (h : ∀ g c' w', Own base e w' sz R (some ⟨g, 0, none⟩) c' (xs ++ [y]) → w.grownBy w' (a.map (·.block)) → AtOrNew a g w → g < w'.heap.size → wpList P ops Q rest (A.put o.dst (.slice (some ⟨g, 0, none⟩) (n + 1) c')) w') : wpList P ops Q (o :: rest) A w :=
  wpList_wanted hgd fun _ hK => wp_app1 s x t ho e i z sz bytes ht hi hz hsize hby hzs hsz hs hn hO hx hR hl h63 hbase fun g c' w' h1 h2 h3 h4 => hK _ _ (h g c' w' h1 h2 h3 h4)

theorem step_app1 (hgd : Region.wanted o (yielded ops A.tmps) = true) (s x : Operand) (t : TypeId)
    (ho : o.op = .call { callee := .builtin .append, args := #[s, x], argTypes := #[t, t] })
    (e : TypeId) (i : TypeInfo) (z : Value) (sz bytes : Nat) (ht : P.underlying t = some (.slice e)) (hi : P.info? e = some i) (hz : i.zero = some z) (hsize : i.size = sz) (hby : i.bytes = bytes) (hzs : z.cells.size = sz) (hsz : 0 < sz)
    {α : Type} {R : List Value → α → Prop} {base : Nat} {ok : Nat → Prop} {a : Option Addr} {c n : Nat} {xs : List α} (hs : A.eval s = .slice a n c) (hn : n = xs.length) (hO : Own base e w sz R a c xs)
    {b : Option Addr} {d : Nat} {y : α} (hx : A.eval x = .slice b 1 d) (hR : SlR ok w sz R b d [y]) (hl : (xs.length + 1) * bytes ≤ 140737488355328) (h63 : xs.length + 1 ≤ maxLen) (hbase : base ≤ w.heap.size)
    (h : ∀ g c' w', Own base e w' sz R (some ⟨g, 0, none⟩) c' (xs ++ [y]) → w.grownBy w' (a.map (·.block)) → AtOrNew a g w → g < w'.heap.size → K (A.put o.dst (.slice (some ⟨g, 0, none⟩) (n + 1) c')) w') : if Region.wanted o (yielded ops A.tmps) = true then Oper.wp P o A w K Q else E := by
  have hw := hgd
  rw [if_pos hw]
  exact wp_app1 s x t ho e i z sz bytes ht hi hz hsize hby hzs hsz hs hn hO hx hR hl h63 hbase h

end
end Go.Proofs.Ytbngblmdcggfdaa

/- New blocks, loads and stores of a call's own memory, as steps of a walk. No program is in sight. -/
namespace Go.Proofs.Ytbngblmdcggfdaa
open Go.RowKit

section
variable {P : Program} {w0 w : World} {M : List Nat} {own : Blks} {ops : Array Oper} {rest : List Oper} {o : Oper} {A : Act} {Q : Exit → Act → World → Prop}

theorem mem_box (st : St M w0 w own) (hgd : Region.wanted o (yielded ops A.tmps) = true) (T : TypeId) (x : Operand) (ho : o.op = .box T x) (v : Value) (hx : A.eval x = v) (cs : List Value) (hcs : v.cells.toList = cs)
    (h : ∀ g w', w0.heap.size ≤ g → St M w0 w' (own ++ [(g, T, cs)]) → Below w.heap.size w w' → wpList P ops Q rest (A.put o.dst (.pointer (some ⟨g, 0, none⟩))) w') : wpList P ops Q (o :: rest) A w := by
  subst hcs
  refine wpList_wanted hgd fun K hK' => ?_
  have hs := st.new T v.cells.toList
  simp only [Array.toArray_toList] at hs
  unfold Oper.wp
  simp only [execOp, ho, hx, Instr.box, newVar, newRow, newObj]
  exact hK' _ _ (h w.heap.size _ st.size hs ((Below.refl _ _).alloc (Nat.le_refl _) _))

theorem mem_alloc (st : St M w0 w own) (hgd : Region.wanted o (yielded ops A.tmps) = true) (T : TypeId) (ho : o.op = .alloc T) (z : Value) (hz : ∀ w, (zeroValue T).run P w = .ok z w) (cs : List Value) (hcs : z.cells.toList = cs)
    (h : ∀ g w', w0.heap.size ≤ g → St M w0 w' (own ++ [(g, T, cs)]) → Below w.heap.size w w' → wpList P ops Q rest (A.put o.dst (.pointer (some ⟨g, 0, none⟩))) w') : wpList P ops Q (o :: rest) A w := by
  subst hcs
  refine wpList_wanted hgd fun K hK' => ?_
  have hs := st.new T z.cells.toList
  simp only [Array.toArray_toList] at hs
  unfold Oper.wp
  simp only [execOp, ho, Instr.alloc, Sem.run_bind, hz, Result.andThen_ok, newVar, newRow, newObj]
  exact hK' _ _ (h w.heap.size _ st.size hs ((Below.refl _ _).alloc (Nat.le_refl _) _))

theorem St.cell (st : St M w0 w own) {i g : Nat} {T : TypeId} {cs : List Value} (hi : own[i]? = some (g, T, cs)) (j : Nat) : w.cell? ⟨g, j, none⟩ = cs[j]? := by
  rw [cell_of_row w g j cs.toArray T (0, 0) (st.blk _ (List.mem_of_getElem? hi))]
  simp

theorem St.free (st : St M w0 w own) {i g : Nat} {T : TypeId} {cs : List Value} (hi : own[i]? = some (g, T, cs)) (j : Nat) : w.frozen? ⟨g, j, none⟩ = false :=
  frozen_of_row w g j cs.toArray T (st.blk _ (List.mem_of_getElem? hi))

theorem add_plain (g o i : Nat) : (⟨g, o, none⟩ : Addr).add i = ⟨g, o + i, none⟩ := by unfold Addr.add; split <;> simp_all

theorem mem_load (st : St M w0 w own) (hgd : Region.wanted o (yielded ops A.tmps) = true) (T : TypeId) (x : Operand) (ho : o.op = .load T x) (g off : Nat) (hx : A.eval x = .pointer (some ⟨g, off, none⟩)) (hagg : ∀ w, (isAgg T).run P w = .ok false w)
    (i : Nat) (T' : TypeId) (cs : List Value) (hi : own[i]? = some (g, T', cs)) (v : Value) (hv : cs[off]? = some v)
    (h : wpList P ops Q rest (A.put o.dst v) w) : wpList P ops Q (o :: rest) A w := by
  refine wpList_wanted hgd fun K hK' => ?_
  have hc := (st.cell hi off).trans hv
  unfold Oper.wp
  simp only [execOp, ho, hx, Instr.loadAt, Instr.sureAddr, loadVar, Sem.run_bind, Sem.run_pure, Result.andThen_ok, hagg]
  simp [load, Sem.run, hc, Result.andThen]
  exact hK' _ _ h

theorem mem_load_agg (st : St M w0 w own) (hgd : Region.wanted o (yielded ops A.tmps) = true) (T : TypeId) (x : Operand) (ho : o.op = .load T x) (g off : Nat) (hx : A.eval x = .pointer (some ⟨g, off, none⟩)) (hagg : ∀ w, (isAgg T).run P w = .ok true w)
    (n : Nat) (hsz : ∀ w, (sizeOf T).run P w = .ok n w) (i : Nat) (T' : TypeId) (cs : List Value) (hi : own[i]? = some (g, T', cs)) (vs : List Value) (hv : (cs.drop off).take n = vs) (hl : vs.length = n)
    (h : wpList P ops Q rest (A.put o.dst (.agg vs.toArray)) w) : wpList P ops Q (o :: rest) A w := by
  refine wpList_wanted hgd fun K hK' => ?_
  have hl' : (loadCells ⟨g, off, none⟩ vs.length).run P w = .ok vs.toArray w := run_loadCells_list (P := P) w ⟨g, off, none⟩ vs (fun j v hj => by
    rw [add_plain, st.cell hi]
    subst hv
    have hjn : j < n := by have := (List.getElem?_eq_some_iff.1 hj).1; omega
    rw [List.getElem?_take_of_lt hjn, List.getElem?_drop] at hj
    exact hj)
  rw [hl] at hl'
  unfold Oper.wp
  simp only [execOp, ho, hx, Instr.loadAt, Instr.sureAddr, loadVar, Sem.run_bind, Sem.run_pure, Result.andThen_ok, hagg, hsz, if_true, hl']
  exact hK' _ _ h

theorem mem_store (st : St M w0 w own) (hgd : Region.wanted o (yielded ops A.tmps) = true) (T : TypeId) (x y : Operand) (ho : o.op = .store T x y) (g off : Nat) (hx : A.eval x = .pointer (some ⟨g, off, none⟩))
    (v : Value) (hy : A.eval y = v) (vs : List Value) (hvs : v.cells.toList = vs) (hsz : ∀ w, (sizeOf T).run P w = .ok vs.length w) (h1 : ∀ u ∈ vs, u.oneCell' = true)
    (i : Nat) (T' : TypeId) (cs : List Value) (hi : own[i]? = some (g, T', cs)) (hl : off + vs.length ≤ cs.length)
    (h : ∀ w', St M w0 w' (own.set i (g, T', putL cs off vs)) → (∀ b, b ≠ g → w'.heap[b]? = w.heap[b]?) → w'.heap.size = w.heap.size → wpList P ops Q rest (A.put o.dst undef) w') : wpList P ops Q (o :: rest) A w := by
  refine wpList_wanted hgd fun K hK' => ?_
  have hst : (storeCells ⟨g, off, none⟩ vs 0).run P w = .ok () (w.setCells g off vs) := run_storeCells_cells (P := P) g off vs 0 w
    (fun j hj => by rw [Nat.add_zero, st.cell hi]; rw [List.getElem?_eq_getElem (by omega)]; rfl) (fun j hj => by rw [Nat.add_zero]; exact st.free hi _) h1
  obtain ⟨a1, a2, a3, a4, a5, a6⟩ := setCells_block (w := w) vs off cs (st.blk _ (List.mem_of_getElem? hi))
  have hs' := st.put hi a1 a2 a3 a4 a5 a6
  have hcs : v.cells.size = vs.length := by rw [← hvs]; simp
  unfold Oper.wp
  simp only [execOp, ho, hx, hy, Instr.storeAt, Instr.sureAddr, storeVar, Sem.run_bind, Sem.run_pure, Result.andThen_ok, hsz, hcs, hvs, ne_eq, not_true, if_false, hst]
  exact hK' _ _ (h _ hs' a2 a3)

/-! ### The same, for the arms of a walk: what is found by looking stands behind one existential -/

theorem mem_load' (st : St M w0 w own) (T : TypeId) (x : Operand) (ho : o.op = .load T x) (hgd : Region.wanted o (yielded ops A.tmps) = true) (hagg : ∀ w, (isAgg T).run P w = .ok false w)
    (h : ∃ (i g off : Nat) (T' : TypeId) (cs : List Value) (v : Value), A.eval x = .pointer (some ⟨g, off, none⟩) ∧ own[i]? = some (g, T', cs) ∧ cs[off]? = some v ∧ wpList P ops Q rest (A.put o.dst v) w) : wpList P ops Q (o :: rest) A w := by
  obtain ⟨i, g, off, T', cs, v, hx, hi, hv, h⟩ := h
  exact mem_load st hgd T x ho g off hx hagg i T' cs hi v hv h

theorem mem_load_agg' (st : St M w0 w own) (T : TypeId) (x : Operand) (ho : o.op = .load T x) (hgd : Region.wanted o (yielded ops A.tmps) = true) (hagg : ∀ w, (isAgg T).run P w = .ok true w) (n : Nat) (hsz : ∀ w, (sizeOf T).run P w = .ok n w)
    (h : ∃ (i g off : Nat) (T' : TypeId) (cs vs : List Value), A.eval x = .pointer (some ⟨g, off, none⟩) ∧ own[i]? = some (g, T', cs) ∧ (cs.drop off).take n = vs ∧ vs.length = n ∧ wpList P ops Q rest (A.put o.dst (.agg vs.toArray)) w) : wpList P ops Q (o :: rest) A w := by
  obtain ⟨i, g, off, T', cs, vs, hx, hi, hv, hl, h⟩ := h
  exact mem_load_agg st hgd T x ho g off hx hagg n hsz i T' cs hi vs hv hl h

theorem mem_store' (st : St M w0 w own) (T : TypeId) (x y : Operand) (ho : o.op = .store T x y) (hgd : Region.wanted o (yielded ops A.tmps) = true) (n : Nat) (hsz : ∀ w, (sizeOf T).run P w = .ok n w)
    (h : ∃ (i g off : Nat) (T' : TypeId) (cs vs : List Value), A.eval x = .pointer (some ⟨g, off, none⟩) ∧ own[i]? = some (g, T', cs) ∧ (A.eval y).cells.toList = vs ∧ vs.length = n ∧ vs.all Value.oneCell' = true ∧ Nat.ble (off + vs.length) cs.length = true ∧
      ∀ w', St M w0 w' (own.set i (g, T', putL cs off vs)) → (∀ b, b ≠ g → w'.heap[b]? = w.heap[b]?) → w'.heap.size = w.heap.size → wpList P ops Q rest (A.put o.dst undef) w') : wpList P ops Q (o :: rest) A w := by
  obtain ⟨i, g, off, T', cs, vs, hx, hi, hv, hl, h1, hle, h⟩ := h
  exact mem_store st hgd T x y ho g off hx _ rfl vs hv (by rw [hl]; exact hsz) (by simpa using h1) i T' cs hi (Nat.le_of_ble_eq_true hle) h

end
end Go.Proofs.Ytbngblmdcggfdaa
