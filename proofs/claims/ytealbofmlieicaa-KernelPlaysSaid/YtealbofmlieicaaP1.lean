/- Walks and plain laws, part 1. -/
import Derived.WalkKit
import Derived.WalkSpells
import Derived.WalkLawsBesides
import Derived.Handy
import Derived.Lib.Hide
import Derived.Deep.RegionHeld3
import Derived.Deep.QuietTactic
import Derived.BigQuiet
import Derived.Laws.IdiomCopy
import Derived.Laws.Rows
set_option linter.unusedSimpArgs false
set_option linter.unusedVariables false
set_option maxHeartbeats 16000000
set_option maxRecDepth 100000
namespace Go.Proofs.Ytealbofmlieicaa
open Go.RowKit
theorem mgE {α : Type} {l : List α} {i : Nat} {a : α} (e : l[i]? = some a) : a ∈ l := List.mem_of_getElem? e
theorem gEs {α : Type} {l : List α} {i : Nat} {a : α} (h : l[i]? = some a) : ∃ h : i < l.length, l[i] = a := List.getElem?_eq_some_iff.1 h
theorem gEg {α : Type} {l : List α} {i : Nat} (h : i < l.length) : l[i]? = some l[i] := List.getElem?_eq_getElem h
theorem qh {p : Prop} (h : p) : RowKit.Hid p := Lib.hid h
structure Keeps (ok : Nat → Prop) (w w' : World) : Prop where
 size : w.heap.size ≤ w'.heap.size
 block : ∀ b, b < w.heap.size → ok b → w'.heap[b]? = w.heap[b]?
theorem Keeps.of_below {ok : Nat → Prop} {w w' : World} (h : Below w.heap.size w w') : Keeps ok w w' := ⟨h.size, fun b hb _ => h.block b hb⟩
theorem Keeps.refl (ok : Nat → Prop) (w : World) : Keeps ok w w := ⟨Nat.le_refl _, fun _ _ _ => rfl⟩
theorem Keeps.trans {ok : Nat → Prop} {w w1 w2 : World} (h : Keeps ok w w1) (k : Keeps ok w1 w2) : Keeps ok w w2 :=
 ⟨Nat.le_trans h.size k.size, fun b hb ho => (k.block b (Nat.lt_of_lt_of_le hb h.size) ho).trans (h.block b hb ho)⟩
theorem Keeps.cell {ok : Nat → Prop} {w w' : World} (h : Keeps ok w w') {p : Addr} (hp : p.block < w.heap.size) (ho : ok p.block) : w'.cell? p = w.cell? p :=
 World.cell?_of_block (w := w) (h.block p.block hp ho)
theorem _root_.Go.RowKit.Below.keep {w w1 w2 : World} (h : Below w.heap.size w w1) (k : Below w1.heap.size w1 w2) : Below w.heap.size w w2 := h.trans (k.mono h.size)
theorem _root_.Go.RowKit.Below.drewN {B : Nat} {a w : World} (h : Below B a w) (n : Nat) : Below B a (w.drewN n) := ⟨h.os, h.tape, h.output, h.size, h.block⟩
def SlR (ok : Nat → Prop) (w : World) {α : Type} (sz : Nat) (R : List Value → α → Prop) (a : Option Addr) (c : Nat) (xs : List α) : Prop :=
 xs.length ≤ c ∧ c ≤ maxLen ∧ (a = none → c = 0) ∧
 ∀ i x, xs[i]? = some x → ∃ b o cs, a = some ⟨b, o, none⟩ ∧ ok b ∧ b < w.heap.size ∧ R cs x ∧ cs.length = sz ∧ (∀ v ∈ cs, v.oneCell' = true) ∧ ∀ j v, cs[j]? = some v → w.cell? ⟨b, o + i * sz + j, none⟩ = some v
theorem SlR.mono {ok : Nat → Prop} {w w' : World} {α : Type} {sz : Nat} {R R' : List Value → α → Prop} {a : Option Addr} {c : Nat} {xs : List α} (h : SlR ok w sz R a c xs) (hk : Keeps ok w w') (hR : ∀ cs x, R cs x → R' cs x) :
  SlR ok w' sz R' a c xs := by
 refine ⟨h.1, h.2.1, h.2.2.1, fun i x hx => ?_⟩
 obtain ⟨b, o, cs, ha, ho, hb, hr, hl, h1, hc⟩ := h.2.2.2 i x hx
 exact ⟨b, o, cs, ha, ho, Nat.lt_of_lt_of_le hb hk.size, hR _ _ hr, hl, h1, fun j v hv => (hk.cell (p := ⟨b, _, none⟩) hb ho).trans (hc j v hv)⟩
theorem SlR.keep {ok : Nat → Prop} {w w' : World} {α : Type} {sz : Nat} {R : List Value → α → Prop} {a : Option Addr} {c : Nat} {xs : List α} (h : SlR ok w sz R a c xs) (hk : Keeps ok w w') : SlR ok w' sz R a c xs := h.mono hk fun _ _ h => h
theorem SlR.below {ok : Nat → Prop} {w w' : World} {α : Type} {sz : Nat} {R : List Value → α → Prop} {a : Option Addr} {c : Nat} {xs : List α} (h : SlR ok w sz R a c xs) (hk : Below w.heap.size w w') : SlR ok w' sz R a c xs := h.keep (.of_below hk)
theorem SlR.nil (ok : Nat → Prop) (w : World) {α : Type} (sz : Nat) (R : List Value → α → Prop) : SlR ok w sz R none 0 ([] : List α) := ⟨Nat.le_refl _, Nat.zero_le _, fun _ => rfl, fun i x hx => by simp at hx⟩
theorem SlR.all {ok : Nat → Prop} {w : World} {α : Type} {sz : Nat} {R : List Value → α → Prop} {a : Option Addr} {c : Nat} {xs : List α} (h : SlR ok w sz R a c xs) :
  ∃ css : List (List Value), css.length = xs.length ∧ (∀ cs ∈ css, cs.length = sz ∧ ∀ v ∈ cs, v.oneCell' = true) ∧ (∀ (i : Nat) (x : α) (cs : List Value), xs[i]? = some x → css[i]? = some cs → R cs x) ∧
   ∀ (i : Nat) (cs : List Value), css[i]? = some cs → ∃ b o, a = some ⟨b, o, none⟩ ∧ ok b ∧ b < w.heap.size ∧ ∀ j v, cs[j]? = some v → w.cell? ⟨b, o + i * sz + j, none⟩ = some v := by
 classical
 have hh := h.2.2.2
 clear h
 suffices H : ∀ k, k ≤ xs.length → ∃ css : List (List Value), css.length = k ∧ (∀ cs ∈ css, cs.length = sz ∧ ∀ v ∈ cs, v.oneCell' = true) ∧ (∀ (i : Nat) (x : α) (cs : List Value), xs[i]? = some x → css[i]? = some cs → R cs x) ∧
   ∀ (i : Nat) (cs : List Value), css[i]? = some cs → ∃ b o, a = some ⟨b, o, none⟩ ∧ ok b ∧ b < w.heap.size ∧ ∀ j v, cs[j]? = some v → w.cell? ⟨b, o + i * sz + j, none⟩ = some v by
  exact H xs.length (Nat.le_refl _)
 intro k
 induction k with
 | zero => exact fun _ => ⟨[], rfl, by simp, by simp, by simp⟩
 | succ k ih =>
  intro hk
  obtain ⟨css, h1, h2, h3, h4⟩ := ih (by omega)
  obtain ⟨b, o, cs, ha, ho, hb, hr, hl, hone, hc⟩ := hh k xs[k] (by simp [hk])
  refine ⟨css ++ [cs], by simp [h1], ?_, ?_, ?_⟩
  ·intro x hx
   rcases List.mem_append.1 hx with hx | hx
   ·exact h2 x hx
   ·simp at hx; subst hx; exact ⟨hl, hone⟩
  ·intro i x d hx hd
   by_cases hi : i < k
   ·rw [List.getElem?_append_left (by omega)] at hd
    exact h3 i x d hx hd
   ·rw [List.getElem?_append_right (by omega)] at hd
    have : i - css.length = 0 := by
     have := (List.getElem?_eq_some_iff.1 hd).1
     simp at this; omega
    rw [this] at hd
    simp at hd
    subst hd
    have hik : i = k := by omega
    subst hik
    rw [List.getElem?_eq_getElem (by omega)] at hx
    simp at hx
    subst hx
    exact hr
  ·intro i d hd
   by_cases hi : i < k
   ·rw [List.getElem?_append_left (by omega)] at hd
    exact h4 i d hd
   ·rw [List.getElem?_append_right (by omega)] at hd
    have : i - css.length = 0 := by
     have := (List.getElem?_eq_some_iff.1 hd).1
     simp at this; omega
    rw [this] at hd
    simp at hd
    subst hd
    have hik : i = k := by omega
    subst hik
    exact ⟨b, o, ha, ho, hb, hc⟩
theorem flatten_at {css : List (List Value)} {sz : Nat} (hs : ∀ cs ∈ css, cs.length = sz) {i : Nat} {cs : List Value} (hi : css[i]? = some cs) {j : Nat} {v : Value} (hj : cs[j]? = some v) : css.flatten[i * sz + j]? = some v := by
 induction css generalizing i with
 | nil => simp at hi
 | cons c css ih =>
  have hc := hs c (by simp)
  have hcs := hs cs (List.mem_of_getElem? hi)
  have hj' : j < sz := by rw [← hcs]; exact (List.getElem?_eq_some_iff.1 hj).1
  cases i with
  | zero =>
   simp only [List.getElem?_cons_zero, Option.some.injEq] at hi
   subst hi
   simp only [List.flatten_cons, Nat.zero_mul, Nat.zero_add]
   rw [List.getElem?_append_left (by omega)]
   exact hj
  | succ i =>
   simp only [List.getElem?_cons_succ] at hi
   simp only [List.flatten_cons]
   rw [List.getElem?_append_right (by rw [hc, Nat.succ_mul]; omega), hc, show (i + 1) * sz + j - sz = i * sz + j by rw [Nat.succ_mul]; omega]
   exact ih (fun x hx => hs x (by simp [hx])) hi
theorem flatten_length {css : List (List Value)} {sz : Nat} (hs : ∀ cs ∈ css, cs.length = sz) : css.flatten.length = css.length * sz := by
 induction css with
 | nil => simp
 | cons c css ih => simp only [List.flatten_cons, List.length_append, List.length_cons, hs c (by simp), ih (fun x hx => hs x (by simp [hx])), Nat.succ_mul]; omega
theorem flatten_inv {css : List (List Value)} {sz : Nat} (hs : ∀ cs ∈ css, cs.length = sz) {n : Nat} {v : Value} (h : css.flatten[n]? = some v) : ∃ i j cs, n = i * sz + j ∧ j < sz ∧ css[i]? = some cs ∧ cs[j]? = some v := by
 induction css generalizing n with
 | nil => simp at h
 | cons c css ih =>
  have hc := hs c (by simp)
  simp only [List.flatten_cons] at h
  by_cases hn : n < c.length
  ·rw [List.getElem?_append_left hn] at h
   exact ⟨0, n, c, by simp, by omega, rfl, h⟩
  ·rw [List.getElem?_append_right (by omega)] at h
   obtain ⟨i, j, cs, h1, h2, h3, h4⟩ := ih (fun x hx => hs x (by simp [hx])) h
   exact ⟨i + 1, j, cs, by rw [Nat.succ_mul]; omega, h2, h3, h4⟩
def Own (base : Nat) (e : TypeId) (w : World) {α : Type} (sz : Nat) (R : List Value → α → Prop) (a : Option Addr) (c : Nat) (xs : List α) : Prop :=
 ∃ css : List (List Value), css.length = xs.length ∧ (∀ cs ∈ css, cs.length = sz ∧ ∀ v ∈ cs, v.oneCell' = true) ∧ (∀ (i : Nat) (x : α) (cs : List Value), xs[i]? = some x → css[i]? = some cs → R cs x) ∧ w.ownsRow base e sz (.slice a xs.length c) xs.length css.flatten
theorem Own.nil (base : Nat) (e : TypeId) (w : World) {α : Type} (sz : Nat) (R : List Value → α → Prop) : Own base e w sz R none 0 ([] : List α) := ⟨[], rfl, by simp, by simp, World.ownsRow_nil _ _ _ _⟩
theorem Own.slr {base : Nat} {e : TypeId} {w : World} {α : Type} {sz : Nat} {R : List Value → α → Prop} {a : Option Addr} {c : Nat} {xs : List α} (h : Own base e w sz R a c xs) {ok : Nat → Prop} (hok : ∀ b, base ≤ b → ok b) : SlR ok w sz R a c xs := by
 obtain ⟨css, h1, h2, h3, h4⟩ := h
 have h4' := h4
 rcases h4.2 with ⟨hv, hn⟩ | ⟨g, cap, cur, hv, hg, hh, hnc, hm, hs, ht⟩
 ·simp only [Value.slice.injEq] at hv
  obtain ⟨rfl, _, rfl⟩ := hv
  have : xs = [] := List.eq_nil_of_length_eq_zero hn
  subst this
  exact SlR.nil _ _ _ _
 ·simp only [Value.slice.injEq] at hv
  obtain ⟨rfl, _, rfl⟩ := hv
  refine ⟨hnc, hm, by simp, fun i x hx => ?_⟩
  have hi : i < css.length := by rw [h1]; exact (List.getElem?_eq_some_iff.1 hx).1
  have hcs := h2 css[i] (by simp)
  have hb : g < w.heap.size := (Array.getElem?_eq_some_iff.1 hh).1
  refine ⟨g, 0, css[i], rfl, hok _ hg, hb, h3 i x _ hx (by simp [hi]), hcs.1, hcs.2, fun j v hv => ?_⟩
  have := flatten_at (fun cs h => (h2 cs h).1) (i := i) (cs := css[i]) (by simp [hi]) hv
  have hj : i * sz + j < xs.length * sz := by
   have := (List.getElem?_eq_some_iff.1 this).1
   rw [flatten_length fun cs h => (h2 cs h).1, h1] at this
   exact this
  rw [show 0 + i * sz + j = i * sz + j by omega, h4'.cellAt _ hj]
  exact this
theorem Own.mono {base : Nat} {e : TypeId} {w : World} {α : Type} {sz : Nat} {R R' : List Value → α → Prop} {a : Option Addr} {c : Nat} {xs : List α} (h : Own base e w sz R a c xs) (hR : ∀ cs x, R cs x → R' cs x) : Own base e w sz R' a c xs := by
 obtain ⟨css, h1, h2, h3, h4⟩ := h
 exact ⟨css, h1, h2, fun i x cs hx hc => hR _ _ (h3 i x cs hx hc), h4⟩
theorem Own.below {base : Nat} {e : TypeId} {w w' : World} {α : Type} {sz : Nat} {R : List Value → α → Prop} {a : Option Addr} {c : Nat} {xs : List α} (h : Own base e w sz R a c xs) (hk : Below w.heap.size w w') : Own base e w' sz R a c xs := by
 obtain ⟨css, h1, h2, h3, h4⟩ := h
 refine ⟨css, h1, h2, h3, h4.1, ?_⟩
 rcases h4.2 with h | ⟨g, cap, cur, hv, hg, hh, r⟩
 ·exact .inl h
 ·exact .inr ⟨g, cap, cur, hv, hg, by rw [hk.block g (Array.getElem?_eq_some_iff.1 hh).1]; exact hh, r⟩
theorem wpList_app {P : Program} {w : World} {ops : Array Oper} {rest : List Oper} {o : Oper} {A : Act} {Q : Exit → Act → World → Prop} (hgd : o.guard = none) (s x : Operand) (t : TypeId)
  (ho : o.op = .call { callee := .builtin .append, args := #[s, x], argTypes := #[t, t] })
  (e : TypeId) (i : TypeInfo) (z : Value) (sz bytes : Nat) (ht : P.underlying t = some (.slice e)) (hi : P.info? e = some i) (hz : i.zero = some z) (hsize : i.size = sz) (hby : i.bytes = bytes) (hzs : z.cells.size = sz) (hsz : 0 < sz)
  {α : Type} {R : List Value → α → Prop} {base : Nat} {ok : Nat → Prop} {a : Option Addr} {c n : Nat} {xs : List α} (hs : A.eval s = .slice a n c) (hn : n = xs.length) (hO : Own base e w sz R a c xs)
  {b : Option Addr} {m d : Nat} {ys : List α} (hx : A.eval x = .slice b m d) (hm : m = ys.length) (hR : SlR ok w sz R b d ys) (hl : (xs.length + ys.length) * bytes ≤ 140737488355328) (h63 : xs.length + ys.length ≤ maxLen) (hbase : base ≤ w.heap.size)
  (h : ∀ a' c' w', Own base e w' sz R a' c' (xs ++ ys) → w.grownBy w' (a.map (·.block)) → (a' = none → xs = [] ∧ ys = []) → wpList P ops Q rest (A.put o.dst (.slice a' (n + m) c')) w') : wpList P ops Q (o :: rest) A w := by
 subst hn hm
 obtain ⟨css, h1, h2, h3, hown⟩ := hO
 obtain ⟨dss, g1, g2, g3, g4⟩ := hR.all
 have hob : (Value.slice a xs.length c).ownBlock = a.map (·.block) := by cases a <;> rfl
 have hall : ∀ cs ∈ css ++ dss, cs.length = sz ∧ ∀ v ∈ cs, v.oneCell' = true := by
  intro cs hcs
  rcases List.mem_append.1 hcs with hcs | hcs
  ·exact h2 cs hcs
  ·exact g2 cs hcs
 have hRR : ∀ (i : Nat) (x : α) (cs : List Value), (xs ++ ys)[i]? = some x → (css ++ dss)[i]? = some cs → R cs x := by
  intro i x cs hx hc
  by_cases hi : i < xs.length
  ·rw [List.getElem?_append_left hi] at hx
   rw [List.getElem?_append_left (by omega)] at hc
   exact h3 i x cs hx hc
  ·rw [List.getElem?_append_right (by omega)] at hx
   rw [List.getElem?_append_right (by omega), h1] at hc
   exact g3 _ x cs hx hc
 cases b with
 | none =>
  have hd := hR.2.2.1 rfl
  subst hd
  have hys : ys = [] := List.eq_nil_of_length_eq_zero (by have := hR.1; omega)
  subst hys
  have hdss : dss = [] := List.eq_nil_of_length_eq_zero (by simpa using g1)
  subst hdss
  refine wpList_plain hgd fun K hK' => ?_
  have hrun := run_append_owned_none (P := P) (w := w) base t o.type e i sz ht hi _ xs.length css.flatten hown
  unfold Oper.wp
  simp only [List.length_nil] at hx
  simp [execOp, ho, resolve, invoke, builtin, hs, hx, hrun, Result.andThen]
  refine hK' _ _ ?_
  have := h a c w (by rw [List.append_nil]; exact ⟨css, h1, h2, h3, hown⟩) (World.grownBy.refl _ _) (by
   rintro rfl
   rcases hown.2 with ⟨_, hn⟩ | ⟨_, _, _, hv, _⟩
   ·exact ⟨List.eq_nil_of_length_eq_zero hn, rfl⟩
   ·simp at hv)
  simpa using this
 | some ad =>
  have hfl : dss.flatten.length = ys.length * sz := by rw [flatten_length fun cs h => (g2 cs h).1, g1]
  refine wpList_append_own w hgd s x t ho base e i z sz bytes ht hi hz hsize hby hzs hsz _ xs.length css.flatten hs hown ad ys.length d dss.flatten hx hfl ?_ ?_ h63 hl hbase ?_
  ·intro j u hj
   obtain ⟨p, q, cs, rfl, hq, hp, hv⟩ := flatten_inv (fun cs h => (g2 cs h).1) hj
   obtain ⟨b, o, ha, _, _, hc⟩ := g4 p cs hp
   simp only [Option.some.injEq] at ha
   subst ha
   have := hc q u hv
   rw [Addr.add_lit]
   rw [← this]
   congr 2
   omega
  ·intro u hu
   obtain ⟨cs, hcs, huc⟩ := List.mem_flatten.1 hu
   exact (g2 cs hcs).2 u huc
  ·intro v' w' hown' hgr hnil
   rw [hob] at hgr
   have hOwn : ∀ a' c', v' = .slice a' (xs.length + ys.length) c' → Own base e w' sz R a' c' (xs ++ ys) := by
    rintro a' c' rfl
    exact ⟨css ++ dss, by simp [h1, g1], hall, hRR, by simpa using hown'⟩
   rcases hown'.2 with ⟨rfl, hn⟩ | ⟨g, cap, cur, rfl, _⟩
   ·have e1 : xs = [] := List.eq_nil_of_length_eq_zero (by omega)
    have e2 : ys = [] := List.eq_nil_of_length_eq_zero (by omega)
    have := h none 0 w' (hOwn _ _ (by simp [e1, e2])) hgr (fun _ => ⟨e1, e2⟩)
    simpa [e1, e2] using this
   ·exact h _ _ w' (hOwn _ _ rfl) hgr (by simp)
theorem Own.made {base : Nat} {e : TypeId} {w : World} {α : Type} {sz : Nat} {R : List Value → α → Prop} (h : base ≤ w.heap.size) : Own base e (w.alloc (.cells #[] e)) sz R (some ⟨w.heap.size, 0, none⟩) 0 ([] : List α) :=
 ⟨[], rfl, by simp, by simp, World.ownsRow_made _ _ _ h (Nat.zero_le _) (by simp)⟩
theorem SlR.one {ok : Nat → Prop} {w : World} {α : Type} {sz : Nat} {R : List Value → α → Prop} {g : Nat} (cs : List Value) (e : TypeId) (x : α) (hg : g = w.heap.size) (hR : R cs x) (hl : cs.length = sz) (h1 : ∀ v ∈ cs, v.oneCell' = true) (ho : ok w.heap.size) :
  SlR ok (w.alloc (.cells cs.toArray e)) sz R (some ⟨g, 0, none⟩) 1 [x] := by
 subst hg
 refine ⟨Nat.le_refl _, by simp [maxLen], by simp, fun i y hy => ?_⟩
 have hi : i = 0 := by
  have := (List.getElem?_eq_some_iff.1 hy).1
  simp at this; exact this
 subst hi
 simp at hy
 subst hy
 refine ⟨_, _, cs, rfl, ho, by simp, hR, hl, h1, fun j v hv => ?_⟩
 rw [World.cell?_alloc_at _ _ _ _ rfl]
 simpa using hv
theorem Own.le {base base' : Nat} {e : TypeId} {w : World} {α : Type} {sz : Nat} {R : List Value → α → Prop} {a : Option Addr} {c : Nat} {xs : List α} (h : Own base e w sz R a c xs) (hb : base' ≤ base) : Own base' e w sz R a c xs := by
 obtain ⟨css, h1, h2, h3, h4⟩ := h
 refine ⟨css, h1, h2, h3, h4.1, ?_⟩
 rcases h4.2 with h | ⟨g, cap, cur, hv, hg, r⟩
 ·exact .inl h
 ·exact .inr ⟨g, cap, cur, hv, by omega, r⟩
theorem Own.grown {B base : Nat} {e : TypeId} {W w w' : World} {α : Type} {sz : Nat} {R : List Value → α → Prop} {a : Option Addr} {c : Nat} {xs : List α} (hO : Own base e w sz R a c xs) (h : Below B W w) (hg : w.grownBy w' (a.map (·.block))) (hb : B ≤ base) (hs : B ≤ w.heap.size) : Below B W w' := by
 obtain ⟨css, _, _, _, h4⟩ := hO
 refine h.grown hg hs fun k hk => ?_
 have := (h4.lt k (by cases a <;> simp at hk; subst hk; rfl)).1
 omega
def inL {α : Type} [DecidableEq α] : List α → α → Bool
 | [], _ => false
 | x :: l, v => if v = x then true else inL l v
theorem inL_iff {α : Type} [DecidableEq α] (l : List α) (v : α) : inL l v = true ↔ v ∈ l := by
 induction l with
 | nil => simp [inL]
 | cons x l ih =>
  unfold inL
  by_cases h : v = x
  ·simp [h]
  ·rw [if_neg h, ih]; simp [h]
theorem inL_not {α : Type} [DecidableEq α] (l : List α) (v : α) : inL l v = false ↔ v ∉ l := by
 rw [← inL_iff]; cases inL l v <;> simp
theorem drop_at {α : Type} {l : List α} {k : Nat} (h : k < l.length) : l.drop k = l[k] :: l.drop (k + 1) := List.drop_eq_getElem_cons h
theorem inL_hit {α : Type} [DecidableEq α] {l : List α} {v : α} {k : Nat} (h : k < l.length) (e : v = l[k]) : inL (l.drop k) v = true := by rw [drop_at h, inL, if_pos e]
theorem inL_pass {α : Type} [DecidableEq α] {l : List α} {v : α} {k : Nat} (h : k < l.length) (e : ¬ v = l[k]) : inL (l.drop k) v = inL (l.drop (k + 1)) v := by rw [drop_at h, inL, if_neg e]
theorem inL_end {α : Type} [DecidableEq α] {l : List α} {v : α} {k : Nat} (h : ¬ k < l.length) : inL (l.drop k) v = false := by rw [List.drop_of_length_le (by omega)]; rfl
def Says (e : Ending) (b : Bool) : Prop := ∃ n : Int, e = .returned (.int .i64 n) ∧ (b = true → 0 ≤ n) ∧ (b = false → n < 0)
theorem ret_bool {a b : Bool} (h : a = b) : Ending.returned (.bool a) = .returned (.bool b) := by rw [h]
theorem ret_int {k : IntKind} {a b : Int} (h : a = b) : Ending.returned (.int k a) = .returned (.int k b) := by rw [h]
theorem or3 (a0 a1 a2 : Bool) : (a0 = true) ∨ (a0 = false ∧ a1 = true) ∨ (a0 = false ∧ a1 = false ∧ a2 = true) ∨ (a0 = false ∧ a1 = false ∧ a2 = false) := by
 cases a0 <;> cases a1 <;> cases a2 <;> simp
structure Lev where
 c : Int
 l : Int
 deriving DecidableEq
structure Mail where
 host : Int
 thread : Int
 label : List Lev
 grants : List Int
 text : ByteArray
 deriving DecidableEq
structure Cert where
 c : Int
 by_ : Int
 host : Int
 till : Int
 deriving DecidableEq
structure Frame where
 src : Int
 dst : Int
 seq : Int
 ack : Bool
 thread : Int
 mail : Mail
 certs : List Cert
 deriving DecidableEq
structure Sent where
 frame : Frame
 tries : Int
 due : Int
 deriving DecidableEq
structure Eight where
 s0 : Bool
 s1 : Bool
 s2 : Bool
 s3 : Bool
 s4 : Bool
 s5 : Bool
 s6 : Bool
 s7 : Bool
 deriving DecidableEq
structure Line where
 next : Int
 sent : List Sent
 high : Int
 seen : Eight
 deriving DecidableEq
def RInt (cs : List Value) (x : Int) : Prop := cs = [.int .i64 x]
def RLev (cs : List Value) (x : Lev) : Prop := cs = [.int .i64 x.c, .int .i64 x.l]
def RCert (cs : List Value) (x : Cert) : Prop := cs = [.int .i64 x.c, .int .i64 x.by_, .int .i64 x.host, .int .i64 x.till]
def RStr (cs : List Value) (x : ByteArray) : Prop := cs = [.string x]
def RMail (ok : Nat → Prop) (w : World) (cs : List Value) (m : Mail) : Prop :=
 ∃ la lc ga gc, cs = [.int .i64 m.host, .int .i64 m.thread, .slice la m.label.length lc, .slice ga m.grants.length gc, .string m.text] ∧ SlR ok w 2 RLev la lc m.label ∧ SlR ok w 1 RInt ga gc m.grants
def RFrame (ok : Nat → Prop) (w : World) (cs : List Value) (f : Frame) : Prop :=
 ∃ la lc ga gc ca cc, cs = [.int .i64 f.src, .int .i64 f.dst, .int .i64 f.seq, .bool f.ack, .int .i64 f.thread, .int .i64 f.mail.host, .int .i64 f.mail.thread, .slice la f.mail.label.length lc, .slice ga f.mail.grants.length gc, .string f.mail.text, .slice ca f.certs.length cc] ∧
  SlR ok w 2 RLev la lc f.mail.label ∧ SlR ok w 1 RInt ga gc f.mail.grants ∧ SlR ok w 4 RCert ca cc f.certs
def RSent (ok : Nat → Prop) (w : World) (cs : List Value) (s : Sent) : Prop :=
 ∃ la lc ga gc ca cc, cs = [.int .i64 s.frame.src, .int .i64 s.frame.dst, .int .i64 s.frame.seq, .bool s.frame.ack, .int .i64 s.frame.thread, .int .i64 s.frame.mail.host, .int .i64 s.frame.mail.thread, .slice la s.frame.mail.label.length lc, .slice ga s.frame.mail.grants.length gc, .string s.frame.mail.text, .slice ca s.frame.certs.length cc, .int .i64 s.tries, .int .i64 s.due] ∧
  SlR ok w 2 RLev la lc s.frame.mail.label ∧ SlR ok w 1 RInt ga gc s.frame.mail.grants ∧ SlR ok w 4 RCert ca cc s.frame.certs
theorem RMail.keep {ok : Nat → Prop} {w w' : World} (hk : Keeps ok w w') {cs : List Value} {m : Mail} (h : RMail ok w cs m) : RMail ok w' cs m := by
 obtain ⟨la, lc, ga, gc, e, h1, h2⟩ := h
 exact ⟨la, lc, ga, gc, e, h1.keep hk, h2.keep hk⟩
theorem RFrame.keep {ok : Nat → Prop} {w w' : World} (hk : Keeps ok w w') {cs : List Value} {f : Frame} (h : RFrame ok w cs f) : RFrame ok w' cs f := by
 obtain ⟨la, lc, ga, gc, ca, cc, e, h1, h2, h3⟩ := h
 exact ⟨la, lc, ga, gc, ca, cc, e, h1.keep hk, h2.keep hk, h3.keep hk⟩
theorem RSent.keep {ok : Nat → Prop} {w w' : World} (hk : Keeps ok w w') {cs : List Value} {s : Sent} (h : RSent ok w cs s) : RSent ok w' cs s := by
 obtain ⟨la, lc, ga, gc, ca, cc, e, h1, h2, h3⟩ := h
 exact ⟨la, lc, ga, gc, ca, cc, e, h1.keep hk, h2.keep hk, h3.keep hk⟩
abbrev SentR (ok : Nat → Prop) (w : World) (a : Option Addr) (c : Nat) (l : List Sent) : Prop := SlR ok w 13 (RSent ok w) a c l
theorem SentR.keep {ok : Nat → Prop} {w w' : World} {a : Option Addr} {c : Nat} {l : List Sent} (h : SentR ok w a c l) (hk : Keeps ok w w') : SentR ok w' a c l := h.mono hk fun _ _ => RSent.keep hk
theorem SentR.below {ok : Nat → Prop} {w w' : World} {a : Option Addr} {c : Nat} {l : List Sent} (h : SentR ok w a c l) (hk : Below w.heap.size w w') : SentR ok w' a c l := SentR.keep h (.of_below hk)
section
variable {ok : Nat → Prop} {w w' : World} {a : Option Addr} {c : Nat}
theorem SlR.int_at {xs : List Int} (h : SlR ok w 1 RInt a c xs) (i : Nat) (hi : i < xs.length) :
  ∃ b o, a = some ⟨b, o, none⟩ ∧ b < w.heap.size ∧ w.cell? ⟨b, o + i, none⟩ = some (.int .i64 xs[i]) := by
 obtain ⟨b, o, cs, ha, _, hb, rfl, _, _, hc⟩ := h.2.2.2 i xs[i] (by simp [hi])
 exact ⟨b, o, ha, hb, by simpa using hc 0 _ rfl⟩
theorem SlR.lev_at {xs : List Lev} (h : SlR ok w 2 RLev a c xs) (i : Nat) (hi : i < xs.length) :
  ∃ b o, a = some ⟨b, o, none⟩ ∧ b < w.heap.size ∧ w.cell? ⟨b, o + i * 2, none⟩ = some (.int .i64 xs[i].c) ∧ w.cell? ⟨b, o + i * 2 + 1, none⟩ = some (.int .i64 xs[i].l) := by
 obtain ⟨b, o, cs, ha, _, hb, rfl, _, _, hc⟩ := h.2.2.2 i xs[i] (by simp [hi])
 exact ⟨b, o, ha, hb, by simpa using hc 0 _ rfl, by simpa using hc 1 _ rfl⟩
end
theorem SlR.lev_row {ok : Nat → Prop} {w : World} {b o c : Nat} {xs : List Lev} (h : SlR ok w 2 RLev (some ⟨b, o, none⟩) c xs) (i : Nat) (hi : i < xs.length) :
  ∀ (j : Nat) (v : Value), [Value.int .i64 xs[i].c, .int .i64 xs[i].l][j]? = some v → w.cell? ⟨b, o + i * 2 + j, none⟩ = some v := by
 obtain ⟨b', o', cs, ha, _, hb, hr, _, _, hc⟩ := h.2.2.2 i xs[i] (by simp [hi])
 simp only [Option.some.injEq, Addr.mk.injEq, and_true] at ha
 obtain ⟨rfl, rfl⟩ := ha
 unfold RLev at hr
 subst hr
 exact hc
def lAt : List Lev → Int → Int
 | [], _ => 1
 | x :: l, c => if x.c = c then x.l else lAt l c
structure Req where
 kind : Int
 h : Int
 t : Int
 n : Int
 c : Int
 label : List Lev
 grants : List Int
 text : ByteArray
structure Deed where
 kind : Int
 h : Int
 t : Int
 n : Int
 call : Req
def RReq (ok : Nat → Prop) (w : World) (cs : List Value) (x : Req) : Prop :=
 ∃ la lc ga gc, cs = [.int .i64 x.kind, .int .i64 x.h, .int .i64 x.t, .int .i64 x.n, .int .i64 x.c, .slice la x.label.length lc, .slice ga x.grants.length gc, .string x.text] ∧ SlR ok w 2 RLev la lc x.label ∧ SlR ok w 1 RInt ga gc x.grants
def RDeed (ok : Nat → Prop) (w : World) (cs : List Value) (x : Deed) : Prop :=
 ∃ la lc ga gc, cs = [.int .i64 x.kind, .int .i64 x.h, .int .i64 x.t, .int .i64 x.n, .int .i64 x.call.kind, .int .i64 x.call.h, .int .i64 x.call.t, .int .i64 x.call.n, .int .i64 x.call.c, .slice la x.call.label.length lc, .slice ga x.call.grants.length gc, .string x.call.text] ∧ SlR ok w 2 RLev la lc x.call.label ∧ SlR ok w 1 RInt ga gc x.call.grants
/-! ### Lists that rise, each number once -/
def insI (x : Int) : List Int → List Int
 | [] => [x]
 | y :: l => if x < y then x :: y :: l else if x = y then y :: l else y :: insI x l
def uniq (l : List Int) : List Int := l.foldr insI []
abbrev Rising (l : List Int) : Prop := l.Pairwise (·< ·)
theorem insI_mem {x z : Int} {l : List Int} : z ∈ insI x l ↔ z = x ∨ z ∈ l := by
 induction l with
 | nil => simp [insI]
 | cons y l ih =>
  unfold insI
  split
  ·simp
  ·split
   ·rename_i h; subst h; simp
   ·simp only [List.mem_cons, ih]
    constructor
    ·rintro (h | h | h) <;> simp [h]
    ·rintro (h | h | h) <;> simp [h]
theorem insI_rising {x : Int} {l : List Int} (h : Rising l) : Rising (insI x l) := by
 induction l with
 | nil => simp [insI]
 | cons y l ih =>
  unfold insI
  have hy := List.pairwise_cons.1 h
  split
  ·rename_i hxy
   exact List.pairwise_cons.2 ⟨fun z hz => by rcases List.mem_cons.1 hz with rfl | hz; exact hxy; exact Int.lt_trans hxy (hy.1 z hz), h⟩
  ·split
   ·exact h
   ·rename_i h1 h2
    refine List.pairwise_cons.2 ⟨fun z hz => ?_, ih hy.2⟩
    rcases insI_mem.1 hz with rfl | hz
    ·omega
    ·exact hy.1 z hz
theorem uniq_mem {z : Int} {l : List Int} : z ∈ uniq l ↔ z ∈ l := by
 induction l with
 | nil => simp [uniq]
 | cons y l ih => show z ∈ insI y (uniq l) ↔ _; rw [insI_mem, ih, List.mem_cons]
theorem uniq_rising (l : List Int) : Rising (uniq l) := by
 induction l with
 | nil => exact List.Pairwise.nil
 | cons y l ih => exact insI_rising ih
theorem rising_ext {a b : List Int} (ha : Rising a) (hb : Rising b) (h : ∀ z, z ∈ a ↔ z ∈ b) : a = b := by
 induction a generalizing b with
 | nil =>
  cases b with
  | nil => rfl
  | cons y b => have := (h y).2 (by simp); simp at this
 | cons x a ih =>
  cases b with
  | nil => have := (h x).1 (by simp); simp at this
  | cons y b =>
   have ha' := List.pairwise_cons.1 ha
   have hb' := List.pairwise_cons.1 hb
   have hxy : x = y := by
    rcases List.mem_cons.1 ((h x).1 (by simp)) with e | e
    ·exact e
    ·rcases List.mem_cons.1 ((h y).2 (by simp)) with e' | e'
     ·exact e'.symm
     ·have := hb'.1 x e; have := ha'.1 y e'; omega
   subst hxy
   rw [ih ha'.2 hb'.2 fun z => ?_]
   constructor
   ·intro hz
    rcases List.mem_cons.1 ((h z).1 (by simp [hz])) with e | e
    ·have := ha'.1 z hz; omega
    ·exact e
   ·intro hz
    rcases List.mem_cons.1 ((h z).2 (by simp [hz])) with e | e
    ·have := hb'.1 z hz; omega
    ·exact e
theorem uniq_of {a l : List Int} (ha : Rising a) (h : ∀ z, z ∈ a ↔ z ∈ l) : a = uniq l := rising_ext ha (uniq_rising l) fun z => (h z).trans uniq_mem.symm
/-! ### Labels -/
def catsOf (l : List Lev) : List Int := l.map (·.c)
def eachL (a b : List Lev) : List Int := uniq (catsOf a ++ catsOf b)
theorem eachL_mem {a b : List Lev} {z : Int} : z ∈ eachL a b ↔ z ∈ catsOf a ∨ z ∈ catsOf b := by rw [eachL, uniq_mem, List.mem_append]
theorem lAt_not {l : List Lev} {c : Int} (h : c ∉ catsOf l) : lAt l c = 1 := by
 induction l with
 | nil => rfl
 | cons x l ih =>
  simp only [catsOf, List.map_cons, List.mem_cons, not_or] at h
  rw [lAt, if_neg (fun e => h.1 e.symm)]
  exact ih h.2
def flowsFrom (a b : List Lev) (own : List Int) : List Int → Bool
 | [] => true
 | c :: l => if lAt b c < lAt a c then (if inL own c then flowsFrom a b own l else false) else flowsFrom a b own l
def flowsL (a b : List Lev) (own : List Int) : Bool := flowsFrom a b own (eachL a b)
theorem flowsFrom_iff (a b : List Lev) (own : List Int) (l : List Int) : flowsFrom a b own l = true ↔ ∀ c ∈ l, c ∉ own → lAt a c ≤ lAt b c := by
 induction l with
 | nil => simp [flowsFrom]
 | cons c l ih =>
  unfold flowsFrom
  by_cases h : lAt b c < lAt a c
  ·rw [if_pos h]
   by_cases ho : inL own c = true
   ·rw [if_pos ho, ih]
    have := (inL_iff own c).1 ho
    constructor
    ·intro H d hd hn
     rcases List.mem_cons.1 hd with rfl | hd
     ·exact absurd this hn
     ·exact H d hd hn
    ·exact fun H d hd hn => H d (by simp [hd]) hn
   ·rw [if_neg ho]
    simp only [Bool.false_eq_true, false_iff]
    intro H
    have := H c (by simp) (by rwa [← inL_not, Bool.eq_false_iff])
    omega
  ·rw [if_neg h, ih]
   constructor
   ·intro H d hd hn
    rcases List.mem_cons.1 hd with rfl | hd
    ·omega
    ·exact H d hd hn
   ·exact fun H d hd hn => H d (by simp [hd]) hn
def bothFrom (f : Int → Int → Int) (a b : List Lev) : List Int → List Lev
 | [] => []
 | c :: l => if f (lAt a c) (lAt b c) = 1 then bothFrom f a b l else ⟨c, f (lAt a c) (lAt b c)⟩ :: bothFrom f a b l
def bothL (f : Int → Int → Int) (a b : List Lev) : List Lev := bothFrom f a b (eachL a b)
/-! ### Good labels -/
def lvOk (x : Lev) : Bool := decide (0 ≤ x.c ∧ x.c < 80 ∧ 0 ≤ x.l ∧ x.l ≤ 3 ∧ x.l ≠ 1)
def risesL : Int → List Lev → Bool
 | _, [] => true
 | p, x :: l => if p < x.c ∧ lvOk x = true then risesL x.c l else false
def prevC (l : List Lev) (k : Nat) : Int := if h : 0 < k ∧ k ≤ l.length then (l[k - 1]'(by omega)).c else -1
theorem prevC_zero (l : List Lev) : prevC l 0 = -1 := by simp [prevC]
theorem prevC_succ (l : List Lev) (k : Nat) (h : k < l.length) : prevC l (k + 1) = l[k].c := by
 unfold prevC
 rw [dif_pos ⟨by omega, by omega⟩]
 simp
theorem risesL_step (l : List Lev) (k : Nat) (h : k < l.length) : risesL (prevC l k) (l.drop k) = (if prevC l k < l[k].c ∧ lvOk l[k] = true then risesL (prevC l (k + 1)) (l.drop (k + 1)) else false) := by
 rw [List.drop_eq_getElem_cons h, risesL, prevC_succ l k h]
def goodL (l : List Lev) : Bool := if l.length ≤ 8 then risesL (-1) l else false
def Norm (l : List Lev) : Prop := Rising (catsOf l) ∧ ∀ x ∈ l, x.l ≠ 1
theorem lAt_mem {l : List Lev} (h : Rising (catsOf l)) {x : Lev} (hx : x ∈ l) : lAt l x.c = x.l := by
 induction l with
 | nil => simp at hx
 | cons y l ih =>
  have h' := List.pairwise_cons.1 (show (y.c :: catsOf l).Pairwise (·< ·) from h)
  rcases List.mem_cons.1 hx with rfl | hx
  ·rw [lAt, if_pos rfl]
  ·have := h'.1 x.c (List.mem_map.2 ⟨x, hx, rfl⟩)
   rw [lAt, if_neg (by omega)]
   exact ih h'.2 hx
theorem norm_mem {l : List Lev} (h : Norm l) (c : Int) : c ∈ catsOf l ↔ lAt l c ≠ 1 := by
 constructor
 ·intro hc
  obtain ⟨x, hx, rfl⟩ := List.mem_map.1 hc
  rw [lAt_mem h.1 hx]
  exact h.2 x hx
 ·intro hc
  apply Classical.byContradiction
  exact fun hn => hc (lAt_not hn)
theorem norm_map {l : List Lev} (h : Rising (catsOf l)) : (catsOf l).map (fun c => (⟨c, lAt l c⟩ : Lev)) = l := by
 unfold catsOf
 rw [List.map_map]
 have : l.map ((fun c => (⟨c, lAt l c⟩ : Lev)) ∘ fun x => x.c) = l.map id := List.map_congr_left fun x hx => by
  simp only [Function.comp, id]
  rw [lAt_mem h hx]
 rw [this, List.map_id]
theorem norm_ext {a b : List Lev} (ha : Norm a) (hb : Norm b) (h : ∀ c, lAt a c = lAt b c) : a = b := by
 have e : catsOf a = catsOf b := rising_ext ha.1 hb.1 fun z => by rw [norm_mem ha, norm_mem hb, h]
 rw [← norm_map ha.1, ← norm_map hb.1, e]
 exact List.map_congr_left fun c _ => by rw [h]
theorem risesL_iff (l : List Lev) (p : Int) : risesL p l = true ↔ (∀ x ∈ l, p < x.c ∧ lvOk x = true) ∧ Rising (catsOf l) := by
 induction l generalizing p with
 | nil => simp [risesL, catsOf]
 | cons x l ih =>
  unfold risesL
  have hc : Rising (catsOf (x :: l)) ↔ (∀ z ∈ catsOf l, x.c < z) ∧ Rising (catsOf l) := List.pairwise_cons
  split
  ·rename_i h
   rw [ih, hc]
   constructor
   ·rintro ⟨h1, h2⟩
    refine ⟨fun y hy => ?_, fun z hz => ?_, h2⟩
    ·rcases List.mem_cons.1 hy with rfl | hy
     ·exact h
     ·exact ⟨by have := (h1 y hy).1; omega, (h1 y hy).2⟩
    ·obtain ⟨y, hy, rfl⟩ := List.mem_map.1 hz
     exact (h1 y hy).1
   ·rintro ⟨h1, h2, h3⟩
    exact ⟨fun y hy => ⟨h2 _ (List.mem_map.2 ⟨y, hy, rfl⟩), (h1 y (List.mem_cons_of_mem _ hy)).2⟩, h3⟩
  ·rename_i h
   simp only [Bool.false_eq_true, false_iff]
   rintro ⟨h1, _⟩
   exact h (h1 x (List.mem_cons_self ..))
theorem lvOk_iff (x : Lev) : lvOk x = true ↔ 0 ≤ x.c ∧ x.c < 80 ∧ 0 ≤ x.l ∧ x.l ≤ 3 ∧ x.l ≠ 1 := by simp only [lvOk, decide_eq_true_eq]
theorem goodL_iff (l : List Lev) : goodL l = true ↔ l.length ≤ 8 ∧ (∀ x ∈ l, lvOk x = true) ∧ Rising (catsOf l) := by
 unfold goodL
 split
 ·rename_i h
  rw [risesL_iff]
  constructor
  ·exact fun H => ⟨h, fun x hx => (H.1 x hx).2, H.2⟩
  ·exact fun H => ⟨fun x hx => ⟨by have := (lvOk_iff x).1 (H.2.1 x hx); omega, H.2.1 x hx⟩, H.2.2⟩
 ·rename_i h
  simp [h]
theorem good_norm {l : List Lev} (h : goodL l = true) : Norm l := by
 obtain ⟨_, h2, h3⟩ := (goodL_iff l).1 h
 exact ⟨h3, fun x hx => by have := (lvOk_iff x).1 (h2 x hx); omega⟩
def setL (l : List Lev) (c n : Int) : List Lev := l.filter (fun x => decide (x.c < c)) ++ ((if n = 1 then [] else [⟨c, n⟩]) ++ l.filter (fun x => decide (c < x.c)))
def setR (l : List Lev) (c n : Int) : List Lev × Int :=
 if goodL l = true ∧ (0 ≤ c ∧ c < 80) ∧ 0 ≤ n ∧ n ≤ 3 then (if (setL l c n).length ≤ 8 then (setL l c n, 0) else ([], 5)) else ([], 2)
theorem lAt_filter (p : Int → Bool) (l : List Lev) (d : Int) : lAt (l.filter fun x => p x.c) d = if p d = true then lAt l d else 1 := by
 induction l with
 | nil => simp [lAt]
 | cons x l ih =>
  rw [List.filter_cons]
  by_cases hx : p x.c = true
  ·rw [if_pos hx]
   by_cases hd : x.c = d
   ·subst hd; rw [lAt, if_pos rfl, if_pos hx, lAt, if_pos rfl]
   ·rw [lAt, if_neg hd, ih]; split
    ·rw [lAt, if_neg hd]
    ·rfl
  ·rw [if_neg hx, ih]
   by_cases hd : x.c = d
   ·subst hd; rw [if_neg hx, if_neg hx]
   ·split
    ·rw [lAt, if_neg hd]
    ·rfl
theorem lAt_append (x y : List Lev) (d : Int) : lAt (x ++ y) d = if d ∈ catsOf x then lAt x d else lAt y d := by
 induction x with
 | nil => simp [catsOf]
 | cons z x ih =>
  simp only [List.cons_append, lAt, catsOf, List.map_cons, List.mem_cons]
  by_cases hd : z.c = d
  ·simp [hd]
  ·have : ¬ d = z.c := fun e => hd e.symm
   simp only [if_neg hd, this, false_or]
   exact ih
theorem filter_cats {p : Int → Bool} {l : List Lev} {d : Int} (h : d ∈ catsOf (l.filter fun x => p x.c)) : p d = true := by
 obtain ⟨x, hx, rfl⟩ := List.mem_map.1 h
 exact (List.mem_filter.1 hx).2
theorem lAt_set (l : List Lev) (c n d : Int) : lAt (setL l c n) d = if d = c then n else lAt l d := by
 unfold setL
 rw [lAt_append]
 have hf1 := lAt_filter (fun x => decide (x < c)) l d
 have hf2 := lAt_filter (fun x => decide (c < x)) l d
 simp only [decide_eq_true_eq] at hf1 hf2
 by_cases hm : d ∈ catsOf (l.filter fun x => decide (x.c < c))
 ·have hlt := filter_cats (p := fun x => decide (x < c)) hm
  simp only [decide_eq_true_eq] at hlt
  rw [if_pos hm, if_neg (by omega), hf1, if_pos hlt]
 ·rw [if_neg hm]
  by_cases hdc : d = c
  ·subst hdc
   rw [if_pos rfl]
   split
   ·rename_i h; subst h
    rw [List.nil_append, hf2, if_neg (by omega)]
   ·simp [lAt]
  ·rw [if_neg hdc]
   have e : lAt ((if n = 1 then [] else [⟨c, n⟩]) ++ l.filter fun x => decide (c < x.c)) d = lAt (l.filter fun x => decide (c < x.c)) d := by
    split
    ·rfl
    ·simp only [List.cons_append, List.nil_append, lAt]; rw [if_neg (fun e => hdc e.symm)]
   rw [e, hf2]
   by_cases hlt : c < d
   ·rw [if_pos hlt]
   ·rw [if_neg hlt]
    have h1 := lAt_not hm
    rw [hf1, if_pos (by omega)] at h1
    exact h1.symm
theorem cats_filter_sub (p : Lev → Bool) (l : List Lev) : (catsOf (l.filter p)).Sublist (catsOf l) := List.Sublist.map _ List.filter_sublist
theorem set_rising {l : List Lev} (h : Rising (catsOf l)) (c n : Int) : Rising (catsOf (setL l c n)) := by
 unfold setL
 have e : ∀ x y : List Lev, catsOf (x ++ y) = catsOf x ++ catsOf y := fun x y => List.map_append
 have h1 := List.Pairwise.sublist (cats_filter_sub (fun x => decide (x.c < c)) l) h
 have h2 := List.Pairwise.sublist (cats_filter_sub (fun x => decide (c < x.c)) l) h
 have m1 : ∀ d ∈ catsOf (l.filter fun x => decide (x.c < c)), d < c := fun d hd => by simpa using filter_cats (p := fun x => decide (x < c)) hd
 have m2 : ∀ d ∈ catsOf (l.filter fun x => decide (c < x.c)), c < d := fun d hd => by simpa using filter_cats (p := fun x => decide (c < x)) hd
 rw [e, e]
 split
 ·refine List.pairwise_append.2 ⟨h1, by simpa [catsOf] using h2, fun a ha b hb => ?_⟩
  have := m1 a ha; have := m2 b (by simpa [catsOf] using hb); omega
 ·refine List.pairwise_append.2 ⟨h1, ?_, fun a ha b hb => ?_⟩
  ·exact List.pairwise_cons.2 ⟨fun d hd => m2 d (by simpa [catsOf] using hd), by simpa [catsOf] using h2⟩
  ·have := m1 a ha
   rcases List.mem_append.1 hb with hb | hb
   ·simp [catsOf] at hb; omega
   ·have := m2 b hb; omega
theorem set_lv {l : List Lev} (h : ∀ x ∈ l, lvOk x = true) {c n : Int} (hc : 0 ≤ c ∧ c < 80) (hn : 0 ≤ n ∧ n ≤ 3) : ∀ x ∈ setL l c n, lvOk x = true := by
 intro x hx
 unfold setL at hx
 rcases List.mem_append.1 hx with hx | hx
 ·exact h x (List.mem_filter.1 hx).1
 ·rcases List.mem_append.1 hx with hx | hx
  ·split at hx
   ·simp at hx
   ·rename_i hn1
    simp only [List.mem_singleton] at hx
    subst hx
    exact (lvOk_iff _).2 ⟨hc.1, hc.2, hn.1, hn.2, hn1⟩
  ·exact h x (List.mem_filter.1 hx).1
theorem set_good {l : List Lev} (h : goodL l = true) {c n : Int} (hc : 0 ≤ c ∧ c < 80) (hn : 0 ≤ n ∧ n ≤ 3) (h8 : (setL l c n).length ≤ 8) : goodL (setL l c n) = true := by
 obtain ⟨_, h2, h3⟩ := (goodL_iff l).1 h
 exact (goodL_iff _).2 ⟨h8, set_lv h2 hc hn, set_rising h3 c n⟩
theorem lv_norm {l : List Lev} (h2 : ∀ x ∈ l, lvOk x = true) (h3 : Rising (catsOf l)) : Norm l := ⟨h3, fun x hx => by have := (lvOk_iff x).1 (h2 x hx); omega⟩
theorem set_norm {l : List Lev} (h : goodL l = true) {c n : Int} (hc : 0 ≤ c ∧ c < 80) (hn : 0 ≤ n ∧ n ≤ 3) : Norm (setL l c n) := by
 obtain ⟨_, h2, h3⟩ := (goodL_iff l).1 h
 exact lv_norm (set_lv h2 hc hn) (set_rising h3 c n)
theorem setR_cases (l : List Lev) (c n : Int) : (∃ k, setR l c n = ([], k) ∧ k ≠ 0) ∨ (setR l c n = (setL l c n, 0) ∧ goodL l = true ∧ (0 ≤ c ∧ c < 80) ∧ (0 ≤ n ∧ n ≤ 3) ∧ (setL l c n).length ≤ 8) := by
 unfold setR
 split
 ·rename_i h
  split
  ·rename_i h8
   exact .inr ⟨rfl, h.1, h.2.1, h.2.2, h8⟩
  ·exact .inl ⟨5, rfl, by decide⟩
 ·exact .inl ⟨2, rfl, by decide⟩
def four (h : Int) : Bool := decide (0 ≤ h ∧ h < 4)
def catOk (c : Int) : Bool := decide (0 ≤ c ∧ c < 80)
theorem four_iff (h : Int) : four h = true ↔ 0 ≤ h ∧ h < 4 := by simp [four]
theorem catOk_iff (h : Int) : catOk h = true ↔ 0 ≤ h ∧ h < 80 := by simp [catOk]
def goodCertB (c : Cert) : Bool := catOk c.c && four c.by_ && four c.host && (c.by_ != c.host) && decide (0 ≤ c.till) && decide (c.till ≤ 1099511627776)
def risesI : Int → List Int → Bool
 | _, [] => true
 | p, x :: l => if p < x ∧ catOk x = true then risesI x l else false
def prevI (l : List Int) (k : Nat) : Int := if h : 0 < k ∧ k ≤ l.length then l[k - 1]'(by omega) else -1
theorem prevI_zero (l : List Int) : prevI l 0 = -1 := by simp [prevI]
theorem prevI_succ (l : List Int) (k : Nat) (h : k < l.length) : prevI l (k + 1) = l[k] := by
 unfold prevI
 rw [dif_pos ⟨by omega, by omega⟩]
 simp
theorem prevI_pos (l : List Int) (k : Nat) (h : k < l.length) (h0 : 0 < k) : prevI l k = l[k - 1]'(by omega) := by
 unfold prevI
 rw [dif_pos ⟨h0, by omega⟩]
theorem risesI_step (l : List Int) (k : Nat) (h : k < l.length) : risesI (prevI l k) (l.drop k) = (if prevI l k < l[k] ∧ catOk l[k] = true then risesI (prevI l (k + 1)) (l.drop (k + 1)) else false) := by
 rw [List.drop_eq_getElem_cons h, risesI, prevI_succ l k h]
def risingB (l : List Int) (most : Int) : Bool := risesI (-1) l && decide ((l.length : Int) ≤ most)
def goodMailC (m : Mail) : Int :=
 if (four m.host && four m.thread && goodL m.label && risingB m.grants 8) = true then (if 64 < m.text.size then 9 else 0) else 2
def frameRange (f : Frame) : Bool := four f.src && four f.dst && (f.src != f.dst) && decide (1 ≤ f.seq) && decide (f.seq ≤ 1099511627776) && four f.thread
def ackPlain (f : Frame) : Bool := (f.thread == 0) && (f.mail.host == 0) && (f.mail.thread == 0) && decide (f.mail.label.length + f.mail.grants.length + f.mail.text.size + f.certs.length = 0)
def ackC (f : Frame) : Int := if ackPlain f = true then 0 else 1
def certsC (f : Frame) : Int := if f.certs.all goodCertB = true then 0 else 2
def goodFrameC (f : Frame) : Int :=
 if frameRange f = true then
  if f.ack = true then ackC f
  else if goodMailC f.mail ≠ 0 then goodMailC f.mail
  else if f.mail.host ≠ f.src then 1
  else if 24 < f.certs.length then 5
  else certsC f
 else 2
theorem chain4 (a b c d : Bool) : a = false ∨ (a = true ∧ b = false) ∨ (a = true ∧ b = true ∧ c = false) ∨ (a = true ∧ b = true ∧ c = true ∧ d = false) ∨ (a = true ∧ b = true ∧ c = true ∧ d = true) := by
 cases a <;> cases b <;> cases c <;> cases d <;> simp
structure KObj where
 label : List Lev
 text : ByteArray
 deriving DecidableEq
structure Thr where
 label : List Lev
 own : List Int
 text : ByteArray
 objects : List KObj
 mails : List Mail
 deriving DecidableEq
structure Ker where
 host : Int
 threads : List Thr
 made : Int
structure Rep where
 code : Int
 n : Int
 text : ByteArray
 deriving DecidableEq
def zeroT : Thr := ⟨[], [], ⟨#[]⟩, [], []⟩
def newK (h : Int) : Ker := ⟨h, [zeroT, zeroT, zeroT, zeroT], 0⟩
def lastB (s : ByteArray) : ByteArray := s.extract (s.size - 64) s.size
def knowT (a b : ByteArray) : ByteArray := lastB (a ++ b)
def ownC (l : List Int) (c : Int) : List Int × Int := if c ∈ l then (l, 0) else if 8 ≤ l.length then (l, 5) else (insI c l, 0)
def ownAll : List Int → List Int → List Int
 | l, [] => l
 | l, g :: gs => if (ownC l g).2 = 0 then ownAll (ownC l g).1 gs else l
def takeM (label : List Lev) (own : List Int) : List Mail → Option Mail × List Mail
 | [] => (none, [])
 | m :: l => if flowsL m.label label own = true then (some m, l) else takeM label own l
def errR (e : Int) : Rep := ⟨e, 0, ⟨#[]⟩⟩
def Ker.thr (k : Ker) (t : Int) : Thr := k.threads.getD t.toNat zeroT
def Ker.put (k : Ker) (t : Int) (x : Thr) : Ker := { k with threads := k.threads.set t.toNat x }
def Ker.obj (k : Ker) (t n : Int) : Option KObj := if four t = true ∧ 0 ≤ n then (k.thr t).objects[n.toNat]? else none
def Thr.putObj (x : Thr) (n : Int) (o : KObj) : Thr := { x with objects := x.objects.set n.toNat o }
def takeX (x : Thr) : Thr × Rep :=
 match takeM x.label x.own x.mails with
 | (none, l) => ({ x with mails := l }, errR 4)
 | (some m, l) => ({ x with mails := l, text := knowT x.text m.text, own := ownAll x.own m.grants }, ⟨0, m.host * 4 + m.thread, ⟨#[]⟩⟩)
theorem takeX_same (x : Thr) : (takeX x).1.label = x.label ∧ (takeX x).1.objects = x.objects := by
 unfold takeX
 split <;> exact ⟨rfl, rfl⟩
def takeK (k : Ker) (t : Int) : Ker × Rep := (k.put t (takeX (k.thr t)).1, (takeX (k.thr t)).2)
def callK (k : Ker) (t : Int) (c : Req) : Ker × Rep :=
 let x := k.thr t
 if c.kind = 1 then
  if 20 ≤ k.made then (k, errR 5)
  else if (ownC x.own (k.host * 20 + k.made)).2 ≠ 0 then (k, errR 5)
  else ({ k.put t { x with own := (ownC x.own (k.host * 20 + k.made)).1 } with made := k.made + 1 }, ⟨0, k.host * 20 + k.made, ⟨#[]⟩⟩)
 else if c.kind = 2 then
  if goodL c.label = false then (k, errR 2)
  else if flowsL x.label c.label x.own = false then (k, errR 6)
  else if 4 ≤ x.objects.length then (k, errR 5)
  else (k.put t { x with objects := x.objects ++ [⟨c.label, ⟨#[]⟩⟩] }, ⟨0, x.objects.length, ⟨#[]⟩⟩)
 else if c.kind = 3 then
  match k.obj c.t c.n with
  | none => (k, errR 0)
  | some o => if flowsL x.label o.label x.own = true then (k.put c.t ((k.thr c.t).putObj c.n ⟨o.label, knowT x.text c.text⟩), errR 0) else (k, errR 0)
 else if c.kind = 4 then
  match k.obj c.t c.n with
  | none => (k, errR 4)
  | some o => if flowsL o.label x.label x.own = true then (k.put t { x with text := knowT x.text o.text }, ⟨0, o.text.size, ⟨#[]⟩⟩) else (k, errR 4)
 else if c.kind = 5 then
  if (setR x.label c.c c.n).2 ≠ 0 then (k, errR (setR x.label c.c c.n).2)
  else if flowsL x.label (setR x.label c.c c.n).1 x.own = false then (k, errR 6)
  else (k.put t { x with label := (setR x.label c.c c.n).1 }, errR 0)
 else if c.kind = 7 then takeK k t
 else if c.kind = 9 then (k.put t { x with text := c.text }, errR 0)
 else if c.kind = 10 then (k, ⟨0, 0, x.text⟩)
 else (k, errR 3)
def stepC (k : Ker) (t : Int) (c : Req) : Ker × Rep :=
 if four t = false then (k, errR 4) else if 64 < c.text.size then (k, errR 9) else callK k t c
def deliverK (k : Ker) (t : Int) (m : Mail) : Ker :=
 if four t = false then k else if goodMailC m ≠ 0 then k
 else if flowsL m.label (k.thr t).label (k.thr t).own = true ∧ (k.thr t).mails.length < 6 then k.put t { k.thr t with mails := (k.thr t).mails ++ [m] } else k
def zeroM : Mail := ⟨0, 0, [], [], ⟨#[]⟩⟩
def letterM (k : Ker) (t : Int) (c : Req) : Mail := ⟨k.host, t, c.label, c.grants, knowT (k.thr t).text c.text⟩
def letterK (k : Ker) (t : Int) (c : Req) : Mail × Int :=
 if four t = false then (zeroM, 4) else
 if goodMailC (letterM k t c) ≠ 0 then (zeroM, goodMailC (letterM k t c))
 else if ¬ (∀ g ∈ c.grants, g ∈ (k.thr t).own) then (zeroM, 7)
 else if flowsL (k.thr t).label c.label (k.thr t).own = false then (zeroM, 6)
 else (letterM k t c, 0)
theorem goodL_len {l : List Lev} (h : goodL l = true) : l.length ≤ 8 := by
 unfold goodL at h
 by_cases h8 : l.length ≤ 8
 ·exact h8
 ·rw [if_neg h8] at h; simp at h
structure Thr.ok (x : Thr) : Prop where
 good : goodL x.label = true
 own : Rising x.own
 ownL : x.own.length ≤ 8
 text : x.text.size ≤ 64
 objs : x.objects.length ≤ 4
 obj : ∀ o ∈ x.objects, goodL o.label = true ∧ o.text.size ≤ 64
 mailN : x.mails.length ≤ 6
 mail : ∀ m ∈ x.mails, goodMailC m = 0
structure Ker.ok (k : Ker) : Prop where
 host : 0 ≤ k.host ∧ k.host < 4
 four : k.threads.length = 4
 made : 0 ≤ k.made ∧ k.made ≤ 20
 thr : ∀ x ∈ k.threads, x.ok
theorem wpList_wanted {P : Program} {w : World} {ops : Array Oper} {rest : List Oper} {o : Oper} {A : Act} {Q : Exit → Act → World → Prop} (hg : Region.wanted o (yielded ops A.tmps) = true)
  (h : ∀ K : Act → World → Prop, (∀ a w, wpList P ops Q rest a w → K a w) → o.wp P A w K Q) : wpList P ops Q (o :: rest) A w :=
 wpList_step fun K hK => by simp only [hg, if_true]; exact h K hK
/-! Each stands only at one kind of operation: an arm that begins with it ('with_reducible refine at_.. ?_') falls fast elsewhere. -/
theorem at_store {P : Program} {ops : Array Oper} {Q : Exit → Act → World → Prop} {rest : List Oper} {A : Act} {w : World} {d : Option Tmp} {ty : TypeId} {p : String} {af : Array Edge} {g : Option (Nat × Bool)} {x y : Operand} (T : TypeId)
  (h : wpList P ops Q (⟨d, .store T x y, ty, p, af, g⟩ :: rest) A w) : wpList P ops Q (⟨d, .store T x y, ty, p, af, g⟩ :: rest) A w := h
theorem at_load {P : Program} {ops : Array Oper} {Q : Exit → Act → World → Prop} {rest : List Oper} {A : Act} {w : World} {d : Option Tmp} {ty : TypeId} {p : String} {af : Array Edge} {g : Option (Nat × Bool)} {x : Operand} (T : TypeId)
  (h : wpList P ops Q (⟨d, .load T x, ty, p, af, g⟩ :: rest) A w) : wpList P ops Q (⟨d, .load T x, ty, p, af, g⟩ :: rest) A w := h
theorem at_alloc {P : Program} {ops : Array Oper} {Q : Exit → Act → World → Prop} {rest : List Oper} {A : Act} {w : World} {d : Option Tmp} {ty : TypeId} {p : String} {af : Array Edge} {g : Option (Nat × Bool)} (T : TypeId)
  (h : wpList P ops Q (⟨d, .alloc T, ty, p, af, g⟩ :: rest) A w) : wpList P ops Q (⟨d, .alloc T, ty, p, af, g⟩ :: rest) A w := h
theorem at_build1 {P : Program} {ops : Array Oper} {Q : Exit → Act → World → Prop} {rest : List Oper} {A : Act} {w : World} {d : Option Tmp} {ty : TypeId} {p : String} {af : Array Edge} {g : Option (Nat × Bool)} {x : Operand} (T : TypeId)
  (h : wpList P ops Q (⟨d, .buildSlice T 1 #[(0, x)], ty, p, af, g⟩ :: rest) A w) : wpList P ops Q (⟨d, .buildSlice T 1 #[(0, x)], ty, p, af, g⟩ :: rest) A w := h
theorem wanted_none {o : Oper} {y : Nat → Option Bool} (h : o.guard = none) : Region.wanted o y = true := by simp [Region.wanted, h]
theorem wanted_some {o : Oper} {y : Nat → Option Bool} {g : Nat} {b : Bool} (h : o.guard = some (g, b)) (hy : y g = some b) : Region.wanted o y = true := by simp [Region.wanted, h, hy]
/-! Short names of what the walks' rewriting uses at every step. -/
theorem kP (a : Act) (d : Option Tmp) (v : Value) : a.put d v = match d with
  | some d => { a with tmps := a.tmps.setIfInBounds d v }
  | none => a := rfl
theorem kA {α : Type} (l : List α) (i : Nat) (a : α) : l.toArray.setIfInBounds i a = (l.set i a).toArray := List.setIfInBounds_toArray l i a
theorem kS {α : Type} (x : α) (l : List α) (n : Nat) (a : α) : (x :: l).set (n + 1) a = x :: l.set n a := rfl
theorem kZ {α : Type} (x : α) (l : List α) (a : α) : (x :: l).set 0 a = a :: l := rfl
abbrev Blks := List (Nat × TypeId × List Value)
structure St (M : List Nat) (w0 w : World) (own : Blks) : Prop where
 os : w.os = w0.os
 tape : w.tape = w0.tape
 output : w.output = w0.output
 size : w0.heap.size ≤ w.heap.size
 frame : ∀ b, b < w0.heap.size → b ∉ M → w.heap[b]? = w0.heap[b]?
 blk : ∀ x ∈ own, w.heap[x.1]? = some (.cells x.2.2.toArray x.2.1 (0, 0))
 mine : ∀ x ∈ own, x.1 ∈ M ∨ w0.heap.size ≤ x.1
 ne : own.Pairwise (fun x y => x.1 ≠ y.1)
theorem St.start (w : World) : St [] w w [] := ⟨rfl, rfl, rfl, Nat.le_refl _, fun _ _ _ => rfl, by simp, by simp, by simp⟩
theorem St.below {w0 w : World} {own : Blks} (h : St [] w0 w own) : Below w0.heap.size w0 w := ⟨h.os, h.tape, h.output, h.size, fun k hk => h.frame k hk (by simp)⟩
theorem St.lt {M : List Nat} {w0 w : World} {own : Blks} (h : St M w0 w own) {x : Nat × TypeId × List Value} (hx : x ∈ own) : x.1 < w.heap.size := (Array.getElem?_eq_some_iff.1 (h.blk x hx)).1
theorem St.ltAt {M : List Nat} {w0 w : World} {own : Blks} (h : St M w0 w own) {i g : Nat} {T : TypeId} {cs : List Value} (hi : own[i]? = some (g, T, cs)) : g < w.heap.size := h.lt (mgE hi)
theorem St.call {M : List Nat} {w0 w w' : World} {own : Blks} (h : St M w0 w own) (hb : Below w.heap.size w w') : St M w0 w' own :=
 ⟨hb.os.trans h.os, hb.tape.trans h.tape, hb.output.trans h.output, Nat.le_trans h.size hb.size, fun b hb' hM => (hb.block b (Nat.lt_of_lt_of_le hb' h.size)).trans (h.frame b hb' hM),
  fun x hx => (hb.block x.1 (h.lt hx)).trans (h.blk x hx), h.mine, h.ne⟩
theorem St.drewN {M : List Nat} {w0 w : World} {own : Blks} (h : St M w0 w own) (n : Nat) : St M w0 (w.drewN n) own := h.call ((Below.refl _ _).drewN n)
theorem St.drew {M : List Nat} {w0 w : World} {own : Blks} (h : St M w0 w own) : St M w0 w.drew own := h.call (Below.refl _ _).drew
theorem St.new {M : List Nat} {w0 w : World} {own : Blks} (h : St M w0 w own) (T : TypeId) (cs : List Value) : St M w0 (w.alloc (.cells cs.toArray T)) (own ++ [(w.heap.size, T, cs)]) := by
 have hc := h.call ((Below.refl w.heap.size w).alloc (Nat.le_refl _) (.cells cs.toArray T))
 refine ⟨hc.os, hc.tape, hc.output, hc.size, hc.frame, ?_, ?_, ?_⟩
 ·intro x hx
  rcases List.mem_append.1 hx with hx | hx
  ·exact hc.blk x hx
  ·simp at hx; subst hx; exact heap_alloc_new w _
 ·intro x hx
  rcases List.mem_append.1 hx with hx | hx
  ·exact h.mine x hx
  ·simp at hx; subst hx; exact .inr h.size
 ·refine List.pairwise_append.2 ⟨h.ne, by simp, fun x hx y hy => ?_⟩
  simp at hy; subst hy
  have := h.lt hx
  exact Nat.ne_of_lt this
def putL : List Value → Nat → List Value → List Value
 | [], _, _ => []
 | c :: cs, 0, [] => c :: cs
 | _ :: cs, 0, v :: vs => v :: putL cs 0 vs
 | c :: cs, o + 1, vs => c :: putL cs o vs
theorem putL_length (cs : List Value) (o : Nat) (vs : List Value) : (putL cs o vs).length = cs.length := by
 induction cs generalizing o vs with
 | nil => simp [putL]
 | cons c cs ih =>
  cases o with
  | zero => cases vs with
   | nil => simp [putL]
   | cons v vs => simp [putL, ih]
  | succ o => simp [putL, ih]
theorem putL_cons (cs : List Value) (o : Nat) (v : Value) (vs : List Value) : putL cs o (v :: vs) = putL (cs.set o v) (o + 1) vs := by
 induction cs generalizing o with
 | nil => simp [putL]
 | cons c cs ih =>
  cases o with
  | zero => simp [putL]
  | succ o => simp only [putL, List.set_cons_succ]; rw [ih]
theorem putL_nil (cs : List Value) (o : Nat) : putL cs o [] = cs := by
 induction cs generalizing o with
 | nil => simp [putL]
 | cons c cs ih => cases o <;> simp [putL, ih]
theorem setCells_block {w : World} {g : Nat} {T : TypeId} : ∀ (vs : List Value) (o : Nat) (cs : List Value), w.heap[g]? = some (.cells cs.toArray T (0, 0)) →
  (w.setCells g o vs).heap[g]? = some (.cells (putL cs o vs).toArray T (0, 0)) ∧ (∀ b, b ≠ g → (w.setCells g o vs).heap[b]? = w.heap[b]?) ∧ (w.setCells g o vs).heap.size = w.heap.size ∧
   (w.setCells g o vs).os = w.os ∧ (w.setCells g o vs).tape = w.tape ∧ (w.setCells g o vs).output = w.output := by
 intro vs
 induction vs generalizing w with
 | nil => intro o cs h; rw [putL_nil]; exact ⟨h, fun _ _ => rfl, rfl, rfl, rfl, rfl⟩
 | cons v vs ih =>
  intro o cs h
  have h1 := heap_setCell_same w g o cs.toArray T v h
  have h1' : (w.setCell ⟨g, o, none⟩ v).heap[g]? = some (.cells (cs.set o v).toArray T (0, 0)) := by rw [h1]; simp
  obtain ⟨a1, a2, a3, a4, a5, a6⟩ := ih (w := w.setCell ⟨g, o, none⟩ v) (o + 1) (cs.set o v) h1'
  rw [putL_cons]
  refine ⟨a1, fun b hb => (a2 b hb).trans (heap_setCell_other w ⟨g, o, none⟩ b v hb), a3.trans (by simp [World.setCell]), a4, a5, a6⟩
theorem St.put {M : List Nat} {w0 w w' : World} {own : Blks} (h : St M w0 w own) {i g : Nat} {T : TypeId} {cs cs' : List Value} (hi : own[i]? = some (g, T, cs))
  (h1 : w'.heap[g]? = some (.cells cs'.toArray T (0, 0))) (h2 : ∀ b, b ≠ g → w'.heap[b]? = w.heap[b]?) (h3 : w'.heap.size = w.heap.size) (h4 : w'.os = w.os) (h5 : w'.tape = w.tape) (h6 : w'.output = w.output) :
  St M w0 w' (own.set i (g, T, cs')) := by
 have hin : (g, T, cs) ∈ own := mgE hi
 have hilt : i < own.length := (gEs hi).1
 have hget : own[i] = (g, T, cs) := (gEs hi).2
 have hids : (own.set i (g, T, cs')).map (·.1) = own.map (·.1) := by
  apply List.ext_getElem?
  intro j
  simp only [List.getElem?_map, List.getElem?_set]
  by_cases hj : i = j
  ·subst hj; simp [hilt, hget]
  ·simp [hj]
 refine ⟨h4.trans h.os, h5.trans h.tape, h6.trans h.output, by rw [h3]; exact h.size, ?_, ?_, ?_, ?_⟩
 ·intro b hb hM
  have hbg : b ≠ g := by
   rintro rfl
   rcases h.mine _ hin with hm | hm
   ·exact hM hm
   ·simp at hm; omega
  rw [h2 b hbg]; exact h.frame b hb hM
 ·intro x hx
  obtain ⟨j, hj⟩ := List.mem_iff_getElem?.1 hx
  rw [List.getElem?_set] at hj
  by_cases hij : i = j
  ·subst hij; simp [hilt] at hj; subst hj; exact h1
  ·rw [if_neg hij] at hj
   have hxin := mgE hj
   have hne : x.1 ≠ g := by
    have hp := List.pairwise_iff_getElem.1 h.ne
    have hjl := (gEs hj).1
    have hjx := (gEs hj).2
    rcases Nat.lt_or_gt_of_ne hij with hlt | hlt
    ·have := hp i j hilt hjl hlt; rw [hget, hjx] at this; exact fun e => this e.symm
    ·have := hp j i hjl hilt hlt; rw [hget, hjx] at this; exact this
   rw [h2 _ hne]; exact h.blk x hxin
 ·intro x hx
  have : x.1 ∈ (own.set i (g, T, cs')).map (·.1) := List.mem_map.2 ⟨x, hx, rfl⟩
  rw [hids] at this
  obtain ⟨y, hy, e⟩ := List.mem_map.1 this
  rw [← e]; exact h.mine y hy
 ·have : ((own.set i (g, T, cs')).map (·.1)).Pairwise (·≠ ·) := by rw [hids]; exact List.pairwise_map.2 h.ne
  exact List.pairwise_map.1 this
theorem St.setCell {M : List Nat} {w0 w : World} {own : Blks} (h : St M w0 w own) {i g : Nat} {T : TypeId} {cs : List Value} (hi : own[i]? = some (g, T, cs)) (j : Nat) (v : Value) : St M w0 (w.setCell ⟨g, j, none⟩ v) (own.set i (g, T, cs.set j v)) := by
 have h1 := heap_setCell_same w g j cs.toArray T v (h.blk _ (mgE hi))
 have h1' : (w.setCell ⟨g, j, none⟩ v).heap[g]? = some (.cells (cs.set j v).toArray T (0, 0)) := by rw [h1]; simp
 exact h.put hi h1' (fun b hb => heap_setCell_other w ⟨g, j, none⟩ b v hb) (by simp [World.setCell]) rfl rfl rfl
theorem St.rebase {M : List Nat} {w0 w : World} {own : Blks} (h : St M w0 w own) : St (own.map (·.1)) w w own :=
 ⟨rfl, rfl, rfl, Nat.le_refl _, fun _ _ _ => rfl, h.blk, fun x hx => .inl (List.mem_map.2 ⟨x, hx, rfl⟩), h.ne⟩
theorem St.keeps {M : List Nat} {w0 w : World} {own : Blks} (h : St M w0 w own) {ok : Nat → Prop} (hM : ∀ g ∈ M, ¬ ok g) : Keeps ok w0 w := ⟨h.size, fun b hb ho => h.frame b hb fun hm => hM b hm ho⟩
theorem St.belowB {M : List Nat} {w0 w : World} {own : Blks} (h : St M w0 w own) {B : Nat} (hB : B ≤ w0.heap.size) (hM : ∀ g ∈ M, B ≤ g) : Below B w0 w :=
 ⟨h.os, h.tape, h.output, h.size, fun b hb => h.frame b (Nat.lt_of_lt_of_le hb hB) fun hm => by have := hM b hm; omega⟩
theorem SlR.okay {ok ok' : Nat → Prop} {w : World} {α : Type} {sz : Nat} {R : List Value → α → Prop} {a : Option Addr} {c : Nat} {xs : List α} (h : SlR ok w sz R a c xs) (hok : ∀ b, ok b → ok' b) : SlR ok' w sz R a c xs := by
 refine ⟨h.1, h.2.1, h.2.2.1, fun i x hx => ?_⟩
 obtain ⟨b, o, cs, ha, ho, r⟩ := h.2.2.2 i x hx
 exact ⟨b, o, cs, ha, hok _ ho, r⟩
theorem SlR.okayR {ok ok' : Nat → Prop} {w : World} {α : Type} {sz : Nat} {R R' : List Value → α → Prop} {a : Option Addr} {c : Nat} {xs : List α} (h : SlR ok w sz R a c xs) (hok : ∀ b, ok b → ok' b) (hR : ∀ cs x, R cs x → R' cs x) : SlR ok' w sz R' a c xs := by
 refine ⟨h.1, h.2.1, h.2.2.1, fun i x hx => ?_⟩
 obtain ⟨b, o, cs, ha, ho, hb, hr, r⟩ := h.2.2.2 i x hx
 exact ⟨b, o, cs, ha, hok _ ho, hb, hR _ _ hr, r⟩
theorem St.ofBelow {w0 w : World} (h : Below w0.heap.size w0 w) : St [] w0 w [] := (St.start w0).call h
theorem SlR.move {ok ok' : Nat → Prop} {w w' : World} {α : Type} {sz : Nat} {R R' : List Value → α → Prop} {a : Option Addr} {c : Nat} {xs : List α} (h : SlR ok w sz R a c xs) (hs : w.heap.size ≤ w'.heap.size) (hk : ∀ b, b < w.heap.size → ok b → ok' b ∧ w'.heap[b]? = w.heap[b]?)
  (hR : ∀ cs x, R cs x → R' cs x) : SlR ok' w' sz R' a c xs := by
 refine ⟨h.1, h.2.1, h.2.2.1, fun i x hx => ?_⟩
 obtain ⟨b, o, cs, ha, ho, hb, hr, hl, h1, hc⟩ := h.2.2.2 i x hx
 obtain ⟨h2, h3⟩ := hk b hb ho
 exact ⟨b, o, cs, ha, h2, Nat.lt_of_lt_of_le hb hs, hR _ _ hr, hl, h1, fun j v hv => (World.cell?_of_block (w := w) h3).trans (hc j v hv)⟩
theorem Own.blockLt {base : Nat} {e : TypeId} {w : World} {α : Type} {sz : Nat} {R : List Value → α → Prop} {a : Option Addr} {c : Nat} {xs : List α} (h : Own base e w sz R a c xs) : ∀ k, a.map (·.block) = some k → base ≤ k ∧ k < w.heap.size := by
 obtain ⟨css, _, _, _, h4⟩ := h
 intro k hk
 exact h4.lt k (by cases a <;> simp at hk; subst hk; rfl)
theorem SlR.ofBlk {w : World} {α : Type} {sz : Nat} {R : List Value → α → Prop} {g : Nat} {T : TypeId} {cs : List Value} {x : α} (h : w.heap[g]? = some (.cells cs.toArray T (0, 0))) (hR : R cs x) (hl : cs.length = sz) (h1 : cs.all Value.oneCell' = true) {ok : Nat → Prop} (ho : ok g) :
  SlR ok w sz R (some ⟨g, 0, none⟩) 1 [x] := by
 refine ⟨Nat.le_refl _, by simp [maxLen], by simp, fun i y hy => ?_⟩
 have hi : i = 0 := by
  have := (gEs hy).1
  simp at this; exact this
 subst hi
 simp at hy
 subst hy
 refine ⟨_, _, cs, rfl, ho, (Array.getElem?_eq_some_iff.1 h).1, hR, hl, by simpa using h1, fun j v hv => ?_⟩
 rw [cell_of_row w g _ cs.toArray T (0, 0) h]
 simpa using hv
theorem St.below2 {M : List Nat} {a w0 w : World} {own0 own : Blks} (h0 : St M a w0 own0) (h : St (own0.map (·.1)) w0 w own) (hsub : ∀ x ∈ own0, x ∈ own) : Below w0.heap.size w0 w := by
 refine ⟨h.os, h.tape, h.output, h.size, fun b hb => ?_⟩
 by_cases hm : b ∈ own0.map (·.1)
 ·obtain ⟨x, hx, rfl⟩ := List.mem_map.1 hm
  rw [h.blk x (hsub x hx), h0.blk x hx]
 ·exact h.frame b hb hm
end Go.Proofs.Ytealbofmlieicaa
