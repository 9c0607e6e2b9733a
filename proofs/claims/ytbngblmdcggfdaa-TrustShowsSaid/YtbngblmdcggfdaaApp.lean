/- 'append' in the words of SlR and Own, wherever it stands: in a list of operations, in a region that draws its order. No program is in sight. -/
import Derived.Test.YtbngblmdcggfdaaMem
import Derived.Deep.AppendLies
set_option linter.unusedSimpArgs false
set_option linter.unusedVariables false
namespace Go.Proofs.Ytbngblmdcggfdaa
open Go.RowKit

/-- The block is the one at o, or new in w. -/
def AtOrNew (o : Option Addr) (g : Nat) (w : World) : Prop := o.map (·.block) = some g ∨ g = w.heap.size

section
variable {P : Program} {w : World} {ops : Array Oper} {rest : List Oper} {o : Oper} {A : Act} {Q : Exit → Act → World → Prop} {K : Act → World → Prop} {E : Prop}

theorem wp_app (s x : Operand) (t : TypeId)
    (ho : o.op = .call { callee := .builtin .append, args := #[s, x], argTypes := #[t, t] })
    (e : TypeId) (i : TypeInfo) (z : Value) (sz bytes : Nat) (ht : P.underlying t = some (.slice e)) (hi : P.info? e = some i) (hz : i.zero = some z) (hsize : i.size = sz) (hby : i.bytes = bytes) (hzs : z.cells.size = sz) (hsz : 0 < sz)
    {α : Type} {R : List Value → α → Prop} {base : Nat} {ok : Nat → Prop} {a : Option Addr} {c n : Nat} {xs : List α} (hs : A.eval s = .slice a n c) (hn : n = xs.length) (hO : Own base e w sz R a c xs)
    {b : Option Addr} {m d : Nat} {ys : List α} (hx : A.eval x = .slice b m d) (hm : m = ys.length) (hR : SlR ok w sz R b d ys) (hl : (xs.length + ys.length) * bytes ≤ 140737488355328) (h63 : xs.length + ys.length ≤ maxLen) (hbase : base ≤ w.heap.size)
    (h : ∀ a' c' w', Own base e w' sz R a' c' (xs ++ ys) → w.grownBy w' (a.map (·.block)) → (a' = none → xs = [] ∧ ys = []) → K (A.put o.dst (.slice a' (n + m) c')) w') : Oper.wp P o A w K Q := by
  subst hn hm
  obtain ⟨css, h1, h2, h3, hown⟩ := hO
  obtain ⟨dss, g1, g2, g3, g4⟩ := hR.all
  have hob : (Value.slice a xs.length c).ownBlock = a.map (·.block) := by cases a <;> rfl
  have hall : ∀ cs ∈ css ++ dss, cs.length = sz ∧ ∀ v ∈ cs, v.oneCell' = true := by
    intro cs hcs
    rcases List.mem_append.1 hcs with hcs | hcs
    · exact h2 cs hcs
    · exact g2 cs hcs
  have hRR : ∀ (i : Nat) (x : α) (cs : List Value), (xs ++ ys)[i]? = some x → (css ++ dss)[i]? = some cs → R cs x := by
    intro i x cs hx hc
    by_cases hi : i < xs.length
    · rw [List.getElem?_append_left hi] at hx
      rw [List.getElem?_append_left (by omega)] at hc
      exact h3 i x cs hx hc
    · rw [List.getElem?_append_right (by omega)] at hx
      rw [List.getElem?_append_right (by omega), h1] at hc
      exact g3 _ x cs hx hc
  cases b with
  | none =>
    have hd := hR.2.2.1 rfl
    subst hd
    have hys : ys = [] := List.eq_nil_of_length_eq_zero (by have := hR.1; omega)
    subst hys
    have hdss : dss = [] := List.eq_nil_of_length_eq_zero (by simpa using g1)
    subst hdss
    have hrun := run_append_owned_none (P := P) (w := w) base t o.type e i sz ht hi _ xs.length css.flatten hown
    unfold Oper.wp
    simp only [List.length_nil] at hx
    simp [execOp, ho, resolve, invoke, builtin, hs, hx, hrun, Result.andThen]
    have := h a c w (by rw [List.append_nil]; exact ⟨css, h1, h2, h3, hown⟩) (World.grownBy.refl _ _) (by
      rintro rfl
      rcases hown.2 with ⟨_, hn⟩ | ⟨_, _, _, hv, _⟩
      · exact ⟨List.eq_nil_of_length_eq_zero hn, rfl⟩
      · simp at hv)
    have h' : K (A.put o.dst (.slice a xs.length c)) w := by simpa using this
    exact h'
  | some ad =>
    have hfl : dss.flatten.length = ys.length * sz := by rw [flatten_length fun cs h => (g2 cs h).1, g1]
    refine wp_append_own w s x t ho base e i z sz bytes ht hi hz hsize hby hzs hsz _ xs.length css.flatten hs hown ad ys.length d dss.flatten hx hfl ?_ ?_ h63 hl hbase ?_
    · intro j u hj
      obtain ⟨p, q, cs, rfl, hq, hp, hv⟩ := flatten_inv (fun cs h => (g2 cs h).1) hj
      obtain ⟨b, o, ha, _, _, hc⟩ := g4 p cs hp
      simp only [Option.some.injEq] at ha
      subst ha
      have := hc q u hv
      rw [Addr.add_lit]
      rw [← this]
      congr 2
      omega
    · intro u hu
      obtain ⟨cs, hcs, huc⟩ := List.mem_flatten.1 hu
      exact (g2 cs hcs).2 u huc
    · intro v' w' hown' hgr hnil
      rw [hob] at hgr
      have hOwn : ∀ a' c', v' = .slice a' (xs.length + ys.length) c' → Own base e w' sz R a' c' (xs ++ ys) := by
        rintro a' c' rfl
        exact ⟨css ++ dss, by simp [h1, g1], hall, hRR, by simpa using hown'⟩
      rcases hown'.2 with ⟨rfl, hn⟩ | ⟨g, cap, cur, rfl, _⟩
      · have e1 : xs = [] := List.eq_nil_of_length_eq_zero (by omega)
        have e2 : ys = [] := List.eq_nil_of_length_eq_zero (by omega)
        have := h none 0 w' (hOwn _ _ (by simp [e1, e2])) hgr (fun _ => ⟨e1, e2⟩)
        simpa [e1, e2] using this
      · exact h _ _ w' (hOwn _ _ rfl) hgr (by simp)

/-- 'append([]T(nil), ys...)': a copy. -/
theorem wp_copy (s x : Operand) (t : TypeId)
    (ho : o.op = .call { callee := .builtin .append, args := #[s, x], argTypes := #[t, t] })
    (e : TypeId) (i : TypeInfo) (z : Value) (sz bytes : Nat) (ht : P.underlying t = some (.slice e)) (hi : P.info? e = some i) (hz : i.zero = some z) (hsize : i.size = sz) (hby : i.bytes = bytes) (hzs : z.cells.size = sz) (hsz : 0 < sz)
    {α : Type} {R : List Value → α → Prop} {ok : Nat → Prop} (hs : A.eval s = .slice none 0 0)
    {b : Option Addr} {m d : Nat} {ys : List α} (hx : A.eval x = .slice b m d) (hm : m = ys.length) (hR : SlR ok w sz R b d ys) (hl : ys.length * bytes ≤ 140737488355328)
    (h : ∀ a' c' w', Own w.heap.size e w' sz R a' c' ys → Below w.heap.size w w' → K (A.put o.dst (.slice a' m c')) w') : Oper.wp P o A w K Q := by
  refine wp_app s x t ho e i z sz bytes ht hi hz hsize hby hzs hsz (xs := ([] : List α)) hs rfl (Own.nil w.heap.size _ _ _ _) hx hm hR (by simpa using hl) ?_ (Nat.le_refl _) ?_
  · have := hR.1; have := hR.2.1; simp; omega
  · intro a' c' w' hO hg _
    rw [Nat.zero_add]
    exact h a' c' w' (by simpa using hO) ((Below.refl _ _).grown hg (Nat.le_refl _) (by simp))

theorem wpList_copy (hgd : Region.wanted o (yielded ops A.tmps) = true) (s x : Operand) (t : TypeId)
    (ho : o.op = .call { callee := .builtin .append, args := #[s, x], argTypes := #[t, t] })
    (e : TypeId) (i : TypeInfo) (z : Value) (sz bytes : Nat) (ht : P.underlying t = some (.slice e)) (hi : P.info? e = some i) (hz : i.zero = some z) (hsize : i.size = sz) (hby : i.bytes = bytes) (hzs : z.cells.size = sz) (hsz : 0 < sz)
    {α : Type} {R : List Value → α → Prop} {ok : Nat → Prop} (hs : A.eval s = .slice none 0 0)
    {b : Option Addr} {m d : Nat} {ys : List α} (hx : A.eval x = .slice b m d) (hm : m = ys.length) (hR : SlR ok w sz R b d ys) (hl : ys.length * bytes ≤ 140737488355328)
    (h : ∀ a' c' w', Own w.heap.size e w' sz R a' c' ys → Below w.heap.size w w' → wpList P ops Q rest (A.put o.dst (.slice a' m c')) w') : wpList P ops Q (o :: rest) A w :=
  wpList_wanted hgd fun _ hK => wp_copy s x t ho e i z sz bytes ht hi hz hsize hby hzs hsz hs hx hm hR hl fun a' c' w' h1 h2 => hK _ _ (h a' c' w' h1 h2)

theorem step_copy (hgd : Region.wanted o (yielded ops A.tmps) = true) (s x : Operand) (t : TypeId)
    (ho : o.op = .call { callee := .builtin .append, args := #[s, x], argTypes := #[t, t] })
    (e : TypeId) (i : TypeInfo) (z : Value) (sz bytes : Nat) (ht : P.underlying t = some (.slice e)) (hi : P.info? e = some i) (hz : i.zero = some z) (hsize : i.size = sz) (hby : i.bytes = bytes) (hzs : z.cells.size = sz) (hsz : 0 < sz)
    {α : Type} {R : List Value → α → Prop} {ok : Nat → Prop} (hs : A.eval s = .slice none 0 0)
    {b : Option Addr} {m d : Nat} {ys : List α} (hx : A.eval x = .slice b m d) (hm : m = ys.length) (hR : SlR ok w sz R b d ys) (hl : ys.length * bytes ≤ 140737488355328)
    (h : ∀ a' c' w', Own w.heap.size e w' sz R a' c' ys → Below w.heap.size w w' → K (A.put o.dst (.slice a' m c')) w') : if Region.wanted o (yielded ops A.tmps) = true then Oper.wp P o A w K Q else E := by
  have hw := hgd
  rw [if_pos hw]
  exact wp_copy s x t ho e i z sz bytes ht hi hz hsize hby hzs hsz hs hx hm hR hl h

theorem step_app (hgd : Region.wanted o (yielded ops A.tmps) = true) (s x : Operand) (t : TypeId)
    (ho : o.op = .call { callee := .builtin .append, args := #[s, x], argTypes := #[t, t] })
    (e : TypeId) (i : TypeInfo) (z : Value) (sz bytes : Nat) (ht : P.underlying t = some (.slice e)) (hi : P.info? e = some i) (hz : i.zero = some z) (hsize : i.size = sz) (hby : i.bytes = bytes) (hzs : z.cells.size = sz) (hsz : 0 < sz)
    {α : Type} {R : List Value → α → Prop} {base : Nat} {ok : Nat → Prop} {a : Option Addr} {c n : Nat} {xs : List α} (hs : A.eval s = .slice a n c) (hn : n = xs.length) (hO : Own base e w sz R a c xs)
    {b : Option Addr} {m d : Nat} {ys : List α} (hx : A.eval x = .slice b m d) (hm : m = ys.length) (hR : SlR ok w sz R b d ys) (hl : (xs.length + ys.length) * bytes ≤ 140737488355328) (h63 : xs.length + ys.length ≤ maxLen) (hbase : base ≤ w.heap.size)
    (h : ∀ a' c' w', Own base e w' sz R a' c' (xs ++ ys) → w.grownBy w' (a.map (·.block)) → (a' = none → xs = [] ∧ ys = []) → K (A.put o.dst (.slice a' (n + m) c')) w') : if Region.wanted o (yielded ops A.tmps) = true then Oper.wp P o A w K Q else E := by
  have hw := hgd
  rw [if_pos hw]
  exact wp_app s x t ho e i z sz bytes ht hi hz hsize hby hzs hsz hs hn hO hx hm hR hl h63 hbase h

/-- One element more: the row lies where it lay, or in a block that is new. -/
theorem wp_app1 (s x : Operand) (t : TypeId)
    (ho : o.op = .call { callee := .builtin .append, args := #[s, x], argTypes := #[t, t] })
    (e : TypeId) (i : TypeInfo) (z : Value) (sz bytes : Nat) (ht : P.underlying t = some (.slice e)) (hi : P.info? e = some i) (hz : i.zero = some z) (hsize : i.size = sz) (hby : i.bytes = bytes) (hzs : z.cells.size = sz) (hsz : 0 < sz)
    {α : Type} {R : List Value → α → Prop} {base : Nat} {ok : Nat → Prop} {a : Option Addr} {c n : Nat} {xs : List α} (hs : A.eval s = .slice a n c) (hn : n = xs.length) (hO : Own base e w sz R a c xs)
    {b : Option Addr} {d : Nat} {y : α} (hx : A.eval x = .slice b 1 d) (hR : SlR ok w sz R b d [y]) (hl : (xs.length + 1) * bytes ≤ 140737488355328) (h63 : xs.length + 1 ≤ maxLen) (hbase : base ≤ w.heap.size)
    (h : ∀ g c' w', Own base e w' sz R (some ⟨g, 0, none⟩) c' (xs ++ [y]) → w.grownBy w' (a.map (·.block)) → AtOrNew a g w → g < w'.heap.size → K (A.put o.dst (.slice (some ⟨g, 0, none⟩) (n + 1) c')) w') : Oper.wp P o A w K Q := by
  subst hn
  obtain ⟨css, h1, h2, h3, hown⟩ := hO
  obtain ⟨dss, g1, g2, g3, g4⟩ := hR.all
  have hob : (Value.slice a xs.length c).ownBlock = a.map (·.block) := by cases a <;> rfl
  match dss, g1 with
  | [ds], _ =>
    have hds := g2 ds (by simp)
    obtain ⟨b0, o0, rfl, _, _, hc⟩ := g4 0 ds rfl
    refine wp_append_lies w s x t ho base e i z sz bytes ht hi hz hsize hby hzs hsz _ xs.length css.flatten hs hown ⟨b0, o0, none⟩ 1 d ds hx (by rw [hds.1]; omega) ?_ hds.2 (by omega) h63 hl hbase _ rfl ?_
    · intro j u hj
      have := hc j u hj
      rw [Addr.add_lit]
      rw [← this]
      congr 2
      omega
    · intro g cap w' hown' hgr hg hlt
      rw [hob] at hgr hg
      refine h g cap w' ⟨css ++ [ds], by simp [h1], ?_, ?_, by simpa using hown'⟩ hgr hg hlt
      · intro cs hcs
        rcases List.mem_append.1 hcs with hcs | hcs
        · exact h2 cs hcs
        · simp at hcs; subst hcs; exact hds
      · intro i x cs hx hc
        by_cases hi : i < xs.length
        · rw [List.getElem?_append_left hi] at hx
          rw [List.getElem?_append_left (by omega)] at hc
          exact h3 i x cs hx hc
        · rw [List.getElem?_append_right (by omega)] at hx
          rw [List.getElem?_append_right (by omega), h1] at hc
          exact g3 _ x cs hx hc

theorem wpList_app1 (hgd : Region.wanted o (yielded ops A.tmps) = true) (s x : Operand) (t : TypeId)
    (ho : o.op = .call { callee := .builtin .append, args := #[s, x], argTypes := #[t, t] })
    (e : TypeId) (i : TypeInfo) (z : Value) (sz bytes : Nat) (ht : P.underlying t = some (.slice e)) (hi : P.info? e = some i) (hz : i.zero = some z) (hsize : i.size = sz) (hby : i.bytes = bytes) (hzs : z.cells.size = sz) (hsz : 0 < sz)
    {α : Type} {R : List Value → α → Prop} {base : Nat} {ok : Nat → Prop} {a : Option Addr} {c n : Nat} {xs : List α} (hs : A.eval s = .slice a n c) (hn : n = xs.length) (hO : Own base e w sz R a c xs)
    {b : Option Addr} {d : Nat} {y : α} (hx : A.eval x = .slice b 1 d) (hR : SlR ok w sz R b d [y]) (hl : (xs.length + 1) * bytes ≤ 140737488355328) (h63 : xs.length + 1 ≤ maxLen) (hbase : base ≤ w.heap.size)
    (h : ∀ g c' w', Own base e w' sz R (some ⟨g, 0, none⟩) c' (xs ++ [y]) → w.grownBy w' (a.map (·.block)) → AtOrNew a g w → g < w'.heap.size → wpList P ops Q rest (A.put o.dst (.slice (some ⟨g, 0, none⟩) (n + 1) c')) w') : wpList P ops Q (o :: rest) A w :=
  wpList_wanted hgd fun _ hK => wp_app1 s x t ho e i z sz bytes ht hi hz hsize hby hzs hsz hs hn hO hx hR hl h63 hbase fun g c' w' h1 h2 h3 h4 => hK _ _ (h g c' w' h1 h2 h3 h4)

theorem step_app1 (hgd : Region.wanted o (yielded ops A.tmps) = true) (s x : Operand) (t : TypeId)
    (ho : o.op = .call { callee := .builtin .append, args := #[s, x], argTypes := #[t, t] })
    (e : TypeId) (i : TypeInfo) (z : Value) (sz bytes : Nat) (ht : P.underlying t = some (.slice e)) (hi : P.info? e = some i) (hz : i.zero = some z) (hsize : i.size = sz) (hby : i.bytes = bytes) (hzs : z.cells.size = sz) (hsz : 0 < sz)
    {α : Type} {R : List Value → α → Prop} {base : Nat} {ok : Nat → Prop} {a : Option Addr} {c n : Nat} {xs : List α} (hs : A.eval s = .slice a n c) (hn : n = xs.length) (hO : Own base e w sz R a c xs)
    {b : Option Addr} {d : Nat} {y : α} (hx : A.eval x = .slice b 1 d) (hR : SlR ok w sz R b d [y]) (hl : (xs.length + 1) * bytes ≤ 140737488355328) (h63 : xs.length + 1 ≤ maxLen) (hbase : base ≤ w.heap.size)
    (h : ∀ g c' w', Own base e w' sz R (some ⟨g, 0, none⟩) c' (xs ++ [y]) → w.grownBy w' (a.map (·.block)) → AtOrNew a g w → g < w'.heap.size → K (A.put o.dst (.slice (some ⟨g, 0, none⟩) (n + 1) c')) w') : if Region.wanted o (yielded ops A.tmps) = true then Oper.wp P o A w K Q else E := by
  have hw := hgd
  rw [if_pos hw]
  exact wp_app1 s x t ho e i z sz bytes ht hi hz hsize hby hzs hsz hs hn hO hx hR hl h63 hbase h

end
end Go.Proofs.Ytbngblmdcggfdaa
