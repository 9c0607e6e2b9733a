/- Walks and plain laws, part 4. -/
import Derived.Deep.AppendLies
import Derived.Test.YtealbofmlieicaaP2
import Derived.Orders
import Derived.Laws.Concat
set_option linter.unusedSimpArgs false
set_option linter.unusedVariables false
set_option maxHeartbeats 16000000
set_option maxRecDepth 100000
namespace Go.Proofs.Ytealbofmlieicaa
open Go.RowKit
def AtOrNew (o : Option Addr) (g : Nat) (w : World) : Prop := o.map (·.block) = some g ∨ g = w.heap.size
section
variable {P : Program} {w : World} {ops : Array Oper} {rest : List Oper} {o : Oper} {A : Act} {Q : Exit → Act → World → Prop} {K : Act → World → Prop} {E : Prop}
theorem wp_app (s x : Operand) (t : TypeId)
  (ho : o.op = .call { callee := .builtin .append, args := #[s, x], argTypes := #[t, t] })
  (e : TypeId) (i : TypeInfo) (z : Value) (sz bytes : Nat) (ht : P.underlying t = some (.slice e)) (hi : P.info? e = some i) (hz : i.zero = some z) (hsize : i.size = sz) (hby : i.bytes = bytes) (hzs : z.cells.size = sz) (hsz : 0 < sz)
  {α : Type} {R : List Value → α → Prop} {base : Nat} {ok : Nat → Prop} {a : Option Addr} {c n : Nat} {xs : List α} (hs : A.eval s = .slice a n c) (hn : n = xs.length) (hO : Own base e w sz R a c xs)
  {b : Option Addr} {m d : Nat} {ys : List α} (hx : A.eval x = .slice b m d) (hm : m = ys.length) (hR : SlR ok w sz R b d ys) (hl : (xs.length + ys.length) * bytes ≤ 140737488355328) (h63 : xs.length + ys.length ≤ maxLen) (hbase : base ≤ w.heap.size)
  (h : ∀ a' c' w', Own base e w' sz R a' c' (xs ++ ys) → w.grownBy w' (a.map (·.block)) → (a' = none → xs = [] ∧ ys = []) → K (A.put o.dst (.slice a' (n + m) c')) w') : Oper.wp P o A w K Q := by
 subst hn hm
 obtain ⟨css, h1, h2, h3, hown⟩ := hO
 obtain ⟨dss, g1, g2, g3, g4⟩ := hR.all
 have hob : (Value.slice a xs.length c).ownBlock = a.map (·.block) := by cases a <;> rfl
 have hall : ∀ cs ∈ css ++ dss, cs.length = sz ∧ ∀ v ∈ cs, v.oneCell' = true := by
  intro cs hcs
  rcases List.mem_append.1 hcs with hcs | hcs
  ·exact h2 cs hcs
  ·exact g2 cs hcs
 have hRR : ∀ (i : Nat) (x : α) (cs : List Value), (xs ++ ys)[i]? = some x → (css ++ dss)[i]? = some cs → R cs x := by
  intro i x cs hx hc
  by_cases hi : i < xs.length
  ·rw [List.getElem?_append_left hi] at hx
   rw [List.getElem?_append_left (by omega)] at hc
   exact h3 i x cs hx hc
  ·rw [List.getElem?_append_right (by omega)] at hx
   rw [List.getElem?_append_right (by omega), h1] at hc
   exact g3 _ x cs hx hc
 cases b with
 | none =>
  have hd := hR.2.2.1 rfl
  subst hd
  have hys : ys = [] := List.eq_nil_of_length_eq_zero (by have := hR.1; omega)
  subst hys
  have hdss : dss = [] := List.eq_nil_of_length_eq_zero (by simpa using g1)
  subst hdss
  have hrun := run_append_owned_none (P := P) (w := w) base t o.type e i sz ht hi _ xs.length css.flatten hown
  unfold Oper.wp
  simp only [List.length_nil] at hx
  simp [execOp, ho, resolve, invoke, builtin, hs, hx, hrun, Result.andThen]
  have := h a c w (by rw [List.append_nil]; exact ⟨css, h1, h2, h3, hown⟩) (World.grownBy.refl _ _) (by
   rintro rfl
   rcases hown.2 with ⟨_, hn⟩ | ⟨_, _, _, hv, _⟩
   ·exact ⟨List.eq_nil_of_length_eq_zero hn, rfl⟩
   ·simp at hv)
  have h' : K (A.put o.dst (.slice a xs.length c)) w := by simpa using this
  exact h'
 | some ad =>
  have hfl : dss.flatten.length = ys.length * sz := by rw [flatten_length fun cs h => (g2 cs h).1, g1]
  refine wp_append_own w s x t ho base e i z sz bytes ht hi hz hsize hby hzs hsz _ xs.length css.flatten hs hown ad ys.length d dss.flatten hx hfl ?_ ?_ h63 hl hbase ?_
  ·intro j u hj
   obtain ⟨p, q, cs, rfl, hq, hp, hv⟩ := flatten_inv (fun cs h => (g2 cs h).1) hj
   obtain ⟨b, o, ha, _, _, hc⟩ := g4 p cs hp
   simp only [Option.some.injEq] at ha
   subst ha
   have := hc q u hv
   rw [Addr.add_lit]
   rw [← this]
   congr 2
   omega
  ·intro u hu
   obtain ⟨cs, hcs, huc⟩ := List.mem_flatten.1 hu
   exact (g2 cs hcs).2 u huc
  ·intro v' w' hown' hgr hnil
   rw [hob] at hgr
   have hOwn : ∀ a' c', v' = .slice a' (xs.length + ys.length) c' → Own base e w' sz R a' c' (xs ++ ys) := by
    rintro a' c' rfl
    exact ⟨css ++ dss, by simp [h1, g1], hall, hRR, by simpa using hown'⟩
   rcases hown'.2 with ⟨rfl, hn⟩ | ⟨g, cap, cur, rfl, _⟩
   ·have e1 : xs = [] := List.eq_nil_of_length_eq_zero (by omega)
    have e2 : ys = [] := List.eq_nil_of_length_eq_zero (by omega)
    have := h none 0 w' (hOwn _ _ (by simp [e1, e2])) hgr (fun _ => ⟨e1, e2⟩)
    simpa [e1, e2] using this
   ·exact h _ _ w' (hOwn _ _ rfl) hgr (by simp)
theorem wp_copy (s x : Operand) (t : TypeId)
  (ho : o.op = .call { callee := .builtin .append, args := #[s, x], argTypes := #[t, t] })
  (e : TypeId) (i : TypeInfo) (z : Value) (sz bytes : Nat) (ht : P.underlying t = some (.slice e)) (hi : P.info? e = some i) (hz : i.zero = some z) (hsize : i.size = sz) (hby : i.bytes = bytes) (hzs : z.cells.size = sz) (hsz : 0 < sz)
  {α : Type} {R : List Value → α → Prop} {ok : Nat → Prop} (hs : A.eval s = .slice none 0 0)
  {b : Option Addr} {m d : Nat} {ys : List α} (hx : A.eval x = .slice b m d) (hm : m = ys.length) (hR : SlR ok w sz R b d ys) (hl : ys.length * bytes ≤ 140737488355328)
  (h : ∀ a' c' w', Own w.heap.size e w' sz R a' c' ys → Below w.heap.size w w' → K (A.put o.dst (.slice a' m c')) w') : Oper.wp P o A w K Q := by
 refine wp_app s x t ho e i z sz bytes ht hi hz hsize hby hzs hsz (xs := ([] : List α)) hs rfl (Own.nil w.heap.size _ _ _ _) hx hm hR (by simpa using hl) ?_ (Nat.le_refl _) ?_
 ·have := hR.1; have := hR.2.1; simp; omega
 ·intro a' c' w' hO hg _
  rw [Nat.zero_add]
  exact h a' c' w' (by simpa using hO) ((Below.refl _ _).grown hg (Nat.le_refl _) (by simp))
theorem wpList_copy (hgd : Region.wanted o (yielded ops A.tmps) = true) (s x : Operand) (t : TypeId)
  (ho : o.op = .call { callee := .builtin .append, args := #[s, x], argTypes := #[t, t] })
  (e : TypeId) (i : TypeInfo) (z : Value) (sz bytes : Nat) (ht : P.underlying t = some (.slice e)) (hi : P.info? e = some i) (hz : i.zero = some z) (hsize : i.size = sz) (hby : i.bytes = bytes) (hzs : z.cells.size = sz) (hsz : 0 < sz)
  {α : Type} {R : List Value → α → Prop} {ok : Nat → Prop} (hs : A.eval s = .slice none 0 0)
  {b : Option Addr} {m d : Nat} {ys : List α} (hx : A.eval x = .slice b m d) (hm : m = ys.length) (hR : SlR ok w sz R b d ys) (hl : ys.length * bytes ≤ 140737488355328)
  (h : ∀ a' c' w', Own w.heap.size e w' sz R a' c' ys → Below w.heap.size w w' → wpList P ops Q rest (A.put o.dst (.slice a' m c')) w') : wpList P ops Q (o :: rest) A w :=
 wpList_wanted hgd fun _ hK => wp_copy s x t ho e i z sz bytes ht hi hz hsize hby hzs hsz hs hx hm hR hl fun a' c' w' h1 h2 => hK _ _ (h a' c' w' h1 h2)
theorem step_copy (hgd : Region.wanted o (yielded ops A.tmps) = true) (s x : Operand) (t : TypeId)
  (ho : o.op = .call { callee := .builtin .append, args := #[s, x], argTypes := #[t, t] })
  (e : TypeId) (i : TypeInfo) (z : Value) (sz bytes : Nat) (ht : P.underlying t = some (.slice e)) (hi : P.info? e = some i) (hz : i.zero = some z) (hsize : i.size = sz) (hby : i.bytes = bytes) (hzs : z.cells.size = sz) (hsz : 0 < sz)
  {α : Type} {R : List Value → α → Prop} {ok : Nat → Prop} (hs : A.eval s = .slice none 0 0)
  {b : Option Addr} {m d : Nat} {ys : List α} (hx : A.eval x = .slice b m d) (hm : m = ys.length) (hR : SlR ok w sz R b d ys) (hl : ys.length * bytes ≤ 140737488355328)
  (h : ∀ a' c' w', Own w.heap.size e w' sz R a' c' ys → Below w.heap.size w w' → K (A.put o.dst (.slice a' m c')) w') : if Region.wanted o (yielded ops A.tmps) = true then Oper.wp P o A w K Q else E := by
 have hw := hgd
 rw [if_pos hw]
 exact wp_copy s x t ho e i z sz bytes ht hi hz hsize hby hzs hsz hs hx hm hR hl h
theorem wp_app1 (s x : Operand) (t : TypeId)
  (ho : o.op = .call { callee := .builtin .append, args := #[s, x], argTypes := #[t, t] })
  (e : TypeId) (i : TypeInfo) (z : Value) (sz bytes : Nat) (ht : P.underlying t = some (.slice e)) (hi : P.info? e = some i) (hz : i.zero = some z) (hsize : i.size = sz) (hby : i.bytes = bytes) (hzs : z.cells.size = sz) (hsz : 0 < sz)
  {α : Type} {R : List Value → α → Prop} {base : Nat} {ok : Nat → Prop} {a : Option Addr} {c n : Nat} {xs : List α} (hs : A.eval s = .slice a n c) (hn : n = xs.length) (hO : Own base e w sz R a c xs)
  {b : Option Addr} {d : Nat} {y : α} (hx : A.eval x = .slice b 1 d) (hR : SlR ok w sz R b d [y]) (hl : (xs.length + 1) * bytes ≤ 140737488355328) (h63 : xs.length + 1 ≤ maxLen) (hbase : base ≤ w.heap.size)
  (h : ∀ g c' w', Own base e w' sz R (some ⟨g, 0, none⟩) c' (xs ++ [y]) → w.grownBy w' (a.map (·.block)) → AtOrNew a g w → g < w'.heap.size → K (A.put o.dst (.slice (some ⟨g, 0, none⟩) (n + 1) c')) w') : Oper.wp P o A w K Q := by
 subst hn
 obtain ⟨css, h1, h2, h3, hown⟩ := hO
 obtain ⟨dss, g1, g2, g3, g4⟩ := hR.all
 have hob : (Value.slice a xs.length c).ownBlock = a.map (·.block) := by cases a <;> rfl
 match dss, g1 with
 | [ds], _ =>
  have hds := g2 ds (by simp)
  obtain ⟨b0, o0, rfl, _, _, hc⟩ := g4 0 ds rfl
  refine wp_append_lies w s x t ho base e i z sz bytes ht hi hz hsize hby hzs hsz _ xs.length css.flatten hs hown ⟨b0, o0, none⟩ 1 d ds hx (by rw [hds.1]; omega) ?_ hds.2 (by omega) h63 hl hbase _ rfl ?_
  ·intro j u hj
   have := hc j u hj
   rw [Addr.add_lit]
   rw [← this]
   congr 2
   omega
  ·intro g cap w' hown' hgr hg hlt
   rw [hob] at hgr hg
   refine h g cap w' ⟨css ++ [ds], by simp [h1], ?_, ?_, by simpa using hown'⟩ hgr hg hlt
   ·intro cs hcs
    rcases List.mem_append.1 hcs with hcs | hcs
    ·exact h2 cs hcs
    ·simp at hcs; subst hcs; exact hds
   ·intro i x cs hx hc
    by_cases hi : i < xs.length
    ·rw [List.getElem?_append_left hi] at hx
     rw [List.getElem?_append_left (by omega)] at hc
     exact h3 i x cs hx hc
    ·rw [List.getElem?_append_right (by omega)] at hx
     rw [List.getElem?_append_right (by omega), h1] at hc
     exact g3 _ x cs hx hc
end
section
variable {P : Program} {w0 w : World} {M : List Nat} {own : Blks} {o : Oper} {A : Act} {Q : Exit → Act → World → Prop} {K : Act → World → Prop}
theorem wp_alloc (st : St M w0 w own) (T : TypeId) (ho : o.op = .alloc T) (z : Value) (hz : ∀ w, (zeroValue T).run P w = .ok z w) (cs : List Value) (hcs : z.cells.toList = cs)
  (h : ∀ g w', w0.heap.size ≤ g → St M w0 w' (own ++ [(g, T, cs)]) → Below w.heap.size w w' → K (A.put o.dst (.pointer (some ⟨g, 0, none⟩))) w') : Oper.wp P o A w K Q := by
 subst hcs
 have hs := st.new T z.cells.toList
 simp only [Array.toArray_toList] at hs
 unfold Oper.wp
 simp only [execOp, ho, Instr.alloc, Sem.run_bind, hz, Result.andThen_ok, newVar, newRow, newObj]
 exact (h w.heap.size _ st.size hs ((Below.refl _ _).alloc (Nat.le_refl _) _))
theorem wp_store (st : St M w0 w own) (T : TypeId) (x y : Operand) (ho : o.op = .store T x y) (g off : Nat) (hx : A.eval x = .pointer (some ⟨g, off, none⟩))
  (v : Value) (hy : A.eval y = v) (vs : List Value) (hvs : v.cells.toList = vs) (hsz : ∀ w, (sizeOf T).run P w = .ok vs.length w) (h1 : ∀ u ∈ vs, u.oneCell' = true)
  (i : Nat) (T' : TypeId) (cs : List Value) (hi : own[i]? = some (g, T', cs)) (hl : off + vs.length ≤ cs.length)
  (h : ∀ w', St M w0 w' (own.set i (g, T', putL cs off vs)) → (∀ b, b ≠ g → w'.heap[b]? = w.heap[b]?) → w'.heap.size = w.heap.size → K (A.put o.dst undef) w') : Oper.wp P o A w K Q := by
 have hst : (storeCells ⟨g, off, none⟩ vs 0).run P w = .ok () (w.setCells g off vs) := run_storeCells_cells (P := P) g off vs 0 w
  (fun j hj => by rw [Nat.add_zero, st.cell hi]; rw [gEg (by omega)]; rfl) (fun j hj => by rw [Nat.add_zero]; exact st.free hi _) h1
 obtain ⟨a1, a2, a3, a4, a5, a6⟩ := setCells_block (w := w) vs off cs (st.blk _ (mgE hi))
 have hs' := st.put hi a1 a2 a3 a4 a5 a6
 have hcs : v.cells.size = vs.length := by rw [← hvs]; simp
 unfold Oper.wp
 simp only [execOp, ho, hx, hy, Instr.storeAt, Instr.sureAddr, storeVar, Sem.run_bind, Sem.run_pure, Result.andThen_ok, hsz, hcs, hvs, ne_eq, not_true, if_false, hst]
 exact (h _ hs' a2 a3)
/-! ### The same, for the arms of a walk: what is found by looking stands behind one existential -/
theorem wp_store' (st : St M w0 w own) (T : TypeId) (x y : Operand) (ho : o.op = .store T x y) (n : Nat) (hsz : ∀ w, (sizeOf T).run P w = .ok n w)
  (h : ∃ (i g off : Nat) (T' : TypeId) (cs vs : List Value), A.eval x = .pointer (some ⟨g, off, none⟩) ∧ own[i]? = some (g, T', cs) ∧ (A.eval y).cells.toList = vs ∧ vs.length = n ∧ vs.all Value.oneCell' = true ∧ Nat.ble (off + vs.length) cs.length = true ∧
   ∀ w', St M w0 w' (own.set i (g, T', putL cs off vs)) → (∀ b, b ≠ g → w'.heap[b]? = w.heap[b]?) → w'.heap.size = w.heap.size → K (A.put o.dst undef) w') : Oper.wp P o A w K Q := by
 obtain ⟨i, g, off, T', cs, vs, hx, hi, hv, hl, h1, hle, h⟩ := h
 exact wp_store st T x y ho g off hx _ rfl vs hv (by rw [hl]; exact hsz) (by simpa using h1) i T' cs hi (Nat.le_of_ble_eq_true hle) h
end
def QF : Exit → Act → World → Prop := fun _ _ _ => False
section
variable {P : Program} {ops : Array Oper}
theorem wp_QF {o : Oper} {a : Act} {w : World} {K : Act → World → Prop} {Q : Exit → Act → World → Prop} (h : o.wp P a w K QF) : o.wp P a w K Q := by
 unfold Oper.wp at *
 generalize (execOp a.eval o).run P w = r at *
 cases r with
 | ok n w' =>
  cases n <;> simp only [Oper.upon] at h ⊢
  case value => exact h
  case skip => exact h
  case defer => exact h
  case enter f args =>
   refine Calls.mono h fun e w'' he => ?_
   cases e with
   | returned u => exact he
   | panicked c => exact he.elim
   | outgrown => obtain ⟨_, _, h⟩ := he; exact h.elim
  case row row args => exact h
 | halt x w' =>
  cases x <;> simp only [Oper.upon] at h ⊢
  case panic u => exact h.elim
theorem wpOp_QF {i : Nat} {a : Act} {w : World} {K : Act → World → Prop} {Q : Exit → Act → World → Prop} (h : wpOp P ops QF i K a w) : wpOp P ops Q i K a w := by
 unfold wpOp at *
 cases ho : ops[i]? with
 | none => simpa [ho] using h
 | some o =>
  simp only [ho] at h ⊢
  split
  ·rename_i hw
   simp only [hw, if_true] at h
   rcases h with h | ⟨_, _, _, h⟩
   ·exact .inl (wp_QF h)
   ·exact h.elim
  ·rename_i hw
   simpa [hw] using h
def wpI (P : Program) (ops : Array Oper) (E : Act → World → Prop) (Inv : World → Prop) : Nat → Array Bool → Act → World → Prop
 | 0, listed, a, w => Region.ready .any ops listed = [] ∧ E a w
 | f + 1, listed, a, w => (Region.ready .any ops listed = [] → E a w) ∧ ∀ i ∈ Region.ready .any ops listed, wpOp P ops QF i (fun a' w' => Inv w' ∧ wpI P ops E Inv f (listed.setIfInBounds i true) a' w') a w
theorem wpI_any {E : Act → World → Prop} {Inv : World → Prop} {Q : Exit → Act → World → Prop} (hE : ∀ a w, E a w → Q .normal a w) : ∀ (f : Nat) (listed : Array Bool) (a : Act) (w : World), wpI P ops E Inv f listed a w → wpAny P .any ops Q f listed a w
 | 0, _, _, _, h => ⟨h.1, hE _ _ h.2⟩
 | f + 1, _, _, _, h => ⟨fun hr => hE _ _ (h.1 hr), fun i hi => wpOp_QF (wpOp_mono (fun _ _ hk => wpI_any hE f _ _ _ hk.2) (h.2 i hi))⟩
theorem lex_region {id : Nat} {a : Act} {w : World} {Q : Exit → Act → World → Prop} (hm : P.follows .mixedOrders = true) (n : Nat) (hn : ops.size = n) (Inv : World → Prop) (h : wpI P ops (fun a w => Q .normal a w) Inv n (Array.replicate n false) a w.drew) : (Code.region id ops true).wp P Q a w := by
 subst hn
 exact wp_region_any hm (wpI_any (fun _ _ h => h) _ _ _ _ h)
def YieldsI (P : Program) (ops : Array Oper) (Inv : World → Prop) (o : Oper) (v : Value) (a : Act) : Prop :=
 (Region.wanted o (yielded ops a.tmps) = true ∧ ∀ w, Inv w → (execOp a.eval o).run P w = .ok (.value v) w) ∨ (Region.wanted o (yielded ops a.tmps) = false ∧ v = undef)
theorem YieldsI.of_same {Inv : World → Prop} {o : Oper} {v : Value} {a a' : Act} (hy : YieldsI P ops Inv o v a) (he : execOp a'.eval o = execOp a.eval o) (hw : Region.wanted o (yielded ops a'.tmps) = Region.wanted o (yielded ops a.tmps)) : YieldsI P ops Inv o v a' := by
 unfold YieldsI at *
 rw [he, hw]
 exact hy
theorem YieldsI.wpOp {Inv : World → Prop} {i : Nat} {o : Oper} {v : Value} {a : Act} {Q : Exit → Act → World → Prop} (hi : ops[i]? = some o) (hy : YieldsI P ops Inv o v a) {K : Act → World → Prop} {w : World} (hI : Inv w) (h : K (a.put o.dst v) w) : wpOp P ops Q i K a w := by
 unfold Go.wpOp
 simp only [hi]
 rcases hy with ⟨hw, hv⟩ | ⟨hw, rfl⟩
 ·simp only [hw, if_true, Oper.wp, hv w hI, Oper.upon]; exact .inl h
 ·simp only [hw, Bool.false_eq_true, if_false]; exact h
theorem wpOp_putI {Inv : World → Prop} {j : Nat} {oi oj : Oper} {v : Value} (hj : ops[j]? = some oj) (hap : oi.apart ops oj = true) (hsi : ∀ cs b, oi.op ≠ .select cs b) (hsj : ∀ cs b, oj.op ≠ .select cs b) {K : Act → World → Prop} {a : Act} {w : World}
  (hy : YieldsI P ops Inv oi v a) (h : wpOp P ops QF j K (a.put oi.dst v) w) : wpOp P ops QF j (fun a' w' => YieldsI P ops Inv oi v a' ∧ K (a'.put oi.dst v) w') a w := by
 obtain ⟨h1, h2, h3⟩ := Oper.apart_spec hap
 have keep : ∀ (a : Act), YieldsI P ops Inv oi v a → ∀ u, YieldsI P ops Inv oi v (a.put oj.dst u) := fun a hy u =>
  hy.of_same (execOp_put oi hsi a oj.dst u h3) (wanted_put oi a oj.dst u h3)
 have keepD : ∀ d, YieldsI P ops Inv oi v { a with defers := d :: a.defers } := fun d => hy.of_same rfl rfl
 unfold wpOp at *
 simp only [hj] at *
 rw [wanted_put oj a oi.dst v h1] at h
 split
 ·rename_i hw
  simp only [hw, if_true] at h
  rcases h with h | ⟨_, _, _, h⟩
  case inr => exact h.elim
  refine .inl ?_
  unfold Oper.wp at *
  rw [execOp_put oj hsj a oi.dst v h1] at h
  generalize (execOp a.eval oj).run P w = r at *
  cases r with
  | ok n w' =>
   cases n <;> simp only [Oper.upon] at h ⊢
   case value u => exact ⟨keep a hy u, by rw [← Act.put_comm a v u h2]; exact h⟩
   case skip => exact ⟨keep a hy _, by rw [← Act.put_comm a v undef h2]; exact h⟩
   case defer d =>
    refine ⟨keep _ (keepD d) _, ?_⟩
    rw [← Act.put_comm _ v undef h2, ← Act.put_defers]
    exact h
   case enter f args =>
    refine Calls.mono h fun e w'' he => ?_
    cases e with
    | returned u => exact ⟨keep a hy u, by rw [← Act.put_comm a v u h2]; exact he⟩
    | panicked c => exact he.elim
    | outgrown => exact he
   case row row args => exact Rows.mono h fun u w'' he => ⟨keep a hy u, by rw [← Act.put_comm a v u h2]; exact he⟩
  | halt x w' =>
   cases x <;> simp only [Oper.upon] at h ⊢
   case panic u => exact h.elim
 ·rename_i hw
  simp only [hw] at h
  exact ⟨keep a hy _, by rw [← Act.put_comm a v undef h2]; exact h⟩
theorem wpI_first {E : Act → World → Prop} {Inv : World → Prop} {i : Nat} {oi : Oper} {v : Value} (hi : ops[i]? = some oi) (hsel : ∀ (j : Nat) (o : Oper) cs b, ops[j]? = some o → o.op ≠ .select cs b) :
  ∀ (fuel : Nat) (listed : Array Bool) (a : Act) (w : World),
   (∀ j oj, ops[j]? = some oj → j ≠ i → listed.getD j true = false → (∀ e ∈ oj.after, Region.binds .any e = true → e.on ≠ i) → oi.apart ops oj = true) →
   i ∈ Region.ready .any ops listed → YieldsI P ops Inv oi v a → Inv w →
   wpI P ops E Inv fuel (listed.setIfInBounds i true) (a.put oi.dst v) w → wpI P ops E Inv (fuel + 1) listed a w := by
 intro fuel
 induction fuel with
 | zero =>
  intro listed a w _ hr hy hI H
  refine ⟨fun h => (by rw [h] at hr; cases hr), fun j hj => ?_⟩
  by_cases hji : j = i
  ·subst hji; exact hy.wpOp hi hI ⟨hI, H⟩
  ·have := ready_mono hj hji
   rw [H.1] at this
   cases this
 | succ fuel ih =>
  intro listed a w hfree hr hy hI H
  refine ⟨fun h => (by rw [h] at hr; cases hr), fun j hj => ?_⟩
  by_cases hji : j = i
  ·subst hji; exact hy.wpOp hi hI ⟨hI, H⟩
  ·have h1 := H.2 j (ready_mono hj hji)
   obtain ⟨hjun, oj, hoj, hall⟩ := mem_ready.1 hj
   have hnot : ∀ e ∈ oj.after, Region.binds .any e = true → e.on ≠ i := fun e he hb heq => by
    have h1 := hall e he hb
    have h0 := (mem_ready.1 hr).1
    rw [heq] at h1
    rcases Nat.lt_or_ge i listed.size with h' | h'
    ·simp [h'] at h0 h1; rw [h0] at h1; cases h1
    ·simp [Array.getElem?_eq_none h'] at h1
   have h2 := wpOp_putI hoj (hfree j oj hoj hji hjun hnot) (fun cs b => hsel i oi cs b hi) (fun cs b => hsel j oj cs b hoj) hy h1
   have hfree' : ∀ k ok, ops[k]? = some ok → k ≠ i → (listed.setIfInBounds j true).getD k true = false →
     (∀ e ∈ ok.after, Region.binds .any e = true → e.on ≠ i) → oi.apart ops ok = true := fun k ok hk hki hun hno => by
    refine hfree k ok hk hki ?_ hno
    by_cases hjk : j = k
    ·subst hjk; exact hjun
    ·rw [getD_set_ne true hjk] at hun; exact hun
   refine wpOp_mono (fun a' w' h3 => ⟨h3.2.1, ih (listed.setIfInBounds j true) a' w' hfree' (ready_mono hr (Ne.symm hji)) h3.1 h3.2.1 ?_⟩) h2
   rw [Array.setIfInBounds_comm _ _ hji]
   exact h3.2.2
def lexOk (ops : Array Oper) (listed : Array Bool) (i : Nat) : Bool := Region.noSelect ops && Region.free .any ops listed i && (Region.ready .any ops listed).contains i
theorem lex_take {l : List Oper} {E : Act → World → Prop} {Inv : World → Prop} (i : Nat) {oi : Oper} {v : Value} {f : Nat} {listed : Array Bool} {a : Act} {w : World} (hi : l[i]? = some oi) (hok : lexOk l.toArray listed i = true) (hw : Region.wanted oi (yielded l.toArray a.tmps) = true) (hI : Inv w)
  (hy : ∀ w, Inv w → (execOp a.eval oi).run P w = .ok (.value v) w) (h : wpI P l.toArray E Inv f (listed.setIfInBounds i true) (a.put oi.dst v) w) : wpI P l.toArray E Inv (f + 1) listed a w := by
 simp only [lexOk, Bool.and_eq_true] at hok
 exact wpI_first (by simpa using hi) (Region.noSelect_spec hok.1.1) f listed a w (Region.free_spec (by simpa using hi) hok.1.2) (by simpa using hok.2) (.inl ⟨hw, hy⟩) hI h
theorem lexT {l : List Oper} {E : Act → World → Prop} {Inv : World → Prop} (i : Nat) {oi : Oper} {v : Value} {f : Nat} {listed : Array Bool} {a a' : Act} {w : World} (hi : l[i]? = some oi) (hI : Inv w) (hy : ∀ w, Inv w → (execOp a.eval oi).run P w = .ok (.value v) w)
  (h : wpI P l.toArray E Inv f (listed.setIfInBounds i true) a' w) (hok : lexOk l.toArray listed i = true := by decide +kernel) (hw : Region.wanted oi (yielded l.toArray a.tmps) = true := by first | exact wanted_none rfl | exact wanted_some rfl rfl) (ha : a.put oi.dst v = a' := by first | (simp only [kP, kA, kS, kZ]; done) | (simp only [kP, kA, kS, kZ]; exact rfl) | exact rfl) : wpI P l.toArray E Inv (f + 1) listed a w := lex_take i hi hok hw hI hy (ha ▸ h)
theorem lexS {l : List Oper} {E : Act → World → Prop} {Inv : World → Prop} (i : Nat) {oi : Oper} {v : Value} {f : Nat} {listed : Array Bool} {a a' : Act} {w : World} (hi : l[i]? = some oi) (hI : Inv w)
  (h : wpI P l.toArray E Inv f (listed.setIfInBounds i true) a' w) (hok : lexOk l.toArray listed i = true := by decide +kernel) (hw : Region.wanted oi (yielded l.toArray a.tmps) = true := by first | exact wanted_none rfl | exact wanted_some rfl rfl)
  (hy : ∀ w, Inv w → (execOp a.eval oi).run P w = .ok (.value v) w := by intro _ _; first | (go_simp; done) | (go_simp; rfl)) (ha : a.put oi.dst v = a' := by first | (simp only [kP, kA, kS, kZ]; done) | (simp only [kP, kA, kS, kZ]; exact rfl) | exact rfl) : wpI P l.toArray E Inv (f + 1) listed a w := lex_take i hi hok hw hI hy (ha ▸ h)
theorem lex_only {l : List Oper} {E : Act → World → Prop} {Inv : World → Prop} (i : Nat) {oi : Oper} {f : Nat} {listed : Array Bool} {a : Act} {w : World} (hi : l[i]? = some oi) (hr : Region.ready .any l.toArray listed = [i]) (hw : Region.wanted oi (yielded l.toArray a.tmps) = true)
  (h : ∀ K : Act → World → Prop, (∀ a' w', Inv w' → wpI P l.toArray E Inv f (listed.setIfInBounds i true) a' w' → K a' w') → oi.wp P a w K QF) : wpI P l.toArray E Inv (f + 1) listed a w := by
 refine ⟨fun h0 => (by rw [hr] at h0; cases h0), fun j hj => ?_⟩
 rw [hr] at hj
 simp only [List.mem_singleton] at hj
 subst hj
 refine wpOp_plain (by simpa using hi) hw (h _ fun a' w' h1 h2 => ⟨h1, h2⟩)
theorem lexO {l : List Oper} {E : Act → World → Prop} {Inv : World → Prop} (i : Nat) {oi : Oper} {f : Nat} {listed : Array Bool} {a : Act} {w : World} (hi : l[i]? = some oi)
  (h : ∀ K : Act → World → Prop, (∀ a' w', Inv w' → wpI P l.toArray E Inv f (listed.setIfInBounds i true) a' w' → K a' w') → oi.wp P a w K QF) (hr : Region.ready .any l.toArray listed = [i] := by decide +kernel) (hw : Region.wanted oi (yielded l.toArray a.tmps) = true := by first | exact wanted_none rfl | exact wanted_some rfl rfl) : wpI P l.toArray E Inv (f + 1) listed a w := lex_only i hi hr hw h
theorem lex_each {l : List Oper} {E : Act → World → Prop} {Inv : World → Prop} (rs : List Nat) {f : Nat} {listed : Array Bool} {a : Act} {w : World} (hr : Region.ready .any l.toArray listed = rs) (hne : rs ≠ [])
  (h : ∀ i ∈ rs, ∀ K : Act → World → Prop, (∀ a' w', Inv w' → wpI P l.toArray E Inv f (listed.setIfInBounds i true) a' w' → K a' w') → ∃ oi, l[i]? = some oi ∧ Region.wanted oi (yielded l.toArray a.tmps) = true ∧ oi.wp P a w K QF) : wpI P l.toArray E Inv (f + 1) listed a w := by
 refine ⟨fun h0 => absurd (hr.symm.trans h0) hne, fun j hj => ?_⟩
 rw [hr] at hj
 obtain ⟨oi, hi, hw, h⟩ := h j hj (fun a' w' => Inv w' ∧ wpI P l.toArray E Inv f (listed.setIfInBounds j true) a' w') fun a' w' h1 h2 => ⟨h1, h2⟩
 exact wpOp_plain (by simpa using hi) hw h
theorem wp_callee {o : Oper} {A : Act} {w : World} {K : Act → World → Prop} {Q : Exit → Act → World → Prop} {f : Nat} {args : Array Value} (he : (execOp A.eval o).run P w = .ok (.enter f args) w) (h : Calls P f args w fun e w' => ∃ v, e = .returned v ∧ K (A.put o.dst v) w') : o.wp P A w K Q := by
 unfold Oper.wp
 simp only [he, Oper.upon]
 refine h.mono fun e w' hv => ?_
 obtain ⟨v, rfl, hk⟩ := hv
 exact hk
theorem lex_done {l : List Oper} {E : Act → World → Prop} {Inv : World → Prop} {listed : Array Bool} {a : Act} {w : World} (hr : Region.ready .any l.toArray listed = []) (h : E a w) : wpI P l.toArray E Inv 0 listed a w := ⟨hr, h⟩
end
section
variable {P : Program} {w0 w : World} {M : List Nat} {own : Blks} {o : Oper} {A : Act}
theorem St.run_load (st : St M w0 w own) (i : Nat) (T : TypeId) (x : Operand) (ho : o.op = .load T x) (hagg : ∀ w, (isAgg T).run P w = .ok false w) {g off : Nat} {T' : TypeId} {cs : List Value} {v : Value} (hx : A.eval x = .pointer (some ⟨g, off, none⟩)) (hi : own[i]? = some (g, T', cs)) (hv : cs[off]? = some v) :
  (execOp A.eval o).run P w = .ok (.value v) w := by
 have hc : w.cell? ⟨g, off, none⟩ = some v := (st.cell hi off).trans hv
 simp only [execOp, ho, hx, Instr.loadAt, Instr.sureAddr, loadVar, Sem.run_bind, Sem.run_pure, Result.andThen_ok, hagg]
 simp [load, Sem.run, hc, Result.andThen]
theorem St.run_load_agg (st : St M w0 w own) (i : Nat) (T : TypeId) (x : Operand) (ho : o.op = .load T x) (hagg : ∀ w, (isAgg T).run P w = .ok true w) (n : Nat) (hsz : ∀ w, (sizeOf T).run P w = .ok n w) {g off : Nat} {T' : TypeId} {cs : List Value} {vs : List Value} (hx : A.eval x = .pointer (some ⟨g, off, none⟩)) (hi : own[i]? = some (g, T', cs)) (hv : (cs.drop off).take n = vs) (hl : vs.length = n) :
  (execOp A.eval o).run P w = .ok (.value (.agg vs.toArray)) w := by
 have hl' : (loadCells ⟨g, off, none⟩ vs.length).run P w = .ok vs.toArray w := run_loadCells_list (P := P) w ⟨g, off, none⟩ vs (fun j v hj => by
  rw [add_plain, st.cell hi]
  subst hv
  have hjn : j < n := by have := (gEs hj).1; omega
  rw [List.getElem?_take_of_lt hjn, List.getElem?_drop] at hj
  exact hj)
 rw [hl] at hl'
 simp only [execOp, ho, hx, Instr.loadAt, Instr.sureAddr, loadVar, Sem.run_bind, Sem.run_pure, Result.andThen_ok, hagg, hsz, if_true, hl']
theorem wpList_load_cells {P : Program} {w : World} {ops : Array Oper} {rest : List Oper} {o : Oper} {A : Act} {Q : Exit → Act → World → Prop} (hgd : Region.wanted o (yielded ops A.tmps) = true) (T : TypeId) (x : Operand) (ho : o.op = .load T x) (hagg : ∀ w, (isAgg T).run P w = .ok true w) (n : Nat) (hsz : ∀ w, (sizeOf T).run P w = .ok n w)
  (g off : Nat) (hx : A.eval x = .pointer (some ⟨g, off, none⟩)) (vs : List Value) (hl : vs.length = n) (hc : ∀ (j : Nat) (v : Value), vs[j]? = some v → w.cell? ⟨g, off + j, none⟩ = some v) (h : wpList P ops Q rest (A.put o.dst (.agg vs.toArray)) w) : wpList P ops Q (o :: rest) A w := by
 refine wpList_wanted hgd fun K hK => ?_
 have hl' : (loadCells ⟨g, off, none⟩ vs.length).run P w = .ok vs.toArray w := run_loadCells_list (P := P) w ⟨g, off, none⟩ vs (fun j v hj => by rw [add_plain]; exact hc j v hj)
 rw [hl] at hl'
 unfold Oper.wp
 simp only [execOp, ho, hx, Instr.loadAt, Instr.sureAddr, loadVar, Sem.run_bind, Sem.run_pure, Result.andThen_ok, hagg, hsz, if_true, hl']
 exact hK _ _ h
theorem run_load_at {P : Program} {o : Oper} {A : Act} {w : World} (T : TypeId) (x : Operand) (ho : o.op = .load T x) (hagg : ∀ w, (isAgg T).run P w = .ok true w) (n : Nat) (hsz : ∀ w, (sizeOf T).run P w = .ok n w) (g off : Nat) (hx : A.eval x = .pointer (some ⟨g, off, none⟩)) (vs : List Value) (hl : vs.length = n) (hc : ∀ (j : Nat) (v : Value), vs[j]? = some v → w.cell? ⟨g, off + j, none⟩ = some v) :
  (execOp A.eval o).run P w = .ok (.value (.agg vs.toArray)) w := by
 have hl' : (loadCells ⟨g, off, none⟩ vs.length).run P w = .ok vs.toArray w := run_loadCells_list (P := P) w ⟨g, off, none⟩ vs (fun j v hj => by rw [add_plain]; exact hc j v hj)
 rw [hl] at hl'
 simp only [execOp, ho, hx, Instr.loadAt, Instr.sureAddr, loadVar, Sem.run_bind, Sem.run_pure, Result.andThen_ok, hagg, hsz, if_true, hl']
theorem St.take (h : St M w0 w own) (n : Nat) : St M w0 w (own.take n) :=
 ⟨h.os, h.tape, h.output, h.size, h.frame, fun x hx => h.blk x (List.take_subset n own hx), fun x hx => h.mine x (List.take_subset n own hx), h.ne.sublist (List.take_sublist n own)⟩
theorem cells_at {w : World} {g : Nat} {T : TypeId} {cs : List Value} {fr : Nat × Nat} (hb : w.heap[g]? = some (.cells cs.toArray T fr)) (off n : Nat) (vs : List Value) (h : (cs.drop off).take n = vs) (hn : vs.length = n) : ∀ (j : Nat) (v : Value), vs[j]? = some v → w.cell? ⟨g, off + j, none⟩ = some v := by
 intro j v hj
 have hjn : j < n := by have := (gEs hj).1; omega
 rw [cell_of_row w g _ cs.toArray T fr hb]
 subst h
 rw [List.getElem?_take_of_lt hjn, List.getElem?_drop] at hj
 simpa using hj
theorem lex_still {id : Nat} {a : Act} {ops : Array Oper} {Q : Exit → Act → World → Prop} (st : St M w0 w own) (hm : P.follows .mixedOrders = true) (n : Nat) (hn : ops.size = n) (h : St M w0 w.drew own → wpI P ops (fun a w => Q .normal a w) (fun W => St M w0 W own) n (Array.replicate n false) a w.drew) : (Code.region id ops true).wp P Q a w :=
 lex_region hm n hn _ (h st.drew)
end
section
variable {P : Program} {ops : Array Oper} {Q : Exit → Act → World → Prop}
end
theorem St.sub {M : List Nat} {w0 w : World} {own own' : Blks} (h : St M w0 w own) (hs : ∀ x ∈ own', x ∈ own) (hn : own'.Pairwise fun x y => x.1 ≠ y.1) : St M w0 w own' :=
 ⟨h.os, h.tape, h.output, h.size, h.frame, fun x hx => h.blk x (hs x hx), fun x hx => h.mine x (hs x hx), hn⟩
theorem St.join {M : List Nat} {w0 w w' : World} {own own' : Blks} (h : St M w0 w own) (h' : St [] w w' own') : St M w0 w' (own ++ own') := by
 have hc := h.call h'.below
 refine ⟨hc.os, hc.tape, hc.output, hc.size, hc.frame, fun x hx => ?_, fun x hx => ?_, List.pairwise_append.2 ⟨h.ne, h'.ne, fun x hx y hy => ?_⟩⟩
 ·rcases List.mem_append.1 hx with hx | hx
  ·exact hc.blk x hx
  ·exact h'.blk x hx
 ·rcases List.mem_append.1 hx with hx | hx
  ·exact h.mine x hx
  ·rcases h'.mine x hx with h1 | h1
   ·simp at h1
   ·exact .inr (Nat.le_trans h.size h1)
 ·have h1 := h.lt hx
  rcases h'.mine y hy with h2 | h2
  ·simp at h2
  ·omega
abbrev Two := Option (Nat × List Value) × Option (Nat × List Value)
def Two.own (T1 T2 : TypeId) (s : Two) : Blks := (s.1.map fun p => (p.1, T1, p.2)).toList ++ (s.2.map fun p => (p.1, T2, p.2)).toList
def Two.held (s : Two) (b : Nat) : Prop := s.1.map (·.1) = some b ∨ s.2.map (·.1) = some b
def Two.free (s : Two) (b : Nat) : Prop := ¬ s.held b
structure Two.Rel (a1 s1 a2 s2 k : Nat) (s : Two) (w : World) (s' : Two) (w' : World) : Prop where
 size : w.heap.size ≤ w'.heap.size
 keep : ∀ b, b < w.heap.size → s.free b → s'.free b ∧ w'.heap[b]? = w.heap[b]?
 one : k ≠ a1 → k ≠ s1 → s'.1 = s.1
 two : k ≠ a2 → k ≠ s2 → s'.2 = s.2
 one' : k ≠ a1 → ∀ g c, s.1 = some (g, c) → ∃ c', s'.1 = some (g, c') ∧ c'.length = c.length
 two' : k ≠ a2 → ∀ g c, s.2 = some (g, c) → ∃ c', s'.2 = some (g, c') ∧ c'.length = c.length
theorem Two.Rel.below {a1 s1 a2 s2 k : Nat} {s : Two} {w w' : World} (hb : Below w.heap.size w w') : Two.Rel a1 s1 a2 s2 k s w s w' :=
 ⟨hb.size, fun b hb' hf => ⟨hf, hb.block b hb'⟩, fun _ _ => rfl, fun _ _ => rfl, fun _ g c h => ⟨c, h, rfl⟩, fun _ g c h => ⟨c, h, rfl⟩⟩
theorem Two.new {B w : World} {T1 T2 : TypeId} {s : Two} (st : St [] B w (s.own T1 T2)) {b : Nat} (hb : w.heap.size ≤ b) : s.free b := by
 intro hh
 obtain ⟨o1, o2⟩ := s
 rcases hh with hh | hh
 ·cases o1 with
  | none => simp at hh
  | some p => have := st.lt (x := (p.1, T1, p.2)) (by simp [Two.own]); simp at hh; simp at this; omega
 ·cases o2 with
  | none => simp at hh
  | some p => have := st.lt (x := (p.1, T2, p.2)) (by simp [Two.own]); simp at hh; simp at this; omega
section
variable {P : Program} {B w : World} {T1 T2 : TypeId} {s : Two} {o : Oper} {A : Act} {Q : Exit → Act → World → Prop} {K : Act → World → Prop}
end
def untail (n : Nat) (tls : List Nat) : Array Bool := (Array.range n).map fun i => tls.contains i
def onlyTail (n : Nat) (tls : List Nat) : Array Bool := (Array.range n).map fun i => !tls.contains i
def reach (ops : Array Oper) : Nat → Nat → Nat → Bool
 | 0, _, _ => false
 | f + 1, i, j => match ops[i]? with
  | none => false
  | some o => o.after.toList.any fun e => Region.binds .any e && (e.on == j || reach ops f e.on j)
def tailOk (ops : Array Oper) (tls : List Nat) : Bool :=
 (List.range ops.size).all fun i => match ops[i]? with
  | none => false
  | some o => o.after.toList.all (fun e => !Region.binds .any e || decide (e.on < i)) &&
   (if tls.contains i then (List.range ops.size).all fun j => tls.contains j || reach ops 8 i j
   else o.after.toList.all fun e => !Region.binds .any e || !tls.contains e.on)
section
variable {P : Program} {ops : Array Oper} {tls : List Nat}
theorem tailOk_at (h : tailOk ops tls = true) {i : Nat} {o : Oper} (hi : ops[i]? = some o) : (∀ e ∈ o.after, Region.binds .any e = true → e.on < i) ∧
  (i ∈ tls → ∀ j, j < ops.size → j ∉ tls → reach ops 8 i j = true) ∧ (i ∉ tls → ∀ e ∈ o.after, Region.binds .any e = true → e.on ∉ tls) := by
 unfold tailOk at h
 rw [List.all_eq_true] at h
 have h1 := h i (by rw [List.mem_range]; exact (Array.getElem?_eq_some_iff.1 hi).1)
 simp only [hi, Bool.and_eq_true, List.all_eq_true] at h1
 obtain ⟨h2, h3⟩ := h1
 refine ⟨fun e he hb => ?_, fun ht j hj hjt => ?_, fun ht e he hb => ?_⟩
 ·have := h2 e (by simpa using he)
  simpa [hb] using this
 ·rw [if_pos (by simpa using ht), List.all_eq_true] at h3
  have := h3 j (by simpa using hj)
  rw [Bool.or_eq_true] at this
  rcases this with h | h
  ·exact absurd (by simpa using h) hjt
  ·exact h
 ·rw [if_neg (by simpa using ht), List.all_eq_true] at h3
  have := h3 e (by simpa using he)
  simpa [hb] using this
def Closed (ops : Array Oper) (L : Array Bool) : Prop := ∀ i o, ops[i]? = some o → L.getD i false = true → ∀ e ∈ o.after, Region.binds .any e = true → L.getD e.on false = true
theorem Closed.reach {L : Array Bool} (h : Closed ops L) : ∀ (f i j : Nat) (o : Oper), ops[i]? = some o → (∀ e ∈ o.after, Region.binds .any e = true → L.getD e.on false = true) → reach ops f i j = true → L.getD j false = true
 | 0, _, _, _, _, _, hr => by simp [Proofs.Ytealbofmlieicaa.reach] at hr
 | f + 1, i, j, o, ho, hd, hr => by
  unfold Proofs.Ytealbofmlieicaa.reach at hr
  simp only [ho] at hr
  obtain ⟨e, he, h5⟩ := List.any_eq_true.1 hr
  rw [Bool.and_eq_true, Bool.or_eq_true, beq_iff_eq] at h5
  have hl := hd e (by simpa using he) h5.1
  rcases h5.2 with rfl | hr2
  ·exact hl
  ·cases ho2 : ops[e.on]? with
   | none => cases f <;> simp [Proofs.Ytealbofmlieicaa.reach, ho2] at hr2
   | some o2 => exact Closed.reach h f e.on j o2 ho2 (h e.on o2 ho2 hl) hr2
theorem Closed.set {L : Array Bool} (h : Closed ops L) {j : Nat} (hj : j ∈ Region.ready .any ops L) : Closed ops (L.setIfInBounds j true) := by
 obtain ⟨h1, oj, hoj, h2⟩ := mem_ready.1 hj
 have up : ∀ k, L.getD k false = true → (L.setIfInBounds j true).getD k false = true := fun k hk => by
  by_cases hjk : j = k
  ·subst hjk
   have hl : j < L.size := by
    rcases Nat.lt_or_ge j L.size with h' | h'
    ·exact h'
    ·simp [Array.getElem?_eq_none h'] at hk
   simp [hl]
  ·rw [getD_set_ne false hjk]; exact hk
 intro i o hi hL e he hb
 by_cases hji : j = i
 ·subst hji
  obtain rfl : o = oj := by rw [hoj] at hi; exact (Option.some.inj hi).symm
  exact up _ (h2 e he hb)
 ·rw [getD_set_ne false hji] at hL
  exact up _ (h i o hi hL e he hb)
structure Both (ops : Array Oper) (n : Nat) (tls : List Nat) (L L' : Array Bool) : Prop where
 closed : Closed ops L'
 size : L.size = n
 size' : L'.size = n
 yes : ∀ i, i < n → i ∈ tls → L.getD i true = true ∧ L'.getD i true = false
 no : ∀ i, i < n → i ∉ tls → L'.getD i true = L.getD i true
theorem Both.start (n : Nat) (tls : List Nat) : Both ops n tls (untail n tls) (Array.replicate n false) := by
 refine ⟨fun i o hi hL => (by by_cases h : i < n <;> simp [Array.getElem?_replicate, h] at hL), by simp [untail], by simp, fun i hi ht => ?_, fun i hi ht => ?_⟩
 ·simp [untail, hi, ht]
 ·simp [untail, hi, ht]
theorem getD_false_of {L : Array Bool} {i : Nat} (hi : i < L.size) : L.getD i false = L.getD i true := by simp [hi]
theorem Both.set {n : Nat} {L L' : Array Bool} (h : Both ops n tls L L') {j : Nat} (hr : j ∈ Region.ready .any ops L') (hj : j ∉ tls) : Both ops n tls (L.setIfInBounds j true) (L'.setIfInBounds j true) := by
 refine ⟨h.closed.set hr, by simp [h.size], by simp [h.size'], fun i hi ht => ?_, fun i hi ht => ?_⟩
 ·have hij : j ≠ i := fun e => hj (e ▸ ht)
  rw [getD_set_ne true hij, getD_set_ne true hij]
  exact h.yes i hi ht
 ·by_cases hij : j = i
  ·subst hij
   simp [h.size, h.size', hi]
  ·rw [getD_set_ne true hij, getD_set_ne true hij]
   exact h.no i hi ht
theorem Both.ready {L L' : Array Bool} (hok : tailOk ops tls = true) (h : Both ops ops.size tls L L') {j : Nat} (hj : j ∈ Region.ready .any ops L') (hopen : ∃ i, i < ops.size ∧ L.getD i true = false) : j ∉ tls ∧ j ∈ Region.ready .any ops L := by
 obtain ⟨h1, o, ho, h2⟩ := mem_ready.1 hj
 have hjl := (Array.getElem?_eq_some_iff.1 ho).1
 obtain ⟨k1, k2, k3⟩ := tailOk_at hok ho
 have hnt : j ∉ tls := fun ht => by
  obtain ⟨i, hi, hL⟩ := hopen
  have hit : i ∉ tls := fun e => by rw [(h.yes i hi e).1] at hL; cases hL
  have := h.closed.reach 8 j i o ho h2 (k2 ht i hi hit)
  rw [getD_false_of (by rw [h.size']; exact hi), h.no _ hi hit, hL] at this
  cases this
 refine ⟨hnt, mem_ready.2 ⟨by rw [← h.no j hjl hnt]; exact h1, o, ho, fun e he hb => ?_⟩⟩
 have hlt : e.on < ops.size := Nat.lt_trans (k1 e he hb) hjl
 rw [getD_false_of (by rw [h.size]; exact hlt), ← h.no _ hlt (k3 hnt e he hb), ← getD_false_of (by rw [h.size']; exact hlt)]
 exact h2 e he hb
theorem Both.back {L L' : Array Bool} (hok : tailOk ops tls = true) (h : Both ops ops.size tls L L') {j : Nat} (hj : j ∈ Region.ready .any ops L) : j ∈ Region.ready .any ops L' := by
 obtain ⟨h1, o, ho, h2⟩ := mem_ready.1 hj
 have hjl := (Array.getElem?_eq_some_iff.1 ho).1
 obtain ⟨k1, k2, k3⟩ := tailOk_at hok ho
 have hnt : j ∉ tls := fun ht => by rw [(h.yes j hjl ht).1] at h1; cases h1
 refine mem_ready.2 ⟨by rw [h.no j hjl hnt]; exact h1, o, ho, fun e he hb => ?_⟩
 have hlt : e.on < ops.size := Nat.lt_trans (k1 e he hb) hjl
 rw [getD_false_of (by rw [h.size']; exact hlt), h.no _ hlt (k3 hnt e he hb), ← getD_false_of (by rw [h.size]; exact hlt)]
 exact h2 e he hb
theorem Both.ended {L L' : Array Bool} (hok : tailOk ops tls = true) (h : Both ops ops.size tls L L') (hr : Region.ready .any ops L = []) : L' = onlyTail ops.size tls ∧ ∀ i, i < ops.size → L.getD i true = true := by
 have hall : ∀ i, i < ops.size → L.getD i true = true := by
  intro i
  induction i using Nat.strongRecOn with
  | ind i ih =>
   intro hi
   by_cases hL : L.getD i true = true
   ·exact hL
   ·exfalso
    have ho : ops[i]? = some ops[i] := by simp [hi]
    obtain ⟨k1, _, _⟩ := tailOk_at hok ho
    have : i ∈ Region.ready .any ops L := mem_ready.2 ⟨by simpa using hL, _, ho, fun e he hb => by
     have hlt := k1 e he hb
     rw [getD_false_of (by rw [h.size]; omega)]
     exact ih e.on hlt (by omega)⟩
    rw [hr] at this
    cases this
 refine ⟨?_, hall⟩
 apply Array.ext
 ·simp [onlyTail, h.size']
 ·intro i hi1 hi2
  have hi : i < ops.size := by rw [h.size'] at hi1; exact hi1
  have e1 : L'.getD i true = L'[i] := by simp [hi1]
  rw [← e1]
  by_cases ht : i ∈ tls
  ·rw [(h.yes i hi ht).2]; simp [onlyTail, ht]
  ·rw [h.no i hi ht, hall i hi]; simp [onlyTail, ht]
theorem wpAny_more {Q : Exit → Act → World → Prop} : ∀ (f : Nat) (L : Array Bool) (a : Act) (w : World), wpAny P .any ops Q f L a w → wpAny P .any ops Q (f + 1) L a w
 | 0, L, a, w, h => ⟨fun _ => h.2, fun i hi => by rw [h.1] at hi; cases hi⟩
 | f + 1, L, a, w, h => ⟨h.1, fun i hi => wpOp_mono (fun a' w' h' => wpAny_more f _ a' w' h') (h.2 i hi)⟩
theorem wpI_tail {Q : Exit → Act → World → Prop} {Inv : World → Prop} (hok : tailOk ops tls = true) (k : Nat) : ∀ (f : Nat) (L L' : Array Bool) (a : Act) (w : World), Both ops ops.size tls L L' →
  wpI P ops (fun a w => wpAny P .any ops Q k (onlyTail ops.size tls) a w) Inv f L a w → wpAny P .any ops Q (f + k) L' a w := by
 intro f
 induction f with
 | zero =>
  intro L L' a w hb h
  rw [Nat.zero_add, (hb.ended hok h.1).1]
  exact h.2
 | succ f ih =>
  intro L L' a w hb h
  by_cases hr : Region.ready .any ops L = []
  ·have h1 := h.1 hr
   rw [(hb.ended hok hr).1]
   have : ∀ j, wpAny P .any ops Q (j + k) (onlyTail ops.size tls) a w := by
    intro j
    induction j with
    | zero => rw [Nat.zero_add]; exact h1
    | succ j ih => rw [Nat.succ_add]; exact wpAny_more _ _ _ _ ih
   exact this (f + 1)
  ·rw [Nat.succ_add]
   obtain ⟨i, hi⟩ := List.exists_mem_of_ne_nil _ hr
   have hopen : ∃ i, i < ops.size ∧ L.getD i true = false := by
    obtain ⟨h1, o, ho, _⟩ := mem_ready.1 hi
    exact ⟨i, (Array.getElem?_eq_some_iff.1 ho).1, h1⟩
   refine ⟨fun h0 => (by have := hb.back hok hi; rw [h0] at this; cases this), fun j hj => ?_⟩
   obtain ⟨hjt, hjr⟩ := hb.ready hok hj hopen
   exact wpOp_QF (wpOp_mono (fun a' w' h' => ih _ _ a' w' (hb.set hj hjt) h'.2) (h.2 j hjr))
theorem lex_tail {l : List Oper} {id : Nat} {a : Act} {w : World} {Q : Exit → Act → World → Prop} (hm : P.follows .mixedOrders = true) (n k : Nat) (tls : List Nat) (hn : l.toArray.size = n + k) (hok : tailOk l.toArray tls = true) (Inv : World → Prop)
  (h : wpI P l.toArray (fun a w => wpAny P .any l.toArray Q k (onlyTail (n + k) tls) a w) Inv n (untail (n + k) tls) a w.drew) : (Code.region id l.toArray true).wp P Q a w := by
 rw [← hn] at h
 have := wpI_tail (Q := Q) hok k n _ (Array.replicate l.toArray.size false) a w.drew (Both.start _ _) h
 rw [← hn] at this
 exact wp_region_any hm this
theorem tail_last {l : List Oper} {Q : Exit → Act → World → Prop} {a : Act} {w : World} {o : Oper} {L : Array Bool} (i : Nat) (hi : l[i]? = some o) (hg : Region.wanted o (yielded l.toArray a.tmps) = true) (hr : Region.ready .any l.toArray L = [i]) (he : Region.ready .any l.toArray (L.setIfInBounds i true) = [])
  (h : ∀ K : Act → World → Prop, (∀ a w, Q .normal a w → K a w) → o.wp P a w K Q) : wpAny P .any l.toArray Q 1 L a w := by
 refine ⟨fun h0 => (by rw [hr] at h0; cases h0), fun j hj => ?_⟩
 rw [hr] at hj
 simp only [List.mem_singleton] at hj
 subst hj
 exact wpOp_plain (by simpa using hi) hg (h _ fun a w hq => ⟨he, hq⟩)
theorem tail_next {l : List Oper} {Q : Exit → Act → World → Prop} {a : Act} {w : World} {o : Oper} {L : Array Bool} {k : Nat} (i : Nat) (hi : l[i]? = some o) (hg : Region.wanted o (yielded l.toArray a.tmps) = true) (hr : Region.ready .any l.toArray L = [i])
  (h : ∀ K : Act → World → Prop, (∀ a w, wpAny P .any l.toArray Q k (L.setIfInBounds i true) a w → K a w) → o.wp P a w K Q) : wpAny P .any l.toArray Q (k + 1) L a w := by
 refine ⟨fun h0 => (by rw [hr] at h0; cases h0), fun j hj => ?_⟩
 rw [hr] at hj
 simp only [List.mem_singleton] at hj
 subst hj
 exact wpOp_plain (by simpa using hi) hg (h _ fun a w hq => hq)
theorem tail_take {l : List Oper} {Q : Exit → Act → World → Prop} {a : Act} {w : World} {o : Oper} {L : Array Bool} {k : Nat} {v : Value} (i : Nat) (hi : l[i]? = some o) (hg : Region.wanted o (yielded l.toArray a.tmps) = true) (hr : Region.ready .any l.toArray L = [i])
  (he : (execOp a.eval o).run P w = .ok (.value v) w) (h : wpAny P .any l.toArray Q k (L.setIfInBounds i true) (a.put o.dst v) w) : wpAny P .any l.toArray Q (k + 1) L a w :=
 tail_next i hi hg hr fun K hK => wp_value he (hK _ _ h)
end
section
variable {P : Program} {ops : Array Oper}
def DetI (P : Program) (ops : Array Oper) (Inv : World → Prop) (o : Oper) (v : Value) (a : Act) : Prop :=
 (Region.wanted o (yielded ops a.tmps) = true ∧ ∀ w, Inv w → (∃ w', (execOp a.eval o).run P w = .ok (.value v) w' ∧ Inv w') ∨ (∃ f args w', (execOp a.eval o).run P w = .ok (.enter f args) w' ∧ Calls P f args w' fun e w'' => e = .returned v ∧ Inv w'')) ∨
 (Region.wanted o (yielded ops a.tmps) = false ∧ v = undef)
theorem DetI.of_same {Inv : World → Prop} {o : Oper} {v : Value} {a a' : Act} (hy : DetI P ops Inv o v a) (he : execOp a'.eval o = execOp a.eval o) (hw : Region.wanted o (yielded ops a'.tmps) = Region.wanted o (yielded ops a.tmps)) : DetI P ops Inv o v a' := by
 unfold DetI at *
 rw [he, hw]
 exact hy
theorem DetI.wpOp {Inv : World → Prop} {i : Nat} {o : Oper} {v : Value} {a : Act} {Q : Exit → Act → World → Prop} (hi : ops[i]? = some o) (hy : DetI P ops Inv o v a) {K : Act → World → Prop} {w : World} (hI : Inv w) (h : ∀ w', Inv w' → K (a.put o.dst v) w') : wpOp P ops Q i K a w := by
 unfold Go.wpOp
 simp only [hi]
 rcases hy with ⟨hw, hv⟩ | ⟨hw, rfl⟩
 ·simp only [hw, if_true]
  refine .inl ?_
  unfold Oper.wp
  rcases hv w hI with ⟨w', hr, hI'⟩ | ⟨f, args, w', hr, hc⟩
  ·rw [hr]; exact h w' hI'
  ·rw [hr]
   simp only [Oper.upon]
   refine hc.mono fun e w'' he => ?_
   obtain ⟨rfl, hI''⟩ := he
   exact h w'' hI''
 ·simp only [hw, Bool.false_eq_true, if_false]
  exact h w hI
def wpD (P : Program) (ops : Array Oper) (E : Act → World → Prop) (Inv : World → Prop) : Nat → Array Bool → Act → Prop
 | 0, listed, a => Region.ready .any ops listed = [] ∧ ∀ w, Inv w → E a w
 | f + 1, listed, a => ∃ i oi v, ops[i]? = some oi ∧ i ∈ Region.ready .any ops listed ∧
   (∀ j oj, ops[j]? = some oj → j ≠ i → listed.getD j true = false → (∀ e ∈ oj.after, Region.binds .any e = true → e.on ≠ i) → oi.apart ops oj = true) ∧
   DetI P ops Inv oi v a ∧ wpD P ops E Inv f (listed.setIfInBounds i true) (a.put oi.dst v)
theorem wpD_first {E : Act → World → Prop} {Inv : World → Prop} (hsel : ∀ (j : Nat) (o : Oper) cs b, ops[j]? = some o → o.op ≠ .select cs b) : ∀ (f : Nat) (listed : Array Bool) (a : Act), wpD P ops E Inv (f + 1) listed a →
  ∀ j ∈ Region.ready .any ops listed, ∃ oj v, ops[j]? = some oj ∧ DetI P ops Inv oj v a ∧ wpD P ops E Inv f (listed.setIfInBounds j true) (a.put oj.dst v) := by
 intro f
 induction f with
 | zero =>
  intro listed a h j hj
  obtain ⟨i, oi, v, hi, hr, hfree, hd, h0⟩ := h
  by_cases hji : j = i
  ·subst hji; exact ⟨oi, v, hi, hd, h0⟩
  ·have := ready_mono hj hji
   rw [h0.1] at this
   cases this
 | succ f ih =>
  intro listed a h j hj
  obtain ⟨i, oi, v, hi, hr, hfree, hd, h0⟩ := h
  by_cases hji : j = i
  ·subst hji; exact ⟨oi, v, hi, hd, h0⟩
  ·obtain ⟨oj, u, hoj, hdj, h1⟩ := ih _ _ h0 j (ready_mono hj hji)
   obtain ⟨hjun, oj', hoj', hall⟩ := mem_ready.1 hj
   obtain rfl : oj = oj' := by rw [hoj] at hoj'; exact Option.some.inj hoj'
   have hnot : ∀ e ∈ oj.after, Region.binds .any e = true → e.on ≠ i := fun e he hb heq => by
    have h1 := hall e he hb
    have h0 := (mem_ready.1 hr).1
    rw [heq] at h1
    rcases Nat.lt_or_ge i listed.size with h' | h'
    ·simp [h'] at h0 h1; rw [h0] at h1; cases h1
    ·simp [Array.getElem?_eq_none h'] at h1
   obtain ⟨h2, h3, h4⟩ := Oper.apart_spec (hfree j oj hoj hji hjun hnot)
   have hdj' : DetI P ops Inv oj u a := hdj.of_same (execOp_put oj (fun cs b => hsel j oj cs b hoj) a oi.dst v h2).symm (wanted_put oj a oi.dst v h2).symm
   refine ⟨oj, u, hoj, hdj', i, oi, v, hi, ready_mono hr (Ne.symm hji), fun k ok hk hki hun hno => ?_, hd.of_same (execOp_put oi (fun cs b => hsel i oi cs b hi) a oj.dst u h4) (wanted_put oi a oj.dst u h4), ?_⟩
   ·refine hfree k ok hk hki ?_ hno
    by_cases hjk : j = k
    ·subst hjk; exact hjun
    ·rw [getD_set_ne true hjk] at hun; exact hun
   ·rw [Array.setIfInBounds_comm _ _ hji, ← Act.put_comm a v u h3]
    exact h1
theorem wpD_all {E : Act → World → Prop} {Inv : World → Prop} (hsel : ∀ (j : Nat) (o : Oper) cs b, ops[j]? = some o → o.op ≠ .select cs b) : ∀ (f : Nat) (listed : Array Bool) (a : Act), wpD P ops E Inv f listed a → ∀ w, Inv w → wpI P ops E Inv f listed a w := by
 intro f
 induction f with
 | zero => exact fun listed a h w hI => ⟨h.1, h.2 w hI⟩
 | succ f ih =>
  intro listed a h w hI
  refine ⟨fun h0 => ?_, fun j hj => ?_⟩
  ·obtain ⟨i, _, _, _, hr, _⟩ := h
   rw [h0] at hr
   cases hr
  ·obtain ⟨oj, v, hoj, hd, h1⟩ := wpD_first hsel f listed a h j hj
   exact hd.wpOp hoj hI fun w' hI' => ⟨hI', ih _ _ h1 w' hI'⟩
theorem det_region {l : List Oper} {id : Nat} {a : Act} {w : World} {Q : Exit → Act → World → Prop} (hm : P.follows .mixedOrders = true) (n : Nat) (hn : l.toArray.size = n) (Inv : World → Prop) (hI : Inv w.drew) (hsel : Region.noSelect l.toArray = true) (h : wpD P l.toArray (fun a w => Q .normal a w) Inv n (Array.replicate n false) a) : (Code.region id l.toArray true).wp P Q a w :=
 lex_region hm n hn Inv (wpD_all (Region.noSelect_spec hsel) _ _ _ h _ hI)
theorem det_take {l : List Oper} {E : Act → World → Prop} {Inv : World → Prop} (i : Nat) {oi : Oper} {v : Value} {f : Nat} {listed : Array Bool} {a : Act} (hi : l[i]? = some oi) (hok : lexOk l.toArray listed i = true) (hw : Region.wanted oi (yielded l.toArray a.tmps) = true)
  (hy : ∀ w, Inv w → (execOp a.eval oi).run P w = .ok (.value v) w) (h : wpD P l.toArray E Inv f (listed.setIfInBounds i true) (a.put oi.dst v)) : wpD P l.toArray E Inv (f + 1) listed a := by
 simp only [lexOk, Bool.and_eq_true] at hok
 exact ⟨i, oi, v, by simpa using hi, by simpa using hok.2, Region.free_spec (by simpa using hi) hok.1.2, .inl ⟨hw, fun w hI => .inl ⟨w, hy w hI, hI⟩⟩, h⟩
theorem detT {l : List Oper} {E : Act → World → Prop} {Inv : World → Prop} (i : Nat) {oi : Oper} {v : Value} {f : Nat} {listed : Array Bool} {a a' : Act} (hi : l[i]? = some oi) (hy : ∀ w, Inv w → (execOp a.eval oi).run P w = .ok (.value v) w)
  (h : wpD P l.toArray E Inv f (listed.setIfInBounds i true) a') (hok : lexOk l.toArray listed i = true := by decide +kernel) (hw : Region.wanted oi (yielded l.toArray a.tmps) = true := by first | exact wanted_none rfl | exact wanted_some rfl rfl) (ha : a.put oi.dst v = a' := by first | (simp only [kP, kA, kS, kZ]; done) | (simp only [kP, kA, kS, kZ]; exact rfl) | exact rfl) : wpD P l.toArray E Inv (f + 1) listed a := det_take i hi hok hw hy (ha ▸ h)
theorem detS {l : List Oper} {E : Act → World → Prop} {Inv : World → Prop} (i : Nat) {oi : Oper} {v : Value} {f : Nat} {listed : Array Bool} {a a' : Act} (hi : l[i]? = some oi)
  (h : wpD P l.toArray E Inv f (listed.setIfInBounds i true) a') (hok : lexOk l.toArray listed i = true := by decide +kernel) (hw : Region.wanted oi (yielded l.toArray a.tmps) = true := by first | exact wanted_none rfl | exact wanted_some rfl rfl)
  (hy : ∀ w, Inv w → (execOp a.eval oi).run P w = .ok (.value v) w := by intro _ _; first | (go_simp; done) | (go_simp; rfl)) (ha : a.put oi.dst v = a' := by first | (simp only [kP, kA, kS, kZ]; done) | (simp only [kP, kA, kS, kZ]; exact rfl) | exact rfl) : wpD P l.toArray E Inv (f + 1) listed a := det_take i hi hok hw hy (ha ▸ h)
theorem det_skip {l : List Oper} {E : Act → World → Prop} {Inv : World → Prop} (i : Nat) {oi : Oper} {f : Nat} {listed : Array Bool} {a : Act} (hi : l[i]? = some oi) (hok : lexOk l.toArray listed i = true) (hw : Region.wanted oi (yielded l.toArray a.tmps) = false)
  (h : wpD P l.toArray E Inv f (listed.setIfInBounds i true) (a.put oi.dst undef)) : wpD P l.toArray E Inv (f + 1) listed a := by
 simp only [lexOk, Bool.and_eq_true] at hok
 exact ⟨i, oi, undef, by simpa using hi, by simpa using hok.2, Region.free_spec (by simpa using hi) hok.1.2, .inr ⟨hw, rfl⟩, h⟩
theorem detK {l : List Oper} {E : Act → World → Prop} {Inv : World → Prop} (i : Nat) {oi : Oper} {f : Nat} {listed : Array Bool} {a a' : Act} (hi : l[i]? = some oi)
  (h : wpD P l.toArray E Inv f (listed.setIfInBounds i true) a') (hok : lexOk l.toArray listed i = true := by decide +kernel) (hw : Region.wanted oi (yielded l.toArray a.tmps) = false := by first | (simp [Region.wanted, yielded]; done) | (simp [Region.wanted, yielded, undef]; done)) (ha : a.put oi.dst undef = a' := by first | (simp only [kP, kA, kS, kZ]; done) | (simp only [kP, kA, kS, kZ]; exact rfl) | exact rfl) : wpD P l.toArray E Inv (f + 1) listed a := det_skip i hi hok hw (ha ▸ h)
theorem det_call {l : List Oper} {E : Act → World → Prop} {Inv : World → Prop} (i : Nat) {oi : Oper} {v : Value} {f : Nat} {listed : Array Bool} {a : Act} {fn : Nat} {args : Array Value} (hi : l[i]? = some oi) (hok : lexOk l.toArray listed i = true) (hw : Region.wanted oi (yielded l.toArray a.tmps) = true)
  (he : ∀ w, (execOp a.eval oi).run P w = .ok (.enter fn args) w) (hy : ∀ w, Inv w → Calls P fn args w fun e w' => e = .returned v ∧ Inv w') (h : wpD P l.toArray E Inv f (listed.setIfInBounds i true) (a.put oi.dst v)) : wpD P l.toArray E Inv (f + 1) listed a := by
 simp only [lexOk, Bool.and_eq_true] at hok
 exact ⟨i, oi, v, by simpa using hi, by simpa using hok.2, Region.free_spec (by simpa using hi) hok.1.2, .inl ⟨hw, fun w hI => .inr ⟨fn, args, w, he w, hy w hI⟩⟩, h⟩
theorem det_done {l : List Oper} {E : Act → World → Prop} {Inv : World → Prop} {listed : Array Bool} {a : Act} (hr : Region.ready .any l.toArray listed = []) (h : ∀ w, Inv w → E a w) : wpD P l.toArray E Inv 0 listed a := ⟨hr, h⟩
end
abbrev ba (l : List UInt8) : ByteArray := ⟨l.toArray⟩
section
variable {P : Program} {w : World} {ops : Array Oper} {rest : List Oper} {o : Oper} {A : Act} {Q : Exit → Act → World → Prop}
end
theorem run_cell_one {P : Program} {o : Oper} {A : Act} {w : World} (T : TypeId) (x : Operand) (ho : o.op = .load T x) (hagg : ∀ w, (isAgg T).run P w = .ok false w) (g off : Nat) (hx : A.eval x = .pointer (some ⟨g, off, none⟩)) (v : Value) (hc : w.cell? ⟨g, off, none⟩ = some v) :
  (execOp A.eval o).run P w = .ok (.value v) w := by
 simp only [execOp, ho, hx, Instr.loadAt, Instr.sureAddr, loadVar, Sem.run_bind, Sem.run_pure, Result.andThen_ok, hagg]
 simp [load, Sem.run, hc, Result.andThen]
end Go.Proofs.Ytealbofmlieicaa
