/- Walks and plain laws that the claim rests on, part 9. -/
import Derived.Test.YtemjnojfhbbapaaP7
import Derived.Test.YtemjnojfhbbapaaP3
import Derived.Shelf.Abstract
set_option linter.unusedSimpArgs false
set_option linter.unusedVariables false
/- The walk through line.Answered's closure and the library's IndexFunc with it. -/
namespace Go.Proofs.Ytemjnojfhbbapaa
open Go.RowKit

/-- A list of ours, opened: the block that it lies in, cell for cell. -/
theorem Own.open {base : Nat} {e : TypeId} {w : World} {α : Type} {sz : Nat} {R : List Value → α → Prop} {a : Option Addr} {c : Nat} {xs : List α} (h : Own base e w sz R a c xs) :
    (a = none ∧ xs = []) ∨ ∃ (g : Nat) (css : List (List Value)) (rest : List Value), a = some ⟨g, 0, none⟩ ∧ base ≤ g ∧ w.heap[g]? = some (.cells (css.flatten ++ rest).toArray e (0, 0)) ∧ css.length = xs.length ∧ (∀ cs ∈ css, cs.length = sz ∧ ∀ v ∈ cs, v.oneCell' = true) ∧
      (∀ (i : Nat) (x : α) (cs : List Value), xs[i]? = some x → css[i]? = some cs → R cs x) ∧ c ≤ maxLen ∧ xs.length ≤ c ∧ (css.flatten ++ rest).length = c * sz := by
  obtain ⟨css, h1, h2, h3, h4, h5⟩ := h
  rcases h5 with ⟨e1, e2⟩ | ⟨g, cap, cur, e1, hb, hg, hn, hm, hs, ht⟩
  · simp at e1
    exact .inl ⟨e1.1, List.eq_nil_of_length_eq_zero e2⟩
  · simp only [Value.slice.injEq] at e1
    obtain ⟨rfl, _, rfl⟩ := e1
    have hc : css.flatten ++ cur.toList.drop (xs.length * sz) = cur.toList := by rw [← ht, List.take_append_drop]
    refine .inr ⟨g, css, cur.toList.drop (xs.length * sz), rfl, hb, ?_, h1, h2, h3, hm, hn, ?_⟩
    · rw [hc]; simpa using hg
    · rw [hc]; simpa using hs

set_option maxHeartbeats 400000 in
/-- The closure: is it the one that is answered? -/
abbrev atSeq (seq : Int) (s : Sent) : Bool := s.frame.seq == seq

end Go.Proofs.Ytemjnojfhbbapaa

/- The walk through the library's DeleteFunc with line.Answered's closure. -/
namespace Go.Proofs.Ytemjnojfhbbapaa
open Go.RowKit

theorem flat_at {sz : Nat} {rest : List Value} : ∀ {css : List (List Value)}, (∀ cs ∈ css, cs.length = sz) → ∀ {i : Nat} {cs : List Value}, css[i]? = some cs → ((css.flatten ++ rest).drop (i * sz)).take sz = cs
  | [], _, i, cs, h => by simp at h
  | c0 :: css, hs, 0, cs, h => by
    simp at h
    subst h
    have := hs c0 (by simp)
    simp [List.take_append_of_le_length, ← this]
  | c0 :: css, hs, i + 1, cs, h => by
    have hc := hs c0 (by simp)
    have := flat_at (rest := rest) (css := css) (fun c hc => hs c (by simp [hc])) (i := i) (cs := cs) (by simpa using h)
    rw [← this]
    simp only [List.flatten_cons, List.append_assoc]
    rw [show (i + 1) * sz = c0.length + i * sz by rw [hc, Nat.succ_mul]; omega, ← List.drop_drop, List.drop_left]

theorem putL_skip : ∀ (us : List Value) {cs vs : List Value} (o : Nat), putL (us ++ cs) (us.length + o) vs = us ++ putL cs o vs
  | [], _, _, o => by simp
  | u :: us, cs, vs, o => by
    have := putL_skip us (cs := cs) (vs := vs) o
    simp only [List.cons_append, List.length_cons]
    rw [show us.length + 1 + o = us.length + o + 1 by omega]
    simp only [putL, this]

theorem putL_front : ∀ {cs vs rest : List Value}, vs.length = cs.length → putL (cs ++ rest) 0 vs = vs ++ rest
  | [], [], rest, _ => by cases rest <;> rfl
  | [], _ :: _, _, h => by simp at h
  | _ :: _, [], _, h => by simp at h
  | c :: cs, v :: vs, rest, h => by simp only [List.cons_append, putL]; rw [putL_front (by simpa using h)]

theorem flat_put {sz : Nat} {rest vs : List Value} (hv : vs.length = sz) : ∀ {css : List (List Value)}, (∀ cs ∈ css, cs.length = sz) → ∀ {i : Nat}, i < css.length → putL (css.flatten ++ rest) (i * sz) vs = (css.set i vs).flatten ++ rest
  | [], _, i, h => by simp at h
  | c0 :: css, hs, 0, h => by
    have hc := hs c0 (by simp)
    simp only [List.flatten_cons, List.append_assoc, Nat.zero_mul, List.set_cons_zero]
    exact putL_front (by omega)
  | c0 :: css, hs, i + 1, h => by
    have hc := hs c0 (by simp)
    have := flat_put (rest := rest) hv (css := css) (fun c hc => hs c (by simp [hc])) (i := i) (by simpa using h)
    simp only [List.flatten_cons, List.append_assoc, List.set_cons_succ]
    rw [show (i + 1) * sz = c0.length + i * sz by rw [hc, Nat.succ_mul]; omega, putL_skip, this]

theorem flat_len {sz : Nat} {css : List (List Value)} (h : ∀ cs ∈ css, cs.length = sz) : css.flatten.length = css.length * sz := flatten_length h

theorem zero_cells (z : Array Value) (hz : 0 < z.size) (n : Nat) : (Builtin.zeroCells z n).toList = (List.replicate n z.toList).flatten := by
  apply List.ext_getElem?
  intro i
  have hl : ∀ cs ∈ List.replicate n z.toList, cs.length = z.size := fun cs h => by rw [List.eq_of_mem_replicate h]; simp
  by_cases hi : i < n * z.size
  · have h1 : i / z.size < n := Nat.div_lt_of_lt_mul (by rwa [Nat.mul_comm])
    have h2 := flatten_at hl (i := i / z.size) (cs := z.toList) (by rw [List.getElem?_replicate, if_pos h1]) (j := i % z.size) (v := z[i % z.size]'(Nat.mod_lt _ hz)) (by simp [List.getElem?_eq_getElem, Nat.mod_lt _ hz])
    rw [Nat.mul_comm, Nat.div_add_mod] at h2
    rw [h2]
    simp [Builtin.zeroCells, Array.getElem?_ofFn, hi, Nat.mod_lt _ hz]
  · rw [List.getElem?_eq_none, List.getElem?_eq_none]
    · rw [flatten_length hl]; simp; omega
    · simp [Builtin.zeroCells]; omega

theorem wpList_clear {P : Program} {w0 w : World} {M : List Nat} {own : Blks} {ops : Array Oper} {rest : List Oper} {o : Oper} {A : Act} {Q : Exit → Act → World → Prop} (st : St M w0 w own) (hgd : Region.wanted o (yielded ops A.tmps) = true) (x : Operand) (t e : TypeId)
    (ho : o.op = .call { callee := .builtin .clear, args := #[x], argTypes := #[t] }) (ht : P.underlying t = some (.slice e)) (z : Value) (hz : ∀ w, (zeroValue e).run P w = .ok z w) (zs : List Value) (hzs : z.cells.toList = zs) (hz0 : 0 < zs.length) (h1 : zs.all Value.oneCell' = true)
    (g off n c : Nat) (hx : A.eval x = .slice (some ⟨g, off, none⟩) n c) (hn : 0 < n) (i : Nat) (T : TypeId) (cs : List Value) (hi : own[i]? = some (g, T, cs)) (hle : off + n * zs.length ≤ cs.length)
    (h : ∀ w', St M w0 w' (own.set i (g, T, putL cs off (List.replicate n zs).flatten)) → w'.heap.size = w.heap.size → wpList P ops Q rest (A.put o.dst (.tuple #[])) w') : wpList P ops Q (o :: rest) A w := by
  have hsz : z.cells.size = zs.length := by rw [← hzs]; simp
  have hlz : ∀ cs ∈ List.replicate n zs, cs.length = zs.length := fun cs h => by rw [List.eq_of_mem_replicate h]
  have hvl : (List.replicate n zs).flatten.length = n * zs.length := by rw [flatten_length hlz]; simp
  have hzc : (Builtin.zeroCells z.cells n).toList = (List.replicate n zs).flatten := by rw [zero_cells _ (by omega), hzs]
  have hone : ∀ u ∈ (List.replicate n zs).flatten, u.oneCell' = true := fun u hu => by
    obtain ⟨cs, hcs, hu⟩ := List.mem_flatten.1 hu
    rw [List.eq_of_mem_replicate hcs] at hu
    exact List.all_eq_true.1 h1 u hu
  have hst : (storeCells ⟨g, off, none⟩ (List.replicate n zs).flatten 0).run P w = .ok () (w.setCells g off (List.replicate n zs).flatten) := run_storeCells_cells (P := P) g off _ 0 w
    (fun j hj => by rw [Nat.add_zero, st.cell hi]; rw [List.getElem?_eq_getElem (by omega)]; rfl) (fun j hj => by rw [Nat.add_zero]; exact st.free hi _) hone
  obtain ⟨a1, a2, a3, a4, a5, a6⟩ := setCells_block (w := w) (List.replicate n zs).flatten off cs (st.blk _ (List.mem_of_getElem? hi))
  have hs' := st.put hi a1 a2 a3 a4 a5 a6
  obtain ⟨m, rfl⟩ : ∃ m, n = m + 1 := ⟨n - 1, by omega⟩
  have hrun : ∀ ty, (Builtin.clear_ #[t] ty #[.slice (some ⟨g, off, none⟩) (m + 1) c]).run P w = .ok (.tuple #[]) (w.setCells g off (List.replicate (m + 1) zs).flatten) := fun ty => by
    simp [Builtin.clear_, run_underlying ht, hz, hzc, hst]
  refine wpList_wanted hgd fun K hK => ?_
  unfold Oper.wp
  simp [execOp, ho, resolve, invoke, builtin, hx, hrun, Result.andThen]
  exact hK _ _ (h _ hs' a3)

theorem putL_before : ∀ {cs : List Value} {o : Nat} {vs : List Value} {p : Nat}, p < o → (putL cs o vs)[p]? = cs[p]?
  | [], _, _, _, _ => by simp [putL]
  | c :: cs, 0, _, _, h => by omega
  | c :: cs, o + 1, vs, 0, _ => by simp [putL]
  | c :: cs, o + 1, vs, p + 1, h => by simp only [putL, List.getElem?_cons_succ]; exact putL_before (by omega)

/-- The front of a block, as a slice. -/
theorem SlR.front {w : World} {g : Nat} {T : TypeId} {cells : List Value} {cur : List (List Value)} {sz c : Nat} {α : Type} {R : List Value → α → Prop} {xs : List α} (hg : w.heap[g]? = some (.cells cells.toArray T (0, 0))) (hc : ∀ cs ∈ cur, cs.length = sz ∧ ∀ v ∈ cs, v.oneCell' = true)
    (hn : xs.length ≤ cur.length) (hcell : ∀ p, p < xs.length * sz → cells[p]? = cur.flatten[p]?) (hR : ∀ (m : Nat) (x : α) (cs : List Value), xs[m]? = some x → cur[m]? = some cs → R cs x) (hxc : xs.length ≤ c) (hcm : c ≤ maxLen) {ok : Nat → Prop} (ho : ok g) : SlR ok w sz R (some ⟨g, 0, none⟩) c xs := by
  refine ⟨hxc, hcm, by simp, fun i x hx => ?_⟩
  have hi := (List.getElem?_eq_some_iff.1 hx).1
  have hcur : cur[i]? = some (cur[i]'(by omega)) := List.getElem?_eq_getElem _
  have hcs := hc _ (List.mem_of_getElem? hcur)
  refine ⟨g, 0, cur[i]'(by omega), rfl, ho, (Array.getElem?_eq_some_iff.1 hg).1, hR i x _ hx hcur, hcs.1, hcs.2, fun j v hv => ?_⟩
  have hj := (List.getElem?_eq_some_iff.1 hv).1
  rw [hcs.1] at hj
  rw [cell_of_row w g _ cells.toArray T (0, 0) hg, List.getElem?_toArray, Nat.zero_add, hcell _ (by
    have : (i + 1) * sz ≤ xs.length * sz := Nat.mul_le_mul_right _ hi
    rw [Nat.succ_mul] at this
    omega)]
  exact flatten_at (fun cs h => (hc cs h).1) hcur hv

/-- Those that are kept. -/
abbrev offSeq (seq : Int) (s : Sent) : Bool := !(s.frame.seq == seq)

theorem del_keep {R : List Value → Sent → Prop} {q : Sent → Bool} {l : List Sent} {cur css : List (List Value)} {i j : Nat} (hjl : j < l.length) (hjc : j < css.length) (hq : q l[j] = true) (hi : i = ((l.take j).filter q).length) (hij : i < j) (hl : cur.length = l.length)
    (hB : ∀ (m : Nat) (x : Sent) (cs : List Value), ((l.take j).filter q)[m]? = some x → cur[m]? = some cs → R cs x) (hC : ∀ m, j ≤ m → cur[m]? = css[m]?) (hR : R css[j] l[j]) :
    i + 1 = ((l.take (j + 1)).filter q).length ∧ (∀ (m : Nat) (x : Sent) (cs : List Value), ((l.take (j + 1)).filter q)[m]? = some x → (cur.set i css[j])[m]? = some cs → R cs x) ∧ (∀ m, j + 1 ≤ m → (cur.set i css[j])[m]? = css[m]?) := by
  have e : (l.take (j + 1)).filter q = (l.take j).filter q ++ [l[j]] := by
    rw [List.take_succ_eq_append_getElem hjl, List.filter_append]
    simp [hq]
  rw [e]
  refine ⟨by simp [← hi], fun m x cs hx hc => ?_, fun m hm => ?_⟩
  · by_cases hm : m < i
    · rw [List.getElem?_append_left (by omega)] at hx
      rw [List.getElem?_set_ne (by omega)] at hc
      exact hB m x cs hx hc
    · have hlen := (List.getElem?_eq_some_iff.1 hx).1
      rw [List.length_append, ← hi, List.length_singleton] at hlen
      obtain rfl : m = i := by omega
      rw [List.getElem?_append_right (by omega), ← hi] at hx
      simp at hx
      rw [List.getElem?_set_self (by omega)] at hc
      simp at hc
      rw [← hx, ← hc]
      exact hR
  · rw [List.getElem?_set_ne (by omega)]
    exact hC m (by omega)

theorem del_drop {q : Sent → Bool} {l : List Sent} {j : Nat} (hjl : j < l.length) (hq : q l[j] = false) : (l.take (j + 1)).filter q = (l.take j).filter q := by
  rw [List.take_succ_eq_append_getElem hjl, List.filter_append]
  simp [hq]

end Go.Proofs.Ytemjnojfhbbapaa
