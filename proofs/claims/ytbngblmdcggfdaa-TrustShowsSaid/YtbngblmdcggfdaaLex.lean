/- A region that draws its order, walked once: what only reads may come first, if what it reads stands under a fact that all the others keep. No program is in sight. -/
import Derived.Test.YtbngblmdcggfdaaRegion
import Derived.Test.YtbngblmdcggfdaaMemP
import Derived.Orders
set_option linter.unusedSimpArgs false
set_option linter.unusedVariables false
namespace Go.Proofs.Ytbngblmdcggfdaa
open Go.RowKit

/-- No way out but the end. -/
def QF : Exit → Act → World → Prop := fun _ _ _ => False

section
variable {P : Program} {ops : Array Oper}

theorem wp_QF {o : Oper} {a : Act} {w : World} {K : Act → World → Prop} {Q : Exit → Act → World → Prop} (h : o.wp P a w K QF) : o.wp P a w K Q := by
  unfold Oper.wp at *
  generalize (execOp a.eval o).run P w = r at *
  cases r with
  | ok n w' =>
    cases n <;> simp only [Oper.upon] at h ⊢
    case value => exact h
    case skip => exact h
    case defer => exact h
    case enter f args =>
      refine Calls.mono h fun e w'' he => ?_
      cases e with
      | returned u => exact he
      | panicked c => exact he.elim
      | outgrown => obtain ⟨_, _, h⟩ := he; exact h.elim
    case row row args => exact h
  | halt x w' =>
    cases x <;> simp only [Oper.upon] at h ⊢
    case panic u => exact h.elim

theorem wpOp_QF {i : Nat} {a : Act} {w : World} {K : Act → World → Prop} {Q : Exit → Act → World → Prop} (h : wpOp P ops QF i K a w) : wpOp P ops Q i K a w := by
  unfold wpOp at *
  cases ho : ops[i]? with
  | none => simpa [ho] using h
  | some o =>
    simp only [ho] at h ⊢
    split
    · rename_i hw
      simp only [hw, if_true] at h
      rcases h with h | ⟨_, _, _, h⟩
      · exact .inl (wp_QF h)
      · exact h.elim
    · rename_i hw
      simpa [hw] using h

/-- The region from here on, each of its worlds under Inv. -/
def wpI (P : Program) (ops : Array Oper) (E : Act → World → Prop) (Inv : World → Prop) : Nat → Array Bool → Act → World → Prop
  | 0, listed, a, w => Region.ready .any ops listed = [] ∧ E a w
  | f + 1, listed, a, w => (Region.ready .any ops listed = [] → E a w) ∧ ∀ i ∈ Region.ready .any ops listed, wpOp P ops QF i (fun a' w' => Inv w' ∧ wpI P ops E Inv f (listed.setIfInBounds i true) a' w') a w

theorem wpI_any {E : Act → World → Prop} {Inv : World → Prop} {Q : Exit → Act → World → Prop} (hE : ∀ a w, E a w → Q .normal a w) : ∀ (f : Nat) (listed : Array Bool) (a : Act) (w : World), wpI P ops E Inv f listed a w → wpAny P .any ops Q f listed a w
  | 0, _, _, _, h => ⟨h.1, hE _ _ h.2⟩
  | f + 1, _, _, _, h => ⟨fun hr => hE _ _ (h.1 hr), fun i hi => wpOp_QF (wpOp_mono (fun _ _ hk => wpI_any hE f _ _ _ hk.2) (h.2 i hi))⟩

theorem lex_region {id : Nat} {a : Act} {w : World} {Q : Exit → Act → World → Prop} (hm : P.follows .mixedOrders = true) (n : Nat) (hn : ops.size = n) (Inv : World → Prop) (h : wpI P ops (fun a w => Q .normal a w) Inv n (Array.replicate n false) a w.drew) : (Code.region id ops true).wp P Q a w := by
  subst hn
  exact wp_region_any hm (wpI_any (fun _ _ h => h) _ _ _ _ h)

/-- The operation yields v in each world under Inv; or it is not wanted. -/
def YieldsI (P : Program) (ops : Array Oper) (Inv : World → Prop) (o : Oper) (v : Value) (a : Act) : Prop :=
  (Region.wanted o (yielded ops a.tmps) = true ∧ ∀ w, Inv w → (execOp a.eval o).run P w = .ok (.value v) w) ∨ (Region.wanted o (yielded ops a.tmps) = false ∧ v = undef)

theorem YieldsI.of_same {Inv : World → Prop} {o : Oper} {v : Value} {a a' : Act} (hy : YieldsI P ops Inv o v a) (he : execOp a'.eval o = execOp a.eval o) (hw : Region.wanted o (yielded ops a'.tmps) = Region.wanted o (yielded ops a.tmps)) : YieldsI P ops Inv o v a' := by
  unfold YieldsI at *
  rw [he, hw]
  exact hy

theorem YieldsI.wpOp {Inv : World → Prop} {i : Nat} {o : Oper} {v : Value} {a : Act} {Q : Exit → Act → World → Prop} (hi : ops[i]? = some o) (hy : YieldsI P ops Inv o v a) {K : Act → World → Prop} {w : World} (hI : Inv w) (h : K (a.put o.dst v) w) : wpOp P ops Q i K a w := by
  unfold Go.wpOp
  simp only [hi]
  rcases hy with ⟨hw, hv⟩ | ⟨hw, rfl⟩
  · simp only [hw, if_true, Oper.wp, hv w hI, Oper.upon]; exact .inl h
  · simp only [hw, Bool.false_eq_true, if_false]; exact h

theorem wpOp_putI {Inv : World → Prop} {j : Nat} {oi oj : Oper} {v : Value} (hj : ops[j]? = some oj) (hap : oi.apart ops oj = true) (hsi : ∀ cs b, oi.op ≠ .select cs b) (hsj : ∀ cs b, oj.op ≠ .select cs b) {K : Act → World → Prop} {a : Act} {w : World}
    (hy : YieldsI P ops Inv oi v a) (h : wpOp P ops QF j K (a.put oi.dst v) w) : wpOp P ops QF j (fun a' w' => YieldsI P ops Inv oi v a' ∧ K (a'.put oi.dst v) w') a w := by
  obtain ⟨h1, h2, h3⟩ := Oper.apart_spec hap
  have keep : ∀ (a : Act), YieldsI P ops Inv oi v a → ∀ u, YieldsI P ops Inv oi v (a.put oj.dst u) := fun a hy u =>
    hy.of_same (execOp_put oi hsi a oj.dst u h3) (wanted_put oi a oj.dst u h3)
  have keepD : ∀ d, YieldsI P ops Inv oi v { a with defers := d :: a.defers } := fun d => hy.of_same rfl rfl
  unfold wpOp at *
  simp only [hj] at *
  rw [wanted_put oj a oi.dst v h1] at h
  split
  · rename_i hw
    simp only [hw, if_true] at h
    rcases h with h | ⟨_, _, _, h⟩
    case inr => exact h.elim
    refine .inl ?_
    unfold Oper.wp at *
    rw [execOp_put oj hsj a oi.dst v h1] at h
    generalize (execOp a.eval oj).run P w = r at *
    cases r with
    | ok n w' =>
      cases n <;> simp only [Oper.upon] at h ⊢
      case value u => exact ⟨keep a hy u, by rw [← Act.put_comm a v u h2]; exact h⟩
      case skip => exact ⟨keep a hy _, by rw [← Act.put_comm a v undef h2]; exact h⟩
      case defer d =>
        refine ⟨keep _ (keepD d) _, ?_⟩
        rw [← Act.put_comm _ v undef h2, ← Act.put_defers]
        exact h
      case enter f args =>
        refine Calls.mono h fun e w'' he => ?_
        cases e with
        | returned u => exact ⟨keep a hy u, by rw [← Act.put_comm a v u h2]; exact he⟩
        | panicked c => exact he.elim
        | outgrown => exact he
      case row row args => exact Rows.mono h fun u w'' he => ⟨keep a hy u, by rw [← Act.put_comm a v u h2]; exact he⟩
    | halt x w' =>
      cases x <;> simp only [Oper.upon] at h ⊢
      case panic u => exact h.elim
  · rename_i hw
    simp only [hw] at h
    exact ⟨keep a hy _, by rw [← Act.put_comm a v undef h2]; exact h⟩

theorem wpI_first {E : Act → World → Prop} {Inv : World → Prop} {i : Nat} {oi : Oper} {v : Value} (hi : ops[i]? = some oi) (hsel : ∀ (j : Nat) (o : Oper) cs b, ops[j]? = some o → o.op ≠ .select cs b) :
    ∀ (fuel : Nat) (listed : Array Bool) (a : Act) (w : World),
      (∀ j oj, ops[j]? = some oj → j ≠ i → listed.getD j true = false → (∀ e ∈ oj.after, Region.binds .any e = true → e.on ≠ i) → oi.apart ops oj = true) →
      i ∈ Region.ready .any ops listed → YieldsI P ops Inv oi v a → Inv w →
      wpI P ops E Inv fuel (listed.setIfInBounds i true) (a.put oi.dst v) w → wpI P ops E Inv (fuel + 1) listed a w := by
  intro fuel
  induction fuel with
  | zero =>
    intro listed a w _ hr hy hI H
    refine ⟨fun h => (by rw [h] at hr; cases hr), fun j hj => ?_⟩
    by_cases hji : j = i
    · subst hji; exact hy.wpOp hi hI ⟨hI, H⟩
    · have := ready_mono hj hji
      rw [H.1] at this
      cases this
  | succ fuel ih =>
    intro listed a w hfree hr hy hI H
    refine ⟨fun h => (by rw [h] at hr; cases hr), fun j hj => ?_⟩
    by_cases hji : j = i
    · subst hji; exact hy.wpOp hi hI ⟨hI, H⟩
    · have h1 := H.2 j (ready_mono hj hji)
      obtain ⟨hjun, oj, hoj, hall⟩ := mem_ready.1 hj
      have hnot : ∀ e ∈ oj.after, Region.binds .any e = true → e.on ≠ i := fun e he hb heq => by
        have h1 := hall e he hb
        have h0 := (mem_ready.1 hr).1
        rw [heq] at h1
        rcases Nat.lt_or_ge i listed.size with h' | h'
        · simp [h'] at h0 h1; rw [h0] at h1; cases h1
        · simp [Array.getElem?_eq_none h'] at h1
      have h2 := wpOp_putI hoj (hfree j oj hoj hji hjun hnot) (fun cs b => hsel i oi cs b hi) (fun cs b => hsel j oj cs b hoj) hy h1
      have hfree' : ∀ k ok, ops[k]? = some ok → k ≠ i → (listed.setIfInBounds j true).getD k true = false →
          (∀ e ∈ ok.after, Region.binds .any e = true → e.on ≠ i) → oi.apart ops ok = true := fun k ok hk hki hun hno => by
        refine hfree k ok hk hki ?_ hno
        by_cases hjk : j = k
        · subst hjk; exact hjun
        · rw [getD_set_ne true hjk] at hun; exact hun
      refine wpOp_mono (fun a' w' h3 => ⟨h3.2.1, ih (listed.setIfInBounds j true) a' w' hfree' (ready_mono hr (Ne.symm hji)) h3.1 h3.2.1 ?_⟩) h2
      rw [Array.setIfInBounds_comm _ _ hji]
      exact h3.2.2

/-- May the i-th be taken next? -/
def lexOk (ops : Array Oper) (listed : Array Bool) (i : Nat) : Bool := Region.noSelect ops && Region.free .any ops listed i && (Region.ready .any ops listed).contains i

/-- What only reads is taken. -/
theorem lex_take {l : List Oper} {E : Act → World → Prop} {Inv : World → Prop} (i : Nat) {oi : Oper} {v : Value} {f : Nat} {listed : Array Bool} {a : Act} {w : World} (hi : l[i]? = some oi) (hok : lexOk l.toArray listed i = true) (hw : Region.wanted oi (yielded l.toArray a.tmps) = true) (hI : Inv w)
    (hy : ∀ w, Inv w → (execOp a.eval oi).run P w = .ok (.value v) w) (h : wpI P l.toArray E Inv f (listed.setIfInBounds i true) (a.put oi.dst v) w) : wpI P l.toArray E Inv (f + 1) listed a w := by
  simp only [lexOk, Bool.and_eq_true] at hok
  exact wpI_first (by simpa using hi) (Region.noSelect_spec hok.1.1) f listed a w (Region.free_spec (by simpa using hi) hok.1.2) (by simpa using hok.2) (.inl ⟨hw, hy⟩) hI h

/-- What is not wanted is passed by. -/
theorem lex_skip {l : List Oper} {E : Act → World → Prop} {Inv : World → Prop} (i : Nat) {oi : Oper} {f : Nat} {listed : Array Bool} {a : Act} {w : World} (hi : l[i]? = some oi) (hok : lexOk l.toArray listed i = true) (hw : Region.wanted oi (yielded l.toArray a.tmps) = false) (hI : Inv w)
    (h : wpI P l.toArray E Inv f (listed.setIfInBounds i true) (a.put oi.dst undef) w) : wpI P l.toArray E Inv (f + 1) listed a w := by
  simp only [lexOk, Bool.and_eq_true] at hok
  exact wpI_first (by simpa using hi) (Region.noSelect_spec hok.1.1) f listed a w (Region.free_spec (by simpa using hi) hok.1.2) (by simpa using hok.2) (.inr ⟨hw, rfl⟩) hI h

/-- The only one that is ready: it may do what it likes, but for Inv. -/
theorem lex_only {l : List Oper} {E : Act → World → Prop} {Inv : World → Prop} (i : Nat) {oi : Oper} {f : Nat} {listed : Array Bool} {a : Act} {w : World} (hi : l[i]? = some oi) (hr : Region.ready .any l.toArray listed = [i]) (hw : Region.wanted oi (yielded l.toArray a.tmps) = true)
    (h : ∀ K : Act → World → Prop, (∀ a' w', Inv w' → wpI P l.toArray E Inv f (listed.setIfInBounds i true) a' w' → K a' w') → oi.wp P a w K QF) : wpI P l.toArray E Inv (f + 1) listed a w := by
  refine ⟨fun h0 => (by rw [hr] at h0; cases h0), fun j hj => ?_⟩
  rw [hr] at hj
  simp only [List.mem_singleton] at hj
  subst hj
  refine wpOp_plain (by simpa using hi) hw (h _ fun a' w' h1 h2 => ⟨h1, h2⟩)

/-- Whichever is ready is taken. -/
theorem lex_each {l : List Oper} {E : Act → World → Prop} {Inv : World → Prop} (rs : List Nat) {f : Nat} {listed : Array Bool} {a : Act} {w : World} (hr : Region.ready .any l.toArray listed = rs) (hne : rs ≠ [])
    (h : ∀ i ∈ rs, ∀ K : Act → World → Prop, (∀ a' w', Inv w' → wpI P l.toArray E Inv f (listed.setIfInBounds i true) a' w' → K a' w') → ∃ oi, l[i]? = some oi ∧ Region.wanted oi (yielded l.toArray a.tmps) = true ∧ oi.wp P a w K QF) : wpI P l.toArray E Inv (f + 1) listed a w := by
  refine ⟨fun h0 => absurd (hr.symm.trans h0) hne, fun j hj => ?_⟩
  rw [hr] at hj
  obtain ⟨oi, hi, hw, h⟩ := h j hj (fun a' w' => Inv w' ∧ wpI P l.toArray E Inv f (listed.setIfInBounds j true) a' w') fun a' w' h1 h2 => ⟨h1, h2⟩
  exact wpOp_plain (by simpa using hi) hw h

/-- A call at hand. -/
theorem wp_callee {o : Oper} {A : Act} {w : World} {K : Act → World → Prop} {Q : Exit → Act → World → Prop} {f : Nat} {args : Array Value} (he : (execOp A.eval o).run P w = .ok (.enter f args) w) (h : Calls P f args w fun e w' => ∃ v, e = .returned v ∧ K (A.put o.dst v) w') : o.wp P A w K Q := by
  unfold Oper.wp
  simp only [he, Oper.upon]
  refine h.mono fun e w' hv => ?_
  obtain ⟨v, rfl, hk⟩ := hv
  exact hk

theorem lex_done {l : List Oper} {E : Act → World → Prop} {Inv : World → Prop} {listed : Array Bool} {a : Act} {w : World} (hr : Region.ready .any l.toArray listed = []) (h : E a w) : wpI P l.toArray E Inv 0 listed a w := ⟨hr, h⟩

end

section
variable {P : Program} {w0 w : World} {M : List Nat} {own : Blks} {o : Oper} {A : Act}

/-- A load from a block at hand, as an equation. -/
theorem St.run_load (st : St M w0 w own) (i : Nat) (T : TypeId) (x : Operand) (ho : o.op = .load T x) (hagg : ∀ w, (isAgg T).run P w = .ok false w) {g off : Nat} {T' : TypeId} {cs : List Value} {v : Value} (hx : A.eval x = .pointer (some ⟨g, off, none⟩)) (hi : own[i]? = some (g, T', cs)) (hv : cs[off]? = some v) :
    (execOp A.eval o).run P w = .ok (.value v) w := by
  have hc : w.cell? ⟨g, off, none⟩ = some v := (st.cell hi off).trans hv
  simp only [execOp, ho, hx, Instr.loadAt, Instr.sureAddr, loadVar, Sem.run_bind, Sem.run_pure, Result.andThen_ok, hagg]
  simp [load, Sem.run, hc, Result.andThen]

/-- .. of more cells. -/
theorem St.run_load_agg (st : St M w0 w own) (i : Nat) (T : TypeId) (x : Operand) (ho : o.op = .load T x) (hagg : ∀ w, (isAgg T).run P w = .ok true w) (n : Nat) (hsz : ∀ w, (sizeOf T).run P w = .ok n w) {g off : Nat} {T' : TypeId} {cs : List Value} {vs : List Value} (hx : A.eval x = .pointer (some ⟨g, off, none⟩)) (hi : own[i]? = some (g, T', cs)) (hv : (cs.drop off).take n = vs) (hl : vs.length = n) :
    (execOp A.eval o).run P w = .ok (.value (.agg vs.toArray)) w := by
  have hl' : (loadCells ⟨g, off, none⟩ vs.length).run P w = .ok vs.toArray w := run_loadCells_list (P := P) w ⟨g, off, none⟩ vs (fun j v hj => by
    rw [add_plain, st.cell hi]
    subst hv
    have hjn : j < n := by have := (List.getElem?_eq_some_iff.1 hj).1; omega
    rw [List.getElem?_take_of_lt hjn, List.getElem?_drop] at hj
    exact hj)
  rw [hl] at hl'
  simp only [execOp, ho, hx, Instr.loadAt, Instr.sureAddr, loadVar, Sem.run_bind, Sem.run_pure, Result.andThen_ok, hagg, hsz, if_true, hl']

theorem wpList_load_cells {P : Program} {w : World} {ops : Array Oper} {rest : List Oper} {o : Oper} {A : Act} {Q : Exit → Act → World → Prop} (hgd : Region.wanted o (yielded ops A.tmps) = true) (T : TypeId) (x : Operand) (ho : o.op = .load T x) (hagg : ∀ w, (isAgg T).run P w = .ok true w) (n : Nat) (hsz : ∀ w, (sizeOf T).run P w = .ok n w)
    (g off : Nat) (hx : A.eval x = .pointer (some ⟨g, off, none⟩)) (vs : List Value) (hl : vs.length = n) (hc : ∀ (j : Nat) (v : Value), vs[j]? = some v → w.cell? ⟨g, off + j, none⟩ = some v) (h : wpList P ops Q rest (A.put o.dst (.agg vs.toArray)) w) : wpList P ops Q (o :: rest) A w := by
  refine wpList_wanted hgd fun K hK => ?_
  have hl' : (loadCells ⟨g, off, none⟩ vs.length).run P w = .ok vs.toArray w := run_loadCells_list (P := P) w ⟨g, off, none⟩ vs (fun j v hj => by rw [add_plain]; exact hc j v hj)
  rw [hl] at hl'
  unfold Oper.wp
  simp only [execOp, ho, hx, Instr.loadAt, Instr.sureAddr, loadVar, Sem.run_bind, Sem.run_pure, Result.andThen_ok, hagg, hsz, if_true, hl']
  exact hK _ _ h

/-- A load of cells at hand, as an equation. -/
theorem run_load_at {P : Program} {o : Oper} {A : Act} {w : World} (T : TypeId) (x : Operand) (ho : o.op = .load T x) (hagg : ∀ w, (isAgg T).run P w = .ok true w) (n : Nat) (hsz : ∀ w, (sizeOf T).run P w = .ok n w) (g off : Nat) (hx : A.eval x = .pointer (some ⟨g, off, none⟩)) (vs : List Value) (hl : vs.length = n) (hc : ∀ (j : Nat) (v : Value), vs[j]? = some v → w.cell? ⟨g, off + j, none⟩ = some v) :
    (execOp A.eval o).run P w = .ok (.value (.agg vs.toArray)) w := by
  have hl' : (loadCells ⟨g, off, none⟩ vs.length).run P w = .ok vs.toArray w := run_loadCells_list (P := P) w ⟨g, off, none⟩ vs (fun j v hj => by rw [add_plain]; exact hc j v hj)
  rw [hl] at hl'
  simp only [execOp, ho, hx, Instr.loadAt, Instr.sureAddr, loadVar, Sem.run_bind, Sem.run_pure, Result.andThen_ok, hagg, hsz, if_true, hl']

theorem St.take (h : St M w0 w own) (n : Nat) : St M w0 w (own.take n) :=
  ⟨h.os, h.tape, h.output, h.size, h.frame, fun x hx => h.blk x (List.take_subset n own hx), fun x hx => h.mine x (List.take_subset n own hx), h.ne.sublist (List.take_sublist n own)⟩

/-- Cells of a block at hand. -/
theorem cells_at {w : World} {g : Nat} {T : TypeId} {cs : List Value} {fr : Nat × Nat} (hb : w.heap[g]? = some (.cells cs.toArray T fr)) (off n : Nat) (vs : List Value) (h : (cs.drop off).take n = vs) (hn : vs.length = n) : ∀ (j : Nat) (v : Value), vs[j]? = some v → w.cell? ⟨g, off + j, none⟩ = some v := by
  intro j v hj
  have hjn : j < n := by have := (List.getElem?_eq_some_iff.1 hj).1; omega
  rw [cell_of_row w g _ cs.toArray T fr hb]
  subst h
  rw [List.getElem?_take_of_lt hjn, List.getElem?_drop] at hj
  simpa using hj

/-- A region in which all that stands stays as it is. -/
theorem lex_still {id : Nat} {a : Act} {ops : Array Oper} {Q : Exit → Act → World → Prop} (st : St M w0 w own) (hm : P.follows .mixedOrders = true) (n : Nat) (hn : ops.size = n) (h : St M w0 w.drew own → wpI P ops (fun a w => Q .normal a w) (fun W => St M w0 W own) n (Array.replicate n false) a w.drew) : (Code.region id ops true).wp P Q a w :=
  lex_region hm n hn _ (h st.drew)

end
end Go.Proofs.Ytbngblmdcggfdaa
