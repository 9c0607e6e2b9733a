/- Walks and plain laws that the claim rests on, part 3. -/
import Derived.Test.YtnihccinpbpllaaP2
import Derived.Orders
import Derived.Test.YtnihccinpbpllaaP1
import Derived.Test.YtnihccinpbpllaaProg
import Derived.Test.YtnihccinpbpllaaRows
import Derived.SizedLaws
set_option linter.unusedSimpArgs false
set_option linter.unusedVariables false
/- A region that draws its order, walked once: what only reads may come first, if what it reads stands under a fact that all the others keep. No program is in sight. -/
namespace Go.Proofs.Ytnihccinpbpllaa
open Go.RowKit

/-- No way out but the end. -/
def QF : Exit → Act → World → Prop := fun _ _ _ => False

section
variable {P : Program} {ops : Array Oper}

theorem wp_QF {o : Oper} {a : Act} {w : World} {K : Act → World → Prop} {Q : Exit → Act → World → Prop} (h : o.wp P a w K QF) : o.wp P a w K Q := by
  unfold Oper.wp at *
  generalize (execOp a.eval o).run P w = r at *
  cases r with
  | ok n w' =>
    cases n <;> simp only [Oper.upon] at h ⊢
    case value => exact h
    case skip => exact h
    case defer => exact h
    case enter f args =>
      refine Calls.mono h fun e w'' he => ?_
      cases e with
      | returned u => exact he
      | panicked c => exact he.elim
      | outgrown => obtain ⟨_, _, h⟩ := he; exact h.elim
    case row row args => exact h
  | halt x w' =>
    cases x <;> simp only [Oper.upon] at h ⊢
    case panic u => exact h.elim

theorem wpOp_QF {i : Nat} {a : Act} {w : World} {K : Act → World → Prop} {Q : Exit → Act → World → Prop} (h : wpOp P ops QF i K a w) : wpOp P ops Q i K a w := by
  unfold wpOp at *
  cases ho : ops[i]? with
  | none => simpa [ho] using h
  | some o =>
    simp only [ho] at h ⊢
    split
    · rename_i hw
      simp only [hw, if_true] at h
      rcases h with h | ⟨_, _, _, h⟩
      · exact .inl (wp_QF h)
      · exact h.elim
    · rename_i hw
      simpa [hw] using h

/-- The region from here on, each of its worlds under Inv. -/
def wpI (P : Program) (ops : Array Oper) (E : Act → World → Prop) (Inv : World → Prop) : Nat → Array Bool → Act → World → Prop
  | 0, listed, a, w => Region.ready .any ops listed = [] ∧ E a w
  | f + 1, listed, a, w => (Region.ready .any ops listed = [] → E a w) ∧ ∀ i ∈ Region.ready .any ops listed, wpOp P ops QF i (fun a' w' => Inv w' ∧ wpI P ops E Inv f (listed.setIfInBounds i true) a' w') a w

theorem wpI_any {E : Act → World → Prop} {Inv : World → Prop} {Q : Exit → Act → World → Prop} (hE : ∀ a w, E a w → Q .normal a w) : ∀ (f : Nat) (listed : Array Bool) (a : Act) (w : World), wpI P ops E Inv f listed a w → wpAny P .any ops Q f listed a w
  | 0, _, _, _, h => ⟨h.1, hE _ _ h.2⟩
  | f + 1, _, _, _, h => ⟨fun hr => hE _ _ (h.1 hr), fun i hi => wpOp_QF (wpOp_mono (fun _ _ hk => wpI_any hE f _ _ _ hk.2) (h.2 i hi))⟩

theorem lex_region {id : Nat} {a : Act} {w : World} {Q : Exit → Act → World → Prop} (hm : P.follows .mixedOrders = true) (n : Nat) (hn : ops.size = n) (Inv : World → Prop) (h : wpI P ops (fun a w => Q .normal a w) Inv n (Array.replicate n false) a w.drew) : (Code.region id ops true).wp P Q a w := by
  subst hn
  exact wp_region_any hm (wpI_any (fun _ _ h => h) _ _ _ _ h)

/-- The operation yields v in each world under Inv; or it is not wanted. -/
def YieldsI (P : Program) (ops : Array Oper) (Inv : World → Prop) (o : Oper) (v : Value) (a : Act) : Prop :=
  (Region.wanted o (yielded ops a.tmps) = true ∧ ∀ w, Inv w → (execOp a.eval o).run P w = .ok (.value v) w) ∨ (Region.wanted o (yielded ops a.tmps) = false ∧ v = undef)

theorem YieldsI.of_same {Inv : World → Prop} {o : Oper} {v : Value} {a a' : Act} (hy : YieldsI P ops Inv o v a) (he : execOp a'.eval o = execOp a.eval o) (hw : Region.wanted o (yielded ops a'.tmps) = Region.wanted o (yielded ops a.tmps)) : YieldsI P ops Inv o v a' := by
  unfold YieldsI at *
  rw [he, hw]
  exact hy

theorem YieldsI.wpOp {Inv : World → Prop} {i : Nat} {o : Oper} {v : Value} {a : Act} {Q : Exit → Act → World → Prop} (hi : ops[i]? = some o) (hy : YieldsI P ops Inv o v a) {K : Act → World → Prop} {w : World} (hI : Inv w) (h : K (a.put o.dst v) w) : wpOp P ops Q i K a w := by
  unfold Go.wpOp
  simp only [hi]
  rcases hy with ⟨hw, hv⟩ | ⟨hw, rfl⟩
  · simp only [hw, if_true, Oper.wp, hv w hI, Oper.upon]; exact .inl h
  · simp only [hw, Bool.false_eq_true, if_false]; exact h

theorem wpOp_putI {Inv : World → Prop} {j : Nat} {oi oj : Oper} {v : Value} (hj : ops[j]? = some oj) (hap : oi.apart ops oj = true) (hsi : ∀ cs b, oi.op ≠ .select cs b) (hsj : ∀ cs b, oj.op ≠ .select cs b) {K : Act → World → Prop} {a : Act} {w : World}
    (hy : YieldsI P ops Inv oi v a) (h : wpOp P ops QF j K (a.put oi.dst v) w) : wpOp P ops QF j (fun a' w' => YieldsI P ops Inv oi v a' ∧ K (a'.put oi.dst v) w') a w := by
  obtain ⟨h1, h2, h3⟩ := Oper.apart_spec hap
  have keep : ∀ (a : Act), YieldsI P ops Inv oi v a → ∀ u, YieldsI P ops Inv oi v (a.put oj.dst u) := fun a hy u =>
    hy.of_same (execOp_put oi hsi a oj.dst u h3) (wanted_put oi a oj.dst u h3)
  have keepD : ∀ d, YieldsI P ops Inv oi v { a with defers := d :: a.defers } := fun d => hy.of_same rfl rfl
  unfold wpOp at *
  simp only [hj] at *
  rw [wanted_put oj a oi.dst v h1] at h
  split
  · rename_i hw
    simp only [hw, if_true] at h
    rcases h with h | ⟨_, _, _, h⟩
    case inr => exact h.elim
    refine .inl ?_
    unfold Oper.wp at *
    rw [execOp_put oj hsj a oi.dst v h1] at h
    generalize (execOp a.eval oj).run P w = r at *
    cases r with
    | ok n w' =>
      cases n <;> simp only [Oper.upon] at h ⊢
      case value u => exact ⟨keep a hy u, by rw [← Act.put_comm a v u h2]; exact h⟩
      case skip => exact ⟨keep a hy _, by rw [← Act.put_comm a v undef h2]; exact h⟩
      case defer d =>
        refine ⟨keep _ (keepD d) _, ?_⟩
        rw [← Act.put_comm _ v undef h2, ← Act.put_defers]
        exact h
      case enter f args =>
        refine Calls.mono h fun e w'' he => ?_
        cases e with
        | returned u => exact ⟨keep a hy u, by rw [← Act.put_comm a v u h2]; exact he⟩
        | panicked c => exact he.elim
        | outgrown => exact he
      case row row args => exact Rows.mono h fun u w'' he => ⟨keep a hy u, by rw [← Act.put_comm a v u h2]; exact he⟩
    | halt x w' =>
      cases x <;> simp only [Oper.upon] at h ⊢
      case panic u => exact h.elim
  · rename_i hw
    simp only [hw] at h
    exact ⟨keep a hy _, by rw [← Act.put_comm a v undef h2]; exact h⟩

theorem wpI_first {E : Act → World → Prop} {Inv : World → Prop} {i : Nat} {oi : Oper} {v : Value} (hi : ops[i]? = some oi) (hsel : ∀ (j : Nat) (o : Oper) cs b, ops[j]? = some o → o.op ≠ .select cs b) :
    ∀ (fuel : Nat) (listed : Array Bool) (a : Act) (w : World),
      (∀ j oj, ops[j]? = some oj → j ≠ i → listed.getD j true = false → (∀ e ∈ oj.after, Region.binds .any e = true → e.on ≠ i) → oi.apart ops oj = true) →
      i ∈ Region.ready .any ops listed → YieldsI P ops Inv oi v a → Inv w →
      wpI P ops E Inv fuel (listed.setIfInBounds i true) (a.put oi.dst v) w → wpI P ops E Inv (fuel + 1) listed a w := by
  intro fuel
  induction fuel with
  | zero =>
    intro listed a w _ hr hy hI H
    refine ⟨fun h => (by rw [h] at hr; cases hr), fun j hj => ?_⟩
    by_cases hji : j = i
    · subst hji; exact hy.wpOp hi hI ⟨hI, H⟩
    · have := ready_mono hj hji
      rw [H.1] at this
      cases this
  | succ fuel ih =>
    intro listed a w hfree hr hy hI H
    refine ⟨fun h => (by rw [h] at hr; cases hr), fun j hj => ?_⟩
    by_cases hji : j = i
    · subst hji; exact hy.wpOp hi hI ⟨hI, H⟩
    · have h1 := H.2 j (ready_mono hj hji)
      obtain ⟨hjun, oj, hoj, hall⟩ := mem_ready.1 hj
      have hnot : ∀ e ∈ oj.after, Region.binds .any e = true → e.on ≠ i := fun e he hb heq => by
        have h1 := hall e he hb
        have h0 := (mem_ready.1 hr).1
        rw [heq] at h1
        rcases Nat.lt_or_ge i listed.size with h' | h'
        · simp [h'] at h0 h1; rw [h0] at h1; cases h1
        · simp [Array.getElem?_eq_none h'] at h1
      have h2 := wpOp_putI hoj (hfree j oj hoj hji hjun hnot) (fun cs b => hsel i oi cs b hi) (fun cs b => hsel j oj cs b hoj) hy h1
      have hfree' : ∀ k ok, ops[k]? = some ok → k ≠ i → (listed.setIfInBounds j true).getD k true = false →
          (∀ e ∈ ok.after, Region.binds .any e = true → e.on ≠ i) → oi.apart ops ok = true := fun k ok hk hki hun hno => by
        refine hfree k ok hk hki ?_ hno
        by_cases hjk : j = k
        · subst hjk; exact hjun
        · rw [getD_set_ne true hjk] at hun; exact hun
      refine wpOp_mono (fun a' w' h3 => ⟨h3.2.1, ih (listed.setIfInBounds j true) a' w' hfree' (ready_mono hr (Ne.symm hji)) h3.1 h3.2.1 ?_⟩) h2
      rw [Array.setIfInBounds_comm _ _ hji]
      exact h3.2.2

/-- May the i-th be taken next? -/
def lexOk (ops : Array Oper) (listed : Array Bool) (i : Nat) : Bool := Region.noSelect ops && Region.free .any ops listed i && (Region.ready .any ops listed).contains i

/-- What only reads is taken. -/
theorem lex_take {l : List Oper} {E : Act → World → Prop} {Inv : World → Prop} (i : Nat) {oi : Oper} {v : Value} {f : Nat} {listed : Array Bool} {a : Act} {w : World} (hi : l[i]? = some oi) (hok : lexOk l.toArray listed i = true) (hw : Region.wanted oi (yielded l.toArray a.tmps) = true) (hI : Inv w)
    (hy : ∀ w, Inv w → (execOp a.eval oi).run P w = .ok (.value v) w) (h : wpI P l.toArray E Inv f (listed.setIfInBounds i true) (a.put oi.dst v) w) : wpI P l.toArray E Inv (f + 1) listed a w := by
  simp only [lexOk, Bool.and_eq_true] at hok
  exact wpI_first (by simpa using hi) (Region.noSelect_spec hok.1.1) f listed a w (Region.free_spec (by simpa using hi) hok.1.2) (by simpa using hok.2) (.inl ⟨hw, hy⟩) hI h

/-- What is not wanted is passed by. -/
theorem lex_skip {l : List Oper} {E : Act → World → Prop} {Inv : World → Prop} (i : Nat) {oi : Oper} {f : Nat} {listed : Array Bool} {a : Act} {w : World} (hi : l[i]? = some oi) (hok : lexOk l.toArray listed i = true) (hw : Region.wanted oi (yielded l.toArray a.tmps) = false) (hI : Inv w)
    (h : wpI P l.toArray E Inv f (listed.setIfInBounds i true) (a.put oi.dst undef) w) : wpI P l.toArray E Inv (f + 1) listed a w := by
  simp only [lexOk, Bool.and_eq_true] at hok
  exact wpI_first (by simpa using hi) (Region.noSelect_spec hok.1.1) f listed a w (Region.free_spec (by simpa using hi) hok.1.2) (by simpa using hok.2) (.inr ⟨hw, rfl⟩) hI h

/-- The only one that is ready: it may do what it likes, but for Inv. -/
theorem lex_only {l : List Oper} {E : Act → World → Prop} {Inv : World → Prop} (i : Nat) {oi : Oper} {f : Nat} {listed : Array Bool} {a : Act} {w : World} (hi : l[i]? = some oi) (hr : Region.ready .any l.toArray listed = [i]) (hw : Region.wanted oi (yielded l.toArray a.tmps) = true)
    (h : ∀ K : Act → World → Prop, (∀ a' w', Inv w' → wpI P l.toArray E Inv f (listed.setIfInBounds i true) a' w' → K a' w') → oi.wp P a w K QF) : wpI P l.toArray E Inv (f + 1) listed a w := by
  refine ⟨fun h0 => (by rw [hr] at h0; cases h0), fun j hj => ?_⟩
  rw [hr] at hj
  simp only [List.mem_singleton] at hj
  subst hj
  refine wpOp_plain (by simpa using hi) hw (h _ fun a' w' h1 h2 => ⟨h1, h2⟩)

/-- Whichever is ready is taken. -/
theorem lex_each {l : List Oper} {E : Act → World → Prop} {Inv : World → Prop} (rs : List Nat) {f : Nat} {listed : Array Bool} {a : Act} {w : World} (hr : Region.ready .any l.toArray listed = rs) (hne : rs ≠ [])
    (h : ∀ i ∈ rs, ∀ K : Act → World → Prop, (∀ a' w', Inv w' → wpI P l.toArray E Inv f (listed.setIfInBounds i true) a' w' → K a' w') → ∃ oi, l[i]? = some oi ∧ Region.wanted oi (yielded l.toArray a.tmps) = true ∧ oi.wp P a w K QF) : wpI P l.toArray E Inv (f + 1) listed a w := by
  refine ⟨fun h0 => absurd (hr.symm.trans h0) hne, fun j hj => ?_⟩
  rw [hr] at hj
  obtain ⟨oi, hi, hw, h⟩ := h j hj (fun a' w' => Inv w' ∧ wpI P l.toArray E Inv f (listed.setIfInBounds j true) a' w') fun a' w' h1 h2 => ⟨h1, h2⟩
  exact wpOp_plain (by simpa using hi) hw h

/-- A call at hand. -/
theorem wp_callee {o : Oper} {A : Act} {w : World} {K : Act → World → Prop} {Q : Exit → Act → World → Prop} {f : Nat} {args : Array Value} (he : (execOp A.eval o).run P w = .ok (.enter f args) w) (h : Calls P f args w fun e w' => ∃ v, e = .returned v ∧ K (A.put o.dst v) w') : o.wp P A w K Q := by
  unfold Oper.wp
  simp only [he, Oper.upon]
  refine h.mono fun e w' hv => ?_
  obtain ⟨v, rfl, hk⟩ := hv
  exact hk

theorem lex_done {l : List Oper} {E : Act → World → Prop} {Inv : World → Prop} {listed : Array Bool} {a : Act} {w : World} (hr : Region.ready .any l.toArray listed = []) (h : E a w) : wpI P l.toArray E Inv 0 listed a w := ⟨hr, h⟩

end

section
variable {P : Program} {w0 w : World} {M : List Nat} {own : Blks} {o : Oper} {A : Act}

/-- A load from a block at hand, as an equation. -/
theorem St.run_load (st : St M w0 w own) (i : Nat) (T : TypeId) (x : Operand) (ho : o.op = .load T x) (hagg : ∀ w, (isAgg T).run P w = .ok false w) {g off : Nat} {T' : TypeId} {cs : List Value} {v : Value} (hx : A.eval x = .pointer (some ⟨g, off, none⟩)) (hi : own[i]? = some (g, T', cs)) (hv : cs[off]? = some v) :
    (execOp A.eval o).run P w = .ok (.value v) w := by
  have hc : w.cell? ⟨g, off, none⟩ = some v := (st.cell hi off).trans hv
  simp only [execOp, ho, hx, Instr.loadAt, Instr.sureAddr, loadVar, Sem.run_bind, Sem.run_pure, Result.andThen_ok, hagg]
  simp [load, Sem.run, hc, Result.andThen]

/-- .. of more cells. -/
theorem St.run_load_agg (st : St M w0 w own) (i : Nat) (T : TypeId) (x : Operand) (ho : o.op = .load T x) (hagg : ∀ w, (isAgg T).run P w = .ok true w) (n : Nat) (hsz : ∀ w, (sizeOf T).run P w = .ok n w) {g off : Nat} {T' : TypeId} {cs : List Value} {vs : List Value} (hx : A.eval x = .pointer (some ⟨g, off, none⟩)) (hi : own[i]? = some (g, T', cs)) (hv : (cs.drop off).take n = vs) (hl : vs.length = n) :
    (execOp A.eval o).run P w = .ok (.value (.agg vs.toArray)) w := by
  have hl' : (loadCells ⟨g, off, none⟩ vs.length).run P w = .ok vs.toArray w := run_loadCells_list (P := P) w ⟨g, off, none⟩ vs (fun j v hj => by
    rw [add_plain, st.cell hi]
    subst hv
    have hjn : j < n := by have := (List.getElem?_eq_some_iff.1 hj).1; omega
    rw [List.getElem?_take_of_lt hjn, List.getElem?_drop] at hj
    exact hj)
  rw [hl] at hl'
  simp only [execOp, ho, hx, Instr.loadAt, Instr.sureAddr, loadVar, Sem.run_bind, Sem.run_pure, Result.andThen_ok, hagg, hsz, if_true, hl']

theorem wpList_load_cells {P : Program} {w : World} {ops : Array Oper} {rest : List Oper} {o : Oper} {A : Act} {Q : Exit → Act → World → Prop} (hgd : Region.wanted o (yielded ops A.tmps) = true) (T : TypeId) (x : Operand) (ho : o.op = .load T x) (hagg : ∀ w, (isAgg T).run P w = .ok true w) (n : Nat) (hsz : ∀ w, (sizeOf T).run P w = .ok n w)
    (g off : Nat) (hx : A.eval x = .pointer (some ⟨g, off, none⟩)) (vs : List Value) (hl : vs.length = n) (hc : ∀ (j : Nat) (v : Value), vs[j]? = some v → w.cell? ⟨g, off + j, none⟩ = some v) (h : wpList P ops Q rest (A.put o.dst (.agg vs.toArray)) w) : wpList P ops Q (o :: rest) A w := by
  refine wpList_wanted hgd fun K hK => ?_
  have hl' : (loadCells ⟨g, off, none⟩ vs.length).run P w = .ok vs.toArray w := run_loadCells_list (P := P) w ⟨g, off, none⟩ vs (fun j v hj => by rw [add_plain]; exact hc j v hj)
  rw [hl] at hl'
  unfold Oper.wp
  simp only [execOp, ho, hx, Instr.loadAt, Instr.sureAddr, loadVar, Sem.run_bind, Sem.run_pure, Result.andThen_ok, hagg, hsz, if_true, hl']
  exact hK _ _ h

/-- A load of cells at hand, as an equation. -/
theorem run_load_at {P : Program} {o : Oper} {A : Act} {w : World} (T : TypeId) (x : Operand) (ho : o.op = .load T x) (hagg : ∀ w, (isAgg T).run P w = .ok true w) (n : Nat) (hsz : ∀ w, (sizeOf T).run P w = .ok n w) (g off : Nat) (hx : A.eval x = .pointer (some ⟨g, off, none⟩)) (vs : List Value) (hl : vs.length = n) (hc : ∀ (j : Nat) (v : Value), vs[j]? = some v → w.cell? ⟨g, off + j, none⟩ = some v) :
    (execOp A.eval o).run P w = .ok (.value (.agg vs.toArray)) w := by
  have hl' : (loadCells ⟨g, off, none⟩ vs.length).run P w = .ok vs.toArray w := run_loadCells_list (P := P) w ⟨g, off, none⟩ vs (fun j v hj => by rw [add_plain]; exact hc j v hj)
  rw [hl] at hl'
  simp only [execOp, ho, hx, Instr.loadAt, Instr.sureAddr, loadVar, Sem.run_bind, Sem.run_pure, Result.andThen_ok, hagg, hsz, if_true, hl']

theorem St.take (h : St M w0 w own) (n : Nat) : St M w0 w (own.take n) :=
  ⟨h.os, h.tape, h.output, h.size, h.frame, fun x hx => h.blk x (List.take_subset n own hx), fun x hx => h.mine x (List.take_subset n own hx), h.ne.sublist (List.take_sublist n own)⟩

/-- Cells of a block at hand. -/
theorem cells_at {w : World} {g : Nat} {T : TypeId} {cs : List Value} {fr : Nat × Nat} (hb : w.heap[g]? = some (.cells cs.toArray T fr)) (off n : Nat) (vs : List Value) (h : (cs.drop off).take n = vs) (hn : vs.length = n) : ∀ (j : Nat) (v : Value), vs[j]? = some v → w.cell? ⟨g, off + j, none⟩ = some v := by
  intro j v hj
  have hjn : j < n := by have := (List.getElem?_eq_some_iff.1 hj).1; omega
  rw [cell_of_row w g _ cs.toArray T fr hb]
  subst h
  rw [List.getElem?_take_of_lt hjn, List.getElem?_drop] at hj
  simpa using hj

/-- A region in which all that stands stays as it is. -/
theorem lex_still {id : Nat} {a : Act} {ops : Array Oper} {Q : Exit → Act → World → Prop} (st : St M w0 w own) (hm : P.follows .mixedOrders = true) (n : Nat) (hn : ops.size = n) (h : St M w0 w.drew own → wpI P ops (fun a w => Q .normal a w) (fun W => St M w0 W own) n (Array.replicate n false) a w.drew) : (Code.region id ops true).wp P Q a w :=
  lex_region hm n hn _ (h st.drew)

end
end Go.Proofs.Ytnihccinpbpllaa

/- The walks through parcloseref.names, in, At. -/
namespace Go.Proofs.Ytnihccinpbpllaa
open Go.RowKit
open Go.Maps (Keyed IsMap int_keyed)

/-- A label among labels. -/
def RLabel (ok : Nat → Prop) (w : World) (cs : List Value) (x : List Lev) : Prop := ∃ la lc, cs = [.slice la x.length lc] ∧ SlR ok w 2 RLev la lc x

theorem RLabel.keep {ok : Nat → Prop} {w w' : World} (hk : Keeps ok w w') {cs : List Value} {x : List Lev} (h : RLabel ok w cs x) : RLabel ok w' cs x := by
  obtain ⟨la, lc, e, h1⟩ := h
  exact ⟨la, lc, e, h1.keep hk⟩

abbrev LabelsR (ok : Nat → Prop) (w : World) (a : Option Addr) (c : Nat) (ls : List (List Lev)) : Prop := SlR ok w 1 (RLabel ok w) a c ls

theorem LabelsR.below {ok : Nat → Prop} {w w' : World} {a : Option Addr} {c : Nat} {ls : List (List Lev)} (h : LabelsR ok w a c ls) (hb : Below w.heap.size w w') : LabelsR ok w' a c ls := h.mono (.of_below hb) fun _ _ => RLabel.keep (.of_below hb)

def namesL (ls : List (List Lev)) : List Int := ls.flatMap fun x => x.map (·.c)

theorem namesL_take {ls : List (List Lev)} {k : Nat} (h : k < ls.length) : namesL (ls.take (k + 1)) = namesL (ls.take k) ++ (ls[k].map (·.c)) := by
  unfold namesL
  rw [List.take_succ_eq_append_getElem h, List.flatMap_append]
  simp

set_option maxRecDepth 100000 in
set_option maxHeartbeats 3000000 in
theorem ref_names (ok : Nat → Prop) (w : World) (a : Option Addr) (c : Nat) (ls : List (List Lev)) (hfit : ∀ x ∈ ls, ∀ y ∈ x, fitI y.c) (hn : (namesL ls).length < maxLen) (hR : LabelsR ok w a c ls) :
    Calls Try.prog 31 #[.slice a ls.length c] w fun e w' => ∃ b, e = .returned (.map (some b)) ∧ w.heap.size ≤ b ∧ Below w.heap.size w w' ∧ SetB Try.prog 3 4 w' b (namesL ls).length (namesL ls) := by
  have hl : ls.length ≤ 9223372036854775807 := by have h1 := hR.1; have h2 := hR.2.1; unfold maxLen at h2; omega
  have HF := Lib.hid hfit
  clear hfit
  go_enter Try.func31, Try.ntmps31
  go_wp2_with (first | go_skip | (refine wpList_setMake 3 4 (wanted_none rfl) _ rfl ?_; intro bm w1 hbm hM hb1))
  go_loopw [11] (fun i wr => ∃ k : Nat, k ≤ ls.length ∧ i = .int .i64 k ∧ Below w.heap.size w wr ∧ SetB Try.prog 3 4 wr bm (namesL (ls.take k)).length (namesL (ls.take k))) (fun i _ => ls.length - (intOf i).toNat)
  case atStart => exact ⟨0, Nat.zero_le _, rfl, hb1, hM⟩
  case round =>
    clear hM hb1
    obtain ⟨k, hk, rfl, hB, hM⟩ := hrel
    by_cases hlt : k < ls.length
    · obtain ⟨b, o, cs, rfl, _, hb, ⟨la, lc, rfl, hL⟩, _, _, hc⟩ := hR.2.2.2 k ls[k] (by simp [hlt])
      have h1 : wr.cell? ⟨b, o + k, none⟩ = some (.slice la ls[k].length lc) := (hB.cell (p := ⟨b, o + k, none⟩) hb).trans (by simpa using hc 0 _ rfl)
      have hll : ls[k].length ≤ 9223372036854775807 := by have h1 := hL.1; have h2 := hL.2.1; unfold maxLen at h2; omega
      have HT := Lib.hid (namesL_take hlt)
      have HFk := Lib.hid (HF.out ls[k] (List.getElem_mem hlt))
      have hnk : (namesL (ls.take k)).length + ls[k].length ≤ (namesL ls).length := by
        have e : namesL ls = namesL (ls.take (k + 1)) ++ namesL (ls.drop (k + 1)) := by
          unfold namesL
          rw [← List.flatMap_append, List.take_append_drop]
        rw [e, HT.out]
        simp
      generalize namesL (ls.take k) = done at hM hnk HT
      generalize hx : ls[k] = x at hL h1 hll HFk hnk HT
      clear hx hc
      go_wp2
      go_loopw [17] (fun i wj => ∃ j : Nat, j ≤ x.length ∧ i = .int .i64 j ∧ Below w.heap.size w wj ∧ SetB Try.prog 3 4 wj bm (done.length + j) (done ++ (x.map (·.c)).take j)) (fun i _ => x.length - (intOf i).toNat)
      case atStart => exact ⟨0, Nat.zero_le _, rfl, hB, by simpa using hM⟩
      case round =>
        clear hM
        obtain ⟨j, hj, rfl, hBj, hM⟩ := hrel
        by_cases hlj : j < x.length
        · obtain ⟨b2, o2, rfl, hb2, h21, h22⟩ := (hL.below hBj).lev_at j hlj
          have hrow : ∀ (q : Nat) (v : Value), [Value.int .i64 x[j].c, .int .i64 x[j].l][q]? = some v → wr.cell? ⟨b2, o2 + j * 2 + q, none⟩ = some v := fun q v hq => by
            rcases q with _ | _ | q
            · simp at hq; subst hq; exact h21
            · simp at hq; subst hq; exact h22
            · simp at hq
          have hfj := HFk.out x[j] (List.getElem_mem hlj)
          have htk : (x.map (·.c)).take (j + 1) = (x.map (·.c)).take j ++ [x[j].c] := by
            rw [List.take_succ_eq_append_getElem (by simpa using hlj)]; simp
          have HTK := Lib.hid htk
          have hmm : done.length + j < maxLen := by omega
          clear htk h21 h22
          have st := St.start wr
          go_wp2_with (first
            | go_skip | (with_reducible refine at_load 43 ?_; refine wpList_load_cells (wanted_none rfl) 43 _ rfl Try.isAgg43 _ Try.sizeOf43 b2 (o2 + j * 2) rfl [.int .i64 x[j].c, .int .i64 x[j].l] rfl hrow ?_)
            | (with_reducible refine at_alloc 43 ?_; refine mem_alloc st (wanted_none rfl) 43 rfl _ Try.zeroValue43 _ rfl ?_; clear st; intro g5 w5 hg5 st hg5b; clear hg5b; simp [Act.eval, Act.put, Value.cells, putL] at st) | (with_reducible refine at_store 43 ?_; (first | refine mem_store' st 43 _ _ rfl (wanted_none rfl) _ Try.sizeOf43 ?_ | (refine mem_store' st 43 _ _ rfl (wanted_some rfl ?_) _ Try.sizeOf43 ?_; focus (simp [yielded, Act.put]; done))); refine ⟨0, _, _, _, _, _, rfl, rfl, rfl, rfl, rfl, rfl, ?_⟩; clear st; intro w6 st hw6m hw6z; simp [Act.eval, Act.put, Value.cells, putL] at st) | (with_reducible refine at_load 3 ?_; (first | refine mem_load' st 3 _ rfl (wanted_none rfl) Try.isAgg3 ?_ | (refine mem_load' st 3 _ rfl (wanted_some rfl ?_) Try.isAgg3 ?_; focus (simp [yielded, Act.put]; done))); refine ⟨0, _, _, _, _, _, rfl, rfl, rfl, ?_⟩)
            | (at_mapUpdate; go_must (refine wpList_setUpdate (hM.below st.below) (int_keyed Try.underlying3) Try.underlying3 (wanted_none rfl) _ _ _ 47 rfl Try.underlying47 Try.underlying4 hmm rfl _ rfl hfj rfl ?_; intro w7 hM7 hg7)))
          go_roundw
          case rel =>
            have hbz := hM.lt
            refine ⟨j + 1, hlj, by go_num, (hBj.keep st.below).grown hg7 (Nat.le_trans hBj.size st.size) fun q hq => by simp at hq; omega, by rw [HTK.out, ← List.append_assoc]; exact hM7⟩
          case measure => simp [intOf]; omega
        · have hjx : j = x.length := by omega
          subst hjx
          have e : (x.map (·.c)).take x.length = x.map (·.c) := List.take_of_length_le (by simp)
          rw [e] at hM
          go_wp2
          go_roundw
          case rel => exact ⟨k + 1, hlt, by go_num, hBj, by rw [HT.out]; simpa using hM⟩
          case measure => simp [intOf]; omega
    · have e : ls.take k = ls := List.take_of_length_le (by omega)
      rw [e] at hM
      go_wp2
      go_ret
      exact ⟨bm, rfl, hbm, hB, hM⟩

end Go.Proofs.Ytnihccinpbpllaa

/- Plain laws of labels: what Join, Meet and Set make, and that good labels are told by their levels. No program, no memory. -/
namespace Go.Proofs.Ytnihccinpbpllaa

/-- A label in its plain form: categories rise, no level is the plain one. -/
def Norm (l : List Lev) : Prop := Rising (catsOf l) ∧ ∀ x ∈ l, x.l ≠ 1

theorem lAt_mem {l : List Lev} (h : Rising (catsOf l)) {x : Lev} (hx : x ∈ l) : lAt l x.c = x.l := by
  induction l with
  | nil => simp at hx
  | cons y l ih =>
    have h' := List.pairwise_cons.1 (show (y.c :: catsOf l).Pairwise (· < ·) from h)
    rcases List.mem_cons.1 hx with rfl | hx
    · rw [lAt, if_pos rfl]
    · have := h'.1 x.c (List.mem_map.2 ⟨x, hx, rfl⟩)
      rw [lAt, if_neg (by omega)]
      exact ih h'.2 hx

theorem norm_mem {l : List Lev} (h : Norm l) (c : Int) : c ∈ catsOf l ↔ lAt l c ≠ 1 := by
  constructor
  · intro hc
    obtain ⟨x, hx, rfl⟩ := List.mem_map.1 hc
    rw [lAt_mem h.1 hx]
    exact h.2 x hx
  · intro hc
    apply Classical.byContradiction
    exact fun hn => hc (lAt_not hn)

theorem norm_map {l : List Lev} (h : Rising (catsOf l)) : (catsOf l).map (fun c => (⟨c, lAt l c⟩ : Lev)) = l := by
  unfold catsOf
  rw [List.map_map]
  have : l.map ((fun c => (⟨c, lAt l c⟩ : Lev)) ∘ fun x => x.c) = l.map id := List.map_congr_left fun x hx => by
    simp only [Function.comp, id]
    rw [lAt_mem h hx]
  rw [this, List.map_id]

theorem norm_ext {a b : List Lev} (ha : Norm a) (hb : Norm b) (h : ∀ c, lAt a c = lAt b c) : a = b := by
  have e : catsOf a = catsOf b := rising_ext ha.1 hb.1 fun z => by rw [norm_mem ha, norm_mem hb, h]
  rw [← norm_map ha.1, ← norm_map hb.1, e]
  exact List.map_congr_left fun c _ => by rw [h]

theorem bothFrom_sub (f : Int → Int → Int) (a b : List Lev) (l : List Int) : (catsOf (bothFrom f a b l)).Sublist l := by
  induction l with
  | nil => exact List.Sublist.slnil
  | cons c l ih =>
    unfold bothFrom
    split
    · exact List.Sublist.cons _ ih
    · exact List.Sublist.cons_cons c ih

theorem bothFrom_ne (f : Int → Int → Int) (a b : List Lev) (l : List Int) : ∀ x ∈ bothFrom f a b l, x.l ≠ 1 := by
  induction l with
  | nil => simp [bothFrom]
  | cons c l ih =>
    intro x hx
    unfold bothFrom at hx
    split at hx
    · exact ih x hx
    · rename_i h
      rcases List.mem_cons.1 hx with rfl | hx
      · exact h
      · exact ih x hx

theorem norm_both (f : Int → Int → Int) (a b : List Lev) : Norm (bothL f a b) :=
  ⟨List.Pairwise.sublist (bothFrom_sub f a b _) (uniq_rising _), bothFrom_ne f a b _⟩

theorem lAt_bothFrom (f : Int → Int → Int) (a b : List Lev) (l : List Int) (c : Int) : lAt (bothFrom f a b l) c = if c ∈ l then f (lAt a c) (lAt b c) else 1 := by
  induction l with
  | nil => simp [bothFrom, lAt]
  | cons d l ih =>
    unfold bothFrom
    by_cases hd : d = c
    · subst hd
      rw [if_pos (List.mem_cons_self ..)]
      split
      · rename_i h
        rw [ih, h]; split <;> rfl
      · rw [lAt, if_pos rfl]
    · have e : (c ∈ d :: l) ↔ c ∈ l := by rw [List.mem_cons]; constructor; (rintro (h | h); exact absurd h.symm hd; exact h); exact Or.inr
      simp only [e]
      split
      · exact ih
      · rw [lAt, if_neg hd]; exact ih

theorem lAt_both {f : Int → Int → Int} (h1 : f 1 1 = 1) (a b : List Lev) (c : Int) : lAt (bothL f a b) c = f (lAt a c) (lAt b c) := by
  rw [bothL, lAt_bothFrom]
  by_cases hc : c ∈ eachL a b
  · rw [if_pos hc]
  · rw [if_neg hc]
    rw [eachL_mem, not_or] at hc
    rw [lAt_not hc.1, lAt_not hc.2, h1]

theorem bothL_comm {f : Int → Int → Int} (h1 : f 1 1 = 1) (hf : ∀ x y, f x y = f y x) (a b : List Lev) : bothL f a b = bothL f b a :=
  norm_ext (norm_both ..) (norm_both ..) fun c => by rw [lAt_both h1, lAt_both h1, hf]

/-! ### Good labels -/

theorem risesL_iff (l : List Lev) (p : Int) : risesL p l = true ↔ (∀ x ∈ l, p < x.c ∧ lvOk x = true) ∧ Rising (catsOf l) := by
  induction l generalizing p with
  | nil => simp [risesL, catsOf]
  | cons x l ih =>
    unfold risesL
    have hc : Rising (catsOf (x :: l)) ↔ (∀ z ∈ catsOf l, x.c < z) ∧ Rising (catsOf l) := List.pairwise_cons
    split
    · rename_i h
      rw [ih, hc]
      constructor
      · rintro ⟨h1, h2⟩
        refine ⟨fun y hy => ?_, fun z hz => ?_, h2⟩
        · rcases List.mem_cons.1 hy with rfl | hy
          · exact h
          · exact ⟨by have := (h1 y hy).1; omega, (h1 y hy).2⟩
        · obtain ⟨y, hy, rfl⟩ := List.mem_map.1 hz
          exact (h1 y hy).1
      · rintro ⟨h1, h2, h3⟩
        exact ⟨fun y hy => ⟨h2 _ (List.mem_map.2 ⟨y, hy, rfl⟩), (h1 y (List.mem_cons_of_mem _ hy)).2⟩, h3⟩
    · rename_i h
      simp only [Bool.false_eq_true, false_iff]
      rintro ⟨h1, _⟩
      exact h (h1 x (List.mem_cons_self ..))

theorem lvOk_iff (x : Lev) : lvOk x = true ↔ 0 ≤ x.c ∧ x.c < 80 ∧ 0 ≤ x.l ∧ x.l ≤ 3 ∧ x.l ≠ 1 := by simp only [lvOk, decide_eq_true_eq]

theorem goodL_iff (l : List Lev) : goodL l = true ↔ l.length ≤ 8 ∧ (∀ x ∈ l, lvOk x = true) ∧ Rising (catsOf l) := by
  unfold goodL
  split
  · rename_i h
    rw [risesL_iff]
    constructor
    · exact fun H => ⟨h, fun x hx => (H.1 x hx).2, H.2⟩
    · exact fun H => ⟨fun x hx => ⟨by have := (lvOk_iff x).1 (H.2.1 x hx); omega, H.2.1 x hx⟩, H.2.2⟩
  · rename_i h
    simp [h]

theorem good_norm {l : List Lev} (h : goodL l = true) : Norm l := by
  obtain ⟨_, h2, h3⟩ := (goodL_iff l).1 h
  exact ⟨h3, fun x hx => by have := (lvOk_iff x).1 (h2 x hx); omega⟩

theorem good_lAt {l : List Lev} (h : goodL l = true) (c : Int) : 0 ≤ lAt l c ∧ lAt l c ≤ 3 := by
  obtain ⟨_, h2, h3⟩ := (goodL_iff l).1 h
  by_cases hc : c ∈ catsOf l
  · obtain ⟨x, hx, rfl⟩ := List.mem_map.1 hc
    rw [lAt_mem h3 hx]
    have := (lvOk_iff x).1 (h2 x hx)
    omega
  · rw [lAt_not hc]; omega

/-! ### Set -/

def setL (l : List Lev) (c n : Int) : List Lev := l.filter (fun x => decide (x.c < c)) ++ ((if n = 1 then [] else [⟨c, n⟩]) ++ l.filter (fun x => decide (c < x.c)))

/-- What Set answers: a label, an error's number. -/
def setR (l : List Lev) (c n : Int) : List Lev × Int :=
  if goodL l = true ∧ (0 ≤ c ∧ c < 80) ∧ 0 ≤ n ∧ n ≤ 3 then (if (setL l c n).length ≤ 8 then (setL l c n, 0) else ([], 5)) else ([], 2)

theorem lAt_filter (p : Int → Bool) (l : List Lev) (d : Int) : lAt (l.filter fun x => p x.c) d = if p d = true then lAt l d else 1 := by
  induction l with
  | nil => simp [lAt]
  | cons x l ih =>
    rw [List.filter_cons]
    by_cases hx : p x.c = true
    · rw [if_pos hx]
      by_cases hd : x.c = d
      · subst hd; rw [lAt, if_pos rfl, if_pos hx, lAt, if_pos rfl]
      · rw [lAt, if_neg hd, ih]; split
        · rw [lAt, if_neg hd]
        · rfl
    · rw [if_neg hx, ih]
      by_cases hd : x.c = d
      · subst hd; rw [if_neg hx, if_neg hx]
      · split
        · rw [lAt, if_neg hd]
        · rfl

theorem lAt_append (x y : List Lev) (d : Int) : lAt (x ++ y) d = if d ∈ catsOf x then lAt x d else lAt y d := by
  induction x with
  | nil => simp [catsOf]
  | cons z x ih =>
    simp only [List.cons_append, lAt, catsOf, List.map_cons, List.mem_cons]
    by_cases hd : z.c = d
    · simp [hd]
    · have : ¬ d = z.c := fun e => hd e.symm
      simp only [if_neg hd, this, false_or]
      exact ih

theorem filter_cats {p : Int → Bool} {l : List Lev} {d : Int} (h : d ∈ catsOf (l.filter fun x => p x.c)) : p d = true := by
  obtain ⟨x, hx, rfl⟩ := List.mem_map.1 h
  exact (List.mem_filter.1 hx).2

theorem lAt_set (l : List Lev) (c n d : Int) : lAt (setL l c n) d = if d = c then n else lAt l d := by
  unfold setL
  rw [lAt_append]
  have hf1 := lAt_filter (fun x => decide (x < c)) l d
  have hf2 := lAt_filter (fun x => decide (c < x)) l d
  simp only [decide_eq_true_eq] at hf1 hf2
  by_cases hm : d ∈ catsOf (l.filter fun x => decide (x.c < c))
  · have hlt := filter_cats (p := fun x => decide (x < c)) hm
    simp only [decide_eq_true_eq] at hlt
    rw [if_pos hm, if_neg (by omega), hf1, if_pos hlt]
  · rw [if_neg hm]
    by_cases hdc : d = c
    · subst hdc
      rw [if_pos rfl]
      split
      · rename_i h; subst h
        rw [List.nil_append, hf2, if_neg (by omega)]
      · simp [lAt]
    · rw [if_neg hdc]
      have e : lAt ((if n = 1 then [] else [⟨c, n⟩]) ++ l.filter fun x => decide (c < x.c)) d = lAt (l.filter fun x => decide (c < x.c)) d := by
        split
        · rfl
        · simp only [List.cons_append, List.nil_append, lAt]; rw [if_neg (fun e => hdc e.symm)]
      rw [e, hf2]
      by_cases hlt : c < d
      · rw [if_pos hlt]
      · rw [if_neg hlt]
        have h1 := lAt_not hm
        rw [hf1, if_pos (by omega)] at h1
        exact h1.symm

theorem cats_filter_sub (p : Lev → Bool) (l : List Lev) : (catsOf (l.filter p)).Sublist (catsOf l) := List.Sublist.map _ List.filter_sublist

theorem set_rising {l : List Lev} (h : Rising (catsOf l)) (c n : Int) : Rising (catsOf (setL l c n)) := by
  unfold setL
  have e : ∀ x y : List Lev, catsOf (x ++ y) = catsOf x ++ catsOf y := fun x y => List.map_append
  have h1 := List.Pairwise.sublist (cats_filter_sub (fun x => decide (x.c < c)) l) h
  have h2 := List.Pairwise.sublist (cats_filter_sub (fun x => decide (c < x.c)) l) h
  have m1 : ∀ d ∈ catsOf (l.filter fun x => decide (x.c < c)), d < c := fun d hd => by simpa using filter_cats (p := fun x => decide (x < c)) hd
  have m2 : ∀ d ∈ catsOf (l.filter fun x => decide (c < x.c)), c < d := fun d hd => by simpa using filter_cats (p := fun x => decide (c < x)) hd
  rw [e, e]
  split
  · refine List.pairwise_append.2 ⟨h1, by simpa [catsOf] using h2, fun a ha b hb => ?_⟩
    have := m1 a ha; have := m2 b (by simpa [catsOf] using hb); omega
  · refine List.pairwise_append.2 ⟨h1, ?_, fun a ha b hb => ?_⟩
    · exact List.pairwise_cons.2 ⟨fun d hd => m2 d (by simpa [catsOf] using hd), by simpa [catsOf] using h2⟩
    · have := m1 a ha
      rcases List.mem_append.1 hb with hb | hb
      · simp [catsOf] at hb; omega
      · have := m2 b hb; omega

theorem set_lv {l : List Lev} (h : ∀ x ∈ l, lvOk x = true) {c n : Int} (hc : 0 ≤ c ∧ c < 80) (hn : 0 ≤ n ∧ n ≤ 3) : ∀ x ∈ setL l c n, lvOk x = true := by
  intro x hx
  unfold setL at hx
  rcases List.mem_append.1 hx with hx | hx
  · exact h x (List.mem_filter.1 hx).1
  · rcases List.mem_append.1 hx with hx | hx
    · split at hx
      · simp at hx
      · rename_i hn1
        simp only [List.mem_singleton] at hx
        subst hx
        exact (lvOk_iff _).2 ⟨hc.1, hc.2, hn.1, hn.2, hn1⟩
    · exact h x (List.mem_filter.1 hx).1

theorem set_good {l : List Lev} (h : goodL l = true) {c n : Int} (hc : 0 ≤ c ∧ c < 80) (hn : 0 ≤ n ∧ n ≤ 3) (h8 : (setL l c n).length ≤ 8) : goodL (setL l c n) = true := by
  obtain ⟨_, h2, h3⟩ := (goodL_iff l).1 h
  exact (goodL_iff _).2 ⟨h8, set_lv h2 hc hn, set_rising h3 c n⟩

theorem lv_norm {l : List Lev} (h2 : ∀ x ∈ l, lvOk x = true) (h3 : Rising (catsOf l)) : Norm l := ⟨h3, fun x hx => by have := (lvOk_iff x).1 (h2 x hx); omega⟩

theorem set_norm {l : List Lev} (h : goodL l = true) {c n : Int} (hc : 0 ≤ c ∧ c < 80) (hn : 0 ≤ n ∧ n ≤ 3) : Norm (setL l c n) := by
  obtain ⟨_, h2, h3⟩ := (goodL_iff l).1 h
  exact lv_norm (set_lv h2 hc hn) (set_rising h3 c n)

theorem setL_back {l : List Lev} (h : goodL l = true) {c n : Int} (hc : 0 ≤ c ∧ c < 80) (hn : 0 ≤ n ∧ n ≤ 3) (h8 : (setL l c n).length ≤ 8) : setL (setL l c n) c (lAt l c) = l := by
  have hg := set_good h hc hn h8
  exact norm_ext (set_norm hg hc (good_lAt h c)) (good_norm h) fun d => by
    rw [lAt_set, lAt_set]
    split
    · rename_i e; rw [e]
    · rfl

theorem setR_cases (l : List Lev) (c n : Int) : (∃ k, setR l c n = ([], k) ∧ k ≠ 0) ∨ (setR l c n = (setL l c n, 0) ∧ goodL l = true ∧ (0 ≤ c ∧ c < 80) ∧ (0 ≤ n ∧ n ≤ 3) ∧ (setL l c n).length ≤ 8) := by
  unfold setR
  split
  · rename_i h
    split
    · rename_i h8
      exact .inr ⟨rfl, h.1, h.2.1, h.2.2, h8⟩
    · exact .inl ⟨5, rfl, by decide⟩
  · exact .inl ⟨2, rfl, by decide⟩

theorem setR_back {l : List Lev} (h : goodL l = true) {c n : Int} (hc : 0 ≤ c ∧ c < 80) (hn : 0 ≤ n ∧ n ≤ 3) (h8 : (setL l c n).length ≤ 8) : setR (setL l c n) c (lAt l c) = (l, 0) := by
  have hl := good_lAt h c
  unfold setR
  rw [if_pos ⟨set_good h hc hn h8, hc, hl.1, hl.2⟩, setL_back h hc hn h8, if_pos ((goodL_iff l).1 h).1]

theorem flows_set {l : List Lev} (c n : Int) : flowsL l (setL l c n) [] = decide (lAt l c ≤ n) := by
  rw [Bool.eq_iff_iff, flowsL_iff, decide_eq_true_eq]
  constructor
  · intro H
    have := H c (by simp)
    rwa [lAt_set, if_pos rfl] at this
  · intro H d _
    rw [lAt_set]
    split
    · rename_i e; rw [e]; exact H
    · exact Int.le_refl _

theorem flows_set_own {l : List Lev} (c n : Int) : flowsL l (setL l c n) [c] = true := by
  rw [flowsL_iff]
  intro d hd
  rw [lAt_set, if_neg (by simpa using hd)]
  exact Int.le_refl _

/-! ### The order of labels, Join and Meet in it -/

theorem flows_refl (a : List Lev) (own : List Int) : flowsL a a own = true := (flowsL_iff ..).2 fun _ _ => Int.le_refl _
theorem flows_trans {a b c : List Lev} {own : List Int} (h1 : flowsL a b own = true) (h2 : flowsL b c own = true) : flowsL a c own = true :=
  (flowsL_iff ..).2 fun d hd => Int.le_trans ((flowsL_iff ..).1 h1 d hd) ((flowsL_iff ..).1 h2 d hd)
theorem flows_own {a b : List Lev} {own : List Int} (h : flowsL a b [] = true) : flowsL a b own = true := (flowsL_iff ..).2 fun d _ => (flowsL_iff ..).1 h d (by simp)
theorem flows_anti {a b : List Lev} (ha : goodL a = true) (hb : goodL b = true) (h1 : flowsL a b [] = true) (h2 : flowsL b a [] = true) : a = b :=
  norm_ext (good_norm ha) (good_norm hb) fun c => Int.le_antisymm ((flowsL_iff ..).1 h1 c (by simp)) ((flowsL_iff ..).1 h2 c (by simp))

theorem max11 : max (1 : Int) 1 = 1 := by omega
theorem min11 : min (1 : Int) 1 = 1 := by omega

theorem flows_join_l (a b : List Lev) : flowsL a (bothL max a b) [] = true := (flowsL_iff ..).2 fun c _ => by rw [lAt_both max11]; omega
theorem flows_join_r (a b : List Lev) : flowsL b (bothL max a b) [] = true := (flowsL_iff ..).2 fun c _ => by rw [lAt_both max11]; omega
theorem flows_meet_l (a b : List Lev) : flowsL (bothL min a b) a [] = true := (flowsL_iff ..).2 fun c _ => by rw [lAt_both min11]; omega
theorem flows_meet_r (a b : List Lev) : flowsL (bothL min a b) b [] = true := (flowsL_iff ..).2 fun c _ => by rw [lAt_both min11]; omega

theorem flows_join_iff (a b c : List Lev) : flowsL (bothL max a b) c [] = (flowsL a c [] && flowsL b c []) := by
  rw [Bool.eq_iff_iff, Bool.and_eq_true, flowsL_iff, flowsL_iff, flowsL_iff]
  constructor
  · intro H
    exact ⟨fun d hd => by have := H d hd; rw [lAt_both max11] at this; omega, fun d hd => by have := H d hd; rw [lAt_both max11] at this; omega⟩
  · rintro ⟨h1, h2⟩ d hd
    have := h1 d hd; have := h2 d hd
    rw [lAt_both max11]; omega

theorem flows_meet_iff (a b c : List Lev) : flowsL c (bothL min a b) [] = (flowsL c a [] && flowsL c b []) := by
  rw [Bool.eq_iff_iff, Bool.and_eq_true, flowsL_iff, flowsL_iff, flowsL_iff]
  constructor
  · intro H
    exact ⟨fun d hd => by have := H d hd; rw [lAt_both min11] at this; omega, fun d hd => by have := H d hd; rw [lAt_both min11] at this; omega⟩
  · rintro ⟨h1, h2⟩ d hd
    have := h1 d hd; have := h2 d hd
    rw [lAt_both min11]; omega

theorem join_comm (a b : List Lev) : bothL max a b = bothL max b a := bothL_comm max11 (fun x y => by omega) a b
theorem meet_comm (a b : List Lev) : bothL min a b = bothL min b a := bothL_comm min11 (fun x y => by omega) a b
theorem join_meet {a : List Lev} (h : goodL a = true) (b : List Lev) : bothL max a (bothL min a b) = a :=
  norm_ext (norm_both ..) (good_norm h) fun c => by rw [lAt_both max11, lAt_both min11]; omega
theorem meet_join {a : List Lev} (h : goodL a = true) (b : List Lev) : bothL min a (bothL max a b) = a :=
  norm_ext (norm_both ..) (good_norm h) fun c => by rw [lAt_both min11, lAt_both max11]; omega
theorem join_self {a : List Lev} (h : goodL a = true) : bothL max a a = a :=
  norm_ext (norm_both ..) (good_norm h) fun c => by rw [lAt_both max11]; omega

end Go.Proofs.Ytnihccinpbpllaa

/- Plain words for what a frame may be. No program, no memory. -/
namespace Go.Proofs.Ytnihccinpbpllaa

def four (h : Int) : Bool := decide (0 ≤ h ∧ h < 4)
def catOk (c : Int) : Bool := decide (0 ≤ c ∧ c < 80)

theorem four_iff (h : Int) : four h = true ↔ 0 ≤ h ∧ h < 4 := by simp [four]
theorem catOk_iff (h : Int) : catOk h = true ↔ 0 ≤ h ∧ h < 80 := by simp [catOk]

def goodCertB (c : Cert) : Bool := catOk c.c && four c.by_ && four c.host && (c.by_ != c.host) && decide (0 ≤ c.till) && decide (c.till ≤ 1099511627776)

/-- Do categories rise, each once, from p on? -/
def risesI : Int → List Int → Bool
  | _, [] => true
  | p, x :: l => if p < x ∧ catOk x = true then risesI x l else false

def prevI (l : List Int) (k : Nat) : Int := if h : 0 < k ∧ k ≤ l.length then l[k - 1]'(by omega) else -1
theorem prevI_zero (l : List Int) : prevI l 0 = -1 := by simp [prevI]
theorem prevI_succ (l : List Int) (k : Nat) (h : k < l.length) : prevI l (k + 1) = l[k] := by
  unfold prevI
  rw [dif_pos ⟨by omega, by omega⟩]
  simp
theorem prevI_pos (l : List Int) (k : Nat) (h : k < l.length) (h0 : 0 < k) : prevI l k = l[k - 1]'(by omega) := by
  unfold prevI
  rw [dif_pos ⟨h0, by omega⟩]
theorem risesI_step (l : List Int) (k : Nat) (h : k < l.length) : risesI (prevI l k) (l.drop k) = (if prevI l k < l[k] ∧ catOk l[k] = true then risesI (prevI l (k + 1)) (l.drop (k + 1)) else false) := by
  rw [List.drop_eq_getElem_cons h, risesI, prevI_succ l k h]

def risingB (l : List Int) (most : Int) : Bool := risesI (-1) l && decide ((l.length : Int) ≤ most)

def goodMailC (m : Mail) : Int :=
  if (four m.host && four m.thread && goodL m.label && risingB m.grants 8) = true then (if 64 < m.text.size then 9 else 0) else 2

def frameRange (f : Frame) : Bool := four f.src && four f.dst && (f.src != f.dst) && decide (1 ≤ f.seq) && decide (f.seq ≤ 1099511627776) && four f.thread
def ackPlain (f : Frame) : Bool := (f.thread == 0) && (f.mail.host == 0) && (f.mail.thread == 0) && decide (f.mail.label.length + f.mail.grants.length + f.mail.text.size + f.certs.length = 0)

def ackC (f : Frame) : Int := if ackPlain f = true then 0 else 1
def certsC (f : Frame) : Int := if f.certs.all goodCertB = true then 0 else 2

def goodFrameC (f : Frame) : Int :=
  if frameRange f = true then
    if f.ack = true then ackC f
    else if goodMailC f.mail ≠ 0 then goodMailC f.mail
    else if f.mail.host ≠ f.src then 1
    else if 24 < f.certs.length then 5
    else certsC f
  else 2

theorem chain2 (a b : Bool) : a = false ∨ (a = true ∧ b = false) ∨ (a = true ∧ b = true) := by cases a <;> cases b <;> simp
theorem chain4 (a b c d : Bool) : a = false ∨ (a = true ∧ b = false) ∨ (a = true ∧ b = true ∧ c = false) ∨ (a = true ∧ b = true ∧ c = true ∧ d = false) ∨ (a = true ∧ b = true ∧ c = true ∧ d = true) := by
  cases a <;> cases b <;> cases c <;> cases d <;> simp
theorem chain6 (a b c d e f : Bool) : a = false ∨ (a = true ∧ b = false) ∨ (a = true ∧ b = true ∧ c = false) ∨ (a = true ∧ b = true ∧ c = true ∧ d = false) ∨ (a = true ∧ b = true ∧ c = true ∧ d = true ∧ e = false) ∨ (a = true ∧ b = true ∧ c = true ∧ d = true ∧ e = true ∧ f = false) ∨ (a = true ∧ b = true ∧ c = true ∧ d = true ∧ e = true ∧ f = true) := by
  cases a <;> cases b <;> cases c <;> cases d <;> cases e <;> cases f <;> simp

end Go.Proofs.Ytnihccinpbpllaa

/- The walks through parcloseref.IsCategory and four. -/
namespace Go.Proofs.Ytnihccinpbpllaa
open Go.RowKit

theorem ref_IsCategory (c : Int) (w : World) : Calls Try.prog 24 #[.int .i64 c] w fun e w' => e = .returned (.bool (catOk c)) ∧ w = w' := by
  by_cases h1 : 0 ≤ c <;> by_cases h2 : c ≤ 79
  all_goals
    go_enter Try.func24, Try.ntmps24
    go_wp2
    go_ret
    exact ⟨ret_bool (by rw [Bool.eq_iff_iff, catOk_iff]; simp; omega), rfl⟩

end Go.Proofs.Ytnihccinpbpllaa

/- The walks through parcloseref.in, At, GoodLabel and Flows. -/
namespace Go.Proofs.Ytnihccinpbpllaa
open Go.RowKit
open Go.Maps (Keyed IsMap int_keyed)

theorem wpList_buildV2 {P : Program} {w0 w : World} {M : List Nat} {own : Blks} {ops : Array Oper} {rest : List Oper} {o : Oper} {A : Act} {Q : Exit → Act → World → Prop} (st : St M w0 w own) (hgd : Region.wanted o (yielded ops A.tmps) = true) (T T' : TypeId) (x0 x1 : Operand) (ho : o.op = .buildSlice T 2 #[(0, x0), (1, x1)]) (ht : P.underlying T = some (.slice T')) (hsz : ∀ w, (sizeOf T').run P w = .ok 1 w) (hz : ∀ w, (zeroValue T').run P w = .ok (.slice none 0 0) w) (a0 a1 : Option Addr) (n0 n1 c0 c1 : Nat) (hx0 : A.eval x0 = .slice a0 n0 c0) (hx1 : A.eval x1 = .slice a1 n1 c1)
    (h : ∀ g w', w0.heap.size ≤ g → St M w0 w' (own ++ [(g, T', [.slice a0 n0 c0, .slice a1 n1 c1])]) → Below w.heap.size w w' → wpList P ops Q rest (A.put o.dst (.slice (some ⟨g, 0, none⟩) 2 2)) w') : wpList P ops Q (o :: rest) A w := by
  refine wpList_wanted hgd fun K hK => ?_
  have hs := st.new T' [.slice a0 n0 c0, .slice a1 n1 c1]
  have h2 := hK _ _ (h w.heap.size _ st.size hs ((Below.refl _ _).alloc (Nat.le_refl _) _))
  unfold Oper.wp
  simp [execOp, ho, Instr.buildSlice, run_underlying ht, hsz, hz, newRow, newObj, hx0, hx1, Instr.fill, Value.cells, Array.range, Result.andThen] at h2 ⊢
  exact h2

theorem SlR.lev_row {ok : Nat → Prop} {w : World} {b o c : Nat} {xs : List Lev} (h : SlR ok w 2 RLev (some ⟨b, o, none⟩) c xs) (i : Nat) (hi : i < xs.length) :
    ∀ (j : Nat) (v : Value), [Value.int .i64 xs[i].c, .int .i64 xs[i].l][j]? = some v → w.cell? ⟨b, o + i * 2 + j, none⟩ = some v := by
  obtain ⟨b', o', cs, ha, _, hb, hr, _, _, hc⟩ := h.2.2.2 i xs[i] (by simp [hi])
  simp only [Option.some.injEq, Addr.mk.injEq, and_true] at ha
  obtain ⟨rfl, rfl⟩ := ha
  unfold RLev at hr
  subst hr
  exact hc

theorem labels2 {w : World} {g : Nat} {T : TypeId} {a b : List Lev} {la lb : Option Addr} {ca cb : Nat} (h : w.heap[g]? = some (.cells [Value.slice la a.length ca, .slice lb b.length cb].toArray T (0, 0))) {ok : Nat → Prop} (hA : SlR ok w 2 RLev la ca a) (hB : SlR ok w 2 RLev lb cb b) : LabelsR (fun _ => True) w (some ⟨g, 0, none⟩) 2 [a, b] := by
  refine ⟨by simp, by decide, by simp, fun i x hx => ?_⟩
  have hg := (Array.getElem?_eq_some_iff.1 h).1
  have hcell : ∀ (j : Nat) (v : Value), [Value.slice la a.length ca, .slice lb b.length cb][j]? = some v → w.cell? ⟨g, 0 + j, none⟩ = some v := fun j v hj => by
    rw [Nat.zero_add, cell_of_row w g _ _ T (0, 0) h]
    simpa using hj
  rcases i with _ | _ | i
  · simp at hx
    subst hx
    refine ⟨g, 0, [.slice la a.length ca], rfl, trivial, hg, ⟨la, ca, rfl, hA.okay fun _ _ => trivial⟩, rfl, by simp [Value.oneCell'], fun j v hj => ?_⟩
    rcases j with _ | j
    · simp at hj; subst hj; exact hcell 0 _ rfl
    · simp at hj
  · simp at hx
    subst hx
    refine ⟨g, 0, [.slice lb b.length cb], rfl, trivial, hg, ⟨lb, cb, rfl, hB.okay fun _ _ => trivial⟩, rfl, by simp [Value.oneCell'], fun j v hj => ?_⟩
    rcases j with _ | j
    · simp at hj; subst hj; exact hcell 1 _ rfl
    · simp at hj
  · simp at hx

theorem ref_in (ok : Nat → Prop) (w : World) (a : Option Addr) (c : Nat) (l : List Int) (v : Int) (hR : SlR ok w 1 RInt a c l) :
    Calls Try.prog 36 #[.slice a l.length c, .int .i64 v] w fun e w' => e = .returned (.bool (inL l v)) ∧ w = w' := by
  have hl : l.length ≤ 9223372036854775807 := by have h1 := hR.1; have h2 := hR.2.1; unfold maxLen at h2; omega
  go_enter Try.func36, Try.ntmps36
  go_wp2
  go_loop [9] (fun i => ∃ k : Nat, k ≤ l.length ∧ i = .int .i64 k ∧ Hid (inL l v = inL (l.drop k) v)) (fun i => l.length - (intOf i).toNat)
  case atStart => exact ⟨0, Nat.zero_le _, rfl, rfl⟩
  case round =>
    obtain ⟨k, hk, rfl, hI⟩ := hrel
    by_cases hlt : k < l.length
    · obtain ⟨b, o, rfl, hb, h1⟩ := hR.int_at k hlt
      by_cases he : l[k] = v
      · have d1 : (l[k] == v) = true := by simpa using he
        have HE := Lib.hid (show inL l v = true by rw [hI.out, inL_hit hlt he.symm])
        clear he
        go_wp2
        go_ret
        exact ⟨ret_bool HE.out.symm, rfl⟩
      · have d1 : (l[k] == v) = false := by simpa using he
        have HE := Lib.hid (show inL l v = inL (l.drop (k + 1)) v by rw [hI.out, inL_pass hlt fun h => he h.symm])
        clear he
        go_wp2
        go_round
        case rel => exact ⟨k + 1, hlt, by go_num, HE⟩
        case measure => simp [intOf]; omega
    · have HE := Lib.hid (show inL l v = false by rw [hI.out, inL_end hlt])
      go_wp2
      go_ret
      exact ⟨ret_bool HE.out.symm, rfl⟩

set_option maxRecDepth 100000 in
set_option maxHeartbeats 1600000 in
theorem ref_At (ok : Nat → Prop) (w : World) (la : Option Addr) (lc : Nat) (l : List Lev) (c : Int) (hR : SlR ok w 2 RLev la lc l) :
    Calls Try.prog 22 #[.slice la l.length lc, .int .i64 c] w fun e w' => e = .returned (.int .i64 (lAt l c)) ∧ Below w.heap.size w w' := by
  have hl : l.length ≤ 9223372036854775807 := by have h1 := hR.1; have h2 := hR.2.1; unfold maxLen at h2; omega
  go_enter Try.func22, Try.ntmps22
  go_wp2
  go_loopw [9] (fun i wr => ∃ k : Nat, k ≤ l.length ∧ i = .int .i64 k ∧ Below w.heap.size w wr ∧ Hid (lAt l c = lAt (l.drop k) c)) (fun i _ => l.length - (intOf i).toNat)
  case atStart => exact ⟨0, Nat.zero_le _, rfl, Below.refl _ _, rfl⟩
  case round =>
    obtain ⟨k, hk, rfl, hB, hI⟩ := hrel
    by_cases hlt : k < l.length
    · obtain ⟨b, o, rfl, hb, _⟩ := hR.lev_at k hlt
      have hrow := (hR.below hB).lev_row k hlt
      have HD := Lib.hid (drop_at hlt)
      have st := St.start wr
      by_cases he : l[k].c = c
      · have d1 : (l[k].c == c) = true := by simpa using he
        have HE := Lib.hid (show lAt l c = l[k].l by rw [hI.out, HD.out, lAt, if_pos he])
        clear he
        go_wp2_with (first | go_skip | (with_reducible refine at_load 43 ?_; refine wpList_load_cells (wanted_none rfl) 43 _ rfl Try.isAgg43 _ Try.sizeOf43 b (o + k * 2) rfl [.int .i64 l[k].c, .int .i64 l[k].l] rfl hrow ?_) | (with_reducible refine at_alloc 43 ?_; refine mem_alloc st (wanted_none rfl) 43 rfl _ Try.zeroValue43 _ rfl ?_; clear st; intro g1 w1 hg1 st hg1b; clear hg1b; simp [Act.eval, Act.put, Value.cells, putL] at st) | (with_reducible refine at_store 43 ?_; (first | refine mem_store' st 43 _ _ rfl (wanted_none rfl) _ Try.sizeOf43 ?_ | (refine mem_store' st 43 _ _ rfl (wanted_some rfl ?_) _ Try.sizeOf43 ?_; focus (simp [yielded, Act.put]; done))); refine ⟨0, _, _, _, _, _, rfl, rfl, rfl, rfl, rfl, rfl, ?_⟩; clear st; intro w2 st hw2m hw2z; simp [Act.eval, Act.put, Value.cells, putL] at st) | (with_reducible refine at_load 3 ?_; (first | refine mem_load' st 3 _ rfl (wanted_none rfl) Try.isAgg3 ?_ | (refine mem_load' st 3 _ rfl (wanted_some rfl ?_) Try.isAgg3 ?_; focus (simp [yielded, Act.put]; done))); refine ⟨0, _, _, _, _, _, rfl, rfl, rfl, ?_⟩))
        go_ret
        exact ⟨ret_int HE.out.symm, hB.keep st.below⟩
      · have d1 : (l[k].c == c) = false := by simpa using he
        have HE := Lib.hid (show lAt l c = lAt (l.drop (k + 1)) c by rw [hI.out, HD.out, lAt, if_neg he])
        clear he
        go_wp2_with (first | go_skip | (with_reducible refine at_load 43 ?_; refine wpList_load_cells (wanted_none rfl) 43 _ rfl Try.isAgg43 _ Try.sizeOf43 b (o + k * 2) rfl [.int .i64 l[k].c, .int .i64 l[k].l] rfl hrow ?_) | (with_reducible refine at_alloc 43 ?_; refine mem_alloc st (wanted_none rfl) 43 rfl _ Try.zeroValue43 _ rfl ?_; clear st; intro g1 w1 hg1 st hg1b; clear hg1b; simp [Act.eval, Act.put, Value.cells, putL] at st) | (with_reducible refine at_store 43 ?_; (first | refine mem_store' st 43 _ _ rfl (wanted_none rfl) _ Try.sizeOf43 ?_ | (refine mem_store' st 43 _ _ rfl (wanted_some rfl ?_) _ Try.sizeOf43 ?_; focus (simp [yielded, Act.put]; done))); refine ⟨0, _, _, _, _, _, rfl, rfl, rfl, rfl, rfl, rfl, ?_⟩; clear st; intro w2 st hw2m hw2z; simp [Act.eval, Act.put, Value.cells, putL] at st) | (with_reducible refine at_load 3 ?_; (first | refine mem_load' st 3 _ rfl (wanted_none rfl) Try.isAgg3 ?_ | (refine mem_load' st 3 _ rfl (wanted_some rfl ?_) Try.isAgg3 ?_; focus (simp [yielded, Act.put]; done))); refine ⟨0, _, _, _, _, _, rfl, rfl, rfl, ?_⟩))
        go_roundw
        case rel => exact ⟨k + 1, hlt, by go_num, hB.keep st.below, HE⟩
        case measure => simp [intOf]; omega
    · have HE := Lib.hid (show lAt l c = 1 by rw [hI.out, List.drop_of_length_le (by omega)]; rfl)
      go_wp2
      go_ret
      exact ⟨ret_int HE.out.symm, hB⟩

set_option maxRecDepth 100000 in
set_option maxHeartbeats 3000000 in
theorem ref_Flows (ok : Nat → Prop) (w : World) (la lb lo : Option Addr) (ca cb co : Nat) (a b : List Lev) (own : List Int) (hfa : ∀ y ∈ a, fitI y.c) (hfb : ∀ y ∈ b, fitI y.c) (hn : a.length + b.length < maxLen)
    (hA : SlR ok w 2 RLev la ca a) (hB' : SlR ok w 2 RLev lb cb b) (hC : SlR ok w 1 RInt lo co own) :
    Calls Try.prog 18 #[.slice la a.length ca, .slice lb b.length cb, .slice lo own.length co] w fun e w' => e = .returned (.bool (flowsL a b own)) ∧ Below w.heap.size w w' := by
  have HNm := Lib.hid (fun (W : World) (g : Nat) (h : LabelsR (fun _ => True) W (some ⟨g, 0, none⟩) 2 [a, b]) => ref_names (fun _ => True) W (some ⟨g, 0, none⟩) 2 [a, b] (fun x hx y hy => by
    simp at hx
    rcases hx with rfl | rfl
    · exact hfa y hy
    · exact hfb y hy) (by simpa [namesL] using hn) h)
  have hmem : ∀ x, inL (namesL [a, b]) x = true ↔ x ∈ eachL a b := fun x => by
    rw [inL_iff, eachL_mem]
    simp [namesL, catsOf]
  have HF := Lib.hid (flowsFrom_iff a b own (eachL a b))
  have HMem := Lib.hid hmem
  have HFit := Lib.hid (show ∀ x ∈ eachL a b, fitI x from fun x hx => by
    rcases eachL_mem.1 hx with h | h
    · obtain ⟨y, hy, rfl⟩ := List.mem_map.1 h
      exact hfa y hy
    · obtain ⟨y, hy, rfl⟩ := List.mem_map.1 h
      exact hfb y hy)
  clear hfa hfb hn hmem
  have st := St.start w
  go_enter Try.func18, Try.ntmps18
  go_wp2_with (first
    | go_skip | (refine wpList_buildV2 st (wanted_none rfl) 52 23 _ _ rfl Try.underlying52 Try.sizeOf23 Try.zeroValue23 _ _ _ _ _ _ rfl rfl ?_; clear st; intro g1 w1 hg1 st hb1; simp at st)
    | (go_at_call 31; go_must (refine (HNm.out _ g1 (labels2 (st.blk _ (List.mem_of_getElem? (i := 0) rfl)) (hA.below st.below) (hB'.below st.below))).mono ?_; rintro e v2 ⟨bm, rfl, hbm, hb2, hM⟩; replace st := st.call hb2; clear hb2))
    | (at_range; go_must (refine wpList_setRange hM (int_keyed Try.underlying3) rfl _ 47 rfl Try.underlying47 rfl ?_; intro r w3 cnt0 hr0 hrg hb3; have hs2 := st.size; replace st := st.call hb3; clear hb3)))
  go_frame
  have hbw : w.heap.size ≤ r := Nat.le_trans hs2 hr0
  have hB0 := st.below
  clear st hM hg1 hbm hr0
  go_loopw [7] (fun _ wr => ∃ seen cnt, RangeB Try.prog 3 4 wr bm r (namesL [a, b]).length (namesL [a, b]) seen cnt ∧ Below w.heap.size w wr ∧ Hid (∀ x ∈ seen, x ∉ own → lAt a x ≤ lAt b x)) (fun _ wr => wr.rangeLeft bm r)
  case atStart => exact ⟨[], _, hrg, hB0, fun x hx => by simp at hx⟩
  case round =>
    clear hrg hB0
    obtain ⟨seen, cnt, hrg, hB, hI⟩ := hrel
    have hm0 := hrg.left_eq
    go_wp2_with (first | go_skip | (at_next; refine wpList_setNext hrg (int_keyed Try.underlying3) Try.underlying3 Try.underlying4 rfl _ rfl rfl (fun hD => ?_) (fun x c w4 cnt4 hfx hx hrg4 hcnt hg4 hz4 hen => ?_)))
    · have HE := Lib.hid (show flowsL a b own = true from HF.out.2 fun x hx hxo => by
        by_cases hfx : fitI x
        · exact hI.out x ((inL_iff _ _).1 (hD.out x hfx ((HMem.out x).2 hx))) hxo
        · exact absurd (HFit.out x hx) hfx)
      go_ret
      exact ⟨ret_bool HE.out.symm, hB⟩
    · have hB4 : Below w.heap.size w w4 := hB.grown hg4 hB.size fun q hq => by simp at hq; omega
      have hxe := (HMem.out x).1 hx
      have st := St.start w4
      have HA := Lib.hid (fun (W : World) (h : Below w.heap.size w W) => ref_At ok W la ca a x (hA.below h))
      have HB := Lib.hid (fun (W : World) (h : Below w.heap.size w W) => ref_At ok W lb cb b x (hB'.below h))
      have HI := Lib.hid (fun (W : World) (h : Below w.heap.size w W) => ref_in ok W lo co own x (hC.below h))
      clear hrg hx hg4
      cases ho : inL own x
      · have hno : x ∉ own := (inL_not own x).1 ho
        by_cases hgt : lAt b x < lAt a x
        · have HE := Lib.hid (show flowsL a b own = false by
            rw [Bool.eq_false_iff]
            intro h
            have := HF.out.1 h x hxe hno
            omega)
          have d1 : decide (lAt b x < lAt a x) = true := by simpa using hgt
          have HO := Lib.hid ho
          clear ho hgt hno
          have tk := trivial
          go_wp2_with (first
            | go_skip
            | (go_at_call 36; go_must (refine (HI.out _ (hB4.keep st.below)).mono ?_; rintro e v5 ⟨rfl, rfl⟩; rw [HO.out]))
            | (go_at_call 22; clear tk; go_must (refine (HA.out _ (hB4.keep st.below)).mono ?_; rintro e v6 ⟨rfl, hb6⟩; replace st := st.call hb6; clear hb6))
            | (go_at_call 22; go_must (refine (HB.out _ (hB4.keep st.below)).mono ?_; rintro e v7 ⟨rfl, hb7⟩; replace st := st.call hb7; clear hb7)))
          go_ret
          exact ⟨ret_bool HE.out.symm, hB4.keep st.below⟩
        · have HE := Lib.hid (show ∀ y ∈ seen ++ [x], y ∉ own → lAt a y ≤ lAt b y from fun y hy hyo => by
            rcases List.mem_append.1 hy with hy | hy
            · exact hI.out y hy hyo
            · simp at hy; subst hy; omega)
          have d1 : decide (lAt b x < lAt a x) = false := by simpa using hgt
          have HO := Lib.hid ho
          clear ho hgt hno
          have tk := trivial
          go_wp2_with (first
            | go_skip
            | (go_at_call 36; go_must (refine (HI.out _ (hB4.keep st.below)).mono ?_; rintro e v5 ⟨rfl, rfl⟩; rw [HO.out]))
            | (go_at_call 22; clear tk; go_must (refine (HA.out _ (hB4.keep st.below)).mono ?_; rintro e v6 ⟨rfl, hb6⟩; replace st := st.call hb6; clear hb6))
            | (go_at_call 22; go_must (refine (HB.out _ (hB4.keep st.below)).mono ?_; rintro e v7 ⟨rfl, hb7⟩; replace st := st.call hb7; clear hb7)))
          go_roundw
          case rel => exact ⟨_, _, hrg4.below st.below, hB4.keep st.below, HE⟩
          case measure => rw [(hrg4.below st.below).left_eq, hm0]; exact hcnt
      · have hyes : x ∈ own := (inL_iff own x).1 ho
        have HE := Lib.hid (show ∀ y ∈ seen ++ [x], y ∉ own → lAt a y ≤ lAt b y from fun y hy hyo => by
          rcases List.mem_append.1 hy with hy | hy
          · exact hI.out y hy hyo
          · simp at hy; subst hy; exact absurd hyes hyo)
        have HO := Lib.hid ho
        clear ho hyes
        go_wp2_with (first
          | go_skip
          | (go_at_call 36; go_must (refine (HI.out _ (hB4.keep st.below)).mono ?_; rintro e v5 ⟨rfl, rfl⟩; rw [HO.out])))
        go_roundw
        case rel => exact ⟨_, _, hrg4.below st.below, hB4.keep st.below, HE⟩
        case measure => rw [(hrg4.below st.below).left_eq, hm0]; exact hcnt

end Go.Proofs.Ytnihccinpbpllaa

/- The walk through parcloseref.GoodLabel. -/
namespace Go.Proofs.Ytnihccinpbpllaa
open Go.RowKit

theorem prevC_ge {l : List Lev} {k : Nat} (h : -1 ≤ prevC l k) (hk : k < l.length) (hc : 0 ≤ l[k].c) : -1 ≤ prevC l (k + 1) := by
  rw [prevC_succ l k hk]
  omega

set_option maxRecDepth 100000 in
set_option maxHeartbeats 3000000 in
theorem ref_GoodLabel (ok : Nat → Prop) (w : World) (la : Option Addr) (lc : Nat) (l : List Lev) (hR : SlR ok w 2 RLev la lc l) :
    Calls Try.prog 20 #[.slice la l.length lc] w fun e w' => e = .returned (.bool (goodL l)) ∧ Below w.heap.size w w' := by
  have hl : l.length ≤ 9223372036854775807 := by have h1 := hR.1; have h2 := hR.2.1; unfold maxLen at h2; omega
  go_enter Try.func20, Try.ntmps20
  go_wp2
  go_loopw [8, 3] (fun i p wr => ∃ k : Nat, k ≤ l.length ∧ i = .int .i64 k ∧ p = .int .i64 (prevC l k) ∧ Below w.heap.size w wr ∧ Hid (risesL (-1) l = risesL (prevC l k) (l.drop k)) ∧ -1 ≤ prevC l k) (fun i _ _ => l.length - (intOf i).toNat)
  case atStart => exact ⟨0, Nat.zero_le _, rfl, by rw [prevC_zero], Below.refl _ _, by rw [prevC_zero]; rfl, by rw [prevC_zero]; decide⟩
  case round =>
    obtain ⟨k, hk, rfl, rfl, hB, hI, hge⟩ := hrel
    by_cases hlt : k < l.length
    · obtain ⟨b, o, rfl, hb, _⟩ := hR.lev_at k hlt
      have hrow := (hR.below hB).lev_row k hlt
      have hbad := @good_bad l k hlt hI
      have hgo := @good_go l k hlt hI
      have hps := prevC_succ l k hlt
      have hpg := @prevC_ge l k hge hlt
      generalize prevC l k = p at hbad hgo hge hpg ⊢
      generalize hx : l[k] = x at hrow hbad hgo hps hpg
      have HBad := Lib.hid hbad
      have HGo := Lib.hid hgo
      have HPs := Lib.hid hps
      have HPg := Lib.hid hpg
      clear hx hbad hgo hI hps hpg
      have st := St.start wr
      by_cases e1 : x.c ≤ p
      · have d1 : decide (x.c ≤ p) = true := by simpa using e1
        have HE := Lib.hid (HBad.out fun h => by omega)
        clear e1
        go_wp2_with (first | go_skip | (with_reducible refine at_load 43 ?_; refine wpList_load_cells (wanted_none rfl) 43 _ rfl Try.isAgg43 _ Try.sizeOf43 b (o + k * 2) rfl [.int .i64 x.c, .int .i64 x.l] rfl hrow ?_) | (with_reducible refine at_alloc 43 ?_; refine mem_alloc st (wanted_none rfl) 43 rfl _ Try.zeroValue43 _ rfl ?_; clear st; intro g1 w1 hg1 st hg1b; clear hg1b; simp [Act.eval, Act.put, Value.cells, putL] at st) | (with_reducible refine at_store 43 ?_; (first | refine mem_store' st 43 _ _ rfl (wanted_none rfl) _ Try.sizeOf43 ?_ | (refine mem_store' st 43 _ _ rfl (wanted_some rfl ?_) _ Try.sizeOf43 ?_; focus (simp [yielded, Act.put]; done))); refine ⟨0, _, _, _, _, _, rfl, rfl, rfl, rfl, rfl, rfl, ?_⟩; clear st; intro w2 st hw2m hw2z; simp [Act.eval, Act.put, Value.cells, putL] at st) | (with_reducible refine at_load 3 ?_; (first | refine mem_load' st 3 _ rfl (wanted_none rfl) Try.isAgg3 ?_ | (refine mem_load' st 3 _ rfl (wanted_some rfl ?_) Try.isAgg3 ?_; focus (simp [yielded, Act.put]; done))); refine ⟨0, _, _, _, _, _, rfl, rfl, rfl, ?_⟩))
        go_ret
        exact ⟨ret_bool HE.out.symm, hB.keep st.below⟩
      · have d1 : decide (x.c ≤ p) = false := by simpa using e1
        by_cases e2 : 79 < x.c
        · have d2 : decide (79 < x.c) = true := by simpa using e2
          have HE := Lib.hid (HBad.out fun h => by have := h.2; simp only [lvOk, decide_eq_true_eq] at this; omega)
          clear e1 e2
          go_wp2_with (first | go_skip | (with_reducible refine at_load 43 ?_; refine wpList_load_cells (wanted_none rfl) 43 _ rfl Try.isAgg43 _ Try.sizeOf43 b (o + k * 2) rfl [.int .i64 x.c, .int .i64 x.l] rfl hrow ?_) | (with_reducible refine at_alloc 43 ?_; refine mem_alloc st (wanted_none rfl) 43 rfl _ Try.zeroValue43 _ rfl ?_; clear st; intro g1 w1 hg1 st hg1b; clear hg1b; simp [Act.eval, Act.put, Value.cells, putL] at st) | (with_reducible refine at_store 43 ?_; (first | refine mem_store' st 43 _ _ rfl (wanted_none rfl) _ Try.sizeOf43 ?_ | (refine mem_store' st 43 _ _ rfl (wanted_some rfl ?_) _ Try.sizeOf43 ?_; focus (simp [yielded, Act.put]; done))); refine ⟨0, _, _, _, _, _, rfl, rfl, rfl, rfl, rfl, rfl, ?_⟩; clear st; intro w2 st hw2m hw2z; simp [Act.eval, Act.put, Value.cells, putL] at st) | (with_reducible refine at_load 3 ?_; (first | refine mem_load' st 3 _ rfl (wanted_none rfl) Try.isAgg3 ?_ | (refine mem_load' st 3 _ rfl (wanted_some rfl ?_) Try.isAgg3 ?_; focus (simp [yielded, Act.put]; done))); refine ⟨0, _, _, _, _, _, rfl, rfl, rfl, ?_⟩))
          go_ret
          exact ⟨ret_bool HE.out.symm, hB.keep st.below⟩
        · have d2 : decide (79 < x.c) = false := by simpa using e2
          rcases (show x.l = 0 ∨ (x.l ≠ 0 ∧ x.l = 2) ∨ (x.l ≠ 0 ∧ x.l ≠ 2 ∧ x.l = 3) ∨ (x.l ≠ 0 ∧ x.l ≠ 2 ∧ x.l ≠ 3) by omega) with h3 | ⟨h4, h5⟩ | ⟨h4, h5, h6⟩ | ⟨h4, h5, h6⟩
          · have HOk := Lib.hid (show p < x.c ∧ lvOk x = true from ⟨by omega, by simp only [lvOk, decide_eq_true_eq]; omega⟩)
            have hx0 : 0 ≤ x.c := by omega
            have d3 : (x.l != 0) = false := by simp; omega
            skip
            clear e1 e2 h3
            go_wp2_with (first | go_skip | (with_reducible refine at_load 43 ?_; refine wpList_load_cells (wanted_none rfl) 43 _ rfl Try.isAgg43 _ Try.sizeOf43 b (o + k * 2) rfl [.int .i64 x.c, .int .i64 x.l] rfl hrow ?_) | (with_reducible refine at_alloc 43 ?_; refine mem_alloc st (wanted_none rfl) 43 rfl _ Try.zeroValue43 _ rfl ?_; clear st; intro g1 w1 hg1 st hg1b; clear hg1b; simp [Act.eval, Act.put, Value.cells, putL] at st) | (with_reducible refine at_store 43 ?_; (first | refine mem_store' st 43 _ _ rfl (wanted_none rfl) _ Try.sizeOf43 ?_ | (refine mem_store' st 43 _ _ rfl (wanted_some rfl ?_) _ Try.sizeOf43 ?_; focus (simp [yielded, Act.put]; done))); refine ⟨0, _, _, _, _, _, rfl, rfl, rfl, rfl, rfl, rfl, ?_⟩; clear st; intro w2 st hw2m hw2z; simp [Act.eval, Act.put, Value.cells, putL] at st) | (with_reducible refine at_load 3 ?_; (first | refine mem_load' st 3 _ rfl (wanted_none rfl) Try.isAgg3 ?_ | (refine mem_load' st 3 _ rfl (wanted_some rfl ?_) Try.isAgg3 ?_; focus (simp [yielded, Act.put]; done))); refine ⟨0, _, _, _, _, _, rfl, rfl, rfl, ?_⟩))
            go_roundw
            case rel => exact ⟨k + 1, hlt, by go_num, by rw [HPs.out], hB.keep st.below, HGo.out HOk.out, HPg.out hx0⟩
            case measure => simp [intOf]; omega
          · have HOk := Lib.hid (show p < x.c ∧ lvOk x = true from ⟨by omega, by simp only [lvOk, decide_eq_true_eq]; omega⟩)
            have hx0 : 0 ≤ x.c := by omega
            have d3 : (x.l != 0) = true := by simp; omega
            have d4 : (x.l != 2) = false := by simp; omega
            clear e1 e2 h4 h5
            go_wp2_with (first | go_skip | (with_reducible refine at_load 43 ?_; refine wpList_load_cells (wanted_none rfl) 43 _ rfl Try.isAgg43 _ Try.sizeOf43 b (o + k * 2) rfl [.int .i64 x.c, .int .i64 x.l] rfl hrow ?_) | (with_reducible refine at_alloc 43 ?_; refine mem_alloc st (wanted_none rfl) 43 rfl _ Try.zeroValue43 _ rfl ?_; clear st; intro g1 w1 hg1 st hg1b; clear hg1b; simp [Act.eval, Act.put, Value.cells, putL] at st) | (with_reducible refine at_store 43 ?_; (first | refine mem_store' st 43 _ _ rfl (wanted_none rfl) _ Try.sizeOf43 ?_ | (refine mem_store' st 43 _ _ rfl (wanted_some rfl ?_) _ Try.sizeOf43 ?_; focus (simp [yielded, Act.put]; done))); refine ⟨0, _, _, _, _, _, rfl, rfl, rfl, rfl, rfl, rfl, ?_⟩; clear st; intro w2 st hw2m hw2z; simp [Act.eval, Act.put, Value.cells, putL] at st) | (with_reducible refine at_load 3 ?_; (first | refine mem_load' st 3 _ rfl (wanted_none rfl) Try.isAgg3 ?_ | (refine mem_load' st 3 _ rfl (wanted_some rfl ?_) Try.isAgg3 ?_; focus (simp [yielded, Act.put]; done))); refine ⟨0, _, _, _, _, _, rfl, rfl, rfl, ?_⟩))
            go_roundw
            case rel => exact ⟨k + 1, hlt, by go_num, by rw [HPs.out], hB.keep st.below, HGo.out HOk.out, HPg.out hx0⟩
            case measure => simp [intOf]; omega
          · have HOk := Lib.hid (show p < x.c ∧ lvOk x = true from ⟨by omega, by simp only [lvOk, decide_eq_true_eq]; omega⟩)
            have hx0 : 0 ≤ x.c := by omega
            have d3 : (x.l != 0) = true := by simp; omega
            have d4 : (x.l != 2) = true := by simp; omega
            have d5 : (x.l != 3) = false := by simp; omega
            clear e1 e2 h4 h5 h6
            go_wp2_with (first | go_skip | (with_reducible refine at_load 43 ?_; refine wpList_load_cells (wanted_none rfl) 43 _ rfl Try.isAgg43 _ Try.sizeOf43 b (o + k * 2) rfl [.int .i64 x.c, .int .i64 x.l] rfl hrow ?_) | (with_reducible refine at_alloc 43 ?_; refine mem_alloc st (wanted_none rfl) 43 rfl _ Try.zeroValue43 _ rfl ?_; clear st; intro g1 w1 hg1 st hg1b; clear hg1b; simp [Act.eval, Act.put, Value.cells, putL] at st) | (with_reducible refine at_store 43 ?_; (first | refine mem_store' st 43 _ _ rfl (wanted_none rfl) _ Try.sizeOf43 ?_ | (refine mem_store' st 43 _ _ rfl (wanted_some rfl ?_) _ Try.sizeOf43 ?_; focus (simp [yielded, Act.put]; done))); refine ⟨0, _, _, _, _, _, rfl, rfl, rfl, rfl, rfl, rfl, ?_⟩; clear st; intro w2 st hw2m hw2z; simp [Act.eval, Act.put, Value.cells, putL] at st) | (with_reducible refine at_load 3 ?_; (first | refine mem_load' st 3 _ rfl (wanted_none rfl) Try.isAgg3 ?_ | (refine mem_load' st 3 _ rfl (wanted_some rfl ?_) Try.isAgg3 ?_; focus (simp [yielded, Act.put]; done))); refine ⟨0, _, _, _, _, _, rfl, rfl, rfl, ?_⟩))
            go_roundw
            case rel => exact ⟨k + 1, hlt, by go_num, by rw [HPs.out], hB.keep st.below, HGo.out HOk.out, HPg.out hx0⟩
            case measure => simp [intOf]; omega
          · have HE := Lib.hid (HBad.out fun h => by have := h.2; simp only [lvOk, decide_eq_true_eq] at this; omega)
            have d3 : (x.l != 0) = true := by simp; omega
            have d4 : (x.l != 2) = true := by simp; omega
            have d5 : (x.l != 3) = true := by simp; omega
            clear e1 e2 h4 h5 h6
            go_wp2_with (first | go_skip | (with_reducible refine at_load 43 ?_; refine wpList_load_cells (wanted_none rfl) 43 _ rfl Try.isAgg43 _ Try.sizeOf43 b (o + k * 2) rfl [.int .i64 x.c, .int .i64 x.l] rfl hrow ?_) | (with_reducible refine at_alloc 43 ?_; refine mem_alloc st (wanted_none rfl) 43 rfl _ Try.zeroValue43 _ rfl ?_; clear st; intro g1 w1 hg1 st hg1b; clear hg1b; simp [Act.eval, Act.put, Value.cells, putL] at st) | (with_reducible refine at_store 43 ?_; (first | refine mem_store' st 43 _ _ rfl (wanted_none rfl) _ Try.sizeOf43 ?_ | (refine mem_store' st 43 _ _ rfl (wanted_some rfl ?_) _ Try.sizeOf43 ?_; focus (simp [yielded, Act.put]; done))); refine ⟨0, _, _, _, _, _, rfl, rfl, rfl, rfl, rfl, rfl, ?_⟩; clear st; intro w2 st hw2m hw2z; simp [Act.eval, Act.put, Value.cells, putL] at st) | (with_reducible refine at_load 3 ?_; (first | refine mem_load' st 3 _ rfl (wanted_none rfl) Try.isAgg3 ?_ | (refine mem_load' st 3 _ rfl (wanted_some rfl ?_) Try.isAgg3 ?_; focus (simp [yielded, Act.put]; done))); refine ⟨0, _, _, _, _, _, rfl, rfl, rfl, ?_⟩))
            go_ret
            exact ⟨ret_bool HE.out.symm, hB.keep st.below⟩
    · have HE := Lib.hid (show goodL l = decide (l.length ≤ 8) by
        unfold goodL
        rw [hI.out, List.drop_of_length_le (by omega)]
        by_cases h8 : l.length ≤ 8 <;> simp [h8, risesL])
      go_wp2
      go_ret
      exact ⟨ret_bool (by rw [HE.out]; simp; omega), hB⟩

end Go.Proofs.Ytnihccinpbpllaa

/- Copies of labels and numbers, by their own memory. -/
namespace Go.Proofs.Ytnihccinpbpllaa
open Go.RowKit

set_option maxRecDepth 100000 in
theorem law_levels (ok : Nat → Prop) (w : World) (a : Option Addr) (c : Nat) (l : List Lev) (hl : l.length * 16 ≤ 140737488355328) (hR : SlR ok w 2 RLev a c l) :
    Calls Try.prog 11 #[.slice a l.length c] w fun e w' => ∃ a' c', e = .returned (.slice a' l.length c') ∧ Below w.heap.size w w' ∧ Own w.heap.size 43 w' 2 RLev a' c' l := by
  obtain ⟨i0, hi, hz0, hz1, hz2⟩ := info_parts info_Level
  go_enter Try.func11, Try.ntmps11
  go_wp2_with (first | go_skip | (at_builtin; go_must (refine wpList_copy (wanted_none rfl) _ _ 23 rfl 43 i0 _ 2 16 Try.underlying23 hi hz0 hz1 hz2 rfl (by decide) rfl rfl rfl hR hl ?_; intro a' c' w' hO hb)))
  go_ret
  exact ⟨a', c', rfl, hb, hO⟩

set_option maxRecDepth 100000 in
theorem law_numbers (ok : Nat → Prop) (w : World) (a : Option Addr) (c : Nat) (l : List Int) (hl : l.length * 8 ≤ 140737488355328) (hR : SlR ok w 1 RInt a c l) :
    Calls Try.prog 17 #[.slice a l.length c] w fun e w' => ∃ a' c', e = .returned (.slice a' l.length c') ∧ Below w.heap.size w w' ∧ Own w.heap.size 3 w' 1 RInt a' c' l := by
  obtain ⟨i0, hi, hz0, hz1, hz2⟩ := info_parts info_int
  go_enter Try.func17, Try.ntmps17
  go_wp2_with (first | go_skip | (at_builtin; go_must (refine wpList_copy (wanted_none rfl) _ _ 28 rfl 3 i0 _ 1 8 Try.underlying28 hi hz0 hz1 hz2 rfl (by decide) rfl rfl rfl hR hl ?_; intro a' c' w' hO hb)))
  go_ret
  exact ⟨a', c', rfl, hb, hO⟩

end Go.Proofs.Ytnihccinpbpllaa

/- The bulk that the second form of a statement reckons is no less than ours. No program is in sight. -/
namespace Go.Proofs.Ytnihccinpbpllaa

mutual
theorem bk_le {H : Type} : ∀ d : DataW H, bk d ≤ Rows.uptoBulk d
  | .lit l => by cases l <;> simp [bk, Rows.uptoBulk]
  | .nil => by simp [bk, Rows.uptoBulk]
  | .ptr d => by have := bk_le d; simp only [bk, Rows.uptoBulk]; omega
  | .slice elems spare => by have := bkAll_le elems; have := bkAll_le spare; simp only [bk, Rows.uptoBulk]; omega
  | .agg parts => by have := bkAll_le parts; simp only [bk, Rows.uptoBulk]; omega
  | .iface _ d => by have := bk_le d; simp only [bk, Rows.uptoBulk]; omega
  | .map _ => by simp [bk]
  | .held _ => by simp [bk, Rows.uptoBulk]
theorem bkAll_le {H : Type} : ∀ ds : List (DataW H), bkAll ds ≤ Rows.uptoBulkAll ds
  | [] => by simp [bkAll]
  | d :: r => by have := bk_le d; have := bkAll_le r; simp only [bkAll, Rows.uptoBulkAll]; omega
end

theorem sum_const {α : Type} (k : Nat) : ∀ l : List α, (l.map fun _ => k).sum = l.length * k
  | [] => by simp
  | x :: l => by simp only [List.map_cons, List.sum_cons, sum_const k l, List.length_cons, Nat.succ_mul]; omega

theorem mass_levs (l : List Lev) : (l.map Lev.mass).sum = l.length * 2 := sum_const 2 l
theorem mass_certs (l : List Cert) : (l.map Cert.mass).sum = l.length * 4 := sum_const 4 l
theorem mass_ints (l : List Int) : (l.map fun _ => 1).sum = l.length := by rw [sum_const, Nat.mul_one]

end Go.Proofs.Ytnihccinpbpllaa
