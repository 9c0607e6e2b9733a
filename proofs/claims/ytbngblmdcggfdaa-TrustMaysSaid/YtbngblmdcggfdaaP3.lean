/- Walks and plain laws that the claim rests on, part 3. -/
import Derived.Test.YtbngblmdcggfdaaP2
import Derived.Orders
import Derived.Test.YtbngblmdcggfdaaP1
import Derived.ArgAppend
import Derived.Deep.LoopGhost
import Derived.DeepKeys4
import Derived.Test.YtbngblmdcggfdaaProg
import Derived.Sort.Row
import Derived.Sort.Grow
import Derived.Lib.SlicesCompact
import Derived.Test.YtbngblmdcggfdaaShelf
import Derived.Laws.OwnMore
set_option linter.unusedSimpArgs false
set_option linter.unusedVariables false
/- A region that draws its order, walked once: what only reads may come first, if what it reads stands under a fact that all the others keep. No program is in sight. -/
namespace Go.Proofs.Ytbngblmdcggfdaa
open Go.RowKit

/-- No way out but the end. -/
def QF : Exit → Act → World → Prop := fun _ _ _ => False

section
variable {P : Program} {ops : Array Oper}

theorem wp_QF {o : Oper} {a : Act} {w : World} {K : Act → World → Prop} {Q : Exit → Act → World → Prop} (h : o.wp P a w K QF) : o.wp P a w K Q := by
  unfold Oper.wp at *
  generalize (execOp a.eval o).run P w = r at *
  cases r with
  | ok n w' =>
    cases n <;> simp only [Oper.upon] at h ⊢
    case value => exact h
    case skip => exact h
    case defer => exact h
    case enter f args =>
      refine Calls.mono h fun e w'' he => ?_
      cases e with
      | returned u => exact he
      | panicked c => exact he.elim
      | outgrown => obtain ⟨_, _, h⟩ := he; exact h.elim
    case row row args => exact h
  | halt x w' =>
    cases x <;> simp only [Oper.upon] at h ⊢
    case panic u => exact h.elim

theorem wpOp_QF {i : Nat} {a : Act} {w : World} {K : Act → World → Prop} {Q : Exit → Act → World → Prop} (h : wpOp P ops QF i K a w) : wpOp P ops Q i K a w := by
  unfold wpOp at *
  cases ho : ops[i]? with
  | none => simpa [ho] using h
  | some o =>
    simp only [ho] at h ⊢
    split
    · rename_i hw
      simp only [hw, if_true] at h
      rcases h with h | ⟨_, _, _, h⟩
      · exact .inl (wp_QF h)
      · exact h.elim
    · rename_i hw
      simpa [hw] using h

/-- The region from here on, each of its worlds under Inv. -/
def wpI (P : Program) (ops : Array Oper) (E : Act → World → Prop) (Inv : World → Prop) : Nat → Array Bool → Act → World → Prop
  | 0, listed, a, w => Region.ready .any ops listed = [] ∧ E a w
  | f + 1, listed, a, w => (Region.ready .any ops listed = [] → E a w) ∧ ∀ i ∈ Region.ready .any ops listed, wpOp P ops QF i (fun a' w' => Inv w' ∧ wpI P ops E Inv f (listed.setIfInBounds i true) a' w') a w

theorem wpI_any {E : Act → World → Prop} {Inv : World → Prop} {Q : Exit → Act → World → Prop} (hE : ∀ a w, E a w → Q .normal a w) : ∀ (f : Nat) (listed : Array Bool) (a : Act) (w : World), wpI P ops E Inv f listed a w → wpAny P .any ops Q f listed a w
  | 0, _, _, _, h => ⟨h.1, hE _ _ h.2⟩
  | f + 1, _, _, _, h => ⟨fun hr => hE _ _ (h.1 hr), fun i hi => wpOp_QF (wpOp_mono (fun _ _ hk => wpI_any hE f _ _ _ hk.2) (h.2 i hi))⟩

theorem lex_region {id : Nat} {a : Act} {w : World} {Q : Exit → Act → World → Prop} (hm : P.follows .mixedOrders = true) (n : Nat) (hn : ops.size = n) (Inv : World → Prop) (h : wpI P ops (fun a w => Q .normal a w) Inv n (Array.replicate n false) a w.drew) : (Code.region id ops true).wp P Q a w := by
  subst hn
  exact wp_region_any hm (wpI_any (fun _ _ h => h) _ _ _ _ h)

/-- The operation yields v in each world under Inv; or it is not wanted. -/
def YieldsI (P : Program) (ops : Array Oper) (Inv : World → Prop) (o : Oper) (v : Value) (a : Act) : Prop :=
  (Region.wanted o (yielded ops a.tmps) = true ∧ ∀ w, Inv w → (execOp a.eval o).run P w = .ok (.value v) w) ∨ (Region.wanted o (yielded ops a.tmps) = false ∧ v = undef)

theorem YieldsI.of_same {Inv : World → Prop} {o : Oper} {v : Value} {a a' : Act} (hy : YieldsI P ops Inv o v a) (he : execOp a'.eval o = execOp a.eval o) (hw : Region.wanted o (yielded ops a'.tmps) = Region.wanted o (yielded ops a.tmps)) : YieldsI P ops Inv o v a' := by
  unfold YieldsI at *
  rw [he, hw]
  exact hy

theorem YieldsI.wpOp {Inv : World → Prop} {i : Nat} {o : Oper} {v : Value} {a : Act} {Q : Exit → Act → World → Prop} (hi : ops[i]? = some o) (hy : YieldsI P ops Inv o v a) {K : Act → World → Prop} {w : World} (hI : Inv w) (h : K (a.put o.dst v) w) : wpOp P ops Q i K a w := by
  unfold Go.wpOp
  simp only [hi]
  rcases hy with ⟨hw, hv⟩ | ⟨hw, rfl⟩
  · simp only [hw, if_true, Oper.wp, hv w hI, Oper.upon]; exact .inl h
  · simp only [hw, Bool.false_eq_true, if_false]; exact h

theorem wpOp_putI {Inv : World → Prop} {j : Nat} {oi oj : Oper} {v : Value} (hj : ops[j]? = some oj) (hap : oi.apart ops oj = true) (hsi : ∀ cs b, oi.op ≠ .select cs b) (hsj : ∀ cs b, oj.op ≠ .select cs b) {K : Act → World → Prop} {a : Act} {w : World}
    (hy : YieldsI P ops Inv oi v a) (h : wpOp P ops QF j K (a.put oi.dst v) w) : wpOp P ops QF j (fun a' w' => YieldsI P ops Inv oi v a' ∧ K (a'.put oi.dst v) w') a w := by
  obtain ⟨h1, h2, h3⟩ := Oper.apart_spec hap
  have keep : ∀ (a : Act), YieldsI P ops Inv oi v a → ∀ u, YieldsI P ops Inv oi v (a.put oj.dst u) := fun a hy u =>
    hy.of_same (execOp_put oi hsi a oj.dst u h3) (wanted_put oi a oj.dst u h3)
  have keepD : ∀ d, YieldsI P ops Inv oi v { a with defers := d :: a.defers } := fun d => hy.of_same rfl rfl
  unfold wpOp at *
  simp only [hj] at *
  rw [wanted_put oj a oi.dst v h1] at h
  split
  · rename_i hw
    simp only [hw, if_true] at h
    rcases h with h | ⟨_, _, _, h⟩
    case inr => exact h.elim
    refine .inl ?_
    unfold Oper.wp at *
    rw [execOp_put oj hsj a oi.dst v h1] at h
    generalize (execOp a.eval oj).run P w = r at *
    cases r with
    | ok n w' =>
      cases n <;> simp only [Oper.upon] at h ⊢
      case value u => exact ⟨keep a hy u, by rw [← Act.put_comm a v u h2]; exact h⟩
      case skip => exact ⟨keep a hy _, by rw [← Act.put_comm a v undef h2]; exact h⟩
      case defer d =>
        refine ⟨keep _ (keepD d) _, ?_⟩
        rw [← Act.put_comm _ v undef h2, ← Act.put_defers]
        exact h
      case enter f args =>
        refine Calls.mono h fun e w'' he => ?_
        cases e with
        | returned u => exact ⟨keep a hy u, by rw [← Act.put_comm a v u h2]; exact he⟩
        | panicked c => exact he.elim
        | outgrown => exact he
      case row row args => exact Rows.mono h fun u w'' he => ⟨keep a hy u, by rw [← Act.put_comm a v u h2]; exact he⟩
    | halt x w' =>
      cases x <;> simp only [Oper.upon] at h ⊢
      case panic u => exact h.elim
  · rename_i hw
    simp only [hw] at h
    exact ⟨keep a hy _, by rw [← Act.put_comm a v undef h2]; exact h⟩

theorem wpI_first {E : Act → World → Prop} {Inv : World → Prop} {i : Nat} {oi : Oper} {v : Value} (hi : ops[i]? = some oi) (hsel : ∀ (j : Nat) (o : Oper) cs b, ops[j]? = some o → o.op ≠ .select cs b) :
    ∀ (fuel : Nat) (listed : Array Bool) (a : Act) (w : World),
      (∀ j oj, ops[j]? = some oj → j ≠ i → listed.getD j true = false → (∀ e ∈ oj.after, Region.binds .any e = true → e.on ≠ i) → oi.apart ops oj = true) →
      i ∈ Region.ready .any ops listed → YieldsI P ops Inv oi v a → Inv w →
      wpI P ops E Inv fuel (listed.setIfInBounds i true) (a.put oi.dst v) w → wpI P ops E Inv (fuel + 1) listed a w := by
  intro fuel
  induction fuel with
  | zero =>
    intro listed a w _ hr hy hI H
    refine ⟨fun h => (by rw [h] at hr; cases hr), fun j hj => ?_⟩
    by_cases hji : j = i
    · subst hji; exact hy.wpOp hi hI ⟨hI, H⟩
    · have := ready_mono hj hji
      rw [H.1] at this
      cases this
  | succ fuel ih =>
    intro listed a w hfree hr hy hI H
    refine ⟨fun h => (by rw [h] at hr; cases hr), fun j hj => ?_⟩
    by_cases hji : j = i
    · subst hji; exact hy.wpOp hi hI ⟨hI, H⟩
    · have h1 := H.2 j (ready_mono hj hji)
      obtain ⟨hjun, oj, hoj, hall⟩ := mem_ready.1 hj
      have hnot : ∀ e ∈ oj.after, Region.binds .any e = true → e.on ≠ i := fun e he hb heq => by
        have h1 := hall e he hb
        have h0 := (mem_ready.1 hr).1
        rw [heq] at h1
        rcases Nat.lt_or_ge i listed.size with h' | h'
        · simp [h'] at h0 h1; rw [h0] at h1; cases h1
        · simp [Array.getElem?_eq_none h'] at h1
      have h2 := wpOp_putI hoj (hfree j oj hoj hji hjun hnot) (fun cs b => hsel i oi cs b hi) (fun cs b => hsel j oj cs b hoj) hy h1
      have hfree' : ∀ k ok, ops[k]? = some ok → k ≠ i → (listed.setIfInBounds j true).getD k true = false →
          (∀ e ∈ ok.after, Region.binds .any e = true → e.on ≠ i) → oi.apart ops ok = true := fun k ok hk hki hun hno => by
        refine hfree k ok hk hki ?_ hno
        by_cases hjk : j = k
        · subst hjk; exact hjun
        · rw [getD_set_ne true hjk] at hun; exact hun
      refine wpOp_mono (fun a' w' h3 => ⟨h3.2.1, ih (listed.setIfInBounds j true) a' w' hfree' (ready_mono hr (Ne.symm hji)) h3.1 h3.2.1 ?_⟩) h2
      rw [Array.setIfInBounds_comm _ _ hji]
      exact h3.2.2

/-- May the i-th be taken next? -/
def lexOk (ops : Array Oper) (listed : Array Bool) (i : Nat) : Bool := Region.noSelect ops && Region.free .any ops listed i && (Region.ready .any ops listed).contains i

/-- What only reads is taken. -/
theorem lex_take {l : List Oper} {E : Act → World → Prop} {Inv : World → Prop} (i : Nat) {oi : Oper} {v : Value} {f : Nat} {listed : Array Bool} {a : Act} {w : World} (hi : l[i]? = some oi) (hok : lexOk l.toArray listed i = true) (hw : Region.wanted oi (yielded l.toArray a.tmps) = true) (hI : Inv w)
    (hy : ∀ w, Inv w → (execOp a.eval oi).run P w = .ok (.value v) w) (h : wpI P l.toArray E Inv f (listed.setIfInBounds i true) (a.put oi.dst v) w) : wpI P l.toArray E Inv (f + 1) listed a w := by
  simp only [lexOk, Bool.and_eq_true] at hok
  exact wpI_first (by simpa using hi) (Region.noSelect_spec hok.1.1) f listed a w (Region.free_spec (by simpa using hi) hok.1.2) (by simpa using hok.2) (.inl ⟨hw, hy⟩) hI h

/-- What is not wanted is passed by. -/
theorem lex_skip {l : List Oper} {E : Act → World → Prop} {Inv : World → Prop} (i : Nat) {oi : Oper} {f : Nat} {listed : Array Bool} {a : Act} {w : World} (hi : l[i]? = some oi) (hok : lexOk l.toArray listed i = true) (hw : Region.wanted oi (yielded l.toArray a.tmps) = false) (hI : Inv w)
    (h : wpI P l.toArray E Inv f (listed.setIfInBounds i true) (a.put oi.dst undef) w) : wpI P l.toArray E Inv (f + 1) listed a w := by
  simp only [lexOk, Bool.and_eq_true] at hok
  exact wpI_first (by simpa using hi) (Region.noSelect_spec hok.1.1) f listed a w (Region.free_spec (by simpa using hi) hok.1.2) (by simpa using hok.2) (.inr ⟨hw, rfl⟩) hI h

/-- The only one that is ready: it may do what it likes, but for Inv. -/
theorem lex_only {l : List Oper} {E : Act → World → Prop} {Inv : World → Prop} (i : Nat) {oi : Oper} {f : Nat} {listed : Array Bool} {a : Act} {w : World} (hi : l[i]? = some oi) (hr : Region.ready .any l.toArray listed = [i]) (hw : Region.wanted oi (yielded l.toArray a.tmps) = true)
    (h : ∀ K : Act → World → Prop, (∀ a' w', Inv w' → wpI P l.toArray E Inv f (listed.setIfInBounds i true) a' w' → K a' w') → oi.wp P a w K QF) : wpI P l.toArray E Inv (f + 1) listed a w := by
  refine ⟨fun h0 => (by rw [hr] at h0; cases h0), fun j hj => ?_⟩
  rw [hr] at hj
  simp only [List.mem_singleton] at hj
  subst hj
  refine wpOp_plain (by simpa using hi) hw (h _ fun a' w' h1 h2 => ⟨h1, h2⟩)

/-- Whichever is ready is taken. -/
theorem lex_each {l : List Oper} {E : Act → World → Prop} {Inv : World → Prop} (rs : List Nat) {f : Nat} {listed : Array Bool} {a : Act} {w : World} (hr : Region.ready .any l.toArray listed = rs) (hne : rs ≠ [])
    (h : ∀ i ∈ rs, ∀ K : Act → World → Prop, (∀ a' w', Inv w' → wpI P l.toArray E Inv f (listed.setIfInBounds i true) a' w' → K a' w') → ∃ oi, l[i]? = some oi ∧ Region.wanted oi (yielded l.toArray a.tmps) = true ∧ oi.wp P a w K QF) : wpI P l.toArray E Inv (f + 1) listed a w := by
  refine ⟨fun h0 => absurd (hr.symm.trans h0) hne, fun j hj => ?_⟩
  rw [hr] at hj
  obtain ⟨oi, hi, hw, h⟩ := h j hj (fun a' w' => Inv w' ∧ wpI P l.toArray E Inv f (listed.setIfInBounds j true) a' w') fun a' w' h1 h2 => ⟨h1, h2⟩
  exact wpOp_plain (by simpa using hi) hw h

/-- A call at hand. -/
theorem wp_callee {o : Oper} {A : Act} {w : World} {K : Act → World → Prop} {Q : Exit → Act → World → Prop} {f : Nat} {args : Array Value} (he : (execOp A.eval o).run P w = .ok (.enter f args) w) (h : Calls P f args w fun e w' => ∃ v, e = .returned v ∧ K (A.put o.dst v) w') : o.wp P A w K Q := by
  unfold Oper.wp
  simp only [he, Oper.upon]
  refine h.mono fun e w' hv => ?_
  obtain ⟨v, rfl, hk⟩ := hv
  exact hk

theorem lex_done {l : List Oper} {E : Act → World → Prop} {Inv : World → Prop} {listed : Array Bool} {a : Act} {w : World} (hr : Region.ready .any l.toArray listed = []) (h : E a w) : wpI P l.toArray E Inv 0 listed a w := ⟨hr, h⟩

end

section
variable {P : Program} {w0 w : World} {M : List Nat} {own : Blks} {o : Oper} {A : Act}

/-- A load from a block at hand, as an equation. -/
theorem St.run_load (st : St M w0 w own) (i : Nat) (T : TypeId) (x : Operand) (ho : o.op = .load T x) (hagg : ∀ w, (isAgg T).run P w = .ok false w) {g off : Nat} {T' : TypeId} {cs : List Value} {v : Value} (hx : A.eval x = .pointer (some ⟨g, off, none⟩)) (hi : own[i]? = some (g, T', cs)) (hv : cs[off]? = some v) :
    (execOp A.eval o).run P w = .ok (.value v) w := by
  have hc : w.cell? ⟨g, off, none⟩ = some v := (st.cell hi off).trans hv
  simp only [execOp, ho, hx, Instr.loadAt, Instr.sureAddr, loadVar, Sem.run_bind, Sem.run_pure, Result.andThen_ok, hagg]
  simp [load, Sem.run, hc, Result.andThen]

/-- .. of more cells. -/
theorem St.run_load_agg (st : St M w0 w own) (i : Nat) (T : TypeId) (x : Operand) (ho : o.op = .load T x) (hagg : ∀ w, (isAgg T).run P w = .ok true w) (n : Nat) (hsz : ∀ w, (sizeOf T).run P w = .ok n w) {g off : Nat} {T' : TypeId} {cs : List Value} {vs : List Value} (hx : A.eval x = .pointer (some ⟨g, off, none⟩)) (hi : own[i]? = some (g, T', cs)) (hv : (cs.drop off).take n = vs) (hl : vs.length = n) :
    (execOp A.eval o).run P w = .ok (.value (.agg vs.toArray)) w := by
  have hl' : (loadCells ⟨g, off, none⟩ vs.length).run P w = .ok vs.toArray w := run_loadCells_list (P := P) w ⟨g, off, none⟩ vs (fun j v hj => by
    rw [add_plain, st.cell hi]
    subst hv
    have hjn : j < n := by have := (List.getElem?_eq_some_iff.1 hj).1; omega
    rw [List.getElem?_take_of_lt hjn, List.getElem?_drop] at hj
    exact hj)
  rw [hl] at hl'
  simp only [execOp, ho, hx, Instr.loadAt, Instr.sureAddr, loadVar, Sem.run_bind, Sem.run_pure, Result.andThen_ok, hagg, hsz, if_true, hl']

theorem wpList_load_cells {P : Program} {w : World} {ops : Array Oper} {rest : List Oper} {o : Oper} {A : Act} {Q : Exit → Act → World → Prop} (hgd : Region.wanted o (yielded ops A.tmps) = true) (T : TypeId) (x : Operand) (ho : o.op = .load T x) (hagg : ∀ w, (isAgg T).run P w = .ok true w) (n : Nat) (hsz : ∀ w, (sizeOf T).run P w = .ok n w)
    (g off : Nat) (hx : A.eval x = .pointer (some ⟨g, off, none⟩)) (vs : List Value) (hl : vs.length = n) (hc : ∀ (j : Nat) (v : Value), vs[j]? = some v → w.cell? ⟨g, off + j, none⟩ = some v) (h : wpList P ops Q rest (A.put o.dst (.agg vs.toArray)) w) : wpList P ops Q (o :: rest) A w := by
  refine wpList_wanted hgd fun K hK => ?_
  have hl' : (loadCells ⟨g, off, none⟩ vs.length).run P w = .ok vs.toArray w := run_loadCells_list (P := P) w ⟨g, off, none⟩ vs (fun j v hj => by rw [add_plain]; exact hc j v hj)
  rw [hl] at hl'
  unfold Oper.wp
  simp only [execOp, ho, hx, Instr.loadAt, Instr.sureAddr, loadVar, Sem.run_bind, Sem.run_pure, Result.andThen_ok, hagg, hsz, if_true, hl']
  exact hK _ _ h

/-- A load of cells at hand, as an equation. -/
theorem run_load_at {P : Program} {o : Oper} {A : Act} {w : World} (T : TypeId) (x : Operand) (ho : o.op = .load T x) (hagg : ∀ w, (isAgg T).run P w = .ok true w) (n : Nat) (hsz : ∀ w, (sizeOf T).run P w = .ok n w) (g off : Nat) (hx : A.eval x = .pointer (some ⟨g, off, none⟩)) (vs : List Value) (hl : vs.length = n) (hc : ∀ (j : Nat) (v : Value), vs[j]? = some v → w.cell? ⟨g, off + j, none⟩ = some v) :
    (execOp A.eval o).run P w = .ok (.value (.agg vs.toArray)) w := by
  have hl' : (loadCells ⟨g, off, none⟩ vs.length).run P w = .ok vs.toArray w := run_loadCells_list (P := P) w ⟨g, off, none⟩ vs (fun j v hj => by rw [add_plain]; exact hc j v hj)
  rw [hl] at hl'
  simp only [execOp, ho, hx, Instr.loadAt, Instr.sureAddr, loadVar, Sem.run_bind, Sem.run_pure, Result.andThen_ok, hagg, hsz, if_true, hl']

theorem St.take (h : St M w0 w own) (n : Nat) : St M w0 w (own.take n) :=
  ⟨h.os, h.tape, h.output, h.size, h.frame, fun x hx => h.blk x (List.take_subset n own hx), fun x hx => h.mine x (List.take_subset n own hx), h.ne.sublist (List.take_sublist n own)⟩

/-- Cells of a block at hand. -/
theorem cells_at {w : World} {g : Nat} {T : TypeId} {cs : List Value} {fr : Nat × Nat} (hb : w.heap[g]? = some (.cells cs.toArray T fr)) (off n : Nat) (vs : List Value) (h : (cs.drop off).take n = vs) (hn : vs.length = n) : ∀ (j : Nat) (v : Value), vs[j]? = some v → w.cell? ⟨g, off + j, none⟩ = some v := by
  intro j v hj
  have hjn : j < n := by have := (List.getElem?_eq_some_iff.1 hj).1; omega
  rw [cell_of_row w g _ cs.toArray T fr hb]
  subst h
  rw [List.getElem?_take_of_lt hjn, List.getElem?_drop] at hj
  simpa using hj

/-- A region in which all that stands stays as it is. -/
theorem lex_still {id : Nat} {a : Act} {ops : Array Oper} {Q : Exit → Act → World → Prop} (st : St M w0 w own) (hm : P.follows .mixedOrders = true) (n : Nat) (hn : ops.size = n) (h : St M w0 w.drew own → wpI P ops (fun a w => Q .normal a w) (fun W => St M w0 W own) n (Array.replicate n false) a w.drew) : (Code.region id ops true).wp P Q a w :=
  lex_region hm n hn _ (h st.drew)

end
end Go.Proofs.Ytbngblmdcggfdaa

/- The walks through trust.Good and trust.Add. -/
namespace Go.Proofs.Ytbngblmdcggfdaa
open Go.RowKit

theorem SlR.cert_row {ok : Nat → Prop} {w : World} {b o c : Nat} {xs : List Cert} (h : SlR ok w 4 RCert (some ⟨b, o, none⟩) c xs) (i : Nat) (hi : i < xs.length) :
    ∀ (j : Nat) (v : Value), [Value.int .i64 xs[i].c, .int .i64 xs[i].by_, .int .i64 xs[i].host, .int .i64 xs[i].till][j]? = some v → w.cell? ⟨b, o + i * 4 + j, none⟩ = some v := by
  obtain ⟨b', o', cs, ha, _, hb, hr, _, _, hc⟩ := h.2.2.2 i xs[i] (by simp [hi])
  simp only [Option.some.injEq, Addr.mk.injEq, and_true] at ha
  obtain ⟨rfl, rfl⟩ := ha
  unfold RCert at hr
  subst hr
  exact hc

abbrev certV (x : Cert) : Value := .agg #[.int .i64 x.c, .int .i64 x.by_, .int .i64 x.host, .int .i64 x.till]

set_option maxRecDepth 100000 in
set_option maxHeartbeats 1600000 in
theorem slices_Index_Cert (ok : Nat → Prop) (w : World) (a : Option Addr) (c : Nat) (l : List Cert) (v : Cert) (hR : SlR ok w 4 RCert a c l) :
    Calls Try.prog 36 #[.slice a l.length c, .agg #[.int .i64 v.c, .int .i64 v.by_, .int .i64 v.host, .int .i64 v.till]] w fun e w' => Says e (inL l v) ∧ Below w.heap.size w w' := by
  have hl : l.length ≤ 9223372036854775807 := by have h1 := hR.1; have h2 := hR.2.1; unfold maxLen at h2; omega
  have st := St.start w
  go_enter Try.func36, Try.ntmps36
  go_wp2_with (first | go_skip | (refine mem_box st (wanted_none rfl) 43 _ rfl _ rfl _ rfl ?_; clear st; intro g1 w1 hg1 st hg1b; clear hg1b; simp [Act.eval, Act.put, Value.cells, putL] at st))
  go_loopw [8] (fun i wr => ∃ k : Nat, k ≤ l.length ∧ i = .int .i64 k ∧ St [] w wr [(g1, 43, [.int .i64 v.c, .int .i64 v.by_, .int .i64 v.host, .int .i64 v.till])] ∧ Hid (inL l v = inL (l.drop k) v)) (fun i _ => l.length - (intOf i).toNat)
  case atStart => exact ⟨0, Nat.zero_le _, rfl, st, rfl⟩
  case round =>
    clear st
    obtain ⟨k, hk, rfl, st, hN⟩ := hrel
    by_cases hlt : k < l.length
    · obtain ⟨b, o, rfl, hb, _⟩ := hR.cert_at k hlt
      have hrow := fun (W : World) (h : St [] w W [(g1, 43, [.int .i64 v.c, .int .i64 v.by_, .int .i64 v.host, .int .i64 v.till])]) => (hR.below h.below).cert_row k hlt
      generalize hd : decide (v = l[k]) = d
      have hne := eql_Cert v l[k] d hd
      have hgu := guard_Cert
      have HD := Lib.hid hd
      clear hd
      go_wp2
      refine lex_still st (by kernel_rfl) 6 rfl ?_; clear st; intro hI
      refine lex_take 0 rfl (by decide +kernel) (by first | exact wanted_none rfl | exact wanted_some rfl rfl) hI (fun W hW => St.run_load_agg hW 0 43 _ rfl Try.isAgg43 _ Try.sizeOf43 rfl rfl rfl rfl) ?_; simp only [Act.put, List.setIfInBounds_toArray, List.set_cons_succ, List.set_cons_zero]
      refine lex_take 1 rfl (by decide +kernel) (by first | exact wanted_none rfl | exact wanted_some rfl rfl) hI (fun W hW => by first | (go_simp; done) | (go_simp; rfl)) ?_; simp only [Act.put, List.setIfInBounds_toArray, List.set_cons_succ, List.set_cons_zero]
      refine lex_take 2 rfl (by decide +kernel) (by first | exact wanted_none rfl | exact wanted_some rfl rfl) hI (fun W hW => by first | (go_simp; done) | (go_simp; rfl)) ?_; simp only [Act.put, List.setIfInBounds_toArray, List.set_cons_succ, List.set_cons_zero]
      refine lex_take 3 rfl (by decide +kernel) (by first | exact wanted_none rfl | exact wanted_some rfl rfl) hI (fun W hW => by first | (go_simp; done) | (go_simp; rfl)) ?_; simp only [Act.put, List.setIfInBounds_toArray, List.set_cons_succ, List.set_cons_zero]
      refine lex_take 4 rfl (by decide +kernel) (by first | exact wanted_none rfl | exact wanted_some rfl rfl) hI (fun W hW => run_load_at 43 _ rfl Try.isAgg43 _ Try.sizeOf43 _ _ rfl [.int .i64 l[k].c, .int .i64 l[k].by_, .int .i64 l[k].host, .int .i64 l[k].till] rfl (hrow W hW)) ?_; simp only [Act.put, List.setIfInBounds_toArray, List.set_cons_succ, List.set_cons_zero]
      refine lex_take 5 rfl (by decide +kernel) (by first | exact wanted_none rfl | exact wanted_some rfl rfl) hI (fun W hW => by first | (go_simp; done) | (go_simp; rfl)) ?_; simp only [Act.put, List.setIfInBounds_toArray, List.set_cons_succ, List.set_cons_zero]
      refine lex_done (by decide +kernel) ?_
      replace st := hI
      clear hI hrow hne hgu
      cases d
      · go_wp2
        go_roundw
        case rel => exact ⟨k + 1, hlt, by go_num, st, by rw [hN.out, inL_pass hlt (by simpa using HD.out)]; rfl⟩
        case measure => simp [intOf]; omega
      · go_wp2
        go_ret
        have e : inL l v = true := by rw [hN.out, inL_hit hlt (by simpa using HD.out)]
        exact ⟨⟨k, rfl, by simp, by simp [e]⟩, st.below⟩
    · go_wp2
      go_ret
      have e : inL l v = false := by rw [hN.out, inL_end hlt]
      exact ⟨⟨-1, rfl, by simp [e], by simp⟩, st.below⟩

set_option maxRecDepth 100000 in
set_option maxHeartbeats 400000 in
theorem slices_Contains_Cert (ok : Nat → Prop) (w : World) (a : Option Addr) (c : Nat) (l : List Cert) (v : Cert) (hR : SlR ok w 4 RCert a c l) :
    Calls Try.prog 28 #[.slice a l.length c, .agg #[.int .i64 v.c, .int .i64 v.by_, .int .i64 v.host, .int .i64 v.till]] w fun e w' => e = .returned (.bool (inL l v)) ∧ Below w.heap.size w w' := by
  cases hb : inL l v
  all_goals
    have HB := Lib.hid hb
    clear hb
    have st := St.start w
    go_enter Try.func28, Try.ntmps28
    go_wp2_with (first
      | go_skip | (refine mem_box st (wanted_none rfl) 43 _ rfl _ rfl _ rfl ?_; clear st; intro g1 w1 hg1 st hg1b; clear hg1b; simp [Act.eval, Act.put, Value.cells, putL] at st) | ((first | refine mem_load_agg' st 43 _ rfl (wanted_none rfl) Try.isAgg43 _ Try.sizeOf43 ?_ | (refine mem_load_agg' st 43 _ rfl (wanted_some rfl ?_) Try.isAgg43 _ Try.sizeOf43 ?_; focus (simp [yielded, Act.put]; done))); refine ⟨0, _, _, _, _, _, rfl, rfl, rfl, rfl, ?_⟩)
      | (go_at_call 36; go_must (refine (slices_Index_Cert ok _ _ _ _ v (hR.below st.below)).mono ?_; rintro e w' ⟨⟨n, rfl, h1, h2⟩, hb2⟩; replace st := st.call hb2; rw [HB.out] at h1 h2; simp only [forall_const, reduceCtorEq, false_implies] at h1 h2; clear hb2)))
    go_ret
    exact ⟨by first | rfl | (apply ret_bool; simp; omega), st.below⟩

set_option maxRecDepth 100000 in
set_option maxHeartbeats 3000000 in
theorem trust_Good (ok : Nat → Prop) (w : World) (a : Option Addr) (c : Nat) (l : List Cert) (hR : SlR ok w 4 RCert a c l) :
    Calls Try.prog 17 #[.slice a l.length c] w fun e w' => e = .returned (.bool (goodCerts l)) ∧ Below w.heap.size w w' := by
  have hl : l.length ≤ 9223372036854775807 := by have h1 := hR.1; have h2 := hR.2.1; unfold maxLen at h2; omega
  have hcap := hR.1
  go_enter Try.func17, Try.ntmps17
  go_wp2
  go_loopw [7] (fun i wr => ∃ k : Nat, k ≤ l.length ∧ i = .int .i64 k ∧ Below w.heap.size w wr ∧ Hid (certsOk [] l = certsOk (l.take k) (l.drop k))) (fun i _ => l.length - (intOf i).toNat)
  case atStart => exact ⟨0, Nat.zero_le _, rfl, Below.refl _ _, rfl⟩
  case round =>
    obtain ⟨k, hk, rfl, hB, hN⟩ := hrel
    by_cases hlt : k < l.length
    · obtain ⟨b, o, rfl, hb, _⟩ := hR.cert_at k hlt
      have hrow := ((hR.below hB).cert_row k hlt)
      have hRk := fun (W : World) (h : Below wr.heap.size wr W) => ((hR.below hB).below h).take k
      have hkl : (l.take k).length = k := by simp; omega
      have hkc : k ≤ c := by omega
      have HS := Lib.hid (certsOk_at hlt)
      have st := St.start wr
      have HCt := Lib.hid (fun (W : World) (h : Below wr.heap.size wr W) => (hkl ▸ slices_Contains_Cert ok W (some ⟨b, o, none⟩) c (l.take k) l[k] (hRk W h) : Calls Try.prog 28 #[.slice (some ⟨b, o, none⟩) k c, .agg #[.int .i64 l[k].c, .int .i64 l[k].by_, .int .i64 l[k].host, .int .i64 l[k].till]] W fun e w' => e = .returned (.bool (inL (l.take k) l[k])) ∧ Below W.heap.size W w'))
      clear hRk hkl
      cases hg : goodCertB l[k]
      · have HG := Lib.hid hg
        have HE := Lib.hid (show goodCerts l = false by unfold goodCerts; rw [hN.out, HS.out, hg]; rfl)
        clear hg
        go_wp2_with (first | go_skip | (refine wpList_load_cells (wanted_none rfl) 43 _ rfl Try.isAgg43 _ Try.sizeOf43 b (o + k * 4) rfl [.int .i64 l[k].c, .int .i64 l[k].by_, .int .i64 l[k].host, .int .i64 l[k].till] rfl hrow ?_) | (refine mem_alloc st (wanted_none rfl) 43 rfl _ Try.zeroValue43 _ rfl ?_; clear st; intro g1 w1 hg1 st hg1b; clear hg1b; simp [Act.eval, Act.put, Value.cells, putL] at st) | ((first | refine mem_store' st 43 _ _ rfl (wanted_none rfl) _ Try.sizeOf43 ?_ | (refine mem_store' st 43 _ _ rfl (wanted_some rfl ?_) _ Try.sizeOf43 ?_; focus (simp [yielded, Act.put]; done))); refine ⟨0, _, _, _, _, _, rfl, rfl, rfl, rfl, rfl, rfl, ?_⟩; clear st; intro w2 st hw2m hw2z; simp [Act.eval, Act.put, Value.cells, putL] at st))
        refine lex_still st (by kernel_rfl) 10 rfl ?_; clear st; intro hI
        refine lex_take 0 rfl (by decide +kernel) (by first | exact wanted_none rfl | exact wanted_some rfl rfl) hI (fun W hW => St.run_load_agg hW 0 43 _ rfl Try.isAgg43 _ Try.sizeOf43 rfl rfl rfl rfl) ?_; simp only [Act.put, List.setIfInBounds_toArray, List.set_cons_succ, List.set_cons_zero]
        have st := hI
        refine lex_only 1 rfl (by decide +kernel) (by first | exact wanted_none rfl | exact wanted_some rfl rfl) fun K hK => ?_
        refine wp_callee (f := 27) (by first | (go_simp; done) | (go_simp; rfl)) ?_
        refine (wire_GoodCert l[k] _).mono ?_
        rintro e v3 ⟨rfl, hb3⟩
        rw [HG.out]
        refine ⟨_, rfl, ?_⟩
        replace st := st.call hb3
        clear hb3
        refine hK _ _ (st) ?_; clear hK; simp only [Act.put, List.setIfInBounds_toArray, List.set_cons_succ, List.set_cons_zero]
        have hI := st
        refine lex_take 2 rfl (by decide +kernel) (by first | exact wanted_none rfl | exact wanted_some rfl rfl) hI (fun W hW => by first | (go_simp; done) | (go_simp; rfl)) ?_; simp only [Act.put, List.setIfInBounds_toArray, List.set_cons_succ, List.set_cons_zero]
        refine lex_take 3 rfl (by decide +kernel) (by first | exact wanted_none rfl | exact wanted_some rfl rfl) hI (fun W hW => by first | (go_simp; done) | (go_simp; rfl)) ?_; simp only [Act.put, List.setIfInBounds_toArray, List.set_cons_succ, List.set_cons_zero]
        refine lex_skip 4 rfl (by decide +kernel) (by simp [Region.wanted, yielded]) hI ?_; simp only [Act.put, List.setIfInBounds_toArray, List.set_cons_succ, List.set_cons_zero]
        refine lex_skip 5 rfl (by decide +kernel) (by simp [Region.wanted, yielded]) hI ?_; simp only [Act.put, List.setIfInBounds_toArray, List.set_cons_succ, List.set_cons_zero]
        refine lex_skip 6 rfl (by decide +kernel) (by simp [Region.wanted, yielded]) hI ?_; simp only [Act.put, List.setIfInBounds_toArray, List.set_cons_succ, List.set_cons_zero]
        refine lex_skip 7 rfl (by decide +kernel) (by simp [Region.wanted, yielded]) hI ?_; simp only [Act.put, List.setIfInBounds_toArray, List.set_cons_succ, List.set_cons_zero]
        refine lex_skip 8 rfl (by decide +kernel) (by simp [Region.wanted, yielded]) hI ?_; simp only [Act.put, List.setIfInBounds_toArray, List.set_cons_succ, List.set_cons_zero]
        refine lex_take 9 rfl (by decide +kernel) (by first | exact wanted_none rfl | exact wanted_some rfl rfl) hI (fun W hW => by first | (go_simp; done) | (go_simp; rfl)) ?_; simp only [Act.put, List.setIfInBounds_toArray, List.set_cons_succ, List.set_cons_zero]
        refine lex_done (by decide +kernel) ?_
        go_wp2
        go_ret
        exact ⟨ret_bool HE.out.symm, hB.keep st.below⟩
      · have HG := Lib.hid hg
        cases hi : inL (l.take k) l[k]
        · have HI := Lib.hid hi
          have HE := Lib.hid (show certsOk [] l = certsOk (l.take (k + 1)) (l.drop (k + 1)) by rw [hN.out, HS.out, hg, hi]; rfl)
          clear hg hi
          go_wp2_with (first | go_skip | (refine wpList_load_cells (wanted_none rfl) 43 _ rfl Try.isAgg43 _ Try.sizeOf43 b (o + k * 4) rfl [.int .i64 l[k].c, .int .i64 l[k].by_, .int .i64 l[k].host, .int .i64 l[k].till] rfl hrow ?_) | (refine mem_alloc st (wanted_none rfl) 43 rfl _ Try.zeroValue43 _ rfl ?_; clear st; intro g1 w1 hg1 st hg1b; clear hg1b; simp [Act.eval, Act.put, Value.cells, putL] at st) | ((first | refine mem_store' st 43 _ _ rfl (wanted_none rfl) _ Try.sizeOf43 ?_ | (refine mem_store' st 43 _ _ rfl (wanted_some rfl ?_) _ Try.sizeOf43 ?_; focus (simp [yielded, Act.put]; done))); refine ⟨0, _, _, _, _, _, rfl, rfl, rfl, rfl, rfl, rfl, ?_⟩; clear st; intro w2 st hw2m hw2z; simp [Act.eval, Act.put, Value.cells, putL] at st))
          refine lex_still st (by kernel_rfl) 10 rfl ?_; clear st; intro hI
          refine lex_take 0 rfl (by decide +kernel) (by first | exact wanted_none rfl | exact wanted_some rfl rfl) hI (fun W hW => St.run_load_agg hW 0 43 _ rfl Try.isAgg43 _ Try.sizeOf43 rfl rfl rfl rfl) ?_; simp only [Act.put, List.setIfInBounds_toArray, List.set_cons_succ, List.set_cons_zero]
          have st := hI
          refine lex_only 1 rfl (by decide +kernel) (by first | exact wanted_none rfl | exact wanted_some rfl rfl) fun K hK => ?_
          refine wp_callee (f := 27) (by first | (go_simp; done) | (go_simp; rfl)) ?_
          refine (wire_GoodCert l[k] _).mono ?_
          rintro e v3 ⟨rfl, hb3⟩
          rw [HG.out]
          refine ⟨_, rfl, ?_⟩
          replace st := st.call hb3
          clear hb3
          refine hK _ _ (st) ?_; clear hK; simp only [Act.put, List.setIfInBounds_toArray, List.set_cons_succ, List.set_cons_zero]
          have hI := st
          refine lex_take 2 rfl (by decide +kernel) (by first | exact wanted_none rfl | exact wanted_some rfl rfl) hI (fun W hW => by first | (go_simp; done) | (go_simp; rfl)) ?_; simp only [Act.put, List.setIfInBounds_toArray, List.set_cons_succ, List.set_cons_zero]
          refine lex_take 3 rfl (by decide +kernel) (by first | exact wanted_none rfl | exact wanted_some rfl rfl) hI (fun W hW => by first | (go_simp; done) | (go_simp; rfl)) ?_; simp only [Act.put, List.setIfInBounds_toArray, List.set_cons_succ, List.set_cons_zero]
          refine lex_take 4 rfl (by decide +kernel) (by first | exact wanted_none rfl | exact wanted_some rfl rfl) hI (fun W hW => by first | (go_simp; done) | (go_simp; rfl)) ?_; simp only [Act.put, List.setIfInBounds_toArray, List.set_cons_succ, List.set_cons_zero]
          refine lex_take 5 rfl (by decide +kernel) (by first | exact wanted_none rfl | exact wanted_some rfl rfl) hI (fun W hW => by first | (go_simp; done) | (go_simp; rfl)) ?_; simp only [Act.put, List.setIfInBounds_toArray, List.set_cons_succ, List.set_cons_zero]
          refine lex_take 6 rfl (by decide +kernel) (by first | exact wanted_none rfl | exact wanted_some rfl rfl) hI (fun W hW => by first | (go_simp; done) | (go_simp; rfl)) ?_; simp only [Act.put, List.setIfInBounds_toArray, List.set_cons_succ, List.set_cons_zero]
          refine lex_take 7 rfl (by decide +kernel) (by first | exact wanted_none rfl | exact wanted_some rfl rfl) hI (fun W hW => St.run_load_agg hW 0 43 _ rfl Try.isAgg43 _ Try.sizeOf43 rfl rfl rfl rfl) ?_; simp only [Act.put, List.setIfInBounds_toArray, List.set_cons_succ, List.set_cons_zero]
          refine lex_only 8 rfl (by decide +kernel) (by first | exact wanted_none rfl | exact wanted_some rfl rfl) fun K hK => ?_
          refine wp_callee (f := 28) (by first | (go_simp; done) | (go_simp; rfl)) ?_
          refine (HCt.out _ st.below).mono ?_
          rintro e v4 ⟨rfl, hb4⟩
          rw [HI.out]
          refine ⟨_, rfl, ?_⟩
          replace st := st.call hb4
          clear hb4
          refine hK _ _ (st) ?_; clear hK; simp only [Act.put, List.setIfInBounds_toArray, List.set_cons_succ, List.set_cons_zero]
          have hI := st
          refine lex_take 9 rfl (by decide +kernel) (by first | exact wanted_none rfl | exact wanted_some rfl rfl) hI (fun W hW => by first | (go_simp; done) | (go_simp; rfl)) ?_; simp only [Act.put, List.setIfInBounds_toArray, List.set_cons_succ, List.set_cons_zero]
          refine lex_done (by decide +kernel) ?_
          go_wp2
          go_roundw
          case rel => exact ⟨k + 1, hlt, by go_num, hB.keep st.below, HE.out⟩
          case measure => simp [intOf]; omega
        · have HI := Lib.hid hi
          have HE := Lib.hid (show goodCerts l = false by unfold goodCerts; rw [hN.out, HS.out, hg, hi]; rfl)
          clear hg hi
          go_wp2_with (first | go_skip | (refine wpList_load_cells (wanted_none rfl) 43 _ rfl Try.isAgg43 _ Try.sizeOf43 b (o + k * 4) rfl [.int .i64 l[k].c, .int .i64 l[k].by_, .int .i64 l[k].host, .int .i64 l[k].till] rfl hrow ?_) | (refine mem_alloc st (wanted_none rfl) 43 rfl _ Try.zeroValue43 _ rfl ?_; clear st; intro g1 w1 hg1 st hg1b; clear hg1b; simp [Act.eval, Act.put, Value.cells, putL] at st) | ((first | refine mem_store' st 43 _ _ rfl (wanted_none rfl) _ Try.sizeOf43 ?_ | (refine mem_store' st 43 _ _ rfl (wanted_some rfl ?_) _ Try.sizeOf43 ?_; focus (simp [yielded, Act.put]; done))); refine ⟨0, _, _, _, _, _, rfl, rfl, rfl, rfl, rfl, rfl, ?_⟩; clear st; intro w2 st hw2m hw2z; simp [Act.eval, Act.put, Value.cells, putL] at st))
          refine lex_still st (by kernel_rfl) 10 rfl ?_; clear st; intro hI
          refine lex_take 0 rfl (by decide +kernel) (by first | exact wanted_none rfl | exact wanted_some rfl rfl) hI (fun W hW => St.run_load_agg hW 0 43 _ rfl Try.isAgg43 _ Try.sizeOf43 rfl rfl rfl rfl) ?_; simp only [Act.put, List.setIfInBounds_toArray, List.set_cons_succ, List.set_cons_zero]
          have st := hI
          refine lex_only 1 rfl (by decide +kernel) (by first | exact wanted_none rfl | exact wanted_some rfl rfl) fun K hK => ?_
          refine wp_callee (f := 27) (by first | (go_simp; done) | (go_simp; rfl)) ?_
          refine (wire_GoodCert l[k] _).mono ?_
          rintro e v3 ⟨rfl, hb3⟩
          rw [HG.out]
          refine ⟨_, rfl, ?_⟩
          replace st := st.call hb3
          clear hb3
          refine hK _ _ (st) ?_; clear hK; simp only [Act.put, List.setIfInBounds_toArray, List.set_cons_succ, List.set_cons_zero]
          have hI := st
          refine lex_take 2 rfl (by decide +kernel) (by first | exact wanted_none rfl | exact wanted_some rfl rfl) hI (fun W hW => by first | (go_simp; done) | (go_simp; rfl)) ?_; simp only [Act.put, List.setIfInBounds_toArray, List.set_cons_succ, List.set_cons_zero]
          refine lex_take 3 rfl (by decide +kernel) (by first | exact wanted_none rfl | exact wanted_some rfl rfl) hI (fun W hW => by first | (go_simp; done) | (go_simp; rfl)) ?_; simp only [Act.put, List.setIfInBounds_toArray, List.set_cons_succ, List.set_cons_zero]
          refine lex_take 4 rfl (by decide +kernel) (by first | exact wanted_none rfl | exact wanted_some rfl rfl) hI (fun W hW => by first | (go_simp; done) | (go_simp; rfl)) ?_; simp only [Act.put, List.setIfInBounds_toArray, List.set_cons_succ, List.set_cons_zero]
          refine lex_take 5 rfl (by decide +kernel) (by first | exact wanted_none rfl | exact wanted_some rfl rfl) hI (fun W hW => by first | (go_simp; done) | (go_simp; rfl)) ?_; simp only [Act.put, List.setIfInBounds_toArray, List.set_cons_succ, List.set_cons_zero]
          refine lex_take 6 rfl (by decide +kernel) (by first | exact wanted_none rfl | exact wanted_some rfl rfl) hI (fun W hW => by first | (go_simp; done) | (go_simp; rfl)) ?_; simp only [Act.put, List.setIfInBounds_toArray, List.set_cons_succ, List.set_cons_zero]
          refine lex_take 7 rfl (by decide +kernel) (by first | exact wanted_none rfl | exact wanted_some rfl rfl) hI (fun W hW => St.run_load_agg hW 0 43 _ rfl Try.isAgg43 _ Try.sizeOf43 rfl rfl rfl rfl) ?_; simp only [Act.put, List.setIfInBounds_toArray, List.set_cons_succ, List.set_cons_zero]
          refine lex_only 8 rfl (by decide +kernel) (by first | exact wanted_none rfl | exact wanted_some rfl rfl) fun K hK => ?_
          refine wp_callee (f := 28) (by first | (go_simp; done) | (go_simp; rfl)) ?_
          refine (HCt.out _ st.below).mono ?_
          rintro e v4 ⟨rfl, hb4⟩
          rw [HI.out]
          refine ⟨_, rfl, ?_⟩
          replace st := st.call hb4
          clear hb4
          refine hK _ _ (st) ?_; clear hK; simp only [Act.put, List.setIfInBounds_toArray, List.set_cons_succ, List.set_cons_zero]
          have hI := st
          refine lex_take 9 rfl (by decide +kernel) (by first | exact wanted_none rfl | exact wanted_some rfl rfl) hI (fun W hW => by first | (go_simp; done) | (go_simp; rfl)) ?_; simp only [Act.put, List.setIfInBounds_toArray, List.set_cons_succ, List.set_cons_zero]
          refine lex_done (by decide +kernel) ?_
          go_wp2
          go_ret
          exact ⟨ret_bool HE.out.symm, hB.keep st.below⟩
    · go_wp2
      go_ret
      have e : certsOk [] l = true := by rw [hN.out, List.drop_of_length_le (by omega)]; simp [certsOk]
      exact ⟨ret_bool (by unfold goodCerts; rw [e]; simp; omega), hB⟩

end Go.Proofs.Ytbngblmdcggfdaa

/- A row of the call's own that begins anywhere in its block: 'work = work[1:]', 'work = append(work, x)'. No program is in sight. -/
namespace Go.Proofs.Ytbngblmdcggfdaa
open Go.RowKit

def Queue (base : Nat) (e : TypeId) (w : World) {α : Type} (sz : Nat) (R : List Value → α → Prop) (a : Option Addr) (c : Nat) (xs : List α) : Prop :=
  SlR (fun b => base ≤ b) w sz R a c xs ∧ (0 < c → ∃ g off cur, a = some ⟨g, off, none⟩ ∧ base ≤ g ∧ w.heap[g]? = some (.cells cur e (0, 0)) ∧ off + c * sz ≤ cur.size)

section
variable {base : Nat} {e : TypeId} {w w' : World} {α : Type} {sz : Nat} {R : List Value → α → Prop} {a : Option Addr} {c : Nat} {xs : List α}

theorem putL_at : ∀ {vs cs : List Value} {o j : Nat} {v : Value}, o + vs.length ≤ cs.length → vs[j]? = some v → (putL cs o vs)[o + j]? = some v := by
  intro vs
  induction vs with
  | nil => intro cs o j v _ h; simp at h
  | cons u vs ih =>
    intro cs o j v hl hj
    rw [putL_cons]
    cases j with
    | zero =>
      simp at hj
      subst hj
      simp only [List.length_cons] at hl
      rw [putL_before (by omega)]
      show (cs.set o u)[o]? = some u
      rw [List.getElem?_set_self (by omega)]
    | succ j =>
      have := ih (cs := cs.set o u) (o := o + 1) (j := j) (v := v) (by simp at hl ⊢; omega) (by simpa using hj)
      rw [← this]
      congr 1
      omega

theorem Queue.slr (h : Queue base e w sz R a c xs) : SlR (fun b => base ≤ b) w sz R a c xs := h.1

theorem Queue.move (h : Queue base e w sz R a c xs) (hs : w.heap.size ≤ w'.heap.size) (hk : ∀ b, base ≤ b → b < w.heap.size → w'.heap[b]? = w.heap[b]?) : Queue base e w' sz R a c xs := by
  refine ⟨h.1.keep ⟨hs, fun b hb ho => hk b ho hb⟩, fun hc => ?_⟩
  obtain ⟨g, off, cur, h1, h2, h3, h4⟩ := h.2 hc
  exact ⟨g, off, cur, h1, h2, by rw [hk g h2 (Array.getElem?_eq_some_iff.1 h3).1]; exact h3, h4⟩

theorem Queue.below (h : Queue base e w sz R a c xs) (hb : Below w.heap.size w w') : Queue base e w' sz R a c xs := h.move hb.size fun b _ hb' => hb.block b hb'

theorem Queue.ofBlk {g : Nat} {cs : List Value} {x : α} (h : w.heap[g]? = some (.cells cs.toArray e (0, 0))) (hR : R cs x) (hl : cs.length = sz) (h1 : cs.all Value.oneCell' = true) (hb : base ≤ g) : Queue base e w sz R (some ⟨g, 0, none⟩) 1 [x] :=
  ⟨SlR.ofBlk h hR hl h1 hb, fun _ => ⟨g, 0, cs.toArray, rfl, hb, h, by simp; omega⟩⟩

theorem Queue.ofOwn {b : Nat} (h : Own b e w sz R a c xs) (hb : base ≤ b) : Queue base e w sz R a c xs := by
  refine ⟨h.slr fun k hk => Nat.le_trans hb hk, fun hc => ?_⟩
  obtain ⟨css, _, _, _, h4⟩ := h
  rcases h4.2 with ⟨hv, _⟩ | ⟨g, cap, cur, hv, hg, hh, _, _, hs, _⟩
  · simp only [Value.slice.injEq] at hv
    omega
  · simp only [Value.slice.injEq] at hv
    obtain ⟨rfl, _, rfl⟩ := hv
    exact ⟨g, 0, cur, rfl, by omega, hh, by omega⟩

/-- 'l[1:]', where there is room behind. -/
theorem Queue.tail {g off : Nat} {x : α} (h : Queue base e w sz R (some ⟨g, off, none⟩) c (x :: xs)) : Queue base e w sz R (some ⟨g, off + sz, none⟩) (c - 1) xs := by
  refine ⟨by have := h.1.drop 1; simpa using this, fun hc => ?_⟩
  obtain ⟨g', off', cur, h1, h2, h3, h4⟩ := h.2 (by omega)
  simp only [Option.some.injEq, Addr.mk.injEq, and_true] at h1
  obtain ⟨rfl, rfl⟩ := h1
  refine ⟨g, off + sz, cur, rfl, h2, h3, ?_⟩
  have : c * sz = sz + (c - 1) * sz := by
    obtain ⟨k, rfl⟩ : ∃ k, c = k + 1 := ⟨c - 1, by omega⟩
    rw [Nat.add_sub_cancel, Nat.add_mul]; omega
  omega

/-- .. where there is none. -/
theorem Queue.none_left (a : Option Addr) : Queue base e w sz R a 0 ([] : List α) :=
  ⟨⟨Nat.le_refl _, Nat.zero_le _, fun _ => rfl, fun i x hx => by simp at hx⟩, fun h => absurd h (Nat.lt_irrefl 0)⟩

end

theorem wp_appQ {P : Program} {w : World} {o : Oper} {A : Act} {Q : Exit → Act → World → Prop} {K : Act → World → Prop} (s x : Operand) (t : TypeId)
    (ho : o.op = .call { callee := .builtin .append, args := #[s, x], argTypes := #[t, t] })
    (e : TypeId) (i : TypeInfo) (z : Value) (sz bytes : Nat) (ht : P.underlying t = some (.slice e)) (hi : P.info? e = some i) (hz : i.zero = some z) (hsize : i.size = sz) (hby : i.bytes = bytes) (hzs : z.cells.size = sz) (hsz : 0 < sz)
    {α : Type} {R : List Value → α → Prop} {base : Nat} {ok : Nat → Prop} {a : Option Addr} {c n : Nat} {xs : List α} (hs : A.eval s = .slice a n c) (hn : n = xs.length) (hO : Queue base e w sz R a c xs)
    {b : Option Addr} {d : Nat} {y : α} (hx : A.eval x = .slice b 1 d) (hR : SlR ok w sz R b d [y]) (hl : (xs.length + 1) * bytes ≤ 140737488355328) (h63 : xs.length + 1 ≤ maxLen) (hbase : base ≤ w.heap.size)
    (h : ∀ a' c' w' row, Queue base e w' sz R a' c' (xs ++ [y]) → w.grownBy w' row → (∀ k, row = some k → base ≤ k) → K (A.put o.dst (.slice a' (n + 1) c')) w') : Oper.wp P o A w K Q := by
  subst hn
  obtain ⟨hS, hsp⟩ := hO
  obtain ⟨css, g1, g2, g3, g4⟩ := hS.all
  obtain ⟨dss, f1, f2, f3, f4⟩ := hR.all
  match dss, f1 with
  | [ds], _ =>
    have hds := f2 ds (by simp)
    obtain ⟨b0, o0, rfl, _, _, hc⟩ := f4 0 ds rfl
    have hnews : ∀ (j : Nat) (u : Value), ds[j]? = some u → w.cell? ((⟨b0, o0, none⟩ : Addr).add j) = some u := fun j u hj => by
      rw [Addr.add_lit, ← hc j u hj]
      congr 2
      omega
    by_cases hr : xs.length + 1 ≤ c
    · obtain ⟨g, off, cur, rfl, k1, k2, k3⟩ := hsp (by omega)
      subst hsize
      have hmul : (xs.length + 1) * i.size ≤ c * i.size := Nat.mul_le_mul_right _ hr
      have hadd : (xs.length + 1) * i.size = xs.length * i.size + i.size := by rw [Nat.add_mul, Nat.one_mul]
      have k2' : w.heap[g]? = some (.cells cur.toList.toArray e (0, 0)) := by simpa using k2
      have hcs : cur.toList.length = cur.size := by simp
      have hrun := run_append_room_cells (P := P) w t o.type e i ht hi g off xs.length c ⟨b0, o0, none⟩ 1 d ds (by rw [hds.1]; omega) hnews hds.2 hr
        (fun j hj => by rw [cell_of_row w g _ cur e (0, 0) k2]; simp; have := hds.1; omega) (fun j hj => by simp [World.frozen?, k2])
      obtain ⟨a1, a2, a3, a4, a5, a6⟩ := setCells_block (w := w) ds (off + xs.length * i.size) cur.toList k2'
      unfold Oper.wp
      simp [execOp, ho, resolve, invoke, builtin, hs, hx, hrun, Result.andThen]
      refine h _ _ _ (some g) ⟨⟨by simp; omega, hS.2.1, by simp, fun j u hj => ?_⟩, fun _ => ⟨g, off, _, rfl, k1, a1, by simp [putL_length]; omega⟩⟩ ⟨a4, a5, a6, by rw [a3]; exact Nat.le_refl _, fun k _ hk => a2 k fun he => hk (by rw [he])⟩ (fun k hk => by simp at hk; omega)
      have hg : g < w.heap.size := (Array.getElem?_eq_some_iff.1 k2).1
      by_cases hj' : j < xs.length
      · rw [List.getElem?_append_left hj'] at hj
        obtain ⟨g', o', cs, ha, h1, h2, h3, h4, h5, h6⟩ := hS.2.2.2 j u hj
        simp only [Option.some.injEq, Addr.mk.injEq, and_true] at ha
        obtain ⟨rfl, rfl⟩ := ha
        refine ⟨g, off, cs, rfl, h1, by rw [a3]; exact hg, h3, h4, h5, fun q v hv => ?_⟩
        have hq : q < i.size := by rw [← h4]; exact (List.getElem?_eq_some_iff.1 hv).1
        have hle : (j + 1) * i.size ≤ xs.length * i.size := Nat.mul_le_mul_right _ hj'
        rw [Nat.add_mul, Nat.one_mul] at hle
        rw [cell_of_row _ g _ _ e (0, 0) a1]
        simp only [List.getElem?_toArray]
        rw [putL_before (by omega)]
        have := h6 q v hv
        rw [cell_of_row w g _ cur e (0, 0) k2] at this
        simpa using this
      · have hjx : j = xs.length := by
          have := (List.getElem?_eq_some_iff.1 hj).1
          simp at this
          omega
        subst hjx
        simp at hj
        subst hj
        refine ⟨g, off, ds, rfl, k1, by rw [a3]; exact hg, f3 0 y ds rfl rfl, hds.1, hds.2, fun q v hv => ?_⟩
        rw [cell_of_row _ g _ _ e (0, 0) a1]
        simp only [List.getElem?_toArray]
        exact putL_at (by rw [hds.1, hcs]; omega) hv
    · have key : ∀ v' w', w'.ownsRow w.heap.size e sz v' (xs.length + 1) (css.flatten ++ ds) → w.grownBy w' none → K (A.put o.dst v') w' := by
        intro v' w' hown hgr
        have hO : ∀ a' c', v' = .slice a' (xs.length + 1) c' → Own w.heap.size e w' sz R a' c' (xs ++ [y]) := by
          rintro a' c' rfl
          refine ⟨css ++ [ds], by simp [g1], ?_, ?_, by simpa using hown⟩
          · intro cs hcs
            rcases List.mem_append.1 hcs with hcs | hcs
            · exact g2 cs hcs
            · simp at hcs; subst hcs; exact hds
          · intro i x cs hx hc
            by_cases hi : i < xs.length
            · rw [List.getElem?_append_left hi] at hx
              rw [List.getElem?_append_left (by omega)] at hc
              exact g3 i x cs hx hc
            · rw [List.getElem?_append_right (by omega)] at hx
              rw [List.getElem?_append_right (by omega), g1] at hc
              exact f3 _ x cs hx hc
        obtain ⟨hlen, ⟨rfl, h0⟩ | ⟨g, cap, cur, rfl, _⟩⟩ := hown
        · omega
        · exact h _ _ w' none (Queue.ofOwn (hO _ _ rfl) hbase) hgr (by simp)
      cases a with
      | some ad =>
        have hfl : css.flatten.length = xs.length * sz := by rw [flatten_length fun cs h => (g2 cs h).1, g1]
        obtain ⟨v', w', hrun, r1, r2⟩ := run_append_arg_grows (P := P) w t o.type e i z sz bytes ht hi hz hsize hby hzs hsz ad xs.length c css.flatten hfl (fun j u hj => by
          obtain ⟨p, q, cs, rfl, hq, hp, hv⟩ := flatten_inv (fun cs h => (g2 cs h).1) hj
          obtain ⟨b, o, ha, _, _, hc⟩ := g4 p cs hp
          simp only [Option.some.injEq] at ha
          subst ha
          rw [Addr.add_lit, ← hc q u hv]
          congr 2
          omega) ⟨b0, o0, none⟩ 1 d ds (by rw [hds.1]; omega) hnews (by omega) h63 hl
        unfold Oper.wp
        simp [execOp, ho, resolve, invoke, builtin, hs, hx, hrun, Result.andThen]
        exact key v' w' r1 r2
      | none =>
        have hc0 := hS.2.2.1 rfl
        have hx0 : xs = [] := List.eq_nil_of_length_eq_zero (by have := hS.1; omega)
        subst hc0
        subst hx0
        have hcss : css = [] := List.eq_nil_of_length_eq_zero (by simpa using g1)
        subst hcss
        obtain ⟨v', w', hrun, r1, r2, _⟩ := run_append_own (P := P) w w.heap.size t o.type e i z sz bytes ht hi hz hsize hby hzs hsz (.slice none 0 0) 0 [] (World.ownsRow_nil w _ e sz) ⟨b0, o0, none⟩ 1 d ds (by rw [hds.1]; omega) hnews hds.2 h63 hl (Nat.le_refl _)
        unfold Oper.wp
        simp only [List.length_nil] at hs
        simp [execOp, ho, resolve, invoke, builtin, hs, hx, hrun, Result.andThen]
        exact key v' w' (by simpa using r1) r2

theorem wpList_appQ {P : Program} {w : World} {ops : Array Oper} {rest : List Oper} {o : Oper} {A : Act} {Q : Exit → Act → World → Prop} (hgd : Region.wanted o (yielded ops A.tmps) = true) (s x : Operand) (t : TypeId)
    (ho : o.op = .call { callee := .builtin .append, args := #[s, x], argTypes := #[t, t] })
    (e : TypeId) (i : TypeInfo) (z : Value) (sz bytes : Nat) (ht : P.underlying t = some (.slice e)) (hi : P.info? e = some i) (hz : i.zero = some z) (hsize : i.size = sz) (hby : i.bytes = bytes) (hzs : z.cells.size = sz) (hsz : 0 < sz)
    {α : Type} {R : List Value → α → Prop} {base : Nat} {ok : Nat → Prop} {a : Option Addr} {c n : Nat} {xs : List α} (hs : A.eval s = .slice a n c) (hn : n = xs.length) (hO : Queue base e w sz R a c xs)
    {b : Option Addr} {d : Nat} {y : α} (hx : A.eval x = .slice b 1 d) (hR : SlR ok w sz R b d [y]) (hl : (xs.length + 1) * bytes ≤ 140737488355328) (h63 : xs.length + 1 ≤ maxLen) (hbase : base ≤ w.heap.size)
    (h : ∀ a' c' w' row, Queue base e w' sz R a' c' (xs ++ [y]) → w.grownBy w' row → (∀ k, row = some k → base ≤ k) → wpList P ops Q rest (A.put o.dst (.slice a' (n + 1) c')) w') : wpList P ops Q (o :: rest) A w :=
  wpList_wanted hgd fun _ hK => wp_appQ s x t ho e i z sz bytes ht hi hz hsize hby hzs hsz hs hn hO hx hR hl h63 hbase fun a' c' w' row h1 h2 h3 => hK _ _ (h a' c' w' row h1 h2 h3)

end Go.Proofs.Ytbngblmdcggfdaa

/- The walks through trust.Home and trust.Trusted. -/
namespace Go.Proofs.Ytbngblmdcggfdaa
open Go.RowKit

theorem trust_Home (c : Int) (w : World) (hc : 0 ≤ c) (hm : c ≤ 9223372036854775807) : Calls Try.prog 15 #[.int .i64 c] w fun e w' => e = .returned (.int .i64 (c / 20)) ∧ w = w' := by
  have hw : wrap64 (c.tdiv 20) = c / 20 := by
    rw [Int.tdiv_eq_ediv_of_nonneg hc]
    unfold wrap64; omega
  go_enter Try.func15, Try.ntmps15
  go_wp2
  go_ret
  exact ⟨rfl, rfl⟩

noncomputable def trustV (l : List Cert) (c now : Int) : Value := .agg #[.bool (trustB l c now 0), .bool (trustB l c now 1), .bool (trustB l c now 2), .bool (trustB l c now 3)]

theorem trustV_no {l : List Cert} {c now : Int} (h : catOk c = false ∨ goodCerts l = false) : trustV l c now = .agg #[.bool false, .bool false, .bool false, .bool false] := by
  have : ∀ n, trustB l c now n = false := fun n => by
    cases hb : trustB l c now n
    · rfl
    · have := trustB_iff.1 hb
      rcases h with h | h
      · rw [h] at this; simp at this
      · rw [h] at this; simp at this
  simp [trustV, this]

set_option maxRecDepth 100000 in
set_option maxHeartbeats 3000000 in
theorem trust_Trusted (ok : Nat → Prop) (w : World) (a : Option Addr) (k : Nat) (l : List Cert) (c now : Int) (hR : SlR ok w 4 RCert a k l) :
    Calls Try.prog 6 #[.slice a l.length k, .int .i64 c, .int .i64 now] w fun e w' => e = .returned (trustV l c now) ∧ Below w.heap.size w w' := by
  have HG := Lib.hid (fun (W : World) (h : Below w.heap.size w W) => trust_Good ok W a k l (hR.below h))
  have st := St.start w
  cases h1 : catOk c
  · have H1 := Lib.hid h1
    have HV := Lib.hid (trustV_no (l := l) (now := now) (.inl h1))
    clear h1
    go_enter Try.func6, Try.ntmps6
    go_wp2_with (first | go_skip | (refine mem_alloc st (wanted_none rfl) 28 rfl _ Try.zeroValue28 _ rfl ?_; clear st; intro g1 w1 hg1 st hg1b; clear hg1b; simp [Act.eval, Act.put, Value.cells, putL] at st) | (go_at_call 20; go_must (refine (cat_Category c _).mono ?_; rintro e v1 ⟨rfl, rfl⟩; rw [H1.out])) | ((first | refine mem_load_agg' st 28 _ rfl (wanted_none rfl) Try.isAgg28 _ Try.sizeOf28 ?_ | (refine mem_load_agg' st 28 _ rfl (wanted_some rfl ?_) Try.isAgg28 _ Try.sizeOf28 ?_; focus (simp [yielded, Act.put]; done))); refine ⟨1, _, _, _, _, _, rfl, rfl, rfl, rfl, ?_⟩) | ((first | refine mem_store' st 28 _ _ rfl (wanted_none rfl) _ Try.sizeOf28 ?_ | (refine mem_store' st 28 _ _ rfl (wanted_some rfl ?_) _ Try.sizeOf28 ?_; focus (simp [yielded, Act.put]; done))); refine ⟨0, _, _, _, _, _, rfl, rfl, rfl, rfl, rfl, rfl, ?_⟩; clear st; intro w3 st hw3m hw3z; simp [Act.eval, Act.put, Value.cells, putL] at st))
    have hc := fun j => st.cell (i := 0) rfl j
    rw [HV.out]
    refine bodyPost_ret (v := .agg #[.bool false, .bool false, .bool false, .bool false]) (by simp [results, Try.results6, go_sem, hc]) rfl ⟨rfl, st.below⟩
  · have H1 := Lib.hid h1
    cases h2 : goodCerts l
    · have H2 := Lib.hid h2
      have HV := Lib.hid (trustV_no (c := c) (now := now) (.inr h2))
      clear h1 h2
      go_enter Try.func6, Try.ntmps6
      go_wp2_with (first | go_skip | (refine mem_alloc st (wanted_none rfl) 28 rfl _ Try.zeroValue28 _ rfl ?_; clear st; intro g1 w1 hg1 st hg1b; clear hg1b; simp [Act.eval, Act.put, Value.cells, putL] at st) | (go_at_call 20; go_must (refine (cat_Category c _).mono ?_; rintro e v1 ⟨rfl, rfl⟩; rw [H1.out])) | (go_at_call 17; go_must (refine (HG.out _ st.below).mono ?_; rintro e v2 ⟨rfl, hb2⟩; rw [H2.out]; replace st := st.call hb2; clear hb2)) | ((first | refine mem_load_agg' st 28 _ rfl (wanted_none rfl) Try.isAgg28 _ Try.sizeOf28 ?_ | (refine mem_load_agg' st 28 _ rfl (wanted_some rfl ?_) Try.isAgg28 _ Try.sizeOf28 ?_; focus (simp [yielded, Act.put]; done))); refine ⟨1, _, _, _, _, _, rfl, rfl, rfl, rfl, ?_⟩) | ((first | refine mem_store' st 28 _ _ rfl (wanted_none rfl) _ Try.sizeOf28 ?_ | (refine mem_store' st 28 _ _ rfl (wanted_some rfl ?_) _ Try.sizeOf28 ?_; focus (simp [yielded, Act.put]; done))); refine ⟨0, _, _, _, _, _, rfl, rfl, rfl, rfl, rfl, rfl, ?_⟩; clear st; intro w3 st hw3m hw3z; simp [Act.eval, Act.put, Value.cells, putL] at st))
      have hc := fun j => st.cell (i := 0) rfl j
      rw [HV.out]
      refine bodyPost_ret (v := .agg #[.bool false, .bool false, .bool false, .bool false]) (by simp [results, Try.results6, go_sem, hc]) rfl ⟨rfl, st.below⟩
    · have H2 := Lib.hid h2
      have hc0 := home_range h1
      have hc1 := (catOk_iff c).1 h1
      have hgl := Lib.hid (((goodCerts_iff l).1 h2).1)
      have hlen : l.length ≤ 24 := ((goodCerts_iff l).1 h2).2.2
      have HS := Lib.hid (TrInv.start (l := l) (now := now) h1)
      clear h1 h2
      obtain ⟨i0, hi, hz0, hz1, hz2⟩ := info_parts info_int
      go_enter Try.func6, Try.ntmps6
      go_wp2_with (first
        | go_skip | (refine mem_alloc st (wanted_none rfl) 28 rfl _ Try.zeroValue28 _ rfl ?_; clear st; intro g1 w1 hg1 st hg1b; clear hg1b; simp [Act.eval, Act.put, Value.cells, putL] at st) | (go_at_call 20; go_must (refine (cat_Category c _).mono ?_; rintro e v1 ⟨rfl, rfl⟩; rw [H1.out])) | (go_at_call 17; go_must (refine (HG.out _ st.below).mono ?_; rintro e v2 ⟨rfl, hb2⟩; rw [H2.out]; replace st := st.call hb2; clear hb2))
        | (go_at_call 15; go_must (refine (trust_Home c _ hc1.1 (by omega)).mono ?_; rintro e v3 ⟨rfl, rfl⟩; have st3 := st)) | ((refine wpList_build1 st (wanted_none rfl) 25 3 _ rfl Try.underlying25 1 Try.sizeOf3 (by decide) (by decide) _ Try.zeroValue3 _ rfl rfl ?_; have stw4 := st; clear st; intro g4 w4 hg4 hg4e st hw4b hw4z; simp [Act.eval, Act.put, Value.cells, putL] at st); have HG4 := Lib.hid hg4e; clear hg4e))
      rename_i g0 w0x hg0 K0 hK0
      have q0 : Queue v2.heap.size 3 w4 1 RInt (some ⟨g4, 0, none⟩) 1 [c / 20] := Queue.ofBlk (st.blk _ (List.mem_of_getElem? (i := 2) rfl)) rfl rfl rfl (Nat.le_of_eq HG4.out.symm)
      have l0 := stw4.ltAt (i := 0) rfl
      have l1 := stw4.ltAt (i := 1) rfl
      have hwB := stw4.size
      have hB0 : v2.heap.size ≤ w4.heap.size := by omega
      have st0 : St [] w w4 [(g0, 28, [.bool false, .bool false, .bool false, .bool false]), (g1, 28, fourL four0)] := st.take 2
      clear st stw4 st3 hw4b hw4z HG4 hg4 hg0 hg1 hc0 hc1
      generalize hBe : v2.heap.size = B at *
      clear hBe
      go_loopg [8] 200 (fun m p wr => ∃ e work qa qc, p = .slice qa work.length qc ∧ St [] w wr [(g0, 28, [.bool false, .bool false, .bool false, .bool false]), (g1, 28, fourL e)] ∧ Queue B 3 wr 1 RInt qa qc work ∧ B ≤ wr.heap.size ∧ Hid (TrInv l c now e work (-1) 0) ∧ work.length + 24 * e.no ≤ 97 ∧ work.length + 25 * e.no ≤ m)
      case atStart => exact ⟨four0, [c / 20], _, _, rfl, st0, q0, hB0, HS, by simp [Four.no, four0], by simp [Four.no, four0]⟩
      case round =>
        clear st0 q0 hB0 HS
        obtain ⟨e, work, qa, qc, rfl, st, hq, hB, hT, hm1, hm2⟩ := hrel
        cases work with
        | nil =>
          have HD := Lib.hid (fun n : Nat => hT.out.done H1.out H2.out n)
          simp only [List.length_nil]
          go_wp2_with (first | go_skip | ((first | refine mem_load_agg' st 28 _ rfl (wanted_none rfl) Try.isAgg28 _ Try.sizeOf28 ?_ | (refine mem_load_agg' st 28 _ rfl (wanted_some rfl ?_) Try.isAgg28 _ Try.sizeOf28 ?_; focus (simp [yielded, Act.put]; done))); refine ⟨1, _, _, _, _, _, rfl, rfl, rfl, rfl, ?_⟩) | ((first | refine mem_store' st 28 _ _ rfl (wanted_none rfl) _ Try.sizeOf28 ?_ | (refine mem_store' st 28 _ _ rfl (wanted_some rfl ?_) _ Try.sizeOf28 ?_; focus (simp [yielded, Act.put]; done))); refine ⟨0, _, _, _, _, _, rfl, rfl, rfl, rfl, rfl, rfl, ?_⟩; clear st; intro w3 st hw3m hw3z; simp [Act.eval, Act.put, Value.cells, putL] at st))
          simp [fourL, putL] at st
          have hc := fun j => st.cell (i := 0) rfl j
          have hv : trustV l c now = .agg #[.bool e.b0, .bool e.b1, .bool e.b2, .bool e.b3] := by
            have h0 := HD.out 0; have h1 := HD.out 1; have h2 := HD.out 2; have h3 := HD.out 3
            simp [Four.get] at h0 h1 h2 h3
            simp [trustV, h0, h1, h2, h3]
          rw [hv]
          refine bodyPost_ret (v := .agg #[.bool e.b0, .bool e.b1, .bool e.b2, .bool e.b3]) (by simp [results, Try.results6, go_sem, hc, fourL]) rfl ⟨rfl, st.below⟩
        | cons x ws =>
          obtain ⟨n, rfl⟩ := Int.eq_ofNat_of_zero_le (hT.out.wait x (by simp)).2.1
          have hn4 : n < 4 := by have := (hT.out.wait n (by simp)).2.2; omega
          obtain ⟨b, o, rfl, hb, hx0⟩ := hq.slr.int_at 0 (by simp)
          simp only [Nat.add_zero, List.getElem_cons_zero] at hx0
          have hq1 := hq.slr.1
          have hqm := hq.slr.2.1
          unfold maxLen at hqm
          simp only [List.length_cons] at hq1 hm1 hm2 ⊢
          have hqt : ∃ a', (∀ W, (Instr.slice 25 (.slice (some ⟨b, o, none⟩) (ws.length + 1) qc) (some (.int .i64 1)) none none).run Try.prog W = .ok (.slice a' ws.length (qc - 1)) W) ∧ Queue B 3 wr 1 RInt a' (qc - 1) ws := by
            by_cases h1 : qc = 1
            · subst h1
              obtain rfl : ws = [] := List.eq_nil_of_length_eq_zero (by omega)
              exact ⟨some ⟨b, o, none⟩, fun W => by go_simp, Queue.none_left _⟩
            · have h2 : 1 < qc := by omega
              exact ⟨some ⟨b, o + 1, none⟩, fun W => by go_simp; intro h; omega, hq.tail⟩
          obtain ⟨a1, hsl, hq'⟩ := hqt
          cases he : e.get n
          · have hv : (fourL e)[n]? = some (.bool false) := by rw [fourL_get e hn4, he]
            have HP := Lib.hid (fourL_put e hn4)
            have HE := Lib.hid (hT.out.enter (fun x hx => ⟨(goodCert_range (hgl.out x hx)).1.1, (goodCert_range (hgl.out x hx)).2.1⟩) (home_range H1.out).1 hn4)
            have hno := e.no_set hn4 he
            have HGN := Lib.hid (show (e.set n).get n = true by rw [Four.get_set e hn4]; simp)
            clear he
            have hble : Nat.ble (n + 1) 4 = true := Nat.ble_eq_true_of_le (by omega)
            go_wp2_with (first
              | go_skip | (refine mem_load' st 4 _ rfl (wanted_none rfl) Try.isAgg4 ?_; refine ⟨1, _, _, _, _, _, rfl, rfl, hv, ?_⟩)
              | (refine mem_store' st 4 _ _ rfl (wanted_none rfl) _ Try.sizeOf4 ?_; refine ⟨1, _, _, _, _, _, rfl, rfl, rfl, rfl, rfl, hble, ?_⟩; clear st; intro w3 st hw3m hw3z; simp [Act.eval, Value.cells] at st; rw [HP.out] at st))
            have hq3 := hq'.move (Nat.le_of_eq hw3z.symm) fun q hq1 _ => hw3m q (by omega)
            have hB3 : B ≤ w3.heap.size := by omega
            clear hv hq' hq hx0 hsl
            go_loopw [39, 8] (fun i p wj => ∃ (j : Nat) (work' : List Int) (a' : Option Addr) (c' : Nat), j ≤ l.length ∧ i = .int .i64 j ∧ p = .slice a' work'.length c' ∧ St [] w wj [(g0, 28, [.bool false, .bool false, .bool false, .bool false]), (g1, 28, fourL (e.set n))] ∧ Queue B 3 wj 1 RInt a' c' work' ∧ B ≤ wj.heap.size ∧ Hid (TrInv l c now (e.set n) work' n j) ∧ work'.length ≤ ws.length + j) (fun i _ _ => l.length - (intOf i).toNat)
            case atStart => exact ⟨0, ws, a1, qc - 1, Nat.zero_le _, rfl, rfl, st, hq3, hB3, HE, by omega⟩
            case round =>
              clear st hq3 hB3 HE
              obtain ⟨j, work', a', c', hj, rfl, rfl, st, hq2, hB2, hT2, hm3⟩ := hrel
              by_cases hj' : j < l.length
              · obtain ⟨b2, o2, rfl, hb2, _⟩ := hR.cert_at j hj'
                have hrow := (hR.below st.below).cert_row j hj'
                have hrange := (goodCert_range (hgl.out l[j] (List.getElem_mem hj'))).2
                have stj := st
                replace st := st.rebase
                by_cases e1 : l[j].c = c
                · by_cases e2 : l[j].by_ = n
                  · by_cases e3 : now ≤ l[j].till
                    · have HN := Lib.hid (show l[j].c = c ∧ l[j].by_ = n ∧ now ≤ l[j].till from ⟨e1, e2, e3⟩)
                      have d1 : (l[j].c == c) = true := by simpa using e1
                      have d2 : (l[j].by_ == (n : Int)) = true := by simpa using e2
                      have d3 : decide (now ≤ l[j].till) = true := by simpa using e3
                      clear e1 e2 e3
                      go_wp2_with (first
                        | go_skip | (refine wpList_load_cells (wanted_none rfl) 43 _ rfl Try.isAgg43 _ Try.sizeOf43 b2 (o2 + j * 4) rfl [.int .i64 l[j].c, .int .i64 l[j].by_, .int .i64 l[j].host, .int .i64 l[j].till] rfl hrow ?_) | (refine mem_alloc st (wanted_none rfl) 43 rfl _ Try.zeroValue43 _ rfl ?_; clear st; intro g5 w5 hg5 st hg5b; clear hg5b; simp [Act.eval, Act.put, Value.cells, putL] at st) | ((first | refine mem_store' st 43 _ _ rfl (wanted_none rfl) _ Try.sizeOf43 ?_ | (refine mem_store' st 43 _ _ rfl (wanted_some rfl ?_) _ Try.sizeOf43 ?_; focus (simp [yielded, Act.put]; done))); refine ⟨2, _, _, _, _, _, rfl, rfl, rfl, rfl, rfl, rfl, ?_⟩; clear st; intro w6 st hw6m hw6z; simp [Act.eval, Act.put, Value.cells, putL] at st) | ((first | refine mem_load' st 3 _ rfl (wanted_none rfl) Try.isAgg3 ?_ | (refine mem_load' st 3 _ rfl (wanted_some rfl ?_) Try.isAgg3 ?_; focus (simp [yielded, Act.put]; done))); refine ⟨2, _, _, _, _, _, rfl, rfl, rfl, ?_⟩) | ((refine wpList_build1 st (wanted_none rfl) 25 3 _ rfl Try.underlying25 1 Try.sizeOf3 (by decide) (by decide) _ Try.zeroValue3 _ rfl rfl ?_; have stw7 := st; clear st; intro g7 w7 hg7 hg7e st hw7b hw7z; simp [Act.eval, Act.put, Value.cells, putL] at st); clear hg7e)
                        | (at_builtin; go_must (refine wpList_appQ (wanted_none rfl) _ _ 25 rfl 3 i0 _ 1 8 Try.underlying25 hi hz0 hz1 hz2 rfl (by decide) (base := B) rfl rfl (hq2.below (stj.below2 st (by simp))) rfl (SlR.ofBlk (ok := fun _ => True) (R := RInt) (sz := 1) (x := l[j].host) (st.blk _ (List.mem_of_getElem? (i := 3) rfl)) rfl rfl rfl trivial) (by omega) (by unfold maxLen; omega) (Nat.le_trans hB2 (stj.below2 st (by simp)).size) ?_; intro a8 c8 w8 row8 hq8 hg8 hr8)))
                      go_roundw
                      case rel =>
                        have hz := (stj.below2 st (by simp)).size
                        have hstk := St.back stj (st.take 2)
                        refine ⟨j + 1, work' ++ [l[j].host], a8, c8, hj', by go_num, by simp, hstk.grownNew hg8 (fun q hq => Nat.le_trans hwB (hr8 q hq)) (fun x hx => ?_), hq8, Nat.le_trans hB2 (Nat.le_trans hz hg8.size), hT2.out.push hj' hrange HGN.out HN.out.1 HN.out.2.1 HN.out.2.2, by simp; omega⟩
                        simp at hx
                        rcases hx with rfl | rfl
                        · intro he; have := hr8 _ he; simp at this; omega
                        · intro he; have := hr8 _ he; simp at this; omega
                      case measure => simp [intOf]; omega
                    · have HN := Lib.hid (show ¬ (l[j].c = c ∧ l[j].by_ = n ∧ now ≤ l[j].till) from fun h => e3 h.2.2)
                      have d1 : (l[j].c == c) = true := by simpa using e1
                      have d2 : (l[j].by_ == (n : Int)) = true := by simpa using e2
                      have d3 : decide (now ≤ l[j].till) = false := by simpa using e3
                      clear e1 e2 e3
                      go_wp2_with (first | go_skip | (refine wpList_load_cells (wanted_none rfl) 43 _ rfl Try.isAgg43 _ Try.sizeOf43 b2 (o2 + j * 4) rfl [.int .i64 l[j].c, .int .i64 l[j].by_, .int .i64 l[j].host, .int .i64 l[j].till] rfl hrow ?_) | (refine mem_alloc st (wanted_none rfl) 43 rfl _ Try.zeroValue43 _ rfl ?_; clear st; intro g5 w5 hg5 st hg5b; clear hg5b; simp [Act.eval, Act.put, Value.cells, putL] at st) | ((first | refine mem_store' st 43 _ _ rfl (wanted_none rfl) _ Try.sizeOf43 ?_ | (refine mem_store' st 43 _ _ rfl (wanted_some rfl ?_) _ Try.sizeOf43 ?_; focus (simp [yielded, Act.put]; done))); refine ⟨2, _, _, _, _, _, rfl, rfl, rfl, rfl, rfl, rfl, ?_⟩; clear st; intro w6 st hw6m hw6z; simp [Act.eval, Act.put, Value.cells, putL] at st) | ((first | refine mem_load' st 3 _ rfl (wanted_none rfl) Try.isAgg3 ?_ | (refine mem_load' st 3 _ rfl (wanted_some rfl ?_) Try.isAgg3 ?_; focus (simp [yielded, Act.put]; done))); refine ⟨2, _, _, _, _, _, rfl, rfl, rfl, ?_⟩))
                      go_roundw
                      case rel => exact ⟨j + 1, work', a', c', hj', by go_num, rfl, St.back stj (st.take 2), hq2.below (stj.below2 st (by simp)), Nat.le_trans hB2 (stj.below2 st (by simp)).size, hT2.out.pass hj' (HN.out), by omega⟩
                      case measure => simp [intOf]; omega
                  · have HN := Lib.hid (show ¬ (l[j].c = c ∧ l[j].by_ = n ∧ now ≤ l[j].till) from fun h => e2 h.2.1)
                    have d1 : (l[j].c == c) = true := by simpa using e1
                    have d2 : (l[j].by_ == (n : Int)) = false := by simpa using e2
                    clear e1 e2
                    go_wp2_with (first | go_skip | (refine wpList_load_cells (wanted_none rfl) 43 _ rfl Try.isAgg43 _ Try.sizeOf43 b2 (o2 + j * 4) rfl [.int .i64 l[j].c, .int .i64 l[j].by_, .int .i64 l[j].host, .int .i64 l[j].till] rfl hrow ?_) | (refine mem_alloc st (wanted_none rfl) 43 rfl _ Try.zeroValue43 _ rfl ?_; clear st; intro g5 w5 hg5 st hg5b; clear hg5b; simp [Act.eval, Act.put, Value.cells, putL] at st) | ((first | refine mem_store' st 43 _ _ rfl (wanted_none rfl) _ Try.sizeOf43 ?_ | (refine mem_store' st 43 _ _ rfl (wanted_some rfl ?_) _ Try.sizeOf43 ?_; focus (simp [yielded, Act.put]; done))); refine ⟨2, _, _, _, _, _, rfl, rfl, rfl, rfl, rfl, rfl, ?_⟩; clear st; intro w6 st hw6m hw6z; simp [Act.eval, Act.put, Value.cells, putL] at st) | ((first | refine mem_load' st 3 _ rfl (wanted_none rfl) Try.isAgg3 ?_ | (refine mem_load' st 3 _ rfl (wanted_some rfl ?_) Try.isAgg3 ?_; focus (simp [yielded, Act.put]; done))); refine ⟨2, _, _, _, _, _, rfl, rfl, rfl, ?_⟩))
                    go_roundw
                    case rel => exact ⟨j + 1, work', a', c', hj', by go_num, rfl, St.back stj (st.take 2), hq2.below (stj.below2 st (by simp)), Nat.le_trans hB2 (stj.below2 st (by simp)).size, hT2.out.pass hj' (HN.out), by omega⟩
                    case measure => simp [intOf]; omega
                · have HN := Lib.hid (show ¬ (l[j].c = c ∧ l[j].by_ = n ∧ now ≤ l[j].till) from fun h => e1 h.1)
                  have d1 : (l[j].c == c) = false := by simpa using e1
                  clear e1
                  go_wp2_with (first | go_skip | (refine wpList_load_cells (wanted_none rfl) 43 _ rfl Try.isAgg43 _ Try.sizeOf43 b2 (o2 + j * 4) rfl [.int .i64 l[j].c, .int .i64 l[j].by_, .int .i64 l[j].host, .int .i64 l[j].till] rfl hrow ?_) | (refine mem_alloc st (wanted_none rfl) 43 rfl _ Try.zeroValue43 _ rfl ?_; clear st; intro g5 w5 hg5 st hg5b; clear hg5b; simp [Act.eval, Act.put, Value.cells, putL] at st) | ((first | refine mem_store' st 43 _ _ rfl (wanted_none rfl) _ Try.sizeOf43 ?_ | (refine mem_store' st 43 _ _ rfl (wanted_some rfl ?_) _ Try.sizeOf43 ?_; focus (simp [yielded, Act.put]; done))); refine ⟨2, _, _, _, _, _, rfl, rfl, rfl, rfl, rfl, rfl, ?_⟩; clear st; intro w6 st hw6m hw6z; simp [Act.eval, Act.put, Value.cells, putL] at st) | ((first | refine mem_load' st 3 _ rfl (wanted_none rfl) Try.isAgg3 ?_ | (refine mem_load' st 3 _ rfl (wanted_some rfl ?_) Try.isAgg3 ?_; focus (simp [yielded, Act.put]; done))); refine ⟨2, _, _, _, _, _, rfl, rfl, rfl, ?_⟩))
                  go_roundw
                  case rel => exact ⟨j + 1, work', a', c', hj', by go_num, rfl, St.back stj (st.take 2), hq2.below (stj.below2 st (by simp)), Nat.le_trans hB2 (stj.below2 st (by simp)).size, hT2.out.pass hj' (HN.out), by omega⟩
                  case measure => simp [intOf]; omega
              · go_wp2
                go_roundg (gk - 1)
                case measure => omega
                case rel => exact ⟨e.set n, work', a', c', rfl, st, hq2, hB2, hT2.out.leave hj', by omega, by omega⟩
          · have hv : (fourL e)[n]? = some (.bool true) := by rw [fourL_get e hn4, he]
            have HE := Lib.hid (hT.out.pop he)
            clear he
            go_wp2_with (first | go_skip | (refine mem_load' st 4 _ rfl (wanted_none rfl) Try.isAgg4 ?_; refine ⟨1, _, _, _, _, _, rfl, rfl, hv, ?_⟩))
            go_roundg (gk - 1)
            case measure => omega
            case rel => exact ⟨e, ws, a1, qc - 1, rfl, st, hq', hB, HE, by omega, by omega⟩

end Go.Proofs.Ytbngblmdcggfdaa

/- Does trust answer at all? -/
namespace Go.Proofs.Ytbngblmdcggfdaa
open Go.RowKit

theorem trustV_four (l : List Cert) (c now : Int) : trustV l c now = .agg (fourL (trustF l c now)).toArray := rfl

theorem guard_four (op : BinOp) (x y : Operand) (xs ys : Array Value) (W : World) : (eqGuard op 28 x y (.agg xs) (.agg ys)).run Try.prog W = .ok () W := run_eqGuard_agg W op _ x y xs ys (by kernel_rfl)

set_option maxRecDepth 100000 in
set_option maxHeartbeats 1000000 in
theorem trusts_law (w : World) : Calls Try.prog 16 #[] w fun e w' => e = .returned (.bool true) ∧ Below w.heap.size w w' := by
  have hne : ∀ W : World, (binOp .eql 28 (.agg #[.bool false, .bool true, .bool false, .bool true]) (.agg #[.bool false, .bool true, .bool false, .bool true])).run Try.prog W = .ok (.bool true) W := fun _ => by kernel_rfl
  have hgu := guard_four
  have HV := Lib.hid (show trustV [⟨25, 1, 3, 9⟩] 25 9 = .agg #[.bool false, .bool true, .bool false, .bool true] by rw [trustV_four, trusts_plain]; rfl)
  have st := St.start w
  go_enter Try.func16, Try.ntmps16
  go_wp2_with (first
    | go_skip | ((refine wpList_build1 st (wanted_none rfl) 22 43 _ rfl Try.underlying22 4 Try.sizeOf43 (by decide) (by decide) _ Try.zeroValue43 _ rfl rfl ?_; have stw1 := st; clear st; intro g1 w1 hg1 hg1e st hw1b hw1z; simp [Act.eval, Act.put, Value.cells, putL] at st); clear hg1e)
    | (go_at_call 6; go_must (refine (trust_Trusted (fun _ => True) _ _ _ [⟨25, 1, 3, 9⟩] 25 9 (SlR.ofBlk (R := RCert) (sz := 4) (x := ⟨25, 1, 3, 9⟩) (st.blk _ (List.mem_of_getElem? (i := 0) rfl)) rfl rfl rfl trivial)).mono ?_; rintro e v2 ⟨rfl, hb2⟩; rw [HV.out]; replace st := st.call hb2; clear hb2))
    | (refine mem_alloc st (wanted_none rfl) 28 rfl _ Try.zeroValue28 _ rfl ?_; clear st; intro g3 w3 hg3 st hg3b; clear hg3b; simp [Act.eval, Act.put, Value.cells, putL] at st) | ((first | refine mem_store' st 28 _ _ rfl (wanted_none rfl) _ Try.sizeOf28 ?_ | (refine mem_store' st 28 _ _ rfl (wanted_some rfl ?_) _ Try.sizeOf28 ?_; focus (simp [yielded, Act.put]; done))); refine ⟨1, _, _, _, _, _, rfl, rfl, rfl, rfl, rfl, rfl, ?_⟩; clear st; intro w4 st hw4m hw4z; simp [Act.eval, Act.put, Value.cells, putL] at st) | ((first | refine mem_load_agg' st 28 _ rfl (wanted_none rfl) Try.isAgg28 _ Try.sizeOf28 ?_ | (refine mem_load_agg' st 28 _ rfl (wanted_some rfl ?_) Try.isAgg28 _ Try.sizeOf28 ?_; focus (simp [yielded, Act.put]; done))); refine ⟨1, _, _, _, _, _, rfl, rfl, rfl, rfl, ?_⟩))
  go_ret
  exact ⟨rfl, st.below⟩

set_option maxRecDepth 100000 in
set_option maxHeartbeats 1000000 in
theorem trusts_keep (w : World) : Calls Try.prog 18 #[] w fun e w' => e = .returned (.bool true) ∧ Below w.heap.size w w' := by
  have hne : ∀ W : World, (binOp .eql 28 (.agg #[.bool false, .bool true, .bool false, .bool true]) (.agg #[.bool false, .bool true, .bool false, .bool true])).run Try.prog W = .ok (.bool true) W := fun _ => by kernel_rfl
  have hgu := guard_four
  have HV := Lib.hid (show trustV [⟨25, 1, 3, 9⟩] 25 9 = .agg #[.bool false, .bool true, .bool false, .bool true] by rw [trustV_four, trusts_plain]; rfl)
  have st := St.start w
  go_enter Try.func18, Try.ntmps18
  go_wp2_with (first
    | go_skip | ((refine wpList_build1 st (wanted_none rfl) 22 43 _ rfl Try.underlying22 4 Try.sizeOf43 (by decide) (by decide) _ Try.zeroValue43 _ rfl rfl ?_; have stw1 := st; clear st; intro g1 w1 hg1 hg1e st hw1b hw1z; simp [Act.eval, Act.put, Value.cells, putL] at st); clear hg1e)
    | (go_at_call 6; go_must (refine (trust_Trusted (fun _ => True) _ _ _ [⟨25, 1, 3, 9⟩] 25 9 (SlR.ofBlk (R := RCert) (sz := 4) (x := ⟨25, 1, 3, 9⟩) (st.blk _ (List.mem_of_getElem? (i := 0) rfl)) rfl rfl rfl trivial)).mono ?_; rintro e v2 ⟨rfl, hb2⟩; rw [HV.out]; replace st := st.call hb2; clear hb2))
    | (refine mem_alloc st (wanted_none rfl) 28 rfl _ Try.zeroValue28 _ rfl ?_; clear st; intro g3 w3 hg3 st hg3b; clear hg3b; simp [Act.eval, Act.put, Value.cells, putL] at st) | ((first | refine mem_store' st 28 _ _ rfl (wanted_none rfl) _ Try.sizeOf28 ?_ | (refine mem_store' st 28 _ _ rfl (wanted_some rfl ?_) _ Try.sizeOf28 ?_; focus (simp [yielded, Act.put]; done))); refine ⟨1, _, _, _, _, _, rfl, rfl, rfl, rfl, rfl, rfl, ?_⟩; clear st; intro w4 st hw4m hw4z; simp [Act.eval, Act.put, Value.cells, putL] at st) | ((first | refine mem_load_agg' st 28 _ rfl (wanted_none rfl) Try.isAgg28 _ Try.sizeOf28 ?_ | (refine mem_load_agg' st 28 _ rfl (wanted_some rfl ?_) Try.isAgg28 _ Try.sizeOf28 ?_; focus (simp [yielded, Act.put]; done))); refine ⟨1, _, _, _, _, _, rfl, rfl, rfl, rfl, ?_⟩))
  go_ret
  exact ⟨rfl, st.below⟩

end Go.Proofs.Ytbngblmdcggfdaa

/- Four rounds over the certs find all who may be trusted. No program is in sight. -/
namespace Go.Proofs.Ytbngblmdcggfdaa
open Go.RowKit

/-- No live cert leads out of e. -/
def Closed (l : List Cert) (c now : Int) (e : Four) : Prop := ∀ x ∈ l, live c now x → e.get x.by_.toNat = true → e.get x.host.toNat = true

/-- Behind r rounds. -/
structure RoundInv (l : List Cert) (c now : Int) (e : Four) (r : Nat) : Prop where
  sound : ∀ n : Nat, e.get n = true → Reach l c now n
  home : e.get (c / 20).toNat = true
  left : Closed l c now e ∨ e.no + r ≤ 3

/-- Within a round that began at e0. -/
structure PassInv (l : List Cert) (c now : Int) (e0 e : Four) (k : Nat) : Prop where
  sound : ∀ n : Nat, e.get n = true → Reach l c now n
  home : e.get (c / 20).toNat = true
  edge : ∀ (i : Nat) (hi : i < l.length), i < k → live c now l[i] → e0.get l[i].by_.toNat = true → e.get l[i].host.toNat = true
  more : ∀ n, e0.get n = true → e.get n = true
  same : e = e0 ∨ e.no < e0.no
  still : Closed l c now e0 → e = e0

theorem Four.no_le (e : Four) : e.no ≤ 4 := by
  unfold Four.no
  split <;> split <;> split <;> split <;> omega

theorem Four.set_same (e : Four) {n : Nat} (hn : n < 4) (h : e.get n = true) : e.set n = e := by
  obtain ⟨b0, b1, b2, b3⟩ := e
  match n, hn with
  | 0, _ => simp [Four.get] at h; subst h; rfl
  | 1, _ => simp [Four.get] at h; subst h; rfl
  | 2, _ => simp [Four.get] at h; subst h; rfl
  | 3, _ => simp [Four.get] at h; subst h; rfl

theorem RoundInv.start {l : List Cert} {c now : Int} {n : Nat} (hn : n < 4) (hc : c / 20 = n) : RoundInv l c now (four0.set n) 0 := by
  refine ⟨fun j hj => ?_, by rw [hc]; simp [Four.get_set four0 hn], .inr ?_⟩
  · rw [Four.get_set four0 hn, four0_get] at hj
    split at hj
    · rename_i h; subst h; rw [← hc]; exact .home
    · cases hj
  · have := four0.no_set hn (four0_get n)
    have : four0.no = 4 := rfl
    omega

theorem RoundInv.pass {l : List Cert} {c now : Int} {e : Four} {r : Nat} (h : RoundInv l c now e r) : PassInv l c now e e 0 :=
  ⟨h.sound, h.home, fun i _ hk => absurd hk (by omega), fun _ h => h, .inl rfl, fun _ => rfl⟩

theorem PassInv.skip {l : List Cert} {c now : Int} {e0 e : Four} {k : Nat} (h : PassInv l c now e0 e k) (hk : k < l.length) (hn : ¬ (live c now l[k] ∧ e.get l[k].by_.toNat = true)) : PassInv l c now e0 e (k + 1) :=
  ⟨h.sound, h.home, fun i hi hik hl hb => by
    by_cases hik' : i = k
    · subst hik'; exact absurd ⟨hl, h.more _ hb⟩ hn
    · exact h.edge i hi (by omega) hl hb, h.more, h.same, h.still⟩

theorem PassInv.take {l : List Cert} {c now : Int} {e0 e : Four} {k n m : Nat} (h : PassInv l c now e0 e k) (hk : k < l.length) (hl : live c now l[k]) (hb : e.get m = true) (hm : l[k].by_ = m) (hn : l[k].host = n) (hn4 : n < 4) : PassInv l c now e0 (e.set n) (k + 1) := by
  have hg : ∀ j, e.get j = true → (e.set n).get j = true := fun j hj => by rw [Four.get_set e hn4]; split <;> simp_all
  refine ⟨fun j hj => ?_, hg _ h.home, fun i hi hik hl' hb' => ?_, fun j hj => hg j (h.more j hj), ?_, fun hc => ?_⟩
  · rw [Four.get_set e hn4] at hj
    by_cases hjn : j = n
    · subst hjn
      rw [← hn]
      exact .step l[k] (List.getElem_mem hk) hl.1 hl.2 (by rw [hm]; exact h.sound m hb)
    · rw [if_neg hjn] at hj; exact h.sound j hj
  · by_cases hik' : i = k
    · subst hik'; rw [hn, Four.get_set e hn4]; simp
    · exact hg _ (h.edge i hi (by omega) hl' hb')
  · cases hgn : e.get n
    · have := e.no_set hn4 hgn
      rcases h.same with rfl | hs
      · exact .inr (by omega)
      · exact .inr (by omega)
    · rw [Four.set_same e hn4 hgn]; exact h.same
  · have he := h.still hc
    subst he
    exact Four.set_same e hn4 (by have := hc l[k] (List.getElem_mem hk) hl (by rw [hm]; simpa using hb); rw [hn] at this; simpa using this)

theorem PassInv.round {l : List Cert} {c now : Int} {e0 e : Four} {k r : Nat} (h : PassInv l c now e0 e k) (hk : l.length ≤ k) (hr : RoundInv l c now e0 r) : RoundInv l c now e (r + 1) := by
  refine ⟨h.sound, h.home, ?_⟩
  rcases hr.left with hc | hc
  · rw [h.still hc]; exact .inl hc
  · rcases h.same with he | he
    · refine .inl fun x hx hl hb => ?_
      obtain ⟨i, hi, rfl⟩ := List.mem_iff_getElem.1 hx
      exact h.edge i hi (by omega) hl (by rw [← he]; exact hb)
    · exact .inr (by omega)

theorem RoundInv.done {l : List Cert} {c now : Int} {e : Four} (hc : catOk c = true) (hg : goodCerts l = true) (h : RoundInv l c now e 4) (n : Nat) : e.get n = trustB l c now n := by
  have hcl : Closed l c now e := by rcases h.left with h | h; exact h; omega
  have key : ∀ y : Int, Reach l c now y → e.get y.toNat = true := by
    intro y hr
    induction hr with
    | home => exact h.home
    | step x hx h1 h2 _ ih => exact hcl x hx ⟨h1, h2⟩ ih
  cases hb : trustB l c now n
  · cases he : e.get n
    · rfl
    · exact absurd (trustB_iff.2 ⟨hc, hg, h.sound n he⟩) (by rw [hb]; simp)
  · have := key n (trustB_iff.1 hb).2.2
    simpa using this

end Go.Proofs.Ytbngblmdcggfdaa

/- A cert as a map's key. -/
namespace Go.Proofs.Ytbngblmdcggfdaa
open Go.RowKit
open Go.Maps (Keyed)

def certLit (x : Cert) : Lit := .string (keyBytes [.int .i64 x.c, .int .i64 x.by_, .int .i64 x.host, .int .i64 x.till])

theorem wf_i64 {n : Int} (h : fitI n) : (Lit.int .i64 n).wf = true := by
  unfold fitI at h
  simp only [Lit.wf, decide_eq_true_eq, Bool.and_eq_true]
  exact h

theorem cert_keyed : Keyed Try.prog 43 :=
  Keyed.of_law (deep_law_laid (by kernel_rfl) (m := 2) (by decide) (of_decide_eq_true (by kernel_rfl)) (by kernel_rfl) (by kernel_rfl))

theorem cert_key (x : Cert) (hx : x.fit) : keyOf Try.prog 43 (.agg #[.int .i64 x.c, .int .i64 x.by_, .int .i64 x.host, .int .i64 x.till]) = some (certLit x) := by
  obtain ⟨h1, h2, h3, h4⟩ := hx
  have w1 := wf_i64 h1; have w2 := wf_i64 h2; have w3 := wf_i64 h3; have w4 := wf_i64 h4
  have hU := Try.underlying43
  have hI := Try.underlying3
  have hkt : Try.prog.keyType 43 = true := by kernel_rfl
  have hc1 : Try.prog.cellsOf 3 = 1 := by kernel_rfl
  have hc4 : Try.prog.cellsOf 43 = 4 := by kernel_rfl
  have hsz : 2 ≤ Try.prog.types.size := of_decide_eq_true (by kernel_rfl)
  obtain ⟨m, hm⟩ := Nat.exists_eq_add_of_le hsz
  unfold keyOf
  simp only [hU]
  rw [if_pos (by simp [hkt, Value.formed, hU, hc4]), hm, show 2 + m + 1 = (m + 1 + 1) + 1 by omega]
  unfold Program.keyLits
  simp only [hU, Value.cells]
  rw [if_pos (by rw [hc4]; simp)]
  simp [List.mapM_cons, Program.keyLits, hI, hc1, w1, w2, w3, w4, certLit]

theorem certLit_inj {x y : Cert} (hx : x.fit) (hy : y.fit) (h : certLit x = certLit y) : x = y := by
  have := cert_keyed.inj (cert_key x hx) (h ▸ cert_key y hy)
  simp only [Value.agg.injEq, Array.mk.injEq, List.cons.injEq, Value.int.injEq, true_and, and_true] at this
  obtain ⟨a, b, c, d⟩ := x
  obtain ⟨a', b', c', d'⟩ := y
  simp at this
  simp [this]

end Go.Proofs.Ytbngblmdcggfdaa

/- The walks through parcloseref.IsCategory and four. -/
namespace Go.Proofs.Ytbngblmdcggfdaa
open Go.RowKit

theorem ref_IsCategory (c : Int) (w : World) : Calls Try.prog 21 #[.int .i64 c] w fun e w' => e = .returned (.bool (catOk c)) ∧ w = w' := by
  by_cases h1 : 0 ≤ c <;> by_cases h2 : c ≤ 79
  all_goals
    go_enter Try.func21, Try.ntmps21
    go_wp2
    go_ret
    exact ⟨ret_bool (by rw [Bool.eq_iff_iff, catOk_iff]; simp; omega), rfl⟩

theorem ref_four (h : Int) (w : World) : Calls Try.prog 24 #[.int .i64 h] w fun e w' => e = .returned (.bool (four h)) ∧ w = w' := by
  by_cases h1 : 0 ≤ h <;> by_cases h2 : h < 4
  all_goals
    go_enter Try.func24, Try.ntmps24
    go_wp2
    go_ret
    exact ⟨ret_bool (by simp [four, h1, h2]), rfl⟩

end Go.Proofs.Ytbngblmdcggfdaa

/- The document's own trust: the walks through parcloseref.GoodCert, GoodCerts, AddCert. (printed by gen_trustref.py) -/
namespace Go.Proofs.Ytbngblmdcggfdaa
open Go.RowKit
open Go.Maps (Keyed)

set_option maxHeartbeats 1600000 in
theorem ref_GoodCert (c : Cert) (w : World) : Calls Try.prog 29 #[.agg #[.int .i64 c.c, .int .i64 c.by_, .int .i64 c.host, .int .i64 c.till]] w fun e w' => e = .returned (.bool (goodCertB c)) ∧ Below w.heap.size w w' := by
  rcases chain6 (catOk c.c) (four c.by_) (four c.host) ((c.by_ != c.host)) (decide (0 ≤ c.till)) (decide (c.till ≤ 1099511627776)) with h1 | ⟨h1, h2⟩ | ⟨h1, h2, h3⟩ | ⟨h1, h2, h3, h4⟩ | ⟨h1, h2, h3, h4, h5⟩ | ⟨h1, h2, h3, h4, h5, h6⟩ | ⟨h1, h2, h3, h4, h5, h6⟩
  · have HE := Lib.hid (show goodCertB c = false by simp [goodCertB, h1])
    have H1 := Lib.hid h1; clear h1
    have st := St.start w
    go_enter Try.func29, Try.ntmps29
    go_wp2_with (first | go_skip | (refine mem_box st (wanted_none rfl) 43 _ rfl _ rfl _ rfl ?_; clear st; intro g1 w1 hg1 st hg1b; clear hg1b; simp [Act.eval, Act.put, Value.cells, putL] at st) | ((first | refine mem_load' st 3 _ rfl (wanted_none rfl) Try.isAgg3 ?_ | (refine mem_load' st 3 _ rfl (wanted_some rfl ?_) Try.isAgg3 ?_; focus (simp [yielded, Act.put]; done))); refine ⟨0, _, _, _, _, _, rfl, rfl, rfl, ?_⟩) | (go_at_call 21; refine (ref_IsCategory _ _).mono ?_; rintro e v ⟨rfl, rfl⟩; first | rw [H1.out]))
    go_ret
    exact ⟨by rw [HE.out]; rfl, st.below⟩
  · have HE := Lib.hid (show goodCertB c = false by simp [goodCertB, h1, h2])
    have H1 := Lib.hid h1; clear h1
    have H2 := Lib.hid h2; clear h2
    have st := St.start w
    go_enter Try.func29, Try.ntmps29
    go_wp2_with (first | go_skip | (refine mem_box st (wanted_none rfl) 43 _ rfl _ rfl _ rfl ?_; clear st; intro g1 w1 hg1 st hg1b; clear hg1b; simp [Act.eval, Act.put, Value.cells, putL] at st) | ((first | refine mem_load' st 3 _ rfl (wanted_none rfl) Try.isAgg3 ?_ | (refine mem_load' st 3 _ rfl (wanted_some rfl ?_) Try.isAgg3 ?_; focus (simp [yielded, Act.put]; done))); refine ⟨0, _, _, _, _, _, rfl, rfl, rfl, ?_⟩) | (go_at_call 21; refine (ref_IsCategory _ _).mono ?_; rintro e v ⟨rfl, rfl⟩; first | rw [H1.out]) | (go_at_call 24; refine (ref_four _ _).mono ?_; rintro e v ⟨rfl, rfl⟩; first | rw [H2.out]))
    go_ret
    exact ⟨by rw [HE.out]; rfl, st.below⟩
  · have HE := Lib.hid (show goodCertB c = false by simp [goodCertB, h1, h2, h3])
    have H1 := Lib.hid h1; clear h1
    have H2 := Lib.hid h2; clear h2
    have H3 := Lib.hid h3; clear h3
    have st := St.start w
    go_enter Try.func29, Try.ntmps29
    go_wp2_with (first | go_skip | (refine mem_box st (wanted_none rfl) 43 _ rfl _ rfl _ rfl ?_; clear st; intro g1 w1 hg1 st hg1b; clear hg1b; simp [Act.eval, Act.put, Value.cells, putL] at st) | ((first | refine mem_load' st 3 _ rfl (wanted_none rfl) Try.isAgg3 ?_ | (refine mem_load' st 3 _ rfl (wanted_some rfl ?_) Try.isAgg3 ?_; focus (simp [yielded, Act.put]; done))); refine ⟨0, _, _, _, _, _, rfl, rfl, rfl, ?_⟩) | (go_at_call 21; refine (ref_IsCategory _ _).mono ?_; rintro e v ⟨rfl, rfl⟩; first | rw [H1.out]) | (go_at_call 24; refine (ref_four _ _).mono ?_; rintro e v ⟨rfl, rfl⟩; first | rw [H2.out] | rw [H3.out]))
    go_ret
    exact ⟨by rw [HE.out]; rfl, st.below⟩
  · have HE := Lib.hid (show goodCertB c = false by simp [goodCertB, h1, h2, h3, h4])
    have H1 := Lib.hid h1; clear h1
    have H2 := Lib.hid h2; clear h2
    have H3 := Lib.hid h3; clear h3
    have st := St.start w
    go_enter Try.func29, Try.ntmps29
    go_wp2_with (first | go_skip | (refine mem_box st (wanted_none rfl) 43 _ rfl _ rfl _ rfl ?_; clear st; intro g1 w1 hg1 st hg1b; clear hg1b; simp [Act.eval, Act.put, Value.cells, putL] at st) | ((first | refine mem_load' st 3 _ rfl (wanted_none rfl) Try.isAgg3 ?_ | (refine mem_load' st 3 _ rfl (wanted_some rfl ?_) Try.isAgg3 ?_; focus (simp [yielded, Act.put]; done))); refine ⟨0, _, _, _, _, _, rfl, rfl, rfl, ?_⟩) | (go_at_call 21; refine (ref_IsCategory _ _).mono ?_; rintro e v ⟨rfl, rfl⟩; first | rw [H1.out]) | (go_at_call 24; refine (ref_four _ _).mono ?_; rintro e v ⟨rfl, rfl⟩; first | rw [H2.out] | rw [H3.out]))
    go_ret
    exact ⟨by rw [HE.out]; rfl, st.below⟩
  · have HE := Lib.hid (show goodCertB c = false by simp [goodCertB, h1, h2, h3, h4, h5])
    have H1 := Lib.hid h1; clear h1
    have H2 := Lib.hid h2; clear h2
    have H3 := Lib.hid h3; clear h3
    have st := St.start w
    go_enter Try.func29, Try.ntmps29
    go_wp2_with (first | go_skip | (refine mem_box st (wanted_none rfl) 43 _ rfl _ rfl _ rfl ?_; clear st; intro g1 w1 hg1 st hg1b; clear hg1b; simp [Act.eval, Act.put, Value.cells, putL] at st) | ((first | refine mem_load' st 3 _ rfl (wanted_none rfl) Try.isAgg3 ?_ | (refine mem_load' st 3 _ rfl (wanted_some rfl ?_) Try.isAgg3 ?_; focus (simp [yielded, Act.put]; done))); refine ⟨0, _, _, _, _, _, rfl, rfl, rfl, ?_⟩) | (go_at_call 21; refine (ref_IsCategory _ _).mono ?_; rintro e v ⟨rfl, rfl⟩; first | rw [H1.out]) | (go_at_call 24; refine (ref_four _ _).mono ?_; rintro e v ⟨rfl, rfl⟩; first | rw [H2.out] | rw [H3.out]))
    go_ret
    exact ⟨by rw [HE.out]; rfl, st.below⟩
  · have HE := Lib.hid (show goodCertB c = false by simp [goodCertB, h1, h2, h3, h4, h5, h6])
    have H1 := Lib.hid h1; clear h1
    have H2 := Lib.hid h2; clear h2
    have H3 := Lib.hid h3; clear h3
    have st := St.start w
    go_enter Try.func29, Try.ntmps29
    go_wp2_with (first | go_skip | (refine mem_box st (wanted_none rfl) 43 _ rfl _ rfl _ rfl ?_; clear st; intro g1 w1 hg1 st hg1b; clear hg1b; simp [Act.eval, Act.put, Value.cells, putL] at st) | ((first | refine mem_load' st 3 _ rfl (wanted_none rfl) Try.isAgg3 ?_ | (refine mem_load' st 3 _ rfl (wanted_some rfl ?_) Try.isAgg3 ?_; focus (simp [yielded, Act.put]; done))); refine ⟨0, _, _, _, _, _, rfl, rfl, rfl, ?_⟩) | (go_at_call 21; refine (ref_IsCategory _ _).mono ?_; rintro e v ⟨rfl, rfl⟩; first | rw [H1.out]) | (go_at_call 24; refine (ref_four _ _).mono ?_; rintro e v ⟨rfl, rfl⟩; first | rw [H2.out] | rw [H3.out]))
    go_ret
    exact ⟨by rw [HE.out]; rfl, st.below⟩
  · have HE := Lib.hid (show goodCertB c = true by simp [goodCertB, h1, h2, h3, h4, h5, h6])
    have H1 := Lib.hid h1; clear h1
    have H2 := Lib.hid h2; clear h2
    have H3 := Lib.hid h3; clear h3
    have st := St.start w
    go_enter Try.func29, Try.ntmps29
    go_wp2_with (first | go_skip | (refine mem_box st (wanted_none rfl) 43 _ rfl _ rfl _ rfl ?_; clear st; intro g1 w1 hg1 st hg1b; clear hg1b; simp [Act.eval, Act.put, Value.cells, putL] at st) | ((first | refine mem_load' st 3 _ rfl (wanted_none rfl) Try.isAgg3 ?_ | (refine mem_load' st 3 _ rfl (wanted_some rfl ?_) Try.isAgg3 ?_; focus (simp [yielded, Act.put]; done))); refine ⟨0, _, _, _, _, _, rfl, rfl, rfl, ?_⟩) | (go_at_call 21; refine (ref_IsCategory _ _).mono ?_; rintro e v ⟨rfl, rfl⟩; first | rw [H1.out]) | (go_at_call 24; refine (ref_four _ _).mono ?_; rintro e v ⟨rfl, rfl⟩; first | rw [H2.out] | rw [H3.out]))
    go_ret
    exact ⟨by rw [HE.out]; rfl, st.below⟩

set_option maxRecDepth 100000 in
set_option maxHeartbeats 3000000 in
theorem ref_GoodCerts (ok : Nat → Prop) (w : World) (a : Option Addr) (c : Nat) (l : List Cert) (hfit : ∀ x ∈ l, x.fit) (hR : SlR ok w 4 RCert a c l) :
    Calls Try.prog 22 #[.slice a l.length c] w fun e w' => e = .returned (.bool (goodCerts l)) ∧ Below w.heap.size w w' := by
  have hl : l.length ≤ 9223372036854775807 := by have h1 := hR.1; have h2 := hR.2.1; unfold maxLen at h2; omega
  have HF := Lib.hid hfit
  clear hfit
  go_enter Try.func22, Try.ntmps22
  go_wp2_with (first | go_skip | (refine wpList_makeMap 43 4 (wanted_none rfl) _ rfl ?_; intro bm w1 hbm hM hb1))
  have hlm := hM.lt
  go_loopw [9] (fun i wr => ∃ (k : Nat) (f : Lit → Bool), k ≤ l.length ∧ i = .int .i64 k ∧ Below w.heap.size w wr ∧ MapB Try.prog 43 4 wr bm k f ∧ Hid ((∀ x : Cert, x.fit → f (certLit x) = inL (l.take k) x) ∧ certsOk [] l = certsOk (l.take k) (l.drop k))) (fun i _ => l.length - (intOf i).toNat)
  case atStart => exact ⟨0, _, Nat.zero_le _, rfl, hb1, hM, ⟨fun _ _ => rfl, rfl⟩⟩
  case round =>
    clear hM hlm
    obtain ⟨k, f, hk, rfl, hB, hM, hN⟩ := hrel
    by_cases hlt : k < l.length
    · obtain ⟨b, o, rfl, hb, _⟩ := hR.cert_at k hlt
      have hrow := ((hR.below hB).cert_row k hlt)
      have hkey := cert_key l[k] (HF.out _ (List.getElem_mem hlt))
      have hfk := hN.out.1 l[k] (HF.out _ (List.getElem_mem hlt))
      have HS := Lib.hid (certsOk_at hlt)
      have hkm : k < maxLen := by unfold maxLen; omega
      have st := St.start wr
      cases hi : inL (l.take k) l[k]
      · rw [hi] at hfk
        cases hg : goodCertB l[k]
        · have HG := Lib.hid hg
          have HE := Lib.hid (show goodCerts l = false by unfold goodCerts; rw [hN.out.2, HS.out, hg]; rfl)
          clear hg hi
          go_wp2_with (first
            | go_skip | (refine wpList_load_cells (wanted_none rfl) 43 _ rfl Try.isAgg43 _ Try.sizeOf43 b (o + k * 4) rfl [.int .i64 l[k].c, .int .i64 l[k].by_, .int .i64 l[k].host, .int .i64 l[k].till] rfl hrow ?_) | (refine mem_alloc st (wanted_none rfl) 43 rfl _ Try.zeroValue43 _ rfl ?_; clear st; intro g1 w1 hg1 st hg1b; clear hg1b; simp [Act.eval, Act.put, Value.cells, putL] at st) | ((first | refine mem_store' st 43 _ _ rfl (wanted_none rfl) _ Try.sizeOf43 ?_ | (refine mem_store' st 43 _ _ rfl (wanted_some rfl ?_) _ Try.sizeOf43 ?_; focus (simp [yielded, Act.put]; done))); refine ⟨0, _, _, _, _, _, rfl, rfl, rfl, rfl, rfl, rfl, ?_⟩; clear st; intro w2 st hw2m hw2z; simp [Act.eval, Act.put, Value.cells, putL] at st) | ((first | refine mem_load_agg' st 43 _ rfl (wanted_none rfl) Try.isAgg43 _ Try.sizeOf43 ?_ | (refine mem_load_agg' st 43 _ rfl (wanted_some rfl ?_) Try.isAgg43 _ Try.sizeOf43 ?_; focus (simp [yielded, Act.put]; done))); refine ⟨0, _, _, _, _, _, rfl, rfl, rfl, rfl, ?_⟩)
            | (at_lookup; go_must (refine wpList_mapLookup (hM.below st.below) cert_keyed (wanted_none rfl) _ _ 50 rfl Try.underlying50 Try.underlying4 Try.zeroValue4 rfl hkey ?_; rw [hfk]))
            | (go_at_call 29; go_must (refine (ref_GoodCert l[k] _).mono ?_; rintro e v3 ⟨rfl, hb3⟩; rw [HG.out]; replace st := st.call hb3; clear hb3)))
          go_ret
          exact ⟨ret_bool HE.out.symm, hB.keep st.below⟩
        · have HG := Lib.hid hg
          have HE := Lib.hid (show certsOk [] l = certsOk (l.take (k + 1)) (l.drop (k + 1)) by rw [hN.out.2, HS.out, hg, hi]; rfl)
          have hself := WideAt.sameKey_self (cert_keyed.key hkey)
          clear hg hi
          have tk1 := trivial
          go_wp2_with (first
            | go_skip | (refine wpList_load_cells (wanted_none rfl) 43 _ rfl Try.isAgg43 _ Try.sizeOf43 b (o + k * 4) rfl [.int .i64 l[k].c, .int .i64 l[k].by_, .int .i64 l[k].host, .int .i64 l[k].till] rfl hrow ?_) | (refine mem_alloc st (wanted_none rfl) 43 rfl _ Try.zeroValue43 _ rfl ?_; clear st; intro g1 w1 hg1 st hg1b; clear hg1b; simp [Act.eval, Act.put, Value.cells, putL] at st) | ((first | refine mem_store' st 43 _ _ rfl (wanted_none rfl) _ Try.sizeOf43 ?_ | (refine mem_store' st 43 _ _ rfl (wanted_some rfl ?_) _ Try.sizeOf43 ?_; focus (simp [yielded, Act.put]; done))); refine ⟨0, _, _, _, _, _, rfl, rfl, rfl, rfl, rfl, rfl, ?_⟩; clear st; intro w2 st hw2m hw2z; simp [Act.eval, Act.put, Value.cells, putL] at st) | ((first | refine mem_load_agg' st 43 _ rfl (wanted_none rfl) Try.isAgg43 _ Try.sizeOf43 ?_ | (refine mem_load_agg' st 43 _ rfl (wanted_some rfl ?_) Try.isAgg43 _ Try.sizeOf43 ?_; focus (simp [yielded, Act.put]; done))); refine ⟨0, _, _, _, _, _, rfl, rfl, rfl, rfl, ?_⟩)
            | (at_lookup; go_must (refine wpList_mapLookup (hM.below st.below) cert_keyed (wanted_none rfl) _ _ 50 rfl Try.underlying50 Try.underlying4 Try.zeroValue4 rfl hkey ?_; rw [hfk]))
            | (go_at_call 29; go_must (refine (ref_GoodCert l[k] _).mono ?_; rintro e v3 ⟨rfl, hb3⟩; rw [HG.out]; replace st := st.call hb3; clear hb3))
            | (at_mapUpdate; go_must (refine wpList_mapUpdate (hM.below st.below) cert_keyed (wanted_none rfl) _ _ _ 50 rfl Try.underlying50 Try.underlying4 hkm rfl hkey true rfl ?_; intro w4 hM4 hg4)))
          go_roundw
          case rel =>
            refine ⟨k + 1, _, hlt, by go_num, ?_, hM4, ⟨fun x hx => ?_, HE.out⟩⟩
            · exact (hB.keep st.below).grown hg4 (Nat.le_trans hB.size st.size) fun q hq => by simp at hq; omega
            · have htk : inL (l.take (k + 1)) x = (decide (x = l[k]) || inL (l.take k) x) := by
                rw [Bool.eq_iff_iff, Bool.or_eq_true, decide_eq_true_eq, inL_iff, inL_iff, List.take_succ_eq_append_getElem hlt, List.mem_append, List.mem_singleton, or_comm]
              rw [htk]
              by_cases hxe : x = l[k]
              · subst hxe
                rw [if_pos hself]
                simp
              · have hne : (certLit x).sameKey (certLit l[k]) = false := Maps.sameKey_ne fun he => hxe (certLit_inj hx (HF.out _ (List.getElem_mem hlt)) he)
                rw [if_neg (by rw [hne]; simp), hN.out.1 x hx]
                simp [hxe]
          case measure => simp [intOf]; omega
      · rw [hi] at hfk
        have HE := Lib.hid (show goodCerts l = false by unfold goodCerts; rw [hN.out.2, HS.out, hi]; simp)
        clear hi
        go_wp2_with (first
          | go_skip | (refine wpList_load_cells (wanted_none rfl) 43 _ rfl Try.isAgg43 _ Try.sizeOf43 b (o + k * 4) rfl [.int .i64 l[k].c, .int .i64 l[k].by_, .int .i64 l[k].host, .int .i64 l[k].till] rfl hrow ?_) | (refine mem_alloc st (wanted_none rfl) 43 rfl _ Try.zeroValue43 _ rfl ?_; clear st; intro g1 w1 hg1 st hg1b; clear hg1b; simp [Act.eval, Act.put, Value.cells, putL] at st) | ((first | refine mem_store' st 43 _ _ rfl (wanted_none rfl) _ Try.sizeOf43 ?_ | (refine mem_store' st 43 _ _ rfl (wanted_some rfl ?_) _ Try.sizeOf43 ?_; focus (simp [yielded, Act.put]; done))); refine ⟨0, _, _, _, _, _, rfl, rfl, rfl, rfl, rfl, rfl, ?_⟩; clear st; intro w2 st hw2m hw2z; simp [Act.eval, Act.put, Value.cells, putL] at st) | ((first | refine mem_load_agg' st 43 _ rfl (wanted_none rfl) Try.isAgg43 _ Try.sizeOf43 ?_ | (refine mem_load_agg' st 43 _ rfl (wanted_some rfl ?_) Try.isAgg43 _ Try.sizeOf43 ?_; focus (simp [yielded, Act.put]; done))); refine ⟨0, _, _, _, _, _, rfl, rfl, rfl, rfl, ?_⟩)
          | (at_lookup; go_must (refine wpList_mapLookup (hM.below st.below) cert_keyed (wanted_none rfl) _ _ 50 rfl Try.underlying50 Try.underlying4 Try.zeroValue4 rfl hkey ?_; rw [hfk])))
        go_ret
        exact ⟨ret_bool HE.out.symm, hB.keep st.below⟩
    · go_wp2
      go_ret
      have e : certsOk [] l = true := by rw [hN.out.2, List.drop_of_length_le (by omega)]; simp [certsOk]
      exact ⟨ret_bool (by unfold goodCerts; rw [e]; simp; omega), hB⟩

end Go.Proofs.Ytbngblmdcggfdaa

/- The walk through parcloseref.Trusted. -/
namespace Go.Proofs.Ytbngblmdcggfdaa
open Go.RowKit

theorem fourV {l : List Cert} {c now : Int} {e : Four} (h : ∀ n : Nat, e.get n = trustB l c now n) : trustV l c now = .agg #[.bool e.b0, .bool e.b1, .bool e.b2, .bool e.b3] := by
  have h0 := h 0; have h1 := h 1; have h2 := h 2; have h3 := h 3
  simp [Four.get] at h0 h1 h2 h3
  simp [trustV, h0, h1, h2, h3]

set_option maxRecDepth 100000 in
set_option maxHeartbeats 3000000 in
theorem ref_Trusted (ok : Nat → Prop) (w : World) (a : Option Addr) (kc : Nat) (l : List Cert) (c now : Int) (hfit : ∀ x ∈ l, x.fit) (hR : SlR ok w 4 RCert a kc l) :
    Calls Try.prog 8 #[.slice a l.length kc, .int .i64 c, .int .i64 now] w fun e w' => e = .returned (trustV l c now) ∧ Below w.heap.size w w' := by
  have HG := Lib.hid (fun (W : World) (h : Below w.heap.size w W) => ref_GoodCerts ok W a kc l hfit (hR.below h))
  have st := St.start w
  cases h1 : catOk c
  · have H1 := Lib.hid h1
    have HV := Lib.hid (trustV_no (l := l) (now := now) (.inl h1))
    clear h1 hfit
    go_enter Try.func8, Try.ntmps8
    go_wp2_with (first | go_skip | (refine mem_alloc st (wanted_none rfl) 28 rfl _ Try.zeroValue28 _ rfl ?_; clear st; intro g1 w1 hg1 st hg1b; clear hg1b; simp [Act.eval, Act.put, Value.cells, putL] at st) | (go_at_call 21; go_must (refine (ref_IsCategory c _).mono ?_; rintro e v1 ⟨rfl, rfl⟩; rw [H1.out])) | ((first | refine mem_load_agg' st 28 _ rfl (wanted_none rfl) Try.isAgg28 _ Try.sizeOf28 ?_ | (refine mem_load_agg' st 28 _ rfl (wanted_some rfl ?_) Try.isAgg28 _ Try.sizeOf28 ?_; focus (simp [yielded, Act.put]; done))); refine ⟨1, _, _, _, _, _, rfl, rfl, rfl, rfl, ?_⟩) | ((first | refine mem_store' st 28 _ _ rfl (wanted_none rfl) _ Try.sizeOf28 ?_ | (refine mem_store' st 28 _ _ rfl (wanted_some rfl ?_) _ Try.sizeOf28 ?_; focus (simp [yielded, Act.put]; done))); refine ⟨0, _, _, _, _, _, rfl, rfl, rfl, rfl, rfl, rfl, ?_⟩; clear st; intro w3 st hw3m hw3z; simp [Act.eval, Act.put, Value.cells, putL] at st))
    have hc := fun j => st.cell (i := 0) rfl j
    rw [HV.out]
    refine bodyPost_ret (v := .agg #[.bool false, .bool false, .bool false, .bool false]) (by simp [results, Try.results8, go_sem, hc]) rfl ⟨rfl, st.below⟩
  · have H1 := Lib.hid h1
    cases h2 : goodCerts l
    · have H2 := Lib.hid h2
      have HV := Lib.hid (trustV_no (c := c) (now := now) (.inr h2))
      clear h1 h2 hfit
      go_enter Try.func8, Try.ntmps8
      go_wp2_with (first | go_skip | (refine mem_alloc st (wanted_none rfl) 28 rfl _ Try.zeroValue28 _ rfl ?_; clear st; intro g1 w1 hg1 st hg1b; clear hg1b; simp [Act.eval, Act.put, Value.cells, putL] at st) | (go_at_call 21; go_must (refine (ref_IsCategory c _).mono ?_; rintro e v1 ⟨rfl, rfl⟩; rw [H1.out])) | (go_at_call 22; go_must (refine (HG.out _ st.below).mono ?_; rintro e v2 ⟨rfl, hb2⟩; rw [H2.out]; replace st := st.call hb2; clear hb2)) | ((first | refine mem_load_agg' st 28 _ rfl (wanted_none rfl) Try.isAgg28 _ Try.sizeOf28 ?_ | (refine mem_load_agg' st 28 _ rfl (wanted_some rfl ?_) Try.isAgg28 _ Try.sizeOf28 ?_; focus (simp [yielded, Act.put]; done))); refine ⟨1, _, _, _, _, _, rfl, rfl, rfl, rfl, ?_⟩) | ((first | refine mem_store' st 28 _ _ rfl (wanted_none rfl) _ Try.sizeOf28 ?_ | (refine mem_store' st 28 _ _ rfl (wanted_some rfl ?_) _ Try.sizeOf28 ?_; focus (simp [yielded, Act.put]; done))); refine ⟨0, _, _, _, _, _, rfl, rfl, rfl, rfl, rfl, rfl, ?_⟩; clear st; intro w3 st hw3m hw3z; simp [Act.eval, Act.put, Value.cells, putL] at st))
      have hc := fun j => st.cell (i := 0) rfl j
      rw [HV.out]
      refine bodyPost_ret (v := .agg #[.bool false, .bool false, .bool false, .bool false]) (by simp [results, Try.results8, go_sem, hc]) rfl ⟨rfl, st.below⟩
    · have H2 := Lib.hid h2
      have hc0 := home_range h1
      have hc1 := (catOk_iff c).1 h1
      have hgl := Lib.hid (((goodCerts_iff l).1 h2).1)
      have hlen : l.length ≤ 24 := ((goodCerts_iff l).1 h2).2.2
      obtain ⟨n, hn⟩ := Int.eq_ofNat_of_zero_le hc0.1
      have hn4 : n < 4 := by omega
      have HS := Lib.hid (RoundInv.start (l := l) (now := now) hn4 hn)
      have hw : wrap64 (c.tdiv 20) = (n : Int) := by
        rw [Int.tdiv_eq_ediv_of_nonneg hc1.1, hn]
        unfold wrap64; omega
      have hv : (fourL four0)[n]? = some (.bool false) := by rw [fourL_get four0 hn4, four0_get]
      have HP := Lib.hid (fourL_put four0 hn4)
      have hble : Nat.ble (n + 1) 4 = true := Nat.ble_eq_true_of_le (by omega)
      have hn' : (n : Int) < 4 := by omega
      clear h1 h2 hc0 hfit
      have hc2 : 0 ≤ c := hc1.1
      have hc3 : c < 80 := hc1.2
      clear hc1
      go_enter Try.func8, Try.ntmps8
      go_wp2_with (first
        | go_skip | (refine mem_alloc st (wanted_none rfl) 28 rfl _ Try.zeroValue28 _ rfl ?_; clear st; intro g1 w1 hg1 st hg1b; clear hg1b; simp [Act.eval, Act.put, Value.cells, putL] at st) | (go_at_call 21; go_must (refine (ref_IsCategory c _).mono ?_; rintro e v1 ⟨rfl, rfl⟩; rw [H1.out])) | (go_at_call 22; go_must (refine (HG.out _ st.below).mono ?_; rintro e v2 ⟨rfl, hb2⟩; rw [H2.out]; replace st := st.call hb2; clear hb2))
        | (refine mem_store' st 4 _ _ rfl (wanted_none rfl) _ Try.sizeOf4 ?_; refine ⟨1, _, _, _, _, _, rfl, rfl, rfl, rfl, rfl, hble, ?_⟩; clear st; intro w3 st hw3m hw3z; simp [Act.eval, Value.cells] at st; clear hw3m hw3z))
      rw [show putL [Value.bool false, Value.bool false, Value.bool false, Value.bool false] n [Value.bool true] = fourL (four0.set n) from HP.out] at st
      clear hv HP hble hw hn
      rename_i g0 w0x hg0 K0 hK0
      have l0 := st.ltAt (i := 0) rfl
      clear hg0 hg1
      go_loopw [22] (fun i wr => ∃ (r : Nat) (e : Four), r ≤ 4 ∧ i = .int .i64 r ∧ St [] w wr [(g0, 28, [.bool false, .bool false, .bool false, .bool false]), (g1, 28, fourL e)] ∧ Hid (RoundInv l c now e r)) (fun i _ => 4 - (intOf i).toNat)
      case atStart => exact ⟨0, _, by omega, rfl, st, HS⟩
      case round =>
        clear st HS
        obtain ⟨r, e, hr, rfl, st, hI⟩ := hrel
        by_cases hr4 : r < 4
        · have hr4' : (r : Int) < 4 := by omega
          have HPS := Lib.hid hI.out.pass
          go_wp2
          go_loopw [26] (fun i wj => ∃ (j : Nat) (e' : Four), j ≤ l.length ∧ i = .int .i64 j ∧ St [] w wj [(g0, 28, [.bool false, .bool false, .bool false, .bool false]), (g1, 28, fourL e')] ∧ Hid (PassInv l c now e e' j)) (fun i _ => l.length - (intOf i).toNat)
          case atStart => exact ⟨0, e, Nat.zero_le _, rfl, st, HPS⟩
          case round =>
            clear st HPS
            obtain ⟨j, e', hj, rfl, st, hP⟩ := hrel
            by_cases hjl : j < l.length
            · obtain ⟨b2, o2, rfl, hb2, _⟩ := hR.cert_at j hjl
              have hrow := (hR.below st.below).cert_row j hjl
              have hrg := goodCert_range (hgl.out l[j] (List.getElem_mem hjl))
              obtain ⟨p, hp⟩ := Int.eq_ofNat_of_zero_le hrg.1.1
              obtain ⟨q, hq⟩ := Int.eq_ofNat_of_zero_le hrg.2.1
              have hp4 : p < 4 := by omega
              have hq4 : q < 4 := by omega
              have hp4' : (p : Int) < 4 := by omega
              have hq4' : (q : Int) < 4 := by omega
              have HSK := Lib.hid (hP.out.skip hjl)
              have HTK := Lib.hid (fun h1 h2 => hP.out.take hjl h1 h2 hp hq hq4)
              have HL := Lib.hid (show live c now l[j] ↔ l[j].c = c ∧ now ≤ l[j].till from Iff.rfl)
              have HBy := Lib.hid hp
              rw [hp, hq] at hrow
              generalize hx : l[j].c = xc at hrow
              generalize hy : l[j].till = xt at hrow
              rw [hx, hy] at HL
              clear hp hq hrg hx hy
              have stj := st
              replace st := st.rebase
              by_cases e1 : xc = c
              · cases hb : e'.get p
                · have hv : (fourL e')[p]? = some (.bool false) := by rw [fourL_get e' hp4, hb]
                  have HN := Lib.hid (HSK.out fun h => by have h2 := h.2; rw [HBy.out] at h2; simp [hb] at h2)
                  have d1 : (xc == c) = true := by simpa using e1
                  clear e1 hb
                  go_wp2_with (first
                    | go_skip | (refine wpList_load_cells (wanted_none rfl) 43 _ rfl Try.isAgg43 _ Try.sizeOf43 b2 (o2 + j * 4) rfl [.int .i64 xc, .int .i64 p, .int .i64 q, .int .i64 xt] rfl hrow ?_) | (refine mem_alloc st (wanted_none rfl) 43 rfl _ Try.zeroValue43 _ rfl ?_; clear st; intro g5 w5 hg5 st hg5b; clear hg5b; simp [Act.eval, Act.put, Value.cells, putL] at st) | ((first | refine mem_store' st 43 _ _ rfl (wanted_none rfl) _ Try.sizeOf43 ?_ | (refine mem_store' st 43 _ _ rfl (wanted_some rfl ?_) _ Try.sizeOf43 ?_; focus (simp [yielded, Act.put]; done))); refine ⟨2, _, _, _, _, _, rfl, rfl, rfl, rfl, rfl, rfl, ?_⟩; clear st; intro w6 st hw6m hw6z; simp [Act.eval, Act.put, Value.cells, putL] at st) | ((first | refine mem_load' st 3 _ rfl (wanted_none rfl) Try.isAgg3 ?_ | (refine mem_load' st 3 _ rfl (wanted_some rfl ?_) Try.isAgg3 ?_; focus (simp [yielded, Act.put]; done))); refine ⟨2, _, _, _, _, _, rfl, rfl, rfl, ?_⟩)
                    | (refine mem_load' st 4 _ rfl (wanted_some rfl (by simp [yielded, Act.put])) Try.isAgg4 ?_; refine ⟨1, _, _, _, _, _, rfl, rfl, hv, ?_⟩))
                  go_roundw
                  case rel => exact ⟨j + 1, e', hjl, by go_num, St.back stj (st.take 2), HN⟩
                  case measure => simp [intOf]; omega
                · have hv : (fourL e')[p]? = some (.bool true) := by rw [fourL_get e' hp4, hb]
                  by_cases e3 : now ≤ xt
                  · have HN := Lib.hid (HTK.out (HL.out.2 ⟨e1, e3⟩) hb)
                    have d1 : (xc == c) = true := by simpa using e1
                    have d3 : decide (now ≤ xt) = true := by simpa using e3
                    have hv3 : (fourL e')[q]? = some (.bool (e'.get q)) := fourL_get e' hq4
                    have HP := Lib.hid (fourL_put e' hq4)
                    have hble : Nat.ble (q + 1) 4 = true := Nat.ble_eq_true_of_le (by omega)
                    clear e1 hb e3
                    go_wp2_with (first
                      | go_skip | (refine wpList_load_cells (wanted_none rfl) 43 _ rfl Try.isAgg43 _ Try.sizeOf43 b2 (o2 + j * 4) rfl [.int .i64 xc, .int .i64 p, .int .i64 q, .int .i64 xt] rfl hrow ?_) | (refine mem_alloc st (wanted_none rfl) 43 rfl _ Try.zeroValue43 _ rfl ?_; clear st; intro g5 w5 hg5 st hg5b; clear hg5b; simp [Act.eval, Act.put, Value.cells, putL] at st) | ((first | refine mem_store' st 43 _ _ rfl (wanted_none rfl) _ Try.sizeOf43 ?_ | (refine mem_store' st 43 _ _ rfl (wanted_some rfl ?_) _ Try.sizeOf43 ?_; focus (simp [yielded, Act.put]; done))); refine ⟨2, _, _, _, _, _, rfl, rfl, rfl, rfl, rfl, rfl, ?_⟩; clear st; intro w6 st hw6m hw6z; simp [Act.eval, Act.put, Value.cells, putL] at st) | ((first | refine mem_load' st 3 _ rfl (wanted_none rfl) Try.isAgg3 ?_ | (refine mem_load' st 3 _ rfl (wanted_some rfl ?_) Try.isAgg3 ?_; focus (simp [yielded, Act.put]; done))); refine ⟨2, _, _, _, _, _, rfl, rfl, rfl, ?_⟩)
                      | (refine mem_load' st 4 _ rfl (wanted_some rfl (by simp [yielded, Act.put])) Try.isAgg4 ?_; refine ⟨1, _, _, _, _, _, rfl, rfl, hv, ?_⟩)
                      | (refine mem_store' st 4 _ _ rfl (wanted_none rfl) _ Try.sizeOf4 ?_; refine ⟨1, _, _, _, _, _, rfl, rfl, rfl, rfl, rfl, hble, ?_⟩; clear st; intro w7 st hw7m hw7z; simp [Act.eval, Value.cells] at st; rw [HP.out] at st))
                    go_roundw
                    case rel => exact ⟨j + 1, _, hjl, by go_num, St.back stj (st.take 2), HN⟩
                    case measure => simp [intOf]; omega
                  · have HN := Lib.hid (HSK.out fun h => e3 (HL.out.1 h.1).2)
                    have d1 : (xc == c) = true := by simpa using e1
                    have d3 : decide (now ≤ xt) = false := by simpa using e3
                    clear e1 hb e3
                    go_wp2_with (first
                      | go_skip | (refine wpList_load_cells (wanted_none rfl) 43 _ rfl Try.isAgg43 _ Try.sizeOf43 b2 (o2 + j * 4) rfl [.int .i64 xc, .int .i64 p, .int .i64 q, .int .i64 xt] rfl hrow ?_) | (refine mem_alloc st (wanted_none rfl) 43 rfl _ Try.zeroValue43 _ rfl ?_; clear st; intro g5 w5 hg5 st hg5b; clear hg5b; simp [Act.eval, Act.put, Value.cells, putL] at st) | ((first | refine mem_store' st 43 _ _ rfl (wanted_none rfl) _ Try.sizeOf43 ?_ | (refine mem_store' st 43 _ _ rfl (wanted_some rfl ?_) _ Try.sizeOf43 ?_; focus (simp [yielded, Act.put]; done))); refine ⟨2, _, _, _, _, _, rfl, rfl, rfl, rfl, rfl, rfl, ?_⟩; clear st; intro w6 st hw6m hw6z; simp [Act.eval, Act.put, Value.cells, putL] at st) | ((first | refine mem_load' st 3 _ rfl (wanted_none rfl) Try.isAgg3 ?_ | (refine mem_load' st 3 _ rfl (wanted_some rfl ?_) Try.isAgg3 ?_; focus (simp [yielded, Act.put]; done))); refine ⟨2, _, _, _, _, _, rfl, rfl, rfl, ?_⟩)
                      | (refine mem_load' st 4 _ rfl (wanted_some rfl (by simp [yielded, Act.put])) Try.isAgg4 ?_; refine ⟨1, _, _, _, _, _, rfl, rfl, hv, ?_⟩))
                    go_roundw
                    case rel => exact ⟨j + 1, e', hjl, by go_num, St.back stj (st.take 2), HN⟩
                    case measure => simp [intOf]; omega
              · have HN := Lib.hid (HSK.out fun h => e1 (HL.out.1 h.1).1)
                have d1 : (xc == c) = false := by simpa using e1
                clear e1
                go_wp2_with (first | go_skip | (refine wpList_load_cells (wanted_none rfl) 43 _ rfl Try.isAgg43 _ Try.sizeOf43 b2 (o2 + j * 4) rfl [.int .i64 xc, .int .i64 p, .int .i64 q, .int .i64 xt] rfl hrow ?_) | (refine mem_alloc st (wanted_none rfl) 43 rfl _ Try.zeroValue43 _ rfl ?_; clear st; intro g5 w5 hg5 st hg5b; clear hg5b; simp [Act.eval, Act.put, Value.cells, putL] at st) | ((first | refine mem_store' st 43 _ _ rfl (wanted_none rfl) _ Try.sizeOf43 ?_ | (refine mem_store' st 43 _ _ rfl (wanted_some rfl ?_) _ Try.sizeOf43 ?_; focus (simp [yielded, Act.put]; done))); refine ⟨2, _, _, _, _, _, rfl, rfl, rfl, rfl, rfl, rfl, ?_⟩; clear st; intro w6 st hw6m hw6z; simp [Act.eval, Act.put, Value.cells, putL] at st) | ((first | refine mem_load' st 3 _ rfl (wanted_none rfl) Try.isAgg3 ?_ | (refine mem_load' st 3 _ rfl (wanted_some rfl ?_) Try.isAgg3 ?_; focus (simp [yielded, Act.put]; done))); refine ⟨2, _, _, _, _, _, rfl, rfl, rfl, ?_⟩))
                go_roundw
                case rel => exact ⟨j + 1, e', hjl, by go_num, St.back stj (st.take 2), HN⟩
                case measure => simp [intOf]; omega
            · have HN := Lib.hid (hP.out.round (by omega) hI.out)
              go_wp2
              go_roundw
              case rel => exact ⟨r + 1, e', by omega, by go_num, st, HN⟩
              case measure => simp [intOf]; omega
        · obtain rfl : r = 4 := by omega
          have HV := Lib.hid (fourV (hI.out.done H1.out H2.out))
          go_wp2_with (first | go_skip | ((first | refine mem_load_agg' st 28 _ rfl (wanted_none rfl) Try.isAgg28 _ Try.sizeOf28 ?_ | (refine mem_load_agg' st 28 _ rfl (wanted_some rfl ?_) Try.isAgg28 _ Try.sizeOf28 ?_; focus (simp [yielded, Act.put]; done))); refine ⟨1, _, _, _, _, _, rfl, rfl, rfl, rfl, ?_⟩) | ((first | refine mem_store' st 28 _ _ rfl (wanted_none rfl) _ Try.sizeOf28 ?_ | (refine mem_store' st 28 _ _ rfl (wanted_some rfl ?_) _ Try.sizeOf28 ?_; focus (simp [yielded, Act.put]; done))); refine ⟨0, _, _, _, _, _, rfl, rfl, rfl, rfl, rfl, rfl, ?_⟩; clear st; intro w3 st hw3m hw3z; simp [Act.eval, Act.put, Value.cells, putL] at st))
          simp [fourL, putL] at st
          have hc := fun j => st.cell (i := 0) rfl j
          rw [HV.out]
          refine bodyPost_ret (v := .agg #[.bool e.b0, .bool e.b1, .bool e.b2, .bool e.b3]) (by simp [results, Try.results8, go_sem, hc, fourL]) rfl ⟨rfl, st.below⟩

end Go.Proofs.Ytbngblmdcggfdaa

/- Slices of numbers that are the call's own, in the words of the library's contracts on sorting. No program is in sight. -/
namespace Go.Proofs.Ytbngblmdcggfdaa
open Go.RowKit Go.Sort

theorem flatten_ints {css : List (List Value)} {xs : List Int} (hl : css.length = xs.length) (h : ∀ (i : Nat) (x : Int) (cs : List Value), xs[i]? = some x → css[i]? = some cs → RInt cs x) : css.flatten = xs.map (Value.int .i64) := by
  induction css generalizing xs with
  | nil => cases xs with
    | nil => rfl
    | cons x xs => simp at hl
  | cons c css ih =>
    cases xs with
    | nil => simp at hl
    | cons x xs =>
      have h0 := h 0 x c rfl rfl
      simp only [List.flatten_cons, List.map_cons, RInt] at *
      rw [h0, ih (by simpa using hl) fun i y cs hy hc => h (i + 1) y cs (by simpa using hy) (by simpa using hc)]
      rfl

theorem Own.ints {base : Nat} {e : TypeId} {w : World} {a : Option Addr} {c : Nat} {xs : List Int} (h : Own base e w 1 RInt a c xs) : w.ownsRow base e 1 (.slice a xs.length c) xs.length (xs.map (Value.int .i64)) := by
  obtain ⟨css, h1, h2, h3, h4⟩ := h
  rwa [flatten_ints h1 h3] at h4

theorem Own.of_ints {base : Nat} {e : TypeId} {w : World} {a : Option Addr} {c : Nat} {xs : List Int} (h : w.ownsRow base e 1 (.slice a xs.length c) xs.length (xs.map (Value.int .i64))) : Own base e w 1 RInt a c xs := by
  have hf : (xs.map fun x => [Value.int .i64 x]).flatten = xs.map (Value.int .i64) := by clear h; induction xs <;> simp_all
  refine ⟨xs.map fun x => [.int .i64 x], by simp, ?_, ?_, by rw [hf]; exact h⟩
  · intro cs hcs
    obtain ⟨x, _, rfl⟩ := List.mem_map.1 hcs
    exact ⟨rfl, by simp [Value.oneCell']⟩
  · intro i x cs hx hc
    rw [List.getElem?_map, hx] at hc
    simp at hc
    exact hc.symm

theorem Own.holds {base : Nat} {e : TypeId} {w : World} {ad : Addr} {c : Nat} {xs : List Int} (h : Own base e w 1 RInt (some ad) c xs) :
    ∃ g, ad = ⟨g, 0, none⟩ ∧ base ≤ g ∧ g < w.heap.size ∧ xs.length ≤ c ∧ c ≤ maxLen ∧ Holds (Value.int .i64) w g 0 xs.toArray := by
  have hi := h.ints
  rcases hi.2 with ⟨hv, _⟩ | ⟨g, cap, cur, hv, hg, hh, hnc, hm, hs, ht⟩
  · simp at hv
  · simp only [Value.slice.injEq, Option.some.injEq] at hv
    obtain ⟨rfl, _, rfl⟩ := hv
    refine ⟨g, rfl, hg, (Array.getElem?_eq_some_iff.1 hh).1, hnc, hm, fun j hj => ?_⟩
    simp only [List.size_toArray] at hj
    rw [Nat.zero_add]
    refine ⟨?_, hi.frozenAt j⟩
    rw [hi.cellAt j (by omega)]
    simp [hj]

theorem grownBy_row {w : World} {n g : Nat} {d : Array Int} {os : Array Obj} : w.grownBy (grow (putRow (Value.int .i64) (Sort.ahead w n) g 0 d) os) (some g) := by
  refine ⟨rfl, rfl, rfl, by simp [grow, Sort.ahead], fun k hk hne => ?_⟩
  rw [heap_grow_old _ _ (by simpa [Sort.ahead] using hk)]
  simp only [putRow, mapBlock, Array.getElem?_modify, Sort.ahead]
  rw [if_neg (fun e => hne (by rw [e]))]

theorem Own.put {base : Nat} {e : TypeId} {w : World} {g c : Nat} {xs ys : List Int} (h : Own base e w 1 RInt (some ⟨g, 0, none⟩) c xs) (hl : ys.length = xs.length) (n : Nat) (os : Array Obj) :
    Own base e (grow (putRow (Value.int .i64) (Sort.ahead w n) g 0 ys.toArray) os) 1 RInt (some ⟨g, 0, none⟩) c ys := by
  apply Own.of_ints
  have hi := h.ints
  rcases hi.2 with ⟨hv, _⟩ | ⟨g', cap, cur, hv, hg, hh, hnc, hm, hs, ht⟩
  · simp at hv
  · simp only [Value.slice.injEq, Option.some.injEq, Addr.mk.injEq] at hv
    obtain ⟨⟨rfl, _, _⟩, _, rfl⟩ := hv
    have hlt := (Array.getElem?_eq_some_iff.1 hh).1
    refine ⟨by simp, .inr ⟨g, c, putCells (Value.int .i64) 0 ys.toArray cur, rfl, hg, ?_, by omega, hm, by simpa [putCells] using hs, ?_⟩⟩
    · rw [heap_grow_old _ _ (by simpa [Sort.ahead] using hlt)]
      simp only [putRow, mapBlock, Array.getElem?_modify, Sort.ahead, hh, if_true, Option.map_some, onCells]
    · apply List.ext_getElem?
      intro i
      simp only [Nat.mul_one] at hs ⊢
      by_cases hi : i < ys.length
      · rw [List.getElem?_take_of_lt hi]
        simp only [putCells, Array.toList_mapIdx, List.getElem?_mapIdx, List.getElem?_map]
        rw [List.getElem?_eq_getElem (by simp [hs]; omega), List.getElem?_eq_getElem hi]
        simp [hi]
      · rw [List.getElem?_eq_none (by simp; omega), List.getElem?_eq_none (by simp; omega)]

/-- A beginning of what is owned, at the same capacity. -/
theorem Own.front {base : Nat} {e : TypeId} {w : World} {α : Type} {sz : Nat} {R : List Value → α → Prop} {a : Option Addr} {c : Nat} {ys zs : List α} (h : Own base e w sz R a c (ys ++ zs)) : Own base e w sz R a c ys := by
  obtain ⟨css, h1, h2, h3, h4⟩ := h
  have hle : ys.length ≤ css.length := by rw [h1]; simp
  have hfl : (css.take ys.length).flatten = css.flatten.take (ys.length * sz) := by
    have e1 : css.flatten = (css.take ys.length).flatten ++ (css.drop ys.length).flatten := by rw [← List.flatten_append, List.take_append_drop]
    have e2 : (css.take ys.length).flatten.length = ys.length * sz := by
      rw [flatten_length fun cs hc => (h2 cs (List.mem_of_mem_take hc)).1, List.length_take, Nat.min_eq_left hle]
    rw [e1, ← e2, List.take_left']
    rfl
  refine ⟨css.take ys.length, by simp [hle], fun cs hc => h2 cs (List.mem_of_mem_take hc), fun i x cs hx hc => ?_, ?_, ?_⟩
  · have hi : i < ys.length := (List.getElem?_eq_some_iff.1 hx).1
    rw [List.getElem?_take_of_lt hi] at hc
    exact h3 i x cs (by rw [List.getElem?_append_left hi]; exact hx) hc
  · rw [hfl, List.length_take, h4.1, List.length_append]
    exact Nat.min_eq_left (Nat.mul_le_mul_right _ (by omega))
  · rcases h4.2 with ⟨hv, hn⟩ | ⟨g, cap, cur, hv, hg, hh, hnc, hm, hs, ht⟩
    · have : ys = [] := List.eq_nil_of_length_eq_zero (by have := @List.length_append _ ys zs; omega)
      subst this
      simp only [Value.slice.injEq] at hv
      obtain ⟨rfl, _, rfl⟩ := hv
      exact .inl ⟨rfl, rfl⟩
    · simp only [Value.slice.injEq] at hv
      obtain ⟨rfl, _, rfl⟩ := hv
      refine .inr ⟨g, c, cur, rfl, hg, hh, by simp at hnc; omega, hm, hs, ?_⟩
      rw [hfl, ← ht, List.take_take, Nat.min_eq_left (Nat.mul_le_mul_right _ (by simp))]

/-- What the sort hands on, each once. -/
theorem compact_sorted {l : List Int} (h : l.Pairwise (· ≤ ·)) : Rising (Lib.compact l) ∧ ∀ z, z ∈ Lib.compact l ↔ z ∈ l := by
  have hget : ∀ j, j < l.length → l.toArray[j]! = l.getD j 0 := fun j hj => by simp [List.getD, hj]
  have hle : ∀ i j, i < j → j < l.length → l.getD i 0 ≤ l.getD j 0 := by
    intro i j hij hj
    have := List.pairwise_iff_getElem.1 h i j (by omega) hj hij
    simpa [List.getD, hj, show i < l.length by omega] using this
  have key : ∀ m, m ≤ l.length → Rising (Lib.compactUpTo l.toArray m) ∧ ∀ z, z ∈ Lib.compactUpTo l.toArray m ↔ ∃ j, j < m ∧ l.getD j 0 = z := by
    intro m
    induction m with
    | zero => exact fun _ => ⟨by simp [Lib.compactUpTo], fun z => by simp [Lib.compactUpTo]⟩
    | succ m ih =>
      intro hm
      obtain ⟨h1, h2⟩ := ih (by omega)
      rw [Lib.compactUpTo_succ]
      by_cases hk : Lib.keeps l.toArray m = true
      · rw [if_pos hk, hget m (by omega)]
        simp only [Lib.keeps, decide_eq_true_eq] at hk
        have hlt : ∀ j, j < m → l.getD j 0 < l.getD m 0 := by
          intro j hj
          rcases hk with hk | hk
          · omega
          · rw [hget m (by omega), hget (m - 1) (by omega)] at hk
            have a1 := hle (m - 1) m (by omega) (by omega)
            by_cases hj' : j = m - 1
            · subst hj'; omega
            · have a2 := hle j (m - 1) (by omega) (by omega); omega
        refine ⟨List.pairwise_append.2 ⟨h1, by simp, fun x hx y hy => ?_⟩, fun z => ?_⟩
        · simp at hy
          subst hy
          obtain ⟨j, hj, rfl⟩ := (h2 x).1 hx
          simpa [List.getD] using hlt j hj
        · rw [List.mem_append, h2]
          simp only [List.mem_singleton]
          constructor
          · rintro (⟨j, hj, e⟩ | e)
            · exact ⟨j, by omega, e⟩
            · exact ⟨m, by omega, e.symm⟩
          · rintro ⟨j, hj, e⟩
            by_cases hj' : j = m
            · subst hj'; exact .inr e.symm
            · exact .inl ⟨j, by omega, e⟩
      · rw [if_neg hk, List.append_nil]
        refine ⟨h1, fun z => (h2 z).trans ?_⟩
        simp only [Lib.keeps, decide_eq_true_eq, not_or, Decidable.not_not] at hk
        rw [hget m (by omega), hget (m - 1) (by omega)] at hk
        constructor
        · rintro ⟨j, hj, e⟩; exact ⟨j, by omega, e⟩
        · rintro ⟨j, hj, e⟩
          by_cases hj' : j = m
          · subst hj'; exact ⟨j - 1, by omega, by rw [← hk.2]; exact e⟩
          · exact ⟨j, by omega, e⟩
  obtain ⟨h1, h2⟩ := key l.length (Nat.le_refl _)
  refine ⟨h1, fun z => (h2 z).trans ?_⟩
  rw [List.mem_iff_getElem]
  constructor
  · rintro ⟨j, hj, e⟩; exact ⟨j, hj, by simpa [List.getD, hj] using e⟩
  · rintro ⟨j, hj, e⟩; exact ⟨j, hj, by simpa [List.getD, hj] using e⟩

theorem sort_compact (l : List Int) : Lib.compact (l.mergeSort fun x y => decide (x ≤ y)) = uniq l := by
  have hs : (l.mergeSort fun x y => decide (x ≤ y)).Pairwise (· ≤ ·) := by
    have := List.pairwise_mergeSort (le := fun x y : Int => decide (x ≤ y)) (by simp; omega) (by simp; omega) l
    exact this.imp (by simp)
  obtain ⟨h1, h2⟩ := compact_sorted hs
  exact uniq_of h1 fun z => (h2 z).trans (List.mergeSort_perm l _).mem_iff

end Go.Proofs.Ytbngblmdcggfdaa

/- The library's sort and compact on a slice of numbers that is the call's own. -/
namespace Go.Proofs.Ytbngblmdcggfdaa
open Go.RowKit Go.Sort

theorem slices_Sort_own {base : Nat} {w : World} {o : Option Addr} {c : Nat} {l : List Int} (hO : Own base 3 w 1 RInt o c l) (hl : l.length ≤ 4611686018427387903) :
    Calls Try.prog 31 #[.slice o l.length c] w fun e w' => e = .returned (.tuple #[]) ∧ Own base 3 w' 1 RInt o c (l.mergeSort fun x y => decide (x ≤ y)) ∧ w.grownBy w' (o.map (·.block)) := by
  cases o with
  | none =>
    have hS := hO.slr (ok := fun _ => True) fun _ _ => trivial
    have h0 := hS.2.2.1 rfl
    obtain rfl : l = [] := List.eq_nil_of_length_eq_zero (by have := hS.1; omega)
    refine (Try.slices_Sort_int_none none c w).mono fun e w' h => ?_
    obtain ⟨h1, h2⟩ := h
    subst h2
    exact ⟨h1, by simpa using hO, World.grownBy.refl _ _⟩
  | some ad =>
    obtain ⟨g, rfl, hg, hlt, hc, hm, hH⟩ := hO.holds
    refine (Try.slices_Sort_int g 0 c l w hH hlt (by omega)).mono fun e w' h => ?_
    obtain ⟨h1, n, os, h2⟩ := h
    subst h2
    refine ⟨h1, ?_, grownBy_row⟩
    exact hO.put (List.length_mergeSort l) n os

theorem slices_Compact_own {base : Nat} {w : World} {o : Option Addr} {c : Nat} {l : List Int} (hO : Own base 3 w 1 RInt o c l) (hl : l.length ≤ 4611686018427387903) :
    Calls Try.prog 32 #[.slice o l.length c] w fun e w' => e = .returned (.slice o (Lib.compact l).length c) ∧ Own base 3 w' 1 RInt o c (Lib.compact l) ∧ w.grownBy w' (o.map (·.block)) := by
  cases o with
  | none =>
    have hS := hO.slr (ok := fun _ => True) fun _ _ => trivial
    have h0 := hS.2.2.1 rfl
    obtain rfl : l = [] := List.eq_nil_of_length_eq_zero (by have := hS.1; omega)
    refine (Try.slices_Compact_int_empty none c w).mono fun e w' h => ?_
    obtain ⟨h1, h2⟩ := h
    subst h2
    exact ⟨h1, by simpa [Lib.compact, Lib.compactUpTo] using hO, World.grownBy.refl _ _⟩
  | some ad =>
    obtain ⟨g, rfl, hg, hlt, hc, hm, hH⟩ := hO.holds
    refine (Try.slices_Compact_int g 0 c l w hH (by omega) hc).mono fun e w' h => ?_
    obtain ⟨h1, q, h2⟩ := h
    subst h2
    have hle : (Lib.compact l).length ≤ l.length := by
      unfold Lib.compact Lib.compactUpTo
      rw [List.length_map]
      exact Nat.le_trans (List.length_filter_le _ _) (by simp)
    have hp := hO.put (ys := Lib.compact l ++ List.replicate (l.length - (Lib.compact l).length) 0) (by simp; omega) q #[]
    have e0 : ∀ ww : World, grow ww #[] = ww := fun ww => by simp [grow]
    rw [e0] at hp
    refine ⟨h1, ?_, ?_⟩
    · exact hp.front
    · have := @grownBy_row w q g (Lib.compact l ++ List.replicate (l.length - (Lib.compact l).length) 0).toArray #[]
      rwa [e0] at this

end Go.Proofs.Ytbngblmdcggfdaa

/- 'append' of one element to a row of the call's own, up to the model's own bound. No program is in sight. -/
namespace Go.Proofs.Ytbngblmdcggfdaa
open Go.RowKit

theorem one_grows (old : Nat) : Builtin.nextslicecap (old + 1) old * 4 ≤ 5 * old + 3000 := by
  unfold Builtin.nextslicecap
  split
  · omega
  · split
    · omega
    · rw [growBy_four]
      repeat' split
      all_goals omega

theorem wp_appBig {P : Program} {w : World} {o : Oper} {A : Act} {Q : Exit → Act → World → Prop} {K : Act → World → Prop} (s x : Operand) (t : TypeId)
    (ho : o.op = .call { callee := .builtin .append, args := #[s, x], argTypes := #[t, t] })
    (e : TypeId) (i : TypeInfo) (z : Value) (sz bytes : Nat) (ht : P.underlying t = some (.slice e)) (hi : P.info? e = some i) (hz : i.zero = some z) (hsize : i.size = sz) (hby : i.bytes = bytes) (hzs : z.cells.size = sz) (hsz : 0 < sz)
    {α : Type} {R : List Value → α → Prop} {base : Nat} {ok : Nat → Prop} {a : Option Addr} {c n : Nat} {xs : List α} (hs : A.eval s = .slice a n c) (hn : n = xs.length) (hO : Own base e w sz R a c xs)
    {b : Option Addr} {d : Nat} {y : α} (hx : A.eval x = .slice b 1 d) (hR : SlR ok w sz R b d [y]) (hl : (5 * xs.length + 3000) * bytes ≤ 1125899906842624) (h63 : xs.length + 1 ≤ maxLen) (hbase : base ≤ w.heap.size)
    (h : ∀ g c' w', Own base e w' sz R (some ⟨g, 0, none⟩) c' (xs ++ [y]) → w.grownBy w' (a.map (·.block)) → K (A.put o.dst (.slice (some ⟨g, 0, none⟩) (n + 1) c')) w') : Oper.wp P o A w K Q := by
  by_cases hsmall : (xs.length + 1) * bytes ≤ 140737488355328
  · exact wp_app1 s x t ho e i z sz bytes ht hi hz hsize hby hzs hsz hs hn hO hx hR hsmall h63 hbase fun g c' w' h1 h2 _ _ => h g c' w' h1 h2
  subst hn
  obtain ⟨css, h1, h2, h3, hown⟩ := hO
  obtain ⟨dss, g1, g2, g3, g4⟩ := hR.all
  match dss, g1 with
  | [ds], _ =>
    have hds := g2 ds (by simp)
    obtain ⟨b0, o0, rfl, _, _, hc⟩ := g4 0 ds rfl
    have hnews : ∀ (j : Nat) (u : Value), ds[j]? = some u → w.cell? ((⟨b0, o0, none⟩ : Addr).add j) = some u := fun j u hj => by
      rw [Addr.add_lit, ← hc j u hj]
      congr 2
      omega
    have hfl : css.flatten.length = xs.length * sz := by rw [flatten_length fun cs h => (h2 cs h).1, h1]
    have key : ∀ g c' w', w'.ownsRow base e sz (.slice (some ⟨g, 0, none⟩) (xs.length + 1) c') (xs.length + 1) (css.flatten ++ ds) → w.grownBy w' (a.map (·.block)) → K (A.put o.dst (.slice (some ⟨g, 0, none⟩) (xs.length + 1) c')) w' := by
      intro g c' w' hown' hgr
      refine h g c' w' ⟨css ++ [ds], by simp [h1], ?_, ?_, by simpa using hown'⟩ hgr
      · intro cs hcs
        rcases List.mem_append.1 hcs with hcs | hcs
        · exact h2 cs hcs
        · simp at hcs; subst hcs; exact hds
      · intro i x cs hx hc
        by_cases hi : i < xs.length
        · rw [List.getElem?_append_left hi] at hx
          rw [List.getElem?_append_left (by omega)] at hc
          exact h3 i x cs hx hc
        · rw [List.getElem?_append_right (by omega)] at hx
          rw [List.getElem?_append_right (by omega), h1] at hc
          exact g3 _ x cs hx hc
    have hown0 := hown
    rcases hown.2 with ⟨hv, h0⟩ | ⟨g, cap, cur, hv, hbg, hh, hnc, hcm, hcs, htake⟩
    · exfalso
      rw [h0] at hsmall hl
      omega
    · simp only [Value.slice.injEq] at hv
      obtain ⟨rfl, _, rfl⟩ := hv
      by_cases hroom : xs.length + 1 ≤ c
      · obtain ⟨w', hrun, r1, r2⟩ := run_append_fits (P := P) w base t o.type e i sz ht hi hsize g xs.length c css.flatten hown0 ⟨b0, o0, none⟩ 1 d ds (by rw [hds.1]; omega) hnews hds.2 hroom
        unfold Oper.wp
        simp [execOp, ho, resolve, invoke, builtin, hs, hx, hrun, Result.andThen]
        exact key _ _ _ r1 r2
      · have hce : c = xs.length := by omega
        subst hce
        subst hsize
        subst hby
        have hfit : Builtin.nextslicecap (xs.length + 1) xs.length * i.bytes ≤ 281474976710656 := by
          have h4 := Nat.mul_le_mul_right i.bytes (one_grows xs.length)
          have e4 : Builtin.nextslicecap (xs.length + 1) xs.length * 4 * i.bytes = 4 * (Builtin.nextslicecap (xs.length + 1) xs.length * i.bytes) := by
            rw [Nat.mul_comm _ 4, Nat.mul_assoc]
          omega
        have hrun := run_append_grow (P := P) w t o.type e i z ht hi hz ⟨g, 0, none⟩ xs.length xs.length css.flatten hfl (hown0.cells (g := g) rfl) ⟨b0, o0, none⟩ 1 d ds (by rw [hds.1]; omega) hnews (by omega) (by unfold maxLen at h63; omega) hfit
        have hge := grownCap_ge w (xs.length + 1) xs.length e
        have hgm := grownCap_le_maxLen w (xs.length + 1) xs.length e h63
        unfold Oper.wp
        simp [execOp, ho, resolve, invoke, builtin, hs, hx, hrun, Result.andThen]
        have hlen : (css.flatten ++ ds).length = (xs.length + 1) * i.size := by rw [List.length_append, hfl, hds.1, Nat.add_mul, Nat.one_mul]
        refine key _ _ _ ⟨hlen, .inr ⟨w.heap.size, _, _, rfl, hbase, heap_alloc_new w.drew _, hge, hgm, ?_, ?_⟩⟩ ⟨rfl, rfl, rfl, by simp, fun k hk _ => ((Below.refl w.heap.size w).drew.alloc (Nat.le_refl _) _).block k hk⟩
        · simp only [Array.size_append, List.size_toArray, size_zeroCells, hzs, hfl, hds.1]
          have : grownCap w (xs.length + 1) xs.length e = xs.length + 1 + (grownCap w (xs.length + 1) xs.length e - (xs.length + 1)) := by omega
          generalize grownCap w (xs.length + 1) xs.length e - (xs.length + 1) = q at this ⊢
          rw [this, Nat.add_mul, hlen]
        · simp only [Array.toList_append, List.append_assoc]
          rw [← List.append_assoc, ← hlen]
          exact List.take_left

theorem wpList_appBig {P : Program} {w : World} {ops : Array Oper} {rest : List Oper} {o : Oper} {A : Act} {Q : Exit → Act → World → Prop} (hgd : Region.wanted o (yielded ops A.tmps) = true) (s x : Operand) (t : TypeId)
    (ho : o.op = .call { callee := .builtin .append, args := #[s, x], argTypes := #[t, t] })
    (e : TypeId) (i : TypeInfo) (z : Value) (sz bytes : Nat) (ht : P.underlying t = some (.slice e)) (hi : P.info? e = some i) (hz : i.zero = some z) (hsize : i.size = sz) (hby : i.bytes = bytes) (hzs : z.cells.size = sz) (hsz : 0 < sz)
    {α : Type} {R : List Value → α → Prop} {base : Nat} {ok : Nat → Prop} {a : Option Addr} {c n : Nat} {xs : List α} (hs : A.eval s = .slice a n c) (hn : n = xs.length) (hO : Own base e w sz R a c xs)
    {b : Option Addr} {d : Nat} {y : α} (hx : A.eval x = .slice b 1 d) (hR : SlR ok w sz R b d [y]) (hl : (5 * xs.length + 3000) * bytes ≤ 1125899906842624) (h63 : xs.length + 1 ≤ maxLen) (hbase : base ≤ w.heap.size)
    (h : ∀ g c' w', Own base e w' sz R (some ⟨g, 0, none⟩) c' (xs ++ [y]) → w.grownBy w' (a.map (·.block)) → wpList P ops Q rest (A.put o.dst (.slice (some ⟨g, 0, none⟩) (n + 1) c')) w') : wpList P ops Q (o :: rest) A w :=
  wpList_wanted hgd fun _ hK => wp_appBig s x t ho e i z sz bytes ht hi hz hsize hby hzs hsz hs hn hO hx hR hl h63 hbase fun g c' w' h1 h2 => hK _ _ (h g c' w' h1 h2)

end Go.Proofs.Ytbngblmdcggfdaa
