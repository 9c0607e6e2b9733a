/- Walks and plain laws that the claim rests on, part 5. -/
import Derived.Test.YtflfjpopfapogaaP4
import Derived.Laws.OwnMore
import Derived.Laws.Concat
set_option linter.unusedSimpArgs false
set_option linter.unusedVariables false
namespace Go.Proofs.Ytflfjpopfapogaa
open Go.RowKit
section
variable {P : Program} {ops : Array Oper}
def DetI (P : Program) (ops : Array Oper) (Inv : World → Prop) (o : Oper) (v : Value) (a : Act) : Prop :=
 (Region.wanted o (yielded ops a.tmps) = true ∧ ∀ w, Inv w → (∃ w', (execOp a.eval o).run P w = .ok (.value v) w' ∧ Inv w') ∨ (∃ f args w', (execOp a.eval o).run P w = .ok (.enter f args) w' ∧ Calls P f args w' fun e w'' => e = .returned v ∧ Inv w'')) ∨
 (Region.wanted o (yielded ops a.tmps) = false ∧ v = undef)
theorem DetI.of_same {Inv : World → Prop} {o : Oper} {v : Value} {a a' : Act} (hy : DetI P ops Inv o v a) (he : execOp a'.eval o = execOp a.eval o) (hw : Region.wanted o (yielded ops a'.tmps) = Region.wanted o (yielded ops a.tmps)) : DetI P ops Inv o v a' := by
 unfold DetI at *
 rw [he, hw]
 exact hy
theorem DetI.wpOp {Inv : World → Prop} {i : Nat} {o : Oper} {v : Value} {a : Act} {Q : Exit → Act → World → Prop} (hi : ops[i]? = some o) (hy : DetI P ops Inv o v a) {K : Act → World → Prop} {w : World} (hI : Inv w) (h : ∀ w', Inv w' → K (a.put o.dst v) w') : wpOp P ops Q i K a w := by
 unfold Go.wpOp
 simp only [hi]
 rcases hy with ⟨hw, hv⟩ | ⟨hw, rfl⟩
 ·simp only [hw, if_true]
  refine .inl ?_
  unfold Oper.wp
  rcases hv w hI with ⟨w', hr, hI'⟩ | ⟨f, args, w', hr, hc⟩
  ·rw [hr]; exact h w' hI'
  ·rw [hr]
   simp only [Oper.upon]
   refine hc.mono fun e w'' he => ?_
   obtain ⟨rfl, hI''⟩ := he
   exact h w'' hI''
 ·simp only [hw, Bool.false_eq_true, if_false]
  exact h w hI
def wpD (P : Program) (ops : Array Oper) (E : Act → World → Prop) (Inv : World → Prop) : Nat → Array Bool → Act → Prop
 | 0, listed, a => Region.ready .any ops listed = [] ∧ ∀ w, Inv w → E a w
 | f + 1, listed, a => ∃ i oi v, ops[i]? = some oi ∧ i ∈ Region.ready .any ops listed ∧
   (∀ j oj, ops[j]? = some oj → j ≠ i → listed.getD j true = false → (∀ e ∈ oj.after, Region.binds .any e = true → e.on ≠ i) → oi.apart ops oj = true) ∧
   DetI P ops Inv oi v a ∧ wpD P ops E Inv f (listed.setIfInBounds i true) (a.put oi.dst v)
theorem wpD_first {E : Act → World → Prop} {Inv : World → Prop} (hsel : ∀ (j : Nat) (o : Oper) cs b, ops[j]? = some o → o.op ≠ .select cs b) : ∀ (f : Nat) (listed : Array Bool) (a : Act), wpD P ops E Inv (f + 1) listed a →
  ∀ j ∈ Region.ready .any ops listed, ∃ oj v, ops[j]? = some oj ∧ DetI P ops Inv oj v a ∧ wpD P ops E Inv f (listed.setIfInBounds j true) (a.put oj.dst v) := by
 intro f
 induction f with
 | zero =>
  intro listed a h j hj
  obtain ⟨i, oi, v, hi, hr, hfree, hd, h0⟩ := h
  by_cases hji : j = i
  ·subst hji; exact ⟨oi, v, hi, hd, h0⟩
  ·have := ready_mono hj hji
   rw [h0.1] at this
   cases this
 | succ f ih =>
  intro listed a h j hj
  obtain ⟨i, oi, v, hi, hr, hfree, hd, h0⟩ := h
  by_cases hji : j = i
  ·subst hji; exact ⟨oi, v, hi, hd, h0⟩
  ·obtain ⟨oj, u, hoj, hdj, h1⟩ := ih _ _ h0 j (ready_mono hj hji)
   obtain ⟨hjun, oj', hoj', hall⟩ := mem_ready.1 hj
   obtain rfl : oj = oj' := by rw [hoj] at hoj'; exact Option.some.inj hoj'
   have hnot : ∀ e ∈ oj.after, Region.binds .any e = true → e.on ≠ i := fun e he hb heq => by
    have h1 := hall e he hb
    have h0 := (mem_ready.1 hr).1
    rw [heq] at h1
    rcases Nat.lt_or_ge i listed.size with h' | h'
    ·simp [h'] at h0 h1; rw [h0] at h1; cases h1
    ·simp [Array.getElem?_eq_none h'] at h1
   obtain ⟨h2, h3, h4⟩ := Oper.apart_spec (hfree j oj hoj hji hjun hnot)
   have hdj' : DetI P ops Inv oj u a := hdj.of_same (execOp_put oj (fun cs b => hsel j oj cs b hoj) a oi.dst v h2).symm (wanted_put oj a oi.dst v h2).symm
   refine ⟨oj, u, hoj, hdj', i, oi, v, hi, ready_mono hr (Ne.symm hji), fun k ok hk hki hun hno => ?_, hd.of_same (execOp_put oi (fun cs b => hsel i oi cs b hi) a oj.dst u h4) (wanted_put oi a oj.dst u h4), ?_⟩
   ·refine hfree k ok hk hki ?_ hno
    by_cases hjk : j = k
    ·subst hjk; exact hjun
    ·rw [getD_set_ne true hjk] at hun; exact hun
   ·rw [Array.setIfInBounds_comm _ _ hji, ← Act.put_comm a v u h3]
    exact h1
theorem wpD_all {E : Act → World → Prop} {Inv : World → Prop} (hsel : ∀ (j : Nat) (o : Oper) cs b, ops[j]? = some o → o.op ≠ .select cs b) : ∀ (f : Nat) (listed : Array Bool) (a : Act), wpD P ops E Inv f listed a → ∀ w, Inv w → wpI P ops E Inv f listed a w := by
 intro f
 induction f with
 | zero => exact fun listed a h w hI => ⟨h.1, h.2 w hI⟩
 | succ f ih =>
  intro listed a h w hI
  refine ⟨fun h0 => ?_, fun j hj => ?_⟩
  ·obtain ⟨i, _, _, _, hr, _⟩ := h
   rw [h0] at hr
   cases hr
  ·obtain ⟨oj, v, hoj, hd, h1⟩ := wpD_first hsel f listed a h j hj
   exact hd.wpOp hoj hI fun w' hI' => ⟨hI', ih _ _ h1 w' hI'⟩
theorem det_region {l : List Oper} {id : Nat} {a : Act} {w : World} {Q : Exit → Act → World → Prop} (hm : P.follows .mixedOrders = true) (n : Nat) (hn : l.toArray.size = n) (Inv : World → Prop) (hI : Inv w.drew) (hsel : Region.noSelect l.toArray = true) (h : wpD P l.toArray (fun a w => Q .normal a w) Inv n (Array.replicate n false) a) : (Code.region id l.toArray true).wp P Q a w :=
 lex_region hm n hn Inv (wpD_all (Region.noSelect_spec hsel) _ _ _ h _ hI)
theorem det_take {l : List Oper} {E : Act → World → Prop} {Inv : World → Prop} (i : Nat) {oi : Oper} {v : Value} {f : Nat} {listed : Array Bool} {a : Act} (hi : l[i]? = some oi) (hok : lexOk l.toArray listed i = true) (hw : Region.wanted oi (yielded l.toArray a.tmps) = true)
  (hy : ∀ w, Inv w → (execOp a.eval oi).run P w = .ok (.value v) w) (h : wpD P l.toArray E Inv f (listed.setIfInBounds i true) (a.put oi.dst v)) : wpD P l.toArray E Inv (f + 1) listed a := by
 simp only [lexOk, Bool.and_eq_true] at hok
 exact ⟨i, oi, v, by simpa using hi, by simpa using hok.2, Region.free_spec (by simpa using hi) hok.1.2, .inl ⟨hw, fun w hI => .inl ⟨w, hy w hI, hI⟩⟩, h⟩
theorem detT {l : List Oper} {E : Act → World → Prop} {Inv : World → Prop} (i : Nat) {oi : Oper} {v : Value} {f : Nat} {listed : Array Bool} {a a' : Act} (hi : l[i]? = some oi) (hy : ∀ w, Inv w → (execOp a.eval oi).run P w = .ok (.value v) w)
  (h : wpD P l.toArray E Inv f (listed.setIfInBounds i true) a') (hok : lexOk l.toArray listed i = true := by decide +kernel) (hw : Region.wanted oi (yielded l.toArray a.tmps) = true := by first | exact wanted_none rfl | exact wanted_some rfl rfl) (ha : a.put oi.dst v = a' := by first | (simp only [kP, kA, kS, kZ]; done) | (simp only [kP, kA, kS, kZ]; exact rfl) | exact rfl) : wpD P l.toArray E Inv (f + 1) listed a := det_take i hi hok hw hy (ha ▸ h)
theorem detS {l : List Oper} {E : Act → World → Prop} {Inv : World → Prop} (i : Nat) {oi : Oper} {v : Value} {f : Nat} {listed : Array Bool} {a a' : Act} (hi : l[i]? = some oi)
  (h : wpD P l.toArray E Inv f (listed.setIfInBounds i true) a') (hok : lexOk l.toArray listed i = true := by decide +kernel) (hw : Region.wanted oi (yielded l.toArray a.tmps) = true := by first | exact wanted_none rfl | exact wanted_some rfl rfl)
  (hy : ∀ w, Inv w → (execOp a.eval oi).run P w = .ok (.value v) w := by intro _ _; first | (go_simp; done) | (go_simp; rfl)) (ha : a.put oi.dst v = a' := by first | (simp only [kP, kA, kS, kZ]; done) | (simp only [kP, kA, kS, kZ]; exact rfl) | exact rfl) : wpD P l.toArray E Inv (f + 1) listed a := det_take i hi hok hw hy (ha ▸ h)
theorem det_skip {l : List Oper} {E : Act → World → Prop} {Inv : World → Prop} (i : Nat) {oi : Oper} {f : Nat} {listed : Array Bool} {a : Act} (hi : l[i]? = some oi) (hok : lexOk l.toArray listed i = true) (hw : Region.wanted oi (yielded l.toArray a.tmps) = false)
  (h : wpD P l.toArray E Inv f (listed.setIfInBounds i true) (a.put oi.dst undef)) : wpD P l.toArray E Inv (f + 1) listed a := by
 simp only [lexOk, Bool.and_eq_true] at hok
 exact ⟨i, oi, undef, by simpa using hi, by simpa using hok.2, Region.free_spec (by simpa using hi) hok.1.2, .inr ⟨hw, rfl⟩, h⟩
theorem detK {l : List Oper} {E : Act → World → Prop} {Inv : World → Prop} (i : Nat) {oi : Oper} {f : Nat} {listed : Array Bool} {a a' : Act} (hi : l[i]? = some oi)
  (h : wpD P l.toArray E Inv f (listed.setIfInBounds i true) a') (hok : lexOk l.toArray listed i = true := by decide +kernel) (hw : Region.wanted oi (yielded l.toArray a.tmps) = false := by first | (simp [Region.wanted, yielded]; done) | (simp [Region.wanted, yielded, undef]; done)) (ha : a.put oi.dst undef = a' := by first | (simp only [kP, kA, kS, kZ]; done) | (simp only [kP, kA, kS, kZ]; exact rfl) | exact rfl) : wpD P l.toArray E Inv (f + 1) listed a := det_skip i hi hok hw (ha ▸ h)
theorem det_call {l : List Oper} {E : Act → World → Prop} {Inv : World → Prop} (i : Nat) {oi : Oper} {v : Value} {f : Nat} {listed : Array Bool} {a : Act} {fn : Nat} {args : Array Value} (hi : l[i]? = some oi) (hok : lexOk l.toArray listed i = true) (hw : Region.wanted oi (yielded l.toArray a.tmps) = true)
  (he : ∀ w, (execOp a.eval oi).run P w = .ok (.enter fn args) w) (hy : ∀ w, Inv w → Calls P fn args w fun e w' => e = .returned v ∧ Inv w') (h : wpD P l.toArray E Inv f (listed.setIfInBounds i true) (a.put oi.dst v)) : wpD P l.toArray E Inv (f + 1) listed a := by
 simp only [lexOk, Bool.and_eq_true] at hok
 exact ⟨i, oi, v, by simpa using hi, by simpa using hok.2, Region.free_spec (by simpa using hi) hok.1.2, .inl ⟨hw, fun w hI => .inr ⟨fn, args, w, he w, hy w hI⟩⟩, h⟩
theorem det_done {l : List Oper} {E : Act → World → Prop} {Inv : World → Prop} {listed : Array Bool} {a : Act} (hr : Region.ready .any l.toArray listed = []) (h : ∀ w, Inv w → E a w) : wpD P l.toArray E Inv 0 listed a := ⟨hr, h⟩
end
theorem one_grows (old : Nat) : Builtin.nextslicecap (old + 1) old * 4 ≤ 5 * old + 3000 := by
 unfold Builtin.nextslicecap
 split
 ·omega
 ·split
  ·omega
  ·rw [growBy_four]
   repeat' split
   all_goals omega
theorem wp_appBig {P : Program} {w : World} {o : Oper} {A : Act} {Q : Exit → Act → World → Prop} {K : Act → World → Prop} (s x : Operand) (t : TypeId)
  (ho : o.op = .call { callee := .builtin .append, args := #[s, x], argTypes := #[t, t] })
  (e : TypeId) (i : TypeInfo) (z : Value) (sz bytes : Nat) (ht : P.underlying t = some (.slice e)) (hi : P.info? e = some i) (hz : i.zero = some z) (hsize : i.size = sz) (hby : i.bytes = bytes) (hzs : z.cells.size = sz) (hsz : 0 < sz)
  {α : Type} {R : List Value → α → Prop} {base : Nat} {ok : Nat → Prop} {a : Option Addr} {c n : Nat} {xs : List α} (hs : A.eval s = .slice a n c) (hn : n = xs.length) (hO : Own base e w sz R a c xs)
  {b : Option Addr} {d : Nat} {y : α} (hx : A.eval x = .slice b 1 d) (hR : SlR ok w sz R b d [y]) (hl : (5 * xs.length + 3000) * bytes ≤ 1125899906842624) (h63 : xs.length + 1 ≤ maxLen) (hbase : base ≤ w.heap.size)
  (h : ∀ g c' w', Own base e w' sz R (some ⟨g, 0, none⟩) c' (xs ++ [y]) → w.grownBy w' (a.map (·.block)) → K (A.put o.dst (.slice (some ⟨g, 0, none⟩) (n + 1) c')) w') : Oper.wp P o A w K Q := by
 by_cases hsmall : (xs.length + 1) * bytes ≤ 140737488355328
 ·exact wp_app1 s x t ho e i z sz bytes ht hi hz hsize hby hzs hsz hs hn hO hx hR hsmall h63 hbase fun g c' w' h1 h2 _ _ => h g c' w' h1 h2
 subst hn
 obtain ⟨css, h1, h2, h3, hown⟩ := hO
 obtain ⟨dss, g1, g2, g3, g4⟩ := hR.all
 match dss, g1 with
 | [ds], _ =>
  have hds := g2 ds (by simp)
  obtain ⟨b0, o0, rfl, _, _, hc⟩ := g4 0 ds rfl
  have hnews : ∀ (j : Nat) (u : Value), ds[j]? = some u → w.cell? ((⟨b0, o0, none⟩ : Addr).add j) = some u := fun j u hj => by
   rw [Addr.add_lit, ← hc j u hj]
   congr 2
   omega
  have hfl : css.flatten.length = xs.length * sz := by rw [flatten_length fun cs h => (h2 cs h).1, h1]
  have key : ∀ g c' w', w'.ownsRow base e sz (.slice (some ⟨g, 0, none⟩) (xs.length + 1) c') (xs.length + 1) (css.flatten ++ ds) → w.grownBy w' (a.map (·.block)) → K (A.put o.dst (.slice (some ⟨g, 0, none⟩) (xs.length + 1) c')) w' := by
   intro g c' w' hown' hgr
   refine h g c' w' ⟨css ++ [ds], by simp [h1], ?_, ?_, by simpa using hown'⟩ hgr
   ·intro cs hcs
    rcases List.mem_append.1 hcs with hcs | hcs
    ·exact h2 cs hcs
    ·simp at hcs; subst hcs; exact hds
   ·intro i x cs hx hc
    by_cases hi : i < xs.length
    ·rw [List.getElem?_append_left hi] at hx
     rw [List.getElem?_append_left (by omega)] at hc
     exact h3 i x cs hx hc
    ·rw [List.getElem?_append_right (by omega)] at hx
     rw [List.getElem?_append_right (by omega), h1] at hc
     exact g3 _ x cs hx hc
  have hown0 := hown
  rcases hown.2 with ⟨hv, h0⟩ | ⟨g, cap, cur, hv, hbg, hh, hnc, hcm, hcs, htake⟩
  ·exfalso
   rw [h0] at hsmall hl
   omega
  ·simp only [Value.slice.injEq] at hv
   obtain ⟨rfl, _, rfl⟩ := hv
   by_cases hroom : xs.length + 1 ≤ c
   ·obtain ⟨w', hrun, r1, r2⟩ := run_append_fits (P := P) w base t o.type e i sz ht hi hsize g xs.length c css.flatten hown0 ⟨b0, o0, none⟩ 1 d ds (by rw [hds.1]; omega) hnews hds.2 hroom
    unfold Oper.wp
    simp [execOp, ho, resolve, invoke, builtin, hs, hx, hrun, Result.andThen]
    exact key _ _ _ r1 r2
   ·have hce : c = xs.length := by omega
    subst hce
    subst hsize
    subst hby
    have hfit : Builtin.nextslicecap (xs.length + 1) xs.length * i.bytes ≤ 281474976710656 := by
     have h4 := Nat.mul_le_mul_right i.bytes (one_grows xs.length)
     have e4 : Builtin.nextslicecap (xs.length + 1) xs.length * 4 * i.bytes = 4 * (Builtin.nextslicecap (xs.length + 1) xs.length * i.bytes) := by
      rw [Nat.mul_comm _ 4, Nat.mul_assoc]
     omega
    have hrun := run_append_grow (P := P) w t o.type e i z ht hi hz ⟨g, 0, none⟩ xs.length xs.length css.flatten hfl (hown0.cells (g := g) rfl) ⟨b0, o0, none⟩ 1 d ds (by rw [hds.1]; omega) hnews (by omega) (by unfold maxLen at h63; omega) hfit
    have hge := grownCap_ge w (xs.length + 1) xs.length e
    have hgm := grownCap_le_maxLen w (xs.length + 1) xs.length e h63
    unfold Oper.wp
    simp [execOp, ho, resolve, invoke, builtin, hs, hx, hrun, Result.andThen]
    have hlen : (css.flatten ++ ds).length = (xs.length + 1) * i.size := by rw [List.length_append, hfl, hds.1, Nat.add_mul, Nat.one_mul]
    refine key _ _ _ ⟨hlen, .inr ⟨w.heap.size, _, _, rfl, hbase, heap_alloc_new w.drew _, hge, hgm, ?_, ?_⟩⟩ ⟨rfl, rfl, rfl, by simp, fun k hk _ => ((Below.refl w.heap.size w).drew.alloc (Nat.le_refl _) _).block k hk⟩
    ·simp only [Array.size_append, List.size_toArray, size_zeroCells, hzs, hfl, hds.1]
     have : grownCap w (xs.length + 1) xs.length e = xs.length + 1 + (grownCap w (xs.length + 1) xs.length e - (xs.length + 1)) := by omega
     generalize grownCap w (xs.length + 1) xs.length e - (xs.length + 1) = q at this ⊢
     rw [this, Nat.add_mul, hlen]
    ·simp only [Array.toList_append, List.append_assoc]
     rw [← List.append_assoc, ← hlen]
     exact List.take_left
theorem wpList_appBig {P : Program} {w : World} {ops : Array Oper} {rest : List Oper} {o : Oper} {A : Act} {Q : Exit → Act → World → Prop} (hgd : Region.wanted o (yielded ops A.tmps) = true) (s x : Operand) (t : TypeId)
  (ho : o.op = .call { callee := .builtin .append, args := #[s, x], argTypes := #[t, t] })
  (e : TypeId) (i : TypeInfo) (z : Value) (sz bytes : Nat) (ht : P.underlying t = some (.slice e)) (hi : P.info? e = some i) (hz : i.zero = some z) (hsize : i.size = sz) (hby : i.bytes = bytes) (hzs : z.cells.size = sz) (hsz : 0 < sz)
  {α : Type} {R : List Value → α → Prop} {base : Nat} {ok : Nat → Prop} {a : Option Addr} {c n : Nat} {xs : List α} (hs : A.eval s = .slice a n c) (hn : n = xs.length) (hO : Own base e w sz R a c xs)
  {b : Option Addr} {d : Nat} {y : α} (hx : A.eval x = .slice b 1 d) (hR : SlR ok w sz R b d [y]) (hl : (5 * xs.length + 3000) * bytes ≤ 1125899906842624) (h63 : xs.length + 1 ≤ maxLen) (hbase : base ≤ w.heap.size)
  (h : ∀ g c' w', Own base e w' sz R (some ⟨g, 0, none⟩) c' (xs ++ [y]) → w.grownBy w' (a.map (·.block)) → wpList P ops Q rest (A.put o.dst (.slice (some ⟨g, 0, none⟩) (n + 1) c')) w') : wpList P ops Q (o :: rest) A w :=
 wpList_wanted hgd fun _ hK => wp_appBig s x t ho e i z sz bytes ht hi hz hsize hby hzs hsz hs hn hO hx hR hl h63 hbase fun g c' w' h1 h2 => hK _ _ (h g c' w' h1 h2)
abbrev ba (l : List UInt8) : ByteArray := ⟨l.toArray⟩
section
variable {P : Program} {w : World} {ops : Array Oper} {rest : List Oper} {o : Oper} {A : Act} {Q : Exit → Act → World → Prop}
theorem at_slice {d : Option Tmp} {ty : TypeId} {p : String} {af : Array Edge} {g : Option (Nat × Bool)} {x : Operand} {lo hi mx : Option Operand} (T : TypeId)
  (h : wpList P ops Q (⟨d, .slice T x lo hi mx, ty, p, af, g⟩ :: rest) A w) : wpList P ops Q (⟨d, .slice T x lo hi mx, ty, p, af, g⟩ :: rest) A w := h
theorem wpList_value {v : Value} (hgd : Region.wanted o (yielded ops A.tmps) = true) (hr : (execOp A.eval o).run P w = .ok (.value v) w) (h : wpList P ops Q rest (A.put o.dst v) w) : wpList P ops Q (o :: rest) A w := by
 refine wpList_wanted hgd fun K hK => ?_
 unfold Oper.wp
 simp only [hr]
 exact hK _ _ h
end
theorem run_cell_one {P : Program} {o : Oper} {A : Act} {w : World} (T : TypeId) (x : Operand) (ho : o.op = .load T x) (hagg : ∀ w, (isAgg T).run P w = .ok false w) (g off : Nat) (hx : A.eval x = .pointer (some ⟨g, off, none⟩)) (v : Value) (hc : w.cell? ⟨g, off, none⟩ = some v) :
  (execOp A.eval o).run P w = .ok (.value v) w := by
 simp only [execOp, ho, hx, Instr.loadAt, Instr.sureAddr, loadVar, Sem.run_bind, Sem.run_pure, Result.andThen_ok, hagg]
 simp [load, Sem.run, hc, Result.andThen]
end Go.Proofs.Ytflfjpopfapogaa
