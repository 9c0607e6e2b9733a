/- Walks and plain laws that the claim rests on, part 2. -/
import Derived.Test.YtnihccinpbpllaaP1
import Derived.Deep.RegionWith
import Derived.Shelf.Abstract
import Derived.Test.YtnihccinpbpllaaProg
import Derived.Laws.StructEq
import Derived.ChangeKeysEq
import Derived.Deep.QuietTactic
import Derived.ProofKit
import Derived.OpenShut
import Derived.Deep.CondSized
import Derived.Maps.OwnSet
import Derived.Maps.RangeWalk
set_option linter.unusedSimpArgs false
set_option linter.unusedVariables false
/- A region that draws its order, whose operations each add to what is known and take nothing away: what is known of each holds behind it, in whatever order they came. No program is in sight. -/
namespace Go.Proofs.Ytnihccinpbpllaa
open Go.RowKit

/-- Slots set, one by one. -/
def putAll (x : Nat → Value) : List (Nat × Option Tmp) → Act → Act
  | [], a => a
  | (i, t) :: l, a => putAll x l (a.put t (x i))

def upd (x : Nat → Value) (i : Nat) (v : Value) : Nat → Value := fun j => if j = i then v else x j

/-- Two slots are not one. -/
def apartD (d d' : Option Tmp) : Bool := match d, d' with | some a, some b => a != b | _, _ => true

theorem put_comm (a : Act) (d d' : Option Tmp) (u v : Value) (h : apartD d d' = true) : (a.put d u).put d' v = (a.put d' v).put d u := by
  cases d <;> cases d' <;> simp only [Act.put]
  rename_i p q
  simp [apartD] at h
  rw [Array.setIfInBounds_comm _ _ h]

theorem put_put (a : Act) (d : Option Tmp) (u v : Value) : (a.put d u).put d v = a.put d v := by
  cases d <;> simp [Act.put]

theorem putAll_comm {x : Nat → Value} {t : Option Tmp} {v : Value} : ∀ {l : List (Nat × Option Tmp)} {a : Act}, (∀ j ∈ l, apartD j.2 t = true) → (putAll x l a).put t v = putAll x l (a.put t v) := by
  intro l
  induction l with
  | nil => intro a _; rfl
  | cons j l ih =>
    intro a h
    simp only [putAll]
    rw [ih fun k hk => h k (by simp [hk]), put_comm _ _ _ _ _ (h j (by simp))]

theorem putAll_congr {x y : Nat → Value} : ∀ {l : List (Nat × Option Tmp)} {a : Act}, (∀ j ∈ l, x j.1 = y j.1) → putAll x l a = putAll y l a := by
  intro l
  induction l with
  | nil => intro a _; rfl
  | cons j l ih =>
    intro a h
    simp only [putAll]
    rw [h j (by simp), ih fun k hk => h k (by simp [hk])]

theorem apart_symm {d d' : Option Tmp} (h : apartD d d' = true) : apartD d' d = true := by
  cases d <;> cases d' <;> simp only [apartD, bne_iff_ne] at *
  exact fun e => h e.symm

theorem put_putAll {x : Nat → Value} {i : Nat} {t : Option Tmp} {v : Value} : ∀ {l : List (Nat × Option Tmp)} {a : Act}, (i, t) ∈ l → l.Pairwise (fun j k => j.1 ≠ k.1 ∧ apartD j.2 k.2 = true) →
    (putAll x l a).put t v = putAll (upd x i v) l a := by
  intro l
  induction l with
  | nil => intro a h; simp at h
  | cons j l ih =>
    intro a hi hp
    obtain ⟨h1, h2⟩ := List.pairwise_cons.1 hp
    simp only [putAll]
    rcases List.mem_cons.1 hi with rfl | hi
    · rw [putAll_comm fun k hk => apart_symm (h1 k hk).2, put_put, show upd x i v i = v by simp [upd]]
      exact putAll_congr fun k hk => by simp [upd, Ne.symm (h1 k hk).1]
    · rw [ih hi h2, show upd x i v j.1 = x j.1 by simp [upd, (h1 _ hi).1]]

/-- Marks of those that were carried out. -/
def marked (n : Nat) (L : List Nat) : Array Bool := (Array.range n).map fun i => L.contains i

theorem marked_nil (n : Nat) : Array.replicate n false = marked n [] := by
  apply Array.ext <;> simp [marked]

theorem marked_set (n : Nat) (L : List Nat) (i : Nat) : (marked n L).setIfInBounds i true = marked n (i :: L) := by
  apply Array.ext
  · simp [marked]
  · intro j h1 h2
    have hj : j < (marked n L).size := by simpa using h1
    rw [Array.getElem_setIfInBounds hj]
    simp only [marked, Array.getElem_map, Array.getElem_range, List.contains_cons]
    by_cases e : i = j
    · subst e; simp
    · simp [e, Ne.symm e]

theorem marked_get {n : Nat} {L : List Nat} {i : Nat} {b : Bool} (h : i < n) : (marked n L).getD i b = L.contains i := by
  simp [marked, Array.getD, h]

theorem marked_congr {n : Nat} {L M : List Nat} (h : ∀ i, i ∈ L ↔ i ∈ M) : marked n L = marked n M := by
  apply Array.ext
  · simp [marked]
  · intro j h1 h2
    simp [marked, h]

theorem nodup_le : ∀ {l S : List Nat}, l.Nodup → (∀ j ∈ l, j ∈ S) → l.length ≤ S.length := by
  intro l
  induction l with
  | nil => intro S _ _; simp
  | cons i l ih =>
    intro S hn hs
    obtain ⟨h1, h2⟩ := List.nodup_cons.1 hn
    have := ih (S := S.erase i) h2 fun j hj => (List.mem_erase_of_ne (by rintro rfl; exact h1 hj)).2 (hs j (by simp [hj]))
    rw [List.length_erase_of_mem (hs i (by simp))] at this
    have h3 : 0 < S.length := List.length_pos_of_mem (hs i (by simp))
    simp; omega

/-- Those that must come ahead of the i-th. -/
def predsOf (ops : Array Oper) (i : Nat) : List Nat := ((ops[i]?).map fun o => (o.after.toList.filter fun e => Region.binds .any e).map (·.on)).getD []

/-- .. and those that must come ahead of these, and so on. -/
def anc (ops : Array Oper) : Nat → Nat → List Nat
  | 0, _ => []
  | k + 1, i => predsOf ops i ++ (predsOf ops i).flatMap (anc ops k)

theorem anc_sub {ops : Array Oper} {L : List Nat} (hL : ∀ i ∈ L, ∀ j ∈ predsOf ops i, j ∈ L) : ∀ (k i : Nat), (∀ j ∈ predsOf ops i, j ∈ L) → ∀ j ∈ anc ops k i, j ∈ L := by
  intro k
  induction k with
  | zero => intro i _ j hj; simp [anc] at hj
  | succ k ih =>
    intro i hi j hj
    simp only [anc, List.mem_append, List.mem_flatMap] at hj
    rcases hj with hj | ⟨m, hm, hj⟩
    · exact hi j hj
    · exact ih m (hL m (hi m hm)) j hj

/-- May the operations S be carried out ahead of all others, in whatever order their edges allow? -/
def aheadOk (ops : Array Oper) (D : List (Nat × Option Tmp)) : Bool :=
  let S := D.map (·.1)
  (S.all fun i => decide (i < ops.size) && ((ops[i]?).map fun o => o.after.all fun e => !Region.binds .any e || (S.contains e.on && decide (e.on < i))).getD false) &&
  ((List.range ops.size).all fun i => S.contains i || ((ops[i]?).map fun o => (o.after.any fun e => Region.binds .any e && !S.contains e.on) || S.all fun j => (anc ops ops.size i).contains j).getD false) &&
  decide (D.Pairwise fun j k => j.1 ≠ k.1 ∧ apartD j.2 k.2 = true)

section
variable {P : Program} {ops : Array Oper} {Q : Exit → Act → World → Prop}

theorem wpAny_ahead (D : List (Nat × Option Tmp)) (S : List Nat) (hS : D.map (·.1) = S) (hok : aheadOk ops D = true) (Rel : World → World → Prop) (G : Nat → Value → World → Prop) (Inv : World → Prop) (a0 : Act) (r : Nat)
    (mono : ∀ i v w w', i ∈ S → Rel w w' → Inv w → Inv w' → G i v w → G i v w')
    (step : ∀ i t, (i, t) ∈ D → ∀ (x : Nat → Value) (w : World), Inv w → (∀ j ∈ predsOf ops i, G j (x j) w) → ∀ K : Act → World → Prop,
      (∀ v w', Rel w w' → Inv w' → G i v w' → K ((putAll x D a0).put t v) w') → wpOp P ops Q i K (putAll x D a0) w)
    (fin : ∀ (x : Nat → Value) (w : World), Inv w → (∀ i ∈ S, G i (x i) w) → wpAny P .any ops Q r (marked ops.size S) (putAll x D a0) w) :
    ∀ (k : Nat) (L : List Nat) (x : Nat → Value) (w : World), L.Nodup → (∀ i ∈ L, i ∈ S) → (∀ i ∈ L, ∀ j ∈ predsOf ops i, j ∈ L) → L.length + k = S.length → Inv w → (∀ i ∈ L, G i (x i) w) →
      wpAny P .any ops Q (k + r) (marked ops.size L) (putAll x D a0) w := by
  subst hS
  simp only [aheadOk, Bool.and_eq_true, List.all_eq_true, decide_eq_true_eq, List.mem_range] at hok
  obtain ⟨⟨hc1, hc2⟩, hc4⟩ := hok
  have hSn : (D.map (·.1)).Nodup := List.pairwise_map.2 (hc4.imp fun h => h.1)
  intro k
  induction k with
  | zero =>
    intro L x w hL hsub hcl hlen hI hG
    have hall : ∀ i, i ∈ L ↔ i ∈ D.map (·.1) := fun i => ⟨hsub i, fun hi => Classical.byContradiction fun hn => by
      have h1 := nodup_le (List.nodup_cons.2 ⟨hn, hL⟩) fun j hj => by
        rcases List.mem_cons.1 hj with rfl | hj
        · exact hi
        · exact hsub j hj
      simp only [List.length_cons] at h1; omega⟩
    rw [Nat.zero_add, marked_congr hall]
    exact fin x w hI fun i hi => hG i ((hall i).2 hi)
  | succ k ih =>
    intro L x w hL hsub hcl hlen hI hG
    have hmem : ∀ i, i ∈ Region.ready .any ops (marked ops.size L) ↔ i < ops.size ∧ i ∉ L ∧ ∃ o, ops[i]? = some o ∧ ∀ e ∈ o.after, Region.binds .any e = true → e.on ∈ L ∧ e.on < ops.size := by
      intro i
      simp only [Region.ready, List.mem_filter, List.mem_range, Bool.and_eq_true, Bool.not_eq_true']
      constructor
      · rintro ⟨h1, h2, h3⟩
        rw [marked_get h1] at h2
        refine ⟨h1, by simpa using h2, ops[i], by simp [h1], fun e he hb => ?_⟩
        simp only [h1, getElem?_pos, Option.map_some, Option.getD_some, Array.all_eq_true_iff_forall_mem] at h3
        have := h3 e he
        rw [hb] at this
        simp only [Bool.not_true, Bool.false_or] at this
        by_cases hlt : e.on < ops.size
        · rw [marked_get hlt] at this
          exact ⟨by simpa using this, hlt⟩
        · have : (marked ops.size L).getD e.on false = false := by simp [marked, Array.getD, hlt]
          simp_all
      · rintro ⟨h1, h2, o, ho, h3⟩
        refine ⟨h1, by rw [marked_get h1]; simpa using h2, ?_⟩
        simp only [ho, Option.map_some, Option.getD_some, Array.all_eq_true_iff_forall_mem]
        intro e he
        cases hb : Region.binds .any e
        · simp
        · obtain ⟨h4, h5⟩ := h3 e he hb
          rw [marked_get h5]
          simpa using h4
    rw [show k + 1 + r = (k + r) + 1 by omega]
    refine ⟨fun hnil => ?_, fun i hi => ?_⟩
    · exfalso
      -- the least of S that is not carried out yet is ready
      have hex : ∃ i, i ∈ D.map (·.1) ∧ i ∉ L := Classical.byContradiction fun hn => by
        have h1 := nodup_le hSn (S := L) fun j hj => Classical.byContradiction fun hj' => hn ⟨j, hj, hj'⟩
        omega
      obtain ⟨i, ⟨hiS, hiL⟩, hmin⟩ : ∃ i, (i ∈ D.map (·.1) ∧ i ∉ L) ∧ ∀ j, j < i → ¬ (j ∈ D.map (·.1) ∧ j ∉ L) := by
        obtain ⟨i0, h0⟩ := hex
        induction i0 using Nat.strongRecOn with
        | _ i0 ih0 =>
          by_cases h : ∃ j, j < i0 ∧ j ∈ D.map (·.1) ∧ j ∉ L
          · obtain ⟨j, hj, hjS⟩ := h
            exact ih0 j hj hjS
          · exact ⟨i0, h0, fun j hj hjS => h ⟨j, hj, hjS⟩⟩
      obtain ⟨h1, h2⟩ := hc1 i hiS
      have : i ∈ Region.ready .any ops (marked ops.size L) := by
        rw [hmem]
        refine ⟨h1, hiL, ops[i], by simp [h1], fun e he hb => ?_⟩
        simp only [h1, getElem?_pos, Option.map_some, Option.getD_some, Array.all_eq_true_iff_forall_mem] at h2
        have h3 := h2 e he
        rw [hb] at h3
        simp only [Bool.not_true, Bool.false_or, Bool.and_eq_true, decide_eq_true_eq, List.contains_iff_mem] at h3
        exact ⟨Classical.byContradiction fun hn => hmin e.on h3.2 ⟨h3.1, hn⟩, (hc1 e.on h3.1).1⟩
      rw [hnil] at this
      simp at this
    · obtain ⟨h1, hiL, o, ho, hp⟩ := (hmem i).1 hi
      have hiS : i ∈ D.map (·.1) := by
        have h2 := hc2 i h1
        simp only [ho, Option.map_some, Option.getD_some, Bool.or_eq_true, List.contains_iff_mem, Array.any_eq_true', List.all_eq_true, Bool.and_eq_true, Bool.not_eq_true', beq_iff_eq] at h2
        rcases h2 with h2 | ⟨e, he, hb, hn⟩ | h2
        · exact h2
        · exfalso
          have := hsub _ (hp e he hb).1
          rw [← List.contains_iff_mem, hn] at this
          simp at this
        · exfalso
          have h4 : ∀ j ∈ predsOf ops i, j ∈ L := fun j hj => by
            simp only [predsOf, ho, Option.map_some, Option.getD_some, List.mem_map, List.mem_filter, Array.mem_toList_iff] at hj
            obtain ⟨e, ⟨he, hb⟩, rfl⟩ := hj
            exact (hp e he hb).1
          have h3 := nodup_le hSn (S := L) fun j hj => anc_sub hcl _ i h4 j (h2 j hj)
          omega
      have hpreL : ∀ j ∈ predsOf ops i, j ∈ L := fun j hj => by
        simp only [predsOf, ho, Option.map_some, Option.getD_some, List.mem_map, List.mem_filter, Array.mem_toList_iff] at hj
        obtain ⟨e, ⟨he, hb⟩, rfl⟩ := hj
        exact (hp e he hb).1
      have hpre : ∀ j ∈ predsOf ops i, G j (x j) w := fun j hj => by
        simp only [predsOf, ho, Option.map_some, Option.getD_some, List.mem_map, List.mem_filter, Array.mem_toList_iff] at hj
        obtain ⟨e, ⟨he, hb⟩, rfl⟩ := hj
        exact hG _ (hp e he hb).1
      obtain ⟨⟨i', t⟩, hit, hii⟩ := List.mem_map.1 hiS
      have hii' : i = i' := hii.symm
      subst hii'
      refine step i t hit x w hI hpre _ fun v w' hbw hI' hGv => ?_
      rw [put_putAll hit hc4, marked_set]
      refine ih (i :: L) (upd x i v) w' (List.nodup_cons.2 ⟨hiL, hL⟩) (fun j hj => ?_) (fun j hj m hm => ?_) (by simp only [List.length_cons]; omega) hI' fun j hj => ?_
      · rcases List.mem_cons.1 hj with rfl | hj
        · exact hiS
        · exact hsub j hj
      · rcases List.mem_cons.1 hj with rfl | hjL
        · exact List.mem_cons_of_mem _ (hpreL m hm)
        · exact List.mem_cons_of_mem _ (hcl j hjL m hm)
      · rcases List.mem_cons.1 hj with rfl | hjL
        · simpa [upd] using hGv
        · have hne : j ≠ i := by rintro rfl; exact hiL hjL
          rw [show upd x i v j = x j by simp [upd, hne]]
          exact mono j _ w w' (hsub j hjL) hbw hI hI' (hG j hjL)

theorem put_same (a : Act) (d : Option Tmp) : a.put d ((d.map fun t => a.tmps.getD t undef).getD undef) = a := by
  cases d with
  | none => rfl
  | some t =>
    simp only [Act.put, Option.map_some, Option.getD_some]
    have : a.tmps.setIfInBounds t (a.tmps.getD t undef) = a.tmps := by
      apply Array.ext
      · simp
      · intro i h1 h2
        rw [Array.getElem_setIfInBounds h2]
        by_cases e : t = i
        · subst e; simp [Array.getD, h2]
        · simp [e]
    rw [this]

def lookD (D : List (Nat × Option Tmp)) (a : Act) (i : Nat) : Value := match D.find? (fun p => p.1 == i) with | some p => (p.2.map fun t => a.tmps.getD t undef).getD undef | none => undef

theorem putAll_same (a : Act) {x : Nat → Value} : ∀ {l : List (Nat × Option Tmp)}, (∀ p ∈ l, x p.1 = (p.2.map fun t => a.tmps.getD t undef).getD undef) → putAll x l a = a := by
  intro l
  induction l with
  | nil => intro _; rfl
  | cons p l ih =>
    intro h
    obtain ⟨i, t⟩ := p
    have e := put_same a t
    simp only [putAll]
    rw [h (i, t) (by simp)]
    simp only
    rw [e]
    exact ih fun q hq => h q (by simp [hq])

theorem lookD_at {D : List (Nat × Option Tmp)} {a : Act} (hp : D.Pairwise (fun j k => j.1 ≠ k.1 ∧ apartD j.2 k.2 = true)) : ∀ p ∈ D, lookD D a p.1 = (p.2.map fun t => a.tmps.getD t undef).getD undef := by
  intro p hpD
  have h : D.find? (fun q => q.1 == p.1) = some p := by
    induction D with
    | nil => simp at hpD
    | cons q D ih =>
      obtain ⟨h1, h2⟩ := List.pairwise_cons.1 hp
      rcases List.mem_cons.1 hpD with rfl | hq
      · simp
      · rw [List.find?_cons_of_neg (by simpa using (h1 p hq).1)]
        exact ih h2 hq
  unfold lookD
  rw [h]

/-- THE LAW, at a region: the operations S come first, in whatever order; of each there is known G, in whatever order; the others follow. -/
theorem wp_region_ahead {id : Nat} {a0 : Act} {w : World} (hm : P.follows .mixedOrders = true) (D : List (Nat × Option Tmp)) (S : List Nat) (hS : D.map (·.1) = S) (r : Nat) (hok : aheadOk ops D = true) (hr : S.length + r = ops.size) (Rel : World → World → Prop) (G : Nat → Value → World → Prop) (Inv : World → Prop) (hI : Inv w.drew)
    (mono : ∀ i v w w', i ∈ S → Rel w w' → Inv w → Inv w' → G i v w → G i v w')
    (step : ∀ i t, (i, t) ∈ D → ∀ (x : Nat → Value) (w : World), Inv w → (∀ j ∈ predsOf ops i, G j (x j) w) → ∀ K : Act → World → Prop,
      (∀ v w', Rel w w' → Inv w' → G i v w' → K ((putAll x D a0).put t v) w') → wpOp P ops Q i K (putAll x D a0) w)
    (fin : ∀ (x : Nat → Value) (w : World), Inv w → (∀ i ∈ S, G i (x i) w) → wpAny P .any ops Q r (marked ops.size S) (putAll x D a0) w) : (Code.region id ops true).wp P Q a0 w := by
  refine wp_region_any hm ?_
  rw [marked_nil]
  have h := wpAny_ahead (P := P) (Q := Q) D S hS hok Rel G Inv a0 r mono step fin S.length [] (lookD D a0) w.drew List.nodup_nil (by simp) (by simp) (by simp) hI (by simp)
  rw [putAll_same a0 (lookD_at (by simp only [aheadOk, Bool.and_eq_true, decide_eq_true_eq] at hok; exact hok.2)), hr] at h
  exact h

theorem wpOp_plain {i : Nat} {o : Oper} {K : Act → World → Prop} {a : Act} {w : World} (ho : ops[i]? = some o) (hg : Region.wanted o (yielded ops a.tmps) = true) (h : o.wp P a w K Q) : wpOp P ops Q i K a w := by
  simp only [wpOp, ho, hg, if_true]
  exact .inl h

theorem wpOp_at {l : List Oper} {i : Nat} {o : Oper} {K : Act → World → Prop} {a : Act} {w : World} (ho : l[i]? = some o) (hg : o.guard = none) (h : o.wp P a w K Q) : wpOp P l.toArray Q i K a w :=
  wpOp_plain (by simpa using ho) (wanted_none hg) h

/-- An operation that just yields. -/
theorem wp_value {o : Oper} {K : Act → World → Prop} {a : Act} {w w' : World} {v : Value} (h : (execOp a.eval o).run P w = .ok (.value v) w') (hK : K (a.put o.dst v) w') : o.wp P a w K Q := by
  unfold Oper.wp
  rw [h]
  exact hK

/-- Behind those: the one that is next. -/
theorem wpAny_next {i r : Nat} {o : Oper} {listed : Array Bool} {a : Act} {w : World} (hr : Region.ready .any ops listed = [i]) (ho : ops[i]? = some o) (hg : Region.wanted o (yielded ops a.tmps) = true)
    (h : ∀ K : Act → World → Prop, (∀ a w, wpAny P .any ops Q r (listed.setIfInBounds i true) a w → K a w) → o.wp P a w K Q) : wpAny P .any ops Q (r + 1) listed a w :=
  wpAny_all hr (by simp) fun j hj => by
    simp only [List.mem_singleton] at hj
    subst hj
    exact wpOp_plain ho hg (h _ fun _ _ h => h)

theorem wpAny_at {l : List Oper} {i r : Nat} {o : Oper} {listed : Array Bool} {a : Act} {w : World} (ho : l[i]? = some o) (hg : o.guard = none) (hr : Region.ready .any l.toArray listed = [i])
    (h : ∀ K : Act → World → Prop, (∀ a w, wpAny P .any l.toArray Q r (listed.setIfInBounds i true) a w → K a w) → o.wp P a w K Q) : wpAny P .any l.toArray Q (r + 1) listed a w :=
  wpAny_next hr (by simpa using ho) (wanted_none hg) h

end
end Go.Proofs.Ytnihccinpbpllaa

/- New blocks, loads and stores of a call's own memory, at an operation by itself. No program is in sight. -/
namespace Go.Proofs.Ytnihccinpbpllaa
open Go.RowKit

section
variable {P : Program} {w0 w : World} {M : List Nat} {own : Blks} {o : Oper} {A : Act} {Q : Exit → Act → World → Prop} {K : Act → World → Prop}

theorem wp_box (st : St M w0 w own) (T : TypeId) (x : Operand) (ho : o.op = .box T x) (v : Value) (hx : A.eval x = v) (cs : List Value) (hcs : v.cells.toList = cs)
    (h : ∀ g w', w0.heap.size ≤ g → St M w0 w' (own ++ [(g, T, cs)]) → Below w.heap.size w w' → K (A.put o.dst (.pointer (some ⟨g, 0, none⟩))) w') : Oper.wp P o A w K Q := by
  subst hcs
  have hs := st.new T v.cells.toList
  simp only [Array.toArray_toList] at hs
  unfold Oper.wp
  simp only [execOp, ho, hx, Instr.box, newVar, newRow, newObj]
  exact (h w.heap.size _ st.size hs ((Below.refl _ _).alloc (Nat.le_refl _) _))

theorem wp_alloc (st : St M w0 w own) (T : TypeId) (ho : o.op = .alloc T) (z : Value) (hz : ∀ w, (zeroValue T).run P w = .ok z w) (cs : List Value) (hcs : z.cells.toList = cs)
    (h : ∀ g w', w0.heap.size ≤ g → St M w0 w' (own ++ [(g, T, cs)]) → Below w.heap.size w w' → K (A.put o.dst (.pointer (some ⟨g, 0, none⟩))) w') : Oper.wp P o A w K Q := by
  subst hcs
  have hs := st.new T z.cells.toList
  simp only [Array.toArray_toList] at hs
  unfold Oper.wp
  simp only [execOp, ho, Instr.alloc, Sem.run_bind, hz, Result.andThen_ok, newVar, newRow, newObj]
  exact (h w.heap.size _ st.size hs ((Below.refl _ _).alloc (Nat.le_refl _) _))

theorem wp_load (st : St M w0 w own) (T : TypeId) (x : Operand) (ho : o.op = .load T x) (g off : Nat) (hx : A.eval x = .pointer (some ⟨g, off, none⟩)) (hagg : ∀ w, (isAgg T).run P w = .ok false w)
    (i : Nat) (T' : TypeId) (cs : List Value) (hi : own[i]? = some (g, T', cs)) (v : Value) (hv : cs[off]? = some v)
    (h : K (A.put o.dst v) w) : Oper.wp P o A w K Q := by
  have hc := (st.cell hi off).trans hv
  unfold Oper.wp
  simp only [execOp, ho, hx, Instr.loadAt, Instr.sureAddr, loadVar, Sem.run_bind, Sem.run_pure, Result.andThen_ok, hagg]
  simp [load, Sem.run, hc, Result.andThen]
  exact h

theorem wp_load_agg (st : St M w0 w own) (T : TypeId) (x : Operand) (ho : o.op = .load T x) (g off : Nat) (hx : A.eval x = .pointer (some ⟨g, off, none⟩)) (hagg : ∀ w, (isAgg T).run P w = .ok true w)
    (n : Nat) (hsz : ∀ w, (sizeOf T).run P w = .ok n w) (i : Nat) (T' : TypeId) (cs : List Value) (hi : own[i]? = some (g, T', cs)) (vs : List Value) (hv : (cs.drop off).take n = vs) (hl : vs.length = n)
    (h : K (A.put o.dst (.agg vs.toArray)) w) : Oper.wp P o A w K Q := by
  have hl' : (loadCells ⟨g, off, none⟩ vs.length).run P w = .ok vs.toArray w := run_loadCells_list (P := P) w ⟨g, off, none⟩ vs (fun j v hj => by
    rw [add_plain, st.cell hi]
    subst hv
    have hjn : j < n := by have := (List.getElem?_eq_some_iff.1 hj).1; omega
    rw [List.getElem?_take_of_lt hjn, List.getElem?_drop] at hj
    exact hj)
  rw [hl] at hl'
  unfold Oper.wp
  simp only [execOp, ho, hx, Instr.loadAt, Instr.sureAddr, loadVar, Sem.run_bind, Sem.run_pure, Result.andThen_ok, hagg, hsz, if_true, hl']
  exact h

theorem wp_store (st : St M w0 w own) (T : TypeId) (x y : Operand) (ho : o.op = .store T x y) (g off : Nat) (hx : A.eval x = .pointer (some ⟨g, off, none⟩))
    (v : Value) (hy : A.eval y = v) (vs : List Value) (hvs : v.cells.toList = vs) (hsz : ∀ w, (sizeOf T).run P w = .ok vs.length w) (h1 : ∀ u ∈ vs, u.oneCell' = true)
    (i : Nat) (T' : TypeId) (cs : List Value) (hi : own[i]? = some (g, T', cs)) (hl : off + vs.length ≤ cs.length)
    (h : ∀ w', St M w0 w' (own.set i (g, T', putL cs off vs)) → (∀ b, b ≠ g → w'.heap[b]? = w.heap[b]?) → w'.heap.size = w.heap.size → K (A.put o.dst undef) w') : Oper.wp P o A w K Q := by
  have hst : (storeCells ⟨g, off, none⟩ vs 0).run P w = .ok () (w.setCells g off vs) := run_storeCells_cells (P := P) g off vs 0 w
    (fun j hj => by rw [Nat.add_zero, st.cell hi]; rw [List.getElem?_eq_getElem (by omega)]; rfl) (fun j hj => by rw [Nat.add_zero]; exact st.free hi _) h1
  obtain ⟨a1, a2, a3, a4, a5, a6⟩ := setCells_block (w := w) vs off cs (st.blk _ (List.mem_of_getElem? hi))
  have hs' := st.put hi a1 a2 a3 a4 a5 a6
  have hcs : v.cells.size = vs.length := by rw [← hvs]; simp
  unfold Oper.wp
  simp only [execOp, ho, hx, hy, Instr.storeAt, Instr.sureAddr, storeVar, Sem.run_bind, Sem.run_pure, Result.andThen_ok, hsz, hcs, hvs, ne_eq, not_true, if_false, hst]
  exact (h _ hs' a2 a3)

/-! ### The same, for the arms of a walk: what is found by looking stands behind one existential -/

theorem wp_load' (st : St M w0 w own) (T : TypeId) (x : Operand) (ho : o.op = .load T x) (hagg : ∀ w, (isAgg T).run P w = .ok false w)
    (h : ∃ (i g off : Nat) (T' : TypeId) (cs : List Value) (v : Value), A.eval x = .pointer (some ⟨g, off, none⟩) ∧ own[i]? = some (g, T', cs) ∧ cs[off]? = some v ∧ K (A.put o.dst v) w) : Oper.wp P o A w K Q := by
  obtain ⟨i, g, off, T', cs, v, hx, hi, hv, h⟩ := h
  exact wp_load st T x ho g off hx hagg i T' cs hi v hv h

theorem wp_load_agg' (st : St M w0 w own) (T : TypeId) (x : Operand) (ho : o.op = .load T x) (hagg : ∀ w, (isAgg T).run P w = .ok true w) (n : Nat) (hsz : ∀ w, (sizeOf T).run P w = .ok n w)
    (h : ∃ (i g off : Nat) (T' : TypeId) (cs vs : List Value), A.eval x = .pointer (some ⟨g, off, none⟩) ∧ own[i]? = some (g, T', cs) ∧ (cs.drop off).take n = vs ∧ vs.length = n ∧ K (A.put o.dst (.agg vs.toArray)) w) : Oper.wp P o A w K Q := by
  obtain ⟨i, g, off, T', cs, vs, hx, hi, hv, hl, h⟩ := h
  exact wp_load_agg st T x ho g off hx hagg n hsz i T' cs hi vs hv hl h

theorem wp_store' (st : St M w0 w own) (T : TypeId) (x y : Operand) (ho : o.op = .store T x y) (n : Nat) (hsz : ∀ w, (sizeOf T).run P w = .ok n w)
    (h : ∃ (i g off : Nat) (T' : TypeId) (cs vs : List Value), A.eval x = .pointer (some ⟨g, off, none⟩) ∧ own[i]? = some (g, T', cs) ∧ (A.eval y).cells.toList = vs ∧ vs.length = n ∧ vs.all Value.oneCell' = true ∧ Nat.ble (off + vs.length) cs.length = true ∧
      ∀ w', St M w0 w' (own.set i (g, T', putL cs off vs)) → (∀ b, b ≠ g → w'.heap[b]? = w.heap[b]?) → w'.heap.size = w.heap.size → K (A.put o.dst undef) w') : Oper.wp P o A w K Q := by
  obtain ⟨i, g, off, T', cs, vs, hx, hi, hv, hl, h1, hle, h⟩ := h
  exact wp_store st T x y ho g off hx _ rfl vs hv (by rw [hl]; exact hsz) (by simpa using h1) i T' cs hi (Nat.le_of_ble_eq_true hle) h

end
end Go.Proofs.Ytnihccinpbpllaa

/- The walk through line.Answered's closure and the library's IndexFunc with it. -/
namespace Go.Proofs.Ytnihccinpbpllaa
open Go.RowKit

/-- A list of ours, opened: the block that it lies in, cell for cell. -/
theorem Own.open {base : Nat} {e : TypeId} {w : World} {α : Type} {sz : Nat} {R : List Value → α → Prop} {a : Option Addr} {c : Nat} {xs : List α} (h : Own base e w sz R a c xs) :
    (a = none ∧ xs = []) ∨ ∃ (g : Nat) (css : List (List Value)) (rest : List Value), a = some ⟨g, 0, none⟩ ∧ base ≤ g ∧ w.heap[g]? = some (.cells (css.flatten ++ rest).toArray e (0, 0)) ∧ css.length = xs.length ∧ (∀ cs ∈ css, cs.length = sz ∧ ∀ v ∈ cs, v.oneCell' = true) ∧
      (∀ (i : Nat) (x : α) (cs : List Value), xs[i]? = some x → css[i]? = some cs → R cs x) ∧ c ≤ maxLen ∧ xs.length ≤ c ∧ (css.flatten ++ rest).length = c * sz := by
  obtain ⟨css, h1, h2, h3, h4, h5⟩ := h
  rcases h5 with ⟨e1, e2⟩ | ⟨g, cap, cur, e1, hb, hg, hn, hm, hs, ht⟩
  · simp at e1
    exact .inl ⟨e1.1, List.eq_nil_of_length_eq_zero e2⟩
  · simp only [Value.slice.injEq] at e1
    obtain ⟨rfl, _, rfl⟩ := e1
    have hc : css.flatten ++ cur.toList.drop (xs.length * sz) = cur.toList := by rw [← ht, List.take_append_drop]
    refine .inr ⟨g, css, cur.toList.drop (xs.length * sz), rfl, hb, ?_, h1, h2, h3, hm, hn, ?_⟩
    · rw [hc]; simpa using hg
    · rw [hc]; simpa using hs

set_option maxHeartbeats 400000 in
/-- The closure: is it the one that is answered? -/
abbrev atSeq (seq : Int) (s : Sent) : Bool := s.frame.seq == seq

end Go.Proofs.Ytnihccinpbpllaa

/- The law on a region that draws its order, with a ghost: what the operations have made so far. No program is in sight. -/
namespace Go.Proofs.Ytnihccinpbpllaa
open Go.RowKit

section
variable {P : Program} {ops : Array Oper} {Q : Exit → Act → World → Prop}

/-- As wpAny_ahead; Rel tells which operation acts, and no operation need keep what it says itself; s is a ghost. -/
theorem wpAny_ghost (D : List (Nat × Option Tmp)) (S : List Nat) (hS : D.map (·.1) = S) (hok : aheadOk ops D = true) {σ : Type} (Rel : Nat → σ → World → σ → World → Prop) (G : Nat → Value → σ → World → Prop) (Inv : σ → World → Prop) (a0 : Act) (r : Nat)
    (mono : ∀ i k v s w s' w', i ∈ S → k ∈ S → i ≠ k → k ∉ predsOf ops i → Rel k s w s' w' → Inv s w → Inv s' w' → G i v s w → G i v s' w')
    (step : ∀ i t, (i, t) ∈ D → ∀ (x : Nat → Value) (s : σ) (w : World), Inv s w → (∀ j ∈ predsOf ops i, G j (x j) s w) → ∀ K : Act → World → Prop,
      (∀ v s' w', Rel i s w s' w' → Inv s' w' → G i v s' w' → K ((putAll x D a0).put t v) w') → wpOp P ops Q i K (putAll x D a0) w)
    (fin : ∀ (x : Nat → Value) (s : σ) (w : World), Inv s w → (∀ i ∈ S, G i (x i) s w) → wpAny P .any ops Q r (marked ops.size S) (putAll x D a0) w) :
    ∀ (k : Nat) (L : List Nat) (x : Nat → Value) (s : σ) (w : World), L.Nodup → (∀ i ∈ L, i ∈ S) → (∀ i ∈ L, ∀ j ∈ predsOf ops i, j ∈ L) → L.length + k = S.length → Inv s w → (∀ i ∈ L, G i (x i) s w) →
      wpAny P .any ops Q (k + r) (marked ops.size L) (putAll x D a0) w := by
  subst hS
  simp only [aheadOk, Bool.and_eq_true, List.all_eq_true, decide_eq_true_eq, List.mem_range] at hok
  obtain ⟨⟨hc1, hc2⟩, hc4⟩ := hok
  have hSn : (D.map (·.1)).Nodup := List.pairwise_map.2 (hc4.imp fun h => h.1)
  intro k
  induction k with
  | zero =>
    intro L x s w hL hsub hcl hlen hI hG
    have hall : ∀ i, i ∈ L ↔ i ∈ D.map (·.1) := fun i => ⟨hsub i, fun hi => Classical.byContradiction fun hn => by
      have h1 := nodup_le (List.nodup_cons.2 ⟨hn, hL⟩) fun j hj => by
        rcases List.mem_cons.1 hj with rfl | hj
        · exact hi
        · exact hsub j hj
      simp only [List.length_cons] at h1; omega⟩
    rw [Nat.zero_add, marked_congr hall]
    exact fin x s w hI fun i hi => hG i ((hall i).2 hi)
  | succ k ih =>
    intro L x s w hL hsub hcl hlen hI hG
    have hmem : ∀ i, i ∈ Region.ready .any ops (marked ops.size L) ↔ i < ops.size ∧ i ∉ L ∧ ∃ o, ops[i]? = some o ∧ ∀ e ∈ o.after, Region.binds .any e = true → e.on ∈ L ∧ e.on < ops.size := by
      intro i
      simp only [Region.ready, List.mem_filter, List.mem_range, Bool.and_eq_true, Bool.not_eq_true']
      constructor
      · rintro ⟨h1, h2, h3⟩
        rw [marked_get h1] at h2
        refine ⟨h1, by simpa using h2, ops[i], by simp [h1], fun e he hb => ?_⟩
        simp only [h1, getElem?_pos, Option.map_some, Option.getD_some, Array.all_eq_true_iff_forall_mem] at h3
        have := h3 e he
        rw [hb] at this
        simp only [Bool.not_true, Bool.false_or] at this
        by_cases hlt : e.on < ops.size
        · rw [marked_get hlt] at this
          exact ⟨by simpa using this, hlt⟩
        · have : (marked ops.size L).getD e.on false = false := by simp [marked, Array.getD, hlt]
          simp_all
      · rintro ⟨h1, h2, o, ho, h3⟩
        refine ⟨h1, by rw [marked_get h1]; simpa using h2, ?_⟩
        simp only [ho, Option.map_some, Option.getD_some, Array.all_eq_true_iff_forall_mem]
        intro e he
        cases hb : Region.binds .any e
        · simp
        · obtain ⟨h4, h5⟩ := h3 e he hb
          rw [marked_get h5]
          simpa using h4
    rw [show k + 1 + r = (k + r) + 1 by omega]
    refine ⟨fun hnil => ?_, fun i hi => ?_⟩
    · exfalso
      -- the least of S that is not carried out yet is ready
      have hex : ∃ i, i ∈ D.map (·.1) ∧ i ∉ L := Classical.byContradiction fun hn => by
        have h1 := nodup_le hSn (S := L) fun j hj => Classical.byContradiction fun hj' => hn ⟨j, hj, hj'⟩
        omega
      obtain ⟨i, ⟨hiS, hiL⟩, hmin⟩ : ∃ i, (i ∈ D.map (·.1) ∧ i ∉ L) ∧ ∀ j, j < i → ¬ (j ∈ D.map (·.1) ∧ j ∉ L) := by
        obtain ⟨i0, h0⟩ := hex
        induction i0 using Nat.strongRecOn with
        | _ i0 ih0 =>
          by_cases h : ∃ j, j < i0 ∧ j ∈ D.map (·.1) ∧ j ∉ L
          · obtain ⟨j, hj, hjS⟩ := h
            exact ih0 j hj hjS
          · exact ⟨i0, h0, fun j hj hjS => h ⟨j, hj, hjS⟩⟩
      obtain ⟨h1, h2⟩ := hc1 i hiS
      have : i ∈ Region.ready .any ops (marked ops.size L) := by
        rw [hmem]
        refine ⟨h1, hiL, ops[i], by simp [h1], fun e he hb => ?_⟩
        simp only [h1, getElem?_pos, Option.map_some, Option.getD_some, Array.all_eq_true_iff_forall_mem] at h2
        have h3 := h2 e he
        rw [hb] at h3
        simp only [Bool.not_true, Bool.false_or, Bool.and_eq_true, decide_eq_true_eq, List.contains_iff_mem] at h3
        exact ⟨Classical.byContradiction fun hn => hmin e.on h3.2 ⟨h3.1, hn⟩, (hc1 e.on h3.1).1⟩
      rw [hnil] at this
      simp at this
    · obtain ⟨h1, hiL, o, ho, hp⟩ := (hmem i).1 hi
      have hiS : i ∈ D.map (·.1) := by
        have h2 := hc2 i h1
        simp only [ho, Option.map_some, Option.getD_some, Bool.or_eq_true, List.contains_iff_mem, Array.any_eq_true', List.all_eq_true, Bool.and_eq_true, Bool.not_eq_true', beq_iff_eq] at h2
        rcases h2 with h2 | ⟨e, he, hb, hn⟩ | h2
        · exact h2
        · exfalso
          have := hsub _ (hp e he hb).1
          rw [← List.contains_iff_mem, hn] at this
          simp at this
        · exfalso
          have h4 : ∀ j ∈ predsOf ops i, j ∈ L := fun j hj => by
            simp only [predsOf, ho, Option.map_some, Option.getD_some, List.mem_map, List.mem_filter, Array.mem_toList_iff] at hj
            obtain ⟨e, ⟨he, hb⟩, rfl⟩ := hj
            exact (hp e he hb).1
          have h3 := nodup_le hSn (S := L) fun j hj => anc_sub hcl _ i h4 j (h2 j hj)
          omega
      have hpreL : ∀ j ∈ predsOf ops i, j ∈ L := fun j hj => by
        simp only [predsOf, ho, Option.map_some, Option.getD_some, List.mem_map, List.mem_filter, Array.mem_toList_iff] at hj
        obtain ⟨e, ⟨he, hb⟩, rfl⟩ := hj
        exact (hp e he hb).1
      have hpre : ∀ j ∈ predsOf ops i, G j (x j) s w := fun j hj => by
        simp only [predsOf, ho, Option.map_some, Option.getD_some, List.mem_map, List.mem_filter, Array.mem_toList_iff] at hj
        obtain ⟨e, ⟨he, hb⟩, rfl⟩ := hj
        exact hG _ (hp e he hb).1
      obtain ⟨⟨i', t⟩, hit, hii⟩ := List.mem_map.1 hiS
      have hii' : i = i' := hii.symm
      subst hii'
      refine step i t hit x s w hI hpre _ fun v s' w' hbw hI' hGv => ?_
      rw [put_putAll hit hc4, marked_set]
      refine ih (i :: L) (upd x i v) s' w' (List.nodup_cons.2 ⟨hiL, hL⟩) (fun j hj => ?_) (fun j hj m hm => ?_) (by simp only [List.length_cons]; omega) hI' fun j hj => ?_
      · rcases List.mem_cons.1 hj with rfl | hj
        · exact hiS
        · exact hsub j hj
      · rcases List.mem_cons.1 hj with rfl | hjL
        · exact List.mem_cons_of_mem _ (hpreL m hm)
        · exact List.mem_cons_of_mem _ (hcl j hjL m hm)
      · rcases List.mem_cons.1 hj with rfl | hjL
        · simpa [upd] using hGv
        · have hne : j ≠ i := by rintro rfl; exact hiL hjL
          rw [show upd x i v j = x j by simp [upd, hne]]
          exact mono j i _ s w s' w' (hsub j hjL) hiS hne (fun hm => hiL (hcl j hjL i hm)) hbw hI hI' (hG j hjL)

/-- THE LAW, at a region: the operations S come first, in whatever order; of each there is known G, in whatever order; the others follow. -/
theorem wp_region_ghost {id : Nat} {a0 : Act} {w : World} (hm : P.follows .mixedOrders = true) (D : List (Nat × Option Tmp)) (S : List Nat) (hS : D.map (·.1) = S) (r : Nat) (hok : aheadOk ops D = true) (hr : S.length + r = ops.size) {σ : Type} (Rel : Nat → σ → World → σ → World → Prop) (G : Nat → Value → σ → World → Prop) (Inv : σ → World → Prop) (s0 : σ) (hI : Inv s0 w.drew)
    (mono : ∀ i k v s w s' w', i ∈ S → k ∈ S → i ≠ k → k ∉ predsOf ops i → Rel k s w s' w' → Inv s w → Inv s' w' → G i v s w → G i v s' w')
    (step : ∀ i t, (i, t) ∈ D → ∀ (x : Nat → Value) (s : σ) (w : World), Inv s w → (∀ j ∈ predsOf ops i, G j (x j) s w) → ∀ K : Act → World → Prop,
      (∀ v s' w', Rel i s w s' w' → Inv s' w' → G i v s' w' → K ((putAll x D a0).put t v) w') → wpOp P ops Q i K (putAll x D a0) w)
    (fin : ∀ (x : Nat → Value) (s : σ) (w : World), Inv s w → (∀ i ∈ S, G i (x i) s w) → wpAny P .any ops Q r (marked ops.size S) (putAll x D a0) w) : (Code.region id ops true).wp P Q a0 w := by
  refine wp_region_any hm ?_
  rw [marked_nil]
  have h := wpAny_ghost (P := P) (Q := Q) D S hS hok Rel G Inv a0 r mono step fin S.length [] (lookD D a0) s0 w.drew List.nodup_nil (by simp) (by simp) (by simp) hI (by simp)
  rw [putAll_same a0 (lookD_at (by simp only [aheadOk, Bool.and_eq_true, decide_eq_true_eq] at hok; exact hok.2)), hr] at h
  exact h

end

theorem St.perm {M : List Nat} {w0 w : World} {own own' : Blks} (h : St M w0 w own) (hp : own.Perm own') : St M w0 w own' :=
  ⟨h.os, h.tape, h.output, h.size, h.frame, fun x hx => h.blk x (hp.mem_iff.2 hx), fun x hx => h.mine x (hp.mem_iff.2 hx), hp.pairwise h.ne fun h => h.symm⟩

theorem St.sub {M : List Nat} {w0 w : World} {own own' : Blks} (h : St M w0 w own) (hs : ∀ x ∈ own', x ∈ own) (hn : own'.Pairwise fun x y => x.1 ≠ y.1) : St M w0 w own' :=
  ⟨h.os, h.tape, h.output, h.size, h.frame, fun x hx => h.blk x (hs x hx), fun x hx => h.mine x (hs x hx), hn⟩

/-- What has been made since, beside what was known before. -/
theorem St.join {M : List Nat} {w0 w w' : World} {own own' : Blks} (h : St M w0 w own) (h' : St [] w w' own') : St M w0 w' (own ++ own') := by
  have hc := h.call h'.below
  refine ⟨hc.os, hc.tape, hc.output, hc.size, hc.frame, fun x hx => ?_, fun x hx => ?_, List.pairwise_append.2 ⟨h.ne, h'.ne, fun x hx y hy => ?_⟩⟩
  · rcases List.mem_append.1 hx with hx | hx
    · exact hc.blk x hx
    · exact h'.blk x hx
  · rcases List.mem_append.1 hx with hx | hx
    · exact h.mine x hx
    · rcases h'.mine x hx with h1 | h1
      · simp at h1
      · exact .inr (Nat.le_trans h.size h1)
  · have h1 := h.lt hx
    rcases h'.mine y hy with h2 | h2
    · simp at h2
    · omega

theorem putL_all : ∀ {cs vs : List Value}, vs.length = cs.length → putL cs 0 vs = vs
  | [], [], _ => rfl
  | [], _ :: _, h => by simp at h
  | _ :: _, [], h => by simp at h
  | c :: cs, v :: vs, h => by simp only [putL]; rw [putL_all (by simpa using h)]

/-- What two operations have made: their blocks, with their cells. -/
abbrev Two := Option (Nat × List Value) × Option (Nat × List Value)
def Two.own (T1 T2 : TypeId) (s : Two) : Blks := (s.1.map fun p => (p.1, T1, p.2)).toList ++ (s.2.map fun p => (p.1, T2, p.2)).toList
def Two.held (s : Two) (b : Nat) : Prop := s.1.map (·.1) = some b ∨ s.2.map (·.1) = some b
def Two.free (s : Two) (b : Nat) : Prop := ¬ s.held b

/-- The k-th operation has acted; a1, a2 are those that make the blocks, s1, s2 those that store there. -/
structure Two.Rel (a1 s1 a2 s2 k : Nat) (s : Two) (w : World) (s' : Two) (w' : World) : Prop where
  size : w.heap.size ≤ w'.heap.size
  keep : ∀ b, b < w.heap.size → s.free b → s'.free b ∧ w'.heap[b]? = w.heap[b]?
  one : k ≠ a1 → k ≠ s1 → s'.1 = s.1
  two : k ≠ a2 → k ≠ s2 → s'.2 = s.2
  one' : k ≠ a1 → ∀ g c, s.1 = some (g, c) → ∃ c', s'.1 = some (g, c') ∧ c'.length = c.length
  two' : k ≠ a2 → ∀ g c, s.2 = some (g, c) → ∃ c', s'.2 = some (g, c') ∧ c'.length = c.length

theorem Two.Rel.below {a1 s1 a2 s2 k : Nat} {s : Two} {w w' : World} (hb : Below w.heap.size w w') : Two.Rel a1 s1 a2 s2 k s w s w' :=
  ⟨hb.size, fun b hb' hf => ⟨hf, hb.block b hb'⟩, fun _ _ => rfl, fun _ _ => rfl, fun _ g c h => ⟨c, h, rfl⟩, fun _ g c h => ⟨c, h, rfl⟩⟩

theorem Two.old {B w : World} {T1 T2 : TypeId} {s : Two} (st : St [] B w (s.own T1 T2)) {b : Nat} (hb : b < B.heap.size) : s.free b := by
  intro hh
  obtain ⟨o1, o2⟩ := s
  rcases hh with hh | hh
  · cases o1 with
    | none => simp at hh
    | some p => have := st.mine (p.1, T1, p.2) (by simp [Two.own]); simp at hh; simp at this; omega
  · cases o2 with
    | none => simp at hh
    | some p => have := st.mine (p.1, T2, p.2) (by simp [Two.own]); simp at hh; simp at this; omega

theorem Two.new {B w : World} {T1 T2 : TypeId} {s : Two} (st : St [] B w (s.own T1 T2)) {b : Nat} (hb : w.heap.size ≤ b) : s.free b := by
  intro hh
  obtain ⟨o1, o2⟩ := s
  rcases hh with hh | hh
  · cases o1 with
    | none => simp at hh
    | some p => have := st.lt (x := (p.1, T1, p.2)) (by simp [Two.own]); simp at hh; simp at this; omega
  · cases o2 with
    | none => simp at hh
    | some p => have := st.lt (x := (p.1, T2, p.2)) (by simp [Two.own]); simp at hh; simp at this; omega

section
variable {P : Program} {B w : World} {T1 T2 : TypeId} {s : Two} {o : Oper} {A : Act} {Q : Exit → Act → World → Prop} {K : Act → World → Prop}

theorem Two.alloc1 (a1 s1 a2 s2 : Nat) (st : St [] B w (s.own T1 T2)) (ho : o.op = .alloc T1) (z : Value) (hz : ∀ w, (zeroValue T1).run P w = .ok z w) (cs : List Value) (hcs : z.cells.toList = cs)
    (h : ∀ (g : Nat) w', Two.Rel a1 s1 a2 s2 a1 s w (some (g, cs), s.2) w' → St [] B w' (Two.own T1 T2 (some (g, cs), s.2)) → K (A.put o.dst (.pointer (some ⟨g, 0, none⟩))) w') : Oper.wp P o A w K Q := by
  refine wp_alloc (St.start w) T1 ho z hz cs hcs fun g w' hg st' hb => h g w' ?_ ?_
  · refine ⟨hb.size, fun b hb' hf => ⟨?_, hb.block b hb'⟩, ?_, ?_, ?_, ?_⟩
    · intro hh
      apply hf
      rcases hh with hh | hh
      · first | exact .inl hh | (simp at hh; omega)
      · first | exact .inr hh | (simp at hh; omega)
    · first | exact fun _ _ => rfl | exact fun h _ => absurd rfl h
    · first | exact fun _ _ => rfl | exact fun h _ => absurd rfl h
    · first | exact fun _ g c h => ⟨c, h, rfl⟩ | exact fun h => absurd rfl h
    · first | exact fun _ g c h => ⟨c, h, rfl⟩ | exact fun h => absurd rfl h
  · refine (st.join st').sub ?_ ?_
    · obtain ⟨o1, o2⟩ := s
      cases o1 <;> cases o2 <;> simp [Two.own] <;> simp_all
    · obtain ⟨o1, o2⟩ := s
      have hlt := fun x hx => st.lt (x := x) hx
      cases o1 <;> cases o2 <;> simp [Two.own] <;> (try (simp [Two.own] at hlt)) <;> omega
theorem Two.alloc2 (a1 s1 a2 s2 : Nat) (st : St [] B w (s.own T1 T2)) (ho : o.op = .alloc T2) (z : Value) (hz : ∀ w, (zeroValue T2).run P w = .ok z w) (cs : List Value) (hcs : z.cells.toList = cs)
    (h : ∀ (g : Nat) w', Two.Rel a1 s1 a2 s2 a2 s w (s.1, some (g, cs)) w' → St [] B w' (Two.own T1 T2 (s.1, some (g, cs))) → K (A.put o.dst (.pointer (some ⟨g, 0, none⟩))) w') : Oper.wp P o A w K Q := by
  refine wp_alloc (St.start w) T2 ho z hz cs hcs fun g w' hg st' hb => h g w' ?_ ?_
  · refine ⟨hb.size, fun b hb' hf => ⟨?_, hb.block b hb'⟩, ?_, ?_, ?_, ?_⟩
    · intro hh
      apply hf
      rcases hh with hh | hh
      · first | exact .inl hh | (simp at hh; omega)
      · first | exact .inr hh | (simp at hh; omega)
    · first | exact fun _ _ => rfl | exact fun h _ => absurd rfl h
    · first | exact fun _ _ => rfl | exact fun h _ => absurd rfl h
    · first | exact fun _ g c h => ⟨c, h, rfl⟩ | exact fun h => absurd rfl h
    · first | exact fun _ g c h => ⟨c, h, rfl⟩ | exact fun h => absurd rfl h
  · refine (st.join st').sub ?_ ?_
    · obtain ⟨o1, o2⟩ := s
      cases o1 <;> cases o2 <;> simp [Two.own] <;> simp_all
    · obtain ⟨o1, o2⟩ := s
      have hlt := fun x hx => st.lt (x := x) hx
      cases o1 <;> cases o2 <;> simp [Two.own] <;> (try (simp [Two.own] at hlt)) <;> omega

theorem Two.store1 (a1 s1 a2 s2 : Nat) (st : St [] B w (s.own T1 T2)) (T : TypeId) (x y : Operand) (ho : o.op = .store T x y) (n : Nat) (hsz : ∀ w, (sizeOf T).run P w = .ok n w) (g : Nat) (c : List Value) (hs : s.1 = some (g, c)) (hx : A.eval x = .pointer (some ⟨g, 0, none⟩)) (vs : List Value) (hy : (A.eval y).cells.toList = vs) (hl : vs.length = n) (hn : c.length = n) (h1 : vs.all Value.oneCell' = true)
    (h : ∀ w', Two.Rel a1 s1 a2 s2 s1 s w (some (g, vs), s.2) w' → St [] B w' (Two.own T1 T2 (some (g, vs), s.2)) → K (A.put o.dst undef) w') : Oper.wp P o A w K Q := by
  obtain ⟨o1, o2⟩ := s
  simp only at hs
  subst hs
  refine wp_store' st T x y ho n hsz ⟨0, g, 0, T1, c, vs, hx, rfl, hy, hl, h1, ?_, fun w' st' hm hz => h w' ?_ ?_⟩
  · rw [Nat.ble_eq]; omega
  · refine ⟨by omega, fun b hb hf => ⟨hf, hm b fun e => hf (.inl (by simp [e]))⟩, fun _ h => absurd rfl h, fun _ _ => rfl, fun _ g' c' e => ?_, fun _ g c h => ⟨c, h, rfl⟩⟩
    simp at e
    exact ⟨vs, by simp [e.1], by rw [← e.2]; omega⟩
  · rw [putL_all (by omega)] at st'
    exact st'

theorem Two.store2 (a1 s1 a2 s2 : Nat) (st : St [] B w (s.own T1 T2)) (T : TypeId) (x y : Operand) (ho : o.op = .store T x y) (n : Nat) (hsz : ∀ w, (sizeOf T).run P w = .ok n w) (g : Nat) (c : List Value) (hs : s.2 = some (g, c)) (hx : A.eval x = .pointer (some ⟨g, 0, none⟩)) (vs : List Value) (hy : (A.eval y).cells.toList = vs) (hl : vs.length = n) (hn : c.length = n) (h1 : vs.all Value.oneCell' = true)
    (h : ∀ w', Two.Rel a1 s1 a2 s2 s2 s w (s.1, some (g, vs)) w' → St [] B w' (Two.own T1 T2 (s.1, some (g, vs))) → K (A.put o.dst undef) w') : Oper.wp P o A w K Q := by
  obtain ⟨o1, o2⟩ := s
  simp only at hs
  subst hs
  cases o1 with
  | none =>
    refine wp_store' st T x y ho n hsz ⟨0, g, 0, T2, c, vs, hx, rfl, hy, hl, h1, ?_, fun w' st' hm hz => h w' ?_ ?_⟩
    · rw [Nat.ble_eq]; omega
    · refine ⟨by omega, fun b hb hf => ⟨hf, hm b fun e => hf (.inr (by simp [e]))⟩, fun _ _ => rfl, fun _ h => absurd rfl h, fun _ g c h => ⟨c, h, rfl⟩, fun _ g' c' e => ?_⟩
      simp at e
      exact ⟨vs, by simp [e.1], by rw [← e.2]; omega⟩
    · rw [putL_all (by omega)] at st'
      exact st'
  | some p =>
    refine wp_store' st T x y ho n hsz ⟨1, g, 0, T2, c, vs, hx, rfl, hy, hl, h1, ?_, fun w' st' hm hz => h w' ?_ ?_⟩
    · rw [Nat.ble_eq]; omega
    · refine ⟨by omega, fun b hb hf => ⟨hf, hm b fun e => hf (.inr (by simp [e]))⟩, fun _ _ => rfl, fun _ h => absurd rfl h, fun _ g c h => ⟨c, h, rfl⟩, fun _ g' c' e => ?_⟩
      simp at e
      exact ⟨vs, by simp [e.1], by rw [← e.2]; omega⟩
    · rw [putL_all (by omega)] at st'
      exact st'

end

theorem SlR.two {a1 s1 a2 s2 k : Nat} {s s' : Two} {w w' : World} {α : Type} {sz : Nat} {R : List Value → α → Prop} {a : Option Addr} {c : Nat} {xs : List α} (h : SlR s.free w sz R a c xs) (hr : Two.Rel a1 s1 a2 s2 k s w s' w') : SlR s'.free w' sz R a c xs :=
  h.move hr.size (fun b hb ho => hr.keep b hb ho) fun _ _ h => h

end Go.Proofs.Ytnihccinpbpllaa

/- The walk through the library's DeleteFunc with line.Answered's closure. -/
namespace Go.Proofs.Ytnihccinpbpllaa
open Go.RowKit

theorem flat_at {sz : Nat} {rest : List Value} : ∀ {css : List (List Value)}, (∀ cs ∈ css, cs.length = sz) → ∀ {i : Nat} {cs : List Value}, css[i]? = some cs → ((css.flatten ++ rest).drop (i * sz)).take sz = cs
  | [], _, i, cs, h => by simp at h
  | c0 :: css, hs, 0, cs, h => by
    simp at h
    subst h
    have := hs c0 (by simp)
    simp [List.take_append_of_le_length, ← this]
  | c0 :: css, hs, i + 1, cs, h => by
    have hc := hs c0 (by simp)
    have := flat_at (rest := rest) (css := css) (fun c hc => hs c (by simp [hc])) (i := i) (cs := cs) (by simpa using h)
    rw [← this]
    simp only [List.flatten_cons, List.append_assoc]
    rw [show (i + 1) * sz = c0.length + i * sz by rw [hc, Nat.succ_mul]; omega, ← List.drop_drop, List.drop_left]

theorem putL_skip : ∀ (us : List Value) {cs vs : List Value} (o : Nat), putL (us ++ cs) (us.length + o) vs = us ++ putL cs o vs
  | [], _, _, o => by simp
  | u :: us, cs, vs, o => by
    have := putL_skip us (cs := cs) (vs := vs) o
    simp only [List.cons_append, List.length_cons]
    rw [show us.length + 1 + o = us.length + o + 1 by omega]
    simp only [putL, this]

theorem putL_front : ∀ {cs vs rest : List Value}, vs.length = cs.length → putL (cs ++ rest) 0 vs = vs ++ rest
  | [], [], rest, _ => by cases rest <;> rfl
  | [], _ :: _, _, h => by simp at h
  | _ :: _, [], _, h => by simp at h
  | c :: cs, v :: vs, rest, h => by simp only [List.cons_append, putL]; rw [putL_front (by simpa using h)]

theorem flat_put {sz : Nat} {rest vs : List Value} (hv : vs.length = sz) : ∀ {css : List (List Value)}, (∀ cs ∈ css, cs.length = sz) → ∀ {i : Nat}, i < css.length → putL (css.flatten ++ rest) (i * sz) vs = (css.set i vs).flatten ++ rest
  | [], _, i, h => by simp at h
  | c0 :: css, hs, 0, h => by
    have hc := hs c0 (by simp)
    simp only [List.flatten_cons, List.append_assoc, Nat.zero_mul, List.set_cons_zero]
    exact putL_front (by omega)
  | c0 :: css, hs, i + 1, h => by
    have hc := hs c0 (by simp)
    have := flat_put (rest := rest) hv (css := css) (fun c hc => hs c (by simp [hc])) (i := i) (by simpa using h)
    simp only [List.flatten_cons, List.append_assoc, List.set_cons_succ]
    rw [show (i + 1) * sz = c0.length + i * sz by rw [hc, Nat.succ_mul]; omega, putL_skip, this]

theorem flat_len {sz : Nat} {css : List (List Value)} (h : ∀ cs ∈ css, cs.length = sz) : css.flatten.length = css.length * sz := flatten_length h

theorem zero_cells (z : Array Value) (hz : 0 < z.size) (n : Nat) : (Builtin.zeroCells z n).toList = (List.replicate n z.toList).flatten := by
  apply List.ext_getElem?
  intro i
  have hl : ∀ cs ∈ List.replicate n z.toList, cs.length = z.size := fun cs h => by rw [List.eq_of_mem_replicate h]; simp
  by_cases hi : i < n * z.size
  · have h1 : i / z.size < n := Nat.div_lt_of_lt_mul (by rwa [Nat.mul_comm])
    have h2 := flatten_at hl (i := i / z.size) (cs := z.toList) (by rw [List.getElem?_replicate, if_pos h1]) (j := i % z.size) (v := z[i % z.size]'(Nat.mod_lt _ hz)) (by simp [List.getElem?_eq_getElem, Nat.mod_lt _ hz])
    rw [Nat.mul_comm, Nat.div_add_mod] at h2
    rw [h2]
    simp [Builtin.zeroCells, Array.getElem?_ofFn, hi, Nat.mod_lt _ hz]
  · rw [List.getElem?_eq_none, List.getElem?_eq_none]
    · rw [flatten_length hl]; simp; omega
    · simp [Builtin.zeroCells]; omega

theorem wpList_clear {P : Program} {w0 w : World} {M : List Nat} {own : Blks} {ops : Array Oper} {rest : List Oper} {o : Oper} {A : Act} {Q : Exit → Act → World → Prop} (st : St M w0 w own) (hgd : Region.wanted o (yielded ops A.tmps) = true) (x : Operand) (t e : TypeId)
    (ho : o.op = .call { callee := .builtin .clear, args := #[x], argTypes := #[t] }) (ht : P.underlying t = some (.slice e)) (z : Value) (hz : ∀ w, (zeroValue e).run P w = .ok z w) (zs : List Value) (hzs : z.cells.toList = zs) (hz0 : 0 < zs.length) (h1 : zs.all Value.oneCell' = true)
    (g off n c : Nat) (hx : A.eval x = .slice (some ⟨g, off, none⟩) n c) (hn : 0 < n) (i : Nat) (T : TypeId) (cs : List Value) (hi : own[i]? = some (g, T, cs)) (hle : off + n * zs.length ≤ cs.length)
    (h : ∀ w', St M w0 w' (own.set i (g, T, putL cs off (List.replicate n zs).flatten)) → w'.heap.size = w.heap.size → wpList P ops Q rest (A.put o.dst (.tuple #[])) w') : wpList P ops Q (o :: rest) A w := by
  have hsz : z.cells.size = zs.length := by rw [← hzs]; simp
  have hlz : ∀ cs ∈ List.replicate n zs, cs.length = zs.length := fun cs h => by rw [List.eq_of_mem_replicate h]
  have hvl : (List.replicate n zs).flatten.length = n * zs.length := by rw [flatten_length hlz]; simp
  have hzc : (Builtin.zeroCells z.cells n).toList = (List.replicate n zs).flatten := by rw [zero_cells _ (by omega), hzs]
  have hone : ∀ u ∈ (List.replicate n zs).flatten, u.oneCell' = true := fun u hu => by
    obtain ⟨cs, hcs, hu⟩ := List.mem_flatten.1 hu
    rw [List.eq_of_mem_replicate hcs] at hu
    exact List.all_eq_true.1 h1 u hu
  have hst : (storeCells ⟨g, off, none⟩ (List.replicate n zs).flatten 0).run P w = .ok () (w.setCells g off (List.replicate n zs).flatten) := run_storeCells_cells (P := P) g off _ 0 w
    (fun j hj => by rw [Nat.add_zero, st.cell hi]; rw [List.getElem?_eq_getElem (by omega)]; rfl) (fun j hj => by rw [Nat.add_zero]; exact st.free hi _) hone
  obtain ⟨a1, a2, a3, a4, a5, a6⟩ := setCells_block (w := w) (List.replicate n zs).flatten off cs (st.blk _ (List.mem_of_getElem? hi))
  have hs' := st.put hi a1 a2 a3 a4 a5 a6
  obtain ⟨m, rfl⟩ : ∃ m, n = m + 1 := ⟨n - 1, by omega⟩
  have hrun : ∀ ty, (Builtin.clear_ #[t] ty #[.slice (some ⟨g, off, none⟩) (m + 1) c]).run P w = .ok (.tuple #[]) (w.setCells g off (List.replicate (m + 1) zs).flatten) := fun ty => by
    simp [Builtin.clear_, run_underlying ht, hz, hzc, hst]
  refine wpList_wanted hgd fun K hK => ?_
  unfold Oper.wp
  simp [execOp, ho, resolve, invoke, builtin, hx, hrun, Result.andThen]
  exact hK _ _ (h _ hs' a3)

theorem putL_before : ∀ {cs : List Value} {o : Nat} {vs : List Value} {p : Nat}, p < o → (putL cs o vs)[p]? = cs[p]?
  | [], _, _, _, _ => by simp [putL]
  | c :: cs, 0, _, _, h => by omega
  | c :: cs, o + 1, vs, 0, _ => by simp [putL]
  | c :: cs, o + 1, vs, p + 1, h => by simp only [putL, List.getElem?_cons_succ]; exact putL_before (by omega)

/-- The front of a block, as a slice. -/
theorem SlR.front {w : World} {g : Nat} {T : TypeId} {cells : List Value} {cur : List (List Value)} {sz c : Nat} {α : Type} {R : List Value → α → Prop} {xs : List α} (hg : w.heap[g]? = some (.cells cells.toArray T (0, 0))) (hc : ∀ cs ∈ cur, cs.length = sz ∧ ∀ v ∈ cs, v.oneCell' = true)
    (hn : xs.length ≤ cur.length) (hcell : ∀ p, p < xs.length * sz → cells[p]? = cur.flatten[p]?) (hR : ∀ (m : Nat) (x : α) (cs : List Value), xs[m]? = some x → cur[m]? = some cs → R cs x) (hxc : xs.length ≤ c) (hcm : c ≤ maxLen) {ok : Nat → Prop} (ho : ok g) : SlR ok w sz R (some ⟨g, 0, none⟩) c xs := by
  refine ⟨hxc, hcm, by simp, fun i x hx => ?_⟩
  have hi := (List.getElem?_eq_some_iff.1 hx).1
  have hcur : cur[i]? = some (cur[i]'(by omega)) := List.getElem?_eq_getElem _
  have hcs := hc _ (List.mem_of_getElem? hcur)
  refine ⟨g, 0, cur[i]'(by omega), rfl, ho, (Array.getElem?_eq_some_iff.1 hg).1, hR i x _ hx hcur, hcs.1, hcs.2, fun j v hv => ?_⟩
  have hj := (List.getElem?_eq_some_iff.1 hv).1
  rw [hcs.1] at hj
  rw [cell_of_row w g _ cells.toArray T (0, 0) hg, List.getElem?_toArray, Nat.zero_add, hcell _ (by
    have : (i + 1) * sz ≤ xs.length * sz := Nat.mul_le_mul_right _ hi
    rw [Nat.succ_mul] at this
    omega)]
  exact flatten_at (fun cs h => (hc cs h).1) hcur hv

/-- Those that are kept. -/
abbrev offSeq (seq : Int) (s : Sent) : Bool := !(s.frame.seq == seq)

theorem del_keep {R : List Value → Sent → Prop} {q : Sent → Bool} {l : List Sent} {cur css : List (List Value)} {i j : Nat} (hjl : j < l.length) (hjc : j < css.length) (hq : q l[j] = true) (hi : i = ((l.take j).filter q).length) (hij : i < j) (hl : cur.length = l.length)
    (hB : ∀ (m : Nat) (x : Sent) (cs : List Value), ((l.take j).filter q)[m]? = some x → cur[m]? = some cs → R cs x) (hC : ∀ m, j ≤ m → cur[m]? = css[m]?) (hR : R css[j] l[j]) :
    i + 1 = ((l.take (j + 1)).filter q).length ∧ (∀ (m : Nat) (x : Sent) (cs : List Value), ((l.take (j + 1)).filter q)[m]? = some x → (cur.set i css[j])[m]? = some cs → R cs x) ∧ (∀ m, j + 1 ≤ m → (cur.set i css[j])[m]? = css[m]?) := by
  have e : (l.take (j + 1)).filter q = (l.take j).filter q ++ [l[j]] := by
    rw [List.take_succ_eq_append_getElem hjl, List.filter_append]
    simp [hq]
  rw [e]
  refine ⟨by simp [← hi], fun m x cs hx hc => ?_, fun m hm => ?_⟩
  · by_cases hm : m < i
    · rw [List.getElem?_append_left (by omega)] at hx
      rw [List.getElem?_set_ne (by omega)] at hc
      exact hB m x cs hx hc
    · have hlen := (List.getElem?_eq_some_iff.1 hx).1
      rw [List.length_append, ← hi, List.length_singleton] at hlen
      obtain rfl : m = i := by omega
      rw [List.getElem?_append_right (by omega), ← hi] at hx
      simp at hx
      rw [List.getElem?_set_self (by omega)] at hc
      simp at hc
      rw [← hx, ← hc]
      exact hR
  · rw [List.getElem?_set_ne (by omega)]
    exact hC m (by omega)

theorem del_drop {q : Sent → Bool} {l : List Sent} {j : Nat} (hjl : j < l.length) (hq : q l[j] = false) : (l.take (j + 1)).filter q = (l.take j).filter q := by
  rw [List.take_succ_eq_append_getElem hjl, List.filter_append]
  simp [hq]

end Go.Proofs.Ytnihccinpbpllaa

/- The walk through the reference's word on good lines. -/
namespace Go.Proofs.Ytnihccinpbpllaa
open Go.RowKit

end Go.Proofs.Ytnihccinpbpllaa

/- The walk through line.Take. -/
namespace Go.Proofs.Ytnihccinpbpllaa
open Go.RowKit

def Eight.get (e : Eight) : Nat → Bool
  | 0 => e.s0
  | 1 => e.s1
  | 2 => e.s2
  | 3 => e.s3
  | 4 => e.s4
  | 5 => e.s5
  | 6 => e.s6
  | 7 => e.s7
  | _ => false

def Eight.of (f : Nat → Bool) : Eight := ⟨f 0, f 1, f 2, f 3, f 4, f 5, f 6, f 7⟩
def Eight.yes (e : Eight) (k : Nat) : Eight := Eight.of fun j => if j = k then true else e.get j

/-- What a coming number makes of a line: the greatest number, what was seen, the code. -/
def takeC (good : Bool) (high seq : Int) (e : Eight) : Int × Eight × Int :=
  if good = false ∨ seq < 1 ∨ 1099511627776 < seq then (high, e, 2)
  else if seq ≤ high - 8 then (high, e, 11)
  else if seq ≤ high then (if e.get (high - seq).toNat = true then (high, e, 10) else (high, e.yes (high - seq).toNat, 0))
  else (seq, Eight.of fun j => if j = 0 then true else if seq - high ≤ j then e.get (j - (seq - high).toNat) else false, 0)

theorem lineOk_high {next high : Int} {sent : List Sent} {e : Eight} (h : lineOk ⟨next, sent, high, e⟩ = true) : 0 ≤ next ∧ next ≤ 1099511627775 ∧ 0 ≤ high ∧ high ≤ 1099511627776 ∧ sent.length ≤ 8 := by
  unfold lineOk at h
  by_cases hh : headOk next high sent.length = true
  · simpa [headOk] using hh
  · rw [if_neg hh] at h; simp at h

end Go.Proofs.Ytnihccinpbpllaa

/- The walk through line.Send. -/
namespace Go.Proofs.Ytnihccinpbpllaa
open Go.RowKit

/-- A frame of nothing, as a value. -/
def frameZ : Value := .agg #[.int .i64 0, .int .i64 0, .int .i64 0, .bool false, .int .i64 0, .int .i64 0, .int .i64 0, .slice none 0 0, .slice none 0 0, .string ⟨#[]⟩, .slice none 0 0]

end Go.Proofs.Ytnihccinpbpllaa

/- '==' and '!=' on the program's plain structs. -/
namespace Go.Proofs.Ytnihccinpbpllaa
open Go.RowKit

theorem eqin_Level (d : Nat) (a b : Lev) (W : World) : (Op.equalIn (d + 2) 43 (.agg #[.int .i64 a.c, .int .i64 a.l]) (.agg #[.int .i64 b.c, .int .i64 b.l])).run Try.prog W = .ok (decide (a = b)) W := by
  have h1 : Try.prog.underlying 43 = some (.struct (Try.prog.fieldsOf 43)) := by kernel_rfl
  have h2 : Try.prog.stoodInHeld 43 = false := by kernel_rfl
  have hU := Try.underlying43
  have hz : ∀ W, (sizeOf 3).run Try.prog W = .ok 1 W := Try.sizeOf3
  have ha : ∀ W, (isAgg 3).run Try.prog W = .ok false W := Try.isAgg3
  have e : ∀ d a b W, (Op.equalIn (d + 1) 3 (.int .i64 a) (.int .i64 b)).run Try.prog W = .ok (a == b) W := fun d a b W => run_equalIn_int W d _ _ _ a b Try.underlying3
  rw [run_equalIn_agg W (d + 1) _ _ _ h1 h2]
  obtain ⟨x, y⟩ := a
  obtain ⟨x', y'⟩ := b
  simp [Program.fieldsOf, hU, Op.eqFields, part, ha, hz, e _ _ _ W, Result.andThen]
  by_cases e1 : x = x' <;> by_cases e2 : y = y' <;> simp [e1, e2]

theorem neq_Level (a b : Lev) (r : Bool) (h : decide (a = b) = r) (W : World) : (binOp .neq 43 (.agg #[.int .i64 a.c, .int .i64 a.l]) (.agg #[.int .i64 b.c, .int .i64 b.l])).run Try.prog W = .ok (.bool (!r)) W := by
  rw [run_neq_struct, eqin_Level 9998 a b W, h]
  rfl

theorem eql_Level (a b : Lev) (r : Bool) (h : decide (a = b) = r) (W : World) : (binOp .eql 43 (.agg #[.int .i64 a.c, .int .i64 a.l]) (.agg #[.int .i64 b.c, .int .i64 b.l])).run Try.prog W = .ok (.bool r) W := by
  rw [run_eql_struct, eqin_Level 9998 a b W, h]
  rfl

theorem guard_Level (op : BinOp) (x y : Operand) (xs ys : Array Value) (W : World) : (eqGuard op 43 x y (.agg xs) (.agg ys)).run Try.prog W = .ok () W := run_eqGuard_agg W op _ x y xs ys (by kernel_rfl)

end Go.Proofs.Ytnihccinpbpllaa

/- The walks through the references' comparisons of lists. -/
namespace Go.Proofs.Ytnihccinpbpllaa
open Go.RowKit

theorem take_ne {α : Type} {a b : List α} {k : Nat} (ha : k < a.length) (hb : k < b.length) (h : a[k] ≠ b[k]) : a ≠ b := by
  rintro rfl
  exact h rfl

theorem take_eq_succ {α : Type} {a b : List α} {k : Nat} (ha : k < a.length) (hb : k < b.length) (h : a.take k = b.take k) (e : a[k] = b[k]) : a.take (k + 1) = b.take (k + 1) := by
  rw [List.take_succ_eq_append_getElem ha, List.take_succ_eq_append_getElem hb, h, e]

set_option maxHeartbeats 1000000 in
theorem ref_SameLabel (ok ok' : Nat → Prop) (w : World) (la : Option Addr) (lc : Nat) (ma : Option Addr) (mc : Nat) (a b : List Lev) (hA : SlR ok w 2 RLev la lc a) (hB : SlR ok' w 2 RLev ma mc b) :
    Calls Try.prog 9 #[.slice la a.length lc, .slice ma b.length mc] w fun e w' => e = .returned (.bool (decide (a = b))) ∧ Below w.heap.size w w' := by
  have hl : a.length ≤ 9223372036854775807 := by have h1 := hA.1; have h2 := hA.2.1; unfold maxLen at h2; omega
  have hm : b.length ≤ 9223372036854775807 := by have h1 := hB.1; have h2 := hB.2.1; unfold maxLen at h2; omega
  by_cases hn : a.length = b.length
  · have d1 : (((a.length : Nat) : Int) != ((b.length : Nat) : Int)) = false := by rw [hn]; simp
    have HN := Lib.hid hn
    have hlb : a.length ≤ b.length := by omega
    clear hn
    go_enter Try.func9, Try.ntmps9
    go_wp2
    go_loopw [13] (fun i wr => ∃ k : Nat, k ≤ a.length ∧ i = .int .i64 k ∧ Below w.heap.size w wr ∧ Hid (a.take k = b.take k)) (fun i _ => a.length - (intOf i).toNat)
    case atStart => exact ⟨0, Nat.zero_le _, rfl, Below.refl _ _, rfl⟩
    case round =>
      obtain ⟨k, hk, rfl, hBw, hI⟩ := hrel
      by_cases hlt : k < a.length
      · have hlt' : k < b.length := by omega
        obtain ⟨b1, o1, rfl, hb1, f1, f2⟩ := (hA.below hBw).lev_at k hlt
        obtain ⟨b2, o2, rfl, hb2, g1, g2⟩ := (hB.below hBw).lev_at k hlt'
        cases hd : decide (a[k] = b[k])
        all_goals
          have HD := Lib.hid hd
          have hne := neq_Level a[k] b[k] _ hd; have hgu := guard_Level
          first | (have hni : (a[k] != b[k]) = true := by simpa using hd) | (have hni : (a[k] != b[k]) = false := by simpa using hd) | skip
          clear hd
          go_wp2
          go_quiet (fail)
          go_wp2
        · go_ret
          have e : decide (a = b) = false := by simpa using take_ne hlt hlt' (by simpa using HD.out)
          exact ⟨by rw [e]; rfl, hBw.drewN _⟩
        · have HI := Lib.hid (take_eq_succ hlt hlt' hI.out (by simpa using HD.out))
          go_roundw
          case rel => exact ⟨k + 1, hlt, by go_num, hBw.drewN _, HI⟩
          case measure => simp [intOf]; omega
      · go_wp2
        go_ret
        have e : decide (a = b) = true := by
          have := hI.out
          rw [List.take_of_length_le (by omega), List.take_of_length_le (by have := HN.out; omega)] at this
          simpa using this
        exact ⟨by rw [e]; rfl, hBw⟩
  · have d1 : (((a.length : Nat) : Int) != ((b.length : Nat) : Int)) = true := by simp; omega
    have e : decide (a = b) = false := by simpa using fun e => hn (by rw [e])
    have HE := Lib.hid e
    clear e hn
    go_enter Try.func9, Try.ntmps9
    go_wp2
    go_ret
    exact ⟨by rw [HE.out]; rfl, Below.refl _ _⟩

end Go.Proofs.Ytnihccinpbpllaa

/- The walks through the references' comparisons of mail, frames, lines that read alike. -/
namespace Go.Proofs.Ytnihccinpbpllaa
open Go.RowKit

/-- Both lists that a mail holds. -/
structure MailR (ok : Nat → Prop) (w : World) (m : Mail) (la : Option Addr) (lc : Nat) (ga : Option Addr) (gc : Nat) : Prop where
  label : SlR ok w 2 RLev la lc m.label
  grants : SlR ok w 1 RInt ga gc m.grants
theorem MailR.below {ok : Nat → Prop} {w w' : World} {m : Mail} {la : Option Addr} {lc : Nat} {ga : Option Addr} {gc : Nat} (h : MailR ok w m la lc ga gc) (hb : Below w.heap.size w w') : MailR ok w' m la lc ga gc := ⟨h.label.below hb, h.grants.below hb⟩

structure FrameR (ok : Nat → Prop) (w : World) (f : Frame) (la : Option Addr) (lc : Nat) (ga : Option Addr) (gc : Nat) (ca : Option Addr) (cc : Nat) : Prop where
  mail : MailR ok w f.mail la lc ga gc
  certs : SlR ok w 4 RCert ca cc f.certs
theorem FrameR.below {ok : Nat → Prop} {w w' : World} {f : Frame} {la : Option Addr} {lc : Nat} {ga : Option Addr} {gc : Nat} {ca : Option Addr} {cc : Nat} (h : FrameR ok w f la lc ga gc ca cc) (hb : Below w.heap.size w w') : FrameR ok w' f la lc ga gc ca cc := ⟨h.mail.below hb, h.certs.below hb⟩

end Go.Proofs.Ytnihccinpbpllaa

/- The frame of a law's proof: a law answers true, and what it was given reads as before. No program is in sight. -/
namespace Go.Proofs.Ytnihccinpbpllaa
open Go.ChangeShapes Go.WideShapes Go.RowKit

section
variable {H : Type} {enc : TypeId × Value → H} {P : Program}

/-- A world of which 'Below' alone is known keeps whatever the row asks. -/
theorem post_of_below {f : Func} {s : ChangeSpec} {apart fresh handsOn again : Bool} {W W' : World} {args : Array Value} {v : Value} {ds gs : List (DataW H)} {before pa pv : List MemPlace}
    (hW : DataW.Whole enc P f.params.toList s.vars apart W args.toList ds gs before)
    (hres : ∀ (b : Nat) (sp : Nat → Bool) (hd : Bool), DataW.TrodAll enc P W' b sp hd f.resultTypes.toList (v.resultList f.resultTypes.size) (s.fn H (ds ++ gs)).results [])
    (hargs : ∀ sp : Nat → Bool, (∀ p ∈ before, sp p.block = true) → DataW.TrodAll enc P W' 0 sp true f.params.toList args.toList (s.fn H (ds ++ gs)).args pa)
    (hvars : ∀ sp : Nat → Bool, (∀ p ∈ before, sp p.block = true) → DataW.TrodVars enc P W' sp s.vars (s.fn H (ds ++ gs)).vars pv)
    (hps : before = pa ++ pv) (hb : Below W.heap.size W W')
    (hok : ∀ (j : Nat) (t : TypeId) (r : Value), f.resultTypes[j]? = some t → (v.resultList f.resultTypes.size)[j]? = some r → Value.okWide P W' .any 0 t r) :
    s.post enc P f apart fresh handsOn again W args v W' := by
  have hlt : ∀ p ∈ before, p.block < W.heap.size := fun p hp => hW.lt p hp
  have hold : ∀ p ∈ before, (fun b => decide (b < W.heap.size)) p.block = true := fun p hp => by simpa using hlt p hp
  refine ⟨ds, gs, before, [], pa, pv, hW, hres _ _ _, hargs _ hold, hvars _ hold, World.keptBut_mono (fun p hp => ⟨hp, ?_⟩) (hb.frame (· ∈ before)), fun _ => ?_⟩
  · rw [hps, List.mem_append] at hp
    exact Or.inr hp
  · obtain ⟨_, _, _, _, _, hz, hn⟩ := hW
    refine ⟨hok, _, _, ([] ++ pa) ++ pv, ⟨[] ++ pa, pv, trodAll_append (hargs _ (fun _ _ => rfl)) (hres _ _ _), hvars _ (fun _ _ => rfl), rfl, ?_, ?_⟩, ?_⟩
    · intro b off hp
      have hin : MemPlace.cell b off ∈ before := by rw [hps]; simpa using hp
      rw [hb.frozen (hlt _ hin)]
      exact hz b off hin
    · intro ha
      have := hn ha
      rw [hps] at this
      simpa using this
    · intro p hp _
      rw [hps]
      simpa using hp

/-- The arguments, read once more behind the call. -/
theorem args_again (hl : laidOutB P = true) {W W' : World} (hb : Below W.heap.size W W') (sp : Nat → Bool) : ∀ {ts : List TypeId} {vs : List Value} {ds : List (DataW H)} {ps : List MemPlace}, (∀ t ∈ ts, P.readableRec t = true ∧ t < P.types.size) →
    DataW.TrodAll enc P W 0 (fun _ => true) true ts vs ds ps → (∀ x ∈ ps, x.block < W.heap.size) → (∀ x ∈ ps, sp x.block = true) → DataW.TrodAll enc P W' 0 sp true ts vs ds ps
  | [], _, _, _, _, h, _, _ => by
    obtain ⟨rfl, rfl, rfl⟩ := trodAll_nil h
    exact trodAll_mk0
  | t :: ts, _, _, _, ht, h, hlt, hs => by
    obtain ⟨v, vs, d, ds, p, q, rfl, rfl, rfl, h1, h2⟩ := trodAll_cons h
    refine trodAll_cons_mk (WideElems.Trod_stays hl (ht t (by simp)).1 (ht t (by simp)).2 h1 (fun x hx => hb.same (hlt x (by simp [hx]))) fun x hx => hs x (by simp [hx])) ?_
    exact args_again hl hb sp (fun t h => ht t (by simp [h])) h2 (fun x hx => hlt x (by simp [hx])) fun x hx => hs x (by simp [hx])

/-- WHAT A LAW's ROW ASKS BEHIND THE CALL, from: it answered true; below the heap's old end nothing turned. -/
theorem law_post {f : Func} {s : ChangeSpec} {W W' : World} {args : Array Value} {ds gs : List (DataW H)} {before : List MemPlace} {tb : TypeId} (hl : laidOutB P = true) (htb : (f.params.toList.all fun t => P.readableRec t && decide (t < P.types.size)) = true)
    (hW : DataW.Whole enc P f.params.toList s.vars false W args.toList ds gs before) (hv : s.vars = []) (hfn : s.fn H (ds ++ gs) = { results := [.lit (.bool true)], args := ds })
    (hr : f.resultTypes = #[tb]) (hu : P.underlying tb = some .bool) (hb : Below W.heap.size W W') :
    s.post enc P f false true false false W args (.bool true) W' := by
  have hts : ∀ t ∈ f.params.toList, P.readableRec t = true ∧ t < P.types.size := fun t ht => by
    have := List.all_eq_true.1 htb t ht
    simpa using this
  have hW' := hW
  obtain ⟨p, q, hA, hV, rfl, hfz, hnd⟩ := hW
  rw [hv] at hV
  obtain ⟨rfl, rfl⟩ := trodVars_none hV
  have hlt : ∀ x ∈ p, x.block < W.heap.size := fun x hx => hW'.lt x (by simp [hx])
  refine post_of_below (pa := p) (pv := []) hW' (fun b sp hd => ?_) (fun sp hs => ?_) (fun sp hs => ?_) rfl hb ?_
  · rw [hfn, hr]
    exact trodAll_cons_mk (shut_bool hu _) trodAll_mk0
  · rw [hfn]
    exact args_again hl hb sp hts hA hlt fun x hx => hs x (by simp [hx])
  · rw [hfn, hv]
    rfl
  · exact ok_one hr rfl (okWide_bool_mk hu _)

end
end Go.Proofs.Ytnihccinpbpllaa

/- What the form reads as data, as records of ours. No program is in sight. -/
namespace Go.Proofs.Ytnihccinpbpllaa
open Go.ChangeShapes Go.WideShapes Go.RowKit

mutual
/-- How many values and letters (of maps: none) a reading holds. -/
def bk {H : Type} : DataW H → Nat
  | .lit (.string bytes) => bytes.length + 1
  | .lit _ => 1
  | .nil => 1
  | .ptr d => bk d + 1
  | .slice elems spare => bkAll elems + bkAll spare + 1
  | .agg parts => bkAll parts + 1
  | .iface _ d => bk d + 1
  | .map _ => 0
  | .held _ => 1
def bkAll {H : Type} : List (DataW H) → Nat
  | [] => 0
  | d :: r => bk d + bkAll r
end

/-- Whatever reads as data at type t is a record of ours: by R; what is weighed gives 'fit'; its mass is no greater than the bulk. -/
def Reads (P : Program) (t : TypeId) (sz : Nat) {α : Type} (R : World → List Value → α → Prop) (fit : α → Prop) (mass : α → Nat) : Prop :=
  ∀ (H : Type) (enc : TypeId × Value → H) (w : World) (fuel : Nat) (cs : List Value) (x : DataW H × List MemPlace),
    DataW.trod enc P w 0 (fun _ => true) true fuel t cs = some x → (∀ n ∈ x.1.weights P t, n ≤ reachBytes) →
    ∃ y : α, R w cs y ∧ cs.length = sz ∧ (∀ v ∈ cs, v.oneCell' = true) ∧ fit y ∧ mass y ≤ bk x.1

def fitI (n : Int) : Prop := -9223372036854775808 ≤ n ∧ n ≤ 9223372036854775807

theorem len1 {α : Type} {l : List α} (h : l.length = 1) : ∃ a0, l = [a0] := by
  match l, h with
  | [a0], _ => exact ⟨a0, rfl⟩
theorem len2 {α : Type} {l : List α} (h : l.length = 2) : ∃ a0 a1, l = [a0, a1] := by
  match l, h with
  | [a0, a1], _ => exact ⟨a0, a1, rfl⟩
theorem len3 {α : Type} {l : List α} (h : l.length = 3) : ∃ a0 a1 a2, l = [a0, a1, a2] := by
  match l, h with
  | [a0, a1, a2], _ => exact ⟨a0, a1, a2, rfl⟩
theorem len4 {α : Type} {l : List α} (h : l.length = 4) : ∃ a0 a1 a2 a3, l = [a0, a1, a2, a3] := by
  match l, h with
  | [a0, a1, a2, a3], _ => exact ⟨a0, a1, a2, a3, rfl⟩
theorem len5 {α : Type} {l : List α} (h : l.length = 5) : ∃ a0 a1 a2 a3 a4, l = [a0, a1, a2, a3, a4] := by
  match l, h with
  | [a0, a1, a2, a3, a4], _ => exact ⟨a0, a1, a2, a3, a4, rfl⟩
theorem len6 {α : Type} {l : List α} (h : l.length = 6) : ∃ a0 a1 a2 a3 a4 a5, l = [a0, a1, a2, a3, a4, a5] := by
  match l, h with
  | [a0, a1, a2, a3, a4, a5], _ => exact ⟨a0, a1, a2, a3, a4, a5, rfl⟩
theorem len7 {α : Type} {l : List α} (h : l.length = 7) : ∃ a0 a1 a2 a3 a4 a5 a6, l = [a0, a1, a2, a3, a4, a5, a6] := by
  match l, h with
  | [a0, a1, a2, a3, a4, a5, a6], _ => exact ⟨a0, a1, a2, a3, a4, a5, a6, rfl⟩
theorem len8 {α : Type} {l : List α} (h : l.length = 8) : ∃ a0 a1 a2 a3 a4 a5 a6 a7, l = [a0, a1, a2, a3, a4, a5, a6, a7] := by
  match l, h with
  | [a0, a1, a2, a3, a4, a5, a6, a7], _ => exact ⟨a0, a1, a2, a3, a4, a5, a6, a7, rfl⟩
theorem len9 {α : Type} {l : List α} (h : l.length = 9) : ∃ a0 a1 a2 a3 a4 a5 a6 a7 a8, l = [a0, a1, a2, a3, a4, a5, a6, a7, a8] := by
  match l, h with
  | [a0, a1, a2, a3, a4, a5, a6, a7, a8], _ => exact ⟨a0, a1, a2, a3, a4, a5, a6, a7, a8, rfl⟩
theorem len10 {α : Type} {l : List α} (h : l.length = 10) : ∃ a0 a1 a2 a3 a4 a5 a6 a7 a8 a9, l = [a0, a1, a2, a3, a4, a5, a6, a7, a8, a9] := by
  match l, h with
  | [a0, a1, a2, a3, a4, a5, a6, a7, a8, a9], _ => exact ⟨a0, a1, a2, a3, a4, a5, a6, a7, a8, a9, rfl⟩
theorem len11 {α : Type} {l : List α} (h : l.length = 11) : ∃ a0 a1 a2 a3 a4 a5 a6 a7 a8 a9 a10, l = [a0, a1, a2, a3, a4, a5, a6, a7, a8, a9, a10] := by
  match l, h with
  | [a0, a1, a2, a3, a4, a5, a6, a7, a8, a9, a10], _ => exact ⟨a0, a1, a2, a3, a4, a5, a6, a7, a8, a9, a10, rfl⟩
theorem len12 {α : Type} {l : List α} (h : l.length = 12) : ∃ a0 a1 a2 a3 a4 a5 a6 a7 a8 a9 a10 a11, l = [a0, a1, a2, a3, a4, a5, a6, a7, a8, a9, a10, a11] := by
  match l, h with
  | [a0, a1, a2, a3, a4, a5, a6, a7, a8, a9, a10, a11], _ => exact ⟨a0, a1, a2, a3, a4, a5, a6, a7, a8, a9, a10, a11, rfl⟩
theorem len13 {α : Type} {l : List α} (h : l.length = 13) : ∃ a0 a1 a2 a3 a4 a5 a6 a7 a8 a9 a10 a11 a12, l = [a0, a1, a2, a3, a4, a5, a6, a7, a8, a9, a10, a11, a12] := by
  match l, h with
  | [a0, a1, a2, a3, a4, a5, a6, a7, a8, a9, a10, a11, a12], _ => exact ⟨a0, a1, a2, a3, a4, a5, a6, a7, a8, a9, a10, a11, a12, rfl⟩
theorem len14 {α : Type} {l : List α} (h : l.length = 14) : ∃ a0 a1 a2 a3 a4 a5 a6 a7 a8 a9 a10 a11 a12 a13, l = [a0, a1, a2, a3, a4, a5, a6, a7, a8, a9, a10, a11, a12, a13] := by
  match l, h with
  | [a0, a1, a2, a3, a4, a5, a6, a7, a8, a9, a10, a11, a12, a13], _ => exact ⟨a0, a1, a2, a3, a4, a5, a6, a7, a8, a9, a10, a11, a12, a13, rfl⟩
theorem len15 {α : Type} {l : List α} (h : l.length = 15) : ∃ a0 a1 a2 a3 a4 a5 a6 a7 a8 a9 a10 a11 a12 a13 a14, l = [a0, a1, a2, a3, a4, a5, a6, a7, a8, a9, a10, a11, a12, a13, a14] := by
  match l, h with
  | [a0, a1, a2, a3, a4, a5, a6, a7, a8, a9, a10, a11, a12, a13, a14], _ => exact ⟨a0, a1, a2, a3, a4, a5, a6, a7, a8, a9, a10, a11, a12, a13, a14, rfl⟩
theorem len16 {α : Type} {l : List α} (h : l.length = 16) : ∃ a0 a1 a2 a3 a4 a5 a6 a7 a8 a9 a10 a11 a12 a13 a14 a15, l = [a0, a1, a2, a3, a4, a5, a6, a7, a8, a9, a10, a11, a12, a13, a14, a15] := by
  match l, h with
  | [a0, a1, a2, a3, a4, a5, a6, a7, a8, a9, a10, a11, a12, a13, a14, a15], _ => exact ⟨a0, a1, a2, a3, a4, a5, a6, a7, a8, a9, a10, a11, a12, a13, a14, a15, rfl⟩

section
variable {P : Program} {t : TypeId}

theorem reads_int (ht : P.underlying t = some (.int .i64)) : Reads P t 1 (fun _ cs (n : Int) => cs = [.int .i64 n]) fitI (fun _ => 1) := by
  intro H enc w fuel cs x hx _
  obtain ⟨n, rfl, rfl, hw⟩ := DataW.trod_int ht hx
  exact ⟨n, rfl, rfl, by simp [Value.oneCell'], bounds_i64 hw, by simp [bk]⟩

theorem reads_bool (ht : P.underlying t = some .bool) : Reads P t 1 (fun _ cs (b : Bool) => cs = [.bool b]) (fun _ => True) (fun _ => 1) := by
  intro H enc w fuel cs x hx _
  obtain ⟨b, rfl, rfl⟩ := DataW.trod_bool ht hx
  exact ⟨b, rfl, rfl, by simp [Value.oneCell'], trivial, by simp [bk]⟩

theorem reads_string (ht : P.underlying t = some .string) : Reads P t 1 (fun _ cs (s : ByteArray) => cs = [.string s]) (fun s => s.size ≤ 140737488351232) (fun s => s.size + 1) := by
  intro H enc w fuel cs x hx hw
  obtain ⟨s, rfl, rfl, _⟩ := DataW.trod_string ht hx
  have e : s.data.toList.length = s.size := by rw [Array.length_toList]; rfl
  refine ⟨s, rfl, rfl, by simp [Value.oneCell'], ?_, by simp only [bk, e]; omega⟩
  have := hw s.data.toList.length (by simp [DataW.weights])
  rw [e] at this
  exact this

theorem exists_list {α : Type} {Q : Nat → α → Prop} : ∀ {n : Nat}, (∀ i, i < n → ∃ y, Q i y) → ∃ l : List α, l.length = n ∧ ∀ i y, l[i]? = some y → Q i y := by
  intro n
  induction n with
  | zero => exact fun _ => ⟨[], rfl, by simp⟩
  | succ n ih =>
    intro h
    obtain ⟨l, h1, h2⟩ := ih fun i hi => h i (by omega)
    obtain ⟨y, hy⟩ := h n (by omega)
    refine ⟨l ++ [y], by simp [h1], fun i z hz => ?_⟩
    by_cases hi : i < n
    · rw [List.getElem?_append_left (by omega)] at hz
      exact h2 i z hz
    · have hl := (List.getElem?_eq_some_iff.1 hz).1
      simp [h1] at hl
      obtain rfl : i = n := by omega
      rw [List.getElem?_append_right (by omega), h1] at hz
      simp at hz
      subst hz
      exact hy

theorem cell_lt {w : World} {b o : Nat} {v : Value} (h : w.cell? ⟨b, o, none⟩ = some v) : b < w.heap.size := by
  rcases Nat.lt_or_ge b w.heap.size with hb | hb
  · exact hb
  · have e : w.heap[b]? = none := by simp [hb]
    simp [World.cell?, e] at h

theorem mass_le {α H : Type} {mass : α → Nat} : ∀ {l : List α} {es : List (DataW H × List MemPlace)}, l.length = es.length → (∀ (i : Nat) (y : α) (e : DataW H × List MemPlace), l[i]? = some y → es[i]? = some e → mass y ≤ bk e.1) → (l.map mass).sum ≤ bkAll (es.map (·.1)) := by
  intro l
  induction l with
  | nil => intro es _ _; simp
  | cons y l ih =>
    intro es hl h
    cases es with
    | nil => simp at hl
    | cons e es =>
      have h0 := h 0 y e rfl rfl
      have := ih (es := es) (by simpa using hl) fun i z d hz hd => h (i + 1) z d (by simpa using hz) (by simpa using hd)
      simp only [List.map_cons, List.sum_cons, bkAll]
      omega

theorem weights_all {H : Type} {e : TypeId} : ∀ {l : List (DataW H)} {d : DataW H}, d ∈ l → ∀ n ∈ d.weights P e, n ∈ DataW.weightsAll P e l := by
  intro l
  induction l with
  | nil => intro d hd; simp at hd
  | cons x l ih =>
    intro d hd n hn
    simp only [DataW.weightsAll, List.mem_append]
    rcases List.mem_cons.1 hd with rfl | hd
    · exact .inl hn
    · exact .inr (ih hd n hn)

theorem reads_slice {e : TypeId} {sz bytes : Nat} {α : Type} {R : World → List Value → α → Prop} {fit : α → Prop} {mass : α → Nat} (h : Reads P e sz R fit mass) (ht : P.underlying t = some (.slice e)) (hsz : P.cellsOf e = sz) (hpos : 0 < sz) (hb : P.bytesOf e = bytes) :
    Reads P t 1 (fun w cs (l : List α) => ∃ a c, cs = [.slice a l.length c] ∧ SlR (fun _ => True) w sz (R w) a c l) (fun l => l.length * bytes ≤ 140737488351232 ∧ ∀ x ∈ l, fit x) (fun l => (l.map mass).sum + 1) := by
  intro H enc w fuel cs x hx hw
  rcases DataW.trod_slice ht hx with ⟨rfl, rfl⟩ | ⟨a, len, cap, elems, rest, n, rfl, rfl, rfl, _, hle, hcap, hlen, hel, _, _⟩
  · exact ⟨[], ⟨none, 0, rfl, SlR.nil _ _ _ _⟩, rfl, by simp [Value.oneCell'], ⟨by simp, by simp⟩, by simp [bk]⟩
  · have hw0 : (elems.length + rest.length) * bytes ≤ 140737488351232 := by
      have := hw ((elems.length + rest.length) * P.bytesOf e) (by simp [DataW.weights, ht])
      rw [hb] at this
      exact this
    have hw1 : ∀ d ∈ elems.map (·.1), ∀ n ∈ d.weights P e, n ≤ reachBytes := fun d hd n hn => hw n (by
      simp only [DataW.weights, ht, List.mem_cons, List.mem_append]
      exact .inr (.inl (weights_all hd n hn)))
    have key : ∀ i, i < len → ∃ y, ∃ cs, w.cells? 0 (a.add (i * sz)) sz = some cs ∧ R w cs y ∧ cs.length = sz ∧ (∀ v ∈ cs, v.oneCell' = true) ∧ fit y ∧ ∀ d, elems[i]? = some d → mass y ≤ bk d.1 := by
      intro i hi
      have h1 := hel i hi
      rw [hsz] at h1
      have hi' : i < elems.length := by omega
      rw [List.getElem?_eq_getElem hi'] at h1
      obtain ⟨cs, hc, hd⟩ := Option.bind_eq_some_iff.1 h1
      obtain ⟨y, r1, r2, r3, r4, r5⟩ := h H enc w _ cs _ hd (hw1 _ (List.mem_map.2 ⟨_, List.getElem_mem hi', rfl⟩))
      refine ⟨y, cs, hc, r1, r2, r3, r4, fun d hd => ?_⟩
      rw [List.getElem?_eq_getElem hi'] at hd
      simp only [Option.some.injEq] at hd
      subst hd
      exact r5
    obtain ⟨l, hl, hq⟩ := exists_list key
    subst hl
    refine ⟨l, ⟨some a, cap, rfl, hle, hcap, by simp, fun i y hy => ?_⟩, rfl, by simp [Value.oneCell'], ⟨?_, fun y hy => ?_⟩, ?_⟩
    · obtain ⟨cs, hc, r1, r2, r3, r4, r5⟩ := hq i y hy
      obtain ⟨_, hcl, hcell⟩ := World.cells?_some hc
      have hspot : a.spot = none := by
        have h0l : 0 < l.length := by have := (List.getElem?_eq_some_iff.1 hy).1; omega
        obtain ⟨cs0, hc0, _, q2, _⟩ := hq 0 l[0] (by simp [h0l])
        obtain ⟨_, hcl0, hcell0⟩ := World.cells?_some hc0
        have h0 := hcell0 0 hpos
        rw [List.getElem?_eq_getElem (by omega)] at h0
        have := World.cell?_spot h0
        simpa [Addr.add] using this
      obtain ⟨b, off, spot⟩ := a
      simp only at hspot
      subst hspot
      have hcell' : ∀ j v, cs[j]? = some v → w.cell? ⟨b, off + i * sz + j, none⟩ = some v := by
        intro j v hj
        have hjl := (List.getElem?_eq_some_iff.1 hj).1
        have := hcell j (by omega)
        rw [Go.WideShapes.add_plain, Go.WideShapes.add_plain] at this
        rw [this]
        exact hj
      have hb0 := hcell' 0 cs[0] (by simp)
      exact ⟨b, off, cs, rfl, trivial, cell_lt hb0, r1, r2, r3, hcell'⟩
    · have : l.length * bytes ≤ (elems.length + rest.length) * bytes := Nat.mul_le_mul_right _ (by omega)
      omega
    · obtain ⟨i, hi⟩ := List.mem_iff_getElem?.1 hy
      obtain ⟨cs, hc, r1, r2, r3, r4, r5⟩ := hq i y hi
      exact r4
    · have := mass_le (mass := mass) (l := l) (es := elems) (by omega) fun i y d hy hd => by
        obtain ⟨cs, hc, r1, r2, r3, r4, r5⟩ := hq i y hy
        exact r5 d hd
      simp only [bk]
      omega

/-- A record's fields, read one by one. -/
theorem reads_fields {fs : Array Field} {α : Type} {sz : Nat} {R : World → List Value → α → Prop} {fit : α → Prop} {mass : α → Nat} (ht : P.underlying t = some (.struct fs)) (hsz : P.cellsOf t = sz)
    (h : ∀ (H : Type) (enc : TypeId × Value → H) (w : World) (n : Nat) (cs : List Value) (xs : List (DataW H × List MemPlace)), cs.length = sz → xs.length = fs.size →
      (∀ (i : Nat) (f : Field), fs[i]? = some f → DataW.trod enc P w 0 (fun _ => true) true n f.type ((cs.drop f.offset).take (P.cellsOf f.type)) = xs[i]?) →
      (∀ (i : Nat) (f : Field) (x : DataW H × List MemPlace), fs[i]? = some f → xs[i]? = some x → ∀ n ∈ x.1.weights P f.type, n ≤ reachBytes) →
      ∃ y : α, R w cs y ∧ (∀ v ∈ cs, v.oneCell' = true) ∧ fit y ∧ mass y ≤ bkAll (xs.map (·.1)) + 1) : Reads P t sz R fit mass := by
  intro H enc w fuel cs x hx hw
  obtain ⟨xs, n, rfl, rfl, hl, hn, hf⟩ := DataW.trod_struct ht hx
  rw [hsz] at hl
  have hw' : ∀ n ∈ DataW.weightsEach P (fs.toList.map (·.type)) (xs.map (·.1)), n ≤ reachBytes := fun n hn => hw n (by simp only [DataW.weights, ht]; exact hn)
  obtain ⟨y, r1, r2, r3, r4⟩ := h H enc w n cs xs hl hn hf fun i f x hfi hx m hm => hw' m (DataW.weights_mem_each (j := i) (t := f.type) (d := x.1) (by simp only [List.getElem?_map, Array.getElem?_toList, hfi]; rfl) (by simp only [List.getElem?_map, hx]; rfl) m hm)
  exact ⟨y, r1, hl, r2, r3, by simp only [bk]; exact r4⟩

/-! ### Arguments -/

theorem arg_int {H : Type} {enc : TypeId × Value → H} {w : World} {r : Reach} {b0 : Nat} {v : Value} {d : DataW H} {p : List MemPlace} (ht : P.underlying t = some (.int .i64)) (hval : Value.okWide P w r b0 t v) (hd : DataW.Trod enc P w 0 (fun _ => true) true t v d p) :
    ∃ n : Int, v = .int .i64 n ∧ fitI n := by
  obtain ⟨n, rfl⟩ := okWide_int ht hval
  obtain ⟨fuel, hf⟩ := hd
  obtain ⟨m, hm, _, hw⟩ := DataW.trod_int ht hf
  simp only [Value.cells, List.cons.injEq, Value.int.injEq, and_true, true_and] at hm
  subst hm
  exact ⟨n, rfl, bounds_i64 hw⟩

theorem arg_string {H : Type} {enc : TypeId × Value → H} {w : World} {r : Reach} {b0 : Nat} {v : Value} {d : DataW H} {p : List MemPlace} (ht : P.underlying t = some .string) (hval : Value.okWide P w r b0 t v) (hd : DataW.Trod enc P w 0 (fun _ => true) true t v d p) (hw : ∀ n ∈ d.weights P t, n ≤ reachBytes) :
    ∃ s : ByteArray, v = .string s ∧ s.size ≤ 140737488351232 ∧ s.size + 1 ≤ bk d := by
  obtain ⟨s, rfl⟩ := okWide_string ht hval
  obtain ⟨fuel, hf⟩ := hd
  obtain ⟨y, h1, _, _, h4, h5⟩ := reads_string ht H enc w fuel _ _ hf hw
  simp only [Value.cells, List.cons.injEq, Value.string.injEq, and_true] at h1
  subst h1
  exact ⟨s, rfl, h4, h5⟩

theorem arg_slice {H : Type} {enc : TypeId × Value → H} {w : World} {r : Reach} {b0 : Nat} {v : Value} {d : DataW H} {p : List MemPlace} {e : TypeId} {sz bytes : Nat} {α : Type} {R : World → List Value → α → Prop} {fit : α → Prop} {mass : α → Nat}
    (h : Reads P e sz R fit mass) (ht : P.underlying t = some (.slice e)) (hsz : P.cellsOf e = sz) (hpos : 0 < sz) (hb : P.bytesOf e = bytes) (hval : Value.okWide P w r b0 t v) (hd : DataW.Trod enc P w 0 (fun _ => true) true t v d p) (hw : ∀ n ∈ d.weights P t, n ≤ reachBytes) :
    ∃ (l : List α) (a : Option Addr) (c : Nat), v = .slice a l.length c ∧ SlR (fun _ => True) w sz (R w) a c l ∧ l.length * bytes ≤ 140737488351232 ∧ (∀ x ∈ l, fit x) ∧ (l.map mass).sum + 1 ≤ bk d := by
  obtain ⟨a, n, c, rfl⟩ := okWide_slice ht hval
  obtain ⟨fuel, hf⟩ := hd
  obtain ⟨l, ⟨a', c', h1, h2⟩, _, _, ⟨h4, h5⟩, h6⟩ := reads_slice h ht hsz hpos hb H enc w fuel _ _ hf hw
  simp only [Value.cells, List.cons.injEq, Value.slice.injEq, and_true] at h1
  obtain ⟨rfl, rfl, rfl⟩ := h1
  exact ⟨l, a, c, rfl, h2, h4, h5, h6⟩

theorem arg_struct {H : Type} {enc : TypeId × Value → H} {w : World} {r : Reach} {b0 : Nat} {v : Value} {d : DataW H} {p : List MemPlace} {fs : Array Field} {sz : Nat} {α : Type} {R : World → List Value → α → Prop} {fit : α → Prop} {mass : α → Nat}
    (h : Reads P t sz R fit mass) (ht : P.underlying t = some (.struct fs)) (hval : Value.okWide P w r b0 t v) (hd : DataW.Trod enc P w 0 (fun _ => true) true t v d p) (hw : ∀ n ∈ d.weights P t, n ≤ reachBytes) :
    ∃ (y : α) (cs : List Value), v = .agg cs.toArray ∧ R w cs y ∧ fit y ∧ mass y ≤ bk d := by
  obtain ⟨cs, rfl, _⟩ := okWide_struct ht hval
  obtain ⟨fuel, hf⟩ := hd
  obtain ⟨y, h1, _, _, h4, h5⟩ := h H enc w fuel _ _ hf hw
  exact ⟨y, cs.toList, by simp, h1, h4, h5⟩

end
end Go.Proofs.Ytnihccinpbpllaa

/- What reads as data at the program's structs, as records of ours (printed by opens.py). -/
namespace Go.Proofs.Ytnihccinpbpllaa
open Go.RowKit

theorem reads_Int : Reads Try.prog 3 1 (fun _ => RInt) fitI (fun _ => 1) := reads_int Try.underlying3

def Eight.list (e : Eight) : List Value := [.bool e.s0, .bool e.s1, .bool e.s2, .bool e.s3, .bool e.s4, .bool e.s5, .bool e.s6, .bool e.s7]

def RLine (ok : Nat → Prop) (w : World) (cs : List Value) (L : Line) : Prop :=
  ∃ sa sc, cs = [.int .i64 L.next, .slice sa L.sent.length sc, .int .i64 L.high, .bool L.seen.s0, .bool L.seen.s1, .bool L.seen.s2, .bool L.seen.s3, .bool L.seen.s4, .bool L.seen.s5, .bool L.seen.s6, .bool L.seen.s7] ∧ SentR ok w sa sc L.sent

def Lev.fit (x : Lev) : Prop := fitI x.c ∧ fitI x.l
def Lev.mass (x : Lev) : Nat := 1 + 1

theorem reads_Lev : Reads Try.prog 43 2 (fun _ cs (x : Lev) => RLev cs x) Lev.fit Lev.mass := by
  refine reads_fields Try.underlying43 (by kernel_rfl) ?_
  intro H enc w n cs xs hl hn hf hw
  have k0 : Try.prog.cellsOf 3 = 1 := by kernel_rfl
  obtain ⟨c0, c1, rfl⟩ := len2 hl
  obtain ⟨x0, x1, rfl⟩ := len2 hn
  have h0 : DataW.trod enc Try.prog w 0 (fun _ => true) true n 3 (([c0, c1].drop 0).take (Try.prog.cellsOf 3)) = some x0 := hf 0 _ rfl
  have w0 : ∀ n ∈ x0.1.weights Try.prog 3, n ≤ reachBytes := hw 0 _ _ rfl rfl
  rw [k0] at h0
  obtain ⟨y0, r0, _, o0, f0, m0⟩ := (reads_int Try.underlying3) H enc w n _ _ h0 w0
  simp only [List.drop_succ_cons, List.drop_zero, List.take_succ_cons, List.take_zero, List.cons.injEq, and_true] at r0 o0
  have h1 : DataW.trod enc Try.prog w 0 (fun _ => true) true n 3 (([c0, c1].drop 1).take (Try.prog.cellsOf 3)) = some x1 := hf 1 _ rfl
  have w1 : ∀ n ∈ x1.1.weights Try.prog 3, n ≤ reachBytes := hw 1 _ _ rfl rfl
  rw [k0] at h1
  obtain ⟨y1, r1, _, o1, f1, m1⟩ := (reads_int Try.underlying3) H enc w n _ _ h1 w1
  simp only [List.drop_succ_cons, List.drop_zero, List.take_succ_cons, List.take_zero, List.cons.injEq, and_true] at r1 o1
  subst r0
  subst r1
  try dsimp only at m0
  try dsimp only at m1
  exact ⟨⟨y0, y1⟩, rfl, by simp [Value.oneCell'], ⟨f0, f1⟩, by simp only [Lev.mass, bkAll, List.map_cons, List.map_nil]; omega⟩

def Cert.fit (x : Cert) : Prop := fitI x.c ∧ fitI x.by_ ∧ fitI x.host ∧ fitI x.till
def Cert.mass (x : Cert) : Nat := 1 + 1 + 1 + 1

theorem reads_LLev : Reads Try.prog 23 1 (fun w cs (l : List Lev) => ∃ a c, cs = [.slice a l.length c] ∧ SlR (fun _ => True) w 2 ((fun w cs x => RLev cs x) w) a c l) (fun l => l.length * 16 ≤ 140737488351232 ∧ ∀ y ∈ l, y.fit) (fun l => (l.map (Lev.mass)).sum + 1) :=
  reads_slice (fit := Lev.fit) (mass := Lev.mass) reads_Lev Try.underlying23 (by kernel_rfl) (by decide) (by kernel_rfl)

theorem reads_LInt : Reads Try.prog 28 1 (fun w cs (l : List Int) => ∃ a c, cs = [.slice a l.length c] ∧ SlR (fun _ => True) w 1 ((fun _ => RInt) w) a c l) (fun l => l.length * 8 ≤ 140737488351232 ∧ ∀ y ∈ l, fitI y) (fun l => (l.map (fun _ => 1)).sum + 1) :=
  reads_slice (fit := fitI) (mass := fun _ => 1) reads_Int Try.underlying28 (by kernel_rfl) (by decide) (by kernel_rfl)

def Mail.fit (x : Mail) : Prop := fitI x.host ∧ fitI x.thread ∧ (x.label.length * 16 ≤ 140737488351232 ∧ ∀ y ∈ x.label, y.fit) ∧ (x.grants.length * 8 ≤ 140737488351232 ∧ ∀ y ∈ x.grants, fitI y) ∧ x.text.size ≤ 140737488351232
def Mail.mass (x : Mail) : Nat := 1 + 1 + ((x.label.map Lev.mass).sum + 1) + ((x.grants.map fun _ => 1).sum + 1) + (x.text.size + 1)

def Frame.fit (x : Frame) : Prop := fitI x.src ∧ fitI x.dst ∧ fitI x.seq ∧ True ∧ fitI x.thread ∧ x.mail.fit ∧ (x.certs.length * 32 ≤ 140737488351232 ∧ ∀ y ∈ x.certs, y.fit)
def Frame.mass (x : Frame) : Nat := 1 + 1 + 1 + 1 + 1 + x.mail.mass + ((x.certs.map Cert.mass).sum + 1)

def Sent.fit (x : Sent) : Prop := x.frame.fit ∧ fitI x.tries ∧ fitI x.due
def Sent.mass (x : Sent) : Nat := x.frame.mass + 1 + 1

def Line.fit (x : Line) : Prop := fitI x.next ∧ (x.sent.length * 160 ≤ 140737488351232 ∧ ∀ y ∈ x.sent, y.fit) ∧ fitI x.high ∧ True
def Line.mass (x : Line) : Nat := 1 + ((x.sent.map Sent.mass).sum + 1) + 1 + 1

end Go.Proofs.Ytnihccinpbpllaa

/- What lies apart from the blocks that a region's operations have made: lines' and frames' lists. -/
namespace Go.Proofs.Ytnihccinpbpllaa
open Go.RowKit

theorem RSent.two {a1 s1 a2 s2 k : Nat} {s s' : Two} {w w' : World} (hr : Two.Rel a1 s1 a2 s2 k s w s' w') {cs : List Value} {x : Sent} (h : RSent s.free w cs x) : RSent s'.free w' cs x := h.move hr.size fun b hb ho => hr.keep b hb ho
theorem SentR.two {a1 s1 a2 s2 k : Nat} {s s' : Two} {w w' : World} {a : Option Addr} {c : Nat} {xs : List Sent} (h : SentR s.free w a c xs) (hr : Two.Rel a1 s1 a2 s2 k s w s' w') : SentR s'.free w' a c xs :=
  SlR.move h hr.size (fun b hb ho => hr.keep b hb ho) fun _ _ h => RSent.two hr h
theorem FrameR.two {a1 s1 a2 s2 k : Nat} {s s' : Two} {w w' : World} {f : Frame} {la : Option Addr} {lc : Nat} {ga : Option Addr} {gc : Nat} {ca : Option Addr} {cc : Nat} (h : FrameR s.free w f la lc ga gc ca cc) (hr : Two.Rel a1 s1 a2 s2 k s w s' w') : FrameR s'.free w' f la lc ga gc ca cc :=
  ⟨⟨h.mail.label.two hr, h.mail.grants.two hr⟩, h.certs.two hr⟩
theorem FrameR.move {ok ok' : Nat → Prop} {w w' : World} {f : Frame} {la : Option Addr} {lc : Nat} {ga : Option Addr} {gc : Nat} {ca : Option Addr} {cc : Nat} (h : FrameR ok w f la lc ga gc ca cc) (hs : w.heap.size ≤ w'.heap.size) (hk : ∀ b, b < w.heap.size → ok b → ok' b ∧ w'.heap[b]? = w.heap[b]?) : FrameR ok' w' f la lc ga gc ca cc :=
  ⟨⟨h.mail.label.move hs hk fun _ _ h => h, h.mail.grants.move hs hk fun _ _ h => h⟩, h.certs.move hs hk fun _ _ h => h⟩
theorem SentR.move {ok ok' : Nat → Prop} {w w' : World} {a : Option Addr} {c : Nat} {xs : List Sent} (h : SentR ok w a c xs) (hs : w.heap.size ≤ w'.heap.size) (hk : ∀ b, b < w.heap.size → ok b → ok' b ∧ w'.heap[b]? = w.heap[b]?) : SentR ok' w' a c xs :=
  SlR.move h hs hk fun _ _ h => RSent.move h hs hk

theorem fitsF {f : Frame} (h : f.fit) : f.Fits := by
  obtain ⟨_, _, _, _, _, ⟨_, _, ⟨h3, _⟩, ⟨h4, _⟩, _⟩, ⟨h5, _⟩⟩ := h
  exact ⟨by omega, by omega, by omega⟩

theorem fitsL {L : Line} (h : L.fit) : L.sent.length * 160 ≤ 140737488355328 ∧ ∀ s ∈ L.sent, s.frame.Fits := by
  obtain ⟨_, ⟨h1, h2⟩, _⟩ := h
  exact ⟨by omega, fun s hs => fitsF (h2 s hs).1⟩

end Go.Proofs.Ytnihccinpbpllaa

/- The walks through line.Answered and the reference's word on it. -/
namespace Go.Proofs.Ytnihccinpbpllaa
open Go.RowKit

/-- A call that leaves whatever lies below B as it was. -/
theorem St.callB {M : List Nat} {w0 w w' : World} {own : Blks} (h : St M w0 w own) {B : Nat} (hb : Below B w w') (h0 : w0.heap.size ≤ B) (hlt : ∀ x ∈ own, x.1 < B) : St M w0 w' own :=
  ⟨hb.os.trans h.os, hb.tape.trans h.tape, hb.output.trans h.output, Nat.le_trans h.size hb.size, fun b hb' hM => (hb.block b (by omega)).trans (h.frame b hb' hM), fun x hx => (hb.block x.1 (hlt x hx)).trans (h.blk x hx), h.mine, h.ne⟩

/-- What an answer makes of it: the error, and what is left. -/
def answX (g : Bool) (sent : List Sent) (seq : Int) : Int × List Sent :=
  if g = false then (2, sent) else if (sent.filter (offSeq seq)).length = sent.length then (4, sent) else (0, sent.filter (offSeq seq))

end Go.Proofs.Ytnihccinpbpllaa

/- The walk through the reference's word on an answer. -/
namespace Go.Proofs.Ytnihccinpbpllaa
open Go.RowKit

/-- A row of ours, that lies in what is new, has grown. -/
theorem St.grownNew {M : List Nat} {w0 w w' : World} {own : Blks} {row : Option Nat} (st : St M w0 w own) (hg : w.grownBy w' row) (hrow : ∀ k, row = some k → w0.heap.size ≤ k) (hn : ∀ x ∈ own, row ≠ some x.1) : St M w0 w' own := by
  refine ⟨hg.os.trans st.os, hg.tape.trans st.tape, hg.output.trans st.output, Nat.le_trans st.size hg.size, fun b hb hM => ?_, fun x hx => ?_, st.mine, st.ne⟩
  · rw [hg.block b (Nat.lt_of_lt_of_le hb st.size) (fun e => by have := hrow _ e.symm; omega), st.frame b hb hM]
  · rw [hg.block _ (st.lt hx) fun e => hn x hx e.symm]
    exact st.blk x hx

theorem St.comp {M : List Nat} {w0 w1 w2 : World} {own1 own2 : Blks} (h1 : St M w0 w1 own1) (h2 : St M w1 w2 own2) : St M w0 w2 own2 :=
  ⟨h2.os.trans h1.os, h2.tape.trans h1.tape, h2.output.trans h1.output, Nat.le_trans h1.size h2.size, fun b hb hM => (h2.frame b (Nat.lt_of_lt_of_le hb h1.size) hM).trans (h1.frame b hb hM), h2.blk,
    fun x hx => (h2.mine x hx).imp id fun h => Nat.le_trans h1.size h, h2.ne⟩

end Go.Proofs.Ytnihccinpbpllaa

/- The law on a region that draws its order, where what is known depends on what has been carried out. No program is in sight. -/
namespace Go.Proofs.Ytnihccinpbpllaa
open Go.RowKit

section
variable {P : Program} {ops : Array Oper} {Q : Exit → Act → World → Prop}

/-- As wpAny_ahead, 'Inv' told which operations are done; Rel tells which operation acts, and no operation need keep what it says itself; s is a ghost. -/
theorem wpAny_done1 (D : List (Nat × Option Tmp)) (S : List Nat) (hS : D.map (·.1) = S) (hok : aheadOk ops D = true) {σ : Type} (Rel : Nat → σ → World → σ → World → Prop) (G : Nat → Value → σ → World → Prop) (Inv : List Nat → σ → World → Prop) (a0 : Act) (r : Nat)
    (mono : ∀ i k v s w s' w', i ∈ S → k ∈ S → i ≠ k → k ∉ predsOf ops i → Rel k s w s' w' → G i v s w → G i v s' w')
    (step : ∀ i t, (i, t) ∈ D → ∀ (L : List Nat) (x : Nat → Value) (s : σ) (w : World), i ∉ L → (∀ j ∈ predsOf ops i, j ∈ L) → Inv L s w → (∀ j ∈ predsOf ops i, G j (x j) s w) → ∀ K : Act → World → Prop,
      (∀ v s' w', Rel i s w s' w' → Inv (i :: L) s' w' → G i v s' w' → K ((putAll x D a0).put t v) w') → wpOp P ops Q i K (putAll x D a0) w)
    (fin : ∀ (L : List Nat) (x : Nat → Value) (s : σ) (w : World), (∀ i ∈ S, i ∈ L) → Inv L s w → (∀ i ∈ S, G i (x i) s w) → wpAny P .any ops Q r (marked ops.size S) (putAll x D a0) w) :
    ∀ (k : Nat) (L : List Nat) (x : Nat → Value) (s : σ) (w : World), L.Nodup → (∀ i ∈ L, i ∈ S) → (∀ i ∈ L, ∀ j ∈ predsOf ops i, j ∈ L) → L.length + k = S.length → Inv L s w → (∀ i ∈ L, G i (x i) s w) →
      wpAny P .any ops Q (k + r) (marked ops.size L) (putAll x D a0) w := by
  subst hS
  simp only [aheadOk, Bool.and_eq_true, List.all_eq_true, decide_eq_true_eq, List.mem_range] at hok
  obtain ⟨⟨hc1, hc2⟩, hc4⟩ := hok
  have hSn : (D.map (·.1)).Nodup := List.pairwise_map.2 (hc4.imp fun h => h.1)
  intro k
  induction k with
  | zero =>
    intro L x s w hL hsub hcl hlen hI hG
    have hall : ∀ i, i ∈ L ↔ i ∈ D.map (·.1) := fun i => ⟨hsub i, fun hi => Classical.byContradiction fun hn => by
      have h1 := nodup_le (List.nodup_cons.2 ⟨hn, hL⟩) fun j hj => by
        rcases List.mem_cons.1 hj with rfl | hj
        · exact hi
        · exact hsub j hj
      simp only [List.length_cons] at h1; omega⟩
    rw [Nat.zero_add, marked_congr hall]
    exact fin L x s w (fun i hi => (hall i).2 hi) hI fun i hi => hG i ((hall i).2 hi)
  | succ k ih =>
    intro L x s w hL hsub hcl hlen hI hG
    have hmem : ∀ i, i ∈ Region.ready .any ops (marked ops.size L) ↔ i < ops.size ∧ i ∉ L ∧ ∃ o, ops[i]? = some o ∧ ∀ e ∈ o.after, Region.binds .any e = true → e.on ∈ L ∧ e.on < ops.size := by
      intro i
      simp only [Region.ready, List.mem_filter, List.mem_range, Bool.and_eq_true, Bool.not_eq_true']
      constructor
      · rintro ⟨h1, h2, h3⟩
        rw [marked_get h1] at h2
        refine ⟨h1, by simpa using h2, ops[i], by simp [h1], fun e he hb => ?_⟩
        simp only [h1, getElem?_pos, Option.map_some, Option.getD_some, Array.all_eq_true_iff_forall_mem] at h3
        have := h3 e he
        rw [hb] at this
        simp only [Bool.not_true, Bool.false_or] at this
        by_cases hlt : e.on < ops.size
        · rw [marked_get hlt] at this
          exact ⟨by simpa using this, hlt⟩
        · have : (marked ops.size L).getD e.on false = false := by simp [marked, Array.getD, hlt]
          simp_all
      · rintro ⟨h1, h2, o, ho, h3⟩
        refine ⟨h1, by rw [marked_get h1]; simpa using h2, ?_⟩
        simp only [ho, Option.map_some, Option.getD_some, Array.all_eq_true_iff_forall_mem]
        intro e he
        cases hb : Region.binds .any e
        · simp
        · obtain ⟨h4, h5⟩ := h3 e he hb
          rw [marked_get h5]
          simpa using h4
    rw [show k + 1 + r = (k + r) + 1 by omega]
    refine ⟨fun hnil => ?_, fun i hi => ?_⟩
    · exfalso
      -- the least of S that is not carried out yet is ready
      have hex : ∃ i, i ∈ D.map (·.1) ∧ i ∉ L := Classical.byContradiction fun hn => by
        have h1 := nodup_le hSn (S := L) fun j hj => Classical.byContradiction fun hj' => hn ⟨j, hj, hj'⟩
        omega
      obtain ⟨i, ⟨hiS, hiL⟩, hmin⟩ : ∃ i, (i ∈ D.map (·.1) ∧ i ∉ L) ∧ ∀ j, j < i → ¬ (j ∈ D.map (·.1) ∧ j ∉ L) := by
        obtain ⟨i0, h0⟩ := hex
        induction i0 using Nat.strongRecOn with
        | _ i0 ih0 =>
          by_cases h : ∃ j, j < i0 ∧ j ∈ D.map (·.1) ∧ j ∉ L
          · obtain ⟨j, hj, hjS⟩ := h
            exact ih0 j hj hjS
          · exact ⟨i0, h0, fun j hj hjS => h ⟨j, hj, hjS⟩⟩
      obtain ⟨h1, h2⟩ := hc1 i hiS
      have : i ∈ Region.ready .any ops (marked ops.size L) := by
        rw [hmem]
        refine ⟨h1, hiL, ops[i], by simp [h1], fun e he hb => ?_⟩
        simp only [h1, getElem?_pos, Option.map_some, Option.getD_some, Array.all_eq_true_iff_forall_mem] at h2
        have h3 := h2 e he
        rw [hb] at h3
        simp only [Bool.not_true, Bool.false_or, Bool.and_eq_true, decide_eq_true_eq, List.contains_iff_mem] at h3
        exact ⟨Classical.byContradiction fun hn => hmin e.on h3.2 ⟨h3.1, hn⟩, (hc1 e.on h3.1).1⟩
      rw [hnil] at this
      simp at this
    · obtain ⟨h1, hiL, o, ho, hp⟩ := (hmem i).1 hi
      have hiS : i ∈ D.map (·.1) := by
        have h2 := hc2 i h1
        simp only [ho, Option.map_some, Option.getD_some, Bool.or_eq_true, List.contains_iff_mem, Array.any_eq_true', List.all_eq_true, Bool.and_eq_true, Bool.not_eq_true', beq_iff_eq] at h2
        rcases h2 with h2 | ⟨e, he, hb, hn⟩ | h2
        · exact h2
        · exfalso
          have := hsub _ (hp e he hb).1
          rw [← List.contains_iff_mem, hn] at this
          simp at this
        · exfalso
          have h4 : ∀ j ∈ predsOf ops i, j ∈ L := fun j hj => by
            simp only [predsOf, ho, Option.map_some, Option.getD_some, List.mem_map, List.mem_filter, Array.mem_toList_iff] at hj
            obtain ⟨e, ⟨he, hb⟩, rfl⟩ := hj
            exact (hp e he hb).1
          have h3 := nodup_le hSn (S := L) fun j hj => anc_sub hcl _ i h4 j (h2 j hj)
          omega
      have hpreL : ∀ j ∈ predsOf ops i, j ∈ L := fun j hj => by
        simp only [predsOf, ho, Option.map_some, Option.getD_some, List.mem_map, List.mem_filter, Array.mem_toList_iff] at hj
        obtain ⟨e, ⟨he, hb⟩, rfl⟩ := hj
        exact (hp e he hb).1
      have hpre : ∀ j ∈ predsOf ops i, G j (x j) s w := fun j hj => by
        simp only [predsOf, ho, Option.map_some, Option.getD_some, List.mem_map, List.mem_filter, Array.mem_toList_iff] at hj
        obtain ⟨e, ⟨he, hb⟩, rfl⟩ := hj
        exact hG _ (hp e he hb).1
      obtain ⟨⟨i', t⟩, hit, hii⟩ := List.mem_map.1 hiS
      have hii' : i = i' := hii.symm
      subst hii'
      refine step i t hit L x s w hiL hpreL hI hpre _ fun v s' w' hbw hI' hGv => ?_
      rw [put_putAll hit hc4, marked_set]
      refine ih (i :: L) (upd x i v) s' w' (List.nodup_cons.2 ⟨hiL, hL⟩) (fun j hj => ?_) (fun j hj m hm => ?_) (by simp only [List.length_cons]; omega) hI' fun j hj => ?_
      · rcases List.mem_cons.1 hj with rfl | hj
        · exact hiS
        · exact hsub j hj
      · rcases List.mem_cons.1 hj with rfl | hjL
        · exact List.mem_cons_of_mem _ (hpreL m hm)
        · exact List.mem_cons_of_mem _ (hcl j hjL m hm)
      · rcases List.mem_cons.1 hj with rfl | hjL
        · simpa [upd] using hGv
        · have hne : j ≠ i := by rintro rfl; exact hiL hjL
          rw [show upd x i v j = x j by simp [upd, hne]]
          exact mono j i _ s w s' w' (hsub j hjL) hiS hne (fun hm => hiL (hcl j hjL i hm)) hbw (hG j hjL)

/-- THE LAW, at a region: the operations S come first, in whatever order; of each there is known G, in whatever order; the others follow. -/
theorem wp_region_done {id : Nat} {a0 : Act} {w : World} (hm : P.follows .mixedOrders = true) (D : List (Nat × Option Tmp)) (S : List Nat) (hS : D.map (·.1) = S) (r : Nat) (hok : aheadOk ops D = true) (hr : S.length + r = ops.size) {σ : Type} (Rel : Nat → σ → World → σ → World → Prop) (G : Nat → Value → σ → World → Prop) (Inv : List Nat → σ → World → Prop) (s0 : σ) (hI : Inv [] s0 w.drew)
    (mono : ∀ i k v s w s' w', i ∈ S → k ∈ S → i ≠ k → k ∉ predsOf ops i → Rel k s w s' w' → G i v s w → G i v s' w')
    (step : ∀ i t, (i, t) ∈ D → ∀ (L : List Nat) (x : Nat → Value) (s : σ) (w : World), i ∉ L → (∀ j ∈ predsOf ops i, j ∈ L) → Inv L s w → (∀ j ∈ predsOf ops i, G j (x j) s w) → ∀ K : Act → World → Prop,
      (∀ v s' w', Rel i s w s' w' → Inv (i :: L) s' w' → G i v s' w' → K ((putAll x D a0).put t v) w') → wpOp P ops Q i K (putAll x D a0) w)
    (fin : ∀ (L : List Nat) (x : Nat → Value) (s : σ) (w : World), (∀ i ∈ S, i ∈ L) → Inv L s w → (∀ i ∈ S, G i (x i) s w) → wpAny P .any ops Q r (marked ops.size S) (putAll x D a0) w) : (Code.region id ops true).wp P Q a0 w := by
  refine wp_region_any hm ?_
  rw [marked_nil]
  have h := wpAny_done1 (P := P) (Q := Q) D S hS hok Rel G Inv a0 r mono step fin S.length [] (lookD D a0) s0 w.drew List.nodup_nil (by simp) (by simp) (by simp) hI (by simp)
  rw [putAll_same a0 (lookD_at (by simp only [aheadOk, Bool.and_eq_true, decide_eq_true_eq] at hok; exact hok.2)), hr] at h
  exact h

end

theorem Own.apart {b b' : Nat} {e e' : TypeId} {w : World} {α β : Type} {sz sz' : Nat} {R : List Value → α → Prop} {R' : List Value → β → Prop} {a a' : Option Addr} {c c' : Nat} {xs : List α} {ys : List β} (h : Own b e w sz R a c xs) (h' : Own b' e' w sz' R' a' c' ys) (he : e ≠ e') :
    ∀ k, a.map (·.block) = some k → a'.map (·.block) ≠ some k := by
  obtain ⟨_, _, _, _, _, h5⟩ := h
  obtain ⟨_, _, _, _, _, h5'⟩ := h'
  intro k hk hk'
  rcases h5 with ⟨e1, _⟩ | ⟨g, cap, cur, e1, _, hg, _⟩
  · simp at e1; simp [e1.1] at hk
  · rcases h5' with ⟨e2, _⟩ | ⟨g', cap', cur', e2, _, hg', _⟩
    · simp at e2; simp [e2.1] at hk'
    · simp at e1 e2
      rw [e1.1] at hk
      rw [e2.1] at hk'
      simp at hk hk'
      subst hk hk'
      rw [hg] at hg'
      simp at hg'
      exact he hg'.2

/-- A row of ours stays where another one grows. -/
theorem Own.aside {b : Nat} {e : TypeId} {w w' : World} {α : Type} {sz : Nat} {R : List Value → α → Prop} {a : Option Addr} {c : Nat} {xs : List α} {row : Option Nat} (h : Own b e w sz R a c xs) (hg : w.grownBy w' row) (hne : ∀ k, a.map (·.block) = some k → row ≠ some k) : Own b e w' sz R a c xs := by
  obtain ⟨css, h1, h2, h3, h4⟩ := h
  refine ⟨css, h1, h2, h3, h4.kept hg ?_⟩
  cases a with
  | none => exact .inl rfl
  | some p => exact .inr fun e => hne p.block rfl e.symm

end Go.Proofs.Ytnihccinpbpllaa

/- What is sent again, in plain words; the walk through line.Again. -/
namespace Go.Proofs.Ytnihccinpbpllaa
open Go.RowKit

theorem sentsOk_mem : ∀ {next prev : Int} {l : List Sent}, sentsOk next prev l = true → ∀ s ∈ l, 1 ≤ s.tries ∧ s.tries ≤ 5 ∧ 0 ≤ s.due ∧ s.due ≤ 2199023255552
  | _, _, [], _, _, h => by simp at h
  | next, prev, x :: l, h, s, hs => by
    unfold sentsOk at h
    by_cases hx : sentOk next prev x = true
    · rw [if_pos hx] at h
      rcases List.mem_cons.1 hs with rfl | hs
      · simp only [sentOk, decide_eq_true_eq] at hx
        omega
      · exact sentsOk_mem h s hs
    · rw [if_neg hx] at h
      simp at h

theorem lineOk_mem {next high : Int} {sent : List Sent} {e : Eight} (h : lineOk ⟨next, sent, high, e⟩ = true) : ∀ s ∈ sent, 1 ≤ s.tries ∧ s.tries ≤ 5 ∧ 0 ≤ s.due ∧ s.due ≤ 2199023255552 := by
  unfold lineOk at h
  by_cases hh : headOk next high sent.length = true
  · rw [if_pos hh] at h
    exact sentsOk_mem h
  · rw [if_neg hh] at h
    simp at h

/-- What is kept of one that is under way. -/
def keepS (now : Int) (s : Sent) : Option Sent := if now < s.due then some s else if s.tries < 5 then some { s with tries := s.tries + 1, due := now + 2 ^ (s.tries + 1).toNat } else none
/-- What is sent again of it. -/
def outS (now : Int) (s : Sent) : Option Frame := if now < s.due then none else if s.tries < 5 then some s.frame else none

structure AgainX where
  k : Int
  sent : List Sent
  out : List Frame

def againX (g : Bool) (sent : List Sent) (now : Int) : AgainX :=
  if g = false ∨ now < 0 ∨ 1099511627776 < now then ⟨2, sent, []⟩ else ⟨0, sent.filterMap (keepS now), sent.filterMap (outS now)⟩

theorem fm_step {α β : Type} {f : α → Option β} {l : List α} {k : Nat} (h : k < l.length) : (l.take (k + 1)).filterMap f = (l.take k).filterMap f ++ (f l[k]).toList := by
  rw [List.take_succ_eq_append_getElem h, List.filterMap_append]
  cases hx : f l[k] <;> simp [hx]

theorem World.grownBy.ofBelow {w w' : World} (h : Below w.heap.size w w') (row : Option Nat) : w.grownBy w' row := ⟨h.os, h.tape, h.output, h.size, fun k hk _ => h.block k hk⟩

end Go.Proofs.Ytnihccinpbpllaa

/- The walk through line.Again. -/
namespace Go.Proofs.Ytnihccinpbpllaa
open Go.RowKit

/-- Two rows may have grown, all else stays. -/
structure Aside (r1 r2 : Option Nat) (w w' : World) : Prop where
  os : w'.os = w.os
  tape : w'.tape = w.tape
  output : w'.output = w.output
  size : w.heap.size ≤ w'.heap.size
  block : ∀ b, b < w.heap.size → r1 ≠ some b → r2 ≠ some b → w'.heap[b]? = w.heap[b]?

theorem Aside.refl (r1 r2 : Option Nat) (w : World) : Aside r1 r2 w w := ⟨rfl, rfl, rfl, Nat.le_refl _, fun _ _ _ _ => rfl⟩
theorem Aside.grown {r1 r2 r : Option Nat} {w w' w'' : World} (h : Aside r1 r2 w w') (hg : w'.grownBy w'' r) (hr : r = none ∨ r = r1 ∨ r = r2) : Aside r1 r2 w w'' :=
  ⟨hg.os.trans h.os, hg.tape.trans h.tape, hg.output.trans h.output, Nat.le_trans h.size hg.size, fun b hb h1 h2 => (hg.block b (Nat.lt_of_lt_of_le hb h.size) (by
    rcases hr with rfl | rfl | rfl
    · simp
    · exact fun e => h1 e.symm
    · exact fun e => h2 e.symm)).trans (h.block b hb h1 h2)⟩
theorem Aside.drew {r1 r2 : Option Nat} {w w' : World} (h : Aside r1 r2 w w') : Aside r1 r2 w w'.drew := h.grown (World.grownBy.ofBelow (Below.refl _ _).drew none) (.inl rfl)
theorem Own.drew {b : Nat} {e : TypeId} {w : World} {α : Type} {sz : Nat} {R : List Value → α → Prop} {a : Option Addr} {c : Nat} {xs : List α} (h : Own b e w sz R a c xs) : Own b e w.drew sz R a c xs := h.below (Below.refl _ _).drew

theorem St.aside {M : List Nat} {w0 w w' : World} {own : Blks} {r1 r2 : Option Nat} (st : St M w0 w own) (ha : Aside r1 r2 w w') (h1 : ∀ k, r1 = some k → w0.heap.size ≤ k) (h2 : ∀ k, r2 = some k → w0.heap.size ≤ k) (h3 : ∀ x ∈ own, r1 ≠ some x.1 ∧ r2 ≠ some x.1) : St M w0 w' own :=
  ⟨ha.os.trans st.os, ha.tape.trans st.tape, ha.output.trans st.output, Nat.le_trans st.size ha.size,
    fun b hb hM => (ha.block b (Nat.lt_of_lt_of_le hb st.size) (fun e => by have := h1 b e; omega) (fun e => by have := h2 b e; omega)).trans (st.frame b hb hM),
    fun x hx => (ha.block x.1 (st.lt hx) (h3 x hx).1 (h3 x hx).2).trans (st.blk x hx), st.mine, st.ne⟩

theorem two_pow {n : Int} (h1 : 1 ≤ n) (h2 : n ≤ 5) : 2 ≤ (2 : Int) ^ n.toNat ∧ (2 : Int) ^ n.toNat ≤ 32 := by
  rcases (show n = 1 ∨ n = 2 ∨ n = 3 ∨ n = 4 ∨ n = 5 by omega) with rfl | rfl | rfl | rfl | rfl <;> decide

end Go.Proofs.Ytnihccinpbpllaa

/- Maps whose elements are bools, in one word: what a look-up says. No program is in sight. -/
namespace Go.Proofs.Ytnihccinpbpllaa
open Go.RowKit
open Go.Maps (Keyed IsMap)

section
variable {P : Program} {k e t : TypeId} {w w' : World} {b n : Nat} {f : Lit → Bool}

/-- Block b is a map of at most n entries, that tells f of each key. -/
def MapB (P : Program) (k e : TypeId) (w : World) (b n : Nat) (f : Lit → Bool) : Prop :=
  ∃ D : DataW Unit, w.ownsMap P k (plainElem P e) b n D ∧ IsMap D ∧ ∀ kl, WideAt.IsKeyLit kl → D.atKey kl (.lit (.bool false)) = .lit (.bool (f kl))

theorem MapB.made (P : Program) (k e : TypeId) (w : World) : MapB P k e (w.alloc (.map #[] 0)) w.heap.size 0 fun _ => false :=
  ⟨.map [], World.ownsMap_made w P k _, Maps.isMap_empty, fun _ _ => rfl⟩

theorem MapB.kept {row : Option Nat} (h : MapB P k e w b n f) (hg : w.grownBy w' row) (hne : row ≠ some b) : MapB P k e w' b n f := by
  obtain ⟨D, h1, h2⟩ := h
  exact ⟨D, h1.kept hg fun e => hne e.symm, h2⟩

theorem MapB.below (h : MapB P k e w b n f) (hb : Below w.heap.size w w') : MapB P k e w' b n f := h.kept (World.grownBy.ofBelow hb none) (by simp)

theorem MapB.lt (h : MapB P k e w b n f) : b < w.heap.size := by
  obtain ⟨D, h1, _⟩ := h
  exact h1.lt

theorem MapB.block (h : MapB P k e w b n f) (hs : w.heap.size ≤ w'.heap.size) (hb : w'.heap[b]? = w.heap[b]?) : MapB P k e w' b n f := by
  obtain ⟨D, ⟨es, clock, h1, h2⟩, h3⟩ := h
  exact ⟨D, ⟨es, clock, hb.trans h1, h2⟩, h3⟩

theorem plainElem_bool_inv (he : P.underlying e = some .bool) {v : Value} {x : Bool} {ps : List MemPlace} (h : plainElem (H := Unit) P e v = some (.lit (.bool x), ps)) : v = .bool x := by
  unfold plainElem at h
  rw [he] at h
  cases v <;> simp at h
  rw [h.1]

theorem MapB.lookup (h : MapB P k e w b n f) (K : Keyed P k) (ht : P.underlying t = some (.map k e)) (he : P.underlying e = some .bool) (hz : (zeroValue e).run P w = .ok (.bool false) w) {key : Value} {kl : Lit} (hkey : keyOf P k key = some kl) :
    (Instr.lookup t (.map (some b)) key false).run P w = .ok (.bool (f kl)) w := by
  obtain ⟨D, h1, _, h3⟩ := h
  obtain ⟨v, ps, hrun, hv⟩ := h1.lookup K ht hz (plainElem_bool he false) hkey
  rw [h3 kl (K.key hkey)] at hv
  rw [hrun, plainElem_bool_inv he hv]

theorem MapB.update (h : MapB P k e w b n f) (K : Keyed P k) (ht : P.underlying t = some (.map k e)) (he : P.underlying e = some .bool) (hn : n < maxLen) {key : Value} {kl : Lit} (x : Bool) (hkey : keyOf P k key = some kl) :
    ∃ w', (Instr.mapUpdate t (.map (some b)) key (.bool x)).run P w = .ok () w' ∧ MapB P k e w' b (n + 1) (fun l => if l.sameKey kl then x else f l) ∧ w.grownBy w' (some b) := by
  obtain ⟨D, h1, h2, h3⟩ := h
  obtain ⟨w', hrun, h4, h5⟩ := h1.update K ht hn hkey (plainElem_bool he x)
  refine ⟨w', hrun, ⟨_, h4, h2.put _ _, fun l hl => ?_⟩, h5⟩
  show _ = DataW.lit (Lit.bool (if l.sameKey kl = true then x else f l))
  by_cases hlk : l = kl
  · subst hlk
    rw [if_pos (WideAt.sameKey_self hl), Maps.atKey_put_same h2 hl]
  · rw [if_neg (by rw [Maps.sameKey_ne hlk]; simp), Maps.atKey_put_other hlk, h3 l hl]

variable {ops : Array Oper} {rest : List Oper} {o : Oper} {A : Act} {Q : Exit → Act → World → Prop} {K' : Act → World → Prop}

theorem wp_mapLookup (h : MapB P k e w b n f) (K : Keyed P k) (m x : Operand) (t : TypeId) (hop : o.op = Op.lookup t m x false) (ht : P.underlying t = some (.map k e)) (he : P.underlying e = some .bool) (hz : ∀ w, (zeroValue e).run P w = .ok (.bool false) w)
    (hm : A.eval m = .map (some b)) {kl : Lit} (hkey : keyOf P k (A.eval x) = some kl) (hK : K' (A.put o.dst (.bool (f kl))) w) : Oper.wp P o A w K' Q := by
  have hrun := h.lookup K ht he (hz w) hkey
  unfold Oper.wp
  simp [execOp, hop, hm, hrun, Result.andThen]
  exact hK

theorem wpList_mapLookup (h : MapB P k e w b n f) (K : Keyed P k) (hgd : Region.wanted o (yielded ops A.tmps) = true) (m x : Operand) (t : TypeId) (hop : o.op = Op.lookup t m x false) (ht : P.underlying t = some (.map k e)) (he : P.underlying e = some .bool) (hz : ∀ w, (zeroValue e).run P w = .ok (.bool false) w)
    (hm : A.eval m = .map (some b)) {kl : Lit} (hkey : keyOf P k (A.eval x) = some kl) (hK : wpList P ops Q rest (A.put o.dst (.bool (f kl))) w) : wpList P ops Q (o :: rest) A w :=
  wpList_wanted hgd fun _ h' => wp_mapLookup h K m x t hop ht he hz hm hkey (h' _ _ hK)

theorem wpList_mapUpdate (h : MapB P k e w b n f) (K : Keyed P k) (hgd : Region.wanted o (yielded ops A.tmps) = true) (m x v : Operand) (t : TypeId) (hop : o.op = Op.mapUpdate t m x v) (ht : P.underlying t = some (.map k e)) (he : P.underlying e = some .bool) (hn : n < maxLen)
    (hm : A.eval m = .map (some b)) {kl : Lit} (hkey : keyOf P k (A.eval x) = some kl) (y : Bool) (hv : A.eval v = .bool y)
    (hK : ∀ w', MapB P k e w' b (n + 1) (fun l => if l.sameKey kl then y else f l) → w.grownBy w' (some b) → wpList P ops Q rest (A.put o.dst undef) w') : wpList P ops Q (o :: rest) A w := by
  refine wpList_wanted hgd fun K1 h' => ?_
  obtain ⟨w', hrun, h1, h2⟩ := h.update K ht he hn y hkey
  unfold Oper.wp
  simp [execOp, hop, hm, hv, hrun, Result.andThen]
  exact h' _ _ (hK w' h1 h2)

theorem wpList_makeMap (k e : TypeId) (hgd : Region.wanted o (yielded ops A.tmps) = true) (t : TypeId) (hop : o.op = Op.makeMap t none)
    (hK : ∀ b w', w.heap.size ≤ b → MapB P k e w' b 0 (fun _ => false) → Below w.heap.size w w' → wpList P ops Q rest (A.put o.dst (.map (some b))) w') : wpList P ops Q (o :: rest) A w := by
  refine wpList_wanted hgd fun K1 h' => ?_
  have hrun := run_makeMap (P := P) t w
  unfold Oper.wp
  simp [execOp, hop, hrun, Result.andThen]
  exact h' _ _ (hK _ _ (Nat.le_refl _) (MapB.made P k e w) ((Below.refl _ _).alloc (Nat.le_refl _) _))

end

/-- A map that is written may be called a row of ours that has grown. -/
theorem St.map {M : List Nat} {w0 w w' : World} {own : Blks} {b : Nat} (st : St M w0 w own) (hg : w.grownBy w' (some b)) (hb : w0.heap.size ≤ b) (hn : ∀ x ∈ own, x.1 ≠ b) : St M w0 w' own :=
  st.grownNew hg (fun k e => by simp at e; omega) fun x hx e => hn x hx (by simpa using e.symm)

theorem St.back {M : List Nat} {a w0 w : World} {own0 own : Blks} (h0 : St M a w0 own0) (h : St (own0.map (·.1)) w0 w own) : St M a w own := by
  refine ⟨h.os.trans h0.os, h.tape.trans h0.tape, h.output.trans h0.output, Nat.le_trans h0.size h.size, fun b hb hM => ?_, h.blk, fun x hx => ?_, h.ne⟩
  · refine (h.frame b (Nat.lt_of_lt_of_le hb h0.size) fun hm => ?_).trans (h0.frame b hb hM)
    obtain ⟨x, hx, rfl⟩ := List.mem_map.1 hm
    rcases h0.mine x hx with h1 | h1
    · exact hM h1
    · omega
  · rcases h.mine x hx with h1 | h1
    · obtain ⟨y, hy, e⟩ := List.mem_map.1 h1
      rw [← e]
      exact h0.mine y hy
    · exact .inr (Nat.le_trans h0.size h1)

theorem wpOp_skip {P : Program} {ops : Array Oper} {Q : Exit → Act → World → Prop} {i : Nat} {o : Oper} {K : Act → World → Prop} {a : Act} {w : World} (ho : ops[i]? = some o) (hg : Region.wanted o (yielded ops a.tmps) = false) (h : K (a.put o.dst undef) w) : wpOp P ops Q i K a w := by
  simp only [wpOp, ho, hg]
  exact h

end Go.Proofs.Ytnihccinpbpllaa

/- Maps that are sets of numbers, and the range over one. No program is in sight. -/
namespace Go.Proofs.Ytnihccinpbpllaa
open Go.RowKit
open Go.Maps (Keyed IsMap)

theorem wfI {n : Int} (h : fitI n) : (Lit.int .i64 n).wf = true := by
  unfold fitI at h
  simp only [Lit.wf, decide_eq_true_eq, Bool.and_eq_true]
  exact h

section
variable {P : Program} {k e t : TypeId} {w w' : World} {b r n cnt : Nat} {l seen : List Int}

/-- Block b is a set of numbers, of at most n entries: just those of l are in it. -/
def SetB (P : Program) (k e : TypeId) (w : World) (b n : Nat) (l : List Int) : Prop :=
  ∃ D : DataW Unit, w.ownsMap P k (plainElem P e) b n D ∧ IsMap D ∧ ∀ x : Int, (Lit.int .i64 x).wf = true → Maps.has D (.int .i64 x) = inL l x ∧ D.atKey (.int .i64 x) (.lit (.bool false)) = .lit (.bool (inL l x))

theorem SetB.made (P : Program) (k e : TypeId) (w : World) : SetB P k e (w.alloc (.map #[] 0)) w.heap.size 0 [] :=
  ⟨.map [], World.ownsMap_made w P k _, Maps.isMap_empty, fun _ _ => ⟨rfl, rfl⟩⟩

theorem SetB.kept {row : Option Nat} (h : SetB P k e w b n l) (hg : w.grownBy w' row) (hne : row ≠ some b) : SetB P k e w' b n l := by
  obtain ⟨D, h1, h2⟩ := h
  exact ⟨D, h1.kept hg fun e => hne e.symm, h2⟩

theorem SetB.below (h : SetB P k e w b n l) (hb : Below w.heap.size w w') : SetB P k e w' b n l := h.kept (World.grownBy.ofBelow hb none) (by simp)

theorem SetB.lt (h : SetB P k e w b n l) : b < w.heap.size := by
  obtain ⟨D, h1, _⟩ := h
  exact h1.lt

theorem SetB.same {l' : List Int} (h : SetB P k e w b n l) (hl : ∀ x, inL l x = inL l' x) : SetB P k e w b n l' := by
  obtain ⟨D, h1, h2, h3⟩ := h
  exact ⟨D, h1, h2, fun x hx => by rw [← hl]; exact h3 x hx⟩

theorem inL_snoc (l : List Int) (x y : Int) : inL (l ++ [x]) y = if y = x then true else inL l y := by
  by_cases h : y = x
  · subst h
    rw [if_pos rfl, inL_iff]
    simp
  · rw [if_neg h, Bool.eq_iff_iff, inL_iff, inL_iff]
    simp [h]

theorem SetB.lookup (h : SetB P k e w b n l) (K : Keyed P k) (hk : P.underlying k = some (.int .i64)) (ht : P.underlying t = some (.map k e)) (he : P.underlying e = some .bool) (hz : (zeroValue e).run P w = .ok (.bool false) w) {z : Int} (hf : fitI z) :
    (Instr.lookup t (.map (some b)) (.int .i64 z) false).run P w = .ok (.bool (inL l z)) w := by
  obtain ⟨D, h1, _, h3⟩ := h
  have hkey : keyOf P k (.int .i64 z) = some (.int .i64 z) := Maps.keyOf_int_mk hk (wfI hf)
  obtain ⟨v, ps, hrun, hv⟩ := h1.lookup K ht hz (plainElem_bool he false) hkey
  rw [(h3 z (wfI hf)).2] at hv
  rw [hrun, plainElem_bool_inv he hv]

theorem SetB.update (h : SetB P k e w b n l) (K : Keyed P k) (hk : P.underlying k = some (.int .i64)) (ht : P.underlying t = some (.map k e)) (he : P.underlying e = some .bool) (hn : n < maxLen) {z : Int} (hf : fitI z) :
    ∃ w', (Instr.mapUpdate t (.map (some b)) (.int .i64 z) (.bool true)).run P w = .ok () w' ∧ SetB P k e w' b (n + 1) (l ++ [z]) ∧ w.grownBy w' (some b) := by
  obtain ⟨D, h1, h2, h3⟩ := h
  have hkey : keyOf P k (.int .i64 z) = some (.int .i64 z) := Maps.keyOf_int_mk hk (wfI hf)
  obtain ⟨w', hrun, h4, h5⟩ := h1.update K ht hn hkey (plainElem_bool he true)
  refine ⟨w', hrun, ⟨_, h4, h2.put _ _, fun x hx => ?_⟩, h5⟩
  rw [inL_snoc]
  by_cases hxz : x = z
  · subst hxz
    rw [if_pos rfl]
    exact ⟨Maps.has_put_same h2 (K.key hkey) _, Maps.atKey_put_same h2 (K.key hkey) _ _⟩
  · have hne : (Lit.int .i64 x) ≠ .int .i64 z := fun h => hxz (by injection h)
    rw [if_neg hxz]
    exact ⟨(Maps.has_put_other hne _).trans (h3 x hx).1, (Maps.atKey_put_other hne _ _).trans (h3 x hx).2⟩

/-- Block r is a range over it: those of 'seen' have come. -/
def RangeB (P : Program) (k e : TypeId) (w : World) (b r n : Nat) (l seen : List Int) (cnt : Nat) : Prop :=
  ∃ (D : DataW Unit) (left : Lit → Bool), w.ranges P k (plainElem P e) b r n D left cnt ∧ ∀ x : Int, (Lit.int .i64 x).wf = true → left (.int .i64 x) = (inL l x && !inL seen x)

theorem RangeB.left_eq (h : RangeB P k e w b r n l seen cnt) : w.rangeLeft b r = cnt := by
  obtain ⟨D, left, h1, _⟩ := h
  exact h1.left_eq

theorem RangeB.kept {row : Option Nat} (h : RangeB P k e w b r n l seen cnt) (hg : w.grownBy w' row) (hb' : some b ≠ row) (hr' : some r ≠ row) : RangeB P k e w' b r n l seen cnt := by
  obtain ⟨D, left, h1, h2⟩ := h
  exact ⟨D, left, h1.kept hg hb' hr', h2⟩

theorem RangeB.below (h : RangeB P k e w b r n l seen cnt) (hb : Below w.heap.size w w') : RangeB P k e w' b r n l seen cnt := h.kept (World.grownBy.ofBelow hb none) (by simp) (by simp)

theorem RangeB.lt (h : RangeB P k e w b r n l seen cnt) : r < w.heap.size ∧ b < w.heap.size := by
  obtain ⟨D, left, h1, _⟩ := h
  exact ⟨h1.lt, h1.owns.lt⟩

variable {ops : Array Oper} {rest : List Oper} {o : Oper} {A : Act} {Q : Exit → Act → World → Prop} {K' : Act → World → Prop}

theorem wpList_setMake (k e : TypeId) (hgd : Region.wanted o (yielded ops A.tmps) = true) (t : TypeId) (hop : o.op = Op.makeMap t none)
    (hK : ∀ b w', w.heap.size ≤ b → SetB P k e w' b 0 [] → Below w.heap.size w w' → wpList P ops Q rest (A.put o.dst (.map (some b))) w') : wpList P ops Q (o :: rest) A w := by
  refine wpList_wanted hgd fun K1 h' => ?_
  have hrun := run_makeMap (P := P) t w
  unfold Oper.wp
  simp [execOp, hop, hrun, Result.andThen]
  exact h' _ _ (hK _ _ (Nat.le_refl _) (SetB.made P k e w) ((Below.refl _ _).alloc (Nat.le_refl _) _))

theorem wpList_setUpdate (h : SetB P k e w b n l) (K : Keyed P k) (hk : P.underlying k = some (.int .i64)) (hgd : Region.wanted o (yielded ops A.tmps) = true) (m x v : Operand) (t : TypeId) (hop : o.op = Op.mapUpdate t m x v) (ht : P.underlying t = some (.map k e)) (he : P.underlying e = some .bool) (hn : n < maxLen)
    (hm : A.eval m = .map (some b)) (z : Int) (hx : A.eval x = .int .i64 z) (hf : fitI z) (hv : A.eval v = .bool true)
    (hK : ∀ w', SetB P k e w' b (n + 1) (l ++ [z]) → w.grownBy w' (some b) → wpList P ops Q rest (A.put o.dst undef) w') : wpList P ops Q (o :: rest) A w := by
  refine wpList_wanted hgd fun K1 h' => ?_
  obtain ⟨w', hrun, h1, h2⟩ := h.update K hk ht he hn hf
  unfold Oper.wp
  simp [execOp, hop, hm, hx, hv, hrun, Result.andThen]
  exact h' _ _ (hK w' h1 h2)

theorem wp_setLookup (h : SetB P k e w b n l) (K : Keyed P k) (hk : P.underlying k = some (.int .i64)) (m x : Operand) (t : TypeId) (hop : o.op = Op.lookup t m x false) (ht : P.underlying t = some (.map k e)) (he : P.underlying e = some .bool) (hz : ∀ w, (zeroValue e).run P w = .ok (.bool false) w)
    (hm : A.eval m = .map (some b)) (z : Int) (hx : A.eval x = .int .i64 z) (hf : fitI z) (hK : K' (A.put o.dst (.bool (inL l z))) w) : Oper.wp P o A w K' Q := by
  have hrun := h.lookup K hk ht he (hz w) hf
  unfold Oper.wp
  simp [execOp, hop, hm, hx, hrun, Result.andThen]
  exact hK

theorem wpList_setRange (h : SetB P k e w b n l) (K : Keyed P k) (hgd : o.guard = none) (m : Operand) (t : TypeId) (hop : o.op = Op.range t m) (ht : P.underlying t = some (.map k e)) (hm : A.eval m = .map (some b))
    (hK : ∀ r w' cnt, w.heap.size ≤ r → RangeB P k e w' b r n l [] cnt → Below w.heap.size w w' → wpList P ops Q rest (A.put o.dst (.pointer (some ⟨r, 0, none⟩))) w') : wpList P ops Q (o :: rest) A w := by
  obtain ⟨D, h1, h2, h3⟩ := h
  refine wpList_range_own w hgd m t hop k e K ht (plainElem P e) b n D hm h1 fun w' r1 r2 r3 => ?_
  refine hK _ w' _ (Nat.le_refl _) ⟨D, _, r1, fun x hx => ?_⟩ ⟨r2.os, r2.tape, r2.output, r2.size, fun q hq => r2.block q hq (by simp)⟩
  rw [(h3 x hx).1]
  simp [inL]

theorem wpList_setNext (h : RangeB P k e w b r n l seen cnt) (K : Keyed P k) (hk : P.underlying k = some (.int .i64)) (he : P.underlying e = some .bool) (hgd : o.guard = none) (it : Operand) (hop : o.op = Op.next it false) (hit : A.eval it = .pointer (some ⟨r, 0, none⟩))
    (hDone : Hid (∀ x : Int, fitI x → inL l x = true → inL seen x = true) → wpList P ops Q rest (A.put o.dst (.tuple #[.bool false])) w)
    (hMore : ∀ (x : Int) (c : Bool) (w' : World) (cnt' : Nat), fitI x → inL l x = true → RangeB P k e w' b r n l (seen ++ [x]) cnt' → cnt' < cnt → w.grownBy w' (some r) → w'.heap.size = w.heap.size →
      (Instr.entry (.pointer (some ⟨r, 0, none⟩))).run P w' = .ok (.tuple #[.int .i64 x, .bool c]) w' → wpList P ops Q rest (A.put o.dst (.tuple #[.bool true, .int .i64 x, .bool c])) w') : wpList P ops Q (o :: rest) A w := by
  obtain ⟨D, left, h1, h2⟩ := h
  refine wpList_next_ranges w hgd it hop k K (plainElem P e) (Value.int .i64) Value.bool (fun key kl hkey => by obtain ⟨x, rfl, _⟩ := Maps.keyOf_int_inv hk hkey; exact ⟨x, rfl⟩)
    (fun v y hv => by
      unfold plainElem at hv
      rw [he] at hv
      cases v <;> simp at hv
      exact ⟨_, rfl⟩) b r n D left cnt hit h1 (fun h0 hl => hDone (Lib.hid fun x hx hin => ?_)) (fun x c kl y w' cnt' hkey hlk hv hat hrg hlt hgr hsz hen => ?_)
  · have := h2 x (wfI hx)
    rw [hl, hin] at this
    cases hs : inL seen x
    · rw [hs] at this; simp at this
    · rfl
  · obtain ⟨x', ex, rfl, hwx⟩ := Maps.keyOf_int_inv hk hkey
    cases ex
    have hfx : fitI x := by
      simp only [Lit.wf, decide_eq_true_eq, Bool.and_eq_true] at hwx
      exact hwx
    have h3 := h2 x hwx
    rw [hlk] at h3
    have h4 : inL l x = true := by
      cases hl : inL l x
      · rw [hl] at h3; simp at h3
      · rfl
    refine hMore x c w' cnt' hfx h4 ⟨D, _, hrg, fun z hz => ?_⟩ hlt hgr hsz hen
    rw [inL_snoc, h2 z hz]
    by_cases hzx : z = x
    · subst hzx
      rw [if_pos rfl, WideAt.sameKey_self (K.key hkey)]
      simp
    · have hne : (Lit.int .i64 z) ≠ .int .i64 x := fun h => hzx (by injection h)
      rw [if_neg hzx, Maps.sameKey_ne hne]
      simp

end
end Go.Proofs.Ytnihccinpbpllaa
