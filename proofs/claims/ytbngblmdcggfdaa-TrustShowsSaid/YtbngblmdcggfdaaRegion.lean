/- A region that draws its order, whose operations each add to what is known and take nothing away: what is known of each holds behind it, in whatever order they came. No program is in sight. -/
import Derived.Test.YtbngblmdcggfdaaMem
import Derived.Deep.RegionWith
set_option linter.unusedSimpArgs false
set_option linter.unusedVariables false
namespace Go.Proofs.Ytbngblmdcggfdaa
open Go.RowKit

/-- Slots set, one by one. -/
def putAll (x : Nat → Value) : List (Nat × Option Tmp) → Act → Act
  | [], a => a
  | (i, t) :: l, a => putAll x l (a.put t (x i))

def upd (x : Nat → Value) (i : Nat) (v : Value) : Nat → Value := fun j => if j = i then v else x j

/-- Two slots are not one. -/
def apartD (d d' : Option Tmp) : Bool := match d, d' with | some a, some b => a != b | _, _ => true

theorem put_comm (a : Act) (d d' : Option Tmp) (u v : Value) (h : apartD d d' = true) : (a.put d u).put d' v = (a.put d' v).put d u := by
  cases d <;> cases d' <;> simp only [Act.put]
  rename_i p q
  simp [apartD] at h
  rw [Array.setIfInBounds_comm _ _ h]

theorem put_put (a : Act) (d : Option Tmp) (u v : Value) : (a.put d u).put d v = a.put d v := by
  cases d <;> simp [Act.put]

theorem putAll_comm {x : Nat → Value} {t : Option Tmp} {v : Value} : ∀ {l : List (Nat × Option Tmp)} {a : Act}, (∀ j ∈ l, apartD j.2 t = true) → (putAll x l a).put t v = putAll x l (a.put t v) := by
  intro l
  induction l with
  | nil => intro a _; rfl
  | cons j l ih =>
    intro a h
    simp only [putAll]
    rw [ih fun k hk => h k (by simp [hk]), put_comm _ _ _ _ _ (h j (by simp))]

theorem putAll_congr {x y : Nat → Value} : ∀ {l : List (Nat × Option Tmp)} {a : Act}, (∀ j ∈ l, x j.1 = y j.1) → putAll x l a = putAll y l a := by
  intro l
  induction l with
  | nil => intro a _; rfl
  | cons j l ih =>
    intro a h
    simp only [putAll]
    rw [h j (by simp), ih fun k hk => h k (by simp [hk])]

theorem apart_symm {d d' : Option Tmp} (h : apartD d d' = true) : apartD d' d = true := by
  cases d <;> cases d' <;> simp only [apartD, bne_iff_ne] at *
  exact fun e => h e.symm

theorem put_putAll {x : Nat → Value} {i : Nat} {t : Option Tmp} {v : Value} : ∀ {l : List (Nat × Option Tmp)} {a : Act}, (i, t) ∈ l → l.Pairwise (fun j k => j.1 ≠ k.1 ∧ apartD j.2 k.2 = true) →
    (putAll x l a).put t v = putAll (upd x i v) l a := by
  intro l
  induction l with
  | nil => intro a h; simp at h
  | cons j l ih =>
    intro a hi hp
    obtain ⟨h1, h2⟩ := List.pairwise_cons.1 hp
    simp only [putAll]
    rcases List.mem_cons.1 hi with rfl | hi
    · rw [putAll_comm fun k hk => apart_symm (h1 k hk).2, put_put, show upd x i v i = v by simp [upd]]
      exact putAll_congr fun k hk => by simp [upd, Ne.symm (h1 k hk).1]
    · rw [ih hi h2, show upd x i v j.1 = x j.1 by simp [upd, (h1 _ hi).1]]

/-- Marks of those that were carried out. -/
def marked (n : Nat) (L : List Nat) : Array Bool := (Array.range n).map fun i => L.contains i

theorem marked_nil (n : Nat) : Array.replicate n false = marked n [] := by
  apply Array.ext <;> simp [marked]

theorem marked_set (n : Nat) (L : List Nat) (i : Nat) : (marked n L).setIfInBounds i true = marked n (i :: L) := by
  apply Array.ext
  · simp [marked]
  · intro j h1 h2
    have hj : j < (marked n L).size := by simpa using h1
    rw [Array.getElem_setIfInBounds hj]
    simp only [marked, Array.getElem_map, Array.getElem_range, List.contains_cons]
    by_cases e : i = j
    · subst e; simp
    · simp [e, Ne.symm e]

theorem marked_get {n : Nat} {L : List Nat} {i : Nat} {b : Bool} (h : i < n) : (marked n L).getD i b = L.contains i := by
  simp [marked, Array.getD, h]

theorem marked_congr {n : Nat} {L M : List Nat} (h : ∀ i, i ∈ L ↔ i ∈ M) : marked n L = marked n M := by
  apply Array.ext
  · simp [marked]
  · intro j h1 h2
    simp [marked, h]

theorem nodup_le : ∀ {l S : List Nat}, l.Nodup → (∀ j ∈ l, j ∈ S) → l.length ≤ S.length := by
  intro l
  induction l with
  | nil => intro S _ _; simp
  | cons i l ih =>
    intro S hn hs
    obtain ⟨h1, h2⟩ := List.nodup_cons.1 hn
    have := ih (S := S.erase i) h2 fun j hj => (List.mem_erase_of_ne (by rintro rfl; exact h1 hj)).2 (hs j (by simp [hj]))
    rw [List.length_erase_of_mem (hs i (by simp))] at this
    have h3 : 0 < S.length := List.length_pos_of_mem (hs i (by simp))
    simp; omega

/-- Those that must come ahead of the i-th. -/
def predsOf (ops : Array Oper) (i : Nat) : List Nat := ((ops[i]?).map fun o => (o.after.toList.filter fun e => Region.binds .any e).map (·.on)).getD []

/-- .. and those that must come ahead of these, and so on. -/
def anc (ops : Array Oper) : Nat → Nat → List Nat
  | 0, _ => []
  | k + 1, i => predsOf ops i ++ (predsOf ops i).flatMap (anc ops k)

theorem anc_sub {ops : Array Oper} {L : List Nat} (hL : ∀ i ∈ L, ∀ j ∈ predsOf ops i, j ∈ L) : ∀ (k i : Nat), (∀ j ∈ predsOf ops i, j ∈ L) → ∀ j ∈ anc ops k i, j ∈ L := by
  intro k
  induction k with
  | zero => intro i _ j hj; simp [anc] at hj
  | succ k ih =>
    intro i hi j hj
    simp only [anc, List.mem_append, List.mem_flatMap] at hj
    rcases hj with hj | ⟨m, hm, hj⟩
    · exact hi j hj
    · exact ih m (hL m (hi m hm)) j hj

/-- May the operations S be carried out ahead of all others, in whatever order their edges allow? -/
def aheadOk (ops : Array Oper) (D : List (Nat × Option Tmp)) : Bool :=
  let S := D.map (·.1)
  (S.all fun i => decide (i < ops.size) && ((ops[i]?).map fun o => o.after.all fun e => !Region.binds .any e || (S.contains e.on && decide (e.on < i))).getD false) &&
  ((List.range ops.size).all fun i => S.contains i || ((ops[i]?).map fun o => (o.after.any fun e => Region.binds .any e && !S.contains e.on) || S.all fun j => (anc ops ops.size i).contains j).getD false) &&
  decide (D.Pairwise fun j k => j.1 ≠ k.1 ∧ apartD j.2 k.2 = true)

section
variable {P : Program} {ops : Array Oper} {Q : Exit → Act → World → Prop}

theorem wpAny_ahead (D : List (Nat × Option Tmp)) (S : List Nat) (hS : D.map (·.1) = S) (hok : aheadOk ops D = true) (Rel : World → World → Prop) (G : Nat → Value → World → Prop) (Inv : World → Prop) (a0 : Act) (r : Nat)
    (mono : ∀ i v w w', i ∈ S → Rel w w' → Inv w → Inv w' → G i v w → G i v w')
    (step : ∀ i t, (i, t) ∈ D → ∀ (x : Nat → Value) (w : World), Inv w → (∀ j ∈ predsOf ops i, G j (x j) w) → ∀ K : Act → World → Prop,
      (∀ v w', Rel w w' → Inv w' → G i v w' → K ((putAll x D a0).put t v) w') → wpOp P ops Q i K (putAll x D a0) w)
    (fin : ∀ (x : Nat → Value) (w : World), Inv w → (∀ i ∈ S, G i (x i) w) → wpAny P .any ops Q r (marked ops.size S) (putAll x D a0) w) :
    ∀ (k : Nat) (L : List Nat) (x : Nat → Value) (w : World), L.Nodup → (∀ i ∈ L, i ∈ S) → (∀ i ∈ L, ∀ j ∈ predsOf ops i, j ∈ L) → L.length + k = S.length → Inv w → (∀ i ∈ L, G i (x i) w) →
      wpAny P .any ops Q (k + r) (marked ops.size L) (putAll x D a0) w := by
  subst hS
  simp only [aheadOk, Bool.and_eq_true, List.all_eq_true, decide_eq_true_eq, List.mem_range] at hok
  obtain ⟨⟨hc1, hc2⟩, hc4⟩ := hok
  have hSn : (D.map (·.1)).Nodup := List.pairwise_map.2 (hc4.imp fun h => h.1)
  intro k
  induction k with
  | zero =>
    intro L x w hL hsub hcl hlen hI hG
    have hall : ∀ i, i ∈ L ↔ i ∈ D.map (·.1) := fun i => ⟨hsub i, fun hi => Classical.byContradiction fun hn => by
      have h1 := nodup_le (List.nodup_cons.2 ⟨hn, hL⟩) fun j hj => by
        rcases List.mem_cons.1 hj with rfl | hj
        · exact hi
        · exact hsub j hj
      simp only [List.length_cons] at h1; omega⟩
    rw [Nat.zero_add, marked_congr hall]
    exact fin x w hI fun i hi => hG i ((hall i).2 hi)
  | succ k ih =>
    intro L x w hL hsub hcl hlen hI hG
    have hmem : ∀ i, i ∈ Region.ready .any ops (marked ops.size L) ↔ i < ops.size ∧ i ∉ L ∧ ∃ o, ops[i]? = some o ∧ ∀ e ∈ o.after, Region.binds .any e = true → e.on ∈ L ∧ e.on < ops.size := by
      intro i
      simp only [Region.ready, List.mem_filter, List.mem_range, Bool.and_eq_true, Bool.not_eq_true']
      constructor
      · rintro ⟨h1, h2, h3⟩
        rw [marked_get h1] at h2
        refine ⟨h1, by simpa using h2, ops[i], by simp [h1], fun e he hb => ?_⟩
        simp only [h1, getElem?_pos, Option.map_some, Option.getD_some, Array.all_eq_true_iff_forall_mem] at h3
        have := h3 e he
        rw [hb] at this
        simp only [Bool.not_true, Bool.false_or] at this
        by_cases hlt : e.on < ops.size
        · rw [marked_get hlt] at this
          exact ⟨by simpa using this, hlt⟩
        · have : (marked ops.size L).getD e.on false = false := by simp [marked, Array.getD, hlt]
          simp_all
      · rintro ⟨h1, h2, o, ho, h3⟩
        refine ⟨h1, by rw [marked_get h1]; simpa using h2, ?_⟩
        simp only [ho, Option.map_some, Option.getD_some, Array.all_eq_true_iff_forall_mem]
        intro e he
        cases hb : Region.binds .any e
        · simp
        · obtain ⟨h4, h5⟩ := h3 e he hb
          rw [marked_get h5]
          simpa using h4
    rw [show k + 1 + r = (k + r) + 1 by omega]
    refine ⟨fun hnil => ?_, fun i hi => ?_⟩
    · exfalso
      -- the least of S that is not carried out yet is ready
      have hex : ∃ i, i ∈ D.map (·.1) ∧ i ∉ L := Classical.byContradiction fun hn => by
        have h1 := nodup_le hSn (S := L) fun j hj => Classical.byContradiction fun hj' => hn ⟨j, hj, hj'⟩
        omega
      obtain ⟨i, ⟨hiS, hiL⟩, hmin⟩ : ∃ i, (i ∈ D.map (·.1) ∧ i ∉ L) ∧ ∀ j, j < i → ¬ (j ∈ D.map (·.1) ∧ j ∉ L) := by
        obtain ⟨i0, h0⟩ := hex
        induction i0 using Nat.strongRecOn with
        | _ i0 ih0 =>
          by_cases h : ∃ j, j < i0 ∧ j ∈ D.map (·.1) ∧ j ∉ L
          · obtain ⟨j, hj, hjS⟩ := h
            exact ih0 j hj hjS
          · exact ⟨i0, h0, fun j hj hjS => h ⟨j, hj, hjS⟩⟩
      obtain ⟨h1, h2⟩ := hc1 i hiS
      have : i ∈ Region.ready .any ops (marked ops.size L) := by
        rw [hmem]
        refine ⟨h1, hiL, ops[i], by simp [h1], fun e he hb => ?_⟩
        simp only [h1, getElem?_pos, Option.map_some, Option.getD_some, Array.all_eq_true_iff_forall_mem] at h2
        have h3 := h2 e he
        rw [hb] at h3
        simp only [Bool.not_true, Bool.false_or, Bool.and_eq_true, decide_eq_true_eq, List.contains_iff_mem] at h3
        exact ⟨Classical.byContradiction fun hn => hmin e.on h3.2 ⟨h3.1, hn⟩, (hc1 e.on h3.1).1⟩
      rw [hnil] at this
      simp at this
    · obtain ⟨h1, hiL, o, ho, hp⟩ := (hmem i).1 hi
      have hiS : i ∈ D.map (·.1) := by
        have h2 := hc2 i h1
        simp only [ho, Option.map_some, Option.getD_some, Bool.or_eq_true, List.contains_iff_mem, Array.any_eq_true', List.all_eq_true, Bool.and_eq_true, Bool.not_eq_true', beq_iff_eq] at h2
        rcases h2 with h2 | ⟨e, he, hb, hn⟩ | h2
        · exact h2
        · exfalso
          have := hsub _ (hp e he hb).1
          rw [← List.contains_iff_mem, hn] at this
          simp at this
        · exfalso
          have h4 : ∀ j ∈ predsOf ops i, j ∈ L := fun j hj => by
            simp only [predsOf, ho, Option.map_some, Option.getD_some, List.mem_map, List.mem_filter, Array.mem_toList_iff] at hj
            obtain ⟨e, ⟨he, hb⟩, rfl⟩ := hj
            exact (hp e he hb).1
          have h3 := nodup_le hSn (S := L) fun j hj => anc_sub hcl _ i h4 j (h2 j hj)
          omega
      have hpreL : ∀ j ∈ predsOf ops i, j ∈ L := fun j hj => by
        simp only [predsOf, ho, Option.map_some, Option.getD_some, List.mem_map, List.mem_filter, Array.mem_toList_iff] at hj
        obtain ⟨e, ⟨he, hb⟩, rfl⟩ := hj
        exact (hp e he hb).1
      have hpre : ∀ j ∈ predsOf ops i, G j (x j) w := fun j hj => by
        simp only [predsOf, ho, Option.map_some, Option.getD_some, List.mem_map, List.mem_filter, Array.mem_toList_iff] at hj
        obtain ⟨e, ⟨he, hb⟩, rfl⟩ := hj
        exact hG _ (hp e he hb).1
      obtain ⟨⟨i', t⟩, hit, hii⟩ := List.mem_map.1 hiS
      have hii' : i = i' := hii.symm
      subst hii'
      refine step i t hit x w hI hpre _ fun v w' hbw hI' hGv => ?_
      rw [put_putAll hit hc4, marked_set]
      refine ih (i :: L) (upd x i v) w' (List.nodup_cons.2 ⟨hiL, hL⟩) (fun j hj => ?_) (fun j hj m hm => ?_) (by simp only [List.length_cons]; omega) hI' fun j hj => ?_
      · rcases List.mem_cons.1 hj with rfl | hj
        · exact hiS
        · exact hsub j hj
      · rcases List.mem_cons.1 hj with rfl | hjL
        · exact List.mem_cons_of_mem _ (hpreL m hm)
        · exact List.mem_cons_of_mem _ (hcl j hjL m hm)
      · rcases List.mem_cons.1 hj with rfl | hjL
        · simpa [upd] using hGv
        · have hne : j ≠ i := by rintro rfl; exact hiL hjL
          rw [show upd x i v j = x j by simp [upd, hne]]
          exact mono j _ w w' (hsub j hjL) hbw hI hI' (hG j hjL)

theorem put_same (a : Act) (d : Option Tmp) : a.put d ((d.map fun t => a.tmps.getD t undef).getD undef) = a := by
  cases d with
  | none => rfl
  | some t =>
    simp only [Act.put, Option.map_some, Option.getD_some]
    have : a.tmps.setIfInBounds t (a.tmps.getD t undef) = a.tmps := by
      apply Array.ext
      · simp
      · intro i h1 h2
        rw [Array.getElem_setIfInBounds h2]
        by_cases e : t = i
        · subst e; simp [Array.getD, h2]
        · simp [e]
    rw [this]

def lookD (D : List (Nat × Option Tmp)) (a : Act) (i : Nat) : Value := match D.find? (fun p => p.1 == i) with | some p => (p.2.map fun t => a.tmps.getD t undef).getD undef | none => undef

theorem putAll_same (a : Act) {x : Nat → Value} : ∀ {l : List (Nat × Option Tmp)}, (∀ p ∈ l, x p.1 = (p.2.map fun t => a.tmps.getD t undef).getD undef) → putAll x l a = a := by
  intro l
  induction l with
  | nil => intro _; rfl
  | cons p l ih =>
    intro h
    obtain ⟨i, t⟩ := p
    have e := put_same a t
    simp only [putAll]
    rw [h (i, t) (by simp)]
    simp only
    rw [e]
    exact ih fun q hq => h q (by simp [hq])

theorem lookD_at {D : List (Nat × Option Tmp)} {a : Act} (hp : D.Pairwise (fun j k => j.1 ≠ k.1 ∧ apartD j.2 k.2 = true)) : ∀ p ∈ D, lookD D a p.1 = (p.2.map fun t => a.tmps.getD t undef).getD undef := by
  intro p hpD
  have h : D.find? (fun q => q.1 == p.1) = some p := by
    induction D with
    | nil => simp at hpD
    | cons q D ih =>
      obtain ⟨h1, h2⟩ := List.pairwise_cons.1 hp
      rcases List.mem_cons.1 hpD with rfl | hq
      · simp
      · rw [List.find?_cons_of_neg (by simpa using (h1 p hq).1)]
        exact ih h2 hq
  unfold lookD
  rw [h]

/-- THE LAW, at a region: the operations S come first, in whatever order; of each there is known G, in whatever order; the others follow. -/
theorem wp_region_ahead {id : Nat} {a0 : Act} {w : World} (hm : P.follows .mixedOrders = true) (D : List (Nat × Option Tmp)) (S : List Nat) (hS : D.map (·.1) = S) (r : Nat) (hok : aheadOk ops D = true) (hr : S.length + r = ops.size) (Rel : World → World → Prop) (G : Nat → Value → World → Prop) (Inv : World → Prop) (hI : Inv w.drew)
    (mono : ∀ i v w w', i ∈ S → Rel w w' → Inv w → Inv w' → G i v w → G i v w')
    (step : ∀ i t, (i, t) ∈ D → ∀ (x : Nat → Value) (w : World), Inv w → (∀ j ∈ predsOf ops i, G j (x j) w) → ∀ K : Act → World → Prop,
      (∀ v w', Rel w w' → Inv w' → G i v w' → K ((putAll x D a0).put t v) w') → wpOp P ops Q i K (putAll x D a0) w)
    (fin : ∀ (x : Nat → Value) (w : World), Inv w → (∀ i ∈ S, G i (x i) w) → wpAny P .any ops Q r (marked ops.size S) (putAll x D a0) w) : (Code.region id ops true).wp P Q a0 w := by
  refine wp_region_any hm ?_
  rw [marked_nil]
  have h := wpAny_ahead (P := P) (Q := Q) D S hS hok Rel G Inv a0 r mono step fin S.length [] (lookD D a0) w.drew List.nodup_nil (by simp) (by simp) (by simp) hI (by simp)
  rw [putAll_same a0 (lookD_at (by simp only [aheadOk, Bool.and_eq_true, decide_eq_true_eq] at hok; exact hok.2)), hr] at h
  exact h

theorem wpOp_plain {i : Nat} {o : Oper} {K : Act → World → Prop} {a : Act} {w : World} (ho : ops[i]? = some o) (hg : Region.wanted o (yielded ops a.tmps) = true) (h : o.wp P a w K Q) : wpOp P ops Q i K a w := by
  simp only [wpOp, ho, hg, if_true]
  exact .inl h

theorem wpOp_at {l : List Oper} {i : Nat} {o : Oper} {K : Act → World → Prop} {a : Act} {w : World} (ho : l[i]? = some o) (hg : o.guard = none) (h : o.wp P a w K Q) : wpOp P l.toArray Q i K a w :=
  wpOp_plain (by simpa using ho) (wanted_none hg) h

/-- An operation that just yields. -/
theorem wp_value {o : Oper} {K : Act → World → Prop} {a : Act} {w w' : World} {v : Value} (h : (execOp a.eval o).run P w = .ok (.value v) w') (hK : K (a.put o.dst v) w') : o.wp P a w K Q := by
  unfold Oper.wp
  rw [h]
  exact hK

/-- Behind those: the one that is next. -/
theorem wpAny_next {i r : Nat} {o : Oper} {listed : Array Bool} {a : Act} {w : World} (hr : Region.ready .any ops listed = [i]) (ho : ops[i]? = some o) (hg : Region.wanted o (yielded ops a.tmps) = true)
    (h : ∀ K : Act → World → Prop, (∀ a w, wpAny P .any ops Q r (listed.setIfInBounds i true) a w → K a w) → o.wp P a w K Q) : wpAny P .any ops Q (r + 1) listed a w :=
  wpAny_all hr (by simp) fun j hj => by
    simp only [List.mem_singleton] at hj
    subst hj
    exact wpOp_plain ho hg (h _ fun _ _ h => h)

theorem wpAny_at {l : List Oper} {i r : Nat} {o : Oper} {listed : Array Bool} {a : Act} {w : World} (ho : l[i]? = some o) (hg : o.guard = none) (hr : Region.ready .any l.toArray listed = [i])
    (h : ∀ K : Act → World → Prop, (∀ a w, wpAny P .any l.toArray Q r (listed.setIfInBounds i true) a w → K a w) → o.wp P a w K Q) : wpAny P .any l.toArray Q (r + 1) listed a w :=
  wpAny_next hr (by simpa using ho) (wanted_none hg) h

end
end Go.Proofs.Ytbngblmdcggfdaa
