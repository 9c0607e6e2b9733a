/- Walks and plain laws that the claim rests on, part 3. -/
import Derived.Test.YtflfjpopfapogaaP2
import Derived.Deep.RegionWith
set_option linter.unusedSimpArgs false
set_option linter.unusedVariables false
/- A region that draws its order, whose operations each add to what is known and take nothing away: what is known of each holds behind it, in whatever order they came. No program is in sight. -/
namespace Go.Proofs.Ytflfjpopfapogaa
open Go.RowKit
def putAll (x : Nat → Value) : List (Nat × Option Tmp) → Act → Act
 | [], a => a
 | (i, t) :: l, a => putAll x l (a.put t (x i))
def upd (x : Nat → Value) (i : Nat) (v : Value) : Nat → Value := fun j => if j = i then v else x j
def apartD (d d' : Option Tmp) : Bool := match d, d' with | some a, some b => a != b | _, _ => true
theorem put_comm (a : Act) (d d' : Option Tmp) (u v : Value) (h : apartD d d' = true) : (a.put d u).put d' v = (a.put d' v).put d u := by
 cases d <;> cases d' <;> simp only [Act.put]
 rename_i p q
 simp [apartD] at h
 rw [Array.setIfInBounds_comm _ _ h]
theorem put_put (a : Act) (d : Option Tmp) (u v : Value) : (a.put d u).put d v = a.put d v := by
 cases d <;> simp [Act.put]
theorem putAll_comm {x : Nat → Value} {t : Option Tmp} {v : Value} : ∀ {l : List (Nat × Option Tmp)} {a : Act}, (∀ j ∈ l, apartD j.2 t = true) → (putAll x l a).put t v = putAll x l (a.put t v) := by
 intro l
 induction l with
 | nil => intro a _; rfl
 | cons j l ih =>
  intro a h
  simp only [putAll]
  rw [ih fun k hk => h k (by simp [hk]), put_comm _ _ _ _ _ (h j (by simp))]
theorem putAll_congr {x y : Nat → Value} : ∀ {l : List (Nat × Option Tmp)} {a : Act}, (∀ j ∈ l, x j.1 = y j.1) → putAll x l a = putAll y l a := by
 intro l
 induction l with
 | nil => intro a _; rfl
 | cons j l ih =>
  intro a h
  simp only [putAll]
  rw [h j (by simp), ih fun k hk => h k (by simp [hk])]
theorem apart_symm {d d' : Option Tmp} (h : apartD d d' = true) : apartD d' d = true := by
 cases d <;> cases d' <;> simp only [apartD, bne_iff_ne] at *
 exact fun e => h e.symm
theorem put_putAll {x : Nat → Value} {i : Nat} {t : Option Tmp} {v : Value} : ∀ {l : List (Nat × Option Tmp)} {a : Act}, (i, t) ∈ l → l.Pairwise (fun j k => j.1 ≠ k.1 ∧ apartD j.2 k.2 = true) →
  (putAll x l a).put t v = putAll (upd x i v) l a := by
 intro l
 induction l with
 | nil => intro a h; simp at h
 | cons j l ih =>
  intro a hi hp
  obtain ⟨h1, h2⟩ := List.pairwise_cons.1 hp
  simp only [putAll]
  rcases List.mem_cons.1 hi with rfl | hi
  ·rw [putAll_comm fun k hk => apart_symm (h1 k hk).2, put_put, show upd x i v i = v by simp [upd]]
   exact putAll_congr fun k hk => by simp [upd, Ne.symm (h1 k hk).1]
  ·rw [ih hi h2, show upd x i v j.1 = x j.1 by simp [upd, (h1 _ hi).1]]
def marked (n : Nat) (L : List Nat) : Array Bool := (Array.range n).map fun i => L.contains i
theorem marked_nil (n : Nat) : Array.replicate n false = marked n [] := by
 apply Array.ext <;> simp [marked]
theorem marked_set (n : Nat) (L : List Nat) (i : Nat) : (marked n L).setIfInBounds i true = marked n (i :: L) := by
 apply Array.ext
 ·simp [marked]
 ·intro j h1 h2
  have hj : j < (marked n L).size := by simpa using h1
  rw [Array.getElem_setIfInBounds hj]
  simp only [marked, Array.getElem_map, Array.getElem_range, List.contains_cons]
  by_cases e : i = j
  ·subst e; simp
  ·simp [e, Ne.symm e]
theorem marked_get {n : Nat} {L : List Nat} {i : Nat} {b : Bool} (h : i < n) : (marked n L).getD i b = L.contains i := by
 simp [marked, Array.getD, h]
theorem marked_congr {n : Nat} {L M : List Nat} (h : ∀ i, i ∈ L ↔ i ∈ M) : marked n L = marked n M := by
 apply Array.ext
 ·simp [marked]
 ·intro j h1 h2
  simp [marked, h]
theorem nodup_le : ∀ {l S : List Nat}, l.Nodup → (∀ j ∈ l, j ∈ S) → l.length ≤ S.length := by
 intro l
 induction l with
 | nil => intro S _ _; simp
 | cons i l ih =>
  intro S hn hs
  obtain ⟨h1, h2⟩ := List.nodup_cons.1 hn
  have := ih (S := S.erase i) h2 fun j hj => (List.mem_erase_of_ne (by rintro rfl; exact h1 hj)).2 (hs j (by simp [hj]))
  rw [List.length_erase_of_mem (hs i (by simp))] at this
  have h3 : 0 < S.length := List.length_pos_of_mem (hs i (by simp))
  simp; omega
def predsOf (ops : Array Oper) (i : Nat) : List Nat := ((ops[i]?).map fun o => (o.after.toList.filter fun e => Region.binds .any e).map (·.on)).getD []
def anc (ops : Array Oper) : Nat → Nat → List Nat
 | 0, _ => []
 | k + 1, i => predsOf ops i ++ (predsOf ops i).flatMap (anc ops k)
theorem anc_sub {ops : Array Oper} {L : List Nat} (hL : ∀ i ∈ L, ∀ j ∈ predsOf ops i, j ∈ L) : ∀ (k i : Nat), (∀ j ∈ predsOf ops i, j ∈ L) → ∀ j ∈ anc ops k i, j ∈ L := by
 intro k
 induction k with
 | zero => intro i _ j hj; simp [anc] at hj
 | succ k ih =>
  intro i hi j hj
  simp only [anc, List.mem_append, List.mem_flatMap] at hj
  rcases hj with hj | ⟨m, hm, hj⟩
  ·exact hi j hj
  ·exact ih m (hL m (hi m hm)) j hj
def aheadOk (ops : Array Oper) (D : List (Nat × Option Tmp)) : Bool :=
 let S := D.map (·.1)
 (S.all fun i => decide (i < ops.size) && ((ops[i]?).map fun o => o.after.all fun e => !Region.binds .any e || (S.contains e.on && decide (e.on < i))).getD false) &&
 ((List.range ops.size).all fun i => S.contains i || ((ops[i]?).map fun o => (o.after.any fun e => Region.binds .any e && !S.contains e.on) || S.all fun j => (anc ops ops.size i).contains j).getD false) &&
 decide (D.Pairwise fun j k => j.1 ≠ k.1 ∧ apartD j.2 k.2 = true)
section
variable {P : Program} {ops : Array Oper} {Q : Exit → Act → World → Prop}
theorem wpAny_ahead (D : List (Nat × Option Tmp)) (S : List Nat) (hS : D.map (·.1) = S) (hok : aheadOk ops D = true) (Rel : World → World → Prop) (G : Nat → Value → World → Prop) (Inv : World → Prop) (a0 : Act) (r : Nat)
  (mono : ∀ i v w w', i ∈ S → Rel w w' → Inv w → Inv w' → G i v w → G i v w')
  (step : ∀ i t, (i, t) ∈ D → ∀ (x : Nat → Value) (w : World), Inv w → (∀ j ∈ predsOf ops i, G j (x j) w) → ∀ K : Act → World → Prop,
   (∀ v w', Rel w w' → Inv w' → G i v w' → K ((putAll x D a0).put t v) w') → wpOp P ops Q i K (putAll x D a0) w)
  (fin : ∀ (x : Nat → Value) (w : World), Inv w → (∀ i ∈ S, G i (x i) w) → wpAny P .any ops Q r (marked ops.size S) (putAll x D a0) w) :
  ∀ (k : Nat) (L : List Nat) (x : Nat → Value) (w : World), L.Nodup → (∀ i ∈ L, i ∈ S) → (∀ i ∈ L, ∀ j ∈ predsOf ops i, j ∈ L) → L.length + k = S.length → Inv w → (∀ i ∈ L, G i (x i) w) →
   wpAny P .any ops Q (k + r) (marked ops.size L) (putAll x D a0) w := by
 subst hS
 simp only [aheadOk, Bool.and_eq_true, List.all_eq_true, decide_eq_true_eq, List.mem_range] at hok
 obtain ⟨⟨hc1, hc2⟩, hc4⟩ := hok
 have hSn : (D.map (·.1)).Nodup := List.pairwise_map.2 (hc4.imp fun h => h.1)
 intro k
 induction k with
 | zero =>
  intro L x w hL hsub hcl hlen hI hG
  have hall : ∀ i, i ∈ L ↔ i ∈ D.map (·.1) := fun i => ⟨hsub i, fun hi => Classical.byContradiction fun hn => by
   have h1 := nodup_le (List.nodup_cons.2 ⟨hn, hL⟩) fun j hj => by
    rcases List.mem_cons.1 hj with rfl | hj
    ·exact hi
    ·exact hsub j hj
   simp only [List.length_cons] at h1; omega⟩
  rw [Nat.zero_add, marked_congr hall]
  exact fin x w hI fun i hi => hG i ((hall i).2 hi)
 | succ k ih =>
  intro L x w hL hsub hcl hlen hI hG
  have hmem : ∀ i, i ∈ Region.ready .any ops (marked ops.size L) ↔ i < ops.size ∧ i ∉ L ∧ ∃ o, ops[i]? = some o ∧ ∀ e ∈ o.after, Region.binds .any e = true → e.on ∈ L ∧ e.on < ops.size := by
   intro i
   simp only [Region.ready, List.mem_filter, List.mem_range, Bool.and_eq_true, Bool.not_eq_true']
   constructor
   ·rintro ⟨h1, h2, h3⟩
    rw [marked_get h1] at h2
    refine ⟨h1, by simpa using h2, ops[i], by simp [h1], fun e he hb => ?_⟩
    simp only [h1, getElem?_pos, Option.map_some, Option.getD_some, Array.all_eq_true_iff_forall_mem] at h3
    have := h3 e he
    rw [hb] at this
    simp only [Bool.not_true, Bool.false_or] at this
    by_cases hlt : e.on < ops.size
    ·rw [marked_get hlt] at this
     exact ⟨by simpa using this, hlt⟩
    ·have : (marked ops.size L).getD e.on false = false := by simp [marked, Array.getD, hlt]
     simp_all
   ·rintro ⟨h1, h2, o, ho, h3⟩
    refine ⟨h1, by rw [marked_get h1]; simpa using h2, ?_⟩
    simp only [ho, Option.map_some, Option.getD_some, Array.all_eq_true_iff_forall_mem]
    intro e he
    cases hb : Region.binds .any e
    ·simp
    ·obtain ⟨h4, h5⟩ := h3 e he hb
     rw [marked_get h5]
     simpa using h4
  rw [show k + 1 + r = (k + r) + 1 by omega]
  refine ⟨fun hnil => ?_, fun i hi => ?_⟩
  ·exfalso
   -- the least of S that is not carried out yet is ready
   have hex : ∃ i, i ∈ D.map (·.1) ∧ i ∉ L := Classical.byContradiction fun hn => by
    have h1 := nodup_le hSn (S := L) fun j hj => Classical.byContradiction fun hj' => hn ⟨j, hj, hj'⟩
    omega
   obtain ⟨i, ⟨hiS, hiL⟩, hmin⟩ : ∃ i, (i ∈ D.map (·.1) ∧ i ∉ L) ∧ ∀ j, j < i → ¬ (j ∈ D.map (·.1) ∧ j ∉ L) := by
    obtain ⟨i0, h0⟩ := hex
    induction i0 using Nat.strongRecOn with
    | _ i0 ih0 =>
     by_cases h : ∃ j, j < i0 ∧ j ∈ D.map (·.1) ∧ j ∉ L
     ·obtain ⟨j, hj, hjS⟩ := h
      exact ih0 j hj hjS
     ·exact ⟨i0, h0, fun j hj hjS => h ⟨j, hj, hjS⟩⟩
   obtain ⟨h1, h2⟩ := hc1 i hiS
   have : i ∈ Region.ready .any ops (marked ops.size L) := by
    rw [hmem]
    refine ⟨h1, hiL, ops[i], by simp [h1], fun e he hb => ?_⟩
    simp only [h1, getElem?_pos, Option.map_some, Option.getD_some, Array.all_eq_true_iff_forall_mem] at h2
    have h3 := h2 e he
    rw [hb] at h3
    simp only [Bool.not_true, Bool.false_or, Bool.and_eq_true, decide_eq_true_eq, List.contains_iff_mem] at h3
    exact ⟨Classical.byContradiction fun hn => hmin e.on h3.2 ⟨h3.1, hn⟩, (hc1 e.on h3.1).1⟩
   rw [hnil] at this
   simp at this
  ·obtain ⟨h1, hiL, o, ho, hp⟩ := (hmem i).1 hi
   have hiS : i ∈ D.map (·.1) := by
    have h2 := hc2 i h1
    simp only [ho, Option.map_some, Option.getD_some, Bool.or_eq_true, List.contains_iff_mem, Array.any_eq_true', List.all_eq_true, Bool.and_eq_true, Bool.not_eq_true', beq_iff_eq] at h2
    rcases h2 with h2 | ⟨e, he, hb, hn⟩ | h2
    ·exact h2
    ·exfalso
     have := hsub _ (hp e he hb).1
     rw [← List.contains_iff_mem, hn] at this
     simp at this
    ·exfalso
     have h4 : ∀ j ∈ predsOf ops i, j ∈ L := fun j hj => by
      simp only [predsOf, ho, Option.map_some, Option.getD_some, List.mem_map, List.mem_filter, Array.mem_toList_iff] at hj
      obtain ⟨e, ⟨he, hb⟩, rfl⟩ := hj
      exact (hp e he hb).1
     have h3 := nodup_le hSn (S := L) fun j hj => anc_sub hcl _ i h4 j (h2 j hj)
     omega
   have hpreL : ∀ j ∈ predsOf ops i, j ∈ L := fun j hj => by
    simp only [predsOf, ho, Option.map_some, Option.getD_some, List.mem_map, List.mem_filter, Array.mem_toList_iff] at hj
    obtain ⟨e, ⟨he, hb⟩, rfl⟩ := hj
    exact (hp e he hb).1
   have hpre : ∀ j ∈ predsOf ops i, G j (x j) w := fun j hj => by
    simp only [predsOf, ho, Option.map_some, Option.getD_some, List.mem_map, List.mem_filter, Array.mem_toList_iff] at hj
    obtain ⟨e, ⟨he, hb⟩, rfl⟩ := hj
    exact hG _ (hp e he hb).1
   obtain ⟨⟨i', t⟩, hit, hii⟩ := List.mem_map.1 hiS
   have hii' : i = i' := hii.symm
   subst hii'
   refine step i t hit x w hI hpre _ fun v w' hbw hI' hGv => ?_
   rw [put_putAll hit hc4, marked_set]
   refine ih (i :: L) (upd x i v) w' (List.nodup_cons.2 ⟨hiL, hL⟩) (fun j hj => ?_) (fun j hj m hm => ?_) (by simp only [List.length_cons]; omega) hI' fun j hj => ?_
   ·rcases List.mem_cons.1 hj with rfl | hj
    ·exact hiS
    ·exact hsub j hj
   ·rcases List.mem_cons.1 hj with rfl | hjL
    ·exact List.mem_cons_of_mem _ (hpreL m hm)
    ·exact List.mem_cons_of_mem _ (hcl j hjL m hm)
   ·rcases List.mem_cons.1 hj with rfl | hjL
    ·simpa [upd] using hGv
    ·have hne : j ≠ i := by rintro rfl; exact hiL hjL
     rw [show upd x i v j = x j by simp [upd, hne]]
     exact mono j _ w w' (hsub j hjL) hbw hI hI' (hG j hjL)
theorem put_same (a : Act) (d : Option Tmp) : a.put d ((d.map fun t => a.tmps.getD t undef).getD undef) = a := by
 cases d with
 | none => rfl
 | some t =>
  simp only [Act.put, Option.map_some, Option.getD_some]
  have : a.tmps.setIfInBounds t (a.tmps.getD t undef) = a.tmps := by
   apply Array.ext
   ·simp
   ·intro i h1 h2
    rw [Array.getElem_setIfInBounds h2]
    by_cases e : t = i
    ·subst e; simp [Array.getD, h2]
    ·simp [e]
  rw [this]
def lookD (D : List (Nat × Option Tmp)) (a : Act) (i : Nat) : Value := match D.find? (fun p => p.1 == i) with | some p => (p.2.map fun t => a.tmps.getD t undef).getD undef | none => undef
theorem putAll_same (a : Act) {x : Nat → Value} : ∀ {l : List (Nat × Option Tmp)}, (∀ p ∈ l, x p.1 = (p.2.map fun t => a.tmps.getD t undef).getD undef) → putAll x l a = a := by
 intro l
 induction l with
 | nil => intro _; rfl
 | cons p l ih =>
  intro h
  obtain ⟨i, t⟩ := p
  have e := put_same a t
  simp only [putAll]
  rw [h (i, t) (by simp)]
  simp only
  rw [e]
  exact ih fun q hq => h q (by simp [hq])
theorem lookD_at {D : List (Nat × Option Tmp)} {a : Act} (hp : D.Pairwise (fun j k => j.1 ≠ k.1 ∧ apartD j.2 k.2 = true)) : ∀ p ∈ D, lookD D a p.1 = (p.2.map fun t => a.tmps.getD t undef).getD undef := by
 intro p hpD
 have h : D.find? (fun q => q.1 == p.1) = some p := by
  induction D with
  | nil => simp at hpD
  | cons q D ih =>
   obtain ⟨h1, h2⟩ := List.pairwise_cons.1 hp
   rcases List.mem_cons.1 hpD with rfl | hq
   ·simp
   ·rw [List.find?_cons_of_neg (by simpa using (h1 p hq).1)]
    exact ih h2 hq
 unfold lookD
 rw [h]
theorem wp_region_ahead {id : Nat} {a0 : Act} {w : World} (hm : P.follows .mixedOrders = true) (D : List (Nat × Option Tmp)) (S : List Nat) (hS : D.map (·.1) = S) (r : Nat) (hok : aheadOk ops D = true) (hr : S.length + r = ops.size) (Rel : World → World → Prop) (G : Nat → Value → World → Prop) (Inv : World → Prop) (hI : Inv w.drew)
  (mono : ∀ i v w w', i ∈ S → Rel w w' → Inv w → Inv w' → G i v w → G i v w')
  (step : ∀ i t, (i, t) ∈ D → ∀ (x : Nat → Value) (w : World), Inv w → (∀ j ∈ predsOf ops i, G j (x j) w) → ∀ K : Act → World → Prop,
   (∀ v w', Rel w w' → Inv w' → G i v w' → K ((putAll x D a0).put t v) w') → wpOp P ops Q i K (putAll x D a0) w)
  (fin : ∀ (x : Nat → Value) (w : World), Inv w → (∀ i ∈ S, G i (x i) w) → wpAny P .any ops Q r (marked ops.size S) (putAll x D a0) w) : (Code.region id ops true).wp P Q a0 w := by
 refine wp_region_any hm ?_
 rw [marked_nil]
 have h := wpAny_ahead (P := P) (Q := Q) D S hS hok Rel G Inv a0 r mono step fin S.length [] (lookD D a0) w.drew List.nodup_nil (by simp) (by simp) (by simp) hI (by simp)
 rw [putAll_same a0 (lookD_at (by simp only [aheadOk, Bool.and_eq_true, decide_eq_true_eq] at hok; exact hok.2)), hr] at h
 exact h
theorem wpOp_plain {i : Nat} {o : Oper} {K : Act → World → Prop} {a : Act} {w : World} (ho : ops[i]? = some o) (hg : Region.wanted o (yielded ops a.tmps) = true) (h : o.wp P a w K Q) : wpOp P ops Q i K a w := by
 simp only [wpOp, ho, hg, if_true]
 exact .inl h
theorem wpOp_at {l : List Oper} {i : Nat} {o : Oper} {K : Act → World → Prop} {a : Act} {w : World} (ho : l[i]? = some o) (hg : o.guard = none) (h : o.wp P a w K Q) : wpOp P l.toArray Q i K a w :=
 wpOp_plain (by simpa using ho) (wanted_none hg) h
theorem wp_value {o : Oper} {K : Act → World → Prop} {a : Act} {w w' : World} {v : Value} (h : (execOp a.eval o).run P w = .ok (.value v) w') (hK : K (a.put o.dst v) w') : o.wp P a w K Q := by
 unfold Oper.wp
 rw [h]
 exact hK
theorem wpAny_next {i r : Nat} {o : Oper} {listed : Array Bool} {a : Act} {w : World} (hr : Region.ready .any ops listed = [i]) (ho : ops[i]? = some o) (hg : Region.wanted o (yielded ops a.tmps) = true)
  (h : ∀ K : Act → World → Prop, (∀ a w, wpAny P .any ops Q r (listed.setIfInBounds i true) a w → K a w) → o.wp P a w K Q) : wpAny P .any ops Q (r + 1) listed a w :=
 wpAny_all hr (by simp) fun j hj => by
  simp only [List.mem_singleton] at hj
  subst hj
  exact wpOp_plain ho hg (h _ fun _ _ h => h)
theorem wpAny_at {l : List Oper} {i r : Nat} {o : Oper} {listed : Array Bool} {a : Act} {w : World} (ho : l[i]? = some o) (hg : o.guard = none) (hr : Region.ready .any l.toArray listed = [i])
  (h : ∀ K : Act → World → Prop, (∀ a w, wpAny P .any l.toArray Q r (listed.setIfInBounds i true) a w → K a w) → o.wp P a w K Q) : wpAny P .any l.toArray Q (r + 1) listed a w :=
 wpAny_next hr (by simpa using ho) (wanted_none hg) h
end
open Go.RowKit
theorem Own.move {base : Nat} {e : TypeId} {w w' : World} {α : Type} {sz : Nat} {R R' : List Value → α → Prop} {a : Option Addr} {c : Nat} {xs : List α} (h : Own base e w sz R a c xs) (hk : ∀ b, base ≤ b → b < w.heap.size → w'.heap[b]? = w.heap[b]?) (hR : ∀ cs x, R cs x → R' cs x) : Own base e w' sz R' a c xs := by
 obtain ⟨css, h1, h2, h3, h4⟩ := h
 refine ⟨css, h1, h2, fun i x cs hx hc => hR _ _ (h3 i x cs hx hc), h4.1, ?_⟩
 rcases h4.2 with h | ⟨g, cap, cur, hv, hg, hh, r⟩
 ·exact .inl h
 ·exact .inr ⟨g, cap, cur, hv, hg, by rw [hk g hg (Array.getElem?_eq_some_iff.1 hh).1]; exact hh, r⟩
theorem lay_list : ∀ (l : List Value) (k : Nat) (arr : Array Value), k + l.length ≤ arr.size → ((l.zipIdx k).foldl (fun cs p => cs.setIfInBounds p.2 p.1) arr).toList = arr.toList.take k ++ l ++ arr.toList.drop (k + l.length) := by
 intro l
 induction l with
 | nil => intro k arr _; simp
 | cons v l ih =>
  intro k arr h
  simp only [List.length_cons] at h
  rw [List.zipIdx_cons, List.foldl_cons, ih (k + 1) (arr.setIfInBounds k v) (by simp; omega)]
  have hk : k < arr.toList.length := by simp; omega
  have e1 : (arr.setIfInBounds k v).toList = arr.toList.set k v := by simp
  rw [e1]
  have e2 : (arr.toList.set k v).take (k + 1) = arr.toList.take k ++ [v] := by
   rw [List.take_succ_eq_append_getElem (by simpa using hk)]
   simp [List.take_set]
   exact List.set_eq_of_length_le (by simp; omega)
  have e3 : (arr.toList.set k v).drop (k + 1 + l.length) = arr.toList.drop (k + (l.length + 1)) := by
   rw [List.drop_set_of_lt (by omega)]
   congr 1
   omega
  rw [e2, e3]
  simp
theorem fill_one (cells : Array Value) (v : Value) (n : Nat) (h1 : v.cells.size = n) (h2 : cells.size = n) : Instr.fill (fun i => some (i * n, n)) cells [(0, v)] = some v.cells := by
 have h3 : (v.cells.zipIdx.foldl (fun cs (c, j) => cs.setIfInBounds (0 * n + j) c) cells) = v.cells := by
  have := lay_list v.cells.toList 0 cells (by simp; omega)
  rw [← Array.foldl_toList, Array.toList_zipIdx]
  simp only [Nat.zero_mul, Nat.zero_add] at this ⊢
  apply Array.toList_inj.1
  refine Eq.trans ?_ (this.trans ?_)
  ·rfl
  ·simp; omega
 simp only [Instr.fill]
 rw [h3]
 rw [if_neg (by simp; omega)]
section
variable {P : Program} {w0 w : World} {M : List Nat} {own : Blks} {ops : Array Oper} {rest : List Oper} {o : Oper} {A : Act} {Q : Exit → Act → World → Prop} {K : Act → World → Prop} {E : Prop}
theorem wp_build1 (st : St M w0 w own) (T T' : TypeId) (x : Operand) (ho : o.op = .buildSlice T 1 #[(0, x)]) (ht : P.underlying T = some (.slice T')) (n : Nat) (hsz : ∀ w, (sizeOf T').run P w = .ok n w) (hn : 0 < n) (hn' : n ≤ 1000) (z : Value) (hz : ∀ w, (zeroValue T').run P w = .ok z w) (cs : List Value) (hx : (A.eval x).cells.toList = cs) (hc : cs.length = n)
  (h : ∀ g w', w0.heap.size ≤ g → g = w.heap.size → St M w0 w' (own ++ [(g, T', cs)]) → Below w.heap.size w w' → w'.heap.size = w.heap.size + 1 → K (A.put o.dst (.slice (some ⟨g, 0, none⟩) 1 1)) w') : Oper.wp P o A w K Q := by
 subst hx
 have hs := st.new T' (A.eval x).cells.toList
 simp only [Array.toArray_toList] at hs
 have hf := fill_one ((Array.range (1 * n)).map (z.cells[·% z.cells.size]!)) (A.eval x) n (by simpa using hc) (by simp)
 have hgt : ¬ 2 ^ 24 < 1 * n := by omega
 have hne : ¬ 1 * n = 0 := by omega
 unfold Oper.wp
 simp only [execOp, ho, Instr.buildSlice, Sem.run_bind, run_underlying ht, Result.andThen_ok, hsz, hgt, hne, if_false, hz, Sem.run_pure, gt_iff_lt, List.map_toArray, List.map_cons, List.map_nil, hf, newRow, newObj]
 exact h w.heap.size _ st.size rfl hs ((Below.refl _ _).alloc (Nat.le_refl _) _) (by simp)
theorem wpList_build1 (st : St M w0 w own) (hgd : Region.wanted o (yielded ops A.tmps) = true) (T T' : TypeId) (x : Operand) (ho : o.op = .buildSlice T 1 #[(0, x)]) (ht : P.underlying T = some (.slice T')) (n : Nat) (hsz : ∀ w, (sizeOf T').run P w = .ok n w) (hn : 0 < n) (hn' : n ≤ 1000) (z : Value) (hz : ∀ w, (zeroValue T').run P w = .ok z w) (cs : List Value) (hx : (A.eval x).cells.toList = cs) (hc : cs.length = n)
  (h : ∀ g w', w0.heap.size ≤ g → g = w.heap.size → St M w0 w' (own ++ [(g, T', cs)]) → Below w.heap.size w w' → w'.heap.size = w.heap.size + 1 → wpList P ops Q rest (A.put o.dst (.slice (some ⟨g, 0, none⟩) 1 1)) w') : wpList P ops Q (o :: rest) A w :=
 wpList_wanted hgd fun _ hK => wp_build1 st T T' x ho ht n hsz hn hn' z hz cs hx hc fun g w' h1 h2 h3 h4 h5 => hK _ _ (h g w' h1 h2 h3 h4 h5)
end
open Go.RowKit
section
variable {P : Program} {ops : Array Oper} {Q : Exit → Act → World → Prop}
theorem wpAny_done1 (D : List (Nat × Option Tmp)) (S : List Nat) (hS : D.map (·.1) = S) (hok : aheadOk ops D = true) {σ : Type} (Rel : Nat → σ → World → σ → World → Prop) (G : Nat → Value → σ → World → Prop) (Inv : List Nat → σ → World → Prop) (a0 : Act) (r : Nat)
  (mono : ∀ i k v s w s' w', i ∈ S → k ∈ S → i ≠ k → k ∉ predsOf ops i → Rel k s w s' w' → G i v s w → G i v s' w')
  (step : ∀ i t, (i, t) ∈ D → ∀ (L : List Nat) (x : Nat → Value) (s : σ) (w : World), i ∉ L → (∀ j ∈ predsOf ops i, j ∈ L) → Inv L s w → (∀ j ∈ predsOf ops i, G j (x j) s w) → ∀ K : Act → World → Prop,
   (∀ v s' w', Rel i s w s' w' → Inv (i :: L) s' w' → G i v s' w' → K ((putAll x D a0).put t v) w') → wpOp P ops Q i K (putAll x D a0) w)
  (fin : ∀ (L : List Nat) (x : Nat → Value) (s : σ) (w : World), (∀ i ∈ S, i ∈ L) → Inv L s w → (∀ i ∈ S, G i (x i) s w) → wpAny P .any ops Q r (marked ops.size S) (putAll x D a0) w) :
  ∀ (k : Nat) (L : List Nat) (x : Nat → Value) (s : σ) (w : World), L.Nodup → (∀ i ∈ L, i ∈ S) → (∀ i ∈ L, ∀ j ∈ predsOf ops i, j ∈ L) → L.length + k = S.length → Inv L s w → (∀ i ∈ L, G i (x i) s w) →
   wpAny P .any ops Q (k + r) (marked ops.size L) (putAll x D a0) w := by
 subst hS
 simp only [aheadOk, Bool.and_eq_true, List.all_eq_true, decide_eq_true_eq, List.mem_range] at hok
 obtain ⟨⟨hc1, hc2⟩, hc4⟩ := hok
 have hSn : (D.map (·.1)).Nodup := List.pairwise_map.2 (hc4.imp fun h => h.1)
 intro k
 induction k with
 | zero =>
  intro L x s w hL hsub hcl hlen hI hG
  have hall : ∀ i, i ∈ L ↔ i ∈ D.map (·.1) := fun i => ⟨hsub i, fun hi => Classical.byContradiction fun hn => by
   have h1 := nodup_le (List.nodup_cons.2 ⟨hn, hL⟩) fun j hj => by
    rcases List.mem_cons.1 hj with rfl | hj
    ·exact hi
    ·exact hsub j hj
   simp only [List.length_cons] at h1; omega⟩
  rw [Nat.zero_add, marked_congr hall]
  exact fin L x s w (fun i hi => (hall i).2 hi) hI fun i hi => hG i ((hall i).2 hi)
 | succ k ih =>
  intro L x s w hL hsub hcl hlen hI hG
  have hmem : ∀ i, i ∈ Region.ready .any ops (marked ops.size L) ↔ i < ops.size ∧ i ∉ L ∧ ∃ o, ops[i]? = some o ∧ ∀ e ∈ o.after, Region.binds .any e = true → e.on ∈ L ∧ e.on < ops.size := by
   intro i
   simp only [Region.ready, List.mem_filter, List.mem_range, Bool.and_eq_true, Bool.not_eq_true']
   constructor
   ·rintro ⟨h1, h2, h3⟩
    rw [marked_get h1] at h2
    refine ⟨h1, by simpa using h2, ops[i], by simp [h1], fun e he hb => ?_⟩
    simp only [h1, getElem?_pos, Option.map_some, Option.getD_some, Array.all_eq_true_iff_forall_mem] at h3
    have := h3 e he
    rw [hb] at this
    simp only [Bool.not_true, Bool.false_or] at this
    by_cases hlt : e.on < ops.size
    ·rw [marked_get hlt] at this
     exact ⟨by simpa using this, hlt⟩
    ·have : (marked ops.size L).getD e.on false = false := by simp [marked, Array.getD, hlt]
     simp_all
   ·rintro ⟨h1, h2, o, ho, h3⟩
    refine ⟨h1, by rw [marked_get h1]; simpa using h2, ?_⟩
    simp only [ho, Option.map_some, Option.getD_some, Array.all_eq_true_iff_forall_mem]
    intro e he
    cases hb : Region.binds .any e
    ·simp
    ·obtain ⟨h4, h5⟩ := h3 e he hb
     rw [marked_get h5]
     simpa using h4
  rw [show k + 1 + r = (k + r) + 1 by omega]
  refine ⟨fun hnil => ?_, fun i hi => ?_⟩
  ·exfalso
   -- the least of S that is not carried out yet is ready
   have hex : ∃ i, i ∈ D.map (·.1) ∧ i ∉ L := Classical.byContradiction fun hn => by
    have h1 := nodup_le hSn (S := L) fun j hj => Classical.byContradiction fun hj' => hn ⟨j, hj, hj'⟩
    omega
   obtain ⟨i, ⟨hiS, hiL⟩, hmin⟩ : ∃ i, (i ∈ D.map (·.1) ∧ i ∉ L) ∧ ∀ j, j < i → ¬ (j ∈ D.map (·.1) ∧ j ∉ L) := by
    obtain ⟨i0, h0⟩ := hex
    induction i0 using Nat.strongRecOn with
    | _ i0 ih0 =>
     by_cases h : ∃ j, j < i0 ∧ j ∈ D.map (·.1) ∧ j ∉ L
     ·obtain ⟨j, hj, hjS⟩ := h
      exact ih0 j hj hjS
     ·exact ⟨i0, h0, fun j hj hjS => h ⟨j, hj, hjS⟩⟩
   obtain ⟨h1, h2⟩ := hc1 i hiS
   have : i ∈ Region.ready .any ops (marked ops.size L) := by
    rw [hmem]
    refine ⟨h1, hiL, ops[i], by simp [h1], fun e he hb => ?_⟩
    simp only [h1, getElem?_pos, Option.map_some, Option.getD_some, Array.all_eq_true_iff_forall_mem] at h2
    have h3 := h2 e he
    rw [hb] at h3
    simp only [Bool.not_true, Bool.false_or, Bool.and_eq_true, decide_eq_true_eq, List.contains_iff_mem] at h3
    exact ⟨Classical.byContradiction fun hn => hmin e.on h3.2 ⟨h3.1, hn⟩, (hc1 e.on h3.1).1⟩
   rw [hnil] at this
   simp at this
  ·obtain ⟨h1, hiL, o, ho, hp⟩ := (hmem i).1 hi
   have hiS : i ∈ D.map (·.1) := by
    have h2 := hc2 i h1
    simp only [ho, Option.map_some, Option.getD_some, Bool.or_eq_true, List.contains_iff_mem, Array.any_eq_true', List.all_eq_true, Bool.and_eq_true, Bool.not_eq_true', beq_iff_eq] at h2
    rcases h2 with h2 | ⟨e, he, hb, hn⟩ | h2
    ·exact h2
    ·exfalso
     have := hsub _ (hp e he hb).1
     rw [← List.contains_iff_mem, hn] at this
     simp at this
    ·exfalso
     have h4 : ∀ j ∈ predsOf ops i, j ∈ L := fun j hj => by
      simp only [predsOf, ho, Option.map_some, Option.getD_some, List.mem_map, List.mem_filter, Array.mem_toList_iff] at hj
      obtain ⟨e, ⟨he, hb⟩, rfl⟩ := hj
      exact (hp e he hb).1
     have h3 := nodup_le hSn (S := L) fun j hj => anc_sub hcl _ i h4 j (h2 j hj)
     omega
   have hpreL : ∀ j ∈ predsOf ops i, j ∈ L := fun j hj => by
    simp only [predsOf, ho, Option.map_some, Option.getD_some, List.mem_map, List.mem_filter, Array.mem_toList_iff] at hj
    obtain ⟨e, ⟨he, hb⟩, rfl⟩ := hj
    exact (hp e he hb).1
   have hpre : ∀ j ∈ predsOf ops i, G j (x j) s w := fun j hj => by
    simp only [predsOf, ho, Option.map_some, Option.getD_some, List.mem_map, List.mem_filter, Array.mem_toList_iff] at hj
    obtain ⟨e, ⟨he, hb⟩, rfl⟩ := hj
    exact hG _ (hp e he hb).1
   obtain ⟨⟨i', t⟩, hit, hii⟩ := List.mem_map.1 hiS
   have hii' : i = i' := hii.symm
   subst hii'
   refine step i t hit L x s w hiL hpreL hI hpre _ fun v s' w' hbw hI' hGv => ?_
   rw [put_putAll hit hc4, marked_set]
   refine ih (i :: L) (upd x i v) s' w' (List.nodup_cons.2 ⟨hiL, hL⟩) (fun j hj => ?_) (fun j hj m hm => ?_) (by simp only [List.length_cons]; omega) hI' fun j hj => ?_
   ·rcases List.mem_cons.1 hj with rfl | hj
    ·exact hiS
    ·exact hsub j hj
   ·rcases List.mem_cons.1 hj with rfl | hjL
    ·exact List.mem_cons_of_mem _ (hpreL m hm)
    ·exact List.mem_cons_of_mem _ (hcl j hjL m hm)
   ·rcases List.mem_cons.1 hj with rfl | hjL
    ·simpa [upd] using hGv
    ·have hne : j ≠ i := by rintro rfl; exact hiL hjL
     rw [show upd x i v j = x j by simp [upd, hne]]
     exact mono j i _ s w s' w' (hsub j hjL) hiS hne (fun hm => hiL (hcl j hjL i hm)) hbw (hG j hjL)
theorem wp_region_done {id : Nat} {a0 : Act} {w : World} (hm : P.follows .mixedOrders = true) (D : List (Nat × Option Tmp)) (S : List Nat) (hS : D.map (·.1) = S) (r : Nat) (hok : aheadOk ops D = true) (hr : S.length + r = ops.size) {σ : Type} (Rel : Nat → σ → World → σ → World → Prop) (G : Nat → Value → σ → World → Prop) (Inv : List Nat → σ → World → Prop) (s0 : σ) (hI : Inv [] s0 w.drew)
  (mono : ∀ i k v s w s' w', i ∈ S → k ∈ S → i ≠ k → k ∉ predsOf ops i → Rel k s w s' w' → G i v s w → G i v s' w')
  (step : ∀ i t, (i, t) ∈ D → ∀ (L : List Nat) (x : Nat → Value) (s : σ) (w : World), i ∉ L → (∀ j ∈ predsOf ops i, j ∈ L) → Inv L s w → (∀ j ∈ predsOf ops i, G j (x j) s w) → ∀ K : Act → World → Prop,
   (∀ v s' w', Rel i s w s' w' → Inv (i :: L) s' w' → G i v s' w' → K ((putAll x D a0).put t v) w') → wpOp P ops Q i K (putAll x D a0) w)
  (fin : ∀ (L : List Nat) (x : Nat → Value) (s : σ) (w : World), (∀ i ∈ S, i ∈ L) → Inv L s w → (∀ i ∈ S, G i (x i) s w) → wpAny P .any ops Q r (marked ops.size S) (putAll x D a0) w) : (Code.region id ops true).wp P Q a0 w := by
 refine wp_region_any hm ?_
 rw [marked_nil]
 have h := wpAny_done1 (P := P) (Q := Q) D S hS hok Rel G Inv a0 r mono step fin S.length [] (lookD D a0) s0 w.drew List.nodup_nil (by simp) (by simp) (by simp) hI (by simp)
 rw [putAll_same a0 (lookD_at (by simp only [aheadOk, Bool.and_eq_true, decide_eq_true_eq] at hok; exact hok.2)), hr] at h
 exact h
end
theorem Own.apart {b b' : Nat} {e e' : TypeId} {w : World} {α β : Type} {sz sz' : Nat} {R : List Value → α → Prop} {R' : List Value → β → Prop} {a a' : Option Addr} {c c' : Nat} {xs : List α} {ys : List β} (h : Own b e w sz R a c xs) (h' : Own b' e' w sz' R' a' c' ys) (he : e ≠ e') :
  ∀ k, a.map (·.block) = some k → a'.map (·.block) ≠ some k := by
 obtain ⟨_, _, _, _, _, h5⟩ := h
 obtain ⟨_, _, _, _, _, h5'⟩ := h'
 intro k hk hk'
 rcases h5 with ⟨e1, _⟩ | ⟨g, cap, cur, e1, _, hg, _⟩
 ·simp at e1; simp [e1.1] at hk
 ·rcases h5' with ⟨e2, _⟩ | ⟨g', cap', cur', e2, _, hg', _⟩
  ·simp at e2; simp [e2.1] at hk'
  ·simp at e1 e2
   rw [e1.1] at hk
   rw [e2.1] at hk'
   simp at hk hk'
   subst hk hk'
   rw [hg] at hg'
   simp at hg'
   exact he hg'.2
theorem Own.aside {b : Nat} {e : TypeId} {w w' : World} {α : Type} {sz : Nat} {R : List Value → α → Prop} {a : Option Addr} {c : Nat} {xs : List α} {row : Option Nat} (h : Own b e w sz R a c xs) (hg : w.grownBy w' row) (hne : ∀ k, a.map (·.block) = some k → row ≠ some k) : Own b e w' sz R a c xs := by
 obtain ⟨css, h1, h2, h3, h4⟩ := h
 refine ⟨css, h1, h2, h3, h4.kept hg ?_⟩
 cases a with
 | none => exact .inl rfl
 | some p => exact .inr fun e => hne p.block rfl e.symm
open Go.RowKit
theorem St.turn {M : List Nat} {w0 w w' : World} {own : Blks} (st : St M w0 w own) {i g : Nat} {T : TypeId} {cs cs' : List Value} (hi : own[i]? = some (g, T, cs)) (h : St [g] w w' [(g, T, cs')]) : St M w0 w' (own.set i (g, T, cs')) := by
 have hin : (g, T, cs) ∈ own := List.mem_of_getElem? hi
 have hilt : i < own.length := (List.getElem?_eq_some_iff.1 hi).1
 have hget : own[i] = (g, T, cs) := (List.getElem?_eq_some_iff.1 hi).2
 have hids : (own.set i (g, T, cs')).map (·.1) = own.map (·.1) := by
  apply List.ext_getElem?
  intro j
  simp only [List.getElem?_map, List.getElem?_set]
  by_cases hj : i = j
  ·subst hj; simp [hilt, hget]
  ·simp [hj]
 refine ⟨h.os.trans st.os, h.tape.trans st.tape, h.output.trans st.output, Nat.le_trans st.size h.size, ?_, ?_, ?_, ?_⟩
 ·intro b hb hM
  have hbg : b ≠ g := by
   rintro rfl
   rcases st.mine _ hin with hm | hm
   ·exact hM hm
   ·simp at hm; omega
  rw [h.frame b (Nat.lt_of_lt_of_le hb st.size) (by simpa using hbg)]
  exact st.frame b hb hM
 ·intro x hx
  obtain ⟨j, hj⟩ := List.mem_iff_getElem?.1 hx
  rw [List.getElem?_set] at hj
  by_cases hij : i = j
  ·subst hij; simp [hilt] at hj; subst hj; exact h.blk (g, T, cs') (by simp)
  ·rw [if_neg hij] at hj
   have hxin := List.mem_of_getElem? hj
   have hne : x.1 ≠ g := by
    have hp := List.pairwise_iff_getElem.1 st.ne
    have hjl := (List.getElem?_eq_some_iff.1 hj).1
    have hjx := (List.getElem?_eq_some_iff.1 hj).2
    rcases Nat.lt_or_gt_of_ne hij with hlt | hlt
    ·have := hp i j hilt hjl hlt; rw [hget, hjx] at this; exact fun e => this e.symm
    ·have := hp j i hjl hilt hlt; rw [hget, hjx] at this; exact this
   rw [h.frame x.1 (st.lt hxin) (by simpa using hne)]
   exact st.blk x hxin
 ·intro x hx
  have : x.1 ∈ (own.set i (g, T, cs')).map (·.1) := List.mem_map.2 ⟨x, hx, rfl⟩
  rw [hids] at this
  obtain ⟨y, hy, e⟩ := List.mem_map.1 this
  rw [← e]; exact st.mine y hy
 ·have : ((own.set i (g, T, cs')).map (·.1)).Pairwise (·≠ ·) := by rw [hids]; exact List.pairwise_map.2 st.ne
  exact List.pairwise_map.1 this
theorem St.hand {w : World} {g : Nat} {T : TypeId} {cs : List Value} (h : w.heap[g]? = some (.cells cs.toArray T (0, 0))) : St [g] w w [(g, T, cs)] :=
 ⟨rfl, rfl, rfl, Nat.le_refl _, fun _ _ _ => rfl, by simpa using h, by simp, by simp⟩
end Go.Proofs.Ytflfjpopfapogaa
