/- The law on a region that draws its order, with a ghost: what the operations have made so far. No program is in sight. -/
import Derived.Test.YtbngblmdcggfdaaRegion
import Derived.Test.YtbngblmdcggfdaaMemP
set_option linter.unusedSimpArgs false
set_option linter.unusedVariables false
namespace Go.Proofs.Ytbngblmdcggfdaa
open Go.RowKit

section
variable {P : Program} {ops : Array Oper} {Q : Exit → Act → World → Prop}

/-- As wpAny_ahead; Rel tells which operation acts, and no operation need keep what it says itself; s is a ghost. -/
theorem wpAny_ghost (D : List (Nat × Option Tmp)) (S : List Nat) (hS : D.map (·.1) = S) (hok : aheadOk ops D = true) {σ : Type} (Rel : Nat → σ → World → σ → World → Prop) (G : Nat → Value → σ → World → Prop) (Inv : σ → World → Prop) (a0 : Act) (r : Nat)
    (mono : ∀ i k v s w s' w', i ∈ S → k ∈ S → i ≠ k → k ∉ predsOf ops i → Rel k s w s' w' → Inv s w → Inv s' w' → G i v s w → G i v s' w')
    (step : ∀ i t, (i, t) ∈ D → ∀ (x : Nat → Value) (s : σ) (w : World), Inv s w → (∀ j ∈ predsOf ops i, G j (x j) s w) → ∀ K : Act → World → Prop,
      (∀ v s' w', Rel i s w s' w' → Inv s' w' → G i v s' w' → K ((putAll x D a0).put t v) w') → wpOp P ops Q i K (putAll x D a0) w)
    (fin : ∀ (x : Nat → Value) (s : σ) (w : World), Inv s w → (∀ i ∈ S, G i (x i) s w) → wpAny P .any ops Q r (marked ops.size S) (putAll x D a0) w) :
    ∀ (k : Nat) (L : List Nat) (x : Nat → Value) (s : σ) (w : World), L.Nodup → (∀ i ∈ L, i ∈ S) → (∀ i ∈ L, ∀ j ∈ predsOf ops i, j ∈ L) → L.length + k = S.length → Inv s w → (∀ i ∈ L, G i (x i) s w) →
      wpAny P .any ops Q (k + r) (marked ops.size L) (putAll x D a0) w := by
  subst hS
  simp only [aheadOk, Bool.and_eq_true, List.all_eq_true, decide_eq_true_eq, List.mem_range] at hok
  obtain ⟨⟨hc1, hc2⟩, hc4⟩ := hok
  have hSn : (D.map (·.1)).Nodup := List.pairwise_map.2 (hc4.imp fun h => h.1)
  intro k
  induction k with
  | zero =>
    intro L x s w hL hsub hcl hlen hI hG
    have hall : ∀ i, i ∈ L ↔ i ∈ D.map (·.1) := fun i => ⟨hsub i, fun hi => Classical.byContradiction fun hn => by
      have h1 := nodup_le (List.nodup_cons.2 ⟨hn, hL⟩) fun j hj => by
        rcases List.mem_cons.1 hj with rfl | hj
        · exact hi
        · exact hsub j hj
      simp only [List.length_cons] at h1; omega⟩
    rw [Nat.zero_add, marked_congr hall]
    exact fin x s w hI fun i hi => hG i ((hall i).2 hi)
  | succ k ih =>
    intro L x s w hL hsub hcl hlen hI hG
    have hmem : ∀ i, i ∈ Region.ready .any ops (marked ops.size L) ↔ i < ops.size ∧ i ∉ L ∧ ∃ o, ops[i]? = some o ∧ ∀ e ∈ o.after, Region.binds .any e = true → e.on ∈ L ∧ e.on < ops.size := by
      intro i
      simp only [Region.ready, List.mem_filter, List.mem_range, Bool.and_eq_true, Bool.not_eq_true']
      constructor
      · rintro ⟨h1, h2, h3⟩
        rw [marked_get h1] at h2
        refine ⟨h1, by simpa using h2, ops[i], by simp [h1], fun e he hb => ?_⟩
        simp only [h1, getElem?_pos, Option.map_some, Option.getD_some, Array.all_eq_true_iff_forall_mem] at h3
        have := h3 e he
        rw [hb] at this
        simp only [Bool.not_true, Bool.false_or] at this
        by_cases hlt : e.on < ops.size
        · rw [marked_get hlt] at this
          exact ⟨by simpa using this, hlt⟩
        · have : (marked ops.size L).getD e.on false = false := by simp [marked, Array.getD, hlt]
          simp_all
      · rintro ⟨h1, h2, o, ho, h3⟩
        refine ⟨h1, by rw [marked_get h1]; simpa using h2, ?_⟩
        simp only [ho, Option.map_some, Option.getD_some, Array.all_eq_true_iff_forall_mem]
        intro e he
        cases hb : Region.binds .any e
        · simp
        · obtain ⟨h4, h5⟩ := h3 e he hb
          rw [marked_get h5]
          simpa using h4
    rw [show k + 1 + r = (k + r) + 1 by omega]
    refine ⟨fun hnil => ?_, fun i hi => ?_⟩
    · exfalso
      -- the least of S that is not carried out yet is ready
      have hex : ∃ i, i ∈ D.map (·.1) ∧ i ∉ L := Classical.byContradiction fun hn => by
        have h1 := nodup_le hSn (S := L) fun j hj => Classical.byContradiction fun hj' => hn ⟨j, hj, hj'⟩
        omega
      obtain ⟨i, ⟨hiS, hiL⟩, hmin⟩ : ∃ i, (i ∈ D.map (·.1) ∧ i ∉ L) ∧ ∀ j, j < i → ¬ (j ∈ D.map (·.1) ∧ j ∉ L) := by
        obtain ⟨i0, h0⟩ := hex
        induction i0 using Nat.strongRecOn with
        | _ i0 ih0 =>
          by_cases h : ∃ j, j < i0 ∧ j ∈ D.map (·.1) ∧ j ∉ L
          · obtain ⟨j, hj, hjS⟩ := h
            exact ih0 j hj hjS
          · exact ⟨i0, h0, fun j hj hjS => h ⟨j, hj, hjS⟩⟩
      obtain ⟨h1, h2⟩ := hc1 i hiS
      have : i ∈ Region.ready .any ops (marked ops.size L) := by
        rw [hmem]
        refine ⟨h1, hiL, ops[i], by simp [h1], fun e he hb => ?_⟩
        simp only [h1, getElem?_pos, Option.map_some, Option.getD_some, Array.all_eq_true_iff_forall_mem] at h2
        have h3 := h2 e he
        rw [hb] at h3
        simp only [Bool.not_true, Bool.false_or, Bool.and_eq_true, decide_eq_true_eq, List.contains_iff_mem] at h3
        exact ⟨Classical.byContradiction fun hn => hmin e.on h3.2 ⟨h3.1, hn⟩, (hc1 e.on h3.1).1⟩
      rw [hnil] at this
      simp at this
    · obtain ⟨h1, hiL, o, ho, hp⟩ := (hmem i).1 hi
      have hiS : i ∈ D.map (·.1) := by
        have h2 := hc2 i h1
        simp only [ho, Option.map_some, Option.getD_some, Bool.or_eq_true, List.contains_iff_mem, Array.any_eq_true', List.all_eq_true, Bool.and_eq_true, Bool.not_eq_true', beq_iff_eq] at h2
        rcases h2 with h2 | ⟨e, he, hb, hn⟩ | h2
        · exact h2
        · exfalso
          have := hsub _ (hp e he hb).1
          rw [← List.contains_iff_mem, hn] at this
          simp at this
        · exfalso
          have h4 : ∀ j ∈ predsOf ops i, j ∈ L := fun j hj => by
            simp only [predsOf, ho, Option.map_some, Option.getD_some, List.mem_map, List.mem_filter, Array.mem_toList_iff] at hj
            obtain ⟨e, ⟨he, hb⟩, rfl⟩ := hj
            exact (hp e he hb).1
          have h3 := nodup_le hSn (S := L) fun j hj => anc_sub hcl _ i h4 j (h2 j hj)
          omega
      have hpreL : ∀ j ∈ predsOf ops i, j ∈ L := fun j hj => by
        simp only [predsOf, ho, Option.map_some, Option.getD_some, List.mem_map, List.mem_filter, Array.mem_toList_iff] at hj
        obtain ⟨e, ⟨he, hb⟩, rfl⟩ := hj
        exact (hp e he hb).1
      have hpre : ∀ j ∈ predsOf ops i, G j (x j) s w := fun j hj => by
        simp only [predsOf, ho, Option.map_some, Option.getD_some, List.mem_map, List.mem_filter, Array.mem_toList_iff] at hj
        obtain ⟨e, ⟨he, hb⟩, rfl⟩ := hj
        exact hG _ (hp e he hb).1
      obtain ⟨⟨i', t⟩, hit, hii⟩ := List.mem_map.1 hiS
      have hii' : i = i' := hii.symm
      subst hii'
      refine step i t hit x s w hI hpre _ fun v s' w' hbw hI' hGv => ?_
      rw [put_putAll hit hc4, marked_set]
      refine ih (i :: L) (upd x i v) s' w' (List.nodup_cons.2 ⟨hiL, hL⟩) (fun j hj => ?_) (fun j hj m hm => ?_) (by simp only [List.length_cons]; omega) hI' fun j hj => ?_
      · rcases List.mem_cons.1 hj with rfl | hj
        · exact hiS
        · exact hsub j hj
      · rcases List.mem_cons.1 hj with rfl | hjL
        · exact List.mem_cons_of_mem _ (hpreL m hm)
        · exact List.mem_cons_of_mem _ (hcl j hjL m hm)
      · rcases List.mem_cons.1 hj with rfl | hjL
        · simpa [upd] using hGv
        · have hne : j ≠ i := by rintro rfl; exact hiL hjL
          rw [show upd x i v j = x j by simp [upd, hne]]
          exact mono j i _ s w s' w' (hsub j hjL) hiS hne (fun hm => hiL (hcl j hjL i hm)) hbw hI hI' (hG j hjL)

/-- THE LAW, at a region: the operations S come first, in whatever order; of each there is known G, in whatever order; the others follow. -/
theorem wp_region_ghost {id : Nat} {a0 : Act} {w : World} (hm : P.follows .mixedOrders = true) (D : List (Nat × Option Tmp)) (S : List Nat) (hS : D.map (·.1) = S) (r : Nat) (hok : aheadOk ops D = true) (hr : S.length + r = ops.size) {σ : Type} (Rel : Nat → σ → World → σ → World → Prop) (G : Nat → Value → σ → World → Prop) (Inv : σ → World → Prop) (s0 : σ) (hI : Inv s0 w.drew)
    (mono : ∀ i k v s w s' w', i ∈ S → k ∈ S → i ≠ k → k ∉ predsOf ops i → Rel k s w s' w' → Inv s w → Inv s' w' → G i v s w → G i v s' w')
    (step : ∀ i t, (i, t) ∈ D → ∀ (x : Nat → Value) (s : σ) (w : World), Inv s w → (∀ j ∈ predsOf ops i, G j (x j) s w) → ∀ K : Act → World → Prop,
      (∀ v s' w', Rel i s w s' w' → Inv s' w' → G i v s' w' → K ((putAll x D a0).put t v) w') → wpOp P ops Q i K (putAll x D a0) w)
    (fin : ∀ (x : Nat → Value) (s : σ) (w : World), Inv s w → (∀ i ∈ S, G i (x i) s w) → wpAny P .any ops Q r (marked ops.size S) (putAll x D a0) w) : (Code.region id ops true).wp P Q a0 w := by
  refine wp_region_any hm ?_
  rw [marked_nil]
  have h := wpAny_ghost (P := P) (Q := Q) D S hS hok Rel G Inv a0 r mono step fin S.length [] (lookD D a0) s0 w.drew List.nodup_nil (by simp) (by simp) (by simp) hI (by simp)
  rw [putAll_same a0 (lookD_at (by simp only [aheadOk, Bool.and_eq_true, decide_eq_true_eq] at hok; exact hok.2)), hr] at h
  exact h

end

theorem St.perm {M : List Nat} {w0 w : World} {own own' : Blks} (h : St M w0 w own) (hp : own.Perm own') : St M w0 w own' :=
  ⟨h.os, h.tape, h.output, h.size, h.frame, fun x hx => h.blk x (hp.mem_iff.2 hx), fun x hx => h.mine x (hp.mem_iff.2 hx), hp.pairwise h.ne fun h => h.symm⟩

theorem St.sub {M : List Nat} {w0 w : World} {own own' : Blks} (h : St M w0 w own) (hs : ∀ x ∈ own', x ∈ own) (hn : own'.Pairwise fun x y => x.1 ≠ y.1) : St M w0 w own' :=
  ⟨h.os, h.tape, h.output, h.size, h.frame, fun x hx => h.blk x (hs x hx), fun x hx => h.mine x (hs x hx), hn⟩

/-- What has been made since, beside what was known before. -/
theorem St.join {M : List Nat} {w0 w w' : World} {own own' : Blks} (h : St M w0 w own) (h' : St [] w w' own') : St M w0 w' (own ++ own') := by
  have hc := h.call h'.below
  refine ⟨hc.os, hc.tape, hc.output, hc.size, hc.frame, fun x hx => ?_, fun x hx => ?_, List.pairwise_append.2 ⟨h.ne, h'.ne, fun x hx y hy => ?_⟩⟩
  · rcases List.mem_append.1 hx with hx | hx
    · exact hc.blk x hx
    · exact h'.blk x hx
  · rcases List.mem_append.1 hx with hx | hx
    · exact h.mine x hx
    · rcases h'.mine x hx with h1 | h1
      · simp at h1
      · exact .inr (Nat.le_trans h.size h1)
  · have h1 := h.lt hx
    rcases h'.mine y hy with h2 | h2
    · simp at h2
    · omega

theorem putL_all : ∀ {cs vs : List Value}, vs.length = cs.length → putL cs 0 vs = vs
  | [], [], _ => rfl
  | [], _ :: _, h => by simp at h
  | _ :: _, [], h => by simp at h
  | c :: cs, v :: vs, h => by simp only [putL]; rw [putL_all (by simpa using h)]

/-- What two operations have made: their blocks, with their cells. -/
abbrev Two := Option (Nat × List Value) × Option (Nat × List Value)
def Two.own (T1 T2 : TypeId) (s : Two) : Blks := (s.1.map fun p => (p.1, T1, p.2)).toList ++ (s.2.map fun p => (p.1, T2, p.2)).toList
def Two.held (s : Two) (b : Nat) : Prop := s.1.map (·.1) = some b ∨ s.2.map (·.1) = some b
def Two.free (s : Two) (b : Nat) : Prop := ¬ s.held b

/-- The k-th operation has acted; a1, a2 are those that make the blocks, s1, s2 those that store there. -/
structure Two.Rel (a1 s1 a2 s2 k : Nat) (s : Two) (w : World) (s' : Two) (w' : World) : Prop where
  size : w.heap.size ≤ w'.heap.size
  keep : ∀ b, b < w.heap.size → s.free b → s'.free b ∧ w'.heap[b]? = w.heap[b]?
  one : k ≠ a1 → k ≠ s1 → s'.1 = s.1
  two : k ≠ a2 → k ≠ s2 → s'.2 = s.2
  one' : k ≠ a1 → ∀ g c, s.1 = some (g, c) → ∃ c', s'.1 = some (g, c') ∧ c'.length = c.length
  two' : k ≠ a2 → ∀ g c, s.2 = some (g, c) → ∃ c', s'.2 = some (g, c') ∧ c'.length = c.length

theorem Two.Rel.below {a1 s1 a2 s2 k : Nat} {s : Two} {w w' : World} (hb : Below w.heap.size w w') : Two.Rel a1 s1 a2 s2 k s w s w' :=
  ⟨hb.size, fun b hb' hf => ⟨hf, hb.block b hb'⟩, fun _ _ => rfl, fun _ _ => rfl, fun _ g c h => ⟨c, h, rfl⟩, fun _ g c h => ⟨c, h, rfl⟩⟩

theorem Two.old {B w : World} {T1 T2 : TypeId} {s : Two} (st : St [] B w (s.own T1 T2)) {b : Nat} (hb : b < B.heap.size) : s.free b := by
  intro hh
  obtain ⟨o1, o2⟩ := s
  rcases hh with hh | hh
  · cases o1 with
    | none => simp at hh
    | some p => have := st.mine (p.1, T1, p.2) (by simp [Two.own]); simp at hh; simp at this; omega
  · cases o2 with
    | none => simp at hh
    | some p => have := st.mine (p.1, T2, p.2) (by simp [Two.own]); simp at hh; simp at this; omega

theorem Two.new {B w : World} {T1 T2 : TypeId} {s : Two} (st : St [] B w (s.own T1 T2)) {b : Nat} (hb : w.heap.size ≤ b) : s.free b := by
  intro hh
  obtain ⟨o1, o2⟩ := s
  rcases hh with hh | hh
  · cases o1 with
    | none => simp at hh
    | some p => have := st.lt (x := (p.1, T1, p.2)) (by simp [Two.own]); simp at hh; simp at this; omega
  · cases o2 with
    | none => simp at hh
    | some p => have := st.lt (x := (p.1, T2, p.2)) (by simp [Two.own]); simp at hh; simp at this; omega

section
variable {P : Program} {B w : World} {T1 T2 : TypeId} {s : Two} {o : Oper} {A : Act} {Q : Exit → Act → World → Prop} {K : Act → World → Prop}

theorem Two.alloc1 (a1 s1 a2 s2 : Nat) (st : St [] B w (s.own T1 T2)) (ho : o.op = .alloc T1) (z : Value) (hz : ∀ w, (zeroValue T1).run P w = .ok z w) (cs : List Value) (hcs : z.cells.toList = cs)
    (h : ∀ (g : Nat) w', Two.Rel a1 s1 a2 s2 a1 s w (some (g, cs), s.2) w' → St [] B w' (Two.own T1 T2 (some (g, cs), s.2)) → K (A.put o.dst (.pointer (some ⟨g, 0, none⟩))) w') : Oper.wp P o A w K Q := by
  refine wp_alloc (St.start w) T1 ho z hz cs hcs fun g w' hg st' hb => h g w' ?_ ?_
  · refine ⟨hb.size, fun b hb' hf => ⟨?_, hb.block b hb'⟩, ?_, ?_, ?_, ?_⟩
    · intro hh
      apply hf
      rcases hh with hh | hh
      · first | exact .inl hh | (simp at hh; omega)
      · first | exact .inr hh | (simp at hh; omega)
    · first | exact fun _ _ => rfl | exact fun h _ => absurd rfl h
    · first | exact fun _ _ => rfl | exact fun h _ => absurd rfl h
    · first | exact fun _ g c h => ⟨c, h, rfl⟩ | exact fun h => absurd rfl h
    · first | exact fun _ g c h => ⟨c, h, rfl⟩ | exact fun h => absurd rfl h
  · refine (st.join st').sub ?_ ?_
    · obtain ⟨o1, o2⟩ := s
      cases o1 <;> cases o2 <;> simp [Two.own] <;> simp_all
    · obtain ⟨o1, o2⟩ := s
      have hlt := fun x hx => st.lt (x := x) hx
      cases o1 <;> cases o2 <;> simp [Two.own] <;> (try (simp [Two.own] at hlt)) <;> omega
theorem Two.alloc2 (a1 s1 a2 s2 : Nat) (st : St [] B w (s.own T1 T2)) (ho : o.op = .alloc T2) (z : Value) (hz : ∀ w, (zeroValue T2).run P w = .ok z w) (cs : List Value) (hcs : z.cells.toList = cs)
    (h : ∀ (g : Nat) w', Two.Rel a1 s1 a2 s2 a2 s w (s.1, some (g, cs)) w' → St [] B w' (Two.own T1 T2 (s.1, some (g, cs))) → K (A.put o.dst (.pointer (some ⟨g, 0, none⟩))) w') : Oper.wp P o A w K Q := by
  refine wp_alloc (St.start w) T2 ho z hz cs hcs fun g w' hg st' hb => h g w' ?_ ?_
  · refine ⟨hb.size, fun b hb' hf => ⟨?_, hb.block b hb'⟩, ?_, ?_, ?_, ?_⟩
    · intro hh
      apply hf
      rcases hh with hh | hh
      · first | exact .inl hh | (simp at hh; omega)
      · first | exact .inr hh | (simp at hh; omega)
    · first | exact fun _ _ => rfl | exact fun h _ => absurd rfl h
    · first | exact fun _ _ => rfl | exact fun h _ => absurd rfl h
    · first | exact fun _ g c h => ⟨c, h, rfl⟩ | exact fun h => absurd rfl h
    · first | exact fun _ g c h => ⟨c, h, rfl⟩ | exact fun h => absurd rfl h
  · refine (st.join st').sub ?_ ?_
    · obtain ⟨o1, o2⟩ := s
      cases o1 <;> cases o2 <;> simp [Two.own] <;> simp_all
    · obtain ⟨o1, o2⟩ := s
      have hlt := fun x hx => st.lt (x := x) hx
      cases o1 <;> cases o2 <;> simp [Two.own] <;> (try (simp [Two.own] at hlt)) <;> omega

theorem Two.store1 (a1 s1 a2 s2 : Nat) (st : St [] B w (s.own T1 T2)) (T : TypeId) (x y : Operand) (ho : o.op = .store T x y) (n : Nat) (hsz : ∀ w, (sizeOf T).run P w = .ok n w) (g : Nat) (c : List Value) (hs : s.1 = some (g, c)) (hx : A.eval x = .pointer (some ⟨g, 0, none⟩)) (vs : List Value) (hy : (A.eval y).cells.toList = vs) (hl : vs.length = n) (hn : c.length = n) (h1 : vs.all Value.oneCell' = true)
    (h : ∀ w', Two.Rel a1 s1 a2 s2 s1 s w (some (g, vs), s.2) w' → St [] B w' (Two.own T1 T2 (some (g, vs), s.2)) → K (A.put o.dst undef) w') : Oper.wp P o A w K Q := by
  obtain ⟨o1, o2⟩ := s
  simp only at hs
  subst hs
  refine wp_store' st T x y ho n hsz ⟨0, g, 0, T1, c, vs, hx, rfl, hy, hl, h1, ?_, fun w' st' hm hz => h w' ?_ ?_⟩
  · rw [Nat.ble_eq]; omega
  · refine ⟨by omega, fun b hb hf => ⟨hf, hm b fun e => hf (.inl (by simp [e]))⟩, fun _ h => absurd rfl h, fun _ _ => rfl, fun _ g' c' e => ?_, fun _ g c h => ⟨c, h, rfl⟩⟩
    simp at e
    exact ⟨vs, by simp [e.1], by rw [← e.2]; omega⟩
  · rw [putL_all (by omega)] at st'
    exact st'

theorem Two.store2 (a1 s1 a2 s2 : Nat) (st : St [] B w (s.own T1 T2)) (T : TypeId) (x y : Operand) (ho : o.op = .store T x y) (n : Nat) (hsz : ∀ w, (sizeOf T).run P w = .ok n w) (g : Nat) (c : List Value) (hs : s.2 = some (g, c)) (hx : A.eval x = .pointer (some ⟨g, 0, none⟩)) (vs : List Value) (hy : (A.eval y).cells.toList = vs) (hl : vs.length = n) (hn : c.length = n) (h1 : vs.all Value.oneCell' = true)
    (h : ∀ w', Two.Rel a1 s1 a2 s2 s2 s w (s.1, some (g, vs)) w' → St [] B w' (Two.own T1 T2 (s.1, some (g, vs))) → K (A.put o.dst undef) w') : Oper.wp P o A w K Q := by
  obtain ⟨o1, o2⟩ := s
  simp only at hs
  subst hs
  cases o1 with
  | none =>
    refine wp_store' st T x y ho n hsz ⟨0, g, 0, T2, c, vs, hx, rfl, hy, hl, h1, ?_, fun w' st' hm hz => h w' ?_ ?_⟩
    · rw [Nat.ble_eq]; omega
    · refine ⟨by omega, fun b hb hf => ⟨hf, hm b fun e => hf (.inr (by simp [e]))⟩, fun _ _ => rfl, fun _ h => absurd rfl h, fun _ g c h => ⟨c, h, rfl⟩, fun _ g' c' e => ?_⟩
      simp at e
      exact ⟨vs, by simp [e.1], by rw [← e.2]; omega⟩
    · rw [putL_all (by omega)] at st'
      exact st'
  | some p =>
    refine wp_store' st T x y ho n hsz ⟨1, g, 0, T2, c, vs, hx, rfl, hy, hl, h1, ?_, fun w' st' hm hz => h w' ?_ ?_⟩
    · rw [Nat.ble_eq]; omega
    · refine ⟨by omega, fun b hb hf => ⟨hf, hm b fun e => hf (.inr (by simp [e]))⟩, fun _ _ => rfl, fun _ h => absurd rfl h, fun _ g c h => ⟨c, h, rfl⟩, fun _ g' c' e => ?_⟩
      simp at e
      exact ⟨vs, by simp [e.1], by rw [← e.2]; omega⟩
    · rw [putL_all (by omega)] at st'
      exact st'

end

theorem SlR.two {a1 s1 a2 s2 k : Nat} {s s' : Two} {w w' : World} {α : Type} {sz : Nat} {R : List Value → α → Prop} {a : Option Addr} {c : Nat} {xs : List α} (h : SlR s.free w sz R a c xs) (hr : Two.Rel a1 s1 a2 s2 k s w s' w') : SlR s'.free w' sz R a c xs :=
  h.move hr.size (fun b hb ho => hr.keep b hb ho) fun _ _ h => h

end Go.Proofs.Ytbngblmdcggfdaa
