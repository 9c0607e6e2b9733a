/- Plain laws of labels: what Join, Meet and Set make, and that good labels are told by their levels. No program, no memory. -/
import Derived.Test.YtnihccinpbpllaaPlain
set_option linter.unusedSimpArgs false
set_option linter.unusedVariables false
namespace Go.Proofs.Ytnihccinpbpllaa

/-- A label in its plain form: categories rise, no level is the plain one. -/
def Norm (l : List Lev) : Prop := Rising (catsOf l) ∧ ∀ x ∈ l, x.l ≠ 1

theorem lAt_mem {l : List Lev} (h : Rising (catsOf l)) {x : Lev} (hx : x ∈ l) : lAt l x.c = x.l := by
  induction l with
  | nil => simp at hx
  | cons y l ih =>
    have h' := List.pairwise_cons.1 (show (y.c :: catsOf l).Pairwise (· < ·) from h)
    rcases List.mem_cons.1 hx with rfl | hx
    · rw [lAt, if_pos rfl]
    · have := h'.1 x.c (List.mem_map.2 ⟨x, hx, rfl⟩)
      rw [lAt, if_neg (by omega)]
      exact ih h'.2 hx

theorem norm_mem {l : List Lev} (h : Norm l) (c : Int) : c ∈ catsOf l ↔ lAt l c ≠ 1 := by
  constructor
  · intro hc
    obtain ⟨x, hx, rfl⟩ := List.mem_map.1 hc
    rw [lAt_mem h.1 hx]
    exact h.2 x hx
  · intro hc
    apply Classical.byContradiction
    exact fun hn => hc (lAt_not hn)

theorem norm_map {l : List Lev} (h : Rising (catsOf l)) : (catsOf l).map (fun c => (⟨c, lAt l c⟩ : Lev)) = l := by
  unfold catsOf
  rw [List.map_map]
  have : l.map ((fun c => (⟨c, lAt l c⟩ : Lev)) ∘ fun x => x.c) = l.map id := List.map_congr_left fun x hx => by
    simp only [Function.comp, id]
    rw [lAt_mem h hx]
  rw [this, List.map_id]

theorem norm_ext {a b : List Lev} (ha : Norm a) (hb : Norm b) (h : ∀ c, lAt a c = lAt b c) : a = b := by
  have e : catsOf a = catsOf b := rising_ext ha.1 hb.1 fun z => by rw [norm_mem ha, norm_mem hb, h]
  rw [← norm_map ha.1, ← norm_map hb.1, e]
  exact List.map_congr_left fun c _ => by rw [h]

theorem bothFrom_sub (f : Int → Int → Int) (a b : List Lev) (l : List Int) : (catsOf (bothFrom f a b l)).Sublist l := by
  induction l with
  | nil => exact List.Sublist.slnil
  | cons c l ih =>
    unfold bothFrom
    split
    · exact List.Sublist.cons _ ih
    · exact List.Sublist.cons_cons c ih

theorem bothFrom_ne (f : Int → Int → Int) (a b : List Lev) (l : List Int) : ∀ x ∈ bothFrom f a b l, x.l ≠ 1 := by
  induction l with
  | nil => simp [bothFrom]
  | cons c l ih =>
    intro x hx
    unfold bothFrom at hx
    split at hx
    · exact ih x hx
    · rename_i h
      rcases List.mem_cons.1 hx with rfl | hx
      · exact h
      · exact ih x hx

theorem norm_both (f : Int → Int → Int) (a b : List Lev) : Norm (bothL f a b) :=
  ⟨List.Pairwise.sublist (bothFrom_sub f a b _) (uniq_rising _), bothFrom_ne f a b _⟩

theorem lAt_bothFrom (f : Int → Int → Int) (a b : List Lev) (l : List Int) (c : Int) : lAt (bothFrom f a b l) c = if c ∈ l then f (lAt a c) (lAt b c) else 1 := by
  induction l with
  | nil => simp [bothFrom, lAt]
  | cons d l ih =>
    unfold bothFrom
    by_cases hd : d = c
    · subst hd
      rw [if_pos (List.mem_cons_self ..)]
      split
      · rename_i h
        rw [ih, h]; split <;> rfl
      · rw [lAt, if_pos rfl]
    · have e : (c ∈ d :: l) ↔ c ∈ l := by rw [List.mem_cons]; constructor; (rintro (h | h); exact absurd h.symm hd; exact h); exact Or.inr
      simp only [e]
      split
      · exact ih
      · rw [lAt, if_neg hd]; exact ih

theorem lAt_both {f : Int → Int → Int} (h1 : f 1 1 = 1) (a b : List Lev) (c : Int) : lAt (bothL f a b) c = f (lAt a c) (lAt b c) := by
  rw [bothL, lAt_bothFrom]
  by_cases hc : c ∈ eachL a b
  · rw [if_pos hc]
  · rw [if_neg hc]
    rw [eachL_mem, not_or] at hc
    rw [lAt_not hc.1, lAt_not hc.2, h1]

theorem bothL_comm {f : Int → Int → Int} (h1 : f 1 1 = 1) (hf : ∀ x y, f x y = f y x) (a b : List Lev) : bothL f a b = bothL f b a :=
  norm_ext (norm_both ..) (norm_both ..) fun c => by rw [lAt_both h1, lAt_both h1, hf]

/-! ### Good labels -/

theorem risesL_iff (l : List Lev) (p : Int) : risesL p l = true ↔ (∀ x ∈ l, p < x.c ∧ lvOk x = true) ∧ Rising (catsOf l) := by
  induction l generalizing p with
  | nil => simp [risesL, catsOf]
  | cons x l ih =>
    unfold risesL
    have hc : Rising (catsOf (x :: l)) ↔ (∀ z ∈ catsOf l, x.c < z) ∧ Rising (catsOf l) := List.pairwise_cons
    split
    · rename_i h
      rw [ih, hc]
      constructor
      · rintro ⟨h1, h2⟩
        refine ⟨fun y hy => ?_, fun z hz => ?_, h2⟩
        · rcases List.mem_cons.1 hy with rfl | hy
          · exact h
          · exact ⟨by have := (h1 y hy).1; omega, (h1 y hy).2⟩
        · obtain ⟨y, hy, rfl⟩ := List.mem_map.1 hz
          exact (h1 y hy).1
      · rintro ⟨h1, h2, h3⟩
        exact ⟨fun y hy => ⟨h2 _ (List.mem_map.2 ⟨y, hy, rfl⟩), (h1 y (List.mem_cons_of_mem _ hy)).2⟩, h3⟩
    · rename_i h
      simp only [Bool.false_eq_true, false_iff]
      rintro ⟨h1, _⟩
      exact h (h1 x (List.mem_cons_self ..))

theorem lvOk_iff (x : Lev) : lvOk x = true ↔ 0 ≤ x.c ∧ x.c < 80 ∧ 0 ≤ x.l ∧ x.l ≤ 3 ∧ x.l ≠ 1 := by simp only [lvOk, decide_eq_true_eq]

theorem goodL_iff (l : List Lev) : goodL l = true ↔ l.length ≤ 8 ∧ (∀ x ∈ l, lvOk x = true) ∧ Rising (catsOf l) := by
  unfold goodL
  split
  · rename_i h
    rw [risesL_iff]
    constructor
    · exact fun H => ⟨h, fun x hx => (H.1 x hx).2, H.2⟩
    · exact fun H => ⟨fun x hx => ⟨by have := (lvOk_iff x).1 (H.2.1 x hx); omega, H.2.1 x hx⟩, H.2.2⟩
  · rename_i h
    simp [h]

theorem good_norm {l : List Lev} (h : goodL l = true) : Norm l := by
  obtain ⟨_, h2, h3⟩ := (goodL_iff l).1 h
  exact ⟨h3, fun x hx => by have := (lvOk_iff x).1 (h2 x hx); omega⟩

theorem good_lAt {l : List Lev} (h : goodL l = true) (c : Int) : 0 ≤ lAt l c ∧ lAt l c ≤ 3 := by
  obtain ⟨_, h2, h3⟩ := (goodL_iff l).1 h
  by_cases hc : c ∈ catsOf l
  · obtain ⟨x, hx, rfl⟩ := List.mem_map.1 hc
    rw [lAt_mem h3 hx]
    have := (lvOk_iff x).1 (h2 x hx)
    omega
  · rw [lAt_not hc]; omega

/-! ### Set -/

def setL (l : List Lev) (c n : Int) : List Lev := l.filter (fun x => decide (x.c < c)) ++ ((if n = 1 then [] else [⟨c, n⟩]) ++ l.filter (fun x => decide (c < x.c)))

/-- What Set answers: a label, an error's number. -/
def setR (l : List Lev) (c n : Int) : List Lev × Int :=
  if goodL l = true ∧ (0 ≤ c ∧ c < 80) ∧ 0 ≤ n ∧ n ≤ 3 then (if (setL l c n).length ≤ 8 then (setL l c n, 0) else ([], 5)) else ([], 2)

theorem lAt_filter (p : Int → Bool) (l : List Lev) (d : Int) : lAt (l.filter fun x => p x.c) d = if p d = true then lAt l d else 1 := by
  induction l with
  | nil => simp [lAt]
  | cons x l ih =>
    rw [List.filter_cons]
    by_cases hx : p x.c = true
    · rw [if_pos hx]
      by_cases hd : x.c = d
      · subst hd; rw [lAt, if_pos rfl, if_pos hx, lAt, if_pos rfl]
      · rw [lAt, if_neg hd, ih]; split
        · rw [lAt, if_neg hd]
        · rfl
    · rw [if_neg hx, ih]
      by_cases hd : x.c = d
      · subst hd; rw [if_neg hx, if_neg hx]
      · split
        · rw [lAt, if_neg hd]
        · rfl

theorem lAt_append (x y : List Lev) (d : Int) : lAt (x ++ y) d = if d ∈ catsOf x then lAt x d else lAt y d := by
  induction x with
  | nil => simp [catsOf]
  | cons z x ih =>
    simp only [List.cons_append, lAt, catsOf, List.map_cons, List.mem_cons]
    by_cases hd : z.c = d
    · simp [hd]
    · have : ¬ d = z.c := fun e => hd e.symm
      simp only [if_neg hd, this, false_or]
      exact ih

theorem filter_cats {p : Int → Bool} {l : List Lev} {d : Int} (h : d ∈ catsOf (l.filter fun x => p x.c)) : p d = true := by
  obtain ⟨x, hx, rfl⟩ := List.mem_map.1 h
  exact (List.mem_filter.1 hx).2

theorem lAt_set (l : List Lev) (c n d : Int) : lAt (setL l c n) d = if d = c then n else lAt l d := by
  unfold setL
  rw [lAt_append]
  have hf1 := lAt_filter (fun x => decide (x < c)) l d
  have hf2 := lAt_filter (fun x => decide (c < x)) l d
  simp only [decide_eq_true_eq] at hf1 hf2
  by_cases hm : d ∈ catsOf (l.filter fun x => decide (x.c < c))
  · have hlt := filter_cats (p := fun x => decide (x < c)) hm
    simp only [decide_eq_true_eq] at hlt
    rw [if_pos hm, if_neg (by omega), hf1, if_pos hlt]
  · rw [if_neg hm]
    by_cases hdc : d = c
    · subst hdc
      rw [if_pos rfl]
      split
      · rename_i h; subst h
        rw [List.nil_append, hf2, if_neg (by omega)]
      · simp [lAt]
    · rw [if_neg hdc]
      have e : lAt ((if n = 1 then [] else [⟨c, n⟩]) ++ l.filter fun x => decide (c < x.c)) d = lAt (l.filter fun x => decide (c < x.c)) d := by
        split
        · rfl
        · simp only [List.cons_append, List.nil_append, lAt]; rw [if_neg (fun e => hdc e.symm)]
      rw [e, hf2]
      by_cases hlt : c < d
      · rw [if_pos hlt]
      · rw [if_neg hlt]
        have h1 := lAt_not hm
        rw [hf1, if_pos (by omega)] at h1
        exact h1.symm

theorem cats_filter_sub (p : Lev → Bool) (l : List Lev) : (catsOf (l.filter p)).Sublist (catsOf l) := List.Sublist.map _ List.filter_sublist

theorem set_rising {l : List Lev} (h : Rising (catsOf l)) (c n : Int) : Rising (catsOf (setL l c n)) := by
  unfold setL
  have e : ∀ x y : List Lev, catsOf (x ++ y) = catsOf x ++ catsOf y := fun x y => List.map_append
  have h1 := List.Pairwise.sublist (cats_filter_sub (fun x => decide (x.c < c)) l) h
  have h2 := List.Pairwise.sublist (cats_filter_sub (fun x => decide (c < x.c)) l) h
  have m1 : ∀ d ∈ catsOf (l.filter fun x => decide (x.c < c)), d < c := fun d hd => by simpa using filter_cats (p := fun x => decide (x < c)) hd
  have m2 : ∀ d ∈ catsOf (l.filter fun x => decide (c < x.c)), c < d := fun d hd => by simpa using filter_cats (p := fun x => decide (c < x)) hd
  rw [e, e]
  split
  · refine List.pairwise_append.2 ⟨h1, by simpa [catsOf] using h2, fun a ha b hb => ?_⟩
    have := m1 a ha; have := m2 b (by simpa [catsOf] using hb); omega
  · refine List.pairwise_append.2 ⟨h1, ?_, fun a ha b hb => ?_⟩
    · exact List.pairwise_cons.2 ⟨fun d hd => m2 d (by simpa [catsOf] using hd), by simpa [catsOf] using h2⟩
    · have := m1 a ha
      rcases List.mem_append.1 hb with hb | hb
      · simp [catsOf] at hb; omega
      · have := m2 b hb; omega

theorem set_lv {l : List Lev} (h : ∀ x ∈ l, lvOk x = true) {c n : Int} (hc : 0 ≤ c ∧ c < 80) (hn : 0 ≤ n ∧ n ≤ 3) : ∀ x ∈ setL l c n, lvOk x = true := by
  intro x hx
  unfold setL at hx
  rcases List.mem_append.1 hx with hx | hx
  · exact h x (List.mem_filter.1 hx).1
  · rcases List.mem_append.1 hx with hx | hx
    · split at hx
      · simp at hx
      · rename_i hn1
        simp only [List.mem_singleton] at hx
        subst hx
        exact (lvOk_iff _).2 ⟨hc.1, hc.2, hn.1, hn.2, hn1⟩
    · exact h x (List.mem_filter.1 hx).1

theorem set_good {l : List Lev} (h : goodL l = true) {c n : Int} (hc : 0 ≤ c ∧ c < 80) (hn : 0 ≤ n ∧ n ≤ 3) (h8 : (setL l c n).length ≤ 8) : goodL (setL l c n) = true := by
  obtain ⟨_, h2, h3⟩ := (goodL_iff l).1 h
  exact (goodL_iff _).2 ⟨h8, set_lv h2 hc hn, set_rising h3 c n⟩

theorem lv_norm {l : List Lev} (h2 : ∀ x ∈ l, lvOk x = true) (h3 : Rising (catsOf l)) : Norm l := ⟨h3, fun x hx => by have := (lvOk_iff x).1 (h2 x hx); omega⟩

theorem set_norm {l : List Lev} (h : goodL l = true) {c n : Int} (hc : 0 ≤ c ∧ c < 80) (hn : 0 ≤ n ∧ n ≤ 3) : Norm (setL l c n) := by
  obtain ⟨_, h2, h3⟩ := (goodL_iff l).1 h
  exact lv_norm (set_lv h2 hc hn) (set_rising h3 c n)

theorem setL_back {l : List Lev} (h : goodL l = true) {c n : Int} (hc : 0 ≤ c ∧ c < 80) (hn : 0 ≤ n ∧ n ≤ 3) (h8 : (setL l c n).length ≤ 8) : setL (setL l c n) c (lAt l c) = l := by
  have hg := set_good h hc hn h8
  exact norm_ext (set_norm hg hc (good_lAt h c)) (good_norm h) fun d => by
    rw [lAt_set, lAt_set]
    split
    · rename_i e; rw [e]
    · rfl

theorem setR_cases (l : List Lev) (c n : Int) : (∃ k, setR l c n = ([], k) ∧ k ≠ 0) ∨ (setR l c n = (setL l c n, 0) ∧ goodL l = true ∧ (0 ≤ c ∧ c < 80) ∧ (0 ≤ n ∧ n ≤ 3) ∧ (setL l c n).length ≤ 8) := by
  unfold setR
  split
  · rename_i h
    split
    · rename_i h8
      exact .inr ⟨rfl, h.1, h.2.1, h.2.2, h8⟩
    · exact .inl ⟨5, rfl, by decide⟩
  · exact .inl ⟨2, rfl, by decide⟩

theorem setR_back {l : List Lev} (h : goodL l = true) {c n : Int} (hc : 0 ≤ c ∧ c < 80) (hn : 0 ≤ n ∧ n ≤ 3) (h8 : (setL l c n).length ≤ 8) : setR (setL l c n) c (lAt l c) = (l, 0) := by
  have hl := good_lAt h c
  unfold setR
  rw [if_pos ⟨set_good h hc hn h8, hc, hl.1, hl.2⟩, setL_back h hc hn h8, if_pos ((goodL_iff l).1 h).1]

theorem flows_set {l : List Lev} (c n : Int) : flowsL l (setL l c n) [] = decide (lAt l c ≤ n) := by
  rw [Bool.eq_iff_iff, flowsL_iff, decide_eq_true_eq]
  constructor
  · intro H
    have := H c (by simp)
    rwa [lAt_set, if_pos rfl] at this
  · intro H d _
    rw [lAt_set]
    split
    · rename_i e; rw [e]; exact H
    · exact Int.le_refl _

theorem flows_set_own {l : List Lev} (c n : Int) : flowsL l (setL l c n) [c] = true := by
  rw [flowsL_iff]
  intro d hd
  rw [lAt_set, if_neg (by simpa using hd)]
  exact Int.le_refl _

/-! ### The order of labels, Join and Meet in it -/

theorem flows_refl (a : List Lev) (own : List Int) : flowsL a a own = true := (flowsL_iff ..).2 fun _ _ => Int.le_refl _
theorem flows_trans {a b c : List Lev} {own : List Int} (h1 : flowsL a b own = true) (h2 : flowsL b c own = true) : flowsL a c own = true :=
  (flowsL_iff ..).2 fun d hd => Int.le_trans ((flowsL_iff ..).1 h1 d hd) ((flowsL_iff ..).1 h2 d hd)
theorem flows_own {a b : List Lev} {own : List Int} (h : flowsL a b [] = true) : flowsL a b own = true := (flowsL_iff ..).2 fun d _ => (flowsL_iff ..).1 h d (by simp)
theorem flows_anti {a b : List Lev} (ha : goodL a = true) (hb : goodL b = true) (h1 : flowsL a b [] = true) (h2 : flowsL b a [] = true) : a = b :=
  norm_ext (good_norm ha) (good_norm hb) fun c => Int.le_antisymm ((flowsL_iff ..).1 h1 c (by simp)) ((flowsL_iff ..).1 h2 c (by simp))

theorem max11 : max (1 : Int) 1 = 1 := by omega
theorem min11 : min (1 : Int) 1 = 1 := by omega

theorem flows_join_l (a b : List Lev) : flowsL a (bothL max a b) [] = true := (flowsL_iff ..).2 fun c _ => by rw [lAt_both max11]; omega
theorem flows_join_r (a b : List Lev) : flowsL b (bothL max a b) [] = true := (flowsL_iff ..).2 fun c _ => by rw [lAt_both max11]; omega
theorem flows_meet_l (a b : List Lev) : flowsL (bothL min a b) a [] = true := (flowsL_iff ..).2 fun c _ => by rw [lAt_both min11]; omega
theorem flows_meet_r (a b : List Lev) : flowsL (bothL min a b) b [] = true := (flowsL_iff ..).2 fun c _ => by rw [lAt_both min11]; omega

theorem flows_join_iff (a b c : List Lev) : flowsL (bothL max a b) c [] = (flowsL a c [] && flowsL b c []) := by
  rw [Bool.eq_iff_iff, Bool.and_eq_true, flowsL_iff, flowsL_iff, flowsL_iff]
  constructor
  · intro H
    exact ⟨fun d hd => by have := H d hd; rw [lAt_both max11] at this; omega, fun d hd => by have := H d hd; rw [lAt_both max11] at this; omega⟩
  · rintro ⟨h1, h2⟩ d hd
    have := h1 d hd; have := h2 d hd
    rw [lAt_both max11]; omega

theorem flows_meet_iff (a b c : List Lev) : flowsL c (bothL min a b) [] = (flowsL c a [] && flowsL c b []) := by
  rw [Bool.eq_iff_iff, Bool.and_eq_true, flowsL_iff, flowsL_iff, flowsL_iff]
  constructor
  · intro H
    exact ⟨fun d hd => by have := H d hd; rw [lAt_both min11] at this; omega, fun d hd => by have := H d hd; rw [lAt_both min11] at this; omega⟩
  · rintro ⟨h1, h2⟩ d hd
    have := h1 d hd; have := h2 d hd
    rw [lAt_both min11]; omega

theorem join_comm (a b : List Lev) : bothL max a b = bothL max b a := bothL_comm max11 (fun x y => by omega) a b
theorem meet_comm (a b : List Lev) : bothL min a b = bothL min b a := bothL_comm min11 (fun x y => by omega) a b
theorem join_meet {a : List Lev} (h : goodL a = true) (b : List Lev) : bothL max a (bothL min a b) = a :=
  norm_ext (norm_both ..) (good_norm h) fun c => by rw [lAt_both max11, lAt_both min11]; omega
theorem meet_join {a : List Lev} (h : goodL a = true) (b : List Lev) : bothL min a (bothL max a b) = a :=
  norm_ext (norm_both ..) (good_norm h) fun c => by rw [lAt_both min11, lAt_both max11]; omega
theorem join_self {a : List Lev} (h : goodL a = true) : bothL max a a = a :=
  norm_ext (norm_both ..) (good_norm h) fun c => by rw [lAt_both max11]; omega

end Go.Proofs.Ytnihccinpbpllaa
