/- Plain laws on labels: lists of levels; no program, no memory. -/
import Derived.Test.YtbngblmdcggfdaaData
set_option linter.unusedSimpArgs false
set_option linter.unusedVariables false
namespace Go.Proofs.Ytbngblmdcggfdaa

/-! ### Lists that rise, each number once -/

def insI (x : Int) : List Int → List Int
  | [] => [x]
  | y :: l => if x < y then x :: y :: l else if x = y then y :: l else y :: insI x l

def uniq (l : List Int) : List Int := l.foldr insI []

abbrev Rising (l : List Int) : Prop := l.Pairwise (· < ·)

theorem insI_mem {x z : Int} {l : List Int} : z ∈ insI x l ↔ z = x ∨ z ∈ l := by
  induction l with
  | nil => simp [insI]
  | cons y l ih =>
    unfold insI
    split
    · simp
    · split
      · rename_i h; subst h; simp
      · simp only [List.mem_cons, ih]
        constructor
        · rintro (h | h | h) <;> simp [h]
        · rintro (h | h | h) <;> simp [h]

theorem insI_rising {x : Int} {l : List Int} (h : Rising l) : Rising (insI x l) := by
  induction l with
  | nil => simp [insI]
  | cons y l ih =>
    unfold insI
    have hy := List.pairwise_cons.1 h
    split
    · rename_i hxy
      exact List.pairwise_cons.2 ⟨fun z hz => by rcases List.mem_cons.1 hz with rfl | hz; exact hxy; exact Int.lt_trans hxy (hy.1 z hz), h⟩
    · split
      · exact h
      · rename_i h1 h2
        refine List.pairwise_cons.2 ⟨fun z hz => ?_, ih hy.2⟩
        rcases insI_mem.1 hz with rfl | hz
        · omega
        · exact hy.1 z hz

theorem uniq_mem {z : Int} {l : List Int} : z ∈ uniq l ↔ z ∈ l := by
  induction l with
  | nil => simp [uniq]
  | cons y l ih => show z ∈ insI y (uniq l) ↔ _; rw [insI_mem, ih, List.mem_cons]

theorem uniq_rising (l : List Int) : Rising (uniq l) := by
  induction l with
  | nil => exact List.Pairwise.nil
  | cons y l ih => exact insI_rising ih

theorem rising_ext {a b : List Int} (ha : Rising a) (hb : Rising b) (h : ∀ z, z ∈ a ↔ z ∈ b) : a = b := by
  induction a generalizing b with
  | nil =>
    cases b with
    | nil => rfl
    | cons y b => have := (h y).2 (by simp); simp at this
  | cons x a ih =>
    cases b with
    | nil => have := (h x).1 (by simp); simp at this
    | cons y b =>
      have ha' := List.pairwise_cons.1 ha
      have hb' := List.pairwise_cons.1 hb
      have hxy : x = y := by
        rcases List.mem_cons.1 ((h x).1 (by simp)) with e | e
        · exact e
        · rcases List.mem_cons.1 ((h y).2 (by simp)) with e' | e'
          · exact e'.symm
          · have := hb'.1 x e; have := ha'.1 y e'; omega
      subst hxy
      rw [ih ha'.2 hb'.2 fun z => ?_]
      constructor
      · intro hz
        rcases List.mem_cons.1 ((h z).1 (by simp [hz])) with e | e
        · have := ha'.1 z hz; omega
        · exact e
      · intro hz
        rcases List.mem_cons.1 ((h z).2 (by simp [hz])) with e | e
        · have := hb'.1 z hz; omega
        · exact e

theorem uniq_of {a l : List Int} (ha : Rising a) (h : ∀ z, z ∈ a ↔ z ∈ l) : a = uniq l := rising_ext ha (uniq_rising l) fun z => (h z).trans uniq_mem.symm

/-! ### Labels -/

def catsOf (l : List Lev) : List Int := l.map (·.c)
def eachL (a b : List Lev) : List Int := uniq (catsOf a ++ catsOf b)

theorem eachL_mem {a b : List Lev} {z : Int} : z ∈ eachL a b ↔ z ∈ catsOf a ∨ z ∈ catsOf b := by rw [eachL, uniq_mem, List.mem_append]

theorem eachL_comm (a b : List Lev) : eachL a b = eachL b a := rising_ext (uniq_rising _) (uniq_rising _) fun z => by
  rw [eachL_mem, eachL_mem]; exact Or.comm

theorem lAt_not {l : List Lev} {c : Int} (h : c ∉ catsOf l) : lAt l c = 1 := by
  induction l with
  | nil => rfl
  | cons x l ih =>
    simp only [catsOf, List.map_cons, List.mem_cons, not_or] at h
    rw [lAt, if_neg (fun e => h.1 e.symm)]
    exact ih h.2

/-- From the k-th category on: do they all flow? -/
def flowsFrom (a b : List Lev) (own : List Int) : List Int → Bool
  | [] => true
  | c :: l => if lAt b c < lAt a c then (if inL own c then flowsFrom a b own l else false) else flowsFrom a b own l

def flowsL (a b : List Lev) (own : List Int) : Bool := flowsFrom a b own (eachL a b)

theorem flowsFrom_iff (a b : List Lev) (own : List Int) (l : List Int) : flowsFrom a b own l = true ↔ ∀ c ∈ l, c ∉ own → lAt a c ≤ lAt b c := by
  induction l with
  | nil => simp [flowsFrom]
  | cons c l ih =>
    unfold flowsFrom
    by_cases h : lAt b c < lAt a c
    · rw [if_pos h]
      by_cases ho : inL own c = true
      · rw [if_pos ho, ih]
        have := (inL_iff own c).1 ho
        constructor
        · intro H d hd hn
          rcases List.mem_cons.1 hd with rfl | hd
          · exact absurd this hn
          · exact H d hd hn
        · exact fun H d hd hn => H d (by simp [hd]) hn
      · rw [if_neg ho]
        simp only [Bool.false_eq_true, false_iff]
        intro H
        have := H c (by simp) (by rwa [← inL_not, Bool.eq_false_iff])
        omega
    · rw [if_neg h, ih]
      constructor
      · intro H d hd hn
        rcases List.mem_cons.1 hd with rfl | hd
        · omega
        · exact H d hd hn
      · exact fun H d hd hn => H d (by simp [hd]) hn

/-- What flows: at each category that is not one's own the level is no greater. -/
theorem flowsL_iff (a b : List Lev) (own : List Int) : flowsL a b own = true ↔ ∀ c, c ∉ own → lAt a c ≤ lAt b c := by
  rw [flowsL, flowsFrom_iff]
  constructor
  · intro H c hn
    by_cases hc : c ∈ eachL a b
    · exact H c hc hn
    · rw [eachL_mem, not_or] at hc
      rw [lAt_not hc.1, lAt_not hc.2]
      exact Int.le_refl _
  · exact fun H c _ hn => H c hn

/-- Each category at a level made of two, but not the plain one. -/
def bothFrom (f : Int → Int → Int) (a b : List Lev) : List Int → List Lev
  | [] => []
  | c :: l => if f (lAt a c) (lAt b c) = 1 then bothFrom f a b l else ⟨c, f (lAt a c) (lAt b c)⟩ :: bothFrom f a b l

def bothL (f : Int → Int → Int) (a b : List Lev) : List Lev := bothFrom f a b (eachL a b)

/-! ### Good labels -/

def lvOk (x : Lev) : Bool := decide (0 ≤ x.c ∧ x.c < 80 ∧ 0 ≤ x.l ∧ x.l ≤ 3 ∧ x.l ≠ 1)

def risesL : Int → List Lev → Bool
  | _, [] => true
  | p, x :: l => if p < x.c ∧ lvOk x = true then risesL x.c l else false

/-- The category ahead of the k-th level. -/
def prevC (l : List Lev) (k : Nat) : Int := if h : 0 < k ∧ k ≤ l.length then (l[k - 1]'(by omega)).c else -1

theorem prevC_zero (l : List Lev) : prevC l 0 = -1 := by simp [prevC]
theorem prevC_succ (l : List Lev) (k : Nat) (h : k < l.length) : prevC l (k + 1) = l[k].c := by
  unfold prevC
  rw [dif_pos ⟨by omega, by omega⟩]
  simp

theorem risesL_step (l : List Lev) (k : Nat) (h : k < l.length) : risesL (prevC l k) (l.drop k) = (if prevC l k < l[k].c ∧ lvOk l[k] = true then risesL (prevC l (k + 1)) (l.drop (k + 1)) else false) := by
  rw [List.drop_eq_getElem_cons h, risesL, prevC_succ l k h]

def goodL (l : List Lev) : Bool := if l.length ≤ 8 then risesL (-1) l else false

end Go.Proofs.Ytbngblmdcggfdaa
