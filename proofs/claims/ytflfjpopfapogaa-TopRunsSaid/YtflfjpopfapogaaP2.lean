/- Walks and plain laws that the claim rests on, part 2. -/
import Derived.Test.YtflfjpopfapogaaP1
import Derived.Laws.IdiomCopy
import Derived.Laws.Rows
set_option linter.unusedSimpArgs false
set_option linter.unusedVariables false
/- A kernel in plain words: its threads, and what a call does to them. No program, no memory. -/
namespace Go.Proofs.Ytflfjpopfapogaa
structure KObj where
 label : List Lev
 text : ByteArray
 deriving DecidableEq
structure Thr where
 label : List Lev
 own : List Int
 text : ByteArray
 objects : List KObj
 mails : List Mail
 deriving DecidableEq
structure Ker where
 host : Int
 threads : List Thr
 made : Int
structure Rep where
 code : Int
 n : Int
 text : ByteArray
 deriving DecidableEq
def zeroT : Thr := ⟨[], [], ⟨#[]⟩, [], []⟩
def newK (h : Int) : Ker := ⟨h, [zeroT, zeroT, zeroT, zeroT], 0⟩
def lastB (s : ByteArray) : ByteArray := s.extract (s.size - 64) s.size
def knowT (a b : ByteArray) : ByteArray := lastB (a ++ b)
def ownC (l : List Int) (c : Int) : List Int × Int := if c ∈ l then (l, 0) else if 8 ≤ l.length then (l, 5) else (insI c l, 0)
def ownAll : List Int → List Int → List Int
 | l, [] => l
 | l, g :: gs => if (ownC l g).2 = 0 then ownAll (ownC l g).1 gs else l
def takeM (label : List Lev) (own : List Int) : List Mail → Option Mail × List Mail
 | [] => (none, [])
 | m :: l => if flowsL m.label label own = true then (some m, l) else takeM label own l
def errR (e : Int) : Rep := ⟨e, 0, ⟨#[]⟩⟩
def Ker.thr (k : Ker) (t : Int) : Thr := k.threads.getD t.toNat zeroT
def Ker.put (k : Ker) (t : Int) (x : Thr) : Ker := { k with threads := k.threads.set t.toNat x }
def Ker.obj (k : Ker) (t n : Int) : Option KObj := if four t = true ∧ 0 ≤ n then (k.thr t).objects[n.toNat]? else none
def Thr.putObj (x : Thr) (n : Int) (o : KObj) : Thr := { x with objects := x.objects.set n.toNat o }
def takeX (x : Thr) : Thr × Rep :=
 match takeM x.label x.own x.mails with
 | (none, l) => ({ x with mails := l }, errR 4)
 | (some m, l) => ({ x with mails := l, text := knowT x.text m.text, own := ownAll x.own m.grants }, ⟨0, m.host * 4 + m.thread, ⟨#[]⟩⟩)
theorem takeX_same (x : Thr) : (takeX x).1.label = x.label ∧ (takeX x).1.objects = x.objects := by
 unfold takeX
 split <;> exact ⟨rfl, rfl⟩
def takeK (k : Ker) (t : Int) : Ker × Rep := (k.put t (takeX (k.thr t)).1, (takeX (k.thr t)).2)
def callK (k : Ker) (t : Int) (c : Req) : Ker × Rep :=
 let x := k.thr t
 if c.kind = 1 then
  if 20 ≤ k.made then (k, errR 5)
  else if (ownC x.own (k.host * 20 + k.made)).2 ≠ 0 then (k, errR 5)
  else ({ k.put t { x with own := (ownC x.own (k.host * 20 + k.made)).1 } with made := k.made + 1 }, ⟨0, k.host * 20 + k.made, ⟨#[]⟩⟩)
 else if c.kind = 2 then
  if goodL c.label = false then (k, errR 2)
  else if flowsL x.label c.label x.own = false then (k, errR 6)
  else if 4 ≤ x.objects.length then (k, errR 5)
  else (k.put t { x with objects := x.objects ++ [⟨c.label, ⟨#[]⟩⟩] }, ⟨0, x.objects.length, ⟨#[]⟩⟩)
 else if c.kind = 3 then
  match k.obj c.t c.n with
  | none => (k, errR 0)
  | some o => if flowsL x.label o.label x.own = true then (k.put c.t ((k.thr c.t).putObj c.n ⟨o.label, knowT x.text c.text⟩), errR 0) else (k, errR 0)
 else if c.kind = 4 then
  match k.obj c.t c.n with
  | none => (k, errR 4)
  | some o => if flowsL o.label x.label x.own = true then (k.put t { x with text := knowT x.text o.text }, ⟨0, o.text.size, ⟨#[]⟩⟩) else (k, errR 4)
 else if c.kind = 5 then
  if (setR x.label c.c c.n).2 ≠ 0 then (k, errR (setR x.label c.c c.n).2)
  else if flowsL x.label (setR x.label c.c c.n).1 x.own = false then (k, errR 6)
  else (k.put t { x with label := (setR x.label c.c c.n).1 }, errR 0)
 else if c.kind = 7 then takeK k t
 else if c.kind = 9 then (k.put t { x with text := c.text }, errR 0)
 else if c.kind = 10 then (k, ⟨0, 0, x.text⟩)
 else (k, errR 3)
def stepC (k : Ker) (t : Int) (c : Req) : Ker × Rep :=
 if four t = false then (k, errR 4) else if 64 < c.text.size then (k, errR 9) else callK k t c
def deliverK (k : Ker) (t : Int) (m : Mail) : Ker :=
 if four t = false then k else if goodMailC m ≠ 0 then k
 else if flowsL m.label (k.thr t).label (k.thr t).own = true ∧ (k.thr t).mails.length < 6 then k.put t { k.thr t with mails := (k.thr t).mails ++ [m] } else k
def zeroM : Mail := ⟨0, 0, [], [], ⟨#[]⟩⟩
def letterM (k : Ker) (t : Int) (c : Req) : Mail := ⟨k.host, t, c.label, c.grants, knowT (k.thr t).text c.text⟩
def letterK (k : Ker) (t : Int) (c : Req) : Mail × Int :=
 if four t = false then (zeroM, 4) else
 if goodMailC (letterM k t c) ≠ 0 then (zeroM, goodMailC (letterM k t c))
 else if ¬ (∀ g ∈ c.grants, g ∈ (k.thr t).own) then (zeroM, 7)
 else if flowsL (k.thr t).label c.label (k.thr t).own = false then (zeroM, 6)
 else (letterM k t c, 0)
theorem goodL_len {l : List Lev} (h : goodL l = true) : l.length ≤ 8 := by
 unfold goodL at h
 by_cases h8 : l.length ≤ 8
 ·exact h8
 ·rw [if_neg h8] at h; simp at h
structure Thr.ok (x : Thr) : Prop where
 good : goodL x.label = true
 own : Rising x.own
 ownL : x.own.length ≤ 8
 text : x.text.size ≤ 64
 objs : x.objects.length ≤ 4
 obj : ∀ o ∈ x.objects, goodL o.label = true ∧ o.text.size ≤ 64
 mailN : x.mails.length ≤ 6
 mail : ∀ m ∈ x.mails, goodMailC m = 0
structure Ker.ok (k : Ker) : Prop where
 host : 0 ≤ k.host ∧ k.host < 4
 four : k.threads.length = 4
 made : 0 ≤ k.made ∧ k.made ≤ 20
 thr : ∀ x ∈ k.threads, x.ok
open Go.RowKit
theorem wpList_wanted {P : Program} {w : World} {ops : Array Oper} {rest : List Oper} {o : Oper} {A : Act} {Q : Exit → Act → World → Prop} (hg : Region.wanted o (yielded ops A.tmps) = true)
    (h : ∀ K : Act → World → Prop, (∀ a w, wpList P ops Q rest a w → K a w) → o.wp P A w K Q) : wpList P ops Q (o :: rest) A w :=
  wpList_step fun K hK => by simp only [hg, if_true]; exact h K hK
/-! Each stands only at one kind of operation: an arm that begins with it ('with_reducible refine at_.. ?_') falls fast elsewhere. -/
theorem at_store {P : Program} {ops : Array Oper} {Q : Exit → Act → World → Prop} {rest : List Oper} {A : Act} {w : World} {d : Option Tmp} {ty : TypeId} {p : String} {af : Array Edge} {g : Option (Nat × Bool)} {x y : Operand} (T : TypeId)
    (h : wpList P ops Q (⟨d, .store T x y, ty, p, af, g⟩ :: rest) A w) : wpList P ops Q (⟨d, .store T x y, ty, p, af, g⟩ :: rest) A w := h
theorem at_load {P : Program} {ops : Array Oper} {Q : Exit → Act → World → Prop} {rest : List Oper} {A : Act} {w : World} {d : Option Tmp} {ty : TypeId} {p : String} {af : Array Edge} {g : Option (Nat × Bool)} {x : Operand} (T : TypeId)
    (h : wpList P ops Q (⟨d, .load T x, ty, p, af, g⟩ :: rest) A w) : wpList P ops Q (⟨d, .load T x, ty, p, af, g⟩ :: rest) A w := h
theorem at_box {P : Program} {ops : Array Oper} {Q : Exit → Act → World → Prop} {rest : List Oper} {A : Act} {w : World} {d : Option Tmp} {ty : TypeId} {p : String} {af : Array Edge} {g : Option (Nat × Bool)} {x : Operand} (T : TypeId)
    (h : wpList P ops Q (⟨d, .box T x, ty, p, af, g⟩ :: rest) A w) : wpList P ops Q (⟨d, .box T x, ty, p, af, g⟩ :: rest) A w := h
theorem at_alloc {P : Program} {ops : Array Oper} {Q : Exit → Act → World → Prop} {rest : List Oper} {A : Act} {w : World} {d : Option Tmp} {ty : TypeId} {p : String} {af : Array Edge} {g : Option (Nat × Bool)} (T : TypeId)
    (h : wpList P ops Q (⟨d, .alloc T, ty, p, af, g⟩ :: rest) A w) : wpList P ops Q (⟨d, .alloc T, ty, p, af, g⟩ :: rest) A w := h
theorem at_build1 {P : Program} {ops : Array Oper} {Q : Exit → Act → World → Prop} {rest : List Oper} {A : Act} {w : World} {d : Option Tmp} {ty : TypeId} {p : String} {af : Array Edge} {g : Option (Nat × Bool)} {x : Operand} (T : TypeId)
    (h : wpList P ops Q (⟨d, .buildSlice T 1 #[(0, x)], ty, p, af, g⟩ :: rest) A w) : wpList P ops Q (⟨d, .buildSlice T 1 #[(0, x)], ty, p, af, g⟩ :: rest) A w := h
theorem wanted_none {o : Oper} {y : Nat → Option Bool} (h : o.guard = none) : Region.wanted o y = true := by simp [Region.wanted, h]
theorem wanted_some {o : Oper} {y : Nat → Option Bool} {g : Nat} {b : Bool} (h : o.guard = some (g, b)) (hy : y g = some b) : Region.wanted o y = true := by simp [Region.wanted, h, hy]
/-! Short names of what the walks' rewriting uses at every step. -/
theorem kP (a : Act) (d : Option Tmp) (v : Value) : a.put d v = match d with
    | some d => { a with tmps := a.tmps.setIfInBounds d v }
    | none => a := rfl
theorem kA {α : Type} (l : List α) (i : Nat) (a : α) : l.toArray.setIfInBounds i a = (l.set i a).toArray := List.setIfInBounds_toArray l i a
theorem kS {α : Type} (x : α) (l : List α) (n : Nat) (a : α) : (x :: l).set (n + 1) a = x :: l.set n a := rfl
theorem kZ {α : Type} (x : α) (l : List α) (a : α) : (x :: l).set 0 a = a :: l := rfl
abbrev Blks := List (Nat × TypeId × List Value)
structure St (M : List Nat) (w0 w : World) (own : Blks) : Prop where
  os : w.os = w0.os
  tape : w.tape = w0.tape
  output : w.output = w0.output
  size : w0.heap.size ≤ w.heap.size
  frame : ∀ b, b < w0.heap.size → b ∉ M → w.heap[b]? = w0.heap[b]?
  blk : ∀ x ∈ own, w.heap[x.1]? = some (.cells x.2.2.toArray x.2.1 (0, 0))
  mine : ∀ x ∈ own, x.1 ∈ M ∨ w0.heap.size ≤ x.1
  ne : own.Pairwise (fun x y => x.1 ≠ y.1)
theorem St.start (w : World) : St [] w w [] := ⟨rfl, rfl, rfl, Nat.le_refl _, fun _ _ _ => rfl, by simp, by simp, by simp⟩
theorem St.below {w0 w : World} {own : Blks} (h : St [] w0 w own) : Below w0.heap.size w0 w := ⟨h.os, h.tape, h.output, h.size, fun k hk => h.frame k hk (by simp)⟩
theorem St.lt {M : List Nat} {w0 w : World} {own : Blks} (h : St M w0 w own) {x : Nat × TypeId × List Value} (hx : x ∈ own) : x.1 < w.heap.size := (Array.getElem?_eq_some_iff.1 (h.blk x hx)).1
theorem St.ltAt {M : List Nat} {w0 w : World} {own : Blks} (h : St M w0 w own) {i g : Nat} {T : TypeId} {cs : List Value} (hi : own[i]? = some (g, T, cs)) : g < w.heap.size := h.lt (List.mem_of_getElem? hi)
theorem St.call {M : List Nat} {w0 w w' : World} {own : Blks} (h : St M w0 w own) (hb : Below w.heap.size w w') : St M w0 w' own :=
  ⟨hb.os.trans h.os, hb.tape.trans h.tape, hb.output.trans h.output, Nat.le_trans h.size hb.size, fun b hb' hM => (hb.block b (Nat.lt_of_lt_of_le hb' h.size)).trans (h.frame b hb' hM),
    fun x hx => (hb.block x.1 (h.lt hx)).trans (h.blk x hx), h.mine, h.ne⟩
theorem St.drewN {M : List Nat} {w0 w : World} {own : Blks} (h : St M w0 w own) (n : Nat) : St M w0 (w.drewN n) own := h.call ((Below.refl _ _).drewN n)
theorem St.drew {M : List Nat} {w0 w : World} {own : Blks} (h : St M w0 w own) : St M w0 w.drew own := h.call (Below.refl _ _).drew
theorem St.new {M : List Nat} {w0 w : World} {own : Blks} (h : St M w0 w own) (T : TypeId) (cs : List Value) : St M w0 (w.alloc (.cells cs.toArray T)) (own ++ [(w.heap.size, T, cs)]) := by
  have hc := h.call ((Below.refl w.heap.size w).alloc (Nat.le_refl _) (.cells cs.toArray T))
  refine ⟨hc.os, hc.tape, hc.output, hc.size, hc.frame, ?_, ?_, ?_⟩
  · intro x hx
    rcases List.mem_append.1 hx with hx | hx
    · exact hc.blk x hx
    · simp at hx; subst hx; exact heap_alloc_new w _
  · intro x hx
    rcases List.mem_append.1 hx with hx | hx
    · exact h.mine x hx
    · simp at hx; subst hx; exact .inr h.size
  · refine List.pairwise_append.2 ⟨h.ne, by simp, fun x hx y hy => ?_⟩
    simp at hy; subst hy
    have := h.lt hx
    exact Nat.ne_of_lt this
def putL : List Value → Nat → List Value → List Value
  | [], _, _ => []
  | c :: cs, 0, [] => c :: cs
  | _ :: cs, 0, v :: vs => v :: putL cs 0 vs
  | c :: cs, o + 1, vs => c :: putL cs o vs
theorem putL_length (cs : List Value) (o : Nat) (vs : List Value) : (putL cs o vs).length = cs.length := by
  induction cs generalizing o vs with
  | nil => simp [putL]
  | cons c cs ih =>
    cases o with
    | zero => cases vs with
      | nil => simp [putL]
      | cons v vs => simp [putL, ih]
    | succ o => simp [putL, ih]
theorem putL_cons (cs : List Value) (o : Nat) (v : Value) (vs : List Value) : putL cs o (v :: vs) = putL (cs.set o v) (o + 1) vs := by
  induction cs generalizing o with
  | nil => simp [putL]
  | cons c cs ih =>
    cases o with
    | zero => simp [putL]
    | succ o => simp only [putL, List.set_cons_succ]; rw [ih]
theorem putL_nil (cs : List Value) (o : Nat) : putL cs o [] = cs := by
  induction cs generalizing o with
  | nil => simp [putL]
  | cons c cs ih => cases o <;> simp [putL, ih]
theorem setCells_block {w : World} {g : Nat} {T : TypeId} : ∀ (vs : List Value) (o : Nat) (cs : List Value), w.heap[g]? = some (.cells cs.toArray T (0, 0)) →
    (w.setCells g o vs).heap[g]? = some (.cells (putL cs o vs).toArray T (0, 0)) ∧ (∀ b, b ≠ g → (w.setCells g o vs).heap[b]? = w.heap[b]?) ∧ (w.setCells g o vs).heap.size = w.heap.size ∧
      (w.setCells g o vs).os = w.os ∧ (w.setCells g o vs).tape = w.tape ∧ (w.setCells g o vs).output = w.output := by
  intro vs
  induction vs generalizing w with
  | nil => intro o cs h; rw [putL_nil]; exact ⟨h, fun _ _ => rfl, rfl, rfl, rfl, rfl⟩
  | cons v vs ih =>
    intro o cs h
    have h1 := heap_setCell_same w g o cs.toArray T v h
    have h1' : (w.setCell ⟨g, o, none⟩ v).heap[g]? = some (.cells (cs.set o v).toArray T (0, 0)) := by rw [h1]; simp
    obtain ⟨a1, a2, a3, a4, a5, a6⟩ := ih (w := w.setCell ⟨g, o, none⟩ v) (o + 1) (cs.set o v) h1'
    rw [putL_cons]
    refine ⟨a1, fun b hb => (a2 b hb).trans (heap_setCell_other w ⟨g, o, none⟩ b v hb), a3.trans (by simp [World.setCell]), a4, a5, a6⟩
theorem St.put {M : List Nat} {w0 w w' : World} {own : Blks} (h : St M w0 w own) {i g : Nat} {T : TypeId} {cs cs' : List Value} (hi : own[i]? = some (g, T, cs))
    (h1 : w'.heap[g]? = some (.cells cs'.toArray T (0, 0))) (h2 : ∀ b, b ≠ g → w'.heap[b]? = w.heap[b]?) (h3 : w'.heap.size = w.heap.size) (h4 : w'.os = w.os) (h5 : w'.tape = w.tape) (h6 : w'.output = w.output) :
    St M w0 w' (own.set i (g, T, cs')) := by
  have hin : (g, T, cs) ∈ own := List.mem_of_getElem? hi
  have hilt : i < own.length := (List.getElem?_eq_some_iff.1 hi).1
  have hget : own[i] = (g, T, cs) := (List.getElem?_eq_some_iff.1 hi).2
  have hids : (own.set i (g, T, cs')).map (·.1) = own.map (·.1) := by
    apply List.ext_getElem?
    intro j
    simp only [List.getElem?_map, List.getElem?_set]
    by_cases hj : i = j
    · subst hj; simp [hilt, hget]
    · simp [hj]
  refine ⟨h4.trans h.os, h5.trans h.tape, h6.trans h.output, by rw [h3]; exact h.size, ?_, ?_, ?_, ?_⟩
  · intro b hb hM
    have hbg : b ≠ g := by
      rintro rfl
      rcases h.mine _ hin with hm | hm
      · exact hM hm
      · simp at hm; omega
    rw [h2 b hbg]; exact h.frame b hb hM
  · intro x hx
    obtain ⟨j, hj⟩ := List.mem_iff_getElem?.1 hx
    rw [List.getElem?_set] at hj
    by_cases hij : i = j
    · subst hij; simp [hilt] at hj; subst hj; exact h1
    · rw [if_neg hij] at hj
      have hxin := List.mem_of_getElem? hj
      have hne : x.1 ≠ g := by
        have hp := List.pairwise_iff_getElem.1 h.ne
        have hjl := (List.getElem?_eq_some_iff.1 hj).1
        have hjx := (List.getElem?_eq_some_iff.1 hj).2
        rcases Nat.lt_or_gt_of_ne hij with hlt | hlt
        · have := hp i j hilt hjl hlt; rw [hget, hjx] at this; exact fun e => this e.symm
        · have := hp j i hjl hilt hlt; rw [hget, hjx] at this; exact this
      rw [h2 _ hne]; exact h.blk x hxin
  · intro x hx
    have : x.1 ∈ (own.set i (g, T, cs')).map (·.1) := List.mem_map.2 ⟨x, hx, rfl⟩
    rw [hids] at this
    obtain ⟨y, hy, e⟩ := List.mem_map.1 this
    rw [← e]; exact h.mine y hy
  · have : ((own.set i (g, T, cs')).map (·.1)).Pairwise (· ≠ ·) := by rw [hids]; exact List.pairwise_map.2 h.ne
    exact List.pairwise_map.1 this
theorem St.setCell {M : List Nat} {w0 w : World} {own : Blks} (h : St M w0 w own) {i g : Nat} {T : TypeId} {cs : List Value} (hi : own[i]? = some (g, T, cs)) (j : Nat) (v : Value) : St M w0 (w.setCell ⟨g, j, none⟩ v) (own.set i (g, T, cs.set j v)) := by
  have h1 := heap_setCell_same w g j cs.toArray T v (h.blk _ (List.mem_of_getElem? hi))
  have h1' : (w.setCell ⟨g, j, none⟩ v).heap[g]? = some (.cells (cs.set j v).toArray T (0, 0)) := by rw [h1]; simp
  exact h.put hi h1' (fun b hb => heap_setCell_other w ⟨g, j, none⟩ b v hb) (by simp [World.setCell]) rfl rfl rfl
theorem St.rebase {M : List Nat} {w0 w : World} {own : Blks} (h : St M w0 w own) : St (own.map (·.1)) w w own :=
  ⟨rfl, rfl, rfl, Nat.le_refl _, fun _ _ _ => rfl, h.blk, fun x hx => .inl (List.mem_map.2 ⟨x, hx, rfl⟩), h.ne⟩
theorem St.keeps {M : List Nat} {w0 w : World} {own : Blks} (h : St M w0 w own) {ok : Nat → Prop} (hM : ∀ g ∈ M, ¬ ok g) : Keeps ok w0 w := ⟨h.size, fun b hb ho => h.frame b hb fun hm => hM b hm ho⟩
theorem St.belowB {M : List Nat} {w0 w : World} {own : Blks} (h : St M w0 w own) {B : Nat} (hB : B ≤ w0.heap.size) (hM : ∀ g ∈ M, B ≤ g) : Below B w0 w :=
  ⟨h.os, h.tape, h.output, h.size, fun b hb => h.frame b (Nat.lt_of_lt_of_le hb hB) fun hm => by have := hM b hm; omega⟩
theorem SlR.okay {ok ok' : Nat → Prop} {w : World} {α : Type} {sz : Nat} {R : List Value → α → Prop} {a : Option Addr} {c : Nat} {xs : List α} (h : SlR ok w sz R a c xs) (hok : ∀ b, ok b → ok' b) : SlR ok' w sz R a c xs := by
  refine ⟨h.1, h.2.1, h.2.2.1, fun i x hx => ?_⟩
  obtain ⟨b, o, cs, ha, ho, r⟩ := h.2.2.2 i x hx
  exact ⟨b, o, cs, ha, hok _ ho, r⟩
theorem SlR.okayR {ok ok' : Nat → Prop} {w : World} {α : Type} {sz : Nat} {R R' : List Value → α → Prop} {a : Option Addr} {c : Nat} {xs : List α} (h : SlR ok w sz R a c xs) (hok : ∀ b, ok b → ok' b) (hR : ∀ cs x, R cs x → R' cs x) : SlR ok' w sz R' a c xs := by
  refine ⟨h.1, h.2.1, h.2.2.1, fun i x hx => ?_⟩
  obtain ⟨b, o, cs, ha, ho, hb, hr, r⟩ := h.2.2.2 i x hx
  exact ⟨b, o, cs, ha, hok _ ho, hb, hR _ _ hr, r⟩
theorem St.ofBelow {w0 w : World} (h : Below w0.heap.size w0 w) : St [] w0 w [] := (St.start w0).call h
theorem SlR.move {ok ok' : Nat → Prop} {w w' : World} {α : Type} {sz : Nat} {R R' : List Value → α → Prop} {a : Option Addr} {c : Nat} {xs : List α} (h : SlR ok w sz R a c xs) (hs : w.heap.size ≤ w'.heap.size) (hk : ∀ b, b < w.heap.size → ok b → ok' b ∧ w'.heap[b]? = w.heap[b]?)
    (hR : ∀ cs x, R cs x → R' cs x) : SlR ok' w' sz R' a c xs := by
  refine ⟨h.1, h.2.1, h.2.2.1, fun i x hx => ?_⟩
  obtain ⟨b, o, cs, ha, ho, hb, hr, hl, h1, hc⟩ := h.2.2.2 i x hx
  obtain ⟨h2, h3⟩ := hk b hb ho
  exact ⟨b, o, cs, ha, h2, Nat.lt_of_lt_of_le hb hs, hR _ _ hr, hl, h1, fun j v hv => (World.cell?_of_block (w := w) h3).trans (hc j v hv)⟩
theorem Own.blockLt {base : Nat} {e : TypeId} {w : World} {α : Type} {sz : Nat} {R : List Value → α → Prop} {a : Option Addr} {c : Nat} {xs : List α} (h : Own base e w sz R a c xs) : ∀ k, a.map (·.block) = some k → base ≤ k ∧ k < w.heap.size := by
  obtain ⟨css, _, _, _, h4⟩ := h
  intro k hk
  exact h4.lt k (by cases a <;> simp at hk; subst hk; rfl)
theorem SlR.ofBlk {w : World} {α : Type} {sz : Nat} {R : List Value → α → Prop} {g : Nat} {T : TypeId} {cs : List Value} {x : α} (h : w.heap[g]? = some (.cells cs.toArray T (0, 0))) (hR : R cs x) (hl : cs.length = sz) (h1 : cs.all Value.oneCell' = true) {ok : Nat → Prop} (ho : ok g) :
    SlR ok w sz R (some ⟨g, 0, none⟩) 1 [x] := by
  refine ⟨Nat.le_refl _, by simp [maxLen], by simp, fun i y hy => ?_⟩
  have hi : i = 0 := by
    have := (List.getElem?_eq_some_iff.1 hy).1
    simp at this; exact this
  subst hi
  simp at hy
  subst hy
  refine ⟨_, _, cs, rfl, ho, (Array.getElem?_eq_some_iff.1 h).1, hR, hl, by simpa using h1, fun j v hv => ?_⟩
  rw [cell_of_row w g _ cs.toArray T (0, 0) h]
  simpa using hv
theorem St.below2 {M : List Nat} {a w0 w : World} {own0 own : Blks} (h0 : St M a w0 own0) (h : St (own0.map (·.1)) w0 w own) (hsub : ∀ x ∈ own0, x ∈ own) : Below w0.heap.size w0 w := by
  refine ⟨h.os, h.tape, h.output, h.size, fun b hb => ?_⟩
  by_cases hm : b ∈ own0.map (·.1)
  · obtain ⟨x, hx, rfl⟩ := List.mem_map.1 hm
    rw [h.blk x (hsub x hx), h0.blk x hx]
  · exact h.frame b hb hm
open Go.RowKit
section
variable {P : Program} {w0 w : World} {M : List Nat} {own : Blks} {ops : Array Oper} {rest : List Oper} {o : Oper} {A : Act} {Q : Exit → Act → World → Prop}
theorem mem_box (st : St M w0 w own) (hgd : Region.wanted o (yielded ops A.tmps) = true) (T : TypeId) (x : Operand) (ho : o.op = .box T x) (v : Value) (hx : A.eval x = v) (cs : List Value) (hcs : v.cells.toList = cs)
    (h : ∀ g w', w0.heap.size ≤ g → St M w0 w' (own ++ [(g, T, cs)]) → Below w.heap.size w w' → wpList P ops Q rest (A.put o.dst (.pointer (some ⟨g, 0, none⟩))) w') : wpList P ops Q (o :: rest) A w := by
  subst hcs
  refine wpList_wanted hgd fun K hK' => ?_
  have hs := st.new T v.cells.toList
  simp only [Array.toArray_toList] at hs
  unfold Oper.wp
  simp only [execOp, ho, hx, Instr.box, newVar, newRow, newObj]
  exact hK' _ _ (h w.heap.size _ st.size hs ((Below.refl _ _).alloc (Nat.le_refl _) _))
theorem mem_alloc (st : St M w0 w own) (hgd : Region.wanted o (yielded ops A.tmps) = true) (T : TypeId) (ho : o.op = .alloc T) (z : Value) (hz : ∀ w, (zeroValue T).run P w = .ok z w) (cs : List Value) (hcs : z.cells.toList = cs)
    (h : ∀ g w', w0.heap.size ≤ g → St M w0 w' (own ++ [(g, T, cs)]) → Below w.heap.size w w' → wpList P ops Q rest (A.put o.dst (.pointer (some ⟨g, 0, none⟩))) w') : wpList P ops Q (o :: rest) A w := by
  subst hcs
  refine wpList_wanted hgd fun K hK' => ?_
  have hs := st.new T z.cells.toList
  simp only [Array.toArray_toList] at hs
  unfold Oper.wp
  simp only [execOp, ho, Instr.alloc, Sem.run_bind, hz, Result.andThen_ok, newVar, newRow, newObj]
  exact hK' _ _ (h w.heap.size _ st.size hs ((Below.refl _ _).alloc (Nat.le_refl _) _))
theorem St.cell (st : St M w0 w own) {i g : Nat} {T : TypeId} {cs : List Value} (hi : own[i]? = some (g, T, cs)) (j : Nat) : w.cell? ⟨g, j, none⟩ = cs[j]? := by
  rw [cell_of_row w g j cs.toArray T (0, 0) (st.blk _ (List.mem_of_getElem? hi))]
  simp
theorem St.free (st : St M w0 w own) {i g : Nat} {T : TypeId} {cs : List Value} (hi : own[i]? = some (g, T, cs)) (j : Nat) : w.frozen? ⟨g, j, none⟩ = false :=
  frozen_of_row w g j cs.toArray T (st.blk _ (List.mem_of_getElem? hi))
theorem add_plain (g o i : Nat) : (⟨g, o, none⟩ : Addr).add i = ⟨g, o + i, none⟩ := by unfold Addr.add; split <;> simp_all
theorem mem_load (st : St M w0 w own) (hgd : Region.wanted o (yielded ops A.tmps) = true) (T : TypeId) (x : Operand) (ho : o.op = .load T x) (g off : Nat) (hx : A.eval x = .pointer (some ⟨g, off, none⟩)) (hagg : ∀ w, (isAgg T).run P w = .ok false w)
    (i : Nat) (T' : TypeId) (cs : List Value) (hi : own[i]? = some (g, T', cs)) (v : Value) (hv : cs[off]? = some v)
    (h : wpList P ops Q rest (A.put o.dst v) w) : wpList P ops Q (o :: rest) A w := by
  refine wpList_wanted hgd fun K hK' => ?_
  have hc := (st.cell hi off).trans hv
  unfold Oper.wp
  simp only [execOp, ho, hx, Instr.loadAt, Instr.sureAddr, loadVar, Sem.run_bind, Sem.run_pure, Result.andThen_ok, hagg]
  simp [load, Sem.run, hc, Result.andThen]
  exact hK' _ _ h
theorem mem_load_agg (st : St M w0 w own) (hgd : Region.wanted o (yielded ops A.tmps) = true) (T : TypeId) (x : Operand) (ho : o.op = .load T x) (g off : Nat) (hx : A.eval x = .pointer (some ⟨g, off, none⟩)) (hagg : ∀ w, (isAgg T).run P w = .ok true w)
    (n : Nat) (hsz : ∀ w, (sizeOf T).run P w = .ok n w) (i : Nat) (T' : TypeId) (cs : List Value) (hi : own[i]? = some (g, T', cs)) (vs : List Value) (hv : (cs.drop off).take n = vs) (hl : vs.length = n)
    (h : wpList P ops Q rest (A.put o.dst (.agg vs.toArray)) w) : wpList P ops Q (o :: rest) A w := by
  refine wpList_wanted hgd fun K hK' => ?_
  have hl' : (loadCells ⟨g, off, none⟩ vs.length).run P w = .ok vs.toArray w := run_loadCells_list (P := P) w ⟨g, off, none⟩ vs (fun j v hj => by
    rw [add_plain, st.cell hi]
    subst hv
    have hjn : j < n := by have := (List.getElem?_eq_some_iff.1 hj).1; omega
    rw [List.getElem?_take_of_lt hjn, List.getElem?_drop] at hj
    exact hj)
  rw [hl] at hl'
  unfold Oper.wp
  simp only [execOp, ho, hx, Instr.loadAt, Instr.sureAddr, loadVar, Sem.run_bind, Sem.run_pure, Result.andThen_ok, hagg, hsz, if_true, hl']
  exact hK' _ _ h
theorem mem_store (st : St M w0 w own) (hgd : Region.wanted o (yielded ops A.tmps) = true) (T : TypeId) (x y : Operand) (ho : o.op = .store T x y) (g off : Nat) (hx : A.eval x = .pointer (some ⟨g, off, none⟩))
    (v : Value) (hy : A.eval y = v) (vs : List Value) (hvs : v.cells.toList = vs) (hsz : ∀ w, (sizeOf T).run P w = .ok vs.length w) (h1 : ∀ u ∈ vs, u.oneCell' = true)
    (i : Nat) (T' : TypeId) (cs : List Value) (hi : own[i]? = some (g, T', cs)) (hl : off + vs.length ≤ cs.length)
    (h : ∀ w', St M w0 w' (own.set i (g, T', putL cs off vs)) → (∀ b, b ≠ g → w'.heap[b]? = w.heap[b]?) → w'.heap.size = w.heap.size → wpList P ops Q rest (A.put o.dst undef) w') : wpList P ops Q (o :: rest) A w := by
  refine wpList_wanted hgd fun K hK' => ?_
  have hst : (storeCells ⟨g, off, none⟩ vs 0).run P w = .ok () (w.setCells g off vs) := run_storeCells_cells (P := P) g off vs 0 w
    (fun j hj => by rw [Nat.add_zero, st.cell hi]; rw [List.getElem?_eq_getElem (by omega)]; rfl) (fun j hj => by rw [Nat.add_zero]; exact st.free hi _) h1
  obtain ⟨a1, a2, a3, a4, a5, a6⟩ := setCells_block (w := w) vs off cs (st.blk _ (List.mem_of_getElem? hi))
  have hs' := st.put hi a1 a2 a3 a4 a5 a6
  have hcs : v.cells.size = vs.length := by rw [← hvs]; simp
  unfold Oper.wp
  simp only [execOp, ho, hx, hy, Instr.storeAt, Instr.sureAddr, storeVar, Sem.run_bind, Sem.run_pure, Result.andThen_ok, hsz, hcs, hvs, ne_eq, not_true, if_false, hst]
  exact hK' _ _ (h _ hs' a2 a3)
/-! ### The same, for the arms of a walk: what is found by looking stands behind one existential -/
theorem mem_load' (st : St M w0 w own) (T : TypeId) (x : Operand) (ho : o.op = .load T x) (hgd : Region.wanted o (yielded ops A.tmps) = true) (hagg : ∀ w, (isAgg T).run P w = .ok false w)
    (h : ∃ (i g off : Nat) (T' : TypeId) (cs : List Value) (v : Value), A.eval x = .pointer (some ⟨g, off, none⟩) ∧ own[i]? = some (g, T', cs) ∧ cs[off]? = some v ∧ wpList P ops Q rest (A.put o.dst v) w) : wpList P ops Q (o :: rest) A w := by
  obtain ⟨i, g, off, T', cs, v, hx, hi, hv, h⟩ := h
  exact mem_load st hgd T x ho g off hx hagg i T' cs hi v hv h
theorem mem_load_agg' (st : St M w0 w own) (T : TypeId) (x : Operand) (ho : o.op = .load T x) (hgd : Region.wanted o (yielded ops A.tmps) = true) (hagg : ∀ w, (isAgg T).run P w = .ok true w) (n : Nat) (hsz : ∀ w, (sizeOf T).run P w = .ok n w)
    (h : ∃ (i g off : Nat) (T' : TypeId) (cs vs : List Value), A.eval x = .pointer (some ⟨g, off, none⟩) ∧ own[i]? = some (g, T', cs) ∧ (cs.drop off).take n = vs ∧ vs.length = n ∧ wpList P ops Q rest (A.put o.dst (.agg vs.toArray)) w) : wpList P ops Q (o :: rest) A w := by
  obtain ⟨i, g, off, T', cs, vs, hx, hi, hv, hl, h⟩ := h
  exact mem_load_agg st hgd T x ho g off hx hagg n hsz i T' cs hi vs hv hl h
theorem mem_store' (st : St M w0 w own) (T : TypeId) (x y : Operand) (ho : o.op = .store T x y) (hgd : Region.wanted o (yielded ops A.tmps) = true) (n : Nat) (hsz : ∀ w, (sizeOf T).run P w = .ok n w)
    (h : ∃ (i g off : Nat) (T' : TypeId) (cs vs : List Value), A.eval x = .pointer (some ⟨g, off, none⟩) ∧ own[i]? = some (g, T', cs) ∧ (A.eval y).cells.toList = vs ∧ vs.length = n ∧ vs.all Value.oneCell' = true ∧ Nat.ble (off + vs.length) cs.length = true ∧
      ∀ w', St M w0 w' (own.set i (g, T', putL cs off vs)) → (∀ b, b ≠ g → w'.heap[b]? = w.heap[b]?) → w'.heap.size = w.heap.size → wpList P ops Q rest (A.put o.dst undef) w') : wpList P ops Q (o :: rest) A w := by
  obtain ⟨i, g, off, T', cs, vs, hx, hi, hv, hl, h1, hle, h⟩ := h
  exact mem_store st hgd T x y ho g off hx _ rfl vs hv (by rw [hl]; exact hsz) (by simpa using h1) i T' cs hi (Nat.le_of_ble_eq_true hle) h
/-! The same with the guard found by looking. -/
theorem memL (st : St M w0 w own) (T : TypeId) (x : Operand) (ho : o.op = .load T x) (hagg : ∀ w, (isAgg T).run P w = .ok false w)
    (h : ∃ (i g off : Nat) (T' : TypeId) (cs : List Value) (v : Value), A.eval x = .pointer (some ⟨g, off, none⟩) ∧ own[i]? = some (g, T', cs) ∧ cs[off]? = some v ∧ wpList P ops Q rest (A.put o.dst v) w)
    (hgd : Region.wanted o (yielded ops A.tmps) = true := by first | exact wanted_none rfl | exact wanted_some rfl (by simp [yielded, Act.put])) : wpList P ops Q (o :: rest) A w := mem_load' st T x ho hgd hagg h
theorem memA (st : St M w0 w own) (T : TypeId) (x : Operand) (ho : o.op = .load T x) (hagg : ∀ w, (isAgg T).run P w = .ok true w) (n : Nat) (hsz : ∀ w, (sizeOf T).run P w = .ok n w)
    (h : ∃ (i g off : Nat) (T' : TypeId) (cs vs : List Value), A.eval x = .pointer (some ⟨g, off, none⟩) ∧ own[i]? = some (g, T', cs) ∧ (cs.drop off).take n = vs ∧ vs.length = n ∧ wpList P ops Q rest (A.put o.dst (.agg vs.toArray)) w)
    (hgd : Region.wanted o (yielded ops A.tmps) = true := by first | exact wanted_none rfl | exact wanted_some rfl (by simp [yielded, Act.put])) : wpList P ops Q (o :: rest) A w := mem_load_agg' st T x ho hgd hagg n hsz h
theorem memS (st : St M w0 w own) (T : TypeId) (x y : Operand) (ho : o.op = .store T x y) (n : Nat) (hsz : ∀ w, (sizeOf T).run P w = .ok n w)
    (h : ∃ (i g off : Nat) (T' : TypeId) (cs vs : List Value), A.eval x = .pointer (some ⟨g, off, none⟩) ∧ own[i]? = some (g, T', cs) ∧ (A.eval y).cells.toList = vs ∧ vs.length = n ∧ vs.all Value.oneCell' = true ∧ Nat.ble (off + vs.length) cs.length = true ∧
      ∀ w', St M w0 w' (own.set i (g, T', putL cs off vs)) → (∀ b, b ≠ g → w'.heap[b]? = w.heap[b]?) → w'.heap.size = w.heap.size → wpList P ops Q rest (A.put o.dst undef) w')
    (hgd : Region.wanted o (yielded ops A.tmps) = true := by first | exact wanted_none rfl | exact wanted_some rfl (by simp [yielded, Act.put])) : wpList P ops Q (o :: rest) A w := mem_store' st T x y ho hgd n hsz h
/-! The same; the block is found by looking. -/

theorem Blks.at0 {x : Nat × TypeId × List Value} {l : Blks} : (x :: l)[0]? = some x := rfl
theorem Blks.at1 {y0 x : Nat × TypeId × List Value} {l : Blks} : (y0 :: x :: l)[1]? = some x := rfl
theorem Blks.at2 {y0 y1 x : Nat × TypeId × List Value} {l : Blks} : (y0 :: y1 :: x :: l)[2]? = some x := rfl
theorem Blks.at3 {y0 y1 y2 x : Nat × TypeId × List Value} {l : Blks} : (y0 :: y1 :: y2 :: x :: l)[3]? = some x := rfl
theorem Blks.at4 {y0 y1 y2 y3 x : Nat × TypeId × List Value} {l : Blks} : (y0 :: y1 :: y2 :: y3 :: x :: l)[4]? = some x := rfl
theorem Blks.at5 {y0 y1 y2 y3 y4 x : Nat × TypeId × List Value} {l : Blks} : (y0 :: y1 :: y2 :: y3 :: y4 :: x :: l)[5]? = some x := rfl
theorem Blks.at6 {y0 y1 y2 y3 y4 y5 x : Nat × TypeId × List Value} {l : Blks} : (y0 :: y1 :: y2 :: y3 :: y4 :: y5 :: x :: l)[6]? = some x := rfl
theorem Blks.at7 {y0 y1 y2 y3 y4 y5 y6 x : Nat × TypeId × List Value} {l : Blks} : (y0 :: y1 :: y2 :: y3 :: y4 :: y5 :: y6 :: x :: l)[7]? = some x := rfl

theorem memX (st : St M w0 w own) (T : TypeId) (x : Operand) (ho : o.op = .load T x) (hagg : ∀ w, (isAgg T).run P w = .ok false w) {g off i : Nat} {T' : TypeId} {cs : List Value} {v : Value} (hx : A.eval x = .pointer (some ⟨g, off, none⟩)) (h : wpList P ops Q rest (A.put o.dst v) w)
    (hi : own[i]? = some (g, T', cs) := by first | exact Blks.at0 | exact Blks.at1 | exact Blks.at2 | exact Blks.at3 | exact Blks.at4 | exact Blks.at5 | exact Blks.at6 | exact Blks.at7)
    (hv : cs[off]? = some v := by with_unfolding_all exact rfl) (hgd : Region.wanted o (yielded ops A.tmps) = true := by first | exact wanted_none rfl | exact wanted_some rfl (by simp [yielded, Act.put])) : wpList P ops Q (o :: rest) A w := mem_load' st T x ho hgd hagg ⟨i, g, off, T', cs, v, hx, hi, hv, h⟩

theorem memXA (st : St M w0 w own) (T : TypeId) (x : Operand) (ho : o.op = .load T x) (hagg : ∀ w, (isAgg T).run P w = .ok true w) (n : Nat) (hsz : ∀ w, (sizeOf T).run P w = .ok n w) {g off i : Nat} {T' : TypeId} {cs vs : List Value} (hx : A.eval x = .pointer (some ⟨g, off, none⟩)) (h : wpList P ops Q rest (A.put o.dst (.agg vs.toArray)) w)
    (hi : own[i]? = some (g, T', cs) := by first | exact Blks.at0 | exact Blks.at1 | exact Blks.at2 | exact Blks.at3 | exact Blks.at4 | exact Blks.at5 | exact Blks.at6 | exact Blks.at7)
    (hv : (cs.drop off).take n = vs := by with_unfolding_all exact rfl) (hl : vs.length = n := by with_unfolding_all exact rfl) (hgd : Region.wanted o (yielded ops A.tmps) = true := by first | exact wanted_none rfl | exact wanted_some rfl (by simp [yielded, Act.put])) : wpList P ops Q (o :: rest) A w := mem_load_agg' st T x ho hgd hagg n hsz ⟨i, g, off, T', cs, vs, hx, hi, hv, hl, h⟩

theorem memXS (st : St M w0 w own) (T : TypeId) (x y : Operand) (ho : o.op = .store T x y) (n : Nat) (hsz : ∀ w, (sizeOf T).run P w = .ok n w) {g off i : Nat} {T' : TypeId} {cs vs : List Value} (hx : A.eval x = .pointer (some ⟨g, off, none⟩)) (hv : (A.eval y).cells.toList = vs)
    (h : ∀ w', St M w0 w' (own.set i (g, T', putL cs off vs)) → (∀ b, b ≠ g → w'.heap[b]? = w.heap[b]?) → w'.heap.size = w.heap.size → wpList P ops Q rest (A.put o.dst undef) w')
    (hi : own[i]? = some (g, T', cs) := by first | exact Blks.at0 | exact Blks.at1 | exact Blks.at2 | exact Blks.at3 | exact Blks.at4 | exact Blks.at5 | exact Blks.at6 | exact Blks.at7)
    (hl : vs.length = n := by with_unfolding_all exact rfl) (h1 : vs.all Value.oneCell' = true := by with_unfolding_all exact rfl) (hle : Nat.ble (off + vs.length) cs.length = true := by with_unfolding_all exact rfl) (hgd : Region.wanted o (yielded ops A.tmps) = true := by first | exact wanted_none rfl | exact wanted_some rfl (by simp [yielded, Act.put])) : wpList P ops Q (o :: rest) A w := mem_store' st T x y ho hgd n hsz ⟨i, g, off, T', cs, vs, hx, hi, hv, hl, h1, hle, h⟩
end
end Go.Proofs.Ytflfjpopfapogaa
