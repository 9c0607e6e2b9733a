/- Memory of a call's own, block by block: one fact for all of them, and what new blocks, loads and stores make of it. No program is in sight. -/
import Derived.Test.YtbngblmdcggfdaaLib
import Derived.Laws.IdiomCopy
import Derived.Laws.Rows
set_option linter.unusedSimpArgs false
set_option linter.unusedVariables false
namespace Go.Proofs.Ytbngblmdcggfdaa
open Go.RowKit

theorem wpList_wanted {P : Program} {w : World} {ops : Array Oper} {rest : List Oper} {o : Oper} {A : Act} {Q : Exit → Act → World → Prop} (hg : Region.wanted o (yielded ops A.tmps) = true)
    (h : ∀ K : Act → World → Prop, (∀ a w, wpList P ops Q rest a w → K a w) → o.wp P A w K Q) : wpList P ops Q (o :: rest) A w :=
  wpList_step fun K hK => by simp only [hg, if_true]; exact h K hK

theorem wanted_none {o : Oper} {y : Nat → Option Bool} (h : o.guard = none) : Region.wanted o y = true := by simp [Region.wanted, h]
theorem wanted_some {o : Oper} {y : Nat → Option Bool} {g : Nat} {b : Bool} (h : o.guard = some (g, b)) (hy : y g = some b) : Region.wanted o y = true := by simp [Region.wanted, h, hy]

abbrev Blks := List (Nat × TypeId × List Value)

/-- The world w, which began as w0: of what was there only the blocks in M may have turned; 'own' are blocks of the call's own (or of M), each as it stands. -/
structure St (M : List Nat) (w0 w : World) (own : Blks) : Prop where
  os : w.os = w0.os
  tape : w.tape = w0.tape
  output : w.output = w0.output
  size : w0.heap.size ≤ w.heap.size
  frame : ∀ b, b < w0.heap.size → b ∉ M → w.heap[b]? = w0.heap[b]?
  blk : ∀ x ∈ own, w.heap[x.1]? = some (.cells x.2.2.toArray x.2.1 (0, 0))
  mine : ∀ x ∈ own, x.1 ∈ M ∨ w0.heap.size ≤ x.1
  ne : own.Pairwise (fun x y => x.1 ≠ y.1)

theorem St.start (w : World) : St [] w w [] := ⟨rfl, rfl, rfl, Nat.le_refl _, fun _ _ _ => rfl, by simp, by simp, by simp⟩

theorem St.below {w0 w : World} {own : Blks} (h : St [] w0 w own) : Below w0.heap.size w0 w := ⟨h.os, h.tape, h.output, h.size, fun k hk => h.frame k hk (by simp)⟩

theorem St.lt {M : List Nat} {w0 w : World} {own : Blks} (h : St M w0 w own) {x : Nat × TypeId × List Value} (hx : x ∈ own) : x.1 < w.heap.size := (Array.getElem?_eq_some_iff.1 (h.blk x hx)).1

theorem St.ltAt {M : List Nat} {w0 w : World} {own : Blks} (h : St M w0 w own) {i g : Nat} {T : TypeId} {cs : List Value} (hi : own[i]? = some (g, T, cs)) : g < w.heap.size := h.lt (List.mem_of_getElem? hi)

/-- A call (or whatever leaves old memory as it was). -/
theorem St.call {M : List Nat} {w0 w w' : World} {own : Blks} (h : St M w0 w own) (hb : Below w.heap.size w w') : St M w0 w' own :=
  ⟨hb.os.trans h.os, hb.tape.trans h.tape, hb.output.trans h.output, Nat.le_trans h.size hb.size, fun b hb' hM => (hb.block b (Nat.lt_of_lt_of_le hb' h.size)).trans (h.frame b hb' hM),
    fun x hx => (hb.block x.1 (h.lt hx)).trans (h.blk x hx), h.mine, h.ne⟩

theorem St.drewN {M : List Nat} {w0 w : World} {own : Blks} (h : St M w0 w own) (n : Nat) : St M w0 (w.drewN n) own := h.call ((Below.refl _ _).drewN n)
theorem St.drew {M : List Nat} {w0 w : World} {own : Blks} (h : St M w0 w own) : St M w0 w.drew own := h.call (Below.refl _ _).drew

theorem St.new {M : List Nat} {w0 w : World} {own : Blks} (h : St M w0 w own) (T : TypeId) (cs : List Value) : St M w0 (w.alloc (.cells cs.toArray T)) (own ++ [(w.heap.size, T, cs)]) := by
  have hc := h.call ((Below.refl w.heap.size w).alloc (Nat.le_refl _) (.cells cs.toArray T))
  refine ⟨hc.os, hc.tape, hc.output, hc.size, hc.frame, ?_, ?_, ?_⟩
  · intro x hx
    rcases List.mem_append.1 hx with hx | hx
    · exact hc.blk x hx
    · simp at hx; subst hx; exact heap_alloc_new w _
  · intro x hx
    rcases List.mem_append.1 hx with hx | hx
    · exact h.mine x hx
    · simp at hx; subst hx; exact .inr h.size
  · refine List.pairwise_append.2 ⟨h.ne, by simp, fun x hx y hy => ?_⟩
    simp at hy; subst hy
    have := h.lt hx
    exact Nat.ne_of_lt this

/-- The cells with others laid over them from a place on. -/
def putL : List Value → Nat → List Value → List Value
  | [], _, _ => []
  | c :: cs, 0, [] => c :: cs
  | _ :: cs, 0, v :: vs => v :: putL cs 0 vs
  | c :: cs, o + 1, vs => c :: putL cs o vs

theorem putL_length (cs : List Value) (o : Nat) (vs : List Value) : (putL cs o vs).length = cs.length := by
  induction cs generalizing o vs with
  | nil => simp [putL]
  | cons c cs ih =>
    cases o with
    | zero => cases vs with
      | nil => simp [putL]
      | cons v vs => simp [putL, ih]
    | succ o => simp [putL, ih]

theorem putL_cons (cs : List Value) (o : Nat) (v : Value) (vs : List Value) : putL cs o (v :: vs) = putL (cs.set o v) (o + 1) vs := by
  induction cs generalizing o with
  | nil => simp [putL]
  | cons c cs ih =>
    cases o with
    | zero => simp [putL]
    | succ o => simp only [putL, List.set_cons_succ]; rw [ih]

theorem putL_nil (cs : List Value) (o : Nat) : putL cs o [] = cs := by
  induction cs generalizing o with
  | nil => simp [putL]
  | cons c cs ih => cases o <;> simp [putL, ih]

/-- A row written over: block g alone turns. -/
theorem setCells_block {w : World} {g : Nat} {T : TypeId} : ∀ (vs : List Value) (o : Nat) (cs : List Value), w.heap[g]? = some (.cells cs.toArray T (0, 0)) →
    (w.setCells g o vs).heap[g]? = some (.cells (putL cs o vs).toArray T (0, 0)) ∧ (∀ b, b ≠ g → (w.setCells g o vs).heap[b]? = w.heap[b]?) ∧ (w.setCells g o vs).heap.size = w.heap.size ∧
      (w.setCells g o vs).os = w.os ∧ (w.setCells g o vs).tape = w.tape ∧ (w.setCells g o vs).output = w.output := by
  intro vs
  induction vs generalizing w with
  | nil => intro o cs h; rw [putL_nil]; exact ⟨h, fun _ _ => rfl, rfl, rfl, rfl, rfl⟩
  | cons v vs ih =>
    intro o cs h
    have h1 := heap_setCell_same w g o cs.toArray T v h
    have h1' : (w.setCell ⟨g, o, none⟩ v).heap[g]? = some (.cells (cs.set o v).toArray T (0, 0)) := by rw [h1]; simp
    obtain ⟨a1, a2, a3, a4, a5, a6⟩ := ih (w := w.setCell ⟨g, o, none⟩ v) (o + 1) (cs.set o v) h1'
    rw [putL_cons]
    refine ⟨a1, fun b hb => (a2 b hb).trans (heap_setCell_other w ⟨g, o, none⟩ b v hb), a3.trans (by simp [World.setCell]), a4, a5, a6⟩

theorem St.put {M : List Nat} {w0 w w' : World} {own : Blks} (h : St M w0 w own) {i g : Nat} {T : TypeId} {cs cs' : List Value} (hi : own[i]? = some (g, T, cs))
    (h1 : w'.heap[g]? = some (.cells cs'.toArray T (0, 0))) (h2 : ∀ b, b ≠ g → w'.heap[b]? = w.heap[b]?) (h3 : w'.heap.size = w.heap.size) (h4 : w'.os = w.os) (h5 : w'.tape = w.tape) (h6 : w'.output = w.output) :
    St M w0 w' (own.set i (g, T, cs')) := by
  have hin : (g, T, cs) ∈ own := List.mem_of_getElem? hi
  have hilt : i < own.length := (List.getElem?_eq_some_iff.1 hi).1
  have hget : own[i] = (g, T, cs) := (List.getElem?_eq_some_iff.1 hi).2
  have hids : (own.set i (g, T, cs')).map (·.1) = own.map (·.1) := by
    apply List.ext_getElem?
    intro j
    simp only [List.getElem?_map, List.getElem?_set]
    by_cases hj : i = j
    · subst hj; simp [hilt, hget]
    · simp [hj]
  refine ⟨h4.trans h.os, h5.trans h.tape, h6.trans h.output, by rw [h3]; exact h.size, ?_, ?_, ?_, ?_⟩
  · intro b hb hM
    have hbg : b ≠ g := by
      rintro rfl
      rcases h.mine _ hin with hm | hm
      · exact hM hm
      · simp at hm; omega
    rw [h2 b hbg]; exact h.frame b hb hM
  · intro x hx
    obtain ⟨j, hj⟩ := List.mem_iff_getElem?.1 hx
    rw [List.getElem?_set] at hj
    by_cases hij : i = j
    · subst hij; simp [hilt] at hj; subst hj; exact h1
    · rw [if_neg hij] at hj
      have hxin := List.mem_of_getElem? hj
      have hne : x.1 ≠ g := by
        have hp := List.pairwise_iff_getElem.1 h.ne
        have hjl := (List.getElem?_eq_some_iff.1 hj).1
        have hjx := (List.getElem?_eq_some_iff.1 hj).2
        rcases Nat.lt_or_gt_of_ne hij with hlt | hlt
        · have := hp i j hilt hjl hlt; rw [hget, hjx] at this; exact fun e => this e.symm
        · have := hp j i hjl hilt hlt; rw [hget, hjx] at this; exact this
      rw [h2 _ hne]; exact h.blk x hxin
  · intro x hx
    have : x.1 ∈ (own.set i (g, T, cs')).map (·.1) := List.mem_map.2 ⟨x, hx, rfl⟩
    rw [hids] at this
    obtain ⟨y, hy, e⟩ := List.mem_map.1 this
    rw [← e]; exact h.mine y hy
  · have : ((own.set i (g, T, cs')).map (·.1)).Pairwise (· ≠ ·) := by rw [hids]; exact List.pairwise_map.2 h.ne
    exact List.pairwise_map.1 this

theorem St.setCell {M : List Nat} {w0 w : World} {own : Blks} (h : St M w0 w own) {i g : Nat} {T : TypeId} {cs : List Value} (hi : own[i]? = some (g, T, cs)) (j : Nat) (v : Value) : St M w0 (w.setCell ⟨g, j, none⟩ v) (own.set i (g, T, cs.set j v)) := by
  have h1 := heap_setCell_same w g j cs.toArray T v (h.blk _ (List.mem_of_getElem? hi))
  have h1' : (w.setCell ⟨g, j, none⟩ v).heap[g]? = some (.cells (cs.set j v).toArray T (0, 0)) := by rw [h1]; simp
  exact h.put hi h1' (fun b hb => heap_setCell_other w ⟨g, j, none⟩ b v hb) (by simp [World.setCell]) rfl rfl rfl

/-- From here on: only the blocks at hand may turn. -/
theorem St.rebase {M : List Nat} {w0 w : World} {own : Blks} (h : St M w0 w own) : St (own.map (·.1)) w w own :=
  ⟨rfl, rfl, rfl, Nat.le_refl _, fun _ _ _ => rfl, h.blk, fun x hx => .inl (List.mem_map.2 ⟨x, hx, rfl⟩), h.ne⟩

theorem St.keeps {M : List Nat} {w0 w : World} {own : Blks} (h : St M w0 w own) {ok : Nat → Prop} (hM : ∀ g ∈ M, ¬ ok g) : Keeps ok w0 w := ⟨h.size, fun b hb ho => h.frame b hb fun hm => hM b hm ho⟩

theorem St.belowB {M : List Nat} {w0 w : World} {own : Blks} (h : St M w0 w own) {B : Nat} (hB : B ≤ w0.heap.size) (hM : ∀ g ∈ M, B ≤ g) : Below B w0 w :=
  ⟨h.os, h.tape, h.output, h.size, fun b hb => h.frame b (Nat.lt_of_lt_of_le hb hB) fun hm => by have := hM b hm; omega⟩

theorem SlR.okay {ok ok' : Nat → Prop} {w : World} {α : Type} {sz : Nat} {R : List Value → α → Prop} {a : Option Addr} {c : Nat} {xs : List α} (h : SlR ok w sz R a c xs) (hok : ∀ b, ok b → ok' b) : SlR ok' w sz R a c xs := by
  refine ⟨h.1, h.2.1, h.2.2.1, fun i x hx => ?_⟩
  obtain ⟨b, o, cs, ha, ho, r⟩ := h.2.2.2 i x hx
  exact ⟨b, o, cs, ha, hok _ ho, r⟩

theorem SlR.okayR {ok ok' : Nat → Prop} {w : World} {α : Type} {sz : Nat} {R R' : List Value → α → Prop} {a : Option Addr} {c : Nat} {xs : List α} (h : SlR ok w sz R a c xs) (hok : ∀ b, ok b → ok' b) (hR : ∀ cs x, R cs x → R' cs x) : SlR ok' w sz R' a c xs := by
  refine ⟨h.1, h.2.1, h.2.2.1, fun i x hx => ?_⟩
  obtain ⟨b, o, cs, ha, ho, hb, hr, r⟩ := h.2.2.2 i x hx
  exact ⟨b, o, cs, ha, hok _ ho, hb, hR _ _ hr, r⟩

theorem St.ofBelow {w0 w : World} (h : Below w0.heap.size w0 w) : St [] w0 w [] := (St.start w0).call h

/-- What a slice lies in stays as it is, and is let by the new bounds. -/
theorem SlR.move {ok ok' : Nat → Prop} {w w' : World} {α : Type} {sz : Nat} {R R' : List Value → α → Prop} {a : Option Addr} {c : Nat} {xs : List α} (h : SlR ok w sz R a c xs) (hs : w.heap.size ≤ w'.heap.size) (hk : ∀ b, b < w.heap.size → ok b → ok' b ∧ w'.heap[b]? = w.heap[b]?)
    (hR : ∀ cs x, R cs x → R' cs x) : SlR ok' w' sz R' a c xs := by
  refine ⟨h.1, h.2.1, h.2.2.1, fun i x hx => ?_⟩
  obtain ⟨b, o, cs, ha, ho, hb, hr, hl, h1, hc⟩ := h.2.2.2 i x hx
  obtain ⟨h2, h3⟩ := hk b hb ho
  exact ⟨b, o, cs, ha, h2, Nat.lt_of_lt_of_le hb hs, hR _ _ hr, hl, h1, fun j v hv => (World.cell?_of_block (w := w) h3).trans (hc j v hv)⟩

theorem Own.blockLt {base : Nat} {e : TypeId} {w : World} {α : Type} {sz : Nat} {R : List Value → α → Prop} {a : Option Addr} {c : Nat} {xs : List α} (h : Own base e w sz R a c xs) : ∀ k, a.map (·.block) = some k → base ≤ k ∧ k < w.heap.size := by
  obtain ⟨css, _, _, _, h4⟩ := h
  intro k hk
  exact h4.lt k (by cases a <;> simp at hk; subst hk; rfl)

/-- A block of just one element's cells, as a slice. -/
theorem SlR.ofBlk {w : World} {α : Type} {sz : Nat} {R : List Value → α → Prop} {g : Nat} {T : TypeId} {cs : List Value} {x : α} (h : w.heap[g]? = some (.cells cs.toArray T (0, 0))) (hR : R cs x) (hl : cs.length = sz) (h1 : cs.all Value.oneCell' = true) {ok : Nat → Prop} (ho : ok g) :
    SlR ok w sz R (some ⟨g, 0, none⟩) 1 [x] := by
  refine ⟨Nat.le_refl _, by simp [maxLen], by simp, fun i y hy => ?_⟩
  have hi : i = 0 := by
    have := (List.getElem?_eq_some_iff.1 hy).1
    simp at this; exact this
  subst hi
  simp at hy
  subst hy
  refine ⟨_, _, cs, rfl, ho, (Array.getElem?_eq_some_iff.1 h).1, hR, hl, by simpa using h1, fun j v hv => ?_⟩
  rw [cell_of_row w g _ cs.toArray T (0, 0) h]
  simpa using hv

/-- Whatever lies in the blocks at hand lay there before. -/
theorem St.below2 {M : List Nat} {a w0 w : World} {own0 own : Blks} (h0 : St M a w0 own0) (h : St (own0.map (·.1)) w0 w own) (hsub : ∀ x ∈ own0, x ∈ own) : Below w0.heap.size w0 w := by
  refine ⟨h.os, h.tape, h.output, h.size, fun b hb => ?_⟩
  by_cases hm : b ∈ own0.map (·.1)
  · obtain ⟨x, hx, rfl⟩ := List.mem_map.1 hm
    rw [h.blk x (hsub x hx), h0.blk x hx]
  · exact h.frame b hb hm

end Go.Proofs.Ytbngblmdcggfdaa
