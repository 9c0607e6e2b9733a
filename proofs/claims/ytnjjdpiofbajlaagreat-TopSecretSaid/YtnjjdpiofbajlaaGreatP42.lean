/- Walks and plain laws, part 42. -/
import Derived.Test.YtnjjdpiofbajlaaGreatP35
set_option linter.unusedSimpArgs false
set_option linter.unusedVariables false
set_option maxHeartbeats 16000000
set_option maxRecDepth 100000
namespace Go.Proofs.YtnjjdpiofbajlaaGreat
open Go.RowKit
structure Clu2 (w0 : World) (own : Blks) (Wd : World) (D : Nat → Prop) (ga : Nat) (ka : List Nat) (A : Clu) (gb : Nat) (kb : List Nat) (B : Clu) (W : World) : Prop where
 st : St [] w0 W own
 okA : A.ok
 okB : B.ok
 kept : Keeps D Wd W
 ownD : ∀ x ∈ own, ¬ (D x.1 ∧ x.1 < Wd.heap.size)
 at_ : ∃ oa BA na ca LA ob BB nb cb LB, CluAt oa W ga A ka BA na ca LA ∧ CluAt ob W gb B kb BB nb cb LB ∧
  (∀ b ∈ cluB ga na BA, w0.heap.size ≤ b ∧ (∀ x ∈ own, x.1 ≠ b) ∧ ¬ (D b ∧ b < Wd.heap.size) ∧ b ∉ cluB gb nb BB ∧ ¬ ob b) ∧
  (∀ b ∈ cluB gb nb BB, w0.heap.size ≤ b ∧ (∀ x ∈ own, x.1 ≠ b) ∧ ¬ (D b ∧ b < Wd.heap.size) ∧ b ∉ cluB ga na BA ∧ ¬ oa b) ∧
  (∀ b, oa b → b < W.heap.size ∧ ∀ x ∈ own, x.1 ≠ b) ∧ ∀ b, ob b → b < W.heap.size ∧ ∀ x ∈ own, x.1 ≠ b
section
variable {w0 Wd W : World} {own : Blks} {D : Nat → Prop} {ga gb : Nat} {ka kb : List Nat} {A B : Clu}
theorem Clu2.swap (h : Clu2 w0 own Wd D ga ka A gb kb B W) : Clu2 w0 own Wd D gb kb B ga ka A W := by
 obtain ⟨st, okA, okB, kept, ownD, oa, BA, na, ca, LA, ob, BB, nb, cb, LB, hA, hB, mA, mB, oA, oB⟩ := h
 exact ⟨st, okB, okA, kept, ownD, ob, BB, nb, cb, LB, oa, BA, na, ca, LA, hB, hA, mB, mA, oB, oA⟩
theorem Clu2.fst (h : Clu2 w0 own Wd D ga ka A gb kb B W) : Clus w0 [] own (fun _ => False) Wd D ga ka A W := by
 obtain ⟨st, okA, okB, kept, ownD, oa, BA, na, ca, LA, ob, BB, nb, cb, LB, hA, hB, mA, mB, oA, oB⟩ := h
 exact ⟨st, okA, kept, ownD, fun _ h => h.elim, oa, BA, na, ca, LA, hA, fun b hb => ⟨.inr (mA b hb).1, (mA b hb).2.1, (mA b hb).2.2.1⟩, fun b hb => ⟨(oA b hb).1, (oA b hb).2, fun h => h⟩⟩
theorem Clu2.snd (h : Clu2 w0 own Wd D ga ka A gb kb B W) : Clus w0 [] own (fun _ => False) Wd D gb kb B W := h.swap.fst
theorem Clu2.walk (h : Clu2 w0 own Wd D ga ka A gb kb B W) {V : World} {own2 : Blks} (st : St (own.map (·.1)) W V own2) : Clu2 w0 own2 Wd D ga ka A gb kb B V := by
 obtain ⟨st0, okA, okB, hD, hDo, oa, BA, na, ca, LA, ob, BB, nb, cb, LB, hA, hB, mA, mB, oA, oB⟩ := h
 have hmine : ∀ x ∈ own2, x.1 ∈ own.map (·.1) ∨ W.heap.size ≤ x.1 := st.mine
 have hnot : ∀ b, (∀ x ∈ own, x.1 ≠ b) → b ∉ own.map (·.1) := fun b hb hm => by
  obtain ⟨x, hx, e⟩ := List.mem_map.1 hm
  exact hb x hx e
 have hnot2 : ∀ b, b < W.heap.size → (∀ x ∈ own, x.1 ≠ b) → ∀ x ∈ own2, x.1 ≠ b := fun b hb hn x hx e => by
  rcases hmine x hx with h1 | h1
  ·exact hnot b hn (e ▸ h1)
  ·omega
 refine ⟨St.back st0 st, okA, okB, ⟨Nat.le_trans hD.size st.size, fun b hb hd => (st.frame b (Nat.lt_of_lt_of_le hb hD.size) fun hm => ?_).trans (hD.block b hb hd)⟩, fun x hx hd => ?_, oa, BA, na, ca, LA, ob, BB, nb, cb, LB, ?_, ?_, fun b hb => ?_, fun b hb => ?_, fun b hb => ⟨Nat.lt_of_lt_of_le (oA b hb).1 st.size, hnot2 b (oA b hb).1 (oA b hb).2⟩, fun b hb => ⟨Nat.lt_of_lt_of_le (oB b hb).1 st.size, hnot2 b (oB b hb).1 (oB b hb).2⟩⟩
 ·obtain ⟨x, hx, e⟩ := List.mem_map.1 hm
  subst e
  exact hDo x hx ⟨hd, hb⟩
 ·rcases hmine x hx with h1 | h1
  ·obtain ⟨y, hy, e⟩ := List.mem_map.1 h1
   rw [← e] at hd
   exact hDo y hy hd
  ·have := hD.size; omega
 ·exact hA.move st.size (fun b hb ho => ⟨ho, st.frame b hb (hnot b (oA b ho).2)⟩) fun b hb => ⟨st.frame b (hA.lt b hb) (hnot b (mA b hb).2.1), hA.apart b hb⟩
 ·exact hB.move st.size (fun b hb ho => ⟨ho, st.frame b hb (hnot b (oB b ho).2)⟩) fun b hb => ⟨st.frame b (hB.lt b hb) (hnot b (mB b hb).2.1), hB.apart b hb⟩
 ·exact ⟨(mA b hb).1, hnot2 b (hA.lt b hb) (mA b hb).2.1, (mA b hb).2.2⟩
 ·exact ⟨(mB b hb).1, hnot2 b (hB.lt b hb) (mB b hb).2.1, (mB b hb).2.2⟩
theorem Clu2.below (h : Clu2 w0 own Wd D ga ka A gb kb B W) {V : World} (hb : Below W.heap.size W V) : Clu2 w0 own Wd D ga ka A gb kb B V := h.walk (h.st.rebase.call hb)
theorem Clu2.sub (h : Clu2 w0 own Wd D ga ka A gb kb B W) {own2 : Blks} (hs : ∀ x ∈ own2, x ∈ own) (hn : own2.Pairwise fun x y => x.1 ≠ y.1) : Clu2 w0 own2 Wd D ga ka A gb kb B W := by
 obtain ⟨st0, okA, okB, hD, hDo, oa, BA, na, ca, LA, ob, BB, nb, cb, LB, hA, hB, mA, mB, oA, oB⟩ := h
 exact ⟨st0.sub hs hn, okA, okB, hD, fun x hx => hDo x (hs x hx), oa, BA, na, ca, LA, ob, BB, nb, cb, LB, hA, hB, fun b hb => ⟨(mA b hb).1, fun x hx => (mA b hb).2.1 x (hs x hx), (mA b hb).2.2⟩, fun b hb => ⟨(mB b hb).1, fun x hx => (mB b hb).2.1 x (hs x hx), (mB b hb).2.2⟩, fun b hb => ⟨(oA b hb).1, fun x hx => (oA b hb).2 x (hs x hx)⟩, fun b hb => ⟨(oB b hb).1, fun x hx => (oB b hb).2 x (hs x hx)⟩⟩
theorem Clu2.told (h : Clu2 w0 own Wd D ga ka A gb kb B W) {V : World} {own2 : Blks} (st : St (own.map (·.1)) W V own2) : Clu2 w0 own2 V (fun b => W.heap.size ≤ b ∧ ∀ x ∈ own2, x.1 ≠ b) ga ka A gb kb B V := by
 have hlt : ∀ b, (∃ oa BA na ca LA, CluAt oa W ga A ka BA na ca LA ∧ b ∈ cluB ga na BA) → b < W.heap.size := fun b ⟨oa, BA, na, ca, LA, hA, hb⟩ => hA.lt b hb
 have h2 := h.walk st
 obtain ⟨st0, okA, okB, hD, hDo, oa, BA, na, ca, LA, ob, BB, nb, cb, LB, hA, hB, mA, mB, oA, oB⟩ := h
 have hmine : ∀ x ∈ own2, x.1 ∈ own.map (·.1) ∨ W.heap.size ≤ x.1 := st.mine
 have hnot : ∀ b, (∀ x ∈ own, x.1 ≠ b) → b ∉ own.map (·.1) := fun b hb hm => by
  obtain ⟨x, hx, e⟩ := List.mem_map.1 hm
  exact hb x hx e
 have hnot2 : ∀ b, b < W.heap.size → (∀ x ∈ own, x.1 ≠ b) → ∀ x ∈ own2, x.1 ≠ b := fun b hb hn x hx e => by
  rcases hmine x hx with h1 | h1
  ·exact hnot b hn (e ▸ h1)
  ·omega
 refine ⟨h2.st, okA, okB, ⟨Nat.le_refl _, fun _ _ _ => rfl⟩, fun x hx hd => hd.1.2 x hx rfl, oa, BA, na, ca, LA, ob, BB, nb, cb, LB, ?_, ?_, fun b hb => ?_, fun b hb => ?_, fun b hb => ⟨Nat.lt_of_lt_of_le (oA b hb).1 st.size, hnot2 b (oA b hb).1 (oA b hb).2⟩, fun b hb => ⟨Nat.lt_of_lt_of_le (oB b hb).1 st.size, hnot2 b (oB b hb).1 (oB b hb).2⟩⟩
 ·exact hA.move st.size (fun b hb ho => ⟨ho, st.frame b hb (hnot b (oA b ho).2)⟩) fun b hb => ⟨st.frame b (hA.lt b hb) (hnot b (mA b hb).2.1), hA.apart b hb⟩
 ·exact hB.move st.size (fun b hb ho => ⟨ho, st.frame b hb (hnot b (oB b ho).2)⟩) fun b hb => ⟨st.frame b (hB.lt b hb) (hnot b (mB b hb).2.1), hB.apart b hb⟩
 ·exact ⟨(mA b hb).1, hnot2 b (hA.lt b hb) (mA b hb).2.1, fun hd => by have := hA.lt b hb; have := hd.1.1; omega, (mA b hb).2.2.2⟩
 ·exact ⟨(mB b hb).1, hnot2 b (hB.lt b hb) (mB b hb).2.1, fun hd => by have := hB.lt b hb; have := hd.1.1; omega, (mB b hb).2.2.2⟩
theorem Clu2.enter (h : Clu2 w0 own Wd D ga ka A gb kb B W) : ∃ B0 Y, Clus W B0 [] Y W (fun b => b ∉ B0) ga ka A W ∧ ∀ (A' : Clu) (V : World), Clus W B0 [] Y W (fun b => b ∉ B0) ga ka A' V → Clu2 w0 own Wd D ga ka A' gb kb B V := by
 obtain ⟨st, okA, okB, hD, hDo, oa, BA, na, ca, LA, ob, BB, nb, cb, LB, hA, hB, mA, mB, oA, oB⟩ := h
 refine ⟨cluB ga na BA, fun b => b < W.heap.size ∧ ¬ oa b, ⟨⟨rfl, rfl, rfl, Nat.le_refl _, fun _ _ _ => rfl, by simp, by simp, List.Pairwise.nil⟩, okA, ⟨Nat.le_refl _, fun _ _ _ => rfl⟩, by simp, fun b hb => hb.1, oa, BA, na, ca, LA, hA, fun b hb => ⟨.inl hb, by simp, fun hh => hh.1 hb⟩, fun b hb => ⟨(oA b hb).1, by simp, fun hh => hh.2 hb⟩⟩, fun A' V hP => ?_⟩
 obtain ⟨st', hok', hD', -, -, oa', BA', na', ca', LA', hA', hB', hO'⟩ := hP
 have hin : ∀ b ∈ cluB ga na' BA', b ∈ cluB ga na BA ∨ W.heap.size ≤ b := fun b hb => (hB' b hb).1
 have hown : ∀ x ∈ own, x.1 < W.heap.size := fun x hx => st.lt hx
 refine ⟨st.callK st' (fun x hx hm => (mA _ hm).2.1 x hx rfl) fun b hb => .inr (mA b hb).1, hok', okB, ⟨Nat.le_trans hD.size hD'.size, fun b hb hd => (hD'.block b (Nat.lt_of_lt_of_le hb hD.size) fun hm => (mA b hm).2.2.1 ⟨hd, hb⟩).trans (hD.block b hb hd)⟩, hDo, oa', BA', na', ca', LA', ob, BB, nb, cb, LB, hA', ?_, fun b hb => ?_, fun b hb => ⟨(mB b hb).1, (mB b hb).2.1, (mB b hb).2.2.1, fun hm => ?_, fun ho => ?_⟩, fun b hb => ⟨(hO' b hb).1, fun x hx e => ?_⟩, fun b hb => ⟨Nat.lt_of_lt_of_le (oB b hb).1 hD'.size, (oB b hb).2⟩⟩
 ·exact hB.move hD'.size (fun b hb ho => ⟨ho, hD'.block b hb fun hm => (mA b hm).2.2.2.2 ho⟩) fun b hb => ⟨hD'.block b (hB.lt b hb) (mB b hb).2.2.2.1, hB.apart b hb⟩
 ·rcases hin b hb with h1 | h1
  ·exact mA b h1
  ·refine ⟨Nat.le_trans st.size h1, fun x hx e => ?_, fun hd => ?_, fun hm => ?_, fun ho => ?_⟩
   ·have := hown x hx; omega
   ·have := hD.size; omega
   ·have := hB.lt b hm; omega
   ·have := (oB b ho).1; omega
 ·rcases hin b hm with h1 | h1
  ·exact (mB b hb).2.2.2.1 h1
  ·have := hB.lt b hb; omega
 ·exact (hO' b ho).2.2 ⟨hB.lt b hb, (mB b hb).2.2.2.2⟩
 ·refine (hO' b hb).2.2 ⟨e ▸ hown x hx, fun ho => (oA b ho).2 x hx e⟩
theorem Clus.second {V : World} (P : Clus w0 [] own (fun _ => False) Wd D ga ka A V) (Q : Clus V [] [] (fun b => b < V.heap.size) V (fun _ => True) gb kb B W) : Clu2 w0 own Wd D ga ka A gb kb B W := by
 have P2 := P.below Q.st.below
 have hD2 := P2.kept
 have hDv := P.kept.size
 have hoV : ∀ x ∈ own, x.1 < V.heap.size := fun x hx => P.st.lt hx
 have hwV := P.st.size
 obtain ⟨st1, okA, hD, hDo, -, oa, BA, na, ca, LA, hA, mA, oA⟩ := P
 have stQ := Q.st
 obtain ⟨-, okB, -, -, -, ob, BB, nb, cb, LB, hB, mB, oB⟩ := Q
 have hb : ∀ b ∈ cluB gb nb BB, V.heap.size ≤ b := fun b hb => by
  rcases (mB b hb).1 with h | h
  ·simp at h
  ·exact h
 have ho : ∀ b, ob b → V.heap.size ≤ b := fun b h => Nat.le_of_not_lt (oB b h).2.2
 have hlt : ∀ b ∈ cluB ga na BA, b < V.heap.size := hA.lt
 refine ⟨P2.st, okA, okB, hD2, hDo, oa, BA, na, ca, LA, ob, BB, nb, cb, LB, ?_, hB, fun b h => ⟨?_, (mA b h).2.1, (mA b h).2.2, fun hm => ?_, fun hm => ?_⟩, fun b h => ⟨Nat.le_trans hwV (hb b h), fun x hx e => ?_, fun hd => ?_, fun hm => ?_, fun hm => ?_⟩, fun b h => ⟨Nat.lt_of_lt_of_le (oA b h).1 stQ.size, (oA b h).2.1⟩, fun b h => ⟨(oB b h).1, fun x hx e => ?_⟩⟩
 ·exact hA.move stQ.size (fun b hb' ho' => ⟨ho', stQ.frame b hb' (by simp)⟩) fun b hb' => ⟨stQ.frame b (hA.lt b hb') (by simp), hA.apart b hb'⟩
 ·rcases (mA b h).1 with h1 | h1
  ·simp at h1
  ·exact h1
 ·have := hb b hm; have := hlt b h; omega
 ·have := ho b hm; have := hlt b h; omega
 ·have := hb b h; have := hoV x hx; omega
 ·have := hb b h; omega
 ·have := hb b h; have := hlt b hm; omega
 ·have := hb b h; have := (oA b hm).1; omega
 ·have := ho b h; have := hoV x hx; omega
theorem clu2_Do (P : Clu2 w0 own Wd D ga ka A gb kb B W) (a : Deed) (okc : Nat → Prop) (hgo : ∀ b, okc b → b ≠ ga) (la : Option Addr) (lc : Nat) (la2 : Option Addr) (lc2 : Nat) (hll : a.call.label.length * 16 ≤ 140737488351232) (hgl : a.call.grants.length * 8 ≤ 140737488351232) (hcl : SlR okc W 2 RLev la lc a.call.label) (hcg : SlR okc W 1 RInt la2 lc2 a.call.grants) :
  Calls Tryz.prog 18 #[.pointer (some ⟨ga, 0, none⟩), deedV a la lc la2 lc2] W fun e W' => e = .returned (RepV (doC A a).2) ∧ Clu2 w0 own Wd D ga ka (doC A a).1 gb kb B W' := by
 obtain ⟨B0, Y, Q, back⟩ := P.enter
 exact (cluster_Do Q a okc hgo la lc la2 lc2 hll hgl hcl hcg).mono fun e W' h => ⟨h.1, back _ _ h.2⟩
end
/-! ### Rows, element by element -/
inductive All2 {α β : Type} (R : α → β → Prop) : List α → List β → Prop
 | nil : All2 R [] []
 | cons {x : α} {y : β} {l : List α} {m : List β} (h : R x y) (t : All2 R l m) : All2 R (x :: l) (y :: m)
section
variable {α β : Type} {R : α → β → Prop}
theorem All2.length {l : List α} {m : List β} (h : All2 R l m) : m.length = l.length := by
 induction h with
 | nil => rfl
 | cons _ _ ih => simp [ih]
theorem All2.refl {R : α → α → Prop} (hR : ∀ x, R x x) : ∀ l : List α, All2 R l l
 | [] => .nil
 | x :: l => .cons (hR x) (All2.refl hR l)
theorem All2.append {l l' : List α} {m m' : List β} (h : All2 R l m) (h' : All2 R l' m') : All2 R (l ++ l') (m ++ m') := by
 induction h with
 | nil => exact h'
 | cons hx _ ih => exact .cons hx ih
theorem All2.at {l : List α} {m : List β} (h : All2 R l m) : ∀ (i : Nat), (l[i]? = none ∧ m[i]? = none) ∨ ∃ x y, l[i]? = some x ∧ m[i]? = some y ∧ R x y := by
 induction h with
 | nil => exact fun i => .inl ⟨by simp, by simp⟩
 | cons hx _ ih =>
  intro i
  cases i with
  | zero => exact .inr ⟨_, _, rfl, rfl, hx⟩
  | succ i => simpa using ih i
theorem All2.getD {l : List α} {m : List β} (h : All2 R l m) {x : α} {y : β} (hd : R x y) (i : Nat) : R (l.getD i x) (m.getD i y) := by
 rw [List.getD_eq_getElem?_getD, List.getD_eq_getElem?_getD]
 rcases h.at i with ⟨h1, h2⟩ | ⟨a, b, h1, h2, h3⟩
 ·rw [h1, h2]; exact hd
 ·rw [h1, h2]; exact h3
theorem All2.set {l : List α} {m : List β} (h : All2 R l m) {x : α} {y : β} (hd : R x y) : ∀ i : Nat, All2 R (l.set i x) (m.set i y) := by
 induction h with
 | nil => exact fun i => by simpa using All2.nil
 | cons hx ht ih =>
  intro i
  cases i with
  | zero => exact .cons hd ht
  | succ i => exact .cons hx (ih i)
theorem All2.eraseIdx {l : List α} {m : List β} (h : All2 R l m) : ∀ i : Nat, All2 R (l.eraseIdx i) (m.eraseIdx i) := by
 induction h with
 | nil => exact fun i => by simpa using All2.nil
 | cons hx ht ih =>
  intro i
  cases i with
  | zero => exact ht
  | succ i => exact .cons hx (ih i)
theorem All2.filterMap {γ δ : Type} {S : γ → δ → Prop} {l : List α} {m : List β} (h : All2 R l m) {f : α → Option γ} {g : β → Option δ} (hfg : ∀ x y, R x y → (f x = none ∧ g y = none) ∨ ∃ u v, f x = some u ∧ g y = some v ∧ S u v) : All2 S (l.filterMap f) (m.filterMap g) := by
 induction h with
 | nil => exact .nil
 | cons hx _ ih =>
  rcases hfg _ _ hx with ⟨h1, h2⟩ | ⟨u, v, h1, h2, h3⟩
  ·rw [List.filterMap_cons_none h1, List.filterMap_cons_none h2]; exact ih
  ·rw [List.filterMap_cons_some h1, List.filterMap_cons_some h2]; exact .cons h3 ih
theorem All2.filter {l : List α} {m : List β} (h : All2 R l m) {f : α → Bool} {g : β → Bool} (hfg : ∀ x y, R x y → g y = f x) : All2 R (l.filter f) (m.filter g) := by
 induction h with
 | nil => exact .nil
 | cons hx _ ih =>
  have := hfg _ _ hx
  cases e : f _ with
  | true => rw [List.filter_cons_of_pos e, List.filter_cons_of_pos (by rw [this, e])]; exact .cons hx ih
  | false => rw [List.filter_cons_of_neg (by rw [e]; simp), List.filter_cons_of_neg (by rw [this, e]; simp)]; exact ih
end
/-! ### What is alike -/
def TxS (c : Int) (lab : List Lev) (s s' : ByteArray) : Prop := s'.size = s.size ∧ (lAt lab c ≤ 1 → s' = s)
structure MailS (c : Int) (m m' : Mail) : Prop where
 host : m'.host = m.host
 thread : m'.thread = m.thread
 label : m'.label = m.label
 grants : m'.grants = m.grants
 text : TxS c m.label m.text m'.text
structure ObjS (c : Int) (o o' : KObj) : Prop where
 label : o'.label = o.label
 text : TxS c o.label o.text o'.text
structure ThrSe (c : Int) (x x' : Thr) : Prop where
 label : x'.label = x.label
 own : x'.own = x.own
 size : x'.text.size = x.text.size
 text : lAt x.label c ≤ 1 → c ∉ x.own → x'.text = x.text
 objects : All2 (ObjS c) x.objects x'.objects
 mails : All2 (MailS c) x.mails x'.mails
structure KerS (c : Int) (k k' : Ker) : Prop where
 host : k'.host = k.host
 made : k'.made = k.made
 threads : All2 (ThrSe c) k.threads k'.threads
structure FrameS (c : Int) (f f' : Frame) : Prop where
 src : f'.src = f.src
 dst : f'.dst = f.dst
 seq : f'.seq = f.seq
 ack : f'.ack = f.ack
 thread : f'.thread = f.thread
 mail : MailS c f.mail f'.mail
 certs : f'.certs = f.certs
structure SentSe (c : Int) (s s' : Sent) : Prop where
 frame : FrameS c s.frame s'.frame
 tries : s'.tries = s.tries
 due : s'.due = s.due
structure LineSe (c : Int) (L L' : Line) : Prop where
 next : L'.next = L.next
 high : L'.high = L.high
 seen : L'.seen = L.seen
 sent : All2 (SentSe c) L.sent L'.sent
def NetS (c : Int) (s s' : ByteArray) : Prop := ∃ f f', goodFrameC f = 0 ∧ goodFrameC f' = 0 ∧ s = ⟨(encL f).toArray⟩ ∧ s' = ⟨(encL f').toArray⟩ ∧ FrameS c f f'
structure CluSe (c : Int) (C C' : Clu) : Prop where
 now : C'.now = C.now
 acts : C'.acts = C.acts
 kers : All2 (KerS c) C.kers C'.kers
 certs : C'.certs = C.certs
 lines : All2 (LineSe c) C.lines C'.lines
 net : All2 (NetS c) C.net C'.net
section
variable {c : Int}
theorem TxS.refl (lab : List Lev) (s : ByteArray) : TxS c lab s s := ⟨rfl, fun _ => rfl⟩
theorem MailS.refl (m : Mail) : MailS c m m := ⟨rfl, rfl, rfl, rfl, TxS.refl _ _⟩
theorem ThrSe.refl (x : Thr) : ThrSe c x x := ⟨rfl, rfl, rfl, fun _ _ => rfl, All2.refl (fun o => ⟨rfl, TxS.refl _ _⟩) _, All2.refl MailS.refl _⟩
theorem FrameS.refl (f : Frame) : FrameS c f f := ⟨rfl, rfl, rfl, rfl, rfl, MailS.refl _, rfl⟩
theorem LineSe.refl (L : Line) : LineSe c L L := ⟨rfl, rfl, rfl, All2.refl (fun s => ⟨FrameS.refl _, rfl, rfl⟩) _⟩
theorem KerS.refl (k : Ker) : KerS c k k := ⟨rfl, rfl, All2.refl ThrSe.refl _⟩
theorem knowT_len (a b : ByteArray) : (knowT a b).size = min 64 (a.size + b.size) := by
 unfold knowT lastB
 rw [ByteArray.size_extract, ByteArray.size_append]
 omega
theorem goodMail_same {m m' : Mail} (h : MailS c m m') : goodMailC m' = goodMailC m := by
 unfold goodMailC
 rw [h.host, h.thread, h.label, h.grants, h.text.1]
theorem goodFrame_same {f f' : Frame} (h : FrameS c f f') : goodFrameC f' = goodFrameC f := by
 unfold goodFrameC frameRange ackC ackPlain certsC
 rw [h.src, h.dst, h.seq, h.ack, h.thread, goodMail_same h.mail, h.mail.host, h.mail.thread, h.mail.label, h.mail.grants, h.mail.text.1, h.certs]
theorem mayB_same {m m' : Mail} (h : MailS c m m') (l : List Cert) (u now : Int) : mayB l u m' now = mayB l u m now := by
 unfold mayB namedL
 rw [h.label, h.grants]
theorem showL_same {m m' : Mail} (h : MailS c m m') (l : List Cert) : showL l m' = showL l m := by
 unfold showL namedL
 rw [h.label, h.grants]
theorem sentsOk_same {n : Int} : ∀ {l l' : List Sent} {p : Int}, All2 (SentSe c) l l' → sentsOk n p l' = sentsOk n p l
 | _, _, _, .nil => rfl
 | _, _, p, .cons h t => by
  unfold sentsOk sentOk
  rw [h.frame.seq, h.tries, h.due, sentsOk_same t]
theorem lineOk_same {L L' : Line} (h : LineSe c L L') : lineOk L' = lineOk L := by
 unfold lineOk
 rw [h.next, h.high, h.sent.length, sentsOk_same h.sent]
theorem enc_len {f f' : Frame} (h : FrameS c f f') : (encL f').length = (encL f).length := by
 unfold encL headBytes mailBytes
 rw [h.ack]
 split
 ·simp [be_length]
 ·simp only [List.length_cons, List.length_append, be_length, List.length_nil, List.length_map, h.mail.label, h.mail.grants, h.certs, Array.length_toList]
  have h9 : f'.mail.text.data.size = f.mail.text.data.size := h.mail.text.1
  rw [h9]
end
section
variable {c : Int}
theorem flows_low {a b : List Lev} {own : List Int} (h : flowsL a b own = true) (hc : c ∉ own) (hb : lAt b c ≤ 1) : lAt a c ≤ 1 := Int.le_trans ((flowsL_iff ..).1 h c hc) hb
theorem KerS.thr {k k' : Ker} (h : KerS c k k') (t : Int) : ThrSe c (k.thr t) (k'.thr t) := h.threads.getD (ThrSe.refl _) _
theorem KerS.put {k k' : Ker} (h : KerS c k k') (t : Int) {x x' : Thr} (hx : ThrSe c x x') : KerS c (k.put t x) (k'.put t x') := ⟨h.host, h.made, h.threads.set hx _⟩
theorem KerS.obj {k k' : Ker} (h : KerS c k k') (t n : Int) : (k.obj t n = none ∧ k'.obj t n = none) ∨ ∃ o o', k.obj t n = some o ∧ k'.obj t n = some o' ∧ ObjS c o o' := by
 unfold Ker.obj
 split
 ·rcases (h.thr t).objects.at n.toNat with h1 | ⟨x, y, h1, h2, h3⟩
  ·exact .inl h1
  ·exact .inr ⟨x, y, h1, h2, h3⟩
 ·exact .inl ⟨rfl, rfl⟩
theorem takeM_same (lab : List Lev) (own : List Int) {l l' : List Mail} (h : All2 (MailS c) l l') : All2 (MailS c) (takeM lab own l).2 (takeM lab own l').2 ∧
  (((takeM lab own l).1 = none ∧ (takeM lab own l').1 = none) ∨ ∃ m m', (takeM lab own l).1 = some m ∧ (takeM lab own l').1 = some m' ∧ MailS c m m' ∧ flowsL m.label lab own = true) := by
 induction h with
 | nil => exact ⟨.nil, .inl ⟨rfl, rfl⟩⟩
 | @cons m m' l l' hm ht ih =>
  unfold takeM
  rw [hm.label]
  by_cases hf : flowsL m.label lab own = true
  ·rw [if_pos hf, if_pos hf]
   exact ⟨ht, .inr ⟨m, m', rfl, rfl, hm, hf⟩⟩
  ·rw [if_neg hf, if_neg hf]
   exact ih
theorem takeX_se {x x' : Thr} (h : ThrSe c x x') (hown : c ∉ x.own) : ThrSe c (takeX x).1 (takeX x').1 ∧ (takeX x').2 = (takeX x).2 := by
 obtain ⟨h1, h2⟩ := takeM_same x.label x.own h.mails
 unfold takeX
 rw [h.label, h.own]
 generalize takeM x.label x.own x.mails = r at h1 h2
 generalize takeM x.label x.own x'.mails = r' at h1 h2
 obtain ⟨o, l⟩ := r
 obtain ⟨o', l'⟩ := r'
 dsimp only at h1 h2
 rcases h2 with ⟨rfl, rfl⟩ | ⟨m, m', rfl, rfl, hm, hf⟩
 ·exact ⟨⟨by first | rfl | exact h.label, by first | rfl | exact h.own, h.size, h.text, h.objects, h1⟩, rfl⟩
 ·refine ⟨⟨by first | rfl | exact h.label, ?_, ?_, fun hl hc => ?_, h.objects, h1⟩, ?_⟩
  ·simp only; rw [hm.grants]
  ·simp only; rw [knowT_len, knowT_len, h.size, hm.text.1]
  ·simp only at hl ⊢
   rw [h.text hl hown, hm.text.2 (flows_low hf hown hl)]
  ·simp only; rw [hm.host, hm.thread]
theorem deliverK_same {k k' : Ker} (h : KerS c k k') (t : Int) {m m' : Mail} (hm : MailS c m m') : KerS c (deliverK k t m) (deliverK k' t m') := by
 have hx := h.thr t
 unfold deliverK
 split
 ·exact h
 ·rw [goodMail_same hm]
  split
  ·exact h
  ·rw [hm.label, hx.label, hx.own, hx.mails.length]
   split
   ·exact h.put t ⟨hx.label, hx.own, hx.size, hx.text, hx.objects, hx.mails.append (.cons hm .nil)⟩
   ·exact h
def TextS (c : Int) (lab : List Lev) (s s' : ByteArray) : Prop := s'.size = s.size ∧ (s' = s ∨ 1 < lAt lab c)
theorem TextS.low {lab : List Lev} {s s' : ByteArray} (h : TextS c lab s s') (hl : lAt lab c ≤ 1) : s' = s := h.2.resolve_right (by omega)
theorem letterK_same {k k' : Ker} (h : KerS c k k') (t : Int) (hown : c ∉ (k.thr t).own) (q : Req) {tx : ByteArray} (ht : TextS c (k.thr t).label q.text tx) :
  (letterK k' t { q with text := tx }).2 = (letterK k t q).2 ∧ ((letterK k t q).2 = 0 → MailS c (letterK k t q).1 (letterK k' t { q with text := tx }).1) := by
 have hx := h.thr t
 have hM : flowsL (k.thr t).label q.label (k.thr t).own = true → MailS c (letterM k t q) (letterM k' t { q with text := tx }) := fun hf => by
  refine ⟨h.host, rfl, rfl, rfl, ?_, fun hl => ?_⟩
  ·show (knowT (k'.thr t).text tx).size = (knowT (k.thr t).text q.text).size
   rw [knowT_len, knowT_len, hx.size, ht.1]
  ·show knowT (k'.thr t).text tx = knowT (k.thr t).text q.text
   have hl2 := flows_low hf hown hl
   rw [hx.text hl2 hown, ht.low hl2]
 have hg : goodMailC (letterM k' t { q with text := tx }) = goodMailC (letterM k t q) := by
  unfold goodMailC letterM
  rw [h.host, knowT_len, knowT_len, hx.size, ht.1]
 unfold letterK
 split
 ·exact ⟨rfl, fun h => absurd h (by simp)⟩
 ·rw [hg, hx.label, hx.own]
  split
  ·exact ⟨rfl, fun h0 => absurd h0 (by assumption)⟩
  ·split
   ·exact ⟨rfl, fun h => absurd h (by simp)⟩
   ·split
    ·exact ⟨rfl, fun h => absurd h (by simp)⟩
    ·rename_i hf
     exact ⟨rfl, fun _ => hM (by simpa using hf)⟩
structure RepS (c : Int) (lab : List Lev) (r r' : Rep) : Prop where
 code : r'.code = r.code
 n : r'.n = r.n
 text : r'.text = r.text ∨ 1 < lAt lab c
theorem RepS.refl (lab : List Lev) (r : Rep) : RepS c lab r r := ⟨rfl, rfl, .inl rfl⟩
theorem stepC_same {k k' : Ker} (h : KerS c k k') (t : Int) (hown : c ∉ (k.thr t).own) (q : Req) {tx : ByteArray} (ht : TextS c (k.thr t).label q.text tx) :
  KerS c (stepC k t q).1 (stepC k' t { q with text := tx }).1 ∧ RepS c (k.thr t).label (stepC k t q).2 (stepC k' t { q with text := tx }).2 := by
 have hx := h.thr t
 unfold stepC
 split
 ·exact ⟨h, RepS.refl _ _⟩
 rw [show ({ q with text := tx } : Req).text.size = q.text.size from ht.1]
 split
 ·exact ⟨h, RepS.refl _ _⟩
 unfold callK
 dsimp only
 rw [h.made, h.host, hx.own, hx.label]
 split
 ·split
  ·exact ⟨h, RepS.refl _ _⟩
  ·split
   ·exact ⟨h, RepS.refl _ _⟩
   ·refine ⟨?_, RepS.refl _ _⟩
    have h2 := h.put t (x := { k.thr t with own := (ownC (k.thr t).own (k.host * 20 + k.made)).1 }) (x' := ⟨(k.thr t).label, (ownC (k.thr t).own (k.host * 20 + k.made)).1, (k'.thr t).text, (k'.thr t).objects, (k'.thr t).mails⟩) ⟨rfl, rfl, hx.size, fun hl _ => hx.text hl hown, hx.objects, hx.mails⟩
    exact ⟨h2.host, rfl, h2.threads⟩
 split
 ·split
  ·exact ⟨h, RepS.refl _ _⟩
  ·split
   ·exact ⟨h, RepS.refl _ _⟩
   ·rw [hx.objects.length]
    split
    ·exact ⟨h, RepS.refl _ _⟩
    ·exact ⟨h.put t ⟨rfl, rfl, hx.size, hx.text, hx.objects.append (.cons ⟨rfl, TxS.refl _ _⟩ .nil), hx.mails⟩, RepS.refl _ _⟩
 split
 ·rcases h.obj q.t q.n with ⟨h1, h2⟩ | ⟨o, o', h1, h2, ho⟩
  ·rw [h1, h2]; exact ⟨h, RepS.refl _ _⟩
  ·rw [h1, h2]
   dsimp only
   rw [ho.label]
   split
   ·rename_i hf
    refine ⟨?_, RepS.refl _ _⟩
    have hz := h.thr q.t
    have hO : ObjS c ⟨o.label, knowT (k.thr t).text q.text⟩ ⟨o.label, knowT (k'.thr t).text tx⟩ := by
     refine ⟨rfl, ?_, fun hl => ?_⟩
     ·simp only; rw [knowT_len, knowT_len, hx.size, ht.1]
     ·have hl2 := flows_low hf hown hl
      simp only; rw [hx.text hl2 hown, ht.low hl2]
    unfold Thr.putObj
    exact h.put q.t ⟨hz.label, hz.own, hz.size, hz.text, hz.objects.set hO _, hz.mails⟩
   ·exact ⟨h, RepS.refl _ _⟩
 split
 ·rcases h.obj q.t q.n with ⟨h1, h2⟩ | ⟨o, o', h1, h2, ho⟩
  ·rw [h1, h2]; exact ⟨h, RepS.refl _ _⟩
  ·rw [h1, h2]
   dsimp only
   rw [ho.label]
   split
   ·rename_i hf
    refine ⟨h.put t ⟨rfl, rfl, ?_, fun hl hc => ?_, hx.objects, hx.mails⟩, ⟨rfl, ?_, .inl rfl⟩⟩
    ·simp only; rw [knowT_len, knowT_len, hx.size, ho.text.1]
    ·simp only at hl ⊢; rw [hx.text hl hown, ho.text.2 (flows_low hf hown hl)]
    ·simp only; rw [ho.text.1]
   ·exact ⟨h, RepS.refl _ _⟩
 split
 ·split
  ·exact ⟨h, RepS.refl _ _⟩
  ·split
   ·exact ⟨h, RepS.refl _ _⟩
   ·rename_i hf
    have hf : flowsL (k.thr t).label (setR (k.thr t).label q.c q.n).1 (k.thr t).own = true := by simpa using hf
    exact ⟨h.put t ⟨rfl, rfl, hx.size, fun hl _ => hx.text (flows_low hf hown hl) hown, hx.objects, hx.mails⟩, RepS.refl _ _⟩
 split
 ·obtain ⟨h1, h2⟩ := takeX_se hx hown
  unfold takeK
  exact ⟨h.put t h1, by rw [h2]; exact RepS.refl _ _⟩
 split
 ·refine ⟨h.put t ⟨by first | rfl | exact hx.label, by first | rfl | exact hx.own, ht.1, fun hl _ => ht.low hl, hx.objects, hx.mails⟩, RepS.refl _ _⟩
 split
 ·refine ⟨h, rfl, rfl, ?_⟩
  by_cases hl : lAt (k.thr t).label c ≤ 1
  ·exact .inl (hx.text hl hown)
  ·exact .inr (by omega)
 ·exact ⟨h, RepS.refl _ _⟩
end
section
variable {c : Int} {C C' : Clu}
theorem CluSe.refl (C : Clu) (hok : C.ok) : CluSe c C C := ⟨rfl, rfl, All2.refl KerS.refl _, rfl, All2.refl LineSe.refl _, by
 have : ∀ l : List ByteArray, (∀ s ∈ l, ∃ f, goodFrameC f = 0 ∧ s = ⟨(encL f).toArray⟩) → All2 (NetS c) l l := by
  intro l
  induction l with
  | nil => exact fun _ => .nil
  | cons s l ih =>
   intro h
   obtain ⟨f, h1, h2⟩ := h s (by simp)
   exact .cons ⟨f, f, h1, h1, h2, h2, FrameS.refl f⟩ (ih fun s' hs => h s' (by simp [hs]))
 exact this C.net hok.net⟩
theorem CluSe.ker (h : CluSe c C C') (u : Int) : KerS c (C.ker u) (C'.ker u) := h.kers.getD (KerS.refl _) _
theorem CluSe.line (h : CluSe c C C') (u v : Int) : LineSe c (C.line u v) (C'.line u v) := h.lines.getD (LineSe.refl _) _
theorem CluSe.cert (h : CluSe c C C') (u : Int) : C'.cert u = C.cert u := by unfold Clu.cert; rw [h.certs]
theorem CluSe.thr (h : CluSe c C C') (u v : Int) : ThrSe c (C.thr u v) (C'.thr u v) := (h.ker u).thr v
theorem CluSe.setKer (h : CluSe c C C') (u : Int) {k k' : Ker} (hk : KerS c k k') : CluSe c (C.setKer u k) (C'.setKer u k') := ⟨h.now, h.acts, h.kers.set hk _, h.certs, h.lines, h.net⟩
theorem CluSe.setLine (h : CluSe c C C') (u v : Int) {L L' : Line} (hL : LineSe c L L') : CluSe c (C.setLine u v L) (C'.setLine u v L') := ⟨h.now, h.acts, h.kers, h.certs, h.lines.set hL _, h.net⟩
theorem CluSe.setCert (h : CluSe c C C') (u : Int) (l : List Cert) : CluSe c (C.setCert u l) (C'.setCert u l) := ⟨h.now, h.acts, h.kers, by unfold Clu.setCert; simp only; rw [h.certs], h.lines, h.net⟩
theorem CluSe.push (h : CluSe c C C') {f f' : Frame} (hf : FrameS c f f') : CluSe c (pushC C f) (pushC C' f') := by
 have hg := goodFrame_same hf
 unfold pushC encR
 rw [hg, h.net.length]
 by_cases q : goodFrameC f = 0
 ·rw [if_pos q, if_pos q]
  split
  ·exact ⟨h.now, h.acts, h.kers, h.certs, h.lines, h.net.append (.cons ⟨f, f', q, hg.trans q, rfl, rfl, hf⟩ .nil)⟩
  ·exact h
 ·rw [if_neg q, if_neg q]
  rw [if_neg (fun hh => q hh.1), if_neg (fun hh => q hh.1)]
  exact h
theorem CluSe.pushAll {fs fs' : List Frame} (hf : All2 (FrameS c) fs fs') : ∀ {C C' : Clu}, CluSe c C C' → CluSe c (Proofs.YtnjjdpiofbajlaaGreat.pushAll C fs) (Proofs.YtnjjdpiofbajlaaGreat.pushAll C' fs') := by
 induction hf with
 | nil => exact fun h => h
 | cons hx _ ih => exact fun h => ih (h.push hx)
theorem sentLn_same {L L' : Line} (h : LineSe c L L') {f f' : Frame} (hf : FrameS c f f') (now : Int) : LineSe c (sentLn L f now).1 (sentLn L' f' now).1 ∧ (sentLn L' f' now).2.2 = (sentLn L f now).2.2 ∧ ((sentLn L f now).2.2 = 0 → FrameS c (sentLn L f now).2.1 (sentLn L' f' now).2.1) := by
 have hF : FrameS c { f with seq := L.next + 1 } { f' with seq := L.next + 1 } := ⟨hf.src, hf.dst, rfl, hf.ack, hf.thread, hf.mail, hf.certs⟩
 unfold sentLn sendX
 rw [lineOk_same h, h.next, h.sent.length]
 split
 ·exact ⟨⟨rfl, h.high, h.seen, h.sent⟩, rfl, fun h => by simp at h⟩
 ·split
  ·exact ⟨⟨rfl, h.high, h.seen, h.sent⟩, rfl, fun h => by simp at h⟩
  ·exact ⟨⟨rfl, h.high, h.seen, h.sent.append (.cons ⟨hF, rfl, rfl⟩ .nil)⟩, rfl, fun _ => hF⟩
theorem answLn_same {L L' : Line} (h : LineSe c L L') (seq : Int) : LineSe c (answLn L seq) (answLn L' seq) := by
 have hfil : All2 (SentSe c) (L.sent.filter (offSeq seq)) (L'.sent.filter (offSeq seq)) := h.sent.filter fun x y hxy => by unfold offSeq; rw [hxy.frame.seq]
 unfold answLn answX
 rw [lineOk_same h, hfil.length, h.sent.length]
 split
 ·exact ⟨h.next, h.high, h.seen, h.sent⟩
 ·split
  ·exact ⟨h.next, h.high, h.seen, h.sent⟩
  ·exact ⟨h.next, h.high, h.seen, hfil⟩
theorem tookLn_same {L L' : Line} (h : LineSe c L L') (seq : Int) : LineSe c (tookLn L seq).1 (tookLn L' seq).1 ∧ (tookLn L' seq).2 = (tookLn L seq).2 := by
 unfold tookLn
 rw [lineOk_same h, h.high, h.seen]
 exact ⟨⟨h.next, rfl, rfl, h.sent⟩, rfl⟩
theorem againLn_same {L L' : Line} (h : LineSe c L L') (now : Int) : LineSe c (againLn L now).1 (againLn L' now).1 ∧ All2 (FrameS c) (againLn L now).2 (againLn L' now).2 := by
 unfold againLn againX
 rw [lineOk_same h]
 split
 ·exact ⟨⟨h.next, h.high, h.seen, h.sent⟩, .nil⟩
 ·refine ⟨⟨h.next, h.high, h.seen, h.sent.filterMap fun x y hxy => ?_⟩, h.sent.filterMap fun x y hxy => ?_⟩
  ·unfold keepS
   rw [hxy.due, hxy.tries]
   split
   ·exact .inr ⟨x, y, rfl, rfl, hxy⟩
   ·split
    ·exact .inr ⟨_, _, rfl, rfl, ⟨hxy.frame, rfl, rfl⟩⟩
    ·exact .inl ⟨rfl, rfl⟩
  ·unfold outS
   rw [hxy.due, hxy.tries]
   split
   ·exact .inl ⟨rfl, rfl⟩
   ·split
    ·exact .inr ⟨_, _, rfl, rfl, hxy.frame⟩
    ·exact .inl ⟨rfl, rfl⟩
theorem tickAll_same2 : ∀ (n i : Nat) {C C' : Clu}, CluSe c C C' → CluSe c (tickAll n i C).1 (tickAll n i C').1 ∧ (tickAll n i C').2 = (tickAll n i C).2
 | 0, _, _, _, h => ⟨h, rfl⟩
 | n + 1, i, C, C', h => by
  obtain ⟨h1, h2⟩ := againLn_same (h.lines.getD (LineSe.refl zeroL) i) C.now
  unfold tickAll
  dsimp only
  rw [h.now]
  have h3 : CluSe c { C with lines := C.lines.set i (againLn (C.lines.getD i zeroL) C.now).1 } ⟨C.now, C'.kers, C'.certs, C'.lines.set i (againLn (C'.lines.getD i zeroL) C.now).1, C'.net, C'.acts⟩ := ⟨rfl, h.acts, h.kers, h.certs, h.lines.set h1 i, h.net⟩
  obtain ⟨h4, h5⟩ := tickAll_same2 n (i + 1) (CluSe.pushAll h2 h3)
  exact ⟨h4, by rw [h5, h2.length]⟩
theorem tickC_same2 (h : CluSe c C C') (n : Int) : CluSe c (tickC C n).1 (tickC C' n).1 ∧ (tickC C' n).2 = (tickC C n).2 := by
 unfold tickC
 rw [h.now]
 split
 ·exact ⟨h, rfl⟩
 ·have h2 : CluSe c { C with now := C.now + n } { C' with now := C.now + n } := ⟨rfl, h.acts, h.kers, h.certs, h.lines, h.net⟩
  generalize ({ C with now := C.now + n } : Clu) = D at h2
  generalize ({ C' with now := C.now + n } : Clu) = D' at h2
  have hT := tickAll_same2 16 0 h2
  generalize tickAll 16 0 D = T at hT
  generalize tickAll 16 0 D' = T' at hT
  exact ⟨hT.1, by rw [hT.2]⟩
theorem sendC_same (h : CluSe c C C') (u v t : Int) {m m' : Mail} (hm : MailS c m m') : CluSe c (sendC C u v t m).1 (sendC C' u v t m').1 ∧ (sendC C' u v t m').2 = (sendC C u v t m).2 := by
 unfold sendC
 split
 ·exact ⟨h.setKer u (deliverK_same (h.ker u) t hm), rfl⟩
 ·rw [h.cert, mayB_same hm, h.now]
  split
  ·exact ⟨h, rfl⟩
  ·have hF : FrameS c (mailF u v t m (showL (C.cert u) m)) (mailF u v t m' (showL (C.cert u) m')) := ⟨rfl, rfl, rfl, rfl, rfl, hm, showL_same hm _⟩
   obtain ⟨h1, h2, h3⟩ := sentLn_same (h.line u v) hF C.now
   rw [h2]
   split
   ·exact ⟨h, rfl⟩
   ·rename_i hk
    exact ⟨(h.setLine u v h1).push (h3 (by simpa using hk)), rfl⟩
theorem tookC_same (h : CluSe c C C') {f f' : Frame} (hf : FrameS c f f') : CluSe c (tookC C f) (tookC C' f') := by
 unfold tookC
 rw [hf.dst, hf.src, hf.certs, hf.thread, h.cert, h.now, mayB_same hf.mail]
 split
 ·exact (h.setCert _ _).setKer _ (deliverK_same (h.ker f.dst) f.thread hf.mail)
 ·exact h.setCert _ _
theorem comeF_same2 (h : CluSe c C C') {f f' : Frame} (hf : FrameS c f f') : CluSe c (comeF C f) (comeF C' f') := by
 have hA : ackOf f' = ackOf f := by unfold ackOf; rw [hf.src, hf.dst, hf.seq]
 obtain ⟨h1, h2⟩ := tookLn_same (h.line f.src f.dst) f.seq
 unfold comeF
 rw [hf.ack, hA, hf.src, hf.dst, hf.seq, h2]
 split
 ·exact h.setLine _ _ (answLn_same (h.line f.dst f.src) f.seq)
 ·split
  ·exact tookC_same ((h.setLine _ _ h1).push (FrameS.refl _)) hf
  ·split
   ·exact (h.setLine _ _ h1).push (FrameS.refl _)
   ·exact h.setLine _ _ h1
theorem comeC_same2 (h : CluSe c C C') {s s' : ByteArray} (hs : NetS c s s') : CluSe c (comeC C s) (comeC C' s') := by
 obtain ⟨f, f', g, g', rfl, rfl, hf⟩ := hs
 unfold comeC
 rw [show (⟨(encL f).toArray⟩ : ByteArray).data.toList = encL f from by simp, show (⟨(encL f').toArray⟩ : ByteArray).data.toList = encL f' from by simp, dec_enc g, dec_enc g']
 rw [if_neg (by simp), if_neg (by simp)]
 exact comeF_same2 h hf
theorem netS_size {s s' : ByteArray} (hs : NetS c s s') : s'.size = s.size := by
 obtain ⟨f, f', g, g', rfl, rfl, hf⟩ := hs
 have := enc_len hf
 unfold ByteArray.size
 simpa using this
theorem callC_same (h : CluSe c C C') (u t : Int) (hown : c ∉ (C.thr u t).own) (q : Req) {tx : ByteArray} (ht : TextS c (C.thr u t).label q.text tx) :
  CluSe c (callC C u t q).1 (callC C' u t { q with text := tx }).1 ∧ RepS c (C.thr u t).label (callC C u t q).2 (callC C' u t { q with text := tx }).2 := by
 obtain ⟨l1, l2⟩ := letterK_same (h.ker u) t hown q ht
 obtain ⟨s1, s2⟩ := stepC_same (h.ker u) t hown q ht
 unfold callC
 rw [show ({ q with text := tx } : Req).text.size = q.text.size from ht.1]
 split
 ·split
  ·exact ⟨h, RepS.refl _ _⟩
  ·dsimp only
   split
   ·exact ⟨h, RepS.refl _ _⟩
   ·rw [l1]
    split
    ·exact ⟨h, RepS.refl _ _⟩
    ·rename_i hl
     obtain ⟨h1, h2⟩ := sendC_same h u q.h q.t (l2 (by simpa using hl))
     exact ⟨h1, by rw [h2]; exact RepS.refl _ _⟩
 ·dsimp only
  split
  ·split
   ·exact ⟨h, RepS.refl _ _⟩
   ·have ho : ((C'.ker u).thr t).own = ((C.ker u).thr t).own := ((h.ker u).thr t).own
    rw [ho, h.cert]
    split
    ·exact ⟨h, RepS.refl _ _⟩
    ·split
     ·exact ⟨h, RepS.refl _ _⟩
     ·exact ⟨h.setCert _ _, RepS.refl _ _⟩
  ·exact ⟨h.setKer u s1, s2⟩
theorem doC_same (h : CluSe c C C') (x : Deed) {tx : ByteArray} (hown : x.kind = 1 → four x.h = true → four x.t = true → c ∉ (C.thr x.h x.t).own) (ht : TextS c (C.thr x.h x.t).label x.call.text tx) :
  CluSe c (doC C x).1 (doC C' { x with call := { x.call with text := tx } }).1 ∧ (doC C' { x with call := { x.call with text := tx } }).2.code = (doC C x).2.code ∧ (doC C' { x with call := { x.call with text := tx } }).2.n = (doC C x).2.n ∧
   ((doC C' { x with call := { x.call with text := tx } }).2.text = (doC C x).2.text ∨ (x.kind = 1 ∧ four x.h = true ∧ four x.t = true ∧ 1 < lAt (C.thr x.h x.t).label c)) := by
 have h1 : CluSe c { C with acts := C.acts + 1 } { C' with acts := C.acts + 1 } := ⟨h.now, rfl, h.kers, h.certs, h.lines, h.net⟩
 unfold doC
 rw [h.acts]
 split
 ·exact ⟨h, rfl, rfl, .inl rfl⟩
 unfold actC
 dsimp only
 split
 ·rename_i k1
  split
  ·exact ⟨h1, rfl, rfl, .inl rfl⟩
  ·rename_i hf
   have a4 : four x.h = true := by simpa using (not_or.1 hf).1
   have b4 : four x.t = true := by simpa using (not_or.1 hf).2
   obtain ⟨q1, q2⟩ := callC_same h1 x.h x.t (hown k1 a4 b4) x.call ht
   exact ⟨q1, q2.code, q2.n, q2.text.imp id fun hh => ⟨k1, a4, b4, hh⟩⟩
 split
 ·rw [h.net.length]
  split
  ·exact ⟨h1, rfl, rfl, .inl rfl⟩
  rename_i hn
  obtain ⟨i, ei⟩ := Int.eq_ofNat_of_zero_le (show 0 ≤ x.n by omega)
  have hi : i < C.net.length := by omega
  have hs : NetS c (C.net.getD x.n.toNat ⟨#[]⟩) (C'.net.getD x.n.toNat ⟨#[]⟩) := by
   rw [List.getD_eq_getElem?_getD, List.getD_eq_getElem?_getD, ei, Int.toNat_natCast]
   rcases h.net.at i with ⟨e1, -⟩ | ⟨s, s', e1, e2, e3⟩
   ·rw [gEg hi] at e1; cases e1
   ·rw [e1, e2]; exact e3
  have h2 : CluSe c (if x.kind = 3 then ({ C with acts := C.acts + 1 } : Clu) else { C with acts := C.acts + 1, net := C.net.eraseIdx x.n.toNat }) (if x.kind = 3 then ({ C' with acts := C.acts + 1 } : Clu) else { C' with acts := C.acts + 1, net := C'.net.eraseIdx x.n.toNat }) := by
   split
   ·exact h1
   ·exact ⟨h.now, rfl, h.kers, h.certs, h.lines, h.net.eraseIdx _⟩
  refine ⟨?_, rfl, by simp only; rw [netS_size hs], .inl rfl⟩
  split
  ·exact h2
  ·exact comeC_same2 h2 hs
 split
 ·obtain ⟨q1, q2⟩ := tickC_same2 h1 x.n
  exact ⟨q1, by rw [q2], by rw [q2], .inl (by rw [q2])⟩
 ·exact ⟨h1, rfl, rfl, .inl rfl⟩
end
theorem Clu2.anyD {w0 Wd W : World} {own : Blks} {D : Nat → Prop} {ga gb : Nat} {ka kb : List Nat} {A B : Clu} (h : Clu2 w0 own Wd D ga ka A gb kb B W) : Clu2 w0 own W (fun _ => False) ga ka A gb kb B W := by
 obtain ⟨st, okA, okB, kept, ownD, oa, BA, na, ca, LA, ob, BB, nb, cb, LB, hA, hB, mA, mB, oA, oB⟩ := h
 exact ⟨st, okA, okB, ⟨Nat.le_refl _, fun _ _ _ => rfl⟩, fun _ _ h => h.1.elim, oa, BA, na, ca, LA, ob, BB, nb, cb, LB, hA, hB, fun b hb => ⟨(mA b hb).1, (mA b hb).2.1, fun h => h.1.elim, (mA b hb).2.2.2⟩, fun b hb => ⟨(mB b hb).1, (mB b hb).2.1, fun h => h.1.elim, (mB b hb).2.2.2⟩, oA, oB⟩
theorem cells2 {M : List Nat} {w0 w : World} {own : Blks} (st : St M w0 w own) {g h : Nat} {T T' : TypeId} {xs ys : List Value} (h0 : own[0]? = some (g, T, xs)) (h1 : own[1]? = some (h, T', ys)) :
  (∀ (j : Nat) (v : Value), xs[j]? = some v → w.cell? ⟨g, 0 + j, none⟩ = some v) ∧ ∀ (j : Nat) (v : Value), ys[j]? = some v → w.cell? ⟨h, 0 + j, none⟩ = some v :=
 ⟨fun j v hv => (st.cell h0 (0 + j)).trans (by rw [Nat.zero_add]; exact hv), fun j v hv => (st.cell h1 (0 + j)).trans (by rw [Nat.zero_add]; exact hv)⟩
section
variable {C : Clu} {h t c : Int}
theorem who_at (h4 : four h = true) (t4 : four t = true) : thrC2 C h t = C.thr h t := by
 unfold thrC2 thrOf
 rw [if_pos h4, if_pos t4]
 rfl
theorem who_high (hq : 1 < lAt (thrC2 C h t).label c) : thrC2 C h t = C.thr h t := by
 unfold thrC2 thrOf at *
 split at hq
 ·rename_i h4
  split at hq
  ·rename_i t4
   rw [if_pos h4, if_pos t4]; rfl
  ·exact absurd hq (by simp [zeroT, lAt])
 ·exact absurd hq (by simp [zeroT, lAt])
theorem who_ok (hok : C.ok) : (thrC2 C h t).label.length ≤ 8 ∧ (thrC2 C h t).own.length ≤ 8 := by
 unfold thrC2 thrOf
 split
 ·rename_i h4
  split
  ·rename_i t4
   obtain ⟨n, rfl, hn⟩ := four_nat h4
   obtain ⟨m, rfl, hm⟩ := four_nat t4
   obtain ⟨k, ek, e2, hk, hkh⟩ := hok.kerAt hn
   rw [e2]
   exact ⟨goodL_len (hk.at m).good, (hk.at m).ownL⟩
  ·exact ⟨by simp [zeroT], by simp [zeroT]⟩
 ·exact ⟨by simp [zeroT], by simp [zeroT]⟩
end
theorem text_same {C : Clu} {x : Deed} {c : Int} {tx : ByteArray} (h : tx.size = x.call.text.size ∧ (tx = x.call.text ∨ 1 < lAt (thrC2 C x.h x.t).label c)) : TextS c (C.thr x.h x.t).label x.call.text tx :=
 ⟨h.1, h.2.imp id fun hq => by rw [← who_high hq]; exact hq⟩
end Go.Proofs.YtnjjdpiofbajlaaGreat
