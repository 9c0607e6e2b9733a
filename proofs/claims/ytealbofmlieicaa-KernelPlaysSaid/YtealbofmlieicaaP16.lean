/- Walks and plain laws, part 16. -/
import Derived.Shelf.Spec.SlicesInsert
import Derived.Shelf.Spec.SlicesInsertGrow
import Derived.Shelf.Slices.SearchI
import Derived.Shelf.Slices.Empties
import Derived.Test.YtealbofmlieicaaP5
import Derived.Test.YtealbofmlieicaaP12
import Derived.IntWalk
set_option linter.unusedSimpArgs false
set_option linter.unusedVariables false
set_option maxHeartbeats 16000000
set_option maxRecDepth 100000
namespace Go.Proofs.Ytealbofmlieicaa
open Go.RowKit
def layRenS : Go.Shelf.Ren := ⟨fun | 25 => 51 | 31 => 60 | 32 => 61 | 37 => 66 | n => n, fun | 22 => 31 | 3 => 3 | 4 => 4 | 40 => 96 | 0 => 0 | n => n, fun | n => n⟩
theorem layS : Go.Proofs.Lays2.n25 Try.prog layRenS := {
 mixed := by kernel_rfl
 f25 := Try.func51.trans (congrArg some (by kernel_rfl))
 f31 := Try.func60.trans (congrArg some (by kernel_rfl))
 f32 := Try.func61.trans (congrArg some (by kernel_rfl))
 f37 := Try.func66.trans (congrArg some (by kernel_rfl))
 t0 := Try.underlying0
 a0 := Try.isAgg0
 z0 := Try.sizeOf0
 v0 := Try.zeroValue0
 t3 := Try.underlying3
 a3 := Try.isAgg3
 z3 := Try.sizeOf3
 v3 := Try.zeroValue3
 t4 := Try.underlying4
 a4 := Try.isAgg4
 z4 := Try.sizeOf4
 v4 := Try.zeroValue4
 t22 := Try.underlying31
 a22 := Try.isAgg31
 z22 := Try.sizeOf31
 v22 := Try.zeroValue31
 t40 := Try.underlying96
 a40 := Try.isAgg96
 z40 := Try.sizeOf96
 v40 := Try.zeroValue96 }
def layRenI : Go.Shelf.Ren := ⟨fun | 21 => 52 | 27 => 62 | 28 => 63 | 35 => 67 | 39 => 78 | n => n, fun | 22 => 31 | 3 => 3 | 4 => 4 | 0 => 0 | n => n, fun | n => n⟩
theorem layI : Go.Proofs.Lays2.n21 Try.prog layRenI := {
 mixed := by kernel_rfl
 f21 := Try.func52.trans (congrArg some (by kernel_rfl))
 f27 := Try.func62.trans (congrArg some (by kernel_rfl))
 f28 := Try.func63.trans (congrArg some (by kernel_rfl))
 f35 := Try.func67.trans (congrArg some (by kernel_rfl))
 f39 := Try.func78.trans (congrArg some (by kernel_rfl))
 t0 := Try.underlying0
 a0 := Try.isAgg0
 z0 := Try.sizeOf0
 v0 := Try.zeroValue0
 t3 := Try.underlying3
 a3 := Try.isAgg3
 z3 := Try.sizeOf3
 v3 := Try.zeroValue3
 t4 := Try.underlying4
 a4 := Try.isAgg4
 z4 := Try.sizeOf4
 v4 := Try.zeroValue4
 t22 := Try.underlying31
 a22 := Try.isAgg31
 z22 := Try.sizeOf31
 v22 := Try.zeroValue31
 i3 := by kernel_rfl }
theorem slices_Search_int (ok : Nat → Prop) (w : World) (a : Option Addr) (c : Nat) (l : List Int) (x : Int) (hl : l.length ≤ 1000) (hR : SlR ok w 1 RInt a c l) (hs : Rising l) :
  Calls Try.prog 51 #[.slice a l.length c, .int .i64 x] w fun e w' => e = .returned (.tuple #[.int .i64 (l.countP (·< x) : Nat), .bool (decide (x ∈ l))]) ∧ Below w.heap.size w w' := by
 cases l with
 | nil =>
  refine (Any.slices_BinarySearch_int_empty layS a c x w).mono ?_
  rintro e w' ⟨rfl, rfl⟩
  exact ⟨rfl, Below.refl _ _⟩
 | cons y l =>
  obtain ⟨b, o, rfl, hb, _⟩ := hR.int_at 0 (by simp)
  refine (Any.slices_BinarySearch_int layS b o (y :: l).length c (y :: l) x w (Nat.le_refl _) (by omega) (fun j hj => ?_) ?_).mono ?_
  ·obtain ⟨b', o', ha, _, hc⟩ := hR.int_at j hj
   simp only [Option.some.injEq, Addr.mk.injEq, and_true] at ha
   obtain ⟨rfl, rfl⟩ := ha
   rw [hc, List.getD_eq_getElem?_getD, gEg hj]
   rfl
  ·rw [List.take_length]; exact hs.imp fun h => Int.le_of_lt h
  ·rintro e w' ⟨rfl, q, rfl⟩
   rw [List.take_length]
   refine ⟨by congr 2; simp, (Below.refl _ _).drewN q⟩
theorem shape_of {w : World} {g : Nat} {cs : List Value} {T : TypeId} (h : w.heap[g]? = some (.cells cs.toArray T (0, 0))) : w.shape? g = some (T, cs.length) := by
 unfold World.shape?
 rw [h]
 simp
def insAt (l : List Int) (i : Nat) (x : Int) : List Int := l.take i ++ x :: l.drop i
theorem insAt_map (l : List Int) (i : Nat) (x : Int) : (insAt l i x).map (Value.int .i64) = (l.map (Value.int .i64)).take i ++ Value.int .i64 x :: (l.map (Value.int .i64)).drop i := by simp [insAt]
theorem ins_take {Z L : List Value} {i n : Nat} {x : Value} (hn : L.length = n) (hi : i ≤ n) (hz : n + 1 ≤ Z.length) (h1 : ∀ p, p < i → Z[p]? = L[p]?) (h2 : Z[i]? = some x) (h3 : ∀ p, i ≤ p → p < n → Z[p + 1]? = L[p]?) : Z.take (n + 1) = L.take i ++ x :: L.drop i := by
 apply List.ext_getElem?
 intro p
 by_cases hp : p < n + 1
 ·rw [List.getElem?_take_of_lt hp]
  rcases Nat.lt_trichotomy p i with h | h | h
  ·rw [h1 p h, List.getElem?_append_left (by simp; omega), List.getElem?_take_of_lt h]
  ·subst h
   rw [h2, List.getElem?_append_right (by simp; omega)]
   have : p - (L.take p).length = 0 := by simp; omega
   rw [this]; rfl
  ·obtain ⟨q, rfl⟩ : ∃ q, p = q + 1 := ⟨p - 1, by omega⟩
   rw [h3 q (by omega) (by omega), List.getElem?_append_right (by simp; omega)]
   have : q + 1 - (L.take i).length = (q - i) + 1 := by simp; omega
   rw [this, List.getElem?_cons_succ, List.getElem?_drop]
   congr 1
   omega
 ·rw [List.getElem?_eq_none (by simp; omega), List.getElem?_eq_none (by simp; omega)]
theorem own_row {base g cap : Nat} {e : TypeId} {W : World} {cs : List Value} {xs : List Int} (hb : base ≤ g) (hg : W.heap[g]? = some (.cells cs.toArray e (0, 0))) (hs : cs.length = cap) (hn : xs.length ≤ cap) (hm : cap ≤ maxLen) (ht : cs.take xs.length = xs.map (Value.int .i64)) : Own base e W 1 RInt (some ⟨g, 0, none⟩) cap xs :=
 Own.of_ints ⟨by simp, .inr ⟨g, cap, cs.toArray, rfl, hb, hg, hn, hm, by simp [hs], by simpa using ht⟩⟩
theorem zeros_length (k : Nat) : (Builtin.zeroCells (Value.int .i64 0).cells k).toList.length = k := by
 rw [Array.length_toList, size_zeroCells]
 simp [Value.cells]
theorem slices_Insert_int (base : Nat) (w : World) (a : Option Addr) (c g i : Nat) (l : List Int) (x : Int) (hl : l.length ≤ 1000) (hi : i ≤ l.length) (hO : Own base 3 w 1 RInt a c l) (hg : w.heap[g]? = some (.cells [.int .i64 x].toArray 3 (0, 0))) (hne : a.map (·.block) ≠ some g) (hb : base ≤ w.heap.size) :
  Calls Try.prog 52 #[.slice a l.length c, .int .i64 i, .slice (some ⟨g, 0, none⟩) 1 1] w fun e w' => ∃ a' c', e = .returned (.slice a' (l.length + 1) c') ∧ w.grownBy w' (a.map (·.block)) ∧ Own base 3 w' 1 RInt a' c' (insAt l i x) := by
 have hil : (insAt l i x).length = l.length + 1 := by simp [insAt]; omega
 have hvs : ∀ j v, [Value.int .i64 x][j]? = some v → w.cell? ⟨g, 0 + j, none⟩ = some v := fun j v hv => by
  rw [cell_of_row w g _ [Value.int .i64 x].toArray _ (0, 0) hg]
  simpa using hv
 obtain ⟨hcl, hh⟩ := hO.ints
 have h1c : ∀ v ∈ l.map (Value.int .i64), v.oneCell' = true := by simp [Value.oneCell']
 have h1v : ∀ v ∈ [Value.int .i64 x], v.oneCell' = true := by simp [Value.oneCell']
 have hem := insAt_map l i x
 generalize hL : l.map (Value.int .i64) = L at *
 have hLl : L.length = l.length := by rw [← hL]; simp
 have newRow : ∀ (G : Nat), G = grownCap w (l.length + 1) c 3 → l.length + 1 ≤ G ∧ G ≤ maxLen := fun G hG => by
  rw [hG]
  exact ⟨grownCap_ge w (l.length + 1) c _, grownCap_le_maxLen w (l.length + 1) c _ (by unfold maxLen; omega)⟩
 by_cases hin : i = l.length
 ·subst hin
  have hdrop : L.take l.length ++ Value.int .i64 x :: L.drop l.length = L ++ [Value.int .i64 x] := by rw [← hLl]; simp
  by_cases hroom : l.length + 1 ≤ c
  ·rcases hh with ⟨hv, hn⟩ | ⟨b, cap, cur, hv, hgb, hcur, hnc, hcm, hcs, htk⟩
   ·simp only [Value.slice.injEq] at hv
    obtain ⟨_, _, rfl⟩ := hv
    omega
   ·simp only [Value.slice.injEq] at hv
    obtain ⟨rfl, _, rfl⟩ := hv
    have hcur' : w.heap[b]? = some (.cells cur.toList.toArray 3 (0, 0)) := by simpa using hcur
    refine (Any2.slices_Insert_int_end_room layI b 0 l.length c g 0 1 1 [.int .i64 x] w (by omega) (by omega) (by unfold maxLen at hcm; omega) rfl (fun j hj => ?_) (fun j hj => frozen_of_row w b _ cur _ hcur) hvs h1v).mono ?_
    ·rw [cell_of_row w b _ cur _ (0, 0) hcur]
     simp
     omega
    ·rintro e w' ⟨rfl, rfl⟩
     obtain ⟨a1, a2, a3, a4, a5, a6⟩ := setCells_block (w := w) [Value.int .i64 x] (0 + l.length) cur.toList hcur'
     refine ⟨_, _, rfl, ⟨a4, a5, a6, by rw [a3]; exact Nat.le_refl _, fun k _ hk => a2 k fun e => hk (by rw [e]; rfl)⟩, own_row hgb a1 (by rw [putL_length]; simp [hcs]) (by rw [hil]; omega) hcm ?_⟩
     rw [hil, hem]
     refine ins_take hLl (Nat.le_refl _) (by rw [putL_length]; simp; omega) (fun p hp => ?_) ?_ (fun p h1 h2 => by omega)
     ·rw [putL_ahead (by omega), ← htk, List.getElem?_take_of_lt (by omega)]
     ·have := putL_at (vs := [Value.int .i64 x]) (cs := cur.toList) (o := 0 + l.length) (j := 0) (v := .int .i64 x) (by simp; omega) rfl
      simpa using this
  ·have hnil : a = none → l.length = 0 := fun ha => by
    rcases hh with ⟨hv, hn⟩ | ⟨b, cap, cur, hv, _⟩
    ·exact hn
    ·simp only [Value.slice.injEq] at hv
     rw [ha] at hv
     cases hv.1
   have hnc : l.length ≤ c := (hO.slr (ok := fun _ => True) fun _ _ => trivial).1
   refine (Any2.slices_Insert_int_end_grow layI a l.length c g 0 1 1 L [.int .i64 x] w (by omega) hnc (by omega) (by omega) hLl rfl hnil (fun ad ha j v hv => ?_) hvs h1v).mono ?_
   ·subst ha
    have hs := hO.slr (ok := fun _ => True) fun _ _ => trivial
    have hj : j < l.length := by rw [← hLl]; exact (gEs hv).1
    obtain ⟨b, o, ha, _, hc⟩ := hs.int_at j hj
    simp only [Option.some.injEq] at ha
    subst ha
    rw [Addr.add_lit, hc]
    rw [← hL] at hv
    simpa [hj] using hv
   ·rintro e w' ⟨rfl, rfl⟩
    obtain ⟨q1, q2⟩ := newRow _ rfl
    generalize hG : grownCap w (l.length + 1) c 3 = G at q1 q2
    have hG2 : grownCap w (l.length + 1) c (layRenI.t 3) = G := hG
    simp only [hG2]
    have hz2 := zeros_length (G - (l.length + 1))
    generalize hZ2 : Builtin.zeroCells (Value.int .i64 0).cells (G - (l.length + 1)) = Z2 at hz2
    obtain ⟨ar, har⟩ : ∃ ar : List Value, ar = (L ++ [Value.int .i64 x]) ++ Z2.toList := ⟨_, rfl⟩
    have harr : (L ++ [Value.int .i64 x]).toArray ++ Z2 = ar.toArray := by rw [har]; simp
    have harl : ar.length = G := by rw [har]; simp only [List.length_append, hz2, hLl, List.length_cons, List.length_nil]; omega
    rw [harr]
    refine ⟨_, _, rfl, World.grownBy.ofBelow ((Below.refl _ _).drew.alloc (Nat.le_refl _) _) _, own_row hb (heap_alloc_new w.drew (.cells ar.toArray 3)) harl (by rw [hil]; exact q1) q2 ?_⟩
    rw [hil, hem, hdrop, har, List.take_left' (by simp [hLl])]
 ·rcases hh with ⟨hv, hn⟩ | ⟨b, cap, cur, hv, hgb, hcur, hnc, hcm, hcs, htk⟩
  ·omega
  ·simp only [Value.slice.injEq] at hv
   obtain ⟨rfl, _, rfl⟩ := hv
   have hcur' : w.heap[b]? = some (.cells cur.toList.toArray 3 (0, 0)) := by simpa using hcur
   have hbg : g ≠ b := fun e => hne (by rw [e]; rfl)
   have hcells : ∀ j v, L[j]? = some v → w.cell? ⟨b, 0 + j, none⟩ = some v := fun j v hv => by
    rw [cell_of_row w b _ cur _ (0, 0) hcur, Nat.zero_add]
    have hj : j < l.length := by rw [← hLl]; exact (gEs hv).1
    rw [← htk, List.getElem?_take_of_lt (by omega)] at hv
    simpa using hv
   by_cases hroom : l.length + 1 ≤ c
   ·have hcur0 : cur.toList.length ≠ 0 := by rw [Array.length_toList]; omega
    refine (Any2.slices_Insert_int_shift layI b 0 l.length c i g 0 1 1 L [.int .i64 x] w (by omega) (by omega) hroom (by unfold maxLen at hcm; omega) hbg hLl rfl hcells (fun j hj => ?_) (fun j hj => frozen_of_row w b _ cur _ hcur) hvs h1c h1v _ _ _ _ (shape_of hg) (shape_of hcur') hcur0 (frozen_of_row w g _ _ _ hg) (frozen_of_row w g _ _ _ hg)).mono ?_
    ·rw [cell_of_row w b _ cur _ (0, 0) hcur]
     simp
     omega
    ·rintro e w' ⟨rfl, rfl⟩
     obtain ⟨a1, a2, a3, a4, a5, a6⟩ := setCells_block (w := w.drew) (L.drop i) (0 + (i + 1)) cur.toList hcur'
     obtain ⟨b1, b2, b3, b4, b5, b6⟩ := setCells_block [Value.int .i64 x] (0 + i) _ a1
     refine ⟨_, _, rfl, ⟨b4.trans a4, b5.trans a5, b6.trans a6, by rw [b3, a3]; exact Nat.le_refl _, fun k _ hk => (b2 k fun e => hk (by rw [e]; rfl)).trans (a2 k fun e => hk (by rw [e]; rfl))⟩, own_row hgb b1 (by rw [putL_length, putL_length]; simp [hcs]) (by rw [hil]; omega) hcm ?_⟩
     rw [hil, hem]
     refine ins_take hLl hi (by rw [putL_length, putL_length]; simp; omega) (fun p hp => ?_) ?_ (fun p h1 h2 => ?_)
     ·rw [putL_ahead (by omega), putL_ahead (by omega), ← htk, List.getElem?_take_of_lt (by omega)]
     ·have := putL_at (vs := [Value.int .i64 x]) (cs := putL cur.toList (0 + (i + 1)) (L.drop i)) (o := 0 + i) (j := 0) (v := .int .i64 x) (by rw [putL_length]; simp; omega) rfl
      simpa using this
     ·rw [putL_after (by simp; omega)]
      have hv : (L.drop i)[p - i]? = L[p]? := by rw [List.getElem?_drop]; congr 1; omega
      have hp : p < L.length := by omega
      rw [gEg hp] at hv ⊢
      have := putL_at (vs := L.drop i) (cs := cur.toList) (o := 0 + (i + 1)) (j := p - i) (by simp; omega) hv
      rw [← this]
      congr 1
      omega
   ·refine (Any2.slices_Insert_int_grow layI b 0 l.length c i g 0 1 1 L [.int .i64 x] w (by omega) (by omega) hnc (by omega) (by omega) hLl rfl hcells hvs h1c h1v).mono ?_
    rintro e w' ⟨rfl, rfl⟩
    obtain ⟨q1, q2⟩ := newRow _ rfl
    generalize hG : grownCap w (l.length + 1) c 3 = G at q1 q2
    have hG2 : grownCap w (l.length + 1) c (layRenI.t 3) = G := hG
    simp only [hG2]
    have hz1 := zeros_length (l.length + 1 - i)
    have hz2 := zeros_length (G - (l.length + 1))
    generalize hZ1 : Builtin.zeroCells (Value.int .i64 0).cells (l.length + 1 - i) = Z1 at hz1
    generalize hZ2 : Builtin.zeroCells (Value.int .i64 0).cells (G - (l.length + 1)) = Z2 at hz2
    obtain ⟨ar, har⟩ : ∃ ar : List Value, ar = L.take i ++ Z1.toList ++ Z2.toList := ⟨_, rfl⟩
    have harr : (L.take i).toArray ++ Z1 ++ Z2 = ar.toArray := by rw [har]; simp
    have harl : ar.length = G := by rw [har]; simp only [List.length_append, hz1, hz2, List.length_take, hLl]; omega
    rw [harr]
    have hnew : (w.alloc (.cells ar.toArray (layRenI.t 3))).drew.heap[w.heap.size]? = some (.cells ar.toArray 3 (0, 0)) := by
     exact heap_alloc_new w (.cells ar.toArray 3)
    obtain ⟨a1, a2, a3, a4, a5, a6⟩ := setCells_block [Value.int .i64 x] i _ hnew
    obtain ⟨b1, b2, b3, b4, b5, b6⟩ := setCells_block (w := ((w.alloc (.cells ar.toArray (layRenI.t 3))).drew.setCells w.heap.size i [Value.int .i64 x]).drew) (L.drop i) (i + 1) _ a1
    refine ⟨_, _, rfl, ⟨?_, ?_, ?_, ?_, fun k hk _ => ?_⟩, own_row hb b1 (by rw [putL_length, putL_length]; exact harl) (by rw [hil]; exact q1) q2 ?_⟩
    ·exact b4.trans a4
    ·exact b5.trans a5
    ·exact b6.trans a6
    ·rw [b3]; show w.heap.size ≤ ((w.alloc (.cells ar.toArray (layRenI.t 3))).drew.setCells w.heap.size i [Value.int .i64 x]).heap.size; rw [a3]; show w.heap.size ≤ (w.alloc (.cells ar.toArray (layRenI.t 3))).heap.size; simp
    ·exact (b2 k (by omega)).trans ((a2 k (by omega)).trans (heap_alloc_old w _ hk))
    ·rw [hil, hem]
     refine ins_take hLl hi (by rw [putL_length, putL_length, harl]; omega) (fun p hp => ?_) ?_ (fun p h1 h2 => ?_)
     ·rw [putL_ahead (by omega), putL_ahead (by omega), har, List.append_assoc, List.getElem?_append_left (by simp; omega), List.getElem?_take_of_lt hp]
     ·rw [putL_ahead (by omega)]
      have := putL_at (vs := [Value.int .i64 x]) (cs := ar) (o := i) (j := 0) (v := .int .i64 x) (by rw [harl]; simp; omega) rfl
      simpa using this
     ·have hv : (L.drop i)[p - i]? = L[p]? := by rw [List.getElem?_drop]; congr 1; omega
      have hp : p < L.length := by omega
      rw [gEg hp] at hv ⊢
      have := putL_at (vs := L.drop i) (cs := putL ar i [Value.int .i64 x]) (o := i + 1) (j := p - i) (by rw [putL_length, harl]; simp; omega) hv
      rw [← this]
      congr 1
      omega
theorem kernel_know (w : World) (g p : Nat) (pre post : List Value) (A B C D : Value) (s0 s : ByteArray) (hpre : pre.length = p) (h1 : s0.size ≤ 1000000) (h2 : s.size ≤ 1000000)
  (hb : w.heap[g]? = some (.cells (winC pre [A, B, .string s0, C, D] post).toArray 58 (0, 0))) :
  Calls Try.prog 36 #[.pointer (some ⟨g, p, none⟩), .string s] w fun e w' => (∃ u, e = .returned u) ∧ St [g] w w' [(g, 58, winC pre [A, B, .string (knowT s0 s), C, D] post)] := by
 have st := St.hand hb
 clear hb
 have hsz : (s0 ++ s).size = s0.size + s.size := ByteArray.size_append
 have HK := qh (show knowT s0 s = (s0 ++ s).extract ((s0 ++ s).size - 64) (s0 ++ s).size from rfl)
 have hle : (s0 ++ s).size ≤ 2000000 := by omega
 clear hsz
 go_enter Try.func36, Try.ntmps36
 go_wp2_with (first | go_skip | (with_reducible refine at_load 9 ?_; (first | refine mem_loadW st 9 _ rfl (wanted_none rfl) Try.isAgg9 2 ?_ | (refine mem_loadW st 9 _ rfl (wanted_some rfl ?_) Try.isAgg9 2 ?_; focus (simp [yielded, Act.put]; done))); refine ⟨0, _, _, _, _, _, _, _, hpre, rfl, rfl, rfl, ?_⟩) | (with_reducible refine at_store 9 ?_; refine mem_storeW st 9 _ _ rfl (wanted_none rfl) _ Try.sizeOf9 2 ?_; refine ⟨0, _, _, _, _, _, _, _, hpre, rfl, rfl, rfl, rfl, rfl, rfl, ?_⟩; clear st; intro w1 st hw1m hw1z; simp [Act.eval, Act.put, Value.cells, putL] at st))
 clear hw1m hw1z
 have st := st.drew
 have hI := st
 generalize hS : s0 ++ s = S at *
 refine lex_tail (by kernel_rfl) 15 1 [15] rfl (by decide +kernel) (fun W => St [g] w W [(g, 58, winC pre [A, B, .string S, C, D] post)]) ?_
 refine lexS 0 rfl hI ?_
 refine lexS 1 rfl hI ?_
 refine lexS 2 rfl hI ?_
 refine lexS 3 rfl hI ?_
 refine lexT 4 rfl hI (fun W hW => St.run_loadW hW 0 9 _ rfl Try.isAgg9 2 hpre rfl rfl rfl) ?_
 refine lexS 5 rfl hI ?_
 refine lexS 6 rfl hI ?_
 refine lexS 7 rfl hI ?_
 refine lexT 8 rfl hI (fun W hW => St.run_loadW hW 0 9 _ rfl Try.isAgg9 2 hpre rfl rfl rfl) ?_
 refine lexS 9 rfl hI ?_
 refine lexS 10 rfl hI ?_
 obtain ⟨m, hm⟩ : ∃ m, m = S.size - 64 := ⟨_, rfl⟩
 have hw1 : IntKind.i64.wrap ((S.size : Int) - 64) = (S.size : Int) - 64 := IntWalk.i64_in _ (by omega)
 have hml : m ≤ S.size := by omega
 have HM := qh hm
 have h64 : ((if 64 < (S.size : Int) then (S.size : Int) - 64 else 0) : Int) = (m : Int) := by split <;> omega
 clear hm
 refine lexT (v := .int .i64 (m : Int)) 11 rfl hI (fun W hW => by (first | (go_simp; done) | (go_simp; omega))) ?_
 clear h64 hw1
 refine lexT (v := .string (S.extract m S.size)) 12 rfl hI (fun W hW => by (go_simp; done)) ?_
 refine lexS 13 rfl hI ?_
 refine lexS 14 rfl hI ?_
 clear hI
 refine lex_done (by decide +kernel) ?_
 refine tail_last 15 rfl (by first | exact wanted_none rfl | exact wanted_some rfl rfl) (by decide +kernel) (by decide +kernel) fun K hK => ?_
 refine wp_storeW st 9 _ _ rfl _ Try.sizeOf9 2 ?_; refine ⟨0, _, _, _, _, _, _, _, hpre, rfl, rfl, rfl, rfl, rfl, rfl, ?_⟩; clear st; intro w2 st hw2m hw2z; simp [Act.eval, Act.put, Value.cells, putL] at st
 refine hK _ _ ?_; clear hK hw2m hw2z
 rw [HM.out, ← HK.out] at st
 first | (go_wp2; go_end0; exact ⟨⟨_, rfl⟩, st⟩) | (go_end0; exact ⟨⟨_, rfl⟩, st⟩) | (refine bodyPost_ret (v := .tuple #[]) (by simp [results, Try.results36, go_sem]) rfl ⟨⟨_, rfl⟩, st⟩)
theorem insAt_insI {l : List Int} {x : Int} (h : Rising l) (hx : x ∉ l) : insAt l (l.countP (·< x)) x = insI x l := by
 induction l with
 | nil => rfl
 | cons y l ih =>
  have hr := List.pairwise_cons.1 h
  have hy : x ≠ y := fun e => hx (by simp [e])
  have hxl : x ∉ l := fun e => hx (by simp [e])
  by_cases hlt : y < x
  ·rw [List.countP_cons_of_pos (by simpa using hlt)]
   have := ih hr.2 hxl
   unfold insAt at this ⊢
   simp only [List.take_succ_cons, List.drop_succ_cons, List.cons_append]
   rw [this, insI.eq_2, if_neg (by omega), if_neg (by omega)]
  ·have h0 : (y :: l).countP (·< x) = 0 := by
    rw [List.countP_eq_zero]
    intro z hz
    simp only [decide_eq_true_eq]
    rcases List.mem_cons.1 hz with rfl | hz
    ·exact hlt
    ·have := hr.1 z hz; omega
   rw [h0, insI.eq_2, if_pos (by omega)]
   rfl
theorem kernel_own (ok : Nat → Prop) (w : World) (g p : Nat) (pre post : List Value) (A C D E : Value) (oa : Option Addr) (oc : Nat) (own : List Int) (c : Int) (hpre : pre.length = p) (hr : Rising own) (hl : own.length ≤ 8) (hR : SlR ok w 1 RInt oa oc own) (hg : ¬ ok g)
  (hb : w.heap[g]? = some (.cells (winC pre [A, .slice oa own.length oc, C, D, E] post).toArray 58 (0, 0))) :
  Calls Try.prog 33 #[.pointer (some ⟨g, p, none⟩), .int .i64 c] w fun e w' => ∃ oa' oc', e = .returned (.int .i64 (ownC own c).2) ∧ St [g] w w' [(g, 58, winC pre [A, .slice oa' (ownC own c).1.length oc', C, D, E] post)] ∧ SlR (fun b => ok b ∨ w.heap.size ≤ b) w' 1 RInt oa' oc' (ownC own c).1 := by
 have hgl := (Array.getElem?_eq_some_iff.1 hb).1
 have st := St.hand hb
 clear hb
 have HS := qh (fun W (hW : SlR ok W 1 RInt oa oc own) => slices_Search_int ok W oa oc own c (by omega) hW hr)
 have HKp := qh (show ∀ (W : World) (bl : Blks), St [g] w W bl → Keeps ok w W from fun W bl s => s.keeps (by simpa using hg))
 by_cases hc : c ∈ own
 ·have HE := qh (show ownC own c = (own, 0) by unfold ownC; rw [if_pos hc])
  have hd : decide (c ∈ own) = true := by simpa using hc
  rw [hd] at HS
  clear hc hd
  go_enter Try.func33, Try.ntmps33
  go_wp2_with (first | go_skip | (with_reducible refine at_load 31 ?_; (first | refine mem_loadW st 31 _ rfl (wanted_none rfl) Try.isAgg31 1 ?_ | (refine mem_loadW st 31 _ rfl (wanted_some rfl ?_) Try.isAgg31 1 ?_; focus (simp [yielded, Act.put]; done))); refine ⟨0, _, _, _, _, _, _, _, hpre, rfl, rfl, rfl, ?_⟩) | (go_at_call 51; go_must (refine (HS.out _ hR).mono ?_; rintro e v1 ⟨rfl, hb1⟩; replace st := st.call hb1; clear hb1)))
  go_ret
  rw [HE.out]
  exact ⟨oa, oc, rfl, st, (hR.keep (HKp.out _ _ st)).okay fun _ h => .inl h⟩
 ·have hd : decide (c ∈ own) = false := by simpa using hc
  rw [hd] at HS
  by_cases h8 : 8 ≤ own.length
  ·have HE := qh (show ownC own c = (own, 5) by unfold ownC; rw [if_neg hc, if_pos h8])
   clear hc hd
   go_enter Try.func33, Try.ntmps33
   go_wp2_with (first | go_skip | (with_reducible refine at_load 31 ?_; (first | refine mem_loadW st 31 _ rfl (wanted_none rfl) Try.isAgg31 1 ?_ | (refine mem_loadW st 31 _ rfl (wanted_some rfl ?_) Try.isAgg31 1 ?_; focus (simp [yielded, Act.put]; done))); refine ⟨0, _, _, _, _, _, _, _, hpre, rfl, rfl, rfl, ?_⟩) | (go_at_call 51; go_must (refine (HS.out _ hR).mono ?_; rintro e v1 ⟨rfl, hb1⟩; replace st := st.call hb1; clear hb1)))
   go_ret
   rw [HE.out]
   exact ⟨oa, oc, rfl, st, (hR.keep (HKp.out _ _ st)).okay fun _ h => .inl h⟩
  ·have HE := qh (show ownC own c = (insI c own, 0) by unfold ownC; rw [if_neg hc, if_neg h8])
   have HI := qh (insAt_insI hr hc)
   have hcl : own.countP (·< c) ≤ own.length := List.countP_le_length
   generalize own.countP (·< c) = i at HS HI hcl
   clear hc hd
   go_enter Try.func33, Try.ntmps33
   go_wp2_with (first
    | go_skip | (with_reducible refine at_load 31 ?_; (first | refine mem_loadW st 31 _ rfl (wanted_none rfl) Try.isAgg31 1 ?_ | (refine mem_loadW st 31 _ rfl (wanted_some rfl ?_) Try.isAgg31 1 ?_; focus (simp [yielded, Act.put]; done))); refine ⟨0, _, _, _, _, _, _, _, hpre, rfl, rfl, rfl, ?_⟩)
    | (go_at_call 51; go_must (refine (HS.out _ hR).mono ?_; rintro e v1 ⟨rfl, hb1⟩; replace st := st.call hb1; clear hb1))
    | (go_at_call 53; go_must (have hz1 := st.size; refine (slices_Clone_int ok _ oa oc own (by omega) (hR.keep (HKp.out _ _ st))).mono ?_; rintro e v2 ⟨a2, c2, rfl, hb2, hO⟩; have hz2 := hb2.size; replace st := st.call hb2; clear hb2))
    | ((with_reducible refine at_build1 31 ?_; refine wpList_build1 st (wanted_none rfl) 31 3 _ rfl Try.underlying31 1 Try.sizeOf3 (by decide) (by decide) _ Try.zeroValue3 _ rfl rfl ?_; have stw3 := st; clear st; intro g3 w3 hg3 hg3e st hw3b hw3z; simp [Act.eval, Act.put, Value.cells, putL] at st); have ha3 : a2.map (·.block) ≠ some g3 := (fun e => by have := (hO.blockLt _ e).2; omega); clear hg3e))
   have hO3 := (hO.below hw3b).le hz1
   have hw3s := hw3b.size
   have hil : (insAt own i c).length = own.length + 1 := by simp [insAt]; omega
   refine (slices_Insert_int w.heap.size _ a2 c2 g3 i own c (by omega) hcl hO3 (st.blk _ (mgE (i := 1) rfl)) ha3 (by omega)).mono ?_
   rintro e v4 ⟨a4, c4, rfl, hgr, hO4⟩
   replace st := st.grownNew hgr (fun k hk => (hO3.blockLt k hk).1) (by
    intro x hx e
    have := (hO3.blockLt _ e).1
    simp at hx
    rcases hx with rfl | rfl
    ·simp only at this; omega
    ·exact ha3 e)
   clear hgr hw3b hw3z hO stw3 hw3s
   have HO := qh hO4
   clear hO4 hO3 ha3
   go_wp2_with (first | go_skip | (with_reducible refine at_store 31 ?_; refine mem_storeW st 31 _ _ rfl (wanted_none rfl) _ Try.sizeOf31 1 ?_; refine ⟨0, _, _, _, _, _, _, _, hpre, rfl, rfl, rfl, rfl, rfl, rfl, ?_⟩; clear st; intro w5 st hw5m hw5z; simp [Act.eval, Act.put, Value.cells, putL] at st))
   go_ret
   rw [HE.out]
   rw [← hil, HI.out] at st
   have hO4 := HO.out
   rw [HI.out] at hO4
   refine ⟨a4, c4, rfl, st.sub (by simp) (by simp), ((hO4.slr (ok := fun b => w.heap.size ≤ b) fun _ h => h).keep ⟨by omega, fun b hb ho => hw5m b (by omega)⟩).okay fun _ h => .inr h⟩
theorem kernel_object_some (w : World) (g t : Nat) (ht : t < 4) (pre post : List Value) (A B C E : Value) (gb off bc m n : Nat) (hpre : pre.length = 1 + t * 5) (hn : n < m) (hm : m ≤ bc) (hbc : bc ≤ maxLen)
  (hb : w.heap[g]? = some (.cells (winC pre [A, B, C, .slice (some ⟨gb, off, none⟩) m bc, E] post).toArray 58 (0, 0))) :
  Calls Try.prog 35 #[.pointer (some ⟨g, 0, none⟩), .int .i64 t, .int .i64 n] w fun e w' => e = .returned (.pointer (some ⟨gb, off + n * 2, none⟩)) ∧ w = w' := by
 have st := St.hand hb
 clear hb
 unfold maxLen at hbc
 have d1 : decide ((t : Int) < 0) = false := by simp
 have d2 : decide ((4 : Int) ≤ t) = false := by simp; omega
 have d3 : decide ((n : Int) < 0) = false := by simp
 have d4 : decide ((m : Int) ≤ n) = false := by simp; omega
 go_enter Try.func35, Try.ntmps35
 go_wp2_with (first | go_skip | (with_reducible refine at_load 32 ?_; (first | refine mem_loadW st 32 _ rfl (wanted_none rfl) Try.isAgg32 3 ?_ | (refine mem_loadW st 32 _ rfl (wanted_some rfl ?_) Try.isAgg32 3 ?_; focus (simp [yielded, Act.put]; done))); refine ⟨0, _, _, _, _, _, _, _, hpre, rfl, rfl, rfl, ?_⟩))
 go_ret
 exact ⟨rfl, rfl⟩
theorem kernel_object_far (w : World) (g : Nat) (t n : Int) (h : t < 0 ∨ 4 ≤ t ∨ n < 0) :
  Calls Try.prog 35 #[.pointer (some ⟨g, 0, none⟩), .int .i64 t, .int .i64 n] w fun e w' => e = .returned (.pointer none) ∧ w = w' := by
 rcases or3 (decide (t < 0)) (decide (4 ≤ t)) (decide (n < 0)) with d | ⟨d0, d⟩ | ⟨d0, d1, d⟩ | ⟨d0, d1, d⟩
 case inr.inr.inr => simp at d0 d1 d; omega
 all_goals
  go_enter Try.func35, Try.ntmps35
  go_wp2_with (first | go_skip | fail)
  go_ret
  exact ⟨rfl, rfl⟩
theorem kernel_object_none (w : World) (g t : Nat) (ht : t < 4) (pre post : List Value) (A B C E : Value) (ba : Option Addr) (bc m n : Nat) (hpre : pre.length = 1 + t * 5) (hn : m ≤ n) 
  (hb : w.heap[g]? = some (.cells (winC pre [A, B, C, .slice ba m bc, E] post).toArray 58 (0, 0))) :
  Calls Try.prog 35 #[.pointer (some ⟨g, 0, none⟩), .int .i64 t, .int .i64 n] w fun e w' => e = .returned (.pointer none) ∧ w = w' := by
 have st := St.hand hb
 clear hb
 have d1 : decide ((t : Int) < 0) = false := by simp
 have d2 : decide ((4 : Int) ≤ t) = false := by simp; omega
 have d3 : decide ((n : Int) < 0) = false := by simp
 have d4 : decide ((m : Int) ≤ n) = true := by simp; omega
 go_enter Try.func35, Try.ntmps35
 go_wp2_with (first | go_skip | (with_reducible refine at_load 32 ?_; (first | refine mem_loadW st 32 _ rfl (wanted_none rfl) Try.isAgg32 3 ?_ | (refine mem_loadW st 32 _ rfl (wanted_some rfl ?_) Try.isAgg32 3 ?_; focus (simp [yielded, Act.put]; done))); refine ⟨0, _, _, _, _, _, _, _, hpre, rfl, rfl, rfl, ?_⟩))
 go_ret
 exact ⟨rfl, rfl⟩
end Go.Proofs.Ytealbofmlieicaa
