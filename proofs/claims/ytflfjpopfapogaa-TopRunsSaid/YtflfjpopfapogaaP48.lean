/- Walks and plain laws that the claim rests on, part 48. -/
import Derived.Test.YtflfjpopfapogaaP47
import Derived.Test.YtflfjpopfapogaaP41
set_option linter.unusedSimpArgs false
set_option linter.unusedVariables false
/- The walk through cluster.Run. -/
namespace Go.Proofs.Ytflfjpopfapogaa
open Go.RowKit
noncomputable def doAll (C : Clu) : List Deed → Clu
 | [] => C
 | a :: l => doAll (doC C a).1 l
noncomputable def repsOf (C : Clu) : List Deed → List Rep
 | [] => []
 | a :: l => (doC C a).2 :: repsOf (doC C a).1 l
theorem doAll_snoc (a : Deed) : ∀ (l : List Deed) (C : Clu), doAll C (l ++ [a]) = (doC (doAll C l) a).1 ∧ repsOf C (l ++ [a]) = repsOf C l ++ [(doC (doAll C l) a).2]
 | [], C => ⟨rfl, rfl⟩
 | b :: l, C => by
  obtain ⟨h1, h2⟩ := doAll_snoc a l (doC C b).1
  exact ⟨h1, by simp only [List.cons_append, repsOf, h2, doAll]⟩
theorem repsOf_len : ∀ (l : List Deed) (C : Clu), (repsOf C l).length = l.length
 | [], _ => rfl
 | a :: l, C => by simp [repsOf, repsOf_len l]
theorem doAll_take {l : List Deed} {k : Nat} (h : k < l.length) (C : Clu) : doAll C (l.take (k + 1)) = (doC (doAll C (l.take k)) l[k]).1 ∧ repsOf C (l.take (k + 1)) = repsOf C (l.take k) ++ [(doC (doAll C (l.take k)) l[k]).2] := by
 rw [List.take_succ_eq_append_getElem h]
 exact doAll_snoc _ _ _
def RRep (cs : List Value) (r : Rep) : Prop := cs = [.int .i64 r.code, .int .i64 r.n, .string r.text]
theorem Own.sameBlk {base : Nat} {e : TypeId} {w w' : World} {α : Type} {sz : Nat} {R : List Value → α → Prop} {g o c : Nat} {xs : List α} (h : Own base e w sz R (some ⟨g, o, none⟩) c xs) (hb : w'.heap[g]? = w.heap[g]?) : Own base e w' sz R (some ⟨g, o, none⟩) c xs := by
 obtain ⟨css, h1, h2, h3, h4⟩ := h
 refine ⟨css, h1, h2, h3, h4.1, ?_⟩
 rcases h4.2 with ⟨hv, _⟩ | ⟨k, cap, cur, hv, hk, hh, r⟩
 ·simp at hv
 ·simp only [Value.slice.injEq, Option.some.injEq, Addr.mk.injEq, and_true] at hv
  obtain ⟨⟨rfl, rfl⟩, -, rfl⟩ := hv
  exact .inr ⟨g, _, cur, rfl, hk, hb.trans hh, r⟩
theorem Own.noneW {base : Nat} {e : TypeId} {w : World} (w' : World) {α : Type} {sz : Nat} {R : List Value → α → Prop} {c : Nat} {xs : List α} (h : Own base e w sz R none c xs) : Own base e w' sz R none c xs := by
 obtain ⟨css, h1, h2, h3, h4⟩ := h
 refine ⟨css, h1, h2, h3, h4.1, ?_⟩
 rcases h4.2 with h5 | ⟨k, cap, cur, hv, hk, hh, r⟩
 ·exact .inl h5
 ·simp at hv
theorem Own.cellsOf {base : Nat} {e : TypeId} {w : World} {α : Type} {sz : Nat} {R : List Value → α → Prop} {g o c : Nat} {xs : List α} (h : Own base e w sz R (some ⟨g, o, none⟩) c xs) : ∃ cells : List Value, w.heap[g]? = some (.cells cells.toArray e (0, 0)) := by
 obtain ⟨css, h1, h2, h3, h4⟩ := h
 rcases h4.2 with ⟨hv, _⟩ | ⟨k, cap, cur, hv, hk, hh, r⟩
 ·simp at hv
 ·simp only [Value.slice.injEq, Option.some.injEq, Addr.mk.injEq, and_true] at hv
  obtain ⟨⟨rfl, rfl⟩, -, rfl⟩ := hv
  exact ⟨cur.toList, by rw [hh, Array.toArray_toList]⟩
theorem Clus.gcNew {w0 Wd W : World} {own : Blks} {X D : Nat → Prop} {gc : Nat} {kg : List Nat} {C : Clu} (P : Clus w0 [] own X Wd D gc kg C W) : w0.heap.size ≤ gc := by
 obtain ⟨ok, BB, na, nc, L, h⟩ := P.raw
 rcases (h.mine gc (mem_cluB.2 (.inl rfl))).1 with h1 | h1
 ·simp at h1
 ·exact h1
theorem St.appended {M : List Nat} {w w' : World} {a : Option Addr} {g : Nat} {T : TypeId} {cells : List Value} (h : w.grownBy w' (a.map (·.block))) (ha : ∀ b, a.map (·.block) = some b → b ∈ M) (hg : w'.heap[g]? = some (.cells cells.toArray T (0, 0))) (hat : a.map (·.block) = some g ∨ g = w.heap.size) : St M w w' [(g, T, cells)] :=
 ⟨h.os, h.tape, h.output, h.size, fun b hb hm => h.block b hb fun e => hm (ha b e.symm), by simp only [List.mem_singleton]; rintro x rfl; exact hg, by
  simp only [List.mem_singleton]
  rintro x rfl
  rcases hat with h1 | h1
  ·exact .inl (ha g h1)
  ·exact .inr (by simp only; omega), by simp⟩
theorem info_Reply : (Try.prog.info? 41).map (fun i => (i.zero, i.size, i.bytes)) = some (some (.agg #[.int .i64 0, .int .i64 0, .string .empty]), 3, 32) := by kernel_rfl
set_option maxRecDepth 100000 in
set_option maxHeartbeats 8000000 in
theorem cluster_Run (w : World) (okl : Nat → Prop) (l : List Deed) (la : Option Addr) (lc : Nat) (hR : SlR okl w 12 (RDeed okl w) la lc l) (hB : ∀ a ∈ l, a.call.label.length * 16 ≤ 140737488351232 ∧ a.call.grants.length * 8 ≤ 140737488351232) (h300 : l.length ≤ 300) :
  Calls Try.prog 14 #[.slice la l.length lc] w fun e w' => ∃ a c, e = .returned (.tuple #[.slice a l.length c, .int .i64 0]) ∧ Below w.heap.size w w' ∧ Own w.heap.size 41 w' 3 RRep a c (repsOf newC l) := by
 have d1 : decide ((300 : Int) < (l.length : Int)) = false := by simp; omega
 go_enter Try.func14, Try.ntmps14
 go_wp2_with (first | go_skip | (go_at_call 15; go_must (refine (cluster_New _).mono ?_; rintro e w1 ⟨gc, kg, rfl, P1⟩)))
 go_loopw [5, 14] (fun o j wr => ∃ (k : Nat) (a : Option Addr) (c : Nat) (bl : Blks), k ≤ l.length ∧ j = .int .i64 k ∧ o = .slice a k c ∧ Clus w [] bl (fun _ => False) w (fun _ => True) gc kg (doAll newC (l.take k)) wr ∧ Own w.heap.size 41 wr 3 RRep a c (repsOf newC (l.take k)) ∧
  ((bl = [] ∧ a = none) ∨ ∃ g cells, bl = [(g, 41, cells)] ∧ a = some ⟨g, 0, none⟩)) (fun _ j _ => l.length - (intOf j).toNat)
 case atStart => exact ⟨0, none, 0, [], Nat.zero_le _, rfl, rfl, P1, Own.nil _ _ _ _ _, .inl ⟨rfl, rfl⟩⟩
 case round =>
  clear P1
  obtain ⟨k, a0, c0, bl, hk, rfl, rfl, Pk, hO, hbl⟩ := hrel
  by_cases hkl : k < l.length
  case neg =>
   obtain rfl : k = l.length := by omega
   rw [List.take_of_length_le (Nat.le_refl _)] at hO Pk
   have hbw := (Pk.st.sub (own' := []) (by simp) List.Pairwise.nil).below
   clear Pk
   go_wp2_with (first | go_skip | fail)
   go_ret2
   exact ⟨a0, c0, rfl, hbw, hO⟩
  rcases hbl with ⟨rfl, rfl⟩ | ⟨g, cells, rfl, rfl⟩
  ·have hact := hR.2.2.2 k l[k] (by simp [hkl])
   obtain ⟨bb, oo, cs, hre, hok, hbb, hrd, -, -, hcc⟩ := hact
   obtain ⟨la1, lc1, ga1, gx1, rfl, h1, h2⟩ := hrd
   obtain ⟨hll, hgl⟩ := hB l[k] (List.getElem_mem _)
   have hst := doAll_take hkl newC
   obtain ⟨Ck, hCk⟩ : ∃ Ck, doAll newC (l.take k) = Ck := ⟨_, rfl⟩
   rw [hCk] at Pk hst
   generalize l[k] = a at h1 h2 hcc hll hgl hst
   obtain ⟨s2, hs2⟩ : ∃ s2, doC Ck a = s2 := ⟨_, rfl⟩
   rw [hs2] at hst
   have HST := Lib.hid hst
   have HS2 := Lib.hid hs2
   have hkp := Pk.kept
   have hcw : ∀ (j : Nat) (v : Value), _ → wr.cell? ⟨bb, oo + k * 12 + j, none⟩ = some v := fun j v hv => (hkp.cell (p := ⟨bb, oo + k * 12 + j, none⟩) hbb trivial).trans (hcc j v hv)
   have hgn := Pk.gcNew
   have hzr := Pk.st.size
   have HDo := Lib.hid (fun (V : World) (bl : Blks) (P8 : Clus w [] bl (fun _ => False) w (fun _ => True) gc kg Ck V) => cluster_Do P8 a (fun b => b < w.heap.size) (fun b hb => by omega) la1 lc1 ga1 gx1 hll hgl ((h1.fit (ok' := fun b => b < w.heap.size) (fun b hb _ => hb)).move P8.kept.size (fun b hb ho => ⟨ho, P8.kept.block b hb trivial⟩) fun _ _ r => r) ((h2.fit (ok' := fun b => b < w.heap.size) (fun b hb _ => hb)).move P8.kept.size (fun b hb ho => ⟨ho, P8.kept.block b hb trivial⟩) fun _ _ r => r))
   rw [HS2.out] at HDo
   unfold deedV RepV at HDo
   have hrl : (repsOf newC (l.take k)).length = k := by rw [repsOf_len, List.length_take]; omega
   have HRL := Lib.hid hrl
   obtain ⟨i0, hi, hz0, hz1, hz2⟩ := info_parts info_Reply
   have st := Pk.st.rebase
   simp only [List.map_cons, List.map_nil] at st
   clear h1 h2 hst hs2 hkp hrl hll hgl hok hCk
   subst hre
   go_wp2_with (first
    | go_skip
    | (with_reducible refine at_load 38 ?_; refine wpList_load_cells (wanted_none rfl) 38 _ rfl Try.isAgg38 _ Try.sizeOf38 bb (oo + k * 12) rfl [.int .i64 a.kind, .int .i64 a.h, .int .i64 a.t, .int .i64 a.n, .int .i64 a.call.kind, .int .i64 a.call.h, .int .i64 a.call.t, .int .i64 a.call.n, .int .i64 a.call.c, .slice la1 a.call.label.length lc1, .slice ga1 a.call.grants.length gx1, .string a.call.text] rfl hcw ?_)
    | (with_reducible refine at_alloc 38 ?_; refine mem_alloc st (wanted_none rfl) 38 rfl _ Try.zeroValue38 _ rfl ?_; clear st; intro g7 w7 hg7 st hg7b; clear hg7b; simp [Act.eval, Act.put, Value.cells, putL] at st) | (with_reducible refine at_store 38 ?_; refine memS st 38 _ _ rfl _ Try.sizeOf38 ⟨0, _, _, _, _, _, rfl, rfl, rfl, rfl, rfl, rfl, ?_⟩; clear st; intro w8 st hw8m hw8z; simp [Act.eval, Act.put, Value.cells, putL] at st) | (with_reducible refine at_load 38 ?_; refine memXA st 38 _ rfl Try.isAgg38 _ Try.sizeOf38 rfl ?_)
    | (go_at_call 16; go_must (refine (HDo.out _ _ (Pk.walk st)).mono ?_; rintro e V ⟨rfl, P9⟩; have stP := P9.st.rebase; clear st; have st := stP; clear stP; have hO9 := hO.noneW V; have hzV := P9.st.size))
    | (with_reducible refine at_build1 54 ?_; refine wpList_build1 st (wanted_none rfl) 54 41 _ rfl Try.underlying54 3 Try.sizeOf41 (by decide) (by decide) _ Try.zeroValue41 _ rfl rfl ?_; have stw22 := st; clear st; intro g22 w22 hg22 hg22e st hw22b hw22z; simp [Act.eval, Act.put, Value.cells, putL] at st)
    | (at_builtin; go_must (refine wpList_app1 (wanted_none rfl) _ _ 54 rfl 41 i0 _ 3 32 Try.underlying54 hi hz0 hz1 hz2 rfl (by decide) (y := s2.2) rfl HRL.out.symm (hO9.below hw22b) rfl (SlR.ofBlk (ok := fun _ => True) (R := RRep) (sz := 3) (x := s2.2) (st.blk _ (List.mem_of_getElem? (i := 1) rfl)) rfl rfl rfl trivial) (by rw [HRL.out]; omega) (by rw [HRL.out]; unfold maxLen; omega) (by have := hw22b.size; omega) ?_; intro g5 c5 w9 hO5 hgr hat hlt5)))
   obtain ⟨cells2, hc2⟩ := hO5.cellsOf
   have P11 := (P9.walk st).walk (St.appended hgr (by intro b hb; simp at hb ) hc2 hat)
   clear st P9 hO9 hgr hat
   go_roundw
   case rel => exact ⟨k + 1, _, c5, [(g5, _, cells2)], hkl, by go_num, rfl, by rw [HST.out.1]; exact P11, by rw [HST.out.2]; exact hO5, .inr ⟨g5, cells2, rfl, rfl⟩⟩
   case measure => simp [intOf] <;> omega
  ·have hact := hR.2.2.2 k l[k] (by simp [hkl])
   obtain ⟨bb, oo, cs, hre, hok, hbb, hrd, -, -, hcc⟩ := hact
   obtain ⟨la1, lc1, ga1, gx1, rfl, h1, h2⟩ := hrd
   obtain ⟨hll, hgl⟩ := hB l[k] (List.getElem_mem _)
   have hst := doAll_take hkl newC
   obtain ⟨Ck, hCk⟩ : ∃ Ck, doAll newC (l.take k) = Ck := ⟨_, rfl⟩
   rw [hCk] at Pk hst
   generalize l[k] = a at h1 h2 hcc hll hgl hst
   obtain ⟨s2, hs2⟩ : ∃ s2, doC Ck a = s2 := ⟨_, rfl⟩
   rw [hs2] at hst
   have HST := Lib.hid hst
   have HS2 := Lib.hid hs2
   have hkp := Pk.kept
   have hcw : ∀ (j : Nat) (v : Value), _ → wr.cell? ⟨bb, oo + k * 12 + j, none⟩ = some v := fun j v hv => (hkp.cell (p := ⟨bb, oo + k * 12 + j, none⟩) hbb trivial).trans (hcc j v hv)
   have hgn := Pk.gcNew
   have hzr := Pk.st.size
   have HDo := Lib.hid (fun (V : World) (bl : Blks) (P8 : Clus w [] bl (fun _ => False) w (fun _ => True) gc kg Ck V) => cluster_Do P8 a (fun b => b < w.heap.size) (fun b hb => by omega) la1 lc1 ga1 gx1 hll hgl ((h1.fit (ok' := fun b => b < w.heap.size) (fun b hb _ => hb)).move P8.kept.size (fun b hb ho => ⟨ho, P8.kept.block b hb trivial⟩) fun _ _ r => r) ((h2.fit (ok' := fun b => b < w.heap.size) (fun b hb _ => hb)).move P8.kept.size (fun b hb ho => ⟨ho, P8.kept.block b hb trivial⟩) fun _ _ r => r))
   rw [HS2.out] at HDo
   unfold deedV RepV at HDo
   have hrl : (repsOf newC (l.take k)).length = k := by rw [repsOf_len, List.length_take]; omega
   have HRL := Lib.hid hrl
   obtain ⟨i0, hi, hz0, hz1, hz2⟩ := info_parts info_Reply
   have st := Pk.st.rebase
   simp only [List.map_cons, List.map_nil] at st
   clear h1 h2 hst hs2 hkp hrl hll hgl hok hCk
   subst hre
   go_wp2_with (first
    | go_skip
    | (with_reducible refine at_load 38 ?_; refine wpList_load_cells (wanted_none rfl) 38 _ rfl Try.isAgg38 _ Try.sizeOf38 bb (oo + k * 12) rfl [.int .i64 a.kind, .int .i64 a.h, .int .i64 a.t, .int .i64 a.n, .int .i64 a.call.kind, .int .i64 a.call.h, .int .i64 a.call.t, .int .i64 a.call.n, .int .i64 a.call.c, .slice la1 a.call.label.length lc1, .slice ga1 a.call.grants.length gx1, .string a.call.text] rfl hcw ?_)
    | (with_reducible refine at_alloc 38 ?_; refine mem_alloc st (wanted_none rfl) 38 rfl _ Try.zeroValue38 _ rfl ?_; clear st; intro g7 w7 hg7 st hg7b; clear hg7b; simp [Act.eval, Act.put, Value.cells, putL] at st) | (with_reducible refine at_store 38 ?_; refine memS st 38 _ _ rfl _ Try.sizeOf38 ⟨1, _, _, _, _, _, rfl, rfl, rfl, rfl, rfl, rfl, ?_⟩; clear st; intro w8 st hw8m hw8z; simp [Act.eval, Act.put, Value.cells, putL] at st) | (with_reducible refine at_load 38 ?_; refine memXA st 38 _ rfl Try.isAgg38 _ Try.sizeOf38 rfl ?_)
    | (go_at_call 16; go_must (refine (HDo.out _ _ (Pk.walk st)).mono ?_; rintro e V ⟨rfl, P9⟩; have stP := P9.st.rebase; clear st; have st := stP; clear stP; have hO9 := hO.sameBlk ((P9.st.blk _ (List.mem_of_getElem? (i := 0) rfl)).trans (Pk.st.blk _ (List.mem_of_getElem? (i := 0) rfl)).symm); have hzV := P9.st.size))
    | (with_reducible refine at_build1 54 ?_; refine wpList_build1 st (wanted_none rfl) 54 41 _ rfl Try.underlying54 3 Try.sizeOf41 (by decide) (by decide) _ Try.zeroValue41 _ rfl rfl ?_; have stw22 := st; clear st; intro g22 w22 hg22 hg22e st hw22b hw22z; simp [Act.eval, Act.put, Value.cells, putL] at st)
    | (at_builtin; go_must (refine wpList_app1 (wanted_none rfl) _ _ 54 rfl 41 i0 _ 3 32 Try.underlying54 hi hz0 hz1 hz2 rfl (by decide) (y := s2.2) rfl HRL.out.symm (hO9.below hw22b) rfl (SlR.ofBlk (ok := fun _ => True) (R := RRep) (sz := 3) (x := s2.2) (st.blk _ (List.mem_of_getElem? (i := 2) rfl)) rfl rfl rfl trivial) (by rw [HRL.out]; omega) (by rw [HRL.out]; unfold maxLen; omega) (by have := hw22b.size; omega) ?_; intro g5 c5 w9 hO5 hgr hat hlt5)))
   obtain ⟨cells2, hc2⟩ := hO5.cellsOf
   have P11 := (P9.walk st).walk (St.appended hgr (by intro b hb; simp at hb ; subst hb; simp) hc2 hat)
   clear st P9 hO9 hgr hat
   go_roundw
   case rel => exact ⟨k + 1, _, c5, [(g5, _, cells2)], hkl, by go_num, rfl, by rw [HST.out.1]; exact P11, by rw [HST.out.2]; exact hO5, .inr ⟨g5, cells2, rfl, rfl⟩⟩
   case measure => simp [intOf] <;> omega
def deed1 : Deed := ⟨1, 2, 0, 0, ⟨1, 0, 0, 0, 0, [], [], ⟨#[]⟩⟩⟩
def deed2 : Deed := ⟨1, 2, 0, 0, ⟨6, 1, 3, 0, 0, [], [], ⟨#[104, 105]⟩⟩⟩
theorem alive_one : (doC newC deed1).2 = ⟨0, 40, ⟨#[]⟩⟩ := by rfl
set_option maxRecDepth 100000 in
theorem alive_two : (doC (doC newC deed1).1 deed2).2.code = 0 ∧ (doC (doC newC deed1).1 deed2).1.net.length = 1 := ⟨by rfl, by rfl⟩
open Go.RowKit
set_option maxRecDepth 100000 in
set_option maxHeartbeats 4000000 in
theorem top_alive (w : World) : Calls Try.prog 12 #[] w fun e w' => e = .returned (.bool true) ∧ Below w.heap.size w w' := by
 obtain ⟨C1, hC1⟩ : ∃ C1, doC newC deed1 = C1 := ⟨_, rfl⟩
 obtain ⟨C2, hC2⟩ : ∃ C2, doC C1.1 deed2 = C2 := ⟨_, rfl⟩
 have h1 := alive_one
 have h2 := alive_two
 rw [hC1] at h1 h2
 rw [hC2] at h2
 obtain ⟨h2, h3⟩ := h2
 have HD1 := Lib.hid (fun (gc : Nat) (kg : List Nat) (V : World) (bl : Blks) (P : Clus w [] bl (fun _ => False) w (fun _ => True) gc kg newC V) => cluster_Do P deed1 (fun _ => False) (fun _ h => h.elim) none 0 none 0 (by decide) (by decide) (SlR.nil _ _ _ _) (SlR.nil _ _ _ _))
 have HD2 := Lib.hid (fun (gc : Nat) (kg : List Nat) (V : World) (bl : Blks) (P : Clus w [] bl (fun _ => False) w (fun _ => True) gc kg C1.1 V) => cluster_Do P deed2 (fun _ => False) (fun _ h => h.elim) none 0 none 0 (by decide) (by decide) (SlR.nil _ _ _ _) (SlR.nil _ _ _ _))
 rw [hC1, h1] at HD1
 rw [hC2] at HD2
 unfold deedV RepV deed1 at HD1
 unfold deedV RepV deed2 at HD2
 have dn : ((C2.1.net.length : Int) == 1) = true := by rw [h3]; rfl
 rw [h2] at HD2
 clear hC1 hC2 h1 h2 h3
 go_enter Try.func12, Try.ntmps12
 go_upto_region 4 with (first | go_skip | (go_at_call 15; go_must (refine (cluster_New _).mono ?_; rintro e w1 ⟨gc, kg, rfl, P1⟩)))
 go_upto_region 5 with (first | go_skip | (go_at_call 16; go_must (refine (HD1.out gc kg _ _ P1).mono ?_; rintro e V2 ⟨rfl, P2⟩; have st := P2.st.rebase)) | (with_reducible refine at_alloc 41 ?_; refine mem_alloc st (wanted_none rfl) 41 rfl _ Try.zeroValue41 _ rfl ?_; clear st; intro g2 w2 hg2 st hg2b; clear hg2b; simp [Act.eval, Act.put, Value.cells, putL] at st) | (with_reducible refine at_store 41 ?_; refine memS st 41 _ _ rfl _ Try.sizeOf41 ⟨0, _, _, _, _, _, rfl, rfl, rfl, rfl, rfl, rfl, ?_⟩; clear st; intro w3 st hw3m hw3z; simp [Act.eval, Act.put, Value.cells, putL] at st))
 have P3 := P2.walk st
 go_upto_region 6 with (first | go_skip | (go_at_call 16; go_must (refine (HD2.out gc kg _ _ P3).mono ?_; rintro e V4 ⟨rfl, P4⟩; have stP := P4.st.rebase; clear st; have st := stP; clear stP)) | (with_reducible refine at_alloc 41 ?_; refine mem_alloc st (wanted_none rfl) 41 rfl _ Try.zeroValue41 _ rfl ?_; clear st; intro g4 w5 hg4 st hg4b; clear hg4b; simp [Act.eval, Act.put, Value.cells, putL] at st) | (with_reducible refine at_store 41 ?_; refine memS st 41 _ _ rfl _ Try.sizeOf41 ⟨1, _, _, _, _, _, rfl, rfl, rfl, rfl, rfl, rfl, ?_⟩; clear st; intro w6 st hw6m hw6z; simp [Act.eval, Act.put, Value.cells, putL] at st))
 have P5 := P4.walk st
 go_wp2_with (first | go_skip | (with_reducible refine at_load 3 ?_; refine memX st 3 _ rfl Try.isAgg3 rfl ?_) | (with_reducible refine at_load 39 ?_; refine memX st 39 _ rfl Try.isAgg39 rfl ?_) | (go_at_call 21; go_must (refine (cluster_Net P5).mono ?_; rintro e V7 ⟨a, c, rfl, hb7, -⟩)))
 go_ret
 exact ⟨rfl, ((P5.below hb7).st.sub (own' := []) (by simp) List.Pairwise.nil).below⟩
end Go.Proofs.Ytflfjpopfapogaa
