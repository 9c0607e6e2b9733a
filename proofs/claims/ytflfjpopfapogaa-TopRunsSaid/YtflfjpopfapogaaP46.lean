/- Walks and plain laws that the claim rests on, part 46. -/
import Derived.Test.YtflfjpopfapogaaP45
import Derived.Test.YtflfjpopfapogaaP26
set_option linter.unusedSimpArgs false
set_option linter.unusedVariables false
/- The walk through the cluster's Do: no more acts; calls; time; what is no act. -/
namespace Go.Proofs.Ytflfjpopfapogaa
open Go.RowKit
def deedV (a : Deed) (la : Option Addr) (lc : Nat) (ga : Option Addr) (gx : Nat) : Value := .agg #[.int .i64 a.kind, .int .i64 a.h, .int .i64 a.t, .int .i64 a.n, .int .i64 a.call.kind, .int .i64 a.call.h, .int .i64 a.call.t, .int .i64 a.call.n, .int .i64 a.call.c, .slice la a.call.label.length lc, .slice ga a.call.grants.length gx, .string a.call.text]
section
variable {w0 Wd W : World} {M0 : List Nat} {own : Blks} {X D : Nat → Prop} {gc : Nat} {kg : List Nat} {C : Clu}
theorem Clu.ok.acting {C : Clu} (h : C.ok) (ha : ¬ 300 ≤ C.acts) : ({ C with acts := C.acts + 1 } : Clu).ok := ⟨h.now, h.kerN, h.ker, h.certN, h.cert, h.lineN, h.line, h.netN, h.net, by have := h.acts; simp only; omega⟩
set_option maxRecDepth 100000 in
set_option maxHeartbeats 4000000 in
theorem cluster_do_full (P : Clus w0 M0 own X Wd D gc kg C W) (a : Deed) (la : Option Addr) (lc : Nat) (ga : Option Addr) (gx : Nat) (ha : 300 ≤ C.acts) :
  Calls Try.prog 16 #[.pointer (some ⟨gc, 0, none⟩), deedV a la lc ga gx] W fun e W' => e = .returned (RepV (errR 5)) ∧ Clus w0 M0 own X Wd D gc kg C W' := by
 obtain ⟨ok0, BB0, na0, nc0, L0, hA0, -, -, -⟩ := P.open
 have HCA := Lib.hid (fun (U : World) (hb : Below W.heap.size W U) => hA0.cellB hb hA0.cells.acts)
 clear hA0
 have da : decide ((300 : Int) ≤ C.acts) = true := by simpa using ha
 have st := St.start W
 unfold deedV
 go_enter Try.func16, Try.ntmps16
 go_upto_region 3 with (first | go_skip | (with_reducible refine at_box 38 ?_; refine mem_box st (wanted_none rfl) 38 _ rfl _ rfl _ rfl ?_; clear st; intro g3 w3 hg3 st hg3b; clear hg3b; simp [Act.eval, Act.put, Value.cells, putL] at st) | (with_reducible refine at_alloc 41 ?_; refine mem_alloc st (wanted_none rfl) 41 rfl _ Try.zeroValue41 _ rfl ?_; clear st; intro g4 w4 hg4 st hg4b; clear hg4b; simp [Act.eval, Act.put, Value.cells, putL] at st))
 have f0 := HCA.out _ st.below
 go_wp2_with (first | go_skip | (with_reducible refine at_store 41 ?_; refine memS st 41 _ _ rfl _ Try.sizeOf41 ⟨1, _, _, _, _, _, rfl, rfl, rfl, rfl, rfl, rfl, ?_⟩; clear st; intro w5 st hw5m hw5z; simp [Act.eval, Act.put, Value.cells, putL] at st))
 have hc := fun j => st.cell (i := 1) rfl j
 refine bodyPost_ret (v := RepV (errR 5)) ?hr rfl ⟨rfl, P.below st.below⟩
 case hr => simp [results, Try.results16, go_sem, hc, RepV, errR]; try rfl
set_option maxRecDepth 100000 in
set_option maxHeartbeats 4000000 in
theorem cluster_do_kind (P : Clus w0 M0 own X Wd D gc kg C W) (ha : ¬ 300 ≤ C.acts) (a : Deed) (la : Option Addr) (lc : Nat) (ga : Option Addr) (gx : Nat) (h1 : a.kind ≠ 1) (h2 : a.kind ≠ 2) (h3 : a.kind ≠ 3) (h4 : a.kind ≠ 4) (h5 : a.kind ≠ 5) :
  Calls Try.prog 16 #[.pointer (some ⟨gc, 0, none⟩), deedV a la lc ga gx] W fun e W' => e = .returned (RepV (errR 3)) ∧ Clus w0 M0 own X Wd D gc kg { C with acts := C.acts + 1 } W' := by
 unfold deedV
 have k1 : (a.kind == 1) = false := by simpa using h1
 have k2 : (a.kind == 2) = false := by simpa using h2
 have k3 : (a.kind == 3) = false := by simpa using h3
 have k4 : (a.kind == 4) = false := by simpa using h4
 have k5 : (a.kind == 5) = false := by simpa using h5
 clear h1 h2 h3 h4 h5
 obtain ⟨C6, hC6⟩ : ∃ C6 : Clu, ({ C with acts := C.acts + 1 } : Clu) = C6 := ⟨_, rfl⟩
 rw [hC6]
 have HC6 := Lib.hid hC6
 clear hC6
 have hact := P.okC.acts
 have hok5 := P.okC.acting ha
 obtain ⟨ok0, BB0, na0, nc0, L0, hA0, -, -, -⟩ := P.open
 have HCA := Lib.hid (fun (U : World) (hb : Below W.heap.size W U) => hA0.cellB hb hA0.cells.acts)
 have hgcW := hA0.gcLt
 clear hA0
 have da : decide ((300 : Int) ≤ C.acts) = false := by simpa using ha
 obtain ⟨B0, Y, Q, hB0, back⟩ := P.enter
 have st := St.start W
 go_enter Try.func16, Try.ntmps16
 go_upto_region 3 with (first | go_skip | (with_reducible refine at_box 38 ?_; refine mem_box st (wanted_none rfl) 38 _ rfl _ rfl _ rfl ?_; clear st; intro g3 w3 hg3 st hg3b; clear hg3b; simp [Act.eval, Act.put, Value.cells, putL] at st) | (with_reducible refine at_alloc 41 ?_; refine mem_alloc st (wanted_none rfl) 41 rfl _ Try.zeroValue41 _ rfl ?_; clear st; intro g4 w4 hg4 st hg4b; clear hg4b; simp [Act.eval, Act.put, Value.cells, putL] at st))
 have Q1 := Q.walk st
 have f0 := HCA.out _ st.below
 obtain ⟨ok, BB, na, nc, L, hQ⟩ := Q1.raw
 have hA := hQ.at_
 have hlen := hA.cells.len
 have stc := St.hand hA.blk
 have HST4 := Lib.hid st
 clear Q Q1 st HCA
 go_upto_region 6 with (first | go_skip | ((with_reducible refine at_store 3 ?_); go_must (refine mem_store stc (wanted_none rfl) 3 _ _ rfl gc 186 rfl (.int .i64 (C.acts + 1)) rfl [.int .i64 (C.acts + 1)] rfl Try.sizeOf3 (by simp [Value.oneCell']) 0 _ _ rfl (by simp only [List.length_cons, List.length_nil]; omega) ?_; intro w5 st5 hm5 hz5)))
 obtain ⟨ok2, hQ2⟩ := hQ.cells (C' := { C with acts := C.acts + 1 }) hok5 st5 (List.mem_of_getElem? (i := 0) rfl) ((hA.old st5).setActs (C.acts + 1)) rfl rfl
 have P2 := hQ2.clus
 have HOLD := Lib.hid (show W.heap.size ≤ w5.heap.size ∧ ∀ b, b < W.heap.size → b ≠ gc → w5.heap[b]? = W.heap[b]? from ⟨by have := HST4.out.size; omega, fun b hb hne => (hm5 b hne).trans (HST4.out.frame b hb (by simp))⟩)
 clear HST4 hQ hQ2 hA stc st5 hm5 hz5 hlen f0 da hact hok5 ha P
 rw [HC6.out] at P2
 have st := P2.st.rebase
 simp only [List.map_cons, List.map_nil] at st
 go_wp2_with (first | go_skip | (with_reducible refine at_load 3 ?_; refine memX st 3 _ rfl Try.isAgg3 rfl ?_) | (with_reducible refine at_store 41 ?_; refine memS st 41 _ _ rfl _ Try.sizeOf41 ⟨1, _, _, _, _, _, rfl, rfl, rfl, rfl, rfl, rfl, ?_⟩; clear st; intro w9 st hw9m hw9z; simp [Act.eval, Act.put, Value.cells, putL] at st))
 have hc := fun j => st.cell (i := 1) rfl j
 refine bodyPost_ret (v := RepV (errR 3)) ?hr rfl ⟨rfl, back _ _ _ (P2.walk st)⟩
 case hr => simp [results, Try.results16, go_sem, hc, RepV, errR]; try rfl
set_option maxRecDepth 100000 in
set_option maxHeartbeats 4000000 in
theorem cluster_do_nowhere (P : Clus w0 M0 own X Wd D gc kg C W) (ha : ¬ 300 ≤ C.acts) (a : Deed) (la : Option Addr) (lc : Nat) (ga : Option Addr) (gx : Nat) (h1 : a.kind = 1) (h4 : four a.h = false ∨ four a.t = false) :
  Calls Try.prog 16 #[.pointer (some ⟨gc, 0, none⟩), deedV a la lc ga gx] W fun e W' => e = .returned (RepV (errR 4)) ∧ Clus w0 M0 own X Wd D gc kg { C with acts := C.acts + 1 } W' := by
 unfold deedV
 have k1 : (a.kind == 1) = true := by simpa using h1
 have hd : decide (a.h < 0) = true ∨ (decide (a.h < 0) = false ∧ decide ((4 : Int) ≤ a.h) = true) ∨ (decide (a.h < 0) = false ∧ decide ((4 : Int) ≤ a.h) = false ∧ decide (a.t < 0) = true) ∨ (decide (a.h < 0) = false ∧ decide ((4 : Int) ≤ a.h) = false ∧ decide (a.t < 0) = false ∧ decide ((4 : Int) ≤ a.t) = true) := by
  simp only [decide_eq_true_eq, decide_eq_false_iff_not]
  have e1 := four_iff a.h
  have e2 := four_iff a.t
  rcases h4 with h4 | h4
  ·rw [h4] at e1; simp at e1; omega
  ·rw [h4] at e2; simp at e2; omega
 clear h1 h4
 obtain ⟨C6, hC6⟩ : ∃ C6 : Clu, ({ C with acts := C.acts + 1 } : Clu) = C6 := ⟨_, rfl⟩
 rw [hC6]
 have HC6 := Lib.hid hC6
 clear hC6
 have hact := P.okC.acts
 have hok5 := P.okC.acting ha
 obtain ⟨ok0, BB0, na0, nc0, L0, hA0, -, -, -⟩ := P.open
 have HCA := Lib.hid (fun (U : World) (hb : Below W.heap.size W U) => hA0.cellB hb hA0.cells.acts)
 have hgcW := hA0.gcLt
 clear hA0
 have da : decide ((300 : Int) ≤ C.acts) = false := by simpa using ha
 obtain ⟨B0, Y, Q, hB0, back⟩ := P.enter
 have st := St.start W
 go_enter Try.func16, Try.ntmps16
 go_upto_region 3 with (first | go_skip | (with_reducible refine at_box 38 ?_; refine mem_box st (wanted_none rfl) 38 _ rfl _ rfl _ rfl ?_; clear st; intro g3 w3 hg3 st hg3b; clear hg3b; simp [Act.eval, Act.put, Value.cells, putL] at st) | (with_reducible refine at_alloc 41 ?_; refine mem_alloc st (wanted_none rfl) 41 rfl _ Try.zeroValue41 _ rfl ?_; clear st; intro g4 w4 hg4 st hg4b; clear hg4b; simp [Act.eval, Act.put, Value.cells, putL] at st))
 have Q1 := Q.walk st
 have f0 := HCA.out _ st.below
 obtain ⟨ok, BB, na, nc, L, hQ⟩ := Q1.raw
 have hA := hQ.at_
 have hlen := hA.cells.len
 have stc := St.hand hA.blk
 have HST4 := Lib.hid st
 clear Q Q1 st HCA
 go_upto_region 6 with (first | go_skip | ((with_reducible refine at_store 3 ?_); go_must (refine mem_store stc (wanted_none rfl) 3 _ _ rfl gc 186 rfl (.int .i64 (C.acts + 1)) rfl [.int .i64 (C.acts + 1)] rfl Try.sizeOf3 (by simp [Value.oneCell']) 0 _ _ rfl (by simp only [List.length_cons, List.length_nil]; omega) ?_; intro w5 st5 hm5 hz5)))
 obtain ⟨ok2, hQ2⟩ := hQ.cells (C' := { C with acts := C.acts + 1 }) hok5 st5 (List.mem_of_getElem? (i := 0) rfl) ((hA.old st5).setActs (C.acts + 1)) rfl rfl
 have P2 := hQ2.clus
 have HOLD := Lib.hid (show W.heap.size ≤ w5.heap.size ∧ ∀ b, b < W.heap.size → b ≠ gc → w5.heap[b]? = W.heap[b]? from ⟨by have := HST4.out.size; omega, fun b hb hne => (hm5 b hne).trans (HST4.out.frame b hb (by simp))⟩)
 clear HST4 hQ hQ2 hA stc st5 hm5 hz5 hlen f0 da hact hok5 ha P
 rw [HC6.out] at P2
 have st := P2.st.rebase
 simp only [List.map_cons, List.map_nil] at st
 rcases hd with d1 | ⟨d1, d2⟩ | ⟨d1, d2, d3⟩ | ⟨d1, d2, d3, d4⟩
 all_goals
  go_wp2_with (first | go_skip | (with_reducible refine at_load 3 ?_; refine memX st 3 _ rfl Try.isAgg3 rfl ?_) | (with_reducible refine at_store 41 ?_; refine memS st 41 _ _ rfl _ Try.sizeOf41 ⟨1, _, _, _, _, _, rfl, rfl, rfl, rfl, rfl, rfl, ?_⟩; clear st; intro w9 st hw9m hw9z; simp [Act.eval, Act.put, Value.cells, putL] at st))
  have hc := fun j => st.cell (i := 1) rfl j
  refine bodyPost_ret (v := RepV (errR 4)) ?hr rfl ⟨rfl, back _ _ _ (P2.walk st)⟩
  case hr => simp [results, Try.results16, go_sem, hc, RepV, errR]; try rfl
set_option maxRecDepth 100000 in
set_option maxHeartbeats 4000000 in
theorem cluster_do_call (P : Clus w0 M0 own X Wd D gc kg C W) (ha : ¬ 300 ≤ C.acts) (n : Nat) (hn : n < 4) (t an : Int) (ht : four t = true) (x : Req) (okc : Nat → Prop) (hgo : ∀ b, okc b → b ≠ gc) (la : Option Addr) (lc : Nat) (ga : Option Addr) (gx : Nat) (hll : x.label.length * 16 ≤ 140737488351232) (hgl : x.grants.length * 8 ≤ 140737488351232) (hcl : SlR okc W 2 RLev la lc x.label) (hcg : SlR okc W 1 RInt ga gx x.grants) :
  Calls Try.prog 16 #[.pointer (some ⟨gc, 0, none⟩), deedV ⟨1, n, t, an, x⟩ la lc ga gx] W fun e W' => e = .returned (RepV (callC { C with acts := C.acts + 1 } n t x).2) ∧ Clus w0 M0 own X Wd D gc kg (callC { C with acts := C.acts + 1 } n t x).1 W' := by
 unfold deedV
 have d1 : decide ((n : Int) < 0) = false := by simp
 have d2 : decide ((4 : Int) ≤ n) = false := by simp; omega
 have et := (four_iff t).1 ht
 have d3 : decide (t < 0) = false := by simp; omega
 have d4 : decide ((4 : Int) ≤ t) = false := by simp; omega
 clear et
 obtain ⟨C6, hC6⟩ : ∃ C6 : Clu, ({ C with acts := C.acts + 1 } : Clu) = C6 := ⟨_, rfl⟩
 rw [hC6]
 have HC6 := Lib.hid hC6
 clear hC6
 obtain ⟨s2, hs2⟩ : ∃ s2, callC C6 n t x = s2 := ⟨_, rfl⟩
 rw [hs2]
 have HS2 := Lib.hid hs2
 have HT := Lib.hid ht
 have HD := Lib.hid (And.intro hcl hcg)
 clear hs2 ht hcl hcg
 have hact := P.okC.acts
 have hok5 := P.okC.acting ha
 obtain ⟨ok0, BB0, na0, nc0, L0, hA0, -, -, -⟩ := P.open
 have HCA := Lib.hid (fun (U : World) (hb : Below W.heap.size W U) => hA0.cellB hb hA0.cells.acts)
 have hgcW := hA0.gcLt
 clear hA0
 have da : decide ((300 : Int) ≤ C.acts) = false := by simpa using ha
 obtain ⟨B0, Y, Q, hB0, back⟩ := P.enter
 have st := St.start W
 go_enter Try.func16, Try.ntmps16
 go_upto_region 3 with (first | go_skip | (with_reducible refine at_box 38 ?_; refine mem_box st (wanted_none rfl) 38 _ rfl _ rfl _ rfl ?_; clear st; intro g3 w3 hg3 st hg3b; clear hg3b; simp [Act.eval, Act.put, Value.cells, putL] at st) | (with_reducible refine at_alloc 41 ?_; refine mem_alloc st (wanted_none rfl) 41 rfl _ Try.zeroValue41 _ rfl ?_; clear st; intro g4 w4 hg4 st hg4b; clear hg4b; simp [Act.eval, Act.put, Value.cells, putL] at st))
 have Q1 := Q.walk st
 have f0 := HCA.out _ st.below
 obtain ⟨ok, BB, na, nc, L, hQ⟩ := Q1.raw
 have hA := hQ.at_
 have hlen := hA.cells.len
 have stc := St.hand hA.blk
 have HST4 := Lib.hid st
 clear Q Q1 st HCA
 go_upto_region 6 with (first | go_skip | ((with_reducible refine at_store 3 ?_); go_must (refine mem_store stc (wanted_none rfl) 3 _ _ rfl gc 186 rfl (.int .i64 (C.acts + 1)) rfl [.int .i64 (C.acts + 1)] rfl Try.sizeOf3 (by simp [Value.oneCell']) 0 _ _ rfl (by simp only [List.length_cons, List.length_nil]; omega) ?_; intro w5 st5 hm5 hz5)))
 obtain ⟨ok2, hQ2⟩ := hQ.cells (C' := { C with acts := C.acts + 1 }) hok5 st5 (List.mem_of_getElem? (i := 0) rfl) ((hA.old st5).setActs (C.acts + 1)) rfl rfl
 have P2 := hQ2.clus
 have HOLD := Lib.hid (show W.heap.size ≤ w5.heap.size ∧ ∀ b, b < W.heap.size → b ≠ gc → w5.heap[b]? = W.heap[b]? from ⟨by have := HST4.out.size; omega, fun b hb hne => (hm5 b hne).trans (HST4.out.frame b hb (by simp))⟩)
 clear HST4 hQ hQ2 hA stc st5 hm5 hz5 hlen f0 da hact hok5 ha P
 rw [HC6.out] at P2
 have st := P2.st.rebase
 simp only [List.map_cons, List.map_nil] at st
 have HCL := Lib.hid (cluster_call P2 n hn t HT.out x okc la lc ga gx hll hgl (HD.out.1.move HOLD.out.1 (fun b hb ho => ⟨ho, HOLD.out.2 b hb (hgo b ho)⟩) fun _ _ r => r) (HD.out.2.move HOLD.out.1 (fun b hb ho => ⟨ho, HOLD.out.2 b hb (hgo b ho)⟩) fun _ _ r => r))
 rw [HS2.out] at HCL
 unfold RepV reqV at HCL
 go_wp2_with (first
  | go_skip | (with_reducible refine at_load 3 ?_; refine memX st 3 _ rfl Try.isAgg3 rfl ?_) | (with_reducible refine at_load 36 ?_; refine memXA st 36 _ rfl Try.isAgg36 _ Try.sizeOf36 rfl ?_)
  | (go_at_call 23; go_must (refine HCL.out.mono ?_; rintro e V2 ⟨rfl, P3⟩; have stP := P3.st.rebase; clear st; have st := stP; clear stP))
  | (with_reducible refine at_store 41 ?_; refine memS st 41 _ _ rfl _ Try.sizeOf41 ⟨1, _, _, _, _, _, rfl, rfl, rfl, rfl, rfl, rfl, ?_⟩; clear st; intro w9 st hw9m hw9z; simp [Act.eval, Act.put, Value.cells, putL] at st))
 have hc := fun j => st.cell (i := 1) rfl j
 refine bodyPost_ret (v := RepV (s2.2)) ?hr rfl ⟨rfl, back _ _ _ (P3.walk st)⟩
 case hr => simp [results, Try.results16, go_sem, hc, RepV, errR]; try rfl
set_option maxRecDepth 100000 in
set_option maxHeartbeats 4000000 in
theorem cluster_do_tick (P : Clus w0 M0 own X Wd D gc kg C W) (ha : ¬ 300 ≤ C.acts) (a : Deed) (la : Option Addr) (lc : Nat) (ga : Option Addr) (gx : Nat) (h5 : a.kind = 5) :
  Calls Try.prog 16 #[.pointer (some ⟨gc, 0, none⟩), deedV a la lc ga gx] W fun e W' => e = .returned (RepV (tickC { C with acts := C.acts + 1 } a.n).2) ∧ Clus w0 M0 own X Wd D gc kg (tickC { C with acts := C.acts + 1 } a.n).1 W' := by
 unfold deedV
 have k1 : (a.kind == 1) = false := by rw [h5]; rfl
 have k2 : (a.kind == 2) = false := by rw [h5]; rfl
 have k3 : (a.kind == 3) = false := by rw [h5]; rfl
 have k4 : (a.kind == 4) = false := by rw [h5]; rfl
 have k5 : (a.kind == 5) = true := by simpa using h5
 clear h5
 obtain ⟨C6, hC6⟩ : ∃ C6 : Clu, ({ C with acts := C.acts + 1 } : Clu) = C6 := ⟨_, rfl⟩
 rw [hC6]
 have HC6 := Lib.hid hC6
 clear hC6
 obtain ⟨s2, hs2⟩ : ∃ s2, tickC C6 a.n = s2 := ⟨_, rfl⟩
 rw [hs2]
 have HS2 := Lib.hid hs2
 clear hs2
 have hact := P.okC.acts
 have hok5 := P.okC.acting ha
 obtain ⟨ok0, BB0, na0, nc0, L0, hA0, -, -, -⟩ := P.open
 have HCA := Lib.hid (fun (U : World) (hb : Below W.heap.size W U) => hA0.cellB hb hA0.cells.acts)
 have hgcW := hA0.gcLt
 clear hA0
 have da : decide ((300 : Int) ≤ C.acts) = false := by simpa using ha
 obtain ⟨B0, Y, Q, hB0, back⟩ := P.enter
 have st := St.start W
 go_enter Try.func16, Try.ntmps16
 go_upto_region 3 with (first | go_skip | (with_reducible refine at_box 38 ?_; refine mem_box st (wanted_none rfl) 38 _ rfl _ rfl _ rfl ?_; clear st; intro g3 w3 hg3 st hg3b; clear hg3b; simp [Act.eval, Act.put, Value.cells, putL] at st) | (with_reducible refine at_alloc 41 ?_; refine mem_alloc st (wanted_none rfl) 41 rfl _ Try.zeroValue41 _ rfl ?_; clear st; intro g4 w4 hg4 st hg4b; clear hg4b; simp [Act.eval, Act.put, Value.cells, putL] at st))
 have Q1 := Q.walk st
 have f0 := HCA.out _ st.below
 obtain ⟨ok, BB, na, nc, L, hQ⟩ := Q1.raw
 have hA := hQ.at_
 have hlen := hA.cells.len
 have stc := St.hand hA.blk
 have HST4 := Lib.hid st
 clear Q Q1 st HCA
 go_upto_region 6 with (first | go_skip | ((with_reducible refine at_store 3 ?_); go_must (refine mem_store stc (wanted_none rfl) 3 _ _ rfl gc 186 rfl (.int .i64 (C.acts + 1)) rfl [.int .i64 (C.acts + 1)] rfl Try.sizeOf3 (by simp [Value.oneCell']) 0 _ _ rfl (by simp only [List.length_cons, List.length_nil]; omega) ?_; intro w5 st5 hm5 hz5)))
 obtain ⟨ok2, hQ2⟩ := hQ.cells (C' := { C with acts := C.acts + 1 }) hok5 st5 (List.mem_of_getElem? (i := 0) rfl) ((hA.old st5).setActs (C.acts + 1)) rfl rfl
 have P2 := hQ2.clus
 have HOLD := Lib.hid (show W.heap.size ≤ w5.heap.size ∧ ∀ b, b < W.heap.size → b ≠ gc → w5.heap[b]? = W.heap[b]? from ⟨by have := HST4.out.size; omega, fun b hb hne => (hm5 b hne).trans (HST4.out.frame b hb (by simp))⟩)
 clear HST4 hQ hQ2 hA stc st5 hm5 hz5 hlen f0 da hact hok5 ha P
 rw [HC6.out] at P2
 have st := P2.st.rebase
 simp only [List.map_cons, List.map_nil] at st
 have HTI := Lib.hid (cluster_tick P2 a.n)
 rw [HS2.out] at HTI
 unfold RepV at HTI
 go_wp2_with (first
  | go_skip | (with_reducible refine at_load 3 ?_; refine memX st 3 _ rfl Try.isAgg3 rfl ?_)
  | (go_at_call 26; go_must (refine HTI.out.mono ?_; rintro e V2 ⟨rfl, P3⟩; have stP := P3.st.rebase; clear st; have st := stP; clear stP))
  | (with_reducible refine at_store 41 ?_; refine memS st 41 _ _ rfl _ Try.sizeOf41 ⟨1, _, _, _, _, _, rfl, rfl, rfl, rfl, rfl, rfl, ?_⟩; clear st; intro w9 st hw9m hw9z; simp [Act.eval, Act.put, Value.cells, putL] at st))
 have hc := fun j => st.cell (i := 1) rfl j
 refine bodyPost_ret (v := RepV (s2.2)) ?hr rfl ⟨rfl, back _ _ _ (P3.walk st)⟩
 case hr => simp [results, Try.results16, go_sem, hc, RepV, errR]; try rfl
end
open Go.RowKit
section
variable {w0 Wd W : World} {M0 : List Nat} {own : Blks} {X D : Nat → Prop} {gc : Nat} {kg : List Nat} {C : Clu}
theorem Clu.ok.erase {C : Clu} (h : C.ok) (i : Nat) : ({ C with net := C.net.eraseIdx i } : Clu).ok := ⟨h.now, h.kerN, h.ker, h.certN, h.cert, h.lineN, h.line, Nat.le_trans (List.length_eraseIdx_le _ _) h.netN, fun s hs => h.net s (List.mem_of_mem_eraseIdx hs), h.acts⟩
set_option maxRecDepth 100000 in
set_option maxHeartbeats 8000000 in
theorem cluster_do_none (P : Clus w0 M0 own X Wd D gc kg C W) (ha : ¬ 300 ≤ C.acts) (kind h t an : Int) (x : Req) (la : Option Addr) (lc : Nat) (ga : Option Addr) (gx : Nat) (hk : kind = 2 ∨ kind = 3 ∨ kind = 4) (hb : an < 0 ∨ (C.net.length : Int) ≤ an) :
  Calls Try.prog 16 #[.pointer (some ⟨gc, 0, none⟩), deedV ⟨kind, h, t, an, x⟩ la lc ga gx] W fun e W' => e = .returned (RepV (errR 4)) ∧ Clus w0 M0 own X Wd D gc kg { C with acts := C.acts + 1 } W' := by
 unfold deedV
 have hb2 : decide (an < 0) = true ∨ (decide (an < 0) = false ∧ decide ((C.net.length : Int) ≤ an) = true) := by
  simp only [decide_eq_true_eq, decide_eq_false_iff_not]
  omega
 have en : C.net = ({ C with acts := C.acts + 1 } : Clu).net := rfl
 rw [en] at hb2
 clear en hb
 obtain ⟨C6, hC6⟩ : ∃ C6 : Clu, ({ C with acts := C.acts + 1 } : Clu) = C6 := ⟨_, rfl⟩
 rw [hC6]
 have HC6 := Lib.hid hC6
 clear hC6
 rw [HC6.out] at hb2
 rcases hk with rfl | rfl | rfl
 ·have hact := P.okC.acts
  have hok5 := P.okC.acting ha
  obtain ⟨ok0, BB0, na0, nc0, L0, hA0, -, -, -⟩ := P.open
  have HCA := Lib.hid (fun (U : World) (hb : Below W.heap.size W U) => hA0.cellB hb hA0.cells.acts)
  have hgcW := hA0.gcLt
  clear hA0
  have da : decide ((300 : Int) ≤ C.acts) = false := by simpa using ha
  obtain ⟨B0, Y, Q, hB0, back⟩ := P.enter
  have st := St.start W
  go_enter Try.func16, Try.ntmps16
  go_upto_region 3 with (first | go_skip | (with_reducible refine at_box 38 ?_; refine mem_box st (wanted_none rfl) 38 _ rfl _ rfl _ rfl ?_; clear st; intro g3 w3 hg3 st hg3b; clear hg3b; simp [Act.eval, Act.put, Value.cells, putL] at st) | (with_reducible refine at_alloc 41 ?_; refine mem_alloc st (wanted_none rfl) 41 rfl _ Try.zeroValue41 _ rfl ?_; clear st; intro g4 w4 hg4 st hg4b; clear hg4b; simp [Act.eval, Act.put, Value.cells, putL] at st))
  have Q1 := Q.walk st
  have f0 := HCA.out _ st.below
  obtain ⟨ok, BB, na, nc, L, hQ⟩ := Q1.raw
  have hA := hQ.at_
  have hlen := hA.cells.len
  have stc := St.hand hA.blk
  have HST4 := Lib.hid st
  clear Q Q1 st HCA
  go_upto_region 6 with (first | go_skip | ((with_reducible refine at_store 3 ?_); go_must (refine mem_store stc (wanted_none rfl) 3 _ _ rfl gc 186 rfl (.int .i64 (C.acts + 1)) rfl [.int .i64 (C.acts + 1)] rfl Try.sizeOf3 (by simp [Value.oneCell']) 0 _ _ rfl (by simp only [List.length_cons, List.length_nil]; omega) ?_; intro w5 st5 hm5 hz5)))
  obtain ⟨ok2, hQ2⟩ := hQ.cells (C' := { C with acts := C.acts + 1 }) hok5 st5 (List.mem_of_getElem? (i := 0) rfl) ((hA.old st5).setActs (C.acts + 1)) rfl rfl
  have P2 := hQ2.clus
  have HOLD := Lib.hid (show W.heap.size ≤ w5.heap.size ∧ ∀ b, b < W.heap.size → b ≠ gc → w5.heap[b]? = W.heap[b]? from ⟨by have := HST4.out.size; omega, fun b hb hne => (hm5 b hne).trans (HST4.out.frame b hb (by simp))⟩)
  clear HST4 hQ hQ2 hA stc st5 hm5 hz5 hlen f0 da hact hok5 ha P
  rw [HC6.out] at P2
  have st := P2.st.rebase
  simp only [List.map_cons, List.map_nil] at st
  rcases hb2 with d0 | ⟨d0, d1⟩
  ·go_upto_region 14 with (first | go_skip | (with_reducible refine at_load 3 ?_; refine memX st 3 _ rfl Try.isAgg3 rfl ?_))
   try simp only [kP, kA, kS, kZ]
   have P2d := P2.walk st.drew
   obtain ⟨ok6, BB6, na6, nc6, L6, hA6, hno6, -, hTo6⟩ := P2d.open
   have HNT := Lib.hid (show ∀ (U : World) (bl : Blks), St [g3, g4] w5.drew U bl → U.cell? ⟨gc, 185, none⟩ = some (.slice na6 C6.net.length nc6) from fun U bl hU => hA6.cellAt (own := [(g3, 38, [.int .i64 2, .int .i64 h, .int .i64 t, .int .i64 an, .int .i64 x.kind, .int .i64 x.h, .int .i64 x.t, .int .i64 x.n, .int .i64 x.c, .slice la x.label.length lc, .slice ga x.grants.length gx, .string x.text]), (g4, 41, [.int .i64 0, .int .i64 0, .string ⟨#[]⟩])]) hno6 hU hA6.cells.net)
   have hnr := hA6.net
   clear hA6 hTo6 hno6 P2d
   refine det_region (by kernel_rfl) 13 rfl (fun U => St [g3, g4] w5.drew U [(g3, 38, [.int .i64 2, .int .i64 h, .int .i64 t, .int .i64 an, .int .i64 x.kind, .int .i64 x.h, .int .i64 x.t, .int .i64 x.n, .int .i64 x.c, .slice la x.label.length lc, .slice ga x.grants.length gx, .string x.text]), (g4, 41, [.int .i64 0, .int .i64 0, .string ⟨#[]⟩])]) (st.drew.rebase) (by decide +kernel) ?_
   refine detS 0 rfl ?_; simp only [kP, kA, kS, kZ]
   refine detT 1 rfl (fun W hW => St.run_load hW 0 3 _ rfl Try.isAgg3 rfl rfl rfl) ?_; simp only [kP, kA, kS, kZ]
   refine detS 2 rfl ?_; simp only [kP, kA, kS, kZ]; refine detS 3 rfl ?_; simp only [kP, kA, kS, kZ]
   refine detK 4 rfl ?_; simp only [kP, kA, kS, kZ]; refine detK 5 rfl ?_; simp only [kP, kA, kS, kZ]; refine detK 6 rfl ?_; simp only [kP, kA, kS, kZ]; refine detK 7 rfl ?_; simp only [kP, kA, kS, kZ]; refine detK 8 rfl ?_; simp only [kP, kA, kS, kZ]; refine detK 9 rfl ?_; simp only [kP, kA, kS, kZ]; refine detK 10 rfl ?_; simp only [kP, kA, kS, kZ]; refine detK 11 rfl ?_; simp only [kP, kA, kS, kZ]
   refine detS 12 rfl ?_; simp only [kP, kA, kS, kZ]
   refine det_done (by decide +kernel) ?_
   clear st hnr
   intro U st
   have st := St.back (P2.st.rebase.drew) st
   go_wp2_with (first | go_skip | (with_reducible refine at_store 41 ?_; refine memS st 41 _ _ rfl _ Try.sizeOf41 ⟨1, _, _, _, _, _, rfl, rfl, rfl, rfl, rfl, rfl, ?_⟩; clear st; intro w9 st hw9m hw9z; simp [Act.eval, Act.put, Value.cells, putL] at st))
   have hc := fun j => st.cell (i := 1) rfl j
   refine bodyPost_ret (v := RepV (errR 4)) ?hr rfl ⟨rfl, back _ _ _ (P2.walk st)⟩
   case hr => simp [results, Try.results16, go_sem, hc, RepV, errR]; try rfl
  ·go_upto_region 14 with (first | go_skip | (with_reducible refine at_load 3 ?_; refine memX st 3 _ rfl Try.isAgg3 rfl ?_))
   try simp only [kP, kA, kS, kZ]
   have P2d := P2.walk st.drew
   obtain ⟨ok6, BB6, na6, nc6, L6, hA6, hno6, -, hTo6⟩ := P2d.open
   have HNT := Lib.hid (show ∀ (U : World) (bl : Blks), St [g3, g4] w5.drew U bl → U.cell? ⟨gc, 185, none⟩ = some (.slice na6 C6.net.length nc6) from fun U bl hU => hA6.cellAt (own := [(g3, 38, [.int .i64 2, .int .i64 h, .int .i64 t, .int .i64 an, .int .i64 x.kind, .int .i64 x.h, .int .i64 x.t, .int .i64 x.n, .int .i64 x.c, .slice la x.label.length lc, .slice ga x.grants.length gx, .string x.text]), (g4, 41, [.int .i64 0, .int .i64 0, .string ⟨#[]⟩])]) hno6 hU hA6.cells.net)
   have hnr := hA6.net
   clear hA6 hTo6 hno6 P2d
   refine det_region (by kernel_rfl) 13 rfl (fun U => St [g3, g4] w5.drew U [(g3, 38, [.int .i64 2, .int .i64 h, .int .i64 t, .int .i64 an, .int .i64 x.kind, .int .i64 x.h, .int .i64 x.t, .int .i64 x.n, .int .i64 x.c, .slice la x.label.length lc, .slice ga x.grants.length gx, .string x.text]), (g4, 41, [.int .i64 0, .int .i64 0, .string ⟨#[]⟩])]) (st.drew.rebase) (by decide +kernel) ?_
   refine detS 0 rfl ?_; simp only [kP, kA, kS, kZ]
   refine detT 1 rfl (fun W hW => St.run_load hW 0 3 _ rfl Try.isAgg3 rfl rfl rfl) ?_; simp only [kP, kA, kS, kZ]
   refine detS 2 rfl ?_; simp only [kP, kA, kS, kZ]; refine detS 3 rfl ?_; simp only [kP, kA, kS, kZ]; refine detS 4 rfl ?_; simp only [kP, kA, kS, kZ]
   refine detT 5 rfl (fun W hW => St.run_load hW 0 3 _ rfl Try.isAgg3 rfl rfl rfl) ?_; simp only [kP, kA, kS, kZ]
   refine detS 6 rfl ?_; simp only [kP, kA, kS, kZ]; refine detS 7 rfl ?_; simp only [kP, kA, kS, kZ]; refine detS 8 rfl ?_; simp only [kP, kA, kS, kZ]
   refine detT 9 rfl (fun U hU => run_cell_one 70 _ rfl Try.isAgg70 gc 185 rfl _ (HNT.out U _ hU)) ?_; simp only [kP, kA, kS, kZ]
   refine detS 10 rfl ?_; simp only [kP, kA, kS, kZ]; refine detS 11 rfl ?_; simp only [kP, kA, kS, kZ]; refine detS 12 rfl ?_; simp only [kP, kA, kS, kZ]
   refine det_done (by decide +kernel) ?_
   clear st hnr
   intro U st
   have st := St.back (P2.st.rebase.drew) st
   go_wp2_with (first | go_skip | (with_reducible refine at_store 41 ?_; refine memS st 41 _ _ rfl _ Try.sizeOf41 ⟨1, _, _, _, _, _, rfl, rfl, rfl, rfl, rfl, rfl, ?_⟩; clear st; intro w9 st hw9m hw9z; simp [Act.eval, Act.put, Value.cells, putL] at st))
   have hc := fun j => st.cell (i := 1) rfl j
   refine bodyPost_ret (v := RepV (errR 4)) ?hr rfl ⟨rfl, back _ _ _ (P2.walk st)⟩
   case hr => simp [results, Try.results16, go_sem, hc, RepV, errR]; try rfl
 ·have hact := P.okC.acts
  have hok5 := P.okC.acting ha
  obtain ⟨ok0, BB0, na0, nc0, L0, hA0, -, -, -⟩ := P.open
  have HCA := Lib.hid (fun (U : World) (hb : Below W.heap.size W U) => hA0.cellB hb hA0.cells.acts)
  have hgcW := hA0.gcLt
  clear hA0
  have da : decide ((300 : Int) ≤ C.acts) = false := by simpa using ha
  obtain ⟨B0, Y, Q, hB0, back⟩ := P.enter
  have st := St.start W
  go_enter Try.func16, Try.ntmps16
  go_upto_region 3 with (first | go_skip | (with_reducible refine at_box 38 ?_; refine mem_box st (wanted_none rfl) 38 _ rfl _ rfl _ rfl ?_; clear st; intro g3 w3 hg3 st hg3b; clear hg3b; simp [Act.eval, Act.put, Value.cells, putL] at st) | (with_reducible refine at_alloc 41 ?_; refine mem_alloc st (wanted_none rfl) 41 rfl _ Try.zeroValue41 _ rfl ?_; clear st; intro g4 w4 hg4 st hg4b; clear hg4b; simp [Act.eval, Act.put, Value.cells, putL] at st))
  have Q1 := Q.walk st
  have f0 := HCA.out _ st.below
  obtain ⟨ok, BB, na, nc, L, hQ⟩ := Q1.raw
  have hA := hQ.at_
  have hlen := hA.cells.len
  have stc := St.hand hA.blk
  have HST4 := Lib.hid st
  clear Q Q1 st HCA
  go_upto_region 6 with (first | go_skip | ((with_reducible refine at_store 3 ?_); go_must (refine mem_store stc (wanted_none rfl) 3 _ _ rfl gc 186 rfl (.int .i64 (C.acts + 1)) rfl [.int .i64 (C.acts + 1)] rfl Try.sizeOf3 (by simp [Value.oneCell']) 0 _ _ rfl (by simp only [List.length_cons, List.length_nil]; omega) ?_; intro w5 st5 hm5 hz5)))
  obtain ⟨ok2, hQ2⟩ := hQ.cells (C' := { C with acts := C.acts + 1 }) hok5 st5 (List.mem_of_getElem? (i := 0) rfl) ((hA.old st5).setActs (C.acts + 1)) rfl rfl
  have P2 := hQ2.clus
  have HOLD := Lib.hid (show W.heap.size ≤ w5.heap.size ∧ ∀ b, b < W.heap.size → b ≠ gc → w5.heap[b]? = W.heap[b]? from ⟨by have := HST4.out.size; omega, fun b hb hne => (hm5 b hne).trans (HST4.out.frame b hb (by simp))⟩)
  clear HST4 hQ hQ2 hA stc st5 hm5 hz5 hlen f0 da hact hok5 ha P
  rw [HC6.out] at P2
  have st := P2.st.rebase
  simp only [List.map_cons, List.map_nil] at st
  rcases hb2 with d0 | ⟨d0, d1⟩
  ·go_upto_region 14 with (first | go_skip | (with_reducible refine at_load 3 ?_; refine memX st 3 _ rfl Try.isAgg3 rfl ?_))
   try simp only [kP, kA, kS, kZ]
   have P2d := P2.walk st.drew
   obtain ⟨ok6, BB6, na6, nc6, L6, hA6, hno6, -, hTo6⟩ := P2d.open
   have HNT := Lib.hid (show ∀ (U : World) (bl : Blks), St [g3, g4] w5.drew U bl → U.cell? ⟨gc, 185, none⟩ = some (.slice na6 C6.net.length nc6) from fun U bl hU => hA6.cellAt (own := [(g3, 38, [.int .i64 3, .int .i64 h, .int .i64 t, .int .i64 an, .int .i64 x.kind, .int .i64 x.h, .int .i64 x.t, .int .i64 x.n, .int .i64 x.c, .slice la x.label.length lc, .slice ga x.grants.length gx, .string x.text]), (g4, 41, [.int .i64 0, .int .i64 0, .string ⟨#[]⟩])]) hno6 hU hA6.cells.net)
   have hnr := hA6.net
   clear hA6 hTo6 hno6 P2d
   refine det_region (by kernel_rfl) 13 rfl (fun U => St [g3, g4] w5.drew U [(g3, 38, [.int .i64 3, .int .i64 h, .int .i64 t, .int .i64 an, .int .i64 x.kind, .int .i64 x.h, .int .i64 x.t, .int .i64 x.n, .int .i64 x.c, .slice la x.label.length lc, .slice ga x.grants.length gx, .string x.text]), (g4, 41, [.int .i64 0, .int .i64 0, .string ⟨#[]⟩])]) (st.drew.rebase) (by decide +kernel) ?_
   refine detS 0 rfl ?_; simp only [kP, kA, kS, kZ]
   refine detT 1 rfl (fun W hW => St.run_load hW 0 3 _ rfl Try.isAgg3 rfl rfl rfl) ?_; simp only [kP, kA, kS, kZ]
   refine detS 2 rfl ?_; simp only [kP, kA, kS, kZ]; refine detS 3 rfl ?_; simp only [kP, kA, kS, kZ]
   refine detK 4 rfl ?_; simp only [kP, kA, kS, kZ]; refine detK 5 rfl ?_; simp only [kP, kA, kS, kZ]; refine detK 6 rfl ?_; simp only [kP, kA, kS, kZ]; refine detK 7 rfl ?_; simp only [kP, kA, kS, kZ]; refine detK 8 rfl ?_; simp only [kP, kA, kS, kZ]; refine detK 9 rfl ?_; simp only [kP, kA, kS, kZ]; refine detK 10 rfl ?_; simp only [kP, kA, kS, kZ]; refine detK 11 rfl ?_; simp only [kP, kA, kS, kZ]
   refine detS 12 rfl ?_; simp only [kP, kA, kS, kZ]
   refine det_done (by decide +kernel) ?_
   clear st hnr
   intro U st
   have st := St.back (P2.st.rebase.drew) st
   go_wp2_with (first | go_skip | (with_reducible refine at_store 41 ?_; refine memS st 41 _ _ rfl _ Try.sizeOf41 ⟨1, _, _, _, _, _, rfl, rfl, rfl, rfl, rfl, rfl, ?_⟩; clear st; intro w9 st hw9m hw9z; simp [Act.eval, Act.put, Value.cells, putL] at st))
   have hc := fun j => st.cell (i := 1) rfl j
   refine bodyPost_ret (v := RepV (errR 4)) ?hr rfl ⟨rfl, back _ _ _ (P2.walk st)⟩
   case hr => simp [results, Try.results16, go_sem, hc, RepV, errR]; try rfl
  ·go_upto_region 14 with (first | go_skip | (with_reducible refine at_load 3 ?_; refine memX st 3 _ rfl Try.isAgg3 rfl ?_))
   try simp only [kP, kA, kS, kZ]
   have P2d := P2.walk st.drew
   obtain ⟨ok6, BB6, na6, nc6, L6, hA6, hno6, -, hTo6⟩ := P2d.open
   have HNT := Lib.hid (show ∀ (U : World) (bl : Blks), St [g3, g4] w5.drew U bl → U.cell? ⟨gc, 185, none⟩ = some (.slice na6 C6.net.length nc6) from fun U bl hU => hA6.cellAt (own := [(g3, 38, [.int .i64 3, .int .i64 h, .int .i64 t, .int .i64 an, .int .i64 x.kind, .int .i64 x.h, .int .i64 x.t, .int .i64 x.n, .int .i64 x.c, .slice la x.label.length lc, .slice ga x.grants.length gx, .string x.text]), (g4, 41, [.int .i64 0, .int .i64 0, .string ⟨#[]⟩])]) hno6 hU hA6.cells.net)
   have hnr := hA6.net
   clear hA6 hTo6 hno6 P2d
   refine det_region (by kernel_rfl) 13 rfl (fun U => St [g3, g4] w5.drew U [(g3, 38, [.int .i64 3, .int .i64 h, .int .i64 t, .int .i64 an, .int .i64 x.kind, .int .i64 x.h, .int .i64 x.t, .int .i64 x.n, .int .i64 x.c, .slice la x.label.length lc, .slice ga x.grants.length gx, .string x.text]), (g4, 41, [.int .i64 0, .int .i64 0, .string ⟨#[]⟩])]) (st.drew.rebase) (by decide +kernel) ?_
   refine detS 0 rfl ?_; simp only [kP, kA, kS, kZ]
   refine detT 1 rfl (fun W hW => St.run_load hW 0 3 _ rfl Try.isAgg3 rfl rfl rfl) ?_; simp only [kP, kA, kS, kZ]
   refine detS 2 rfl ?_; simp only [kP, kA, kS, kZ]; refine detS 3 rfl ?_; simp only [kP, kA, kS, kZ]; refine detS 4 rfl ?_; simp only [kP, kA, kS, kZ]
   refine detT 5 rfl (fun W hW => St.run_load hW 0 3 _ rfl Try.isAgg3 rfl rfl rfl) ?_; simp only [kP, kA, kS, kZ]
   refine detS 6 rfl ?_; simp only [kP, kA, kS, kZ]; refine detS 7 rfl ?_; simp only [kP, kA, kS, kZ]; refine detS 8 rfl ?_; simp only [kP, kA, kS, kZ]
   refine detT 9 rfl (fun U hU => run_cell_one 70 _ rfl Try.isAgg70 gc 185 rfl _ (HNT.out U _ hU)) ?_; simp only [kP, kA, kS, kZ]
   refine detS 10 rfl ?_; simp only [kP, kA, kS, kZ]; refine detS 11 rfl ?_; simp only [kP, kA, kS, kZ]; refine detS 12 rfl ?_; simp only [kP, kA, kS, kZ]
   refine det_done (by decide +kernel) ?_
   clear st hnr
   intro U st
   have st := St.back (P2.st.rebase.drew) st
   go_wp2_with (first | go_skip | (with_reducible refine at_store 41 ?_; refine memS st 41 _ _ rfl _ Try.sizeOf41 ⟨1, _, _, _, _, _, rfl, rfl, rfl, rfl, rfl, rfl, ?_⟩; clear st; intro w9 st hw9m hw9z; simp [Act.eval, Act.put, Value.cells, putL] at st))
   have hc := fun j => st.cell (i := 1) rfl j
   refine bodyPost_ret (v := RepV (errR 4)) ?hr rfl ⟨rfl, back _ _ _ (P2.walk st)⟩
   case hr => simp [results, Try.results16, go_sem, hc, RepV, errR]; try rfl
 ·have hact := P.okC.acts
  have hok5 := P.okC.acting ha
  obtain ⟨ok0, BB0, na0, nc0, L0, hA0, -, -, -⟩ := P.open
  have HCA := Lib.hid (fun (U : World) (hb : Below W.heap.size W U) => hA0.cellB hb hA0.cells.acts)
  have hgcW := hA0.gcLt
  clear hA0
  have da : decide ((300 : Int) ≤ C.acts) = false := by simpa using ha
  obtain ⟨B0, Y, Q, hB0, back⟩ := P.enter
  have st := St.start W
  go_enter Try.func16, Try.ntmps16
  go_upto_region 3 with (first | go_skip | (with_reducible refine at_box 38 ?_; refine mem_box st (wanted_none rfl) 38 _ rfl _ rfl _ rfl ?_; clear st; intro g3 w3 hg3 st hg3b; clear hg3b; simp [Act.eval, Act.put, Value.cells, putL] at st) | (with_reducible refine at_alloc 41 ?_; refine mem_alloc st (wanted_none rfl) 41 rfl _ Try.zeroValue41 _ rfl ?_; clear st; intro g4 w4 hg4 st hg4b; clear hg4b; simp [Act.eval, Act.put, Value.cells, putL] at st))
  have Q1 := Q.walk st
  have f0 := HCA.out _ st.below
  obtain ⟨ok, BB, na, nc, L, hQ⟩ := Q1.raw
  have hA := hQ.at_
  have hlen := hA.cells.len
  have stc := St.hand hA.blk
  have HST4 := Lib.hid st
  clear Q Q1 st HCA
  go_upto_region 6 with (first | go_skip | ((with_reducible refine at_store 3 ?_); go_must (refine mem_store stc (wanted_none rfl) 3 _ _ rfl gc 186 rfl (.int .i64 (C.acts + 1)) rfl [.int .i64 (C.acts + 1)] rfl Try.sizeOf3 (by simp [Value.oneCell']) 0 _ _ rfl (by simp only [List.length_cons, List.length_nil]; omega) ?_; intro w5 st5 hm5 hz5)))
  obtain ⟨ok2, hQ2⟩ := hQ.cells (C' := { C with acts := C.acts + 1 }) hok5 st5 (List.mem_of_getElem? (i := 0) rfl) ((hA.old st5).setActs (C.acts + 1)) rfl rfl
  have P2 := hQ2.clus
  have HOLD := Lib.hid (show W.heap.size ≤ w5.heap.size ∧ ∀ b, b < W.heap.size → b ≠ gc → w5.heap[b]? = W.heap[b]? from ⟨by have := HST4.out.size; omega, fun b hb hne => (hm5 b hne).trans (HST4.out.frame b hb (by simp))⟩)
  clear HST4 hQ hQ2 hA stc st5 hm5 hz5 hlen f0 da hact hok5 ha P
  rw [HC6.out] at P2
  have st := P2.st.rebase
  simp only [List.map_cons, List.map_nil] at st
  rcases hb2 with d0 | ⟨d0, d1⟩
  ·go_upto_region 14 with (first | go_skip | (with_reducible refine at_load 3 ?_; refine memX st 3 _ rfl Try.isAgg3 rfl ?_))
   try simp only [kP, kA, kS, kZ]
   have P2d := P2.walk st.drew
   obtain ⟨ok6, BB6, na6, nc6, L6, hA6, hno6, -, hTo6⟩ := P2d.open
   have HNT := Lib.hid (show ∀ (U : World) (bl : Blks), St [g3, g4] w5.drew U bl → U.cell? ⟨gc, 185, none⟩ = some (.slice na6 C6.net.length nc6) from fun U bl hU => hA6.cellAt (own := [(g3, 38, [.int .i64 4, .int .i64 h, .int .i64 t, .int .i64 an, .int .i64 x.kind, .int .i64 x.h, .int .i64 x.t, .int .i64 x.n, .int .i64 x.c, .slice la x.label.length lc, .slice ga x.grants.length gx, .string x.text]), (g4, 41, [.int .i64 0, .int .i64 0, .string ⟨#[]⟩])]) hno6 hU hA6.cells.net)
   have hnr := hA6.net
   clear hA6 hTo6 hno6 P2d
   refine det_region (by kernel_rfl) 13 rfl (fun U => St [g3, g4] w5.drew U [(g3, 38, [.int .i64 4, .int .i64 h, .int .i64 t, .int .i64 an, .int .i64 x.kind, .int .i64 x.h, .int .i64 x.t, .int .i64 x.n, .int .i64 x.c, .slice la x.label.length lc, .slice ga x.grants.length gx, .string x.text]), (g4, 41, [.int .i64 0, .int .i64 0, .string ⟨#[]⟩])]) (st.drew.rebase) (by decide +kernel) ?_
   refine detS 0 rfl ?_; simp only [kP, kA, kS, kZ]
   refine detT 1 rfl (fun W hW => St.run_load hW 0 3 _ rfl Try.isAgg3 rfl rfl rfl) ?_; simp only [kP, kA, kS, kZ]
   refine detS 2 rfl ?_; simp only [kP, kA, kS, kZ]; refine detS 3 rfl ?_; simp only [kP, kA, kS, kZ]
   refine detK 4 rfl ?_; simp only [kP, kA, kS, kZ]; refine detK 5 rfl ?_; simp only [kP, kA, kS, kZ]; refine detK 6 rfl ?_; simp only [kP, kA, kS, kZ]; refine detK 7 rfl ?_; simp only [kP, kA, kS, kZ]; refine detK 8 rfl ?_; simp only [kP, kA, kS, kZ]; refine detK 9 rfl ?_; simp only [kP, kA, kS, kZ]; refine detK 10 rfl ?_; simp only [kP, kA, kS, kZ]; refine detK 11 rfl ?_; simp only [kP, kA, kS, kZ]
   refine detS 12 rfl ?_; simp only [kP, kA, kS, kZ]
   refine det_done (by decide +kernel) ?_
   clear st hnr
   intro U st
   have st := St.back (P2.st.rebase.drew) st
   go_wp2_with (first | go_skip | (with_reducible refine at_store 41 ?_; refine memS st 41 _ _ rfl _ Try.sizeOf41 ⟨1, _, _, _, _, _, rfl, rfl, rfl, rfl, rfl, rfl, ?_⟩; clear st; intro w9 st hw9m hw9z; simp [Act.eval, Act.put, Value.cells, putL] at st))
   have hc := fun j => st.cell (i := 1) rfl j
   refine bodyPost_ret (v := RepV (errR 4)) ?hr rfl ⟨rfl, back _ _ _ (P2.walk st)⟩
   case hr => simp [results, Try.results16, go_sem, hc, RepV, errR]; try rfl
  ·go_upto_region 14 with (first | go_skip | (with_reducible refine at_load 3 ?_; refine memX st 3 _ rfl Try.isAgg3 rfl ?_))
   try simp only [kP, kA, kS, kZ]
   have P2d := P2.walk st.drew
   obtain ⟨ok6, BB6, na6, nc6, L6, hA6, hno6, -, hTo6⟩ := P2d.open
   have HNT := Lib.hid (show ∀ (U : World) (bl : Blks), St [g3, g4] w5.drew U bl → U.cell? ⟨gc, 185, none⟩ = some (.slice na6 C6.net.length nc6) from fun U bl hU => hA6.cellAt (own := [(g3, 38, [.int .i64 4, .int .i64 h, .int .i64 t, .int .i64 an, .int .i64 x.kind, .int .i64 x.h, .int .i64 x.t, .int .i64 x.n, .int .i64 x.c, .slice la x.label.length lc, .slice ga x.grants.length gx, .string x.text]), (g4, 41, [.int .i64 0, .int .i64 0, .string ⟨#[]⟩])]) hno6 hU hA6.cells.net)
   have hnr := hA6.net
   clear hA6 hTo6 hno6 P2d
   refine det_region (by kernel_rfl) 13 rfl (fun U => St [g3, g4] w5.drew U [(g3, 38, [.int .i64 4, .int .i64 h, .int .i64 t, .int .i64 an, .int .i64 x.kind, .int .i64 x.h, .int .i64 x.t, .int .i64 x.n, .int .i64 x.c, .slice la x.label.length lc, .slice ga x.grants.length gx, .string x.text]), (g4, 41, [.int .i64 0, .int .i64 0, .string ⟨#[]⟩])]) (st.drew.rebase) (by decide +kernel) ?_
   refine detS 0 rfl ?_; simp only [kP, kA, kS, kZ]
   refine detT 1 rfl (fun W hW => St.run_load hW 0 3 _ rfl Try.isAgg3 rfl rfl rfl) ?_; simp only [kP, kA, kS, kZ]
   refine detS 2 rfl ?_; simp only [kP, kA, kS, kZ]; refine detS 3 rfl ?_; simp only [kP, kA, kS, kZ]; refine detS 4 rfl ?_; simp only [kP, kA, kS, kZ]
   refine detT 5 rfl (fun W hW => St.run_load hW 0 3 _ rfl Try.isAgg3 rfl rfl rfl) ?_; simp only [kP, kA, kS, kZ]
   refine detS 6 rfl ?_; simp only [kP, kA, kS, kZ]; refine detS 7 rfl ?_; simp only [kP, kA, kS, kZ]; refine detS 8 rfl ?_; simp only [kP, kA, kS, kZ]
   refine detT 9 rfl (fun U hU => run_cell_one 70 _ rfl Try.isAgg70 gc 185 rfl _ (HNT.out U _ hU)) ?_; simp only [kP, kA, kS, kZ]
   refine detS 10 rfl ?_; simp only [kP, kA, kS, kZ]; refine detS 11 rfl ?_; simp only [kP, kA, kS, kZ]; refine detS 12 rfl ?_; simp only [kP, kA, kS, kZ]
   refine det_done (by decide +kernel) ?_
   clear st hnr
   intro U st
   have st := St.back (P2.st.rebase.drew) st
   go_wp2_with (first | go_skip | (with_reducible refine at_store 41 ?_; refine memS st 41 _ _ rfl _ Try.sizeOf41 ⟨1, _, _, _, _, _, rfl, rfl, rfl, rfl, rfl, rfl, ?_⟩; clear st; intro w9 st hw9m hw9z; simp [Act.eval, Act.put, Value.cells, putL] at st))
   have hc := fun j => st.cell (i := 1) rfl j
   refine bodyPost_ret (v := RepV (errR 4)) ?hr rfl ⟨rfl, back _ _ _ (P2.walk st)⟩
   case hr => simp [results, Try.results16, go_sem, hc, RepV, errR]; try rfl
end
end Go.Proofs.Ytflfjpopfapogaa
