/- Walks and plain laws that the claim rests on, part 35. -/
import Derived.Test.YtflfjpopfapogaaP33
import Derived.Test.YtflfjpopfapogaaP11
set_option linter.unusedSimpArgs false
set_option linter.unusedVariables false
/- The walks through the kernel's Call, kind by kind. (printed by gen_call.py) -/
namespace Go.Proofs.Ytflfjpopfapogaa
open Go.RowKit
def reqV (c : Req) (la : Option Addr) (lc : Nat) (ga : Option Addr) (gc : Nat) : Value := .agg #[.int .i64 c.kind, .int .i64 c.h, .int .i64 c.t, .int .i64 c.n, .int .i64 c.c, .slice la c.label.length lc, .slice ga c.grants.length gc, .string c.text]
def CallPost (ok : Nat → Prop) (w : World) (g : Nat) (Bs : List (List Nat)) (r : Ker × Rep) (e : Ending) (w' : World) : Prop := e = .returned (RepV r.2) ∧ KerTo ok w g Bs w' r.1
set_option maxRecDepth 100000 in
theorem call_no (w : World) (n : Int) : Calls Try.prog 56 #[.int .i64 n] w fun e w' => e = .returned (.agg #[.int .i64 n, .int .i64 0, .string ⟨#[]⟩]) ∧ Below w.heap.size w w' := by
 have st := St.start w
 go_enter Try.func56, Try.ntmps56
 go_wp2_with (first | go_skip | (with_reducible refine at_alloc 41 ?_; refine mem_alloc st (wanted_none rfl) 41 rfl _ Try.zeroValue41 _ rfl ?_; clear st; intro g2 w2 hg2 st hg2b; clear hg2b; simp [Act.eval, Act.put, Value.cells, putL] at st) | (with_reducible refine at_store 41 ?_; refine memS st 41 _ _ rfl _ Try.sizeOf41 ⟨0, _, _, _, _, _, rfl, rfl, rfl, rfl, rfl, rfl, ?_⟩; clear st; intro w3 st hw3m hw3z; simp [Act.eval, Act.put, Value.cells, putL] at st))
 have hc := fun j => st.cell (i := 0) rfl j
 refine bodyPost_ret (v := _) ?hr rfl ⟨rfl, st.below⟩
 case hr => simp [results, Try.results56, go_sem, hc]; try rfl
theorem text_size {s : ByteArray} (h : ¬ 64 < s.size) : decide (64 < (s.size : Int)) = false := by simp; omega
theorem Ker.put_self {k : Ker} {n : Nat} {x : Thr} (e : k.threads[n]? = some x) : ({ k.put n x with made := k.made } : Ker) = k := by
 obtain ⟨hl, rfl⟩ := List.getElem?_eq_some_iff.1 e
 simp [Ker.put]
section
variable (ok okc : Nat → Prop) (w : World) (g : Nat) (k : Ker) (css : List (List Value)) (Bs : List (List Nat)) (n : Nat) (c : Req) (la : Option Addr) (lc : Nat) (ga : Option Addr) (gc : Nat)
set_option maxRecDepth 100000 in
set_option maxHeartbeats 4000000 in
theorem kernel_Call_say (h : KerAt ok w g k css Bs) (hk : ∀ x ∈ k.threads, x.ok) (hn : n < 4) (hx64 : ¬ 64 < c.text.size) (hkd : c.kind = 10) :
  Calls Try.prog 39 #[.pointer (some ⟨g, 0, none⟩), .int .i64 n, reqV c la lc ga gc] w (CallPost ok w g Bs (callK k n c)) := by
 obtain ⟨x, xa, xc, oa, oc, ba, bc, ma, mc, ex, ec, eB, hT, hb⟩ := h.open hn
 have hx := hk x (List.mem_of_getElem? ex)
 have hpre := h.preLen hn
 have hth := Ker.thr_at ex
 have st0 := St.hand hb
 unfold thrC at st0
 have d1 : decide ((n : Int) < 0) = false := by simp
 have d2 : decide ((4 : Int) ≤ n) = false := by simp; omega
 have d64 := text_size hx64
 have hgg : ¬ ok g := h.apart g (by simp)
 have HKp := Lib.hid (show ∀ (W : World) (bl : Blks), St [g] w W bl → Keeps ok w W from fun W bl s => s.keeps (by simpa using hgg))
 have HB := Lib.hid (show ∀ (W : World) (bl : Blks), St [g] w W bl → (g, 84, winC (preC k css n) [.slice xa x.label.length xc, .slice oa x.own.length oc, .string x.text, .slice ba x.objects.length bc, .slice ma x.mails.length mc] (postC k css n)) ∈ bl → Below w.heap.size w W from fun W bl s hm => st0.below2 s (by simpa using hm))
 have hxl := goodL_len hx.good; have hxo := hx.ownL; have hxm := hx.mailN; have hxb := hx.objs; have hxt := hx.text
 have st := st0
 clear st0
 unfold reqV
 have HE := Lib.hid (show callK k (n : Int) c = (k, ⟨0, 0, x.text⟩) by unfold callK; simp [hkd, hth])
 rw [hkd]
 clear hkd
 go_enter Try.func39, Try.ntmps39
 go_wp2_with (first | go_skip | (with_reducible refine at_load 9 ?_; (first | refine mem_loadW st 9 _ rfl (wanted_none rfl) Try.isAgg9 2 ?_ | (refine mem_loadW st 9 _ rfl (wanted_some rfl ?_) Try.isAgg9 2 ?_; focus (simp [yielded, Act.put]; done))); refine ⟨0, _, _, _, _, _, _, _, hpre, rfl, rfl, rfl, ?_⟩) | (with_reducible refine at_box 36 ?_; refine mem_box st (wanted_none rfl) 36 _ rfl _ rfl _ rfl ?_; clear st; intro g5 w5 hg5 st hg5b; clear hg5b; simp [Act.eval, Act.put, Value.cells, putL] at st) | (with_reducible refine at_alloc 41 ?_; refine mem_alloc st (wanted_none rfl) 41 rfl _ Try.zeroValue41 _ rfl ?_; clear st; intro g6 w6 hg6 st hg6b; clear hg6b; simp [Act.eval, Act.put, Value.cells, putL] at st) | (with_reducible refine at_load 9 ?_; refine memX st 9 _ rfl Try.isAgg9 rfl ?_) | (with_reducible refine at_load 3 ?_; refine memX st 3 _ rfl Try.isAgg3 rfl ?_) | (go_at_call 56; go_must (refine (call_no _ _).mono ?_; rintro e vn ⟨rfl, hbn⟩; replace st := st.call hbn; clear hbn)) | (with_reducible refine at_store 41 ?_; refine memS st 41 _ _ rfl _ Try.sizeOf41 ⟨2, _, _, _, _, _, rfl, rfl, rfl, rfl, rfl, rfl, ?_⟩; clear st; intro w7 st hw7m hw7z; simp [Act.eval, Act.put, Value.cells, putL] at st))
 have hc := fun j => st.cell (i := 2) rfl j
 refine bodyPost_ret (v := RepV (⟨0, 0, x.text⟩)) ?hr rfl ?_
 case hr => simp [results, Try.results39, go_sem, hc, RepV, errR]; try rfl
 rw [HE.out]
 exact ⟨rfl, KerTo.none h (HB.out _ _ st (by simp))⟩
set_option maxRecDepth 100000 in
set_option maxHeartbeats 4000000 in
theorem kernel_Call_other (h : KerAt ok w g k css Bs) (hk : ∀ x ∈ k.threads, x.ok) (hn : n < 4) (hx64 : ¬ 64 < c.text.size) (hkd : c.kind ≠ 1 ∧ c.kind ≠ 2 ∧ c.kind ≠ 3 ∧ c.kind ≠ 4 ∧ c.kind ≠ 5 ∧ c.kind ≠ 7 ∧ c.kind ≠ 9 ∧ c.kind ≠ 10) :
  Calls Try.prog 39 #[.pointer (some ⟨g, 0, none⟩), .int .i64 n, reqV c la lc ga gc] w (CallPost ok w g Bs (callK k n c)) := by
 obtain ⟨x, xa, xc, oa, oc, ba, bc, ma, mc, ex, ec, eB, hT, hb⟩ := h.open hn
 have hx := hk x (List.mem_of_getElem? ex)
 have hpre := h.preLen hn
 have hth := Ker.thr_at ex
 have st0 := St.hand hb
 unfold thrC at st0
 have d1 : decide ((n : Int) < 0) = false := by simp
 have d2 : decide ((4 : Int) ≤ n) = false := by simp; omega
 have d64 := text_size hx64
 have hgg : ¬ ok g := h.apart g (by simp)
 have HKp := Lib.hid (show ∀ (W : World) (bl : Blks), St [g] w W bl → Keeps ok w W from fun W bl s => s.keeps (by simpa using hgg))
 have HB := Lib.hid (show ∀ (W : World) (bl : Blks), St [g] w W bl → (g, 84, winC (preC k css n) [.slice xa x.label.length xc, .slice oa x.own.length oc, .string x.text, .slice ba x.objects.length bc, .slice ma x.mails.length mc] (postC k css n)) ∈ bl → Below w.heap.size w W from fun W bl s hm => st0.below2 s (by simpa using hm))
 have hxl := goodL_len hx.good; have hxo := hx.ownL; have hxm := hx.mailN; have hxb := hx.objs; have hxt := hx.text
 have st := st0
 clear st0
 unfold reqV
 obtain ⟨k1, k2, k3, k4, k5, k7, k9, k10⟩ := hkd
 have HE := Lib.hid (show callK k (n : Int) c = (k, errR 3) by unfold callK; simp [k1, k2, k3, k4, k5, k7, k9, k10])
 have e1 : (c.kind == 1) = false := by simpa using k1
 have e2 : (c.kind == 2) = false := by simpa using k2
 have e3 : (c.kind == 3) = false := by simpa using k3
 have e4 : (c.kind == 4) = false := by simpa using k4
 have e5 : (c.kind == 5) = false := by simpa using k5
 have e7 : (c.kind == 7) = false := by simpa using k7
 have e9 : (c.kind == 9) = false := by simpa using k9
 have e10 : (c.kind == 10) = false := by simpa using k10
 clear k1 k2 k3 k4 k5 k7 k9 k10
 go_enter Try.func39, Try.ntmps39
 go_wp2_with (first | go_skip | (with_reducible refine at_box 36 ?_; refine mem_box st (wanted_none rfl) 36 _ rfl _ rfl _ rfl ?_; clear st; intro g5 w5 hg5 st hg5b; clear hg5b; simp [Act.eval, Act.put, Value.cells, putL] at st) | (with_reducible refine at_alloc 41 ?_; refine mem_alloc st (wanted_none rfl) 41 rfl _ Try.zeroValue41 _ rfl ?_; clear st; intro g6 w6 hg6 st hg6b; clear hg6b; simp [Act.eval, Act.put, Value.cells, putL] at st) | (with_reducible refine at_load 9 ?_; refine memX st 9 _ rfl Try.isAgg9 rfl ?_) | (with_reducible refine at_load 3 ?_; refine memX st 3 _ rfl Try.isAgg3 rfl ?_) | (go_at_call 56; go_must (refine (call_no _ _).mono ?_; rintro e vn ⟨rfl, hbn⟩; replace st := st.call hbn; clear hbn)) | (with_reducible refine at_store 41 ?_; refine memS st 41 _ _ rfl _ Try.sizeOf41 ⟨2, _, _, _, _, _, rfl, rfl, rfl, rfl, rfl, rfl, ?_⟩; clear st; intro w7 st hw7m hw7z; simp [Act.eval, Act.put, Value.cells, putL] at st))
 have hc := fun j => st.cell (i := 2) rfl j
 refine bodyPost_ret (v := RepV (errR 3)) ?hr rfl ?_
 case hr => simp [results, Try.results39, go_sem, hc, RepV, errR]; try rfl
 rw [HE.out]
 exact ⟨rfl, KerTo.none h (HB.out _ _ st (by simp))⟩
set_option maxRecDepth 100000 in
set_option maxHeartbeats 4000000 in
theorem kernel_Call_forget (h : KerAt ok w g k css Bs) (hk : ∀ x ∈ k.threads, x.ok) (hn : n < 4) (hx64 : ¬ 64 < c.text.size) (hkd : c.kind = 9) :
  Calls Try.prog 39 #[.pointer (some ⟨g, 0, none⟩), .int .i64 n, reqV c la lc ga gc] w (CallPost ok w g Bs (callK k n c)) := by
 obtain ⟨x, xa, xc, oa, oc, ba, bc, ma, mc, ex, ec, eB, hT, hb⟩ := h.open hn
 have hx := hk x (List.mem_of_getElem? ex)
 have hpre := h.preLen hn
 have hth := Ker.thr_at ex
 have st0 := St.hand hb
 unfold thrC at st0
 have d1 : decide ((n : Int) < 0) = false := by simp
 have d2 : decide ((4 : Int) ≤ n) = false := by simp; omega
 have d64 := text_size hx64
 have hgg : ¬ ok g := h.apart g (by simp)
 have HKp := Lib.hid (show ∀ (W : World) (bl : Blks), St [g] w W bl → Keeps ok w W from fun W bl s => s.keeps (by simpa using hgg))
 have HB := Lib.hid (show ∀ (W : World) (bl : Blks), St [g] w W bl → (g, 84, winC (preC k css n) [.slice xa x.label.length xc, .slice oa x.own.length oc, .string x.text, .slice ba x.objects.length bc, .slice ma x.mails.length mc] (postC k css n)) ∈ bl → Below w.heap.size w W from fun W bl s hm => st0.below2 s (by simpa using hm))
 have hxl := goodL_len hx.good; have hxo := hx.ownL; have hxm := hx.mailN; have hxb := hx.objs; have hxt := hx.text
 have st := st0
 clear st0
 unfold reqV
 have HE := Lib.hid (show callK k (n : Int) c = (k.put n { x with text := c.text }, errR 0) by unfold callK; simp [hkd, hth])
 rw [hkd]
 clear hkd
 go_enter Try.func39, Try.ntmps39
 go_wp2_with (first | go_skip | (with_reducible refine at_store 9 ?_; refine mem_storeW st 9 _ _ rfl (wanted_none rfl) _ Try.sizeOf9 2 ?_; refine ⟨0, _, _, _, _, _, _, _, hpre, rfl, rfl, rfl, rfl, rfl, rfl, ?_⟩; clear st; intro w8 st hw8m hw8z; simp [Act.eval, Act.put, Value.cells, putL] at st) | (with_reducible refine at_box 36 ?_; refine mem_box st (wanted_none rfl) 36 _ rfl _ rfl _ rfl ?_; clear st; intro g5 w5 hg5 st hg5b; clear hg5b; simp [Act.eval, Act.put, Value.cells, putL] at st) | (with_reducible refine at_alloc 41 ?_; refine mem_alloc st (wanted_none rfl) 41 rfl _ Try.zeroValue41 _ rfl ?_; clear st; intro g6 w6 hg6 st hg6b; clear hg6b; simp [Act.eval, Act.put, Value.cells, putL] at st) | (with_reducible refine at_load 9 ?_; refine memX st 9 _ rfl Try.isAgg9 rfl ?_) | (with_reducible refine at_load 3 ?_; refine memX st 3 _ rfl Try.isAgg3 rfl ?_) | (go_at_call 56; go_must (refine (call_no _ _).mono ?_; rintro e vn ⟨rfl, hbn⟩; replace st := st.call hbn; clear hbn)) | (with_reducible refine at_store 41 ?_; refine memS st 41 _ _ rfl _ Try.sizeOf41 ⟨2, _, _, _, _, _, rfl, rfl, rfl, rfl, rfl, rfl, ?_⟩; clear st; intro w7 st hw7m hw7z; simp [Act.eval, Act.put, Value.cells, putL] at st))
 have hc := fun j => st.cell (i := 2) rfl j
 refine bodyPost_ret (v := RepV (errR 0)) ?hr rfl ?_
 case hr => simp [results, Try.results39, go_sem, hc, RepV, errR]; try rfl
 rw [HE.out]
 exact ⟨rfl, h.closeSame (made' := k.made) (x' := { x with text := c.text }) hn ec eB hT (st.sub (by simp [thrC]) (by simp)) rfl rfl (h.fine eB ((hT.label.keep (HKp.out _ _ st)).okay fun _ r => .inl r)) (h.fine eB ((hT.own.keep (HKp.out _ _ st)).okay fun _ r => .inl r))⟩
set_option maxRecDepth 100000 in
set_option maxHeartbeats 4000000 in
theorem kernel_Call_take (h : KerAt ok w g k css Bs) (hk : ∀ x ∈ k.threads, x.ok) (hn : n < 4) (hx64 : ¬ 64 < c.text.size) (hkd : c.kind = 7) :
  Calls Try.prog 39 #[.pointer (some ⟨g, 0, none⟩), .int .i64 n, reqV c la lc ga gc] w (CallPost ok w g Bs (callK k n c)) := by
 obtain ⟨x, xa, xc, oa, oc, ba, bc, ma, mc, ex, ec, eB, hT, hb⟩ := h.open hn
 have hx := hk x (List.mem_of_getElem? ex)
 have hpre := h.preLen hn
 have hth := Ker.thr_at ex
 have st0 := St.hand hb
 unfold thrC at st0
 have d1 : decide ((n : Int) < 0) = false := by simp
 have d2 : decide ((4 : Int) ≤ n) = false := by simp; omega
 have d64 := text_size hx64
 have hgg : ¬ ok g := h.apart g (by simp)
 have HKp := Lib.hid (show ∀ (W : World) (bl : Blks), St [g] w W bl → Keeps ok w W from fun W bl s => s.keeps (by simpa using hgg))
 have HB := Lib.hid (show ∀ (W : World) (bl : Blks), St [g] w W bl → (g, 84, winC (preC k css n) [.slice xa x.label.length xc, .slice oa x.own.length oc, .string x.text, .slice ba x.objects.length bc, .slice ma x.mails.length mc] (postC k css n)) ∈ bl → Below w.heap.size w W from fun W bl s hm => st0.below2 s (by simpa using hm))
 have hxl := goodL_len hx.good; have hxo := hx.ownL; have hxm := hx.mailN; have hxb := hx.objs; have hxt := hx.text
 have st := st0
 clear st0
 unfold reqV
 have HE := Lib.hid (show callK k (n : Int) c = (k.put n (takeX x).1, (takeX x).2) by unfold callK takeK; simp [hkd, hth])
 rw [hkd]
 clear hkd
 have hmne : ma.map (·.block) ≠ some g := fun e => h.gOut eB (mem_rows2.2 (.inr e))
 have HT := Lib.hid (fun (W : World) (hB : Below w.heap.size w W) (hb : W.heap[g]? = some (.cells (winC (preC k css n) (thrC x xa xc oa oc ba bc ma mc) (postC k css n)).toArray 84 (0, 0))) => kernel_take (fun b => ok b ∧ b < w.heap.size) W g _ _ _ x xa xc oa oc ba bc ma mc hpre hx (hT.later hB) (fun h => hgg h.1) hmne hb)
 obtain ⟨hrl, hro⟩ := takeX_same x
 generalize takeX x = r at HT HE hrl hro
 have HRl := Lib.hid hrl
 have HRo := Lib.hid hro
 clear hrl hro
 have hgw := h.lt g (by simp)
 unfold thrC at HT
 go_enter Try.func39, Try.ntmps39
 go_wp2_with (first | go_skip | (with_reducible refine at_box 36 ?_; refine mem_box st (wanted_none rfl) 36 _ rfl _ rfl _ rfl ?_; clear st; intro g5 w5 hg5 st hg5b; clear hg5b; simp [Act.eval, Act.put, Value.cells, putL] at st) | (with_reducible refine at_alloc 41 ?_; refine mem_alloc st (wanted_none rfl) 41 rfl _ Try.zeroValue41 _ rfl ?_; clear st; intro g6 w6 hg6 st hg6b; clear hg6b; simp [Act.eval, Act.put, Value.cells, putL] at st) | (with_reducible refine at_load 9 ?_; refine memX st 9 _ rfl Try.isAgg9 rfl ?_) | (with_reducible refine at_load 3 ?_; refine memX st 3 _ rfl Try.isAgg3 rfl ?_) | (go_at_call 56; go_must (refine (call_no _ _).mono ?_; rintro e vn ⟨rfl, hbn⟩; replace st := st.call hbn; clear hbn)) | (with_reducible refine at_store 41 ?_; refine memS st 41 _ _ rfl _ Try.sizeOf41 ⟨2, _, _, _, _, _, rfl, rfl, rfl, rfl, rfl, rfl, ?_⟩; clear st; intro w7 st hw7m hw7z; simp [Act.eval, Act.put, Value.cells, putL] at st))
 have hl5 := st.ltAt (i := 1) rfl
 have hl6 := st.ltAt (i := 2) rfl
 have hBW := HB.out _ _ st (by simp)
 have hsW := hBW.size
 refine (HT.out _ hBW (st.blk _ (List.mem_of_getElem? (i := 0) rfl))).mono ?_
 rintro e W1 ⟨oa', oc', ma', mc', rfl, hk1, hown, hrow, hblk⟩
 have hzW := hk1.size
 replace st := st.turn (i := 0) rfl hk1
 simp only [List.set_cons_zero] at st
 unfold RepV
 go_wp2_with (first | go_skip | (with_reducible refine at_store 41 ?_; refine memS st 41 _ _ rfl _ Try.sizeOf41 ⟨2, _, _, _, _, _, rfl, rfl, rfl, rfl, rfl, rfl, ?_⟩; clear st; intro w7 st hw7m hw7z; simp [Act.eval, Act.put, Value.cells, putL] at st))
 have hc := fun j => st.cell (i := 2) rfl j
 refine bodyPost_ret (v := RepV r.2) ?hr rfl ?_
 case hr => simp [results, Try.results39, go_sem, hc, RepV]; try rfl
 rw [HE.out]
 refine ⟨rfl, h.closeMails (made' := k.made) (x' := r.1) (x := x) (la' := xa) (lc' := xc) (oa' := oa') (oc' := oc') (ma' := ma') (mc' := mc') hn ec eB hT (st.sub (by simp [thrC]) (by simp)) HRo.out (h.fine eB ?_) (h.fine eB ?_) ?_ hblk⟩
 ·rw [HRl.out]; exact (hT.label.keep (HKp.out _ _ st)).okay fun _ r => .inl r
 ·refine (hown.move (by omega) (fun b hb ho => ⟨ho, hw7m b ?_⟩) fun _ _ r => r).okay fun b ho => ?_
  ·rcases ho with ho | ho
   ·have := ho.2; omega
   ·omega
  ·rcases ho with ho | ho
   ·exact .inl ho.1
   ·exact .inr (by omega)
 ·refine hrow.kept (fun b e => hw7m b ?_) fun _ _ r => r.move (by omega) fun b hb ho => ⟨⟨.inl ho.1, fun hm => ?_⟩, ?_⟩
  ·have := hT.mails.lt (hblk b e); omega
  ·rcases List.mem_cons.1 hm with rfl | hm
   ·exact hgg ho.1
   ·exact h.apartAt eB hm ho.1
  ·exact ((HKp.out _ _ st).block b ho.2 ho.1).trans (hBW.block b ho.2).symm
set_option maxRecDepth 100000 in
set_option maxHeartbeats 4000000 in
theorem kernel_Call_cat_full (h : KerAt ok w g k css Bs) (hk : ∀ x ∈ k.threads, x.ok) (hn : n < 4) (hx64 : ¬ 64 < c.text.size) (hkd : c.kind = 1) (hh0 : 0 ≤ k.host) (hh4 : k.host < 4) (hm0 : 0 ≤ k.made) (hm20 : k.made ≤ 20) (hf : 20 ≤ k.made) :
  Calls Try.prog 39 #[.pointer (some ⟨g, 0, none⟩), .int .i64 n, reqV c la lc ga gc] w (CallPost ok w g Bs (callK k n c)) := by
 obtain ⟨x, xa, xc, oa, oc, ba, bc, ma, mc, ex, ec, eB, hT, hb⟩ := h.open hn
 have hx := hk x (List.mem_of_getElem? ex)
 have hpre := h.preLen hn
 have hth := Ker.thr_at ex
 have st0 := St.hand hb
 unfold thrC at st0
 have d1 : decide ((n : Int) < 0) = false := by simp
 have d2 : decide ((4 : Int) ≤ n) = false := by simp; omega
 have d64 := text_size hx64
 have hgg : ¬ ok g := h.apart g (by simp)
 have HKp := Lib.hid (show ∀ (W : World) (bl : Blks), St [g] w W bl → Keeps ok w W from fun W bl s => s.keeps (by simpa using hgg))
 have HB := Lib.hid (show ∀ (W : World) (bl : Blks), St [g] w W bl → (g, 84, winC (preC k css n) [.slice xa x.label.length xc, .slice oa x.own.length oc, .string x.text, .slice ba x.objects.length bc, .slice ma x.mails.length mc] (postC k css n)) ∈ bl → Below w.heap.size w W from fun W bl s hm => st0.below2 s (by simpa using hm))
 have hxl := goodL_len hx.good; have hxo := hx.ownL; have hxm := hx.mailN; have hxb := hx.objs; have hxt := hx.text
 have st := st0
 clear st0
 unfold reqV
 have hmade := h.madeAt hn
 have hhost := h.host n
 have hlen := h.len22 hn
 have hput := h.madePut hn
 have hx8 := hx.ownL
 have HO := Lib.hid (fun (W : World) (hB : Below w.heap.size w W) (hb : W.heap[g]? = some (.cells (winC (preC k css n) [.slice xa x.label.length xc, .slice oa x.own.length oc, .string x.text, .slice ba x.objects.length bc, .slice ma x.mails.length mc] (postC k css n)).toArray 84 (0, 0))) => kernel_own (fun b => ok b ∧ b < w.heap.size) W g _ _ _ _ _ _ _ oa oc x.own (k.host * 20 + k.made) hpre hx.own hx8 (hT.later hB).own (fun h => hgg h.1) hb)
 have HE := Lib.hid (show callK k (n : Int) c = (k, errR 5) by unfold callK; simp [hkd, hf])
 have d5 : decide (20 ≤ k.made) = true := by simp; omega
 rw [hkd]
 clear hkd
 go_enter Try.func39, Try.ntmps39
 go_wp2_with (first | go_skip | (with_reducible refine at_box 36 ?_; refine mem_box st (wanted_none rfl) 36 _ rfl _ rfl _ rfl ?_; clear st; intro g5 w5 hg5 st hg5b; clear hg5b; simp [Act.eval, Act.put, Value.cells, putL] at st) | (with_reducible refine at_alloc 41 ?_; refine mem_alloc st (wanted_none rfl) 41 rfl _ Try.zeroValue41 _ rfl ?_; clear st; intro g6 w6 hg6 st hg6b; clear hg6b; simp [Act.eval, Act.put, Value.cells, putL] at st) | (with_reducible refine at_load 9 ?_; refine memX st 9 _ rfl Try.isAgg9 rfl ?_) | (with_reducible refine at_load 3 ?_; refine memX st 3 _ rfl Try.isAgg3 rfl ?_) | (go_at_call 56; go_must (refine (call_no _ _).mono ?_; rintro e vn ⟨rfl, hbn⟩; replace st := st.call hbn; clear hbn)) | (with_reducible refine at_store 41 ?_; refine memS st 41 _ _ rfl _ Try.sizeOf41 ⟨2, _, _, _, _, _, rfl, rfl, rfl, rfl, rfl, rfl, ?_⟩; clear st; intro w7 st hw7m hw7z; simp [Act.eval, Act.put, Value.cells, putL] at st) | (with_reducible refine at_load 3 ?_; refine mem_load' st 3 _ rfl (wanted_none rfl) Try.isAgg3 ?_; refine ⟨0, _, _, _, _, _, rfl, rfl, hmade _ _ _ _ _, ?_⟩))
 have hc := fun j => st.cell (i := 2) rfl j
 refine bodyPost_ret (v := RepV (errR 5)) ?hr rfl ?_
 case hr => simp [results, Try.results39, go_sem, hc, RepV, errR]; try rfl
 rw [HE.out]
 exact ⟨rfl, KerTo.none h (HB.out _ _ st (by simp))⟩
set_option maxRecDepth 100000 in
set_option maxHeartbeats 4000000 in
theorem kernel_Call_cat_room (h : KerAt ok w g k css Bs) (hk : ∀ x ∈ k.threads, x.ok) (hn : n < 4) (hx64 : ¬ 64 < c.text.size) (hkd : c.kind = 1) (hh0 : 0 ≤ k.host) (hh4 : k.host < 4) (hm0 : 0 ≤ k.made) (hm20 : k.made ≤ 20) (hf : k.made < 20) (hof : (ownC (k.thr n).own (k.host * 20 + k.made)).2 ≠ 0) :
  Calls Try.prog 39 #[.pointer (some ⟨g, 0, none⟩), .int .i64 n, reqV c la lc ga gc] w (CallPost ok w g Bs (callK k n c)) := by
 obtain ⟨x, xa, xc, oa, oc, ba, bc, ma, mc, ex, ec, eB, hT, hb⟩ := h.open hn
 have hx := hk x (List.mem_of_getElem? ex)
 have hpre := h.preLen hn
 have hth := Ker.thr_at ex
 have st0 := St.hand hb
 unfold thrC at st0
 have d1 : decide ((n : Int) < 0) = false := by simp
 have d2 : decide ((4 : Int) ≤ n) = false := by simp; omega
 have d64 := text_size hx64
 have hgg : ¬ ok g := h.apart g (by simp)
 have HKp := Lib.hid (show ∀ (W : World) (bl : Blks), St [g] w W bl → Keeps ok w W from fun W bl s => s.keeps (by simpa using hgg))
 have HB := Lib.hid (show ∀ (W : World) (bl : Blks), St [g] w W bl → (g, 84, winC (preC k css n) [.slice xa x.label.length xc, .slice oa x.own.length oc, .string x.text, .slice ba x.objects.length bc, .slice ma x.mails.length mc] (postC k css n)) ∈ bl → Below w.heap.size w W from fun W bl s hm => st0.below2 s (by simpa using hm))
 have hxl := goodL_len hx.good; have hxo := hx.ownL; have hxm := hx.mailN; have hxb := hx.objs; have hxt := hx.text
 have st := st0
 clear st0
 unfold reqV
 have hmade := h.madeAt hn
 have hhost := h.host n
 have hlen := h.len22 hn
 have hput := h.madePut hn
 have hx8 := hx.ownL
 have HO := Lib.hid (fun (W : World) (hB : Below w.heap.size w W) (hb : W.heap[g]? = some (.cells (winC (preC k css n) [.slice xa x.label.length xc, .slice oa x.own.length oc, .string x.text, .slice ba x.objects.length bc, .slice ma x.mails.length mc] (postC k css n)).toArray 84 (0, 0))) => kernel_own (fun b => ok b ∧ b < w.heap.size) W g _ _ _ _ _ _ _ oa oc x.own (k.host * 20 + k.made) hpre hx.own hx8 (hT.later hB).own (fun h => hgg h.1) hb)
 rw [hth] at hof
 obtain ⟨⟨o2, e2⟩, HP⟩ : ∃ r, Hid (ownC x.own (k.host * 20 + k.made) = r) := ⟨_, rfl⟩
 rw [HP.out] at HO
 have hlo := ownC_lo x.own (k.host * 20 + k.made)
 rw [HP.out] at hlo
 have d5 : decide (20 ≤ k.made) = false := by simp; omega
 have hf' : ¬ 20 ≤ k.made := by omega
 rw [HP.out] at hof
 have HE := Lib.hid (show callK k (n : Int) c = (k, errR 5) by unfold callK; simp [hkd, hf', hth, HP.out, hof])
 rcases hlo with hlo | ⟨hlo, hlo2⟩
 ·exact absurd hlo hof
 obtain rfl : e2 = 5 := hlo
 obtain rfl : o2 = x.own := hlo2
 clear hof hf'
 rw [hkd]
 clear hkd
 go_enter Try.func39, Try.ntmps39
 go_wp2_with (first | go_skip | (with_reducible refine at_box 36 ?_; refine mem_box st (wanted_none rfl) 36 _ rfl _ rfl _ rfl ?_; clear st; intro g5 w5 hg5 st hg5b; clear hg5b; simp [Act.eval, Act.put, Value.cells, putL] at st) | (with_reducible refine at_alloc 41 ?_; refine mem_alloc st (wanted_none rfl) 41 rfl _ Try.zeroValue41 _ rfl ?_; clear st; intro g6 w6 hg6 st hg6b; clear hg6b; simp [Act.eval, Act.put, Value.cells, putL] at st) | (with_reducible refine at_load 9 ?_; refine memX st 9 _ rfl Try.isAgg9 rfl ?_) | (with_reducible refine at_load 3 ?_; refine memX st 3 _ rfl Try.isAgg3 rfl ?_) | (go_at_call 56; go_must (refine (call_no _ _).mono ?_; rintro e vn ⟨rfl, hbn⟩; replace st := st.call hbn; clear hbn)) | (with_reducible refine at_store 41 ?_; refine memS st 41 _ _ rfl _ Try.sizeOf41 ⟨2, _, _, _, _, _, rfl, rfl, rfl, rfl, rfl, rfl, ?_⟩; clear st; intro w7 st hw7m hw7z; simp [Act.eval, Act.put, Value.cells, putL] at st) | (with_reducible refine at_load 3 ?_; refine mem_load' st 3 _ rfl (wanted_none rfl) Try.isAgg3 ?_; refine ⟨0, _, _, _, _, _, rfl, rfl, hmade _ _ _ _ _, ?_⟩))
 have e20 : IntKind.i64.wrap (k.host * 20) = k.host * 20 := IntWalk.i64_in _ (by omega)
 have e21 : IntKind.i64.wrap (k.host * 20 + k.made) = k.host * 20 + k.made := IntWalk.i64_in _ (by omega)
 refine det_region (by kernel_rfl) 11 rfl (fun W => St [g] w W [(g, 84, winC (preC k css n) [.slice xa x.label.length xc, .slice oa x.own.length oc, .string x.text, .slice ba x.objects.length bc, .slice ma x.mails.length mc] (postC k css n)), (g5, 36, [.int .i64 1, .int .i64 c.h, .int .i64 c.t, .int .i64 c.n, .int .i64 c.c, .slice la c.label.length lc, .slice ga c.grants.length gc, .string c.text]), (g6, 41, [.int .i64 0, .int .i64 0, .string ⟨#[]⟩])]) (st.drew) (by decide +kernel) ?_
 refine detS 0 rfl ?_; simp only [kP, kA, kS, kZ]; refine detS 1 rfl ?_; simp only [kP, kA, kS, kZ]; refine detS 2 rfl ?_; simp only [kP, kA, kS, kZ]
 refine det_take (v := .int .i64 k.host) 3 rfl (by decide +kernel) (wanted_none rfl) (fun W hW => St.run_load hW 0 3 _ rfl Try.isAgg3 rfl rfl (hhost _ _)) ?_; simp only [kP, kA, kS, kZ]
 refine detT (v := .int .i64 (k.host * 20)) 4 rfl (fun W hW => by (go_simp; done)) ?_; simp only [kP, kA, kS, kZ]
 refine detS 5 rfl ?_; simp only [kP, kA, kS, kZ]; refine detS 6 rfl ?_; simp only [kP, kA, kS, kZ]; refine detS 7 rfl ?_; simp only [kP, kA, kS, kZ]
 refine det_take (v := .int .i64 k.made) 8 rfl (by decide +kernel) (wanted_none rfl) (fun W hW => St.run_load hW 0 3 _ rfl Try.isAgg3 rfl rfl (hmade _ _ _ _ _)) ?_; simp only [kP, kA, kS, kZ]
 refine detT (v := .int .i64 (k.host * 20 + k.made)) 9 rfl (fun W hW => by (go_simp; done)) ?_; simp only [kP, kA, kS, kZ]
 refine detS 10 rfl ?_; simp only [kP, kA, kS, kZ]
 refine det_done (by decide +kernel) ?_
 clear st e20 e21
 intro W st
 have hBW := HB.out _ _ st (by simp)
 have hsW := hBW.size
 have hl5 := st.ltAt (i := 1) rfl
 have hl6 := st.ltAt (i := 2) rfl
 have hgw := h.lt g (by simp)
 go_wp2_with fail
 refine (HO.out _ hBW (st.blk _ (List.mem_of_getElem? (i := 0) rfl))).mono ?_
 rintro e W1 ⟨oa', oc', rfl, hk1, hown⟩
 have hzW := hk1.size
 replace st := st.turn (i := 0) rfl hk1
 simp only [List.set_cons_zero] at st
 go_wp2_with (first | go_skip | (go_at_call 56; go_must (refine (call_no _ _).mono ?_; rintro e vn ⟨rfl, hbv⟩; replace st := st.call hbv; have hvs := hbv.size)) | (with_reducible refine at_store 41 ?_; refine memS st 41 _ _ rfl _ Try.sizeOf41 ⟨2, _, _, _, _, _, rfl, rfl, rfl, rfl, rfl, rfl, ?_⟩; clear st; intro w7 st hw7m hw7z; simp [Act.eval, Act.put, Value.cells, putL] at st))
 have hc := fun j => st.cell (i := 2) rfl j
 refine bodyPost_ret (v := RepV (errR 5)) ?hr rfl ?_
 case hr => simp [results, Try.results39, go_sem, hc, RepV, errR]; try rfl
 rw [HE.out]
 have hcl : KerTo ok w g Bs w7 { k.put n x with made := k.made } := h.closeSame (made' := k.made) (x' := x) (x := x) (la' := xa) (lc' := xc) (oa' := oa') (oc' := oc') hn ec eB hT (st.sub (by simp [thrC]) (by simp)) rfl rfl (h.fine eB ((hT.label.keep (HKp.out _ _ st)).okay fun _ r => .inl r)) (h.fine eB ((hown.move (by omega) (fun b hb ho => ⟨ho, (hw7m b (by rcases ho with ho | ho <;> omega)).trans (hbv.block b hb)⟩) fun _ _ r => r).okay fun b ho => by
  rcases ho with ho | ho
  ·exact .inl ho.1
  ·exact .inr (by omega)))
 rw [Ker.put_self ex] at hcl
 exact ⟨rfl, hcl⟩
set_option maxRecDepth 100000 in
set_option maxHeartbeats 4000000 in
theorem kernel_Call_cat (h : KerAt ok w g k css Bs) (hk : ∀ x ∈ k.threads, x.ok) (hn : n < 4) (hx64 : ¬ 64 < c.text.size) (hkd : c.kind = 1) (hh0 : 0 ≤ k.host) (hh4 : k.host < 4) (hm0 : 0 ≤ k.made) (hm20 : k.made ≤ 20)  (hf : k.made < 20) (hof : (ownC (k.thr n).own (k.host * 20 + k.made)).2 = 0) :
  Calls Try.prog 39 #[.pointer (some ⟨g, 0, none⟩), .int .i64 n, reqV c la lc ga gc] w (CallPost ok w g Bs (callK k n c)) := by
 obtain ⟨x, xa, xc, oa, oc, ba, bc, ma, mc, ex, ec, eB, hT, hb⟩ := h.open hn
 have hx := hk x (List.mem_of_getElem? ex)
 have hpre := h.preLen hn
 have hth := Ker.thr_at ex
 have st0 := St.hand hb
 unfold thrC at st0
 have d1 : decide ((n : Int) < 0) = false := by simp
 have d2 : decide ((4 : Int) ≤ n) = false := by simp; omega
 have d64 := text_size hx64
 have hgg : ¬ ok g := h.apart g (by simp)
 have HKp := Lib.hid (show ∀ (W : World) (bl : Blks), St [g] w W bl → Keeps ok w W from fun W bl s => s.keeps (by simpa using hgg))
 have HB := Lib.hid (show ∀ (W : World) (bl : Blks), St [g] w W bl → (g, 84, winC (preC k css n) [.slice xa x.label.length xc, .slice oa x.own.length oc, .string x.text, .slice ba x.objects.length bc, .slice ma x.mails.length mc] (postC k css n)) ∈ bl → Below w.heap.size w W from fun W bl s hm => st0.below2 s (by simpa using hm))
 have hxl := goodL_len hx.good; have hxo := hx.ownL; have hxm := hx.mailN; have hxb := hx.objs; have hxt := hx.text
 have st := st0
 clear st0
 unfold reqV
 have hmade := h.madeAt hn
 have hhost := h.host n
 have hlen := h.len22 hn
 have hput := h.madePut hn
 have hx8 := hx.ownL
 have HO := Lib.hid (fun (W : World) (hB : Below w.heap.size w W) (hb : W.heap[g]? = some (.cells (winC (preC k css n) [.slice xa x.label.length xc, .slice oa x.own.length oc, .string x.text, .slice ba x.objects.length bc, .slice ma x.mails.length mc] (postC k css n)).toArray 84 (0, 0))) => kernel_own (fun b => ok b ∧ b < w.heap.size) W g _ _ _ _ _ _ _ oa oc x.own (k.host * 20 + k.made) hpre hx.own hx8 (hT.later hB).own (fun h => hgg h.1) hb)
 rw [hth] at hof
 obtain ⟨⟨o2, e2⟩, HP⟩ : ∃ r, Hid (ownC x.own (k.host * 20 + k.made) = r) := ⟨_, rfl⟩
 rw [HP.out] at HO
 have hlo := ownC_lo x.own (k.host * 20 + k.made)
 rw [HP.out] at hlo
 have d5 : decide (20 ≤ k.made) = false := by simp; omega
 have hf' : ¬ 20 ≤ k.made := by omega
 rw [HP.out] at hof
 obtain rfl : e2 = 0 := hof
 have HE := Lib.hid (show callK k (n : Int) c = ({ k.put n { x with own := o2 } with made := k.made + 1 }, ⟨0, k.host * 20 + k.made, ⟨#[]⟩⟩) by unfold callK; simp [hkd, hf', hth, HP.out])
 clear hlo hf'
 rw [hkd]
 clear hkd
 go_enter Try.func39, Try.ntmps39
 go_wp2_with (first | go_skip | (with_reducible refine at_box 36 ?_; refine mem_box st (wanted_none rfl) 36 _ rfl _ rfl _ rfl ?_; clear st; intro g5 w5 hg5 st hg5b; clear hg5b; simp [Act.eval, Act.put, Value.cells, putL] at st) | (with_reducible refine at_alloc 41 ?_; refine mem_alloc st (wanted_none rfl) 41 rfl _ Try.zeroValue41 _ rfl ?_; clear st; intro g6 w6 hg6 st hg6b; clear hg6b; simp [Act.eval, Act.put, Value.cells, putL] at st) | (with_reducible refine at_load 9 ?_; refine memX st 9 _ rfl Try.isAgg9 rfl ?_) | (with_reducible refine at_load 3 ?_; refine memX st 3 _ rfl Try.isAgg3 rfl ?_) | (go_at_call 56; go_must (refine (call_no _ _).mono ?_; rintro e vn ⟨rfl, hbn⟩; replace st := st.call hbn; clear hbn)) | (with_reducible refine at_store 41 ?_; refine memS st 41 _ _ rfl _ Try.sizeOf41 ⟨2, _, _, _, _, _, rfl, rfl, rfl, rfl, rfl, rfl, ?_⟩; clear st; intro w7 st hw7m hw7z; simp [Act.eval, Act.put, Value.cells, putL] at st) | (with_reducible refine at_load 3 ?_; refine mem_load' st 3 _ rfl (wanted_none rfl) Try.isAgg3 ?_; refine ⟨0, _, _, _, _, _, rfl, rfl, hmade _ _ _ _ _, ?_⟩))
 have e20 : IntKind.i64.wrap (k.host * 20) = k.host * 20 := IntWalk.i64_in _ (by omega)
 have e21 : IntKind.i64.wrap (k.host * 20 + k.made) = k.host * 20 + k.made := IntWalk.i64_in _ (by omega)
 refine det_region (by kernel_rfl) 11 rfl (fun W => St [g] w W [(g, 84, winC (preC k css n) [.slice xa x.label.length xc, .slice oa x.own.length oc, .string x.text, .slice ba x.objects.length bc, .slice ma x.mails.length mc] (postC k css n)), (g5, 36, [.int .i64 1, .int .i64 c.h, .int .i64 c.t, .int .i64 c.n, .int .i64 c.c, .slice la c.label.length lc, .slice ga c.grants.length gc, .string c.text]), (g6, 41, [.int .i64 0, .int .i64 0, .string ⟨#[]⟩])]) (st.drew) (by decide +kernel) ?_
 refine detS 0 rfl ?_; simp only [kP, kA, kS, kZ]; refine detS 1 rfl ?_; simp only [kP, kA, kS, kZ]; refine detS 2 rfl ?_; simp only [kP, kA, kS, kZ]
 refine det_take (v := .int .i64 k.host) 3 rfl (by decide +kernel) (wanted_none rfl) (fun W hW => St.run_load hW 0 3 _ rfl Try.isAgg3 rfl rfl (hhost _ _)) ?_; simp only [kP, kA, kS, kZ]
 refine detT (v := .int .i64 (k.host * 20)) 4 rfl (fun W hW => by (go_simp; done)) ?_; simp only [kP, kA, kS, kZ]
 refine detS 5 rfl ?_; simp only [kP, kA, kS, kZ]; refine detS 6 rfl ?_; simp only [kP, kA, kS, kZ]; refine detS 7 rfl ?_; simp only [kP, kA, kS, kZ]
 refine det_take (v := .int .i64 k.made) 8 rfl (by decide +kernel) (wanted_none rfl) (fun W hW => St.run_load hW 0 3 _ rfl Try.isAgg3 rfl rfl (hmade _ _ _ _ _)) ?_; simp only [kP, kA, kS, kZ]
 refine detT (v := .int .i64 (k.host * 20 + k.made)) 9 rfl (fun W hW => by (go_simp; done)) ?_; simp only [kP, kA, kS, kZ]
 refine detS 10 rfl ?_; simp only [kP, kA, kS, kZ]
 refine det_done (by decide +kernel) ?_
 clear st e20 e21
 intro W st
 have hBW := HB.out _ _ st (by simp)
 have hsW := hBW.size
 have hl5 := st.ltAt (i := 1) rfl
 have hl6 := st.ltAt (i := 2) rfl
 have hgw := h.lt g (by simp)
 go_wp2_with fail
 refine (HO.out _ hBW (st.blk _ (List.mem_of_getElem? (i := 0) rfl))).mono ?_
 rintro e W1 ⟨oa', oc', rfl, hk1, hown⟩
 have hzW := hk1.size
 replace st := st.turn (i := 0) rfl hk1
 simp only [List.set_cons_zero] at st
 go_wp2_with (first
  | go_skip | (with_reducible refine at_load 3 ?_; refine mem_load' st 3 _ rfl (wanted_none rfl) Try.isAgg3 ?_; refine ⟨0, _, _, _, _, _, rfl, rfl, hmade _ _ _ _ _, ?_⟩)
  | ((with_reducible refine at_store 3 ?_); refine mem_store st (wanted_none rfl) 3 _ _ rfl g 21 rfl _ rfl [.int .i64 (k.made + 1)] rfl Try.sizeOf3 (by simp [Value.oneCell']) 0 _ _ rfl (by rw [hlen]; simp) ?_; clear st; intro w8 st hw8m hw8z; rw [hput] at st; simp only [List.set_cons_zero] at st)
  | (with_reducible refine at_store 41 ?_; refine memS st 41 _ _ rfl _ Try.sizeOf41 ⟨2, _, _, _, _, _, rfl, rfl, rfl, rfl, rfl, rfl, ?_⟩; clear st; intro w7 st hw7m hw7z; simp [Act.eval, Act.put, Value.cells, putL] at st))
 have hc := fun j => st.cell (i := 2) rfl j
 refine bodyPost_ret (v := RepV ⟨0, k.host * 20 + k.made, ⟨#[]⟩⟩) ?hr rfl ?_
 case hr => simp [results, Try.results39, go_sem, hc, RepV, errR]; try rfl
 rw [HE.out]
 exact ⟨rfl, h.closeSame (made' := k.made + 1) (x' := { x with own := o2 }) (x := x) (la' := xa) (lc' := xc) (oa' := oa') (oc' := oc') hn ec eB hT (st.sub (by simp [thrC]) (by simp)) rfl rfl (h.fine eB ((hT.label.keep (HKp.out _ _ st)).okay fun _ r => .inl r)) (h.fine eB ((hown.move (by omega) (fun b hb ho => ⟨ho, (hw7m b (by rcases ho with ho | ho <;> omega)).trans (hw8m b (by rcases ho with ho | ho; exact fun e => hgg (e ▸ ho.1); omega))⟩) fun _ _ r => r).okay fun b ho => by
  rcases ho with ho | ho
  ·exact .inl ho.1
  ·exact .inr (by omega)))⟩
end
end Go.Proofs.Ytflfjpopfapogaa
