/- Walks and plain laws, part 27. -/
import Derived.Test.YtnjjdpiofbajlaaGreatP26
set_option linter.unusedSimpArgs false
set_option linter.unusedVariables false
set_option maxHeartbeats 16000000
set_option maxRecDepth 100000
namespace Go.Proofs.YtnjjdpiofbajlaaGreat
open Go.RowKit
def reqV (c : Req) (la : Option Addr) (lc : Nat) (ga : Option Addr) (gc : Nat) : Value := .agg #[.int .i64 c.kind, .int .i64 c.h, .int .i64 c.t, .int .i64 c.n, .int .i64 c.c, .slice la c.label.length lc, .slice ga c.grants.length gc, .string c.text]
def CallPost (ok : Nat → Prop) (w : World) (g : Nat) (Bs : List (List Nat)) (r : Ker × Rep) (e : Ending) (w' : World) : Prop := e = .returned (RepV r.2) ∧ KerTo ok w g Bs w' r.1
theorem call_no (w : World) (n : Int) : Calls Tryz.prog 68 #[.int .i64 n] w fun e w' => e = .returned (.agg #[.int .i64 n, .int .i64 0, .string ⟨#[]⟩]) ∧ Below w.heap.size w w' := by
 have st := St.start w
 go_enter Tryz.func68, Tryz.ntmps68
 go_wp2_with (first | go_skip | (with_reducible refine mA st Tryz.zeroValue35 ?_; clear st; intro g2 w2 hg2 st) | (with_reducible refine mS 0 st Tryz.sizeOf35 ?_; clear st; intro w3 st hw3m hw3z))
 have hc := fun j => st.cell (i := 0) rfl j
 refine bodyPost_ret (v := _) ?hr rfl ⟨rfl, st.below⟩
 case hr => simp [results, Tryz.results68, go_sem, hc]; try rfl
theorem text_size {s : ByteArray} (h : ¬ 64 < s.size) : decide (64 < (s.size : Int)) = false := by simp; omega
theorem Ker.put_self {k : Ker} {n : Nat} {x : Thr} (e : k.threads[n]? = some x) : ({ k.put n x with made := k.made } : Ker) = k := by
 obtain ⟨hl, rfl⟩ := gEs e
 simp [Ker.put]
section
variable (ok okc : Nat → Prop) (w : World) (g : Nat) (k : Ker) (css : List (List Value)) (Bs : List (List Nat)) (n : Nat) (c : Req) (la : Option Addr) (lc : Nat) (ga : Option Addr) (gc : Nat)
theorem kernel_Call_say (h : KerAt ok w g k css Bs) (hk : ∀ x ∈ k.threads, x.ok) (hn : n < 4) (hx64 : ¬ 64 < c.text.size) (hkd : c.kind = 10) :
  Calls Tryz.prog 50 #[.pointer (some ⟨g, 0, none⟩), .int .i64 n, reqV c la lc ga gc] w (CallPost ok w g Bs (callK k n c)) := by
 obtain ⟨x, xa, xc, oa, oc, ba, bc, ma, mc, ex, ec, eB, hT, hb⟩ := h.open hn
 have hx := hk x (mgE ex)
 have hpre := h.preLen hn
 have hth := Ker.thr_at ex
 have st0 := St.hand hb
 unfold thrC at st0
 have d1 : decide ((n : Int) < 0) = false := by simp
 have d2 : decide ((4 : Int) ≤ n) = false := by simp; omega
 have d64 := text_size hx64
 have hgg : ¬ ok g := h.apart g (by simp)
 have HKp := qh (show ∀ (W : World) (bl : Blks), St [g] w W bl → Keeps ok w W from fun W bl s => s.keeps (by simpa using hgg))
 have HB := qh (show ∀ (W : World) (bl : Blks), St [g] w W bl → (g, 98, winC (preC k css n) [.slice xa x.label.length xc, .slice oa x.own.length oc, .string x.text, .slice ba x.objects.length bc, .slice ma x.mails.length mc] (postC k css n)) ∈ bl → Below w.heap.size w W from fun W bl s hm => st0.below2 s (by simpa using hm))
 have hxl := goodL_len hx.good; have hxo := hx.ownL; have hxm := hx.mailN; have hxb := hx.objs; have hxt := hx.text
 have st := st0
 clear st0
 unfold reqV
 have HE := qh (show callK k (n : Int) c = (k, ⟨0, 0, x.text⟩) by unfold callK; simp [hkd, hth])
 rw [hkd]
 clear hkd
 go_enter Tryz.func50, Tryz.ntmps50
 go_wp2_with (first | go_skip | (with_reducible refine at_load 9 ?_; (first | refine mem_loadW st 9 _ rfl (wanted_none rfl) Tryz.isAgg9 2 ?_ | (refine mem_loadW st 9 _ rfl (wanted_some rfl ?_) Tryz.isAgg9 2 ?_; focus (simp [yielded, Act.put]; done))); refine ⟨0, _, _, _, _, _, _, _, hpre, rfl, rfl, rfl, ?_⟩) | (with_reducible refine mB 30 st ?_; clear st; intro g5 w5 hg5 st) | (with_reducible refine mA st Tryz.zeroValue35 ?_; clear st; intro g6 w6 hg6 st) | (with_reducible refine mX st Tryz.isAgg9 ?_) | (with_reducible refine mX st Tryz.isAgg3 ?_) | (go_at_call 68; go_must (refine (call_no _ _).mono ?_; rintro e vn ⟨rfl, hbn⟩; replace st := st.call hbn; clear hbn)) | (with_reducible refine mS 2 st Tryz.sizeOf35 ?_; clear st; intro w7 st hw7m hw7z))
 have hc := fun j => st.cell (i := 2) rfl j
 refine bodyPost_ret (v := RepV (⟨0, 0, x.text⟩)) ?hr rfl ?_
 case hr => simp [results, Tryz.results50, go_sem, hc, RepV, errR]; try rfl
 rw [HE.out]
 exact ⟨rfl, KerTo.none h (HB.out _ _ st (by simp))⟩
theorem kernel_Call_other (h : KerAt ok w g k css Bs) (hk : ∀ x ∈ k.threads, x.ok) (hn : n < 4) (hx64 : ¬ 64 < c.text.size) (hkd : c.kind ≠ 1 ∧ c.kind ≠ 2 ∧ c.kind ≠ 3 ∧ c.kind ≠ 4 ∧ c.kind ≠ 5 ∧ c.kind ≠ 7 ∧ c.kind ≠ 9 ∧ c.kind ≠ 10) :
  Calls Tryz.prog 50 #[.pointer (some ⟨g, 0, none⟩), .int .i64 n, reqV c la lc ga gc] w (CallPost ok w g Bs (callK k n c)) := by
 obtain ⟨x, xa, xc, oa, oc, ba, bc, ma, mc, ex, ec, eB, hT, hb⟩ := h.open hn
 have hx := hk x (mgE ex)
 have hpre := h.preLen hn
 have hth := Ker.thr_at ex
 have st0 := St.hand hb
 unfold thrC at st0
 have d1 : decide ((n : Int) < 0) = false := by simp
 have d2 : decide ((4 : Int) ≤ n) = false := by simp; omega
 have d64 := text_size hx64
 have hgg : ¬ ok g := h.apart g (by simp)
 have HKp := qh (show ∀ (W : World) (bl : Blks), St [g] w W bl → Keeps ok w W from fun W bl s => s.keeps (by simpa using hgg))
 have HB := qh (show ∀ (W : World) (bl : Blks), St [g] w W bl → (g, 98, winC (preC k css n) [.slice xa x.label.length xc, .slice oa x.own.length oc, .string x.text, .slice ba x.objects.length bc, .slice ma x.mails.length mc] (postC k css n)) ∈ bl → Below w.heap.size w W from fun W bl s hm => st0.below2 s (by simpa using hm))
 have hxl := goodL_len hx.good; have hxo := hx.ownL; have hxm := hx.mailN; have hxb := hx.objs; have hxt := hx.text
 have st := st0
 clear st0
 unfold reqV
 obtain ⟨k1, k2, k3, k4, k5, k7, k9, k10⟩ := hkd
 have HE := qh (show callK k (n : Int) c = (k, errR 3) by unfold callK; simp [k1, k2, k3, k4, k5, k7, k9, k10])
 have e1 : (c.kind == 1) = false := by simpa using k1
 have e2 : (c.kind == 2) = false := by simpa using k2
 have e3 : (c.kind == 3) = false := by simpa using k3
 have e4 : (c.kind == 4) = false := by simpa using k4
 have e5 : (c.kind == 5) = false := by simpa using k5
 have e7 : (c.kind == 7) = false := by simpa using k7
 have e9 : (c.kind == 9) = false := by simpa using k9
 have e10 : (c.kind == 10) = false := by simpa using k10
 clear k1 k2 k3 k4 k5 k7 k9 k10
 go_enter Tryz.func50, Tryz.ntmps50
 go_wp2_with (first | go_skip | (with_reducible refine mB 30 st ?_; clear st; intro g5 w5 hg5 st) | (with_reducible refine mA st Tryz.zeroValue35 ?_; clear st; intro g6 w6 hg6 st) | (with_reducible refine mX st Tryz.isAgg9 ?_) | (with_reducible refine mX st Tryz.isAgg3 ?_) | (go_at_call 68; go_must (refine (call_no _ _).mono ?_; rintro e vn ⟨rfl, hbn⟩; replace st := st.call hbn; clear hbn)) | (with_reducible refine mS 2 st Tryz.sizeOf35 ?_; clear st; intro w7 st hw7m hw7z))
 have hc := fun j => st.cell (i := 2) rfl j
 refine bodyPost_ret (v := RepV (errR 3)) ?hr rfl ?_
 case hr => simp [results, Tryz.results50, go_sem, hc, RepV, errR]; try rfl
 rw [HE.out]
 exact ⟨rfl, KerTo.none h (HB.out _ _ st (by simp))⟩
theorem kernel_Call_forget (h : KerAt ok w g k css Bs) (hk : ∀ x ∈ k.threads, x.ok) (hn : n < 4) (hx64 : ¬ 64 < c.text.size) (hkd : c.kind = 9) :
  Calls Tryz.prog 50 #[.pointer (some ⟨g, 0, none⟩), .int .i64 n, reqV c la lc ga gc] w (CallPost ok w g Bs (callK k n c)) := by
 obtain ⟨x, xa, xc, oa, oc, ba, bc, ma, mc, ex, ec, eB, hT, hb⟩ := h.open hn
 have hx := hk x (mgE ex)
 have hpre := h.preLen hn
 have hth := Ker.thr_at ex
 have st0 := St.hand hb
 unfold thrC at st0
 have d1 : decide ((n : Int) < 0) = false := by simp
 have d2 : decide ((4 : Int) ≤ n) = false := by simp; omega
 have d64 := text_size hx64
 have hgg : ¬ ok g := h.apart g (by simp)
 have HKp := qh (show ∀ (W : World) (bl : Blks), St [g] w W bl → Keeps ok w W from fun W bl s => s.keeps (by simpa using hgg))
 have HB := qh (show ∀ (W : World) (bl : Blks), St [g] w W bl → (g, 98, winC (preC k css n) [.slice xa x.label.length xc, .slice oa x.own.length oc, .string x.text, .slice ba x.objects.length bc, .slice ma x.mails.length mc] (postC k css n)) ∈ bl → Below w.heap.size w W from fun W bl s hm => st0.below2 s (by simpa using hm))
 have hxl := goodL_len hx.good; have hxo := hx.ownL; have hxm := hx.mailN; have hxb := hx.objs; have hxt := hx.text
 have st := st0
 clear st0
 unfold reqV
 have HE := qh (show callK k (n : Int) c = (k.put n { x with text := c.text }, errR 0) by unfold callK; simp [hkd, hth])
 rw [hkd]
 clear hkd
 go_enter Tryz.func50, Tryz.ntmps50
 go_wp2_with (first | go_skip | (with_reducible refine at_store 9 ?_; refine mem_storeW st 9 _ _ rfl (wanted_none rfl) _ Tryz.sizeOf9 2 ?_; refine ⟨0, _, _, _, _, _, _, _, hpre, rfl, rfl, rfl, rfl, rfl, rfl, ?_⟩; clear st; intro w8 st hw8m hw8z; simp [Act.eval, Act.put, Value.cells, putL] at st) | (with_reducible refine mB 30 st ?_; clear st; intro g5 w5 hg5 st) | (with_reducible refine mA st Tryz.zeroValue35 ?_; clear st; intro g6 w6 hg6 st) | (with_reducible refine mX st Tryz.isAgg9 ?_) | (with_reducible refine mX st Tryz.isAgg3 ?_) | (go_at_call 68; go_must (refine (call_no _ _).mono ?_; rintro e vn ⟨rfl, hbn⟩; replace st := st.call hbn; clear hbn)) | (with_reducible refine mS 2 st Tryz.sizeOf35 ?_; clear st; intro w7 st hw7m hw7z))
 have hc := fun j => st.cell (i := 2) rfl j
 refine bodyPost_ret (v := RepV (errR 0)) ?hr rfl ?_
 case hr => simp [results, Tryz.results50, go_sem, hc, RepV, errR]; try rfl
 rw [HE.out]
 exact ⟨rfl, h.closeSame (made' := k.made) (x' := { x with text := c.text }) hn ec eB hT (st.sub (by simp [thrC]) (by simp)) rfl rfl (h.fine eB ((hT.label.keep (HKp.out _ _ st)).okay fun _ r => .inl r)) (h.fine eB ((hT.own.keep (HKp.out _ _ st)).okay fun _ r => .inl r))⟩
theorem kernel_Call_take (h : KerAt ok w g k css Bs) (hk : ∀ x ∈ k.threads, x.ok) (hn : n < 4) (hx64 : ¬ 64 < c.text.size) (hkd : c.kind = 7) :
  Calls Tryz.prog 50 #[.pointer (some ⟨g, 0, none⟩), .int .i64 n, reqV c la lc ga gc] w (CallPost ok w g Bs (callK k n c)) := by
 obtain ⟨x, xa, xc, oa, oc, ba, bc, ma, mc, ex, ec, eB, hT, hb⟩ := h.open hn
 have hx := hk x (mgE ex)
 have hpre := h.preLen hn
 have hth := Ker.thr_at ex
 have st0 := St.hand hb
 unfold thrC at st0
 have d1 : decide ((n : Int) < 0) = false := by simp
 have d2 : decide ((4 : Int) ≤ n) = false := by simp; omega
 have d64 := text_size hx64
 have hgg : ¬ ok g := h.apart g (by simp)
 have HKp := qh (show ∀ (W : World) (bl : Blks), St [g] w W bl → Keeps ok w W from fun W bl s => s.keeps (by simpa using hgg))
 have HB := qh (show ∀ (W : World) (bl : Blks), St [g] w W bl → (g, 98, winC (preC k css n) [.slice xa x.label.length xc, .slice oa x.own.length oc, .string x.text, .slice ba x.objects.length bc, .slice ma x.mails.length mc] (postC k css n)) ∈ bl → Below w.heap.size w W from fun W bl s hm => st0.below2 s (by simpa using hm))
 have hxl := goodL_len hx.good; have hxo := hx.ownL; have hxm := hx.mailN; have hxb := hx.objs; have hxt := hx.text
 have st := st0
 clear st0
 unfold reqV
 have HE := qh (show callK k (n : Int) c = (k.put n (takeX x).1, (takeX x).2) by unfold callK takeK; simp [hkd, hth])
 rw [hkd]
 clear hkd
 have hmne : ma.map (·.block) ≠ some g := fun e => h.gOut eB (mem_rows2.2 (.inr e))
 have HT := qh (fun (W : World) (hB : Below w.heap.size w W) (hb : W.heap[g]? = some (.cells (winC (preC k css n) (thrC x xa xc oa oc ba bc ma mc) (postC k css n)).toArray 98 (0, 0))) => kernel_take (fun b => ok b ∧ b < w.heap.size) W g _ _ _ x xa xc oa oc ba bc ma mc hpre hx (hT.later hB) (fun h => hgg h.1) hmne hb)
 obtain ⟨hrl, hro⟩ := takeX_same x
 generalize takeX x = r at HT HE hrl hro
 have HRl := qh hrl
 have HRo := qh hro
 clear hrl hro
 have hgw := h.lt g (by simp)
 unfold thrC at HT
 go_enter Tryz.func50, Tryz.ntmps50
 go_wp2_with (first | go_skip | (with_reducible refine mB 30 st ?_; clear st; intro g5 w5 hg5 st) | (with_reducible refine mA st Tryz.zeroValue35 ?_; clear st; intro g6 w6 hg6 st) | (with_reducible refine mX st Tryz.isAgg9 ?_) | (with_reducible refine mX st Tryz.isAgg3 ?_) | (go_at_call 68; go_must (refine (call_no _ _).mono ?_; rintro e vn ⟨rfl, hbn⟩; replace st := st.call hbn; clear hbn)) | (with_reducible refine mS 2 st Tryz.sizeOf35 ?_; clear st; intro w7 st hw7m hw7z))
 have hl5 := st.ltAt (i := 1) rfl
 have hl6 := st.ltAt (i := 2) rfl
 have hBW := HB.out _ _ st (by simp)
 have hsW := hBW.size
 refine (HT.out _ hBW (st.blk _ (mgE (i := 0) rfl))).mono ?_
 rintro e W1 ⟨oa', oc', ma', mc', rfl, hk1, hown, hrow, hblk⟩
 have hzW := hk1.size
 replace st := st.turn (i := 0) rfl hk1
 simp only [List.set_cons_zero] at st
 unfold RepV
 go_wp2_with (first | go_skip | (with_reducible refine mS 2 st Tryz.sizeOf35 ?_; clear st; intro w7 st hw7m hw7z))
 have hc := fun j => st.cell (i := 2) rfl j
 refine bodyPost_ret (v := RepV r.2) ?hr rfl ?_
 case hr => simp [results, Tryz.results50, go_sem, hc, RepV]; try rfl
 rw [HE.out]
 refine ⟨rfl, h.closeMails (made' := k.made) (x' := r.1) (x := x) (la' := xa) (lc' := xc) (oa' := oa') (oc' := oc') (ma' := ma') (mc' := mc') hn ec eB hT (st.sub (by simp [thrC]) (by simp)) HRo.out (h.fine eB ?_) (h.fine eB ?_) ?_ hblk⟩
 ·rw [HRl.out]; exact (hT.label.keep (HKp.out _ _ st)).okay fun _ r => .inl r
 ·refine (hown.move (by omega) (fun b hb ho => ⟨ho, hw7m b ?_⟩) fun _ _ r => r).okay fun b ho => ?_
  ·rcases ho with ho | ho
   ·have := ho.2; omega
   ·omega
  ·rcases ho with ho | ho
   ·exact .inl ho.1
   ·exact .inr (by omega)
 ·refine hrow.kept (fun b e => hw7m b ?_) fun _ _ r => r.move (by omega) fun b hb ho => ⟨⟨.inl ho.1, fun hm => ?_⟩, ?_⟩
  ·have := hT.mails.lt (hblk b e); omega
  ·rcases List.mem_cons.1 hm with rfl | hm
   ·exact hgg ho.1
   ·exact h.apartAt eB hm ho.1
  ·exact ((HKp.out _ _ st).block b ho.2 ho.1).trans (hBW.block b ho.2).symm
theorem kernel_Call_cat_full (h : KerAt ok w g k css Bs) (hk : ∀ x ∈ k.threads, x.ok) (hn : n < 4) (hx64 : ¬ 64 < c.text.size) (hkd : c.kind = 1) (hh0 : 0 ≤ k.host) (hh4 : k.host < 4) (hm0 : 0 ≤ k.made) (hm20 : k.made ≤ 20) (hf : 20 ≤ k.made) :
  Calls Tryz.prog 50 #[.pointer (some ⟨g, 0, none⟩), .int .i64 n, reqV c la lc ga gc] w (CallPost ok w g Bs (callK k n c)) := by
 obtain ⟨x, xa, xc, oa, oc, ba, bc, ma, mc, ex, ec, eB, hT, hb⟩ := h.open hn
 have hx := hk x (mgE ex)
 have hpre := h.preLen hn
 have hth := Ker.thr_at ex
 have st0 := St.hand hb
 unfold thrC at st0
 have d1 : decide ((n : Int) < 0) = false := by simp
 have d2 : decide ((4 : Int) ≤ n) = false := by simp; omega
 have d64 := text_size hx64
 have hgg : ¬ ok g := h.apart g (by simp)
 have HKp := qh (show ∀ (W : World) (bl : Blks), St [g] w W bl → Keeps ok w W from fun W bl s => s.keeps (by simpa using hgg))
 have HB := qh (show ∀ (W : World) (bl : Blks), St [g] w W bl → (g, 98, winC (preC k css n) [.slice xa x.label.length xc, .slice oa x.own.length oc, .string x.text, .slice ba x.objects.length bc, .slice ma x.mails.length mc] (postC k css n)) ∈ bl → Below w.heap.size w W from fun W bl s hm => st0.below2 s (by simpa using hm))
 have hxl := goodL_len hx.good; have hxo := hx.ownL; have hxm := hx.mailN; have hxb := hx.objs; have hxt := hx.text
 have st := st0
 clear st0
 unfold reqV
 have hmade := h.madeAt hn
 have hhost := h.host n
 have hlen := h.len22 hn
 have hput := h.madePut hn
 have hx8 := hx.ownL
 have HO := qh (fun (W : World) (hB : Below w.heap.size w W) (hb : W.heap[g]? = some (.cells (winC (preC k css n) [.slice xa x.label.length xc, .slice oa x.own.length oc, .string x.text, .slice ba x.objects.length bc, .slice ma x.mails.length mc] (postC k css n)).toArray 98 (0, 0))) => kernel_own (fun b => ok b ∧ b < w.heap.size) W g _ _ _ _ _ _ _ oa oc x.own (k.host * 20 + k.made) hpre hx.own hx8 (hT.later hB).own (fun h => hgg h.1) hb)
 have HE := qh (show callK k (n : Int) c = (k, errR 5) by unfold callK; simp [hkd, hf])
 have d5 : decide (20 ≤ k.made) = true := by simp; omega
 rw [hkd]
 clear hkd
 go_enter Tryz.func50, Tryz.ntmps50
 go_wp2_with (first | go_skip | (with_reducible refine mB 30 st ?_; clear st; intro g5 w5 hg5 st) | (with_reducible refine mA st Tryz.zeroValue35 ?_; clear st; intro g6 w6 hg6 st) | (with_reducible refine mX st Tryz.isAgg9 ?_) | (with_reducible refine mX st Tryz.isAgg3 ?_) | (go_at_call 68; go_must (refine (call_no _ _).mono ?_; rintro e vn ⟨rfl, hbn⟩; replace st := st.call hbn; clear hbn)) | (with_reducible refine mS 2 st Tryz.sizeOf35 ?_; clear st; intro w7 st hw7m hw7z) | (with_reducible refine at_load 3 ?_; refine mem_load' st 3 _ rfl (wanted_none rfl) Tryz.isAgg3 ?_; refine ⟨0, _, _, _, _, _, rfl, rfl, hmade _ _ _ _ _, ?_⟩))
 have hc := fun j => st.cell (i := 2) rfl j
 refine bodyPost_ret (v := RepV (errR 5)) ?hr rfl ?_
 case hr => simp [results, Tryz.results50, go_sem, hc, RepV, errR]; try rfl
 rw [HE.out]
 exact ⟨rfl, KerTo.none h (HB.out _ _ st (by simp))⟩
theorem kernel_Call_cat_room (h : KerAt ok w g k css Bs) (hk : ∀ x ∈ k.threads, x.ok) (hn : n < 4) (hx64 : ¬ 64 < c.text.size) (hkd : c.kind = 1) (hh0 : 0 ≤ k.host) (hh4 : k.host < 4) (hm0 : 0 ≤ k.made) (hm20 : k.made ≤ 20) (hf : k.made < 20) (hof : (ownC (k.thr n).own (k.host * 20 + k.made)).2 ≠ 0) :
  Calls Tryz.prog 50 #[.pointer (some ⟨g, 0, none⟩), .int .i64 n, reqV c la lc ga gc] w (CallPost ok w g Bs (callK k n c)) := by
 obtain ⟨x, xa, xc, oa, oc, ba, bc, ma, mc, ex, ec, eB, hT, hb⟩ := h.open hn
 have hx := hk x (mgE ex)
 have hpre := h.preLen hn
 have hth := Ker.thr_at ex
 have st0 := St.hand hb
 unfold thrC at st0
 have d1 : decide ((n : Int) < 0) = false := by simp
 have d2 : decide ((4 : Int) ≤ n) = false := by simp; omega
 have d64 := text_size hx64
 have hgg : ¬ ok g := h.apart g (by simp)
 have HKp := qh (show ∀ (W : World) (bl : Blks), St [g] w W bl → Keeps ok w W from fun W bl s => s.keeps (by simpa using hgg))
 have HB := qh (show ∀ (W : World) (bl : Blks), St [g] w W bl → (g, 98, winC (preC k css n) [.slice xa x.label.length xc, .slice oa x.own.length oc, .string x.text, .slice ba x.objects.length bc, .slice ma x.mails.length mc] (postC k css n)) ∈ bl → Below w.heap.size w W from fun W bl s hm => st0.below2 s (by simpa using hm))
 have hxl := goodL_len hx.good; have hxo := hx.ownL; have hxm := hx.mailN; have hxb := hx.objs; have hxt := hx.text
 have st := st0
 clear st0
 unfold reqV
 have hmade := h.madeAt hn
 have hhost := h.host n
 have hlen := h.len22 hn
 have hput := h.madePut hn
 have hx8 := hx.ownL
 have HO := qh (fun (W : World) (hB : Below w.heap.size w W) (hb : W.heap[g]? = some (.cells (winC (preC k css n) [.slice xa x.label.length xc, .slice oa x.own.length oc, .string x.text, .slice ba x.objects.length bc, .slice ma x.mails.length mc] (postC k css n)).toArray 98 (0, 0))) => kernel_own (fun b => ok b ∧ b < w.heap.size) W g _ _ _ _ _ _ _ oa oc x.own (k.host * 20 + k.made) hpre hx.own hx8 (hT.later hB).own (fun h => hgg h.1) hb)
 rw [hth] at hof
 obtain ⟨⟨o2, e2⟩, HP⟩ : ∃ r, Hid (ownC x.own (k.host * 20 + k.made) = r) := ⟨_, rfl⟩
 rw [HP.out] at HO
 have hlo := ownC_lo x.own (k.host * 20 + k.made)
 rw [HP.out] at hlo
 have d5 : decide (20 ≤ k.made) = false := by simp; omega
 have hf' : ¬ 20 ≤ k.made := by omega
 rw [HP.out] at hof
 have HE := qh (show callK k (n : Int) c = (k, errR 5) by unfold callK; simp [hkd, hf', hth, HP.out, hof])
 rcases hlo with hlo | ⟨hlo, hlo2⟩
 ·exact absurd hlo hof
 obtain rfl : e2 = 5 := hlo
 obtain rfl : o2 = x.own := hlo2
 clear hof hf'
 rw [hkd]
 clear hkd
 go_enter Tryz.func50, Tryz.ntmps50
 go_wp2_with (first | go_skip | (with_reducible refine mB 30 st ?_; clear st; intro g5 w5 hg5 st) | (with_reducible refine mA st Tryz.zeroValue35 ?_; clear st; intro g6 w6 hg6 st) | (with_reducible refine mX st Tryz.isAgg9 ?_) | (with_reducible refine mX st Tryz.isAgg3 ?_) | (go_at_call 68; go_must (refine (call_no _ _).mono ?_; rintro e vn ⟨rfl, hbn⟩; replace st := st.call hbn; clear hbn)) | (with_reducible refine mS 2 st Tryz.sizeOf35 ?_; clear st; intro w7 st hw7m hw7z) | (with_reducible refine at_load 3 ?_; refine mem_load' st 3 _ rfl (wanted_none rfl) Tryz.isAgg3 ?_; refine ⟨0, _, _, _, _, _, rfl, rfl, hmade _ _ _ _ _, ?_⟩))
 have e20 : IntKind.i64.wrap (k.host * 20) = k.host * 20 := IntWalk.i64_in _ (by omega)
 have e21 : IntKind.i64.wrap (k.host * 20 + k.made) = k.host * 20 + k.made := IntWalk.i64_in _ (by omega)
 refine det_region (by kernel_rfl) 11 rfl (fun W => St [g] w W [(g, 98, winC (preC k css n) [.slice xa x.label.length xc, .slice oa x.own.length oc, .string x.text, .slice ba x.objects.length bc, .slice ma x.mails.length mc] (postC k css n)), (g5, 30, [.int .i64 1, .int .i64 c.h, .int .i64 c.t, .int .i64 c.n, .int .i64 c.c, .slice la c.label.length lc, .slice ga c.grants.length gc, .string c.text]), (g6, 35, [.int .i64 0, .int .i64 0, .string ⟨#[]⟩])]) (st.drew) (by decide +kernel) ?_
 refine detS 0 rfl ?_; refine detS 1 rfl ?_; refine detS 2 rfl ?_
 refine det_take (v := .int .i64 k.host) 3 rfl (by decide +kernel) (wanted_none rfl) (fun W hW => St.run_load hW 0 3 _ rfl Tryz.isAgg3 rfl rfl (hhost _ _)) ?_; simp only [kP, kA, kS, kZ]
 refine detT (v := .int .i64 (k.host * 20)) 4 rfl (fun W hW => by (go_simp; done)) ?_
 refine detS 5 rfl ?_; refine detS 6 rfl ?_; refine detS 7 rfl ?_
 refine det_take (v := .int .i64 k.made) 8 rfl (by decide +kernel) (wanted_none rfl) (fun W hW => St.run_load hW 0 3 _ rfl Tryz.isAgg3 rfl rfl (hmade _ _ _ _ _)) ?_; simp only [kP, kA, kS, kZ]
 refine detT (v := .int .i64 (k.host * 20 + k.made)) 9 rfl (fun W hW => by (go_simp; done)) ?_
 refine detS 10 rfl ?_
 refine det_done (by decide +kernel) ?_
 clear st e20 e21
 intro W st
 have hBW := HB.out _ _ st (by simp)
 have hsW := hBW.size
 have hl5 := st.ltAt (i := 1) rfl
 have hl6 := st.ltAt (i := 2) rfl
 have hgw := h.lt g (by simp)
 go_wp2_with fail
 refine (HO.out _ hBW (st.blk _ (mgE (i := 0) rfl))).mono ?_
 rintro e W1 ⟨oa', oc', rfl, hk1, hown⟩
 have hzW := hk1.size
 replace st := st.turn (i := 0) rfl hk1
 simp only [List.set_cons_zero] at st
 go_wp2_with (first | go_skip | (go_at_call 68; go_must (refine (call_no _ _).mono ?_; rintro e vn ⟨rfl, hbv⟩; replace st := st.call hbv; have hvs := hbv.size)) | (with_reducible refine mS 2 st Tryz.sizeOf35 ?_; clear st; intro w7 st hw7m hw7z))
 have hc := fun j => st.cell (i := 2) rfl j
 refine bodyPost_ret (v := RepV (errR 5)) ?hr rfl ?_
 case hr => simp [results, Tryz.results50, go_sem, hc, RepV, errR]; try rfl
 rw [HE.out]
 have hcl : KerTo ok w g Bs w7 { k.put n x with made := k.made } := h.closeSame (made' := k.made) (x' := x) (x := x) (la' := xa) (lc' := xc) (oa' := oa') (oc' := oc') hn ec eB hT (st.sub (by simp [thrC]) (by simp)) rfl rfl (h.fine eB ((hT.label.keep (HKp.out _ _ st)).okay fun _ r => .inl r)) (h.fine eB ((hown.move (by omega) (fun b hb ho => ⟨ho, (hw7m b (by rcases ho with ho | ho <;> omega)).trans (hbv.block b hb)⟩) fun _ _ r => r).okay fun b ho => by
  rcases ho with ho | ho
  ·exact .inl ho.1
  ·exact .inr (by omega)))
 rw [Ker.put_self ex] at hcl
 exact ⟨rfl, hcl⟩
theorem kernel_Call_cat (h : KerAt ok w g k css Bs) (hk : ∀ x ∈ k.threads, x.ok) (hn : n < 4) (hx64 : ¬ 64 < c.text.size) (hkd : c.kind = 1) (hh0 : 0 ≤ k.host) (hh4 : k.host < 4) (hm0 : 0 ≤ k.made) (hm20 : k.made ≤ 20)  (hf : k.made < 20) (hof : (ownC (k.thr n).own (k.host * 20 + k.made)).2 = 0) :
  Calls Tryz.prog 50 #[.pointer (some ⟨g, 0, none⟩), .int .i64 n, reqV c la lc ga gc] w (CallPost ok w g Bs (callK k n c)) := by
 obtain ⟨x, xa, xc, oa, oc, ba, bc, ma, mc, ex, ec, eB, hT, hb⟩ := h.open hn
 have hx := hk x (mgE ex)
 have hpre := h.preLen hn
 have hth := Ker.thr_at ex
 have st0 := St.hand hb
 unfold thrC at st0
 have d1 : decide ((n : Int) < 0) = false := by simp
 have d2 : decide ((4 : Int) ≤ n) = false := by simp; omega
 have d64 := text_size hx64
 have hgg : ¬ ok g := h.apart g (by simp)
 have HKp := qh (show ∀ (W : World) (bl : Blks), St [g] w W bl → Keeps ok w W from fun W bl s => s.keeps (by simpa using hgg))
 have HB := qh (show ∀ (W : World) (bl : Blks), St [g] w W bl → (g, 98, winC (preC k css n) [.slice xa x.label.length xc, .slice oa x.own.length oc, .string x.text, .slice ba x.objects.length bc, .slice ma x.mails.length mc] (postC k css n)) ∈ bl → Below w.heap.size w W from fun W bl s hm => st0.below2 s (by simpa using hm))
 have hxl := goodL_len hx.good; have hxo := hx.ownL; have hxm := hx.mailN; have hxb := hx.objs; have hxt := hx.text
 have st := st0
 clear st0
 unfold reqV
 have hmade := h.madeAt hn
 have hhost := h.host n
 have hlen := h.len22 hn
 have hput := h.madePut hn
 have hx8 := hx.ownL
 have HO := qh (fun (W : World) (hB : Below w.heap.size w W) (hb : W.heap[g]? = some (.cells (winC (preC k css n) [.slice xa x.label.length xc, .slice oa x.own.length oc, .string x.text, .slice ba x.objects.length bc, .slice ma x.mails.length mc] (postC k css n)).toArray 98 (0, 0))) => kernel_own (fun b => ok b ∧ b < w.heap.size) W g _ _ _ _ _ _ _ oa oc x.own (k.host * 20 + k.made) hpre hx.own hx8 (hT.later hB).own (fun h => hgg h.1) hb)
 rw [hth] at hof
 obtain ⟨⟨o2, e2⟩, HP⟩ : ∃ r, Hid (ownC x.own (k.host * 20 + k.made) = r) := ⟨_, rfl⟩
 rw [HP.out] at HO
 have hlo := ownC_lo x.own (k.host * 20 + k.made)
 rw [HP.out] at hlo
 have d5 : decide (20 ≤ k.made) = false := by simp; omega
 have hf' : ¬ 20 ≤ k.made := by omega
 rw [HP.out] at hof
 obtain rfl : e2 = 0 := hof
 have HE := qh (show callK k (n : Int) c = ({ k.put n { x with own := o2 } with made := k.made + 1 }, ⟨0, k.host * 20 + k.made, ⟨#[]⟩⟩) by unfold callK; simp [hkd, hf', hth, HP.out])
 clear hlo hf'
 rw [hkd]
 clear hkd
 go_enter Tryz.func50, Tryz.ntmps50
 go_wp2_with (first | go_skip | (with_reducible refine mB 30 st ?_; clear st; intro g5 w5 hg5 st) | (with_reducible refine mA st Tryz.zeroValue35 ?_; clear st; intro g6 w6 hg6 st) | (with_reducible refine mX st Tryz.isAgg9 ?_) | (with_reducible refine mX st Tryz.isAgg3 ?_) | (go_at_call 68; go_must (refine (call_no _ _).mono ?_; rintro e vn ⟨rfl, hbn⟩; replace st := st.call hbn; clear hbn)) | (with_reducible refine mS 2 st Tryz.sizeOf35 ?_; clear st; intro w7 st hw7m hw7z) | (with_reducible refine at_load 3 ?_; refine mem_load' st 3 _ rfl (wanted_none rfl) Tryz.isAgg3 ?_; refine ⟨0, _, _, _, _, _, rfl, rfl, hmade _ _ _ _ _, ?_⟩))
 have e20 : IntKind.i64.wrap (k.host * 20) = k.host * 20 := IntWalk.i64_in _ (by omega)
 have e21 : IntKind.i64.wrap (k.host * 20 + k.made) = k.host * 20 + k.made := IntWalk.i64_in _ (by omega)
 refine det_region (by kernel_rfl) 11 rfl (fun W => St [g] w W [(g, 98, winC (preC k css n) [.slice xa x.label.length xc, .slice oa x.own.length oc, .string x.text, .slice ba x.objects.length bc, .slice ma x.mails.length mc] (postC k css n)), (g5, 30, [.int .i64 1, .int .i64 c.h, .int .i64 c.t, .int .i64 c.n, .int .i64 c.c, .slice la c.label.length lc, .slice ga c.grants.length gc, .string c.text]), (g6, 35, [.int .i64 0, .int .i64 0, .string ⟨#[]⟩])]) (st.drew) (by decide +kernel) ?_
 refine detS 0 rfl ?_; refine detS 1 rfl ?_; refine detS 2 rfl ?_
 refine det_take (v := .int .i64 k.host) 3 rfl (by decide +kernel) (wanted_none rfl) (fun W hW => St.run_load hW 0 3 _ rfl Tryz.isAgg3 rfl rfl (hhost _ _)) ?_; simp only [kP, kA, kS, kZ]
 refine detT (v := .int .i64 (k.host * 20)) 4 rfl (fun W hW => by (go_simp; done)) ?_
 refine detS 5 rfl ?_; refine detS 6 rfl ?_; refine detS 7 rfl ?_
 refine det_take (v := .int .i64 k.made) 8 rfl (by decide +kernel) (wanted_none rfl) (fun W hW => St.run_load hW 0 3 _ rfl Tryz.isAgg3 rfl rfl (hmade _ _ _ _ _)) ?_; simp only [kP, kA, kS, kZ]
 refine detT (v := .int .i64 (k.host * 20 + k.made)) 9 rfl (fun W hW => by (go_simp; done)) ?_
 refine detS 10 rfl ?_
 refine det_done (by decide +kernel) ?_
 clear st e20 e21
 intro W st
 have hBW := HB.out _ _ st (by simp)
 have hsW := hBW.size
 have hl5 := st.ltAt (i := 1) rfl
 have hl6 := st.ltAt (i := 2) rfl
 have hgw := h.lt g (by simp)
 go_wp2_with fail
 refine (HO.out _ hBW (st.blk _ (mgE (i := 0) rfl))).mono ?_
 rintro e W1 ⟨oa', oc', rfl, hk1, hown⟩
 have hzW := hk1.size
 replace st := st.turn (i := 0) rfl hk1
 simp only [List.set_cons_zero] at st
 go_wp2_with (first
  | go_skip | (with_reducible refine at_load 3 ?_; refine mem_load' st 3 _ rfl (wanted_none rfl) Tryz.isAgg3 ?_; refine ⟨0, _, _, _, _, _, rfl, rfl, hmade _ _ _ _ _, ?_⟩)
  | ((with_reducible refine at_store 3 ?_); refine mem_store st (wanted_none rfl) 3 _ _ rfl g 21 rfl _ rfl [.int .i64 (k.made + 1)] rfl Tryz.sizeOf3 (by simp [Value.oneCell']) 0 _ _ rfl (by rw [hlen]; simp) ?_; clear st; intro w8 st hw8m hw8z; rw [hput] at st; simp only [List.set_cons_zero] at st)
  | (with_reducible refine mS 2 st Tryz.sizeOf35 ?_; clear st; intro w7 st hw7m hw7z))
 have hc := fun j => st.cell (i := 2) rfl j
 refine bodyPost_ret (v := RepV ⟨0, k.host * 20 + k.made, ⟨#[]⟩⟩) ?hr rfl ?_
 case hr => simp [results, Tryz.results50, go_sem, hc, RepV, errR]; try rfl
 rw [HE.out]
 exact ⟨rfl, h.closeSame (made' := k.made + 1) (x' := { x with own := o2 }) (x := x) (la' := xa) (lc' := xc) (oa' := oa') (oc' := oc') hn ec eB hT (st.sub (by simp [thrC]) (by simp)) rfl rfl (h.fine eB ((hT.label.keep (HKp.out _ _ st)).okay fun _ r => .inl r)) (h.fine eB ((hown.move (by omega) (fun b hb ho => ⟨ho, (hw7m b (by rcases ho with ho | ho <;> omega)).trans (hw8m b (by rcases ho with ho | ho; exact fun e => hgg (e ▸ ho.1); omega))⟩) fun _ _ r => r).okay fun b ho => by
  rcases ho with ho | ho
  ·exact .inl ho.1
  ·exact .inr (by omega)))⟩
end
section
variable (ok okc : Nat → Prop) (w : World) (g : Nat) (k : Ker) (css : List (List Value)) (Bs : List (List Nat)) (n : Nat) (c : Req) (la : Option Addr) (lc : Nat) (ga : Option Addr) (gc : Nat)
theorem info_Object : (Tryz.prog.info? 58).map (fun i => (i.zero, i.size, i.bytes)) = some (some (.agg #[.slice none 0 0, .string .empty]), 2, 40) := by kernel_rfl
theorem kernel_Call_object_yes (h : KerAt ok w g k css Bs) (hk : ∀ x ∈ k.threads, x.ok) (hn : n < 4) (hx64 : ¬ 64 < c.text.size) (hkd : c.kind = 2) (hll : c.label.length * 16 ≤ 140737488351232) (hcl : SlR okc w 2 RLev la lc c.label) (hgl : goodL c.label = true) (hf : flowsL (k.thr n).label c.label (k.thr n).own = true) (h4 : (k.thr n).objects.length < 4) :
  Calls Tryz.prog 50 #[.pointer (some ⟨g, 0, none⟩), .int .i64 n, reqV c la lc ga gc] w (CallPost ok w g Bs (callK k n c)) := by
 obtain ⟨x, xa, xc, oa, oc, ba, bc, ma, mc, ex, ec, eB, hT, hb⟩ := h.open hn
 have hx := hk x (mgE ex)
 have hpre := h.preLen hn
 have hth := Ker.thr_at ex
 have st0 := St.hand hb
 unfold thrC at st0
 have d1 : decide ((n : Int) < 0) = false := by simp
 have d2 : decide ((4 : Int) ≤ n) = false := by simp; omega
 have d64 := text_size hx64
 have hgg : ¬ ok g := h.apart g (by simp)
 have HKp := qh (show ∀ (W : World) (bl : Blks), St [g] w W bl → Keeps ok w W from fun W bl s => s.keeps (by simpa using hgg))
 have HB := qh (show ∀ (W : World) (bl : Blks), St [g] w W bl → (g, 98, winC (preC k css n) [.slice xa x.label.length xc, .slice oa x.own.length oc, .string x.text, .slice ba x.objects.length bc, .slice ma x.mails.length mc] (postC k css n)) ∈ bl → Below w.heap.size w W from fun W bl s hm => st0.below2 s (by simpa using hm))
 have hxl := goodL_len hx.good; have hxo := hx.ownL; have hxm := hx.mailN; have hxb := hx.objs; have hxt := hx.text
 have st := st0
 clear st0
 unfold reqV
 have HG := qh (fun (W : World) (hW : Below w.heap.size w W) => label_Good okc W la lc c.label (by omega) (hcl.below hW))
 rw [hth] at hf h4
 have HE := qh (show callK k (n : Int) c = (k.put n { x with objects := x.objects ++ [⟨c.label, ⟨#[]⟩⟩] }, ⟨0, x.objects.length, ⟨#[]⟩⟩) by unfold callK; simp [hkd, hgl, hth, hf, show ¬ 4 ≤ x.objects.length by omega])
 have d4 : decide ((4 : Int) ≤ x.objects.length) = false := by simp; omega
 have HLv := qh (fun (W : World) (hW : Below w.heap.size w W) => kernel_levels okc W la lc c.label (by omega) (hcl.below hW))
 have hl8 := goodL_len hgl
 have HF := qh (fun (W : World) (hW : Below w.heap.size w W) => label_Flows (fun _ => True) W xa la oa xc lc oc x.label c.label x.own (by omega) (by omega) ((hT.label.below hW).okay fun _ _ => trivial) ((hcl.below hW).okay fun _ _ => trivial) ((hT.own.below hW).okay fun _ _ => trivial))
 rw [hgl] at HG
 rw [hf] at HF
 clear hgl hf
 rw [hkd]
 clear hkd
 go_enter Tryz.func50, Tryz.ntmps50
 go_wp2_with (first | go_skip | (with_reducible refine mX st Tryz.isAgg27 ?_) | (go_at_call 70; go_must (refine (HG.out _ (HB.out _ _ st (by simp))).mono ?_; rintro e vg ⟨rfl, hbg⟩; replace st := st.call hbg; clear hbg)) | (with_reducible refine mB 30 st ?_; clear st; intro g5 w5 hg5 st) | (with_reducible refine mA st Tryz.zeroValue35 ?_; clear st; intro g6 w6 hg6 st) | (with_reducible refine mX st Tryz.isAgg9 ?_) | (with_reducible refine mX st Tryz.isAgg3 ?_) | (go_at_call 68; go_must (refine (call_no _ _).mono ?_; rintro e vn ⟨rfl, hbn⟩; replace st := st.call hbn; clear hbn)) | (with_reducible refine mS 2 st Tryz.sizeOf35 ?_; clear st; intro w7 st hw7m hw7z))
 refine det_region (by kernel_rfl) 13 rfl (fun W => St [g] w W [(g, 98, winC (preC k css n) [.slice xa x.label.length xc, .slice oa x.own.length oc, .string x.text, .slice ba x.objects.length bc, .slice ma x.mails.length mc] (postC k css n)), (g5, 30, [.int .i64 2, .int .i64 c.h, .int .i64 c.t, .int .i64 c.n, .int .i64 c.c, .slice la c.label.length lc, .slice ga c.grants.length gc, .string c.text]), (g6, 35, [.int .i64 0, .int .i64 0, .string ⟨#[]⟩])]) (st.drew) (by decide +kernel) ?_
 refine detS 0 rfl ?_; refine detS 1 rfl ?_; refine detS 2 rfl ?_
 refine detT 3 rfl (fun W hW => St.run_loadW hW 0 27 _ rfl Tryz.isAgg27 0 hpre rfl rfl rfl) ?_
 refine detS 4 rfl ?_
 refine detT 5 rfl (fun W hW => St.run_load hW 1 27 _ rfl Tryz.isAgg27 rfl rfl rfl) ?_
 refine detS 6 rfl ?_; refine detS 7 rfl ?_; refine detS 8 rfl ?_
 refine detT 9 rfl (fun W hW => St.run_loadW hW 0 28 _ rfl Tryz.isAgg28 1 hpre rfl rfl rfl) ?_
 refine det_call (fn := 27) 10 rfl (by decide +kernel) (by first | exact wanted_none rfl | exact wanted_some rfl rfl) (fun W => by first | (go_simp; done) | (go_simp; rfl)) (fun W hW => (HF.out W (HB.out W _ hW (by simp))).mono fun e w' h => ⟨h.1, hW.call h.2⟩) ?_; simp only [kP, kA, kS, kZ]
 refine detS 11 rfl ?_; refine detS 12 rfl ?_
 refine det_done (by decide +kernel) ?_
 clear st
 intro W st
 go_wp2_with (first | go_skip | (with_reducible refine at_load 36 ?_; (first | refine mem_loadW st 36 _ rfl (wanted_none rfl) Tryz.isAgg36 3 ?_ | (refine mem_loadW st 36 _ rfl (wanted_some rfl ?_) Tryz.isAgg36 3 ?_; focus (simp [yielded, Act.put]; done))); refine ⟨0, _, _, _, _, _, _, _, hpre, rfl, rfl, rfl, ?_⟩))
 obtain ⟨i0, hi, hz0, hz1, hz2⟩ := info_parts info_Object
 have hbne : ba.map (·.block) ≠ some g := fun e => h.gOut eB (mem_rows2.2 (.inl e))
 have hMg : ∀ b, ba.map (·.block) = some b → b < w.heap.size ∧ ¬ ok b := fun b e => ⟨hT.objs.lt e, h.apartAt eB (mem_rows2.2 (.inl e))⟩
 have hBg : ∀ b, ma.map (·.block) = some b → b < w.heap.size ∧ ¬ ok b ∧ b ≠ g ∧ ba.map (·.block) ≠ some b := fun b e => ⟨hT.mails.lt e, h.apartAt eB (mem_rows2.2 (.inr e)), fun e2 => h.gOut eB (e2 ▸ mem_rows2.2 (.inr e)), fun e2 => h.rowsNe eB e2 e⟩
 have hgw := h.lt g (by simp)
 have hg5w : w.heap.size ≤ g5 := hg5
 have hg6w : w.heap.size ≤ g6 := hg6
 have st := st.drew
 have hI := st.wider (M' := g :: rows2 ba ma) (by simp)
 refine lex_tail (by kernel_rfl) 13 1 [13] rfl (by decide +kernel) (fun W => St (g :: rows2 ba ma) w W [(g, 98, winC (preC k css n) [.slice xa x.label.length xc, .slice oa x.own.length oc, .string x.text, .slice ba x.objects.length bc, .slice ma x.mails.length mc] (postC k css n)), (g5, 30, [.int .i64 2, .int .i64 c.h, .int .i64 c.t, .int .i64 c.n, .int .i64 c.c, .slice la c.label.length lc, .slice ga c.grants.length gc, .string c.text]), (g6, 35, [.int .i64 0, .int .i64 0, .string ⟨#[]⟩])]) ?_
 refine lexS 0 rfl hI ?_
 refine lexS 1 rfl hI ?_
 refine lexS 2 rfl hI ?_
 refine lexS 3 rfl hI ?_
 refine lexT 4 rfl hI (fun W hW => St.run_loadW hW 0 36 _ rfl Tryz.isAgg36 3 hpre rfl rfl rfl) ?_
 refine lexS 5 rfl hI ?_
 refine lexT 6 rfl hI (fun W hW => St.run_load hW 1 27 _ rfl Tryz.isAgg27 rfl rfl rfl) ?_
 clear hI
 have hl5 := st.ltAt (i := 1) rfl
 have hl6 := st.ltAt (i := 2) rfl
 have hzb := st.size
 refine lexO 7 rfl fun K hK => ?_
 refine wp_callee (f := 43) (by first | (go_simp; done) | (go_simp; rfl)) ?_
 refine (HLv.out _ (HB.out _ _ st (by simp))).mono ?_
 rintro e v ⟨a1, k1, rfl, hbm, hM⟩
 have hzv := st.size
 refine ⟨_, rfl, ?_⟩
 replace st := st.call hbm
 clear hbm
 refine hK _ _ (st.wider (by simp)) ?_; clear hK; simp only [kP, kA, kS, kZ]
 have hI := st.wider (M' := g :: rows2 ba ma) (by simp)
 refine lexS 8 rfl hI ?_
 clear hI
 refine lexO 9 rfl fun K hK => ?_
 refine wp_build1 st 36 58 _ rfl Tryz.underlying36 2 Tryz.sizeOf58 (by decide) (by decide) _ Tryz.zeroValue58 _ rfl rfl ?_; clear st; intro g3 w3 hg3 hg3e st hg3b hw3z; clear hg3e; simp [Act.eval, Act.put, Value.cells, putL] at st
 have hM3 := hM.below hg3b
 clear hg3b hw3z
 refine hK _ _ ((st.take 3).wider (by simp)) ?_; clear hK; simp only [kP, kA, kS, kZ]
 refine lexO 10 rfl fun K hK => ?_
 have hO : RowAt 58 w3 2 (RObj (fun b => (ok b ∧ b < w.heap.size) ∨ (w.heap.size ≤ b ∧ b ≠ g6)) w3) ba bc x.objects := hT.objs.kept (fun b e => st.frame b (hMg b e).1 (by simp; rintro rfl; exact hbne e)) fun _ _ r => r.move st.size fun b hb' ho => ⟨.inl ⟨ho, hb'⟩, (HKp.out _ _ st).block b hb' ho⟩
 refine wp_rowApp _ _ 36 rfl i0 _ 40 Tryz.underlying36 hi hz0 hz1 hz2 rfl (by decide) (y := (⟨c.label, ⟨#[]⟩⟩ : KObj)) rfl rfl hO rfl (SlR.ofBlk (ok := fun _ => True) (R := RObj (fun b => (ok b ∧ b < w.heap.size) ∨ (w.heap.size ≤ b ∧ b ≠ g6)) w3) (x := (⟨c.label, ⟨#[]⟩⟩ : KObj)) (st.blk _ (mgE (i := 3) rfl)) ⟨a1, k1, rfl, hM3.slr (fun b hb => .inr ⟨by omega, by omega⟩)⟩ rfl rfl trivial) (by omega) (by unfold maxLen; omega) ?_
 intro g4 off4 c4 w4 hO4 hgr hat
 have hst3 := st
 replace st := ((st.take 3).grown hgr (by
  intro y hy e
  simp at hy
  rcases hy with rfl | rfl | rfl
  ·exact hbne e
  ·have := (hMg _ e).1; simp only at this; omega
  ·have := (hMg _ e).1; simp only at this; omega)).wider (M' := g :: rows2 ba ma) (by
  intro b hb
  simp only [List.mem_append, Option.mem_toList, List.mem_singleton] at hb
  rcases hb with hb | rfl
  ·exact List.mem_cons_of_mem _ (mem_rows2.2 (.inl hb))
  ·simp)
 simp only [List.take_succ_cons, List.take_zero] at st
 have hI := st
 refine hK _ _ (hI) ?_; clear hK; simp only [kP, kA, kS, kZ]
 refine lexS 11 rfl hI ?_
 refine lexS 12 rfl hI ?_
 clear hI
 refine lex_done (by decide +kernel) ?_
 refine tail_last 13 rfl (by first | exact wanted_none rfl | exact wanted_some rfl rfl) (by decide +kernel) (by decide +kernel) fun K hK => ?_
 refine wp_storeW st 36 _ _ rfl _ Tryz.sizeOf36 3 ?_; refine ⟨0, _, _, _, _, _, _, _, hpre, rfl, rfl, rfl, rfl, rfl, rfl, ?_⟩; clear st; intro w5 st hw5m hw5z; simp [Act.eval, Act.put, Value.cells, putL] at st
 refine hK _ _ ?_; clear hK
 have ew : IntKind.i64.wrap ((x.objects.length : Int) + 1 - 1) = (x.objects.length : Int) := by rw [Int.add_sub_cancel]; exact IntWalk.i64_in _ (by omega)
 go_wp2_with (first | go_skip | (with_reducible refine at_load 36 ?_; (first | refine mem_loadW st 36 _ rfl (wanted_none rfl) Tryz.isAgg36 3 ?_ | (refine mem_loadW st 36 _ rfl (wanted_some rfl ?_) Tryz.isAgg36 3 ?_; focus (simp [yielded, Act.put]; done))); refine ⟨0, _, _, _, _, _, _, _, hpre, rfl, rfl, rfl, ?_⟩) | (with_reducible refine mS 2 st Tryz.sizeOf35 ?_; clear st; intro w7 st hw7m hw7z))
 have hc := fun j => st.cell (i := 2) rfl j
 refine bodyPost_ret (v := RepV (⟨0, x.objects.length, ⟨#[]⟩⟩)) ?hr rfl ?_
 case hr => simp [results, Tryz.results50, go_sem, hc, RepV, errR]; try rfl
 rw [HE.out]
 refine ⟨rfl, ?_⟩
 have hz3 := hst3.size
 have hch : ∀ b, b < w3.heap.size → b ≠ g → b ≠ g6 → ba.map (·.block) ≠ some b → w7.heap[b]? = w3.heap[b]? := fun b hb h1 h3 h2 => (hw7m b h3).trans ((hw5m b h1).trans (hgr.block b hb fun e => h2 e.symm))
 have hcw : ∀ b, b < w.heap.size → b ≠ g → ba.map (·.block) ≠ some b → w7.heap[b]? = w.heap[b]? := fun b hb h1 h2 => (hch b (by omega) h1 (by omega) h2).trans (hst3.frame b hb (by simpa using h1))
 have hg4 : ∀ b, b < w3.heap.size → ((ok b ∧ b < w.heap.size) ∨ (w.heap.size ≤ b ∧ b ≠ g6)) → b ≠ g4 := fun b hb ho e => by
  subst e
  rcases hat with hat | hat
  ·rcases ho with ho | ho
   ·exact (hMg _ hat).2 ho.1
   ·have := (hMg _ hat).1; omega
  ·omega
 have hok : ∀ b, b < w3.heap.size → ((ok b ∧ b < w.heap.size) ∨ (w.heap.size ≤ b ∧ b ≠ g6)) → ((ok b ∨ w.heap.size ≤ b) ∧ b ∉ g :: rows2 (some ⟨g4, off4, none⟩) ma) ∧ w7.heap[b]? = w3.heap[b]? := fun b hb ho => by
  have h1 : b ≠ g := by
   rintro rfl
   rcases ho with ho | ho
   ·exact hgg ho.1
   ·omega
  have h6 : b ≠ g6 := by
   rintro rfl
   rcases ho with ho | ho
   ·have := ho.2; omega
   ·exact ho.2 rfl
  refine ⟨⟨ho.imp (fun h => h.1) fun h => h.1, fun hm => ?_⟩, hch b hb h1 h6 fun e => ?_⟩
  ·rcases List.mem_cons.1 hm with hm | hm
   ·exact h1 hm
   ·rcases mem_rows2.1 hm with hm | hm
    ·exact hg4 b hb ho (Option.some.inj hm).symm
    ·obtain ⟨q1, q2, _⟩ := hBg b hm
     rcases ho with ho | ho
     ·exact q2 ho.1
     ·omega
  ·obtain ⟨q1, q2⟩ := hMg b e
   rcases ho with ho | ho
   ·exact q2 ho.1
   ·omega
 have hokw : ∀ b, b < w.heap.size → ok b → ((ok b ∨ w.heap.size ≤ b) ∧ b ∉ g :: rows2 (some ⟨g4, off4, none⟩) ma) ∧ w7.heap[b]? = w.heap[b]? := fun b hb ho => by
  obtain ⟨q1, q2⟩ := hok b (by omega) (.inl ⟨ho, hb⟩)
  exact ⟨q1, q2.trans ((HKp.out _ _ hst3).block b hb ho)⟩
 have hne4 : g4 ≠ g := by
  rintro rfl
  rcases hat with hat | hat
  ·exact hbne hat
  ·omega
 have hl36 := hst3.ltAt (i := 2) rfl
 have hne46 : g4 ≠ g6 := by
  rintro rfl
  rcases hat with hat | hat
  ·have := (hMg _ hat).1; omega
  ·omega
 refine h.close (made' := k.made) hn ec eB st (st.blk _ (mgE (i := 0) rfl)) (x' := { x with objects := x.objects ++ [⟨c.label, ⟨#[]⟩⟩] }) (B' := rows2 (some ⟨g4, off4, none⟩) ma)
  ⟨xa, xc, oa, oc, some ⟨g4, off4, none⟩, c4, ma, mc, by simp [thrC], ⟨hT.label.move st.size hokw fun _ _ r => r, hT.own.move st.size hokw fun _ _ r => r,
   hO4.kept (fun b e => by obtain rfl : g4 = b := Option.some.inj e; exact (hw7m _ hne46).trans (hw5m _ hne4)) fun _ _ r => r.move (by have := hgr.size; omega) hok, hT.mails.kept (fun b e => hcw b (hBg b e).1 (hBg b e).2.2.1 (hBg b e).2.2.2) fun _ _ r => r.move st.size hokw⟩, rfl⟩ ?_ ?_
 ·unfold rows2
  cases hma : ma with
  | none => simp
  | some ad =>
   simp only [Option.map_some, Option.toList_some, List.cons_append, List.nil_append, List.nodup_cons, List.mem_singleton, List.not_mem_nil, not_false_eq_true, List.nodup_nil, and_true]
   intro e
   obtain ⟨q1, _, _, q4⟩ := hBg ad.block (by rw [hma]; rfl)
   rcases hat with hat | hat
   ·exact q4 (by rw [hat, e])
   ·omega
 ·intro b hb
  rcases mem_rows2.1 hb with hb | hb
  ·obtain rfl : g4 = b := Option.some.inj hb
   rcases hat with hat | hat
   ·exact .inl (mem_rows2.2 (.inl hat))
   ·exact .inr (by omega)
  ·exact .inl (mem_rows2.2 (.inr hb))
end
end Go.Proofs.YtnjjdpiofbajlaaGreat
