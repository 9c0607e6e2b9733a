/- Walks and plain laws that the claim rests on, part 40. -/
import Derived.Test.YtflfjpopfapogaaP35
import Derived.Test.YtflfjpopfapogaaP34
set_option linter.unusedSimpArgs false
set_option linter.unusedVariables false
/- The kernel's Call: an object read. (printed by gen_call2.py) -/
namespace Go.Proofs.Ytflfjpopfapogaa
open Go.RowKit
section
variable (ok okc : Nat → Prop) (w : World) (g : Nat) (k : Ker) (css : List (List Value)) (Bs : List (List Nat)) (n : Nat) (c : Req) (la : Option Addr) (lc : Nat) (ga : Option Addr) (gc : Nat)
set_option maxRecDepth 100000 in
set_option maxHeartbeats 4000000 in
theorem kernel_Call_get_no (h : KerAt ok w g k css Bs) (hk : ∀ x ∈ k.threads, x.ok) (hn : n < 4) (hx64 : ¬ 64 < c.text.size) (hkd : c.kind = 4) (o : KObj) (hob : k.obj c.t c.n = some o) (hf : flowsL o.label (k.thr n).label (k.thr n).own = false) :
  Calls Try.prog 39 #[.pointer (some ⟨g, 0, none⟩), .int .i64 n, reqV c la lc ga gc] w (CallPost ok w g Bs (callK k n c)) := by
 obtain ⟨x, xa, xc, oa, oc, ba, bc, ma, mc, ex, ec, eB, hT, hb⟩ := h.open hn
 have hx := hk x (List.mem_of_getElem? ex)
 have hpre := h.preLen hn
 have hth := Ker.thr_at ex
 rcases h.object c.t c.n with ⟨e, _⟩ | ⟨m, j, y, ya, yc, qa, qc, gb, off, bc2, ma2, mc2, o2, hm, et, en, ey, ecy, eBy, hTy, hoy, hob2, HOb⟩
 ·rw [hob] at e; cases e
 rw [hob] at hob2
 cases hob2
 replace et := Lib.hid et
 replace en := Lib.hid en
 obtain ⟨pre2, cs2, post2, hb2, hpre2, ⟨la2, lc2, rfl, hlo⟩, _, _⟩ := hTy.objs.window hoy
 have HQ := Lib.hid (show ∃ q, q = off + j * 2 from ⟨_, rfl⟩)
 obtain ⟨q, hq⟩ := HQ.out
 rw [← hq] at hpre2 HOb
 replace HOb := Lib.hid HOb
 clear HQ
 replace hq := Lib.hid hq
 have hgb : g ≠ gb := fun e => h.gOut eBy (e ▸ mem_rows2.2 (.inl rfl))
 have hgbo : ¬ ok gb := h.apartAt eBy (mem_rows2.2 (.inl rfl))
 have hgbl : gb < w.heap.size := hTy.objs.lt rfl
 have ho := (hk y (List.mem_of_getElem? ey)).obj o (List.mem_of_getElem? hoy)
 have hol := goodL_len ho.1
 have hot := ho.2
 have st0 := St.hand2 hb hb2 hgb
 unfold thrC at st0
 have d1 : decide ((n : Int) < 0) = false := by simp
 have d2 : decide ((4 : Int) ≤ n) = false := by simp; omega
 have d64 := text_size hx64
 have hgg : ¬ ok g := h.apart g (by simp)
 have HKp := Lib.hid (show ∀ (W : World) (bl : Blks), St [g, gb] w W bl → Keeps ok w W from fun W bl s => s.keeps (by simpa using ⟨hgg, hgbo⟩))
 have HB := Lib.hid (show ∀ (W : World) (bl : Blks), St [g, gb] w W bl → (g, 84, winC (preC k css n) [.slice xa x.label.length xc, .slice oa x.own.length oc, .string x.text, .slice ba x.objects.length bc, .slice ma x.mails.length mc] (postC k css n)) ∈ bl → (gb, 88, winC pre2 [.slice la2 o.label.length lc2, .string o.text] post2) ∈ bl → Below w.heap.size w W from fun W bl s hm1 hm2 => st0.below2 s (by simpa using ⟨hm1, hm2⟩))
 have hxl := goodL_len hx.good; have hxo := hx.ownL; have hxm := hx.mailN; have hxb := hx.objs; have hxt := hx.text
 have st := st0
 clear st0
 unfold reqV
 have HE := Lib.hid (show callK k (n : Int) c = (k, errR 4) by unfold callK; simp [hkd, hob, hf])
 rw [hth] at hf
 have HF := Lib.hid (fun (W : World) (bl : Blks) (hW : St [g, gb] w W bl) => label_Flows (fun _ => True) W la2 xa oa lc2 xc oc o.label x.label x.own (by omega) (by omega) ((hlo.keep (HKp.out W _ hW)).okay fun _ _ => trivial) ((hT.label.keep (HKp.out W _ hW)).okay fun _ _ => trivial) ((hT.own.keep (HKp.out W _ hW)).okay fun _ _ => trivial))
 rw [hf] at HF
 clear hob hf
 rw [hkd]
 clear hkd
 go_enter Try.func39, Try.ntmps39
 go_wp2_with (first | go_skip | (go_at_call 59; go_must (refine (HOb.out _ (HB.out _ _ st (by simp) (by simp))).mono ?_; rintro e wo ⟨rfl, rfl⟩)) | (with_reducible refine at_box 36 ?_; refine mem_box st (wanted_none rfl) 36 _ rfl _ rfl _ rfl ?_; clear st; intro g5 w5 hg5 st hg5b; clear hg5b; simp [Act.eval, Act.put, Value.cells, putL] at st) | (with_reducible refine at_alloc 41 ?_; refine mem_alloc st (wanted_none rfl) 41 rfl _ Try.zeroValue41 _ rfl ?_; clear st; intro g6 w6 hg6 st hg6b; clear hg6b; simp [Act.eval, Act.put, Value.cells, putL] at st) | (with_reducible refine at_load 9 ?_; refine memX st 9 _ rfl Try.isAgg9 rfl ?_) | (with_reducible refine at_load 3 ?_; refine memX st 3 _ rfl Try.isAgg3 rfl ?_) | (go_at_call 56; go_must (refine (call_no _ _).mono ?_; rintro e vn ⟨rfl, hbn⟩; replace st := st.call hbn; clear hbn)) | (with_reducible refine at_store 41 ?_; refine memS st 41 _ _ rfl _ Try.sizeOf41 ⟨3, _, _, _, _, _, rfl, rfl, rfl, rfl, rfl, rfl, ?_⟩; clear st; intro w7 st hw7m hw7z; simp [Act.eval, Act.put, Value.cells, putL] at st))
 refine det_region (by kernel_rfl) 18 rfl (fun W => St [g, gb] w W [(g, 84, winC (preC k css n) [.slice xa x.label.length xc, .slice oa x.own.length oc, .string x.text, .slice ba x.objects.length bc, .slice ma x.mails.length mc] (postC k css n)), (gb, 88, winC pre2 [.slice la2 o.label.length lc2, .string o.text] post2), (g5, 36, [.int .i64 4, .int .i64 c.h, .int .i64 c.t, .int .i64 c.n, .int .i64 c.c, .slice la c.label.length lc, .slice ga c.grants.length gc, .string c.text]), (g6, 41, [.int .i64 0, .int .i64 0, .string ⟨#[]⟩])]) (st.drew) (by decide +kernel) ?_
 refine detS 0 rfl ?_; simp only [kP, kA, kS, kZ]; refine detS 1 rfl ?_; simp only [kP, kA, kS, kZ]; refine detS 2 rfl ?_; simp only [kP, kA, kS, kZ]; refine detS 3 rfl ?_; simp only [kP, kA, kS, kZ]; refine detS 4 rfl ?_; simp only [kP, kA, kS, kZ]; refine detS 5 rfl ?_; simp only [kP, kA, kS, kZ]
 refine detT 6 rfl (fun W hW => St.run_loadW hW 1 24 _ rfl Try.isAgg24 0 hpre2 rfl rfl rfl) ?_; simp only [kP, kA, kS, kZ]
 refine detS 7 rfl ?_; simp only [kP, kA, kS, kZ]; refine detS 8 rfl ?_; simp only [kP, kA, kS, kZ]; refine detS 9 rfl ?_; simp only [kP, kA, kS, kZ]
 refine detT 10 rfl (fun W hW => St.run_loadW hW 0 24 _ rfl Try.isAgg24 0 hpre rfl rfl rfl) ?_; simp only [kP, kA, kS, kZ]
 refine detS 11 rfl ?_; simp only [kP, kA, kS, kZ]; refine detS 12 rfl ?_; simp only [kP, kA, kS, kZ]; refine detS 13 rfl ?_; simp only [kP, kA, kS, kZ]
 refine detT 14 rfl (fun W hW => St.run_loadW hW 0 25 _ rfl Try.isAgg25 1 hpre rfl rfl rfl) ?_; simp only [kP, kA, kS, kZ]
 refine det_call (fn := 10) 15 rfl (by decide +kernel) (by first | exact wanted_none rfl | exact wanted_some rfl rfl) (fun W => by first | (go_simp; done) | (go_simp; rfl)) (fun W hW => (HF.out W _ hW).mono fun e w' h => ⟨h.1, hW.call h.2⟩) ?_; simp only [kP, kA, kS, kZ]
 refine detS 16 rfl ?_; simp only [kP, kA, kS, kZ]; refine detS 17 rfl ?_; simp only [kP, kA, kS, kZ]
 refine det_done (by decide +kernel) ?_
 clear st
 intro W st
 go_wp2_with (first | go_skip | (go_at_call 56; go_must (refine (call_no _ _).mono ?_; rintro e vn ⟨rfl, hbn⟩; replace st := st.call hbn; clear hbn)) | (with_reducible refine at_store 41 ?_; refine memS st 41 _ _ rfl _ Try.sizeOf41 ⟨3, _, _, _, _, _, rfl, rfl, rfl, rfl, rfl, rfl, ?_⟩; clear st; intro w7 st hw7m hw7z; simp [Act.eval, Act.put, Value.cells, putL] at st))
 have hc := fun j => st.cell (i := 3) rfl j
 refine bodyPost_ret (v := RepV (errR 4)) ?hr rfl ?_
 case hr => simp [results, Try.results39, go_sem, hc, RepV, errR]; try rfl
 rw [HE.out]
 exact ⟨rfl, KerTo.none h (HB.out _ _ st (by simp) (by simp))⟩
set_option maxRecDepth 100000 in
set_option maxHeartbeats 4000000 in
theorem kernel_Call_get_yes (h : KerAt ok w g k css Bs) (hk : ∀ x ∈ k.threads, x.ok) (hn : n < 4) (hx64 : ¬ 64 < c.text.size) (hkd : c.kind = 4) (o : KObj) (hob : k.obj c.t c.n = some o) (hf : flowsL o.label (k.thr n).label (k.thr n).own = true) :
  Calls Try.prog 39 #[.pointer (some ⟨g, 0, none⟩), .int .i64 n, reqV c la lc ga gc] w (CallPost ok w g Bs (callK k n c)) := by
 obtain ⟨x, xa, xc, oa, oc, ba, bc, ma, mc, ex, ec, eB, hT, hb⟩ := h.open hn
 have hx := hk x (List.mem_of_getElem? ex)
 have hpre := h.preLen hn
 have hth := Ker.thr_at ex
 rcases h.object c.t c.n with ⟨e, _⟩ | ⟨m, j, y, ya, yc, qa, qc, gb, off, bc2, ma2, mc2, o2, hm, et, en, ey, ecy, eBy, hTy, hoy, hob2, HOb⟩
 ·rw [hob] at e; cases e
 rw [hob] at hob2
 cases hob2
 replace et := Lib.hid et
 replace en := Lib.hid en
 obtain ⟨pre2, cs2, post2, hb2, hpre2, ⟨la2, lc2, rfl, hlo⟩, _, _⟩ := hTy.objs.window hoy
 have HQ := Lib.hid (show ∃ q, q = off + j * 2 from ⟨_, rfl⟩)
 obtain ⟨q, hq⟩ := HQ.out
 rw [← hq] at hpre2 HOb
 replace HOb := Lib.hid HOb
 clear HQ
 replace hq := Lib.hid hq
 have hgb : g ≠ gb := fun e => h.gOut eBy (e ▸ mem_rows2.2 (.inl rfl))
 have hgbo : ¬ ok gb := h.apartAt eBy (mem_rows2.2 (.inl rfl))
 have hgbl : gb < w.heap.size := hTy.objs.lt rfl
 have ho := (hk y (List.mem_of_getElem? ey)).obj o (List.mem_of_getElem? hoy)
 have hol := goodL_len ho.1
 have hot := ho.2
 have st0 := St.hand2 hb hb2 hgb
 unfold thrC at st0
 have d1 : decide ((n : Int) < 0) = false := by simp
 have d2 : decide ((4 : Int) ≤ n) = false := by simp; omega
 have d64 := text_size hx64
 have hgg : ¬ ok g := h.apart g (by simp)
 have HKp := Lib.hid (show ∀ (W : World) (bl : Blks), St [g, gb] w W bl → Keeps ok w W from fun W bl s => s.keeps (by simpa using ⟨hgg, hgbo⟩))
 have HB := Lib.hid (show ∀ (W : World) (bl : Blks), St [g, gb] w W bl → (g, 84, winC (preC k css n) [.slice xa x.label.length xc, .slice oa x.own.length oc, .string x.text, .slice ba x.objects.length bc, .slice ma x.mails.length mc] (postC k css n)) ∈ bl → (gb, 88, winC pre2 [.slice la2 o.label.length lc2, .string o.text] post2) ∈ bl → Below w.heap.size w W from fun W bl s hm1 hm2 => st0.below2 s (by simpa using ⟨hm1, hm2⟩))
 have hxl := goodL_len hx.good; have hxo := hx.ownL; have hxm := hx.mailN; have hxb := hx.objs; have hxt := hx.text
 have st := st0
 clear st0
 unfold reqV
 have HE := Lib.hid (show callK k (n : Int) c = (k.put n { x with text := knowT x.text o.text }, ⟨0, o.text.size, ⟨#[]⟩⟩) by rw [hth] at hf; unfold callK; simp [hkd, hob, hf, hth])
 rw [hth] at hf
 have HF := Lib.hid (fun (W : World) (bl : Blks) (hW : St [g, gb] w W bl) => label_Flows (fun _ => True) W la2 xa oa lc2 xc oc o.label x.label x.own (by omega) (by omega) ((hlo.keep (HKp.out W _ hW)).okay fun _ _ => trivial) ((hT.label.keep (HKp.out W _ hW)).okay fun _ _ => trivial) ((hT.own.keep (HKp.out W _ hW)).okay fun _ _ => trivial))
 rw [hf] at HF
 clear hob hf
 rw [hkd]
 clear hkd
 go_enter Try.func39, Try.ntmps39
 go_wp2_with (first | go_skip | (go_at_call 59; go_must (refine (HOb.out _ (HB.out _ _ st (by simp) (by simp))).mono ?_; rintro e wo ⟨rfl, rfl⟩)) | (with_reducible refine at_box 36 ?_; refine mem_box st (wanted_none rfl) 36 _ rfl _ rfl _ rfl ?_; clear st; intro g5 w5 hg5 st hg5b; clear hg5b; simp [Act.eval, Act.put, Value.cells, putL] at st) | (with_reducible refine at_alloc 41 ?_; refine mem_alloc st (wanted_none rfl) 41 rfl _ Try.zeroValue41 _ rfl ?_; clear st; intro g6 w6 hg6 st hg6b; clear hg6b; simp [Act.eval, Act.put, Value.cells, putL] at st) | (with_reducible refine at_load 9 ?_; refine memX st 9 _ rfl Try.isAgg9 rfl ?_) | (with_reducible refine at_load 3 ?_; refine memX st 3 _ rfl Try.isAgg3 rfl ?_) | (go_at_call 56; go_must (refine (call_no _ _).mono ?_; rintro e vn ⟨rfl, hbn⟩; replace st := st.call hbn; clear hbn)) | (with_reducible refine at_store 41 ?_; refine memS st 41 _ _ rfl _ Try.sizeOf41 ⟨3, _, _, _, _, _, rfl, rfl, rfl, rfl, rfl, rfl, ?_⟩; clear st; intro w7 st hw7m hw7z; simp [Act.eval, Act.put, Value.cells, putL] at st))
 refine det_region (by kernel_rfl) 18 rfl (fun W => St [g, gb] w W [(g, 84, winC (preC k css n) [.slice xa x.label.length xc, .slice oa x.own.length oc, .string x.text, .slice ba x.objects.length bc, .slice ma x.mails.length mc] (postC k css n)), (gb, 88, winC pre2 [.slice la2 o.label.length lc2, .string o.text] post2), (g5, 36, [.int .i64 4, .int .i64 c.h, .int .i64 c.t, .int .i64 c.n, .int .i64 c.c, .slice la c.label.length lc, .slice ga c.grants.length gc, .string c.text]), (g6, 41, [.int .i64 0, .int .i64 0, .string ⟨#[]⟩])]) (st.drew) (by decide +kernel) ?_
 refine detS 0 rfl ?_; simp only [kP, kA, kS, kZ]; refine detS 1 rfl ?_; simp only [kP, kA, kS, kZ]; refine detS 2 rfl ?_; simp only [kP, kA, kS, kZ]; refine detS 3 rfl ?_; simp only [kP, kA, kS, kZ]; refine detS 4 rfl ?_; simp only [kP, kA, kS, kZ]; refine detS 5 rfl ?_; simp only [kP, kA, kS, kZ]
 refine detT 6 rfl (fun W hW => St.run_loadW hW 1 24 _ rfl Try.isAgg24 0 hpre2 rfl rfl rfl) ?_; simp only [kP, kA, kS, kZ]
 refine detS 7 rfl ?_; simp only [kP, kA, kS, kZ]; refine detS 8 rfl ?_; simp only [kP, kA, kS, kZ]; refine detS 9 rfl ?_; simp only [kP, kA, kS, kZ]
 refine detT 10 rfl (fun W hW => St.run_loadW hW 0 24 _ rfl Try.isAgg24 0 hpre rfl rfl rfl) ?_; simp only [kP, kA, kS, kZ]
 refine detS 11 rfl ?_; simp only [kP, kA, kS, kZ]; refine detS 12 rfl ?_; simp only [kP, kA, kS, kZ]; refine detS 13 rfl ?_; simp only [kP, kA, kS, kZ]
 refine detT 14 rfl (fun W hW => St.run_loadW hW 0 25 _ rfl Try.isAgg25 1 hpre rfl rfl rfl) ?_; simp only [kP, kA, kS, kZ]
 refine det_call (fn := 10) 15 rfl (by decide +kernel) (by first | exact wanted_none rfl | exact wanted_some rfl rfl) (fun W => by first | (go_simp; done) | (go_simp; rfl)) (fun W hW => (HF.out W _ hW).mono fun e w' h => ⟨h.1, hW.call h.2⟩) ?_; simp only [kP, kA, kS, kZ]
 refine detS 16 rfl ?_; simp only [kP, kA, kS, kZ]; refine detS 17 rfl ?_; simp only [kP, kA, kS, kZ]
 refine det_done (by decide +kernel) ?_
 clear st
 intro W st
 go_wp2_with (first | go_skip | ((with_reducible refine at_load 9 ?_); refine mem_loadW st 9 _ rfl (wanted_none rfl) Try.isAgg9 1 ?_; refine ⟨1, _, _, _, _, _, _, _, hpre2, rfl, rfl, rfl, ?_⟩) | (go_at_call 60; go_must (refine (kernel_know _ g _ _ _ _ _ _ _ x.text o.text hpre (by omega) (by omega) (st.blk _ (List.mem_of_getElem? (i := 0) rfl))).mono ?_; rintro e W1 ⟨⟨u, rfl⟩, hk1⟩; replace st := st.turn (i := 0) rfl hk1; clear hk1; simp only [List.set_cons_zero] at st)) | (with_reducible refine at_store 41 ?_; refine memS st 41 _ _ rfl _ Try.sizeOf41 ⟨3, _, _, _, _, _, rfl, rfl, rfl, rfl, rfl, rfl, ?_⟩; clear st; intro w7 st hw7m hw7z; simp [Act.eval, Act.put, Value.cells, putL] at st))
 have hc := fun j => st.cell (i := 3) rfl j
 refine bodyPost_ret (v := RepV (⟨0, o.text.size, ⟨#[]⟩⟩)) ?hr rfl ?_
 case hr => simp [results, Try.results39, go_sem, hc, RepV, errR]; try rfl
 rw [HE.out]
 exact ⟨rfl, h.closeSame (made' := k.made) (x' := { x with text := knowT x.text o.text }) hn ec eB hT (st.drop2 (List.mem_of_getElem? (i := 1) rfl) hb2 (by simpa [thrC] using hgb) (by simp)) rfl rfl (h.fine eB ((hT.label.keep (HKp.out _ _ st)).okay fun _ r => .inl r)) (h.fine eB ((hT.own.keep (HKp.out _ _ st)).okay fun _ r => .inl r))⟩
end
open Go.RowKit
section
variable (ok okc : Nat → Prop) (w : World) (g : Nat) (k : Ker) (css : List (List Value)) (Bs : List (List Nat)) (n : Nat) (c : Req) (la : Option Addr) (lc : Nat) (ga : Option Addr) (gc : Nat)
set_option maxRecDepth 100000 in
set_option maxHeartbeats 4000000 in
theorem kernel_Call_put_no (h : KerAt ok w g k css Bs) (hk : ∀ x ∈ k.threads, x.ok) (hn : n < 4) (hx64 : ¬ 64 < c.text.size) (hkd : c.kind = 3) (o : KObj) (hob : k.obj c.t c.n = some o) (hf : flowsL (k.thr n).label o.label (k.thr n).own = false) :
  Calls Try.prog 39 #[.pointer (some ⟨g, 0, none⟩), .int .i64 n, reqV c la lc ga gc] w (CallPost ok w g Bs (callK k n c)) := by
 obtain ⟨x, xa, xc, oa, oc, ba, bc, ma, mc, ex, ec, eB, hT, hb⟩ := h.open hn
 have hx := hk x (List.mem_of_getElem? ex)
 have hpre := h.preLen hn
 have hth := Ker.thr_at ex
 rcases h.object c.t c.n with ⟨e, _⟩ | ⟨m, j, y, ya, yc, qa, qc, gb, off, bc2, ma2, mc2, o2, hm, et, en, ey, ecy, eBy, hTy, hoy, hob2, HOb⟩
 ·rw [hob] at e; cases e
 rw [hob] at hob2
 cases hob2
 replace et := Lib.hid et
 replace en := Lib.hid en
 obtain ⟨pre2, cs2, post2, hb2, hpre2, ⟨la2, lc2, rfl, hlo⟩, _, _⟩ := hTy.objs.window hoy
 have HQ := Lib.hid (show ∃ q, q = off + j * 2 from ⟨_, rfl⟩)
 obtain ⟨q, hq⟩ := HQ.out
 rw [← hq] at hpre2 HOb
 replace HOb := Lib.hid HOb
 clear HQ
 replace hq := Lib.hid hq
 have hgb : g ≠ gb := fun e => h.gOut eBy (e ▸ mem_rows2.2 (.inl rfl))
 have hgbo : ¬ ok gb := h.apartAt eBy (mem_rows2.2 (.inl rfl))
 have hgbl : gb < w.heap.size := hTy.objs.lt rfl
 have ho := (hk y (List.mem_of_getElem? ey)).obj o (List.mem_of_getElem? hoy)
 have hol := goodL_len ho.1
 have hot := ho.2
 have st0 := St.hand2 hb hb2 hgb
 unfold thrC at st0
 have d1 : decide ((n : Int) < 0) = false := by simp
 have d2 : decide ((4 : Int) ≤ n) = false := by simp; omega
 have d64 := text_size hx64
 have hgg : ¬ ok g := h.apart g (by simp)
 have HKp := Lib.hid (show ∀ (W : World) (bl : Blks), St [g, gb] w W bl → Keeps ok w W from fun W bl s => s.keeps (by simpa using ⟨hgg, hgbo⟩))
 have HB := Lib.hid (show ∀ (W : World) (bl : Blks), St [g, gb] w W bl → (g, 84, winC (preC k css n) [.slice xa x.label.length xc, .slice oa x.own.length oc, .string x.text, .slice ba x.objects.length bc, .slice ma x.mails.length mc] (postC k css n)) ∈ bl → (gb, 88, winC pre2 [.slice la2 o.label.length lc2, .string o.text] post2) ∈ bl → Below w.heap.size w W from fun W bl s hm1 hm2 => st0.below2 s (by simpa using ⟨hm1, hm2⟩))
 have hxl := goodL_len hx.good; have hxo := hx.ownL; have hxm := hx.mailN; have hxb := hx.objs; have hxt := hx.text
 have st := st0
 clear st0
 unfold reqV
 have HE := Lib.hid (show callK k (n : Int) c = (k, errR 0) by unfold callK; simp [hkd, hob, hf])
 rw [hth] at hf
 have HF := Lib.hid (fun (W : World) (bl : Blks) (hW : St [g, gb] w W bl) => label_Flows (fun _ => True) W xa la2 oa xc lc2 oc x.label o.label x.own (by omega) (by omega) ((hT.label.keep (HKp.out W _ hW)).okay fun _ _ => trivial) ((hlo.keep (HKp.out W _ hW)).okay fun _ _ => trivial) ((hT.own.keep (HKp.out W _ hW)).okay fun _ _ => trivial))
 rw [hf] at HF
 clear hob hf
 rw [hkd]
 clear hkd
 go_enter Try.func39, Try.ntmps39
 go_wp2_with (first | go_skip | (go_at_call 59; go_must (refine (HOb.out _ (HB.out _ _ st (by simp) (by simp))).mono ?_; rintro e wo ⟨rfl, rfl⟩)) | (with_reducible refine at_box 36 ?_; refine mem_box st (wanted_none rfl) 36 _ rfl _ rfl _ rfl ?_; clear st; intro g5 w5 hg5 st hg5b; clear hg5b; simp [Act.eval, Act.put, Value.cells, putL] at st) | (with_reducible refine at_alloc 41 ?_; refine mem_alloc st (wanted_none rfl) 41 rfl _ Try.zeroValue41 _ rfl ?_; clear st; intro g6 w6 hg6 st hg6b; clear hg6b; simp [Act.eval, Act.put, Value.cells, putL] at st) | (with_reducible refine at_load 9 ?_; refine memX st 9 _ rfl Try.isAgg9 rfl ?_) | (with_reducible refine at_load 3 ?_; refine memX st 3 _ rfl Try.isAgg3 rfl ?_) | (go_at_call 56; go_must (refine (call_no _ _).mono ?_; rintro e vn ⟨rfl, hbn⟩; replace st := st.call hbn; clear hbn)) | (with_reducible refine at_store 41 ?_; refine memS st 41 _ _ rfl _ Try.sizeOf41 ⟨3, _, _, _, _, _, rfl, rfl, rfl, rfl, rfl, rfl, ?_⟩; clear st; intro w7 st hw7m hw7z; simp [Act.eval, Act.put, Value.cells, putL] at st))
 refine det_region (by kernel_rfl) 17 rfl (fun W => St [g, gb] w W [(g, 84, winC (preC k css n) [.slice xa x.label.length xc, .slice oa x.own.length oc, .string x.text, .slice ba x.objects.length bc, .slice ma x.mails.length mc] (postC k css n)), (gb, 88, winC pre2 [.slice la2 o.label.length lc2, .string o.text] post2), (g5, 36, [.int .i64 3, .int .i64 c.h, .int .i64 c.t, .int .i64 c.n, .int .i64 c.c, .slice la c.label.length lc, .slice ga c.grants.length gc, .string c.text]), (g6, 41, [.int .i64 0, .int .i64 0, .string ⟨#[]⟩])]) (st.drew) (by decide +kernel) ?_
 refine detS 0 rfl ?_; simp only [kP, kA, kS, kZ]; refine detS 1 rfl ?_; simp only [kP, kA, kS, kZ]; refine detS 2 rfl ?_; simp only [kP, kA, kS, kZ]; refine detS 3 rfl ?_; simp only [kP, kA, kS, kZ]; refine detS 4 rfl ?_; simp only [kP, kA, kS, kZ]; refine detS 5 rfl ?_; simp only [kP, kA, kS, kZ]
 refine detT 6 rfl (fun W hW => St.run_loadW hW 0 24 _ rfl Try.isAgg24 0 hpre rfl rfl rfl) ?_; simp only [kP, kA, kS, kZ]
 refine detS 7 rfl ?_; simp only [kP, kA, kS, kZ]; refine detS 8 rfl ?_; simp only [kP, kA, kS, kZ]; refine detS 9 rfl ?_; simp only [kP, kA, kS, kZ]
 refine detT 10 rfl (fun W hW => St.run_loadW hW 1 24 _ rfl Try.isAgg24 0 hpre2 rfl rfl rfl) ?_; simp only [kP, kA, kS, kZ]
 refine detS 11 rfl ?_; simp only [kP, kA, kS, kZ]; refine detS 12 rfl ?_; simp only [kP, kA, kS, kZ]; refine detS 13 rfl ?_; simp only [kP, kA, kS, kZ]
 refine detT 14 rfl (fun W hW => St.run_loadW hW 0 25 _ rfl Try.isAgg25 1 hpre rfl rfl rfl) ?_; simp only [kP, kA, kS, kZ]
 refine det_call (fn := 10) 15 rfl (by decide +kernel) (by first | exact wanted_none rfl | exact wanted_some rfl rfl) (fun W => by first | (go_simp; done) | (go_simp; rfl)) (fun W hW => (HF.out W _ hW).mono fun e w' h => ⟨h.1, hW.call h.2⟩) ?_; simp only [kP, kA, kS, kZ]
 refine detS 16 rfl ?_; simp only [kP, kA, kS, kZ]
 refine det_done (by decide +kernel) ?_
 clear st
 intro W st
 go_wp2_with (first | go_skip | (go_at_call 56; go_must (refine (call_no _ _).mono ?_; rintro e vn ⟨rfl, hbn⟩; replace st := st.call hbn; clear hbn)) | (with_reducible refine at_store 41 ?_; refine memS st 41 _ _ rfl _ Try.sizeOf41 ⟨3, _, _, _, _, _, rfl, rfl, rfl, rfl, rfl, rfl, ?_⟩; clear st; intro w7 st hw7m hw7z; simp [Act.eval, Act.put, Value.cells, putL] at st))
 have hc := fun j => st.cell (i := 3) rfl j
 refine bodyPost_ret (v := RepV (errR 0)) ?hr rfl ?_
 case hr => simp [results, Try.results39, go_sem, hc, RepV, errR]; try rfl
 rw [HE.out]
 exact ⟨rfl, KerTo.none h (HB.out _ _ st (by simp) (by simp))⟩
set_option maxRecDepth 100000 in
set_option maxHeartbeats 4000000 in
theorem kernel_Call_put_yes (h : KerAt ok w g k css Bs) (hk : ∀ x ∈ k.threads, x.ok) (hn : n < 4) (hx64 : ¬ 64 < c.text.size) (hkd : c.kind = 3) (o : KObj) (hob : k.obj c.t c.n = some o) (hf : flowsL (k.thr n).label o.label (k.thr n).own = true) :
  Calls Try.prog 39 #[.pointer (some ⟨g, 0, none⟩), .int .i64 n, reqV c la lc ga gc] w (CallPost ok w g Bs (callK k n c)) := by
 obtain ⟨x, xa, xc, oa, oc, ba, bc, ma, mc, ex, ec, eB, hT, hb⟩ := h.open hn
 have hx := hk x (List.mem_of_getElem? ex)
 have hpre := h.preLen hn
 have hth := Ker.thr_at ex
 rcases h.object c.t c.n with ⟨e, _⟩ | ⟨m, j, y, ya, yc, qa, qc, gb, off, bc2, ma2, mc2, o2, hm, et, en, ey, ecy, eBy, hTy, hoy, hob2, HOb⟩
 ·rw [hob] at e; cases e
 rw [hob] at hob2
 cases hob2
 replace et := Lib.hid et
 replace en := Lib.hid en
 obtain ⟨pre2, cs2, post2, hb2, hpre2, ⟨la2, lc2, rfl, hlo⟩, _, _⟩ := hTy.objs.window hoy
 have HQ := Lib.hid (show ∃ q, q = off + j * 2 from ⟨_, rfl⟩)
 obtain ⟨q, hq⟩ := HQ.out
 rw [← hq] at hpre2 HOb
 replace HOb := Lib.hid HOb
 clear HQ
 replace hq := Lib.hid hq
 have hgb : g ≠ gb := fun e => h.gOut eBy (e ▸ mem_rows2.2 (.inl rfl))
 have hgbo : ¬ ok gb := h.apartAt eBy (mem_rows2.2 (.inl rfl))
 have hgbl : gb < w.heap.size := hTy.objs.lt rfl
 have ho := (hk y (List.mem_of_getElem? ey)).obj o (List.mem_of_getElem? hoy)
 have hol := goodL_len ho.1
 have hot := ho.2
 have st0 := St.hand2 hb hb2 hgb
 unfold thrC at st0
 have d1 : decide ((n : Int) < 0) = false := by simp
 have d2 : decide ((4 : Int) ≤ n) = false := by simp; omega
 have d64 := text_size hx64
 have hgg : ¬ ok g := h.apart g (by simp)
 have HKp := Lib.hid (show ∀ (W : World) (bl : Blks), St [g, gb] w W bl → Keeps ok w W from fun W bl s => s.keeps (by simpa using ⟨hgg, hgbo⟩))
 have HB := Lib.hid (show ∀ (W : World) (bl : Blks), St [g, gb] w W bl → (g, 84, winC (preC k css n) [.slice xa x.label.length xc, .slice oa x.own.length oc, .string x.text, .slice ba x.objects.length bc, .slice ma x.mails.length mc] (postC k css n)) ∈ bl → (gb, 88, winC pre2 [.slice la2 o.label.length lc2, .string o.text] post2) ∈ bl → Below w.heap.size w W from fun W bl s hm1 hm2 => st0.below2 s (by simpa using ⟨hm1, hm2⟩))
 have hxl := goodL_len hx.good; have hxo := hx.ownL; have hxm := hx.mailN; have hxb := hx.objs; have hxt := hx.text
 have st := st0
 clear st0
 unfold reqV
 have HE := Lib.hid (show callK k (n : Int) c = (k.put m { y with objects := y.objects.set j ⟨o.label, knowT x.text c.text⟩ }, errR 0) by
  have hym : k.thr (m : Int) = y := Ker.thr_at ey
  have hob3 : k.obj (m : Int) (j : Int) = some o := by rw [← et.out, ← en.out]; exact hob
  rw [hth] at hf; unfold callK; simp [hkd, hf, hth, et.out, en.out, hym, hob3, Thr.putObj, Ker.put])
 rw [hth] at hf
 have HF := Lib.hid (fun (W : World) (bl : Blks) (hW : St [g, gb] w W bl) => label_Flows (fun _ => True) W xa la2 oa xc lc2 oc x.label o.label x.own (by omega) (by omega) ((hT.label.keep (HKp.out W _ hW)).okay fun _ _ => trivial) ((hlo.keep (HKp.out W _ hW)).okay fun _ _ => trivial) ((hT.own.keep (HKp.out W _ hW)).okay fun _ _ => trivial))
 rw [hf] at HF
 have hct : c.text.size ≤ 64 := by omega
 have hsz : (x.text ++ c.text).size = x.text.size + c.text.size := ByteArray.size_append
 have HKt := Lib.hid (show knowT x.text c.text = (x.text ++ c.text).extract ((x.text ++ c.text).size - 64) (x.text ++ c.text).size from rfl)
 have hle : (x.text ++ c.text).size ≤ 2000000 := by omega
 clear hsz
 clear hob hf
 rw [hkd]
 clear hkd
 go_enter Try.func39, Try.ntmps39
 go_wp2_with (first | go_skip | (go_at_call 59; go_must (refine (HOb.out _ (HB.out _ _ st (by simp) (by simp))).mono ?_; rintro e wo ⟨rfl, rfl⟩)) | (with_reducible refine at_box 36 ?_; refine mem_box st (wanted_none rfl) 36 _ rfl _ rfl _ rfl ?_; clear st; intro g5 w5 hg5 st hg5b; clear hg5b; simp [Act.eval, Act.put, Value.cells, putL] at st) | (with_reducible refine at_alloc 41 ?_; refine mem_alloc st (wanted_none rfl) 41 rfl _ Try.zeroValue41 _ rfl ?_; clear st; intro g6 w6 hg6 st hg6b; clear hg6b; simp [Act.eval, Act.put, Value.cells, putL] at st) | (with_reducible refine at_load 9 ?_; refine memX st 9 _ rfl Try.isAgg9 rfl ?_) | (with_reducible refine at_load 3 ?_; refine memX st 3 _ rfl Try.isAgg3 rfl ?_) | (go_at_call 56; go_must (refine (call_no _ _).mono ?_; rintro e vn ⟨rfl, hbn⟩; replace st := st.call hbn; clear hbn)) | (with_reducible refine at_store 41 ?_; refine memS st 41 _ _ rfl _ Try.sizeOf41 ⟨3, _, _, _, _, _, rfl, rfl, rfl, rfl, rfl, rfl, ?_⟩; clear st; intro w7 st hw7m hw7z; simp [Act.eval, Act.put, Value.cells, putL] at st))
 refine det_region (by kernel_rfl) 17 rfl (fun W => St [g, gb] w W [(g, 84, winC (preC k css n) [.slice xa x.label.length xc, .slice oa x.own.length oc, .string x.text, .slice ba x.objects.length bc, .slice ma x.mails.length mc] (postC k css n)), (gb, 88, winC pre2 [.slice la2 o.label.length lc2, .string o.text] post2), (g5, 36, [.int .i64 3, .int .i64 c.h, .int .i64 c.t, .int .i64 c.n, .int .i64 c.c, .slice la c.label.length lc, .slice ga c.grants.length gc, .string c.text]), (g6, 41, [.int .i64 0, .int .i64 0, .string ⟨#[]⟩])]) (st.drew) (by decide +kernel) ?_
 refine detS 0 rfl ?_; simp only [kP, kA, kS, kZ]; refine detS 1 rfl ?_; simp only [kP, kA, kS, kZ]; refine detS 2 rfl ?_; simp only [kP, kA, kS, kZ]; refine detS 3 rfl ?_; simp only [kP, kA, kS, kZ]; refine detS 4 rfl ?_; simp only [kP, kA, kS, kZ]; refine detS 5 rfl ?_; simp only [kP, kA, kS, kZ]
 refine detT 6 rfl (fun W hW => St.run_loadW hW 0 24 _ rfl Try.isAgg24 0 hpre rfl rfl rfl) ?_; simp only [kP, kA, kS, kZ]
 refine detS 7 rfl ?_; simp only [kP, kA, kS, kZ]; refine detS 8 rfl ?_; simp only [kP, kA, kS, kZ]; refine detS 9 rfl ?_; simp only [kP, kA, kS, kZ]
 refine detT 10 rfl (fun W hW => St.run_loadW hW 1 24 _ rfl Try.isAgg24 0 hpre2 rfl rfl rfl) ?_; simp only [kP, kA, kS, kZ]
 refine detS 11 rfl ?_; simp only [kP, kA, kS, kZ]; refine detS 12 rfl ?_; simp only [kP, kA, kS, kZ]; refine detS 13 rfl ?_; simp only [kP, kA, kS, kZ]
 refine detT 14 rfl (fun W hW => St.run_loadW hW 0 25 _ rfl Try.isAgg25 1 hpre rfl rfl rfl) ?_; simp only [kP, kA, kS, kZ]
 refine det_call (fn := 10) 15 rfl (by decide +kernel) (by first | exact wanted_none rfl | exact wanted_some rfl rfl) (fun W => by first | (go_simp; done) | (go_simp; rfl)) (fun W hW => (HF.out W _ hW).mono fun e w' h => ⟨h.1, hW.call h.2⟩) ?_; simp only [kP, kA, kS, kZ]
 refine detS 16 rfl ?_; simp only [kP, kA, kS, kZ]
 refine det_done (by decide +kernel) ?_
 clear st
 intro W st
 go_wp2_with (first | go_skip | fail)
 refine det_region (by kernel_rfl) 8 rfl (fun W => St [g, gb] w W [(g, 84, winC (preC k css n) [.slice xa x.label.length xc, .slice oa x.own.length oc, .string x.text, .slice ba x.objects.length bc, .slice ma x.mails.length mc] (postC k css n)), (gb, 88, winC pre2 [.slice la2 o.label.length lc2, .string o.text] post2), (g5, 36, [.int .i64 3, .int .i64 c.h, .int .i64 c.t, .int .i64 c.n, .int .i64 c.c, .slice la c.label.length lc, .slice ga c.grants.length gc, .string c.text]), (g6, 41, [.int .i64 0, .int .i64 0, .string ⟨#[]⟩])]) (st.drew) (by decide +kernel) ?_
 refine detS 0 rfl ?_; simp only [kP, kA, kS, kZ]; refine detS 1 rfl ?_; simp only [kP, kA, kS, kZ]; refine detS 2 rfl ?_; simp only [kP, kA, kS, kZ]
 refine detT 3 rfl (fun W hW => St.run_loadW hW 0 9 _ rfl Try.isAgg9 2 hpre rfl rfl rfl) ?_; simp only [kP, kA, kS, kZ]
 refine detS 4 rfl ?_; simp only [kP, kA, kS, kZ]
 refine detT 5 rfl (fun W hW => St.run_load hW 2 9 _ rfl Try.isAgg9 rfl rfl rfl) ?_; simp only [kP, kA, kS, kZ]
 refine detT (v := .string (x.text ++ c.text)) 6 rfl (fun W hW => by (go_simp; omega)) ?_; simp only [kP, kA, kS, kZ]
 refine detS 7 rfl ?_; simp only [kP, kA, kS, kZ]
 refine det_done (by decide +kernel) ?_
 clear st
 intro W2 st
 generalize hS : x.text ++ c.text = S at *
 replace hS := Lib.hid hS
 obtain ⟨mm, hmm⟩ : ∃ mm, mm = S.size - 64 := ⟨_, rfl⟩
 have hw1 : IntKind.i64.wrap ((S.size : Int) - 64) = (S.size : Int) - 64 := IntWalk.i64_in _ (by omega)
 have hml : mm ≤ S.size := by omega
 have h64 : ((if 64 < (S.size : Int) then (S.size : Int) - 64 else 0) : Int) = (mm : Int) := by split <;> omega
 replace hmm := Lib.hid hmm
 go_wp2_with (first | go_skip | ((with_reducible refine at_store 9 ?_); refine mem_storeW st 9 _ _ rfl (wanted_none rfl) _ Try.sizeOf9 1 ?_; refine ⟨1, _, _, _, _, _, _, _, hpre2, rfl, rfl, rfl, rfl, rfl, rfl, ?_⟩; clear st; intro w8 st hw8m hw8z; simp [Act.eval, Act.put, Value.cells, putL] at st) | (go_at_call 56; go_must (refine (call_no _ _).mono ?_; rintro e vn ⟨rfl, hbn⟩; replace st := st.call hbn; clear hbn)) | (with_reducible refine at_store 41 ?_; refine memS st 41 _ _ rfl _ Try.sizeOf41 ⟨3, _, _, _, _, _, rfl, rfl, rfl, rfl, rfl, rfl, ?_⟩; clear st; intro w7 st hw7m hw7z; simp [Act.eval, Act.put, Value.cells, putL] at st))
 have hc := fun j => st.cell (i := 3) rfl j
 refine bodyPost_ret (v := RepV (errR 0)) ?hr rfl ?_
 case hr => simp [results, Try.results39, go_sem, hc, RepV, errR]; try rfl
 rw [HE.out]
 refine ⟨rfl, ?_⟩
 have emm : (max 0 ((S.size : Int) - 64)).toNat = mm := by have := hmm.out; omega
 rw [emm] at st
 rw [HKt.out, ← hmm.out]
 have e0 : w7.heap[g]? = w.heap[g]? := by rw [st.blk _ (List.mem_of_getElem? (i := 0) rfl), hb]; rfl
 have hbm : w.heap[g]? = some (.cells (winC (preC k css m) (thrC y ya yc qa qc (some ⟨gb, off, none⟩) bc2 ma2 mc2) (postC k css m)).toArray 84 (0, 0)) := by rw [← h.cells hm ecy]; exact h.blk
 have hokw : ∀ b, b < w.heap.size → ok b → ((ok b ∨ w.heap.size ≤ b) ∧ b ∉ g :: rows2 (some ⟨gb, off, none⟩) ma2) ∧ w7.heap[b]? = w.heap[b]? := fun b hb ho => by
  refine ⟨⟨.inl ho, fun hm => ?_⟩, (HKp.out _ _ st).block b hb ho⟩
  rcases List.mem_cons.1 hm with rfl | hm
  ·exact hgg ho
  ·exact h.apartAt eBy hm ho
 have hok2 : ∀ cs z, RObj ok w cs z → RObj (fun b => (ok b ∨ w.heap.size ≤ b) ∧ b ∉ g :: rows2 (some ⟨gb, off, none⟩) ma2) w7 cs z := fun cs z r => r.move st.size hokw
 refine h.close (made' := k.made) hm ecy eBy (cs' := thrC y ya yc qa qc (some ⟨gb, off, none⟩) bc2 ma2 mc2) (x' := { y with objects := y.objects.set j ⟨o.label, S.extract mm S.size⟩ }) (B' := rows2 (some ⟨gb, off, none⟩) ma2) (st.wider (by simp [rows2])) (by rw [e0]; exact hbm)
  ⟨ya, yc, qa, qc, some ⟨gb, off, none⟩, bc2, ma2, mc2, by simp [thrC], ⟨hTy.label.move st.size hokw fun _ _ r => r, hTy.own.move st.size hokw fun _ _ r => r, ?_, ?_⟩, rfl⟩ (flatten_nodup (List.nodup_cons.1 h.nodup).2 eBy) fun b hb => .inl hb
 ·refine hTy.objs.set (List.getElem?_eq_some_iff.1 hoy).1 hok2 (cs' := [.slice la2 o.label.length lc2, .string (S.extract mm S.size)]) ⟨la2, lc2, rfl, hlo.move st.size hokw fun _ _ r => r⟩ rfl (by simp [Value.oneCell']) fun cells hc => ?_
  rw [hb2] at hc
  have hcl : winC pre2 [.slice la2 o.label.length lc2, .string o.text] post2 = cells := by simpa using hc
  rw [← hcl, ← hq.out]
  have := putL_winC (pre := pre2) (win := [.slice la2 o.label.length lc2, .string o.text]) (post := post2) (j := 0) (vs := [.slice la2 o.label.length lc2, .string (S.extract mm S.size)]) hpre2 (by simp)
  rw [Nat.add_zero] at this
  rw [this]
  exact st.blk _ (List.mem_of_getElem? (i := 1) rfl)
 ·exact hTy.mails.kept (fun b e => st.frame b (hTy.mails.lt e) (by
   simp
   exact ⟨fun e2 => h.gOut eBy (e2 ▸ mem_rows2.2 (.inr e)), fun e2 => h.rowsNe eBy (b := gb) rfl (e2 ▸ e)⟩)) fun _ _ r => r.move st.size hokw
end
end Go.Proofs.Ytflfjpopfapogaa
