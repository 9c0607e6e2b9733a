/- Walks and plain laws, part 20. -/
import Derived.Test.YtealbofmlieicaaP19
set_option linter.unusedSimpArgs false
set_option linter.unusedVariables false
set_option maxHeartbeats 16000000
set_option maxRecDepth 100000
namespace Go.Proofs.Ytealbofmlieicaa
open Go.RowKit
section
variable (ok okc : Nat → Prop) (w : World) (g : Nat) (k : Ker) (css : List (List Value)) (Bs : List (List Nat)) (n : Nat) (c : Req) (la : Option Addr) (lc : Nat) (ga : Option Addr) (gc : Nat)
theorem kernel_Call_get_no (h : KerAt ok w g k css Bs) (hk : ∀ x ∈ k.threads, x.ok) (hn : n < 4) (hx64 : ¬ 64 < c.text.size) (hkd : c.kind = 4) (o : KObj) (hob : k.obj c.t c.n = some o) (hf : flowsL o.label (k.thr n).label (k.thr n).own = false) :
  Calls Try.prog 13 #[.pointer (some ⟨g, 0, none⟩), .int .i64 n, reqV c la lc ga gc] w (CallPost ok w g Bs (callK k n c)) := by
 obtain ⟨x, xa, xc, oa, oc, ba, bc, ma, mc, ex, ec, eB, hT, hb⟩ := h.open hn
 have hx := hk x (mgE ex)
 have hpre := h.preLen hn
 have hth := Ker.thr_at ex
 rcases h.object c.t c.n with ⟨e, _⟩ | ⟨m, j, y, ya, yc, qa, qc, gb, off, bc2, ma2, mc2, o2, hm, et, en, ey, ecy, eBy, hTy, hoy, hob2, HOb⟩
 ·rw [hob] at e; cases e
 rw [hob] at hob2
 cases hob2
 replace et := qh et
 replace en := qh en
 obtain ⟨pre2, cs2, post2, hb2, hpre2, ⟨la2, lc2, rfl, hlo⟩, _, _⟩ := hTy.objs.window hoy
 have HQ := qh (show ∃ q, q = off + j * 2 from ⟨_, rfl⟩)
 obtain ⟨q, hq⟩ := HQ.out
 rw [← hq] at hpre2 HOb
 replace HOb := qh HOb
 clear HQ
 replace hq := qh hq
 have hgb : g ≠ gb := fun e => h.gOut eBy (e ▸ mem_rows2.2 (.inl rfl))
 have hgbo : ¬ ok gb := h.apartAt eBy (mem_rows2.2 (.inl rfl))
 have hgbl : gb < w.heap.size := hTy.objs.lt rfl
 have ho := (hk y (mgE ey)).obj o (mgE hoy)
 have hol := goodL_len ho.1
 have hot := ho.2
 have st0 := St.hand2 hb hb2 hgb
 unfold thrC at st0
 have d1 : decide ((n : Int) < 0) = false := by simp
 have d2 : decide ((4 : Int) ≤ n) = false := by simp; omega
 have d64 := text_size hx64
 have hgg : ¬ ok g := h.apart g (by simp)
 have HKp := qh (show ∀ (W : World) (bl : Blks), St [g, gb] w W bl → Keeps ok w W from fun W bl s => s.keeps (by simpa using ⟨hgg, hgbo⟩))
 have HB := qh (show ∀ (W : World) (bl : Blks), St [g, gb] w W bl → (g, 58, winC (preC k css n) [.slice xa x.label.length xc, .slice oa x.own.length oc, .string x.text, .slice ba x.objects.length bc, .slice ma x.mails.length mc] (postC k css n)) ∈ bl → (gb, 73, winC pre2 [.slice la2 o.label.length lc2, .string o.text] post2) ∈ bl → Below w.heap.size w W from fun W bl s hm1 hm2 => st0.below2 s (by simpa using ⟨hm1, hm2⟩))
 have hxl := goodL_len hx.good; have hxo := hx.ownL; have hxm := hx.mailN; have hxb := hx.objs; have hxt := hx.text
 have st := st0
 clear st0
 unfold reqV
 have HE := qh (show callK k (n : Int) c = (k, errR 4) by unfold callK; simp [hkd, hob, hf])
 rw [hth] at hf
 have HF := qh (fun (W : World) (bl : Blks) (hW : St [g, gb] w W bl) => label_Flows (fun _ => True) W la2 xa oa lc2 xc oc o.label x.label x.own (by omega) (by omega) ((hlo.keep (HKp.out W _ hW)).okay fun _ _ => trivial) ((hT.label.keep (HKp.out W _ hW)).okay fun _ _ => trivial) ((hT.own.keep (HKp.out W _ hW)).okay fun _ _ => trivial))
 rw [hf] at HF
 clear hob hf
 rw [hkd]
 clear hkd
 go_enter Try.func13, Try.ntmps13
 go_wp2_with (first | go_skip | (go_at_call 35; go_must (refine (HOb.out _ (HB.out _ _ st (by simp) (by simp))).mono ?_; rintro e wo ⟨rfl, rfl⟩)) | (with_reducible refine mB 40 st ?_; clear st; intro g5 w5 hg5 st) | (with_reducible refine mA st Try.zeroValue52 ?_; clear st; intro g6 w6 hg6 st) | (with_reducible refine mX st Try.isAgg9 ?_) | (with_reducible refine mX st Try.isAgg3 ?_) | (go_at_call 32; go_must (refine (call_no _ _).mono ?_; rintro e vn ⟨rfl, hbn⟩; replace st := st.call hbn; clear hbn)) | (with_reducible refine mS 3 st Try.sizeOf52 ?_; clear st; intro w7 st hw7m hw7z))
 refine det_region (by kernel_rfl) 18 rfl (fun W => St [g, gb] w W [(g, 58, winC (preC k css n) [.slice xa x.label.length xc, .slice oa x.own.length oc, .string x.text, .slice ba x.objects.length bc, .slice ma x.mails.length mc] (postC k css n)), (gb, 73, winC pre2 [.slice la2 o.label.length lc2, .string o.text] post2), (g5, 40, [.int .i64 4, .int .i64 c.h, .int .i64 c.t, .int .i64 c.n, .int .i64 c.c, .slice la c.label.length lc, .slice ga c.grants.length gc, .string c.text]), (g6, 52, [.int .i64 0, .int .i64 0, .string ⟨#[]⟩])]) (st.drew) (by decide +kernel) ?_
 refine detS 0 rfl ?_; refine detS 1 rfl ?_; refine detS 2 rfl ?_; refine detS 3 rfl ?_; refine detS 4 rfl ?_; refine detS 5 rfl ?_
 refine detT 6 rfl (fun W hW => St.run_loadW hW 1 30 _ rfl Try.isAgg30 0 hpre2 rfl rfl rfl) ?_
 refine detS 7 rfl ?_; refine detS 8 rfl ?_; refine detS 9 rfl ?_
 refine detT 10 rfl (fun W hW => St.run_loadW hW 0 30 _ rfl Try.isAgg30 0 hpre rfl rfl rfl) ?_
 refine detS 11 rfl ?_; refine detS 12 rfl ?_; refine detS 13 rfl ?_
 refine detT 14 rfl (fun W hW => St.run_loadW hW 0 31 _ rfl Try.isAgg31 1 hpre rfl rfl rfl) ?_
 refine det_call (fn := 21) 15 rfl (by decide +kernel) (by first | exact wanted_none rfl | exact wanted_some rfl rfl) (fun W => by first | (go_simp; done) | (go_simp; rfl)) (fun W hW => (HF.out W _ hW).mono fun e w' h => ⟨h.1, hW.call h.2⟩) ?_; simp only [kP, kA, kS, kZ]
 refine detS 16 rfl ?_; refine detS 17 rfl ?_
 refine det_done (by decide +kernel) ?_
 clear st
 intro W st
 go_wp2_with (first | go_skip | (go_at_call 32; go_must (refine (call_no _ _).mono ?_; rintro e vn ⟨rfl, hbn⟩; replace st := st.call hbn; clear hbn)) | (with_reducible refine mS 3 st Try.sizeOf52 ?_; clear st; intro w7 st hw7m hw7z))
 have hc := fun j => st.cell (i := 3) rfl j
 refine bodyPost_ret (v := RepV (errR 4)) ?hr rfl ?_
 case hr => simp [results, Try.results13, go_sem, hc, RepV, errR]; try rfl
 rw [HE.out]
 exact ⟨rfl, KerTo.none h (HB.out _ _ st (by simp) (by simp))⟩
theorem kernel_Call_get_yes (h : KerAt ok w g k css Bs) (hk : ∀ x ∈ k.threads, x.ok) (hn : n < 4) (hx64 : ¬ 64 < c.text.size) (hkd : c.kind = 4) (o : KObj) (hob : k.obj c.t c.n = some o) (hf : flowsL o.label (k.thr n).label (k.thr n).own = true) :
  Calls Try.prog 13 #[.pointer (some ⟨g, 0, none⟩), .int .i64 n, reqV c la lc ga gc] w (CallPost ok w g Bs (callK k n c)) := by
 obtain ⟨x, xa, xc, oa, oc, ba, bc, ma, mc, ex, ec, eB, hT, hb⟩ := h.open hn
 have hx := hk x (mgE ex)
 have hpre := h.preLen hn
 have hth := Ker.thr_at ex
 rcases h.object c.t c.n with ⟨e, _⟩ | ⟨m, j, y, ya, yc, qa, qc, gb, off, bc2, ma2, mc2, o2, hm, et, en, ey, ecy, eBy, hTy, hoy, hob2, HOb⟩
 ·rw [hob] at e; cases e
 rw [hob] at hob2
 cases hob2
 replace et := qh et
 replace en := qh en
 obtain ⟨pre2, cs2, post2, hb2, hpre2, ⟨la2, lc2, rfl, hlo⟩, _, _⟩ := hTy.objs.window hoy
 have HQ := qh (show ∃ q, q = off + j * 2 from ⟨_, rfl⟩)
 obtain ⟨q, hq⟩ := HQ.out
 rw [← hq] at hpre2 HOb
 replace HOb := qh HOb
 clear HQ
 replace hq := qh hq
 have hgb : g ≠ gb := fun e => h.gOut eBy (e ▸ mem_rows2.2 (.inl rfl))
 have hgbo : ¬ ok gb := h.apartAt eBy (mem_rows2.2 (.inl rfl))
 have hgbl : gb < w.heap.size := hTy.objs.lt rfl
 have ho := (hk y (mgE ey)).obj o (mgE hoy)
 have hol := goodL_len ho.1
 have hot := ho.2
 have st0 := St.hand2 hb hb2 hgb
 unfold thrC at st0
 have d1 : decide ((n : Int) < 0) = false := by simp
 have d2 : decide ((4 : Int) ≤ n) = false := by simp; omega
 have d64 := text_size hx64
 have hgg : ¬ ok g := h.apart g (by simp)
 have HKp := qh (show ∀ (W : World) (bl : Blks), St [g, gb] w W bl → Keeps ok w W from fun W bl s => s.keeps (by simpa using ⟨hgg, hgbo⟩))
 have HB := qh (show ∀ (W : World) (bl : Blks), St [g, gb] w W bl → (g, 58, winC (preC k css n) [.slice xa x.label.length xc, .slice oa x.own.length oc, .string x.text, .slice ba x.objects.length bc, .slice ma x.mails.length mc] (postC k css n)) ∈ bl → (gb, 73, winC pre2 [.slice la2 o.label.length lc2, .string o.text] post2) ∈ bl → Below w.heap.size w W from fun W bl s hm1 hm2 => st0.below2 s (by simpa using ⟨hm1, hm2⟩))
 have hxl := goodL_len hx.good; have hxo := hx.ownL; have hxm := hx.mailN; have hxb := hx.objs; have hxt := hx.text
 have st := st0
 clear st0
 unfold reqV
 have HE := qh (show callK k (n : Int) c = (k.put n { x with text := knowT x.text o.text }, ⟨0, o.text.size, ⟨#[]⟩⟩) by rw [hth] at hf; unfold callK; simp [hkd, hob, hf, hth])
 rw [hth] at hf
 have HF := qh (fun (W : World) (bl : Blks) (hW : St [g, gb] w W bl) => label_Flows (fun _ => True) W la2 xa oa lc2 xc oc o.label x.label x.own (by omega) (by omega) ((hlo.keep (HKp.out W _ hW)).okay fun _ _ => trivial) ((hT.label.keep (HKp.out W _ hW)).okay fun _ _ => trivial) ((hT.own.keep (HKp.out W _ hW)).okay fun _ _ => trivial))
 rw [hf] at HF
 clear hob hf
 rw [hkd]
 clear hkd
 go_enter Try.func13, Try.ntmps13
 go_wp2_with (first | go_skip | (go_at_call 35; go_must (refine (HOb.out _ (HB.out _ _ st (by simp) (by simp))).mono ?_; rintro e wo ⟨rfl, rfl⟩)) | (with_reducible refine mB 40 st ?_; clear st; intro g5 w5 hg5 st) | (with_reducible refine mA st Try.zeroValue52 ?_; clear st; intro g6 w6 hg6 st) | (with_reducible refine mX st Try.isAgg9 ?_) | (with_reducible refine mX st Try.isAgg3 ?_) | (go_at_call 32; go_must (refine (call_no _ _).mono ?_; rintro e vn ⟨rfl, hbn⟩; replace st := st.call hbn; clear hbn)) | (with_reducible refine mS 3 st Try.sizeOf52 ?_; clear st; intro w7 st hw7m hw7z))
 refine det_region (by kernel_rfl) 18 rfl (fun W => St [g, gb] w W [(g, 58, winC (preC k css n) [.slice xa x.label.length xc, .slice oa x.own.length oc, .string x.text, .slice ba x.objects.length bc, .slice ma x.mails.length mc] (postC k css n)), (gb, 73, winC pre2 [.slice la2 o.label.length lc2, .string o.text] post2), (g5, 40, [.int .i64 4, .int .i64 c.h, .int .i64 c.t, .int .i64 c.n, .int .i64 c.c, .slice la c.label.length lc, .slice ga c.grants.length gc, .string c.text]), (g6, 52, [.int .i64 0, .int .i64 0, .string ⟨#[]⟩])]) (st.drew) (by decide +kernel) ?_
 refine detS 0 rfl ?_; refine detS 1 rfl ?_; refine detS 2 rfl ?_; refine detS 3 rfl ?_; refine detS 4 rfl ?_; refine detS 5 rfl ?_
 refine detT 6 rfl (fun W hW => St.run_loadW hW 1 30 _ rfl Try.isAgg30 0 hpre2 rfl rfl rfl) ?_
 refine detS 7 rfl ?_; refine detS 8 rfl ?_; refine detS 9 rfl ?_
 refine detT 10 rfl (fun W hW => St.run_loadW hW 0 30 _ rfl Try.isAgg30 0 hpre rfl rfl rfl) ?_
 refine detS 11 rfl ?_; refine detS 12 rfl ?_; refine detS 13 rfl ?_
 refine detT 14 rfl (fun W hW => St.run_loadW hW 0 31 _ rfl Try.isAgg31 1 hpre rfl rfl rfl) ?_
 refine det_call (fn := 21) 15 rfl (by decide +kernel) (by first | exact wanted_none rfl | exact wanted_some rfl rfl) (fun W => by first | (go_simp; done) | (go_simp; rfl)) (fun W hW => (HF.out W _ hW).mono fun e w' h => ⟨h.1, hW.call h.2⟩) ?_; simp only [kP, kA, kS, kZ]
 refine detS 16 rfl ?_; refine detS 17 rfl ?_
 refine det_done (by decide +kernel) ?_
 clear st
 intro W st
 go_wp2_with (first | go_skip | ((with_reducible refine at_load 9 ?_); refine mem_loadW st 9 _ rfl (wanted_none rfl) Try.isAgg9 1 ?_; refine ⟨1, _, _, _, _, _, _, _, hpre2, rfl, rfl, rfl, ?_⟩) | (go_at_call 36; go_must (refine (kernel_know _ g _ _ _ _ _ _ _ x.text o.text hpre (by omega) (by omega) (st.blk _ (mgE (i := 0) rfl))).mono ?_; rintro e W1 ⟨⟨u, rfl⟩, hk1⟩; replace st := st.turn (i := 0) rfl hk1; clear hk1; simp only [List.set_cons_zero] at st)) | (with_reducible refine mS 3 st Try.sizeOf52 ?_; clear st; intro w7 st hw7m hw7z))
 have hc := fun j => st.cell (i := 3) rfl j
 refine bodyPost_ret (v := RepV (⟨0, o.text.size, ⟨#[]⟩⟩)) ?hr rfl ?_
 case hr => simp [results, Try.results13, go_sem, hc, RepV, errR]; try rfl
 rw [HE.out]
 exact ⟨rfl, h.closeSame (made' := k.made) (x' := { x with text := knowT x.text o.text }) hn ec eB hT (st.drop2 (mgE (i := 1) rfl) hb2 (by simpa [thrC] using hgb) (by simp)) rfl rfl (h.fine eB ((hT.label.keep (HKp.out _ _ st)).okay fun _ r => .inl r)) (h.fine eB ((hT.own.keep (HKp.out _ _ st)).okay fun _ r => .inl r))⟩
end
section
variable (ok okc : Nat → Prop) (w : World) (g : Nat) (k : Ker) (css : List (List Value)) (Bs : List (List Nat)) (n : Nat) (c : Req) (la : Option Addr) (lc : Nat) (ga : Option Addr) (gc : Nat)
theorem kernel_Call_put_no (h : KerAt ok w g k css Bs) (hk : ∀ x ∈ k.threads, x.ok) (hn : n < 4) (hx64 : ¬ 64 < c.text.size) (hkd : c.kind = 3) (o : KObj) (hob : k.obj c.t c.n = some o) (hf : flowsL (k.thr n).label o.label (k.thr n).own = false) :
  Calls Try.prog 13 #[.pointer (some ⟨g, 0, none⟩), .int .i64 n, reqV c la lc ga gc] w (CallPost ok w g Bs (callK k n c)) := by
 obtain ⟨x, xa, xc, oa, oc, ba, bc, ma, mc, ex, ec, eB, hT, hb⟩ := h.open hn
 have hx := hk x (mgE ex)
 have hpre := h.preLen hn
 have hth := Ker.thr_at ex
 rcases h.object c.t c.n with ⟨e, _⟩ | ⟨m, j, y, ya, yc, qa, qc, gb, off, bc2, ma2, mc2, o2, hm, et, en, ey, ecy, eBy, hTy, hoy, hob2, HOb⟩
 ·rw [hob] at e; cases e
 rw [hob] at hob2
 cases hob2
 replace et := qh et
 replace en := qh en
 obtain ⟨pre2, cs2, post2, hb2, hpre2, ⟨la2, lc2, rfl, hlo⟩, _, _⟩ := hTy.objs.window hoy
 have HQ := qh (show ∃ q, q = off + j * 2 from ⟨_, rfl⟩)
 obtain ⟨q, hq⟩ := HQ.out
 rw [← hq] at hpre2 HOb
 replace HOb := qh HOb
 clear HQ
 replace hq := qh hq
 have hgb : g ≠ gb := fun e => h.gOut eBy (e ▸ mem_rows2.2 (.inl rfl))
 have hgbo : ¬ ok gb := h.apartAt eBy (mem_rows2.2 (.inl rfl))
 have hgbl : gb < w.heap.size := hTy.objs.lt rfl
 have ho := (hk y (mgE ey)).obj o (mgE hoy)
 have hol := goodL_len ho.1
 have hot := ho.2
 have st0 := St.hand2 hb hb2 hgb
 unfold thrC at st0
 have d1 : decide ((n : Int) < 0) = false := by simp
 have d2 : decide ((4 : Int) ≤ n) = false := by simp; omega
 have d64 := text_size hx64
 have hgg : ¬ ok g := h.apart g (by simp)
 have HKp := qh (show ∀ (W : World) (bl : Blks), St [g, gb] w W bl → Keeps ok w W from fun W bl s => s.keeps (by simpa using ⟨hgg, hgbo⟩))
 have HB := qh (show ∀ (W : World) (bl : Blks), St [g, gb] w W bl → (g, 58, winC (preC k css n) [.slice xa x.label.length xc, .slice oa x.own.length oc, .string x.text, .slice ba x.objects.length bc, .slice ma x.mails.length mc] (postC k css n)) ∈ bl → (gb, 73, winC pre2 [.slice la2 o.label.length lc2, .string o.text] post2) ∈ bl → Below w.heap.size w W from fun W bl s hm1 hm2 => st0.below2 s (by simpa using ⟨hm1, hm2⟩))
 have hxl := goodL_len hx.good; have hxo := hx.ownL; have hxm := hx.mailN; have hxb := hx.objs; have hxt := hx.text
 have st := st0
 clear st0
 unfold reqV
 have HE := qh (show callK k (n : Int) c = (k, errR 0) by unfold callK; simp [hkd, hob, hf])
 rw [hth] at hf
 have HF := qh (fun (W : World) (bl : Blks) (hW : St [g, gb] w W bl) => label_Flows (fun _ => True) W xa la2 oa xc lc2 oc x.label o.label x.own (by omega) (by omega) ((hT.label.keep (HKp.out W _ hW)).okay fun _ _ => trivial) ((hlo.keep (HKp.out W _ hW)).okay fun _ _ => trivial) ((hT.own.keep (HKp.out W _ hW)).okay fun _ _ => trivial))
 rw [hf] at HF
 clear hob hf
 rw [hkd]
 clear hkd
 go_enter Try.func13, Try.ntmps13
 go_wp2_with (first | go_skip | (go_at_call 35; go_must (refine (HOb.out _ (HB.out _ _ st (by simp) (by simp))).mono ?_; rintro e wo ⟨rfl, rfl⟩)) | (with_reducible refine mB 40 st ?_; clear st; intro g5 w5 hg5 st) | (with_reducible refine mA st Try.zeroValue52 ?_; clear st; intro g6 w6 hg6 st) | (with_reducible refine mX st Try.isAgg9 ?_) | (with_reducible refine mX st Try.isAgg3 ?_) | (go_at_call 32; go_must (refine (call_no _ _).mono ?_; rintro e vn ⟨rfl, hbn⟩; replace st := st.call hbn; clear hbn)) | (with_reducible refine mS 3 st Try.sizeOf52 ?_; clear st; intro w7 st hw7m hw7z))
 refine det_region (by kernel_rfl) 17 rfl (fun W => St [g, gb] w W [(g, 58, winC (preC k css n) [.slice xa x.label.length xc, .slice oa x.own.length oc, .string x.text, .slice ba x.objects.length bc, .slice ma x.mails.length mc] (postC k css n)), (gb, 73, winC pre2 [.slice la2 o.label.length lc2, .string o.text] post2), (g5, 40, [.int .i64 3, .int .i64 c.h, .int .i64 c.t, .int .i64 c.n, .int .i64 c.c, .slice la c.label.length lc, .slice ga c.grants.length gc, .string c.text]), (g6, 52, [.int .i64 0, .int .i64 0, .string ⟨#[]⟩])]) (st.drew) (by decide +kernel) ?_
 refine detS 0 rfl ?_; refine detS 1 rfl ?_; refine detS 2 rfl ?_; refine detS 3 rfl ?_; refine detS 4 rfl ?_; refine detS 5 rfl ?_
 refine detT 6 rfl (fun W hW => St.run_loadW hW 0 30 _ rfl Try.isAgg30 0 hpre rfl rfl rfl) ?_
 refine detS 7 rfl ?_; refine detS 8 rfl ?_; refine detS 9 rfl ?_
 refine detT 10 rfl (fun W hW => St.run_loadW hW 1 30 _ rfl Try.isAgg30 0 hpre2 rfl rfl rfl) ?_
 refine detS 11 rfl ?_; refine detS 12 rfl ?_; refine detS 13 rfl ?_
 refine detT 14 rfl (fun W hW => St.run_loadW hW 0 31 _ rfl Try.isAgg31 1 hpre rfl rfl rfl) ?_
 refine det_call (fn := 21) 15 rfl (by decide +kernel) (by first | exact wanted_none rfl | exact wanted_some rfl rfl) (fun W => by first | (go_simp; done) | (go_simp; rfl)) (fun W hW => (HF.out W _ hW).mono fun e w' h => ⟨h.1, hW.call h.2⟩) ?_; simp only [kP, kA, kS, kZ]
 refine detS 16 rfl ?_
 refine det_done (by decide +kernel) ?_
 clear st
 intro W st
 go_wp2_with (first | go_skip | (go_at_call 32; go_must (refine (call_no _ _).mono ?_; rintro e vn ⟨rfl, hbn⟩; replace st := st.call hbn; clear hbn)) | (with_reducible refine mS 3 st Try.sizeOf52 ?_; clear st; intro w7 st hw7m hw7z))
 have hc := fun j => st.cell (i := 3) rfl j
 refine bodyPost_ret (v := RepV (errR 0)) ?hr rfl ?_
 case hr => simp [results, Try.results13, go_sem, hc, RepV, errR]; try rfl
 rw [HE.out]
 exact ⟨rfl, KerTo.none h (HB.out _ _ st (by simp) (by simp))⟩
theorem kernel_Call_put_yes (h : KerAt ok w g k css Bs) (hk : ∀ x ∈ k.threads, x.ok) (hn : n < 4) (hx64 : ¬ 64 < c.text.size) (hkd : c.kind = 3) (o : KObj) (hob : k.obj c.t c.n = some o) (hf : flowsL (k.thr n).label o.label (k.thr n).own = true) :
  Calls Try.prog 13 #[.pointer (some ⟨g, 0, none⟩), .int .i64 n, reqV c la lc ga gc] w (CallPost ok w g Bs (callK k n c)) := by
 obtain ⟨x, xa, xc, oa, oc, ba, bc, ma, mc, ex, ec, eB, hT, hb⟩ := h.open hn
 have hx := hk x (mgE ex)
 have hpre := h.preLen hn
 have hth := Ker.thr_at ex
 rcases h.object c.t c.n with ⟨e, _⟩ | ⟨m, j, y, ya, yc, qa, qc, gb, off, bc2, ma2, mc2, o2, hm, et, en, ey, ecy, eBy, hTy, hoy, hob2, HOb⟩
 ·rw [hob] at e; cases e
 rw [hob] at hob2
 cases hob2
 replace et := qh et
 replace en := qh en
 obtain ⟨pre2, cs2, post2, hb2, hpre2, ⟨la2, lc2, rfl, hlo⟩, _, _⟩ := hTy.objs.window hoy
 have HQ := qh (show ∃ q, q = off + j * 2 from ⟨_, rfl⟩)
 obtain ⟨q, hq⟩ := HQ.out
 rw [← hq] at hpre2 HOb
 replace HOb := qh HOb
 clear HQ
 replace hq := qh hq
 have hgb : g ≠ gb := fun e => h.gOut eBy (e ▸ mem_rows2.2 (.inl rfl))
 have hgbo : ¬ ok gb := h.apartAt eBy (mem_rows2.2 (.inl rfl))
 have hgbl : gb < w.heap.size := hTy.objs.lt rfl
 have ho := (hk y (mgE ey)).obj o (mgE hoy)
 have hol := goodL_len ho.1
 have hot := ho.2
 have st0 := St.hand2 hb hb2 hgb
 unfold thrC at st0
 have d1 : decide ((n : Int) < 0) = false := by simp
 have d2 : decide ((4 : Int) ≤ n) = false := by simp; omega
 have d64 := text_size hx64
 have hgg : ¬ ok g := h.apart g (by simp)
 have HKp := qh (show ∀ (W : World) (bl : Blks), St [g, gb] w W bl → Keeps ok w W from fun W bl s => s.keeps (by simpa using ⟨hgg, hgbo⟩))
 have HB := qh (show ∀ (W : World) (bl : Blks), St [g, gb] w W bl → (g, 58, winC (preC k css n) [.slice xa x.label.length xc, .slice oa x.own.length oc, .string x.text, .slice ba x.objects.length bc, .slice ma x.mails.length mc] (postC k css n)) ∈ bl → (gb, 73, winC pre2 [.slice la2 o.label.length lc2, .string o.text] post2) ∈ bl → Below w.heap.size w W from fun W bl s hm1 hm2 => st0.below2 s (by simpa using ⟨hm1, hm2⟩))
 have hxl := goodL_len hx.good; have hxo := hx.ownL; have hxm := hx.mailN; have hxb := hx.objs; have hxt := hx.text
 have st := st0
 clear st0
 unfold reqV
 have HE := qh (show callK k (n : Int) c = (k.put m { y with objects := y.objects.set j ⟨o.label, knowT x.text c.text⟩ }, errR 0) by
  have hym : k.thr (m : Int) = y := Ker.thr_at ey
  have hob3 : k.obj (m : Int) (j : Int) = some o := by rw [← et.out, ← en.out]; exact hob
  rw [hth] at hf; unfold callK; simp [hkd, hf, hth, et.out, en.out, hym, hob3, Thr.putObj, Ker.put])
 rw [hth] at hf
 have HF := qh (fun (W : World) (bl : Blks) (hW : St [g, gb] w W bl) => label_Flows (fun _ => True) W xa la2 oa xc lc2 oc x.label o.label x.own (by omega) (by omega) ((hT.label.keep (HKp.out W _ hW)).okay fun _ _ => trivial) ((hlo.keep (HKp.out W _ hW)).okay fun _ _ => trivial) ((hT.own.keep (HKp.out W _ hW)).okay fun _ _ => trivial))
 rw [hf] at HF
 have hct : c.text.size ≤ 64 := by omega
 have hsz : (x.text ++ c.text).size = x.text.size + c.text.size := ByteArray.size_append
 have HKt := qh (show knowT x.text c.text = (x.text ++ c.text).extract ((x.text ++ c.text).size - 64) (x.text ++ c.text).size from rfl)
 have hle : (x.text ++ c.text).size ≤ 2000000 := by omega
 clear hsz
 clear hob hf
 rw [hkd]
 clear hkd
 go_enter Try.func13, Try.ntmps13
 go_wp2_with (first | go_skip | (go_at_call 35; go_must (refine (HOb.out _ (HB.out _ _ st (by simp) (by simp))).mono ?_; rintro e wo ⟨rfl, rfl⟩)) | (with_reducible refine mB 40 st ?_; clear st; intro g5 w5 hg5 st) | (with_reducible refine mA st Try.zeroValue52 ?_; clear st; intro g6 w6 hg6 st) | (with_reducible refine mX st Try.isAgg9 ?_) | (with_reducible refine mX st Try.isAgg3 ?_) | (go_at_call 32; go_must (refine (call_no _ _).mono ?_; rintro e vn ⟨rfl, hbn⟩; replace st := st.call hbn; clear hbn)) | (with_reducible refine mS 3 st Try.sizeOf52 ?_; clear st; intro w7 st hw7m hw7z))
 refine det_region (by kernel_rfl) 17 rfl (fun W => St [g, gb] w W [(g, 58, winC (preC k css n) [.slice xa x.label.length xc, .slice oa x.own.length oc, .string x.text, .slice ba x.objects.length bc, .slice ma x.mails.length mc] (postC k css n)), (gb, 73, winC pre2 [.slice la2 o.label.length lc2, .string o.text] post2), (g5, 40, [.int .i64 3, .int .i64 c.h, .int .i64 c.t, .int .i64 c.n, .int .i64 c.c, .slice la c.label.length lc, .slice ga c.grants.length gc, .string c.text]), (g6, 52, [.int .i64 0, .int .i64 0, .string ⟨#[]⟩])]) (st.drew) (by decide +kernel) ?_
 refine detS 0 rfl ?_; refine detS 1 rfl ?_; refine detS 2 rfl ?_; refine detS 3 rfl ?_; refine detS 4 rfl ?_; refine detS 5 rfl ?_
 refine detT 6 rfl (fun W hW => St.run_loadW hW 0 30 _ rfl Try.isAgg30 0 hpre rfl rfl rfl) ?_
 refine detS 7 rfl ?_; refine detS 8 rfl ?_; refine detS 9 rfl ?_
 refine detT 10 rfl (fun W hW => St.run_loadW hW 1 30 _ rfl Try.isAgg30 0 hpre2 rfl rfl rfl) ?_
 refine detS 11 rfl ?_; refine detS 12 rfl ?_; refine detS 13 rfl ?_
 refine detT 14 rfl (fun W hW => St.run_loadW hW 0 31 _ rfl Try.isAgg31 1 hpre rfl rfl rfl) ?_
 refine det_call (fn := 21) 15 rfl (by decide +kernel) (by first | exact wanted_none rfl | exact wanted_some rfl rfl) (fun W => by first | (go_simp; done) | (go_simp; rfl)) (fun W hW => (HF.out W _ hW).mono fun e w' h => ⟨h.1, hW.call h.2⟩) ?_; simp only [kP, kA, kS, kZ]
 refine detS 16 rfl ?_
 refine det_done (by decide +kernel) ?_
 clear st
 intro W st
 go_wp2_with (first | go_skip | fail)
 refine det_region (by kernel_rfl) 8 rfl (fun W => St [g, gb] w W [(g, 58, winC (preC k css n) [.slice xa x.label.length xc, .slice oa x.own.length oc, .string x.text, .slice ba x.objects.length bc, .slice ma x.mails.length mc] (postC k css n)), (gb, 73, winC pre2 [.slice la2 o.label.length lc2, .string o.text] post2), (g5, 40, [.int .i64 3, .int .i64 c.h, .int .i64 c.t, .int .i64 c.n, .int .i64 c.c, .slice la c.label.length lc, .slice ga c.grants.length gc, .string c.text]), (g6, 52, [.int .i64 0, .int .i64 0, .string ⟨#[]⟩])]) (st.drew) (by decide +kernel) ?_
 refine detS 0 rfl ?_; refine detS 1 rfl ?_; refine detS 2 rfl ?_
 refine detT 3 rfl (fun W hW => St.run_loadW hW 0 9 _ rfl Try.isAgg9 2 hpre rfl rfl rfl) ?_
 refine detS 4 rfl ?_
 refine detT 5 rfl (fun W hW => St.run_load hW 2 9 _ rfl Try.isAgg9 rfl rfl rfl) ?_
 refine detT (v := .string (x.text ++ c.text)) 6 rfl (fun W hW => by (go_simp; omega)) ?_
 refine detS 7 rfl ?_
 refine det_done (by decide +kernel) ?_
 clear st
 intro W2 st
 generalize hS : x.text ++ c.text = S at *
 replace hS := qh hS
 obtain ⟨mm, hmm⟩ : ∃ mm, mm = S.size - 64 := ⟨_, rfl⟩
 have hw1 : IntKind.i64.wrap ((S.size : Int) - 64) = (S.size : Int) - 64 := IntWalk.i64_in _ (by omega)
 have hml : mm ≤ S.size := by omega
 have h64 : ((if 64 < (S.size : Int) then (S.size : Int) - 64 else 0) : Int) = (mm : Int) := by split <;> omega
 replace hmm := qh hmm
 go_wp2_with (first | go_skip | ((with_reducible refine at_store 9 ?_); refine mem_storeW st 9 _ _ rfl (wanted_none rfl) _ Try.sizeOf9 1 ?_; refine ⟨1, _, _, _, _, _, _, _, hpre2, rfl, rfl, rfl, rfl, rfl, rfl, ?_⟩; clear st; intro w8 st hw8m hw8z; simp [Act.eval, Act.put, Value.cells, putL] at st) | (go_at_call 32; go_must (refine (call_no _ _).mono ?_; rintro e vn ⟨rfl, hbn⟩; replace st := st.call hbn; clear hbn)) | (with_reducible refine mS 3 st Try.sizeOf52 ?_; clear st; intro w7 st hw7m hw7z))
 have hc := fun j => st.cell (i := 3) rfl j
 refine bodyPost_ret (v := RepV (errR 0)) ?hr rfl ?_
 case hr => simp [results, Try.results13, go_sem, hc, RepV, errR]; try rfl
 rw [HE.out]
 refine ⟨rfl, ?_⟩
 have emm : (max 0 ((S.size : Int) - 64)).toNat = mm := by have := hmm.out; omega
 rw [emm] at st
 rw [HKt.out, ← hmm.out]
 have e0 : w7.heap[g]? = w.heap[g]? := by rw [st.blk _ (mgE (i := 0) rfl), hb]; rfl
 have hbm : w.heap[g]? = some (.cells (winC (preC k css m) (thrC y ya yc qa qc (some ⟨gb, off, none⟩) bc2 ma2 mc2) (postC k css m)).toArray 58 (0, 0)) := by rw [← h.cells hm ecy]; exact h.blk
 have hokw : ∀ b, b < w.heap.size → ok b → ((ok b ∨ w.heap.size ≤ b) ∧ b ∉ g :: rows2 (some ⟨gb, off, none⟩) ma2) ∧ w7.heap[b]? = w.heap[b]? := fun b hb ho => by
  refine ⟨⟨.inl ho, fun hm => ?_⟩, (HKp.out _ _ st).block b hb ho⟩
  rcases List.mem_cons.1 hm with rfl | hm
  ·exact hgg ho
  ·exact h.apartAt eBy hm ho
 have hok2 : ∀ cs z, RObj ok w cs z → RObj (fun b => (ok b ∨ w.heap.size ≤ b) ∧ b ∉ g :: rows2 (some ⟨gb, off, none⟩) ma2) w7 cs z := fun cs z r => r.move st.size hokw
 refine h.close (made' := k.made) hm ecy eBy (cs' := thrC y ya yc qa qc (some ⟨gb, off, none⟩) bc2 ma2 mc2) (x' := { y with objects := y.objects.set j ⟨o.label, S.extract mm S.size⟩ }) (B' := rows2 (some ⟨gb, off, none⟩) ma2) (st.wider (by simp [rows2])) (by rw [e0]; exact hbm)
  ⟨ya, yc, qa, qc, some ⟨gb, off, none⟩, bc2, ma2, mc2, by simp [thrC], ⟨hTy.label.move st.size hokw fun _ _ r => r, hTy.own.move st.size hokw fun _ _ r => r, ?_, ?_⟩, rfl⟩ (flatten_nodup (List.nodup_cons.1 h.nodup).2 eBy) fun b hb => .inl hb
 ·refine hTy.objs.set (gEs hoy).1 hok2 (cs' := [.slice la2 o.label.length lc2, .string (S.extract mm S.size)]) ⟨la2, lc2, rfl, hlo.move st.size hokw fun _ _ r => r⟩ rfl (by simp [Value.oneCell']) fun cells hc => ?_
  rw [hb2] at hc
  have hcl : winC pre2 [.slice la2 o.label.length lc2, .string o.text] post2 = cells := by simpa using hc
  rw [← hcl, ← hq.out]
  have := putL_winC (pre := pre2) (win := [.slice la2 o.label.length lc2, .string o.text]) (post := post2) (j := 0) (vs := [.slice la2 o.label.length lc2, .string (S.extract mm S.size)]) hpre2 (by simp)
  rw [Nat.add_zero] at this
  rw [this]
  exact st.blk _ (mgE (i := 1) rfl)
 ·exact hTy.mails.kept (fun b e => st.frame b (hTy.mails.lt e) (by
   simp
   exact ⟨fun e2 => h.gOut eBy (e2 ▸ mem_rows2.2 (.inr e)), fun e2 => h.rowsNe eBy (b := gb) rfl (e2 ▸ e)⟩)) fun _ _ r => r.move st.size hokw
end
section
variable (ok okc : Nat → Prop) (w : World) (g : Nat) (k : Ker) (css : List (List Value)) (Bs : List (List Nat)) (n : Nat) (c : Req) (la : Option Addr) (lc : Nat) (ga : Option Addr) (gc : Nat)
theorem kernel_Call_object_bad (h : KerAt ok w g k css Bs) (hk : ∀ x ∈ k.threads, x.ok) (hn : n < 4) (hx64 : ¬ 64 < c.text.size) (hkd : c.kind = 2) (hll : c.label.length * 16 ≤ 140737488351232) (hcl : SlR okc w 2 RLev la lc c.label) (hgl : goodL c.label = false) :
  Calls Try.prog 13 #[.pointer (some ⟨g, 0, none⟩), .int .i64 n, reqV c la lc ga gc] w (CallPost ok w g Bs (callK k n c)) := by
 obtain ⟨x, xa, xc, oa, oc, ba, bc, ma, mc, ex, ec, eB, hT, hb⟩ := h.open hn
 have hx := hk x (mgE ex)
 have hpre := h.preLen hn
 have hth := Ker.thr_at ex
 have st0 := St.hand hb
 unfold thrC at st0
 have d1 : decide ((n : Int) < 0) = false := by simp
 have d2 : decide ((4 : Int) ≤ n) = false := by simp; omega
 have d64 := text_size hx64
 have hgg : ¬ ok g := h.apart g (by simp)
 have HKp := qh (show ∀ (W : World) (bl : Blks), St [g] w W bl → Keeps ok w W from fun W bl s => s.keeps (by simpa using hgg))
 have HB := qh (show ∀ (W : World) (bl : Blks), St [g] w W bl → (g, 58, winC (preC k css n) [.slice xa x.label.length xc, .slice oa x.own.length oc, .string x.text, .slice ba x.objects.length bc, .slice ma x.mails.length mc] (postC k css n)) ∈ bl → Below w.heap.size w W from fun W bl s hm => st0.below2 s (by simpa using hm))
 have hxl := goodL_len hx.good; have hxo := hx.ownL; have hxm := hx.mailN; have hxb := hx.objs; have hxt := hx.text
 have st := st0
 clear st0
 unfold reqV
 have HG := qh (fun (W : World) (hW : Below w.heap.size w W) => label_Good okc W la lc c.label (by omega) (hcl.below hW))
 have HE := qh (show callK k (n : Int) c = (k, errR 2) by unfold callK; simp [hkd, hgl])
 rw [hgl] at HG
 clear hgl
 rw [hkd]
 clear hkd
 go_enter Try.func13, Try.ntmps13
 go_wp2_with (first | go_skip | (with_reducible refine mX st Try.isAgg30 ?_) | (go_at_call 34; go_must (refine (HG.out _ (HB.out _ _ st (by simp))).mono ?_; rintro e vg ⟨rfl, hbg⟩; replace st := st.call hbg; clear hbg)) | (with_reducible refine mB 40 st ?_; clear st; intro g5 w5 hg5 st) | (with_reducible refine mA st Try.zeroValue52 ?_; clear st; intro g6 w6 hg6 st) | (with_reducible refine mX st Try.isAgg9 ?_) | (with_reducible refine mX st Try.isAgg3 ?_) | (go_at_call 32; go_must (refine (call_no _ _).mono ?_; rintro e vn ⟨rfl, hbn⟩; replace st := st.call hbn; clear hbn)) | (with_reducible refine mS 2 st Try.sizeOf52 ?_; clear st; intro w7 st hw7m hw7z) | (go_at_call 32; go_must (refine (call_no _ _).mono ?_; rintro e vn ⟨rfl, hbn⟩; replace st := st.call hbn; clear hbn)))
 have hc := fun j => st.cell (i := 2) rfl j
 refine bodyPost_ret (v := RepV (errR 2)) ?hr rfl ?_
 case hr => simp [results, Try.results13, go_sem, hc, RepV, errR]; try rfl
 rw [HE.out]
 exact ⟨rfl, KerTo.none h (HB.out _ _ st (by simp))⟩
theorem kernel_Call_object_no (h : KerAt ok w g k css Bs) (hk : ∀ x ∈ k.threads, x.ok) (hn : n < 4) (hx64 : ¬ 64 < c.text.size) (hkd : c.kind = 2) (hll : c.label.length * 16 ≤ 140737488351232) (hcl : SlR okc w 2 RLev la lc c.label) (hgl : goodL c.label = true) (hf : flowsL (k.thr n).label c.label (k.thr n).own = false) :
  Calls Try.prog 13 #[.pointer (some ⟨g, 0, none⟩), .int .i64 n, reqV c la lc ga gc] w (CallPost ok w g Bs (callK k n c)) := by
 obtain ⟨x, xa, xc, oa, oc, ba, bc, ma, mc, ex, ec, eB, hT, hb⟩ := h.open hn
 have hx := hk x (mgE ex)
 have hpre := h.preLen hn
 have hth := Ker.thr_at ex
 have st0 := St.hand hb
 unfold thrC at st0
 have d1 : decide ((n : Int) < 0) = false := by simp
 have d2 : decide ((4 : Int) ≤ n) = false := by simp; omega
 have d64 := text_size hx64
 have hgg : ¬ ok g := h.apart g (by simp)
 have HKp := qh (show ∀ (W : World) (bl : Blks), St [g] w W bl → Keeps ok w W from fun W bl s => s.keeps (by simpa using hgg))
 have HB := qh (show ∀ (W : World) (bl : Blks), St [g] w W bl → (g, 58, winC (preC k css n) [.slice xa x.label.length xc, .slice oa x.own.length oc, .string x.text, .slice ba x.objects.length bc, .slice ma x.mails.length mc] (postC k css n)) ∈ bl → Below w.heap.size w W from fun W bl s hm => st0.below2 s (by simpa using hm))
 have hxl := goodL_len hx.good; have hxo := hx.ownL; have hxm := hx.mailN; have hxb := hx.objs; have hxt := hx.text
 have st := st0
 clear st0
 unfold reqV
 have HG := qh (fun (W : World) (hW : Below w.heap.size w W) => label_Good okc W la lc c.label (by omega) (hcl.below hW))
 rw [hth] at hf
 have HE := qh (show callK k (n : Int) c = (k, errR 6) by unfold callK; simp [hkd, hgl, hth, hf])
 have hl8 := goodL_len hgl
 have HF := qh (fun (W : World) (hW : Below w.heap.size w W) => label_Flows (fun _ => True) W xa la oa xc lc oc x.label c.label x.own (by omega) (by omega) ((hT.label.below hW).okay fun _ _ => trivial) ((hcl.below hW).okay fun _ _ => trivial) ((hT.own.below hW).okay fun _ _ => trivial))
 rw [hgl] at HG
 rw [hf] at HF
 clear hgl hf
 rw [hkd]
 clear hkd
 go_enter Try.func13, Try.ntmps13
 go_wp2_with (first | go_skip | (with_reducible refine mX st Try.isAgg30 ?_) | (go_at_call 34; go_must (refine (HG.out _ (HB.out _ _ st (by simp))).mono ?_; rintro e vg ⟨rfl, hbg⟩; replace st := st.call hbg; clear hbg)) | (with_reducible refine mB 40 st ?_; clear st; intro g5 w5 hg5 st) | (with_reducible refine mA st Try.zeroValue52 ?_; clear st; intro g6 w6 hg6 st) | (with_reducible refine mX st Try.isAgg9 ?_) | (with_reducible refine mX st Try.isAgg3 ?_) | (go_at_call 32; go_must (refine (call_no _ _).mono ?_; rintro e vn ⟨rfl, hbn⟩; replace st := st.call hbn; clear hbn)) | (with_reducible refine mS 2 st Try.sizeOf52 ?_; clear st; intro w7 st hw7m hw7z))
 refine det_region (by kernel_rfl) 13 rfl (fun W => St [g] w W [(g, 58, winC (preC k css n) [.slice xa x.label.length xc, .slice oa x.own.length oc, .string x.text, .slice ba x.objects.length bc, .slice ma x.mails.length mc] (postC k css n)), (g5, 40, [.int .i64 2, .int .i64 c.h, .int .i64 c.t, .int .i64 c.n, .int .i64 c.c, .slice la c.label.length lc, .slice ga c.grants.length gc, .string c.text]), (g6, 52, [.int .i64 0, .int .i64 0, .string ⟨#[]⟩])]) (st.drew) (by decide +kernel) ?_
 refine detS 0 rfl ?_; refine detS 1 rfl ?_; refine detS 2 rfl ?_
 refine detT 3 rfl (fun W hW => St.run_loadW hW 0 30 _ rfl Try.isAgg30 0 hpre rfl rfl rfl) ?_
 refine detS 4 rfl ?_
 refine detT 5 rfl (fun W hW => St.run_load hW 1 30 _ rfl Try.isAgg30 rfl rfl rfl) ?_
 refine detS 6 rfl ?_; refine detS 7 rfl ?_; refine detS 8 rfl ?_
 refine detT 9 rfl (fun W hW => St.run_loadW hW 0 31 _ rfl Try.isAgg31 1 hpre rfl rfl rfl) ?_
 refine det_call (fn := 21) 10 rfl (by decide +kernel) (by first | exact wanted_none rfl | exact wanted_some rfl rfl) (fun W => by first | (go_simp; done) | (go_simp; rfl)) (fun W hW => (HF.out W (HB.out W _ hW (by simp))).mono fun e w' h => ⟨h.1, hW.call h.2⟩) ?_; simp only [kP, kA, kS, kZ]
 refine detS 11 rfl ?_; refine detS 12 rfl ?_
 refine det_done (by decide +kernel) ?_
 clear st
 intro W st
 go_wp2_with (first | go_skip | (go_at_call 32; go_must (refine (call_no _ _).mono ?_; rintro e vn ⟨rfl, hbn⟩; replace st := st.call hbn; clear hbn)) | (with_reducible refine mS 2 st Try.sizeOf52 ?_; clear st; intro w7 st hw7m hw7z))
 have hc := fun j => st.cell (i := 2) rfl j
 refine bodyPost_ret (v := RepV (errR 6)) ?hr rfl ?_
 case hr => simp [results, Try.results13, go_sem, hc, RepV, errR]; try rfl
 rw [HE.out]
 exact ⟨rfl, KerTo.none h (HB.out _ _ st (by simp))⟩
theorem kernel_Call_object_full (h : KerAt ok w g k css Bs) (hk : ∀ x ∈ k.threads, x.ok) (hn : n < 4) (hx64 : ¬ 64 < c.text.size) (hkd : c.kind = 2) (hll : c.label.length * 16 ≤ 140737488351232) (hcl : SlR okc w 2 RLev la lc c.label) (hgl : goodL c.label = true) (hf : flowsL (k.thr n).label c.label (k.thr n).own = true) (h4 : 4 ≤ (k.thr n).objects.length) :
  Calls Try.prog 13 #[.pointer (some ⟨g, 0, none⟩), .int .i64 n, reqV c la lc ga gc] w (CallPost ok w g Bs (callK k n c)) := by
 obtain ⟨x, xa, xc, oa, oc, ba, bc, ma, mc, ex, ec, eB, hT, hb⟩ := h.open hn
 have hx := hk x (mgE ex)
 have hpre := h.preLen hn
 have hth := Ker.thr_at ex
 have st0 := St.hand hb
 unfold thrC at st0
 have d1 : decide ((n : Int) < 0) = false := by simp
 have d2 : decide ((4 : Int) ≤ n) = false := by simp; omega
 have d64 := text_size hx64
 have hgg : ¬ ok g := h.apart g (by simp)
 have HKp := qh (show ∀ (W : World) (bl : Blks), St [g] w W bl → Keeps ok w W from fun W bl s => s.keeps (by simpa using hgg))
 have HB := qh (show ∀ (W : World) (bl : Blks), St [g] w W bl → (g, 58, winC (preC k css n) [.slice xa x.label.length xc, .slice oa x.own.length oc, .string x.text, .slice ba x.objects.length bc, .slice ma x.mails.length mc] (postC k css n)) ∈ bl → Below w.heap.size w W from fun W bl s hm => st0.below2 s (by simpa using hm))
 have hxl := goodL_len hx.good; have hxo := hx.ownL; have hxm := hx.mailN; have hxb := hx.objs; have hxt := hx.text
 have st := st0
 clear st0
 unfold reqV
 have HG := qh (fun (W : World) (hW : Below w.heap.size w W) => label_Good okc W la lc c.label (by omega) (hcl.below hW))
 rw [hth] at hf h4
 have HE := qh (show callK k (n : Int) c = (k, errR 5) by unfold callK; simp [hkd, hgl, hth, hf, h4])
 have d4 : decide ((4 : Int) ≤ x.objects.length) = true := by simp; omega
 have hl8 := goodL_len hgl
 have HF := qh (fun (W : World) (hW : Below w.heap.size w W) => label_Flows (fun _ => True) W xa la oa xc lc oc x.label c.label x.own (by omega) (by omega) ((hT.label.below hW).okay fun _ _ => trivial) ((hcl.below hW).okay fun _ _ => trivial) ((hT.own.below hW).okay fun _ _ => trivial))
 rw [hgl] at HG
 rw [hf] at HF
 clear hgl hf
 rw [hkd]
 clear hkd
 go_enter Try.func13, Try.ntmps13
 go_wp2_with (first | go_skip | (with_reducible refine mX st Try.isAgg30 ?_) | (go_at_call 34; go_must (refine (HG.out _ (HB.out _ _ st (by simp))).mono ?_; rintro e vg ⟨rfl, hbg⟩; replace st := st.call hbg; clear hbg)) | (with_reducible refine mB 40 st ?_; clear st; intro g5 w5 hg5 st) | (with_reducible refine mA st Try.zeroValue52 ?_; clear st; intro g6 w6 hg6 st) | (with_reducible refine mX st Try.isAgg9 ?_) | (with_reducible refine mX st Try.isAgg3 ?_) | (go_at_call 32; go_must (refine (call_no _ _).mono ?_; rintro e vn ⟨rfl, hbn⟩; replace st := st.call hbn; clear hbn)) | (with_reducible refine mS 2 st Try.sizeOf52 ?_; clear st; intro w7 st hw7m hw7z))
 refine det_region (by kernel_rfl) 13 rfl (fun W => St [g] w W [(g, 58, winC (preC k css n) [.slice xa x.label.length xc, .slice oa x.own.length oc, .string x.text, .slice ba x.objects.length bc, .slice ma x.mails.length mc] (postC k css n)), (g5, 40, [.int .i64 2, .int .i64 c.h, .int .i64 c.t, .int .i64 c.n, .int .i64 c.c, .slice la c.label.length lc, .slice ga c.grants.length gc, .string c.text]), (g6, 52, [.int .i64 0, .int .i64 0, .string ⟨#[]⟩])]) (st.drew) (by decide +kernel) ?_
 refine detS 0 rfl ?_; refine detS 1 rfl ?_; refine detS 2 rfl ?_
 refine detT 3 rfl (fun W hW => St.run_loadW hW 0 30 _ rfl Try.isAgg30 0 hpre rfl rfl rfl) ?_
 refine detS 4 rfl ?_
 refine detT 5 rfl (fun W hW => St.run_load hW 1 30 _ rfl Try.isAgg30 rfl rfl rfl) ?_
 refine detS 6 rfl ?_; refine detS 7 rfl ?_; refine detS 8 rfl ?_
 refine detT 9 rfl (fun W hW => St.run_loadW hW 0 31 _ rfl Try.isAgg31 1 hpre rfl rfl rfl) ?_
 refine det_call (fn := 21) 10 rfl (by decide +kernel) (by first | exact wanted_none rfl | exact wanted_some rfl rfl) (fun W => by first | (go_simp; done) | (go_simp; rfl)) (fun W hW => (HF.out W (HB.out W _ hW (by simp))).mono fun e w' h => ⟨h.1, hW.call h.2⟩) ?_; simp only [kP, kA, kS, kZ]
 refine detS 11 rfl ?_; refine detS 12 rfl ?_
 refine det_done (by decide +kernel) ?_
 clear st
 intro W st
 go_wp2_with (first | go_skip | (with_reducible refine at_load 32 ?_; (first | refine mem_loadW st 32 _ rfl (wanted_none rfl) Try.isAgg32 3 ?_ | (refine mem_loadW st 32 _ rfl (wanted_some rfl ?_) Try.isAgg32 3 ?_; focus (simp [yielded, Act.put]; done))); refine ⟨0, _, _, _, _, _, _, _, hpre, rfl, rfl, rfl, ?_⟩) | (go_at_call 32; go_must (refine (call_no _ _).mono ?_; rintro e vn ⟨rfl, hbn⟩; replace st := st.call hbn; clear hbn)) | (with_reducible refine mS 2 st Try.sizeOf52 ?_; clear st; intro w7 st hw7m hw7z))
 have hc := fun j => st.cell (i := 2) rfl j
 refine bodyPost_ret (v := RepV (errR 5)) ?hr rfl ?_
 case hr => simp [results, Try.results13, go_sem, hc, RepV, errR]; try rfl
 rw [HE.out]
 exact ⟨rfl, KerTo.none h (HB.out _ _ st (by simp))⟩
end
section
variable (ok okc : Nat → Prop) (w : World) (g : Nat) (k : Ker) (css : List (List Value)) (Bs : List (List Nat)) (n : Nat) (c : Req) (la : Option Addr) (lc : Nat) (ga : Option Addr) (gc : Nat)
theorem info_Object : (Try.prog.info? 73).map (fun i => (i.zero, i.size, i.bytes)) = some (some (.agg #[.slice none 0 0, .string .empty]), 2, 40) := by kernel_rfl
theorem kernel_Call_object_yes (h : KerAt ok w g k css Bs) (hk : ∀ x ∈ k.threads, x.ok) (hn : n < 4) (hx64 : ¬ 64 < c.text.size) (hkd : c.kind = 2) (hll : c.label.length * 16 ≤ 140737488351232) (hcl : SlR okc w 2 RLev la lc c.label) (hgl : goodL c.label = true) (hf : flowsL (k.thr n).label c.label (k.thr n).own = true) (h4 : (k.thr n).objects.length < 4) :
  Calls Try.prog 13 #[.pointer (some ⟨g, 0, none⟩), .int .i64 n, reqV c la lc ga gc] w (CallPost ok w g Bs (callK k n c)) := by
 obtain ⟨x, xa, xc, oa, oc, ba, bc, ma, mc, ex, ec, eB, hT, hb⟩ := h.open hn
 have hx := hk x (mgE ex)
 have hpre := h.preLen hn
 have hth := Ker.thr_at ex
 have st0 := St.hand hb
 unfold thrC at st0
 have d1 : decide ((n : Int) < 0) = false := by simp
 have d2 : decide ((4 : Int) ≤ n) = false := by simp; omega
 have d64 := text_size hx64
 have hgg : ¬ ok g := h.apart g (by simp)
 have HKp := qh (show ∀ (W : World) (bl : Blks), St [g] w W bl → Keeps ok w W from fun W bl s => s.keeps (by simpa using hgg))
 have HB := qh (show ∀ (W : World) (bl : Blks), St [g] w W bl → (g, 58, winC (preC k css n) [.slice xa x.label.length xc, .slice oa x.own.length oc, .string x.text, .slice ba x.objects.length bc, .slice ma x.mails.length mc] (postC k css n)) ∈ bl → Below w.heap.size w W from fun W bl s hm => st0.below2 s (by simpa using hm))
 have hxl := goodL_len hx.good; have hxo := hx.ownL; have hxm := hx.mailN; have hxb := hx.objs; have hxt := hx.text
 have st := st0
 clear st0
 unfold reqV
 have HG := qh (fun (W : World) (hW : Below w.heap.size w W) => label_Good okc W la lc c.label (by omega) (hcl.below hW))
 rw [hth] at hf h4
 have HE := qh (show callK k (n : Int) c = (k.put n { x with objects := x.objects ++ [⟨c.label, ⟨#[]⟩⟩] }, ⟨0, x.objects.length, ⟨#[]⟩⟩) by unfold callK; simp [hkd, hgl, hth, hf, show ¬ 4 ≤ x.objects.length by omega])
 have d4 : decide ((4 : Int) ≤ x.objects.length) = false := by simp; omega
 have HLv := qh (fun (W : World) (hW : Below w.heap.size w W) => kernel_levels okc W la lc c.label (by omega) (hcl.below hW))
 have hl8 := goodL_len hgl
 have HF := qh (fun (W : World) (hW : Below w.heap.size w W) => label_Flows (fun _ => True) W xa la oa xc lc oc x.label c.label x.own (by omega) (by omega) ((hT.label.below hW).okay fun _ _ => trivial) ((hcl.below hW).okay fun _ _ => trivial) ((hT.own.below hW).okay fun _ _ => trivial))
 rw [hgl] at HG
 rw [hf] at HF
 clear hgl hf
 rw [hkd]
 clear hkd
 go_enter Try.func13, Try.ntmps13
 go_wp2_with (first | go_skip | (with_reducible refine mX st Try.isAgg30 ?_) | (go_at_call 34; go_must (refine (HG.out _ (HB.out _ _ st (by simp))).mono ?_; rintro e vg ⟨rfl, hbg⟩; replace st := st.call hbg; clear hbg)) | (with_reducible refine mB 40 st ?_; clear st; intro g5 w5 hg5 st) | (with_reducible refine mA st Try.zeroValue52 ?_; clear st; intro g6 w6 hg6 st) | (with_reducible refine mX st Try.isAgg9 ?_) | (with_reducible refine mX st Try.isAgg3 ?_) | (go_at_call 32; go_must (refine (call_no _ _).mono ?_; rintro e vn ⟨rfl, hbn⟩; replace st := st.call hbn; clear hbn)) | (with_reducible refine mS 2 st Try.sizeOf52 ?_; clear st; intro w7 st hw7m hw7z))
 refine det_region (by kernel_rfl) 13 rfl (fun W => St [g] w W [(g, 58, winC (preC k css n) [.slice xa x.label.length xc, .slice oa x.own.length oc, .string x.text, .slice ba x.objects.length bc, .slice ma x.mails.length mc] (postC k css n)), (g5, 40, [.int .i64 2, .int .i64 c.h, .int .i64 c.t, .int .i64 c.n, .int .i64 c.c, .slice la c.label.length lc, .slice ga c.grants.length gc, .string c.text]), (g6, 52, [.int .i64 0, .int .i64 0, .string ⟨#[]⟩])]) (st.drew) (by decide +kernel) ?_
 refine detS 0 rfl ?_; refine detS 1 rfl ?_; refine detS 2 rfl ?_
 refine detT 3 rfl (fun W hW => St.run_loadW hW 0 30 _ rfl Try.isAgg30 0 hpre rfl rfl rfl) ?_
 refine detS 4 rfl ?_
 refine detT 5 rfl (fun W hW => St.run_load hW 1 30 _ rfl Try.isAgg30 rfl rfl rfl) ?_
 refine detS 6 rfl ?_; refine detS 7 rfl ?_; refine detS 8 rfl ?_
 refine detT 9 rfl (fun W hW => St.run_loadW hW 0 31 _ rfl Try.isAgg31 1 hpre rfl rfl rfl) ?_
 refine det_call (fn := 21) 10 rfl (by decide +kernel) (by first | exact wanted_none rfl | exact wanted_some rfl rfl) (fun W => by first | (go_simp; done) | (go_simp; rfl)) (fun W hW => (HF.out W (HB.out W _ hW (by simp))).mono fun e w' h => ⟨h.1, hW.call h.2⟩) ?_; simp only [kP, kA, kS, kZ]
 refine detS 11 rfl ?_; refine detS 12 rfl ?_
 refine det_done (by decide +kernel) ?_
 clear st
 intro W st
 go_wp2_with (first | go_skip | (with_reducible refine at_load 32 ?_; (first | refine mem_loadW st 32 _ rfl (wanted_none rfl) Try.isAgg32 3 ?_ | (refine mem_loadW st 32 _ rfl (wanted_some rfl ?_) Try.isAgg32 3 ?_; focus (simp [yielded, Act.put]; done))); refine ⟨0, _, _, _, _, _, _, _, hpre, rfl, rfl, rfl, ?_⟩))
 obtain ⟨i0, hi, hz0, hz1, hz2⟩ := info_parts info_Object
 have hbne : ba.map (·.block) ≠ some g := fun e => h.gOut eB (mem_rows2.2 (.inl e))
 have hMg : ∀ b, ba.map (·.block) = some b → b < w.heap.size ∧ ¬ ok b := fun b e => ⟨hT.objs.lt e, h.apartAt eB (mem_rows2.2 (.inl e))⟩
 have hBg : ∀ b, ma.map (·.block) = some b → b < w.heap.size ∧ ¬ ok b ∧ b ≠ g ∧ ba.map (·.block) ≠ some b := fun b e => ⟨hT.mails.lt e, h.apartAt eB (mem_rows2.2 (.inr e)), fun e2 => h.gOut eB (e2 ▸ mem_rows2.2 (.inr e)), fun e2 => h.rowsNe eB e2 e⟩
 have hgw := h.lt g (by simp)
 have hg5w : w.heap.size ≤ g5 := hg5
 have hg6w : w.heap.size ≤ g6 := hg6
 have st := st.drew
 have hI := st.wider (M' := g :: rows2 ba ma) (by simp)
 refine lex_tail (by kernel_rfl) 13 1 [13] rfl (by decide +kernel) (fun W => St (g :: rows2 ba ma) w W [(g, 58, winC (preC k css n) [.slice xa x.label.length xc, .slice oa x.own.length oc, .string x.text, .slice ba x.objects.length bc, .slice ma x.mails.length mc] (postC k css n)), (g5, 40, [.int .i64 2, .int .i64 c.h, .int .i64 c.t, .int .i64 c.n, .int .i64 c.c, .slice la c.label.length lc, .slice ga c.grants.length gc, .string c.text]), (g6, 52, [.int .i64 0, .int .i64 0, .string ⟨#[]⟩])]) ?_
 refine lexS 0 rfl hI ?_
 refine lexS 1 rfl hI ?_
 refine lexS 2 rfl hI ?_
 refine lexS 3 rfl hI ?_
 refine lexT 4 rfl hI (fun W hW => St.run_loadW hW 0 32 _ rfl Try.isAgg32 3 hpre rfl rfl rfl) ?_
 refine lexS 5 rfl hI ?_
 refine lexT 6 rfl hI (fun W hW => St.run_load hW 1 30 _ rfl Try.isAgg30 rfl rfl rfl) ?_
 clear hI
 have hl5 := st.ltAt (i := 1) rfl
 have hl6 := st.ltAt (i := 2) rfl
 have hzb := st.size
 refine lexO 7 rfl fun K hK => ?_
 refine wp_callee (f := 17) (by first | (go_simp; done) | (go_simp; rfl)) ?_
 refine (HLv.out _ (HB.out _ _ st (by simp))).mono ?_
 rintro e v ⟨a1, k1, rfl, hbm, hM⟩
 have hzv := st.size
 refine ⟨_, rfl, ?_⟩
 replace st := st.call hbm
 clear hbm
 refine hK _ _ (st.wider (by simp)) ?_; clear hK; simp only [kP, kA, kS, kZ]
 have hI := st.wider (M' := g :: rows2 ba ma) (by simp)
 refine lexS 8 rfl hI ?_
 clear hI
 refine lexO 9 rfl fun K hK => ?_
 refine wp_build1 st 32 73 _ rfl Try.underlying32 2 Try.sizeOf73 (by decide) (by decide) _ Try.zeroValue73 _ rfl rfl ?_; clear st; intro g3 w3 hg3 hg3e st hg3b hw3z; clear hg3e; simp [Act.eval, Act.put, Value.cells, putL] at st
 have hM3 := hM.below hg3b
 clear hg3b hw3z
 refine hK _ _ ((st.take 3).wider (by simp)) ?_; clear hK; simp only [kP, kA, kS, kZ]
 refine lexO 10 rfl fun K hK => ?_
 have hO : RowAt 73 w3 2 (RObj (fun b => (ok b ∧ b < w.heap.size) ∨ (w.heap.size ≤ b ∧ b ≠ g6)) w3) ba bc x.objects := hT.objs.kept (fun b e => st.frame b (hMg b e).1 (by simp; rintro rfl; exact hbne e)) fun _ _ r => r.move st.size fun b hb' ho => ⟨.inl ⟨ho, hb'⟩, (HKp.out _ _ st).block b hb' ho⟩
 refine wp_rowApp _ _ 32 rfl i0 _ 40 Try.underlying32 hi hz0 hz1 hz2 rfl (by decide) (y := (⟨c.label, ⟨#[]⟩⟩ : KObj)) rfl rfl hO rfl (SlR.ofBlk (ok := fun _ => True) (R := RObj (fun b => (ok b ∧ b < w.heap.size) ∨ (w.heap.size ≤ b ∧ b ≠ g6)) w3) (x := (⟨c.label, ⟨#[]⟩⟩ : KObj)) (st.blk _ (mgE (i := 3) rfl)) ⟨a1, k1, rfl, hM3.slr (fun b hb => .inr ⟨by omega, by omega⟩)⟩ rfl rfl trivial) (by omega) (by unfold maxLen; omega) ?_
 intro g4 off4 c4 w4 hO4 hgr hat
 have hst3 := st
 replace st := ((st.take 3).grown hgr (by
  intro y hy e
  simp at hy
  rcases hy with rfl | rfl | rfl
  ·exact hbne e
  ·have := (hMg _ e).1; simp only at this; omega
  ·have := (hMg _ e).1; simp only at this; omega)).wider (M' := g :: rows2 ba ma) (by
  intro b hb
  simp only [List.mem_append, Option.mem_toList, List.mem_singleton] at hb
  rcases hb with hb | rfl
  ·exact List.mem_cons_of_mem _ (mem_rows2.2 (.inl hb))
  ·simp)
 simp only [List.take_succ_cons, List.take_zero] at st
 have hI := st
 refine hK _ _ (hI) ?_; clear hK; simp only [kP, kA, kS, kZ]
 refine lexS 11 rfl hI ?_
 refine lexS 12 rfl hI ?_
 clear hI
 refine lex_done (by decide +kernel) ?_
 refine tail_last 13 rfl (by first | exact wanted_none rfl | exact wanted_some rfl rfl) (by decide +kernel) (by decide +kernel) fun K hK => ?_
 refine wp_storeW st 32 _ _ rfl _ Try.sizeOf32 3 ?_; refine ⟨0, _, _, _, _, _, _, _, hpre, rfl, rfl, rfl, rfl, rfl, rfl, ?_⟩; clear st; intro w5 st hw5m hw5z; simp [Act.eval, Act.put, Value.cells, putL] at st
 refine hK _ _ ?_; clear hK
 have ew : IntKind.i64.wrap ((x.objects.length : Int) + 1 - 1) = (x.objects.length : Int) := by rw [Int.add_sub_cancel]; exact IntWalk.i64_in _ (by omega)
 go_wp2_with (first | go_skip | (with_reducible refine at_load 32 ?_; (first | refine mem_loadW st 32 _ rfl (wanted_none rfl) Try.isAgg32 3 ?_ | (refine mem_loadW st 32 _ rfl (wanted_some rfl ?_) Try.isAgg32 3 ?_; focus (simp [yielded, Act.put]; done))); refine ⟨0, _, _, _, _, _, _, _, hpre, rfl, rfl, rfl, ?_⟩) | (with_reducible refine mS 2 st Try.sizeOf52 ?_; clear st; intro w7 st hw7m hw7z))
 have hc := fun j => st.cell (i := 2) rfl j
 refine bodyPost_ret (v := RepV (⟨0, x.objects.length, ⟨#[]⟩⟩)) ?hr rfl ?_
 case hr => simp [results, Try.results13, go_sem, hc, RepV, errR]; try rfl
 rw [HE.out]
 refine ⟨rfl, ?_⟩
 have hz3 := hst3.size
 have hch : ∀ b, b < w3.heap.size → b ≠ g → b ≠ g6 → ba.map (·.block) ≠ some b → w7.heap[b]? = w3.heap[b]? := fun b hb h1 h3 h2 => (hw7m b h3).trans ((hw5m b h1).trans (hgr.block b hb fun e => h2 e.symm))
 have hcw : ∀ b, b < w.heap.size → b ≠ g → ba.map (·.block) ≠ some b → w7.heap[b]? = w.heap[b]? := fun b hb h1 h2 => (hch b (by omega) h1 (by omega) h2).trans (hst3.frame b hb (by simpa using h1))
 have hg4 : ∀ b, b < w3.heap.size → ((ok b ∧ b < w.heap.size) ∨ (w.heap.size ≤ b ∧ b ≠ g6)) → b ≠ g4 := fun b hb ho e => by
  subst e
  rcases hat with hat | hat
  ·rcases ho with ho | ho
   ·exact (hMg _ hat).2 ho.1
   ·have := (hMg _ hat).1; omega
  ·omega
 have hok : ∀ b, b < w3.heap.size → ((ok b ∧ b < w.heap.size) ∨ (w.heap.size ≤ b ∧ b ≠ g6)) → ((ok b ∨ w.heap.size ≤ b) ∧ b ∉ g :: rows2 (some ⟨g4, off4, none⟩) ma) ∧ w7.heap[b]? = w3.heap[b]? := fun b hb ho => by
  have h1 : b ≠ g := by
   rintro rfl
   rcases ho with ho | ho
   ·exact hgg ho.1
   ·omega
  have h6 : b ≠ g6 := by
   rintro rfl
   rcases ho with ho | ho
   ·have := ho.2; omega
   ·exact ho.2 rfl
  refine ⟨⟨ho.imp (fun h => h.1) fun h => h.1, fun hm => ?_⟩, hch b hb h1 h6 fun e => ?_⟩
  ·rcases List.mem_cons.1 hm with hm | hm
   ·exact h1 hm
   ·rcases mem_rows2.1 hm with hm | hm
    ·exact hg4 b hb ho (Option.some.inj hm).symm
    ·obtain ⟨q1, q2, _⟩ := hBg b hm
     rcases ho with ho | ho
     ·exact q2 ho.1
     ·omega
  ·obtain ⟨q1, q2⟩ := hMg b e
   rcases ho with ho | ho
   ·exact q2 ho.1
   ·omega
 have hokw : ∀ b, b < w.heap.size → ok b → ((ok b ∨ w.heap.size ≤ b) ∧ b ∉ g :: rows2 (some ⟨g4, off4, none⟩) ma) ∧ w7.heap[b]? = w.heap[b]? := fun b hb ho => by
  obtain ⟨q1, q2⟩ := hok b (by omega) (.inl ⟨ho, hb⟩)
  exact ⟨q1, q2.trans ((HKp.out _ _ hst3).block b hb ho)⟩
 have hne4 : g4 ≠ g := by
  rintro rfl
  rcases hat with hat | hat
  ·exact hbne hat
  ·omega
 have hl36 := hst3.ltAt (i := 2) rfl
 have hne46 : g4 ≠ g6 := by
  rintro rfl
  rcases hat with hat | hat
  ·have := (hMg _ hat).1; omega
  ·omega
 refine h.close (made' := k.made) hn ec eB st (st.blk _ (mgE (i := 0) rfl)) (x' := { x with objects := x.objects ++ [⟨c.label, ⟨#[]⟩⟩] }) (B' := rows2 (some ⟨g4, off4, none⟩) ma)
  ⟨xa, xc, oa, oc, some ⟨g4, off4, none⟩, c4, ma, mc, by simp [thrC], ⟨hT.label.move st.size hokw fun _ _ r => r, hT.own.move st.size hokw fun _ _ r => r,
   hO4.kept (fun b e => by obtain rfl : g4 = b := Option.some.inj e; exact (hw7m _ hne46).trans (hw5m _ hne4)) fun _ _ r => r.move (by have := hgr.size; omega) hok, hT.mails.kept (fun b e => hcw b (hBg b e).1 (hBg b e).2.2.1 (hBg b e).2.2.2) fun _ _ r => r.move st.size hokw⟩, rfl⟩ ?_ ?_
 ·unfold rows2
  cases hma : ma with
  | none => simp
  | some ad =>
   simp only [Option.map_some, Option.toList_some, List.cons_append, List.nil_append, List.nodup_cons, List.mem_singleton, List.not_mem_nil, not_false_eq_true, List.nodup_nil, and_true]
   intro e
   obtain ⟨q1, _, _, q4⟩ := hBg ad.block (by rw [hma]; rfl)
   rcases hat with hat | hat
   ·exact q4 (by rw [hat, e])
   ·omega
 ·intro b hb
  rcases mem_rows2.1 hb with hb | hb
  ·obtain rfl : g4 = b := Option.some.inj hb
   rcases hat with hat | hat
   ·exact .inl (mem_rows2.2 (.inl hat))
   ·exact .inr (by omega)
  ·exact .inl (mem_rows2.2 (.inr hb))
end
section
variable (ok okc : Nat → Prop) (w : World) (g : Nat) (k : Ker) (css : List (List Value)) (Bs : List (List Nat)) (n : Nat) (c : Req) (la : Option Addr) (lc : Nat) (ga : Option Addr) (gc : Nat)
theorem kernel_Call_out (h : KerAt ok w g k css Bs) (t : Int) (h4 : four t = false) :
  Calls Try.prog 13 #[.pointer (some ⟨g, 0, none⟩), .int .i64 t, reqV c la lc ga gc] w (CallPost ok w g Bs (k, errR 4)) := by
 have st := St.start w
 unfold reqV
 rcases four_no h4 with d | ⟨d0, d⟩
 all_goals
  clear h4
  go_enter Try.func13, Try.ntmps13
  go_wp2_with (first | go_skip | (with_reducible refine mB 40 st ?_; clear st; intro g5 w5 hg5 st) | (with_reducible refine mA st Try.zeroValue52 ?_; clear st; intro g6 w6 hg6 st) | (go_at_call 32; go_must (refine (call_no _ _).mono ?_; rintro e vn ⟨rfl, hbn⟩; replace st := st.call hbn; clear hbn)) | (with_reducible refine mS 1 st Try.sizeOf52 ?_; clear st; intro w7 st hw7m hw7z))
  have hc := fun j => st.cell (i := 1) rfl j
  refine bodyPost_ret (v := RepV (errR 4)) ?hr rfl ⟨rfl, KerTo.none h st.below⟩
  case hr => simp [results, Try.results13, go_sem, hc, RepV, errR]; try rfl
theorem kernel_Call_long (h : KerAt ok w g k css Bs) (hn : n < 4) (hx64 : 64 < c.text.size) :
  Calls Try.prog 13 #[.pointer (some ⟨g, 0, none⟩), .int .i64 n, reqV c la lc ga gc] w (CallPost ok w g Bs (k, errR 9)) := by
 have d1 : decide ((n : Int) < 0) = false := by simp
 have d2 : decide ((4 : Int) ≤ n) = false := by simp; omega
 have d64 : decide (64 < (c.text.size : Int)) = true := by simp; omega
 have st := St.start w
 unfold reqV
 go_enter Try.func13, Try.ntmps13
 go_wp2_with (first | go_skip | (with_reducible refine mB 40 st ?_; clear st; intro g5 w5 hg5 st) | (with_reducible refine mA st Try.zeroValue52 ?_; clear st; intro g6 w6 hg6 st) | (with_reducible refine mX st Try.isAgg9 ?_) | (go_at_call 32; go_must (refine (call_no _ _).mono ?_; rintro e vn ⟨rfl, hbn⟩; replace st := st.call hbn; clear hbn)) | (with_reducible refine mS 1 st Try.sizeOf52 ?_; clear st; intro w7 st hw7m hw7z))
 have hc := fun j => st.cell (i := 1) rfl j
 refine bodyPost_ret (v := RepV (errR 9)) ?hr rfl ⟨rfl, KerTo.none h st.below⟩
 case hr => simp [results, Try.results13, go_sem, hc, RepV, errR]; try rfl
theorem kernel_Call (h : KerAt ok w g k css Bs) (hk : k.ok) (t : Int) (hll : c.label.length * 16 ≤ 140737488351232) (hcl : SlR okc w 2 RLev la lc c.label) :
  Calls Try.prog 13 #[.pointer (some ⟨g, 0, none⟩), .int .i64 t, reqV c la lc ga gc] w (CallPost ok w g Bs (stepC k t c)) := by
 unfold stepC
 by_cases h4 : four t = false
 ·rw [if_pos h4]; exact kernel_Call_out ok w g k css Bs c la lc ga gc h t h4
 rw [if_neg h4]
 obtain ⟨n, rfl, hn⟩ := four_nat (by simpa using h4 : four t = true)
 by_cases h64 : 64 < c.text.size
 ·rw [if_pos h64]; exact kernel_Call_long ok w g k css Bs n c la lc ga gc h hn h64
 rw [if_neg h64]
 have ht := hk.thr
 by_cases k1 : c.kind = 1
 ·by_cases hf : 20 ≤ k.made
  ·exact kernel_Call_cat_full ok w g k css Bs n c la lc ga gc h ht hn h64 k1 hk.host.1 hk.host.2 hk.made.1 hk.made.2 hf
  ·by_cases ho : (ownC (k.thr n).own (k.host * 20 + k.made)).2 = 0
   ·exact kernel_Call_cat ok w g k css Bs n c la lc ga gc h ht hn h64 k1 hk.host.1 hk.host.2 hk.made.1 hk.made.2 (by omega) ho
   ·exact kernel_Call_cat_room ok w g k css Bs n c la lc ga gc h ht hn h64 k1 hk.host.1 hk.host.2 hk.made.1 hk.made.2 (by omega) ho
 by_cases k2 : c.kind = 2
 ·by_cases hg : goodL c.label = true
  ·by_cases hf : flowsL (k.thr n).label c.label (k.thr n).own = true
   ·by_cases h5 : (k.thr n).objects.length < 4
    ·exact kernel_Call_object_yes ok okc w g k css Bs n c la lc ga gc h ht hn h64 k2 hll hcl hg hf h5
    ·exact kernel_Call_object_full ok okc w g k css Bs n c la lc ga gc h ht hn h64 k2 hll hcl hg hf (by omega)
   ·exact kernel_Call_object_no ok okc w g k css Bs n c la lc ga gc h ht hn h64 k2 hll hcl hg (by simpa using hf)
  ·exact kernel_Call_object_bad ok okc w g k css Bs n c la lc ga gc h ht hn h64 k2 hll hcl (by simpa using hg)
 by_cases k3 : c.kind = 3
 ·cases ho : k.obj c.t c.n with
  | none => exact kernel_Call_put_none ok w g k css Bs n c la lc ga gc h ht hn h64 k3 ho
  | some o =>
   by_cases hf : flowsL (k.thr n).label o.label (k.thr n).own = true
   ·exact kernel_Call_put_yes ok w g k css Bs n c la lc ga gc h ht hn h64 k3 o ho hf
   ·exact kernel_Call_put_no ok w g k css Bs n c la lc ga gc h ht hn h64 k3 o ho (by simpa using hf)
 by_cases k4 : c.kind = 4
 ·cases ho : k.obj c.t c.n with
  | none => exact kernel_Call_get_none ok w g k css Bs n c la lc ga gc h ht hn h64 k4 ho
  | some o =>
   by_cases hf : flowsL o.label (k.thr n).label (k.thr n).own = true
   ·exact kernel_Call_get_yes ok w g k css Bs n c la lc ga gc h ht hn h64 k4 o ho hf
   ·exact kernel_Call_get_no ok w g k css Bs n c la lc ga gc h ht hn h64 k4 o ho (by simpa using hf)
 by_cases k5 : c.kind = 5
 ·by_cases he : (setR (k.thr n).label c.c c.n).2 = 0
  ·by_cases hf : flowsL (k.thr n).label (setR (k.thr n).label c.c c.n).1 (k.thr n).own = true
   ·exact kernel_Call_level_yes ok w g k css Bs n c la lc ga gc h ht hn h64 k5 he hf
   ·exact kernel_Call_level_low ok w g k css Bs n c la lc ga gc h ht hn h64 k5 he (by simpa using hf)
  ·exact kernel_Call_level_no ok w g k css Bs n c la lc ga gc h ht hn h64 k5 he
 by_cases k7 : c.kind = 7
 ·exact kernel_Call_take ok w g k css Bs n c la lc ga gc h ht hn h64 k7
 by_cases k9 : c.kind = 9
 ·exact kernel_Call_forget ok w g k css Bs n c la lc ga gc h ht hn h64 k9
 by_cases k10 : c.kind = 10
 ·exact kernel_Call_say ok w g k css Bs n c la lc ga gc h ht hn h64 k10
 exact kernel_Call_other ok w g k css Bs n c la lc ga gc h ht hn h64 ⟨k1, k2, k3, k4, k5, k7, k9, k10⟩
end
def PairR (w0 : World) (own : Blks) (ga gb : Nat) (ka kb : Ker) (W : World) : Prop := St [] w0 W own ∧ ka.ok ∧ kb.ok ∧
 ∃ oka cssa Bsa okb cssb Bsb, KerAt oka W ga ka cssa Bsa ∧ RkAt okb W gb kb cssb Bsb ∧
  (∀ b ∈ ga :: Bsa.flatten, w0.heap.size ≤ b ∧ (∀ x ∈ own, x.1 ≠ b) ∧ b ∉ gb :: Bsb.flatten ∧ ¬ okb b) ∧
  (∀ b ∈ gb :: Bsb.flatten, w0.heap.size ≤ b ∧ (∀ x ∈ own, x.1 ≠ b) ∧ b ∉ ga :: Bsa.flatten ∧ ¬ oka b) ∧
  (∀ b, oka b → b < W.heap.size) ∧ ∀ b, okb b → b < W.heap.size
theorem PairR.grow {w0 W W2 : World} {own own2 : Blks} {ga gb : Nat} {ka kb : Ker} (h : PairR w0 own ga gb ka kb W) (hb : Below W.heap.size W W2) (st2 : St [] w0 W2 own2) (hx : ∀ x ∈ own2, (∃ y ∈ own, y.1 = x.1) ∨ W.heap.size ≤ x.1) : PairR w0 own2 ga gb ka kb W2 := by
 obtain ⟨st, h2, h4, oka, cssa, Bsa, okb, cssb, Bsb, h1, h3, h5, h6, h7, h8⟩ := h
 refine ⟨st2, h2, h4, oka, cssa, Bsa, okb, cssb, Bsb, h1.below hb, h3.below hb, fun b hm => ⟨(h5 b hm).1, fun x hx' e => ?_, (h5 b hm).2.2⟩, fun b hm => ⟨(h6 b hm).1, fun x hx' e => ?_, (h6 b hm).2.2⟩, fun b ho => Nat.lt_of_lt_of_le (h7 b ho) hb.size, fun b ho => Nat.lt_of_lt_of_le (h8 b ho) hb.size⟩
 ·rcases hx x hx' with ⟨y, hy, e2⟩ | h9
  ·exact (h5 b hm).2.1 y hy (e2.trans e)
  ·have := h1.lt b hm; omega
 ·rcases hx x hx' with ⟨y, hy, e2⟩ | h9
  ·exact (h6 b hm).2.1 y hy (e2.trans e)
  ·have := h3.lt b hm; omega
theorem PairR.drew {w0 W : World} {own : Blks} {ga gb : Nat} {ka kb : Ker} (h : PairR w0 own ga gb ka kb W) : PairR w0 own ga gb ka kb W.drew :=
 h.grow (Below.refl _ _).drew h.1.drew fun x hx => .inl ⟨x, hx, rfl⟩
theorem PairR.call {w0 W W2 : World} {own : Blks} {ga gb : Nat} {ka kb : Ker} (h : PairR w0 own ga gb ka kb W) (hb : Below W.heap.size W W2) : PairR w0 own ga gb ka kb W2 :=
 h.grow hb (h.1.call hb) fun x hx => .inl ⟨x, hx, rfl⟩
theorem PairR.enter {w0 W W2 : World} {own own2 : Blks} {ga gb : Nat} {ka kb : Ker} (h : PairR w0 own ga gb ka kb W) (st : St [] W W2 own2) : PairR w0 own2 ga gb ka kb W2 :=
 h.grow st.below (St.back (own0 := []) (h.1.sub (by simp) List.Pairwise.nil) (by simpa using st)) fun x hx => .inr (by simpa using st.mine x hx)
theorem PairR.more {w0 W W2 : World} {own own2 : Blks} {ga gb : Nat} {ka kb : Ker} (h : PairR w0 own ga gb ka kb W) (hb : Below W.heap.size W W2) (st2 : St [] w0 W2 own2) (hx : ∀ x ∈ own2, x.1 ∈ own.map (·.1) ∨ W.heap.size ≤ x.1) : PairR w0 own2 ga gb ka kb W2 :=
 h.grow hb st2 fun x hm => (hx x hm).imp (fun h => by obtain ⟨y, hy, e⟩ := List.mem_map.1 h; exact ⟨y, hy, e⟩) id
theorem PairR.plain {w0 W : World} {own : Blks} {ga gb : Nat} {ka kb : Ker} (h : PairR w0 own ga gb ka kb W) : PairR w0 [] ga gb ka kb W :=
 h.grow (Below.refl _ _) (h.1.sub (by simp) List.Pairwise.nil) (by simp)
theorem PairR.turnA {w0 W : World} {own : Blks} {ga gb : Nat} {ka kb : Ker} {oka okb : Nat → Prop} {cssa cssb : List (List Value)} {Bsa Bsb : List (List Nat)} (st : St [] w0 W own) (h4 : kb.ok) (h1 : KerAt oka W ga ka cssa Bsa) (h3 : RkAt okb W gb kb cssb Bsb)
  (h5 : ∀ b ∈ ga :: Bsa.flatten, w0.heap.size ≤ b ∧ (∀ x ∈ own, x.1 ≠ b) ∧ b ∉ gb :: Bsb.flatten ∧ ¬ okb b) (h6 : ∀ b ∈ gb :: Bsb.flatten, w0.heap.size ≤ b ∧ (∀ x ∈ own, x.1 ≠ b) ∧ b ∉ ga :: Bsa.flatten ∧ ¬ oka b) (h7 : ∀ b, oka b → b < W.heap.size) (h8 : ∀ b, okb b → b < W.heap.size)
  {W' : World} {k' : Ker} (hT : KerTo oka W ga Bsa W' k') (hk : k'.ok) : PairR w0 own ga gb k' kb W' := by
 obtain ⟨css', Bs', hK, hs, hin⟩ := hT
 refine ⟨st.callK hs (fun x hx hm => (h5 _ hm).2.1 x hx rfl) (fun b hm => .inr (h5 b hm).1), hk, h4, fun b => ((oka b ∨ W.heap.size ≤ b) ∧ b ∉ ga :: Bs'.flatten) ∧ b < W'.heap.size, css', Bs', okb, cssb, Bsb, ?_, ?_, ?_, ?_, fun b hb => hb.2, fun b hb => Nat.lt_of_lt_of_le (h8 b hb) hs.size⟩
 ·exact hK.move (Nat.le_refl _) (fun b hb ho => ⟨⟨ho, hb⟩, rfl⟩) fun b hb => ⟨rfl, fun hh => hh.1.2 hb⟩
 ·refine h3.move hs.size (fun b hb ho => ⟨ho, hs.frame b hb fun hm => (h5 b hm).2.2.2 ho⟩) fun b hb => ⟨hs.frame b (h3.lt b hb) (h6 b hb).2.2.1, h3.apart b hb⟩
 ·intro b hm
  have hc : b ∈ ga :: Bsa.flatten ∨ W.heap.size ≤ b := by
   rcases List.mem_cons.1 hm with rfl | hm
   ·exact .inl (by simp)
   ·exact (hin b hm).imp (List.mem_cons_of_mem _) id
  rcases hc with hc | hc
  ·exact h5 b hc
  ·refine ⟨Nat.le_trans st.size hc, fun x hx e => ?_, fun hm2 => ?_, fun ho => ?_⟩
   ·have := (Array.getElem?_eq_some_iff.1 (st.blk x hx)).1; omega
   ·have := h3.lt b hm2; omega
   ·have := h8 b ho; omega
 ·intro b hm
  refine ⟨(h6 b hm).1, (h6 b hm).2.1, fun hm2 => ?_, fun ho => ?_⟩
  ·rcases List.mem_cons.1 hm2 with rfl | hm2
   ·exact (h6 b hm).2.2.1 (by simp)
   ·rcases hin b hm2 with hi | hi
    ·exact (h6 b hm).2.2.1 (List.mem_cons_of_mem _ hi)
    ·have := h3.lt b hm; omega
  ·rcases ho.1.1 with ho | ho
   ·exact (h6 b hm).2.2.2 ho
   ·have := h3.lt b hm; omega
theorem PairR.turnB {w0 W : World} {own : Blks} {ga gb : Nat} {ka kb : Ker} {oka okb : Nat → Prop} {cssa cssb : List (List Value)} {Bsa Bsb : List (List Nat)} (st : St [] w0 W own) (h2 : ka.ok) (h1 : KerAt oka W ga ka cssa Bsa) (h3 : RkAt okb W gb kb cssb Bsb)
  (h5 : ∀ b ∈ ga :: Bsa.flatten, w0.heap.size ≤ b ∧ (∀ x ∈ own, x.1 ≠ b) ∧ b ∉ gb :: Bsb.flatten ∧ ¬ okb b) (h6 : ∀ b ∈ gb :: Bsb.flatten, w0.heap.size ≤ b ∧ (∀ x ∈ own, x.1 ≠ b) ∧ b ∉ ga :: Bsa.flatten ∧ ¬ oka b) (h7 : ∀ b, oka b → b < W.heap.size) (h8 : ∀ b, okb b → b < W.heap.size)
  {W' : World} {k' : Ker} (hT : RkTo okb W gb Bsb W' k') (hk : k'.ok) : PairR w0 own ga gb ka k' W' := by
 obtain ⟨css', Bs', hK, hs, hin⟩ := hT
 refine ⟨st.callK hs (fun x hx hm => (h6 _ hm).2.1 x hx rfl) (fun b hm => .inr (h6 b hm).1), h2, hk, oka, cssa, Bsa, fun b => ((okb b ∨ W.heap.size ≤ b) ∧ b ∉ gb :: Bs'.flatten) ∧ b < W'.heap.size, css', Bs', ?_, ?_, ?_, ?_, fun b hb => Nat.lt_of_lt_of_le (h7 b hb) hs.size, fun b hb => hb.2⟩
 ·refine h1.move hs.size (fun b hb ho => ⟨ho, hs.frame b hb fun hm => (h6 b hm).2.2.2 ho⟩) fun b hb => ⟨hs.frame b (h1.lt b hb) (h5 b hb).2.2.1, h1.apart b hb⟩
 ·exact hK.move (Nat.le_refl _) (fun b hb ho => ⟨⟨ho, hb⟩, rfl⟩) fun b hb => ⟨rfl, fun hh => hh.1.2 hb⟩
 ·intro b hm
  refine ⟨(h5 b hm).1, (h5 b hm).2.1, fun hm2 => ?_, fun ho => ?_⟩
  ·rcases List.mem_cons.1 hm2 with rfl | hm2
   ·exact (h5 b hm).2.2.1 (by simp)
   ·rcases hin b hm2 with hi | hi
    ·exact (h5 b hm).2.2.1 (List.mem_cons_of_mem _ hi)
    ·have := h1.lt b hm; omega
  ·rcases ho.1.1 with ho | ho
   ·exact (h5 b hm).2.2.2 ho
   ·have := h1.lt b hm; omega
 ·intro b hm
  have hc : b ∈ gb :: Bsb.flatten ∨ W.heap.size ≤ b := by
   rcases List.mem_cons.1 hm with rfl | hm
   ·exact .inl (by simp)
   ·exact (hin b hm).imp (List.mem_cons_of_mem _) id
  rcases hc with hc | hc
  ·exact h6 b hc
  ·refine ⟨Nat.le_trans st.size hc, fun x hx e => ?_, fun hm2 => ?_, fun ho => ?_⟩
   ·have := (Array.getElem?_eq_some_iff.1 (st.blk x hx)).1; omega
   ·have := h1.lt b hm2; omega
   ·have := h7 b ho; omega
end Go.Proofs.Ytealbofmlieicaa
