/- Walks and plain laws, part 25. -/
import Derived.Test.YtealbofmlieicaaP21
import Derived.Deep.CutRange
import Derived.Deep.LoopGhost
import Derived.Deep.CutBlock
set_option linter.unusedSimpArgs false
set_option linter.unusedVariables false
set_option maxHeartbeats 16000000
set_option maxRecDepth 100000
namespace Go.Proofs.Ytealbofmlieicaa
open Go.RowKit
section
variable (ok okc : Nat → Prop) (w : World) (g : Nat) (k : Ker) (css : List (List Value)) (Bs : List (List Nat)) (n : Nat) (c : Req) (la : Option Addr) (lc : Nat) (ga : Option Addr) (gc : Nat)
theorem ref_Call_get_none (h : RkAt ok w g k css Bs) (hk : ∀ x ∈ k.threads, x.ok) (hn : n < 4) (hx64 : ¬ 64 < c.text.size) (hkd : c.kind = 4) (hob : k.obj c.t c.n = none) :
  Calls Try.prog 14 #[.pointer (some ⟨g, 0, none⟩), .int .i64 n, reqV c la lc ga gc] w (RCallPost ok w g Bs (callK k n c)) := by
 obtain ⟨x, xa, xc, oa, oc, ba, bc, ma, mc, ex, ec, eB, hT, hb⟩ := h.open hn
 have hx := hk x (mgE ex)
 have hpre := h.preLen hn
 have hth := Ker.thr_at ex
 have st0 := St.hand hb
 unfold thrC at st0
 have d1 : decide ((n : Int) < 0) = false := by simp
 have d2 : decide ((4 : Int) ≤ n) = false := by simp; omega
 have d64 := text_size hx64
 have hgg : ¬ ok g := h.apart g (by simp)
 have H4 := qh (fun (W : World) => ref_four (n : Int) W)
 rw [four_of hn] at H4
 have HKp := qh (show ∀ (W : World) (bl : Blks), St [g] w W bl → Keeps ok w W from fun W bl s => s.keeps (by simpa using hgg))
 have HB := qh (show ∀ (W : World) (bl : Blks), St [g] w W bl → (g, 38, winC (preC k css n) [.slice xa x.label.length xc, .slice oa x.own.length oc, .string x.text, .slice ba x.objects.length bc, .slice ma x.mails.length mc] (postC k css n)) ∈ bl → Below w.heap.size w W from fun W bl s hm => st0.below2 s (by simpa using hm))
 have hxf := goodL_fitI hx.good; have hxl := goodL_len hx.good; have hxo := hx.ownL; have hxm := hx.mailN; have hxb := hx.objs; have hxt := hx.text
 have st := st0
 clear st0
 unfold reqV
 go_enter Try.func14, Try.ntmps14
 go_upto_region 7 with (first | go_skip | (go_at_call 24; go_must (refine (H4.out _).mono ?_; rintro e v1 ⟨rfl, rfl⟩)) | (with_reducible refine mB 40 st ?_; clear st; intro g5 w5 hg5 st) | (with_reducible refine mA st Try.zeroValue52 ?_; clear st; intro g6 w6 hg6 st) | (with_reducible refine mX st Try.isAgg9 ?_))
 try simp only [kP, kA, kS, kZ]
 go_cut [9] from 37 to 59 (fun s9 wx => s9 = .bool (k.there c.t c.n) ∧ St [g] w wx [(g, 38, winC (preC k css n) [.slice xa x.label.length xc, .slice oa x.own.length oc, .string x.text, .slice ba x.objects.length bc, .slice ma x.mails.length mc] (postC k css n)), (g5, 40, [.int .i64 c.kind, .int .i64 c.h, .int .i64 c.t, .int .i64 c.n, .int .i64 c.c, .slice la c.label.length lc, .slice ga c.grants.length gc, .string c.text]), (g6, 52, [.int .i64 0, .int .i64 0, .string ⟨#[]⟩])])
 case first =>
  have HTh := qh (h.thereCases hn ec c.t c.n)
  unfold thrC at HTh
  rcases HTh.out with ⟨h1, h2⟩ | ⟨h1, h2, h3⟩ | ⟨m, j, y, yb, yc, hm, et, en, hth, hcell⟩
  ·have F4 := qh (fun (W : World) => ref_four c.t W)
   rw [h1] at F4
   replace h2 := qh h2
   clear h1
   refine det_region (by kernel_rfl) 24 rfl (fun W => St [g] w W [(g, 38, winC (preC k css n) [.slice xa x.label.length xc, .slice oa x.own.length oc, .string x.text, .slice ba x.objects.length bc, .slice ma x.mails.length mc] (postC k css n)), (g5, 40, [.int .i64 c.kind, .int .i64 c.h, .int .i64 c.t, .int .i64 c.n, .int .i64 c.c, .slice la c.label.length lc, .slice ga c.grants.length gc, .string c.text]), (g6, 52, [.int .i64 0, .int .i64 0, .string ⟨#[]⟩])]) (st.drew) (by decide +kernel) ?_
   refine detS 0 rfl ?_
   refine detT 1 rfl (fun W hW => St.run_load hW 1 3 _ rfl Try.isAgg3 rfl rfl rfl) ?_
   refine det_call (fn := 24) 2 rfl (by decide +kernel) (by first | exact wanted_none rfl | exact wanted_some rfl rfl) (fun W => by first | (go_simp; done) | (go_simp; rfl)) (fun W hW => (F4.out W).mono fun e w' h => ⟨h.1, h.2 ▸ hW⟩) ?_; simp only [kP, kA, kS, kZ]
   refine detS 3 rfl ?_
   refine detK 4 rfl ?_; refine detK 5 rfl ?_; refine detK 6 rfl ?_
   refine detS 7 rfl ?_; refine detS 8 rfl ?_
   refine detK 9 rfl ?_; refine detK 10 rfl ?_; refine detK 11 rfl ?_; refine detK 12 rfl ?_; refine detK 13 rfl ?_; refine detK 14 rfl ?_; refine detK 15 rfl ?_; refine detK 16 rfl ?_; refine detK 17 rfl ?_; refine detK 18 rfl ?_; refine detK 19 rfl ?_; refine detK 20 rfl ?_; refine detK 21 rfl ?_
   refine detS 22 rfl ?_; refine detS 23 rfl ?_
   refine det_done (by decide +kernel) ?_
   clear st
   intro W st
   go_wp2_with fail
   go_meet
   exact ⟨by rw [h2.out], st⟩
  ·have F4 := qh (fun (W : World) => ref_four c.t W)
   rw [h1] at F4
   replace h3 := qh h3
   have d3 : decide ((0 : Int) ≤ c.n) = false := by simpa using h2
   clear h1 h2
   refine det_region (by kernel_rfl) 24 rfl (fun W => St [g] w W [(g, 38, winC (preC k css n) [.slice xa x.label.length xc, .slice oa x.own.length oc, .string x.text, .slice ba x.objects.length bc, .slice ma x.mails.length mc] (postC k css n)), (g5, 40, [.int .i64 c.kind, .int .i64 c.h, .int .i64 c.t, .int .i64 c.n, .int .i64 c.c, .slice la c.label.length lc, .slice ga c.grants.length gc, .string c.text]), (g6, 52, [.int .i64 0, .int .i64 0, .string ⟨#[]⟩])]) (st.drew) (by decide +kernel) ?_
   refine detS 0 rfl ?_
   refine detT 1 rfl (fun W hW => St.run_load hW 1 3 _ rfl Try.isAgg3 rfl rfl rfl) ?_
   refine det_call (fn := 24) 2 rfl (by decide +kernel) (by first | exact wanted_none rfl | exact wanted_some rfl rfl) (fun W => by first | (go_simp; done) | (go_simp; rfl)) (fun W hW => (F4.out W).mono fun e w' h => ⟨h.1, h.2 ▸ hW⟩) ?_; simp only [kP, kA, kS, kZ]
   refine detS 3 rfl ?_; refine detS 4 rfl ?_
   refine detT 5 rfl (fun W hW => St.run_load hW 1 3 _ rfl Try.isAgg3 rfl rfl rfl) ?_
   refine detT (v := .bool false) 6 rfl (fun W hW => by (go_simp; done)) ?_
   refine detS 7 rfl ?_; refine detS 8 rfl ?_
   refine detK 9 rfl ?_; refine detK 10 rfl ?_; refine detK 11 rfl ?_; refine detK 12 rfl ?_; refine detK 13 rfl ?_; refine detK 14 rfl ?_; refine detK 15 rfl ?_; refine detK 16 rfl ?_; refine detK 17 rfl ?_; refine detK 18 rfl ?_; refine detK 19 rfl ?_; refine detK 20 rfl ?_; refine detK 21 rfl ?_
   refine detS 22 rfl ?_; refine detS 23 rfl ?_
   refine det_done (by decide +kernel) ?_
   clear st
   intro W st
   go_wp2_with fail
   go_meet
   exact ⟨by rw [h3.out], st⟩
  ·have F4 := qh (fun (W : World) => ref_four (m : Int) W)
   rw [four_of hm] at F4
   have d3 : decide ((0 : Int) ≤ (j : Int)) = true := by simp
   have d5 : decide ((m : Int) < 0) = false := by simp
   have d6 : decide ((4 : Int) ≤ m) = false := by simp; omega
   rw [et, en] at st
   replace et := qh et
   replace en := qh en
   replace hth := qh hth
   refine det_region (by kernel_rfl) 24 rfl (fun W => St [g] w W [(g, 38, winC (preC k css n) [.slice xa x.label.length xc, .slice oa x.own.length oc, .string x.text, .slice ba x.objects.length bc, .slice ma x.mails.length mc] (postC k css n)), (g5, 40, [.int .i64 c.kind, .int .i64 c.h, .int .i64 m, .int .i64 j, .int .i64 c.c, .slice la c.label.length lc, .slice ga c.grants.length gc, .string c.text]), (g6, 52, [.int .i64 0, .int .i64 0, .string ⟨#[]⟩])]) (st.drew) (by decide +kernel) ?_
   refine detS 0 rfl ?_
   refine detT 1 rfl (fun W hW => St.run_load hW 1 3 _ rfl Try.isAgg3 rfl rfl rfl) ?_
   refine det_call (fn := 24) 2 rfl (by decide +kernel) (by first | exact wanted_none rfl | exact wanted_some rfl rfl) (fun W => by first | (go_simp; done) | (go_simp; rfl)) (fun W hW => (F4.out W).mono fun e w' h => ⟨h.1, h.2 ▸ hW⟩) ?_; simp only [kP, kA, kS, kZ]
   refine detS 3 rfl ?_; refine detS 4 rfl ?_
   refine detT 5 rfl (fun W hW => St.run_load hW 1 3 _ rfl Try.isAgg3 rfl rfl rfl) ?_
   refine detT (v := .bool true) 6 rfl (fun W hW => by (go_simp; done)) ?_
   refine detS 7 rfl ?_; refine detS 8 rfl ?_; refine detS 9 rfl ?_
   refine detT 10 rfl (fun W hW => St.run_load hW 1 3 _ rfl Try.isAgg3 rfl rfl rfl) ?_
   refine detS 11 rfl ?_; refine detS 12 rfl ?_
   refine detT 13 rfl (fun W hW => St.run_load hW 1 3 _ rfl Try.isAgg3 rfl rfl rfl) ?_
   refine detT (v := .int .i64 m) 14 rfl (fun W hW => by (exact run_and3 _ _ _ rfl hm rfl rfl)) ?_
   refine detS 15 rfl ?_; refine detS 16 rfl ?_
   refine detT (v := .pointer (some ⟨g, 1 + m * 5, none⟩)) 17 rfl (fun W hW => by (first | (go_simp; done) | (go_simp; omega))) ?_
   refine detS 18 rfl ?_
   refine detT (v := .slice yb y.objects.length yc) 19 rfl (fun W hW => St.run_load hW 0 32 _ rfl Try.isAgg32 rfl rfl hcell) ?_
   refine detS 20 rfl ?_
   refine detT (v := .bool (decide ((j : Int) < y.objects.length))) 21 rfl (fun W hW => by (go_simp; done)) ?_
   refine detS 22 rfl ?_; refine detS 23 rfl ?_
   refine det_done (by decide +kernel) ?_
   clear st
   intro W st
   go_wp2_with fail
   go_meet
   exact ⟨by rw [hth.out]; simp, by rw [et.out, en.out]; exact st⟩
 case rest =>
 obtain ⟨rfl, st⟩ := hcut
 have hg5w : w.heap.size ≤ g5 := hg5
 have hg6w : w.heap.size ≤ g6 := hg6
 have HN := qh (show k.there c.t c.n = false by unfold Ker.there; rw [hob]; rfl)
 have HE := qh (show callK k (n : Int) c = (k, errR 4) by unfold callK; simp [hkd, hob])
 rw [hkd] at st
 clear hkd hob
 rw [HN.out]
 go_wp2_with (first | go_skip | (with_reducible refine mX st Try.isAgg3 ?_))
 refine det_region (by kernel_rfl) 27 rfl (fun W => St [g] w W [(g, 38, winC (preC k css n) [.slice xa x.label.length xc, .slice oa x.own.length oc, .string x.text, .slice ba x.objects.length bc, .slice ma x.mails.length mc] (postC k css n)), (g5, 40, [.int .i64 4, .int .i64 c.h, .int .i64 c.t, .int .i64 c.n, .int .i64 c.c, .slice la c.label.length lc, .slice ga c.grants.length gc, .string c.text]), (g6, 52, [.int .i64 0, .int .i64 0, .string ⟨#[]⟩])]) (st.drew) (by decide +kernel) ?_
 refine detS 0 rfl ?_; refine detS 1 rfl ?_; refine detS 2 rfl ?_
 refine detK 3 rfl ?_; refine detK 4 rfl ?_; refine detK 5 rfl ?_; refine detK 6 rfl ?_; refine detK 7 rfl ?_; refine detK 8 rfl ?_; refine detK 9 rfl ?_; refine detK 10 rfl ?_; refine detK 11 rfl ?_; refine detK 12 rfl ?_; refine detK 13 rfl ?_; refine detK 14 rfl ?_; refine detK 15 rfl ?_; refine detK 16 rfl ?_; refine detK 17 rfl ?_; refine detK 18 rfl ?_; refine detK 19 rfl ?_; refine detK 20 rfl ?_; refine detK 21 rfl ?_; refine detK 22 rfl ?_; refine detK 23 rfl ?_; refine detK 24 rfl ?_; refine detK 25 rfl ?_
 refine detS 26 rfl ?_
 refine det_done (by decide +kernel) ?_
 clear st
 intro W st
 go_wp2_with (first | go_skip | (go_at_call 39; go_must (refine (rcall_no _ _).mono ?_; rintro e vn ⟨rfl, hbn⟩; replace st := st.call hbn; clear hbn)) | (with_reducible refine mS 2 st Try.sizeOf52 ?_; clear st; intro w7 st hw7m hw7z))
 have hc := fun j => st.cell (i := 2) rfl j
 refine bodyPost_ret (v := RepV (errR 4)) ?hr rfl ?_
 case hr => simp [results, Try.results14, go_sem, hc, RepV, errR]; try rfl
 rw [HE.out]
 exact ⟨rfl, RkTo.none h (HB.out _ _ st (by simp))⟩
end
section
variable (ok okc : Nat → Prop) (w : World) (g : Nat) (k : Ker) (css : List (List Value)) (Bs : List (List Nat)) (n : Nat) (c : Req) (la : Option Addr) (lc : Nat) (ga : Option Addr) (gc : Nat)
theorem ref_Call_get_no (h : RkAt ok w g k css Bs) (hk : ∀ x ∈ k.threads, x.ok) (hn : n < 4) (hx64 : ¬ 64 < c.text.size) (hkd : c.kind = 4) (o : KObj) (hob : k.obj c.t c.n = some o) (hf : flowsL o.label (k.thr n).label (k.thr n).own = false) :
  Calls Try.prog 14 #[.pointer (some ⟨g, 0, none⟩), .int .i64 n, reqV c la lc ga gc] w (RCallPost ok w g Bs (callK k n c)) := by
 obtain ⟨x, xa, xc, oa, oc, ba, bc, ma, mc, ex, ec, eB, hT, hb⟩ := h.open hn
 have hx := hk x (mgE ex)
 have hpre := h.preLen hn
 have hth := Ker.thr_at ex
 have st0 := St.hand hb
 unfold thrC at st0
 have d1 : decide ((n : Int) < 0) = false := by simp
 have d2 : decide ((4 : Int) ≤ n) = false := by simp; omega
 have d64 := text_size hx64
 have hgg : ¬ ok g := h.apart g (by simp)
 have H4 := qh (fun (W : World) => ref_four (n : Int) W)
 rw [four_of hn] at H4
 have HKp := qh (show ∀ (W : World) (bl : Blks), St [g] w W bl → Keeps ok w W from fun W bl s => s.keeps (by simpa using hgg))
 have HB := qh (show ∀ (W : World) (bl : Blks), St [g] w W bl → (g, 38, winC (preC k css n) [.slice xa x.label.length xc, .slice oa x.own.length oc, .string x.text, .slice ba x.objects.length bc, .slice ma x.mails.length mc] (postC k css n)) ∈ bl → Below w.heap.size w W from fun W bl s hm => st0.below2 s (by simpa using hm))
 have hxf := goodL_fitI hx.good; have hxl := goodL_len hx.good; have hxo := hx.ownL; have hxm := hx.mailN; have hxb := hx.objs; have hxt := hx.text
 have st := st0
 clear st0
 unfold reqV
 go_enter Try.func14, Try.ntmps14
 go_upto_region 7 with (first | go_skip | (go_at_call 24; go_must (refine (H4.out _).mono ?_; rintro e v1 ⟨rfl, rfl⟩)) | (with_reducible refine mB 40 st ?_; clear st; intro g5 w5 hg5 st) | (with_reducible refine mA st Try.zeroValue52 ?_; clear st; intro g6 w6 hg6 st) | (with_reducible refine mX st Try.isAgg9 ?_))
 try simp only [kP, kA, kS, kZ]
 go_cut [9] from 37 to 59 (fun s9 wx => s9 = .bool (k.there c.t c.n) ∧ St [g] w wx [(g, 38, winC (preC k css n) [.slice xa x.label.length xc, .slice oa x.own.length oc, .string x.text, .slice ba x.objects.length bc, .slice ma x.mails.length mc] (postC k css n)), (g5, 40, [.int .i64 c.kind, .int .i64 c.h, .int .i64 c.t, .int .i64 c.n, .int .i64 c.c, .slice la c.label.length lc, .slice ga c.grants.length gc, .string c.text]), (g6, 52, [.int .i64 0, .int .i64 0, .string ⟨#[]⟩])])
 case first =>
  have HTh := qh (h.thereCases hn ec c.t c.n)
  unfold thrC at HTh
  rcases HTh.out with ⟨h1, h2⟩ | ⟨h1, h2, h3⟩ | ⟨m, j, y, yb, yc, hm, et, en, hth, hcell⟩
  ·have F4 := qh (fun (W : World) => ref_four c.t W)
   rw [h1] at F4
   replace h2 := qh h2
   clear h1
   refine det_region (by kernel_rfl) 24 rfl (fun W => St [g] w W [(g, 38, winC (preC k css n) [.slice xa x.label.length xc, .slice oa x.own.length oc, .string x.text, .slice ba x.objects.length bc, .slice ma x.mails.length mc] (postC k css n)), (g5, 40, [.int .i64 c.kind, .int .i64 c.h, .int .i64 c.t, .int .i64 c.n, .int .i64 c.c, .slice la c.label.length lc, .slice ga c.grants.length gc, .string c.text]), (g6, 52, [.int .i64 0, .int .i64 0, .string ⟨#[]⟩])]) (st.drew) (by decide +kernel) ?_
   refine detS 0 rfl ?_
   refine detT 1 rfl (fun W hW => St.run_load hW 1 3 _ rfl Try.isAgg3 rfl rfl rfl) ?_
   refine det_call (fn := 24) 2 rfl (by decide +kernel) (by first | exact wanted_none rfl | exact wanted_some rfl rfl) (fun W => by first | (go_simp; done) | (go_simp; rfl)) (fun W hW => (F4.out W).mono fun e w' h => ⟨h.1, h.2 ▸ hW⟩) ?_; simp only [kP, kA, kS, kZ]
   refine detS 3 rfl ?_
   refine detK 4 rfl ?_; refine detK 5 rfl ?_; refine detK 6 rfl ?_
   refine detS 7 rfl ?_; refine detS 8 rfl ?_
   refine detK 9 rfl ?_; refine detK 10 rfl ?_; refine detK 11 rfl ?_; refine detK 12 rfl ?_; refine detK 13 rfl ?_; refine detK 14 rfl ?_; refine detK 15 rfl ?_; refine detK 16 rfl ?_; refine detK 17 rfl ?_; refine detK 18 rfl ?_; refine detK 19 rfl ?_; refine detK 20 rfl ?_; refine detK 21 rfl ?_
   refine detS 22 rfl ?_; refine detS 23 rfl ?_
   refine det_done (by decide +kernel) ?_
   clear st
   intro W st
   go_wp2_with fail
   go_meet
   exact ⟨by rw [h2.out], st⟩
  ·have F4 := qh (fun (W : World) => ref_four c.t W)
   rw [h1] at F4
   replace h3 := qh h3
   have d3 : decide ((0 : Int) ≤ c.n) = false := by simpa using h2
   clear h1 h2
   refine det_region (by kernel_rfl) 24 rfl (fun W => St [g] w W [(g, 38, winC (preC k css n) [.slice xa x.label.length xc, .slice oa x.own.length oc, .string x.text, .slice ba x.objects.length bc, .slice ma x.mails.length mc] (postC k css n)), (g5, 40, [.int .i64 c.kind, .int .i64 c.h, .int .i64 c.t, .int .i64 c.n, .int .i64 c.c, .slice la c.label.length lc, .slice ga c.grants.length gc, .string c.text]), (g6, 52, [.int .i64 0, .int .i64 0, .string ⟨#[]⟩])]) (st.drew) (by decide +kernel) ?_
   refine detS 0 rfl ?_
   refine detT 1 rfl (fun W hW => St.run_load hW 1 3 _ rfl Try.isAgg3 rfl rfl rfl) ?_
   refine det_call (fn := 24) 2 rfl (by decide +kernel) (by first | exact wanted_none rfl | exact wanted_some rfl rfl) (fun W => by first | (go_simp; done) | (go_simp; rfl)) (fun W hW => (F4.out W).mono fun e w' h => ⟨h.1, h.2 ▸ hW⟩) ?_; simp only [kP, kA, kS, kZ]
   refine detS 3 rfl ?_; refine detS 4 rfl ?_
   refine detT 5 rfl (fun W hW => St.run_load hW 1 3 _ rfl Try.isAgg3 rfl rfl rfl) ?_
   refine detT (v := .bool false) 6 rfl (fun W hW => by (go_simp; done)) ?_
   refine detS 7 rfl ?_; refine detS 8 rfl ?_
   refine detK 9 rfl ?_; refine detK 10 rfl ?_; refine detK 11 rfl ?_; refine detK 12 rfl ?_; refine detK 13 rfl ?_; refine detK 14 rfl ?_; refine detK 15 rfl ?_; refine detK 16 rfl ?_; refine detK 17 rfl ?_; refine detK 18 rfl ?_; refine detK 19 rfl ?_; refine detK 20 rfl ?_; refine detK 21 rfl ?_
   refine detS 22 rfl ?_; refine detS 23 rfl ?_
   refine det_done (by decide +kernel) ?_
   clear st
   intro W st
   go_wp2_with fail
   go_meet
   exact ⟨by rw [h3.out], st⟩
  ·have F4 := qh (fun (W : World) => ref_four (m : Int) W)
   rw [four_of hm] at F4
   have d3 : decide ((0 : Int) ≤ (j : Int)) = true := by simp
   have d5 : decide ((m : Int) < 0) = false := by simp
   have d6 : decide ((4 : Int) ≤ m) = false := by simp; omega
   rw [et, en] at st
   replace et := qh et
   replace en := qh en
   replace hth := qh hth
   refine det_region (by kernel_rfl) 24 rfl (fun W => St [g] w W [(g, 38, winC (preC k css n) [.slice xa x.label.length xc, .slice oa x.own.length oc, .string x.text, .slice ba x.objects.length bc, .slice ma x.mails.length mc] (postC k css n)), (g5, 40, [.int .i64 c.kind, .int .i64 c.h, .int .i64 m, .int .i64 j, .int .i64 c.c, .slice la c.label.length lc, .slice ga c.grants.length gc, .string c.text]), (g6, 52, [.int .i64 0, .int .i64 0, .string ⟨#[]⟩])]) (st.drew) (by decide +kernel) ?_
   refine detS 0 rfl ?_
   refine detT 1 rfl (fun W hW => St.run_load hW 1 3 _ rfl Try.isAgg3 rfl rfl rfl) ?_
   refine det_call (fn := 24) 2 rfl (by decide +kernel) (by first | exact wanted_none rfl | exact wanted_some rfl rfl) (fun W => by first | (go_simp; done) | (go_simp; rfl)) (fun W hW => (F4.out W).mono fun e w' h => ⟨h.1, h.2 ▸ hW⟩) ?_; simp only [kP, kA, kS, kZ]
   refine detS 3 rfl ?_; refine detS 4 rfl ?_
   refine detT 5 rfl (fun W hW => St.run_load hW 1 3 _ rfl Try.isAgg3 rfl rfl rfl) ?_
   refine detT (v := .bool true) 6 rfl (fun W hW => by (go_simp; done)) ?_
   refine detS 7 rfl ?_; refine detS 8 rfl ?_; refine detS 9 rfl ?_
   refine detT 10 rfl (fun W hW => St.run_load hW 1 3 _ rfl Try.isAgg3 rfl rfl rfl) ?_
   refine detS 11 rfl ?_; refine detS 12 rfl ?_
   refine detT 13 rfl (fun W hW => St.run_load hW 1 3 _ rfl Try.isAgg3 rfl rfl rfl) ?_
   refine detT (v := .int .i64 m) 14 rfl (fun W hW => by (exact run_and3 _ _ _ rfl hm rfl rfl)) ?_
   refine detS 15 rfl ?_; refine detS 16 rfl ?_
   refine detT (v := .pointer (some ⟨g, 1 + m * 5, none⟩)) 17 rfl (fun W hW => by (first | (go_simp; done) | (go_simp; omega))) ?_
   refine detS 18 rfl ?_
   refine detT (v := .slice yb y.objects.length yc) 19 rfl (fun W hW => St.run_load hW 0 32 _ rfl Try.isAgg32 rfl rfl hcell) ?_
   refine detS 20 rfl ?_
   refine detT (v := .bool (decide ((j : Int) < y.objects.length))) 21 rfl (fun W hW => by (go_simp; done)) ?_
   refine detS 22 rfl ?_; refine detS 23 rfl ?_
   refine det_done (by decide +kernel) ?_
   clear st
   intro W st
   go_wp2_with fail
   go_meet
   exact ⟨by rw [hth.out]; simp, by rw [et.out, en.out]; exact st⟩
 case rest =>
 obtain ⟨rfl, st⟩ := hcut
 have hg5w : w.heap.size ≤ g5 := hg5
 have hg6w : w.heap.size ≤ g6 := hg6
 have HN := qh (show k.there c.t c.n = true by unfold Ker.there; rw [hob]; rfl)
 rw [HN.out]
 clear HN
 obtain ⟨m, j, y, ya, yc, qa, qc, gb, off, bc2, ma2, mc2, hm, et, en, ey, ecy, eBy, hTy, hoy⟩ := h.objWin hob
 have hcell := h.objCell hn hm ec ecy
 unfold thrC at hcell
 have hj := (gEs hoy).1
 obtain ⟨pre2, cs2, post2, hb2, hpre2, ⟨la2, lc2, rfl, hlo⟩, _, _⟩ := hTy.objs.window hoy
 have HQ := qh (show ∃ q, q = off + j * 2 from ⟨_, rfl⟩)
 obtain ⟨q, hq⟩ := HQ.out
 rw [← hq] at hpre2
 clear HQ
 replace hq := qh hq
 have hgb : g ≠ gb := fun e => h.gOut eBy (e ▸ mem_rows2.2 (.inl rfl))
 have hgbo : ¬ ok gb := h.apartAt eBy (mem_rows2.2 (.inl rfl))
 have hgbl : gb < w.heap.size := hTy.objs.lt rfl
 have ho := (hk y (mgE ey)).obj o (mgE hoy)
 have hof := goodL_fitI ho.1
 have hol := goodL_len ho.1
 have hot := ho.2
 have d5 : decide ((m : Int) < 0) = false := by simp
 have d6 : decide ((4 : Int) ≤ m) = false := by simp; omega
 rw [et, en] at st
 replace et := qh et
 replace en := qh en
 have st0 := St.hand2 hb hb2 hgb
 unfold thrC at st0
 have HB2 := qh (show ∀ (W : World) (bl : Blks), St [g, gb] w W bl → (g, 38, winC (preC k css n) [.slice xa x.label.length xc, .slice oa x.own.length oc, .string x.text, .slice ba x.objects.length bc, .slice ma x.mails.length mc] (postC k css n)) ∈ bl → (gb, 73, winC pre2 [.slice la2 o.label.length lc2, .string o.text] post2) ∈ bl → Below w.heap.size w W from fun W bl s hm1 hm2 => st0.below2 s (by simpa using ⟨hm1, hm2⟩))
 have HKp2 := qh (show ∀ (W : World) (bl : Blks), St [g, gb] w W bl → Keeps ok w W from fun W bl s => s.keeps (by simpa using ⟨hgg, hgbo⟩))
 replace st := st.with2 hb2 hgb hgbl
 clear st0
 have HE := qh (show callK k (n : Int) c = (k, errR 4) by unfold callK; simp [hkd, hob, hf])
 rw [hth] at hf
 have HF := qh (fun (W : World) (bl : Blks) (hW : St [g, gb] w W bl) => ref_Flows (fun _ => True) W la2 xa oa lc2 xc oc o.label x.label x.own hof hxf (by unfold maxLen; omega) (((hlo).keep (HKp2.out W _ hW)).okay fun _ _ => trivial) (((hT.label).keep (HKp2.out W _ hW)).okay fun _ _ => trivial) ((hT.own.keep (HKp2.out W _ hW)).okay fun _ _ => trivial))
 rw [hf] at HF
 clear hob hf
 rw [hkd] at st
 clear hkd
 go_wp2_with (first | go_skip | (with_reducible refine mX st Try.isAgg3 ?_))
 refine det_region (by kernel_rfl) 27 rfl (fun W => St [g, gb] w W [(g, 38, winC (preC k css n) [.slice xa x.label.length xc, .slice oa x.own.length oc, .string x.text, .slice ba x.objects.length bc, .slice ma x.mails.length mc] (postC k css n)), (gb, 73, winC pre2 [.slice la2 o.label.length lc2, .string o.text] post2), (g5, 40, [.int .i64 4, .int .i64 c.h, .int .i64 m, .int .i64 j, .int .i64 c.c, .slice la c.label.length lc, .slice ga c.grants.length gc, .string c.text]), (g6, 52, [.int .i64 0, .int .i64 0, .string ⟨#[]⟩])]) (st.drew) (by decide +kernel) ?_
 refine detS 0 rfl ?_; refine detS 1 rfl ?_; refine detS 2 rfl ?_; refine detS 3 rfl ?_; refine detS 4 rfl ?_
 refine detT 5 rfl (fun W hW => St.run_load hW 2 3 _ rfl Try.isAgg3 rfl rfl rfl) ?_
 refine detS 6 rfl ?_; refine detS 7 rfl ?_
 refine detT (v := .pointer (some ⟨g, 1 + m * 5, none⟩)) 8 rfl (fun W hW => by (first | (go_simp; done) | (go_simp; omega) | (rw [hq.out]; go_simp; done) | (rw [hq.out]; go_simp; omega))) ?_
 refine detS 9 rfl ?_
 refine detT (v := .slice (some ⟨gb, off, none⟩) y.objects.length bc2) 10 rfl (fun W hW => St.run_load hW 0 32 _ rfl Try.isAgg32 rfl rfl hcell) ?_
 refine detS 11 rfl ?_
 refine detT 12 rfl (fun W hW => St.run_load hW 2 3 _ rfl Try.isAgg3 rfl rfl rfl) ?_
 refine detT (v := .pointer (some ⟨gb, q, none⟩)) 13 rfl (fun W hW => by (first | (go_simp; done) | (go_simp; omega) | (rw [hq.out]; go_simp; done) | (rw [hq.out]; go_simp; omega))) ?_
 refine detS 14 rfl ?_
 refine detT 15 rfl (fun W hW => St.run_loadW hW 1 30 _ rfl Try.isAgg30 0 hpre2 rfl rfl rfl) ?_
 refine detS 16 rfl ?_; refine detS 17 rfl ?_; refine detS 18 rfl ?_
 refine detT 19 rfl (fun W hW => St.run_loadW hW 0 30 _ rfl Try.isAgg30 0 hpre rfl rfl rfl) ?_
 refine detS 20 rfl ?_; refine detS 21 rfl ?_; refine detS 22 rfl ?_
 refine detT 23 rfl (fun W hW => St.run_loadW hW 0 31 _ rfl Try.isAgg31 1 hpre rfl rfl rfl) ?_
 refine det_call (fn := 28) 24 rfl (by decide +kernel) (by first | exact wanted_none rfl | exact wanted_some rfl rfl) (fun W => by first | (go_simp; done) | (go_simp; rfl)) (fun W hW => (HF.out W _ hW).mono fun e w' h => ⟨h.1, hW.call h.2⟩) ?_; simp only [kP, kA, kS, kZ]
 refine detS 25 rfl ?_; refine detS 26 rfl ?_
 refine det_done (by decide +kernel) ?_
 clear st
 intro W2 st
 go_wp2_with (first | go_skip | (go_at_call 39; go_must (refine (rcall_no _ _).mono ?_; rintro e vn ⟨rfl, hbn⟩; replace st := st.call hbn; clear hbn)) | (with_reducible refine mS 3 st Try.sizeOf52 ?_; clear st; intro w7 st hw7m hw7z))
 have hc := fun j => st.cell (i := 3) rfl j
 refine bodyPost_ret (v := RepV (errR 4)) ?hr rfl ?_
 case hr => simp [results, Try.results14, go_sem, hc, RepV, errR]; try rfl
 rw [HE.out]
 exact ⟨rfl, RkTo.none h (HB2.out _ _ st (by simp) (by simp))⟩
end
section
variable (ok okc : Nat → Prop) (w : World) (g : Nat) (k : Ker) (css : List (List Value)) (Bs : List (List Nat)) (n : Nat) (c : Req) (la : Option Addr) (lc : Nat) (ga : Option Addr) (gc : Nat)
theorem ref_Call_get_yes (h : RkAt ok w g k css Bs) (hk : ∀ x ∈ k.threads, x.ok) (hn : n < 4) (hx64 : ¬ 64 < c.text.size) (hkd : c.kind = 4) (o : KObj) (hob : k.obj c.t c.n = some o) (hf : flowsL o.label (k.thr n).label (k.thr n).own = true) :
  Calls Try.prog 14 #[.pointer (some ⟨g, 0, none⟩), .int .i64 n, reqV c la lc ga gc] w (RCallPost ok w g Bs (callK k n c)) := by
 obtain ⟨x, xa, xc, oa, oc, ba, bc, ma, mc, ex, ec, eB, hT, hb⟩ := h.open hn
 have hx := hk x (mgE ex)
 have hpre := h.preLen hn
 have hth := Ker.thr_at ex
 have st0 := St.hand hb
 unfold thrC at st0
 have d1 : decide ((n : Int) < 0) = false := by simp
 have d2 : decide ((4 : Int) ≤ n) = false := by simp; omega
 have d64 := text_size hx64
 have hgg : ¬ ok g := h.apart g (by simp)
 have H4 := qh (fun (W : World) => ref_four (n : Int) W)
 rw [four_of hn] at H4
 have HKp := qh (show ∀ (W : World) (bl : Blks), St [g] w W bl → Keeps ok w W from fun W bl s => s.keeps (by simpa using hgg))
 have HB := qh (show ∀ (W : World) (bl : Blks), St [g] w W bl → (g, 38, winC (preC k css n) [.slice xa x.label.length xc, .slice oa x.own.length oc, .string x.text, .slice ba x.objects.length bc, .slice ma x.mails.length mc] (postC k css n)) ∈ bl → Below w.heap.size w W from fun W bl s hm => st0.below2 s (by simpa using hm))
 have hxf := goodL_fitI hx.good; have hxl := goodL_len hx.good; have hxo := hx.ownL; have hxm := hx.mailN; have hxb := hx.objs; have hxt := hx.text
 have st := st0
 clear st0
 unfold reqV
 go_enter Try.func14, Try.ntmps14
 go_upto_region 7 with (first | go_skip | (go_at_call 24; go_must (refine (H4.out _).mono ?_; rintro e v1 ⟨rfl, rfl⟩)) | (with_reducible refine mB 40 st ?_; clear st; intro g5 w5 hg5 st) | (with_reducible refine mA st Try.zeroValue52 ?_; clear st; intro g6 w6 hg6 st) | (with_reducible refine mX st Try.isAgg9 ?_))
 try simp only [kP, kA, kS, kZ]
 go_cut [9] from 37 to 59 (fun s9 wx => s9 = .bool (k.there c.t c.n) ∧ St [g] w wx [(g, 38, winC (preC k css n) [.slice xa x.label.length xc, .slice oa x.own.length oc, .string x.text, .slice ba x.objects.length bc, .slice ma x.mails.length mc] (postC k css n)), (g5, 40, [.int .i64 c.kind, .int .i64 c.h, .int .i64 c.t, .int .i64 c.n, .int .i64 c.c, .slice la c.label.length lc, .slice ga c.grants.length gc, .string c.text]), (g6, 52, [.int .i64 0, .int .i64 0, .string ⟨#[]⟩])])
 case first =>
  have HTh := qh (h.thereCases hn ec c.t c.n)
  unfold thrC at HTh
  rcases HTh.out with ⟨h1, h2⟩ | ⟨h1, h2, h3⟩ | ⟨m, j, y, yb, yc, hm, et, en, hth, hcell⟩
  ·have F4 := qh (fun (W : World) => ref_four c.t W)
   rw [h1] at F4
   replace h2 := qh h2
   clear h1
   refine det_region (by kernel_rfl) 24 rfl (fun W => St [g] w W [(g, 38, winC (preC k css n) [.slice xa x.label.length xc, .slice oa x.own.length oc, .string x.text, .slice ba x.objects.length bc, .slice ma x.mails.length mc] (postC k css n)), (g5, 40, [.int .i64 c.kind, .int .i64 c.h, .int .i64 c.t, .int .i64 c.n, .int .i64 c.c, .slice la c.label.length lc, .slice ga c.grants.length gc, .string c.text]), (g6, 52, [.int .i64 0, .int .i64 0, .string ⟨#[]⟩])]) (st.drew) (by decide +kernel) ?_
   refine detS 0 rfl ?_
   refine detT 1 rfl (fun W hW => St.run_load hW 1 3 _ rfl Try.isAgg3 rfl rfl rfl) ?_
   refine det_call (fn := 24) 2 rfl (by decide +kernel) (by first | exact wanted_none rfl | exact wanted_some rfl rfl) (fun W => by first | (go_simp; done) | (go_simp; rfl)) (fun W hW => (F4.out W).mono fun e w' h => ⟨h.1, h.2 ▸ hW⟩) ?_; simp only [kP, kA, kS, kZ]
   refine detS 3 rfl ?_
   refine detK 4 rfl ?_; refine detK 5 rfl ?_; refine detK 6 rfl ?_
   refine detS 7 rfl ?_; refine detS 8 rfl ?_
   refine detK 9 rfl ?_; refine detK 10 rfl ?_; refine detK 11 rfl ?_; refine detK 12 rfl ?_; refine detK 13 rfl ?_; refine detK 14 rfl ?_; refine detK 15 rfl ?_; refine detK 16 rfl ?_; refine detK 17 rfl ?_; refine detK 18 rfl ?_; refine detK 19 rfl ?_; refine detK 20 rfl ?_; refine detK 21 rfl ?_
   refine detS 22 rfl ?_; refine detS 23 rfl ?_
   refine det_done (by decide +kernel) ?_
   clear st
   intro W st
   go_wp2_with fail
   go_meet
   exact ⟨by rw [h2.out], st⟩
  ·have F4 := qh (fun (W : World) => ref_four c.t W)
   rw [h1] at F4
   replace h3 := qh h3
   have d3 : decide ((0 : Int) ≤ c.n) = false := by simpa using h2
   clear h1 h2
   refine det_region (by kernel_rfl) 24 rfl (fun W => St [g] w W [(g, 38, winC (preC k css n) [.slice xa x.label.length xc, .slice oa x.own.length oc, .string x.text, .slice ba x.objects.length bc, .slice ma x.mails.length mc] (postC k css n)), (g5, 40, [.int .i64 c.kind, .int .i64 c.h, .int .i64 c.t, .int .i64 c.n, .int .i64 c.c, .slice la c.label.length lc, .slice ga c.grants.length gc, .string c.text]), (g6, 52, [.int .i64 0, .int .i64 0, .string ⟨#[]⟩])]) (st.drew) (by decide +kernel) ?_
   refine detS 0 rfl ?_
   refine detT 1 rfl (fun W hW => St.run_load hW 1 3 _ rfl Try.isAgg3 rfl rfl rfl) ?_
   refine det_call (fn := 24) 2 rfl (by decide +kernel) (by first | exact wanted_none rfl | exact wanted_some rfl rfl) (fun W => by first | (go_simp; done) | (go_simp; rfl)) (fun W hW => (F4.out W).mono fun e w' h => ⟨h.1, h.2 ▸ hW⟩) ?_; simp only [kP, kA, kS, kZ]
   refine detS 3 rfl ?_; refine detS 4 rfl ?_
   refine detT 5 rfl (fun W hW => St.run_load hW 1 3 _ rfl Try.isAgg3 rfl rfl rfl) ?_
   refine detT (v := .bool false) 6 rfl (fun W hW => by (go_simp; done)) ?_
   refine detS 7 rfl ?_; refine detS 8 rfl ?_
   refine detK 9 rfl ?_; refine detK 10 rfl ?_; refine detK 11 rfl ?_; refine detK 12 rfl ?_; refine detK 13 rfl ?_; refine detK 14 rfl ?_; refine detK 15 rfl ?_; refine detK 16 rfl ?_; refine detK 17 rfl ?_; refine detK 18 rfl ?_; refine detK 19 rfl ?_; refine detK 20 rfl ?_; refine detK 21 rfl ?_
   refine detS 22 rfl ?_; refine detS 23 rfl ?_
   refine det_done (by decide +kernel) ?_
   clear st
   intro W st
   go_wp2_with fail
   go_meet
   exact ⟨by rw [h3.out], st⟩
  ·have F4 := qh (fun (W : World) => ref_four (m : Int) W)
   rw [four_of hm] at F4
   have d3 : decide ((0 : Int) ≤ (j : Int)) = true := by simp
   have d5 : decide ((m : Int) < 0) = false := by simp
   have d6 : decide ((4 : Int) ≤ m) = false := by simp; omega
   rw [et, en] at st
   replace et := qh et
   replace en := qh en
   replace hth := qh hth
   refine det_region (by kernel_rfl) 24 rfl (fun W => St [g] w W [(g, 38, winC (preC k css n) [.slice xa x.label.length xc, .slice oa x.own.length oc, .string x.text, .slice ba x.objects.length bc, .slice ma x.mails.length mc] (postC k css n)), (g5, 40, [.int .i64 c.kind, .int .i64 c.h, .int .i64 m, .int .i64 j, .int .i64 c.c, .slice la c.label.length lc, .slice ga c.grants.length gc, .string c.text]), (g6, 52, [.int .i64 0, .int .i64 0, .string ⟨#[]⟩])]) (st.drew) (by decide +kernel) ?_
   refine detS 0 rfl ?_
   refine detT 1 rfl (fun W hW => St.run_load hW 1 3 _ rfl Try.isAgg3 rfl rfl rfl) ?_
   refine det_call (fn := 24) 2 rfl (by decide +kernel) (by first | exact wanted_none rfl | exact wanted_some rfl rfl) (fun W => by first | (go_simp; done) | (go_simp; rfl)) (fun W hW => (F4.out W).mono fun e w' h => ⟨h.1, h.2 ▸ hW⟩) ?_; simp only [kP, kA, kS, kZ]
   refine detS 3 rfl ?_; refine detS 4 rfl ?_
   refine detT 5 rfl (fun W hW => St.run_load hW 1 3 _ rfl Try.isAgg3 rfl rfl rfl) ?_
   refine detT (v := .bool true) 6 rfl (fun W hW => by (go_simp; done)) ?_
   refine detS 7 rfl ?_; refine detS 8 rfl ?_; refine detS 9 rfl ?_
   refine detT 10 rfl (fun W hW => St.run_load hW 1 3 _ rfl Try.isAgg3 rfl rfl rfl) ?_
   refine detS 11 rfl ?_; refine detS 12 rfl ?_
   refine detT 13 rfl (fun W hW => St.run_load hW 1 3 _ rfl Try.isAgg3 rfl rfl rfl) ?_
   refine detT (v := .int .i64 m) 14 rfl (fun W hW => by (exact run_and3 _ _ _ rfl hm rfl rfl)) ?_
   refine detS 15 rfl ?_; refine detS 16 rfl ?_
   refine detT (v := .pointer (some ⟨g, 1 + m * 5, none⟩)) 17 rfl (fun W hW => by (first | (go_simp; done) | (go_simp; omega))) ?_
   refine detS 18 rfl ?_
   refine detT (v := .slice yb y.objects.length yc) 19 rfl (fun W hW => St.run_load hW 0 32 _ rfl Try.isAgg32 rfl rfl hcell) ?_
   refine detS 20 rfl ?_
   refine detT (v := .bool (decide ((j : Int) < y.objects.length))) 21 rfl (fun W hW => by (go_simp; done)) ?_
   refine detS 22 rfl ?_; refine detS 23 rfl ?_
   refine det_done (by decide +kernel) ?_
   clear st
   intro W st
   go_wp2_with fail
   go_meet
   exact ⟨by rw [hth.out]; simp, by rw [et.out, en.out]; exact st⟩
 case rest =>
 obtain ⟨rfl, st⟩ := hcut
 have hg5w : w.heap.size ≤ g5 := hg5
 have hg6w : w.heap.size ≤ g6 := hg6
 have HN := qh (show k.there c.t c.n = true by unfold Ker.there; rw [hob]; rfl)
 rw [HN.out]
 clear HN
 obtain ⟨m, j, y, ya, yc, qa, qc, gb, off, bc2, ma2, mc2, hm, et, en, ey, ecy, eBy, hTy, hoy⟩ := h.objWin hob
 have hcell := h.objCell hn hm ec ecy
 unfold thrC at hcell
 have hj := (gEs hoy).1
 obtain ⟨pre2, cs2, post2, hb2, hpre2, ⟨la2, lc2, rfl, hlo⟩, _, _⟩ := hTy.objs.window hoy
 have HQ := qh (show ∃ q, q = off + j * 2 from ⟨_, rfl⟩)
 obtain ⟨q, hq⟩ := HQ.out
 rw [← hq] at hpre2
 clear HQ
 replace hq := qh hq
 have hgb : g ≠ gb := fun e => h.gOut eBy (e ▸ mem_rows2.2 (.inl rfl))
 have hgbo : ¬ ok gb := h.apartAt eBy (mem_rows2.2 (.inl rfl))
 have hgbl : gb < w.heap.size := hTy.objs.lt rfl
 have ho := (hk y (mgE ey)).obj o (mgE hoy)
 have hof := goodL_fitI ho.1
 have hol := goodL_len ho.1
 have hot := ho.2
 have d5 : decide ((m : Int) < 0) = false := by simp
 have d6 : decide ((4 : Int) ≤ m) = false := by simp; omega
 rw [et, en] at st
 replace et := qh et
 replace en := qh en
 have st0 := St.hand2 hb hb2 hgb
 unfold thrC at st0
 have HB2 := qh (show ∀ (W : World) (bl : Blks), St [g, gb] w W bl → (g, 38, winC (preC k css n) [.slice xa x.label.length xc, .slice oa x.own.length oc, .string x.text, .slice ba x.objects.length bc, .slice ma x.mails.length mc] (postC k css n)) ∈ bl → (gb, 73, winC pre2 [.slice la2 o.label.length lc2, .string o.text] post2) ∈ bl → Below w.heap.size w W from fun W bl s hm1 hm2 => st0.below2 s (by simpa using ⟨hm1, hm2⟩))
 have HKp2 := qh (show ∀ (W : World) (bl : Blks), St [g, gb] w W bl → Keeps ok w W from fun W bl s => s.keeps (by simpa using ⟨hgg, hgbo⟩))
 replace st := st.with2 hb2 hgb hgbl
 clear st0
 have HE := qh (show callK k (n : Int) c = (k.put n { x with text := lastB (x.text ++ o.text) }, ⟨0, o.text.size, ⟨#[]⟩⟩) by rw [hth] at hf; unfold callK; simp [hkd, hob, hf, hth, knowT])
 rw [hth] at hf
 have HF := qh (fun (W : World) (bl : Blks) (hW : St [g, gb] w W bl) => ref_Flows (fun _ => True) W la2 xa oa lc2 xc oc o.label x.label x.own hof hxf (by unfold maxLen; omega) (((hlo).keep (HKp2.out W _ hW)).okay fun _ _ => trivial) (((hT.label).keep (HKp2.out W _ hW)).okay fun _ _ => trivial) ((hT.own.keep (HKp2.out W _ hW)).okay fun _ _ => trivial))
 rw [hf] at HF
 have hsz : (x.text ++ o.text).size = x.text.size + o.text.size := ByteArray.size_append
 have HLa := qh (fun (W : World) => ref_last W (x.text ++ o.text) (by omega))
 clear hob hf
 rw [hkd] at st
 clear hkd
 go_wp2_with (first | go_skip | (with_reducible refine mX st Try.isAgg3 ?_))
 refine det_region (by kernel_rfl) 27 rfl (fun W => St [g, gb] w W [(g, 38, winC (preC k css n) [.slice xa x.label.length xc, .slice oa x.own.length oc, .string x.text, .slice ba x.objects.length bc, .slice ma x.mails.length mc] (postC k css n)), (gb, 73, winC pre2 [.slice la2 o.label.length lc2, .string o.text] post2), (g5, 40, [.int .i64 4, .int .i64 c.h, .int .i64 m, .int .i64 j, .int .i64 c.c, .slice la c.label.length lc, .slice ga c.grants.length gc, .string c.text]), (g6, 52, [.int .i64 0, .int .i64 0, .string ⟨#[]⟩])]) (st.drew) (by decide +kernel) ?_
 refine detS 0 rfl ?_; refine detS 1 rfl ?_; refine detS 2 rfl ?_; refine detS 3 rfl ?_; refine detS 4 rfl ?_
 refine detT 5 rfl (fun W hW => St.run_load hW 2 3 _ rfl Try.isAgg3 rfl rfl rfl) ?_
 refine detS 6 rfl ?_; refine detS 7 rfl ?_
 refine detT (v := .pointer (some ⟨g, 1 + m * 5, none⟩)) 8 rfl (fun W hW => by (first | (go_simp; done) | (go_simp; omega) | (rw [hq.out]; go_simp; done) | (rw [hq.out]; go_simp; omega))) ?_
 refine detS 9 rfl ?_
 refine detT (v := .slice (some ⟨gb, off, none⟩) y.objects.length bc2) 10 rfl (fun W hW => St.run_load hW 0 32 _ rfl Try.isAgg32 rfl rfl hcell) ?_
 refine detS 11 rfl ?_
 refine detT 12 rfl (fun W hW => St.run_load hW 2 3 _ rfl Try.isAgg3 rfl rfl rfl) ?_
 refine detT (v := .pointer (some ⟨gb, q, none⟩)) 13 rfl (fun W hW => by (first | (go_simp; done) | (go_simp; omega) | (rw [hq.out]; go_simp; done) | (rw [hq.out]; go_simp; omega))) ?_
 refine detS 14 rfl ?_
 refine detT 15 rfl (fun W hW => St.run_loadW hW 1 30 _ rfl Try.isAgg30 0 hpre2 rfl rfl rfl) ?_
 refine detS 16 rfl ?_; refine detS 17 rfl ?_; refine detS 18 rfl ?_
 refine detT 19 rfl (fun W hW => St.run_loadW hW 0 30 _ rfl Try.isAgg30 0 hpre rfl rfl rfl) ?_
 refine detS 20 rfl ?_; refine detS 21 rfl ?_; refine detS 22 rfl ?_
 refine detT 23 rfl (fun W hW => St.run_loadW hW 0 31 _ rfl Try.isAgg31 1 hpre rfl rfl rfl) ?_
 refine det_call (fn := 28) 24 rfl (by decide +kernel) (by first | exact wanted_none rfl | exact wanted_some rfl rfl) (fun W => by first | (go_simp; done) | (go_simp; rfl)) (fun W hW => (HF.out W _ hW).mono fun e w' h => ⟨h.1, hW.call h.2⟩) ?_; simp only [kP, kA, kS, kZ]
 refine detS 25 rfl ?_; refine detS 26 rfl ?_
 refine det_done (by decide +kernel) ?_
 clear st
 intro W2 st
 go_wp2_with fail
 refine det_region (by kernel_rfl) 14 rfl (fun W => St [g, gb] w W [(g, 38, winC (preC k css n) [.slice xa x.label.length xc, .slice oa x.own.length oc, .string x.text, .slice ba x.objects.length bc, .slice ma x.mails.length mc] (postC k css n)), (gb, 73, winC pre2 [.slice la2 o.label.length lc2, .string o.text] post2), (g5, 40, [.int .i64 4, .int .i64 c.h, .int .i64 m, .int .i64 j, .int .i64 c.c, .slice la c.label.length lc, .slice ga c.grants.length gc, .string c.text]), (g6, 52, [.int .i64 0, .int .i64 0, .string ⟨#[]⟩])]) (st.drew) (by decide +kernel) ?_
 refine detS 0 rfl ?_; refine detS 1 rfl ?_
 refine detT 2 rfl (fun W hW => St.run_load hW 2 3 _ rfl Try.isAgg3 rfl rfl rfl) ?_
 refine detS 3 rfl ?_; refine detS 4 rfl ?_
 refine detT (v := .pointer (some ⟨g, 1 + m * 5, none⟩)) 5 rfl (fun W hW => by (first | (go_simp; done) | (go_simp; omega) | (rw [hq.out]; go_simp; done) | (rw [hq.out]; go_simp; omega))) ?_
 refine detS 6 rfl ?_
 refine detT (v := .slice (some ⟨gb, off, none⟩) y.objects.length bc2) 7 rfl (fun W hW => St.run_load hW 0 32 _ rfl Try.isAgg32 rfl rfl hcell) ?_
 refine detS 8 rfl ?_
 refine detT 9 rfl (fun W hW => St.run_load hW 2 3 _ rfl Try.isAgg3 rfl rfl rfl) ?_
 refine detT (v := .pointer (some ⟨gb, q, none⟩)) 10 rfl (fun W hW => by (first | (go_simp; done) | (go_simp; omega) | (rw [hq.out]; go_simp; done) | (rw [hq.out]; go_simp; omega))) ?_
 refine detS 11 rfl ?_
 refine detT 12 rfl (fun W hW => St.run_loadW hW 1 9 _ rfl Try.isAgg9 1 hpre2 rfl rfl rfl) ?_
 refine detS 13 rfl ?_
 refine det_done (by decide +kernel) ?_
 clear st
 intro W3 st
 go_wp2_with (first | go_skip | (with_reducible refine at_load 9 ?_; (first | refine mem_loadW st 9 _ rfl (wanted_none rfl) Try.isAgg9 2 ?_ | (refine mem_loadW st 9 _ rfl (wanted_some rfl ?_) Try.isAgg9 2 ?_; focus (simp [yielded, Act.put]; done))); refine ⟨0, _, _, _, _, _, _, _, hpre, rfl, rfl, rfl, ?_⟩) | (go_at_call 25; go_must (refine (HLa.out _).mono ?_; rintro e vl ⟨rfl, hbl⟩; replace st := st.call hbl; clear hbl)) | (with_reducible refine at_store 9 ?_; refine mem_storeW st 9 _ _ rfl (wanted_none rfl) _ Try.sizeOf9 2 ?_; refine ⟨0, _, _, _, _, _, _, _, hpre, rfl, rfl, rfl, rfl, rfl, rfl, ?_⟩; clear st; intro w8 st hw8m hw8z; simp [Act.eval, Act.put, Value.cells, putL] at st) | (with_reducible refine mS 3 st Try.sizeOf52 ?_; clear st; intro w7 st hw7m hw7z))
 have hc := fun j => st.cell (i := 3) rfl j
 refine bodyPost_ret (v := RepV (⟨0, o.text.size, ⟨#[]⟩⟩)) ?hr rfl ?_
 case hr => simp [results, Try.results14, go_sem, hc, RepV, errR]; try rfl
 rw [HE.out]
 exact ⟨rfl, h.closeSame (made' := k.made) (x' := { x with text := lastB (x.text ++ o.text) }) hn ec eB hT (st.drop2 (mgE (i := 1) rfl) hb2 (by simpa [thrC] using hgb) (by simp)) rfl rfl (h.fine eB ((hT.label.keep (HKp2.out _ _ st)).okay fun _ r => .inl r)) (h.fine eB ((hT.own.keep (HKp2.out _ _ st)).okay fun _ r => .inl r))⟩
end
end Go.Proofs.Ytealbofmlieicaa
