/- Walks and plain laws, part 24. -/
import Derived.Test.YtealbofmlieicaaP21
import Derived.Deep.CutRange
import Derived.Deep.LoopGhost
import Derived.Deep.CutBlock
set_option linter.unusedSimpArgs false
set_option linter.unusedVariables false
set_option maxHeartbeats 16000000
set_option maxRecDepth 100000
namespace Go.Proofs.Ytealbofmlieicaa
open Go.RowKit
section
variable (ok okc : Nat → Prop) (w : World) (g : Nat) (k : Ker) (css : List (List Value)) (Bs : List (List Nat)) (n : Nat) (c : Req) (la : Option Addr) (lc : Nat) (ga : Option Addr) (gc : Nat)
theorem ref_Call_level_yes (h : RkAt ok w g k css Bs) (hk : ∀ x ∈ k.threads, x.ok) (hn : n < 4) (hx64 : ¬ 64 < c.text.size) (hkd : c.kind = 5) (he : (setR (k.thr n).label c.c c.n).2 = 0) (hf : flowsL (k.thr n).label (setR (k.thr n).label c.c c.n).1 (k.thr n).own = true) :
  Calls Try.prog 14 #[.pointer (some ⟨g, 0, none⟩), .int .i64 n, reqV c la lc ga gc] w (RCallPost ok w g Bs (callK k n c)) := by
 obtain ⟨x, xa, xc, oa, oc, ba, bc, ma, mc, ex, ec, eB, hT, hb⟩ := h.open hn
 have hx := hk x (mgE ex)
 have hpre := h.preLen hn
 have hth := Ker.thr_at ex
 have st0 := St.hand hb
 unfold thrC at st0
 have d1 : decide ((n : Int) < 0) = false := by simp
 have d2 : decide ((4 : Int) ≤ n) = false := by simp; omega
 have d64 := text_size hx64
 have hgg : ¬ ok g := h.apart g (by simp)
 have H4 := qh (fun (W : World) => ref_four (n : Int) W)
 rw [four_of hn] at H4
 have HKp := qh (show ∀ (W : World) (bl : Blks), St [g] w W bl → Keeps ok w W from fun W bl s => s.keeps (by simpa using hgg))
 have HB := qh (show ∀ (W : World) (bl : Blks), St [g] w W bl → (g, 38, winC (preC k css n) [.slice xa x.label.length xc, .slice oa x.own.length oc, .string x.text, .slice ba x.objects.length bc, .slice ma x.mails.length mc] (postC k css n)) ∈ bl → Below w.heap.size w W from fun W bl s hm => st0.below2 s (by simpa using hm))
 have hxf := goodL_fitI hx.good; have hxl := goodL_len hx.good; have hxo := hx.ownL; have hxm := hx.mailN; have hxb := hx.objs; have hxt := hx.text
 have st := st0
 clear st0
 unfold reqV
 go_enter Try.func14, Try.ntmps14
 go_upto_region 7 with (first | go_skip | (go_at_call 24; go_must (refine (H4.out _).mono ?_; rintro e v1 ⟨rfl, rfl⟩)) | (with_reducible refine mB 40 st ?_; clear st; intro g5 w5 hg5 st) | (with_reducible refine mA st Try.zeroValue52 ?_; clear st; intro g6 w6 hg6 st) | (with_reducible refine mX st Try.isAgg9 ?_))
 try simp only [kP, kA, kS, kZ]
 go_cut [9] from 37 to 59 (fun s9 wx => s9 = .bool (k.there c.t c.n) ∧ St [g] w wx [(g, 38, winC (preC k css n) [.slice xa x.label.length xc, .slice oa x.own.length oc, .string x.text, .slice ba x.objects.length bc, .slice ma x.mails.length mc] (postC k css n)), (g5, 40, [.int .i64 c.kind, .int .i64 c.h, .int .i64 c.t, .int .i64 c.n, .int .i64 c.c, .slice la c.label.length lc, .slice ga c.grants.length gc, .string c.text]), (g6, 52, [.int .i64 0, .int .i64 0, .string ⟨#[]⟩])])
 case first =>
  have HTh := qh (h.thereCases hn ec c.t c.n)
  unfold thrC at HTh
  rcases HTh.out with ⟨h1, h2⟩ | ⟨h1, h2, h3⟩ | ⟨m, j, y, yb, yc, hm, et, en, hth, hcell⟩
  ·have F4 := qh (fun (W : World) => ref_four c.t W)
   rw [h1] at F4
   replace h2 := qh h2
   clear h1
   refine det_region (by kernel_rfl) 24 rfl (fun W => St [g] w W [(g, 38, winC (preC k css n) [.slice xa x.label.length xc, .slice oa x.own.length oc, .string x.text, .slice ba x.objects.length bc, .slice ma x.mails.length mc] (postC k css n)), (g5, 40, [.int .i64 c.kind, .int .i64 c.h, .int .i64 c.t, .int .i64 c.n, .int .i64 c.c, .slice la c.label.length lc, .slice ga c.grants.length gc, .string c.text]), (g6, 52, [.int .i64 0, .int .i64 0, .string ⟨#[]⟩])]) (st.drew) (by decide +kernel) ?_
   refine detS 0 rfl ?_
   refine detT 1 rfl (fun W hW => St.run_load hW 1 3 _ rfl Try.isAgg3 rfl rfl rfl) ?_
   refine det_call (fn := 24) 2 rfl (by decide +kernel) (by first | exact wanted_none rfl | exact wanted_some rfl rfl) (fun W => by first | (go_simp; done) | (go_simp; rfl)) (fun W hW => (F4.out W).mono fun e w' h => ⟨h.1, h.2 ▸ hW⟩) ?_; simp only [kP, kA, kS, kZ]
   refine detS 3 rfl ?_
   refine detK 4 rfl ?_; refine detK 5 rfl ?_; refine detK 6 rfl ?_
   refine detS 7 rfl ?_; refine detS 8 rfl ?_
   refine detK 9 rfl ?_; refine detK 10 rfl ?_; refine detK 11 rfl ?_; refine detK 12 rfl ?_; refine detK 13 rfl ?_; refine detK 14 rfl ?_; refine detK 15 rfl ?_; refine detK 16 rfl ?_; refine detK 17 rfl ?_; refine detK 18 rfl ?_; refine detK 19 rfl ?_; refine detK 20 rfl ?_; refine detK 21 rfl ?_
   refine detS 22 rfl ?_; refine detS 23 rfl ?_
   refine det_done (by decide +kernel) ?_
   clear st
   intro W st
   go_wp2_with fail
   go_meet
   exact ⟨by rw [h2.out], st⟩
  ·have F4 := qh (fun (W : World) => ref_four c.t W)
   rw [h1] at F4
   replace h3 := qh h3
   have d3 : decide ((0 : Int) ≤ c.n) = false := by simpa using h2
   clear h1 h2
   refine det_region (by kernel_rfl) 24 rfl (fun W => St [g] w W [(g, 38, winC (preC k css n) [.slice xa x.label.length xc, .slice oa x.own.length oc, .string x.text, .slice ba x.objects.length bc, .slice ma x.mails.length mc] (postC k css n)), (g5, 40, [.int .i64 c.kind, .int .i64 c.h, .int .i64 c.t, .int .i64 c.n, .int .i64 c.c, .slice la c.label.length lc, .slice ga c.grants.length gc, .string c.text]), (g6, 52, [.int .i64 0, .int .i64 0, .string ⟨#[]⟩])]) (st.drew) (by decide +kernel) ?_
   refine detS 0 rfl ?_
   refine detT 1 rfl (fun W hW => St.run_load hW 1 3 _ rfl Try.isAgg3 rfl rfl rfl) ?_
   refine det_call (fn := 24) 2 rfl (by decide +kernel) (by first | exact wanted_none rfl | exact wanted_some rfl rfl) (fun W => by first | (go_simp; done) | (go_simp; rfl)) (fun W hW => (F4.out W).mono fun e w' h => ⟨h.1, h.2 ▸ hW⟩) ?_; simp only [kP, kA, kS, kZ]
   refine detS 3 rfl ?_; refine detS 4 rfl ?_
   refine detT 5 rfl (fun W hW => St.run_load hW 1 3 _ rfl Try.isAgg3 rfl rfl rfl) ?_
   refine detT (v := .bool false) 6 rfl (fun W hW => by (go_simp; done)) ?_
   refine detS 7 rfl ?_; refine detS 8 rfl ?_
   refine detK 9 rfl ?_; refine detK 10 rfl ?_; refine detK 11 rfl ?_; refine detK 12 rfl ?_; refine detK 13 rfl ?_; refine detK 14 rfl ?_; refine detK 15 rfl ?_; refine detK 16 rfl ?_; refine detK 17 rfl ?_; refine detK 18 rfl ?_; refine detK 19 rfl ?_; refine detK 20 rfl ?_; refine detK 21 rfl ?_
   refine detS 22 rfl ?_; refine detS 23 rfl ?_
   refine det_done (by decide +kernel) ?_
   clear st
   intro W st
   go_wp2_with fail
   go_meet
   exact ⟨by rw [h3.out], st⟩
  ·have F4 := qh (fun (W : World) => ref_four (m : Int) W)
   rw [four_of hm] at F4
   have d3 : decide ((0 : Int) ≤ (j : Int)) = true := by simp
   have d5 : decide ((m : Int) < 0) = false := by simp
   have d6 : decide ((4 : Int) ≤ m) = false := by simp; omega
   rw [et, en] at st
   replace et := qh et
   replace en := qh en
   replace hth := qh hth
   refine det_region (by kernel_rfl) 24 rfl (fun W => St [g] w W [(g, 38, winC (preC k css n) [.slice xa x.label.length xc, .slice oa x.own.length oc, .string x.text, .slice ba x.objects.length bc, .slice ma x.mails.length mc] (postC k css n)), (g5, 40, [.int .i64 c.kind, .int .i64 c.h, .int .i64 m, .int .i64 j, .int .i64 c.c, .slice la c.label.length lc, .slice ga c.grants.length gc, .string c.text]), (g6, 52, [.int .i64 0, .int .i64 0, .string ⟨#[]⟩])]) (st.drew) (by decide +kernel) ?_
   refine detS 0 rfl ?_
   refine detT 1 rfl (fun W hW => St.run_load hW 1 3 _ rfl Try.isAgg3 rfl rfl rfl) ?_
   refine det_call (fn := 24) 2 rfl (by decide +kernel) (by first | exact wanted_none rfl | exact wanted_some rfl rfl) (fun W => by first | (go_simp; done) | (go_simp; rfl)) (fun W hW => (F4.out W).mono fun e w' h => ⟨h.1, h.2 ▸ hW⟩) ?_; simp only [kP, kA, kS, kZ]
   refine detS 3 rfl ?_; refine detS 4 rfl ?_
   refine detT 5 rfl (fun W hW => St.run_load hW 1 3 _ rfl Try.isAgg3 rfl rfl rfl) ?_
   refine detT (v := .bool true) 6 rfl (fun W hW => by (go_simp; done)) ?_
   refine detS 7 rfl ?_; refine detS 8 rfl ?_; refine detS 9 rfl ?_
   refine detT 10 rfl (fun W hW => St.run_load hW 1 3 _ rfl Try.isAgg3 rfl rfl rfl) ?_
   refine detS 11 rfl ?_; refine detS 12 rfl ?_
   refine detT 13 rfl (fun W hW => St.run_load hW 1 3 _ rfl Try.isAgg3 rfl rfl rfl) ?_
   refine detT (v := .int .i64 m) 14 rfl (fun W hW => by (exact run_and3 _ _ _ rfl hm rfl rfl)) ?_
   refine detS 15 rfl ?_; refine detS 16 rfl ?_
   refine detT (v := .pointer (some ⟨g, 1 + m * 5, none⟩)) 17 rfl (fun W hW => by (first | (go_simp; done) | (go_simp; omega))) ?_
   refine detS 18 rfl ?_
   refine detT (v := .slice yb y.objects.length yc) 19 rfl (fun W hW => St.run_load hW 0 32 _ rfl Try.isAgg32 rfl rfl hcell) ?_
   refine detS 20 rfl ?_
   refine detT (v := .bool (decide ((j : Int) < y.objects.length))) 21 rfl (fun W hW => by (go_simp; done)) ?_
   refine detS 22 rfl ?_; refine detS 23 rfl ?_
   refine det_done (by decide +kernel) ?_
   clear st
   intro W st
   go_wp2_with fail
   go_meet
   exact ⟨by rw [hth.out]; simp, by rw [et.out, en.out]; exact st⟩
 case rest =>
 obtain ⟨rfl, st⟩ := hcut
 have hg5w : w.heap.size ≤ g5 := hg5
 have hg6w : w.heap.size ≤ g6 := hg6
 have hlen := setR_len x.label c.c c.n
 have HS := qh (fun (W : World) (bl : Blks) (hW : St [g] w W bl) => ref_SetN ok W xa xc x.label c.c c.n (goodL_fit hx.good) (hT.label.keep (HKp.out W _ hW)) _ rfl)
 have hgw := h.lt g (by simp)
 rw [hth] at he hf
 have HE := qh (show callK k (n : Int) c = (k.put n { x with label := (setR x.label c.c c.n).1 }, errR 0) by unfold callK; simp [hkd, hth, he, hf])
 have HL := qh hf
 have HL2 := qh (show ∀ y ∈ (setR x.label c.c c.n).1, fitI y.c from setR_fitI he)
 have hq : ((setR x.label c.c c.n).2 == 0) = true := by simpa using he
 clear he hf
 generalize setR x.label c.c c.n = r at *
 rw [hkd] at st
 clear hkd
 go_wp2_with (first | go_skip | (with_reducible refine mX st Try.isAgg3 ?_))
 have st := st.drew
 have hI := st
 refine lex_region (by kernel_rfl) 14 rfl (fun W => St [g] w W [(g, 38, winC (preC k css n) [.slice xa x.label.length xc, .slice oa x.own.length oc, .string x.text, .slice ba x.objects.length bc, .slice ma x.mails.length mc] (postC k css n)), (g5, 40, [.int .i64 5, .int .i64 c.h, .int .i64 c.t, .int .i64 c.n, .int .i64 c.c, .slice la c.label.length lc, .slice ga c.grants.length gc, .string c.text]), (g6, 52, [.int .i64 0, .int .i64 0, .string ⟨#[]⟩])]) ?_
 refine lexS 0 rfl hI ?_
 refine lexS 1 rfl hI ?_
 refine lexS 2 rfl hI ?_
 refine lexT 3 rfl hI (fun W hW => St.run_loadW hW 0 30 _ rfl Try.isAgg30 0 hpre rfl rfl rfl) ?_
 refine lexS 4 rfl hI ?_
 refine lexT 5 rfl hI (fun W hW => St.run_load hW 1 3 _ rfl Try.isAgg3 rfl rfl rfl) ?_
 refine lexS 6 rfl hI ?_
 refine lexT 7 rfl hI (fun W hW => St.run_load hW 1 3 _ rfl Try.isAgg3 rfl rfl rfl) ?_
 clear hI
 refine lexO 8 rfl fun K hK => ?_
 refine wp_callee (f := 42) (by first | (go_simp; done) | (go_simp; rfl)) ?_
 refine (HS.out _ _ st).mono ?_
 rintro e v1 ⟨a1, k1, rfl, hb1, hO⟩
 have hl5 := st.ltAt (i := 1) rfl
 have hl6 := st.ltAt (i := 2) rfl
 have hbs := st.size
 have hbz := hb1.size
 refine ⟨_, rfl, ?_⟩
 replace st := st.call hb1
 clear hb1
 refine hK _ _ (st) ?_; clear hK; simp only [kP, kA, kS, kZ]
 have hI := st
 refine lexS 9 rfl hI ?_
 refine lexS 10 rfl hI ?_
 refine lexS 11 rfl hI ?_
 refine lexS 12 rfl hI ?_
 refine lexS 13 rfl hI ?_
 clear hI
 refine lex_done (by decide +kernel) ?_
 have hst := st
 have st := hst.rebase
 simp only [List.map_cons, List.map_nil] at st
 have HF := qh (fun (W : World) (bl : Blks) (hW : St [g, g5, g6] v1 W bl) (hm : (g, 38, winC (preC k css n) [.slice xa x.label.length xc, .slice oa x.own.length oc, .string x.text, .slice ba x.objects.length bc, .slice ma x.mails.length mc] (postC k css n)) ∈ bl) => ref_Flows (fun _ => True) W xa a1 oa xc k1 oc x.label r.1 x.own hxf HL2.out (by unfold maxLen; omega) ((hT.label.keep (HKp.out _ _ (St.back hst hW))).okay fun _ _ => trivial) ((hO.move hW.size (fun b hb ho => ⟨trivial, hW.frame b hb (by simp; omega)⟩) fun _ _ r => r)) ((hT.own.keep (HKp.out _ _ (St.back hst hW))).okay fun _ _ => trivial))
 rw [HL.out] at HF
 go_wp2_with (first | go_skip | fail)
 refine det_region (by kernel_rfl) 11 rfl (fun W => St [g, g5, g6] v1 W [(g, 38, winC (preC k css n) [.slice xa x.label.length xc, .slice oa x.own.length oc, .string x.text, .slice ba x.objects.length bc, .slice ma x.mails.length mc] (postC k css n)), (g5, 40, [.int .i64 5, .int .i64 c.h, .int .i64 c.t, .int .i64 c.n, .int .i64 c.c, .slice la c.label.length lc, .slice ga c.grants.length gc, .string c.text]), (g6, 52, [.int .i64 0, .int .i64 0, .string ⟨#[]⟩])]) (st.drew) (by decide +kernel) ?_
 refine detS 0 rfl ?_; refine detS 1 rfl ?_; refine detS 2 rfl ?_
 refine detT 3 rfl (fun W hW => St.run_loadW hW 0 30 _ rfl Try.isAgg30 0 hpre rfl rfl rfl) ?_
 refine detS 4 rfl ?_; refine detS 5 rfl ?_; refine detS 6 rfl ?_; refine detS 7 rfl ?_
 refine detT 8 rfl (fun W hW => St.run_loadW hW 0 31 _ rfl Try.isAgg31 1 hpre rfl rfl rfl) ?_
 refine det_call (fn := 28) 9 rfl (by decide +kernel) (by first | exact wanted_none rfl | exact wanted_some rfl rfl) (fun W => by first | (go_simp; done) | (go_simp; rfl)) (fun W hW => (HF.out W _ hW (by simp)).mono fun e w' h => ⟨h.1, hW.call h.2⟩) ?_; simp only [kP, kA, kS, kZ]
 refine detS 10 rfl ?_
 refine det_done (by decide +kernel) ?_
 clear st
 intro W2 st
 go_wp2_with (first | go_skip | (with_reducible refine at_store 30 ?_; refine mem_storeW st 30 _ _ rfl (wanted_none rfl) _ Try.sizeOf30 0 ?_; refine ⟨0, _, _, _, _, _, _, _, hpre, rfl, rfl, rfl, rfl, rfl, rfl, ?_⟩; clear st; intro w8 st hw8m hw8z; simp [Act.eval, Act.put, Value.cells, putL] at st) | (go_at_call 39; go_must (refine (rcall_no _ _).mono ?_; rintro e vn ⟨rfl, hbn⟩; replace st := st.call hbn; clear hbn)) | (with_reducible refine mS 2 st Try.sizeOf52 ?_; clear st; intro w7 st hw7m hw7z))
 have hc := fun j => st.cell (i := 2) rfl j
 refine bodyPost_ret (v := RepV (errR 0)) ?hr rfl ?_
 case hr => simp [results, Try.results14, go_sem, hc, RepV, errR]; try rfl
 rw [HE.out]
 exact ⟨rfl, h.closeSame (made' := k.made) (x' := { x with label := r.1 }) (x := x) (la' := a1) (lc' := k1) hn ec eB hT ((St.back hst st).sub (by simp [thrC]) (by simp)) rfl rfl (h.fine eB ((hO.move st.size (fun b hb ho => ⟨ho, st.frame b hb (by simp; omega)⟩) fun _ _ r => r).okay fun b ho => .inr (by omega))) (h.fine eB ((hT.own.keep (HKp.out _ _ (St.back hst st))).okay fun _ r => .inl r))⟩
end
section
variable (ok okc : Nat → Prop) (w : World) (g : Nat) (k : Ker) (css : List (List Value)) (Bs : List (List Nat)) (n : Nat) (c : Req) (la : Option Addr) (lc : Nat) (ga : Option Addr) (gc : Nat)
theorem ref_Call_put_none (h : RkAt ok w g k css Bs) (hk : ∀ x ∈ k.threads, x.ok) (hn : n < 4) (hx64 : ¬ 64 < c.text.size) (hkd : c.kind = 3) (hob : k.obj c.t c.n = none) :
  Calls Try.prog 14 #[.pointer (some ⟨g, 0, none⟩), .int .i64 n, reqV c la lc ga gc] w (RCallPost ok w g Bs (callK k n c)) := by
 obtain ⟨x, xa, xc, oa, oc, ba, bc, ma, mc, ex, ec, eB, hT, hb⟩ := h.open hn
 have hx := hk x (mgE ex)
 have hpre := h.preLen hn
 have hth := Ker.thr_at ex
 have st0 := St.hand hb
 unfold thrC at st0
 have d1 : decide ((n : Int) < 0) = false := by simp
 have d2 : decide ((4 : Int) ≤ n) = false := by simp; omega
 have d64 := text_size hx64
 have hgg : ¬ ok g := h.apart g (by simp)
 have H4 := qh (fun (W : World) => ref_four (n : Int) W)
 rw [four_of hn] at H4
 have HKp := qh (show ∀ (W : World) (bl : Blks), St [g] w W bl → Keeps ok w W from fun W bl s => s.keeps (by simpa using hgg))
 have HB := qh (show ∀ (W : World) (bl : Blks), St [g] w W bl → (g, 38, winC (preC k css n) [.slice xa x.label.length xc, .slice oa x.own.length oc, .string x.text, .slice ba x.objects.length bc, .slice ma x.mails.length mc] (postC k css n)) ∈ bl → Below w.heap.size w W from fun W bl s hm => st0.below2 s (by simpa using hm))
 have hxf := goodL_fitI hx.good; have hxl := goodL_len hx.good; have hxo := hx.ownL; have hxm := hx.mailN; have hxb := hx.objs; have hxt := hx.text
 have st := st0
 clear st0
 unfold reqV
 go_enter Try.func14, Try.ntmps14
 go_upto_region 7 with (first | go_skip | (go_at_call 24; go_must (refine (H4.out _).mono ?_; rintro e v1 ⟨rfl, rfl⟩)) | (with_reducible refine mB 40 st ?_; clear st; intro g5 w5 hg5 st) | (with_reducible refine mA st Try.zeroValue52 ?_; clear st; intro g6 w6 hg6 st) | (with_reducible refine mX st Try.isAgg9 ?_))
 try simp only [kP, kA, kS, kZ]
 go_cut [9] from 37 to 59 (fun s9 wx => s9 = .bool (k.there c.t c.n) ∧ St [g] w wx [(g, 38, winC (preC k css n) [.slice xa x.label.length xc, .slice oa x.own.length oc, .string x.text, .slice ba x.objects.length bc, .slice ma x.mails.length mc] (postC k css n)), (g5, 40, [.int .i64 c.kind, .int .i64 c.h, .int .i64 c.t, .int .i64 c.n, .int .i64 c.c, .slice la c.label.length lc, .slice ga c.grants.length gc, .string c.text]), (g6, 52, [.int .i64 0, .int .i64 0, .string ⟨#[]⟩])])
 case first =>
  have HTh := qh (h.thereCases hn ec c.t c.n)
  unfold thrC at HTh
  rcases HTh.out with ⟨h1, h2⟩ | ⟨h1, h2, h3⟩ | ⟨m, j, y, yb, yc, hm, et, en, hth, hcell⟩
  ·have F4 := qh (fun (W : World) => ref_four c.t W)
   rw [h1] at F4
   replace h2 := qh h2
   clear h1
   refine det_region (by kernel_rfl) 24 rfl (fun W => St [g] w W [(g, 38, winC (preC k css n) [.slice xa x.label.length xc, .slice oa x.own.length oc, .string x.text, .slice ba x.objects.length bc, .slice ma x.mails.length mc] (postC k css n)), (g5, 40, [.int .i64 c.kind, .int .i64 c.h, .int .i64 c.t, .int .i64 c.n, .int .i64 c.c, .slice la c.label.length lc, .slice ga c.grants.length gc, .string c.text]), (g6, 52, [.int .i64 0, .int .i64 0, .string ⟨#[]⟩])]) (st.drew) (by decide +kernel) ?_
   refine detS 0 rfl ?_
   refine detT 1 rfl (fun W hW => St.run_load hW 1 3 _ rfl Try.isAgg3 rfl rfl rfl) ?_
   refine det_call (fn := 24) 2 rfl (by decide +kernel) (by first | exact wanted_none rfl | exact wanted_some rfl rfl) (fun W => by first | (go_simp; done) | (go_simp; rfl)) (fun W hW => (F4.out W).mono fun e w' h => ⟨h.1, h.2 ▸ hW⟩) ?_; simp only [kP, kA, kS, kZ]
   refine detS 3 rfl ?_
   refine detK 4 rfl ?_; refine detK 5 rfl ?_; refine detK 6 rfl ?_
   refine detS 7 rfl ?_; refine detS 8 rfl ?_
   refine detK 9 rfl ?_; refine detK 10 rfl ?_; refine detK 11 rfl ?_; refine detK 12 rfl ?_; refine detK 13 rfl ?_; refine detK 14 rfl ?_; refine detK 15 rfl ?_; refine detK 16 rfl ?_; refine detK 17 rfl ?_; refine detK 18 rfl ?_; refine detK 19 rfl ?_; refine detK 20 rfl ?_; refine detK 21 rfl ?_
   refine detS 22 rfl ?_; refine detS 23 rfl ?_
   refine det_done (by decide +kernel) ?_
   clear st
   intro W st
   go_wp2_with fail
   go_meet
   exact ⟨by rw [h2.out], st⟩
  ·have F4 := qh (fun (W : World) => ref_four c.t W)
   rw [h1] at F4
   replace h3 := qh h3
   have d3 : decide ((0 : Int) ≤ c.n) = false := by simpa using h2
   clear h1 h2
   refine det_region (by kernel_rfl) 24 rfl (fun W => St [g] w W [(g, 38, winC (preC k css n) [.slice xa x.label.length xc, .slice oa x.own.length oc, .string x.text, .slice ba x.objects.length bc, .slice ma x.mails.length mc] (postC k css n)), (g5, 40, [.int .i64 c.kind, .int .i64 c.h, .int .i64 c.t, .int .i64 c.n, .int .i64 c.c, .slice la c.label.length lc, .slice ga c.grants.length gc, .string c.text]), (g6, 52, [.int .i64 0, .int .i64 0, .string ⟨#[]⟩])]) (st.drew) (by decide +kernel) ?_
   refine detS 0 rfl ?_
   refine detT 1 rfl (fun W hW => St.run_load hW 1 3 _ rfl Try.isAgg3 rfl rfl rfl) ?_
   refine det_call (fn := 24) 2 rfl (by decide +kernel) (by first | exact wanted_none rfl | exact wanted_some rfl rfl) (fun W => by first | (go_simp; done) | (go_simp; rfl)) (fun W hW => (F4.out W).mono fun e w' h => ⟨h.1, h.2 ▸ hW⟩) ?_; simp only [kP, kA, kS, kZ]
   refine detS 3 rfl ?_; refine detS 4 rfl ?_
   refine detT 5 rfl (fun W hW => St.run_load hW 1 3 _ rfl Try.isAgg3 rfl rfl rfl) ?_
   refine detT (v := .bool false) 6 rfl (fun W hW => by (go_simp; done)) ?_
   refine detS 7 rfl ?_; refine detS 8 rfl ?_
   refine detK 9 rfl ?_; refine detK 10 rfl ?_; refine detK 11 rfl ?_; refine detK 12 rfl ?_; refine detK 13 rfl ?_; refine detK 14 rfl ?_; refine detK 15 rfl ?_; refine detK 16 rfl ?_; refine detK 17 rfl ?_; refine detK 18 rfl ?_; refine detK 19 rfl ?_; refine detK 20 rfl ?_; refine detK 21 rfl ?_
   refine detS 22 rfl ?_; refine detS 23 rfl ?_
   refine det_done (by decide +kernel) ?_
   clear st
   intro W st
   go_wp2_with fail
   go_meet
   exact ⟨by rw [h3.out], st⟩
  ·have F4 := qh (fun (W : World) => ref_four (m : Int) W)
   rw [four_of hm] at F4
   have d3 : decide ((0 : Int) ≤ (j : Int)) = true := by simp
   have d5 : decide ((m : Int) < 0) = false := by simp
   have d6 : decide ((4 : Int) ≤ m) = false := by simp; omega
   rw [et, en] at st
   replace et := qh et
   replace en := qh en
   replace hth := qh hth
   refine det_region (by kernel_rfl) 24 rfl (fun W => St [g] w W [(g, 38, winC (preC k css n) [.slice xa x.label.length xc, .slice oa x.own.length oc, .string x.text, .slice ba x.objects.length bc, .slice ma x.mails.length mc] (postC k css n)), (g5, 40, [.int .i64 c.kind, .int .i64 c.h, .int .i64 m, .int .i64 j, .int .i64 c.c, .slice la c.label.length lc, .slice ga c.grants.length gc, .string c.text]), (g6, 52, [.int .i64 0, .int .i64 0, .string ⟨#[]⟩])]) (st.drew) (by decide +kernel) ?_
   refine detS 0 rfl ?_
   refine detT 1 rfl (fun W hW => St.run_load hW 1 3 _ rfl Try.isAgg3 rfl rfl rfl) ?_
   refine det_call (fn := 24) 2 rfl (by decide +kernel) (by first | exact wanted_none rfl | exact wanted_some rfl rfl) (fun W => by first | (go_simp; done) | (go_simp; rfl)) (fun W hW => (F4.out W).mono fun e w' h => ⟨h.1, h.2 ▸ hW⟩) ?_; simp only [kP, kA, kS, kZ]
   refine detS 3 rfl ?_; refine detS 4 rfl ?_
   refine detT 5 rfl (fun W hW => St.run_load hW 1 3 _ rfl Try.isAgg3 rfl rfl rfl) ?_
   refine detT (v := .bool true) 6 rfl (fun W hW => by (go_simp; done)) ?_
   refine detS 7 rfl ?_; refine detS 8 rfl ?_; refine detS 9 rfl ?_
   refine detT 10 rfl (fun W hW => St.run_load hW 1 3 _ rfl Try.isAgg3 rfl rfl rfl) ?_
   refine detS 11 rfl ?_; refine detS 12 rfl ?_
   refine detT 13 rfl (fun W hW => St.run_load hW 1 3 _ rfl Try.isAgg3 rfl rfl rfl) ?_
   refine detT (v := .int .i64 m) 14 rfl (fun W hW => by (exact run_and3 _ _ _ rfl hm rfl rfl)) ?_
   refine detS 15 rfl ?_; refine detS 16 rfl ?_
   refine detT (v := .pointer (some ⟨g, 1 + m * 5, none⟩)) 17 rfl (fun W hW => by (first | (go_simp; done) | (go_simp; omega))) ?_
   refine detS 18 rfl ?_
   refine detT (v := .slice yb y.objects.length yc) 19 rfl (fun W hW => St.run_load hW 0 32 _ rfl Try.isAgg32 rfl rfl hcell) ?_
   refine detS 20 rfl ?_
   refine detT (v := .bool (decide ((j : Int) < y.objects.length))) 21 rfl (fun W hW => by (go_simp; done)) ?_
   refine detS 22 rfl ?_; refine detS 23 rfl ?_
   refine det_done (by decide +kernel) ?_
   clear st
   intro W st
   go_wp2_with fail
   go_meet
   exact ⟨by rw [hth.out]; simp, by rw [et.out, en.out]; exact st⟩
 case rest =>
 obtain ⟨rfl, st⟩ := hcut
 have hg5w : w.heap.size ≤ g5 := hg5
 have hg6w : w.heap.size ≤ g6 := hg6
 have HN := qh (show k.there c.t c.n = false by unfold Ker.there; rw [hob]; rfl)
 have HE := qh (show callK k (n : Int) c = (k, errR 0) by unfold callK; simp [hkd, hob])
 rw [hkd] at st
 clear hkd hob
 rw [HN.out]
 go_wp2_with (first | go_skip | (with_reducible refine mX st Try.isAgg3 ?_))
 refine det_region (by kernel_rfl) 25 rfl (fun W => St [g] w W [(g, 38, winC (preC k css n) [.slice xa x.label.length xc, .slice oa x.own.length oc, .string x.text, .slice ba x.objects.length bc, .slice ma x.mails.length mc] (postC k css n)), (g5, 40, [.int .i64 3, .int .i64 c.h, .int .i64 c.t, .int .i64 c.n, .int .i64 c.c, .slice la c.label.length lc, .slice ga c.grants.length gc, .string c.text]), (g6, 52, [.int .i64 0, .int .i64 0, .string ⟨#[]⟩])]) (st.drew) (by decide +kernel) ?_
 refine detS 0 rfl ?_; refine detS 1 rfl ?_
 refine detK 2 rfl ?_; refine detK 3 rfl ?_; refine detK 4 rfl ?_; refine detK 5 rfl ?_; refine detK 6 rfl ?_; refine detK 7 rfl ?_; refine detK 8 rfl ?_; refine detK 9 rfl ?_; refine detK 10 rfl ?_; refine detK 11 rfl ?_; refine detK 12 rfl ?_; refine detK 13 rfl ?_; refine detK 14 rfl ?_; refine detK 15 rfl ?_; refine detK 16 rfl ?_; refine detK 17 rfl ?_; refine detK 18 rfl ?_; refine detK 19 rfl ?_; refine detK 20 rfl ?_; refine detK 21 rfl ?_; refine detK 22 rfl ?_; refine detK 23 rfl ?_
 refine detS 24 rfl ?_
 refine det_done (by decide +kernel) ?_
 clear st
 intro W st
 go_wp2_with (first | go_skip | (go_at_call 39; go_must (refine (rcall_no _ _).mono ?_; rintro e vn ⟨rfl, hbn⟩; replace st := st.call hbn; clear hbn)) | (with_reducible refine mS 2 st Try.sizeOf52 ?_; clear st; intro w7 st hw7m hw7z))
 have hc := fun j => st.cell (i := 2) rfl j
 refine bodyPost_ret (v := RepV (errR 0)) ?hr rfl ?_
 case hr => simp [results, Try.results14, go_sem, hc, RepV, errR]; try rfl
 rw [HE.out]
 exact ⟨rfl, RkTo.none h (HB.out _ _ st (by simp))⟩
end
section
variable (ok okc : Nat → Prop) (w : World) (g : Nat) (k : Ker) (css : List (List Value)) (Bs : List (List Nat)) (n : Nat) (c : Req) (la : Option Addr) (lc : Nat) (ga : Option Addr) (gc : Nat)
theorem ref_Call_put_no (h : RkAt ok w g k css Bs) (hk : ∀ x ∈ k.threads, x.ok) (hn : n < 4) (hx64 : ¬ 64 < c.text.size) (hkd : c.kind = 3) (o : KObj) (hob : k.obj c.t c.n = some o) (hf : flowsL (k.thr n).label o.label (k.thr n).own = false) :
  Calls Try.prog 14 #[.pointer (some ⟨g, 0, none⟩), .int .i64 n, reqV c la lc ga gc] w (RCallPost ok w g Bs (callK k n c)) := by
 obtain ⟨x, xa, xc, oa, oc, ba, bc, ma, mc, ex, ec, eB, hT, hb⟩ := h.open hn
 have hx := hk x (mgE ex)
 have hpre := h.preLen hn
 have hth := Ker.thr_at ex
 have st0 := St.hand hb
 unfold thrC at st0
 have d1 : decide ((n : Int) < 0) = false := by simp
 have d2 : decide ((4 : Int) ≤ n) = false := by simp; omega
 have d64 := text_size hx64
 have hgg : ¬ ok g := h.apart g (by simp)
 have H4 := qh (fun (W : World) => ref_four (n : Int) W)
 rw [four_of hn] at H4
 have HKp := qh (show ∀ (W : World) (bl : Blks), St [g] w W bl → Keeps ok w W from fun W bl s => s.keeps (by simpa using hgg))
 have HB := qh (show ∀ (W : World) (bl : Blks), St [g] w W bl → (g, 38, winC (preC k css n) [.slice xa x.label.length xc, .slice oa x.own.length oc, .string x.text, .slice ba x.objects.length bc, .slice ma x.mails.length mc] (postC k css n)) ∈ bl → Below w.heap.size w W from fun W bl s hm => st0.below2 s (by simpa using hm))
 have hxf := goodL_fitI hx.good; have hxl := goodL_len hx.good; have hxo := hx.ownL; have hxm := hx.mailN; have hxb := hx.objs; have hxt := hx.text
 have st := st0
 clear st0
 unfold reqV
 go_enter Try.func14, Try.ntmps14
 go_upto_region 7 with (first | go_skip | (go_at_call 24; go_must (refine (H4.out _).mono ?_; rintro e v1 ⟨rfl, rfl⟩)) | (with_reducible refine mB 40 st ?_; clear st; intro g5 w5 hg5 st) | (with_reducible refine mA st Try.zeroValue52 ?_; clear st; intro g6 w6 hg6 st) | (with_reducible refine mX st Try.isAgg9 ?_))
 try simp only [kP, kA, kS, kZ]
 go_cut [9] from 37 to 59 (fun s9 wx => s9 = .bool (k.there c.t c.n) ∧ St [g] w wx [(g, 38, winC (preC k css n) [.slice xa x.label.length xc, .slice oa x.own.length oc, .string x.text, .slice ba x.objects.length bc, .slice ma x.mails.length mc] (postC k css n)), (g5, 40, [.int .i64 c.kind, .int .i64 c.h, .int .i64 c.t, .int .i64 c.n, .int .i64 c.c, .slice la c.label.length lc, .slice ga c.grants.length gc, .string c.text]), (g6, 52, [.int .i64 0, .int .i64 0, .string ⟨#[]⟩])])
 case first =>
  have HTh := qh (h.thereCases hn ec c.t c.n)
  unfold thrC at HTh
  rcases HTh.out with ⟨h1, h2⟩ | ⟨h1, h2, h3⟩ | ⟨m, j, y, yb, yc, hm, et, en, hth, hcell⟩
  ·have F4 := qh (fun (W : World) => ref_four c.t W)
   rw [h1] at F4
   replace h2 := qh h2
   clear h1
   refine det_region (by kernel_rfl) 24 rfl (fun W => St [g] w W [(g, 38, winC (preC k css n) [.slice xa x.label.length xc, .slice oa x.own.length oc, .string x.text, .slice ba x.objects.length bc, .slice ma x.mails.length mc] (postC k css n)), (g5, 40, [.int .i64 c.kind, .int .i64 c.h, .int .i64 c.t, .int .i64 c.n, .int .i64 c.c, .slice la c.label.length lc, .slice ga c.grants.length gc, .string c.text]), (g6, 52, [.int .i64 0, .int .i64 0, .string ⟨#[]⟩])]) (st.drew) (by decide +kernel) ?_
   refine detS 0 rfl ?_
   refine detT 1 rfl (fun W hW => St.run_load hW 1 3 _ rfl Try.isAgg3 rfl rfl rfl) ?_
   refine det_call (fn := 24) 2 rfl (by decide +kernel) (by first | exact wanted_none rfl | exact wanted_some rfl rfl) (fun W => by first | (go_simp; done) | (go_simp; rfl)) (fun W hW => (F4.out W).mono fun e w' h => ⟨h.1, h.2 ▸ hW⟩) ?_; simp only [kP, kA, kS, kZ]
   refine detS 3 rfl ?_
   refine detK 4 rfl ?_; refine detK 5 rfl ?_; refine detK 6 rfl ?_
   refine detS 7 rfl ?_; refine detS 8 rfl ?_
   refine detK 9 rfl ?_; refine detK 10 rfl ?_; refine detK 11 rfl ?_; refine detK 12 rfl ?_; refine detK 13 rfl ?_; refine detK 14 rfl ?_; refine detK 15 rfl ?_; refine detK 16 rfl ?_; refine detK 17 rfl ?_; refine detK 18 rfl ?_; refine detK 19 rfl ?_; refine detK 20 rfl ?_; refine detK 21 rfl ?_
   refine detS 22 rfl ?_; refine detS 23 rfl ?_
   refine det_done (by decide +kernel) ?_
   clear st
   intro W st
   go_wp2_with fail
   go_meet
   exact ⟨by rw [h2.out], st⟩
  ·have F4 := qh (fun (W : World) => ref_four c.t W)
   rw [h1] at F4
   replace h3 := qh h3
   have d3 : decide ((0 : Int) ≤ c.n) = false := by simpa using h2
   clear h1 h2
   refine det_region (by kernel_rfl) 24 rfl (fun W => St [g] w W [(g, 38, winC (preC k css n) [.slice xa x.label.length xc, .slice oa x.own.length oc, .string x.text, .slice ba x.objects.length bc, .slice ma x.mails.length mc] (postC k css n)), (g5, 40, [.int .i64 c.kind, .int .i64 c.h, .int .i64 c.t, .int .i64 c.n, .int .i64 c.c, .slice la c.label.length lc, .slice ga c.grants.length gc, .string c.text]), (g6, 52, [.int .i64 0, .int .i64 0, .string ⟨#[]⟩])]) (st.drew) (by decide +kernel) ?_
   refine detS 0 rfl ?_
   refine detT 1 rfl (fun W hW => St.run_load hW 1 3 _ rfl Try.isAgg3 rfl rfl rfl) ?_
   refine det_call (fn := 24) 2 rfl (by decide +kernel) (by first | exact wanted_none rfl | exact wanted_some rfl rfl) (fun W => by first | (go_simp; done) | (go_simp; rfl)) (fun W hW => (F4.out W).mono fun e w' h => ⟨h.1, h.2 ▸ hW⟩) ?_; simp only [kP, kA, kS, kZ]
   refine detS 3 rfl ?_; refine detS 4 rfl ?_
   refine detT 5 rfl (fun W hW => St.run_load hW 1 3 _ rfl Try.isAgg3 rfl rfl rfl) ?_
   refine detT (v := .bool false) 6 rfl (fun W hW => by (go_simp; done)) ?_
   refine detS 7 rfl ?_; refine detS 8 rfl ?_
   refine detK 9 rfl ?_; refine detK 10 rfl ?_; refine detK 11 rfl ?_; refine detK 12 rfl ?_; refine detK 13 rfl ?_; refine detK 14 rfl ?_; refine detK 15 rfl ?_; refine detK 16 rfl ?_; refine detK 17 rfl ?_; refine detK 18 rfl ?_; refine detK 19 rfl ?_; refine detK 20 rfl ?_; refine detK 21 rfl ?_
   refine detS 22 rfl ?_; refine detS 23 rfl ?_
   refine det_done (by decide +kernel) ?_
   clear st
   intro W st
   go_wp2_with fail
   go_meet
   exact ⟨by rw [h3.out], st⟩
  ·have F4 := qh (fun (W : World) => ref_four (m : Int) W)
   rw [four_of hm] at F4
   have d3 : decide ((0 : Int) ≤ (j : Int)) = true := by simp
   have d5 : decide ((m : Int) < 0) = false := by simp
   have d6 : decide ((4 : Int) ≤ m) = false := by simp; omega
   rw [et, en] at st
   replace et := qh et
   replace en := qh en
   replace hth := qh hth
   refine det_region (by kernel_rfl) 24 rfl (fun W => St [g] w W [(g, 38, winC (preC k css n) [.slice xa x.label.length xc, .slice oa x.own.length oc, .string x.text, .slice ba x.objects.length bc, .slice ma x.mails.length mc] (postC k css n)), (g5, 40, [.int .i64 c.kind, .int .i64 c.h, .int .i64 m, .int .i64 j, .int .i64 c.c, .slice la c.label.length lc, .slice ga c.grants.length gc, .string c.text]), (g6, 52, [.int .i64 0, .int .i64 0, .string ⟨#[]⟩])]) (st.drew) (by decide +kernel) ?_
   refine detS 0 rfl ?_
   refine detT 1 rfl (fun W hW => St.run_load hW 1 3 _ rfl Try.isAgg3 rfl rfl rfl) ?_
   refine det_call (fn := 24) 2 rfl (by decide +kernel) (by first | exact wanted_none rfl | exact wanted_some rfl rfl) (fun W => by first | (go_simp; done) | (go_simp; rfl)) (fun W hW => (F4.out W).mono fun e w' h => ⟨h.1, h.2 ▸ hW⟩) ?_; simp only [kP, kA, kS, kZ]
   refine detS 3 rfl ?_; refine detS 4 rfl ?_
   refine detT 5 rfl (fun W hW => St.run_load hW 1 3 _ rfl Try.isAgg3 rfl rfl rfl) ?_
   refine detT (v := .bool true) 6 rfl (fun W hW => by (go_simp; done)) ?_
   refine detS 7 rfl ?_; refine detS 8 rfl ?_; refine detS 9 rfl ?_
   refine detT 10 rfl (fun W hW => St.run_load hW 1 3 _ rfl Try.isAgg3 rfl rfl rfl) ?_
   refine detS 11 rfl ?_; refine detS 12 rfl ?_
   refine detT 13 rfl (fun W hW => St.run_load hW 1 3 _ rfl Try.isAgg3 rfl rfl rfl) ?_
   refine detT (v := .int .i64 m) 14 rfl (fun W hW => by (exact run_and3 _ _ _ rfl hm rfl rfl)) ?_
   refine detS 15 rfl ?_; refine detS 16 rfl ?_
   refine detT (v := .pointer (some ⟨g, 1 + m * 5, none⟩)) 17 rfl (fun W hW => by (first | (go_simp; done) | (go_simp; omega))) ?_
   refine detS 18 rfl ?_
   refine detT (v := .slice yb y.objects.length yc) 19 rfl (fun W hW => St.run_load hW 0 32 _ rfl Try.isAgg32 rfl rfl hcell) ?_
   refine detS 20 rfl ?_
   refine detT (v := .bool (decide ((j : Int) < y.objects.length))) 21 rfl (fun W hW => by (go_simp; done)) ?_
   refine detS 22 rfl ?_; refine detS 23 rfl ?_
   refine det_done (by decide +kernel) ?_
   clear st
   intro W st
   go_wp2_with fail
   go_meet
   exact ⟨by rw [hth.out]; simp, by rw [et.out, en.out]; exact st⟩
 case rest =>
 obtain ⟨rfl, st⟩ := hcut
 have hg5w : w.heap.size ≤ g5 := hg5
 have hg6w : w.heap.size ≤ g6 := hg6
 have HN := qh (show k.there c.t c.n = true by unfold Ker.there; rw [hob]; rfl)
 rw [HN.out]
 clear HN
 obtain ⟨m, j, y, ya, yc, qa, qc, gb, off, bc2, ma2, mc2, hm, et, en, ey, ecy, eBy, hTy, hoy⟩ := h.objWin hob
 have hcell := h.objCell hn hm ec ecy
 unfold thrC at hcell
 have hj := (gEs hoy).1
 obtain ⟨pre2, cs2, post2, hb2, hpre2, ⟨la2, lc2, rfl, hlo⟩, _, _⟩ := hTy.objs.window hoy
 have HQ := qh (show ∃ q, q = off + j * 2 from ⟨_, rfl⟩)
 obtain ⟨q, hq⟩ := HQ.out
 rw [← hq] at hpre2
 clear HQ
 replace hq := qh hq
 have hgb : g ≠ gb := fun e => h.gOut eBy (e ▸ mem_rows2.2 (.inl rfl))
 have hgbo : ¬ ok gb := h.apartAt eBy (mem_rows2.2 (.inl rfl))
 have hgbl : gb < w.heap.size := hTy.objs.lt rfl
 have ho := (hk y (mgE ey)).obj o (mgE hoy)
 have hof := goodL_fitI ho.1
 have hol := goodL_len ho.1
 have hot := ho.2
 have d5 : decide ((m : Int) < 0) = false := by simp
 have d6 : decide ((4 : Int) ≤ m) = false := by simp; omega
 rw [et, en] at st
 replace et := qh et
 replace en := qh en
 have st0 := St.hand2 hb hb2 hgb
 unfold thrC at st0
 have HB2 := qh (show ∀ (W : World) (bl : Blks), St [g, gb] w W bl → (g, 38, winC (preC k css n) [.slice xa x.label.length xc, .slice oa x.own.length oc, .string x.text, .slice ba x.objects.length bc, .slice ma x.mails.length mc] (postC k css n)) ∈ bl → (gb, 73, winC pre2 [.slice la2 o.label.length lc2, .string o.text] post2) ∈ bl → Below w.heap.size w W from fun W bl s hm1 hm2 => st0.below2 s (by simpa using ⟨hm1, hm2⟩))
 have HKp2 := qh (show ∀ (W : World) (bl : Blks), St [g, gb] w W bl → Keeps ok w W from fun W bl s => s.keeps (by simpa using ⟨hgg, hgbo⟩))
 replace st := st.with2 hb2 hgb hgbl
 clear st0
 have HE := qh (show callK k (n : Int) c = (k, errR 0) by unfold callK; simp [hkd, hob, hf])
 rw [hth] at hf
 have HF := qh (fun (W : World) (bl : Blks) (hW : St [g, gb] w W bl) => ref_Flows (fun _ => True) W xa la2 oa xc lc2 oc x.label o.label x.own hxf hof (by unfold maxLen; omega) (((hT.label).keep (HKp2.out W _ hW)).okay fun _ _ => trivial) (((hlo).keep (HKp2.out W _ hW)).okay fun _ _ => trivial) ((hT.own.keep (HKp2.out W _ hW)).okay fun _ _ => trivial))
 rw [hf] at HF
 clear hob hf
 rw [hkd] at st
 clear hkd
 go_wp2_with (first | go_skip | (with_reducible refine mX st Try.isAgg3 ?_))
 refine det_region (by kernel_rfl) 25 rfl (fun W => St [g, gb] w W [(g, 38, winC (preC k css n) [.slice xa x.label.length xc, .slice oa x.own.length oc, .string x.text, .slice ba x.objects.length bc, .slice ma x.mails.length mc] (postC k css n)), (gb, 73, winC pre2 [.slice la2 o.label.length lc2, .string o.text] post2), (g5, 40, [.int .i64 3, .int .i64 c.h, .int .i64 m, .int .i64 j, .int .i64 c.c, .slice la c.label.length lc, .slice ga c.grants.length gc, .string c.text]), (g6, 52, [.int .i64 0, .int .i64 0, .string ⟨#[]⟩])]) (st.drew) (by decide +kernel) ?_
 refine detS 0 rfl ?_; refine detS 1 rfl ?_; refine detS 2 rfl ?_; refine detS 3 rfl ?_; refine detS 4 rfl ?_
 refine detT 5 rfl (fun W hW => St.run_loadW hW 0 30 _ rfl Try.isAgg30 0 hpre rfl rfl rfl) ?_
 refine detS 6 rfl ?_; refine detS 7 rfl ?_
 refine detT 8 rfl (fun W hW => St.run_load hW 2 3 _ rfl Try.isAgg3 rfl rfl rfl) ?_
 refine detS 9 rfl ?_; refine detS 10 rfl ?_
 refine detT (v := .pointer (some ⟨g, 1 + m * 5, none⟩)) 11 rfl (fun W hW => by (first | (go_simp; done) | (go_simp; omega) | (rw [hq.out]; go_simp; done) | (rw [hq.out]; go_simp; omega))) ?_
 refine detS 12 rfl ?_
 refine detT (v := .slice (some ⟨gb, off, none⟩) y.objects.length bc2) 13 rfl (fun W hW => St.run_load hW 0 32 _ rfl Try.isAgg32 rfl rfl hcell) ?_
 refine detS 14 rfl ?_
 refine detT 15 rfl (fun W hW => St.run_load hW 2 3 _ rfl Try.isAgg3 rfl rfl rfl) ?_
 refine detT (v := .pointer (some ⟨gb, q, none⟩)) 16 rfl (fun W hW => by (first | (go_simp; done) | (go_simp; omega) | (rw [hq.out]; go_simp; done) | (rw [hq.out]; go_simp; omega))) ?_
 refine detS 17 rfl ?_
 refine detT 18 rfl (fun W hW => St.run_loadW hW 1 30 _ rfl Try.isAgg30 0 hpre2 rfl rfl rfl) ?_
 refine detS 19 rfl ?_; refine detS 20 rfl ?_; refine detS 21 rfl ?_
 refine detT 22 rfl (fun W hW => St.run_loadW hW 0 31 _ rfl Try.isAgg31 1 hpre rfl rfl rfl) ?_
 refine det_call (fn := 28) 23 rfl (by decide +kernel) (by first | exact wanted_none rfl | exact wanted_some rfl rfl) (fun W => by first | (go_simp; done) | (go_simp; rfl)) (fun W hW => (HF.out W _ hW).mono fun e w' h => ⟨h.1, hW.call h.2⟩) ?_; simp only [kP, kA, kS, kZ]
 refine detS 24 rfl ?_
 refine det_done (by decide +kernel) ?_
 clear st
 intro W2 st
 go_wp2_with (first | go_skip | (go_at_call 39; go_must (refine (rcall_no _ _).mono ?_; rintro e vn ⟨rfl, hbn⟩; replace st := st.call hbn; clear hbn)) | (with_reducible refine mS 3 st Try.sizeOf52 ?_; clear st; intro w7 st hw7m hw7z))
 have hc := fun j => st.cell (i := 3) rfl j
 refine bodyPost_ret (v := RepV (errR 0)) ?hr rfl ?_
 case hr => simp [results, Try.results14, go_sem, hc, RepV, errR]; try rfl
 rw [HE.out]
 exact ⟨rfl, RkTo.none h (HB2.out _ _ st (by simp) (by simp))⟩
end
section
variable (ok okc : Nat → Prop) (w : World) (g : Nat) (k : Ker) (css : List (List Value)) (Bs : List (List Nat)) (n : Nat) (c : Req) (la : Option Addr) (lc : Nat) (ga : Option Addr) (gc : Nat)
theorem ref_Call_put_yes (h : RkAt ok w g k css Bs) (hk : ∀ x ∈ k.threads, x.ok) (hn : n < 4) (hx64 : ¬ 64 < c.text.size) (hkd : c.kind = 3) (o : KObj) (hob : k.obj c.t c.n = some o) (hf : flowsL (k.thr n).label o.label (k.thr n).own = true) :
  Calls Try.prog 14 #[.pointer (some ⟨g, 0, none⟩), .int .i64 n, reqV c la lc ga gc] w (RCallPost ok w g Bs (callK k n c)) := by
 obtain ⟨x, xa, xc, oa, oc, ba, bc, ma, mc, ex, ec, eB, hT, hb⟩ := h.open hn
 have hx := hk x (mgE ex)
 have hpre := h.preLen hn
 have hth := Ker.thr_at ex
 have st0 := St.hand hb
 unfold thrC at st0
 have d1 : decide ((n : Int) < 0) = false := by simp
 have d2 : decide ((4 : Int) ≤ n) = false := by simp; omega
 have d64 := text_size hx64
 have hgg : ¬ ok g := h.apart g (by simp)
 have H4 := qh (fun (W : World) => ref_four (n : Int) W)
 rw [four_of hn] at H4
 have HKp := qh (show ∀ (W : World) (bl : Blks), St [g] w W bl → Keeps ok w W from fun W bl s => s.keeps (by simpa using hgg))
 have HB := qh (show ∀ (W : World) (bl : Blks), St [g] w W bl → (g, 38, winC (preC k css n) [.slice xa x.label.length xc, .slice oa x.own.length oc, .string x.text, .slice ba x.objects.length bc, .slice ma x.mails.length mc] (postC k css n)) ∈ bl → Below w.heap.size w W from fun W bl s hm => st0.below2 s (by simpa using hm))
 have hxf := goodL_fitI hx.good; have hxl := goodL_len hx.good; have hxo := hx.ownL; have hxm := hx.mailN; have hxb := hx.objs; have hxt := hx.text
 have st := st0
 clear st0
 unfold reqV
 go_enter Try.func14, Try.ntmps14
 go_upto_region 7 with (first | go_skip | (go_at_call 24; go_must (refine (H4.out _).mono ?_; rintro e v1 ⟨rfl, rfl⟩)) | (with_reducible refine mB 40 st ?_; clear st; intro g5 w5 hg5 st) | (with_reducible refine mA st Try.zeroValue52 ?_; clear st; intro g6 w6 hg6 st) | (with_reducible refine mX st Try.isAgg9 ?_))
 try simp only [kP, kA, kS, kZ]
 go_cut [9] from 37 to 59 (fun s9 wx => s9 = .bool (k.there c.t c.n) ∧ St [g] w wx [(g, 38, winC (preC k css n) [.slice xa x.label.length xc, .slice oa x.own.length oc, .string x.text, .slice ba x.objects.length bc, .slice ma x.mails.length mc] (postC k css n)), (g5, 40, [.int .i64 c.kind, .int .i64 c.h, .int .i64 c.t, .int .i64 c.n, .int .i64 c.c, .slice la c.label.length lc, .slice ga c.grants.length gc, .string c.text]), (g6, 52, [.int .i64 0, .int .i64 0, .string ⟨#[]⟩])])
 case first =>
  have HTh := qh (h.thereCases hn ec c.t c.n)
  unfold thrC at HTh
  rcases HTh.out with ⟨h1, h2⟩ | ⟨h1, h2, h3⟩ | ⟨m, j, y, yb, yc, hm, et, en, hth, hcell⟩
  ·have F4 := qh (fun (W : World) => ref_four c.t W)
   rw [h1] at F4
   replace h2 := qh h2
   clear h1
   refine det_region (by kernel_rfl) 24 rfl (fun W => St [g] w W [(g, 38, winC (preC k css n) [.slice xa x.label.length xc, .slice oa x.own.length oc, .string x.text, .slice ba x.objects.length bc, .slice ma x.mails.length mc] (postC k css n)), (g5, 40, [.int .i64 c.kind, .int .i64 c.h, .int .i64 c.t, .int .i64 c.n, .int .i64 c.c, .slice la c.label.length lc, .slice ga c.grants.length gc, .string c.text]), (g6, 52, [.int .i64 0, .int .i64 0, .string ⟨#[]⟩])]) (st.drew) (by decide +kernel) ?_
   refine detS 0 rfl ?_
   refine detT 1 rfl (fun W hW => St.run_load hW 1 3 _ rfl Try.isAgg3 rfl rfl rfl) ?_
   refine det_call (fn := 24) 2 rfl (by decide +kernel) (by first | exact wanted_none rfl | exact wanted_some rfl rfl) (fun W => by first | (go_simp; done) | (go_simp; rfl)) (fun W hW => (F4.out W).mono fun e w' h => ⟨h.1, h.2 ▸ hW⟩) ?_; simp only [kP, kA, kS, kZ]
   refine detS 3 rfl ?_
   refine detK 4 rfl ?_; refine detK 5 rfl ?_; refine detK 6 rfl ?_
   refine detS 7 rfl ?_; refine detS 8 rfl ?_
   refine detK 9 rfl ?_; refine detK 10 rfl ?_; refine detK 11 rfl ?_; refine detK 12 rfl ?_; refine detK 13 rfl ?_; refine detK 14 rfl ?_; refine detK 15 rfl ?_; refine detK 16 rfl ?_; refine detK 17 rfl ?_; refine detK 18 rfl ?_; refine detK 19 rfl ?_; refine detK 20 rfl ?_; refine detK 21 rfl ?_
   refine detS 22 rfl ?_; refine detS 23 rfl ?_
   refine det_done (by decide +kernel) ?_
   clear st
   intro W st
   go_wp2_with fail
   go_meet
   exact ⟨by rw [h2.out], st⟩
  ·have F4 := qh (fun (W : World) => ref_four c.t W)
   rw [h1] at F4
   replace h3 := qh h3
   have d3 : decide ((0 : Int) ≤ c.n) = false := by simpa using h2
   clear h1 h2
   refine det_region (by kernel_rfl) 24 rfl (fun W => St [g] w W [(g, 38, winC (preC k css n) [.slice xa x.label.length xc, .slice oa x.own.length oc, .string x.text, .slice ba x.objects.length bc, .slice ma x.mails.length mc] (postC k css n)), (g5, 40, [.int .i64 c.kind, .int .i64 c.h, .int .i64 c.t, .int .i64 c.n, .int .i64 c.c, .slice la c.label.length lc, .slice ga c.grants.length gc, .string c.text]), (g6, 52, [.int .i64 0, .int .i64 0, .string ⟨#[]⟩])]) (st.drew) (by decide +kernel) ?_
   refine detS 0 rfl ?_
   refine detT 1 rfl (fun W hW => St.run_load hW 1 3 _ rfl Try.isAgg3 rfl rfl rfl) ?_
   refine det_call (fn := 24) 2 rfl (by decide +kernel) (by first | exact wanted_none rfl | exact wanted_some rfl rfl) (fun W => by first | (go_simp; done) | (go_simp; rfl)) (fun W hW => (F4.out W).mono fun e w' h => ⟨h.1, h.2 ▸ hW⟩) ?_; simp only [kP, kA, kS, kZ]
   refine detS 3 rfl ?_; refine detS 4 rfl ?_
   refine detT 5 rfl (fun W hW => St.run_load hW 1 3 _ rfl Try.isAgg3 rfl rfl rfl) ?_
   refine detT (v := .bool false) 6 rfl (fun W hW => by (go_simp; done)) ?_
   refine detS 7 rfl ?_; refine detS 8 rfl ?_
   refine detK 9 rfl ?_; refine detK 10 rfl ?_; refine detK 11 rfl ?_; refine detK 12 rfl ?_; refine detK 13 rfl ?_; refine detK 14 rfl ?_; refine detK 15 rfl ?_; refine detK 16 rfl ?_; refine detK 17 rfl ?_; refine detK 18 rfl ?_; refine detK 19 rfl ?_; refine detK 20 rfl ?_; refine detK 21 rfl ?_
   refine detS 22 rfl ?_; refine detS 23 rfl ?_
   refine det_done (by decide +kernel) ?_
   clear st
   intro W st
   go_wp2_with fail
   go_meet
   exact ⟨by rw [h3.out], st⟩
  ·have F4 := qh (fun (W : World) => ref_four (m : Int) W)
   rw [four_of hm] at F4
   have d3 : decide ((0 : Int) ≤ (j : Int)) = true := by simp
   have d5 : decide ((m : Int) < 0) = false := by simp
   have d6 : decide ((4 : Int) ≤ m) = false := by simp; omega
   rw [et, en] at st
   replace et := qh et
   replace en := qh en
   replace hth := qh hth
   refine det_region (by kernel_rfl) 24 rfl (fun W => St [g] w W [(g, 38, winC (preC k css n) [.slice xa x.label.length xc, .slice oa x.own.length oc, .string x.text, .slice ba x.objects.length bc, .slice ma x.mails.length mc] (postC k css n)), (g5, 40, [.int .i64 c.kind, .int .i64 c.h, .int .i64 m, .int .i64 j, .int .i64 c.c, .slice la c.label.length lc, .slice ga c.grants.length gc, .string c.text]), (g6, 52, [.int .i64 0, .int .i64 0, .string ⟨#[]⟩])]) (st.drew) (by decide +kernel) ?_
   refine detS 0 rfl ?_
   refine detT 1 rfl (fun W hW => St.run_load hW 1 3 _ rfl Try.isAgg3 rfl rfl rfl) ?_
   refine det_call (fn := 24) 2 rfl (by decide +kernel) (by first | exact wanted_none rfl | exact wanted_some rfl rfl) (fun W => by first | (go_simp; done) | (go_simp; rfl)) (fun W hW => (F4.out W).mono fun e w' h => ⟨h.1, h.2 ▸ hW⟩) ?_; simp only [kP, kA, kS, kZ]
   refine detS 3 rfl ?_; refine detS 4 rfl ?_
   refine detT 5 rfl (fun W hW => St.run_load hW 1 3 _ rfl Try.isAgg3 rfl rfl rfl) ?_
   refine detT (v := .bool true) 6 rfl (fun W hW => by (go_simp; done)) ?_
   refine detS 7 rfl ?_; refine detS 8 rfl ?_; refine detS 9 rfl ?_
   refine detT 10 rfl (fun W hW => St.run_load hW 1 3 _ rfl Try.isAgg3 rfl rfl rfl) ?_
   refine detS 11 rfl ?_; refine detS 12 rfl ?_
   refine detT 13 rfl (fun W hW => St.run_load hW 1 3 _ rfl Try.isAgg3 rfl rfl rfl) ?_
   refine detT (v := .int .i64 m) 14 rfl (fun W hW => by (exact run_and3 _ _ _ rfl hm rfl rfl)) ?_
   refine detS 15 rfl ?_; refine detS 16 rfl ?_
   refine detT (v := .pointer (some ⟨g, 1 + m * 5, none⟩)) 17 rfl (fun W hW => by (first | (go_simp; done) | (go_simp; omega))) ?_
   refine detS 18 rfl ?_
   refine detT (v := .slice yb y.objects.length yc) 19 rfl (fun W hW => St.run_load hW 0 32 _ rfl Try.isAgg32 rfl rfl hcell) ?_
   refine detS 20 rfl ?_
   refine detT (v := .bool (decide ((j : Int) < y.objects.length))) 21 rfl (fun W hW => by (go_simp; done)) ?_
   refine detS 22 rfl ?_; refine detS 23 rfl ?_
   refine det_done (by decide +kernel) ?_
   clear st
   intro W st
   go_wp2_with fail
   go_meet
   exact ⟨by rw [hth.out]; simp, by rw [et.out, en.out]; exact st⟩
 case rest =>
 obtain ⟨rfl, st⟩ := hcut
 have hg5w : w.heap.size ≤ g5 := hg5
 have hg6w : w.heap.size ≤ g6 := hg6
 have HN := qh (show k.there c.t c.n = true by unfold Ker.there; rw [hob]; rfl)
 rw [HN.out]
 clear HN
 obtain ⟨m, j, y, ya, yc, qa, qc, gb, off, bc2, ma2, mc2, hm, et, en, ey, ecy, eBy, hTy, hoy⟩ := h.objWin hob
 have hcell := h.objCell hn hm ec ecy
 unfold thrC at hcell
 have hj := (gEs hoy).1
 obtain ⟨pre2, cs2, post2, hb2, hpre2, ⟨la2, lc2, rfl, hlo⟩, _, _⟩ := hTy.objs.window hoy
 have HQ := qh (show ∃ q, q = off + j * 2 from ⟨_, rfl⟩)
 obtain ⟨q, hq⟩ := HQ.out
 rw [← hq] at hpre2
 clear HQ
 replace hq := qh hq
 have hgb : g ≠ gb := fun e => h.gOut eBy (e ▸ mem_rows2.2 (.inl rfl))
 have hgbo : ¬ ok gb := h.apartAt eBy (mem_rows2.2 (.inl rfl))
 have hgbl : gb < w.heap.size := hTy.objs.lt rfl
 have ho := (hk y (mgE ey)).obj o (mgE hoy)
 have hof := goodL_fitI ho.1
 have hol := goodL_len ho.1
 have hot := ho.2
 have d5 : decide ((m : Int) < 0) = false := by simp
 have d6 : decide ((4 : Int) ≤ m) = false := by simp; omega
 rw [et, en] at st
 replace et := qh et
 replace en := qh en
 have st0 := St.hand2 hb hb2 hgb
 unfold thrC at st0
 have HB2 := qh (show ∀ (W : World) (bl : Blks), St [g, gb] w W bl → (g, 38, winC (preC k css n) [.slice xa x.label.length xc, .slice oa x.own.length oc, .string x.text, .slice ba x.objects.length bc, .slice ma x.mails.length mc] (postC k css n)) ∈ bl → (gb, 73, winC pre2 [.slice la2 o.label.length lc2, .string o.text] post2) ∈ bl → Below w.heap.size w W from fun W bl s hm1 hm2 => st0.below2 s (by simpa using ⟨hm1, hm2⟩))
 have HKp2 := qh (show ∀ (W : World) (bl : Blks), St [g, gb] w W bl → Keeps ok w W from fun W bl s => s.keeps (by simpa using ⟨hgg, hgbo⟩))
 replace st := st.with2 hb2 hgb hgbl
 clear st0
 have HE := qh (show callK k (n : Int) c = (k.put m { y with objects := y.objects.set j ⟨o.label, lastB (x.text ++ c.text)⟩ }, errR 0) by
  have hym : k.thr (m : Int) = y := Ker.thr_at ey
  have hob3 : k.obj (m : Int) (j : Int) = some o := by rw [← et.out, ← en.out]; exact hob
  rw [hth] at hf; unfold callK; simp [hkd, hf, hth, et.out, en.out, hym, hob3, Thr.putObj, Ker.put, knowT])
 rw [hth] at hf
 have HF := qh (fun (W : World) (bl : Blks) (hW : St [g, gb] w W bl) => ref_Flows (fun _ => True) W xa la2 oa xc lc2 oc x.label o.label x.own hxf hof (by unfold maxLen; omega) (((hT.label).keep (HKp2.out W _ hW)).okay fun _ _ => trivial) (((hlo).keep (HKp2.out W _ hW)).okay fun _ _ => trivial) ((hT.own.keep (HKp2.out W _ hW)).okay fun _ _ => trivial))
 rw [hf] at HF
 have hct : c.text.size ≤ 64 := by omega
 have hsz : (x.text ++ c.text).size = x.text.size + c.text.size := ByteArray.size_append
 have HLa := qh (fun (W : World) => ref_last W (x.text ++ c.text) (by omega))
 clear hob hf
 rw [hkd] at st
 clear hkd
 go_wp2_with (first | go_skip | (with_reducible refine mX st Try.isAgg3 ?_))
 refine det_region (by kernel_rfl) 25 rfl (fun W => St [g, gb] w W [(g, 38, winC (preC k css n) [.slice xa x.label.length xc, .slice oa x.own.length oc, .string x.text, .slice ba x.objects.length bc, .slice ma x.mails.length mc] (postC k css n)), (gb, 73, winC pre2 [.slice la2 o.label.length lc2, .string o.text] post2), (g5, 40, [.int .i64 3, .int .i64 c.h, .int .i64 m, .int .i64 j, .int .i64 c.c, .slice la c.label.length lc, .slice ga c.grants.length gc, .string c.text]), (g6, 52, [.int .i64 0, .int .i64 0, .string ⟨#[]⟩])]) (st.drew) (by decide +kernel) ?_
 refine detS 0 rfl ?_; refine detS 1 rfl ?_; refine detS 2 rfl ?_; refine detS 3 rfl ?_; refine detS 4 rfl ?_
 refine detT 5 rfl (fun W hW => St.run_loadW hW 0 30 _ rfl Try.isAgg30 0 hpre rfl rfl rfl) ?_
 refine detS 6 rfl ?_; refine detS 7 rfl ?_
 refine detT 8 rfl (fun W hW => St.run_load hW 2 3 _ rfl Try.isAgg3 rfl rfl rfl) ?_
 refine detS 9 rfl ?_; refine detS 10 rfl ?_
 refine detT (v := .pointer (some ⟨g, 1 + m * 5, none⟩)) 11 rfl (fun W hW => by (first | (go_simp; done) | (go_simp; omega) | (rw [hq.out]; go_simp; done) | (rw [hq.out]; go_simp; omega))) ?_
 refine detS 12 rfl ?_
 refine detT (v := .slice (some ⟨gb, off, none⟩) y.objects.length bc2) 13 rfl (fun W hW => St.run_load hW 0 32 _ rfl Try.isAgg32 rfl rfl hcell) ?_
 refine detS 14 rfl ?_
 refine detT 15 rfl (fun W hW => St.run_load hW 2 3 _ rfl Try.isAgg3 rfl rfl rfl) ?_
 refine detT (v := .pointer (some ⟨gb, q, none⟩)) 16 rfl (fun W hW => by (first | (go_simp; done) | (go_simp; omega) | (rw [hq.out]; go_simp; done) | (rw [hq.out]; go_simp; omega))) ?_
 refine detS 17 rfl ?_
 refine detT 18 rfl (fun W hW => St.run_loadW hW 1 30 _ rfl Try.isAgg30 0 hpre2 rfl rfl rfl) ?_
 refine detS 19 rfl ?_; refine detS 20 rfl ?_; refine detS 21 rfl ?_
 refine detT 22 rfl (fun W hW => St.run_loadW hW 0 31 _ rfl Try.isAgg31 1 hpre rfl rfl rfl) ?_
 refine det_call (fn := 28) 23 rfl (by decide +kernel) (by first | exact wanted_none rfl | exact wanted_some rfl rfl) (fun W => by first | (go_simp; done) | (go_simp; rfl)) (fun W hW => (HF.out W _ hW).mono fun e w' h => ⟨h.1, hW.call h.2⟩) ?_; simp only [kP, kA, kS, kZ]
 refine detS 24 rfl ?_
 refine det_done (by decide +kernel) ?_
 clear st
 intro W2 st
 go_wp2_with fail
 refine det_region (by kernel_rfl) 9 rfl (fun W => St [g, gb] w W [(g, 38, winC (preC k css n) [.slice xa x.label.length xc, .slice oa x.own.length oc, .string x.text, .slice ba x.objects.length bc, .slice ma x.mails.length mc] (postC k css n)), (gb, 73, winC pre2 [.slice la2 o.label.length lc2, .string o.text] post2), (g5, 40, [.int .i64 3, .int .i64 c.h, .int .i64 m, .int .i64 j, .int .i64 c.c, .slice la c.label.length lc, .slice ga c.grants.length gc, .string c.text]), (g6, 52, [.int .i64 0, .int .i64 0, .string ⟨#[]⟩])]) (st.drew) (by decide +kernel) ?_
 refine detS 0 rfl ?_; refine detS 1 rfl ?_; refine detS 2 rfl ?_
 refine detT 3 rfl (fun W hW => St.run_loadW hW 0 9 _ rfl Try.isAgg9 2 hpre rfl rfl rfl) ?_
 refine detS 4 rfl ?_
 refine detT 5 rfl (fun W hW => St.run_load hW 2 9 _ rfl Try.isAgg9 rfl rfl rfl) ?_
 refine detT (v := .string (x.text ++ c.text)) 6 rfl (fun W hW => by (go_simp; first | done | omega)) ?_
 refine det_call (fn := 25) 7 rfl (by decide +kernel) (by first | exact wanted_none rfl | exact wanted_some rfl rfl) (fun W => by first | (go_simp; done) | (go_simp; rfl)) (fun W hW => (HLa.out W).mono fun e w' h => ⟨h.1, hW.call h.2⟩) ?_; simp only [kP, kA, kS, kZ]
 refine detS 8 rfl ?_
 refine det_done (by decide +kernel) ?_
 clear st HLa hsz
 intro W3 st
 generalize lastB (x.text ++ c.text) = S at *
 go_wp2_with fail
 have st := st.drew
 have hI := st
 refine lex_tail (by kernel_rfl) 13 1 [13] rfl (by decide +kernel) (fun W => St [g, gb] w W [(g, 38, winC (preC k css n) [.slice xa x.label.length xc, .slice oa x.own.length oc, .string x.text, .slice ba x.objects.length bc, .slice ma x.mails.length mc] (postC k css n)), (gb, 73, winC pre2 [.slice la2 o.label.length lc2, .string o.text] post2), (g5, 40, [.int .i64 3, .int .i64 c.h, .int .i64 m, .int .i64 j, .int .i64 c.c, .slice la c.label.length lc, .slice ga c.grants.length gc, .string c.text]), (g6, 52, [.int .i64 0, .int .i64 0, .string ⟨#[]⟩])]) ?_
 refine lexS 0 rfl hI ?_
 refine lexS 1 rfl hI ?_
 refine lexT 2 rfl hI (fun W hW => St.run_load hW 2 3 _ rfl Try.isAgg3 rfl rfl rfl) ?_
 refine lexS 3 rfl hI ?_
 refine lexS 4 rfl hI ?_
 refine lexT (v := .pointer (some ⟨g, 1 + m * 5, none⟩)) 5 rfl hI (fun W hW => by (first | (go_simp; done) | (go_simp; omega) | (rw [hq.out]; go_simp; done) | (rw [hq.out]; go_simp; omega))) ?_
 refine lexS 6 rfl hI ?_
 refine lexT (v := .slice (some ⟨gb, off, none⟩) y.objects.length bc2) 7 rfl hI (fun W hW => St.run_load hW 0 32 _ rfl Try.isAgg32 rfl rfl hcell) ?_
 refine lexS 8 rfl hI ?_
 refine lexT 9 rfl hI (fun W hW => St.run_load hW 2 3 _ rfl Try.isAgg3 rfl rfl rfl) ?_
 refine lexS 10 rfl hI ?_
 refine lexT (v := .pointer (some ⟨gb, q, none⟩)) 11 rfl hI (fun W hW => by (first | (go_simp; done) | (go_simp; omega) | (rw [hq.out]; go_simp; done) | (rw [hq.out]; go_simp; omega))) ?_
 refine lexS 12 rfl hI ?_
 clear hI
 refine lex_done (by decide +kernel) ?_
 refine tail_last 13 rfl (by first | exact wanted_none rfl | exact wanted_some rfl rfl) (by decide +kernel) (by decide +kernel) fun K hK => ?_
 refine wp_storeW st 9 _ _ rfl _ Try.sizeOf9 1 ?_; refine ⟨1, _, _, _, _, _, _, _, hpre2, rfl, rfl, rfl, rfl, rfl, rfl, ?_⟩; clear st; intro w8 st hw8m hw8z; simp [Act.eval, Act.put, Value.cells, putL] at st
 refine hK _ _ ?_; clear hK
 go_wp2_with (first | go_skip | (go_at_call 39; go_must (refine (rcall_no _ _).mono ?_; rintro e vn ⟨rfl, hbn⟩; replace st := st.call hbn; clear hbn)) | (with_reducible refine mS 3 st Try.sizeOf52 ?_; clear st; intro w7 st hw7m hw7z))
 have hc := fun j => st.cell (i := 3) rfl j
 refine bodyPost_ret (v := RepV (errR 0)) ?hr rfl ?_
 case hr => simp [results, Try.results14, go_sem, hc, RepV, errR]; try rfl
 rw [HE.out]
 refine ⟨rfl, ?_⟩
 have e0 : w7.heap[g]? = w.heap[g]? := by rw [st.blk _ (mgE (i := 0) rfl), hb]; rfl
 have hbm : w.heap[g]? = some (.cells (winC (preC k css m) (thrC y ya yc qa qc (some ⟨gb, off, none⟩) bc2 ma2 mc2) (postC k css m)).toArray 38 (0, 0)) := by rw [← h.cells hm ecy]; exact h.blk
 have hokw : ∀ b, b < w.heap.size → ok b → ((ok b ∨ w.heap.size ≤ b) ∧ b ∉ g :: rows2 (some ⟨gb, off, none⟩) ma2) ∧ w7.heap[b]? = w.heap[b]? := fun b hb ho => by
  refine ⟨⟨.inl ho, fun hm => ?_⟩, (HKp2.out _ _ st).block b hb ho⟩
  rcases List.mem_cons.1 hm with rfl | hm
  ·exact hgg ho
  ·exact h.apartAt eBy hm ho
 have hok2 : ∀ cs z, RObj ok w cs z → RObj (fun b => (ok b ∨ w.heap.size ≤ b) ∧ b ∉ g :: rows2 (some ⟨gb, off, none⟩) ma2) w7 cs z := fun cs z r => r.move st.size hokw
 refine h.close (made' := k.made) hm ecy eBy (cs' := thrC y ya yc qa qc (some ⟨gb, off, none⟩) bc2 ma2 mc2) (x' := { y with objects := y.objects.set j ⟨o.label, S⟩ }) (B' := rows2 (some ⟨gb, off, none⟩) ma2) (st.wider (by simp [rows2])) (by rw [e0]; exact hbm)
  ⟨ya, yc, qa, qc, some ⟨gb, off, none⟩, bc2, ma2, mc2, by simp [thrC], ⟨hTy.label.move st.size hokw fun _ _ r => r, hTy.own.move st.size hokw fun _ _ r => r, ?_, ?_⟩, rfl⟩ (flatten_nodup (List.nodup_cons.1 h.nodup).2 eBy) fun b hb => .inl hb
 ·refine hTy.objs.set (gEs hoy).1 hok2 (cs' := [.slice la2 o.label.length lc2, .string S]) ⟨la2, lc2, rfl, hlo.move st.size hokw fun _ _ r => r⟩ rfl (by simp [Value.oneCell']) fun cells hc => ?_
  rw [hb2] at hc
  have hcl : winC pre2 [.slice la2 o.label.length lc2, .string o.text] post2 = cells := by simpa using hc
  rw [← hcl, ← hq.out]
  have := putL_winC (pre := pre2) (win := [.slice la2 o.label.length lc2, .string o.text]) (post := post2) (j := 0) (vs := [.slice la2 o.label.length lc2, .string S]) hpre2 (by simp)
  rw [Nat.add_zero] at this
  rw [this]
  exact st.blk _ (mgE (i := 1) rfl)
 ·exact hTy.mails.kept (fun b e => st.frame b (hTy.mails.lt e) (by
   simp
   exact ⟨fun e2 => h.gOut eBy (e2 ▸ mem_rows2.2 (.inr e)), fun e2 => h.rowsNe eBy (b := gb) rfl (e2 ▸ e)⟩)) fun _ _ r => r.move st.size hokw
end
end Go.Proofs.Ytealbofmlieicaa
