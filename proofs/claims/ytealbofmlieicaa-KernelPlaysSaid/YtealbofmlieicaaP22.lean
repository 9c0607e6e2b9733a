/- Walks and plain laws, part 22. -/
import Derived.Test.YtealbofmlieicaaP21
import Derived.Deep.CutRange
import Derived.Deep.LoopGhost
import Derived.Deep.CutBlock
import Derived.Test.YtealbofmlieicaaP20
set_option linter.unusedSimpArgs false
set_option linter.unusedVariables false
set_option maxHeartbeats 16000000
set_option maxRecDepth 100000
namespace Go.Proofs.Ytealbofmlieicaa
open Go.RowKit
section
variable (ok okc : Nat → Prop) (w : World) (g : Nat) (k : Ker) (css : List (List Value)) (Bs : List (List Nat)) (n : Nat) (c : Req) (la : Option Addr) (lc : Nat) (ga : Option Addr) (gc : Nat)
theorem ref_Call_cat_full (h : RkAt ok w g k css Bs) (hk : ∀ x ∈ k.threads, x.ok) (hn : n < 4) (hx64 : ¬ 64 < c.text.size) (hkd : c.kind = 1) (hh0 : 0 ≤ k.host) (hh4 : k.host < 4) (hm0 : 0 ≤ k.made) (hm20 : k.made ≤ 20) (hf : 20 ≤ k.made) :
  Calls Try.prog 14 #[.pointer (some ⟨g, 0, none⟩), .int .i64 n, reqV c la lc ga gc] w (RCallPost ok w g Bs (callK k n c)) := by
 obtain ⟨x, xa, xc, oa, oc, ba, bc, ma, mc, ex, ec, eB, hT, hb⟩ := h.open hn
 have hx := hk x (mgE ex)
 have hpre := h.preLen hn
 have hth := Ker.thr_at ex
 have st0 := St.hand hb
 unfold thrC at st0
 have d1 : decide ((n : Int) < 0) = false := by simp
 have d2 : decide ((4 : Int) ≤ n) = false := by simp; omega
 have d64 := text_size hx64
 have hgg : ¬ ok g := h.apart g (by simp)
 have H4 := qh (fun (W : World) => ref_four (n : Int) W)
 rw [four_of hn] at H4
 have HKp := qh (show ∀ (W : World) (bl : Blks), St [g] w W bl → Keeps ok w W from fun W bl s => s.keeps (by simpa using hgg))
 have HB := qh (show ∀ (W : World) (bl : Blks), St [g] w W bl → (g, 38, winC (preC k css n) [.slice xa x.label.length xc, .slice oa x.own.length oc, .string x.text, .slice ba x.objects.length bc, .slice ma x.mails.length mc] (postC k css n)) ∈ bl → Below w.heap.size w W from fun W bl s hm => st0.below2 s (by simpa using hm))
 have hxf := goodL_fitI hx.good; have hxl := goodL_len hx.good; have hxo := hx.ownL; have hxm := hx.mailN; have hxb := hx.objs; have hxt := hx.text
 have st := st0
 clear st0
 unfold reqV
 go_enter Try.func14, Try.ntmps14
 go_upto_region 7 with (first | go_skip | (go_at_call 24; go_must (refine (H4.out _).mono ?_; rintro e v1 ⟨rfl, rfl⟩)) | (with_reducible refine mB 40 st ?_; clear st; intro g5 w5 hg5 st) | (with_reducible refine mA st Try.zeroValue52 ?_; clear st; intro g6 w6 hg6 st) | (with_reducible refine mX st Try.isAgg9 ?_))
 try simp only [kP, kA, kS, kZ]
 go_cut [9] from 37 to 59 (fun s9 wx => s9 = .bool (k.there c.t c.n) ∧ St [g] w wx [(g, 38, winC (preC k css n) [.slice xa x.label.length xc, .slice oa x.own.length oc, .string x.text, .slice ba x.objects.length bc, .slice ma x.mails.length mc] (postC k css n)), (g5, 40, [.int .i64 c.kind, .int .i64 c.h, .int .i64 c.t, .int .i64 c.n, .int .i64 c.c, .slice la c.label.length lc, .slice ga c.grants.length gc, .string c.text]), (g6, 52, [.int .i64 0, .int .i64 0, .string ⟨#[]⟩])])
 case first =>
  have HTh := qh (h.thereCases hn ec c.t c.n)
  unfold thrC at HTh
  rcases HTh.out with ⟨h1, h2⟩ | ⟨h1, h2, h3⟩ | ⟨m, j, y, yb, yc, hm, et, en, hth, hcell⟩
  ·have F4 := qh (fun (W : World) => ref_four c.t W)
   rw [h1] at F4
   replace h2 := qh h2
   clear h1
   refine det_region (by kernel_rfl) 24 rfl (fun W => St [g] w W [(g, 38, winC (preC k css n) [.slice xa x.label.length xc, .slice oa x.own.length oc, .string x.text, .slice ba x.objects.length bc, .slice ma x.mails.length mc] (postC k css n)), (g5, 40, [.int .i64 c.kind, .int .i64 c.h, .int .i64 c.t, .int .i64 c.n, .int .i64 c.c, .slice la c.label.length lc, .slice ga c.grants.length gc, .string c.text]), (g6, 52, [.int .i64 0, .int .i64 0, .string ⟨#[]⟩])]) (st.drew) (by decide +kernel) ?_
   refine detS 0 rfl ?_
   refine detT 1 rfl (fun W hW => St.run_load hW 1 3 _ rfl Try.isAgg3 rfl rfl rfl) ?_
   refine det_call (fn := 24) 2 rfl (by decide +kernel) (by first | exact wanted_none rfl | exact wanted_some rfl rfl) (fun W => by first | (go_simp; done) | (go_simp; rfl)) (fun W hW => (F4.out W).mono fun e w' h => ⟨h.1, h.2 ▸ hW⟩) ?_; simp only [kP, kA, kS, kZ]
   refine detS 3 rfl ?_
   refine detK 4 rfl ?_; refine detK 5 rfl ?_; refine detK 6 rfl ?_
   refine detS 7 rfl ?_; refine detS 8 rfl ?_
   refine detK 9 rfl ?_; refine detK 10 rfl ?_; refine detK 11 rfl ?_; refine detK 12 rfl ?_; refine detK 13 rfl ?_; refine detK 14 rfl ?_; refine detK 15 rfl ?_; refine detK 16 rfl ?_; refine detK 17 rfl ?_; refine detK 18 rfl ?_; refine detK 19 rfl ?_; refine detK 20 rfl ?_; refine detK 21 rfl ?_
   refine detS 22 rfl ?_; refine detS 23 rfl ?_
   refine det_done (by decide +kernel) ?_
   clear st
   intro W st
   go_wp2_with fail
   go_meet
   exact ⟨by rw [h2.out], st⟩
  ·have F4 := qh (fun (W : World) => ref_four c.t W)
   rw [h1] at F4
   replace h3 := qh h3
   have d3 : decide ((0 : Int) ≤ c.n) = false := by simpa using h2
   clear h1 h2
   refine det_region (by kernel_rfl) 24 rfl (fun W => St [g] w W [(g, 38, winC (preC k css n) [.slice xa x.label.length xc, .slice oa x.own.length oc, .string x.text, .slice ba x.objects.length bc, .slice ma x.mails.length mc] (postC k css n)), (g5, 40, [.int .i64 c.kind, .int .i64 c.h, .int .i64 c.t, .int .i64 c.n, .int .i64 c.c, .slice la c.label.length lc, .slice ga c.grants.length gc, .string c.text]), (g6, 52, [.int .i64 0, .int .i64 0, .string ⟨#[]⟩])]) (st.drew) (by decide +kernel) ?_
   refine detS 0 rfl ?_
   refine detT 1 rfl (fun W hW => St.run_load hW 1 3 _ rfl Try.isAgg3 rfl rfl rfl) ?_
   refine det_call (fn := 24) 2 rfl (by decide +kernel) (by first | exact wanted_none rfl | exact wanted_some rfl rfl) (fun W => by first | (go_simp; done) | (go_simp; rfl)) (fun W hW => (F4.out W).mono fun e w' h => ⟨h.1, h.2 ▸ hW⟩) ?_; simp only [kP, kA, kS, kZ]
   refine detS 3 rfl ?_; refine detS 4 rfl ?_
   refine detT 5 rfl (fun W hW => St.run_load hW 1 3 _ rfl Try.isAgg3 rfl rfl rfl) ?_
   refine detT (v := .bool false) 6 rfl (fun W hW => by (go_simp; done)) ?_
   refine detS 7 rfl ?_; refine detS 8 rfl ?_
   refine detK 9 rfl ?_; refine detK 10 rfl ?_; refine detK 11 rfl ?_; refine detK 12 rfl ?_; refine detK 13 rfl ?_; refine detK 14 rfl ?_; refine detK 15 rfl ?_; refine detK 16 rfl ?_; refine detK 17 rfl ?_; refine detK 18 rfl ?_; refine detK 19 rfl ?_; refine detK 20 rfl ?_; refine detK 21 rfl ?_
   refine detS 22 rfl ?_; refine detS 23 rfl ?_
   refine det_done (by decide +kernel) ?_
   clear st
   intro W st
   go_wp2_with fail
   go_meet
   exact ⟨by rw [h3.out], st⟩
  ·have F4 := qh (fun (W : World) => ref_four (m : Int) W)
   rw [four_of hm] at F4
   have d3 : decide ((0 : Int) ≤ (j : Int)) = true := by simp
   have d5 : decide ((m : Int) < 0) = false := by simp
   have d6 : decide ((4 : Int) ≤ m) = false := by simp; omega
   rw [et, en] at st
   replace et := qh et
   replace en := qh en
   replace hth := qh hth
   refine det_region (by kernel_rfl) 24 rfl (fun W => St [g] w W [(g, 38, winC (preC k css n) [.slice xa x.label.length xc, .slice oa x.own.length oc, .string x.text, .slice ba x.objects.length bc, .slice ma x.mails.length mc] (postC k css n)), (g5, 40, [.int .i64 c.kind, .int .i64 c.h, .int .i64 m, .int .i64 j, .int .i64 c.c, .slice la c.label.length lc, .slice ga c.grants.length gc, .string c.text]), (g6, 52, [.int .i64 0, .int .i64 0, .string ⟨#[]⟩])]) (st.drew) (by decide +kernel) ?_
   refine detS 0 rfl ?_
   refine detT 1 rfl (fun W hW => St.run_load hW 1 3 _ rfl Try.isAgg3 rfl rfl rfl) ?_
   refine det_call (fn := 24) 2 rfl (by decide +kernel) (by first | exact wanted_none rfl | exact wanted_some rfl rfl) (fun W => by first | (go_simp; done) | (go_simp; rfl)) (fun W hW => (F4.out W).mono fun e w' h => ⟨h.1, h.2 ▸ hW⟩) ?_; simp only [kP, kA, kS, kZ]
   refine detS 3 rfl ?_; refine detS 4 rfl ?_
   refine detT 5 rfl (fun W hW => St.run_load hW 1 3 _ rfl Try.isAgg3 rfl rfl rfl) ?_
   refine detT (v := .bool true) 6 rfl (fun W hW => by (go_simp; done)) ?_
   refine detS 7 rfl ?_; refine detS 8 rfl ?_; refine detS 9 rfl ?_
   refine detT 10 rfl (fun W hW => St.run_load hW 1 3 _ rfl Try.isAgg3 rfl rfl rfl) ?_
   refine detS 11 rfl ?_; refine detS 12 rfl ?_
   refine detT 13 rfl (fun W hW => St.run_load hW 1 3 _ rfl Try.isAgg3 rfl rfl rfl) ?_
   refine detT (v := .int .i64 m) 14 rfl (fun W hW => by (exact run_and3 _ _ _ rfl hm rfl rfl)) ?_
   refine detS 15 rfl ?_; refine detS 16 rfl ?_
   refine detT (v := .pointer (some ⟨g, 1 + m * 5, none⟩)) 17 rfl (fun W hW => by (first | (go_simp; done) | (go_simp; omega))) ?_
   refine detS 18 rfl ?_
   refine detT (v := .slice yb y.objects.length yc) 19 rfl (fun W hW => St.run_load hW 0 32 _ rfl Try.isAgg32 rfl rfl hcell) ?_
   refine detS 20 rfl ?_
   refine detT (v := .bool (decide ((j : Int) < y.objects.length))) 21 rfl (fun W hW => by (go_simp; done)) ?_
   refine detS 22 rfl ?_; refine detS 23 rfl ?_
   refine det_done (by decide +kernel) ?_
   clear st
   intro W st
   go_wp2_with fail
   go_meet
   exact ⟨by rw [hth.out]; simp, by rw [et.out, en.out]; exact st⟩
 case rest =>
 obtain ⟨rfl, st⟩ := hcut
 have hg5w : w.heap.size ≤ g5 := hg5
 have hg6w : w.heap.size ≤ g6 := hg6
 have hmade := h.madeAt hn
 have hhost := h.host n
 have hlen := h.len22 hn
 have hput := h.madePut hn
 have HO := qh (fun (W : World) (hB : Below w.heap.size w W) => ref_owns (fun b => ok b ∧ b < w.heap.size) W oa oc x.own (k.host * 20 + k.made) hxo (hT.later hB).own)
 have HE := qh (show callK k (n : Int) c = (k, errR 5) by unfold callK; simp [hkd, hf])
 obtain ⟨⟨o2, e2⟩, HP⟩ : ∃ r, Hid (ownC x.own (k.host * 20 + k.made) = r) := ⟨_, rfl⟩
 rw [HP.out] at HO
 have hlo := ownC_lo x.own (k.host * 20 + k.made)
 rw [HP.out] at hlo
 clear hlo
 have d5 : (k.made == 20) = true := by simp; omega
 rw [hkd] at st
 clear hkd
 have e20 : IntKind.i64.wrap (20 * k.host) = k.host * 20 := by rw [Int.mul_comm]; exact IntWalk.i64_in _ (by omega)
 have e21 : IntKind.i64.wrap (k.host * 20 + k.made) = k.host * 20 + k.made := IntWalk.i64_in _ (by omega)
 go_wp2_with (first | go_skip | (with_reducible refine mX st Try.isAgg3 ?_))
 have hI := st.drew
 refine lex_region (by kernel_rfl) 20 rfl (fun W => St [g] w W [(g, 38, winC (preC k css n) [.slice xa x.label.length xc, .slice oa x.own.length oc, .string x.text, .slice ba x.objects.length bc, .slice ma x.mails.length mc] (postC k css n)), (g5, 40, [.int .i64 1, .int .i64 c.h, .int .i64 c.t, .int .i64 c.n, .int .i64 c.c, .slice la c.label.length lc, .slice ga c.grants.length gc, .string c.text]), (g6, 52, [.int .i64 0, .int .i64 0, .string ⟨#[]⟩])]) ?_
 refine lexS 0 rfl hI ?_
 refine lexS 1 rfl hI ?_
 refine lexS 2 rfl hI ?_
 refine lexT 3 rfl hI (fun W hW => St.run_loadW hW 0 31 _ rfl Try.isAgg31 1 hpre rfl rfl rfl) ?_
 refine lexS 4 rfl hI ?_
 refine lexS 5 rfl hI ?_
 refine lexS 6 rfl hI ?_
 refine lexT (v := .int .i64 k.host) 7 rfl hI (fun W hW => St.run_load hW 0 3 _ rfl Try.isAgg3 rfl rfl (hhost _ _)) ?_
 refine lexT (v := .int .i64 (k.host * 20)) 8 rfl hI (fun W hW => by (go_simp; done)) ?_
 refine lexS 9 rfl hI ?_
 refine lexS 10 rfl hI ?_
 refine lexS 11 rfl hI ?_
 refine lexT (v := .int .i64 k.made) 12 rfl hI (fun W hW => St.run_load hW 0 3 _ rfl Try.isAgg3 rfl rfl (hmade _ _ _ _ _)) ?_
 refine lexT (v := .int .i64 (k.host * 20 + k.made)) 13 rfl hI (fun W hW => by (go_simp; done)) ?_
 clear hI
 have st := st.drew
 refine lexO 14 rfl fun K hK => ?_
 have hBW := HB.out _ _ st (by simp)
 have hsW := hBW.size
 have hl5 := st.ltAt (i := 1) rfl
 have hl6 := st.ltAt (i := 2) rfl
 have hgw := h.lt g (by simp)
 refine wp_callee (f := 40) (by first | (go_simp; done) | (go_simp; rfl)) ?_
 refine (HO.out _ hBW).mono ?_
 rintro e W1 ⟨oa', oc', rfl, hb1, hown⟩
 have hzW := hb1.size
 refine ⟨_, rfl, ?_⟩
 replace st := st.call hb1
 clear hb1
 have hI := st
 refine hK _ _ (hI) ?_; clear hK; simp only [kP, kA, kS, kZ]
 refine lexS 15 rfl hI ?_
 refine lexS 16 rfl hI ?_
 refine lexS 17 rfl hI ?_
 refine lexS 18 rfl hI ?_
 refine lexS 19 rfl hI ?_
 clear hI
 refine lex_done (by decide +kernel) ?_
 have hst := st
 have st := hst.rebase
 simp only [List.map_cons, List.map_nil] at st
 clear e20 e21 hput hlen hhost
 go_wp2_with (first | go_skip | (go_at_call 39; go_must (refine (rcall_no _ _).mono ?_; rintro e vn ⟨rfl, hbn⟩; replace st := st.call hbn; clear hbn)) | (with_reducible refine mS 2 st Try.sizeOf52 ?_; clear st; intro w7 st hw7m hw7z) | (with_reducible refine at_load 3 ?_; refine mem_load' st 3 _ rfl (by first | exact wanted_none rfl | exact wanted_some rfl rfl) Try.isAgg3 ?_; refine ⟨0, _, _, _, _, _, rfl, rfl, hmade _ _ _ _ _, ?_⟩))
 have hc := fun j => st.cell (i := 2) rfl j
 refine bodyPost_ret (v := RepV (errR 5)) ?hr rfl ?_
 case hr => simp [results, Try.results14, go_sem, hc, RepV, errR]; try rfl
 rw [HE.out]
 exact ⟨rfl, RkTo.none h (HB.out _ _ (St.back hst st) (by simp))⟩
end
section
variable (ok okc : Nat → Prop) (w : World) (g : Nat) (k : Ker) (css : List (List Value)) (Bs : List (List Nat)) (n : Nat) (c : Req) (la : Option Addr) (lc : Nat) (ga : Option Addr) (gc : Nat)
theorem ref_Call_cat_room (h : RkAt ok w g k css Bs) (hk : ∀ x ∈ k.threads, x.ok) (hn : n < 4) (hx64 : ¬ 64 < c.text.size) (hkd : c.kind = 1) (hh0 : 0 ≤ k.host) (hh4 : k.host < 4) (hm0 : 0 ≤ k.made) (hm20 : k.made ≤ 20) (hf : k.made < 20) (hof : (ownC (k.thr n).own (k.host * 20 + k.made)).2 ≠ 0) :
  Calls Try.prog 14 #[.pointer (some ⟨g, 0, none⟩), .int .i64 n, reqV c la lc ga gc] w (RCallPost ok w g Bs (callK k n c)) := by
 obtain ⟨x, xa, xc, oa, oc, ba, bc, ma, mc, ex, ec, eB, hT, hb⟩ := h.open hn
 have hx := hk x (mgE ex)
 have hpre := h.preLen hn
 have hth := Ker.thr_at ex
 have st0 := St.hand hb
 unfold thrC at st0
 have d1 : decide ((n : Int) < 0) = false := by simp
 have d2 : decide ((4 : Int) ≤ n) = false := by simp; omega
 have d64 := text_size hx64
 have hgg : ¬ ok g := h.apart g (by simp)
 have H4 := qh (fun (W : World) => ref_four (n : Int) W)
 rw [four_of hn] at H4
 have HKp := qh (show ∀ (W : World) (bl : Blks), St [g] w W bl → Keeps ok w W from fun W bl s => s.keeps (by simpa using hgg))
 have HB := qh (show ∀ (W : World) (bl : Blks), St [g] w W bl → (g, 38, winC (preC k css n) [.slice xa x.label.length xc, .slice oa x.own.length oc, .string x.text, .slice ba x.objects.length bc, .slice ma x.mails.length mc] (postC k css n)) ∈ bl → Below w.heap.size w W from fun W bl s hm => st0.below2 s (by simpa using hm))
 have hxf := goodL_fitI hx.good; have hxl := goodL_len hx.good; have hxo := hx.ownL; have hxm := hx.mailN; have hxb := hx.objs; have hxt := hx.text
 have st := st0
 clear st0
 unfold reqV
 go_enter Try.func14, Try.ntmps14
 go_upto_region 7 with (first | go_skip | (go_at_call 24; go_must (refine (H4.out _).mono ?_; rintro e v1 ⟨rfl, rfl⟩)) | (with_reducible refine mB 40 st ?_; clear st; intro g5 w5 hg5 st) | (with_reducible refine mA st Try.zeroValue52 ?_; clear st; intro g6 w6 hg6 st) | (with_reducible refine mX st Try.isAgg9 ?_))
 try simp only [kP, kA, kS, kZ]
 go_cut [9] from 37 to 59 (fun s9 wx => s9 = .bool (k.there c.t c.n) ∧ St [g] w wx [(g, 38, winC (preC k css n) [.slice xa x.label.length xc, .slice oa x.own.length oc, .string x.text, .slice ba x.objects.length bc, .slice ma x.mails.length mc] (postC k css n)), (g5, 40, [.int .i64 c.kind, .int .i64 c.h, .int .i64 c.t, .int .i64 c.n, .int .i64 c.c, .slice la c.label.length lc, .slice ga c.grants.length gc, .string c.text]), (g6, 52, [.int .i64 0, .int .i64 0, .string ⟨#[]⟩])])
 case first =>
  have HTh := qh (h.thereCases hn ec c.t c.n)
  unfold thrC at HTh
  rcases HTh.out with ⟨h1, h2⟩ | ⟨h1, h2, h3⟩ | ⟨m, j, y, yb, yc, hm, et, en, hth, hcell⟩
  ·have F4 := qh (fun (W : World) => ref_four c.t W)
   rw [h1] at F4
   replace h2 := qh h2
   clear h1
   refine det_region (by kernel_rfl) 24 rfl (fun W => St [g] w W [(g, 38, winC (preC k css n) [.slice xa x.label.length xc, .slice oa x.own.length oc, .string x.text, .slice ba x.objects.length bc, .slice ma x.mails.length mc] (postC k css n)), (g5, 40, [.int .i64 c.kind, .int .i64 c.h, .int .i64 c.t, .int .i64 c.n, .int .i64 c.c, .slice la c.label.length lc, .slice ga c.grants.length gc, .string c.text]), (g6, 52, [.int .i64 0, .int .i64 0, .string ⟨#[]⟩])]) (st.drew) (by decide +kernel) ?_
   refine detS 0 rfl ?_
   refine detT 1 rfl (fun W hW => St.run_load hW 1 3 _ rfl Try.isAgg3 rfl rfl rfl) ?_
   refine det_call (fn := 24) 2 rfl (by decide +kernel) (by first | exact wanted_none rfl | exact wanted_some rfl rfl) (fun W => by first | (go_simp; done) | (go_simp; rfl)) (fun W hW => (F4.out W).mono fun e w' h => ⟨h.1, h.2 ▸ hW⟩) ?_; simp only [kP, kA, kS, kZ]
   refine detS 3 rfl ?_
   refine detK 4 rfl ?_; refine detK 5 rfl ?_; refine detK 6 rfl ?_
   refine detS 7 rfl ?_; refine detS 8 rfl ?_
   refine detK 9 rfl ?_; refine detK 10 rfl ?_; refine detK 11 rfl ?_; refine detK 12 rfl ?_; refine detK 13 rfl ?_; refine detK 14 rfl ?_; refine detK 15 rfl ?_; refine detK 16 rfl ?_; refine detK 17 rfl ?_; refine detK 18 rfl ?_; refine detK 19 rfl ?_; refine detK 20 rfl ?_; refine detK 21 rfl ?_
   refine detS 22 rfl ?_; refine detS 23 rfl ?_
   refine det_done (by decide +kernel) ?_
   clear st
   intro W st
   go_wp2_with fail
   go_meet
   exact ⟨by rw [h2.out], st⟩
  ·have F4 := qh (fun (W : World) => ref_four c.t W)
   rw [h1] at F4
   replace h3 := qh h3
   have d3 : decide ((0 : Int) ≤ c.n) = false := by simpa using h2
   clear h1 h2
   refine det_region (by kernel_rfl) 24 rfl (fun W => St [g] w W [(g, 38, winC (preC k css n) [.slice xa x.label.length xc, .slice oa x.own.length oc, .string x.text, .slice ba x.objects.length bc, .slice ma x.mails.length mc] (postC k css n)), (g5, 40, [.int .i64 c.kind, .int .i64 c.h, .int .i64 c.t, .int .i64 c.n, .int .i64 c.c, .slice la c.label.length lc, .slice ga c.grants.length gc, .string c.text]), (g6, 52, [.int .i64 0, .int .i64 0, .string ⟨#[]⟩])]) (st.drew) (by decide +kernel) ?_
   refine detS 0 rfl ?_
   refine detT 1 rfl (fun W hW => St.run_load hW 1 3 _ rfl Try.isAgg3 rfl rfl rfl) ?_
   refine det_call (fn := 24) 2 rfl (by decide +kernel) (by first | exact wanted_none rfl | exact wanted_some rfl rfl) (fun W => by first | (go_simp; done) | (go_simp; rfl)) (fun W hW => (F4.out W).mono fun e w' h => ⟨h.1, h.2 ▸ hW⟩) ?_; simp only [kP, kA, kS, kZ]
   refine detS 3 rfl ?_; refine detS 4 rfl ?_
   refine detT 5 rfl (fun W hW => St.run_load hW 1 3 _ rfl Try.isAgg3 rfl rfl rfl) ?_
   refine detT (v := .bool false) 6 rfl (fun W hW => by (go_simp; done)) ?_
   refine detS 7 rfl ?_; refine detS 8 rfl ?_
   refine detK 9 rfl ?_; refine detK 10 rfl ?_; refine detK 11 rfl ?_; refine detK 12 rfl ?_; refine detK 13 rfl ?_; refine detK 14 rfl ?_; refine detK 15 rfl ?_; refine detK 16 rfl ?_; refine detK 17 rfl ?_; refine detK 18 rfl ?_; refine detK 19 rfl ?_; refine detK 20 rfl ?_; refine detK 21 rfl ?_
   refine detS 22 rfl ?_; refine detS 23 rfl ?_
   refine det_done (by decide +kernel) ?_
   clear st
   intro W st
   go_wp2_with fail
   go_meet
   exact ⟨by rw [h3.out], st⟩
  ·have F4 := qh (fun (W : World) => ref_four (m : Int) W)
   rw [four_of hm] at F4
   have d3 : decide ((0 : Int) ≤ (j : Int)) = true := by simp
   have d5 : decide ((m : Int) < 0) = false := by simp
   have d6 : decide ((4 : Int) ≤ m) = false := by simp; omega
   rw [et, en] at st
   replace et := qh et
   replace en := qh en
   replace hth := qh hth
   refine det_region (by kernel_rfl) 24 rfl (fun W => St [g] w W [(g, 38, winC (preC k css n) [.slice xa x.label.length xc, .slice oa x.own.length oc, .string x.text, .slice ba x.objects.length bc, .slice ma x.mails.length mc] (postC k css n)), (g5, 40, [.int .i64 c.kind, .int .i64 c.h, .int .i64 m, .int .i64 j, .int .i64 c.c, .slice la c.label.length lc, .slice ga c.grants.length gc, .string c.text]), (g6, 52, [.int .i64 0, .int .i64 0, .string ⟨#[]⟩])]) (st.drew) (by decide +kernel) ?_
   refine detS 0 rfl ?_
   refine detT 1 rfl (fun W hW => St.run_load hW 1 3 _ rfl Try.isAgg3 rfl rfl rfl) ?_
   refine det_call (fn := 24) 2 rfl (by decide +kernel) (by first | exact wanted_none rfl | exact wanted_some rfl rfl) (fun W => by first | (go_simp; done) | (go_simp; rfl)) (fun W hW => (F4.out W).mono fun e w' h => ⟨h.1, h.2 ▸ hW⟩) ?_; simp only [kP, kA, kS, kZ]
   refine detS 3 rfl ?_; refine detS 4 rfl ?_
   refine detT 5 rfl (fun W hW => St.run_load hW 1 3 _ rfl Try.isAgg3 rfl rfl rfl) ?_
   refine detT (v := .bool true) 6 rfl (fun W hW => by (go_simp; done)) ?_
   refine detS 7 rfl ?_; refine detS 8 rfl ?_; refine detS 9 rfl ?_
   refine detT 10 rfl (fun W hW => St.run_load hW 1 3 _ rfl Try.isAgg3 rfl rfl rfl) ?_
   refine detS 11 rfl ?_; refine detS 12 rfl ?_
   refine detT 13 rfl (fun W hW => St.run_load hW 1 3 _ rfl Try.isAgg3 rfl rfl rfl) ?_
   refine detT (v := .int .i64 m) 14 rfl (fun W hW => by (exact run_and3 _ _ _ rfl hm rfl rfl)) ?_
   refine detS 15 rfl ?_; refine detS 16 rfl ?_
   refine detT (v := .pointer (some ⟨g, 1 + m * 5, none⟩)) 17 rfl (fun W hW => by (first | (go_simp; done) | (go_simp; omega))) ?_
   refine detS 18 rfl ?_
   refine detT (v := .slice yb y.objects.length yc) 19 rfl (fun W hW => St.run_load hW 0 32 _ rfl Try.isAgg32 rfl rfl hcell) ?_
   refine detS 20 rfl ?_
   refine detT (v := .bool (decide ((j : Int) < y.objects.length))) 21 rfl (fun W hW => by (go_simp; done)) ?_
   refine detS 22 rfl ?_; refine detS 23 rfl ?_
   refine det_done (by decide +kernel) ?_
   clear st
   intro W st
   go_wp2_with fail
   go_meet
   exact ⟨by rw [hth.out]; simp, by rw [et.out, en.out]; exact st⟩
 case rest =>
 obtain ⟨rfl, st⟩ := hcut
 have hg5w : w.heap.size ≤ g5 := hg5
 have hg6w : w.heap.size ≤ g6 := hg6
 have hmade := h.madeAt hn
 have hhost := h.host n
 have hlen := h.len22 hn
 have hput := h.madePut hn
 have HO := qh (fun (W : World) (hB : Below w.heap.size w W) => ref_owns (fun b => ok b ∧ b < w.heap.size) W oa oc x.own (k.host * 20 + k.made) hxo (hT.later hB).own)
 rw [hth] at hof
 obtain ⟨⟨o2, e2⟩, HP⟩ : ∃ r, Hid (ownC x.own (k.host * 20 + k.made) = r) := ⟨_, rfl⟩
 rw [HP.out] at HO
 have hlo := ownC_lo x.own (k.host * 20 + k.made)
 rw [HP.out] at hlo
 have d5 : (k.made == 20) = false := by simp; omega
 have hf' : ¬ 20 ≤ k.made := by omega
 rw [HP.out] at hof
 have HE := qh (show callK k (n : Int) c = (k, errR 5) by unfold callK; simp [hkd, hf', hth, HP.out, hof])
 rcases hlo with hlo | ⟨hlo, hlo2⟩
 ·exact absurd hlo hof
 obtain rfl : e2 = 5 := hlo
 obtain rfl : o2 = x.own := hlo2
 clear hof hf'
 rw [hkd] at st
 clear hkd
 have e20 : IntKind.i64.wrap (20 * k.host) = k.host * 20 := by rw [Int.mul_comm]; exact IntWalk.i64_in _ (by omega)
 have e21 : IntKind.i64.wrap (k.host * 20 + k.made) = k.host * 20 + k.made := IntWalk.i64_in _ (by omega)
 go_wp2_with (first | go_skip | (with_reducible refine mX st Try.isAgg3 ?_))
 have hI := st.drew
 refine lex_region (by kernel_rfl) 20 rfl (fun W => St [g] w W [(g, 38, winC (preC k css n) [.slice xa x.label.length xc, .slice oa x.own.length oc, .string x.text, .slice ba x.objects.length bc, .slice ma x.mails.length mc] (postC k css n)), (g5, 40, [.int .i64 1, .int .i64 c.h, .int .i64 c.t, .int .i64 c.n, .int .i64 c.c, .slice la c.label.length lc, .slice ga c.grants.length gc, .string c.text]), (g6, 52, [.int .i64 0, .int .i64 0, .string ⟨#[]⟩])]) ?_
 refine lexS 0 rfl hI ?_
 refine lexS 1 rfl hI ?_
 refine lexS 2 rfl hI ?_
 refine lexT 3 rfl hI (fun W hW => St.run_loadW hW 0 31 _ rfl Try.isAgg31 1 hpre rfl rfl rfl) ?_
 refine lexS 4 rfl hI ?_
 refine lexS 5 rfl hI ?_
 refine lexS 6 rfl hI ?_
 refine lexT (v := .int .i64 k.host) 7 rfl hI (fun W hW => St.run_load hW 0 3 _ rfl Try.isAgg3 rfl rfl (hhost _ _)) ?_
 refine lexT (v := .int .i64 (k.host * 20)) 8 rfl hI (fun W hW => by (go_simp; done)) ?_
 refine lexS 9 rfl hI ?_
 refine lexS 10 rfl hI ?_
 refine lexS 11 rfl hI ?_
 refine lexT (v := .int .i64 k.made) 12 rfl hI (fun W hW => St.run_load hW 0 3 _ rfl Try.isAgg3 rfl rfl (hmade _ _ _ _ _)) ?_
 refine lexT (v := .int .i64 (k.host * 20 + k.made)) 13 rfl hI (fun W hW => by (go_simp; done)) ?_
 clear hI
 have st := st.drew
 refine lexO 14 rfl fun K hK => ?_
 have hBW := HB.out _ _ st (by simp)
 have hsW := hBW.size
 have hl5 := st.ltAt (i := 1) rfl
 have hl6 := st.ltAt (i := 2) rfl
 have hgw := h.lt g (by simp)
 refine wp_callee (f := 40) (by first | (go_simp; done) | (go_simp; rfl)) ?_
 refine (HO.out _ hBW).mono ?_
 rintro e W1 ⟨oa', oc', rfl, hb1, hown⟩
 have hzW := hb1.size
 refine ⟨_, rfl, ?_⟩
 replace st := st.call hb1
 clear hb1
 have hI := st
 refine hK _ _ (hI) ?_; clear hK; simp only [kP, kA, kS, kZ]
 refine lexS 15 rfl hI ?_
 refine lexS 16 rfl hI ?_
 refine lexS 17 rfl hI ?_
 refine lexS 18 rfl hI ?_
 refine lexS 19 rfl hI ?_
 clear hI
 refine lex_done (by decide +kernel) ?_
 have hst := st
 have st := hst.rebase
 simp only [List.map_cons, List.map_nil] at st
 clear e20 e21 hput hlen hhost
 go_wp2_with (first | go_skip | (go_at_call 39; go_must (refine (rcall_no _ _).mono ?_; rintro e vn ⟨rfl, hbn⟩; replace st := st.call hbn; clear hbn)) | (with_reducible refine mS 2 st Try.sizeOf52 ?_; clear st; intro w7 st hw7m hw7z) | (with_reducible refine at_load 3 ?_; refine mem_load' st 3 _ rfl (by first | exact wanted_none rfl | exact wanted_some rfl rfl) Try.isAgg3 ?_; refine ⟨0, _, _, _, _, _, rfl, rfl, hmade _ _ _ _ _, ?_⟩))
 have hc := fun j => st.cell (i := 2) rfl j
 refine bodyPost_ret (v := RepV (errR 5)) ?hr rfl ?_
 case hr => simp [results, Try.results14, go_sem, hc, RepV, errR]; try rfl
 rw [HE.out]
 exact ⟨rfl, RkTo.none h (HB.out _ _ (St.back hst st) (by simp))⟩
end
section
variable (ok okc : Nat → Prop) (w : World) (g : Nat) (k : Ker) (css : List (List Value)) (Bs : List (List Nat)) (n : Nat) (c : Req) (la : Option Addr) (lc : Nat) (ga : Option Addr) (gc : Nat)
theorem ref_Call_cat (h : RkAt ok w g k css Bs) (hk : ∀ x ∈ k.threads, x.ok) (hn : n < 4) (hx64 : ¬ 64 < c.text.size) (hkd : c.kind = 1) (hh0 : 0 ≤ k.host) (hh4 : k.host < 4) (hm0 : 0 ≤ k.made) (hm20 : k.made ≤ 20) (hf : k.made < 20) (hof : (ownC (k.thr n).own (k.host * 20 + k.made)).2 = 0) :
  Calls Try.prog 14 #[.pointer (some ⟨g, 0, none⟩), .int .i64 n, reqV c la lc ga gc] w (RCallPost ok w g Bs (callK k n c)) := by
 obtain ⟨x, xa, xc, oa, oc, ba, bc, ma, mc, ex, ec, eB, hT, hb⟩ := h.open hn
 have hx := hk x (mgE ex)
 have hpre := h.preLen hn
 have hth := Ker.thr_at ex
 have st0 := St.hand hb
 unfold thrC at st0
 have d1 : decide ((n : Int) < 0) = false := by simp
 have d2 : decide ((4 : Int) ≤ n) = false := by simp; omega
 have d64 := text_size hx64
 have hgg : ¬ ok g := h.apart g (by simp)
 have H4 := qh (fun (W : World) => ref_four (n : Int) W)
 rw [four_of hn] at H4
 have HKp := qh (show ∀ (W : World) (bl : Blks), St [g] w W bl → Keeps ok w W from fun W bl s => s.keeps (by simpa using hgg))
 have HB := qh (show ∀ (W : World) (bl : Blks), St [g] w W bl → (g, 38, winC (preC k css n) [.slice xa x.label.length xc, .slice oa x.own.length oc, .string x.text, .slice ba x.objects.length bc, .slice ma x.mails.length mc] (postC k css n)) ∈ bl → Below w.heap.size w W from fun W bl s hm => st0.below2 s (by simpa using hm))
 have hxf := goodL_fitI hx.good; have hxl := goodL_len hx.good; have hxo := hx.ownL; have hxm := hx.mailN; have hxb := hx.objs; have hxt := hx.text
 have st := st0
 clear st0
 unfold reqV
 go_enter Try.func14, Try.ntmps14
 go_upto_region 7 with (first | go_skip | (go_at_call 24; go_must (refine (H4.out _).mono ?_; rintro e v1 ⟨rfl, rfl⟩)) | (with_reducible refine mB 40 st ?_; clear st; intro g5 w5 hg5 st) | (with_reducible refine mA st Try.zeroValue52 ?_; clear st; intro g6 w6 hg6 st) | (with_reducible refine mX st Try.isAgg9 ?_))
 try simp only [kP, kA, kS, kZ]
 go_cut [9] from 37 to 59 (fun s9 wx => s9 = .bool (k.there c.t c.n) ∧ St [g] w wx [(g, 38, winC (preC k css n) [.slice xa x.label.length xc, .slice oa x.own.length oc, .string x.text, .slice ba x.objects.length bc, .slice ma x.mails.length mc] (postC k css n)), (g5, 40, [.int .i64 c.kind, .int .i64 c.h, .int .i64 c.t, .int .i64 c.n, .int .i64 c.c, .slice la c.label.length lc, .slice ga c.grants.length gc, .string c.text]), (g6, 52, [.int .i64 0, .int .i64 0, .string ⟨#[]⟩])])
 case first =>
  have HTh := qh (h.thereCases hn ec c.t c.n)
  unfold thrC at HTh
  rcases HTh.out with ⟨h1, h2⟩ | ⟨h1, h2, h3⟩ | ⟨m, j, y, yb, yc, hm, et, en, hth, hcell⟩
  ·have F4 := qh (fun (W : World) => ref_four c.t W)
   rw [h1] at F4
   replace h2 := qh h2
   clear h1
   refine det_region (by kernel_rfl) 24 rfl (fun W => St [g] w W [(g, 38, winC (preC k css n) [.slice xa x.label.length xc, .slice oa x.own.length oc, .string x.text, .slice ba x.objects.length bc, .slice ma x.mails.length mc] (postC k css n)), (g5, 40, [.int .i64 c.kind, .int .i64 c.h, .int .i64 c.t, .int .i64 c.n, .int .i64 c.c, .slice la c.label.length lc, .slice ga c.grants.length gc, .string c.text]), (g6, 52, [.int .i64 0, .int .i64 0, .string ⟨#[]⟩])]) (st.drew) (by decide +kernel) ?_
   refine detS 0 rfl ?_
   refine detT 1 rfl (fun W hW => St.run_load hW 1 3 _ rfl Try.isAgg3 rfl rfl rfl) ?_
   refine det_call (fn := 24) 2 rfl (by decide +kernel) (by first | exact wanted_none rfl | exact wanted_some rfl rfl) (fun W => by first | (go_simp; done) | (go_simp; rfl)) (fun W hW => (F4.out W).mono fun e w' h => ⟨h.1, h.2 ▸ hW⟩) ?_; simp only [kP, kA, kS, kZ]
   refine detS 3 rfl ?_
   refine detK 4 rfl ?_; refine detK 5 rfl ?_; refine detK 6 rfl ?_
   refine detS 7 rfl ?_; refine detS 8 rfl ?_
   refine detK 9 rfl ?_; refine detK 10 rfl ?_; refine detK 11 rfl ?_; refine detK 12 rfl ?_; refine detK 13 rfl ?_; refine detK 14 rfl ?_; refine detK 15 rfl ?_; refine detK 16 rfl ?_; refine detK 17 rfl ?_; refine detK 18 rfl ?_; refine detK 19 rfl ?_; refine detK 20 rfl ?_; refine detK 21 rfl ?_
   refine detS 22 rfl ?_; refine detS 23 rfl ?_
   refine det_done (by decide +kernel) ?_
   clear st
   intro W st
   go_wp2_with fail
   go_meet
   exact ⟨by rw [h2.out], st⟩
  ·have F4 := qh (fun (W : World) => ref_four c.t W)
   rw [h1] at F4
   replace h3 := qh h3
   have d3 : decide ((0 : Int) ≤ c.n) = false := by simpa using h2
   clear h1 h2
   refine det_region (by kernel_rfl) 24 rfl (fun W => St [g] w W [(g, 38, winC (preC k css n) [.slice xa x.label.length xc, .slice oa x.own.length oc, .string x.text, .slice ba x.objects.length bc, .slice ma x.mails.length mc] (postC k css n)), (g5, 40, [.int .i64 c.kind, .int .i64 c.h, .int .i64 c.t, .int .i64 c.n, .int .i64 c.c, .slice la c.label.length lc, .slice ga c.grants.length gc, .string c.text]), (g6, 52, [.int .i64 0, .int .i64 0, .string ⟨#[]⟩])]) (st.drew) (by decide +kernel) ?_
   refine detS 0 rfl ?_
   refine detT 1 rfl (fun W hW => St.run_load hW 1 3 _ rfl Try.isAgg3 rfl rfl rfl) ?_
   refine det_call (fn := 24) 2 rfl (by decide +kernel) (by first | exact wanted_none rfl | exact wanted_some rfl rfl) (fun W => by first | (go_simp; done) | (go_simp; rfl)) (fun W hW => (F4.out W).mono fun e w' h => ⟨h.1, h.2 ▸ hW⟩) ?_; simp only [kP, kA, kS, kZ]
   refine detS 3 rfl ?_; refine detS 4 rfl ?_
   refine detT 5 rfl (fun W hW => St.run_load hW 1 3 _ rfl Try.isAgg3 rfl rfl rfl) ?_
   refine detT (v := .bool false) 6 rfl (fun W hW => by (go_simp; done)) ?_
   refine detS 7 rfl ?_; refine detS 8 rfl ?_
   refine detK 9 rfl ?_; refine detK 10 rfl ?_; refine detK 11 rfl ?_; refine detK 12 rfl ?_; refine detK 13 rfl ?_; refine detK 14 rfl ?_; refine detK 15 rfl ?_; refine detK 16 rfl ?_; refine detK 17 rfl ?_; refine detK 18 rfl ?_; refine detK 19 rfl ?_; refine detK 20 rfl ?_; refine detK 21 rfl ?_
   refine detS 22 rfl ?_; refine detS 23 rfl ?_
   refine det_done (by decide +kernel) ?_
   clear st
   intro W st
   go_wp2_with fail
   go_meet
   exact ⟨by rw [h3.out], st⟩
  ·have F4 := qh (fun (W : World) => ref_four (m : Int) W)
   rw [four_of hm] at F4
   have d3 : decide ((0 : Int) ≤ (j : Int)) = true := by simp
   have d5 : decide ((m : Int) < 0) = false := by simp
   have d6 : decide ((4 : Int) ≤ m) = false := by simp; omega
   rw [et, en] at st
   replace et := qh et
   replace en := qh en
   replace hth := qh hth
   refine det_region (by kernel_rfl) 24 rfl (fun W => St [g] w W [(g, 38, winC (preC k css n) [.slice xa x.label.length xc, .slice oa x.own.length oc, .string x.text, .slice ba x.objects.length bc, .slice ma x.mails.length mc] (postC k css n)), (g5, 40, [.int .i64 c.kind, .int .i64 c.h, .int .i64 m, .int .i64 j, .int .i64 c.c, .slice la c.label.length lc, .slice ga c.grants.length gc, .string c.text]), (g6, 52, [.int .i64 0, .int .i64 0, .string ⟨#[]⟩])]) (st.drew) (by decide +kernel) ?_
   refine detS 0 rfl ?_
   refine detT 1 rfl (fun W hW => St.run_load hW 1 3 _ rfl Try.isAgg3 rfl rfl rfl) ?_
   refine det_call (fn := 24) 2 rfl (by decide +kernel) (by first | exact wanted_none rfl | exact wanted_some rfl rfl) (fun W => by first | (go_simp; done) | (go_simp; rfl)) (fun W hW => (F4.out W).mono fun e w' h => ⟨h.1, h.2 ▸ hW⟩) ?_; simp only [kP, kA, kS, kZ]
   refine detS 3 rfl ?_; refine detS 4 rfl ?_
   refine detT 5 rfl (fun W hW => St.run_load hW 1 3 _ rfl Try.isAgg3 rfl rfl rfl) ?_
   refine detT (v := .bool true) 6 rfl (fun W hW => by (go_simp; done)) ?_
   refine detS 7 rfl ?_; refine detS 8 rfl ?_; refine detS 9 rfl ?_
   refine detT 10 rfl (fun W hW => St.run_load hW 1 3 _ rfl Try.isAgg3 rfl rfl rfl) ?_
   refine detS 11 rfl ?_; refine detS 12 rfl ?_
   refine detT 13 rfl (fun W hW => St.run_load hW 1 3 _ rfl Try.isAgg3 rfl rfl rfl) ?_
   refine detT (v := .int .i64 m) 14 rfl (fun W hW => by (exact run_and3 _ _ _ rfl hm rfl rfl)) ?_
   refine detS 15 rfl ?_; refine detS 16 rfl ?_
   refine detT (v := .pointer (some ⟨g, 1 + m * 5, none⟩)) 17 rfl (fun W hW => by (first | (go_simp; done) | (go_simp; omega))) ?_
   refine detS 18 rfl ?_
   refine detT (v := .slice yb y.objects.length yc) 19 rfl (fun W hW => St.run_load hW 0 32 _ rfl Try.isAgg32 rfl rfl hcell) ?_
   refine detS 20 rfl ?_
   refine detT (v := .bool (decide ((j : Int) < y.objects.length))) 21 rfl (fun W hW => by (go_simp; done)) ?_
   refine detS 22 rfl ?_; refine detS 23 rfl ?_
   refine det_done (by decide +kernel) ?_
   clear st
   intro W st
   go_wp2_with fail
   go_meet
   exact ⟨by rw [hth.out]; simp, by rw [et.out, en.out]; exact st⟩
 case rest =>
 obtain ⟨rfl, st⟩ := hcut
 have hg5w : w.heap.size ≤ g5 := hg5
 have hg6w : w.heap.size ≤ g6 := hg6
 have hmade := h.madeAt hn
 have hhost := h.host n
 have hlen := h.len22 hn
 have hput := h.madePut hn
 have HO := qh (fun (W : World) (hB : Below w.heap.size w W) => ref_owns (fun b => ok b ∧ b < w.heap.size) W oa oc x.own (k.host * 20 + k.made) hxo (hT.later hB).own)
 rw [hth] at hof
 obtain ⟨⟨o2, e2⟩, HP⟩ : ∃ r, Hid (ownC x.own (k.host * 20 + k.made) = r) := ⟨_, rfl⟩
 rw [HP.out] at HO
 have hlo := ownC_lo x.own (k.host * 20 + k.made)
 rw [HP.out] at hlo
 have d5 : (k.made == 20) = false := by simp; omega
 have hf' : ¬ 20 ≤ k.made := by omega
 rw [HP.out] at hof
 obtain rfl : e2 = 0 := hof
 have HE := qh (show callK k (n : Int) c = ({ k.put n { x with own := o2 } with made := k.made + 1 }, ⟨0, k.host * 20 + k.made, ⟨#[]⟩⟩) by unfold callK; simp [hkd, hf', hth, HP.out])
 clear hlo hf'
 have hmade2 := fun A B C D E => h.madeAt' hn A B C D E (k.made + 1)
 rw [hkd] at st
 clear hkd
 have e20 : IntKind.i64.wrap (20 * k.host) = k.host * 20 := by rw [Int.mul_comm]; exact IntWalk.i64_in _ (by omega)
 have e21 : IntKind.i64.wrap (k.host * 20 + k.made) = k.host * 20 + k.made := IntWalk.i64_in _ (by omega)
 go_wp2_with (first | go_skip | (with_reducible refine mX st Try.isAgg3 ?_))
 have hI := st.drew
 refine lex_region (by kernel_rfl) 20 rfl (fun W => St [g] w W [(g, 38, winC (preC k css n) [.slice xa x.label.length xc, .slice oa x.own.length oc, .string x.text, .slice ba x.objects.length bc, .slice ma x.mails.length mc] (postC k css n)), (g5, 40, [.int .i64 1, .int .i64 c.h, .int .i64 c.t, .int .i64 c.n, .int .i64 c.c, .slice la c.label.length lc, .slice ga c.grants.length gc, .string c.text]), (g6, 52, [.int .i64 0, .int .i64 0, .string ⟨#[]⟩])]) ?_
 refine lexS 0 rfl hI ?_
 refine lexS 1 rfl hI ?_
 refine lexS 2 rfl hI ?_
 refine lexT 3 rfl hI (fun W hW => St.run_loadW hW 0 31 _ rfl Try.isAgg31 1 hpre rfl rfl rfl) ?_
 refine lexS 4 rfl hI ?_
 refine lexS 5 rfl hI ?_
 refine lexS 6 rfl hI ?_
 refine lexT (v := .int .i64 k.host) 7 rfl hI (fun W hW => St.run_load hW 0 3 _ rfl Try.isAgg3 rfl rfl (hhost _ _)) ?_
 refine lexT (v := .int .i64 (k.host * 20)) 8 rfl hI (fun W hW => by (go_simp; done)) ?_
 refine lexS 9 rfl hI ?_
 refine lexS 10 rfl hI ?_
 refine lexS 11 rfl hI ?_
 refine lexT (v := .int .i64 k.made) 12 rfl hI (fun W hW => St.run_load hW 0 3 _ rfl Try.isAgg3 rfl rfl (hmade _ _ _ _ _)) ?_
 refine lexT (v := .int .i64 (k.host * 20 + k.made)) 13 rfl hI (fun W hW => by (go_simp; done)) ?_
 clear hI
 have st := st.drew
 refine lexO 14 rfl fun K hK => ?_
 have hBW := HB.out _ _ st (by simp)
 have hsW := hBW.size
 have hl5 := st.ltAt (i := 1) rfl
 have hl6 := st.ltAt (i := 2) rfl
 have hgw := h.lt g (by simp)
 refine wp_callee (f := 40) (by first | (go_simp; done) | (go_simp; rfl)) ?_
 refine (HO.out _ hBW).mono ?_
 rintro e W1 ⟨oa', oc', rfl, hb1, hown⟩
 have hzW := hb1.size
 refine ⟨_, rfl, ?_⟩
 replace st := st.call hb1
 clear hb1
 have hI := st
 refine hK _ _ (hI) ?_; clear hK; simp only [kP, kA, kS, kZ]
 refine lexS 15 rfl hI ?_
 refine lexS 16 rfl hI ?_
 refine lexS 17 rfl hI ?_
 refine lexS 18 rfl hI ?_
 refine lexS 19 rfl hI ?_
 clear hI
 refine lex_done (by decide +kernel) ?_
 have hst := st
 have st := hst.rebase
 simp only [List.map_cons, List.map_nil] at st
 have e24 : IntKind.i64.wrap (k.made + 1) = k.made + 1 := IntWalk.i64_in _ (by omega)
 go_upto_region 15 with (first
  | go_skip | (with_reducible refine at_load 3 ?_; refine mem_load' st 3 _ rfl (by first | exact wanted_none rfl | exact wanted_some rfl rfl) Try.isAgg3 ?_; refine ⟨0, _, _, _, _, _, rfl, rfl, hmade _ _ _ _ _, ?_⟩) | (with_reducible refine at_store 31 ?_; refine mem_storeW st 31 _ _ rfl (wanted_none rfl) _ Try.sizeOf31 1 ?_; refine ⟨0, _, _, _, _, _, _, _, hpre, rfl, rfl, rfl, rfl, rfl, rfl, ?_⟩; clear st; intro w9 st hw9m hw9z; simp [Act.eval, Act.put, Value.cells, putL] at st)
  | ((with_reducible refine at_store 3 ?_); refine mem_store st (wanted_none rfl) 3 _ _ rfl g 21 rfl _ rfl [.int .i64 (k.made + 1)] rfl Try.sizeOf3 (by simp [Value.oneCell']) 0 _ _ rfl (by rw [hlen]; simp) ?_; clear st; intro w8 st hw8m hw8z; rw [hput] at st; simp only [List.set_cons_zero] at st))
 have e25 : IntKind.i64.wrap (k.host * 20 + (k.made + 1)) = k.host * 20 + (k.made + 1) := IntWalk.i64_in _ (by omega)
 have e26 : IntKind.i64.wrap (k.host * 20 + (k.made + 1) - 1) = k.host * 20 + k.made := by rw [show k.host * 20 + (k.made + 1) - 1 = k.host * 20 + k.made by omega]; exact e21
 have hI := st.drew
 have st := st.drew
 refine lex_tail (by kernel_rfl) 12 1 [12] rfl (by decide +kernel) (fun W => St [g, g5, g6] W1 W [(g, 38, winC (preC k css n) [.slice xa x.label.length xc, .slice oa' o2.length oc', .string x.text, .slice ba x.objects.length bc, .slice ma x.mails.length mc] (postC { k with made := k.made + 1 } css n)), (g5, 40, [.int .i64 1, .int .i64 c.h, .int .i64 c.t, .int .i64 c.n, .int .i64 c.c, .slice la c.label.length lc, .slice ga c.grants.length gc, .string c.text]), (g6, 52, [.int .i64 0, .int .i64 0, .string ⟨#[]⟩])]) ?_
 refine lexS 0 rfl hI ?_
 refine lexS 1 rfl hI ?_
 refine lexS 2 rfl hI ?_
 refine lexT (v := .int .i64 k.host) 3 rfl hI (fun W hW => St.run_load hW 0 3 _ rfl Try.isAgg3 rfl rfl (hhost _ _)) ?_
 refine lexT (v := .int .i64 (k.host * 20)) 4 rfl hI (fun W hW => by (go_simp; done)) ?_
 refine lexS 5 rfl hI ?_
 refine lexS 6 rfl hI ?_
 refine lexS 7 rfl hI ?_
 refine lexT (v := .int .i64 (k.made + 1)) 8 rfl hI (fun W hW => St.run_load hW 0 3 _ rfl Try.isAgg3 rfl rfl (hmade2 _ _ _ _ _)) ?_
 refine lexT (v := .int .i64 (k.host * 20 + (k.made + 1))) 9 rfl hI (fun W hW => by (go_simp; done)) ?_
 refine lexT (v := .int .i64 (k.host * 20 + k.made)) 10 rfl hI (fun W hW => by (go_simp; done)) ?_
 refine lexS 11 rfl hI ?_
 clear hI
 refine lex_done (by decide +kernel) ?_
 refine tail_last 12 rfl (by first | exact wanted_none rfl | exact wanted_some rfl rfl) (by decide +kernel) (by decide +kernel) fun K hK => ?_
 refine wp_store' st 52 _ _ rfl _ Try.sizeOf52 ⟨2, _, _, _, _, _, rfl, rfl, rfl, rfl, rfl, rfl, ?_⟩; clear st; intro w7 st hw7m hw7z; simp [Act.eval, Act.put, Value.cells, putL] at st
 refine hK _ _ ?_; clear hK
 go_wp2_with fail
 have hc := fun j => st.cell (i := 2) rfl j
 refine bodyPost_ret (v := RepV (⟨0, k.host * 20 + k.made, ⟨#[]⟩⟩)) ?hr rfl ?_
 case hr => simp [results, Try.results14, go_sem, hc, RepV, errR]; try rfl
 rw [HE.out]
 exact ⟨rfl, h.closeSame (made' := k.made + 1) (x' := { x with own := o2 }) (x := x) (la' := xa) (lc' := xc) (oa' := oa') (oc' := oc') hn ec eB hT ((St.back hst st).sub (by simp [thrC]) (by simp)) rfl rfl (h.fine eB ((hT.label.keep (HKp.out _ _ (St.back hst st))).okay fun _ r => .inl r)) (h.fine eB ((hown.move st.size (fun b hb ho => ⟨ho, st.frame b hb (by
  simp only [List.mem_cons, List.not_mem_nil, or_false]
  rintro (rfl | rfl | rfl)
  ·rcases ho with ho | ho
   ·exact hgg ho.1.1
   ·omega
  ·rcases ho with ho | ho
   ·have := ho.1.2; omega
   ·omega
  ·rcases ho with ho | ho
   ·have := ho.1.2; omega
   ·omega)⟩) fun _ _ r => r).okay fun b ho => by
  rcases ho with ho | ho
  ·exact .inl ho.1.1
  ·exact .inr (by omega)))⟩
end
section
variable (ok okc : Nat → Prop) (w : World) (g : Nat) (k : Ker) (css : List (List Value)) (Bs : List (List Nat)) (n : Nat) (c : Req) (la : Option Addr) (lc : Nat) (ga : Option Addr) (gc : Nat)
theorem ref_Call_object_bad (h : RkAt ok w g k css Bs) (hk : ∀ x ∈ k.threads, x.ok) (hn : n < 4) (hx64 : ¬ 64 < c.text.size) (hkd : c.kind = 2) (hll : c.label.length * 16 ≤ 140737488351232) (hcl : SlR okc w 2 RLev la lc c.label) (hgl : goodL c.label = false) :
  Calls Try.prog 14 #[.pointer (some ⟨g, 0, none⟩), .int .i64 n, reqV c la lc ga gc] w (RCallPost ok w g Bs (callK k n c)) := by
 obtain ⟨x, xa, xc, oa, oc, ba, bc, ma, mc, ex, ec, eB, hT, hb⟩ := h.open hn
 have hx := hk x (mgE ex)
 have hpre := h.preLen hn
 have hth := Ker.thr_at ex
 have st0 := St.hand hb
 unfold thrC at st0
 have d1 : decide ((n : Int) < 0) = false := by simp
 have d2 : decide ((4 : Int) ≤ n) = false := by simp; omega
 have d64 := text_size hx64
 have hgg : ¬ ok g := h.apart g (by simp)
 have H4 := qh (fun (W : World) => ref_four (n : Int) W)
 rw [four_of hn] at H4
 have HKp := qh (show ∀ (W : World) (bl : Blks), St [g] w W bl → Keeps ok w W from fun W bl s => s.keeps (by simpa using hgg))
 have HB := qh (show ∀ (W : World) (bl : Blks), St [g] w W bl → (g, 38, winC (preC k css n) [.slice xa x.label.length xc, .slice oa x.own.length oc, .string x.text, .slice ba x.objects.length bc, .slice ma x.mails.length mc] (postC k css n)) ∈ bl → Below w.heap.size w W from fun W bl s hm => st0.below2 s (by simpa using hm))
 have hxf := goodL_fitI hx.good; have hxl := goodL_len hx.good; have hxo := hx.ownL; have hxm := hx.mailN; have hxb := hx.objs; have hxt := hx.text
 have st := st0
 clear st0
 unfold reqV
 go_enter Try.func14, Try.ntmps14
 go_upto_region 7 with (first | go_skip | (go_at_call 24; go_must (refine (H4.out _).mono ?_; rintro e v1 ⟨rfl, rfl⟩)) | (with_reducible refine mB 40 st ?_; clear st; intro g5 w5 hg5 st) | (with_reducible refine mA st Try.zeroValue52 ?_; clear st; intro g6 w6 hg6 st) | (with_reducible refine mX st Try.isAgg9 ?_))
 try simp only [kP, kA, kS, kZ]
 go_cut [9] from 37 to 59 (fun s9 wx => s9 = .bool (k.there c.t c.n) ∧ St [g] w wx [(g, 38, winC (preC k css n) [.slice xa x.label.length xc, .slice oa x.own.length oc, .string x.text, .slice ba x.objects.length bc, .slice ma x.mails.length mc] (postC k css n)), (g5, 40, [.int .i64 c.kind, .int .i64 c.h, .int .i64 c.t, .int .i64 c.n, .int .i64 c.c, .slice la c.label.length lc, .slice ga c.grants.length gc, .string c.text]), (g6, 52, [.int .i64 0, .int .i64 0, .string ⟨#[]⟩])])
 case first =>
  have HTh := qh (h.thereCases hn ec c.t c.n)
  unfold thrC at HTh
  rcases HTh.out with ⟨h1, h2⟩ | ⟨h1, h2, h3⟩ | ⟨m, j, y, yb, yc, hm, et, en, hth, hcell⟩
  ·have F4 := qh (fun (W : World) => ref_four c.t W)
   rw [h1] at F4
   replace h2 := qh h2
   clear h1
   refine det_region (by kernel_rfl) 24 rfl (fun W => St [g] w W [(g, 38, winC (preC k css n) [.slice xa x.label.length xc, .slice oa x.own.length oc, .string x.text, .slice ba x.objects.length bc, .slice ma x.mails.length mc] (postC k css n)), (g5, 40, [.int .i64 c.kind, .int .i64 c.h, .int .i64 c.t, .int .i64 c.n, .int .i64 c.c, .slice la c.label.length lc, .slice ga c.grants.length gc, .string c.text]), (g6, 52, [.int .i64 0, .int .i64 0, .string ⟨#[]⟩])]) (st.drew) (by decide +kernel) ?_
   refine detS 0 rfl ?_
   refine detT 1 rfl (fun W hW => St.run_load hW 1 3 _ rfl Try.isAgg3 rfl rfl rfl) ?_
   refine det_call (fn := 24) 2 rfl (by decide +kernel) (by first | exact wanted_none rfl | exact wanted_some rfl rfl) (fun W => by first | (go_simp; done) | (go_simp; rfl)) (fun W hW => (F4.out W).mono fun e w' h => ⟨h.1, h.2 ▸ hW⟩) ?_; simp only [kP, kA, kS, kZ]
   refine detS 3 rfl ?_
   refine detK 4 rfl ?_; refine detK 5 rfl ?_; refine detK 6 rfl ?_
   refine detS 7 rfl ?_; refine detS 8 rfl ?_
   refine detK 9 rfl ?_; refine detK 10 rfl ?_; refine detK 11 rfl ?_; refine detK 12 rfl ?_; refine detK 13 rfl ?_; refine detK 14 rfl ?_; refine detK 15 rfl ?_; refine detK 16 rfl ?_; refine detK 17 rfl ?_; refine detK 18 rfl ?_; refine detK 19 rfl ?_; refine detK 20 rfl ?_; refine detK 21 rfl ?_
   refine detS 22 rfl ?_; refine detS 23 rfl ?_
   refine det_done (by decide +kernel) ?_
   clear st
   intro W st
   go_wp2_with fail
   go_meet
   exact ⟨by rw [h2.out], st⟩
  ·have F4 := qh (fun (W : World) => ref_four c.t W)
   rw [h1] at F4
   replace h3 := qh h3
   have d3 : decide ((0 : Int) ≤ c.n) = false := by simpa using h2
   clear h1 h2
   refine det_region (by kernel_rfl) 24 rfl (fun W => St [g] w W [(g, 38, winC (preC k css n) [.slice xa x.label.length xc, .slice oa x.own.length oc, .string x.text, .slice ba x.objects.length bc, .slice ma x.mails.length mc] (postC k css n)), (g5, 40, [.int .i64 c.kind, .int .i64 c.h, .int .i64 c.t, .int .i64 c.n, .int .i64 c.c, .slice la c.label.length lc, .slice ga c.grants.length gc, .string c.text]), (g6, 52, [.int .i64 0, .int .i64 0, .string ⟨#[]⟩])]) (st.drew) (by decide +kernel) ?_
   refine detS 0 rfl ?_
   refine detT 1 rfl (fun W hW => St.run_load hW 1 3 _ rfl Try.isAgg3 rfl rfl rfl) ?_
   refine det_call (fn := 24) 2 rfl (by decide +kernel) (by first | exact wanted_none rfl | exact wanted_some rfl rfl) (fun W => by first | (go_simp; done) | (go_simp; rfl)) (fun W hW => (F4.out W).mono fun e w' h => ⟨h.1, h.2 ▸ hW⟩) ?_; simp only [kP, kA, kS, kZ]
   refine detS 3 rfl ?_; refine detS 4 rfl ?_
   refine detT 5 rfl (fun W hW => St.run_load hW 1 3 _ rfl Try.isAgg3 rfl rfl rfl) ?_
   refine detT (v := .bool false) 6 rfl (fun W hW => by (go_simp; done)) ?_
   refine detS 7 rfl ?_; refine detS 8 rfl ?_
   refine detK 9 rfl ?_; refine detK 10 rfl ?_; refine detK 11 rfl ?_; refine detK 12 rfl ?_; refine detK 13 rfl ?_; refine detK 14 rfl ?_; refine detK 15 rfl ?_; refine detK 16 rfl ?_; refine detK 17 rfl ?_; refine detK 18 rfl ?_; refine detK 19 rfl ?_; refine detK 20 rfl ?_; refine detK 21 rfl ?_
   refine detS 22 rfl ?_; refine detS 23 rfl ?_
   refine det_done (by decide +kernel) ?_
   clear st
   intro W st
   go_wp2_with fail
   go_meet
   exact ⟨by rw [h3.out], st⟩
  ·have F4 := qh (fun (W : World) => ref_four (m : Int) W)
   rw [four_of hm] at F4
   have d3 : decide ((0 : Int) ≤ (j : Int)) = true := by simp
   have d5 : decide ((m : Int) < 0) = false := by simp
   have d6 : decide ((4 : Int) ≤ m) = false := by simp; omega
   rw [et, en] at st
   replace et := qh et
   replace en := qh en
   replace hth := qh hth
   refine det_region (by kernel_rfl) 24 rfl (fun W => St [g] w W [(g, 38, winC (preC k css n) [.slice xa x.label.length xc, .slice oa x.own.length oc, .string x.text, .slice ba x.objects.length bc, .slice ma x.mails.length mc] (postC k css n)), (g5, 40, [.int .i64 c.kind, .int .i64 c.h, .int .i64 m, .int .i64 j, .int .i64 c.c, .slice la c.label.length lc, .slice ga c.grants.length gc, .string c.text]), (g6, 52, [.int .i64 0, .int .i64 0, .string ⟨#[]⟩])]) (st.drew) (by decide +kernel) ?_
   refine detS 0 rfl ?_
   refine detT 1 rfl (fun W hW => St.run_load hW 1 3 _ rfl Try.isAgg3 rfl rfl rfl) ?_
   refine det_call (fn := 24) 2 rfl (by decide +kernel) (by first | exact wanted_none rfl | exact wanted_some rfl rfl) (fun W => by first | (go_simp; done) | (go_simp; rfl)) (fun W hW => (F4.out W).mono fun e w' h => ⟨h.1, h.2 ▸ hW⟩) ?_; simp only [kP, kA, kS, kZ]
   refine detS 3 rfl ?_; refine detS 4 rfl ?_
   refine detT 5 rfl (fun W hW => St.run_load hW 1 3 _ rfl Try.isAgg3 rfl rfl rfl) ?_
   refine detT (v := .bool true) 6 rfl (fun W hW => by (go_simp; done)) ?_
   refine detS 7 rfl ?_; refine detS 8 rfl ?_; refine detS 9 rfl ?_
   refine detT 10 rfl (fun W hW => St.run_load hW 1 3 _ rfl Try.isAgg3 rfl rfl rfl) ?_
   refine detS 11 rfl ?_; refine detS 12 rfl ?_
   refine detT 13 rfl (fun W hW => St.run_load hW 1 3 _ rfl Try.isAgg3 rfl rfl rfl) ?_
   refine detT (v := .int .i64 m) 14 rfl (fun W hW => by (exact run_and3 _ _ _ rfl hm rfl rfl)) ?_
   refine detS 15 rfl ?_; refine detS 16 rfl ?_
   refine detT (v := .pointer (some ⟨g, 1 + m * 5, none⟩)) 17 rfl (fun W hW => by (first | (go_simp; done) | (go_simp; omega))) ?_
   refine detS 18 rfl ?_
   refine detT (v := .slice yb y.objects.length yc) 19 rfl (fun W hW => St.run_load hW 0 32 _ rfl Try.isAgg32 rfl rfl hcell) ?_
   refine detS 20 rfl ?_
   refine detT (v := .bool (decide ((j : Int) < y.objects.length))) 21 rfl (fun W hW => by (go_simp; done)) ?_
   refine detS 22 rfl ?_; refine detS 23 rfl ?_
   refine det_done (by decide +kernel) ?_
   clear st
   intro W st
   go_wp2_with fail
   go_meet
   exact ⟨by rw [hth.out]; simp, by rw [et.out, en.out]; exact st⟩
 case rest =>
 obtain ⟨rfl, st⟩ := hcut
 have hg5w : w.heap.size ≤ g5 := hg5
 have hg6w : w.heap.size ≤ g6 := hg6
 have HG := qh (fun (W : World) (hW : Below w.heap.size w W) => ref_GoodLabel okc W la lc c.label (hcl.below hW))
 have HE := qh (show callK k (n : Int) c = (k, errR 2) by unfold callK; simp [hkd, hgl])
 rw [hgl] at HG
 clear hgl
 rw [hkd] at st
 clear hkd
 go_wp2_with (first | go_skip | (with_reducible refine mX st Try.isAgg3 ?_) | (with_reducible refine mX st Try.isAgg30 ?_) | (go_at_call 41; go_must (refine (HG.out _ (HB.out _ _ st (by simp))).mono ?_; rintro e vg ⟨rfl, hbg⟩; replace st := st.call hbg; clear hbg)) | (go_at_call 39; go_must (refine (rcall_no _ _).mono ?_; rintro e vn ⟨rfl, hbn⟩; replace st := st.call hbn; clear hbn)) | (with_reducible refine mS 2 st Try.sizeOf52 ?_; clear st; intro w7 st hw7m hw7z))
 have hc := fun j => st.cell (i := 2) rfl j
 refine bodyPost_ret (v := RepV (errR 2)) ?hr rfl ?_
 case hr => simp [results, Try.results14, go_sem, hc, RepV, errR]; try rfl
 rw [HE.out]
 exact ⟨rfl, RkTo.none h (HB.out _ _ st (by simp))⟩
end
section
variable (ok okc : Nat → Prop) (w : World) (g : Nat) (k : Ker) (css : List (List Value)) (Bs : List (List Nat)) (n : Nat) (c : Req) (la : Option Addr) (lc : Nat) (ga : Option Addr) (gc : Nat)
theorem ref_Call_object_no (h : RkAt ok w g k css Bs) (hk : ∀ x ∈ k.threads, x.ok) (hn : n < 4) (hx64 : ¬ 64 < c.text.size) (hkd : c.kind = 2) (hll : c.label.length * 16 ≤ 140737488351232) (hcl : SlR okc w 2 RLev la lc c.label) (hgl : goodL c.label = true) (hf : flowsL (k.thr n).label c.label (k.thr n).own = false) :
  Calls Try.prog 14 #[.pointer (some ⟨g, 0, none⟩), .int .i64 n, reqV c la lc ga gc] w (RCallPost ok w g Bs (callK k n c)) := by
 obtain ⟨x, xa, xc, oa, oc, ba, bc, ma, mc, ex, ec, eB, hT, hb⟩ := h.open hn
 have hx := hk x (mgE ex)
 have hpre := h.preLen hn
 have hth := Ker.thr_at ex
 have st0 := St.hand hb
 unfold thrC at st0
 have d1 : decide ((n : Int) < 0) = false := by simp
 have d2 : decide ((4 : Int) ≤ n) = false := by simp; omega
 have d64 := text_size hx64
 have hgg : ¬ ok g := h.apart g (by simp)
 have H4 := qh (fun (W : World) => ref_four (n : Int) W)
 rw [four_of hn] at H4
 have HKp := qh (show ∀ (W : World) (bl : Blks), St [g] w W bl → Keeps ok w W from fun W bl s => s.keeps (by simpa using hgg))
 have HB := qh (show ∀ (W : World) (bl : Blks), St [g] w W bl → (g, 38, winC (preC k css n) [.slice xa x.label.length xc, .slice oa x.own.length oc, .string x.text, .slice ba x.objects.length bc, .slice ma x.mails.length mc] (postC k css n)) ∈ bl → Below w.heap.size w W from fun W bl s hm => st0.below2 s (by simpa using hm))
 have hxf := goodL_fitI hx.good; have hxl := goodL_len hx.good; have hxo := hx.ownL; have hxm := hx.mailN; have hxb := hx.objs; have hxt := hx.text
 have st := st0
 clear st0
 unfold reqV
 go_enter Try.func14, Try.ntmps14
 go_upto_region 7 with (first | go_skip | (go_at_call 24; go_must (refine (H4.out _).mono ?_; rintro e v1 ⟨rfl, rfl⟩)) | (with_reducible refine mB 40 st ?_; clear st; intro g5 w5 hg5 st) | (with_reducible refine mA st Try.zeroValue52 ?_; clear st; intro g6 w6 hg6 st) | (with_reducible refine mX st Try.isAgg9 ?_))
 try simp only [kP, kA, kS, kZ]
 go_cut [9] from 37 to 59 (fun s9 wx => s9 = .bool (k.there c.t c.n) ∧ St [g] w wx [(g, 38, winC (preC k css n) [.slice xa x.label.length xc, .slice oa x.own.length oc, .string x.text, .slice ba x.objects.length bc, .slice ma x.mails.length mc] (postC k css n)), (g5, 40, [.int .i64 c.kind, .int .i64 c.h, .int .i64 c.t, .int .i64 c.n, .int .i64 c.c, .slice la c.label.length lc, .slice ga c.grants.length gc, .string c.text]), (g6, 52, [.int .i64 0, .int .i64 0, .string ⟨#[]⟩])])
 case first =>
  have HTh := qh (h.thereCases hn ec c.t c.n)
  unfold thrC at HTh
  rcases HTh.out with ⟨h1, h2⟩ | ⟨h1, h2, h3⟩ | ⟨m, j, y, yb, yc, hm, et, en, hth, hcell⟩
  ·have F4 := qh (fun (W : World) => ref_four c.t W)
   rw [h1] at F4
   replace h2 := qh h2
   clear h1
   refine det_region (by kernel_rfl) 24 rfl (fun W => St [g] w W [(g, 38, winC (preC k css n) [.slice xa x.label.length xc, .slice oa x.own.length oc, .string x.text, .slice ba x.objects.length bc, .slice ma x.mails.length mc] (postC k css n)), (g5, 40, [.int .i64 c.kind, .int .i64 c.h, .int .i64 c.t, .int .i64 c.n, .int .i64 c.c, .slice la c.label.length lc, .slice ga c.grants.length gc, .string c.text]), (g6, 52, [.int .i64 0, .int .i64 0, .string ⟨#[]⟩])]) (st.drew) (by decide +kernel) ?_
   refine detS 0 rfl ?_
   refine detT 1 rfl (fun W hW => St.run_load hW 1 3 _ rfl Try.isAgg3 rfl rfl rfl) ?_
   refine det_call (fn := 24) 2 rfl (by decide +kernel) (by first | exact wanted_none rfl | exact wanted_some rfl rfl) (fun W => by first | (go_simp; done) | (go_simp; rfl)) (fun W hW => (F4.out W).mono fun e w' h => ⟨h.1, h.2 ▸ hW⟩) ?_; simp only [kP, kA, kS, kZ]
   refine detS 3 rfl ?_
   refine detK 4 rfl ?_; refine detK 5 rfl ?_; refine detK 6 rfl ?_
   refine detS 7 rfl ?_; refine detS 8 rfl ?_
   refine detK 9 rfl ?_; refine detK 10 rfl ?_; refine detK 11 rfl ?_; refine detK 12 rfl ?_; refine detK 13 rfl ?_; refine detK 14 rfl ?_; refine detK 15 rfl ?_; refine detK 16 rfl ?_; refine detK 17 rfl ?_; refine detK 18 rfl ?_; refine detK 19 rfl ?_; refine detK 20 rfl ?_; refine detK 21 rfl ?_
   refine detS 22 rfl ?_; refine detS 23 rfl ?_
   refine det_done (by decide +kernel) ?_
   clear st
   intro W st
   go_wp2_with fail
   go_meet
   exact ⟨by rw [h2.out], st⟩
  ·have F4 := qh (fun (W : World) => ref_four c.t W)
   rw [h1] at F4
   replace h3 := qh h3
   have d3 : decide ((0 : Int) ≤ c.n) = false := by simpa using h2
   clear h1 h2
   refine det_region (by kernel_rfl) 24 rfl (fun W => St [g] w W [(g, 38, winC (preC k css n) [.slice xa x.label.length xc, .slice oa x.own.length oc, .string x.text, .slice ba x.objects.length bc, .slice ma x.mails.length mc] (postC k css n)), (g5, 40, [.int .i64 c.kind, .int .i64 c.h, .int .i64 c.t, .int .i64 c.n, .int .i64 c.c, .slice la c.label.length lc, .slice ga c.grants.length gc, .string c.text]), (g6, 52, [.int .i64 0, .int .i64 0, .string ⟨#[]⟩])]) (st.drew) (by decide +kernel) ?_
   refine detS 0 rfl ?_
   refine detT 1 rfl (fun W hW => St.run_load hW 1 3 _ rfl Try.isAgg3 rfl rfl rfl) ?_
   refine det_call (fn := 24) 2 rfl (by decide +kernel) (by first | exact wanted_none rfl | exact wanted_some rfl rfl) (fun W => by first | (go_simp; done) | (go_simp; rfl)) (fun W hW => (F4.out W).mono fun e w' h => ⟨h.1, h.2 ▸ hW⟩) ?_; simp only [kP, kA, kS, kZ]
   refine detS 3 rfl ?_; refine detS 4 rfl ?_
   refine detT 5 rfl (fun W hW => St.run_load hW 1 3 _ rfl Try.isAgg3 rfl rfl rfl) ?_
   refine detT (v := .bool false) 6 rfl (fun W hW => by (go_simp; done)) ?_
   refine detS 7 rfl ?_; refine detS 8 rfl ?_
   refine detK 9 rfl ?_; refine detK 10 rfl ?_; refine detK 11 rfl ?_; refine detK 12 rfl ?_; refine detK 13 rfl ?_; refine detK 14 rfl ?_; refine detK 15 rfl ?_; refine detK 16 rfl ?_; refine detK 17 rfl ?_; refine detK 18 rfl ?_; refine detK 19 rfl ?_; refine detK 20 rfl ?_; refine detK 21 rfl ?_
   refine detS 22 rfl ?_; refine detS 23 rfl ?_
   refine det_done (by decide +kernel) ?_
   clear st
   intro W st
   go_wp2_with fail
   go_meet
   exact ⟨by rw [h3.out], st⟩
  ·have F4 := qh (fun (W : World) => ref_four (m : Int) W)
   rw [four_of hm] at F4
   have d3 : decide ((0 : Int) ≤ (j : Int)) = true := by simp
   have d5 : decide ((m : Int) < 0) = false := by simp
   have d6 : decide ((4 : Int) ≤ m) = false := by simp; omega
   rw [et, en] at st
   replace et := qh et
   replace en := qh en
   replace hth := qh hth
   refine det_region (by kernel_rfl) 24 rfl (fun W => St [g] w W [(g, 38, winC (preC k css n) [.slice xa x.label.length xc, .slice oa x.own.length oc, .string x.text, .slice ba x.objects.length bc, .slice ma x.mails.length mc] (postC k css n)), (g5, 40, [.int .i64 c.kind, .int .i64 c.h, .int .i64 m, .int .i64 j, .int .i64 c.c, .slice la c.label.length lc, .slice ga c.grants.length gc, .string c.text]), (g6, 52, [.int .i64 0, .int .i64 0, .string ⟨#[]⟩])]) (st.drew) (by decide +kernel) ?_
   refine detS 0 rfl ?_
   refine detT 1 rfl (fun W hW => St.run_load hW 1 3 _ rfl Try.isAgg3 rfl rfl rfl) ?_
   refine det_call (fn := 24) 2 rfl (by decide +kernel) (by first | exact wanted_none rfl | exact wanted_some rfl rfl) (fun W => by first | (go_simp; done) | (go_simp; rfl)) (fun W hW => (F4.out W).mono fun e w' h => ⟨h.1, h.2 ▸ hW⟩) ?_; simp only [kP, kA, kS, kZ]
   refine detS 3 rfl ?_; refine detS 4 rfl ?_
   refine detT 5 rfl (fun W hW => St.run_load hW 1 3 _ rfl Try.isAgg3 rfl rfl rfl) ?_
   refine detT (v := .bool true) 6 rfl (fun W hW => by (go_simp; done)) ?_
   refine detS 7 rfl ?_; refine detS 8 rfl ?_; refine detS 9 rfl ?_
   refine detT 10 rfl (fun W hW => St.run_load hW 1 3 _ rfl Try.isAgg3 rfl rfl rfl) ?_
   refine detS 11 rfl ?_; refine detS 12 rfl ?_
   refine detT 13 rfl (fun W hW => St.run_load hW 1 3 _ rfl Try.isAgg3 rfl rfl rfl) ?_
   refine detT (v := .int .i64 m) 14 rfl (fun W hW => by (exact run_and3 _ _ _ rfl hm rfl rfl)) ?_
   refine detS 15 rfl ?_; refine detS 16 rfl ?_
   refine detT (v := .pointer (some ⟨g, 1 + m * 5, none⟩)) 17 rfl (fun W hW => by (first | (go_simp; done) | (go_simp; omega))) ?_
   refine detS 18 rfl ?_
   refine detT (v := .slice yb y.objects.length yc) 19 rfl (fun W hW => St.run_load hW 0 32 _ rfl Try.isAgg32 rfl rfl hcell) ?_
   refine detS 20 rfl ?_
   refine detT (v := .bool (decide ((j : Int) < y.objects.length))) 21 rfl (fun W hW => by (go_simp; done)) ?_
   refine detS 22 rfl ?_; refine detS 23 rfl ?_
   refine det_done (by decide +kernel) ?_
   clear st
   intro W st
   go_wp2_with fail
   go_meet
   exact ⟨by rw [hth.out]; simp, by rw [et.out, en.out]; exact st⟩
 case rest =>
 obtain ⟨rfl, st⟩ := hcut
 have hg5w : w.heap.size ≤ g5 := hg5
 have hg6w : w.heap.size ≤ g6 := hg6
 have HG := qh (fun (W : World) (hW : Below w.heap.size w W) => ref_GoodLabel okc W la lc c.label (hcl.below hW))
 rw [hth] at hf
 have HE := qh (show callK k (n : Int) c = (k, errR 6) by unfold callK; simp [hkd, hgl, hth, hf])
 have hl8 := goodL_len hgl
 have hlf := goodL_fitI hgl
 have HF := qh (fun (W : World) (hW : Below w.heap.size w W) => ref_Flows (fun _ => True) W xa la oa xc lc oc x.label c.label x.own hxf hlf (by unfold maxLen; omega) ((hT.label.below hW).okay fun _ _ => trivial) ((hcl.below hW).okay fun _ _ => trivial) ((hT.own.below hW).okay fun _ _ => trivial))
 rw [hgl] at HG
 rw [hf] at HF
 clear hgl hf
 rw [hkd] at st
 clear hkd
 go_wp2_with (first | go_skip | (with_reducible refine mX st Try.isAgg3 ?_) | (with_reducible refine mX st Try.isAgg30 ?_) | (go_at_call 41; go_must (refine (HG.out _ (HB.out _ _ st (by simp))).mono ?_; rintro e vg ⟨rfl, hbg⟩; replace st := st.call hbg; clear hbg)))
 refine det_region (by kernel_rfl) 12 rfl (fun W => St [g] w W [(g, 38, winC (preC k css n) [.slice xa x.label.length xc, .slice oa x.own.length oc, .string x.text, .slice ba x.objects.length bc, .slice ma x.mails.length mc] (postC k css n)), (g5, 40, [.int .i64 2, .int .i64 c.h, .int .i64 c.t, .int .i64 c.n, .int .i64 c.c, .slice la c.label.length lc, .slice ga c.grants.length gc, .string c.text]), (g6, 52, [.int .i64 0, .int .i64 0, .string ⟨#[]⟩])]) (st.drew) (by decide +kernel) ?_
 refine detS 0 rfl ?_; refine detS 1 rfl ?_; refine detS 2 rfl ?_
 refine detT 3 rfl (fun W hW => St.run_loadW hW 0 30 _ rfl Try.isAgg30 0 hpre rfl rfl rfl) ?_
 refine detS 4 rfl ?_
 refine detT 5 rfl (fun W hW => St.run_load hW 1 30 _ rfl Try.isAgg30 rfl rfl rfl) ?_
 refine detS 6 rfl ?_; refine detS 7 rfl ?_; refine detS 8 rfl ?_
 refine detT 9 rfl (fun W hW => St.run_loadW hW 0 31 _ rfl Try.isAgg31 1 hpre rfl rfl rfl) ?_
 refine det_call (fn := 28) 10 rfl (by decide +kernel) (by first | exact wanted_none rfl | exact wanted_some rfl rfl) (fun W => by first | (go_simp; done) | (go_simp; rfl)) (fun W hW => (HF.out W (HB.out W _ hW (by simp))).mono fun e w' h => ⟨h.1, hW.call h.2⟩) ?_; simp only [kP, kA, kS, kZ]
 refine detS 11 rfl ?_
 refine det_done (by decide +kernel) ?_
 clear st
 intro W st
 go_wp2_with (first | go_skip | (go_at_call 39; go_must (refine (rcall_no _ _).mono ?_; rintro e vn ⟨rfl, hbn⟩; replace st := st.call hbn; clear hbn)) | (with_reducible refine mS 2 st Try.sizeOf52 ?_; clear st; intro w7 st hw7m hw7z))
 have hc := fun j => st.cell (i := 2) rfl j
 refine bodyPost_ret (v := RepV (errR 6)) ?hr rfl ?_
 case hr => simp [results, Try.results14, go_sem, hc, RepV, errR]; try rfl
 rw [HE.out]
 exact ⟨rfl, RkTo.none h (HB.out _ _ st (by simp))⟩
end
end Go.Proofs.Ytealbofmlieicaa
