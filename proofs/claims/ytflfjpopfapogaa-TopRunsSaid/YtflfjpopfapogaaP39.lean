/- Walks and plain laws that the claim rests on, part 39. -/
import Derived.Test.YtflfjpopfapogaaP35
import Derived.Test.YtflfjpopfapogaaP34
set_option linter.unusedSimpArgs false
set_option linter.unusedVariables false
/- The kernel's Call: a level turned. (printed by gen_call2.py) -/
namespace Go.Proofs.Ytflfjpopfapogaa
open Go.RowKit
section
variable (ok okc : Nat → Prop) (w : World) (g : Nat) (k : Ker) (css : List (List Value)) (Bs : List (List Nat)) (n : Nat) (c : Req) (la : Option Addr) (lc : Nat) (ga : Option Addr) (gc : Nat)
theorem setR_len (l : List Lev) (c n : Int) : (setR l c n).1.length ≤ 8 := by
 rcases setR_cases l c n with ⟨k, h, _⟩ | ⟨h, _, _, _, h8⟩ <;> rw [h]
 ·simp
 ·exact h8
set_option maxRecDepth 100000 in
set_option maxHeartbeats 4000000 in
theorem kernel_Call_level_no (h : KerAt ok w g k css Bs) (hk : ∀ x ∈ k.threads, x.ok) (hn : n < 4) (hx64 : ¬ 64 < c.text.size) (hkd : c.kind = 5) (he : (setR (k.thr n).label c.c c.n).2 ≠ 0) :
  Calls Try.prog 39 #[.pointer (some ⟨g, 0, none⟩), .int .i64 n, reqV c la lc ga gc] w (CallPost ok w g Bs (callK k n c)) := by
 obtain ⟨x, xa, xc, oa, oc, ba, bc, ma, mc, ex, ec, eB, hT, hb⟩ := h.open hn
 have hx := hk x (List.mem_of_getElem? ex)
 have hpre := h.preLen hn
 have hth := Ker.thr_at ex
 have st0 := St.hand hb
 unfold thrC at st0
 have d1 : decide ((n : Int) < 0) = false := by simp
 have d2 : decide ((4 : Int) ≤ n) = false := by simp; omega
 have d64 := text_size hx64
 have hgg : ¬ ok g := h.apart g (by simp)
 have HKp := Lib.hid (show ∀ (W : World) (bl : Blks), St [g] w W bl → Keeps ok w W from fun W bl s => s.keeps (by simpa using hgg))
 have HB := Lib.hid (show ∀ (W : World) (bl : Blks), St [g] w W bl → (g, 84, winC (preC k css n) [.slice xa x.label.length xc, .slice oa x.own.length oc, .string x.text, .slice ba x.objects.length bc, .slice ma x.mails.length mc] (postC k css n)) ∈ bl → Below w.heap.size w W from fun W bl s hm => st0.below2 s (by simpa using hm))
 have hxl := goodL_len hx.good; have hxo := hx.ownL; have hxm := hx.mailN; have hxb := hx.objs; have hxt := hx.text
 have st := st0
 clear st0
 unfold reqV
 have hlen := setR_len x.label c.c c.n
 have HS := Lib.hid (fun (W : World) (bl : Blks) (hW : St [g] w W bl) => label_Set ok W xa xc x.label c.c c.n (by omega) (hT.label.keep (HKp.out W _ hW)))
 have hgw := h.lt g (by simp)
 have HE := Lib.hid (show callK k (n : Int) c = (k, errR (setR x.label c.c c.n).2) by unfold callK; rw [hth] at he; simp [hkd, hth, he])
 rw [hth] at he
 have hq : ((setR x.label c.c c.n).2 != 0) = true := by simpa using he
 clear he
 generalize setR x.label c.c c.n = r at *
 rw [hkd]
 clear hkd
 go_enter Try.func39, Try.ntmps39
 go_wp2_with (first | go_skip | (with_reducible refine at_box 36 ?_; refine mem_box st (wanted_none rfl) 36 _ rfl _ rfl _ rfl ?_; clear st; intro g5 w5 hg5 st hg5b; clear hg5b; simp [Act.eval, Act.put, Value.cells, putL] at st) | (with_reducible refine at_alloc 41 ?_; refine mem_alloc st (wanted_none rfl) 41 rfl _ Try.zeroValue41 _ rfl ?_; clear st; intro g6 w6 hg6 st hg6b; clear hg6b; simp [Act.eval, Act.put, Value.cells, putL] at st) | (with_reducible refine at_load 9 ?_; refine memX st 9 _ rfl Try.isAgg9 rfl ?_) | (with_reducible refine at_load 3 ?_; refine memX st 3 _ rfl Try.isAgg3 rfl ?_) | (go_at_call 56; go_must (refine (call_no _ _).mono ?_; rintro e vn ⟨rfl, hbn⟩; replace st := st.call hbn; clear hbn)) | (with_reducible refine at_store 41 ?_; refine memS st 41 _ _ rfl _ Try.sizeOf41 ⟨2, _, _, _, _, _, rfl, rfl, rfl, rfl, rfl, rfl, ?_⟩; clear st; intro w7 st hw7m hw7z; simp [Act.eval, Act.put, Value.cells, putL] at st))
 have st := st.drew
 have hI := st
 refine lex_region (by kernel_rfl) 14 rfl (fun W => St [g] w W [(g, 84, winC (preC k css n) [.slice xa x.label.length xc, .slice oa x.own.length oc, .string x.text, .slice ba x.objects.length bc, .slice ma x.mails.length mc] (postC k css n)), (g5, 36, [.int .i64 5, .int .i64 c.h, .int .i64 c.t, .int .i64 c.n, .int .i64 c.c, .slice la c.label.length lc, .slice ga c.grants.length gc, .string c.text]), (g6, 41, [.int .i64 0, .int .i64 0, .string ⟨#[]⟩])]) ?_
 refine lexS 0 rfl hI ?_; simp only [kP, kA, kS, kZ]
 refine lexS 1 rfl hI ?_; simp only [kP, kA, kS, kZ]
 refine lexS 2 rfl hI ?_; simp only [kP, kA, kS, kZ]
 refine lexT 3 rfl hI (fun W hW => St.run_loadW hW 0 24 _ rfl Try.isAgg24 0 hpre rfl rfl rfl) ?_; simp only [kP, kA, kS, kZ]
 refine lexS 4 rfl hI ?_; simp only [kP, kA, kS, kZ]
 refine lexT 5 rfl hI (fun W hW => St.run_load hW 1 3 _ rfl Try.isAgg3 rfl rfl rfl) ?_; simp only [kP, kA, kS, kZ]
 refine lexS 6 rfl hI ?_; simp only [kP, kA, kS, kZ]
 refine lexT 7 rfl hI (fun W hW => St.run_load hW 1 3 _ rfl Try.isAgg3 rfl rfl rfl) ?_; simp only [kP, kA, kS, kZ]
 clear hI
 refine lexO 8 rfl fun K hK => ?_
 refine wp_callee (f := 61) (by first | (go_simp; done) | (go_simp; rfl)) ?_
 refine (HS.out _ _ st).mono ?_
 rintro e v1 ⟨a1, k1, rfl, hb1, hO⟩
 have hl5 := st.ltAt (i := 1) rfl
 have hl6 := st.ltAt (i := 2) rfl
 have hbs := st.size
 have hbz := hb1.size
 refine ⟨_, rfl, ?_⟩
 replace st := st.call hb1
 clear hb1
 refine hK _ _ (st) ?_; clear hK; simp only [kP, kA, kS, kZ]
 have hI := st
 refine lexS 9 rfl hI ?_; simp only [kP, kA, kS, kZ]
 refine lexS 10 rfl hI ?_; simp only [kP, kA, kS, kZ]
 refine lexS 11 rfl hI ?_; simp only [kP, kA, kS, kZ]
 refine lexS 12 rfl hI ?_; simp only [kP, kA, kS, kZ]
 refine lexS 13 rfl hI ?_; simp only [kP, kA, kS, kZ]
 clear hI
 refine lex_done (by decide +kernel) ?_
 go_wp2_with (first | go_skip | (go_at_call 56; go_must (refine (call_no _ _).mono ?_; rintro e vn ⟨rfl, hbn⟩; replace st := st.call hbn; clear hbn)) | (with_reducible refine at_store 41 ?_; refine memS st 41 _ _ rfl _ Try.sizeOf41 ⟨2, _, _, _, _, _, rfl, rfl, rfl, rfl, rfl, rfl, ?_⟩; clear st; intro w7 st hw7m hw7z; simp [Act.eval, Act.put, Value.cells, putL] at st))
 have hc := fun j => st.cell (i := 2) rfl j
 refine bodyPost_ret (v := RepV (errR r.2)) ?hr rfl ?_
 case hr => simp [results, Try.results39, go_sem, hc, RepV, errR]; try rfl
 rw [HE.out]
 exact ⟨rfl, KerTo.none h (HB.out _ _ st (by simp))⟩
set_option maxRecDepth 100000 in
set_option maxHeartbeats 4000000 in
theorem kernel_Call_level_low (h : KerAt ok w g k css Bs) (hk : ∀ x ∈ k.threads, x.ok) (hn : n < 4) (hx64 : ¬ 64 < c.text.size) (hkd : c.kind = 5) (he : (setR (k.thr n).label c.c c.n).2 = 0) (hf : flowsL (k.thr n).label (setR (k.thr n).label c.c c.n).1 (k.thr n).own = false) :
  Calls Try.prog 39 #[.pointer (some ⟨g, 0, none⟩), .int .i64 n, reqV c la lc ga gc] w (CallPost ok w g Bs (callK k n c)) := by
 obtain ⟨x, xa, xc, oa, oc, ba, bc, ma, mc, ex, ec, eB, hT, hb⟩ := h.open hn
 have hx := hk x (List.mem_of_getElem? ex)
 have hpre := h.preLen hn
 have hth := Ker.thr_at ex
 have st0 := St.hand hb
 unfold thrC at st0
 have d1 : decide ((n : Int) < 0) = false := by simp
 have d2 : decide ((4 : Int) ≤ n) = false := by simp; omega
 have d64 := text_size hx64
 have hgg : ¬ ok g := h.apart g (by simp)
 have HKp := Lib.hid (show ∀ (W : World) (bl : Blks), St [g] w W bl → Keeps ok w W from fun W bl s => s.keeps (by simpa using hgg))
 have HB := Lib.hid (show ∀ (W : World) (bl : Blks), St [g] w W bl → (g, 84, winC (preC k css n) [.slice xa x.label.length xc, .slice oa x.own.length oc, .string x.text, .slice ba x.objects.length bc, .slice ma x.mails.length mc] (postC k css n)) ∈ bl → Below w.heap.size w W from fun W bl s hm => st0.below2 s (by simpa using hm))
 have hxl := goodL_len hx.good; have hxo := hx.ownL; have hxm := hx.mailN; have hxb := hx.objs; have hxt := hx.text
 have st := st0
 clear st0
 unfold reqV
 have hlen := setR_len x.label c.c c.n
 have HS := Lib.hid (fun (W : World) (bl : Blks) (hW : St [g] w W bl) => label_Set ok W xa xc x.label c.c c.n (by omega) (hT.label.keep (HKp.out W _ hW)))
 have hgw := h.lt g (by simp)
 rw [hth] at he hf
 have HE := Lib.hid (show callK k (n : Int) c = (k, errR 6) by unfold callK; simp [hkd, hth, he, hf])
 have HL := Lib.hid hf
 have hq : ((setR x.label c.c c.n).2 != 0) = false := by simpa using he
 clear he hf
 generalize setR x.label c.c c.n = r at *
 rw [hkd]
 clear hkd
 go_enter Try.func39, Try.ntmps39
 go_wp2_with (first | go_skip | (with_reducible refine at_box 36 ?_; refine mem_box st (wanted_none rfl) 36 _ rfl _ rfl _ rfl ?_; clear st; intro g5 w5 hg5 st hg5b; clear hg5b; simp [Act.eval, Act.put, Value.cells, putL] at st) | (with_reducible refine at_alloc 41 ?_; refine mem_alloc st (wanted_none rfl) 41 rfl _ Try.zeroValue41 _ rfl ?_; clear st; intro g6 w6 hg6 st hg6b; clear hg6b; simp [Act.eval, Act.put, Value.cells, putL] at st) | (with_reducible refine at_load 9 ?_; refine memX st 9 _ rfl Try.isAgg9 rfl ?_) | (with_reducible refine at_load 3 ?_; refine memX st 3 _ rfl Try.isAgg3 rfl ?_) | (go_at_call 56; go_must (refine (call_no _ _).mono ?_; rintro e vn ⟨rfl, hbn⟩; replace st := st.call hbn; clear hbn)) | (with_reducible refine at_store 41 ?_; refine memS st 41 _ _ rfl _ Try.sizeOf41 ⟨2, _, _, _, _, _, rfl, rfl, rfl, rfl, rfl, rfl, ?_⟩; clear st; intro w7 st hw7m hw7z; simp [Act.eval, Act.put, Value.cells, putL] at st))
 have st := st.drew
 have hI := st
 refine lex_region (by kernel_rfl) 14 rfl (fun W => St [g] w W [(g, 84, winC (preC k css n) [.slice xa x.label.length xc, .slice oa x.own.length oc, .string x.text, .slice ba x.objects.length bc, .slice ma x.mails.length mc] (postC k css n)), (g5, 36, [.int .i64 5, .int .i64 c.h, .int .i64 c.t, .int .i64 c.n, .int .i64 c.c, .slice la c.label.length lc, .slice ga c.grants.length gc, .string c.text]), (g6, 41, [.int .i64 0, .int .i64 0, .string ⟨#[]⟩])]) ?_
 refine lexS 0 rfl hI ?_; simp only [kP, kA, kS, kZ]
 refine lexS 1 rfl hI ?_; simp only [kP, kA, kS, kZ]
 refine lexS 2 rfl hI ?_; simp only [kP, kA, kS, kZ]
 refine lexT 3 rfl hI (fun W hW => St.run_loadW hW 0 24 _ rfl Try.isAgg24 0 hpre rfl rfl rfl) ?_; simp only [kP, kA, kS, kZ]
 refine lexS 4 rfl hI ?_; simp only [kP, kA, kS, kZ]
 refine lexT 5 rfl hI (fun W hW => St.run_load hW 1 3 _ rfl Try.isAgg3 rfl rfl rfl) ?_; simp only [kP, kA, kS, kZ]
 refine lexS 6 rfl hI ?_; simp only [kP, kA, kS, kZ]
 refine lexT 7 rfl hI (fun W hW => St.run_load hW 1 3 _ rfl Try.isAgg3 rfl rfl rfl) ?_; simp only [kP, kA, kS, kZ]
 clear hI
 refine lexO 8 rfl fun K hK => ?_
 refine wp_callee (f := 61) (by first | (go_simp; done) | (go_simp; rfl)) ?_
 refine (HS.out _ _ st).mono ?_
 rintro e v1 ⟨a1, k1, rfl, hb1, hO⟩
 have hl5 := st.ltAt (i := 1) rfl
 have hl6 := st.ltAt (i := 2) rfl
 have hbs := st.size
 have hbz := hb1.size
 refine ⟨_, rfl, ?_⟩
 replace st := st.call hb1
 clear hb1
 refine hK _ _ (st) ?_; clear hK; simp only [kP, kA, kS, kZ]
 have hI := st
 refine lexS 9 rfl hI ?_; simp only [kP, kA, kS, kZ]
 refine lexS 10 rfl hI ?_; simp only [kP, kA, kS, kZ]
 refine lexS 11 rfl hI ?_; simp only [kP, kA, kS, kZ]
 refine lexS 12 rfl hI ?_; simp only [kP, kA, kS, kZ]
 refine lexS 13 rfl hI ?_; simp only [kP, kA, kS, kZ]
 clear hI
 refine lex_done (by decide +kernel) ?_
 have str := st.rebase
 have HF := Lib.hid (fun (W : World) (hB : Below v1.heap.size v1 W) => label_Flows (fun _ => True) W xa a1 oa xc k1 oc x.label r.1 x.own (by omega) (by omega) (((hT.label.keep (HKp.out _ _ st)).below hB).okay fun _ _ => trivial) ((hO.slr (ok := fun _ => True) fun _ _ => trivial).below hB) (((hT.own.keep (HKp.out _ _ st)).below hB).okay fun _ _ => trivial))
 rw [HL.out] at HF
 go_wp2_with (first | go_skip | fail)
 refine det_region (by kernel_rfl) 11 rfl (fun W => St [g, g5, g6] v1 W [(g, 84, winC (preC k css n) [.slice xa x.label.length xc, .slice oa x.own.length oc, .string x.text, .slice ba x.objects.length bc, .slice ma x.mails.length mc] (postC k css n)), (g5, 36, [.int .i64 5, .int .i64 c.h, .int .i64 c.t, .int .i64 c.n, .int .i64 c.c, .slice la c.label.length lc, .slice ga c.grants.length gc, .string c.text]), (g6, 41, [.int .i64 0, .int .i64 0, .string ⟨#[]⟩])]) (str.drew) (by decide +kernel) ?_
 refine detS 0 rfl ?_; simp only [kP, kA, kS, kZ]; refine detS 1 rfl ?_; simp only [kP, kA, kS, kZ]; refine detS 2 rfl ?_; simp only [kP, kA, kS, kZ]
 refine detT 3 rfl (fun W hW => St.run_loadW hW 0 24 _ rfl Try.isAgg24 0 hpre rfl rfl rfl) ?_; simp only [kP, kA, kS, kZ]
 refine detS 4 rfl ?_; simp only [kP, kA, kS, kZ]; refine detS 5 rfl ?_; simp only [kP, kA, kS, kZ]; refine detS 6 rfl ?_; simp only [kP, kA, kS, kZ]; refine detS 7 rfl ?_; simp only [kP, kA, kS, kZ]
 refine detT 8 rfl (fun W hW => St.run_loadW hW 0 25 _ rfl Try.isAgg25 1 hpre rfl rfl rfl) ?_; simp only [kP, kA, kS, kZ]
 refine det_call (fn := 10) 9 rfl (by decide +kernel) (by first | exact wanted_none rfl | exact wanted_some rfl rfl) (fun W => by first | (go_simp; done) | (go_simp; rfl)) (fun W hW => (HF.out W (str.below2 hW (by simp))).mono fun e w' h => ⟨h.1, hW.call h.2⟩) ?_; simp only [kP, kA, kS, kZ]
 refine detS 10 rfl ?_; simp only [kP, kA, kS, kZ]
 refine det_done (by decide +kernel) ?_
 intro W st2
 have hB2 := str.below2 st2 (by simp)
 replace st := st.call hB2
 replace hO := hO.below hB2
 have hb2z := hB2.size
 clear str st2 hB2
 go_wp2_with (first | go_skip | (go_at_call 56; go_must (refine (call_no _ _).mono ?_; rintro e vn ⟨rfl, hbn⟩; replace st := st.call hbn; clear hbn)) | (with_reducible refine at_store 41 ?_; refine memS st 41 _ _ rfl _ Try.sizeOf41 ⟨2, _, _, _, _, _, rfl, rfl, rfl, rfl, rfl, rfl, ?_⟩; clear st; intro w7 st hw7m hw7z; simp [Act.eval, Act.put, Value.cells, putL] at st))
 have hc := fun j => st.cell (i := 2) rfl j
 refine bodyPost_ret (v := RepV (errR 6)) ?hr rfl ?_
 case hr => simp [results, Try.results39, go_sem, hc, RepV, errR]; try rfl
 rw [HE.out]
 exact ⟨rfl, KerTo.none h (HB.out _ _ st (by simp))⟩
set_option maxRecDepth 100000 in
set_option maxHeartbeats 4000000 in
theorem kernel_Call_level_yes (h : KerAt ok w g k css Bs) (hk : ∀ x ∈ k.threads, x.ok) (hn : n < 4) (hx64 : ¬ 64 < c.text.size) (hkd : c.kind = 5) (he : (setR (k.thr n).label c.c c.n).2 = 0) (hf : flowsL (k.thr n).label (setR (k.thr n).label c.c c.n).1 (k.thr n).own = true) :
  Calls Try.prog 39 #[.pointer (some ⟨g, 0, none⟩), .int .i64 n, reqV c la lc ga gc] w (CallPost ok w g Bs (callK k n c)) := by
 obtain ⟨x, xa, xc, oa, oc, ba, bc, ma, mc, ex, ec, eB, hT, hb⟩ := h.open hn
 have hx := hk x (List.mem_of_getElem? ex)
 have hpre := h.preLen hn
 have hth := Ker.thr_at ex
 have st0 := St.hand hb
 unfold thrC at st0
 have d1 : decide ((n : Int) < 0) = false := by simp
 have d2 : decide ((4 : Int) ≤ n) = false := by simp; omega
 have d64 := text_size hx64
 have hgg : ¬ ok g := h.apart g (by simp)
 have HKp := Lib.hid (show ∀ (W : World) (bl : Blks), St [g] w W bl → Keeps ok w W from fun W bl s => s.keeps (by simpa using hgg))
 have HB := Lib.hid (show ∀ (W : World) (bl : Blks), St [g] w W bl → (g, 84, winC (preC k css n) [.slice xa x.label.length xc, .slice oa x.own.length oc, .string x.text, .slice ba x.objects.length bc, .slice ma x.mails.length mc] (postC k css n)) ∈ bl → Below w.heap.size w W from fun W bl s hm => st0.below2 s (by simpa using hm))
 have hxl := goodL_len hx.good; have hxo := hx.ownL; have hxm := hx.mailN; have hxb := hx.objs; have hxt := hx.text
 have st := st0
 clear st0
 unfold reqV
 have hlen := setR_len x.label c.c c.n
 have HS := Lib.hid (fun (W : World) (bl : Blks) (hW : St [g] w W bl) => label_Set ok W xa xc x.label c.c c.n (by omega) (hT.label.keep (HKp.out W _ hW)))
 have hgw := h.lt g (by simp)
 rw [hth] at he hf
 have HE := Lib.hid (show callK k (n : Int) c = (k.put n { x with label := (setR x.label c.c c.n).1 }, errR 0) by unfold callK; simp [hkd, hth, he, hf])
 have HL := Lib.hid hf
 have hq : ((setR x.label c.c c.n).2 != 0) = false := by simpa using he
 clear he hf
 generalize setR x.label c.c c.n = r at *
 rw [hkd]
 clear hkd
 go_enter Try.func39, Try.ntmps39
 go_wp2_with (first | go_skip | (with_reducible refine at_box 36 ?_; refine mem_box st (wanted_none rfl) 36 _ rfl _ rfl _ rfl ?_; clear st; intro g5 w5 hg5 st hg5b; clear hg5b; simp [Act.eval, Act.put, Value.cells, putL] at st) | (with_reducible refine at_alloc 41 ?_; refine mem_alloc st (wanted_none rfl) 41 rfl _ Try.zeroValue41 _ rfl ?_; clear st; intro g6 w6 hg6 st hg6b; clear hg6b; simp [Act.eval, Act.put, Value.cells, putL] at st) | (with_reducible refine at_load 9 ?_; refine memX st 9 _ rfl Try.isAgg9 rfl ?_) | (with_reducible refine at_load 3 ?_; refine memX st 3 _ rfl Try.isAgg3 rfl ?_) | (go_at_call 56; go_must (refine (call_no _ _).mono ?_; rintro e vn ⟨rfl, hbn⟩; replace st := st.call hbn; clear hbn)) | (with_reducible refine at_store 41 ?_; refine memS st 41 _ _ rfl _ Try.sizeOf41 ⟨2, _, _, _, _, _, rfl, rfl, rfl, rfl, rfl, rfl, ?_⟩; clear st; intro w7 st hw7m hw7z; simp [Act.eval, Act.put, Value.cells, putL] at st))
 have st := st.drew
 have hI := st
 refine lex_region (by kernel_rfl) 14 rfl (fun W => St [g] w W [(g, 84, winC (preC k css n) [.slice xa x.label.length xc, .slice oa x.own.length oc, .string x.text, .slice ba x.objects.length bc, .slice ma x.mails.length mc] (postC k css n)), (g5, 36, [.int .i64 5, .int .i64 c.h, .int .i64 c.t, .int .i64 c.n, .int .i64 c.c, .slice la c.label.length lc, .slice ga c.grants.length gc, .string c.text]), (g6, 41, [.int .i64 0, .int .i64 0, .string ⟨#[]⟩])]) ?_
 refine lexS 0 rfl hI ?_; simp only [kP, kA, kS, kZ]
 refine lexS 1 rfl hI ?_; simp only [kP, kA, kS, kZ]
 refine lexS 2 rfl hI ?_; simp only [kP, kA, kS, kZ]
 refine lexT 3 rfl hI (fun W hW => St.run_loadW hW 0 24 _ rfl Try.isAgg24 0 hpre rfl rfl rfl) ?_; simp only [kP, kA, kS, kZ]
 refine lexS 4 rfl hI ?_; simp only [kP, kA, kS, kZ]
 refine lexT 5 rfl hI (fun W hW => St.run_load hW 1 3 _ rfl Try.isAgg3 rfl rfl rfl) ?_; simp only [kP, kA, kS, kZ]
 refine lexS 6 rfl hI ?_; simp only [kP, kA, kS, kZ]
 refine lexT 7 rfl hI (fun W hW => St.run_load hW 1 3 _ rfl Try.isAgg3 rfl rfl rfl) ?_; simp only [kP, kA, kS, kZ]
 clear hI
 refine lexO 8 rfl fun K hK => ?_
 refine wp_callee (f := 61) (by first | (go_simp; done) | (go_simp; rfl)) ?_
 refine (HS.out _ _ st).mono ?_
 rintro e v1 ⟨a1, k1, rfl, hb1, hO⟩
 have hl5 := st.ltAt (i := 1) rfl
 have hl6 := st.ltAt (i := 2) rfl
 have hbs := st.size
 have hbz := hb1.size
 refine ⟨_, rfl, ?_⟩
 replace st := st.call hb1
 clear hb1
 refine hK _ _ (st) ?_; clear hK; simp only [kP, kA, kS, kZ]
 have hI := st
 refine lexS 9 rfl hI ?_; simp only [kP, kA, kS, kZ]
 refine lexS 10 rfl hI ?_; simp only [kP, kA, kS, kZ]
 refine lexS 11 rfl hI ?_; simp only [kP, kA, kS, kZ]
 refine lexS 12 rfl hI ?_; simp only [kP, kA, kS, kZ]
 refine lexS 13 rfl hI ?_; simp only [kP, kA, kS, kZ]
 clear hI
 refine lex_done (by decide +kernel) ?_
 have str := st.rebase
 have HF := Lib.hid (fun (W : World) (hB : Below v1.heap.size v1 W) => label_Flows (fun _ => True) W xa a1 oa xc k1 oc x.label r.1 x.own (by omega) (by omega) (((hT.label.keep (HKp.out _ _ st)).below hB).okay fun _ _ => trivial) ((hO.slr (ok := fun _ => True) fun _ _ => trivial).below hB) (((hT.own.keep (HKp.out _ _ st)).below hB).okay fun _ _ => trivial))
 rw [HL.out] at HF
 go_wp2_with (first | go_skip | fail)
 refine det_region (by kernel_rfl) 11 rfl (fun W => St [g, g5, g6] v1 W [(g, 84, winC (preC k css n) [.slice xa x.label.length xc, .slice oa x.own.length oc, .string x.text, .slice ba x.objects.length bc, .slice ma x.mails.length mc] (postC k css n)), (g5, 36, [.int .i64 5, .int .i64 c.h, .int .i64 c.t, .int .i64 c.n, .int .i64 c.c, .slice la c.label.length lc, .slice ga c.grants.length gc, .string c.text]), (g6, 41, [.int .i64 0, .int .i64 0, .string ⟨#[]⟩])]) (str.drew) (by decide +kernel) ?_
 refine detS 0 rfl ?_; simp only [kP, kA, kS, kZ]; refine detS 1 rfl ?_; simp only [kP, kA, kS, kZ]; refine detS 2 rfl ?_; simp only [kP, kA, kS, kZ]
 refine detT 3 rfl (fun W hW => St.run_loadW hW 0 24 _ rfl Try.isAgg24 0 hpre rfl rfl rfl) ?_; simp only [kP, kA, kS, kZ]
 refine detS 4 rfl ?_; simp only [kP, kA, kS, kZ]; refine detS 5 rfl ?_; simp only [kP, kA, kS, kZ]; refine detS 6 rfl ?_; simp only [kP, kA, kS, kZ]; refine detS 7 rfl ?_; simp only [kP, kA, kS, kZ]
 refine detT 8 rfl (fun W hW => St.run_loadW hW 0 25 _ rfl Try.isAgg25 1 hpre rfl rfl rfl) ?_; simp only [kP, kA, kS, kZ]
 refine det_call (fn := 10) 9 rfl (by decide +kernel) (by first | exact wanted_none rfl | exact wanted_some rfl rfl) (fun W => by first | (go_simp; done) | (go_simp; rfl)) (fun W hW => (HF.out W (str.below2 hW (by simp))).mono fun e w' h => ⟨h.1, hW.call h.2⟩) ?_; simp only [kP, kA, kS, kZ]
 refine detS 10 rfl ?_; simp only [kP, kA, kS, kZ]
 refine det_done (by decide +kernel) ?_
 intro W st2
 have hB2 := str.below2 st2 (by simp)
 replace st := st.call hB2
 replace hO := hO.below hB2
 have hb2z := hB2.size
 clear str st2 hB2
 have hO2 := hO.slr (ok := fun b => g6 < b) fun b hb => by omega
 go_wp2_with (first | go_skip | (with_reducible refine at_store 24 ?_; refine mem_storeW st 24 _ _ rfl (wanted_none rfl) _ Try.sizeOf24 0 ?_; refine ⟨0, _, _, _, _, _, _, _, hpre, rfl, rfl, rfl, rfl, rfl, rfl, ?_⟩; clear st; intro w8 st hw8m hw8z; simp [Act.eval, Act.put, Value.cells, putL] at st) | (go_at_call 56; go_must (refine (call_no _ _).mono ?_; rintro e vn ⟨rfl, hbv⟩; replace st := st.call hbv; have hvs := hbv.size)) | (with_reducible refine at_store 41 ?_; refine memS st 41 _ _ rfl _ Try.sizeOf41 ⟨2, _, _, _, _, _, rfl, rfl, rfl, rfl, rfl, rfl, ?_⟩; clear st; intro w7 st hw7m hw7z; simp [Act.eval, Act.put, Value.cells, putL] at st))
 have hc := fun j => st.cell (i := 2) rfl j
 refine bodyPost_ret (v := RepV (errR 0)) ?hr rfl ?_
 case hr => simp [results, Try.results39, go_sem, hc, RepV, errR]; try rfl
 rw [HE.out]
 exact ⟨rfl, h.closeSame (made' := k.made) (x' := { x with label := r.1 }) (x := x) (la' := a1) (lc' := k1) hn ec eB hT (st.sub (by simp [thrC]) (by simp)) rfl rfl (h.fine eB ((hO2.move (by omega) (fun b hb ho => ⟨ho, (hw7m b (by omega)).trans ((hbv.block b (by omega)).trans (hw8m b (by omega)))⟩) fun _ _ r => r).okay fun b ho => .inr (by omega))) (h.fine eB ((hT.own.keep (HKp.out _ _ st)).okay fun _ r => .inl r))⟩
end
open Go.RowKit
section
variable (ok okc : Nat → Prop) (w : World) (g : Nat) (k : Ker) (css : List (List Value)) (Bs : List (List Nat)) (n : Nat) (c : Req) (la : Option Addr) (lc : Nat) (ga : Option Addr) (gc : Nat)
set_option maxRecDepth 100000 in
set_option maxHeartbeats 4000000 in
theorem kernel_Call_put_none (h : KerAt ok w g k css Bs) (hk : ∀ x ∈ k.threads, x.ok) (hn : n < 4) (hx64 : ¬ 64 < c.text.size) (hkd : c.kind = 3) (hob : k.obj c.t c.n = none) :
  Calls Try.prog 39 #[.pointer (some ⟨g, 0, none⟩), .int .i64 n, reqV c la lc ga gc] w (CallPost ok w g Bs (callK k n c)) := by
 obtain ⟨x, xa, xc, oa, oc, ba, bc, ma, mc, ex, ec, eB, hT, hb⟩ := h.open hn
 have hx := hk x (List.mem_of_getElem? ex)
 have hpre := h.preLen hn
 have hth := Ker.thr_at ex
 have st0 := St.hand hb
 unfold thrC at st0
 have d1 : decide ((n : Int) < 0) = false := by simp
 have d2 : decide ((4 : Int) ≤ n) = false := by simp; omega
 have d64 := text_size hx64
 have hgg : ¬ ok g := h.apart g (by simp)
 have HKp := Lib.hid (show ∀ (W : World) (bl : Blks), St [g] w W bl → Keeps ok w W from fun W bl s => s.keeps (by simpa using hgg))
 have HB := Lib.hid (show ∀ (W : World) (bl : Blks), St [g] w W bl → (g, 84, winC (preC k css n) [.slice xa x.label.length xc, .slice oa x.own.length oc, .string x.text, .slice ba x.objects.length bc, .slice ma x.mails.length mc] (postC k css n)) ∈ bl → Below w.heap.size w W from fun W bl s hm => st0.below2 s (by simpa using hm))
 have hxl := goodL_len hx.good; have hxo := hx.ownL; have hxm := hx.mailN; have hxb := hx.objs; have hxt := hx.text
 have st := st0
 clear st0
 unfold reqV
 have HE := Lib.hid (show callK k (n : Int) c = (k, errR 0) by unfold callK; simp [hkd, hob])
 have HOb : Hid (∀ W, Below w.heap.size w W → Calls Try.prog 59 #[.pointer (some ⟨g, 0, none⟩), .int .i64 c.t, .int .i64 c.n] W fun e w' => e = .returned (.pointer none) ∧ W = w') := by
  rcases h.object c.t c.n with ⟨_, H⟩ | ⟨_, _, _, _, _, _, _, _, _, _, _, _, _, _, _, _, _, _, _, _, _, e, _⟩
  ·exact Lib.hid H
  ·rw [hob] at e; cases e
 clear hob
 rw [hkd]
 clear hkd
 go_enter Try.func39, Try.ntmps39
 go_wp2_with (first | go_skip | (go_at_call 59; go_must (refine (HOb.out _ (HB.out _ _ st (by simp))).mono ?_; rintro e wo ⟨rfl, rfl⟩)) | (with_reducible refine at_box 36 ?_; refine mem_box st (wanted_none rfl) 36 _ rfl _ rfl _ rfl ?_; clear st; intro g5 w5 hg5 st hg5b; clear hg5b; simp [Act.eval, Act.put, Value.cells, putL] at st) | (with_reducible refine at_alloc 41 ?_; refine mem_alloc st (wanted_none rfl) 41 rfl _ Try.zeroValue41 _ rfl ?_; clear st; intro g6 w6 hg6 st hg6b; clear hg6b; simp [Act.eval, Act.put, Value.cells, putL] at st) | (with_reducible refine at_load 9 ?_; refine memX st 9 _ rfl Try.isAgg9 rfl ?_) | (with_reducible refine at_load 3 ?_; refine memX st 3 _ rfl Try.isAgg3 rfl ?_) | (go_at_call 56; go_must (refine (call_no _ _).mono ?_; rintro e vn ⟨rfl, hbn⟩; replace st := st.call hbn; clear hbn)) | (with_reducible refine at_store 41 ?_; refine memS st 41 _ _ rfl _ Try.sizeOf41 ⟨2, _, _, _, _, _, rfl, rfl, rfl, rfl, rfl, rfl, ?_⟩; clear st; intro w7 st hw7m hw7z; simp [Act.eval, Act.put, Value.cells, putL] at st))
 refine det_region (by kernel_rfl) 17 rfl (fun W => St [g] w W [(g, 84, winC (preC k css n) [.slice xa x.label.length xc, .slice oa x.own.length oc, .string x.text, .slice ba x.objects.length bc, .slice ma x.mails.length mc] (postC k css n)), (g5, 36, [.int .i64 3, .int .i64 c.h, .int .i64 c.t, .int .i64 c.n, .int .i64 c.c, .slice la c.label.length lc, .slice ga c.grants.length gc, .string c.text]), (g6, 41, [.int .i64 0, .int .i64 0, .string ⟨#[]⟩])]) (st.drew) (by decide +kernel) ?_
 refine detS 0 rfl ?_; simp only [kP, kA, kS, kZ]; refine detS 1 rfl ?_; simp only [kP, kA, kS, kZ]; refine detS 2 rfl ?_; simp only [kP, kA, kS, kZ]
 refine detK 3 rfl ?_; simp only [kP, kA, kS, kZ]; refine detK 4 rfl ?_; simp only [kP, kA, kS, kZ]; refine detK 5 rfl ?_; simp only [kP, kA, kS, kZ]; refine detK 6 rfl ?_; simp only [kP, kA, kS, kZ]; refine detK 7 rfl ?_; simp only [kP, kA, kS, kZ]; refine detK 8 rfl ?_; simp only [kP, kA, kS, kZ]; refine detK 9 rfl ?_; simp only [kP, kA, kS, kZ]; refine detK 10 rfl ?_; simp only [kP, kA, kS, kZ]; refine detK 11 rfl ?_; simp only [kP, kA, kS, kZ]; refine detK 12 rfl ?_; simp only [kP, kA, kS, kZ]; refine detK 13 rfl ?_; simp only [kP, kA, kS, kZ]; refine detK 14 rfl ?_; simp only [kP, kA, kS, kZ]; refine detK 15 rfl ?_; simp only [kP, kA, kS, kZ]
 refine detS 16 rfl ?_; simp only [kP, kA, kS, kZ]
 refine det_done (by decide +kernel) ?_
 clear st
 intro W st
 go_wp2_with (first | go_skip | (go_at_call 56; go_must (refine (call_no _ _).mono ?_; rintro e vn ⟨rfl, hbn⟩; replace st := st.call hbn; clear hbn)) | (with_reducible refine at_store 41 ?_; refine memS st 41 _ _ rfl _ Try.sizeOf41 ⟨2, _, _, _, _, _, rfl, rfl, rfl, rfl, rfl, rfl, ?_⟩; clear st; intro w7 st hw7m hw7z; simp [Act.eval, Act.put, Value.cells, putL] at st))
 have hc := fun j => st.cell (i := 2) rfl j
 refine bodyPost_ret (v := RepV (errR 0)) ?hr rfl ?_
 case hr => simp [results, Try.results39, go_sem, hc, RepV, errR]; try rfl
 rw [HE.out]
 exact ⟨rfl, KerTo.none h (HB.out _ _ st (by simp))⟩
set_option maxRecDepth 100000 in
set_option maxHeartbeats 4000000 in
theorem kernel_Call_get_none (h : KerAt ok w g k css Bs) (hk : ∀ x ∈ k.threads, x.ok) (hn : n < 4) (hx64 : ¬ 64 < c.text.size) (hkd : c.kind = 4) (hob : k.obj c.t c.n = none) :
  Calls Try.prog 39 #[.pointer (some ⟨g, 0, none⟩), .int .i64 n, reqV c la lc ga gc] w (CallPost ok w g Bs (callK k n c)) := by
 obtain ⟨x, xa, xc, oa, oc, ba, bc, ma, mc, ex, ec, eB, hT, hb⟩ := h.open hn
 have hx := hk x (List.mem_of_getElem? ex)
 have hpre := h.preLen hn
 have hth := Ker.thr_at ex
 have st0 := St.hand hb
 unfold thrC at st0
 have d1 : decide ((n : Int) < 0) = false := by simp
 have d2 : decide ((4 : Int) ≤ n) = false := by simp; omega
 have d64 := text_size hx64
 have hgg : ¬ ok g := h.apart g (by simp)
 have HKp := Lib.hid (show ∀ (W : World) (bl : Blks), St [g] w W bl → Keeps ok w W from fun W bl s => s.keeps (by simpa using hgg))
 have HB := Lib.hid (show ∀ (W : World) (bl : Blks), St [g] w W bl → (g, 84, winC (preC k css n) [.slice xa x.label.length xc, .slice oa x.own.length oc, .string x.text, .slice ba x.objects.length bc, .slice ma x.mails.length mc] (postC k css n)) ∈ bl → Below w.heap.size w W from fun W bl s hm => st0.below2 s (by simpa using hm))
 have hxl := goodL_len hx.good; have hxo := hx.ownL; have hxm := hx.mailN; have hxb := hx.objs; have hxt := hx.text
 have st := st0
 clear st0
 unfold reqV
 have HE := Lib.hid (show callK k (n : Int) c = (k, errR 4) by unfold callK; simp [hkd, hob])
 have HOb : Hid (∀ W, Below w.heap.size w W → Calls Try.prog 59 #[.pointer (some ⟨g, 0, none⟩), .int .i64 c.t, .int .i64 c.n] W fun e w' => e = .returned (.pointer none) ∧ W = w') := by
  rcases h.object c.t c.n with ⟨_, H⟩ | ⟨_, _, _, _, _, _, _, _, _, _, _, _, _, _, _, _, _, _, _, _, _, e, _⟩
  ·exact Lib.hid H
  ·rw [hob] at e; cases e
 clear hob
 rw [hkd]
 clear hkd
 go_enter Try.func39, Try.ntmps39
 go_wp2_with (first | go_skip | (go_at_call 59; go_must (refine (HOb.out _ (HB.out _ _ st (by simp))).mono ?_; rintro e wo ⟨rfl, rfl⟩)) | (with_reducible refine at_box 36 ?_; refine mem_box st (wanted_none rfl) 36 _ rfl _ rfl _ rfl ?_; clear st; intro g5 w5 hg5 st hg5b; clear hg5b; simp [Act.eval, Act.put, Value.cells, putL] at st) | (with_reducible refine at_alloc 41 ?_; refine mem_alloc st (wanted_none rfl) 41 rfl _ Try.zeroValue41 _ rfl ?_; clear st; intro g6 w6 hg6 st hg6b; clear hg6b; simp [Act.eval, Act.put, Value.cells, putL] at st) | (with_reducible refine at_load 9 ?_; refine memX st 9 _ rfl Try.isAgg9 rfl ?_) | (with_reducible refine at_load 3 ?_; refine memX st 3 _ rfl Try.isAgg3 rfl ?_) | (go_at_call 56; go_must (refine (call_no _ _).mono ?_; rintro e vn ⟨rfl, hbn⟩; replace st := st.call hbn; clear hbn)) | (with_reducible refine at_store 41 ?_; refine memS st 41 _ _ rfl _ Try.sizeOf41 ⟨2, _, _, _, _, _, rfl, rfl, rfl, rfl, rfl, rfl, ?_⟩; clear st; intro w7 st hw7m hw7z; simp [Act.eval, Act.put, Value.cells, putL] at st))
 refine det_region (by kernel_rfl) 18 rfl (fun W => St [g] w W [(g, 84, winC (preC k css n) [.slice xa x.label.length xc, .slice oa x.own.length oc, .string x.text, .slice ba x.objects.length bc, .slice ma x.mails.length mc] (postC k css n)), (g5, 36, [.int .i64 4, .int .i64 c.h, .int .i64 c.t, .int .i64 c.n, .int .i64 c.c, .slice la c.label.length lc, .slice ga c.grants.length gc, .string c.text]), (g6, 41, [.int .i64 0, .int .i64 0, .string ⟨#[]⟩])]) (st.drew) (by decide +kernel) ?_
 refine detS 0 rfl ?_; simp only [kP, kA, kS, kZ]; refine detS 1 rfl ?_; simp only [kP, kA, kS, kZ]; refine detS 2 rfl ?_; simp only [kP, kA, kS, kZ]
 refine detK 3 rfl ?_; simp only [kP, kA, kS, kZ]; refine detK 4 rfl ?_; simp only [kP, kA, kS, kZ]; refine detK 5 rfl ?_; simp only [kP, kA, kS, kZ]; refine detK 6 rfl ?_; simp only [kP, kA, kS, kZ]; refine detK 7 rfl ?_; simp only [kP, kA, kS, kZ]; refine detK 8 rfl ?_; simp only [kP, kA, kS, kZ]; refine detK 9 rfl ?_; simp only [kP, kA, kS, kZ]; refine detK 10 rfl ?_; simp only [kP, kA, kS, kZ]; refine detK 11 rfl ?_; simp only [kP, kA, kS, kZ]; refine detK 12 rfl ?_; simp only [kP, kA, kS, kZ]; refine detK 13 rfl ?_; simp only [kP, kA, kS, kZ]; refine detK 14 rfl ?_; simp only [kP, kA, kS, kZ]; refine detK 15 rfl ?_; simp only [kP, kA, kS, kZ]; refine detK 16 rfl ?_; simp only [kP, kA, kS, kZ]
 refine detS 17 rfl ?_; simp only [kP, kA, kS, kZ]
 refine det_done (by decide +kernel) ?_
 clear st
 intro W st
 go_wp2_with (first | go_skip | (go_at_call 56; go_must (refine (call_no _ _).mono ?_; rintro e vn ⟨rfl, hbn⟩; replace st := st.call hbn; clear hbn)) | (with_reducible refine at_store 41 ?_; refine memS st 41 _ _ rfl _ Try.sizeOf41 ⟨2, _, _, _, _, _, rfl, rfl, rfl, rfl, rfl, rfl, ?_⟩; clear st; intro w7 st hw7m hw7z; simp [Act.eval, Act.put, Value.cells, putL] at st))
 have hc := fun j => st.cell (i := 2) rfl j
 refine bodyPost_ret (v := RepV (errR 4)) ?hr rfl ?_
 case hr => simp [results, Try.results39, go_sem, hc, RepV, errR]; try rfl
 rw [HE.out]
 exact ⟨rfl, KerTo.none h (HB.out _ _ st (by simp))⟩
end
end Go.Proofs.Ytflfjpopfapogaa
