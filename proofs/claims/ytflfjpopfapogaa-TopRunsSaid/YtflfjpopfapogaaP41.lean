/- Walks and plain laws that the claim rests on, part 41. -/
import Derived.Test.YtflfjpopfapogaaP35
import Derived.Test.YtflfjpopfapogaaP34
import Derived.Test.YtflfjpopfapogaaP39
import Derived.Test.YtflfjpopfapogaaP40
import Derived.Test.YtflfjpopfapogaaP36
import Derived.Test.YtflfjpopfapogaaP38
import Derived.Test.YtflfjpopfapogaaP7
import Derived.LoopN
import Derived.Test.YtflfjpopfapogaaP9
import Derived.Test.YtflfjpopfapogaaP32
set_option linter.unusedSimpArgs false
set_option linter.unusedVariables false
/- The kernel's Call: an object made. (printed by gen_call2.py) -/
namespace Go.Proofs.Ytflfjpopfapogaa
open Go.RowKit
section
variable (ok okc : Nat → Prop) (w : World) (g : Nat) (k : Ker) (css : List (List Value)) (Bs : List (List Nat)) (n : Nat) (c : Req) (la : Option Addr) (lc : Nat) (ga : Option Addr) (gc : Nat)
set_option maxRecDepth 100000 in
set_option maxHeartbeats 4000000 in
theorem kernel_Call_object_bad (h : KerAt ok w g k css Bs) (hk : ∀ x ∈ k.threads, x.ok) (hn : n < 4) (hx64 : ¬ 64 < c.text.size) (hkd : c.kind = 2) (hll : c.label.length * 16 ≤ 140737488351232) (hcl : SlR okc w 2 RLev la lc c.label) (hgl : goodL c.label = false) :
  Calls Try.prog 39 #[.pointer (some ⟨g, 0, none⟩), .int .i64 n, reqV c la lc ga gc] w (CallPost ok w g Bs (callK k n c)) := by
 obtain ⟨x, xa, xc, oa, oc, ba, bc, ma, mc, ex, ec, eB, hT, hb⟩ := h.open hn
 have hx := hk x (List.mem_of_getElem? ex)
 have hpre := h.preLen hn
 have hth := Ker.thr_at ex
 have st0 := St.hand hb
 unfold thrC at st0
 have d1 : decide ((n : Int) < 0) = false := by simp
 have d2 : decide ((4 : Int) ≤ n) = false := by simp; omega
 have d64 := text_size hx64
 have hgg : ¬ ok g := h.apart g (by simp)
 have HKp := Lib.hid (show ∀ (W : World) (bl : Blks), St [g] w W bl → Keeps ok w W from fun W bl s => s.keeps (by simpa using hgg))
 have HB := Lib.hid (show ∀ (W : World) (bl : Blks), St [g] w W bl → (g, 84, winC (preC k css n) [.slice xa x.label.length xc, .slice oa x.own.length oc, .string x.text, .slice ba x.objects.length bc, .slice ma x.mails.length mc] (postC k css n)) ∈ bl → Below w.heap.size w W from fun W bl s hm => st0.below2 s (by simpa using hm))
 have hxl := goodL_len hx.good; have hxo := hx.ownL; have hxm := hx.mailN; have hxb := hx.objs; have hxt := hx.text
 have st := st0
 clear st0
 unfold reqV
 have HG := Lib.hid (fun (W : World) (hW : Below w.heap.size w W) => label_Good okc W la lc c.label (by omega) (hcl.below hW))
 have HE := Lib.hid (show callK k (n : Int) c = (k, errR 2) by unfold callK; simp [hkd, hgl])
 rw [hgl] at HG
 clear hgl
 rw [hkd]
 clear hkd
 go_enter Try.func39, Try.ntmps39
 go_wp2_with (first | go_skip | (with_reducible refine at_load 24 ?_; refine memX st 24 _ rfl Try.isAgg24 rfl ?_) | (go_at_call 58; go_must (refine (HG.out _ (HB.out _ _ st (by simp))).mono ?_; rintro e vg ⟨rfl, hbg⟩; replace st := st.call hbg; clear hbg)) | (with_reducible refine at_box 36 ?_; refine mem_box st (wanted_none rfl) 36 _ rfl _ rfl _ rfl ?_; clear st; intro g5 w5 hg5 st hg5b; clear hg5b; simp [Act.eval, Act.put, Value.cells, putL] at st) | (with_reducible refine at_alloc 41 ?_; refine mem_alloc st (wanted_none rfl) 41 rfl _ Try.zeroValue41 _ rfl ?_; clear st; intro g6 w6 hg6 st hg6b; clear hg6b; simp [Act.eval, Act.put, Value.cells, putL] at st) | (with_reducible refine at_load 9 ?_; refine memX st 9 _ rfl Try.isAgg9 rfl ?_) | (with_reducible refine at_load 3 ?_; refine memX st 3 _ rfl Try.isAgg3 rfl ?_) | (go_at_call 56; go_must (refine (call_no _ _).mono ?_; rintro e vn ⟨rfl, hbn⟩; replace st := st.call hbn; clear hbn)) | (with_reducible refine at_store 41 ?_; refine memS st 41 _ _ rfl _ Try.sizeOf41 ⟨2, _, _, _, _, _, rfl, rfl, rfl, rfl, rfl, rfl, ?_⟩; clear st; intro w7 st hw7m hw7z; simp [Act.eval, Act.put, Value.cells, putL] at st) | (go_at_call 56; go_must (refine (call_no _ _).mono ?_; rintro e vn ⟨rfl, hbn⟩; replace st := st.call hbn; clear hbn)))
 have hc := fun j => st.cell (i := 2) rfl j
 refine bodyPost_ret (v := RepV (errR 2)) ?hr rfl ?_
 case hr => simp [results, Try.results39, go_sem, hc, RepV, errR]; try rfl
 rw [HE.out]
 exact ⟨rfl, KerTo.none h (HB.out _ _ st (by simp))⟩
set_option maxRecDepth 100000 in
set_option maxHeartbeats 4000000 in
theorem kernel_Call_object_no (h : KerAt ok w g k css Bs) (hk : ∀ x ∈ k.threads, x.ok) (hn : n < 4) (hx64 : ¬ 64 < c.text.size) (hkd : c.kind = 2) (hll : c.label.length * 16 ≤ 140737488351232) (hcl : SlR okc w 2 RLev la lc c.label) (hgl : goodL c.label = true) (hf : flowsL (k.thr n).label c.label (k.thr n).own = false) :
  Calls Try.prog 39 #[.pointer (some ⟨g, 0, none⟩), .int .i64 n, reqV c la lc ga gc] w (CallPost ok w g Bs (callK k n c)) := by
 obtain ⟨x, xa, xc, oa, oc, ba, bc, ma, mc, ex, ec, eB, hT, hb⟩ := h.open hn
 have hx := hk x (List.mem_of_getElem? ex)
 have hpre := h.preLen hn
 have hth := Ker.thr_at ex
 have st0 := St.hand hb
 unfold thrC at st0
 have d1 : decide ((n : Int) < 0) = false := by simp
 have d2 : decide ((4 : Int) ≤ n) = false := by simp; omega
 have d64 := text_size hx64
 have hgg : ¬ ok g := h.apart g (by simp)
 have HKp := Lib.hid (show ∀ (W : World) (bl : Blks), St [g] w W bl → Keeps ok w W from fun W bl s => s.keeps (by simpa using hgg))
 have HB := Lib.hid (show ∀ (W : World) (bl : Blks), St [g] w W bl → (g, 84, winC (preC k css n) [.slice xa x.label.length xc, .slice oa x.own.length oc, .string x.text, .slice ba x.objects.length bc, .slice ma x.mails.length mc] (postC k css n)) ∈ bl → Below w.heap.size w W from fun W bl s hm => st0.below2 s (by simpa using hm))
 have hxl := goodL_len hx.good; have hxo := hx.ownL; have hxm := hx.mailN; have hxb := hx.objs; have hxt := hx.text
 have st := st0
 clear st0
 unfold reqV
 have HG := Lib.hid (fun (W : World) (hW : Below w.heap.size w W) => label_Good okc W la lc c.label (by omega) (hcl.below hW))
 rw [hth] at hf
 have HE := Lib.hid (show callK k (n : Int) c = (k, errR 6) by unfold callK; simp [hkd, hgl, hth, hf])
 have hl8 := goodL_len hgl
 have HF := Lib.hid (fun (W : World) (hW : Below w.heap.size w W) => label_Flows (fun _ => True) W xa la oa xc lc oc x.label c.label x.own (by omega) (by omega) ((hT.label.below hW).okay fun _ _ => trivial) ((hcl.below hW).okay fun _ _ => trivial) ((hT.own.below hW).okay fun _ _ => trivial))
 rw [hgl] at HG
 rw [hf] at HF
 clear hgl hf
 rw [hkd]
 clear hkd
 go_enter Try.func39, Try.ntmps39
 go_wp2_with (first | go_skip | (with_reducible refine at_load 24 ?_; refine memX st 24 _ rfl Try.isAgg24 rfl ?_) | (go_at_call 58; go_must (refine (HG.out _ (HB.out _ _ st (by simp))).mono ?_; rintro e vg ⟨rfl, hbg⟩; replace st := st.call hbg; clear hbg)) | (with_reducible refine at_box 36 ?_; refine mem_box st (wanted_none rfl) 36 _ rfl _ rfl _ rfl ?_; clear st; intro g5 w5 hg5 st hg5b; clear hg5b; simp [Act.eval, Act.put, Value.cells, putL] at st) | (with_reducible refine at_alloc 41 ?_; refine mem_alloc st (wanted_none rfl) 41 rfl _ Try.zeroValue41 _ rfl ?_; clear st; intro g6 w6 hg6 st hg6b; clear hg6b; simp [Act.eval, Act.put, Value.cells, putL] at st) | (with_reducible refine at_load 9 ?_; refine memX st 9 _ rfl Try.isAgg9 rfl ?_) | (with_reducible refine at_load 3 ?_; refine memX st 3 _ rfl Try.isAgg3 rfl ?_) | (go_at_call 56; go_must (refine (call_no _ _).mono ?_; rintro e vn ⟨rfl, hbn⟩; replace st := st.call hbn; clear hbn)) | (with_reducible refine at_store 41 ?_; refine memS st 41 _ _ rfl _ Try.sizeOf41 ⟨2, _, _, _, _, _, rfl, rfl, rfl, rfl, rfl, rfl, ?_⟩; clear st; intro w7 st hw7m hw7z; simp [Act.eval, Act.put, Value.cells, putL] at st))
 refine det_region (by kernel_rfl) 13 rfl (fun W => St [g] w W [(g, 84, winC (preC k css n) [.slice xa x.label.length xc, .slice oa x.own.length oc, .string x.text, .slice ba x.objects.length bc, .slice ma x.mails.length mc] (postC k css n)), (g5, 36, [.int .i64 2, .int .i64 c.h, .int .i64 c.t, .int .i64 c.n, .int .i64 c.c, .slice la c.label.length lc, .slice ga c.grants.length gc, .string c.text]), (g6, 41, [.int .i64 0, .int .i64 0, .string ⟨#[]⟩])]) (st.drew) (by decide +kernel) ?_
 refine detS 0 rfl ?_; simp only [kP, kA, kS, kZ]; refine detS 1 rfl ?_; simp only [kP, kA, kS, kZ]; refine detS 2 rfl ?_; simp only [kP, kA, kS, kZ]
 refine detT 3 rfl (fun W hW => St.run_loadW hW 0 24 _ rfl Try.isAgg24 0 hpre rfl rfl rfl) ?_; simp only [kP, kA, kS, kZ]
 refine detS 4 rfl ?_; simp only [kP, kA, kS, kZ]
 refine detT 5 rfl (fun W hW => St.run_load hW 1 24 _ rfl Try.isAgg24 rfl rfl rfl) ?_; simp only [kP, kA, kS, kZ]
 refine detS 6 rfl ?_; simp only [kP, kA, kS, kZ]; refine detS 7 rfl ?_; simp only [kP, kA, kS, kZ]; refine detS 8 rfl ?_; simp only [kP, kA, kS, kZ]
 refine detT 9 rfl (fun W hW => St.run_loadW hW 0 25 _ rfl Try.isAgg25 1 hpre rfl rfl rfl) ?_; simp only [kP, kA, kS, kZ]
 refine det_call (fn := 10) 10 rfl (by decide +kernel) (by first | exact wanted_none rfl | exact wanted_some rfl rfl) (fun W => by first | (go_simp; done) | (go_simp; rfl)) (fun W hW => (HF.out W (HB.out W _ hW (by simp))).mono fun e w' h => ⟨h.1, hW.call h.2⟩) ?_; simp only [kP, kA, kS, kZ]
 refine detS 11 rfl ?_; simp only [kP, kA, kS, kZ]; refine detS 12 rfl ?_; simp only [kP, kA, kS, kZ]
 refine det_done (by decide +kernel) ?_
 clear st
 intro W st
 go_wp2_with (first | go_skip | (go_at_call 56; go_must (refine (call_no _ _).mono ?_; rintro e vn ⟨rfl, hbn⟩; replace st := st.call hbn; clear hbn)) | (with_reducible refine at_store 41 ?_; refine memS st 41 _ _ rfl _ Try.sizeOf41 ⟨2, _, _, _, _, _, rfl, rfl, rfl, rfl, rfl, rfl, ?_⟩; clear st; intro w7 st hw7m hw7z; simp [Act.eval, Act.put, Value.cells, putL] at st))
 have hc := fun j => st.cell (i := 2) rfl j
 refine bodyPost_ret (v := RepV (errR 6)) ?hr rfl ?_
 case hr => simp [results, Try.results39, go_sem, hc, RepV, errR]; try rfl
 rw [HE.out]
 exact ⟨rfl, KerTo.none h (HB.out _ _ st (by simp))⟩
set_option maxRecDepth 100000 in
set_option maxHeartbeats 4000000 in
theorem kernel_Call_object_full (h : KerAt ok w g k css Bs) (hk : ∀ x ∈ k.threads, x.ok) (hn : n < 4) (hx64 : ¬ 64 < c.text.size) (hkd : c.kind = 2) (hll : c.label.length * 16 ≤ 140737488351232) (hcl : SlR okc w 2 RLev la lc c.label) (hgl : goodL c.label = true) (hf : flowsL (k.thr n).label c.label (k.thr n).own = true) (h4 : 4 ≤ (k.thr n).objects.length) :
  Calls Try.prog 39 #[.pointer (some ⟨g, 0, none⟩), .int .i64 n, reqV c la lc ga gc] w (CallPost ok w g Bs (callK k n c)) := by
 obtain ⟨x, xa, xc, oa, oc, ba, bc, ma, mc, ex, ec, eB, hT, hb⟩ := h.open hn
 have hx := hk x (List.mem_of_getElem? ex)
 have hpre := h.preLen hn
 have hth := Ker.thr_at ex
 have st0 := St.hand hb
 unfold thrC at st0
 have d1 : decide ((n : Int) < 0) = false := by simp
 have d2 : decide ((4 : Int) ≤ n) = false := by simp; omega
 have d64 := text_size hx64
 have hgg : ¬ ok g := h.apart g (by simp)
 have HKp := Lib.hid (show ∀ (W : World) (bl : Blks), St [g] w W bl → Keeps ok w W from fun W bl s => s.keeps (by simpa using hgg))
 have HB := Lib.hid (show ∀ (W : World) (bl : Blks), St [g] w W bl → (g, 84, winC (preC k css n) [.slice xa x.label.length xc, .slice oa x.own.length oc, .string x.text, .slice ba x.objects.length bc, .slice ma x.mails.length mc] (postC k css n)) ∈ bl → Below w.heap.size w W from fun W bl s hm => st0.below2 s (by simpa using hm))
 have hxl := goodL_len hx.good; have hxo := hx.ownL; have hxm := hx.mailN; have hxb := hx.objs; have hxt := hx.text
 have st := st0
 clear st0
 unfold reqV
 have HG := Lib.hid (fun (W : World) (hW : Below w.heap.size w W) => label_Good okc W la lc c.label (by omega) (hcl.below hW))
 rw [hth] at hf h4
 have HE := Lib.hid (show callK k (n : Int) c = (k, errR 5) by unfold callK; simp [hkd, hgl, hth, hf, h4])
 have d4 : decide ((4 : Int) ≤ x.objects.length) = true := by simp; omega
 have hl8 := goodL_len hgl
 have HF := Lib.hid (fun (W : World) (hW : Below w.heap.size w W) => label_Flows (fun _ => True) W xa la oa xc lc oc x.label c.label x.own (by omega) (by omega) ((hT.label.below hW).okay fun _ _ => trivial) ((hcl.below hW).okay fun _ _ => trivial) ((hT.own.below hW).okay fun _ _ => trivial))
 rw [hgl] at HG
 rw [hf] at HF
 clear hgl hf
 rw [hkd]
 clear hkd
 go_enter Try.func39, Try.ntmps39
 go_wp2_with (first | go_skip | (with_reducible refine at_load 24 ?_; refine memX st 24 _ rfl Try.isAgg24 rfl ?_) | (go_at_call 58; go_must (refine (HG.out _ (HB.out _ _ st (by simp))).mono ?_; rintro e vg ⟨rfl, hbg⟩; replace st := st.call hbg; clear hbg)) | (with_reducible refine at_box 36 ?_; refine mem_box st (wanted_none rfl) 36 _ rfl _ rfl _ rfl ?_; clear st; intro g5 w5 hg5 st hg5b; clear hg5b; simp [Act.eval, Act.put, Value.cells, putL] at st) | (with_reducible refine at_alloc 41 ?_; refine mem_alloc st (wanted_none rfl) 41 rfl _ Try.zeroValue41 _ rfl ?_; clear st; intro g6 w6 hg6 st hg6b; clear hg6b; simp [Act.eval, Act.put, Value.cells, putL] at st) | (with_reducible refine at_load 9 ?_; refine memX st 9 _ rfl Try.isAgg9 rfl ?_) | (with_reducible refine at_load 3 ?_; refine memX st 3 _ rfl Try.isAgg3 rfl ?_) | (go_at_call 56; go_must (refine (call_no _ _).mono ?_; rintro e vn ⟨rfl, hbn⟩; replace st := st.call hbn; clear hbn)) | (with_reducible refine at_store 41 ?_; refine memS st 41 _ _ rfl _ Try.sizeOf41 ⟨2, _, _, _, _, _, rfl, rfl, rfl, rfl, rfl, rfl, ?_⟩; clear st; intro w7 st hw7m hw7z; simp [Act.eval, Act.put, Value.cells, putL] at st))
 refine det_region (by kernel_rfl) 13 rfl (fun W => St [g] w W [(g, 84, winC (preC k css n) [.slice xa x.label.length xc, .slice oa x.own.length oc, .string x.text, .slice ba x.objects.length bc, .slice ma x.mails.length mc] (postC k css n)), (g5, 36, [.int .i64 2, .int .i64 c.h, .int .i64 c.t, .int .i64 c.n, .int .i64 c.c, .slice la c.label.length lc, .slice ga c.grants.length gc, .string c.text]), (g6, 41, [.int .i64 0, .int .i64 0, .string ⟨#[]⟩])]) (st.drew) (by decide +kernel) ?_
 refine detS 0 rfl ?_; simp only [kP, kA, kS, kZ]; refine detS 1 rfl ?_; simp only [kP, kA, kS, kZ]; refine detS 2 rfl ?_; simp only [kP, kA, kS, kZ]
 refine detT 3 rfl (fun W hW => St.run_loadW hW 0 24 _ rfl Try.isAgg24 0 hpre rfl rfl rfl) ?_; simp only [kP, kA, kS, kZ]
 refine detS 4 rfl ?_; simp only [kP, kA, kS, kZ]
 refine detT 5 rfl (fun W hW => St.run_load hW 1 24 _ rfl Try.isAgg24 rfl rfl rfl) ?_; simp only [kP, kA, kS, kZ]
 refine detS 6 rfl ?_; simp only [kP, kA, kS, kZ]; refine detS 7 rfl ?_; simp only [kP, kA, kS, kZ]; refine detS 8 rfl ?_; simp only [kP, kA, kS, kZ]
 refine detT 9 rfl (fun W hW => St.run_loadW hW 0 25 _ rfl Try.isAgg25 1 hpre rfl rfl rfl) ?_; simp only [kP, kA, kS, kZ]
 refine det_call (fn := 10) 10 rfl (by decide +kernel) (by first | exact wanted_none rfl | exact wanted_some rfl rfl) (fun W => by first | (go_simp; done) | (go_simp; rfl)) (fun W hW => (HF.out W (HB.out W _ hW (by simp))).mono fun e w' h => ⟨h.1, hW.call h.2⟩) ?_; simp only [kP, kA, kS, kZ]
 refine detS 11 rfl ?_; simp only [kP, kA, kS, kZ]; refine detS 12 rfl ?_; simp only [kP, kA, kS, kZ]
 refine det_done (by decide +kernel) ?_
 clear st
 intro W st
 go_wp2_with (first | go_skip | (with_reducible refine at_load 26 ?_; (first | refine mem_loadW st 26 _ rfl (wanted_none rfl) Try.isAgg26 3 ?_ | (refine mem_loadW st 26 _ rfl (wanted_some rfl ?_) Try.isAgg26 3 ?_; focus (simp [yielded, Act.put]; done))); refine ⟨0, _, _, _, _, _, _, _, hpre, rfl, rfl, rfl, ?_⟩) | (go_at_call 56; go_must (refine (call_no _ _).mono ?_; rintro e vn ⟨rfl, hbn⟩; replace st := st.call hbn; clear hbn)) | (with_reducible refine at_store 41 ?_; refine memS st 41 _ _ rfl _ Try.sizeOf41 ⟨2, _, _, _, _, _, rfl, rfl, rfl, rfl, rfl, rfl, ?_⟩; clear st; intro w7 st hw7m hw7z; simp [Act.eval, Act.put, Value.cells, putL] at st))
 have hc := fun j => st.cell (i := 2) rfl j
 refine bodyPost_ret (v := RepV (errR 5)) ?hr rfl ?_
 case hr => simp [results, Try.results39, go_sem, hc, RepV, errR]; try rfl
 rw [HE.out]
 exact ⟨rfl, KerTo.none h (HB.out _ _ st (by simp))⟩
end
open Go.RowKit
section
variable (ok okc : Nat → Prop) (w : World) (g : Nat) (k : Ker) (css : List (List Value)) (Bs : List (List Nat)) (n : Nat) (c : Req) (la : Option Addr) (lc : Nat) (ga : Option Addr) (gc : Nat)
set_option maxRecDepth 100000 in
set_option maxHeartbeats 4000000 in
theorem kernel_Call_out (h : KerAt ok w g k css Bs) (t : Int) (h4 : four t = false) :
  Calls Try.prog 39 #[.pointer (some ⟨g, 0, none⟩), .int .i64 t, reqV c la lc ga gc] w (CallPost ok w g Bs (k, errR 4)) := by
 have st := St.start w
 unfold reqV
 rcases four_no h4 with d | ⟨d0, d⟩
 all_goals
  clear h4
  go_enter Try.func39, Try.ntmps39
  go_wp2_with (first | go_skip | (with_reducible refine at_box 36 ?_; refine mem_box st (wanted_none rfl) 36 _ rfl _ rfl _ rfl ?_; clear st; intro g5 w5 hg5 st hg5b; clear hg5b; simp [Act.eval, Act.put, Value.cells, putL] at st) | (with_reducible refine at_alloc 41 ?_; refine mem_alloc st (wanted_none rfl) 41 rfl _ Try.zeroValue41 _ rfl ?_; clear st; intro g6 w6 hg6 st hg6b; clear hg6b; simp [Act.eval, Act.put, Value.cells, putL] at st) | (go_at_call 56; go_must (refine (call_no _ _).mono ?_; rintro e vn ⟨rfl, hbn⟩; replace st := st.call hbn; clear hbn)) | (with_reducible refine at_store 41 ?_; refine memS st 41 _ _ rfl _ Try.sizeOf41 ⟨1, _, _, _, _, _, rfl, rfl, rfl, rfl, rfl, rfl, ?_⟩; clear st; intro w7 st hw7m hw7z; simp [Act.eval, Act.put, Value.cells, putL] at st))
  have hc := fun j => st.cell (i := 1) rfl j
  refine bodyPost_ret (v := RepV (errR 4)) ?hr rfl ⟨rfl, KerTo.none h st.below⟩
  case hr => simp [results, Try.results39, go_sem, hc, RepV, errR]; try rfl
set_option maxRecDepth 100000 in
set_option maxHeartbeats 4000000 in
theorem kernel_Call_long (h : KerAt ok w g k css Bs) (hn : n < 4) (hx64 : 64 < c.text.size) :
  Calls Try.prog 39 #[.pointer (some ⟨g, 0, none⟩), .int .i64 n, reqV c la lc ga gc] w (CallPost ok w g Bs (k, errR 9)) := by
 have d1 : decide ((n : Int) < 0) = false := by simp
 have d2 : decide ((4 : Int) ≤ n) = false := by simp; omega
 have d64 : decide (64 < (c.text.size : Int)) = true := by simp; omega
 have st := St.start w
 unfold reqV
 go_enter Try.func39, Try.ntmps39
 go_wp2_with (first | go_skip | (with_reducible refine at_box 36 ?_; refine mem_box st (wanted_none rfl) 36 _ rfl _ rfl _ rfl ?_; clear st; intro g5 w5 hg5 st hg5b; clear hg5b; simp [Act.eval, Act.put, Value.cells, putL] at st) | (with_reducible refine at_alloc 41 ?_; refine mem_alloc st (wanted_none rfl) 41 rfl _ Try.zeroValue41 _ rfl ?_; clear st; intro g6 w6 hg6 st hg6b; clear hg6b; simp [Act.eval, Act.put, Value.cells, putL] at st) | (with_reducible refine at_load 9 ?_; refine memX st 9 _ rfl Try.isAgg9 rfl ?_) | (go_at_call 56; go_must (refine (call_no _ _).mono ?_; rintro e vn ⟨rfl, hbn⟩; replace st := st.call hbn; clear hbn)) | (with_reducible refine at_store 41 ?_; refine memS st 41 _ _ rfl _ Try.sizeOf41 ⟨1, _, _, _, _, _, rfl, rfl, rfl, rfl, rfl, rfl, ?_⟩; clear st; intro w7 st hw7m hw7z; simp [Act.eval, Act.put, Value.cells, putL] at st))
 have hc := fun j => st.cell (i := 1) rfl j
 refine bodyPost_ret (v := RepV (errR 9)) ?hr rfl ⟨rfl, KerTo.none h st.below⟩
 case hr => simp [results, Try.results39, go_sem, hc, RepV, errR]; try rfl
theorem kernel_Call (h : KerAt ok w g k css Bs) (hk : k.ok) (t : Int) (hll : c.label.length * 16 ≤ 140737488351232) (hcl : SlR okc w 2 RLev la lc c.label) :
  Calls Try.prog 39 #[.pointer (some ⟨g, 0, none⟩), .int .i64 t, reqV c la lc ga gc] w (CallPost ok w g Bs (stepC k t c)) := by
 unfold stepC
 by_cases h4 : four t = false
 ·rw [if_pos h4]; exact kernel_Call_out ok w g k css Bs c la lc ga gc h t h4
 rw [if_neg h4]
 obtain ⟨n, rfl, hn⟩ := four_nat (by simpa using h4 : four t = true)
 by_cases h64 : 64 < c.text.size
 ·rw [if_pos h64]; exact kernel_Call_long ok w g k css Bs n c la lc ga gc h hn h64
 rw [if_neg h64]
 have ht := hk.thr
 by_cases k1 : c.kind = 1
 ·by_cases hf : 20 ≤ k.made
  ·exact kernel_Call_cat_full ok w g k css Bs n c la lc ga gc h ht hn h64 k1 hk.host.1 hk.host.2 hk.made.1 hk.made.2 hf
  ·by_cases ho : (ownC (k.thr n).own (k.host * 20 + k.made)).2 = 0
   ·exact kernel_Call_cat ok w g k css Bs n c la lc ga gc h ht hn h64 k1 hk.host.1 hk.host.2 hk.made.1 hk.made.2 (by omega) ho
   ·exact kernel_Call_cat_room ok w g k css Bs n c la lc ga gc h ht hn h64 k1 hk.host.1 hk.host.2 hk.made.1 hk.made.2 (by omega) ho
 by_cases k2 : c.kind = 2
 ·by_cases hg : goodL c.label = true
  ·by_cases hf : flowsL (k.thr n).label c.label (k.thr n).own = true
   ·by_cases h5 : (k.thr n).objects.length < 4
    ·exact kernel_Call_object_yes ok okc w g k css Bs n c la lc ga gc h ht hn h64 k2 hll hcl hg hf h5
    ·exact kernel_Call_object_full ok okc w g k css Bs n c la lc ga gc h ht hn h64 k2 hll hcl hg hf (by omega)
   ·exact kernel_Call_object_no ok okc w g k css Bs n c la lc ga gc h ht hn h64 k2 hll hcl hg (by simpa using hf)
  ·exact kernel_Call_object_bad ok okc w g k css Bs n c la lc ga gc h ht hn h64 k2 hll hcl (by simpa using hg)
 by_cases k3 : c.kind = 3
 ·cases ho : k.obj c.t c.n with
  | none => exact kernel_Call_put_none ok w g k css Bs n c la lc ga gc h ht hn h64 k3 ho
  | some o =>
   by_cases hf : flowsL (k.thr n).label o.label (k.thr n).own = true
   ·exact kernel_Call_put_yes ok w g k css Bs n c la lc ga gc h ht hn h64 k3 o ho hf
   ·exact kernel_Call_put_no ok w g k css Bs n c la lc ga gc h ht hn h64 k3 o ho (by simpa using hf)
 by_cases k4 : c.kind = 4
 ·cases ho : k.obj c.t c.n with
  | none => exact kernel_Call_get_none ok w g k css Bs n c la lc ga gc h ht hn h64 k4 ho
  | some o =>
   by_cases hf : flowsL o.label (k.thr n).label (k.thr n).own = true
   ·exact kernel_Call_get_yes ok w g k css Bs n c la lc ga gc h ht hn h64 k4 o ho hf
   ·exact kernel_Call_get_no ok w g k css Bs n c la lc ga gc h ht hn h64 k4 o ho (by simpa using hf)
 by_cases k5 : c.kind = 5
 ·by_cases he : (setR (k.thr n).label c.c c.n).2 = 0
  ·by_cases hf : flowsL (k.thr n).label (setR (k.thr n).label c.c c.n).1 (k.thr n).own = true
   ·exact kernel_Call_level_yes ok w g k css Bs n c la lc ga gc h ht hn h64 k5 he hf
   ·exact kernel_Call_level_low ok w g k css Bs n c la lc ga gc h ht hn h64 k5 he (by simpa using hf)
  ·exact kernel_Call_level_no ok w g k css Bs n c la lc ga gc h ht hn h64 k5 he
 by_cases k7 : c.kind = 7
 ·exact kernel_Call_take ok w g k css Bs n c la lc ga gc h ht hn h64 k7
 by_cases k9 : c.kind = 9
 ·exact kernel_Call_forget ok w g k css Bs n c la lc ga gc h ht hn h64 k9
 by_cases k10 : c.kind = 10
 ·exact kernel_Call_say ok w g k css Bs n c la lc ga gc h ht hn h64 k10
 exact kernel_Call_other ok w g k css Bs n c la lc ga gc h ht hn h64 ⟨k1, k2, k3, k4, k5, k7, k9, k10⟩
end
open Go.RowKit
def zeroLc : List Value := [.int .i64 0, .slice none 0 0, .int .i64 0, .bool false, .bool false, .bool false, .bool false, .bool false, .bool false, .bool false, .bool false]
def zeroLs : List Value := .int .i64 0 :: (List.replicate 4 (.pointer none) ++ (List.replicate 4 (.slice none 0 0) ++ ((List.replicate 16 zeroLc).flatten ++ [.slice none 0 0, .int .i64 0])))
theorem flatRep {cs : List Value} (t : List Value) {j : Nat} (hj : j < cs.length) : ∀ (n i : Nat), i < n → ((List.replicate n cs).flatten ++ t)[i * cs.length + j]? = cs[j]?
 | 0, _, h => by omega
 | n + 1, 0, _ => by
  simp only [List.replicate_succ, List.flatten_cons, List.append_assoc, Nat.zero_mul, Nat.zero_add]
  rw [List.getElem?_append_left hj]
 | n + 1, i + 1, h => by
  simp only [List.replicate_succ, List.flatten_cons, List.append_assoc]
  rw [List.getElem?_append_right (by rw [Nat.succ_mul]; omega), show (i + 1) * cs.length + j - cs.length = i * cs.length + j by rw [Nat.succ_mul]; omega]
  exact flatRep t hj n i (by omega)
theorem zeroLine {i j : Nat} (hi : i < 16) (hj : j < 11) : zeroLs[9 + i * 11 + j]? = zeroLc[j]? := by
 have h1 : zeroLs = (.int .i64 0 :: (List.replicate 4 (.pointer none) ++ List.replicate 4 (.slice none 0 0))) ++ ((List.replicate 16 zeroLc).flatten ++ [.slice none 0 0, .int .i64 0]) := rfl
 rw [h1, List.getElem?_append_right (by simp; omega)]
 have h2 := flatRep (cs := zeroLc) [.slice none 0 0, .int .i64 0] (j := j) hj 16 i hi
 rw [← h2]
 congr 1
 simp only [List.length_cons, List.length_append, List.length_replicate]
 show 9 + i * 11 + j - 9 = i * 11 + j
 omega
theorem Clus.new {w W : World} {gc k0 k1 k2 k3 : Nat} {own : Blks} {L : List Value} (st : St [] w W own) (hc : (gc, 72, L) ∈ own)
  (h0 : (k0, 84, .int .i64 0 :: (([zeroC, zeroC, zeroC, zeroC] : List (List Value)).flatten ++ [.int .i64 0])) ∈ own)
  (h1 : (k1, 84, .int .i64 1 :: (([zeroC, zeroC, zeroC, zeroC] : List (List Value)).flatten ++ [.int .i64 0])) ∈ own)
  (h2 : (k2, 84, .int .i64 2 :: (([zeroC, zeroC, zeroC, zeroC] : List (List Value)).flatten ++ [.int .i64 0])) ∈ own)
  (h3 : (k3, 84, .int .i64 3 :: (([zeroC, zeroC, zeroC, zeroC] : List (List Value)).flatten ++ [.int .i64 0])) ∈ own)
  (hn : [gc, k0, k1, k2, k3].Nodup) (hL : L = putL (putL (putL (putL zeroLs 1 [.pointer (some ⟨k0, 0, none⟩)]) 2 [.pointer (some ⟨k1, 0, none⟩)]) 3 [.pointer (some ⟨k2, 0, none⟩)]) 4 [.pointer (some ⟨k3, 0, none⟩)]) :
  Clus w [] [] (fun b => b < w.heap.size) w (fun _ => True) gc [k0, k1, k2, k3] newC W := by
 have hz : zeroLs.length = 187 := rfl
 have hp : ∀ p, L[p]? = if p = 4 then some (.pointer (some ⟨k3, 0, none⟩)) else if p = 3 then some (.pointer (some ⟨k2, 0, none⟩)) else if p = 2 then some (.pointer (some ⟨k1, 0, none⟩)) else if p = 1 then some (.pointer (some ⟨k0, 0, none⟩)) else zeroLs[p]? := fun p => by
  rw [hL, putL_one (by simp only [putL_length]; omega), putL_one (by simp only [putL_length]; omega), putL_one (by simp only [putL_length]; omega), putL_one (by omega)]
 have hcell : CluL (fun _ => False) W newC [k0, k1, k2, k3] none 0 L := by
  refine ⟨by rw [hL]; simp only [putL_length]; exact hz, by rw [hp]; rfl, fun i g hg => ?_, fun i l hl => ?_, fun i ln hl => ?_, by rw [hp]; rfl, by rw [hp]; rfl, rfl, rfl, by simp [newC]⟩
  ·match i, hg with
   | 0, hg => cases hg; rw [hp]; rfl
   | 1, hg => cases hg; rw [hp]; rfl
   | 2, hg => cases hg; rw [hp]; rfl
   | 3, hg => cases hg; rw [hp]; rfl
   | i + 4, hg => simp at hg
  ·have hnil : RCerts (fun _ => False) W (.slice none 0 0) [] := ⟨none, 0, rfl, SlR.nil _ _ _ _⟩
   match i, hl with
   | 0, hl => cases hl; exact ⟨_, by rw [hp]; rfl, hnil⟩
   | 1, hl => cases hl; exact ⟨_, by rw [hp]; rfl, hnil⟩
   | 2, hl => cases hl; exact ⟨_, by rw [hp]; rfl, hnil⟩
   | 3, hl => cases hl; exact ⟨_, by rw [hp]; rfl, hnil⟩
   | i + 4, hl => simp [newC] at hl
  ·have hi : i < 16 := by have := (List.getElem?_eq_some_iff.1 hl).1; simpa [newC] using this
   have : ln = zeroL := by
    have h := List.mem_of_getElem? hl
    exact List.eq_of_mem_replicate h
   subst this
   refine ⟨zeroLc, ⟨none, 0, rfl, SlR.nil _ _ _ _⟩, fun j v hv => ?_⟩
   have hj : j < 11 := (List.getElem?_eq_some_iff.1 hv).1
   rw [hp, if_neg (by omega), if_neg (by omega), if_neg (by omega), if_neg (by omega), zeroLine hi hj]
   exact hv
 have hmem : ∀ b ∈ cluB gc none [[k0], [k1], [k2], [k3]], b = gc ∨ b = k0 ∨ b = k1 ∨ b = k2 ∨ b = k3 := fun b hb => by simpa [cluB] using hb
 have hmine : ∀ b ∈ cluB gc none [[k0], [k1], [k2], [k3]], w.heap.size ≤ b := fun b hb => by
  have hm : ∀ x ∈ own, w.heap.size ≤ x.1 := fun x hx => (st.mine x hx).resolve_left (by simp)
  rcases hmem b hb with rfl | rfl | rfl | rfl | rfl
  ·exact hm _ hc
  ·exact hm _ h0
  ·exact hm _ h1
  ·exact hm _ h2
  ·exact hm _ h3
 refine ⟨st.sub (by simp) List.Pairwise.nil, newC_ok, ⟨st.size, fun b hb _ => st.frame b hb (by simp)⟩, by simp, fun _ h => h, fun _ => False, [[k0], [k1], [k2], [k3]], none, 0, L, ⟨st.blk _ hc, hcell, rfl, rfl, fun i k g B e1 e2 e3 => ?_, RowAt.nil _ _ _ _, by simpa [cluB] using hn, fun _ _ h => h⟩, fun b hb => ⟨.inr (hmine b hb), by simp, fun hh => ?_⟩, fun b hb => hb.elim⟩
 ·match i, e1, e2, e3 with
  | 0, e1, e2, e3 => cases e1; cases e2; cases e3; exact ⟨_, _, KerAt.new st h0 _ (fun h => h), rfl⟩
  | 1, e1, e2, e3 => cases e1; cases e2; cases e3; exact ⟨_, _, KerAt.new st h1 _ (fun h => h), rfl⟩
  | 2, e1, e2, e3 => cases e1; cases e2; cases e3; exact ⟨_, _, KerAt.new st h2 _ (fun h => h), rfl⟩
  | 3, e1, e2, e3 => cases e1; cases e2; cases e3; exact ⟨_, _, KerAt.new st h3 _ (fun h => h), rfl⟩
  | i + 4, e1, e2, e3 => simp at e2
 ·have := hmine b hb; omega
set_option maxRecDepth 100000 in
set_option maxHeartbeats 4000000 in
theorem cluster_NewX (w : World) : Calls Try.prog 15 #[] w fun e w' => ∃ gc kg, e = .returned (.pointer (some ⟨gc, 0, none⟩)) ∧ Clus w [] [] (fun b => b < w.heap.size) w (fun _ => True) gc kg newC w' := by
 have st := St.start w
 go_enter Try.func15, Try.ntmps15
 go_upto_region 2 with (first | go_skip | (with_reducible refine at_box 72 ?_; refine mem_box st (wanted_none rfl) 72 _ rfl _ rfl _ rfl ?_; clear st; intro gc w1 hgc st hgcb; clear hgcb; simp [Act.eval, Act.put, Value.cells, putL] at st))
 have hz : zeroLs.length = 187 := rfl
 have st1 : St [] w w1 [(gc, 72, zeroLs)] := st
 clear st
 have st := st1
 clear st1
 clear hgc
 generalize hL0 : zeroLs = L0 at st hz
 go_wp2_with fail
 refine wp_loop_rounds 5 ?_
 rw [rounds_succ]
 go_upto_region 5 with fail
 have hI : True := trivial
 refine lex_region (by kernel_rfl) 11 rfl (fun _ => True) ?_
 refine lexS 0 rfl hI ?_; simp only [kP, kA, kS, kZ]
 refine lexS 1 rfl hI ?_; simp only [kP, kA, kS, kZ]
 refine lexS 2 rfl hI ?_; simp only [kP, kA, kS, kZ]
 refine lexS 7 rfl hI ?_; simp only [kP, kA, kS, kZ]
 refine lexS 8 rfl hI ?_; simp only [kP, kA, kS, kZ]
 refine lexO 3 rfl fun K hK => ?_
 refine wp_callee (f := 22) (by first | (go_simp; done) | (go_simp; rfl)) ?_
 refine (kernel_New _ 0 (by decide) (by decide)).mono ?_
 rintro e v0 ⟨k0, rfl, hk0, stk⟩
 refine ⟨_, rfl, ?_⟩
 replace st := st.drew.join stk
 clear stk
 simp only [List.cons_append, List.nil_append] at st
 refine hK _ _ (trivial) ?_; clear hK; simp only [kP, kA, kS, kZ]
 refine lexS 4 rfl hI ?_; simp only [kP, kA, kS, kZ]
 refine lexS 5 rfl hI ?_; simp only [kP, kA, kS, kZ]
 refine lexS 6 rfl hI ?_; simp only [kP, kA, kS, kZ]
 refine lexS 9 rfl hI ?_; simp only [kP, kA, kS, kZ]
 refine lexO 10 rfl fun K hK => ?_
 refine wp_store st 60 _ _ rfl gc (1 + 0) rfl (.pointer (some ⟨k0, 0, none⟩)) rfl [.pointer (some ⟨k0, 0, none⟩)] rfl Try.sizeOf60 (by simp [Value.oneCell']) 0 _ _ rfl (by simp only [putL_length, hz, List.length_cons, List.length_nil]; decide) ?_
 clear st
 intro u0 st m0 z0
 simp only [List.set_cons_zero] at st
 refine hK _ _ (trivial) ?_; clear hK; simp only [kP, kA, kS, kZ]
 refine lex_done (by decide +kernel) ?_
 go_wp2_with fail
 rw [rounds_succ]
 go_upto_region 5 with fail
 have hI : True := trivial
 refine lex_region (by kernel_rfl) 11 rfl (fun _ => True) ?_
 refine lexS 0 rfl hI ?_; simp only [kP, kA, kS, kZ]
 refine lexS 1 rfl hI ?_; simp only [kP, kA, kS, kZ]
 refine lexS 2 rfl hI ?_; simp only [kP, kA, kS, kZ]
 refine lexS 7 rfl hI ?_; simp only [kP, kA, kS, kZ]
 refine lexS 8 rfl hI ?_; simp only [kP, kA, kS, kZ]
 refine lexO 3 rfl fun K hK => ?_
 refine wp_callee (f := 22) (by first | (go_simp; done) | (go_simp; rfl)) ?_
 refine (kernel_New _ 1 (by decide) (by decide)).mono ?_
 rintro e v1 ⟨k1, rfl, hk1, stk⟩
 refine ⟨_, rfl, ?_⟩
 replace st := st.drew.join stk
 clear stk
 simp only [List.cons_append, List.nil_append] at st
 refine hK _ _ (trivial) ?_; clear hK; simp only [kP, kA, kS, kZ]
 refine lexS 4 rfl hI ?_; simp only [kP, kA, kS, kZ]
 refine lexS 5 rfl hI ?_; simp only [kP, kA, kS, kZ]
 refine lexS 6 rfl hI ?_; simp only [kP, kA, kS, kZ]
 refine lexS 9 rfl hI ?_; simp only [kP, kA, kS, kZ]
 refine lexO 10 rfl fun K hK => ?_
 refine wp_store st 60 _ _ rfl gc (1 + 1) rfl (.pointer (some ⟨k1, 0, none⟩)) rfl [.pointer (some ⟨k1, 0, none⟩)] rfl Try.sizeOf60 (by simp [Value.oneCell']) 0 _ _ rfl (by simp only [putL_length, hz, List.length_cons, List.length_nil]; decide) ?_
 clear st
 intro u1 st m1 z1
 simp only [List.set_cons_zero] at st
 refine hK _ _ (trivial) ?_; clear hK; simp only [kP, kA, kS, kZ]
 refine lex_done (by decide +kernel) ?_
 go_wp2_with fail
 rw [rounds_succ]
 go_upto_region 5 with fail
 have hI : True := trivial
 refine lex_region (by kernel_rfl) 11 rfl (fun _ => True) ?_
 refine lexS 0 rfl hI ?_; simp only [kP, kA, kS, kZ]
 refine lexS 1 rfl hI ?_; simp only [kP, kA, kS, kZ]
 refine lexS 2 rfl hI ?_; simp only [kP, kA, kS, kZ]
 refine lexS 7 rfl hI ?_; simp only [kP, kA, kS, kZ]
 refine lexS 8 rfl hI ?_; simp only [kP, kA, kS, kZ]
 refine lexO 3 rfl fun K hK => ?_
 refine wp_callee (f := 22) (by first | (go_simp; done) | (go_simp; rfl)) ?_
 refine (kernel_New _ 2 (by decide) (by decide)).mono ?_
 rintro e v2 ⟨k2, rfl, hk2, stk⟩
 refine ⟨_, rfl, ?_⟩
 replace st := st.drew.join stk
 clear stk
 simp only [List.cons_append, List.nil_append] at st
 refine hK _ _ (trivial) ?_; clear hK; simp only [kP, kA, kS, kZ]
 refine lexS 4 rfl hI ?_; simp only [kP, kA, kS, kZ]
 refine lexS 5 rfl hI ?_; simp only [kP, kA, kS, kZ]
 refine lexS 6 rfl hI ?_; simp only [kP, kA, kS, kZ]
 refine lexS 9 rfl hI ?_; simp only [kP, kA, kS, kZ]
 refine lexO 10 rfl fun K hK => ?_
 refine wp_store st 60 _ _ rfl gc (1 + 2) rfl (.pointer (some ⟨k2, 0, none⟩)) rfl [.pointer (some ⟨k2, 0, none⟩)] rfl Try.sizeOf60 (by simp [Value.oneCell']) 0 _ _ rfl (by simp only [putL_length, hz, List.length_cons, List.length_nil]; decide) ?_
 clear st
 intro u2 st m2 z2
 simp only [List.set_cons_zero] at st
 refine hK _ _ (trivial) ?_; clear hK; simp only [kP, kA, kS, kZ]
 refine lex_done (by decide +kernel) ?_
 go_wp2_with fail
 rw [rounds_succ]
 go_upto_region 5 with fail
 have hI : True := trivial
 refine lex_region (by kernel_rfl) 11 rfl (fun _ => True) ?_
 refine lexS 0 rfl hI ?_; simp only [kP, kA, kS, kZ]
 refine lexS 1 rfl hI ?_; simp only [kP, kA, kS, kZ]
 refine lexS 2 rfl hI ?_; simp only [kP, kA, kS, kZ]
 refine lexS 7 rfl hI ?_; simp only [kP, kA, kS, kZ]
 refine lexS 8 rfl hI ?_; simp only [kP, kA, kS, kZ]
 refine lexO 3 rfl fun K hK => ?_
 refine wp_callee (f := 22) (by first | (go_simp; done) | (go_simp; rfl)) ?_
 refine (kernel_New _ 3 (by decide) (by decide)).mono ?_
 rintro e v3 ⟨k3, rfl, hk3, stk⟩
 refine ⟨_, rfl, ?_⟩
 replace st := st.drew.join stk
 clear stk
 simp only [List.cons_append, List.nil_append] at st
 refine hK _ _ (trivial) ?_; clear hK; simp only [kP, kA, kS, kZ]
 refine lexS 4 rfl hI ?_; simp only [kP, kA, kS, kZ]
 refine lexS 5 rfl hI ?_; simp only [kP, kA, kS, kZ]
 refine lexS 6 rfl hI ?_; simp only [kP, kA, kS, kZ]
 refine lexS 9 rfl hI ?_; simp only [kP, kA, kS, kZ]
 refine lexO 10 rfl fun K hK => ?_
 refine wp_store st 60 _ _ rfl gc (1 + 3) rfl (.pointer (some ⟨k3, 0, none⟩)) rfl [.pointer (some ⟨k3, 0, none⟩)] rfl Try.sizeOf60 (by simp [Value.oneCell']) 0 _ _ rfl (by simp only [putL_length, hz, List.length_cons, List.length_nil]; decide) ?_
 clear st
 intro u3 st m3 z3
 simp only [List.set_cons_zero] at st
 refine hK _ _ (trivial) ?_; clear hK; simp only [kP, kA, kS, kZ]
 refine lex_done (by decide +kernel) ?_
 go_wp2_with fail
 rw [rounds_succ]
 go_wp2_with fail
 go_ret
 refine ⟨gc, _, rfl, Clus.new st (List.mem_of_getElem? (i := 0) rfl) (List.mem_of_getElem? (i := 1) rfl) (List.mem_of_getElem? (i := 2) rfl) (List.mem_of_getElem? (i := 3) rfl) (List.mem_of_getElem? (i := 4) rfl) ?_ (by rw [← hL0])⟩
 have := st.ne
 simp only [List.pairwise_cons, List.mem_cons, List.not_mem_nil, or_false, forall_eq_or_imp, forall_eq] at this
 simp [this]
theorem Clus.noX {w0 Wd W : World} {M0 : List Nat} {own : Blks} {X D : Nat → Prop} {gc : Nat} {kg : List Nat} {C : Clu} (h : Clus w0 M0 own X Wd D gc kg C W) : Clus w0 M0 own (fun _ => False) Wd D gc kg C W := by
 obtain ⟨st, hok, hD, hDo, hX, ok, BB, na, nc, L, hA, hB, hO⟩ := h
 exact ⟨st, hok, hD, hDo, fun _ h => h.elim, ok, BB, na, nc, L, hA, hB, fun b hb => ⟨(hO b hb).1, (hO b hb).2.1, fun h => h⟩⟩
theorem cluster_New (w : World) : Calls Try.prog 15 #[] w fun e w' => ∃ gc kg, e = .returned (.pointer (some ⟨gc, 0, none⟩)) ∧ Clus w [] [] (fun _ => False) w (fun _ => True) gc kg newC w' :=
 (cluster_NewX w).mono fun _ _ ⟨gc, kg, he, h⟩ => ⟨gc, kg, he, h.noX⟩
open Go.RowKit
theorem rep_ext {a b : Rep} : a = b ↔ a.code = b.code ∧ a.n = b.n ∧ a.text = b.text := by
 obtain ⟨x, y, z⟩ := a
 obtain ⟨x', y', z'⟩ := b
 simp
theorem eqin_Reply (d : Nat) (a b : Rep) (W : World) : (Op.equalIn (d + 2) 41 (RepV a) (RepV b)).run Try.prog W = .ok (decide (a = b)) W := by
 have h1 : Try.prog.underlying 41 = some (.struct (Try.prog.fieldsOf 41)) := by kernel_rfl
 have h2 : Try.prog.stoodInHeld 41 = false := by kernel_rfl
 have hU := Try.underlying41
 have hz : ∀ W, (sizeOf 3).run Try.prog W = .ok 1 W := Try.sizeOf3
 have ha : ∀ W, (isAgg 3).run Try.prog W = .ok false W := Try.isAgg3
 have hz2 : ∀ W, (sizeOf 39).run Try.prog W = .ok 1 W := Try.sizeOf39
 have ha2 : ∀ W, (isAgg 39).run Try.prog W = .ok false W := Try.isAgg39
 have hz3 : ∀ W, (sizeOf 9).run Try.prog W = .ok 1 W := Try.sizeOf9
 have ha3 : ∀ W, (isAgg 9).run Try.prog W = .ok false W := Try.isAgg9
 have e : ∀ d a b W, (Op.equalIn (d + 1) 3 (.int .i64 a) (.int .i64 b)).run Try.prog W = .ok (a == b) W := fun d a b W => run_equalIn_int W d _ _ _ a b Try.underlying3
 have e2 : ∀ d a b W, (Op.equalIn (d + 1) 39 (.int .i64 a) (.int .i64 b)).run Try.prog W = .ok (a == b) W := fun d a b W => run_equalIn_int W d _ _ _ a b Try.underlying39
 have e3 : ∀ d a b W, (Op.equalIn (d + 1) 9 (.string a) (.string b)).run Try.prog W = .ok (a.toList == b.toList) W := fun d a b W => run_equalIn_string W d _ a b Try.underlying9
 unfold RepV
 rw [run_equalIn_agg W (d + 1) _ _ _ h1 h2]
 have hx := rep_ext (a := a) (b := b)
 obtain ⟨x, y, z⟩ := a
 obtain ⟨x', y', z'⟩ := b
 simp [Program.fieldsOf, hU, Op.eqFields, part, ha, hz, ha2, hz2, ha3, hz3, e _ _ _ W, e2 _ _ _ W, e3 _ _ _ W, Result.andThen]
 by_cases q3 : z = z'
 ·subst q3
  by_cases q1 : x = x' <;> by_cases q2 : y = y' <;> simp [q1, q2]
 ·have q4 : ¬ z.toList = z'.toList := by
   intro h
   rw [ByteArray.toList_eq, ByteArray.toList_eq] at h
   exact q3 (ByteArray.ext (Array.toList_inj.1 h))
  by_cases q1 : x = x' <;> by_cases q2 : y = y' <;> simp [q1, q2, q3, q4]
theorem neq_Reply (a b : Rep) (r : Bool) (h : decide (a = b) = r) (W : World) : (binOp .neq 41 (RepV a) (RepV b)).run Try.prog W = .ok (.bool (!r)) W := by
 unfold RepV
 rw [run_neq_struct]
 have := eqin_Reply 9998 a b W
 unfold RepV at this
 rw [this, h]
 rfl
theorem guard_Reply (op : BinOp) (x y : Operand) (xs ys : Array Value) (W : World) : (eqGuard op 41 x y (.agg xs) (.agg ys)).run Try.prog W = .ok () W := run_eqGuard_agg W op _ x y xs ys (by kernel_rfl)
end Go.Proofs.Ytflfjpopfapogaa
