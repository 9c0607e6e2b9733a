/- Walks and plain laws that the claim rests on, part 15. -/
import Derived.Test.YtnkfemjmfalamaaP14
import Derived.Test.YtnkfemjmfalamaaP6
import Derived.Test.YtnkfemjmfalamaaP5
set_option linter.unusedSimpArgs false
set_option linter.unusedVariables false
/- The kernel's Call: a level turned. (printed by gen_call2.py) -/
namespace Go.Proofs.Ytnkfemjmfalamaa
open Go.RowKit

section
variable (ok okc : Nat → Prop) (w : World) (g : Nat) (k : Ker) (css : List (List Value)) (Bs : List (List Nat)) (n : Nat) (c : Req) (la : Option Addr) (lc : Nat) (ga : Option Addr) (gc : Nat)

theorem setR_len (l : List Lev) (c n : Int) : (setR l c n).1.length ≤ 8 := by
  rcases setR_cases l c n with ⟨k, h, _⟩ | ⟨h, _, _, _, h8⟩ <;> rw [h]
  · simp
  · exact h8

set_option maxRecDepth 100000 in
set_option maxHeartbeats 4000000 in
theorem kernel_Call_level_no (h : KerAt ok w g k css Bs) (hk : ∀ x ∈ k.threads, x.ok) (hn : n < 4) (hx64 : ¬ 64 < c.text.size) (hkd : c.kind = 5) (he : (setR (k.thr n).label c.c c.n).2 ≠ 0) :
    Calls Try.prog 10 #[.pointer (some ⟨g, 0, none⟩), .int .i64 n, reqV c la lc ga gc] w (CallPost ok w g Bs (callK k n c)) := by
  obtain ⟨x, xa, xc, oa, oc, ba, bc, ma, mc, ex, ec, eB, hT, hb⟩ := h.open hn
  have hx := hk x (List.mem_of_getElem? ex)
  have hpre := h.preLen hn
  have hth := Ker.thr_at ex
  have st0 := St.hand hb
  unfold thrC at st0
  have d1 : decide ((n : Int) < 0) = false := by simp
  have d2 : decide ((4 : Int) ≤ n) = false := by simp; omega
  have d64 := text_size hx64
  have hgg : ¬ ok g := h.apart g (by simp)
  have HKp := Lib.hid (show ∀ (W : World) (bl : Blks), St [g] w W bl → Keeps ok w W from fun W bl s => s.keeps (by simpa using hgg))
  have HB := Lib.hid (show ∀ (W : World) (bl : Blks), St [g] w W bl → (g, 60, winC (preC k css n) [.slice xa x.label.length xc, .slice oa x.own.length oc, .string x.text, .slice ba x.objects.length bc, .slice ma x.mails.length mc] (postC k css n)) ∈ bl → Below w.heap.size w W from fun W bl s hm => st0.below2 s (by simpa using hm))
  have hxl := goodL_len hx.good; have hxo := hx.ownL; have hxm := hx.mailN; have hxb := hx.objs; have hxt := hx.text
  have st := st0
  clear st0
  unfold reqV
  have hlen := setR_len x.label c.c c.n
  have HS := Lib.hid (fun (W : World) (bl : Blks) (hW : St [g] w W bl) => label_Set ok W xa xc x.label c.c c.n (by omega) (hT.label.keep (HKp.out W _ hW)))
  have hgw := h.lt g (by simp)
  have HE := Lib.hid (show callK k (n : Int) c = (k, errR (setR x.label c.c c.n).2) by unfold callK; rw [hth] at he; simp [hkd, hth, he])
  rw [hth] at he
  have hq : ((setR x.label c.c c.n).2 != 0) = true := by simpa using he
  clear he
  generalize setR x.label c.c c.n = r at *
  rw [hkd]
  clear hkd
  go_enter Try.func10, Try.ntmps10
  go_wp2_with (first | go_skip | (with_reducible refine at_box 27 ?_; refine mem_box st (wanted_none rfl) 27 _ rfl _ rfl _ rfl ?_; clear st; intro g5 w5 hg5 st hg5b; clear hg5b; simp [Act.eval, Act.put, Value.cells, putL] at st) | (with_reducible refine at_alloc 39 ?_; refine mem_alloc st (wanted_none rfl) 39 rfl _ Try.zeroValue39 _ rfl ?_; clear st; intro g6 w6 hg6 st hg6b; clear hg6b; simp [Act.eval, Act.put, Value.cells, putL] at st) | (with_reducible refine at_load 9 ?_; (first | refine mem_load' st 9 _ rfl (wanted_none rfl) Try.isAgg9 ?_ | (refine mem_load' st 9 _ rfl (wanted_some rfl ?_) Try.isAgg9 ?_; focus (simp [yielded, Act.put]; done))); refine ⟨1, _, _, _, _, _, rfl, rfl, rfl, ?_⟩) | (with_reducible refine at_load 3 ?_; (first | refine mem_load' st 3 _ rfl (wanted_none rfl) Try.isAgg3 ?_ | (refine mem_load' st 3 _ rfl (wanted_some rfl ?_) Try.isAgg3 ?_; focus (simp [yielded, Act.put]; done))); refine ⟨1, _, _, _, _, _, rfl, rfl, rfl, ?_⟩) | (go_at_call 21; go_must (refine (call_no _ _).mono ?_; rintro e vn ⟨rfl, hbn⟩; replace st := st.call hbn; clear hbn)) | (with_reducible refine at_store 39 ?_; (first | refine mem_store' st 39 _ _ rfl (wanted_none rfl) _ Try.sizeOf39 ?_ | (refine mem_store' st 39 _ _ rfl (wanted_some rfl ?_) _ Try.sizeOf39 ?_; focus (simp [yielded, Act.put]; done))); refine ⟨2, _, _, _, _, _, rfl, rfl, rfl, rfl, rfl, rfl, ?_⟩; clear st; intro w7 st hw7m hw7z; simp [Act.eval, Act.put, Value.cells, putL] at st))
  have st := st.drew
  have hI := st
  refine lex_region (by kernel_rfl) 14 rfl (fun W => St [g] w W [(g, 60, winC (preC k css n) [.slice xa x.label.length xc, .slice oa x.own.length oc, .string x.text, .slice ba x.objects.length bc, .slice ma x.mails.length mc] (postC k css n)), (g5, 27, [.int .i64 5, .int .i64 c.h, .int .i64 c.t, .int .i64 c.n, .int .i64 c.c, .slice la c.label.length lc, .slice ga c.grants.length gc, .string c.text]), (g6, 39, [.int .i64 0, .int .i64 0, .string ⟨#[]⟩])]) ?_
  refine lex_take 0 rfl (by decide +kernel) (by first | exact wanted_none rfl | exact wanted_some rfl rfl) hI (fun W hW => by first | (go_simp; done) | (go_simp; rfl)) ?_; simp only [Act.put, List.setIfInBounds_toArray, List.set_cons_succ, List.set_cons_zero]
  refine lex_take 1 rfl (by decide +kernel) (by first | exact wanted_none rfl | exact wanted_some rfl rfl) hI (fun W hW => by first | (go_simp; done) | (go_simp; rfl)) ?_; simp only [Act.put, List.setIfInBounds_toArray, List.set_cons_succ, List.set_cons_zero]
  refine lex_take 2 rfl (by decide +kernel) (by first | exact wanted_none rfl | exact wanted_some rfl rfl) hI (fun W hW => by first | (go_simp; done) | (go_simp; rfl)) ?_; simp only [Act.put, List.setIfInBounds_toArray, List.set_cons_succ, List.set_cons_zero]
  refine lex_take 3 rfl (by decide +kernel) (by first | exact wanted_none rfl | exact wanted_some rfl rfl) hI (fun W hW => St.run_loadW hW 0 24 _ rfl Try.isAgg24 0 hpre rfl rfl rfl) ?_; simp only [Act.put, List.setIfInBounds_toArray, List.set_cons_succ, List.set_cons_zero]
  refine lex_take 4 rfl (by decide +kernel) (by first | exact wanted_none rfl | exact wanted_some rfl rfl) hI (fun W hW => by first | (go_simp; done) | (go_simp; rfl)) ?_; simp only [Act.put, List.setIfInBounds_toArray, List.set_cons_succ, List.set_cons_zero]
  refine lex_take 5 rfl (by decide +kernel) (by first | exact wanted_none rfl | exact wanted_some rfl rfl) hI (fun W hW => St.run_load hW 1 3 _ rfl Try.isAgg3 rfl rfl rfl) ?_; simp only [Act.put, List.setIfInBounds_toArray, List.set_cons_succ, List.set_cons_zero]
  refine lex_take 6 rfl (by decide +kernel) (by first | exact wanted_none rfl | exact wanted_some rfl rfl) hI (fun W hW => by first | (go_simp; done) | (go_simp; rfl)) ?_; simp only [Act.put, List.setIfInBounds_toArray, List.set_cons_succ, List.set_cons_zero]
  refine lex_take 7 rfl (by decide +kernel) (by first | exact wanted_none rfl | exact wanted_some rfl rfl) hI (fun W hW => St.run_load hW 1 3 _ rfl Try.isAgg3 rfl rfl rfl) ?_; simp only [Act.put, List.setIfInBounds_toArray, List.set_cons_succ, List.set_cons_zero]
  clear hI
  refine lex_only 8 rfl (by decide +kernel) (by first | exact wanted_none rfl | exact wanted_some rfl rfl) fun K hK => ?_
  refine wp_callee (f := 26) (by first | (go_simp; done) | (go_simp; rfl)) ?_
  refine (HS.out _ _ st).mono ?_
  rintro e v1 ⟨a1, k1, rfl, hb1, hO⟩
  have hl5 := st.ltAt (i := 1) rfl
  have hl6 := st.ltAt (i := 2) rfl
  have hbs := st.size
  have hbz := hb1.size
  refine ⟨_, rfl, ?_⟩
  replace st := st.call hb1
  clear hb1
  refine hK _ _ (st) ?_; clear hK; simp only [Act.put, List.setIfInBounds_toArray, List.set_cons_succ, List.set_cons_zero]
  have hI := st
  refine lex_take 9 rfl (by decide +kernel) (by first | exact wanted_none rfl | exact wanted_some rfl rfl) hI (fun W hW => by first | (go_simp; done) | (go_simp; rfl)) ?_; simp only [Act.put, List.setIfInBounds_toArray, List.set_cons_succ, List.set_cons_zero]
  refine lex_take 10 rfl (by decide +kernel) (by first | exact wanted_none rfl | exact wanted_some rfl rfl) hI (fun W hW => by first | (go_simp; done) | (go_simp; rfl)) ?_; simp only [Act.put, List.setIfInBounds_toArray, List.set_cons_succ, List.set_cons_zero]
  refine lex_take 11 rfl (by decide +kernel) (by first | exact wanted_none rfl | exact wanted_some rfl rfl) hI (fun W hW => by first | (go_simp; done) | (go_simp; rfl)) ?_; simp only [Act.put, List.setIfInBounds_toArray, List.set_cons_succ, List.set_cons_zero]
  refine lex_take 12 rfl (by decide +kernel) (by first | exact wanted_none rfl | exact wanted_some rfl rfl) hI (fun W hW => by first | (go_simp; done) | (go_simp; rfl)) ?_; simp only [Act.put, List.setIfInBounds_toArray, List.set_cons_succ, List.set_cons_zero]
  refine lex_take 13 rfl (by decide +kernel) (by first | exact wanted_none rfl | exact wanted_some rfl rfl) hI (fun W hW => by first | (go_simp; done) | (go_simp; rfl)) ?_; simp only [Act.put, List.setIfInBounds_toArray, List.set_cons_succ, List.set_cons_zero]
  clear hI
  refine lex_done (by decide +kernel) ?_
  go_wp2_with (first | go_skip | (go_at_call 21; go_must (refine (call_no _ _).mono ?_; rintro e vn ⟨rfl, hbn⟩; replace st := st.call hbn; clear hbn)) | (with_reducible refine at_store 39 ?_; (first | refine mem_store' st 39 _ _ rfl (wanted_none rfl) _ Try.sizeOf39 ?_ | (refine mem_store' st 39 _ _ rfl (wanted_some rfl ?_) _ Try.sizeOf39 ?_; focus (simp [yielded, Act.put]; done))); refine ⟨2, _, _, _, _, _, rfl, rfl, rfl, rfl, rfl, rfl, ?_⟩; clear st; intro w7 st hw7m hw7z; simp [Act.eval, Act.put, Value.cells, putL] at st))
  have hc := fun j => st.cell (i := 2) rfl j
  refine bodyPost_ret (v := RepV (errR r.2)) ?hr rfl ?_
  case hr => simp [results, Try.results10, go_sem, hc, RepV, errR]; try rfl
  rw [HE.out]
  exact ⟨rfl, KerTo.none h (HB.out _ _ st (by simp))⟩

set_option maxRecDepth 100000 in
set_option maxHeartbeats 4000000 in
theorem kernel_Call_level_low (h : KerAt ok w g k css Bs) (hk : ∀ x ∈ k.threads, x.ok) (hn : n < 4) (hx64 : ¬ 64 < c.text.size) (hkd : c.kind = 5) (he : (setR (k.thr n).label c.c c.n).2 = 0) (hf : flowsL (k.thr n).label (setR (k.thr n).label c.c c.n).1 (k.thr n).own = false) :
    Calls Try.prog 10 #[.pointer (some ⟨g, 0, none⟩), .int .i64 n, reqV c la lc ga gc] w (CallPost ok w g Bs (callK k n c)) := by
  obtain ⟨x, xa, xc, oa, oc, ba, bc, ma, mc, ex, ec, eB, hT, hb⟩ := h.open hn
  have hx := hk x (List.mem_of_getElem? ex)
  have hpre := h.preLen hn
  have hth := Ker.thr_at ex
  have st0 := St.hand hb
  unfold thrC at st0
  have d1 : decide ((n : Int) < 0) = false := by simp
  have d2 : decide ((4 : Int) ≤ n) = false := by simp; omega
  have d64 := text_size hx64
  have hgg : ¬ ok g := h.apart g (by simp)
  have HKp := Lib.hid (show ∀ (W : World) (bl : Blks), St [g] w W bl → Keeps ok w W from fun W bl s => s.keeps (by simpa using hgg))
  have HB := Lib.hid (show ∀ (W : World) (bl : Blks), St [g] w W bl → (g, 60, winC (preC k css n) [.slice xa x.label.length xc, .slice oa x.own.length oc, .string x.text, .slice ba x.objects.length bc, .slice ma x.mails.length mc] (postC k css n)) ∈ bl → Below w.heap.size w W from fun W bl s hm => st0.below2 s (by simpa using hm))
  have hxl := goodL_len hx.good; have hxo := hx.ownL; have hxm := hx.mailN; have hxb := hx.objs; have hxt := hx.text
  have st := st0
  clear st0
  unfold reqV
  have hlen := setR_len x.label c.c c.n
  have HS := Lib.hid (fun (W : World) (bl : Blks) (hW : St [g] w W bl) => label_Set ok W xa xc x.label c.c c.n (by omega) (hT.label.keep (HKp.out W _ hW)))
  have hgw := h.lt g (by simp)
  rw [hth] at he hf
  have HE := Lib.hid (show callK k (n : Int) c = (k, errR 6) by unfold callK; simp [hkd, hth, he, hf])
  have HL := Lib.hid hf
  have hq : ((setR x.label c.c c.n).2 != 0) = false := by simpa using he
  clear he hf
  generalize setR x.label c.c c.n = r at *
  rw [hkd]
  clear hkd
  go_enter Try.func10, Try.ntmps10
  go_wp2_with (first | go_skip | (with_reducible refine at_box 27 ?_; refine mem_box st (wanted_none rfl) 27 _ rfl _ rfl _ rfl ?_; clear st; intro g5 w5 hg5 st hg5b; clear hg5b; simp [Act.eval, Act.put, Value.cells, putL] at st) | (with_reducible refine at_alloc 39 ?_; refine mem_alloc st (wanted_none rfl) 39 rfl _ Try.zeroValue39 _ rfl ?_; clear st; intro g6 w6 hg6 st hg6b; clear hg6b; simp [Act.eval, Act.put, Value.cells, putL] at st) | (with_reducible refine at_load 9 ?_; (first | refine mem_load' st 9 _ rfl (wanted_none rfl) Try.isAgg9 ?_ | (refine mem_load' st 9 _ rfl (wanted_some rfl ?_) Try.isAgg9 ?_; focus (simp [yielded, Act.put]; done))); refine ⟨1, _, _, _, _, _, rfl, rfl, rfl, ?_⟩) | (with_reducible refine at_load 3 ?_; (first | refine mem_load' st 3 _ rfl (wanted_none rfl) Try.isAgg3 ?_ | (refine mem_load' st 3 _ rfl (wanted_some rfl ?_) Try.isAgg3 ?_; focus (simp [yielded, Act.put]; done))); refine ⟨1, _, _, _, _, _, rfl, rfl, rfl, ?_⟩) | (go_at_call 21; go_must (refine (call_no _ _).mono ?_; rintro e vn ⟨rfl, hbn⟩; replace st := st.call hbn; clear hbn)) | (with_reducible refine at_store 39 ?_; (first | refine mem_store' st 39 _ _ rfl (wanted_none rfl) _ Try.sizeOf39 ?_ | (refine mem_store' st 39 _ _ rfl (wanted_some rfl ?_) _ Try.sizeOf39 ?_; focus (simp [yielded, Act.put]; done))); refine ⟨2, _, _, _, _, _, rfl, rfl, rfl, rfl, rfl, rfl, ?_⟩; clear st; intro w7 st hw7m hw7z; simp [Act.eval, Act.put, Value.cells, putL] at st))
  have st := st.drew
  have hI := st
  refine lex_region (by kernel_rfl) 14 rfl (fun W => St [g] w W [(g, 60, winC (preC k css n) [.slice xa x.label.length xc, .slice oa x.own.length oc, .string x.text, .slice ba x.objects.length bc, .slice ma x.mails.length mc] (postC k css n)), (g5, 27, [.int .i64 5, .int .i64 c.h, .int .i64 c.t, .int .i64 c.n, .int .i64 c.c, .slice la c.label.length lc, .slice ga c.grants.length gc, .string c.text]), (g6, 39, [.int .i64 0, .int .i64 0, .string ⟨#[]⟩])]) ?_
  refine lex_take 0 rfl (by decide +kernel) (by first | exact wanted_none rfl | exact wanted_some rfl rfl) hI (fun W hW => by first | (go_simp; done) | (go_simp; rfl)) ?_; simp only [Act.put, List.setIfInBounds_toArray, List.set_cons_succ, List.set_cons_zero]
  refine lex_take 1 rfl (by decide +kernel) (by first | exact wanted_none rfl | exact wanted_some rfl rfl) hI (fun W hW => by first | (go_simp; done) | (go_simp; rfl)) ?_; simp only [Act.put, List.setIfInBounds_toArray, List.set_cons_succ, List.set_cons_zero]
  refine lex_take 2 rfl (by decide +kernel) (by first | exact wanted_none rfl | exact wanted_some rfl rfl) hI (fun W hW => by first | (go_simp; done) | (go_simp; rfl)) ?_; simp only [Act.put, List.setIfInBounds_toArray, List.set_cons_succ, List.set_cons_zero]
  refine lex_take 3 rfl (by decide +kernel) (by first | exact wanted_none rfl | exact wanted_some rfl rfl) hI (fun W hW => St.run_loadW hW 0 24 _ rfl Try.isAgg24 0 hpre rfl rfl rfl) ?_; simp only [Act.put, List.setIfInBounds_toArray, List.set_cons_succ, List.set_cons_zero]
  refine lex_take 4 rfl (by decide +kernel) (by first | exact wanted_none rfl | exact wanted_some rfl rfl) hI (fun W hW => by first | (go_simp; done) | (go_simp; rfl)) ?_; simp only [Act.put, List.setIfInBounds_toArray, List.set_cons_succ, List.set_cons_zero]
  refine lex_take 5 rfl (by decide +kernel) (by first | exact wanted_none rfl | exact wanted_some rfl rfl) hI (fun W hW => St.run_load hW 1 3 _ rfl Try.isAgg3 rfl rfl rfl) ?_; simp only [Act.put, List.setIfInBounds_toArray, List.set_cons_succ, List.set_cons_zero]
  refine lex_take 6 rfl (by decide +kernel) (by first | exact wanted_none rfl | exact wanted_some rfl rfl) hI (fun W hW => by first | (go_simp; done) | (go_simp; rfl)) ?_; simp only [Act.put, List.setIfInBounds_toArray, List.set_cons_succ, List.set_cons_zero]
  refine lex_take 7 rfl (by decide +kernel) (by first | exact wanted_none rfl | exact wanted_some rfl rfl) hI (fun W hW => St.run_load hW 1 3 _ rfl Try.isAgg3 rfl rfl rfl) ?_; simp only [Act.put, List.setIfInBounds_toArray, List.set_cons_succ, List.set_cons_zero]
  clear hI
  refine lex_only 8 rfl (by decide +kernel) (by first | exact wanted_none rfl | exact wanted_some rfl rfl) fun K hK => ?_
  refine wp_callee (f := 26) (by first | (go_simp; done) | (go_simp; rfl)) ?_
  refine (HS.out _ _ st).mono ?_
  rintro e v1 ⟨a1, k1, rfl, hb1, hO⟩
  have hl5 := st.ltAt (i := 1) rfl
  have hl6 := st.ltAt (i := 2) rfl
  have hbs := st.size
  have hbz := hb1.size
  refine ⟨_, rfl, ?_⟩
  replace st := st.call hb1
  clear hb1
  refine hK _ _ (st) ?_; clear hK; simp only [Act.put, List.setIfInBounds_toArray, List.set_cons_succ, List.set_cons_zero]
  have hI := st
  refine lex_take 9 rfl (by decide +kernel) (by first | exact wanted_none rfl | exact wanted_some rfl rfl) hI (fun W hW => by first | (go_simp; done) | (go_simp; rfl)) ?_; simp only [Act.put, List.setIfInBounds_toArray, List.set_cons_succ, List.set_cons_zero]
  refine lex_take 10 rfl (by decide +kernel) (by first | exact wanted_none rfl | exact wanted_some rfl rfl) hI (fun W hW => by first | (go_simp; done) | (go_simp; rfl)) ?_; simp only [Act.put, List.setIfInBounds_toArray, List.set_cons_succ, List.set_cons_zero]
  refine lex_take 11 rfl (by decide +kernel) (by first | exact wanted_none rfl | exact wanted_some rfl rfl) hI (fun W hW => by first | (go_simp; done) | (go_simp; rfl)) ?_; simp only [Act.put, List.setIfInBounds_toArray, List.set_cons_succ, List.set_cons_zero]
  refine lex_take 12 rfl (by decide +kernel) (by first | exact wanted_none rfl | exact wanted_some rfl rfl) hI (fun W hW => by first | (go_simp; done) | (go_simp; rfl)) ?_; simp only [Act.put, List.setIfInBounds_toArray, List.set_cons_succ, List.set_cons_zero]
  refine lex_take 13 rfl (by decide +kernel) (by first | exact wanted_none rfl | exact wanted_some rfl rfl) hI (fun W hW => by first | (go_simp; done) | (go_simp; rfl)) ?_; simp only [Act.put, List.setIfInBounds_toArray, List.set_cons_succ, List.set_cons_zero]
  clear hI
  refine lex_done (by decide +kernel) ?_
  have str := st.rebase
  have HF := Lib.hid (fun (W : World) (hB : Below v1.heap.size v1 W) => label_Flows (fun _ => True) W xa a1 oa xc k1 oc x.label r.1 x.own (by omega) (by omega) (((hT.label.keep (HKp.out _ _ st)).below hB).okay fun _ _ => trivial) ((hO.slr (ok := fun _ => True) fun _ _ => trivial).below hB) (((hT.own.keep (HKp.out _ _ st)).below hB).okay fun _ _ => trivial))
  rw [HL.out] at HF
  go_wp2_with (first | go_skip | fail)
  refine det_region (by kernel_rfl) 11 rfl (fun W => St [g, g5, g6] v1 W [(g, 60, winC (preC k css n) [.slice xa x.label.length xc, .slice oa x.own.length oc, .string x.text, .slice ba x.objects.length bc, .slice ma x.mails.length mc] (postC k css n)), (g5, 27, [.int .i64 5, .int .i64 c.h, .int .i64 c.t, .int .i64 c.n, .int .i64 c.c, .slice la c.label.length lc, .slice ga c.grants.length gc, .string c.text]), (g6, 39, [.int .i64 0, .int .i64 0, .string ⟨#[]⟩])]) (str.drew) (by decide +kernel) ?_
  refine det_take 0 rfl (by decide +kernel) (by first | exact wanted_none rfl | exact wanted_some rfl rfl) (fun W hW => by first | (go_simp; done) | (go_simp; rfl)) ?_; simp only [Act.put, List.setIfInBounds_toArray, List.set_cons_succ, List.set_cons_zero]; refine det_take 1 rfl (by decide +kernel) (by first | exact wanted_none rfl | exact wanted_some rfl rfl) (fun W hW => by first | (go_simp; done) | (go_simp; rfl)) ?_; simp only [Act.put, List.setIfInBounds_toArray, List.set_cons_succ, List.set_cons_zero]; refine det_take 2 rfl (by decide +kernel) (by first | exact wanted_none rfl | exact wanted_some rfl rfl) (fun W hW => by first | (go_simp; done) | (go_simp; rfl)) ?_; simp only [Act.put, List.setIfInBounds_toArray, List.set_cons_succ, List.set_cons_zero]
  refine det_take 3 rfl (by decide +kernel) (by first | exact wanted_none rfl | exact wanted_some rfl rfl) (fun W hW => St.run_loadW hW 0 24 _ rfl Try.isAgg24 0 hpre rfl rfl rfl) ?_; simp only [Act.put, List.setIfInBounds_toArray, List.set_cons_succ, List.set_cons_zero]
  refine det_take 4 rfl (by decide +kernel) (by first | exact wanted_none rfl | exact wanted_some rfl rfl) (fun W hW => by first | (go_simp; done) | (go_simp; rfl)) ?_; simp only [Act.put, List.setIfInBounds_toArray, List.set_cons_succ, List.set_cons_zero]; refine det_take 5 rfl (by decide +kernel) (by first | exact wanted_none rfl | exact wanted_some rfl rfl) (fun W hW => by first | (go_simp; done) | (go_simp; rfl)) ?_; simp only [Act.put, List.setIfInBounds_toArray, List.set_cons_succ, List.set_cons_zero]; refine det_take 6 rfl (by decide +kernel) (by first | exact wanted_none rfl | exact wanted_some rfl rfl) (fun W hW => by first | (go_simp; done) | (go_simp; rfl)) ?_; simp only [Act.put, List.setIfInBounds_toArray, List.set_cons_succ, List.set_cons_zero]; refine det_take 7 rfl (by decide +kernel) (by first | exact wanted_none rfl | exact wanted_some rfl rfl) (fun W hW => by first | (go_simp; done) | (go_simp; rfl)) ?_; simp only [Act.put, List.setIfInBounds_toArray, List.set_cons_succ, List.set_cons_zero]
  refine det_take 8 rfl (by decide +kernel) (by first | exact wanted_none rfl | exact wanted_some rfl rfl) (fun W hW => St.run_loadW hW 0 25 _ rfl Try.isAgg25 1 hpre rfl rfl rfl) ?_; simp only [Act.put, List.setIfInBounds_toArray, List.set_cons_succ, List.set_cons_zero]
  refine det_call (fn := 15) 9 rfl (by decide +kernel) (by first | exact wanted_none rfl | exact wanted_some rfl rfl) (fun W => by first | (go_simp; done) | (go_simp; rfl)) (fun W hW => (HF.out W (str.below2 hW (by simp))).mono fun e w' h => ⟨h.1, hW.call h.2⟩) ?_; simp only [Act.put, List.setIfInBounds_toArray, List.set_cons_succ, List.set_cons_zero]
  refine det_take 10 rfl (by decide +kernel) (by first | exact wanted_none rfl | exact wanted_some rfl rfl) (fun W hW => by first | (go_simp; done) | (go_simp; rfl)) ?_; simp only [Act.put, List.setIfInBounds_toArray, List.set_cons_succ, List.set_cons_zero]
  refine det_done (by decide +kernel) ?_
  intro W st2
  have hB2 := str.below2 st2 (by simp)
  replace st := st.call hB2
  replace hO := hO.below hB2
  have hb2z := hB2.size
  clear str st2 hB2
  go_wp2_with (first | go_skip | (go_at_call 21; go_must (refine (call_no _ _).mono ?_; rintro e vn ⟨rfl, hbn⟩; replace st := st.call hbn; clear hbn)) | (with_reducible refine at_store 39 ?_; (first | refine mem_store' st 39 _ _ rfl (wanted_none rfl) _ Try.sizeOf39 ?_ | (refine mem_store' st 39 _ _ rfl (wanted_some rfl ?_) _ Try.sizeOf39 ?_; focus (simp [yielded, Act.put]; done))); refine ⟨2, _, _, _, _, _, rfl, rfl, rfl, rfl, rfl, rfl, ?_⟩; clear st; intro w7 st hw7m hw7z; simp [Act.eval, Act.put, Value.cells, putL] at st))
  have hc := fun j => st.cell (i := 2) rfl j
  refine bodyPost_ret (v := RepV (errR 6)) ?hr rfl ?_
  case hr => simp [results, Try.results10, go_sem, hc, RepV, errR]; try rfl
  rw [HE.out]
  exact ⟨rfl, KerTo.none h (HB.out _ _ st (by simp))⟩

set_option maxRecDepth 100000 in
set_option maxHeartbeats 4000000 in
theorem kernel_Call_level_yes (h : KerAt ok w g k css Bs) (hk : ∀ x ∈ k.threads, x.ok) (hn : n < 4) (hx64 : ¬ 64 < c.text.size) (hkd : c.kind = 5) (he : (setR (k.thr n).label c.c c.n).2 = 0) (hf : flowsL (k.thr n).label (setR (k.thr n).label c.c c.n).1 (k.thr n).own = true) :
    Calls Try.prog 10 #[.pointer (some ⟨g, 0, none⟩), .int .i64 n, reqV c la lc ga gc] w (CallPost ok w g Bs (callK k n c)) := by
  obtain ⟨x, xa, xc, oa, oc, ba, bc, ma, mc, ex, ec, eB, hT, hb⟩ := h.open hn
  have hx := hk x (List.mem_of_getElem? ex)
  have hpre := h.preLen hn
  have hth := Ker.thr_at ex
  have st0 := St.hand hb
  unfold thrC at st0
  have d1 : decide ((n : Int) < 0) = false := by simp
  have d2 : decide ((4 : Int) ≤ n) = false := by simp; omega
  have d64 := text_size hx64
  have hgg : ¬ ok g := h.apart g (by simp)
  have HKp := Lib.hid (show ∀ (W : World) (bl : Blks), St [g] w W bl → Keeps ok w W from fun W bl s => s.keeps (by simpa using hgg))
  have HB := Lib.hid (show ∀ (W : World) (bl : Blks), St [g] w W bl → (g, 60, winC (preC k css n) [.slice xa x.label.length xc, .slice oa x.own.length oc, .string x.text, .slice ba x.objects.length bc, .slice ma x.mails.length mc] (postC k css n)) ∈ bl → Below w.heap.size w W from fun W bl s hm => st0.below2 s (by simpa using hm))
  have hxl := goodL_len hx.good; have hxo := hx.ownL; have hxm := hx.mailN; have hxb := hx.objs; have hxt := hx.text
  have st := st0
  clear st0
  unfold reqV
  have hlen := setR_len x.label c.c c.n
  have HS := Lib.hid (fun (W : World) (bl : Blks) (hW : St [g] w W bl) => label_Set ok W xa xc x.label c.c c.n (by omega) (hT.label.keep (HKp.out W _ hW)))
  have hgw := h.lt g (by simp)
  rw [hth] at he hf
  have HE := Lib.hid (show callK k (n : Int) c = (k.put n { x with label := (setR x.label c.c c.n).1 }, errR 0) by unfold callK; simp [hkd, hth, he, hf])
  have HL := Lib.hid hf
  have hq : ((setR x.label c.c c.n).2 != 0) = false := by simpa using he
  clear he hf
  generalize setR x.label c.c c.n = r at *
  rw [hkd]
  clear hkd
  go_enter Try.func10, Try.ntmps10
  go_wp2_with (first | go_skip | (with_reducible refine at_box 27 ?_; refine mem_box st (wanted_none rfl) 27 _ rfl _ rfl _ rfl ?_; clear st; intro g5 w5 hg5 st hg5b; clear hg5b; simp [Act.eval, Act.put, Value.cells, putL] at st) | (with_reducible refine at_alloc 39 ?_; refine mem_alloc st (wanted_none rfl) 39 rfl _ Try.zeroValue39 _ rfl ?_; clear st; intro g6 w6 hg6 st hg6b; clear hg6b; simp [Act.eval, Act.put, Value.cells, putL] at st) | (with_reducible refine at_load 9 ?_; (first | refine mem_load' st 9 _ rfl (wanted_none rfl) Try.isAgg9 ?_ | (refine mem_load' st 9 _ rfl (wanted_some rfl ?_) Try.isAgg9 ?_; focus (simp [yielded, Act.put]; done))); refine ⟨1, _, _, _, _, _, rfl, rfl, rfl, ?_⟩) | (with_reducible refine at_load 3 ?_; (first | refine mem_load' st 3 _ rfl (wanted_none rfl) Try.isAgg3 ?_ | (refine mem_load' st 3 _ rfl (wanted_some rfl ?_) Try.isAgg3 ?_; focus (simp [yielded, Act.put]; done))); refine ⟨1, _, _, _, _, _, rfl, rfl, rfl, ?_⟩) | (go_at_call 21; go_must (refine (call_no _ _).mono ?_; rintro e vn ⟨rfl, hbn⟩; replace st := st.call hbn; clear hbn)) | (with_reducible refine at_store 39 ?_; (first | refine mem_store' st 39 _ _ rfl (wanted_none rfl) _ Try.sizeOf39 ?_ | (refine mem_store' st 39 _ _ rfl (wanted_some rfl ?_) _ Try.sizeOf39 ?_; focus (simp [yielded, Act.put]; done))); refine ⟨2, _, _, _, _, _, rfl, rfl, rfl, rfl, rfl, rfl, ?_⟩; clear st; intro w7 st hw7m hw7z; simp [Act.eval, Act.put, Value.cells, putL] at st))
  have st := st.drew
  have hI := st
  refine lex_region (by kernel_rfl) 14 rfl (fun W => St [g] w W [(g, 60, winC (preC k css n) [.slice xa x.label.length xc, .slice oa x.own.length oc, .string x.text, .slice ba x.objects.length bc, .slice ma x.mails.length mc] (postC k css n)), (g5, 27, [.int .i64 5, .int .i64 c.h, .int .i64 c.t, .int .i64 c.n, .int .i64 c.c, .slice la c.label.length lc, .slice ga c.grants.length gc, .string c.text]), (g6, 39, [.int .i64 0, .int .i64 0, .string ⟨#[]⟩])]) ?_
  refine lex_take 0 rfl (by decide +kernel) (by first | exact wanted_none rfl | exact wanted_some rfl rfl) hI (fun W hW => by first | (go_simp; done) | (go_simp; rfl)) ?_; simp only [Act.put, List.setIfInBounds_toArray, List.set_cons_succ, List.set_cons_zero]
  refine lex_take 1 rfl (by decide +kernel) (by first | exact wanted_none rfl | exact wanted_some rfl rfl) hI (fun W hW => by first | (go_simp; done) | (go_simp; rfl)) ?_; simp only [Act.put, List.setIfInBounds_toArray, List.set_cons_succ, List.set_cons_zero]
  refine lex_take 2 rfl (by decide +kernel) (by first | exact wanted_none rfl | exact wanted_some rfl rfl) hI (fun W hW => by first | (go_simp; done) | (go_simp; rfl)) ?_; simp only [Act.put, List.setIfInBounds_toArray, List.set_cons_succ, List.set_cons_zero]
  refine lex_take 3 rfl (by decide +kernel) (by first | exact wanted_none rfl | exact wanted_some rfl rfl) hI (fun W hW => St.run_loadW hW 0 24 _ rfl Try.isAgg24 0 hpre rfl rfl rfl) ?_; simp only [Act.put, List.setIfInBounds_toArray, List.set_cons_succ, List.set_cons_zero]
  refine lex_take 4 rfl (by decide +kernel) (by first | exact wanted_none rfl | exact wanted_some rfl rfl) hI (fun W hW => by first | (go_simp; done) | (go_simp; rfl)) ?_; simp only [Act.put, List.setIfInBounds_toArray, List.set_cons_succ, List.set_cons_zero]
  refine lex_take 5 rfl (by decide +kernel) (by first | exact wanted_none rfl | exact wanted_some rfl rfl) hI (fun W hW => St.run_load hW 1 3 _ rfl Try.isAgg3 rfl rfl rfl) ?_; simp only [Act.put, List.setIfInBounds_toArray, List.set_cons_succ, List.set_cons_zero]
  refine lex_take 6 rfl (by decide +kernel) (by first | exact wanted_none rfl | exact wanted_some rfl rfl) hI (fun W hW => by first | (go_simp; done) | (go_simp; rfl)) ?_; simp only [Act.put, List.setIfInBounds_toArray, List.set_cons_succ, List.set_cons_zero]
  refine lex_take 7 rfl (by decide +kernel) (by first | exact wanted_none rfl | exact wanted_some rfl rfl) hI (fun W hW => St.run_load hW 1 3 _ rfl Try.isAgg3 rfl rfl rfl) ?_; simp only [Act.put, List.setIfInBounds_toArray, List.set_cons_succ, List.set_cons_zero]
  clear hI
  refine lex_only 8 rfl (by decide +kernel) (by first | exact wanted_none rfl | exact wanted_some rfl rfl) fun K hK => ?_
  refine wp_callee (f := 26) (by first | (go_simp; done) | (go_simp; rfl)) ?_
  refine (HS.out _ _ st).mono ?_
  rintro e v1 ⟨a1, k1, rfl, hb1, hO⟩
  have hl5 := st.ltAt (i := 1) rfl
  have hl6 := st.ltAt (i := 2) rfl
  have hbs := st.size
  have hbz := hb1.size
  refine ⟨_, rfl, ?_⟩
  replace st := st.call hb1
  clear hb1
  refine hK _ _ (st) ?_; clear hK; simp only [Act.put, List.setIfInBounds_toArray, List.set_cons_succ, List.set_cons_zero]
  have hI := st
  refine lex_take 9 rfl (by decide +kernel) (by first | exact wanted_none rfl | exact wanted_some rfl rfl) hI (fun W hW => by first | (go_simp; done) | (go_simp; rfl)) ?_; simp only [Act.put, List.setIfInBounds_toArray, List.set_cons_succ, List.set_cons_zero]
  refine lex_take 10 rfl (by decide +kernel) (by first | exact wanted_none rfl | exact wanted_some rfl rfl) hI (fun W hW => by first | (go_simp; done) | (go_simp; rfl)) ?_; simp only [Act.put, List.setIfInBounds_toArray, List.set_cons_succ, List.set_cons_zero]
  refine lex_take 11 rfl (by decide +kernel) (by first | exact wanted_none rfl | exact wanted_some rfl rfl) hI (fun W hW => by first | (go_simp; done) | (go_simp; rfl)) ?_; simp only [Act.put, List.setIfInBounds_toArray, List.set_cons_succ, List.set_cons_zero]
  refine lex_take 12 rfl (by decide +kernel) (by first | exact wanted_none rfl | exact wanted_some rfl rfl) hI (fun W hW => by first | (go_simp; done) | (go_simp; rfl)) ?_; simp only [Act.put, List.setIfInBounds_toArray, List.set_cons_succ, List.set_cons_zero]
  refine lex_take 13 rfl (by decide +kernel) (by first | exact wanted_none rfl | exact wanted_some rfl rfl) hI (fun W hW => by first | (go_simp; done) | (go_simp; rfl)) ?_; simp only [Act.put, List.setIfInBounds_toArray, List.set_cons_succ, List.set_cons_zero]
  clear hI
  refine lex_done (by decide +kernel) ?_
  have str := st.rebase
  have HF := Lib.hid (fun (W : World) (hB : Below v1.heap.size v1 W) => label_Flows (fun _ => True) W xa a1 oa xc k1 oc x.label r.1 x.own (by omega) (by omega) (((hT.label.keep (HKp.out _ _ st)).below hB).okay fun _ _ => trivial) ((hO.slr (ok := fun _ => True) fun _ _ => trivial).below hB) (((hT.own.keep (HKp.out _ _ st)).below hB).okay fun _ _ => trivial))
  rw [HL.out] at HF
  go_wp2_with (first | go_skip | fail)
  refine det_region (by kernel_rfl) 11 rfl (fun W => St [g, g5, g6] v1 W [(g, 60, winC (preC k css n) [.slice xa x.label.length xc, .slice oa x.own.length oc, .string x.text, .slice ba x.objects.length bc, .slice ma x.mails.length mc] (postC k css n)), (g5, 27, [.int .i64 5, .int .i64 c.h, .int .i64 c.t, .int .i64 c.n, .int .i64 c.c, .slice la c.label.length lc, .slice ga c.grants.length gc, .string c.text]), (g6, 39, [.int .i64 0, .int .i64 0, .string ⟨#[]⟩])]) (str.drew) (by decide +kernel) ?_
  refine det_take 0 rfl (by decide +kernel) (by first | exact wanted_none rfl | exact wanted_some rfl rfl) (fun W hW => by first | (go_simp; done) | (go_simp; rfl)) ?_; simp only [Act.put, List.setIfInBounds_toArray, List.set_cons_succ, List.set_cons_zero]; refine det_take 1 rfl (by decide +kernel) (by first | exact wanted_none rfl | exact wanted_some rfl rfl) (fun W hW => by first | (go_simp; done) | (go_simp; rfl)) ?_; simp only [Act.put, List.setIfInBounds_toArray, List.set_cons_succ, List.set_cons_zero]; refine det_take 2 rfl (by decide +kernel) (by first | exact wanted_none rfl | exact wanted_some rfl rfl) (fun W hW => by first | (go_simp; done) | (go_simp; rfl)) ?_; simp only [Act.put, List.setIfInBounds_toArray, List.set_cons_succ, List.set_cons_zero]
  refine det_take 3 rfl (by decide +kernel) (by first | exact wanted_none rfl | exact wanted_some rfl rfl) (fun W hW => St.run_loadW hW 0 24 _ rfl Try.isAgg24 0 hpre rfl rfl rfl) ?_; simp only [Act.put, List.setIfInBounds_toArray, List.set_cons_succ, List.set_cons_zero]
  refine det_take 4 rfl (by decide +kernel) (by first | exact wanted_none rfl | exact wanted_some rfl rfl) (fun W hW => by first | (go_simp; done) | (go_simp; rfl)) ?_; simp only [Act.put, List.setIfInBounds_toArray, List.set_cons_succ, List.set_cons_zero]; refine det_take 5 rfl (by decide +kernel) (by first | exact wanted_none rfl | exact wanted_some rfl rfl) (fun W hW => by first | (go_simp; done) | (go_simp; rfl)) ?_; simp only [Act.put, List.setIfInBounds_toArray, List.set_cons_succ, List.set_cons_zero]; refine det_take 6 rfl (by decide +kernel) (by first | exact wanted_none rfl | exact wanted_some rfl rfl) (fun W hW => by first | (go_simp; done) | (go_simp; rfl)) ?_; simp only [Act.put, List.setIfInBounds_toArray, List.set_cons_succ, List.set_cons_zero]; refine det_take 7 rfl (by decide +kernel) (by first | exact wanted_none rfl | exact wanted_some rfl rfl) (fun W hW => by first | (go_simp; done) | (go_simp; rfl)) ?_; simp only [Act.put, List.setIfInBounds_toArray, List.set_cons_succ, List.set_cons_zero]
  refine det_take 8 rfl (by decide +kernel) (by first | exact wanted_none rfl | exact wanted_some rfl rfl) (fun W hW => St.run_loadW hW 0 25 _ rfl Try.isAgg25 1 hpre rfl rfl rfl) ?_; simp only [Act.put, List.setIfInBounds_toArray, List.set_cons_succ, List.set_cons_zero]
  refine det_call (fn := 15) 9 rfl (by decide +kernel) (by first | exact wanted_none rfl | exact wanted_some rfl rfl) (fun W => by first | (go_simp; done) | (go_simp; rfl)) (fun W hW => (HF.out W (str.below2 hW (by simp))).mono fun e w' h => ⟨h.1, hW.call h.2⟩) ?_; simp only [Act.put, List.setIfInBounds_toArray, List.set_cons_succ, List.set_cons_zero]
  refine det_take 10 rfl (by decide +kernel) (by first | exact wanted_none rfl | exact wanted_some rfl rfl) (fun W hW => by first | (go_simp; done) | (go_simp; rfl)) ?_; simp only [Act.put, List.setIfInBounds_toArray, List.set_cons_succ, List.set_cons_zero]
  refine det_done (by decide +kernel) ?_
  intro W st2
  have hB2 := str.below2 st2 (by simp)
  replace st := st.call hB2
  replace hO := hO.below hB2
  have hb2z := hB2.size
  clear str st2 hB2
  have hO2 := hO.slr (ok := fun b => g6 < b) fun b hb => by omega
  go_wp2_with (first | go_skip | (with_reducible refine at_store 24 ?_; refine mem_storeW st 24 _ _ rfl (wanted_none rfl) _ Try.sizeOf24 0 ?_; refine ⟨0, _, _, _, _, _, _, _, hpre, rfl, rfl, rfl, rfl, rfl, rfl, ?_⟩; clear st; intro w8 st hw8m hw8z; simp [Act.eval, Act.put, Value.cells, putL] at st) | (go_at_call 21; go_must (refine (call_no _ _).mono ?_; rintro e vn ⟨rfl, hbv⟩; replace st := st.call hbv; have hvs := hbv.size)) | (with_reducible refine at_store 39 ?_; (first | refine mem_store' st 39 _ _ rfl (wanted_none rfl) _ Try.sizeOf39 ?_ | (refine mem_store' st 39 _ _ rfl (wanted_some rfl ?_) _ Try.sizeOf39 ?_; focus (simp [yielded, Act.put]; done))); refine ⟨2, _, _, _, _, _, rfl, rfl, rfl, rfl, rfl, rfl, ?_⟩; clear st; intro w7 st hw7m hw7z; simp [Act.eval, Act.put, Value.cells, putL] at st))
  have hc := fun j => st.cell (i := 2) rfl j
  refine bodyPost_ret (v := RepV (errR 0)) ?hr rfl ?_
  case hr => simp [results, Try.results10, go_sem, hc, RepV, errR]; try rfl
  rw [HE.out]
  exact ⟨rfl, h.closeSame (made' := k.made) (x' := { x with label := r.1 }) (x := x) (la' := a1) (lc' := k1) hn ec eB hT (st.sub (by simp [thrC]) (by simp)) rfl rfl (h.fine eB ((hO2.move (by omega) (fun b hb ho => ⟨ho, (hw7m b (by omega)).trans ((hbv.block b (by omega)).trans (hw8m b (by omega)))⟩) fun _ _ r => r).okay fun b ho => .inr (by omega))) (h.fine eB ((hT.own.keep (HKp.out _ _ st)).okay fun _ r => .inl r))⟩

end
end Go.Proofs.Ytnkfemjmfalamaa

/- The kernel's Call: an object that isn't there. (printed by gen_call2.py) -/
namespace Go.Proofs.Ytnkfemjmfalamaa
open Go.RowKit

section
variable (ok okc : Nat → Prop) (w : World) (g : Nat) (k : Ker) (css : List (List Value)) (Bs : List (List Nat)) (n : Nat) (c : Req) (la : Option Addr) (lc : Nat) (ga : Option Addr) (gc : Nat)

set_option maxRecDepth 100000 in
set_option maxHeartbeats 4000000 in
theorem kernel_Call_put_none (h : KerAt ok w g k css Bs) (hk : ∀ x ∈ k.threads, x.ok) (hn : n < 4) (hx64 : ¬ 64 < c.text.size) (hkd : c.kind = 3) (hob : k.obj c.t c.n = none) :
    Calls Try.prog 10 #[.pointer (some ⟨g, 0, none⟩), .int .i64 n, reqV c la lc ga gc] w (CallPost ok w g Bs (callK k n c)) := by
  obtain ⟨x, xa, xc, oa, oc, ba, bc, ma, mc, ex, ec, eB, hT, hb⟩ := h.open hn
  have hx := hk x (List.mem_of_getElem? ex)
  have hpre := h.preLen hn
  have hth := Ker.thr_at ex
  have st0 := St.hand hb
  unfold thrC at st0
  have d1 : decide ((n : Int) < 0) = false := by simp
  have d2 : decide ((4 : Int) ≤ n) = false := by simp; omega
  have d64 := text_size hx64
  have hgg : ¬ ok g := h.apart g (by simp)
  have HKp := Lib.hid (show ∀ (W : World) (bl : Blks), St [g] w W bl → Keeps ok w W from fun W bl s => s.keeps (by simpa using hgg))
  have HB := Lib.hid (show ∀ (W : World) (bl : Blks), St [g] w W bl → (g, 60, winC (preC k css n) [.slice xa x.label.length xc, .slice oa x.own.length oc, .string x.text, .slice ba x.objects.length bc, .slice ma x.mails.length mc] (postC k css n)) ∈ bl → Below w.heap.size w W from fun W bl s hm => st0.below2 s (by simpa using hm))
  have hxl := goodL_len hx.good; have hxo := hx.ownL; have hxm := hx.mailN; have hxb := hx.objs; have hxt := hx.text
  have st := st0
  clear st0
  unfold reqV
  have HE := Lib.hid (show callK k (n : Int) c = (k, errR 0) by unfold callK; simp [hkd, hob])
  have HOb : Hid (∀ W, Below w.heap.size w W → Calls Try.prog 24 #[.pointer (some ⟨g, 0, none⟩), .int .i64 c.t, .int .i64 c.n] W fun e w' => e = .returned (.pointer none) ∧ W = w') := by
    rcases h.object c.t c.n with ⟨_, H⟩ | ⟨_, _, _, _, _, _, _, _, _, _, _, _, _, _, _, _, _, _, _, _, _, e, _⟩
    · exact Lib.hid H
    · rw [hob] at e; cases e
  clear hob
  rw [hkd]
  clear hkd
  go_enter Try.func10, Try.ntmps10
  go_wp2_with (first | go_skip | (go_at_call 24; go_must (refine (HOb.out _ (HB.out _ _ st (by simp))).mono ?_; rintro e wo ⟨rfl, rfl⟩)) | (with_reducible refine at_box 27 ?_; refine mem_box st (wanted_none rfl) 27 _ rfl _ rfl _ rfl ?_; clear st; intro g5 w5 hg5 st hg5b; clear hg5b; simp [Act.eval, Act.put, Value.cells, putL] at st) | (with_reducible refine at_alloc 39 ?_; refine mem_alloc st (wanted_none rfl) 39 rfl _ Try.zeroValue39 _ rfl ?_; clear st; intro g6 w6 hg6 st hg6b; clear hg6b; simp [Act.eval, Act.put, Value.cells, putL] at st) | (with_reducible refine at_load 9 ?_; (first | refine mem_load' st 9 _ rfl (wanted_none rfl) Try.isAgg9 ?_ | (refine mem_load' st 9 _ rfl (wanted_some rfl ?_) Try.isAgg9 ?_; focus (simp [yielded, Act.put]; done))); refine ⟨1, _, _, _, _, _, rfl, rfl, rfl, ?_⟩) | (with_reducible refine at_load 3 ?_; (first | refine mem_load' st 3 _ rfl (wanted_none rfl) Try.isAgg3 ?_ | (refine mem_load' st 3 _ rfl (wanted_some rfl ?_) Try.isAgg3 ?_; focus (simp [yielded, Act.put]; done))); refine ⟨1, _, _, _, _, _, rfl, rfl, rfl, ?_⟩) | (go_at_call 21; go_must (refine (call_no _ _).mono ?_; rintro e vn ⟨rfl, hbn⟩; replace st := st.call hbn; clear hbn)) | (with_reducible refine at_store 39 ?_; (first | refine mem_store' st 39 _ _ rfl (wanted_none rfl) _ Try.sizeOf39 ?_ | (refine mem_store' st 39 _ _ rfl (wanted_some rfl ?_) _ Try.sizeOf39 ?_; focus (simp [yielded, Act.put]; done))); refine ⟨2, _, _, _, _, _, rfl, rfl, rfl, rfl, rfl, rfl, ?_⟩; clear st; intro w7 st hw7m hw7z; simp [Act.eval, Act.put, Value.cells, putL] at st))
  refine det_region (by kernel_rfl) 17 rfl (fun W => St [g] w W [(g, 60, winC (preC k css n) [.slice xa x.label.length xc, .slice oa x.own.length oc, .string x.text, .slice ba x.objects.length bc, .slice ma x.mails.length mc] (postC k css n)), (g5, 27, [.int .i64 3, .int .i64 c.h, .int .i64 c.t, .int .i64 c.n, .int .i64 c.c, .slice la c.label.length lc, .slice ga c.grants.length gc, .string c.text]), (g6, 39, [.int .i64 0, .int .i64 0, .string ⟨#[]⟩])]) (st.drew) (by decide +kernel) ?_
  refine det_take 0 rfl (by decide +kernel) (by first | exact wanted_none rfl | exact wanted_some rfl rfl) (fun W hW => by first | (go_simp; done) | (go_simp; rfl)) ?_; simp only [Act.put, List.setIfInBounds_toArray, List.set_cons_succ, List.set_cons_zero]; refine det_take 1 rfl (by decide +kernel) (by first | exact wanted_none rfl | exact wanted_some rfl rfl) (fun W hW => by first | (go_simp; done) | (go_simp; rfl)) ?_; simp only [Act.put, List.setIfInBounds_toArray, List.set_cons_succ, List.set_cons_zero]; refine det_take 2 rfl (by decide +kernel) (by first | exact wanted_none rfl | exact wanted_some rfl rfl) (fun W hW => by first | (go_simp; done) | (go_simp; rfl)) ?_; simp only [Act.put, List.setIfInBounds_toArray, List.set_cons_succ, List.set_cons_zero]
  refine det_skip 3 rfl (by decide +kernel) (by first | (simp [Region.wanted, yielded]; done) | (simp [Region.wanted, yielded, undef]; done)) ?_; simp only [Act.put, List.setIfInBounds_toArray, List.set_cons_succ, List.set_cons_zero]; refine det_skip 4 rfl (by decide +kernel) (by first | (simp [Region.wanted, yielded]; done) | (simp [Region.wanted, yielded, undef]; done)) ?_; simp only [Act.put, List.setIfInBounds_toArray, List.set_cons_succ, List.set_cons_zero]; refine det_skip 5 rfl (by decide +kernel) (by first | (simp [Region.wanted, yielded]; done) | (simp [Region.wanted, yielded, undef]; done)) ?_; simp only [Act.put, List.setIfInBounds_toArray, List.set_cons_succ, List.set_cons_zero]; refine det_skip 6 rfl (by decide +kernel) (by first | (simp [Region.wanted, yielded]; done) | (simp [Region.wanted, yielded, undef]; done)) ?_; simp only [Act.put, List.setIfInBounds_toArray, List.set_cons_succ, List.set_cons_zero]; refine det_skip 7 rfl (by decide +kernel) (by first | (simp [Region.wanted, yielded]; done) | (simp [Region.wanted, yielded, undef]; done)) ?_; simp only [Act.put, List.setIfInBounds_toArray, List.set_cons_succ, List.set_cons_zero]; refine det_skip 8 rfl (by decide +kernel) (by first | (simp [Region.wanted, yielded]; done) | (simp [Region.wanted, yielded, undef]; done)) ?_; simp only [Act.put, List.setIfInBounds_toArray, List.set_cons_succ, List.set_cons_zero]; refine det_skip 9 rfl (by decide +kernel) (by first | (simp [Region.wanted, yielded]; done) | (simp [Region.wanted, yielded, undef]; done)) ?_; simp only [Act.put, List.setIfInBounds_toArray, List.set_cons_succ, List.set_cons_zero]; refine det_skip 10 rfl (by decide +kernel) (by first | (simp [Region.wanted, yielded]; done) | (simp [Region.wanted, yielded, undef]; done)) ?_; simp only [Act.put, List.setIfInBounds_toArray, List.set_cons_succ, List.set_cons_zero]; refine det_skip 11 rfl (by decide +kernel) (by first | (simp [Region.wanted, yielded]; done) | (simp [Region.wanted, yielded, undef]; done)) ?_; simp only [Act.put, List.setIfInBounds_toArray, List.set_cons_succ, List.set_cons_zero]; refine det_skip 12 rfl (by decide +kernel) (by first | (simp [Region.wanted, yielded]; done) | (simp [Region.wanted, yielded, undef]; done)) ?_; simp only [Act.put, List.setIfInBounds_toArray, List.set_cons_succ, List.set_cons_zero]; refine det_skip 13 rfl (by decide +kernel) (by first | (simp [Region.wanted, yielded]; done) | (simp [Region.wanted, yielded, undef]; done)) ?_; simp only [Act.put, List.setIfInBounds_toArray, List.set_cons_succ, List.set_cons_zero]; refine det_skip 14 rfl (by decide +kernel) (by first | (simp [Region.wanted, yielded]; done) | (simp [Region.wanted, yielded, undef]; done)) ?_; simp only [Act.put, List.setIfInBounds_toArray, List.set_cons_succ, List.set_cons_zero]; refine det_skip 15 rfl (by decide +kernel) (by first | (simp [Region.wanted, yielded]; done) | (simp [Region.wanted, yielded, undef]; done)) ?_; simp only [Act.put, List.setIfInBounds_toArray, List.set_cons_succ, List.set_cons_zero]
  refine det_take 16 rfl (by decide +kernel) (by first | exact wanted_none rfl | exact wanted_some rfl rfl) (fun W hW => by first | (go_simp; done) | (go_simp; rfl)) ?_; simp only [Act.put, List.setIfInBounds_toArray, List.set_cons_succ, List.set_cons_zero]
  refine det_done (by decide +kernel) ?_
  clear st
  intro W st
  go_wp2_with (first | go_skip | (go_at_call 21; go_must (refine (call_no _ _).mono ?_; rintro e vn ⟨rfl, hbn⟩; replace st := st.call hbn; clear hbn)) | (with_reducible refine at_store 39 ?_; (first | refine mem_store' st 39 _ _ rfl (wanted_none rfl) _ Try.sizeOf39 ?_ | (refine mem_store' st 39 _ _ rfl (wanted_some rfl ?_) _ Try.sizeOf39 ?_; focus (simp [yielded, Act.put]; done))); refine ⟨2, _, _, _, _, _, rfl, rfl, rfl, rfl, rfl, rfl, ?_⟩; clear st; intro w7 st hw7m hw7z; simp [Act.eval, Act.put, Value.cells, putL] at st))
  have hc := fun j => st.cell (i := 2) rfl j
  refine bodyPost_ret (v := RepV (errR 0)) ?hr rfl ?_
  case hr => simp [results, Try.results10, go_sem, hc, RepV, errR]; try rfl
  rw [HE.out]
  exact ⟨rfl, KerTo.none h (HB.out _ _ st (by simp))⟩

set_option maxRecDepth 100000 in
set_option maxHeartbeats 4000000 in
theorem kernel_Call_get_none (h : KerAt ok w g k css Bs) (hk : ∀ x ∈ k.threads, x.ok) (hn : n < 4) (hx64 : ¬ 64 < c.text.size) (hkd : c.kind = 4) (hob : k.obj c.t c.n = none) :
    Calls Try.prog 10 #[.pointer (some ⟨g, 0, none⟩), .int .i64 n, reqV c la lc ga gc] w (CallPost ok w g Bs (callK k n c)) := by
  obtain ⟨x, xa, xc, oa, oc, ba, bc, ma, mc, ex, ec, eB, hT, hb⟩ := h.open hn
  have hx := hk x (List.mem_of_getElem? ex)
  have hpre := h.preLen hn
  have hth := Ker.thr_at ex
  have st0 := St.hand hb
  unfold thrC at st0
  have d1 : decide ((n : Int) < 0) = false := by simp
  have d2 : decide ((4 : Int) ≤ n) = false := by simp; omega
  have d64 := text_size hx64
  have hgg : ¬ ok g := h.apart g (by simp)
  have HKp := Lib.hid (show ∀ (W : World) (bl : Blks), St [g] w W bl → Keeps ok w W from fun W bl s => s.keeps (by simpa using hgg))
  have HB := Lib.hid (show ∀ (W : World) (bl : Blks), St [g] w W bl → (g, 60, winC (preC k css n) [.slice xa x.label.length xc, .slice oa x.own.length oc, .string x.text, .slice ba x.objects.length bc, .slice ma x.mails.length mc] (postC k css n)) ∈ bl → Below w.heap.size w W from fun W bl s hm => st0.below2 s (by simpa using hm))
  have hxl := goodL_len hx.good; have hxo := hx.ownL; have hxm := hx.mailN; have hxb := hx.objs; have hxt := hx.text
  have st := st0
  clear st0
  unfold reqV
  have HE := Lib.hid (show callK k (n : Int) c = (k, errR 4) by unfold callK; simp [hkd, hob])
  have HOb : Hid (∀ W, Below w.heap.size w W → Calls Try.prog 24 #[.pointer (some ⟨g, 0, none⟩), .int .i64 c.t, .int .i64 c.n] W fun e w' => e = .returned (.pointer none) ∧ W = w') := by
    rcases h.object c.t c.n with ⟨_, H⟩ | ⟨_, _, _, _, _, _, _, _, _, _, _, _, _, _, _, _, _, _, _, _, _, e, _⟩
    · exact Lib.hid H
    · rw [hob] at e; cases e
  clear hob
  rw [hkd]
  clear hkd
  go_enter Try.func10, Try.ntmps10
  go_wp2_with (first | go_skip | (go_at_call 24; go_must (refine (HOb.out _ (HB.out _ _ st (by simp))).mono ?_; rintro e wo ⟨rfl, rfl⟩)) | (with_reducible refine at_box 27 ?_; refine mem_box st (wanted_none rfl) 27 _ rfl _ rfl _ rfl ?_; clear st; intro g5 w5 hg5 st hg5b; clear hg5b; simp [Act.eval, Act.put, Value.cells, putL] at st) | (with_reducible refine at_alloc 39 ?_; refine mem_alloc st (wanted_none rfl) 39 rfl _ Try.zeroValue39 _ rfl ?_; clear st; intro g6 w6 hg6 st hg6b; clear hg6b; simp [Act.eval, Act.put, Value.cells, putL] at st) | (with_reducible refine at_load 9 ?_; (first | refine mem_load' st 9 _ rfl (wanted_none rfl) Try.isAgg9 ?_ | (refine mem_load' st 9 _ rfl (wanted_some rfl ?_) Try.isAgg9 ?_; focus (simp [yielded, Act.put]; done))); refine ⟨1, _, _, _, _, _, rfl, rfl, rfl, ?_⟩) | (with_reducible refine at_load 3 ?_; (first | refine mem_load' st 3 _ rfl (wanted_none rfl) Try.isAgg3 ?_ | (refine mem_load' st 3 _ rfl (wanted_some rfl ?_) Try.isAgg3 ?_; focus (simp [yielded, Act.put]; done))); refine ⟨1, _, _, _, _, _, rfl, rfl, rfl, ?_⟩) | (go_at_call 21; go_must (refine (call_no _ _).mono ?_; rintro e vn ⟨rfl, hbn⟩; replace st := st.call hbn; clear hbn)) | (with_reducible refine at_store 39 ?_; (first | refine mem_store' st 39 _ _ rfl (wanted_none rfl) _ Try.sizeOf39 ?_ | (refine mem_store' st 39 _ _ rfl (wanted_some rfl ?_) _ Try.sizeOf39 ?_; focus (simp [yielded, Act.put]; done))); refine ⟨2, _, _, _, _, _, rfl, rfl, rfl, rfl, rfl, rfl, ?_⟩; clear st; intro w7 st hw7m hw7z; simp [Act.eval, Act.put, Value.cells, putL] at st))
  refine det_region (by kernel_rfl) 18 rfl (fun W => St [g] w W [(g, 60, winC (preC k css n) [.slice xa x.label.length xc, .slice oa x.own.length oc, .string x.text, .slice ba x.objects.length bc, .slice ma x.mails.length mc] (postC k css n)), (g5, 27, [.int .i64 4, .int .i64 c.h, .int .i64 c.t, .int .i64 c.n, .int .i64 c.c, .slice la c.label.length lc, .slice ga c.grants.length gc, .string c.text]), (g6, 39, [.int .i64 0, .int .i64 0, .string ⟨#[]⟩])]) (st.drew) (by decide +kernel) ?_
  refine det_take 0 rfl (by decide +kernel) (by first | exact wanted_none rfl | exact wanted_some rfl rfl) (fun W hW => by first | (go_simp; done) | (go_simp; rfl)) ?_; simp only [Act.put, List.setIfInBounds_toArray, List.set_cons_succ, List.set_cons_zero]; refine det_take 1 rfl (by decide +kernel) (by first | exact wanted_none rfl | exact wanted_some rfl rfl) (fun W hW => by first | (go_simp; done) | (go_simp; rfl)) ?_; simp only [Act.put, List.setIfInBounds_toArray, List.set_cons_succ, List.set_cons_zero]; refine det_take 2 rfl (by decide +kernel) (by first | exact wanted_none rfl | exact wanted_some rfl rfl) (fun W hW => by first | (go_simp; done) | (go_simp; rfl)) ?_; simp only [Act.put, List.setIfInBounds_toArray, List.set_cons_succ, List.set_cons_zero]
  refine det_skip 3 rfl (by decide +kernel) (by first | (simp [Region.wanted, yielded]; done) | (simp [Region.wanted, yielded, undef]; done)) ?_; simp only [Act.put, List.setIfInBounds_toArray, List.set_cons_succ, List.set_cons_zero]; refine det_skip 4 rfl (by decide +kernel) (by first | (simp [Region.wanted, yielded]; done) | (simp [Region.wanted, yielded, undef]; done)) ?_; simp only [Act.put, List.setIfInBounds_toArray, List.set_cons_succ, List.set_cons_zero]; refine det_skip 5 rfl (by decide +kernel) (by first | (simp [Region.wanted, yielded]; done) | (simp [Region.wanted, yielded, undef]; done)) ?_; simp only [Act.put, List.setIfInBounds_toArray, List.set_cons_succ, List.set_cons_zero]; refine det_skip 6 rfl (by decide +kernel) (by first | (simp [Region.wanted, yielded]; done) | (simp [Region.wanted, yielded, undef]; done)) ?_; simp only [Act.put, List.setIfInBounds_toArray, List.set_cons_succ, List.set_cons_zero]; refine det_skip 7 rfl (by decide +kernel) (by first | (simp [Region.wanted, yielded]; done) | (simp [Region.wanted, yielded, undef]; done)) ?_; simp only [Act.put, List.setIfInBounds_toArray, List.set_cons_succ, List.set_cons_zero]; refine det_skip 8 rfl (by decide +kernel) (by first | (simp [Region.wanted, yielded]; done) | (simp [Region.wanted, yielded, undef]; done)) ?_; simp only [Act.put, List.setIfInBounds_toArray, List.set_cons_succ, List.set_cons_zero]; refine det_skip 9 rfl (by decide +kernel) (by first | (simp [Region.wanted, yielded]; done) | (simp [Region.wanted, yielded, undef]; done)) ?_; simp only [Act.put, List.setIfInBounds_toArray, List.set_cons_succ, List.set_cons_zero]; refine det_skip 10 rfl (by decide +kernel) (by first | (simp [Region.wanted, yielded]; done) | (simp [Region.wanted, yielded, undef]; done)) ?_; simp only [Act.put, List.setIfInBounds_toArray, List.set_cons_succ, List.set_cons_zero]; refine det_skip 11 rfl (by decide +kernel) (by first | (simp [Region.wanted, yielded]; done) | (simp [Region.wanted, yielded, undef]; done)) ?_; simp only [Act.put, List.setIfInBounds_toArray, List.set_cons_succ, List.set_cons_zero]; refine det_skip 12 rfl (by decide +kernel) (by first | (simp [Region.wanted, yielded]; done) | (simp [Region.wanted, yielded, undef]; done)) ?_; simp only [Act.put, List.setIfInBounds_toArray, List.set_cons_succ, List.set_cons_zero]; refine det_skip 13 rfl (by decide +kernel) (by first | (simp [Region.wanted, yielded]; done) | (simp [Region.wanted, yielded, undef]; done)) ?_; simp only [Act.put, List.setIfInBounds_toArray, List.set_cons_succ, List.set_cons_zero]; refine det_skip 14 rfl (by decide +kernel) (by first | (simp [Region.wanted, yielded]; done) | (simp [Region.wanted, yielded, undef]; done)) ?_; simp only [Act.put, List.setIfInBounds_toArray, List.set_cons_succ, List.set_cons_zero]; refine det_skip 15 rfl (by decide +kernel) (by first | (simp [Region.wanted, yielded]; done) | (simp [Region.wanted, yielded, undef]; done)) ?_; simp only [Act.put, List.setIfInBounds_toArray, List.set_cons_succ, List.set_cons_zero]; refine det_skip 16 rfl (by decide +kernel) (by first | (simp [Region.wanted, yielded]; done) | (simp [Region.wanted, yielded, undef]; done)) ?_; simp only [Act.put, List.setIfInBounds_toArray, List.set_cons_succ, List.set_cons_zero]
  refine det_take 17 rfl (by decide +kernel) (by first | exact wanted_none rfl | exact wanted_some rfl rfl) (fun W hW => by first | (go_simp; done) | (go_simp; rfl)) ?_; simp only [Act.put, List.setIfInBounds_toArray, List.set_cons_succ, List.set_cons_zero]
  refine det_done (by decide +kernel) ?_
  clear st
  intro W st
  go_wp2_with (first | go_skip | (go_at_call 21; go_must (refine (call_no _ _).mono ?_; rintro e vn ⟨rfl, hbn⟩; replace st := st.call hbn; clear hbn)) | (with_reducible refine at_store 39 ?_; (first | refine mem_store' st 39 _ _ rfl (wanted_none rfl) _ Try.sizeOf39 ?_ | (refine mem_store' st 39 _ _ rfl (wanted_some rfl ?_) _ Try.sizeOf39 ?_; focus (simp [yielded, Act.put]; done))); refine ⟨2, _, _, _, _, _, rfl, rfl, rfl, rfl, rfl, rfl, ?_⟩; clear st; intro w7 st hw7m hw7z; simp [Act.eval, Act.put, Value.cells, putL] at st))
  have hc := fun j => st.cell (i := 2) rfl j
  refine bodyPost_ret (v := RepV (errR 4)) ?hr rfl ?_
  case hr => simp [results, Try.results10, go_sem, hc, RepV, errR]; try rfl
  rw [HE.out]
  exact ⟨rfl, KerTo.none h (HB.out _ _ st (by simp))⟩

end
end Go.Proofs.Ytnkfemjmfalamaa

/- The kernel's Call: an object read. (printed by gen_call2.py) -/
namespace Go.Proofs.Ytnkfemjmfalamaa
open Go.RowKit

section
variable (ok okc : Nat → Prop) (w : World) (g : Nat) (k : Ker) (css : List (List Value)) (Bs : List (List Nat)) (n : Nat) (c : Req) (la : Option Addr) (lc : Nat) (ga : Option Addr) (gc : Nat)

set_option maxRecDepth 100000 in
set_option maxHeartbeats 4000000 in
theorem kernel_Call_get_no (h : KerAt ok w g k css Bs) (hk : ∀ x ∈ k.threads, x.ok) (hn : n < 4) (hx64 : ¬ 64 < c.text.size) (hkd : c.kind = 4) (o : KObj) (hob : k.obj c.t c.n = some o) (hf : flowsL o.label (k.thr n).label (k.thr n).own = false) :
    Calls Try.prog 10 #[.pointer (some ⟨g, 0, none⟩), .int .i64 n, reqV c la lc ga gc] w (CallPost ok w g Bs (callK k n c)) := by
  obtain ⟨x, xa, xc, oa, oc, ba, bc, ma, mc, ex, ec, eB, hT, hb⟩ := h.open hn
  have hx := hk x (List.mem_of_getElem? ex)
  have hpre := h.preLen hn
  have hth := Ker.thr_at ex
  rcases h.object c.t c.n with ⟨e, _⟩ | ⟨m, j, y, ya, yc, qa, qc, gb, off, bc2, ma2, mc2, o2, hm, et, en, ey, ecy, eBy, hTy, hoy, hob2, HOb⟩
  · rw [hob] at e; cases e
  rw [hob] at hob2
  cases hob2
  replace et := Lib.hid et
  replace en := Lib.hid en
  obtain ⟨pre2, cs2, post2, hb2, hpre2, ⟨la2, lc2, rfl, hlo⟩, _, _⟩ := hTy.objs.window hoy
  have HQ := Lib.hid (show ∃ q, q = off + j * 2 from ⟨_, rfl⟩)
  obtain ⟨q, hq⟩ := HQ.out
  rw [← hq] at hpre2 HOb
  replace HOb := Lib.hid HOb
  clear HQ
  replace hq := Lib.hid hq
  have hgb : g ≠ gb := fun e => h.gOut eBy (e ▸ mem_rows2.2 (.inl rfl))
  have hgbo : ¬ ok gb := h.apartAt eBy (mem_rows2.2 (.inl rfl))
  have hgbl : gb < w.heap.size := hTy.objs.lt rfl
  have ho := (hk y (List.mem_of_getElem? ey)).obj o (List.mem_of_getElem? hoy)
  have hol := goodL_len ho.1
  have hot := ho.2
  have st0 := St.hand2 hb hb2 hgb
  unfold thrC at st0
  have d1 : decide ((n : Int) < 0) = false := by simp
  have d2 : decide ((4 : Int) ≤ n) = false := by simp; omega
  have d64 := text_size hx64
  have hgg : ¬ ok g := h.apart g (by simp)
  have HKp := Lib.hid (show ∀ (W : World) (bl : Blks), St [g, gb] w W bl → Keeps ok w W from fun W bl s => s.keeps (by simpa using ⟨hgg, hgbo⟩))
  have HB := Lib.hid (show ∀ (W : World) (bl : Blks), St [g, gb] w W bl → (g, 60, winC (preC k css n) [.slice xa x.label.length xc, .slice oa x.own.length oc, .string x.text, .slice ba x.objects.length bc, .slice ma x.mails.length mc] (postC k css n)) ∈ bl → (gb, 56, winC pre2 [.slice la2 o.label.length lc2, .string o.text] post2) ∈ bl → Below w.heap.size w W from fun W bl s hm1 hm2 => st0.below2 s (by simpa using ⟨hm1, hm2⟩))
  have hxl := goodL_len hx.good; have hxo := hx.ownL; have hxm := hx.mailN; have hxb := hx.objs; have hxt := hx.text
  have st := st0
  clear st0
  unfold reqV
  have HE := Lib.hid (show callK k (n : Int) c = (k, errR 4) by unfold callK; simp [hkd, hob, hf])
  rw [hth] at hf
  have HF := Lib.hid (fun (W : World) (bl : Blks) (hW : St [g, gb] w W bl) => label_Flows (fun _ => True) W la2 xa oa lc2 xc oc o.label x.label x.own (by omega) (by omega) ((hlo.keep (HKp.out W _ hW)).okay fun _ _ => trivial) ((hT.label.keep (HKp.out W _ hW)).okay fun _ _ => trivial) ((hT.own.keep (HKp.out W _ hW)).okay fun _ _ => trivial))
  rw [hf] at HF
  clear hob hf
  rw [hkd]
  clear hkd
  go_enter Try.func10, Try.ntmps10
  go_wp2_with (first | go_skip | (go_at_call 24; go_must (refine (HOb.out _ (HB.out _ _ st (by simp) (by simp))).mono ?_; rintro e wo ⟨rfl, rfl⟩)) | (with_reducible refine at_box 27 ?_; refine mem_box st (wanted_none rfl) 27 _ rfl _ rfl _ rfl ?_; clear st; intro g5 w5 hg5 st hg5b; clear hg5b; simp [Act.eval, Act.put, Value.cells, putL] at st) | (with_reducible refine at_alloc 39 ?_; refine mem_alloc st (wanted_none rfl) 39 rfl _ Try.zeroValue39 _ rfl ?_; clear st; intro g6 w6 hg6 st hg6b; clear hg6b; simp [Act.eval, Act.put, Value.cells, putL] at st) | (with_reducible refine at_load 9 ?_; (first | refine mem_load' st 9 _ rfl (wanted_none rfl) Try.isAgg9 ?_ | (refine mem_load' st 9 _ rfl (wanted_some rfl ?_) Try.isAgg9 ?_; focus (simp [yielded, Act.put]; done))); refine ⟨2, _, _, _, _, _, rfl, rfl, rfl, ?_⟩) | (with_reducible refine at_load 3 ?_; (first | refine mem_load' st 3 _ rfl (wanted_none rfl) Try.isAgg3 ?_ | (refine mem_load' st 3 _ rfl (wanted_some rfl ?_) Try.isAgg3 ?_; focus (simp [yielded, Act.put]; done))); refine ⟨2, _, _, _, _, _, rfl, rfl, rfl, ?_⟩) | (go_at_call 21; go_must (refine (call_no _ _).mono ?_; rintro e vn ⟨rfl, hbn⟩; replace st := st.call hbn; clear hbn)) | (with_reducible refine at_store 39 ?_; (first | refine mem_store' st 39 _ _ rfl (wanted_none rfl) _ Try.sizeOf39 ?_ | (refine mem_store' st 39 _ _ rfl (wanted_some rfl ?_) _ Try.sizeOf39 ?_; focus (simp [yielded, Act.put]; done))); refine ⟨3, _, _, _, _, _, rfl, rfl, rfl, rfl, rfl, rfl, ?_⟩; clear st; intro w7 st hw7m hw7z; simp [Act.eval, Act.put, Value.cells, putL] at st))
  refine det_region (by kernel_rfl) 18 rfl (fun W => St [g, gb] w W [(g, 60, winC (preC k css n) [.slice xa x.label.length xc, .slice oa x.own.length oc, .string x.text, .slice ba x.objects.length bc, .slice ma x.mails.length mc] (postC k css n)), (gb, 56, winC pre2 [.slice la2 o.label.length lc2, .string o.text] post2), (g5, 27, [.int .i64 4, .int .i64 c.h, .int .i64 c.t, .int .i64 c.n, .int .i64 c.c, .slice la c.label.length lc, .slice ga c.grants.length gc, .string c.text]), (g6, 39, [.int .i64 0, .int .i64 0, .string ⟨#[]⟩])]) (st.drew) (by decide +kernel) ?_
  refine det_take 0 rfl (by decide +kernel) (by first | exact wanted_none rfl | exact wanted_some rfl rfl) (fun W hW => by first | (go_simp; done) | (go_simp; rfl)) ?_; simp only [Act.put, List.setIfInBounds_toArray, List.set_cons_succ, List.set_cons_zero]; refine det_take 1 rfl (by decide +kernel) (by first | exact wanted_none rfl | exact wanted_some rfl rfl) (fun W hW => by first | (go_simp; done) | (go_simp; rfl)) ?_; simp only [Act.put, List.setIfInBounds_toArray, List.set_cons_succ, List.set_cons_zero]; refine det_take 2 rfl (by decide +kernel) (by first | exact wanted_none rfl | exact wanted_some rfl rfl) (fun W hW => by first | (go_simp; done) | (go_simp; rfl)) ?_; simp only [Act.put, List.setIfInBounds_toArray, List.set_cons_succ, List.set_cons_zero]; refine det_take 3 rfl (by decide +kernel) (by first | exact wanted_none rfl | exact wanted_some rfl rfl) (fun W hW => by first | (go_simp; done) | (go_simp; rfl)) ?_; simp only [Act.put, List.setIfInBounds_toArray, List.set_cons_succ, List.set_cons_zero]; refine det_take 4 rfl (by decide +kernel) (by first | exact wanted_none rfl | exact wanted_some rfl rfl) (fun W hW => by first | (go_simp; done) | (go_simp; rfl)) ?_; simp only [Act.put, List.setIfInBounds_toArray, List.set_cons_succ, List.set_cons_zero]; refine det_take 5 rfl (by decide +kernel) (by first | exact wanted_none rfl | exact wanted_some rfl rfl) (fun W hW => by first | (go_simp; done) | (go_simp; rfl)) ?_; simp only [Act.put, List.setIfInBounds_toArray, List.set_cons_succ, List.set_cons_zero]
  refine det_take 6 rfl (by decide +kernel) (by first | exact wanted_none rfl | exact wanted_some rfl rfl) (fun W hW => St.run_loadW hW 1 24 _ rfl Try.isAgg24 0 hpre2 rfl rfl rfl) ?_; simp only [Act.put, List.setIfInBounds_toArray, List.set_cons_succ, List.set_cons_zero]
  refine det_take 7 rfl (by decide +kernel) (by first | exact wanted_none rfl | exact wanted_some rfl rfl) (fun W hW => by first | (go_simp; done) | (go_simp; rfl)) ?_; simp only [Act.put, List.setIfInBounds_toArray, List.set_cons_succ, List.set_cons_zero]; refine det_take 8 rfl (by decide +kernel) (by first | exact wanted_none rfl | exact wanted_some rfl rfl) (fun W hW => by first | (go_simp; done) | (go_simp; rfl)) ?_; simp only [Act.put, List.setIfInBounds_toArray, List.set_cons_succ, List.set_cons_zero]; refine det_take 9 rfl (by decide +kernel) (by first | exact wanted_none rfl | exact wanted_some rfl rfl) (fun W hW => by first | (go_simp; done) | (go_simp; rfl)) ?_; simp only [Act.put, List.setIfInBounds_toArray, List.set_cons_succ, List.set_cons_zero]
  refine det_take 10 rfl (by decide +kernel) (by first | exact wanted_none rfl | exact wanted_some rfl rfl) (fun W hW => St.run_loadW hW 0 24 _ rfl Try.isAgg24 0 hpre rfl rfl rfl) ?_; simp only [Act.put, List.setIfInBounds_toArray, List.set_cons_succ, List.set_cons_zero]
  refine det_take 11 rfl (by decide +kernel) (by first | exact wanted_none rfl | exact wanted_some rfl rfl) (fun W hW => by first | (go_simp; done) | (go_simp; rfl)) ?_; simp only [Act.put, List.setIfInBounds_toArray, List.set_cons_succ, List.set_cons_zero]; refine det_take 12 rfl (by decide +kernel) (by first | exact wanted_none rfl | exact wanted_some rfl rfl) (fun W hW => by first | (go_simp; done) | (go_simp; rfl)) ?_; simp only [Act.put, List.setIfInBounds_toArray, List.set_cons_succ, List.set_cons_zero]; refine det_take 13 rfl (by decide +kernel) (by first | exact wanted_none rfl | exact wanted_some rfl rfl) (fun W hW => by first | (go_simp; done) | (go_simp; rfl)) ?_; simp only [Act.put, List.setIfInBounds_toArray, List.set_cons_succ, List.set_cons_zero]
  refine det_take 14 rfl (by decide +kernel) (by first | exact wanted_none rfl | exact wanted_some rfl rfl) (fun W hW => St.run_loadW hW 0 25 _ rfl Try.isAgg25 1 hpre rfl rfl rfl) ?_; simp only [Act.put, List.setIfInBounds_toArray, List.set_cons_succ, List.set_cons_zero]
  refine det_call (fn := 15) 15 rfl (by decide +kernel) (by first | exact wanted_none rfl | exact wanted_some rfl rfl) (fun W => by first | (go_simp; done) | (go_simp; rfl)) (fun W hW => (HF.out W _ hW).mono fun e w' h => ⟨h.1, hW.call h.2⟩) ?_; simp only [Act.put, List.setIfInBounds_toArray, List.set_cons_succ, List.set_cons_zero]
  refine det_take 16 rfl (by decide +kernel) (by first | exact wanted_none rfl | exact wanted_some rfl rfl) (fun W hW => by first | (go_simp; done) | (go_simp; rfl)) ?_; simp only [Act.put, List.setIfInBounds_toArray, List.set_cons_succ, List.set_cons_zero]; refine det_take 17 rfl (by decide +kernel) (by first | exact wanted_none rfl | exact wanted_some rfl rfl) (fun W hW => by first | (go_simp; done) | (go_simp; rfl)) ?_; simp only [Act.put, List.setIfInBounds_toArray, List.set_cons_succ, List.set_cons_zero]
  refine det_done (by decide +kernel) ?_
  clear st
  intro W st
  go_wp2_with (first | go_skip | (go_at_call 21; go_must (refine (call_no _ _).mono ?_; rintro e vn ⟨rfl, hbn⟩; replace st := st.call hbn; clear hbn)) | (with_reducible refine at_store 39 ?_; (first | refine mem_store' st 39 _ _ rfl (wanted_none rfl) _ Try.sizeOf39 ?_ | (refine mem_store' st 39 _ _ rfl (wanted_some rfl ?_) _ Try.sizeOf39 ?_; focus (simp [yielded, Act.put]; done))); refine ⟨3, _, _, _, _, _, rfl, rfl, rfl, rfl, rfl, rfl, ?_⟩; clear st; intro w7 st hw7m hw7z; simp [Act.eval, Act.put, Value.cells, putL] at st))
  have hc := fun j => st.cell (i := 3) rfl j
  refine bodyPost_ret (v := RepV (errR 4)) ?hr rfl ?_
  case hr => simp [results, Try.results10, go_sem, hc, RepV, errR]; try rfl
  rw [HE.out]
  exact ⟨rfl, KerTo.none h (HB.out _ _ st (by simp) (by simp))⟩

set_option maxRecDepth 100000 in
set_option maxHeartbeats 4000000 in
theorem kernel_Call_get_yes (h : KerAt ok w g k css Bs) (hk : ∀ x ∈ k.threads, x.ok) (hn : n < 4) (hx64 : ¬ 64 < c.text.size) (hkd : c.kind = 4) (o : KObj) (hob : k.obj c.t c.n = some o) (hf : flowsL o.label (k.thr n).label (k.thr n).own = true) :
    Calls Try.prog 10 #[.pointer (some ⟨g, 0, none⟩), .int .i64 n, reqV c la lc ga gc] w (CallPost ok w g Bs (callK k n c)) := by
  obtain ⟨x, xa, xc, oa, oc, ba, bc, ma, mc, ex, ec, eB, hT, hb⟩ := h.open hn
  have hx := hk x (List.mem_of_getElem? ex)
  have hpre := h.preLen hn
  have hth := Ker.thr_at ex
  rcases h.object c.t c.n with ⟨e, _⟩ | ⟨m, j, y, ya, yc, qa, qc, gb, off, bc2, ma2, mc2, o2, hm, et, en, ey, ecy, eBy, hTy, hoy, hob2, HOb⟩
  · rw [hob] at e; cases e
  rw [hob] at hob2
  cases hob2
  replace et := Lib.hid et
  replace en := Lib.hid en
  obtain ⟨pre2, cs2, post2, hb2, hpre2, ⟨la2, lc2, rfl, hlo⟩, _, _⟩ := hTy.objs.window hoy
  have HQ := Lib.hid (show ∃ q, q = off + j * 2 from ⟨_, rfl⟩)
  obtain ⟨q, hq⟩ := HQ.out
  rw [← hq] at hpre2 HOb
  replace HOb := Lib.hid HOb
  clear HQ
  replace hq := Lib.hid hq
  have hgb : g ≠ gb := fun e => h.gOut eBy (e ▸ mem_rows2.2 (.inl rfl))
  have hgbo : ¬ ok gb := h.apartAt eBy (mem_rows2.2 (.inl rfl))
  have hgbl : gb < w.heap.size := hTy.objs.lt rfl
  have ho := (hk y (List.mem_of_getElem? ey)).obj o (List.mem_of_getElem? hoy)
  have hol := goodL_len ho.1
  have hot := ho.2
  have st0 := St.hand2 hb hb2 hgb
  unfold thrC at st0
  have d1 : decide ((n : Int) < 0) = false := by simp
  have d2 : decide ((4 : Int) ≤ n) = false := by simp; omega
  have d64 := text_size hx64
  have hgg : ¬ ok g := h.apart g (by simp)
  have HKp := Lib.hid (show ∀ (W : World) (bl : Blks), St [g, gb] w W bl → Keeps ok w W from fun W bl s => s.keeps (by simpa using ⟨hgg, hgbo⟩))
  have HB := Lib.hid (show ∀ (W : World) (bl : Blks), St [g, gb] w W bl → (g, 60, winC (preC k css n) [.slice xa x.label.length xc, .slice oa x.own.length oc, .string x.text, .slice ba x.objects.length bc, .slice ma x.mails.length mc] (postC k css n)) ∈ bl → (gb, 56, winC pre2 [.slice la2 o.label.length lc2, .string o.text] post2) ∈ bl → Below w.heap.size w W from fun W bl s hm1 hm2 => st0.below2 s (by simpa using ⟨hm1, hm2⟩))
  have hxl := goodL_len hx.good; have hxo := hx.ownL; have hxm := hx.mailN; have hxb := hx.objs; have hxt := hx.text
  have st := st0
  clear st0
  unfold reqV
  have HE := Lib.hid (show callK k (n : Int) c = (k.put n { x with text := knowT x.text o.text }, ⟨0, o.text.size, ⟨#[]⟩⟩) by rw [hth] at hf; unfold callK; simp [hkd, hob, hf, hth])
  rw [hth] at hf
  have HF := Lib.hid (fun (W : World) (bl : Blks) (hW : St [g, gb] w W bl) => label_Flows (fun _ => True) W la2 xa oa lc2 xc oc o.label x.label x.own (by omega) (by omega) ((hlo.keep (HKp.out W _ hW)).okay fun _ _ => trivial) ((hT.label.keep (HKp.out W _ hW)).okay fun _ _ => trivial) ((hT.own.keep (HKp.out W _ hW)).okay fun _ _ => trivial))
  rw [hf] at HF
  clear hob hf
  rw [hkd]
  clear hkd
  go_enter Try.func10, Try.ntmps10
  go_wp2_with (first | go_skip | (go_at_call 24; go_must (refine (HOb.out _ (HB.out _ _ st (by simp) (by simp))).mono ?_; rintro e wo ⟨rfl, rfl⟩)) | (with_reducible refine at_box 27 ?_; refine mem_box st (wanted_none rfl) 27 _ rfl _ rfl _ rfl ?_; clear st; intro g5 w5 hg5 st hg5b; clear hg5b; simp [Act.eval, Act.put, Value.cells, putL] at st) | (with_reducible refine at_alloc 39 ?_; refine mem_alloc st (wanted_none rfl) 39 rfl _ Try.zeroValue39 _ rfl ?_; clear st; intro g6 w6 hg6 st hg6b; clear hg6b; simp [Act.eval, Act.put, Value.cells, putL] at st) | (with_reducible refine at_load 9 ?_; (first | refine mem_load' st 9 _ rfl (wanted_none rfl) Try.isAgg9 ?_ | (refine mem_load' st 9 _ rfl (wanted_some rfl ?_) Try.isAgg9 ?_; focus (simp [yielded, Act.put]; done))); refine ⟨2, _, _, _, _, _, rfl, rfl, rfl, ?_⟩) | (with_reducible refine at_load 3 ?_; (first | refine mem_load' st 3 _ rfl (wanted_none rfl) Try.isAgg3 ?_ | (refine mem_load' st 3 _ rfl (wanted_some rfl ?_) Try.isAgg3 ?_; focus (simp [yielded, Act.put]; done))); refine ⟨2, _, _, _, _, _, rfl, rfl, rfl, ?_⟩) | (go_at_call 21; go_must (refine (call_no _ _).mono ?_; rintro e vn ⟨rfl, hbn⟩; replace st := st.call hbn; clear hbn)) | (with_reducible refine at_store 39 ?_; (first | refine mem_store' st 39 _ _ rfl (wanted_none rfl) _ Try.sizeOf39 ?_ | (refine mem_store' st 39 _ _ rfl (wanted_some rfl ?_) _ Try.sizeOf39 ?_; focus (simp [yielded, Act.put]; done))); refine ⟨3, _, _, _, _, _, rfl, rfl, rfl, rfl, rfl, rfl, ?_⟩; clear st; intro w7 st hw7m hw7z; simp [Act.eval, Act.put, Value.cells, putL] at st))
  refine det_region (by kernel_rfl) 18 rfl (fun W => St [g, gb] w W [(g, 60, winC (preC k css n) [.slice xa x.label.length xc, .slice oa x.own.length oc, .string x.text, .slice ba x.objects.length bc, .slice ma x.mails.length mc] (postC k css n)), (gb, 56, winC pre2 [.slice la2 o.label.length lc2, .string o.text] post2), (g5, 27, [.int .i64 4, .int .i64 c.h, .int .i64 c.t, .int .i64 c.n, .int .i64 c.c, .slice la c.label.length lc, .slice ga c.grants.length gc, .string c.text]), (g6, 39, [.int .i64 0, .int .i64 0, .string ⟨#[]⟩])]) (st.drew) (by decide +kernel) ?_
  refine det_take 0 rfl (by decide +kernel) (by first | exact wanted_none rfl | exact wanted_some rfl rfl) (fun W hW => by first | (go_simp; done) | (go_simp; rfl)) ?_; simp only [Act.put, List.setIfInBounds_toArray, List.set_cons_succ, List.set_cons_zero]; refine det_take 1 rfl (by decide +kernel) (by first | exact wanted_none rfl | exact wanted_some rfl rfl) (fun W hW => by first | (go_simp; done) | (go_simp; rfl)) ?_; simp only [Act.put, List.setIfInBounds_toArray, List.set_cons_succ, List.set_cons_zero]; refine det_take 2 rfl (by decide +kernel) (by first | exact wanted_none rfl | exact wanted_some rfl rfl) (fun W hW => by first | (go_simp; done) | (go_simp; rfl)) ?_; simp only [Act.put, List.setIfInBounds_toArray, List.set_cons_succ, List.set_cons_zero]; refine det_take 3 rfl (by decide +kernel) (by first | exact wanted_none rfl | exact wanted_some rfl rfl) (fun W hW => by first | (go_simp; done) | (go_simp; rfl)) ?_; simp only [Act.put, List.setIfInBounds_toArray, List.set_cons_succ, List.set_cons_zero]; refine det_take 4 rfl (by decide +kernel) (by first | exact wanted_none rfl | exact wanted_some rfl rfl) (fun W hW => by first | (go_simp; done) | (go_simp; rfl)) ?_; simp only [Act.put, List.setIfInBounds_toArray, List.set_cons_succ, List.set_cons_zero]; refine det_take 5 rfl (by decide +kernel) (by first | exact wanted_none rfl | exact wanted_some rfl rfl) (fun W hW => by first | (go_simp; done) | (go_simp; rfl)) ?_; simp only [Act.put, List.setIfInBounds_toArray, List.set_cons_succ, List.set_cons_zero]
  refine det_take 6 rfl (by decide +kernel) (by first | exact wanted_none rfl | exact wanted_some rfl rfl) (fun W hW => St.run_loadW hW 1 24 _ rfl Try.isAgg24 0 hpre2 rfl rfl rfl) ?_; simp only [Act.put, List.setIfInBounds_toArray, List.set_cons_succ, List.set_cons_zero]
  refine det_take 7 rfl (by decide +kernel) (by first | exact wanted_none rfl | exact wanted_some rfl rfl) (fun W hW => by first | (go_simp; done) | (go_simp; rfl)) ?_; simp only [Act.put, List.setIfInBounds_toArray, List.set_cons_succ, List.set_cons_zero]; refine det_take 8 rfl (by decide +kernel) (by first | exact wanted_none rfl | exact wanted_some rfl rfl) (fun W hW => by first | (go_simp; done) | (go_simp; rfl)) ?_; simp only [Act.put, List.setIfInBounds_toArray, List.set_cons_succ, List.set_cons_zero]; refine det_take 9 rfl (by decide +kernel) (by first | exact wanted_none rfl | exact wanted_some rfl rfl) (fun W hW => by first | (go_simp; done) | (go_simp; rfl)) ?_; simp only [Act.put, List.setIfInBounds_toArray, List.set_cons_succ, List.set_cons_zero]
  refine det_take 10 rfl (by decide +kernel) (by first | exact wanted_none rfl | exact wanted_some rfl rfl) (fun W hW => St.run_loadW hW 0 24 _ rfl Try.isAgg24 0 hpre rfl rfl rfl) ?_; simp only [Act.put, List.setIfInBounds_toArray, List.set_cons_succ, List.set_cons_zero]
  refine det_take 11 rfl (by decide +kernel) (by first | exact wanted_none rfl | exact wanted_some rfl rfl) (fun W hW => by first | (go_simp; done) | (go_simp; rfl)) ?_; simp only [Act.put, List.setIfInBounds_toArray, List.set_cons_succ, List.set_cons_zero]; refine det_take 12 rfl (by decide +kernel) (by first | exact wanted_none rfl | exact wanted_some rfl rfl) (fun W hW => by first | (go_simp; done) | (go_simp; rfl)) ?_; simp only [Act.put, List.setIfInBounds_toArray, List.set_cons_succ, List.set_cons_zero]; refine det_take 13 rfl (by decide +kernel) (by first | exact wanted_none rfl | exact wanted_some rfl rfl) (fun W hW => by first | (go_simp; done) | (go_simp; rfl)) ?_; simp only [Act.put, List.setIfInBounds_toArray, List.set_cons_succ, List.set_cons_zero]
  refine det_take 14 rfl (by decide +kernel) (by first | exact wanted_none rfl | exact wanted_some rfl rfl) (fun W hW => St.run_loadW hW 0 25 _ rfl Try.isAgg25 1 hpre rfl rfl rfl) ?_; simp only [Act.put, List.setIfInBounds_toArray, List.set_cons_succ, List.set_cons_zero]
  refine det_call (fn := 15) 15 rfl (by decide +kernel) (by first | exact wanted_none rfl | exact wanted_some rfl rfl) (fun W => by first | (go_simp; done) | (go_simp; rfl)) (fun W hW => (HF.out W _ hW).mono fun e w' h => ⟨h.1, hW.call h.2⟩) ?_; simp only [Act.put, List.setIfInBounds_toArray, List.set_cons_succ, List.set_cons_zero]
  refine det_take 16 rfl (by decide +kernel) (by first | exact wanted_none rfl | exact wanted_some rfl rfl) (fun W hW => by first | (go_simp; done) | (go_simp; rfl)) ?_; simp only [Act.put, List.setIfInBounds_toArray, List.set_cons_succ, List.set_cons_zero]; refine det_take 17 rfl (by decide +kernel) (by first | exact wanted_none rfl | exact wanted_some rfl rfl) (fun W hW => by first | (go_simp; done) | (go_simp; rfl)) ?_; simp only [Act.put, List.setIfInBounds_toArray, List.set_cons_succ, List.set_cons_zero]
  refine det_done (by decide +kernel) ?_
  clear st
  intro W st
  go_wp2_with (first | go_skip | ((with_reducible refine at_load 9 ?_); refine mem_loadW st 9 _ rfl (wanted_none rfl) Try.isAgg9 1 ?_; refine ⟨1, _, _, _, _, _, _, _, hpre2, rfl, rfl, rfl, ?_⟩) | (go_at_call 25; go_must (refine (kernel_know _ g _ _ _ _ _ _ _ x.text o.text hpre (by omega) (by omega) (st.blk _ (List.mem_of_getElem? (i := 0) rfl))).mono ?_; rintro e W1 ⟨⟨u, rfl⟩, hk1⟩; replace st := st.turn (i := 0) rfl hk1; clear hk1; simp only [List.set_cons_zero] at st)) | (with_reducible refine at_store 39 ?_; (first | refine mem_store' st 39 _ _ rfl (wanted_none rfl) _ Try.sizeOf39 ?_ | (refine mem_store' st 39 _ _ rfl (wanted_some rfl ?_) _ Try.sizeOf39 ?_; focus (simp [yielded, Act.put]; done))); refine ⟨3, _, _, _, _, _, rfl, rfl, rfl, rfl, rfl, rfl, ?_⟩; clear st; intro w7 st hw7m hw7z; simp [Act.eval, Act.put, Value.cells, putL] at st))
  have hc := fun j => st.cell (i := 3) rfl j
  refine bodyPost_ret (v := RepV (⟨0, o.text.size, ⟨#[]⟩⟩)) ?hr rfl ?_
  case hr => simp [results, Try.results10, go_sem, hc, RepV, errR]; try rfl
  rw [HE.out]
  exact ⟨rfl, h.closeSame (made' := k.made) (x' := { x with text := knowT x.text o.text }) hn ec eB hT (st.drop2 (List.mem_of_getElem? (i := 1) rfl) hb2 (by simpa [thrC] using hgb) (by simp)) rfl rfl (h.fine eB ((hT.label.keep (HKp.out _ _ st)).okay fun _ r => .inl r)) (h.fine eB ((hT.own.keep (HKp.out _ _ st)).okay fun _ r => .inl r))⟩

end
end Go.Proofs.Ytnkfemjmfalamaa

/- The kernel's Call: an object written. (printed by gen_call2.py) -/
namespace Go.Proofs.Ytnkfemjmfalamaa
open Go.RowKit

section
variable (ok okc : Nat → Prop) (w : World) (g : Nat) (k : Ker) (css : List (List Value)) (Bs : List (List Nat)) (n : Nat) (c : Req) (la : Option Addr) (lc : Nat) (ga : Option Addr) (gc : Nat)

set_option maxRecDepth 100000 in
set_option maxHeartbeats 4000000 in
theorem kernel_Call_put_no (h : KerAt ok w g k css Bs) (hk : ∀ x ∈ k.threads, x.ok) (hn : n < 4) (hx64 : ¬ 64 < c.text.size) (hkd : c.kind = 3) (o : KObj) (hob : k.obj c.t c.n = some o) (hf : flowsL (k.thr n).label o.label (k.thr n).own = false) :
    Calls Try.prog 10 #[.pointer (some ⟨g, 0, none⟩), .int .i64 n, reqV c la lc ga gc] w (CallPost ok w g Bs (callK k n c)) := by
  obtain ⟨x, xa, xc, oa, oc, ba, bc, ma, mc, ex, ec, eB, hT, hb⟩ := h.open hn
  have hx := hk x (List.mem_of_getElem? ex)
  have hpre := h.preLen hn
  have hth := Ker.thr_at ex
  rcases h.object c.t c.n with ⟨e, _⟩ | ⟨m, j, y, ya, yc, qa, qc, gb, off, bc2, ma2, mc2, o2, hm, et, en, ey, ecy, eBy, hTy, hoy, hob2, HOb⟩
  · rw [hob] at e; cases e
  rw [hob] at hob2
  cases hob2
  replace et := Lib.hid et
  replace en := Lib.hid en
  obtain ⟨pre2, cs2, post2, hb2, hpre2, ⟨la2, lc2, rfl, hlo⟩, _, _⟩ := hTy.objs.window hoy
  have HQ := Lib.hid (show ∃ q, q = off + j * 2 from ⟨_, rfl⟩)
  obtain ⟨q, hq⟩ := HQ.out
  rw [← hq] at hpre2 HOb
  replace HOb := Lib.hid HOb
  clear HQ
  replace hq := Lib.hid hq
  have hgb : g ≠ gb := fun e => h.gOut eBy (e ▸ mem_rows2.2 (.inl rfl))
  have hgbo : ¬ ok gb := h.apartAt eBy (mem_rows2.2 (.inl rfl))
  have hgbl : gb < w.heap.size := hTy.objs.lt rfl
  have ho := (hk y (List.mem_of_getElem? ey)).obj o (List.mem_of_getElem? hoy)
  have hol := goodL_len ho.1
  have hot := ho.2
  have st0 := St.hand2 hb hb2 hgb
  unfold thrC at st0
  have d1 : decide ((n : Int) < 0) = false := by simp
  have d2 : decide ((4 : Int) ≤ n) = false := by simp; omega
  have d64 := text_size hx64
  have hgg : ¬ ok g := h.apart g (by simp)
  have HKp := Lib.hid (show ∀ (W : World) (bl : Blks), St [g, gb] w W bl → Keeps ok w W from fun W bl s => s.keeps (by simpa using ⟨hgg, hgbo⟩))
  have HB := Lib.hid (show ∀ (W : World) (bl : Blks), St [g, gb] w W bl → (g, 60, winC (preC k css n) [.slice xa x.label.length xc, .slice oa x.own.length oc, .string x.text, .slice ba x.objects.length bc, .slice ma x.mails.length mc] (postC k css n)) ∈ bl → (gb, 56, winC pre2 [.slice la2 o.label.length lc2, .string o.text] post2) ∈ bl → Below w.heap.size w W from fun W bl s hm1 hm2 => st0.below2 s (by simpa using ⟨hm1, hm2⟩))
  have hxl := goodL_len hx.good; have hxo := hx.ownL; have hxm := hx.mailN; have hxb := hx.objs; have hxt := hx.text
  have st := st0
  clear st0
  unfold reqV
  have HE := Lib.hid (show callK k (n : Int) c = (k, errR 0) by unfold callK; simp [hkd, hob, hf])
  rw [hth] at hf
  have HF := Lib.hid (fun (W : World) (bl : Blks) (hW : St [g, gb] w W bl) => label_Flows (fun _ => True) W xa la2 oa xc lc2 oc x.label o.label x.own (by omega) (by omega) ((hT.label.keep (HKp.out W _ hW)).okay fun _ _ => trivial) ((hlo.keep (HKp.out W _ hW)).okay fun _ _ => trivial) ((hT.own.keep (HKp.out W _ hW)).okay fun _ _ => trivial))
  rw [hf] at HF
  clear hob hf
  rw [hkd]
  clear hkd
  go_enter Try.func10, Try.ntmps10
  go_wp2_with (first | go_skip | (go_at_call 24; go_must (refine (HOb.out _ (HB.out _ _ st (by simp) (by simp))).mono ?_; rintro e wo ⟨rfl, rfl⟩)) | (with_reducible refine at_box 27 ?_; refine mem_box st (wanted_none rfl) 27 _ rfl _ rfl _ rfl ?_; clear st; intro g5 w5 hg5 st hg5b; clear hg5b; simp [Act.eval, Act.put, Value.cells, putL] at st) | (with_reducible refine at_alloc 39 ?_; refine mem_alloc st (wanted_none rfl) 39 rfl _ Try.zeroValue39 _ rfl ?_; clear st; intro g6 w6 hg6 st hg6b; clear hg6b; simp [Act.eval, Act.put, Value.cells, putL] at st) | (with_reducible refine at_load 9 ?_; (first | refine mem_load' st 9 _ rfl (wanted_none rfl) Try.isAgg9 ?_ | (refine mem_load' st 9 _ rfl (wanted_some rfl ?_) Try.isAgg9 ?_; focus (simp [yielded, Act.put]; done))); refine ⟨2, _, _, _, _, _, rfl, rfl, rfl, ?_⟩) | (with_reducible refine at_load 3 ?_; (first | refine mem_load' st 3 _ rfl (wanted_none rfl) Try.isAgg3 ?_ | (refine mem_load' st 3 _ rfl (wanted_some rfl ?_) Try.isAgg3 ?_; focus (simp [yielded, Act.put]; done))); refine ⟨2, _, _, _, _, _, rfl, rfl, rfl, ?_⟩) | (go_at_call 21; go_must (refine (call_no _ _).mono ?_; rintro e vn ⟨rfl, hbn⟩; replace st := st.call hbn; clear hbn)) | (with_reducible refine at_store 39 ?_; (first | refine mem_store' st 39 _ _ rfl (wanted_none rfl) _ Try.sizeOf39 ?_ | (refine mem_store' st 39 _ _ rfl (wanted_some rfl ?_) _ Try.sizeOf39 ?_; focus (simp [yielded, Act.put]; done))); refine ⟨3, _, _, _, _, _, rfl, rfl, rfl, rfl, rfl, rfl, ?_⟩; clear st; intro w7 st hw7m hw7z; simp [Act.eval, Act.put, Value.cells, putL] at st))
  refine det_region (by kernel_rfl) 17 rfl (fun W => St [g, gb] w W [(g, 60, winC (preC k css n) [.slice xa x.label.length xc, .slice oa x.own.length oc, .string x.text, .slice ba x.objects.length bc, .slice ma x.mails.length mc] (postC k css n)), (gb, 56, winC pre2 [.slice la2 o.label.length lc2, .string o.text] post2), (g5, 27, [.int .i64 3, .int .i64 c.h, .int .i64 c.t, .int .i64 c.n, .int .i64 c.c, .slice la c.label.length lc, .slice ga c.grants.length gc, .string c.text]), (g6, 39, [.int .i64 0, .int .i64 0, .string ⟨#[]⟩])]) (st.drew) (by decide +kernel) ?_
  refine det_take 0 rfl (by decide +kernel) (by first | exact wanted_none rfl | exact wanted_some rfl rfl) (fun W hW => by first | (go_simp; done) | (go_simp; rfl)) ?_; simp only [Act.put, List.setIfInBounds_toArray, List.set_cons_succ, List.set_cons_zero]; refine det_take 1 rfl (by decide +kernel) (by first | exact wanted_none rfl | exact wanted_some rfl rfl) (fun W hW => by first | (go_simp; done) | (go_simp; rfl)) ?_; simp only [Act.put, List.setIfInBounds_toArray, List.set_cons_succ, List.set_cons_zero]; refine det_take 2 rfl (by decide +kernel) (by first | exact wanted_none rfl | exact wanted_some rfl rfl) (fun W hW => by first | (go_simp; done) | (go_simp; rfl)) ?_; simp only [Act.put, List.setIfInBounds_toArray, List.set_cons_succ, List.set_cons_zero]; refine det_take 3 rfl (by decide +kernel) (by first | exact wanted_none rfl | exact wanted_some rfl rfl) (fun W hW => by first | (go_simp; done) | (go_simp; rfl)) ?_; simp only [Act.put, List.setIfInBounds_toArray, List.set_cons_succ, List.set_cons_zero]; refine det_take 4 rfl (by decide +kernel) (by first | exact wanted_none rfl | exact wanted_some rfl rfl) (fun W hW => by first | (go_simp; done) | (go_simp; rfl)) ?_; simp only [Act.put, List.setIfInBounds_toArray, List.set_cons_succ, List.set_cons_zero]; refine det_take 5 rfl (by decide +kernel) (by first | exact wanted_none rfl | exact wanted_some rfl rfl) (fun W hW => by first | (go_simp; done) | (go_simp; rfl)) ?_; simp only [Act.put, List.setIfInBounds_toArray, List.set_cons_succ, List.set_cons_zero]
  refine det_take 6 rfl (by decide +kernel) (by first | exact wanted_none rfl | exact wanted_some rfl rfl) (fun W hW => St.run_loadW hW 0 24 _ rfl Try.isAgg24 0 hpre rfl rfl rfl) ?_; simp only [Act.put, List.setIfInBounds_toArray, List.set_cons_succ, List.set_cons_zero]
  refine det_take 7 rfl (by decide +kernel) (by first | exact wanted_none rfl | exact wanted_some rfl rfl) (fun W hW => by first | (go_simp; done) | (go_simp; rfl)) ?_; simp only [Act.put, List.setIfInBounds_toArray, List.set_cons_succ, List.set_cons_zero]; refine det_take 8 rfl (by decide +kernel) (by first | exact wanted_none rfl | exact wanted_some rfl rfl) (fun W hW => by first | (go_simp; done) | (go_simp; rfl)) ?_; simp only [Act.put, List.setIfInBounds_toArray, List.set_cons_succ, List.set_cons_zero]; refine det_take 9 rfl (by decide +kernel) (by first | exact wanted_none rfl | exact wanted_some rfl rfl) (fun W hW => by first | (go_simp; done) | (go_simp; rfl)) ?_; simp only [Act.put, List.setIfInBounds_toArray, List.set_cons_succ, List.set_cons_zero]
  refine det_take 10 rfl (by decide +kernel) (by first | exact wanted_none rfl | exact wanted_some rfl rfl) (fun W hW => St.run_loadW hW 1 24 _ rfl Try.isAgg24 0 hpre2 rfl rfl rfl) ?_; simp only [Act.put, List.setIfInBounds_toArray, List.set_cons_succ, List.set_cons_zero]
  refine det_take 11 rfl (by decide +kernel) (by first | exact wanted_none rfl | exact wanted_some rfl rfl) (fun W hW => by first | (go_simp; done) | (go_simp; rfl)) ?_; simp only [Act.put, List.setIfInBounds_toArray, List.set_cons_succ, List.set_cons_zero]; refine det_take 12 rfl (by decide +kernel) (by first | exact wanted_none rfl | exact wanted_some rfl rfl) (fun W hW => by first | (go_simp; done) | (go_simp; rfl)) ?_; simp only [Act.put, List.setIfInBounds_toArray, List.set_cons_succ, List.set_cons_zero]; refine det_take 13 rfl (by decide +kernel) (by first | exact wanted_none rfl | exact wanted_some rfl rfl) (fun W hW => by first | (go_simp; done) | (go_simp; rfl)) ?_; simp only [Act.put, List.setIfInBounds_toArray, List.set_cons_succ, List.set_cons_zero]
  refine det_take 14 rfl (by decide +kernel) (by first | exact wanted_none rfl | exact wanted_some rfl rfl) (fun W hW => St.run_loadW hW 0 25 _ rfl Try.isAgg25 1 hpre rfl rfl rfl) ?_; simp only [Act.put, List.setIfInBounds_toArray, List.set_cons_succ, List.set_cons_zero]
  refine det_call (fn := 15) 15 rfl (by decide +kernel) (by first | exact wanted_none rfl | exact wanted_some rfl rfl) (fun W => by first | (go_simp; done) | (go_simp; rfl)) (fun W hW => (HF.out W _ hW).mono fun e w' h => ⟨h.1, hW.call h.2⟩) ?_; simp only [Act.put, List.setIfInBounds_toArray, List.set_cons_succ, List.set_cons_zero]
  refine det_take 16 rfl (by decide +kernel) (by first | exact wanted_none rfl | exact wanted_some rfl rfl) (fun W hW => by first | (go_simp; done) | (go_simp; rfl)) ?_; simp only [Act.put, List.setIfInBounds_toArray, List.set_cons_succ, List.set_cons_zero]
  refine det_done (by decide +kernel) ?_
  clear st
  intro W st
  go_wp2_with (first | go_skip | (go_at_call 21; go_must (refine (call_no _ _).mono ?_; rintro e vn ⟨rfl, hbn⟩; replace st := st.call hbn; clear hbn)) | (with_reducible refine at_store 39 ?_; (first | refine mem_store' st 39 _ _ rfl (wanted_none rfl) _ Try.sizeOf39 ?_ | (refine mem_store' st 39 _ _ rfl (wanted_some rfl ?_) _ Try.sizeOf39 ?_; focus (simp [yielded, Act.put]; done))); refine ⟨3, _, _, _, _, _, rfl, rfl, rfl, rfl, rfl, rfl, ?_⟩; clear st; intro w7 st hw7m hw7z; simp [Act.eval, Act.put, Value.cells, putL] at st))
  have hc := fun j => st.cell (i := 3) rfl j
  refine bodyPost_ret (v := RepV (errR 0)) ?hr rfl ?_
  case hr => simp [results, Try.results10, go_sem, hc, RepV, errR]; try rfl
  rw [HE.out]
  exact ⟨rfl, KerTo.none h (HB.out _ _ st (by simp) (by simp))⟩

set_option maxRecDepth 100000 in
set_option maxHeartbeats 4000000 in
theorem kernel_Call_put_yes (h : KerAt ok w g k css Bs) (hk : ∀ x ∈ k.threads, x.ok) (hn : n < 4) (hx64 : ¬ 64 < c.text.size) (hkd : c.kind = 3) (o : KObj) (hob : k.obj c.t c.n = some o) (hf : flowsL (k.thr n).label o.label (k.thr n).own = true) :
    Calls Try.prog 10 #[.pointer (some ⟨g, 0, none⟩), .int .i64 n, reqV c la lc ga gc] w (CallPost ok w g Bs (callK k n c)) := by
  obtain ⟨x, xa, xc, oa, oc, ba, bc, ma, mc, ex, ec, eB, hT, hb⟩ := h.open hn
  have hx := hk x (List.mem_of_getElem? ex)
  have hpre := h.preLen hn
  have hth := Ker.thr_at ex
  rcases h.object c.t c.n with ⟨e, _⟩ | ⟨m, j, y, ya, yc, qa, qc, gb, off, bc2, ma2, mc2, o2, hm, et, en, ey, ecy, eBy, hTy, hoy, hob2, HOb⟩
  · rw [hob] at e; cases e
  rw [hob] at hob2
  cases hob2
  replace et := Lib.hid et
  replace en := Lib.hid en
  obtain ⟨pre2, cs2, post2, hb2, hpre2, ⟨la2, lc2, rfl, hlo⟩, _, _⟩ := hTy.objs.window hoy
  have HQ := Lib.hid (show ∃ q, q = off + j * 2 from ⟨_, rfl⟩)
  obtain ⟨q, hq⟩ := HQ.out
  rw [← hq] at hpre2 HOb
  replace HOb := Lib.hid HOb
  clear HQ
  replace hq := Lib.hid hq
  have hgb : g ≠ gb := fun e => h.gOut eBy (e ▸ mem_rows2.2 (.inl rfl))
  have hgbo : ¬ ok gb := h.apartAt eBy (mem_rows2.2 (.inl rfl))
  have hgbl : gb < w.heap.size := hTy.objs.lt rfl
  have ho := (hk y (List.mem_of_getElem? ey)).obj o (List.mem_of_getElem? hoy)
  have hol := goodL_len ho.1
  have hot := ho.2
  have st0 := St.hand2 hb hb2 hgb
  unfold thrC at st0
  have d1 : decide ((n : Int) < 0) = false := by simp
  have d2 : decide ((4 : Int) ≤ n) = false := by simp; omega
  have d64 := text_size hx64
  have hgg : ¬ ok g := h.apart g (by simp)
  have HKp := Lib.hid (show ∀ (W : World) (bl : Blks), St [g, gb] w W bl → Keeps ok w W from fun W bl s => s.keeps (by simpa using ⟨hgg, hgbo⟩))
  have HB := Lib.hid (show ∀ (W : World) (bl : Blks), St [g, gb] w W bl → (g, 60, winC (preC k css n) [.slice xa x.label.length xc, .slice oa x.own.length oc, .string x.text, .slice ba x.objects.length bc, .slice ma x.mails.length mc] (postC k css n)) ∈ bl → (gb, 56, winC pre2 [.slice la2 o.label.length lc2, .string o.text] post2) ∈ bl → Below w.heap.size w W from fun W bl s hm1 hm2 => st0.below2 s (by simpa using ⟨hm1, hm2⟩))
  have hxl := goodL_len hx.good; have hxo := hx.ownL; have hxm := hx.mailN; have hxb := hx.objs; have hxt := hx.text
  have st := st0
  clear st0
  unfold reqV
  have HE := Lib.hid (show callK k (n : Int) c = (k.put m { y with objects := y.objects.set j ⟨o.label, knowT x.text c.text⟩ }, errR 0) by
    have hym : k.thr (m : Int) = y := Ker.thr_at ey
    have hob3 : k.obj (m : Int) (j : Int) = some o := by rw [← et.out, ← en.out]; exact hob
    rw [hth] at hf; unfold callK; simp [hkd, hf, hth, et.out, en.out, hym, hob3, Thr.putObj, Ker.put])
  rw [hth] at hf
  have HF := Lib.hid (fun (W : World) (bl : Blks) (hW : St [g, gb] w W bl) => label_Flows (fun _ => True) W xa la2 oa xc lc2 oc x.label o.label x.own (by omega) (by omega) ((hT.label.keep (HKp.out W _ hW)).okay fun _ _ => trivial) ((hlo.keep (HKp.out W _ hW)).okay fun _ _ => trivial) ((hT.own.keep (HKp.out W _ hW)).okay fun _ _ => trivial))
  rw [hf] at HF
  have hct : c.text.size ≤ 64 := by omega
  have hsz : (x.text ++ c.text).size = x.text.size + c.text.size := ByteArray.size_append
  have HKt := Lib.hid (show knowT x.text c.text = (x.text ++ c.text).extract ((x.text ++ c.text).size - 64) (x.text ++ c.text).size from rfl)
  have hle : (x.text ++ c.text).size ≤ 2000000 := by omega
  clear hsz
  clear hob hf
  rw [hkd]
  clear hkd
  go_enter Try.func10, Try.ntmps10
  go_wp2_with (first | go_skip | (go_at_call 24; go_must (refine (HOb.out _ (HB.out _ _ st (by simp) (by simp))).mono ?_; rintro e wo ⟨rfl, rfl⟩)) | (with_reducible refine at_box 27 ?_; refine mem_box st (wanted_none rfl) 27 _ rfl _ rfl _ rfl ?_; clear st; intro g5 w5 hg5 st hg5b; clear hg5b; simp [Act.eval, Act.put, Value.cells, putL] at st) | (with_reducible refine at_alloc 39 ?_; refine mem_alloc st (wanted_none rfl) 39 rfl _ Try.zeroValue39 _ rfl ?_; clear st; intro g6 w6 hg6 st hg6b; clear hg6b; simp [Act.eval, Act.put, Value.cells, putL] at st) | (with_reducible refine at_load 9 ?_; (first | refine mem_load' st 9 _ rfl (wanted_none rfl) Try.isAgg9 ?_ | (refine mem_load' st 9 _ rfl (wanted_some rfl ?_) Try.isAgg9 ?_; focus (simp [yielded, Act.put]; done))); refine ⟨2, _, _, _, _, _, rfl, rfl, rfl, ?_⟩) | (with_reducible refine at_load 3 ?_; (first | refine mem_load' st 3 _ rfl (wanted_none rfl) Try.isAgg3 ?_ | (refine mem_load' st 3 _ rfl (wanted_some rfl ?_) Try.isAgg3 ?_; focus (simp [yielded, Act.put]; done))); refine ⟨2, _, _, _, _, _, rfl, rfl, rfl, ?_⟩) | (go_at_call 21; go_must (refine (call_no _ _).mono ?_; rintro e vn ⟨rfl, hbn⟩; replace st := st.call hbn; clear hbn)) | (with_reducible refine at_store 39 ?_; (first | refine mem_store' st 39 _ _ rfl (wanted_none rfl) _ Try.sizeOf39 ?_ | (refine mem_store' st 39 _ _ rfl (wanted_some rfl ?_) _ Try.sizeOf39 ?_; focus (simp [yielded, Act.put]; done))); refine ⟨3, _, _, _, _, _, rfl, rfl, rfl, rfl, rfl, rfl, ?_⟩; clear st; intro w7 st hw7m hw7z; simp [Act.eval, Act.put, Value.cells, putL] at st))
  refine det_region (by kernel_rfl) 17 rfl (fun W => St [g, gb] w W [(g, 60, winC (preC k css n) [.slice xa x.label.length xc, .slice oa x.own.length oc, .string x.text, .slice ba x.objects.length bc, .slice ma x.mails.length mc] (postC k css n)), (gb, 56, winC pre2 [.slice la2 o.label.length lc2, .string o.text] post2), (g5, 27, [.int .i64 3, .int .i64 c.h, .int .i64 c.t, .int .i64 c.n, .int .i64 c.c, .slice la c.label.length lc, .slice ga c.grants.length gc, .string c.text]), (g6, 39, [.int .i64 0, .int .i64 0, .string ⟨#[]⟩])]) (st.drew) (by decide +kernel) ?_
  refine det_take 0 rfl (by decide +kernel) (by first | exact wanted_none rfl | exact wanted_some rfl rfl) (fun W hW => by first | (go_simp; done) | (go_simp; rfl)) ?_; simp only [Act.put, List.setIfInBounds_toArray, List.set_cons_succ, List.set_cons_zero]; refine det_take 1 rfl (by decide +kernel) (by first | exact wanted_none rfl | exact wanted_some rfl rfl) (fun W hW => by first | (go_simp; done) | (go_simp; rfl)) ?_; simp only [Act.put, List.setIfInBounds_toArray, List.set_cons_succ, List.set_cons_zero]; refine det_take 2 rfl (by decide +kernel) (by first | exact wanted_none rfl | exact wanted_some rfl rfl) (fun W hW => by first | (go_simp; done) | (go_simp; rfl)) ?_; simp only [Act.put, List.setIfInBounds_toArray, List.set_cons_succ, List.set_cons_zero]; refine det_take 3 rfl (by decide +kernel) (by first | exact wanted_none rfl | exact wanted_some rfl rfl) (fun W hW => by first | (go_simp; done) | (go_simp; rfl)) ?_; simp only [Act.put, List.setIfInBounds_toArray, List.set_cons_succ, List.set_cons_zero]; refine det_take 4 rfl (by decide +kernel) (by first | exact wanted_none rfl | exact wanted_some rfl rfl) (fun W hW => by first | (go_simp; done) | (go_simp; rfl)) ?_; simp only [Act.put, List.setIfInBounds_toArray, List.set_cons_succ, List.set_cons_zero]; refine det_take 5 rfl (by decide +kernel) (by first | exact wanted_none rfl | exact wanted_some rfl rfl) (fun W hW => by first | (go_simp; done) | (go_simp; rfl)) ?_; simp only [Act.put, List.setIfInBounds_toArray, List.set_cons_succ, List.set_cons_zero]
  refine det_take 6 rfl (by decide +kernel) (by first | exact wanted_none rfl | exact wanted_some rfl rfl) (fun W hW => St.run_loadW hW 0 24 _ rfl Try.isAgg24 0 hpre rfl rfl rfl) ?_; simp only [Act.put, List.setIfInBounds_toArray, List.set_cons_succ, List.set_cons_zero]
  refine det_take 7 rfl (by decide +kernel) (by first | exact wanted_none rfl | exact wanted_some rfl rfl) (fun W hW => by first | (go_simp; done) | (go_simp; rfl)) ?_; simp only [Act.put, List.setIfInBounds_toArray, List.set_cons_succ, List.set_cons_zero]; refine det_take 8 rfl (by decide +kernel) (by first | exact wanted_none rfl | exact wanted_some rfl rfl) (fun W hW => by first | (go_simp; done) | (go_simp; rfl)) ?_; simp only [Act.put, List.setIfInBounds_toArray, List.set_cons_succ, List.set_cons_zero]; refine det_take 9 rfl (by decide +kernel) (by first | exact wanted_none rfl | exact wanted_some rfl rfl) (fun W hW => by first | (go_simp; done) | (go_simp; rfl)) ?_; simp only [Act.put, List.setIfInBounds_toArray, List.set_cons_succ, List.set_cons_zero]
  refine det_take 10 rfl (by decide +kernel) (by first | exact wanted_none rfl | exact wanted_some rfl rfl) (fun W hW => St.run_loadW hW 1 24 _ rfl Try.isAgg24 0 hpre2 rfl rfl rfl) ?_; simp only [Act.put, List.setIfInBounds_toArray, List.set_cons_succ, List.set_cons_zero]
  refine det_take 11 rfl (by decide +kernel) (by first | exact wanted_none rfl | exact wanted_some rfl rfl) (fun W hW => by first | (go_simp; done) | (go_simp; rfl)) ?_; simp only [Act.put, List.setIfInBounds_toArray, List.set_cons_succ, List.set_cons_zero]; refine det_take 12 rfl (by decide +kernel) (by first | exact wanted_none rfl | exact wanted_some rfl rfl) (fun W hW => by first | (go_simp; done) | (go_simp; rfl)) ?_; simp only [Act.put, List.setIfInBounds_toArray, List.set_cons_succ, List.set_cons_zero]; refine det_take 13 rfl (by decide +kernel) (by first | exact wanted_none rfl | exact wanted_some rfl rfl) (fun W hW => by first | (go_simp; done) | (go_simp; rfl)) ?_; simp only [Act.put, List.setIfInBounds_toArray, List.set_cons_succ, List.set_cons_zero]
  refine det_take 14 rfl (by decide +kernel) (by first | exact wanted_none rfl | exact wanted_some rfl rfl) (fun W hW => St.run_loadW hW 0 25 _ rfl Try.isAgg25 1 hpre rfl rfl rfl) ?_; simp only [Act.put, List.setIfInBounds_toArray, List.set_cons_succ, List.set_cons_zero]
  refine det_call (fn := 15) 15 rfl (by decide +kernel) (by first | exact wanted_none rfl | exact wanted_some rfl rfl) (fun W => by first | (go_simp; done) | (go_simp; rfl)) (fun W hW => (HF.out W _ hW).mono fun e w' h => ⟨h.1, hW.call h.2⟩) ?_; simp only [Act.put, List.setIfInBounds_toArray, List.set_cons_succ, List.set_cons_zero]
  refine det_take 16 rfl (by decide +kernel) (by first | exact wanted_none rfl | exact wanted_some rfl rfl) (fun W hW => by first | (go_simp; done) | (go_simp; rfl)) ?_; simp only [Act.put, List.setIfInBounds_toArray, List.set_cons_succ, List.set_cons_zero]
  refine det_done (by decide +kernel) ?_
  clear st
  intro W st
  go_wp2_with (first | go_skip | fail)
  refine det_region (by kernel_rfl) 8 rfl (fun W => St [g, gb] w W [(g, 60, winC (preC k css n) [.slice xa x.label.length xc, .slice oa x.own.length oc, .string x.text, .slice ba x.objects.length bc, .slice ma x.mails.length mc] (postC k css n)), (gb, 56, winC pre2 [.slice la2 o.label.length lc2, .string o.text] post2), (g5, 27, [.int .i64 3, .int .i64 c.h, .int .i64 c.t, .int .i64 c.n, .int .i64 c.c, .slice la c.label.length lc, .slice ga c.grants.length gc, .string c.text]), (g6, 39, [.int .i64 0, .int .i64 0, .string ⟨#[]⟩])]) (st.drew) (by decide +kernel) ?_
  refine det_take 0 rfl (by decide +kernel) (by first | exact wanted_none rfl | exact wanted_some rfl rfl) (fun W hW => by first | (go_simp; done) | (go_simp; rfl)) ?_; simp only [Act.put, List.setIfInBounds_toArray, List.set_cons_succ, List.set_cons_zero]; refine det_take 1 rfl (by decide +kernel) (by first | exact wanted_none rfl | exact wanted_some rfl rfl) (fun W hW => by first | (go_simp; done) | (go_simp; rfl)) ?_; simp only [Act.put, List.setIfInBounds_toArray, List.set_cons_succ, List.set_cons_zero]; refine det_take 2 rfl (by decide +kernel) (by first | exact wanted_none rfl | exact wanted_some rfl rfl) (fun W hW => by first | (go_simp; done) | (go_simp; rfl)) ?_; simp only [Act.put, List.setIfInBounds_toArray, List.set_cons_succ, List.set_cons_zero]
  refine det_take 3 rfl (by decide +kernel) (by first | exact wanted_none rfl | exact wanted_some rfl rfl) (fun W hW => St.run_loadW hW 0 9 _ rfl Try.isAgg9 2 hpre rfl rfl rfl) ?_; simp only [Act.put, List.setIfInBounds_toArray, List.set_cons_succ, List.set_cons_zero]
  refine det_take 4 rfl (by decide +kernel) (by first | exact wanted_none rfl | exact wanted_some rfl rfl) (fun W hW => by first | (go_simp; done) | (go_simp; rfl)) ?_; simp only [Act.put, List.setIfInBounds_toArray, List.set_cons_succ, List.set_cons_zero]
  refine det_take 5 rfl (by decide +kernel) (by first | exact wanted_none rfl | exact wanted_some rfl rfl) (fun W hW => St.run_load hW 2 9 _ rfl Try.isAgg9 rfl rfl rfl) ?_; simp only [Act.put, List.setIfInBounds_toArray, List.set_cons_succ, List.set_cons_zero]
  refine det_take (v := .string (x.text ++ c.text)) 6 rfl (by decide +kernel) (by first | exact wanted_none rfl | exact wanted_some rfl rfl) (fun W hW => by (go_simp; omega)) ?_; simp only [Act.put, List.setIfInBounds_toArray, List.set_cons_succ, List.set_cons_zero]
  refine det_take 7 rfl (by decide +kernel) (by first | exact wanted_none rfl | exact wanted_some rfl rfl) (fun W hW => by first | (go_simp; done) | (go_simp; rfl)) ?_; simp only [Act.put, List.setIfInBounds_toArray, List.set_cons_succ, List.set_cons_zero]
  refine det_done (by decide +kernel) ?_
  clear st
  intro W2 st
  generalize hS : x.text ++ c.text = S at *
  replace hS := Lib.hid hS
  obtain ⟨mm, hmm⟩ : ∃ mm, mm = S.size - 64 := ⟨_, rfl⟩
  have hw1 : IntKind.i64.wrap ((S.size : Int) - 64) = (S.size : Int) - 64 := IntWalk.i64_in _ (by omega)
  have hml : mm ≤ S.size := by omega
  have h64 : ((if 64 < (S.size : Int) then (S.size : Int) - 64 else 0) : Int) = (mm : Int) := by split <;> omega
  replace hmm := Lib.hid hmm
  go_wp2_with (first | go_skip | ((with_reducible refine at_store 9 ?_); refine mem_storeW st 9 _ _ rfl (wanted_none rfl) _ Try.sizeOf9 1 ?_; refine ⟨1, _, _, _, _, _, _, _, hpre2, rfl, rfl, rfl, rfl, rfl, rfl, ?_⟩; clear st; intro w8 st hw8m hw8z; simp [Act.eval, Act.put, Value.cells, putL] at st) | (go_at_call 21; go_must (refine (call_no _ _).mono ?_; rintro e vn ⟨rfl, hbn⟩; replace st := st.call hbn; clear hbn)) | (with_reducible refine at_store 39 ?_; (first | refine mem_store' st 39 _ _ rfl (wanted_none rfl) _ Try.sizeOf39 ?_ | (refine mem_store' st 39 _ _ rfl (wanted_some rfl ?_) _ Try.sizeOf39 ?_; focus (simp [yielded, Act.put]; done))); refine ⟨3, _, _, _, _, _, rfl, rfl, rfl, rfl, rfl, rfl, ?_⟩; clear st; intro w7 st hw7m hw7z; simp [Act.eval, Act.put, Value.cells, putL] at st))
  have hc := fun j => st.cell (i := 3) rfl j
  refine bodyPost_ret (v := RepV (errR 0)) ?hr rfl ?_
  case hr => simp [results, Try.results10, go_sem, hc, RepV, errR]; try rfl
  rw [HE.out]
  refine ⟨rfl, ?_⟩
  have emm : (max 0 ((S.size : Int) - 64)).toNat = mm := by have := hmm.out; omega
  rw [emm] at st
  rw [HKt.out, ← hmm.out]
  have e0 : w7.heap[g]? = w.heap[g]? := by rw [st.blk _ (List.mem_of_getElem? (i := 0) rfl), hb]; rfl
  have hbm : w.heap[g]? = some (.cells (winC (preC k css m) (thrC y ya yc qa qc (some ⟨gb, off, none⟩) bc2 ma2 mc2) (postC k css m)).toArray 60 (0, 0)) := by rw [← h.cells hm ecy]; exact h.blk
  have hokw : ∀ b, b < w.heap.size → ok b → ((ok b ∨ w.heap.size ≤ b) ∧ b ∉ g :: rows2 (some ⟨gb, off, none⟩) ma2) ∧ w7.heap[b]? = w.heap[b]? := fun b hb ho => by
    refine ⟨⟨.inl ho, fun hm => ?_⟩, (HKp.out _ _ st).block b hb ho⟩
    rcases List.mem_cons.1 hm with rfl | hm
    · exact hgg ho
    · exact h.apartAt eBy hm ho
  have hok2 : ∀ cs z, RObj ok w cs z → RObj (fun b => (ok b ∨ w.heap.size ≤ b) ∧ b ∉ g :: rows2 (some ⟨gb, off, none⟩) ma2) w7 cs z := fun cs z r => r.move st.size hokw
  refine h.close (made' := k.made) hm ecy eBy (cs' := thrC y ya yc qa qc (some ⟨gb, off, none⟩) bc2 ma2 mc2) (x' := { y with objects := y.objects.set j ⟨o.label, S.extract mm S.size⟩ }) (B' := rows2 (some ⟨gb, off, none⟩) ma2) (st.wider (by simp [rows2])) (by rw [e0]; exact hbm)
    ⟨ya, yc, qa, qc, some ⟨gb, off, none⟩, bc2, ma2, mc2, by simp [thrC], ⟨hTy.label.move st.size hokw fun _ _ r => r, hTy.own.move st.size hokw fun _ _ r => r, ?_, ?_⟩, rfl⟩ (flatten_nodup (List.nodup_cons.1 h.nodup).2 eBy) fun b hb => .inl hb
  · refine hTy.objs.set (List.getElem?_eq_some_iff.1 hoy).1 hok2 (cs' := [.slice la2 o.label.length lc2, .string (S.extract mm S.size)]) ⟨la2, lc2, rfl, hlo.move st.size hokw fun _ _ r => r⟩ rfl (by simp [Value.oneCell']) fun cells hc => ?_
    rw [hb2] at hc
    have hcl : winC pre2 [.slice la2 o.label.length lc2, .string o.text] post2 = cells := by simpa using hc
    rw [← hcl, ← hq.out]
    have := putL_winC (pre := pre2) (win := [.slice la2 o.label.length lc2, .string o.text]) (post := post2) (j := 0) (vs := [.slice la2 o.label.length lc2, .string (S.extract mm S.size)]) hpre2 (by simp)
    rw [Nat.add_zero] at this
    rw [this]
    exact st.blk _ (List.mem_of_getElem? (i := 1) rfl)
  · exact hTy.mails.kept (fun b e => st.frame b (hTy.mails.lt e) (by
      simp
      exact ⟨fun e2 => h.gOut eBy (e2 ▸ mem_rows2.2 (.inr e)), fun e2 => h.rowsNe eBy (b := gb) rfl (e2 ▸ e)⟩)) fun _ _ r => r.move st.size hokw

end
end Go.Proofs.Ytnkfemjmfalamaa

/- The kernel's Call: an object made. (printed by gen_call2.py) -/
namespace Go.Proofs.Ytnkfemjmfalamaa
open Go.RowKit

section
variable (ok okc : Nat → Prop) (w : World) (g : Nat) (k : Ker) (css : List (List Value)) (Bs : List (List Nat)) (n : Nat) (c : Req) (la : Option Addr) (lc : Nat) (ga : Option Addr) (gc : Nat)

set_option maxRecDepth 100000 in
set_option maxHeartbeats 4000000 in
theorem kernel_Call_object_bad (h : KerAt ok w g k css Bs) (hk : ∀ x ∈ k.threads, x.ok) (hn : n < 4) (hx64 : ¬ 64 < c.text.size) (hkd : c.kind = 2) (hll : c.label.length * 16 ≤ 140737488351232) (hcl : SlR okc w 2 RLev la lc c.label) (hgl : goodL c.label = false) :
    Calls Try.prog 10 #[.pointer (some ⟨g, 0, none⟩), .int .i64 n, reqV c la lc ga gc] w (CallPost ok w g Bs (callK k n c)) := by
  obtain ⟨x, xa, xc, oa, oc, ba, bc, ma, mc, ex, ec, eB, hT, hb⟩ := h.open hn
  have hx := hk x (List.mem_of_getElem? ex)
  have hpre := h.preLen hn
  have hth := Ker.thr_at ex
  have st0 := St.hand hb
  unfold thrC at st0
  have d1 : decide ((n : Int) < 0) = false := by simp
  have d2 : decide ((4 : Int) ≤ n) = false := by simp; omega
  have d64 := text_size hx64
  have hgg : ¬ ok g := h.apart g (by simp)
  have HKp := Lib.hid (show ∀ (W : World) (bl : Blks), St [g] w W bl → Keeps ok w W from fun W bl s => s.keeps (by simpa using hgg))
  have HB := Lib.hid (show ∀ (W : World) (bl : Blks), St [g] w W bl → (g, 60, winC (preC k css n) [.slice xa x.label.length xc, .slice oa x.own.length oc, .string x.text, .slice ba x.objects.length bc, .slice ma x.mails.length mc] (postC k css n)) ∈ bl → Below w.heap.size w W from fun W bl s hm => st0.below2 s (by simpa using hm))
  have hxl := goodL_len hx.good; have hxo := hx.ownL; have hxm := hx.mailN; have hxb := hx.objs; have hxt := hx.text
  have st := st0
  clear st0
  unfold reqV
  have HG := Lib.hid (fun (W : World) (hW : Below w.heap.size w W) => label_Good okc W la lc c.label (by omega) (hcl.below hW))
  have HE := Lib.hid (show callK k (n : Int) c = (k, errR 2) by unfold callK; simp [hkd, hgl])
  rw [hgl] at HG
  clear hgl
  rw [hkd]
  clear hkd
  go_enter Try.func10, Try.ntmps10
  go_wp2_with (first | go_skip | (with_reducible refine at_load 24 ?_; (first | refine mem_load' st 24 _ rfl (wanted_none rfl) Try.isAgg24 ?_ | (refine mem_load' st 24 _ rfl (wanted_some rfl ?_) Try.isAgg24 ?_; focus (simp [yielded, Act.put]; done))); refine ⟨1, _, _, _, _, _, rfl, rfl, rfl, ?_⟩) | (go_at_call 14; go_must (refine (HG.out _ (HB.out _ _ st (by simp))).mono ?_; rintro e vg ⟨rfl, hbg⟩; replace st := st.call hbg; clear hbg)) | (with_reducible refine at_box 27 ?_; refine mem_box st (wanted_none rfl) 27 _ rfl _ rfl _ rfl ?_; clear st; intro g5 w5 hg5 st hg5b; clear hg5b; simp [Act.eval, Act.put, Value.cells, putL] at st) | (with_reducible refine at_alloc 39 ?_; refine mem_alloc st (wanted_none rfl) 39 rfl _ Try.zeroValue39 _ rfl ?_; clear st; intro g6 w6 hg6 st hg6b; clear hg6b; simp [Act.eval, Act.put, Value.cells, putL] at st) | (with_reducible refine at_load 9 ?_; (first | refine mem_load' st 9 _ rfl (wanted_none rfl) Try.isAgg9 ?_ | (refine mem_load' st 9 _ rfl (wanted_some rfl ?_) Try.isAgg9 ?_; focus (simp [yielded, Act.put]; done))); refine ⟨1, _, _, _, _, _, rfl, rfl, rfl, ?_⟩) | (with_reducible refine at_load 3 ?_; (first | refine mem_load' st 3 _ rfl (wanted_none rfl) Try.isAgg3 ?_ | (refine mem_load' st 3 _ rfl (wanted_some rfl ?_) Try.isAgg3 ?_; focus (simp [yielded, Act.put]; done))); refine ⟨1, _, _, _, _, _, rfl, rfl, rfl, ?_⟩) | (go_at_call 21; go_must (refine (call_no _ _).mono ?_; rintro e vn ⟨rfl, hbn⟩; replace st := st.call hbn; clear hbn)) | (with_reducible refine at_store 39 ?_; (first | refine mem_store' st 39 _ _ rfl (wanted_none rfl) _ Try.sizeOf39 ?_ | (refine mem_store' st 39 _ _ rfl (wanted_some rfl ?_) _ Try.sizeOf39 ?_; focus (simp [yielded, Act.put]; done))); refine ⟨2, _, _, _, _, _, rfl, rfl, rfl, rfl, rfl, rfl, ?_⟩; clear st; intro w7 st hw7m hw7z; simp [Act.eval, Act.put, Value.cells, putL] at st) | (go_at_call 21; go_must (refine (call_no _ _).mono ?_; rintro e vn ⟨rfl, hbn⟩; replace st := st.call hbn; clear hbn)))

  have hc := fun j => st.cell (i := 2) rfl j
  refine bodyPost_ret (v := RepV (errR 2)) ?hr rfl ?_
  case hr => simp [results, Try.results10, go_sem, hc, RepV, errR]; try rfl
  rw [HE.out]
  exact ⟨rfl, KerTo.none h (HB.out _ _ st (by simp))⟩

set_option maxRecDepth 100000 in
set_option maxHeartbeats 4000000 in
theorem kernel_Call_object_no (h : KerAt ok w g k css Bs) (hk : ∀ x ∈ k.threads, x.ok) (hn : n < 4) (hx64 : ¬ 64 < c.text.size) (hkd : c.kind = 2) (hll : c.label.length * 16 ≤ 140737488351232) (hcl : SlR okc w 2 RLev la lc c.label) (hgl : goodL c.label = true) (hf : flowsL (k.thr n).label c.label (k.thr n).own = false) :
    Calls Try.prog 10 #[.pointer (some ⟨g, 0, none⟩), .int .i64 n, reqV c la lc ga gc] w (CallPost ok w g Bs (callK k n c)) := by
  obtain ⟨x, xa, xc, oa, oc, ba, bc, ma, mc, ex, ec, eB, hT, hb⟩ := h.open hn
  have hx := hk x (List.mem_of_getElem? ex)
  have hpre := h.preLen hn
  have hth := Ker.thr_at ex
  have st0 := St.hand hb
  unfold thrC at st0
  have d1 : decide ((n : Int) < 0) = false := by simp
  have d2 : decide ((4 : Int) ≤ n) = false := by simp; omega
  have d64 := text_size hx64
  have hgg : ¬ ok g := h.apart g (by simp)
  have HKp := Lib.hid (show ∀ (W : World) (bl : Blks), St [g] w W bl → Keeps ok w W from fun W bl s => s.keeps (by simpa using hgg))
  have HB := Lib.hid (show ∀ (W : World) (bl : Blks), St [g] w W bl → (g, 60, winC (preC k css n) [.slice xa x.label.length xc, .slice oa x.own.length oc, .string x.text, .slice ba x.objects.length bc, .slice ma x.mails.length mc] (postC k css n)) ∈ bl → Below w.heap.size w W from fun W bl s hm => st0.below2 s (by simpa using hm))
  have hxl := goodL_len hx.good; have hxo := hx.ownL; have hxm := hx.mailN; have hxb := hx.objs; have hxt := hx.text
  have st := st0
  clear st0
  unfold reqV
  have HG := Lib.hid (fun (W : World) (hW : Below w.heap.size w W) => label_Good okc W la lc c.label (by omega) (hcl.below hW))
  rw [hth] at hf
  have HE := Lib.hid (show callK k (n : Int) c = (k, errR 6) by unfold callK; simp [hkd, hgl, hth, hf])
  have hl8 := goodL_len hgl
  have HF := Lib.hid (fun (W : World) (hW : Below w.heap.size w W) => label_Flows (fun _ => True) W xa la oa xc lc oc x.label c.label x.own (by omega) (by omega) ((hT.label.below hW).okay fun _ _ => trivial) ((hcl.below hW).okay fun _ _ => trivial) ((hT.own.below hW).okay fun _ _ => trivial))
  rw [hgl] at HG
  rw [hf] at HF
  clear hgl hf
  rw [hkd]
  clear hkd
  go_enter Try.func10, Try.ntmps10
  go_wp2_with (first | go_skip | (with_reducible refine at_load 24 ?_; (first | refine mem_load' st 24 _ rfl (wanted_none rfl) Try.isAgg24 ?_ | (refine mem_load' st 24 _ rfl (wanted_some rfl ?_) Try.isAgg24 ?_; focus (simp [yielded, Act.put]; done))); refine ⟨1, _, _, _, _, _, rfl, rfl, rfl, ?_⟩) | (go_at_call 14; go_must (refine (HG.out _ (HB.out _ _ st (by simp))).mono ?_; rintro e vg ⟨rfl, hbg⟩; replace st := st.call hbg; clear hbg)) | (with_reducible refine at_box 27 ?_; refine mem_box st (wanted_none rfl) 27 _ rfl _ rfl _ rfl ?_; clear st; intro g5 w5 hg5 st hg5b; clear hg5b; simp [Act.eval, Act.put, Value.cells, putL] at st) | (with_reducible refine at_alloc 39 ?_; refine mem_alloc st (wanted_none rfl) 39 rfl _ Try.zeroValue39 _ rfl ?_; clear st; intro g6 w6 hg6 st hg6b; clear hg6b; simp [Act.eval, Act.put, Value.cells, putL] at st) | (with_reducible refine at_load 9 ?_; (first | refine mem_load' st 9 _ rfl (wanted_none rfl) Try.isAgg9 ?_ | (refine mem_load' st 9 _ rfl (wanted_some rfl ?_) Try.isAgg9 ?_; focus (simp [yielded, Act.put]; done))); refine ⟨1, _, _, _, _, _, rfl, rfl, rfl, ?_⟩) | (with_reducible refine at_load 3 ?_; (first | refine mem_load' st 3 _ rfl (wanted_none rfl) Try.isAgg3 ?_ | (refine mem_load' st 3 _ rfl (wanted_some rfl ?_) Try.isAgg3 ?_; focus (simp [yielded, Act.put]; done))); refine ⟨1, _, _, _, _, _, rfl, rfl, rfl, ?_⟩) | (go_at_call 21; go_must (refine (call_no _ _).mono ?_; rintro e vn ⟨rfl, hbn⟩; replace st := st.call hbn; clear hbn)) | (with_reducible refine at_store 39 ?_; (first | refine mem_store' st 39 _ _ rfl (wanted_none rfl) _ Try.sizeOf39 ?_ | (refine mem_store' st 39 _ _ rfl (wanted_some rfl ?_) _ Try.sizeOf39 ?_; focus (simp [yielded, Act.put]; done))); refine ⟨2, _, _, _, _, _, rfl, rfl, rfl, rfl, rfl, rfl, ?_⟩; clear st; intro w7 st hw7m hw7z; simp [Act.eval, Act.put, Value.cells, putL] at st))
  refine det_region (by kernel_rfl) 13 rfl (fun W => St [g] w W [(g, 60, winC (preC k css n) [.slice xa x.label.length xc, .slice oa x.own.length oc, .string x.text, .slice ba x.objects.length bc, .slice ma x.mails.length mc] (postC k css n)), (g5, 27, [.int .i64 2, .int .i64 c.h, .int .i64 c.t, .int .i64 c.n, .int .i64 c.c, .slice la c.label.length lc, .slice ga c.grants.length gc, .string c.text]), (g6, 39, [.int .i64 0, .int .i64 0, .string ⟨#[]⟩])]) (st.drew) (by decide +kernel) ?_
  refine det_take 0 rfl (by decide +kernel) (by first | exact wanted_none rfl | exact wanted_some rfl rfl) (fun W hW => by first | (go_simp; done) | (go_simp; rfl)) ?_; simp only [Act.put, List.setIfInBounds_toArray, List.set_cons_succ, List.set_cons_zero]; refine det_take 1 rfl (by decide +kernel) (by first | exact wanted_none rfl | exact wanted_some rfl rfl) (fun W hW => by first | (go_simp; done) | (go_simp; rfl)) ?_; simp only [Act.put, List.setIfInBounds_toArray, List.set_cons_succ, List.set_cons_zero]; refine det_take 2 rfl (by decide +kernel) (by first | exact wanted_none rfl | exact wanted_some rfl rfl) (fun W hW => by first | (go_simp; done) | (go_simp; rfl)) ?_; simp only [Act.put, List.setIfInBounds_toArray, List.set_cons_succ, List.set_cons_zero]
  refine det_take 3 rfl (by decide +kernel) (by first | exact wanted_none rfl | exact wanted_some rfl rfl) (fun W hW => St.run_loadW hW 0 24 _ rfl Try.isAgg24 0 hpre rfl rfl rfl) ?_; simp only [Act.put, List.setIfInBounds_toArray, List.set_cons_succ, List.set_cons_zero]
  refine det_take 4 rfl (by decide +kernel) (by first | exact wanted_none rfl | exact wanted_some rfl rfl) (fun W hW => by first | (go_simp; done) | (go_simp; rfl)) ?_; simp only [Act.put, List.setIfInBounds_toArray, List.set_cons_succ, List.set_cons_zero]
  refine det_take 5 rfl (by decide +kernel) (by first | exact wanted_none rfl | exact wanted_some rfl rfl) (fun W hW => St.run_load hW 1 24 _ rfl Try.isAgg24 rfl rfl rfl) ?_; simp only [Act.put, List.setIfInBounds_toArray, List.set_cons_succ, List.set_cons_zero]
  refine det_take 6 rfl (by decide +kernel) (by first | exact wanted_none rfl | exact wanted_some rfl rfl) (fun W hW => by first | (go_simp; done) | (go_simp; rfl)) ?_; simp only [Act.put, List.setIfInBounds_toArray, List.set_cons_succ, List.set_cons_zero]; refine det_take 7 rfl (by decide +kernel) (by first | exact wanted_none rfl | exact wanted_some rfl rfl) (fun W hW => by first | (go_simp; done) | (go_simp; rfl)) ?_; simp only [Act.put, List.setIfInBounds_toArray, List.set_cons_succ, List.set_cons_zero]; refine det_take 8 rfl (by decide +kernel) (by first | exact wanted_none rfl | exact wanted_some rfl rfl) (fun W hW => by first | (go_simp; done) | (go_simp; rfl)) ?_; simp only [Act.put, List.setIfInBounds_toArray, List.set_cons_succ, List.set_cons_zero]
  refine det_take 9 rfl (by decide +kernel) (by first | exact wanted_none rfl | exact wanted_some rfl rfl) (fun W hW => St.run_loadW hW 0 25 _ rfl Try.isAgg25 1 hpre rfl rfl rfl) ?_; simp only [Act.put, List.setIfInBounds_toArray, List.set_cons_succ, List.set_cons_zero]
  refine det_call (fn := 15) 10 rfl (by decide +kernel) (by first | exact wanted_none rfl | exact wanted_some rfl rfl) (fun W => by first | (go_simp; done) | (go_simp; rfl)) (fun W hW => (HF.out W (HB.out W _ hW (by simp))).mono fun e w' h => ⟨h.1, hW.call h.2⟩) ?_; simp only [Act.put, List.setIfInBounds_toArray, List.set_cons_succ, List.set_cons_zero]
  refine det_take 11 rfl (by decide +kernel) (by first | exact wanted_none rfl | exact wanted_some rfl rfl) (fun W hW => by first | (go_simp; done) | (go_simp; rfl)) ?_; simp only [Act.put, List.setIfInBounds_toArray, List.set_cons_succ, List.set_cons_zero]; refine det_take 12 rfl (by decide +kernel) (by first | exact wanted_none rfl | exact wanted_some rfl rfl) (fun W hW => by first | (go_simp; done) | (go_simp; rfl)) ?_; simp only [Act.put, List.setIfInBounds_toArray, List.set_cons_succ, List.set_cons_zero]
  refine det_done (by decide +kernel) ?_
  clear st
  intro W st
  go_wp2_with (first | go_skip | (go_at_call 21; go_must (refine (call_no _ _).mono ?_; rintro e vn ⟨rfl, hbn⟩; replace st := st.call hbn; clear hbn)) | (with_reducible refine at_store 39 ?_; (first | refine mem_store' st 39 _ _ rfl (wanted_none rfl) _ Try.sizeOf39 ?_ | (refine mem_store' st 39 _ _ rfl (wanted_some rfl ?_) _ Try.sizeOf39 ?_; focus (simp [yielded, Act.put]; done))); refine ⟨2, _, _, _, _, _, rfl, rfl, rfl, rfl, rfl, rfl, ?_⟩; clear st; intro w7 st hw7m hw7z; simp [Act.eval, Act.put, Value.cells, putL] at st))
  have hc := fun j => st.cell (i := 2) rfl j
  refine bodyPost_ret (v := RepV (errR 6)) ?hr rfl ?_
  case hr => simp [results, Try.results10, go_sem, hc, RepV, errR]; try rfl
  rw [HE.out]
  exact ⟨rfl, KerTo.none h (HB.out _ _ st (by simp))⟩

set_option maxRecDepth 100000 in
set_option maxHeartbeats 4000000 in
theorem kernel_Call_object_full (h : KerAt ok w g k css Bs) (hk : ∀ x ∈ k.threads, x.ok) (hn : n < 4) (hx64 : ¬ 64 < c.text.size) (hkd : c.kind = 2) (hll : c.label.length * 16 ≤ 140737488351232) (hcl : SlR okc w 2 RLev la lc c.label) (hgl : goodL c.label = true) (hf : flowsL (k.thr n).label c.label (k.thr n).own = true) (h4 : 4 ≤ (k.thr n).objects.length) :
    Calls Try.prog 10 #[.pointer (some ⟨g, 0, none⟩), .int .i64 n, reqV c la lc ga gc] w (CallPost ok w g Bs (callK k n c)) := by
  obtain ⟨x, xa, xc, oa, oc, ba, bc, ma, mc, ex, ec, eB, hT, hb⟩ := h.open hn
  have hx := hk x (List.mem_of_getElem? ex)
  have hpre := h.preLen hn
  have hth := Ker.thr_at ex
  have st0 := St.hand hb
  unfold thrC at st0
  have d1 : decide ((n : Int) < 0) = false := by simp
  have d2 : decide ((4 : Int) ≤ n) = false := by simp; omega
  have d64 := text_size hx64
  have hgg : ¬ ok g := h.apart g (by simp)
  have HKp := Lib.hid (show ∀ (W : World) (bl : Blks), St [g] w W bl → Keeps ok w W from fun W bl s => s.keeps (by simpa using hgg))
  have HB := Lib.hid (show ∀ (W : World) (bl : Blks), St [g] w W bl → (g, 60, winC (preC k css n) [.slice xa x.label.length xc, .slice oa x.own.length oc, .string x.text, .slice ba x.objects.length bc, .slice ma x.mails.length mc] (postC k css n)) ∈ bl → Below w.heap.size w W from fun W bl s hm => st0.below2 s (by simpa using hm))
  have hxl := goodL_len hx.good; have hxo := hx.ownL; have hxm := hx.mailN; have hxb := hx.objs; have hxt := hx.text
  have st := st0
  clear st0
  unfold reqV
  have HG := Lib.hid (fun (W : World) (hW : Below w.heap.size w W) => label_Good okc W la lc c.label (by omega) (hcl.below hW))
  rw [hth] at hf h4
  have HE := Lib.hid (show callK k (n : Int) c = (k, errR 5) by unfold callK; simp [hkd, hgl, hth, hf, h4])
  have d4 : decide ((4 : Int) ≤ x.objects.length) = true := by simp; omega
  have hl8 := goodL_len hgl
  have HF := Lib.hid (fun (W : World) (hW : Below w.heap.size w W) => label_Flows (fun _ => True) W xa la oa xc lc oc x.label c.label x.own (by omega) (by omega) ((hT.label.below hW).okay fun _ _ => trivial) ((hcl.below hW).okay fun _ _ => trivial) ((hT.own.below hW).okay fun _ _ => trivial))
  rw [hgl] at HG
  rw [hf] at HF
  clear hgl hf
  rw [hkd]
  clear hkd
  go_enter Try.func10, Try.ntmps10
  go_wp2_with (first | go_skip | (with_reducible refine at_load 24 ?_; (first | refine mem_load' st 24 _ rfl (wanted_none rfl) Try.isAgg24 ?_ | (refine mem_load' st 24 _ rfl (wanted_some rfl ?_) Try.isAgg24 ?_; focus (simp [yielded, Act.put]; done))); refine ⟨1, _, _, _, _, _, rfl, rfl, rfl, ?_⟩) | (go_at_call 14; go_must (refine (HG.out _ (HB.out _ _ st (by simp))).mono ?_; rintro e vg ⟨rfl, hbg⟩; replace st := st.call hbg; clear hbg)) | (with_reducible refine at_box 27 ?_; refine mem_box st (wanted_none rfl) 27 _ rfl _ rfl _ rfl ?_; clear st; intro g5 w5 hg5 st hg5b; clear hg5b; simp [Act.eval, Act.put, Value.cells, putL] at st) | (with_reducible refine at_alloc 39 ?_; refine mem_alloc st (wanted_none rfl) 39 rfl _ Try.zeroValue39 _ rfl ?_; clear st; intro g6 w6 hg6 st hg6b; clear hg6b; simp [Act.eval, Act.put, Value.cells, putL] at st) | (with_reducible refine at_load 9 ?_; (first | refine mem_load' st 9 _ rfl (wanted_none rfl) Try.isAgg9 ?_ | (refine mem_load' st 9 _ rfl (wanted_some rfl ?_) Try.isAgg9 ?_; focus (simp [yielded, Act.put]; done))); refine ⟨1, _, _, _, _, _, rfl, rfl, rfl, ?_⟩) | (with_reducible refine at_load 3 ?_; (first | refine mem_load' st 3 _ rfl (wanted_none rfl) Try.isAgg3 ?_ | (refine mem_load' st 3 _ rfl (wanted_some rfl ?_) Try.isAgg3 ?_; focus (simp [yielded, Act.put]; done))); refine ⟨1, _, _, _, _, _, rfl, rfl, rfl, ?_⟩) | (go_at_call 21; go_must (refine (call_no _ _).mono ?_; rintro e vn ⟨rfl, hbn⟩; replace st := st.call hbn; clear hbn)) | (with_reducible refine at_store 39 ?_; (first | refine mem_store' st 39 _ _ rfl (wanted_none rfl) _ Try.sizeOf39 ?_ | (refine mem_store' st 39 _ _ rfl (wanted_some rfl ?_) _ Try.sizeOf39 ?_; focus (simp [yielded, Act.put]; done))); refine ⟨2, _, _, _, _, _, rfl, rfl, rfl, rfl, rfl, rfl, ?_⟩; clear st; intro w7 st hw7m hw7z; simp [Act.eval, Act.put, Value.cells, putL] at st))
  refine det_region (by kernel_rfl) 13 rfl (fun W => St [g] w W [(g, 60, winC (preC k css n) [.slice xa x.label.length xc, .slice oa x.own.length oc, .string x.text, .slice ba x.objects.length bc, .slice ma x.mails.length mc] (postC k css n)), (g5, 27, [.int .i64 2, .int .i64 c.h, .int .i64 c.t, .int .i64 c.n, .int .i64 c.c, .slice la c.label.length lc, .slice ga c.grants.length gc, .string c.text]), (g6, 39, [.int .i64 0, .int .i64 0, .string ⟨#[]⟩])]) (st.drew) (by decide +kernel) ?_
  refine det_take 0 rfl (by decide +kernel) (by first | exact wanted_none rfl | exact wanted_some rfl rfl) (fun W hW => by first | (go_simp; done) | (go_simp; rfl)) ?_; simp only [Act.put, List.setIfInBounds_toArray, List.set_cons_succ, List.set_cons_zero]; refine det_take 1 rfl (by decide +kernel) (by first | exact wanted_none rfl | exact wanted_some rfl rfl) (fun W hW => by first | (go_simp; done) | (go_simp; rfl)) ?_; simp only [Act.put, List.setIfInBounds_toArray, List.set_cons_succ, List.set_cons_zero]; refine det_take 2 rfl (by decide +kernel) (by first | exact wanted_none rfl | exact wanted_some rfl rfl) (fun W hW => by first | (go_simp; done) | (go_simp; rfl)) ?_; simp only [Act.put, List.setIfInBounds_toArray, List.set_cons_succ, List.set_cons_zero]
  refine det_take 3 rfl (by decide +kernel) (by first | exact wanted_none rfl | exact wanted_some rfl rfl) (fun W hW => St.run_loadW hW 0 24 _ rfl Try.isAgg24 0 hpre rfl rfl rfl) ?_; simp only [Act.put, List.setIfInBounds_toArray, List.set_cons_succ, List.set_cons_zero]
  refine det_take 4 rfl (by decide +kernel) (by first | exact wanted_none rfl | exact wanted_some rfl rfl) (fun W hW => by first | (go_simp; done) | (go_simp; rfl)) ?_; simp only [Act.put, List.setIfInBounds_toArray, List.set_cons_succ, List.set_cons_zero]
  refine det_take 5 rfl (by decide +kernel) (by first | exact wanted_none rfl | exact wanted_some rfl rfl) (fun W hW => St.run_load hW 1 24 _ rfl Try.isAgg24 rfl rfl rfl) ?_; simp only [Act.put, List.setIfInBounds_toArray, List.set_cons_succ, List.set_cons_zero]
  refine det_take 6 rfl (by decide +kernel) (by first | exact wanted_none rfl | exact wanted_some rfl rfl) (fun W hW => by first | (go_simp; done) | (go_simp; rfl)) ?_; simp only [Act.put, List.setIfInBounds_toArray, List.set_cons_succ, List.set_cons_zero]; refine det_take 7 rfl (by decide +kernel) (by first | exact wanted_none rfl | exact wanted_some rfl rfl) (fun W hW => by first | (go_simp; done) | (go_simp; rfl)) ?_; simp only [Act.put, List.setIfInBounds_toArray, List.set_cons_succ, List.set_cons_zero]; refine det_take 8 rfl (by decide +kernel) (by first | exact wanted_none rfl | exact wanted_some rfl rfl) (fun W hW => by first | (go_simp; done) | (go_simp; rfl)) ?_; simp only [Act.put, List.setIfInBounds_toArray, List.set_cons_succ, List.set_cons_zero]
  refine det_take 9 rfl (by decide +kernel) (by first | exact wanted_none rfl | exact wanted_some rfl rfl) (fun W hW => St.run_loadW hW 0 25 _ rfl Try.isAgg25 1 hpre rfl rfl rfl) ?_; simp only [Act.put, List.setIfInBounds_toArray, List.set_cons_succ, List.set_cons_zero]
  refine det_call (fn := 15) 10 rfl (by decide +kernel) (by first | exact wanted_none rfl | exact wanted_some rfl rfl) (fun W => by first | (go_simp; done) | (go_simp; rfl)) (fun W hW => (HF.out W (HB.out W _ hW (by simp))).mono fun e w' h => ⟨h.1, hW.call h.2⟩) ?_; simp only [Act.put, List.setIfInBounds_toArray, List.set_cons_succ, List.set_cons_zero]
  refine det_take 11 rfl (by decide +kernel) (by first | exact wanted_none rfl | exact wanted_some rfl rfl) (fun W hW => by first | (go_simp; done) | (go_simp; rfl)) ?_; simp only [Act.put, List.setIfInBounds_toArray, List.set_cons_succ, List.set_cons_zero]; refine det_take 12 rfl (by decide +kernel) (by first | exact wanted_none rfl | exact wanted_some rfl rfl) (fun W hW => by first | (go_simp; done) | (go_simp; rfl)) ?_; simp only [Act.put, List.setIfInBounds_toArray, List.set_cons_succ, List.set_cons_zero]
  refine det_done (by decide +kernel) ?_
  clear st
  intro W st
  go_wp2_with (first | go_skip | (with_reducible refine at_load 43 ?_; (first | refine mem_loadW st 43 _ rfl (wanted_none rfl) Try.isAgg43 3 ?_ | (refine mem_loadW st 43 _ rfl (wanted_some rfl ?_) Try.isAgg43 3 ?_; focus (simp [yielded, Act.put]; done))); refine ⟨0, _, _, _, _, _, _, _, hpre, rfl, rfl, rfl, ?_⟩) | (go_at_call 21; go_must (refine (call_no _ _).mono ?_; rintro e vn ⟨rfl, hbn⟩; replace st := st.call hbn; clear hbn)) | (with_reducible refine at_store 39 ?_; (first | refine mem_store' st 39 _ _ rfl (wanted_none rfl) _ Try.sizeOf39 ?_ | (refine mem_store' st 39 _ _ rfl (wanted_some rfl ?_) _ Try.sizeOf39 ?_; focus (simp [yielded, Act.put]; done))); refine ⟨2, _, _, _, _, _, rfl, rfl, rfl, rfl, rfl, rfl, ?_⟩; clear st; intro w7 st hw7m hw7z; simp [Act.eval, Act.put, Value.cells, putL] at st))
  have hc := fun j => st.cell (i := 2) rfl j
  refine bodyPost_ret (v := RepV (errR 5)) ?hr rfl ?_
  case hr => simp [results, Try.results10, go_sem, hc, RepV, errR]; try rfl
  rw [HE.out]
  exact ⟨rfl, KerTo.none h (HB.out _ _ st (by simp))⟩

end
end Go.Proofs.Ytnkfemjmfalamaa

/- The kernel's Call, whole. (printed by gen_call2.py) -/
namespace Go.Proofs.Ytnkfemjmfalamaa
open Go.RowKit

section
variable (ok okc : Nat → Prop) (w : World) (g : Nat) (k : Ker) (css : List (List Value)) (Bs : List (List Nat)) (n : Nat) (c : Req) (la : Option Addr) (lc : Nat) (ga : Option Addr) (gc : Nat)

set_option maxRecDepth 100000 in
set_option maxHeartbeats 4000000 in
theorem kernel_Call_out (h : KerAt ok w g k css Bs) (t : Int) (h4 : four t = false) :
    Calls Try.prog 10 #[.pointer (some ⟨g, 0, none⟩), .int .i64 t, reqV c la lc ga gc] w (CallPost ok w g Bs (k, errR 4)) := by
  have st := St.start w
  unfold reqV
  rcases four_no h4 with d | ⟨d0, d⟩
  all_goals
    clear h4
    go_enter Try.func10, Try.ntmps10
    go_wp2_with (first | go_skip | (with_reducible refine at_box 27 ?_; refine mem_box st (wanted_none rfl) 27 _ rfl _ rfl _ rfl ?_; clear st; intro g5 w5 hg5 st hg5b; clear hg5b; simp [Act.eval, Act.put, Value.cells, putL] at st) | (with_reducible refine at_alloc 39 ?_; refine mem_alloc st (wanted_none rfl) 39 rfl _ Try.zeroValue39 _ rfl ?_; clear st; intro g6 w6 hg6 st hg6b; clear hg6b; simp [Act.eval, Act.put, Value.cells, putL] at st) | (go_at_call 21; go_must (refine (call_no _ _).mono ?_; rintro e vn ⟨rfl, hbn⟩; replace st := st.call hbn; clear hbn)) | (with_reducible refine at_store 39 ?_; (first | refine mem_store' st 39 _ _ rfl (wanted_none rfl) _ Try.sizeOf39 ?_ | (refine mem_store' st 39 _ _ rfl (wanted_some rfl ?_) _ Try.sizeOf39 ?_; focus (simp [yielded, Act.put]; done))); refine ⟨1, _, _, _, _, _, rfl, rfl, rfl, rfl, rfl, rfl, ?_⟩; clear st; intro w7 st hw7m hw7z; simp [Act.eval, Act.put, Value.cells, putL] at st))
    have hc := fun j => st.cell (i := 1) rfl j
    refine bodyPost_ret (v := RepV (errR 4)) ?hr rfl ⟨rfl, KerTo.none h st.below⟩
    case hr => simp [results, Try.results10, go_sem, hc, RepV, errR]; try rfl

set_option maxRecDepth 100000 in
set_option maxHeartbeats 4000000 in
theorem kernel_Call_long (h : KerAt ok w g k css Bs) (hn : n < 4) (hx64 : 64 < c.text.size) :
    Calls Try.prog 10 #[.pointer (some ⟨g, 0, none⟩), .int .i64 n, reqV c la lc ga gc] w (CallPost ok w g Bs (k, errR 9)) := by
  have d1 : decide ((n : Int) < 0) = false := by simp
  have d2 : decide ((4 : Int) ≤ n) = false := by simp; omega
  have d64 : decide (64 < (c.text.size : Int)) = true := by simp; omega
  have st := St.start w
  unfold reqV
  go_enter Try.func10, Try.ntmps10
  go_wp2_with (first | go_skip | (with_reducible refine at_box 27 ?_; refine mem_box st (wanted_none rfl) 27 _ rfl _ rfl _ rfl ?_; clear st; intro g5 w5 hg5 st hg5b; clear hg5b; simp [Act.eval, Act.put, Value.cells, putL] at st) | (with_reducible refine at_alloc 39 ?_; refine mem_alloc st (wanted_none rfl) 39 rfl _ Try.zeroValue39 _ rfl ?_; clear st; intro g6 w6 hg6 st hg6b; clear hg6b; simp [Act.eval, Act.put, Value.cells, putL] at st) | (with_reducible refine at_load 9 ?_; (first | refine mem_load' st 9 _ rfl (wanted_none rfl) Try.isAgg9 ?_ | (refine mem_load' st 9 _ rfl (wanted_some rfl ?_) Try.isAgg9 ?_; focus (simp [yielded, Act.put]; done))); refine ⟨0, _, _, _, _, _, rfl, rfl, rfl, ?_⟩) | (go_at_call 21; go_must (refine (call_no _ _).mono ?_; rintro e vn ⟨rfl, hbn⟩; replace st := st.call hbn; clear hbn)) | (with_reducible refine at_store 39 ?_; (first | refine mem_store' st 39 _ _ rfl (wanted_none rfl) _ Try.sizeOf39 ?_ | (refine mem_store' st 39 _ _ rfl (wanted_some rfl ?_) _ Try.sizeOf39 ?_; focus (simp [yielded, Act.put]; done))); refine ⟨1, _, _, _, _, _, rfl, rfl, rfl, rfl, rfl, rfl, ?_⟩; clear st; intro w7 st hw7m hw7z; simp [Act.eval, Act.put, Value.cells, putL] at st))
  have hc := fun j => st.cell (i := 1) rfl j
  refine bodyPost_ret (v := RepV (errR 9)) ?hr rfl ⟨rfl, KerTo.none h st.below⟩
  case hr => simp [results, Try.results10, go_sem, hc, RepV, errR]; try rfl

theorem kernel_Call (h : KerAt ok w g k css Bs) (hk : k.ok) (t : Int) (hll : c.label.length * 16 ≤ 140737488351232) (hcl : SlR okc w 2 RLev la lc c.label) :
    Calls Try.prog 10 #[.pointer (some ⟨g, 0, none⟩), .int .i64 t, reqV c la lc ga gc] w (CallPost ok w g Bs (stepC k t c)) := by
  unfold stepC
  by_cases h4 : four t = false
  · rw [if_pos h4]; exact kernel_Call_out ok w g k css Bs c la lc ga gc h t h4
  rw [if_neg h4]
  obtain ⟨n, rfl, hn⟩ := four_nat (by simpa using h4 : four t = true)
  by_cases h64 : 64 < c.text.size
  · rw [if_pos h64]; exact kernel_Call_long ok w g k css Bs n c la lc ga gc h hn h64
  rw [if_neg h64]
  have ht := hk.thr
  by_cases k1 : c.kind = 1
  · by_cases hf : 20 ≤ k.made
    · exact kernel_Call_cat_full ok w g k css Bs n c la lc ga gc h ht hn h64 k1 hk.host.1 hk.host.2 hk.made.1 hk.made.2 hf
    · by_cases ho : (ownC (k.thr n).own (k.host * 20 + k.made)).2 = 0
      · exact kernel_Call_cat ok w g k css Bs n c la lc ga gc h ht hn h64 k1 hk.host.1 hk.host.2 hk.made.1 hk.made.2 (by omega) ho
      · exact kernel_Call_cat_room ok w g k css Bs n c la lc ga gc h ht hn h64 k1 hk.host.1 hk.host.2 hk.made.1 hk.made.2 (by omega) ho
  by_cases k2 : c.kind = 2
  · by_cases hg : goodL c.label = true
    · by_cases hf : flowsL (k.thr n).label c.label (k.thr n).own = true
      · by_cases h5 : (k.thr n).objects.length < 4
        · exact kernel_Call_object_yes ok okc w g k css Bs n c la lc ga gc h ht hn h64 k2 hll hcl hg hf h5
        · exact kernel_Call_object_full ok okc w g k css Bs n c la lc ga gc h ht hn h64 k2 hll hcl hg hf (by omega)
      · exact kernel_Call_object_no ok okc w g k css Bs n c la lc ga gc h ht hn h64 k2 hll hcl hg (by simpa using hf)
    · exact kernel_Call_object_bad ok okc w g k css Bs n c la lc ga gc h ht hn h64 k2 hll hcl (by simpa using hg)
  by_cases k3 : c.kind = 3
  · cases ho : k.obj c.t c.n with
    | none => exact kernel_Call_put_none ok w g k css Bs n c la lc ga gc h ht hn h64 k3 ho
    | some o =>
      by_cases hf : flowsL (k.thr n).label o.label (k.thr n).own = true
      · exact kernel_Call_put_yes ok w g k css Bs n c la lc ga gc h ht hn h64 k3 o ho hf
      · exact kernel_Call_put_no ok w g k css Bs n c la lc ga gc h ht hn h64 k3 o ho (by simpa using hf)
  by_cases k4 : c.kind = 4
  · cases ho : k.obj c.t c.n with
    | none => exact kernel_Call_get_none ok w g k css Bs n c la lc ga gc h ht hn h64 k4 ho
    | some o =>
      by_cases hf : flowsL o.label (k.thr n).label (k.thr n).own = true
      · exact kernel_Call_get_yes ok w g k css Bs n c la lc ga gc h ht hn h64 k4 o ho hf
      · exact kernel_Call_get_no ok w g k css Bs n c la lc ga gc h ht hn h64 k4 o ho (by simpa using hf)
  by_cases k5 : c.kind = 5
  · by_cases he : (setR (k.thr n).label c.c c.n).2 = 0
    · by_cases hf : flowsL (k.thr n).label (setR (k.thr n).label c.c c.n).1 (k.thr n).own = true
      · exact kernel_Call_level_yes ok w g k css Bs n c la lc ga gc h ht hn h64 k5 he hf
      · exact kernel_Call_level_low ok w g k css Bs n c la lc ga gc h ht hn h64 k5 he (by simpa using hf)
    · exact kernel_Call_level_no ok w g k css Bs n c la lc ga gc h ht hn h64 k5 he
  by_cases k7 : c.kind = 7
  · exact kernel_Call_take ok w g k css Bs n c la lc ga gc h ht hn h64 k7
  by_cases k9 : c.kind = 9
  · exact kernel_Call_forget ok w g k css Bs n c la lc ga gc h ht hn h64 k9
  by_cases k10 : c.kind = 10
  · exact kernel_Call_say ok w g k css Bs n c la lc ga gc h ht hn h64 k10
  exact kernel_Call_other ok w g k css Bs n c la lc ga gc h ht hn h64 ⟨k1, k2, k3, k4, k5, k7, k9, k10⟩

end
end Go.Proofs.Ytnkfemjmfalamaa

/- What a step does to each thread: plain laws. No program, no memory. -/
namespace Go.Proofs.Ytnkfemjmfalamaa

theorem Ker.thr_put_same {k : Ker} {t : Int} (ht : four t = true) (h4 : k.threads.length = 4) (x : Thr) : (k.put t x).thr t = x := by
  obtain ⟨n, rfl, hn⟩ := four_nat ht
  unfold Ker.put Ker.thr
  simp only [Int.toNat_natCast, List.getD_eq_getElem?_getD]
  rw [List.getElem?_set_self (by omega)]
  rfl

theorem Ker.thr_put_other {k : Ker} {t u : Int} (ht : four t = true) (hu : four u = true) (hne : u ≠ t) (x : Thr) : (k.put t x).thr u = k.thr u := by
  obtain ⟨n, rfl, hn⟩ := four_nat ht
  obtain ⟨m, rfl, hm⟩ := four_nat hu
  unfold Ker.put Ker.thr
  simp only [Int.toNat_natCast, List.getD_eq_getElem?_getD]
  rw [List.getElem?_set_ne (by omega)]

theorem ownC_mem {l : List Int} {c d : Int} (h : d ∈ l) : d ∈ (ownC l c).1 := by
  unfold ownC
  split
  · exact h
  · split
    · exact h
    · exact insI_mem.2 (.inr h)

theorem ownC_new {l : List Int} {c d : Int} (h : d ∈ (ownC l c).1) : d ∈ l ∨ (d = c ∧ (ownC l c).2 = 0) := by
  unfold ownC at h ⊢
  split
  · rw [if_pos (by assumption)] at h; exact .inl h
  · rw [if_neg (by assumption)] at h
    split
    · rw [if_pos (by assumption)] at h; exact .inl h
    · rw [if_neg (by assumption)] at h
      rcases insI_mem.1 h with rfl | h
      · exact .inr ⟨rfl, rfl⟩
      · exact .inl h

theorem ownAll_mem (gs : List Int) : ∀ {l : List Int} {d : Int}, d ∈ l → d ∈ ownAll l gs := by
  induction gs with
  | nil => exact fun h => h
  | cons g gs ih =>
    intro l d h
    unfold ownAll
    split
    · exact ih (ownC_mem h)
    · exact h

theorem ownAll_new (gs : List Int) : ∀ {l : List Int} {d : Int}, d ∈ ownAll l gs → d ∈ l ∨ d ∈ gs := by
  induction gs with
  | nil => exact fun h => .inl h
  | cons g gs ih =>
    intro l d h
    unfold ownAll at h
    split at h
    · rcases ih h with h | h
      · rcases ownC_new h with h | ⟨rfl, _⟩
        · exact .inl h
        · exact .inr (by simp)
      · exact .inr (by simp [h])
    · exact .inl h

/-- What a call of thread t with c, answered with r, may do to a thread u, which was x and is y; kt: the one that called, as it was. -/
structure Eff (k : Ker) (t : Int) (c : Req) (r : Rep) (u : Int) (x y : Thr) : Prop where
  other : u ≠ t → y.label = x.label ∧ y.own = x.own ∧ y.text = x.text ∧ y.mails = x.mails
  label : y.label = x.label ∨ (u = t ∧ c.kind = 5 ∧ r.code = 0 ∧ flowsL x.label y.label x.own = true ∧ y.label = (setR x.label c.c c.n).1 ∧ (setR x.label c.c c.n).2 = 0)
  own : ∀ d ∈ x.own, d ∈ y.own
  ownN : ∀ d ∈ y.own, d ∈ x.own ∨ (u = t ∧ r.code = 0 ∧ ((c.kind = 1 ∧ r.n = d) ∨ (c.kind = 7 ∧ ∃ m ∈ x.mails, d ∈ m.grants)))
  objL : x.objects.length ≤ y.objects.length
  obj : ∀ (n : Nat) (o o' : KObj), x.objects[n]? = some o → y.objects[n]? = some o' → o'.label = o.label ∧ (o'.text = o.text ∨ (c.kind = 3 ∧ flowsL (k.thr t).label o.label (k.thr t).own = true))
  text : y.text = x.text ∨ (u = t ∧ (c.kind = 9 ∨ (c.kind = 7 ∧ r.code = 0) ∨ (c.kind = 4 ∧ r.code = 0 ∧ ∃ o, k.obj c.t c.n = some o ∧ flowsL o.label x.label x.own = true)))
  mails : ∀ m ∈ y.mails, m ∈ x.mails
  mailsL : y.mails.length ≤ x.mails.length

theorem Eff.refl (k : Ker) (t : Int) (c : Req) (r : Rep) (u : Int) (x : Thr) : Eff k t c r u x x :=
  ⟨fun _ => ⟨rfl, rfl, rfl, rfl⟩, .inl rfl, fun _ h => h, fun _ h => .inl h, Nat.le_refl _, fun n o o' h h' => by rw [h] at h'; cases h'; exact ⟨rfl, .inl rfl⟩, .inl rfl, fun _ h => h, Nat.le_refl _⟩

theorem eff_put {k : Ker} {t : Int} {c : Req} {r : Rep} {v : Int} (hv : four v = true) (h4 : k.threads.length = 4) {y : Thr} (hy : Eff k t c r v (k.thr v) y) {u : Int} (hu : four u = true) : Eff k t c r u (k.thr u) ((k.put v y).thr u) := by
  by_cases e : u = v
  · subst e; rw [Ker.thr_put_same hu h4]; exact hy
  · rw [Ker.thr_put_other hv hu e]; exact Eff.refl ..

theorem Eff.made {k : Ker} {t : Int} {c : Req} {r : Rep} {u : Int} {x : Thr} {k' : Ker} {m : Int} (h : Eff k t c r u x (k'.thr u)) : Eff k t c r u x (({ k' with made := m } : Ker).thr u) := h

theorem callK_eff (k : Ker) (t : Int) (ht : four t = true) (h4 : k.threads.length = 4) (c : Req) (u : Int) (hu : four u = true) : Eff k t c (callK k t c).2 u (k.thr u) ((callK k t c).1.thr u) := by
  unfold callK
  dsimp only
  split
  · rename_i hk
    split
    · exact Eff.refl ..
    · split
      · exact Eff.refl ..
      · rename_i ho
        show Eff k t c _ u (k.thr u) ((k.put t { k.thr t with own := (ownC (k.thr t).own (k.host * 20 + k.made)).1 }).thr u)
        refine eff_put ht h4 ?_ hu
        refine ⟨fun h => absurd rfl h, .inl rfl, fun d hd => ownC_mem hd, fun d hd => ?_, Nat.le_refl _, fun n o o' h h' => ?_, .inl rfl, fun _ h => h, Nat.le_refl _⟩
        · rcases ownC_new hd with h | ⟨rfl, _⟩
          · exact .inl h
          · exact .inr ⟨rfl, rfl, .inl ⟨hk, rfl⟩⟩
        · rw [h] at h'; cases h'; exact ⟨rfl, .inl rfl⟩
  split
  · split
    · exact Eff.refl ..
    · split
      · exact Eff.refl ..
      · split
        · exact Eff.refl ..
        · refine eff_put ht h4 ?_ hu
          refine ⟨fun h => absurd rfl h, .inl rfl, fun _ h => h, fun _ h => .inl h, by simp, fun n o o' h h' => ?_, .inl rfl, fun _ h => h, Nat.le_refl _⟩
          have hn := (List.getElem?_eq_some_iff.1 h).1
          simp only at h'
          rw [List.getElem?_append_left hn, h] at h'
          cases h'
          exact ⟨rfl, .inl rfl⟩
  split
  · rename_i hk
    cases e : k.obj c.t c.n with
    | none => exact Eff.refl ..
    | some o =>
      dsimp only
      split
      · rename_i hf
        have hobj := e
        unfold Ker.obj at hobj
        split at hobj
        · rename_i hg
          refine eff_put hg.1 h4 ?_ hu
          refine ⟨fun _ => ⟨rfl, rfl, rfl, rfl⟩, .inl rfl, fun _ h => h, fun _ h => .inl h, by simp [Thr.putObj], fun n p p' h h' => ?_, .inl rfl, fun _ h => h, Nat.le_refl _⟩
          unfold Thr.putObj at h'
          simp only at h'
          rw [List.getElem?_set] at h'
          split at h'
          · rename_i hn
            subst hn
            rw [if_pos (List.getElem?_eq_some_iff.1 h).1] at h'
            cases h'
            rw [hobj] at h
            cases h
            exact ⟨rfl, .inr ⟨hk, hf⟩⟩
          · rw [h] at h'; cases h'; exact ⟨rfl, .inl rfl⟩
        · cases hobj
      · exact Eff.refl ..
  split
  · rename_i hk
    cases e : k.obj c.t c.n with
    | none => exact Eff.refl ..
    | some o =>
      dsimp only
      split
      · rename_i hf
        refine eff_put ht h4 ?_ hu
        refine ⟨fun h => absurd rfl h, .inl rfl, fun _ h => h, fun _ h => .inl h, Nat.le_refl _, fun n o o' h h' => ?_, .inr ⟨rfl, .inr (.inr ⟨hk, rfl, o, e, hf⟩)⟩, fun _ h => h, Nat.le_refl _⟩
        rw [h] at h'; cases h'; exact ⟨rfl, .inl rfl⟩
      · exact Eff.refl ..
  split
  · rename_i hk
    split
    · exact Eff.refl ..
    · rename_i he
      split
      · exact Eff.refl ..
      · rename_i hf
        refine eff_put ht h4 ?_ hu
        refine ⟨fun h => absurd rfl h, .inr ⟨rfl, hk, rfl, by simpa using hf, rfl, by simpa using he⟩, fun _ h => h, fun _ h => .inl h, Nat.le_refl _, fun n o o' h h' => ?_, .inl rfl, fun _ h => h, Nat.le_refl _⟩
        rw [h] at h'; cases h'; exact ⟨rfl, .inl rfl⟩
  split
  · rename_i hk
    unfold takeK
    obtain ⟨h1, h2, h3⟩ := takeM_sub (k.thr t).label (k.thr t).own (k.thr t).mails
    refine eff_put ht h4 ?_ hu
    unfold takeX
    generalize takeM (k.thr t).label (k.thr t).own (k.thr t).mails = q at *
    obtain ⟨o, l⟩ := q
    cases o with
    | none =>
      refine ⟨fun h => absurd rfl h, .inl rfl, fun _ h => h, fun _ h => .inl h, Nat.le_refl _, fun n o o' h h' => ?_, .inl rfl, fun m h => h1 m h, h2⟩
      rw [h] at h'; cases h'; exact ⟨rfl, .inl rfl⟩
    | some m =>
      refine ⟨fun h => absurd rfl h, .inl rfl, fun _ h => ownAll_mem _ h, fun d hd => ?_, Nat.le_refl _, fun n o o' h h' => ?_, .inr ⟨rfl, .inr (.inl ⟨hk, rfl⟩)⟩, fun m h => h1 m h, h2⟩
      · rcases ownAll_new _ hd with h | h
        · exact .inl h
        · exact .inr ⟨rfl, rfl, .inr ⟨hk, m, (h3 m rfl).1, h⟩⟩
      · rw [h] at h'; cases h'; exact ⟨rfl, .inl rfl⟩
  split
  · rename_i hk
    refine eff_put ht h4 ?_ hu
    refine ⟨fun h => absurd rfl h, .inl rfl, fun _ h => h, fun _ h => .inl h, Nat.le_refl _, fun n o o' h h' => ?_, .inr ⟨rfl, .inl hk⟩, fun _ h => h, Nat.le_refl _⟩
    rw [h] at h'; cases h'; exact ⟨rfl, .inl rfl⟩
  split
  · exact Eff.refl ..
  · exact Eff.refl ..

theorem stepC_eff (k : Ker) (t : Int) (h4 : k.threads.length = 4) (c : Req) (u : Int) (hu : four u = true) : Eff k t c (stepC k t c).2 u (k.thr u) ((stepC k t c).1.thr u) := by
  unfold stepC
  split
  · exact Eff.refl ..
  · rename_i ht
    split
    · exact Eff.refl ..
    · exact callK_eff k t (by simpa using ht) h4 c u hu

/-- What mail that comes may do. -/
structure EffM (m : Mail) (x y : Thr) : Prop where
  label : y.label = x.label
  own : y.own = x.own
  text : y.text = x.text
  objects : y.objects = x.objects
  mails : y.mails = x.mails ∨ (y.mails = x.mails ++ [m] ∧ flowsL m.label x.label x.own = true ∧ goodMailC m = 0)

theorem deliverK_eff (k : Ker) (t : Int) (h4 : k.threads.length = 4) (m : Mail) (u : Int) (hu : four u = true) : EffM m (k.thr u) ((deliverK k t m).thr u) ∧ (u ≠ t → (deliverK k t m).thr u = k.thr u) := by
  have hr : EffM m (k.thr u) (k.thr u) := ⟨rfl, rfl, rfl, rfl, .inl rfl⟩
  unfold deliverK
  split
  · exact ⟨hr, fun _ => rfl⟩
  · rename_i ht
    have ht : four t = true := by simpa using ht
    split
    · exact ⟨hr, fun _ => rfl⟩
    · rename_i hg
      split
      · rename_i hf
        by_cases e : u = t
        · subst e
          rw [Ker.thr_put_same hu h4]
          exact ⟨⟨rfl, rfl, rfl, rfl, .inr ⟨rfl, hf.1, by simpa using hg⟩⟩, fun h => absurd rfl h⟩
        · rw [Ker.thr_put_other ht hu e]
          exact ⟨hr, fun _ => rfl⟩
      · exact ⟨hr, fun _ => rfl⟩

/-- An object that is there is there behind a step, too. -/
theorem Eff.objKeep {k : Ker} {t : Int} {c : Req} {r : Rep} {u : Int} {x y : Thr} (h : Eff k t c r u x y) {n : Nat} {o : KObj} (ho : x.objects[n]? = some o) : ∃ o', y.objects[n]? = some o' ∧ o'.label = o.label := by
  have hn : n < y.objects.length := Nat.lt_of_lt_of_le (List.getElem?_eq_some_iff.1 ho).1 h.objL
  exact ⟨y.objects[n], List.getElem?_eq_getElem hn, (h.obj n o _ ho (List.getElem?_eq_getElem hn)).1⟩

end Go.Proofs.Ytnkfemjmfalamaa

/- One kernel that the call itself made: a step of it (a call, or mail that comes), in plain words and in memory. -/
namespace Go.Proofs.Ytnkfemjmfalamaa
open Go.RowKit

def zeroR : Rep := ⟨0, 0, ⟨#[]⟩⟩

/-- A step of a kernel. -/
def stepK (k : Ker) (t : Int) (x : Step) : Ker × Rep := if x.come = true then (deliverK k t x.mail, zeroR) else stepC k t x.call

theorem stepK_ok {k : Ker} (h : k.ok) (t : Int) (x : Step) : (stepK k t x).1.ok := by
  unfold stepK
  split
  · exact deliverK_ok h t x.mail
  · exact stepC_ok h t x.call

/-- A kernel at block g, all of whose memory is new since w0 and none of the blocks at hand. -/
def Solo (w0 : World) (own : Blks) (g : Nat) (k : Ker) (W : World) : Prop := St [] w0 W own ∧ k.ok ∧
  ∃ ok css Bs, KerAt ok W g k css Bs ∧ (∀ b ∈ g :: Bs.flatten, w0.heap.size ≤ b ∧ ∀ x ∈ own, x.1 ≠ b) ∧ ∀ b, ok b → b < W.heap.size

theorem Solo.grow {w0 W W2 : World} {own own2 : Blks} {g : Nat} {k : Ker} (h : Solo w0 own g k W) (hb : Below W.heap.size W W2) (st2 : St [] w0 W2 own2) (hx : ∀ x ∈ own2, (∃ y ∈ own, y.1 = x.1) ∨ W.heap.size ≤ x.1) : Solo w0 own2 g k W2 := by
  obtain ⟨st, hk, ok, css, Bs, h1, h5, h7⟩ := h
  refine ⟨st2, hk, ok, css, Bs, h1.below hb, fun b hm => ⟨(h5 b hm).1, fun x hx' e => ?_⟩, fun b ho => Nat.lt_of_lt_of_le (h7 b ho) hb.size⟩
  rcases hx x hx' with ⟨y, hy, e2⟩ | h9
  · exact (h5 b hm).2 y hy (e2.trans e)
  · have := h1.lt b hm; omega

theorem Solo.lt {w0 W : World} {own : Blks} {g : Nat} {k : Ker} (h : Solo w0 own g k W) : g < W.heap.size := by
  obtain ⟨st, hk, ok, css, Bs, h1, h5, h7⟩ := h
  exact h1.lt g (by simp)

/-- What a call of the kernel leaves. -/
theorem Solo.to {w0 W W' : World} {own : Blks} {g : Nat} {k k' : Ker} {ok : Nat → Prop} {css : List (List Value)} {Bs : List (List Nat)} (st : St [] w0 W own) (hk' : k'.ok) (h1 : KerAt ok W g k css Bs) (h5 : ∀ b ∈ g :: Bs.flatten, w0.heap.size ≤ b ∧ ∀ x ∈ own, x.1 ≠ b) (h7 : ∀ b, ok b → b < W.heap.size) (hT : KerTo ok W g Bs W' k') : Solo w0 own g k' W' := by
  obtain ⟨css', Bs', hK, hs, hin⟩ := hT
  refine ⟨st.callK hs (fun x hx hm => (h5 _ hm).2 x hx rfl) fun b hm => .inr (h5 b hm).1, hk', fun b => ((ok b ∨ W.heap.size ≤ b) ∧ b ∉ g :: Bs'.flatten) ∧ b < W'.heap.size, css', Bs', hK.move (Nat.le_refl _) (fun b hb ho => ⟨⟨ho, hb⟩, rfl⟩) fun b hb => ⟨rfl, fun hh => hh.1.2 hb⟩, fun b hm => ?_, fun b hb => hb.2⟩
  have hc : b ∈ g :: Bs.flatten ∨ W.heap.size ≤ b := by
    rcases List.mem_cons.1 hm with rfl | hm
    · exact .inl (by simp)
    · exact (hin b hm).imp (List.mem_cons_of_mem _) id
  rcases hc with hc | hc
  · exact h5 b hc
  · refine ⟨Nat.le_trans st.size hc, fun x hx e => ?_⟩
    have := (Array.getElem?_eq_some_iff.1 (st.blk x hx)).1; omega

theorem solo_Call {w0 W : World} {own : Blks} {g : Nat} {k : Ker} (h : Solo w0 own g k W) (t : Int) (c : Req) (la : Option Addr) (lc : Nat) (gra : Option Addr) (grc : Nat) (hll : c.label.length * 16 ≤ 140737488351232) (hcl : SlR (fun _ => True) W 2 RLev la lc c.label) :
    Calls Try.prog 10 #[.pointer (some ⟨g, 0, none⟩), .int .i64 t, reqV c la lc gra grc] W fun e W' => e = .returned (RepV (stepC k t c).2) ∧ Solo w0 own g (stepC k t c).1 W' := by
  obtain ⟨st, hk, ok, css, Bs, h1, h5, h7⟩ := h
  refine (kernel_Call ok (fun _ => True) W g k css Bs c la lc gra grc h1 hk t hll hcl).mono ?_
  rintro e W' ⟨rfl, hT⟩
  exact ⟨rfl, Solo.to st (stepC_ok hk t c) h1 h5 h7 hT⟩

theorem solo_Deliver {w0 W : World} {own : Blks} {g : Nat} {k : Ker} (h : Solo w0 own g k W) (t : Int) (m : Mail) (la : Option Addr) (lc : Nat) (ga : Option Addr) (gc : Nat) (hl : m.label.length * 16 ≤ 140737488351232) (hg : m.grants.length * 8 ≤ 140737488355328) (hR : MailR (fun _ => True) W m la lc ga gc) :
    Calls Try.prog 17 #[.pointer (some ⟨g, 0, none⟩), .int .i64 t, mailV m la lc ga gc] W fun e W' => (∃ u, e = .returned u) ∧ Solo w0 own g (deliverK k t m) W' := by
  obtain ⟨st, hk, ok, css, Bs, h1, h5, h7⟩ := h
  refine (kernel_Deliver ok (fun _ => True) W g k css Bs h1 hk.thr t m la lc ga gc hl hg hR).mono ?_
  rintro e W' ⟨hu, hT⟩
  exact ⟨hu, Solo.to st (deliverK_ok hk t m) h1 h5 h7 hT⟩

theorem solo_Thread {w0 W : World} {own : Blks} {g : Nat} {k : Ker} (h : Solo w0 own g k W) (t : Int) :
    Calls Try.prog 13 #[.pointer (some ⟨g, 0, none⟩), .int .i64 t] W (ThreadPost W (thrOf k t)) := by
  obtain ⟨st, hk, ok, css, Bs, h1, h5, h7⟩ := h
  exact kernel_Thread ok W g k css Bs h1 hk.thr t

theorem Solo.new {w0 w : World} {own own' : Blks} {g : Nat} {h : Int} (st : St [] w0 w own) (hm : (g, 60, .int .i64 h :: (([zeroC, zeroC, zeroC, zeroC] : List (List Value)).flatten ++ [.int .i64 0])) ∈ own) (hh : 0 ≤ h ∧ h < 4) (hs : ∀ x ∈ own', x ∈ own ∧ x.1 ≠ g) (hn : own'.Pairwise fun x y => x.1 ≠ y.1) : Solo w0 own' g (newK h) w :=
  ⟨st.sub (fun x hx => (hs x hx).1) hn, newK_ok hh.1 hh.2, fun _ => False, _, [[], [], [], []], KerAt.new st hm _ (fun h => h), fun b hb => by
    simp at hb
    subst hb
    refine ⟨?_, fun x hx => (hs x hx).2⟩
    rcases st.mine _ hm with h | h
    · simp at h
    · exact h, fun b hb => hb.elim⟩


end Go.Proofs.Ytnkfemjmfalamaa

/- What is looked at behind a step of a kernel: the walk through KernelLabels' closure. -/
namespace Go.Proofs.Ytnkfemjmfalamaa
open Go.RowKit

def stepV (x : Step) (la : Option Addr) (lc : Nat) (ga : Option Addr) (gc : Nat) (ma : Option Addr) (mc : Nat) (na : Option Addr) (nc : Nat) : Value :=
  .agg #[.int .i64 x.t, .bool x.come, .int .i64 x.call.kind, .int .i64 x.call.h, .int .i64 x.call.t, .int .i64 x.call.n, .int .i64 x.call.c, .slice la x.call.label.length lc, .slice ga x.call.grants.length gc, .string x.call.text,
    .int .i64 x.mail.host, .int .i64 x.mail.thread, .slice ma x.mail.label.length mc, .slice na x.mail.grants.length nc, .string x.mail.text]

/-- What the closure f says behind a step: yes. -/
def Look (f : Nat) : Prop := ∀ (W : World) (ok okw : Nat → Prop) (g : Nat) (css : List (List Value)) (Bs : List (List Nat)) (k : Ker) (t : Int) (x : Step)
  (la : Option Addr) (lc : Nat) (oa : Option Addr) (oc : Nat) (ba : Option Addr) (bc : Nat) (ma : Option Addr) (mc : Nat) (sla : Option Addr) (slc : Nat) (sga : Option Addr) (sgc : Nat) (sma : Option Addr) (smc : Nat) (sna : Option Addr) (snc : Nat),
  k.ok → four t = true → x.fit → KerAt ok W g (stepK k t x).1 css Bs → ThrS okw W (k.thr t) la lc oa oc ba bc ma mc →
  (SlR (fun _ => True) W 2 RLev sma smc x.mail.label ∧ SlR (fun _ => True) W 1 RInt sna snc x.mail.grants) →
  Calls Try.prog f #[.pointer (some ⟨g, 0, none⟩), .int .i64 t, thrV (k.thr t) la lc oa oc ba bc ma mc, stepV x sla slc sga sgc sma smc sna snc, RepV (stepK k t x).2] W fun e W' => e = .returned (.bool true) ∧ Below W.heap.size W W'

theorem stepK_eff {k : Ker} (hk : k.ok) {t : Int} (ht : four t = true) (x : Step) :
    (((stepK k t x).1.thr t).label = (k.thr t).label ∨ (x.come = false ∧ x.call.kind = 5 ∧ (stepK k t x).2.code = 0)) ∧ flowsL (k.thr t).label ((stepK k t x).1.thr t).label (k.thr t).own = true ∧ ∀ d ∈ (k.thr t).own, d ∈ ((stepK k t x).1.thr t).own := by
  unfold stepK
  split
  · obtain ⟨h, _⟩ := deliverK_eff k t hk.four x.mail t ht
    refine ⟨.inl h.label, by rw [h.label]; exact flows_refl _ _, fun d hd => by rw [h.own]; exact hd⟩
  · rename_i hc
    have h := stepC_eff k t hk.four x.call t ht
    refine ⟨h.label.imp id fun q => ⟨by simpa using hc, q.2.1, q.2.2.1⟩, ?_, h.own⟩
    rcases h.label with e | q
    · rw [e]; exact flows_refl _ _
    · exact q.2.2.2.1

set_option maxRecDepth 100000 in
set_option maxHeartbeats 8000000 in
theorem look_labels : Look 12 := by
  intro W ok okw g css Bs k t x la lc oa oc ba bc ma mc sla slc sga sgc sma smc sna snc hk ht hfit hK hT hS
  have hk2 := stepK_ok hk t x
  have hx2 := hk2.at t
  have hx := hk.at t
  obtain ⟨e1, e2, e3⟩ := stepK_eff hk ht x
  have HTh := Lib.hid (fun (V : World) (h : Below W.heap.size W V) => kernel_Thread ok V g (stepK k t x).1 css Bs (hK.below h) hk2.thr t)
  unfold thrOf at HTh
  rw [if_pos ht] at HTh
  generalize (stepK k t x).1.thr t = y at e1 e2 e3 HTh hx2
  generalize (stepK k t x).2 = r at e1
  generalize k.thr t = z at e1 e2 e3 hT hx
  clear hk2 hk hK ht hfit hS
  have q1 := goodL_len hx.good; have q2 := goodL_len hx2.good; have q3 := hx.ownL; have q4 := hx2.ownL
  have HG := Lib.hid (fun (V : World) (a : Option Addr) (c : Nat) (h : SlR (fun _ => True) V 2 RLev a c y.label) => (label_Good (fun _ => True) V a c y.label (by omega) h).mono (R' := fun e w' => e = .returned (.bool true) ∧ Below V.heap.size V w') (by rintro e w' ⟨rfl, h⟩; rw [hx2.good]; exact ⟨rfl, h⟩))
  have HF := Lib.hid (fun (V : World) (h : Below W.heap.size W V) (a : Option Addr) (c : Nat) (hy : SlR (fun _ => True) V 2 RLev a c y.label) => (label_Flows (fun _ => True) V la a oa lc c oc z.label y.label z.own (by omega) (by omega) ((hT.label.below h).okay fun _ _ => trivial) hy ((hT.own.below h).okay fun _ _ => trivial)).mono (R' := fun e w' => e = .returned (.bool true) ∧ Below V.heap.size V w') (by rintro e w' ⟨rfl, h⟩; rw [e2]; exact ⟨rfl, h⟩))
  have HS := Lib.hid (fun (V : World) (h : Below W.heap.size W V) (a : Option Addr) (c : Nat) (hy : SlR (fun _ => True) V 2 RLev a c y.label) => label_Same (fun _ => True) (fun _ => True) V la lc a c z.label y.label ((hT.label.below h).okay fun _ _ => trivial) hy)
  have HO := Lib.hid hT.own
  have E3 := Lib.hid e3
  have d1 : decide ((8 : Int) < y.own.length) = false := by simp; omega
  have d2 : decide ((4 : Int) < y.objects.length) = false := by have := hx2.objs; simp; omega
  have d3 : decide ((6 : Int) < y.mails.length) = false := by have := hx2.mailN; simp; omega
  have d4 : decide ((64 : Int) < (y.text.size : Int)) = false := by have := hx2.text; simp; omega
  clear e2 e3 hT hx hx2
  have hcase : y.label = z.label ∨ (¬ z.label = y.label ∧ x.come = false ∧ x.call.kind = 5 ∧ r.code = 0) := by
    by_cases h : z.label = y.label
    · exact .inl h.symm
    · exact .inr ⟨h, e1.resolve_left fun e => h e.symm⟩
  clear e1
  have st := St.start W
  unfold thrV stepV RepV
  rcases hcase with hl | ⟨hl, hcm, hkd, hcd⟩
  · have ed : decide (z.label = y.label) = true := by simp [hl]
    rw [ed] at HS
    clear ed hl
    go_enter Try.func12, Try.ntmps12
    go_upto_region 2 with (first
      | go_skip | (with_reducible refine at_box 46 ?_; refine mem_box st (wanted_none rfl) 46 _ rfl _ rfl _ rfl ?_; clear st; intro g7 w7 hg7 st hg7b; clear hg7b; simp [Act.eval, Act.put, Value.cells, putL] at st) | (with_reducible refine at_box 37 ?_; refine mem_box st (wanted_none rfl) 37 _ rfl _ rfl _ rfl ?_; clear st; intro g8 w8 hg8 st hg8b; clear hg8b; simp [Act.eval, Act.put, Value.cells, putL] at st) | (with_reducible refine at_box 39 ?_; refine mem_box st (wanted_none rfl) 39 _ rfl _ rfl _ rfl ?_; clear st; intro g9 w9 hg9 st hg9b; clear hg9b; simp [Act.eval, Act.put, Value.cells, putL] at st)
      | (go_at_call 13; go_must (refine (HTh.out _ st.below).mono ?_; rintro e v1 ⟨nla, nlc, noa, noc, nba, nbc, nma, nmc, rfl, hb1, hT2⟩; have hst := st.call hb1; clear st; have st := hst.rebase; simp only [List.map_cons, List.map_nil] at st; clear hb1; unfold thrV))
      | (with_reducible refine at_alloc 46 ?_; refine mem_alloc st (wanted_none rfl) 46 rfl _ Try.zeroValue46 _ rfl ?_; clear st; intro g11 w11 hg11 st hg11b; clear hg11b; simp [Act.eval, Act.put, Value.cells, putL] at st) | (with_reducible refine at_store 46 ?_; (first | refine mem_store' st 46 _ _ rfl (wanted_none rfl) _ Try.sizeOf46 ?_ | (refine mem_store' st 46 _ _ rfl (wanted_some rfl ?_) _ Try.sizeOf46 ?_; focus (simp [yielded, Act.put]; done))); refine ⟨3, _, _, _, _, _, rfl, rfl, rfl, rfl, rfl, rfl, ?_⟩; clear st; intro w12 st hw12m hw12z; simp [Act.eval, Act.put, Value.cells, putL] at st))
    clear hw12m hw12z
    have hB1 := (St.back hst st).below
    have hB2 : Below v1.heap.size v1 w12 := hst.below2 st (by simp)
    have HY := Lib.hid (fun (V : World) (h : Below w12.heap.size w12 V) => (hT2.below hB2).below h)
    replace HF := Lib.hid (fun (V : World) (h : Below w12.heap.size w12 V) => HF.out V (hB1.keep h) nla nlc ((HY.out V h).label.okay fun _ _ => trivial))
    replace HS := Lib.hid (fun (V : World) (h : Below w12.heap.size w12 V) => HS.out V (hB1.keep h) nla nlc ((HY.out V h).label.okay fun _ _ => trivial))
    replace HG := Lib.hid (fun (V : World) (h : Below w12.heap.size w12 V) => HG.out V nla nlc ((HY.out V h).label.okay fun _ _ => trivial))
    have HN := Lib.hid (fun (V : World) (h : Below w12.heap.size w12 V) => (HY.out V h).own)
    have HO2 := Lib.hid (fun (V : World) (h : Below w12.heap.size w12 V) => HO.out.below (hB1.keep h))
    clear HY HO HTh hB2 hT2
    have st := St.back hst st
    clear hst
    have stA := st
    have st := st.rebase
    simp only [List.map_cons, List.map_nil] at st
    go_wp2_with (first
      | go_skip | (with_reducible refine at_load 24 ?_; (first | refine mem_load' st 24 _ rfl (wanted_none rfl) Try.isAgg24 ?_ | (refine mem_load' st 24 _ rfl (wanted_some rfl ?_) Try.isAgg24 ?_; focus (simp [yielded, Act.put]; done))); refine ⟨0, _, _, _, _, _, rfl, rfl, rfl, ?_⟩) | (with_reducible refine at_load 24 ?_; (first | refine mem_load' st 24 _ rfl (wanted_none rfl) Try.isAgg24 ?_ | (refine mem_load' st 24 _ rfl (wanted_some rfl ?_) Try.isAgg24 ?_; focus (simp [yielded, Act.put]; done))); refine ⟨3, _, _, _, _, _, rfl, rfl, rfl, ?_⟩) | (with_reducible refine at_load 25 ?_; (first | refine mem_load' st 25 _ rfl (wanted_none rfl) Try.isAgg25 ?_ | (refine mem_load' st 25 _ rfl (wanted_some rfl ?_) Try.isAgg25 ?_; focus (simp [yielded, Act.put]; done))); refine ⟨0, _, _, _, _, _, rfl, rfl, rfl, ?_⟩) | (with_reducible refine at_load 25 ?_; (first | refine mem_load' st 25 _ rfl (wanted_none rfl) Try.isAgg25 ?_ | (refine mem_load' st 25 _ rfl (wanted_some rfl ?_) Try.isAgg25 ?_; focus (simp [yielded, Act.put]; done))); refine ⟨3, _, _, _, _, _, rfl, rfl, rfl, ?_⟩) | (with_reducible refine at_load 43 ?_; (first | refine mem_load' st 43 _ rfl (wanted_none rfl) Try.isAgg43 ?_ | (refine mem_load' st 43 _ rfl (wanted_some rfl ?_) Try.isAgg43 ?_; focus (simp [yielded, Act.put]; done))); refine ⟨3, _, _, _, _, _, rfl, rfl, rfl, ?_⟩) | (with_reducible refine at_load 44 ?_; (first | refine mem_load' st 44 _ rfl (wanted_none rfl) Try.isAgg44 ?_ | (refine mem_load' st 44 _ rfl (wanted_some rfl ?_) Try.isAgg44 ?_; focus (simp [yielded, Act.put]; done))); refine ⟨3, _, _, _, _, _, rfl, rfl, rfl, ?_⟩) | (with_reducible refine at_load 9 ?_; (first | refine mem_load' st 9 _ rfl (wanted_none rfl) Try.isAgg9 ?_ | (refine mem_load' st 9 _ rfl (wanted_some rfl ?_) Try.isAgg9 ?_; focus (simp [yielded, Act.put]; done))); refine ⟨3, _, _, _, _, _, rfl, rfl, rfl, ?_⟩) | (with_reducible refine at_load 4 ?_; (first | refine mem_load' st 4 _ rfl (wanted_none rfl) Try.isAgg4 ?_ | (refine mem_load' st 4 _ rfl (wanted_some rfl ?_) Try.isAgg4 ?_; focus (simp [yielded, Act.put]; done))); refine ⟨1, _, _, _, _, _, rfl, rfl, rfl, ?_⟩) | (with_reducible refine at_load 3 ?_; (first | refine mem_load' st 3 _ rfl (wanted_none rfl) Try.isAgg3 ?_ | (refine mem_load' st 3 _ rfl (wanted_some rfl ?_) Try.isAgg3 ?_; focus (simp [yielded, Act.put]; done))); refine ⟨1, _, _, _, _, _, rfl, rfl, rfl, ?_⟩) | (with_reducible refine at_load 30 ?_; (first | refine mem_load' st 30 _ rfl (wanted_none rfl) Try.isAgg30 ?_ | (refine mem_load' st 30 _ rfl (wanted_some rfl ?_) Try.isAgg30 ?_; focus (simp [yielded, Act.put]; done))); refine ⟨2, _, _, _, _, _, rfl, rfl, rfl, ?_⟩)
      | (go_at_call 14; go_must (refine (HG.out _ (stA.below2 st (by simp))).mono ?_; rintro e v2 ⟨rfl, hb2⟩; replace st := st.call hb2; clear hb2))
      | (go_at_call 15; go_must (refine (HF.out _ (stA.below2 st (by simp))).mono ?_; rintro e v3 ⟨rfl, hb3⟩; replace st := st.call hb3; clear hb3))
      | (go_at_call 16; go_must (refine (HS.out _ (stA.below2 st (by simp))).mono ?_; rintro e v4 ⟨rfl, hb4⟩; replace st := st.call hb4; clear hb4)))
    have stB := stA.below2 st (by simp)
    clear st
    go_loopw [82] (fun v82 wr => ∃ j : Nat, j ≤ z.own.length ∧ v82 = .int .i64 j ∧ Below w12.heap.size w12 wr) (fun v82 _ => z.own.length - (intOf v82).toNat)
    case atStart => exact ⟨0, Nat.zero_le _, rfl, stB⟩
    case round =>
      clear stB
      obtain ⟨j, hj, rfl, hB⟩ := hrel
      have st := stA.call hB
      by_cases hlt : j < z.own.length
      · have hd : decide ((j : Int) < z.own.length) = true := by simp; omega
        obtain ⟨b, o, rfl, hb, hc⟩ := (HO2.out wr hB).int_at j hlt
        have hin0 := Lib.hid (E3.out _ (List.getElem_mem hlt))
        generalize z.own[j] = c at hc hin0
        go_wp2_with (first | go_skip | (with_reducible refine at_load 25 ?_; (first | refine mem_load' st 25 _ rfl (wanted_none rfl) Try.isAgg25 ?_ | (refine mem_load' st 25 _ rfl (wanted_some rfl ?_) Try.isAgg25 ?_; focus (simp [yielded, Act.put]; done))); refine ⟨3, _, _, _, _, _, rfl, rfl, rfl, ?_⟩))
        go_loopw [14, 89] (fun v14 v89 wi => ∃ m : Nat, m ≤ y.own.length ∧ v89 = .int .i64 m ∧ v14 = .bool (decide (c ∈ y.own.take m)) ∧ wi = wr) (fun _ v89 _ => y.own.length - (intOf v89).toNat)
        case atStart => exact ⟨0, Nat.zero_le _, rfl, by simp, rfl⟩
        case round =>
          obtain ⟨wm, rfl⟩ : ∃ V, V = wr := ⟨_, rfl⟩
          obtain ⟨m, hm, rfl, rfl, rfl⟩ := hrel
          by_cases hlt2 : m < y.own.length
          · have hd2 : decide ((m : Int) < y.own.length) = true := by simp; omega
            obtain ⟨b2, o2, rfl, hb2, hc2⟩ := (HN.out _ hB).int_at m hlt2
            have hT := Lib.hid (List.take_succ_eq_append_getElem hlt2)
            generalize y.own[m] = d at hc2 hT
            by_cases hin : c ∈ y.own.take m
            · have hin2 := Lib.hid hin
              have e1 : decide (c ∈ y.own.take m) = true := by simpa using hin
              rw [e1]
              clear hin e1
              go_wp2_with (first | go_skip | fail)
              go_roundw
              case rel => exact ⟨m + 1, hlt2, by go_num, by rw [hT.out]; simp [hin2.out], trivial⟩
              case measure => simp [intOf]; omega
            · have hin2 := Lib.hid hin
              have e1 : decide (c ∈ y.own.take m) = false := by simpa using hin
              rw [e1]
              clear hin e1
              by_cases hcd : c = d
              · have e2 : (c == d) = true := by simpa using hcd
                have hcd2 := Lib.hid hcd
                clear hcd
                go_wp2_with (first | go_skip | fail)
                go_roundw
                case rel => exact ⟨m + 1, hlt2, by go_num, by rw [hT.out]; simp [hcd2.out], trivial⟩
                case measure => simp [intOf]; omega
              · have e2 : (c == d) = false := by simpa using hcd
                have hcd2 := Lib.hid hcd
                clear hcd
                go_wp2_with (first | go_skip | fail)
                go_roundw
                case rel => exact ⟨m + 1, hlt2, by go_num, by rw [hT.out]; simp [hcd2.out, hin2.out], trivial⟩
                case measure => simp [intOf]; omega
          · have hd2 : decide ((m : Int) < y.own.length) = false := by simp; omega
            have e1 : decide (c ∈ y.own.take m) = true := by rw [List.take_of_length_le (by omega)]; simpa using hin0.out
            rw [e1]
            clear e1
            go_wp2_with (first | go_skip | fail)
            go_roundw
            case rel => exact ⟨j + 1, hlt, by go_num, hB⟩
            case measure => simp [intOf]; omega
      · have hd : decide ((j : Int) < z.own.length) = false := by simp; omega
        go_wp2_with (first | go_skip | fail)
        go_ret
        exact ⟨rfl, hB1.keep hB⟩
  · have ed : decide (z.label = y.label) = false := by simpa using hl
    rw [ed] at HS
    clear ed hl
    rw [hcm, hkd, hcd]
    clear hcm hkd hcd
    go_enter Try.func12, Try.ntmps12
    go_upto_region 2 with (first
      | go_skip | (with_reducible refine at_box 46 ?_; refine mem_box st (wanted_none rfl) 46 _ rfl _ rfl _ rfl ?_; clear st; intro g7 w7 hg7 st hg7b; clear hg7b; simp [Act.eval, Act.put, Value.cells, putL] at st) | (with_reducible refine at_box 37 ?_; refine mem_box st (wanted_none rfl) 37 _ rfl _ rfl _ rfl ?_; clear st; intro g8 w8 hg8 st hg8b; clear hg8b; simp [Act.eval, Act.put, Value.cells, putL] at st) | (with_reducible refine at_box 39 ?_; refine mem_box st (wanted_none rfl) 39 _ rfl _ rfl _ rfl ?_; clear st; intro g9 w9 hg9 st hg9b; clear hg9b; simp [Act.eval, Act.put, Value.cells, putL] at st)
      | (go_at_call 13; go_must (refine (HTh.out _ st.below).mono ?_; rintro e v1 ⟨nla, nlc, noa, noc, nba, nbc, nma, nmc, rfl, hb1, hT2⟩; have hst := st.call hb1; clear st; have st := hst.rebase; simp only [List.map_cons, List.map_nil] at st; clear hb1; unfold thrV))
      | (with_reducible refine at_alloc 46 ?_; refine mem_alloc st (wanted_none rfl) 46 rfl _ Try.zeroValue46 _ rfl ?_; clear st; intro g11 w11 hg11 st hg11b; clear hg11b; simp [Act.eval, Act.put, Value.cells, putL] at st) | (with_reducible refine at_store 46 ?_; (first | refine mem_store' st 46 _ _ rfl (wanted_none rfl) _ Try.sizeOf46 ?_ | (refine mem_store' st 46 _ _ rfl (wanted_some rfl ?_) _ Try.sizeOf46 ?_; focus (simp [yielded, Act.put]; done))); refine ⟨3, _, _, _, _, _, rfl, rfl, rfl, rfl, rfl, rfl, ?_⟩; clear st; intro w12 st hw12m hw12z; simp [Act.eval, Act.put, Value.cells, putL] at st))
    clear hw12m hw12z
    have hB1 := (St.back hst st).below
    have hB2 : Below v1.heap.size v1 w12 := hst.below2 st (by simp)
    have HY := Lib.hid (fun (V : World) (h : Below w12.heap.size w12 V) => (hT2.below hB2).below h)
    replace HF := Lib.hid (fun (V : World) (h : Below w12.heap.size w12 V) => HF.out V (hB1.keep h) nla nlc ((HY.out V h).label.okay fun _ _ => trivial))
    replace HS := Lib.hid (fun (V : World) (h : Below w12.heap.size w12 V) => HS.out V (hB1.keep h) nla nlc ((HY.out V h).label.okay fun _ _ => trivial))
    replace HG := Lib.hid (fun (V : World) (h : Below w12.heap.size w12 V) => HG.out V nla nlc ((HY.out V h).label.okay fun _ _ => trivial))
    have HN := Lib.hid (fun (V : World) (h : Below w12.heap.size w12 V) => (HY.out V h).own)
    have HO2 := Lib.hid (fun (V : World) (h : Below w12.heap.size w12 V) => HO.out.below (hB1.keep h))
    clear HY HO HTh hB2 hT2
    have st := St.back hst st
    clear hst
    have stA := st
    have st := st.rebase
    simp only [List.map_cons, List.map_nil] at st
    go_wp2_with (first
      | go_skip | (with_reducible refine at_load 24 ?_; (first | refine mem_load' st 24 _ rfl (wanted_none rfl) Try.isAgg24 ?_ | (refine mem_load' st 24 _ rfl (wanted_some rfl ?_) Try.isAgg24 ?_; focus (simp [yielded, Act.put]; done))); refine ⟨0, _, _, _, _, _, rfl, rfl, rfl, ?_⟩) | (with_reducible refine at_load 24 ?_; (first | refine mem_load' st 24 _ rfl (wanted_none rfl) Try.isAgg24 ?_ | (refine mem_load' st 24 _ rfl (wanted_some rfl ?_) Try.isAgg24 ?_; focus (simp [yielded, Act.put]; done))); refine ⟨3, _, _, _, _, _, rfl, rfl, rfl, ?_⟩) | (with_reducible refine at_load 25 ?_; (first | refine mem_load' st 25 _ rfl (wanted_none rfl) Try.isAgg25 ?_ | (refine mem_load' st 25 _ rfl (wanted_some rfl ?_) Try.isAgg25 ?_; focus (simp [yielded, Act.put]; done))); refine ⟨0, _, _, _, _, _, rfl, rfl, rfl, ?_⟩) | (with_reducible refine at_load 25 ?_; (first | refine mem_load' st 25 _ rfl (wanted_none rfl) Try.isAgg25 ?_ | (refine mem_load' st 25 _ rfl (wanted_some rfl ?_) Try.isAgg25 ?_; focus (simp [yielded, Act.put]; done))); refine ⟨3, _, _, _, _, _, rfl, rfl, rfl, ?_⟩) | (with_reducible refine at_load 43 ?_; (first | refine mem_load' st 43 _ rfl (wanted_none rfl) Try.isAgg43 ?_ | (refine mem_load' st 43 _ rfl (wanted_some rfl ?_) Try.isAgg43 ?_; focus (simp [yielded, Act.put]; done))); refine ⟨3, _, _, _, _, _, rfl, rfl, rfl, ?_⟩) | (with_reducible refine at_load 44 ?_; (first | refine mem_load' st 44 _ rfl (wanted_none rfl) Try.isAgg44 ?_ | (refine mem_load' st 44 _ rfl (wanted_some rfl ?_) Try.isAgg44 ?_; focus (simp [yielded, Act.put]; done))); refine ⟨3, _, _, _, _, _, rfl, rfl, rfl, ?_⟩) | (with_reducible refine at_load 9 ?_; (first | refine mem_load' st 9 _ rfl (wanted_none rfl) Try.isAgg9 ?_ | (refine mem_load' st 9 _ rfl (wanted_some rfl ?_) Try.isAgg9 ?_; focus (simp [yielded, Act.put]; done))); refine ⟨3, _, _, _, _, _, rfl, rfl, rfl, ?_⟩) | (with_reducible refine at_load 4 ?_; (first | refine mem_load' st 4 _ rfl (wanted_none rfl) Try.isAgg4 ?_ | (refine mem_load' st 4 _ rfl (wanted_some rfl ?_) Try.isAgg4 ?_; focus (simp [yielded, Act.put]; done))); refine ⟨1, _, _, _, _, _, rfl, rfl, rfl, ?_⟩) | (with_reducible refine at_load 3 ?_; (first | refine mem_load' st 3 _ rfl (wanted_none rfl) Try.isAgg3 ?_ | (refine mem_load' st 3 _ rfl (wanted_some rfl ?_) Try.isAgg3 ?_; focus (simp [yielded, Act.put]; done))); refine ⟨1, _, _, _, _, _, rfl, rfl, rfl, ?_⟩) | (with_reducible refine at_load 30 ?_; (first | refine mem_load' st 30 _ rfl (wanted_none rfl) Try.isAgg30 ?_ | (refine mem_load' st 30 _ rfl (wanted_some rfl ?_) Try.isAgg30 ?_; focus (simp [yielded, Act.put]; done))); refine ⟨2, _, _, _, _, _, rfl, rfl, rfl, ?_⟩)
      | (go_at_call 14; go_must (refine (HG.out _ (stA.below2 st (by simp))).mono ?_; rintro e v2 ⟨rfl, hb2⟩; replace st := st.call hb2; clear hb2))
      | (go_at_call 15; go_must (refine (HF.out _ (stA.below2 st (by simp))).mono ?_; rintro e v3 ⟨rfl, hb3⟩; replace st := st.call hb3; clear hb3))
      | (go_at_call 16; go_must (refine (HS.out _ (stA.below2 st (by simp))).mono ?_; rintro e v4 ⟨rfl, hb4⟩; replace st := st.call hb4; clear hb4)))
    have stB := stA.below2 st (by simp)
    clear st
    go_loopw [82] (fun v82 wr => ∃ j : Nat, j ≤ z.own.length ∧ v82 = .int .i64 j ∧ Below w12.heap.size w12 wr) (fun v82 _ => z.own.length - (intOf v82).toNat)
    case atStart => exact ⟨0, Nat.zero_le _, rfl, stB⟩
    case round =>
      clear stB
      obtain ⟨j, hj, rfl, hB⟩ := hrel
      have st := stA.call hB
      by_cases hlt : j < z.own.length
      · have hd : decide ((j : Int) < z.own.length) = true := by simp; omega
        obtain ⟨b, o, rfl, hb, hc⟩ := (HO2.out wr hB).int_at j hlt
        have hin0 := Lib.hid (E3.out _ (List.getElem_mem hlt))
        generalize z.own[j] = c at hc hin0
        go_wp2_with (first | go_skip | (with_reducible refine at_load 25 ?_; (first | refine mem_load' st 25 _ rfl (wanted_none rfl) Try.isAgg25 ?_ | (refine mem_load' st 25 _ rfl (wanted_some rfl ?_) Try.isAgg25 ?_; focus (simp [yielded, Act.put]; done))); refine ⟨3, _, _, _, _, _, rfl, rfl, rfl, ?_⟩))
        go_loopw [14, 89] (fun v14 v89 wi => ∃ m : Nat, m ≤ y.own.length ∧ v89 = .int .i64 m ∧ v14 = .bool (decide (c ∈ y.own.take m)) ∧ wi = wr) (fun _ v89 _ => y.own.length - (intOf v89).toNat)
        case atStart => exact ⟨0, Nat.zero_le _, rfl, by simp, rfl⟩
        case round =>
          obtain ⟨wm, rfl⟩ : ∃ V, V = wr := ⟨_, rfl⟩
          obtain ⟨m, hm, rfl, rfl, rfl⟩ := hrel
          by_cases hlt2 : m < y.own.length
          · have hd2 : decide ((m : Int) < y.own.length) = true := by simp; omega
            obtain ⟨b2, o2, rfl, hb2, hc2⟩ := (HN.out _ hB).int_at m hlt2
            have hT := Lib.hid (List.take_succ_eq_append_getElem hlt2)
            generalize y.own[m] = d at hc2 hT
            by_cases hin : c ∈ y.own.take m
            · have hin2 := Lib.hid hin
              have e1 : decide (c ∈ y.own.take m) = true := by simpa using hin
              rw [e1]
              clear hin e1
              go_wp2_with (first | go_skip | fail)
              go_roundw
              case rel => exact ⟨m + 1, hlt2, by go_num, by rw [hT.out]; simp [hin2.out], trivial⟩
              case measure => simp [intOf]; omega
            · have hin2 := Lib.hid hin
              have e1 : decide (c ∈ y.own.take m) = false := by simpa using hin
              rw [e1]
              clear hin e1
              by_cases hcd : c = d
              · have e2 : (c == d) = true := by simpa using hcd
                have hcd2 := Lib.hid hcd
                clear hcd
                go_wp2_with (first | go_skip | fail)
                go_roundw
                case rel => exact ⟨m + 1, hlt2, by go_num, by rw [hT.out]; simp [hcd2.out], trivial⟩
                case measure => simp [intOf]; omega
              · have e2 : (c == d) = false := by simpa using hcd
                have hcd2 := Lib.hid hcd
                clear hcd
                go_wp2_with (first | go_skip | fail)
                go_roundw
                case rel => exact ⟨m + 1, hlt2, by go_num, by rw [hT.out]; simp [hcd2.out, hin2.out], trivial⟩
                case measure => simp [intOf]; omega
          · have hd2 : decide ((m : Int) < y.own.length) = false := by simp; omega
            have e1 : decide (c ∈ y.own.take m) = true := by rw [List.take_of_length_le (by omega)]; simpa using hin0.out
            rw [e1]
            clear e1
            go_wp2_with (first | go_skip | fail)
            go_roundw
            case rel => exact ⟨j + 1, hlt, by go_num, hB⟩
            case measure => simp [intOf]; omega
      · have hd : decide ((j : Int) < z.own.length) = false := by simp; omega
        go_wp2_with (first | go_skip | fail)
        go_ret
        exact ⟨rfl, hB1.keep hB⟩

end Go.Proofs.Ytnkfemjmfalamaa

/- Two kernels side by side, neither in the other's way. -/
namespace Go.Proofs.Ytnkfemjmfalamaa
open Go.RowKit

def Pair (w0 : World) (own : Blks) (ga gb : Nat) (W : World) : Prop := St [] w0 W own ∧
  ∃ oka ka cssa Bsa okb kb cssb Bsb, KerAt oka W ga ka cssa Bsa ∧ ka.ok ∧ KerAt okb W gb kb cssb Bsb ∧ kb.ok ∧
    (∀ b ∈ ga :: Bsa.flatten, w0.heap.size ≤ b ∧ (∀ x ∈ own, x.1 ≠ b) ∧ b ∉ gb :: Bsb.flatten ∧ ¬ okb b) ∧
    (∀ b ∈ gb :: Bsb.flatten, w0.heap.size ≤ b ∧ (∀ x ∈ own, x.1 ≠ b) ∧ b ∉ ga :: Bsa.flatten ∧ ¬ oka b) ∧
    (∀ b, oka b → b < W.heap.size) ∧ ∀ b, okb b → b < W.heap.size

theorem Pair.swap {w0 W : World} {own : Blks} {ga gb : Nat} (h : Pair w0 own ga gb W) : Pair w0 own gb ga W := by
  obtain ⟨st, oka, ka, cssa, Bsa, okb, kb, cssb, Bsb, h1, h2, h3, h4, h5, h6, h7, h8⟩ := h
  exact ⟨st, okb, kb, cssb, Bsb, oka, ka, cssa, Bsa, h3, h4, h1, h2, h6, h5, h8, h7⟩

theorem Pair.grow {w0 W W2 : World} {own own2 : Blks} {ga gb : Nat} (h : Pair w0 own ga gb W) (hb : Below W.heap.size W W2) (st2 : St [] w0 W2 own2) (hx : ∀ x ∈ own2, (∃ y ∈ own, y.1 = x.1) ∨ W.heap.size ≤ x.1) : Pair w0 own2 ga gb W2 := by
  obtain ⟨st, oka, ka, cssa, Bsa, okb, kb, cssb, Bsb, h1, h2, h3, h4, h5, h6, h7, h8⟩ := h
  refine ⟨st2, oka, ka, cssa, Bsa, okb, kb, cssb, Bsb, h1.below hb, h2, h3.below hb, h4, fun b hm => ⟨(h5 b hm).1, fun x hx' e => ?_, (h5 b hm).2.2⟩, fun b hm => ⟨(h6 b hm).1, fun x hx' e => ?_, (h6 b hm).2.2⟩, fun b ho => Nat.lt_of_lt_of_le (h7 b ho) hb.size, fun b ho => Nat.lt_of_lt_of_le (h8 b ho) hb.size⟩
  · rcases hx x hx' with ⟨y, hy, e2⟩ | h9
    · exact (h5 b hm).2.1 y hy (e2.trans e)
    · have := h1.lt b hm; omega
  · rcases hx x hx' with ⟨y, hy, e2⟩ | h9
    · exact (h6 b hm).2.1 y hy (e2.trans e)
    · have := h3.lt b hm; omega

/-- A call of the first. -/
theorem pair_Call {w0 W : World} {own : Blks} {ga gb : Nat} (h : Pair w0 own ga gb W) (t : Int) (c : Req) (la : Option Addr) (lc : Nat) (gra : Option Addr) (grc : Nat) (hll : c.label.length * 16 ≤ 140737488351232) (hcl : SlR (fun _ => True) W 2 RLev la lc c.label) :
    Calls Try.prog 10 #[.pointer (some ⟨ga, 0, none⟩), .int .i64 t, reqV c la lc gra grc] W fun e W' => (∃ k : Ker, e = .returned (RepV (stepC k t c).2)) ∧ Pair w0 own ga gb W' := by
  obtain ⟨st, oka, ka, cssa, Bsa, okb, kb, cssb, Bsb, h1, h2, h3, h4, h5, h6, h7, h8⟩ := h
  refine (kernel_Call oka (fun _ => True) W ga ka cssa Bsa c la lc gra grc h1 h2 t hll hcl).mono ?_
  rintro e W' ⟨rfl, css', Bs', hK, hs, hin⟩
  refine ⟨⟨ka, rfl⟩, st.callK hs (fun x hx hm => (h5 _ hm).2.1 x hx rfl) (fun b hm => .inr (h5 b hm).1), fun b => ((oka b ∨ W.heap.size ≤ b) ∧ b ∉ ga :: Bs'.flatten) ∧ b < W'.heap.size, _, css', Bs', okb, kb, cssb, Bsb, ?_, stepC_ok h2 t c, ?_, h4, ?_, ?_, fun b hb => hb.2, fun b hb => Nat.lt_of_lt_of_le (h8 b hb) hs.size⟩
  · exact hK.move (Nat.le_refl _) (fun b hb ho => ⟨⟨ho, hb⟩, rfl⟩) fun b hb => ⟨rfl, fun hh => hh.1.2 hb⟩
  · refine h3.move hs.size (fun b hb ho => ⟨ho, hs.frame b hb fun hm => (h5 b hm).2.2.2 ho⟩) fun b hb => ⟨hs.frame b (h3.lt b hb) (h6 b hb).2.2.1, h3.apart b hb⟩
  · intro b hm
    have hc : b ∈ ga :: Bsa.flatten ∨ W.heap.size ≤ b := by
      rcases List.mem_cons.1 hm with rfl | hm
      · exact .inl (by simp)
      · exact (hin b hm).imp (List.mem_cons_of_mem _) id
    rcases hc with hc | hc
    · exact h5 b hc
    · refine ⟨Nat.le_trans st.size hc, fun x hx e => ?_, fun hm2 => ?_, fun ho => ?_⟩
      · have := (Array.getElem?_eq_some_iff.1 (st.blk x hx)).1; omega
      · have := h3.lt b hm2; omega
      · have := h8 b ho; omega
  · intro b hm
    refine ⟨(h6 b hm).1, (h6 b hm).2.1, fun hm2 => ?_, fun ho => ?_⟩
    · rcases List.mem_cons.1 hm2 with rfl | hm2
      · exact (h6 b hm).2.2.1 (by simp)
      · rcases hin b hm2 with hi | hi
        · exact (h6 b hm).2.2.1 (List.mem_cons_of_mem _ hi)
        · have := h3.lt b hm; omega
    · rcases ho.1.1 with ho | ho
      · exact (h6 b hm).2.2.2 ho
      · have := h3.lt b hm; omega

/-- A step of a row, cell by cell. -/
theorem SlR.step_at {ok : Nat → Prop} {w : World} {a : Option Addr} {c : Nat} {xs : List Step} (h : SlR ok w 15 (RStep ok w) a c xs) (i : Nat) (hi : i < xs.length) :
    ∃ b o la lc ga gc ma mc na nc, a = some ⟨b, o, none⟩ ∧ b < w.heap.size ∧ (SlR ok w 2 RLev la lc xs[i].call.label ∧ SlR ok w 1 RInt ga gc xs[i].call.grants ∧ SlR ok w 2 RLev ma mc xs[i].mail.label ∧ SlR ok w 1 RInt na nc xs[i].mail.grants) ∧
      w.cell? ⟨b, o + i * 15, none⟩ = some (.int .i64 xs[i].t) ∧ w.cell? ⟨b, o + i * 15 + 1, none⟩ = some (.bool xs[i].come) ∧ w.cell? ⟨b, o + i * 15 + 2, none⟩ = some (.int .i64 xs[i].call.kind) ∧ w.cell? ⟨b, o + i * 15 + 3, none⟩ = some (.int .i64 xs[i].call.h) ∧
      w.cell? ⟨b, o + i * 15 + 4, none⟩ = some (.int .i64 xs[i].call.t) ∧ w.cell? ⟨b, o + i * 15 + 5, none⟩ = some (.int .i64 xs[i].call.n) ∧ w.cell? ⟨b, o + i * 15 + 6, none⟩ = some (.int .i64 xs[i].call.c) ∧ w.cell? ⟨b, o + i * 15 + 7, none⟩ = some (.slice la xs[i].call.label.length lc) ∧
      w.cell? ⟨b, o + i * 15 + 8, none⟩ = some (.slice ga xs[i].call.grants.length gc) ∧ w.cell? ⟨b, o + i * 15 + 9, none⟩ = some (.string xs[i].call.text) ∧ w.cell? ⟨b, o + i * 15 + 10, none⟩ = some (.int .i64 xs[i].mail.host) ∧ w.cell? ⟨b, o + i * 15 + 11, none⟩ = some (.int .i64 xs[i].mail.thread) ∧
      w.cell? ⟨b, o + i * 15 + 12, none⟩ = some (.slice ma xs[i].mail.label.length mc) ∧ w.cell? ⟨b, o + i * 15 + 13, none⟩ = some (.slice na xs[i].mail.grants.length nc) ∧ w.cell? ⟨b, o + i * 15 + 14, none⟩ = some (.string xs[i].mail.text) := by
  obtain ⟨b, o, cs, ha, _, hb, ⟨la, lc, ga, gc, ma, mc, na, nc, rfl, r1, r2, r3, r4⟩, _, _, hc⟩ := h.2.2.2 i xs[i] (by simp [hi])
  exact ⟨b, o, la, lc, ga, gc, ma, mc, na, nc, ha, hb, ⟨r1, r2, r3, r4⟩, by simpa using hc 0 _ rfl, by simpa using hc 1 _ rfl, by simpa using hc 2 _ rfl, by simpa using hc 3 _ rfl, by simpa using hc 4 _ rfl, by simpa using hc 5 _ rfl, by simpa using hc 6 _ rfl, by simpa using hc 7 _ rfl, by simpa using hc 8 _ rfl, by simpa using hc 9 _ rfl, by simpa using hc 10 _ rfl, by simpa using hc 11 _ rfl, by simpa using hc 12 _ rfl, by simpa using hc 13 _ rfl, by simpa using hc 14 _ rfl⟩

end Go.Proofs.Ytnkfemjmfalamaa
