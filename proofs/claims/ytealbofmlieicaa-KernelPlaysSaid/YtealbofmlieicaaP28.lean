/- Walks and plain laws, part 28. -/
import Derived.Test.YtealbofmlieicaaP27
import Derived.Test.YtealbofmlieicaaP26
set_option linter.unusedSimpArgs false
set_option linter.unusedVariables false
set_option maxHeartbeats 16000000
set_option maxRecDepth 100000
namespace Go.Proofs.Ytealbofmlieicaa
open Go.RowKit
theorem ref_Letter_out (w : World) (g : Nat) (t : Int) (c : Req) (la : Option Addr) (lc : Nat) (ga : Option Addr) (gc : Nat) (h4 : four t = false) :
  Calls Try.prog 8 #[.pointer (some ⟨g, 0, none⟩), .int .i64 t, reqV c la lc ga gc] w (LetPost w (zeroM, 4)) := by
 have st := St.start w
 have H4 := qh (fun (W : World) => ref_four t W)
 rw [h4] at H4
 unfold reqV
 clear h4
 have tk := trivial
 go_enter Try.func8, Try.ntmps8
 go_wp2_with (first | go_skip | (go_at_call 24; go_must (refine (H4.out _).mono ?_; rintro e v1 ⟨rfl, rfl⟩)) | (with_reducible refine mB 40 st ?_; clear st; intro g5 w5 hg5 st) | (clear tk; (with_reducible refine mA st Try.zeroValue42 ?_; clear st; intro g6 w6 hg6 st)) | (with_reducible refine mA st Try.zeroValue42 ?_; clear st; intro g8 w8 hg8 st) | (with_reducible refine mXA st Try.isAgg42 Try.sizeOf42 ?_) | (with_reducible refine mS 2 st Try.sizeOf42 ?_; clear st; intro w7 st hw7m hw7z) | (with_reducible refine mS 1 st Try.sizeOf42 ?_; clear st; intro w7 st hw7m hw7z))
 have hc := fun j => st.cell (i := 1) rfl j
 refine bodyPost_ret (v := .tuple #[mailV zeroM none 0 none 0, .int .i64 4]) ?hr rfl ⟨none, 0, none, 0, rfl, st.below, ⟨SlR.nil .., SlR.nil ..⟩⟩
 case hr => simp [results, Try.results8, go_sem, hc, mailV, zeroM]; try rfl
theorem ref_Letter (ok okc : Nat → Prop) (w : World) (g : Nat) (k : Ker) (css : List (List Value)) (Bs : List (List Nat)) (h : RkAt ok w g k css Bs) (hk : ∀ x ∈ k.threads, x.ok) (t : Int) (c : Req) (la : Option Addr) (lc : Nat) (ga : Option Addr) (gc : Nat)
  (hll : c.label.length * 16 ≤ 140737488351232) (hgl : c.grants.length * 8 ≤ 140737488351232) (hct : c.text.size ≤ 140737488351232) (hcl : SlR okc w 2 RLev la lc c.label) (hcg : SlR okc w 1 RInt ga gc c.grants) :
  Calls Try.prog 8 #[.pointer (some ⟨g, 0, none⟩), .int .i64 t, reqV c la lc ga gc] w (LetPost w (letterK k t c)) := by
 by_cases h4 : four t = true
 case neg =>
  have h4 : four t = false := by simpa using h4
  unfold letterK
  rw [if_pos h4]
  exact ref_Letter_out w g t c la lc ga gc h4
 have HE := qh (show letterK k t c = if goodMailC (letterM k t c) ≠ 0 then (zeroM, goodMailC (letterM k t c)) else if ¬ (∀ g ∈ c.grants, g ∈ (k.thr t).own) then (zeroM, 7) else if flowsL (k.thr t).label c.label (k.thr t).own = false then (zeroM, 6) else (letterM k t c, 0) by unfold letterK; rw [if_neg (by simp [h4])])
 obtain ⟨n, rfl, hn⟩ := four_nat h4
 obtain ⟨x, xa, xc, oa, oc, ba, bc, ma, mc, ex, ec, eB, hT, hb⟩ := h.open hn
 have hx := hk x (mgE ex)
 have hpre := h.preLen hn
 have HX := qh (show (k.thr n) = x from Ker.thr_at ex)
 rw [HX.out] at HE
 replace HE := HE.out
 have hMe : letterM k n c = ⟨k.host, n, c.label, c.grants, lastB (x.text ++ c.text)⟩ := by unfold letterM; rw [HX.out]; rfl
 rw [hMe] at HE
 have st0 := St.hand hb
 unfold thrC at st0 hb
 have H4 := qh (fun (W : World) => ref_four (n : Int) W)
 rw [h4] at H4
 have d1 : decide ((n : Int) < 0) = false := by simp
 have d2 : decide ((4 : Int) ≤ n) = false := by simp; omega
 have hgw := h.lt g (by simp)
 have hxf := goodL_fitI hx.good
 have hxl := goodL_len hx.good; have hxo := hx.ownL; have hxt := hx.text
 have hsz : (x.text ++ c.text).size = x.text.size + c.text.size := ByteArray.size_append
 have hszT : (lastB (x.text ++ c.text)).size ≤ 64 := by unfold lastB; rw [ByteArray.size_extract]; omega
 have HLa := qh (fun (W : World) => ref_last W (x.text ++ c.text) (by omega))
 have HB := qh (show ∀ (W : World) (bl : Blks), St [g] w W bl → (g, 38, winC (preC k css n) [.slice xa x.label.length xc, .slice oa x.own.length oc, .string x.text, .slice ba x.objects.length bc, .slice ma x.mails.length mc] (postC k css n)) ∈ bl → Below w.heap.size w W from fun W bl s hm => st0.below2 s (by simpa using hm))
 have HCo := qh (fun (W : World) (bl : Blks) (hW : St [g] w W bl) (hm : (g, 38, winC (preC k css n) [.slice xa x.label.length xc, .slice oa x.own.length oc, .string x.text, .slice ba x.objects.length bc, .slice ma x.mails.length mc] (postC k css n)) ∈ bl) => ref_CopyMail okc W ⟨k.host, n, c.label, c.grants, lastB (x.text ++ c.text)⟩ la lc ga gc (hcl.below (HB.out W _ hW hm)) (hcg.below (HB.out W _ hW hm)) (by simp only; omega) (by simp only; omega))
 have HF := qh (fun (W : World) (bl : Blks) (hW : St [g] w W bl) (hm : (g, 38, winC (preC k css n) [.slice xa x.label.length xc, .slice oa x.own.length oc, .string x.text, .slice ba x.objects.length bc, .slice ma x.mails.length mc] (postC k css n)) ∈ bl) => And.intro (hT.label.below (HB.out W _ hW hm)) (hT.own.below (HB.out W _ hW hm)))
 have st := st0
 have HS0 := qh st0
 have hszH := qh hsz
 clear st0 hb hT h ex ec eB hx hk h4 hMe hsz
 unfold reqV
 have tk := trivial
 go_enter Try.func8, Try.ntmps8
 go_upto_region 5 with (first | go_skip | (go_at_call 24; go_must (refine (H4.out _).mono ?_; rintro e v1 ⟨rfl, rfl⟩)) | (with_reducible refine mB 40 st ?_; clear st; intro g5 w5 hg5 st) | (clear tk; (with_reducible refine mA st Try.zeroValue42 ?_; clear st; intro g6 w6 hg6 st)) | (with_reducible refine mA st Try.zeroValue42 ?_; clear st; intro g8 w8 hg8 st) | (with_reducible refine mS 3 st Try.sizeOf42 ?_; clear st; intro w7 st hw7m hw7z) | (with_reducible refine at_load 35 ?_; refine mem_loadWin st 35 _ rfl (wanted_none rfl) Try.isAgg35 _ Try.sizeOf35 ?_; refine ⟨0, _, _, _, _, _, _, hpre, rfl, rfl, rfl, ?_⟩) | (with_reducible refine mA st Try.zeroValue35 ?_; clear st; intro g9 w9 hg9 st) | (with_reducible refine mS 4 st Try.sizeOf35 ?_; clear st; intro w11 st hw11m hw11z))
 try simp only [kP, kA, kS, kZ]
 go_cut [10] (fun s10 wx => ∃ (g10 : Nat) (a4 : Option Addr) (k4 : Nat) (a5 : Option Addr) (k5 : Nat), s10 = .pointer (some ⟨g10, 0, none⟩) ∧ St [g] w wx [(g, 38, winC (preC k css n) [.slice xa x.label.length xc, .slice oa x.own.length oc, .string x.text, .slice ba x.objects.length bc, .slice ma x.mails.length mc] (postC k css n)), (g5, 40, [.int .i64 c.kind, .int .i64 c.h, .int .i64 c.t, .int .i64 c.n, .int .i64 c.c, .slice la c.label.length lc, .slice ga c.grants.length gc, .string c.text]), (g6, 42, [.int .i64 0, .int .i64 0, .slice none 0 0, .slice none 0 0, .string ⟨#[]⟩]), (g8, 42, [.int .i64 0, .int .i64 0, .slice none 0 0, .slice none 0 0, .string ⟨#[]⟩]), (g9, 35, [.slice xa x.label.length xc, .slice oa x.own.length oc, .string x.text, .slice ba x.objects.length bc, .slice ma x.mails.length mc]), (g10, 42, [.int .i64 k.host, .int .i64 n, .slice a4 c.label.length k4, .slice a5 c.grants.length k5, .string (lastB (x.text ++ c.text))])] ∧ SlR (fun b => w.heap.size ≤ b ∧ b < wx.heap.size ∧ b ∉ [g, g5, g6, g8, g9, g10]) wx 2 RLev a4 k4 c.label ∧ SlR (fun b => w.heap.size ≤ b ∧ b < wx.heap.size ∧ b ∉ [g, g5, g6, g8, g9, g10]) wx 1 RInt a5 k5 c.grants)
 case first =>
  have st := st.drew
  have hI := st
  refine lex_region (by kernel_rfl) 19 rfl (fun W => St [g] w W [(g, 38, winC (preC k css n) [.slice xa x.label.length xc, .slice oa x.own.length oc, .string x.text, .slice ba x.objects.length bc, .slice ma x.mails.length mc] (postC k css n)), (g5, 40, [.int .i64 c.kind, .int .i64 c.h, .int .i64 c.t, .int .i64 c.n, .int .i64 c.c, .slice la c.label.length lc, .slice ga c.grants.length gc, .string c.text]), (g6, 42, [.int .i64 0, .int .i64 0, .slice none 0 0, .slice none 0 0, .string ⟨#[]⟩]), (g8, 42, [.int .i64 0, .int .i64 0, .slice none 0 0, .slice none 0 0, .string ⟨#[]⟩]), (g9, 35, [.slice xa x.label.length xc, .slice oa x.own.length oc, .string x.text, .slice ba x.objects.length bc, .slice ma x.mails.length mc])]) ?_
  refine lexS 0 rfl hI ?_
  refine lexS 1 rfl hI ?_
  refine lexS 2 rfl hI ?_
  refine lexT 3 rfl hI (fun W hW => St.run_load hW 0 3 _ rfl Try.isAgg3 rfl rfl rfl) ?_
  refine lexS 4 rfl hI ?_
  refine lexS 5 rfl hI ?_
  refine lexT 6 rfl hI (fun W hW => St.run_load hW 1 30 _ rfl Try.isAgg30 rfl rfl rfl) ?_
  refine lexS 7 rfl hI ?_
  refine lexT 8 rfl hI (fun W hW => St.run_load hW 1 31 _ rfl Try.isAgg31 rfl rfl rfl) ?_
  refine lexS 9 rfl hI ?_
  refine lexT 10 rfl hI (fun W hW => St.run_load hW 4 9 _ rfl Try.isAgg9 rfl rfl rfl) ?_
  refine lexS 11 rfl hI ?_
  refine lexT 12 rfl hI (fun W hW => St.run_load hW 1 9 _ rfl Try.isAgg9 rfl rfl rfl) ?_
  refine lexT (v := .string (x.text ++ c.text)) 13 rfl hI (fun W hW => by (go_simp; first | done | omega)) ?_
  clear hI
  refine lex_each [14, 17] (by decide +kernel) (by decide) ?_; intro i hi K hK; simp only [List.mem_cons, List.not_mem_nil, or_false] at hi; rcases hi with rfl | rfl <;> refine ⟨_, rfl, (by first | exact wanted_none rfl | exact wanted_some rfl rfl), ?_⟩
  ·refine wp_callee (f := 25) (by first | (go_simp; done) | (go_simp; rfl)) ?_
   refine (HLa.out _).mono ?_
   rintro e v4 ⟨rfl, hb4⟩
   refine ⟨_, rfl, ?_⟩
   replace st := st.call hb4
   clear hb4
   have hI := st
   refine hK _ _ (hI) ?_; clear hK; simp only [kP, kA, kS, kZ]
   refine lexS 15 rfl hI ?_
   clear hI
   refine lex_each [16, 17] (by decide +kernel) (by decide) ?_; intro i hi K hK; simp only [List.mem_cons, List.not_mem_nil, or_false] at hi; rcases hi with rfl | rfl <;> refine ⟨_, rfl, (by first | exact wanted_none rfl | exact wanted_some rfl rfl), ?_⟩
   ·have hzA := st.size
    have l0 := st.ltAt (i := 0) rfl; have l1 := st.ltAt (i := 1) rfl; have l2 := st.ltAt (i := 2) rfl; have l3 := st.ltAt (i := 3) rfl; have l4 := st.ltAt (i := 4) rfl
    refine wp_callee (f := 11) (by first | (go_simp; done) | (go_simp; rfl)) ?_
    refine (HCo.out _ _ st (by simp)).mono ?_
    rintro e v5 ⟨a4, k4, a5, k5, rfl, hb5, hO4, hO5⟩
    have hz5 := hb5.size
    replace hO4 := hO4.fit (ok' := fun b => w.heap.size ≤ b ∧ b < v5.heap.size ∧ b ∉ [g, g5, g6, g8, g9]) (fun b hb ho => ⟨by omega, hb, by simp; omega⟩)
    replace hO5 := hO5.fit (ok' := fun b => w.heap.size ≤ b ∧ b < v5.heap.size ∧ b ∉ [g, g5, g6, g8, g9]) (fun b hb ho => ⟨by omega, hb, by simp; omega⟩)
    refine ⟨_, rfl, ?_⟩
    replace st := st.call hb5
    clear hb5
    refine hK _ _ (st) ?_; clear hK; simp only [kP, kA, kS, kZ]
    refine lexO 17 rfl fun K hK => ?_
    have hst := st
    replace st := hst.rebase
    simp only [List.map_cons, List.map_nil] at st
    refine wp_alloc st 42 rfl _ Try.zeroValue42 _ rfl ?_; clear st; intro g10 w10 hg10 st hg10b; simp [Act.eval, Act.put, Value.cells, putL] at st
    have hg10v : v5.heap.size ≤ g10 := hg10
    replace st := St.back hst st
    clear hst
    replace hO4 := hO4.below hg10b
    replace hO5 := hO5.below hg10b
    have hz10 := hg10b.size
    clear hg10b
    refine hK _ _ (st.take 5) ?_; clear hK; simp only [kP, kA, kS, kZ]
    refine lexO 18 rfl fun K hK => ?_
    refine wp_store' st 42 _ _ rfl _ Try.sizeOf42 ⟨5, _, _, _, _, _, rfl, rfl, rfl, rfl, rfl, rfl, ?_⟩; clear st; intro w7 st hw7m hw7z; simp [Act.eval, Act.put, Value.cells, putL] at st
    replace hO4 := hO4.move (w' := w7) (ok' := fun b => w.heap.size ≤ b ∧ b < w7.heap.size ∧ b ∉ [g, g5, g6, g8, g9, g10]) (by omega) (fun b hb ho => ⟨⟨ho.1, by omega, by (have h1 := ho.2.1; have h2 := ho.2.2; simp at h2 ⊢; omega)⟩, hw7m b (by (have h1 := ho.2.1; omega))⟩) fun _ _ r => r
    replace hO5 := hO5.move (w' := w7) (ok' := fun b => w.heap.size ≤ b ∧ b < w7.heap.size ∧ b ∉ [g, g5, g6, g8, g9, g10]) (by omega) (fun b hb ho => ⟨⟨ho.1, by omega, by (have h1 := ho.2.1; have h2 := ho.2.2; simp at h2 ⊢; omega)⟩, hw7m b (by (have h1 := ho.2.1; omega))⟩) fun _ _ r => r
    clear hw7m hw7z
    refine hK _ _ (st.take 5) ?_; clear hK; simp only [kP, kA, kS, kZ]
    refine lex_done (by decide +kernel) ?_
    go_wp2_with fail
    go_meet
    exact ⟨g10, a4, k4, a5, k5, rfl, st, hO4, hO5⟩
   ·refine wp_alloc st 42 rfl _ Try.zeroValue42 _ rfl ?_; clear st; intro g10 w10 hg10 st hg10b; simp [Act.eval, Act.put, Value.cells, putL] at st
    clear hg10b
    refine hK _ _ (st.take 5) ?_; clear hK; simp only [kP, kA, kS, kZ]
    refine lexO 16 rfl fun K hK => ?_
    have l5 := st.ltAt (i := 5) rfl
    have hzA := st.size
    have l0 := st.ltAt (i := 0) rfl; have l1 := st.ltAt (i := 1) rfl; have l2 := st.ltAt (i := 2) rfl; have l3 := st.ltAt (i := 3) rfl; have l4 := st.ltAt (i := 4) rfl
    refine wp_callee (f := 11) (by first | (go_simp; done) | (go_simp; rfl)) ?_
    refine (HCo.out _ _ st (by simp)).mono ?_
    rintro e v5 ⟨a4, k4, a5, k5, rfl, hb5, hO4, hO5⟩
    have hz5 := hb5.size
    replace hO4 := hO4.fit (ok' := fun b => w.heap.size ≤ b ∧ b < v5.heap.size ∧ b ∉ [g, g5, g6, g8, g9, g10]) (fun b hb ho => ⟨by omega, hb, by simp; omega⟩)
    replace hO5 := hO5.fit (ok' := fun b => w.heap.size ≤ b ∧ b < v5.heap.size ∧ b ∉ [g, g5, g6, g8, g9, g10]) (fun b hb ho => ⟨by omega, hb, by simp; omega⟩)
    refine ⟨_, rfl, ?_⟩
    replace st := st.call hb5
    clear hb5
    refine hK _ _ (st.take 5) ?_; clear hK; simp only [kP, kA, kS, kZ]
    refine lexO 18 rfl fun K hK => ?_
    refine wp_store' st 42 _ _ rfl _ Try.sizeOf42 ⟨5, _, _, _, _, _, rfl, rfl, rfl, rfl, rfl, rfl, ?_⟩; clear st; intro w7 st hw7m hw7z; simp [Act.eval, Act.put, Value.cells, putL] at st
    replace hO4 := hO4.move (w' := w7) (ok' := fun b => w.heap.size ≤ b ∧ b < w7.heap.size ∧ b ∉ [g, g5, g6, g8, g9, g10]) (by omega) (fun b hb ho => ⟨⟨ho.1, by omega, by (exact ho.2.2)⟩, hw7m b (by (have h2 := ho.2.2; simp at h2; omega))⟩) fun _ _ r => r
    replace hO5 := hO5.move (w' := w7) (ok' := fun b => w.heap.size ≤ b ∧ b < w7.heap.size ∧ b ∉ [g, g5, g6, g8, g9, g10]) (by omega) (fun b hb ho => ⟨⟨ho.1, by omega, by (exact ho.2.2)⟩, hw7m b (by (have h2 := ho.2.2; simp at h2; omega))⟩) fun _ _ r => r
    clear hw7m hw7z
    refine hK _ _ (st.take 5) ?_; clear hK; simp only [kP, kA, kS, kZ]
    refine lex_done (by decide +kernel) ?_
    go_wp2_with fail
    go_meet
    exact ⟨g10, a4, k4, a5, k5, rfl, st, hO4, hO5⟩
  ·refine wp_alloc st 42 rfl _ Try.zeroValue42 _ rfl ?_; clear st; intro g10 w10 hg10 st hg10b; simp [Act.eval, Act.put, Value.cells, putL] at st
   clear hg10b
   refine hK _ _ (st.take 5) ?_; clear hK; simp only [kP, kA, kS, kZ]
   refine lexO 14 rfl fun K hK => ?_
   refine wp_callee (f := 25) (by first | (go_simp; done) | (go_simp; rfl)) ?_
   refine (HLa.out _).mono ?_
   rintro e v4 ⟨rfl, hb4⟩
   refine ⟨_, rfl, ?_⟩
   replace st := st.call hb4
   clear hb4
   have hI := st.take 5
   refine hK _ _ (hI) ?_; clear hK; simp only [kP, kA, kS, kZ]
   refine lexS 15 rfl hI ?_
   clear hI
   refine lexO 16 rfl fun K hK => ?_
   have l5 := st.ltAt (i := 5) rfl
   have hzA := st.size
   have l0 := st.ltAt (i := 0) rfl; have l1 := st.ltAt (i := 1) rfl; have l2 := st.ltAt (i := 2) rfl; have l3 := st.ltAt (i := 3) rfl; have l4 := st.ltAt (i := 4) rfl
   refine wp_callee (f := 11) (by first | (go_simp; done) | (go_simp; rfl)) ?_
   refine (HCo.out _ _ st (by simp)).mono ?_
   rintro e v5 ⟨a4, k4, a5, k5, rfl, hb5, hO4, hO5⟩
   have hz5 := hb5.size
   replace hO4 := hO4.fit (ok' := fun b => w.heap.size ≤ b ∧ b < v5.heap.size ∧ b ∉ [g, g5, g6, g8, g9, g10]) (fun b hb ho => ⟨by omega, hb, by simp; omega⟩)
   replace hO5 := hO5.fit (ok' := fun b => w.heap.size ≤ b ∧ b < v5.heap.size ∧ b ∉ [g, g5, g6, g8, g9, g10]) (fun b hb ho => ⟨by omega, hb, by simp; omega⟩)
   refine ⟨_, rfl, ?_⟩
   replace st := st.call hb5
   clear hb5
   refine hK _ _ (st.take 5) ?_; clear hK; simp only [kP, kA, kS, kZ]
   refine lexO 18 rfl fun K hK => ?_
   refine wp_store' st 42 _ _ rfl _ Try.sizeOf42 ⟨5, _, _, _, _, _, rfl, rfl, rfl, rfl, rfl, rfl, ?_⟩; clear st; intro w7 st hw7m hw7z; simp [Act.eval, Act.put, Value.cells, putL] at st
   replace hO4 := hO4.move (w' := w7) (ok' := fun b => w.heap.size ≤ b ∧ b < w7.heap.size ∧ b ∉ [g, g5, g6, g8, g9, g10]) (by omega) (fun b hb ho => ⟨⟨ho.1, by omega, by (exact ho.2.2)⟩, hw7m b (by (have h2 := ho.2.2; simp at h2; omega))⟩) fun _ _ r => r
   replace hO5 := hO5.move (w' := w7) (ok' := fun b => w.heap.size ≤ b ∧ b < w7.heap.size ∧ b ∉ [g, g5, g6, g8, g9, g10]) (by omega) (fun b hb ho => ⟨⟨ho.1, by omega, by (exact ho.2.2)⟩, hw7m b (by (have h2 := ho.2.2; simp at h2; omega))⟩) fun _ _ r => r
   clear hw7m hw7z
   refine hK _ _ (st.take 5) ?_; clear hK; simp only [kP, kA, kS, kZ]
   refine lex_done (by decide +kernel) ?_
   go_wp2_with fail
   go_meet
   exact ⟨g10, a4, k4, a5, k5, rfl, st, hO4, hO5⟩
 case rest =>
  obtain ⟨g10, a4, k4, a5, k5, rfl, st, hRl, hRn⟩ := hcut
  have hwz := st.size
  have hwg : g < wc.heap.size ∧ g5 < wc.heap.size ∧ g6 < wc.heap.size ∧ g8 < wc.heap.size ∧ g9 < wc.heap.size ∧ g10 < wc.heap.size := ⟨st.ltAt (i := 0) rfl, st.ltAt (i := 1) rfl, st.ltAt (i := 2) rfl, st.ltAt (i := 3) rfl, st.ltAt (i := 4) rfl, st.ltAt (i := 5) rfl⟩
  generalize hT : lastB (x.text ++ c.text) = T at *
  clear hT HLa HCo HX
  have st7 := st
  have HR := qh (show ∀ (W : World) (bl : Blks), St [g, g5, g6, g8, g9, g10] wc W bl → MailR (fun b => w.heap.size ≤ b) W ⟨k.host, n, c.label, c.grants, T⟩ a4 k4 a5 k5 from fun W bl s =>
   ⟨hRl.move s.size (fun b hb ho => ⟨ho.1, s.frame b hb ho.2.2⟩) fun _ _ r => r,
   hRn.move s.size (fun b hb ho => ⟨ho.1, s.frame b hb ho.2.2⟩) fun _ _ r => r⟩)
  have HBw := qh (show ∀ (W : World) (bl : Blks), St [g, g5, g6, g8, g9, g10] wc W bl → (g, 38, winC (preC k css n) [.slice xa x.label.length xc, .slice oa x.own.length oc, .string x.text, .slice ba x.objects.length bc, .slice ma x.mails.length mc] (postC k css n)) ∈ bl → St [g] w W bl ∧ Below w.heap.size w W from fun W bl s hm => ⟨St.back st7 s, HB.out W _ (St.back st7 s) hm⟩)
  have HG := qh (show ∀ (W : World) (bl : Blks), St [g, g5, g6, g8, g9, g10] wc W bl → Calls Try.prog 26 #[.agg #[.int .i64 k.host, .int .i64 n, .slice a4 c.label.length k4, .slice a5 c.grants.length k5, .string T]] W fun e w' => e = .returned (.int .i64 (goodMailC ⟨k.host, n, c.label, c.grants, T⟩)) ∧ Below W.heap.size W w' from fun W bl s => ref_GoodMail _ W ⟨k.host, n, c.label, c.grants, T⟩ a4 k4 a5 k5 (by simp only; omega) (HR.out W bl s))
  have HGL := qh (show goodMailC ⟨k.host, n, c.label, c.grants, T⟩ = 0 → ∀ y ∈ c.label, fitI y.c from fun e => goodL_fitI (mail_facts e).2.2.1)
  generalize hq : goodMailC ⟨k.host, n, c.label, c.grants, T⟩ = q at HG HE HGL
  clear hq hRl hRn
  have st := st7.rebase
  simp only [List.map_cons, List.map_nil] at st
  by_cases hq0 : q = 0
  case neg =>
   have hqn : (q == 0) = false := by simpa using hq0
   rw [if_pos hq0] at HE
   replace HE := qh HE
   clear hq0
   go_wp2_with (first | go_skip | (with_reducible refine mXA st Try.isAgg42 Try.sizeOf42 ?_) | (go_at_call 26; go_must (refine (HG.out _ _ st).mono ?_; rintro e v8 ⟨rfl, hb8⟩; replace st := st.call hb8; clear hb8)) | (with_reducible refine mXA st Try.isAgg42 Try.sizeOf42 ?_) | (with_reducible refine mS 2 st Try.sizeOf42 ?_; clear st; intro w8 st hw8m hw8z))
   have hc := fun j => st.cell (i := 2) rfl j
   refine bodyPost_ret (v := .tuple #[mailV zeroM none 0 none 0, .int .i64 q]) ?hr rfl (by rw [HE.out]; exact ⟨none, 0, none, 0, rfl, (HBw.out _ _ st (by simp)).2, ⟨SlR.nil .., SlR.nil ..⟩⟩)
   case hr => simp [results, Try.results8, go_sem, hc, mailV, zeroM]; try rfl
  subst hq0
  rw [if_neg (by simp)] at HE
  have hlf := HGL.out rfl
  clear HGL
  go_wp2_with (first | go_skip | (with_reducible refine mXA st Try.isAgg42 Try.sizeOf42 ?_) | (with_reducible refine mX st Try.isAgg31 ?_) | (go_at_call 26; go_must (refine (HG.out _ _ st).mono ?_; rintro e v8 ⟨rfl, hb8⟩; replace st := st.call hb8; clear hb8)))
  obtain ⟨wq, rfl⟩ : ∃ V, V = wc := ⟨_, rfl⟩
  go_loopw [51] (fun v51 wr => ∃ (j : Nat), j ≤ c.grants.length ∧ v51 = .int .i64 j ∧ St [g, g5, g6, g8, g9, g10] wq wr [(g, 38, winC (preC k css n) [.slice xa x.label.length xc, .slice oa x.own.length oc, .string x.text, .slice ba x.objects.length bc, .slice ma x.mails.length mc] (postC k css n)), (g5, 40, [.int .i64 c.kind, .int .i64 c.h, .int .i64 c.t, .int .i64 c.n, .int .i64 c.c, .slice la c.label.length lc, .slice ga c.grants.length gc, .string c.text]), (g6, 42, [.int .i64 0, .int .i64 0, .slice none 0 0, .slice none 0 0, .string ⟨#[]⟩]), (g8, 42, [.int .i64 0, .int .i64 0, .slice none 0 0, .slice none 0 0, .string ⟨#[]⟩]), (g9, 35, [.slice xa x.label.length xc, .slice oa x.own.length oc, .string x.text, .slice ba x.objects.length bc, .slice ma x.mails.length mc]), (g10, 42, [.int .i64 k.host, .int .i64 n, .slice a4 c.label.length k4, .slice a5 c.grants.length k5, .string T])] ∧ Hid (∀ v ∈ c.grants.take j, v ∈ x.own)) (fun v51 _ => c.grants.length - (intOf v51).toNat)
  case atStart => exact ⟨0, Nat.zero_le _, rfl, st, qh (by simp)⟩
  case round =>
   clear st
   obtain ⟨j, hj, rfl, st, HJ⟩ := hrel
   by_cases hlt : j < c.grants.length
   ·have hd : decide ((j : Int) < c.grants.length) = true := by simp; omega
    obtain ⟨b, o, rfl, hbw, hcell⟩ := (HR.out _ _ st).grants.int_at j hlt
    have HO := qh ((HF.out _ _ (HBw.out _ _ st (by simp)).1 (by simp)).2)
    have HI := qh (inL_iff x.own c.grants[j])
    have HI2 := qh (ref_in _ wr oa oc x.own c.grants[j] HO.out)
    generalize hi : inL x.own c.grants[j] = q at HI HI2
    clear hi HO
    cases q
    ·have HE2 := qh (show letterK k n c = (zeroM, 7) by rw [HE, if_pos (fun hh => by have := HI.out.2 (hh _ (List.getElem_mem hlt)); simp at this)])
     clear HE
     go_wp2_with (first | go_skip | (with_reducible refine mX st Try.isAgg31 ?_) | (go_at_call 27; go_must (refine (HI2.out).mono ?_; rintro e v8 ⟨rfl, rfl⟩)) | (with_reducible refine mXA st Try.isAgg42 Try.sizeOf42 ?_) | (with_reducible refine mS 2 st Try.sizeOf42 ?_; clear st; intro w8 st hw8m hw8z))
     have hc := fun j => st.cell (i := 2) rfl j
     refine bodyPost_ret (v := .tuple #[mailV zeroM none 0 none 0, .int .i64 7]) ?hr rfl (by rw [HE2.out]; exact ⟨none, 0, none, 0, rfl, (HBw.out _ _ st (by simp)).2, ⟨SlR.nil .., SlR.nil ..⟩⟩)
     case hr => simp [results, Try.results8, go_sem, hc, mailV, zeroM]; try rfl
    ·have HJ2 := qh (show ∀ v ∈ c.grants.take (j + 1), v ∈ x.own from fun v hv => by
      rw [List.take_add_one, gEg hlt] at hv
      rcases List.mem_append.1 hv with hv | hv
      ·exact HJ.out v hv
      ·obtain rfl : v = c.grants[j] := by simpa using hv
       exact HI.out.1 rfl)
     replace HE := qh HE
     go_wp2_with (first | go_skip | (with_reducible refine mX st Try.isAgg31 ?_) | (go_at_call 27; go_must (refine (HI2.out).mono ?_; rintro e v8 ⟨rfl, rfl⟩)))
     go_roundw
     case rel => exact ⟨j + 1, hlt, by go_num, st, HJ2⟩
     case measure => simp [intOf]; omega
   ·have hd : decide ((j : Int) < c.grants.length) = false := by simp; omega
    have hall : ¬ ¬ (∀ g ∈ c.grants, g ∈ x.own) := fun hh => hh (by have := HJ.out; rwa [List.take_of_length_le (by omega)] at this)
    rw [if_neg hall] at HE
    clear hall HJ
    have HF2 := qh (fun (W : World) (bl : Blks) (hW : St [g, g5, g6, g8, g9, g10] wq W bl) (hm : (g, 38, winC (preC k css n) [.slice xa x.label.length xc, .slice oa x.own.length oc, .string x.text, .slice ba x.objects.length bc, .slice ma x.mails.length mc] (postC k css n)) ∈ bl) => ref_Flows (fun _ => True) W xa a4 oa xc k4 oc x.label c.label x.own hxf hlf (by unfold maxLen; omega) ((HF.out _ _ (HBw.out _ _ hW hm).1 hm).1.okay fun _ _ => trivial) ((HR.out _ _ hW).label.okay fun _ _ => trivial) ((HF.out _ _ (HBw.out _ _ hW hm).1 hm).2.okay fun _ _ => trivial))
    generalize hf : flowsL x.label c.label x.own = q at HF2 HE
    clear hf
    replace HE := qh HE
    cases q
    ·go_wp2_with (first | go_skip | (with_reducible refine mX st Try.isAgg30 ?_) | (with_reducible refine mX st Try.isAgg31 ?_) | (go_at_call 28; go_must (refine (HF2.out _ _ st (by simp)).mono ?_; rintro e v8 ⟨rfl, hb8⟩; replace st := st.call hb8; clear hb8)) | (with_reducible refine mXA st Try.isAgg42 Try.sizeOf42 ?_) | (with_reducible refine mS 2 st Try.sizeOf42 ?_; clear st; intro w8 st hw8m hw8z))
     have hc := fun j => st.cell (i := 2) rfl j
     refine bodyPost_ret (v := .tuple #[mailV zeroM none 0 none 0, .int .i64 6]) ?hr rfl (by rw [HE.out, if_pos (by simp)]; exact ⟨none, 0, none, 0, rfl, (HBw.out _ _ st (by simp)).2, ⟨SlR.nil .., SlR.nil ..⟩⟩)
     case hr => simp [results, Try.results8, go_sem, hc, mailV, zeroM]; try rfl
    ·go_wp2_with (first | go_skip | (with_reducible refine mX st Try.isAgg30 ?_) | (with_reducible refine mX st Try.isAgg31 ?_) | (go_at_call 28; go_must (refine (HF2.out _ _ st (by simp)).mono ?_; rintro e v8 ⟨rfl, hb8⟩; replace st := st.call hb8; clear hb8)) | (with_reducible refine mXA st Try.isAgg42 Try.sizeOf42 ?_) | (with_reducible refine mS 2 st Try.sizeOf42 ?_; clear st; intro w8 st hw8m hw8z))
     have hc := fun j => st.cell (i := 2) rfl j
     refine bodyPost_ret (v := .tuple #[mailV ⟨k.host, n, c.label, c.grants, T⟩ a4 k4 a5 k5, .int .i64 0]) ?hr rfl (by rw [HE.out, if_neg (by simp)]; exact ⟨_, _, _, _, rfl, (HBw.out _ _ st (by simp)).2, HR.out _ _ st⟩)
     case hr => simp [results, Try.results8, go_sem, hc, mailV]; try rfl
theorem RkAt.new {w0 w : World} {g : Nat} {h : Int} {own : Blks} {M : List Nat} (st : St M w0 w own) (hm : (g, 38, .int .i64 h :: (([zeroC, zeroC, zeroC, zeroC] : List (List Value)).flatten ++ [.int .i64 0])) ∈ own) (ok : Nat → Prop) (hg : ¬ ok g) : RkAt ok w g (newK h) [zeroC, zeroC, zeroC, zeroC] [[], [], [], []] := by
 have hz : ∀ i : Nat, ([zeroT, zeroT, zeroT, zeroT] : List Thr)[i]? = if i < 4 then some zeroT else none := fun i => by
  match i with | 0 => rfl | 1 => rfl | 2 => rfl | 3 => rfl | i + 4 => simp
 have hc : ∀ i : Nat, ([zeroC, zeroC, zeroC, zeroC] : List (List Value))[i]? = if i < 4 then some zeroC else none := fun i => by
  match i with | 0 => rfl | 1 => rfl | 2 => rfl | 3 => rfl | i + 4 => simp
 have hB : ∀ i : Nat, ([[], [], [], []] : List (List Nat))[i]? = if i < 4 then some [] else none := fun i => by
  match i with | 0 => rfl | 1 => rfl | 2 => rfl | 3 => rfl | i + 4 => simp
 refine ⟨rfl, rfl, rfl, fun i x cs B e1 e2 e3 => ?_, st.blk _ hm, by simp, by simpa using hg⟩
 unfold newK at e1
 simp only at e1
 rw [hz] at e1
 rw [hc] at e2
 rw [hB] at e3
 split at e1
 ·rename_i hi
  rw [if_pos hi] at e2 e3
  cases e1; cases e2; cases e3
  exact ⟨none, 0, none, 0, none, 0, none, 0, rfl, ⟨SlR.nil _ _ _ _, SlR.nil _ _ _ _, RowAt.nil _ _ _ _, RowAt.nil _ _ _ _⟩, rfl⟩
 ·cases e1
theorem kernel_New_out (w : World) (h : Int) (ho : h < 0 ∨ 4 ≤ h) : Calls Try.prog 4 #[.int .i64 h] w fun e w' => e = .returned (.tuple #[.pointer none, .int .i64 2]) ∧ w = w' := by
 by_cases h0 : h < 0
 ·have d1 : decide (h < 0) = true := by simpa using h0
  clear ho h0
  go_enter Try.func4, Try.ntmps4
  go_wp2_with (first | go_skip | fail)
  go_ret2
  exact ⟨rfl, rfl⟩
 ·have d1 : decide (h < 0) = false := by simpa using h0
  have d2 : decide ((4 : Int) ≤ h) = true := by simp; omega
  clear ho h0
  go_enter Try.func4, Try.ntmps4
  go_wp2_with (first | go_skip | fail)
  go_ret2
  exact ⟨rfl, rfl⟩
section
variable {w0 W : World} {own : Blks} {ga gb : Nat} {ka kb : Ker}
theorem pairR_Call (h : PairR w0 own ga gb ka kb W) (t : Int) (c : Req) (la : Option Addr) (lc : Nat) (gra : Option Addr) (grc : Nat) (hll : c.label.length * 16 ≤ 140737488351232) (hcl : SlR (fun _ => True) W 2 RLev la lc c.label) :
  Calls Try.prog 13 #[.pointer (some ⟨ga, 0, none⟩), .int .i64 t, reqV c la lc gra grc] W fun e W' => e = .returned (RepV (stepC ka t c).2) ∧ PairR w0 own ga gb (stepC ka t c).1 kb W' := by
 obtain ⟨st, h2, h4, oka, cssa, Bsa, okb, cssb, Bsb, h1, h3, h5, h6, h7, h8⟩ := h
 exact (kernel_Call oka (fun _ => True) W ga ka cssa Bsa c la lc gra grc h1 h2 t hll hcl).mono fun e W' ⟨e1, hT⟩ => ⟨e1, PairR.turnA st h4 h1 h3 h5 h6 h7 h8 hT (stepC_ok h2 t c)⟩
theorem pairR_rCall (h : PairR w0 own ga gb ka kb W) (t : Int) (c : Req) (la : Option Addr) (lc : Nat) (gra : Option Addr) (grc : Nat) (hll : c.label.length * 16 ≤ 140737488351232) (hcl : SlR (fun _ => True) W 2 RLev la lc c.label) :
  Calls Try.prog 14 #[.pointer (some ⟨gb, 0, none⟩), .int .i64 t, reqV c la lc gra grc] W fun e W' => e = .returned (RepV (stepC kb t c).2) ∧ PairR w0 own ga gb ka (stepC kb t c).1 W' := by
 obtain ⟨st, h2, h4, oka, cssa, Bsa, okb, cssb, Bsb, h1, h3, h5, h6, h7, h8⟩ := h
 exact (ref_Call okb (fun _ => True) W gb kb cssb Bsb c la lc gra grc h3 h4 t hll hcl).mono fun e W' ⟨e1, hT⟩ => ⟨e1, PairR.turnB st h2 h1 h3 h5 h6 h7 h8 hT (stepC_ok h4 t c)⟩
theorem pairR_Deliver (h : PairR w0 own ga gb ka kb W) (t : Int) (m : Mail) (la : Option Addr) (lc : Nat) (gra : Option Addr) (grc : Nat) (hl : m.label.length * 16 ≤ 140737488351232) (hg : m.grants.length * 8 ≤ 140737488355328) (hR : MailR (fun _ => True) W m la lc gra grc) :
  Calls Try.prog 10 #[.pointer (some ⟨ga, 0, none⟩), .int .i64 t, mailV m la lc gra grc] W fun e W' => (∃ u, e = .returned u) ∧ PairR w0 own ga gb (deliverK ka t m) kb W' := by
 obtain ⟨st, h2, h4, oka, cssa, Bsa, okb, cssb, Bsb, h1, h3, h5, h6, h7, h8⟩ := h
 exact (kernel_Deliver oka (fun _ => True) W ga ka cssa Bsa h1 h2.thr t m la lc gra grc hl hg hR).mono fun e W' ⟨e1, hT⟩ => ⟨e1, PairR.turnA st h4 h1 h3 h5 h6 h7 h8 hT (deliverK_ok h2 t m)⟩
theorem pairR_rDeliver (h : PairR w0 own ga gb ka kb W) (t : Int) (m : Mail) (la : Option Addr) (lc : Nat) (gra : Option Addr) (grc : Nat) (hl : m.label.length * 16 ≤ 140737488351232) (hg : m.grants.length * 8 ≤ 140737488355328) (ht : m.text.size ≤ 140737488355328) (hR : MailR (fun _ => True) W m la lc gra grc) :
  Calls Try.prog 12 #[.pointer (some ⟨gb, 0, none⟩), .int .i64 t, mailV m la lc gra grc] W fun e W' => (∃ u, e = .returned u) ∧ PairR w0 own ga gb ka (deliverK kb t m) W' := by
 obtain ⟨st, h2, h4, oka, cssa, Bsa, okb, cssb, Bsb, h1, h3, h5, h6, h7, h8⟩ := h
 exact (ref_Deliver okb (fun _ => True) W gb kb cssb Bsb h3 h4.thr t m la lc gra grc hl hg ht hR).mono fun e W' ⟨e1, hT⟩ => ⟨e1, PairR.turnB st h2 h1 h3 h5 h6 h7 h8 hT (deliverK_ok h4 t m)⟩
theorem pairR_Letter (h : PairR w0 own ga gb ka kb W) (t : Int) (c : Req) (la : Option Addr) (lc : Nat) (gra : Option Addr) (grc : Nat) (hll : c.label.length * 16 ≤ 140737488351232) (hgl : c.grants.length * 8 ≤ 140737488351232) (hct : c.text.size ≤ 140737488351232) (hcl : SlR (fun _ => True) W 2 RLev la lc c.label) (hcg : SlR (fun _ => True) W 1 RInt gra grc c.grants) :
  Calls Try.prog 6 #[.pointer (some ⟨ga, 0, none⟩), .int .i64 t, reqV c la lc gra grc] W (LetPost W (letterK ka t c)) := by
 obtain ⟨st, h2, h4, oka, cssa, Bsa, okb, cssb, Bsb, h1, h3, -⟩ := h
 exact kernel_Letter oka (fun _ => True) W ga ka cssa Bsa h1 h2.thr t c la lc gra grc hll hgl hct hcl hcg
theorem pairR_rLetter (h : PairR w0 own ga gb ka kb W) (t : Int) (c : Req) (la : Option Addr) (lc : Nat) (gra : Option Addr) (grc : Nat) (hll : c.label.length * 16 ≤ 140737488351232) (hgl : c.grants.length * 8 ≤ 140737488351232) (hct : c.text.size ≤ 140737488351232) (hcl : SlR (fun _ => True) W 2 RLev la lc c.label) (hcg : SlR (fun _ => True) W 1 RInt gra grc c.grants) :
  Calls Try.prog 8 #[.pointer (some ⟨gb, 0, none⟩), .int .i64 t, reqV c la lc gra grc] W (LetPost W (letterK kb t c)) := by
 obtain ⟨st, h2, h4, oka, cssa, Bsa, okb, cssb, Bsb, h1, h3, -⟩ := h
 exact ref_Letter okb (fun _ => True) W gb kb cssb Bsb h3 h4.thr t c la lc gra grc hll hgl hct hcl hcg
theorem pairR_Thread (h : PairR w0 own ga gb ka kb W) (t : Int) : Calls Try.prog 16 #[.pointer (some ⟨ga, 0, none⟩), .int .i64 t] W (ThreadPost W (thrOf ka t)) := by
 obtain ⟨st, h2, h4, oka, cssa, Bsa, okb, cssb, Bsb, h1, h3, -⟩ := h
 exact kernel_Thread oka W ga ka cssa Bsa h1 h2.thr t
theorem PairR.told (h : PairR w0 own ga gb ka kb W) {n : Nat} (hn : n < 4) : ∃ pre post la lc oa oc ba bc ma mc, pre.length = 1 + n * 5 ∧ (∀ V, Below W.heap.size W V → V.heap[gb]? = some (.cells (winC pre [.slice la (kb.thr n).label.length lc, .slice oa (kb.thr n).own.length oc, .string (kb.thr n).text, .slice ba (kb.thr n).objects.length bc, .slice ma (kb.thr n).mails.length mc] post).toArray 38 (0, 0))) ∧ ThrS (fun _ => True) W (kb.thr n) la lc oa oc ba bc ma mc := by
 obtain ⟨st, h2, h4, oka, cssa, Bsa, okb, cssb, Bsb, h1, h3, -⟩ := h
 obtain ⟨x, la, lc, oa, oc, ba, bc, ma, mc, ex, ec, eB, hT, hb⟩ := h3.open hn
 obtain rfl := Ker.thr_at ex
 exact ⟨_, _, la, lc, oa, oc, ba, bc, ma, mc, h3.preLen hn, fun V hV => by rw [hV.block gb (h3.lt gb (by simp))]; exact hb, ⟨hT.label.okay fun _ _ => trivial, hT.own.okay fun _ _ => trivial, (hT.objs.slr (ok := fun _ => True) fun _ _ => trivial).move (Nat.le_refl _) (fun _ _ _ => ⟨trivial, rfl⟩) fun _ _ r => r.move (Nat.le_refl _) fun _ _ _ => ⟨trivial, rfl⟩, (hT.mails.slr (ok := fun _ => True) fun _ _ => trivial).move (Nat.le_refl _) (fun _ _ _ => ⟨trivial, rfl⟩) fun _ _ r => r.move (Nat.le_refl _) fun _ _ _ => ⟨trivial, rfl⟩⟩⟩
end
theorem law_levels (ok : Nat → Prop) (w : World) (a : Option Addr) (c : Nat) (l : List Lev) (hl : l.length * 16 ≤ 140737488355328) (hR : SlR ok w 2 RLev a c l) :
  Calls Try.prog 22 #[.slice a l.length c] w fun e w' => ∃ a' c', e = .returned (.slice a' l.length c') ∧ Below w.heap.size w w' ∧ Own w.heap.size 88 w' 2 RLev a' c' l := by
 obtain ⟨i0, hi, hz0, hz1, hz2⟩ := info_parts info_Level
 go_enter Try.func22, Try.ntmps22
 go_wp2_with (first | go_skip | (at_builtin; go_must (refine wpList_copy (wanted_none rfl) _ _ 30 rfl 88 i0 _ 2 16 Try.underlying30 hi hz0 hz1 hz2 rfl (by decide) rfl rfl rfl hR hl ?_; intro a' c' w' hO hb)))
 go_ret
 exact ⟨a', c', rfl, hb, hO⟩
theorem law_numbers (ok : Nat → Prop) (w : World) (a : Option Addr) (c : Nat) (l : List Int) (hl : l.length * 8 ≤ 140737488355328) (hR : SlR ok w 1 RInt a c l) :
  Calls Try.prog 23 #[.slice a l.length c] w fun e w' => ∃ a' c', e = .returned (.slice a' l.length c') ∧ Below w.heap.size w w' ∧ Own w.heap.size 3 w' 1 RInt a' c' l := by
 obtain ⟨i0, hi, hz0, hz1, hz2⟩ := info_parts info_int
 go_enter Try.func23, Try.ntmps23
 go_wp2_with (first | go_skip | (at_builtin; go_must (refine wpList_copy (wanted_none rfl) _ _ 31 rfl 3 i0 _ 1 8 Try.underlying31 hi hz0 hz1 hz2 rfl (by decide) rfl rfl rfl hR hl ?_; intro a' c' w' hO hb)))
 go_ret
 exact ⟨a', c', rfl, hb, hO⟩
theorem law_call (ok : Nat → Prop) (w : World) (c : Req) (la : Option Addr) (lc : Nat) (ga : Option Addr) (gc : Nat) (hl : c.label.length * 16 ≤ 140737488355328) (hg : c.grants.length * 8 ≤ 140737488355328) (hA : SlR ok w 2 RLev la lc c.label) (hB : SlR ok w 1 RInt ga gc c.grants) :
  Calls Try.prog 7 #[reqV c la lc ga gc] w fun e w' => ∃ a1 k1 a2 k2, e = .returned (reqV c a1 k1 a2 k2) ∧ Below w.heap.size w w' ∧ SlR (newIn w) w' 2 RLev a1 k1 c.label ∧ SlR (newIn w) w' 1 RInt a2 k2 c.grants := by
 unfold reqV
 have HL := qh (fun (W : World) (h : Below w.heap.size w W) => law_levels ok W la lc c.label hl (hA.below h))
 have HN := qh (fun (W : World) (h : Below w.heap.size w W) => law_numbers ok W ga gc c.grants hg (hB.below h))
 have st := St.start w
 go_enter Try.func7, Try.ntmps7
 go_wp2_with (first | go_skip | (with_reducible refine mB 40 st ?_; clear st; intro g1 w1 hg1 st) | (with_reducible refine mA st Try.zeroValue40 ?_; clear st; intro g2 w2 hg2 st))
 have st := st.drew
 have hI := St.hand (st.blk _ (mgE (i := 0) rfl))
 refine lex_tail (by kernel_rfl) 7 3 [7, 8, 9] rfl (by decide +kernel) (fun W => St [g1] W W [(g1, 40, [.int .i64 c.kind, .int .i64 c.h, .int .i64 c.t, .int .i64 c.n, .int .i64 c.c, .slice la c.label.length lc, .slice ga c.grants.length gc, .string c.text])]) ?_
 refine lexS 0 rfl hI ?_
 refine lexT 1 rfl hI (fun W hW => St.run_load hW 0 30 _ rfl Try.isAgg30 rfl rfl rfl) ?_
 refine lexS 3 rfl hI ?_
 refine lexT 4 rfl hI (fun W hW => St.run_load hW 0 31 _ rfl Try.isAgg31 rfl rfl rfl) ?_
 clear hI
 refine lexO 2 rfl fun K hK => ?_
 refine wp_callee (f := 22) (by first | (go_simp; done) | (go_simp; rfl)) ?_
 refine (HL.out _ st.below).mono ?_
 rintro e v1 ⟨a1, k1, rfl, hb1, hO1⟩
 have hz1 := st.size
 refine ⟨_, rfl, ?_⟩
 replace st := st.call hb1
 clear hb1
 have hI := St.hand (st.blk _ (mgE (i := 0) rfl))
 refine hK _ _ (hI) ?_; clear hK; simp only [kP, kA, kS, kZ]
 refine lexS 6 rfl hI ?_
 clear hI
 refine lexO 5 rfl fun K hK => ?_
 refine wp_callee (f := 23) (by first | (go_simp; done) | (go_simp; rfl)) ?_
 refine (HN.out _ st.below).mono ?_
 rintro e v2 ⟨a2, k2, rfl, hb2, hO2⟩
 have hz2 := st.size
 refine ⟨_, rfl, ?_⟩
 replace st := st.call hb2
 replace hO1 := hO1.below hb2
 clear hb2
 refine hK _ _ (St.hand (st.blk _ (mgE (i := 0) rfl))) ?_; clear hK; simp only [kP, kA, kS, kZ]
 refine lex_done (by decide +kernel) ?_
 have h1b := st.blk _ (mgE (i := 0) rfl)
 refine tail_next 7 rfl (by first | exact wanted_none rfl | exact wanted_some rfl rfl) (by decide +kernel) fun K hK => ?_
 refine wp_store' st 30 _ _ rfl _ Try.sizeOf30 ⟨0, _, _, _, _, _, rfl, rfl, rfl, rfl, rfl, rfl, ?_⟩; clear st; intro w3 st hw3m hw3z; simp [Act.eval, Act.put, Value.cells, putL] at st
 refine hK _ _ ?_; clear hK
 replace hO1 := hO1.stored h1b (by simp) hw3m
 replace hO2 := hO2.stored h1b (by simp) hw3m
 clear h1b hw3m hw3z
 refine tail_take 8 rfl (by first | exact wanted_none rfl | exact wanted_some rfl rfl) (by decide +kernel) (by first | (go_simp; done) | (go_simp; rfl)) ?_; simp only [kP, kA, kS, kZ]
 have h1b := st.blk _ (mgE (i := 0) rfl)
 refine tail_last 9 rfl (by first | exact wanted_none rfl | exact wanted_some rfl rfl) (by decide +kernel) (by decide +kernel) fun K hK => ?_
 refine wp_store' st 31 _ _ rfl _ Try.sizeOf31 ⟨0, _, _, _, _, _, rfl, rfl, rfl, rfl, rfl, rfl, ?_⟩; clear st; intro w4 st hw4m hw4z; simp [Act.eval, Act.put, Value.cells, putL] at st
 refine hK _ _ ?_; clear hK
 replace hO1 := hO1.stored h1b (by simp) hw4m
 replace hO2 := hO2.stored h1b (by simp) hw4m
 clear h1b hw4m hw4z
 have h2b := st.blk _ (mgE (i := 1) rfl)
 have HO := qh (show ∀ W, (∀ b, b ≠ g2 → W.heap[b]? = w4.heap[b]?) → SlR (newIn w) W 2 RLev a1 k1 c.label ∧ SlR (newIn w) W 1 RInt a2 k2 c.grants from fun W h => ⟨(hO1.stored h2b (by simp) h).slr fun b hb => (by show w.heap.size ≤ b; omega), (hO2.stored h2b (by simp) h).slr fun b hb => (by show w.heap.size ≤ b; omega)⟩)
 clear hO1 hO2 h2b
 go_wp2_with (first | go_skip | (with_reducible refine mXA st Try.isAgg40 Try.sizeOf40 ?_) | (with_reducible refine mS 1 st Try.sizeOf40 ?_; clear st; intro w5 st hw5m hw5z))
 have hc := fun j => st.cell (i := 1) rfl j
 refine bodyPost_ret (v := reqV c a1 k1 a2 k2) ?hr rfl ⟨_, _, _, _, rfl, st.below, (HO.out _ hw5m).1, (HO.out _ hw5m).2⟩
 case hr => simp [results, Try.results7, go_sem, hc, reqV, putL]; try rfl
theorem ref_SameThread (okA okB : Nat → Prop) (w : World) (x : Thr) (aa1 : Option Addr) (ac1 : Nat) (aa2 : Option Addr) (ac2 : Nat) (aa3 : Option Addr) (ac3 : Nat) (aa4 : Option Addr) (ac4 : Nat) (ba1 : Option Addr) (bc1 : Nat) (ba2 : Option Addr) (bc2 : Nat) (ba3 : Option Addr) (bc3 : Nat) (ba4 : Option Addr) (bc4 : Nat)
  (hA : ThrS okA w x aa1 ac1 aa2 ac2 aa3 ac3 aa4 ac4) (hB : ThrS okB w x ba1 bc1 ba2 bc2 ba3 bc3 ba4 bc4) :
  Calls Try.prog 15 #[thrV x aa1 ac1 aa2 ac2 aa3 ac3 aa4 ac4, thrV x ba1 bc1 ba2 bc2 ba3 bc3 ba4 bc4] w fun e w' => e = .returned (.bool true) ∧ Below w.heap.size w w' := by
 have ho : x.objects.length ≤ 9223372036854775807 := by have h1 := hA.objs.1; have h2 := hA.objs.2.1; unfold maxLen at h2; omega
 have hm : x.mails.length ≤ 9223372036854775807 := by have h1 := hA.mails.1; have h2 := hA.mails.2.1; unfold maxLen at h2; omega
 have HS := qh (fun (V : World) (h : Below w.heap.size w V) => (ref_SameLabel okA okB V aa1 ac1 ba1 bc1 x.label x.label (hA.label.below h) (hB.label.below h)).mono (R' := fun e w' => e = .returned (.bool true) ∧ Below V.heap.size V w') (by rintro e w' ⟨rfl, h⟩; simp [h]))
 have HN := qh (fun (V : World) (h : Below w.heap.size w V) => (ref_SameNumbers okA okB V aa2 ac2 ba2 bc2 x.own x.own (hA.own.below h) (hB.own.below h)).mono (R' := fun e w' => e = .returned (.bool true) ∧ Below V.heap.size V w') (by rintro e w' ⟨rfl, h⟩; simp [h]))
 have HA := qh (fun (V : World) (h : Below w.heap.size w V) => hA.below h)
 have HB := qh (fun (V : World) (h : Below w.heap.size w V) => hB.below h)
 clear hA hB
 have st := St.start w
 have dt : (x.text.toList != x.text.toList) = false := by simp
 have d1 : (((x.objects.length : Nat) : Int) != ((x.objects.length : Nat) : Int)) = false := by simp
 have d2 : (((x.mails.length : Nat) : Int) != ((x.mails.length : Nat) : Int)) = false := by simp
 unfold thrV
 have tk := trivial
 go_enter Try.func15, Try.ntmps15
 go_wp2_with (first
  | go_skip | (clear tk; (with_reducible refine mB 35 st ?_; clear st; intro g2 w2 hg2 st)) | (with_reducible refine mB 35 st ?_; clear st; intro g3 w3 hg3 st) | (with_reducible refine mX st Try.isAgg30 ?_) | (with_reducible refine mX st Try.isAgg31 ?_) | (with_reducible refine mX st Try.isAgg9 ?_) | (with_reducible refine mX st Try.isAgg32 ?_) | (with_reducible refine mX st Try.isAgg33 ?_)
  | (go_at_call 29; go_must (refine (HS.out _ st.below).mono ?_; rintro e v1 ⟨rfl, hb1⟩; replace st := st.call hb1; clear hb1))
  | (go_at_call 30; go_must (refine (HN.out _ st.below).mono ?_; rintro e v2 ⟨rfl, hb2⟩; replace st := st.call hb2; clear hb2)))
 clear dt d1 d2
 go_loopw [49] (fun v49 wr => ∃ k : Nat, k ≤ x.objects.length ∧ v49 = .int .i64 k ∧ St [] w wr [(g2, 35, [.slice aa1 x.label.length ac1, .slice aa2 x.own.length ac2, .string x.text, .slice aa3 x.objects.length ac3, .slice aa4 x.mails.length ac4]), (g3, 35, [.slice ba1 x.label.length bc1, .slice ba2 x.own.length bc2, .string x.text, .slice ba3 x.objects.length bc3, .slice ba4 x.mails.length bc4])]) (fun v49 _ => x.objects.length - (intOf v49).toNat)
 case atStart => exact ⟨0, Nat.zero_le _, rfl, st⟩
 case round =>
  clear st
  obtain ⟨k, hk, rfl, st⟩ := hrel
  by_cases hlt : k < x.objects.length
  case pos =>
   have d3 : decide ((k : Int) < x.objects.length) = true := by simp; omega
   obtain ⟨b1, o1, l1, k1, e1, -, hb1, hA1, hC1⟩ := (HA.out _ (Below.refl _ _)).objs.obj_at k hlt
   obtain ⟨b2, o2, l2, k2, e2, -, hb2, hA2, hC2⟩ := (HB.out _ (Below.refl _ _)).objs.obj_at k hlt
   generalize x.objects[k] = p at hA1 hC1 hA2 hC2
   obtain ⟨pl, pt⟩ := p
   dsimp only at hA1 hC1 hA2 hC2
   have HC1 := qh (show ∀ V, Below w.heap.size w V → ∀ (i : Nat) (v : Value), [Value.slice l1 pl.length k1, .string pt][i]? = some v → V.cell? ⟨b1, o1 + k * 2 + i, none⟩ = some v from fun V h i v hv => (h.cell (p := ⟨b1, o1 + k * 2 + i, none⟩) hb1).trans (hC1 i v hv))
   have HC2 := qh (show ∀ V, Below w.heap.size w V → ∀ (i : Nat) (v : Value), [Value.slice l2 pl.length k2, .string pt][i]? = some v → V.cell? ⟨b2, o2 + k * 2 + i, none⟩ = some v from fun V h i v hv => (h.cell (p := ⟨b2, o2 + k * 2 + i, none⟩) hb2).trans (hC2 i v hv))
   have HSo := qh (fun (V : World) (h : Below w.heap.size w V) => (ref_SameLabel (fun _ => True) (fun _ => True) V l1 k1 l2 k2 pl pl ((hA1.below h).okay fun _ _ => trivial) ((hA2.below h).okay fun _ _ => trivial)).mono (R' := fun e w' => e = .returned (.bool true) ∧ Below V.heap.size V w') (by rintro e w' ⟨rfl, h⟩; simp [h]))
   have dt : (pt.toList != pt.toList) = false := by simp
   clear hA1 hA2 hC1 hC2
   subst e1 e2
   go_upto_region 6 with (first | go_skip | fail)
   try simp only [kP, kA, kS, kZ]
   refine det_region (by kernel_rfl) 29 rfl (fun V => St [] w V [(g2, 35, [.slice aa1 x.label.length ac1, .slice aa2 x.own.length ac2, .string x.text, .slice (some ⟨b1, o1, none⟩) x.objects.length ac3, .slice aa4 x.mails.length ac4]), (g3, 35, [.slice ba1 x.label.length bc1, .slice ba2 x.own.length bc2, .string x.text, .slice (some ⟨b2, o2, none⟩) x.objects.length bc3, .slice ba4 x.mails.length bc4])]) (st.drew) (by decide +kernel) ?_
   refine detS 0 rfl ?_
   refine detT 1 rfl (fun W hW => St.run_load hW 0 32 _ rfl Try.isAgg32 rfl rfl rfl) ?_
   refine detS 2 rfl ?_
   refine detT (v := .pointer (some ⟨b1, o1 + k * 2, none⟩)) 3 rfl (fun W hW => by (first | (go_simp; done) | (go_simp; omega) | (go_simp; intro h; omega))) ?_
   refine detT (v := .pointer (some ⟨b1, o1 + k * 2 + 1, none⟩)) 4 rfl (fun W hW => by (first | (go_simp; done) | (go_simp; omega) | (go_simp; intro h; omega))) ?_
   refine detT 5 rfl (fun U hU => run_cell_one 9 _ rfl Try.isAgg9 b1 (o1 + k * 2 + 1) rfl _ (HC1.out U hU.below 1 _ rfl)) ?_
   refine detS 6 rfl ?_
   refine detT 7 rfl (fun W hW => St.run_load hW 1 32 _ rfl Try.isAgg32 rfl rfl rfl) ?_
   refine detS 8 rfl ?_
   refine detT (v := .pointer (some ⟨b2, o2 + k * 2, none⟩)) 9 rfl (fun W hW => by (first | (go_simp; done) | (go_simp; omega) | (go_simp; intro h; omega))) ?_
   refine detT (v := .pointer (some ⟨b2, o2 + k * 2 + 1, none⟩)) 10 rfl (fun W hW => by (first | (go_simp; done) | (go_simp; omega) | (go_simp; intro h; omega))) ?_
   refine detT 11 rfl (fun U hU => run_cell_one 9 _ rfl Try.isAgg9 b2 (o2 + k * 2 + 1) rfl _ (HC2.out U hU.below 1 _ rfl)) ?_
   refine detT (v := .bool false) 12 rfl (fun W hW => by (first | (go_simp; done) | (go_simp; exact dt) | (go_simp; rfl))) ?_
   refine detS 13 rfl ?_; refine detS 14 rfl ?_
   refine detT 15 rfl (fun W hW => St.run_load hW 0 32 _ rfl Try.isAgg32 rfl rfl rfl) ?_
   refine detS 16 rfl ?_
   refine detT (v := .pointer (some ⟨b1, o1 + k * 2, none⟩)) 17 rfl (fun W hW => by (first | (go_simp; done) | (go_simp; omega) | (go_simp; intro h; omega))) ?_
   refine detS 18 rfl ?_
   refine detT 19 rfl (fun U hU => run_cell_one 30 _ rfl Try.isAgg30 b1 (o1 + k * 2) rfl _ (HC1.out U hU.below 0 _ rfl)) ?_
   refine detS 20 rfl ?_
   refine detT 21 rfl (fun W hW => St.run_load hW 1 32 _ rfl Try.isAgg32 rfl rfl rfl) ?_
   refine detS 22 rfl ?_
   refine detT (v := .pointer (some ⟨b2, o2 + k * 2, none⟩)) 23 rfl (fun W hW => by (first | (go_simp; done) | (go_simp; omega) | (go_simp; intro h; omega))) ?_
   refine detS 24 rfl ?_
   refine detT 25 rfl (fun U hU => run_cell_one 30 _ rfl Try.isAgg30 b2 (o2 + k * 2) rfl _ (HC2.out U hU.below 0 _ rfl)) ?_
   refine det_call (fn := 29) 26 rfl (by decide +kernel) (by first | exact wanted_none rfl | exact wanted_some rfl rfl) (fun W => by first | (go_simp; done) | (go_simp; rfl)) (fun W hW => (HSo.out W hW.below).mono fun e w' he => ⟨he.1, hW.call he.2⟩) ?_; simp only [kP, kA, kS, kZ]
   refine detS 27 rfl ?_; refine detS 28 rfl ?_
   refine det_done (by decide +kernel) ?_
   clear st
   intro U st
   go_wp2_with (first | go_skip | fail)
   go_roundw
   case rel => exact ⟨k + 1, hlt, by go_num, st⟩
   case measure => simp [intOf] <;> omega
  case neg =>
   have d3 : decide ((k : Int) < x.objects.length) = false := by simp; omega
   go_wp2_with (first | go_skip | (with_reducible refine mX st Try.isAgg33 ?_))
   go_loopw [85] (fun v85 wr => ∃ k : Nat, k ≤ x.mails.length ∧ v85 = .int .i64 k ∧ St [] w wr [(g2, 35, [.slice aa1 x.label.length ac1, .slice aa2 x.own.length ac2, .string x.text, .slice aa3 x.objects.length ac3, .slice aa4 x.mails.length ac4]), (g3, 35, [.slice ba1 x.label.length bc1, .slice ba2 x.own.length bc2, .string x.text, .slice ba3 x.objects.length bc3, .slice ba4 x.mails.length bc4])]) (fun v85 _ => x.mails.length - (intOf v85).toNat)
   case atStart => exact ⟨0, Nat.zero_le _, rfl, st⟩
   case round =>
    clear st d3 hlt hk
    obtain ⟨wq, rfl⟩ : ∃ V, V = wr := ⟨_, rfl⟩
    obtain ⟨j, hj, rfl, st⟩ := hrel
    by_cases hlt : j < x.mails.length
    case neg =>
     have d4 : decide ((j : Int) < x.mails.length) = false := by simp; omega
     go_wp2_with (first | go_skip | fail)
     go_ret
     exact ⟨rfl, st.below⟩
    case pos =>
     have d4 : decide ((j : Int) < x.mails.length) = true := by simp; omega
     obtain ⟨b1, o1, l1, k1, n1, m1, e1, -, hb1, hA1, hG1, hC1⟩ := (HA.out _ (Below.refl _ _)).mails.mail_at j hlt
     obtain ⟨b2, o2, l2, k2, n2, m2, e2, -, hb2, hA2, hG2, hC2⟩ := (HB.out _ (Below.refl _ _)).mails.mail_at j hlt
     generalize x.mails[j] = p at hA1 hG1 hC1 hA2 hG2 hC2
     obtain ⟨ph, pth, pl, pg, pt⟩ := p
     dsimp only at hA1 hG1 hC1 hA2 hG2 hC2
     have HC1 := qh (show ∀ V, Below w.heap.size w V → ∀ (i : Nat) (v : Value), [Value.int .i64 ph, .int .i64 pth, .slice l1 pl.length k1, .slice n1 pg.length m1, .string pt][i]? = some v → V.cell? ⟨b1, o1 + j * 5 + i, none⟩ = some v from fun V h i v hv => (h.cell (p := ⟨b1, o1 + j * 5 + i, none⟩) hb1).trans (hC1 i v hv))
     have HC2 := qh (show ∀ V, Below w.heap.size w V → ∀ (i : Nat) (v : Value), [Value.int .i64 ph, .int .i64 pth, .slice l2 pl.length k2, .slice n2 pg.length m2, .string pt][i]? = some v → V.cell? ⟨b2, o2 + j * 5 + i, none⟩ = some v from fun V h i v hv => (h.cell (p := ⟨b2, o2 + j * 5 + i, none⟩) hb2).trans (hC2 i v hv))
     have HSm := qh (fun (V : World) (h : Below w.heap.size w V) => ref_SameMail (fun _ => True) (fun _ => True) V ⟨ph, pth, pl, pg, pt⟩ l1 k1 n1 m1 l2 k2 n2 m2 ⟨(hA1.below h).okay fun _ _ => trivial, (hG1.below h).okay fun _ _ => trivial⟩ ⟨(hA2.below h).okay fun _ _ => trivial, (hG2.below h).okay fun _ _ => trivial⟩)
     unfold mailV at HSm
     dsimp only at HSm
     clear hA1 hA2 hG1 hG2 hC1 hC2
     subst e1 e2
     go_upto_region 12 with (first | go_skip | fail)
     try simp only [kP, kA, kS, kZ]
     refine det_region (by kernel_rfl) 12 rfl (fun V => St [] w V [(g2, 35, [.slice aa1 x.label.length ac1, .slice aa2 x.own.length ac2, .string x.text, .slice aa3 x.objects.length ac3, .slice (some ⟨b1, o1, none⟩) x.mails.length ac4]), (g3, 35, [.slice ba1 x.label.length bc1, .slice ba2 x.own.length bc2, .string x.text, .slice ba3 x.objects.length bc3, .slice (some ⟨b2, o2, none⟩) x.mails.length bc4])]) (st.drew) (by decide +kernel) ?_
     refine detS 0 rfl ?_
     refine detT 1 rfl (fun W hW => St.run_load hW 0 33 _ rfl Try.isAgg33 rfl rfl rfl) ?_
     refine detS 2 rfl ?_
     refine detT (v := .pointer (some ⟨b1, o1 + j * 5, none⟩)) 3 rfl (fun W hW => by (first | (go_simp; done) | (go_simp; omega) | (go_simp; intro h; omega))) ?_
     refine detT 4 rfl (fun U hU => run_load_at 42 _ rfl Try.isAgg42 _ Try.sizeOf42 b1 (o1 + j * 5) rfl [.int .i64 ph, .int .i64 pth, .slice l1 pl.length k1, .slice n1 pg.length m1, .string pt] rfl (HC1.out U hU.below)) ?_
     refine detS 5 rfl ?_
     refine detT 6 rfl (fun W hW => St.run_load hW 1 33 _ rfl Try.isAgg33 rfl rfl rfl) ?_
     refine detS 7 rfl ?_
     refine detT (v := .pointer (some ⟨b2, o2 + j * 5, none⟩)) 8 rfl (fun W hW => by (first | (go_simp; done) | (go_simp; omega) | (go_simp; intro h; omega))) ?_
     refine detT 9 rfl (fun U hU => run_load_at 42 _ rfl Try.isAgg42 _ Try.sizeOf42 b2 (o2 + j * 5) rfl [.int .i64 ph, .int .i64 pth, .slice l2 pl.length k2, .slice n2 pg.length m2, .string pt] rfl (HC2.out U hU.below)) ?_
     refine det_call (fn := 9) 10 rfl (by decide +kernel) (by first | exact wanted_none rfl | exact wanted_some rfl rfl) (fun W => by first | (go_simp; done) | (go_simp; rfl)) (fun W hW => (HSm.out W hW.below).mono fun e w' he => ⟨he.1, hW.call he.2⟩) ?_; simp only [kP, kA, kS, kZ]
     refine detS 11 rfl ?_
     refine det_done (by decide +kernel) ?_
     clear st
     intro U st
     go_wp2_with (first | go_skip | fail)
     go_roundw
     case rel => exact ⟨j + 1, hlt, by go_num, st⟩
     case measure => simp [intOf] <;> omega
theorem rep_ext {a b : Rep} : a = b ↔ a.code = b.code ∧ a.n = b.n ∧ a.text = b.text := by
 obtain ⟨x, y, z⟩ := a
 obtain ⟨x', y', z'⟩ := b
 simp
theorem eqin_Reply (d : Nat) (a b : Rep) (W : World) : (Op.equalIn (d + 2) 52 (RepV a) (RepV b)).run Try.prog W = .ok (decide (a = b)) W := by
 have h1 : Try.prog.underlying 52 = some (.struct (Try.prog.fieldsOf 52)) := by kernel_rfl
 have h2 : Try.prog.stoodInHeld 52 = false := by kernel_rfl
 have hU := Try.underlying52
 have hz : ∀ W, (sizeOf 3).run Try.prog W = .ok 1 W := Try.sizeOf3
 have ha : ∀ W, (isAgg 3).run Try.prog W = .ok false W := Try.isAgg3
 have hz2 : ∀ W, (sizeOf 24).run Try.prog W = .ok 1 W := Try.sizeOf24
 have ha2 : ∀ W, (isAgg 24).run Try.prog W = .ok false W := Try.isAgg24
 have hz3 : ∀ W, (sizeOf 9).run Try.prog W = .ok 1 W := Try.sizeOf9
 have ha3 : ∀ W, (isAgg 9).run Try.prog W = .ok false W := Try.isAgg9
 have e : ∀ d a b W, (Op.equalIn (d + 1) 3 (.int .i64 a) (.int .i64 b)).run Try.prog W = .ok (a == b) W := fun d a b W => run_equalIn_int W d _ _ _ a b Try.underlying3
 have e2 : ∀ d a b W, (Op.equalIn (d + 1) 24 (.int .i64 a) (.int .i64 b)).run Try.prog W = .ok (a == b) W := fun d a b W => run_equalIn_int W d _ _ _ a b Try.underlying24
 have e3 : ∀ d a b W, (Op.equalIn (d + 1) 9 (.string a) (.string b)).run Try.prog W = .ok (a.toList == b.toList) W := fun d a b W => run_equalIn_string W d _ a b Try.underlying9
 unfold RepV
 rw [run_equalIn_agg W (d + 1) _ _ _ h1 h2]
 have hx := rep_ext (a := a) (b := b)
 obtain ⟨x, y, z⟩ := a
 obtain ⟨x', y', z'⟩ := b
 simp [Program.fieldsOf, hU, Op.eqFields, part, ha, hz, ha2, hz2, ha3, hz3, e _ _ _ W, e2 _ _ _ W, e3 _ _ _ W, Result.andThen]
 by_cases q3 : z = z'
 ·subst q3
  by_cases q1 : x = x' <;> by_cases q2 : y = y' <;> simp [q1, q2]
 ·have q4 : ¬ z.toList = z'.toList := by
   intro h
   rw [ByteArray.toList_eq, ByteArray.toList_eq] at h
   exact q3 (ByteArray.ext (Array.toList_inj.1 h))
  by_cases q1 : x = x' <;> by_cases q2 : y = y' <;> simp [q1, q2, q3, q4]
theorem neq_Reply (a b : Rep) (r : Bool) (h : decide (a = b) = r) (W : World) : (binOp .neq 52 (RepV a) (RepV b)).run Try.prog W = .ok (.bool (!r)) W := by
 unfold RepV
 rw [run_neq_struct]
 have := eqin_Reply 9998 a b W
 unfold RepV at this
 rw [this, h]
 rfl
theorem guard_Reply (op : BinOp) (x y : Operand) (xs ys : Array Value) (W : World) : (eqGuard op 52 x y (.agg xs) (.agg ys)).run Try.prog W = .ok () W := run_eqGuard_agg W op _ x y xs ys (by kernel_rfl)
end Go.Proofs.Ytealbofmlieicaa
