/- Walks and plain laws, part 21. -/
import Derived.Test.YtealbofmlieicaaP15
import Derived.Test.YtealbofmlieicaaP14
import Derived.Test.YtealbofmlieicaaP19
import Derived.Deep.CutRange
import Derived.Deep.LoopGhost
import Derived.Deep.CutBlock
set_option linter.unusedSimpArgs false
set_option linter.unusedVariables false
set_option maxHeartbeats 16000000
set_option maxRecDepth 100000
namespace Go.Proofs.Ytealbofmlieicaa
open Go.RowKit
theorem goodL_fitI {l : List Lev} (h : goodL l = true) : ∀ y ∈ l, fitI y.c := fun y hy => by
 have := (lvOk_iff y).1 (((goodL_iff l).1 h).2.1 y hy)
 unfold fitI
 omega
theorem ref_Deliver (ok okm : Nat → Prop) (w : World) (g : Nat) (k : Ker) (css : List (List Value)) (Bs : List (List Nat)) (h : RkAt ok w g k css Bs) (hk : ∀ x ∈ k.threads, x.ok) (t : Int) (m : Mail) (la : Option Addr) (lc : Nat) (ga : Option Addr) (gc : Nat)
  (hl : m.label.length * 16 ≤ 140737488351232) (hg : m.grants.length * 8 ≤ 140737488355328) (ht : m.text.size ≤ 140737488355328) (hR : MailR okm w m la lc ga gc) :
  Calls Try.prog 12 #[.pointer (some ⟨g, 0, none⟩), .int .i64 t, mailV m la lc ga gc] w fun e w' => (∃ u, e = .returned u) ∧ RkTo ok w g Bs w' (deliverK k t m) := by
 have HG := qh (fun (W : World) (hW : Below w.heap.size w W) => ref_GoodMail okm W m la lc ga gc ht (hR.below hW))
 by_cases h4 : four t = true
 case neg =>
  have h4' : four t = false := by simpa using h4
  have HE := qh (show deliverK k t m = k by unfold deliverK; rw [if_pos h4'])
  have st := St.start w
  have H4 := qh (fun (W : World) => ref_four t W)
  rw [h4'] at H4
  unfold mailV at *
  clear h4 h4'
  all_goals
   go_enter Try.func12, Try.ntmps12
   go_wp2_with (first | go_skip | (go_at_call 24; go_must (refine (H4.out _).mono ?_; rintro e v1 ⟨rfl, rfl⟩)) | (with_reducible refine mB 42 st ?_; clear st; intro g1 w1 hg1 st))
   refine bodyPost_ret (v := .tuple #[]) (by simp [results, Try.results12, go_sem]) rfl ⟨⟨_, rfl⟩, ?_⟩
   rw [HE.out]
   exact RkTo.none h st.below
 obtain ⟨n, rfl, hn⟩ := four_nat h4
 obtain ⟨x, xa, xc, oa, oc, ba, bc, ma, mc, ex, ec, eB, hT, hb⟩ := h.open hn
 have hx := hk x (mgE ex)
 have hpre := h.preLen hn
 have HK := qh (show deliverK k (n : Int) m = if goodMailC m ≠ 0 then k else if flowsL m.label x.label x.own = true ∧ x.mails.length < 6 then k.put n { x with mails := x.mails ++ [m] } else k by
  unfold deliverK; rw [if_neg (by rw [h4]; simp), Ker.thr_at ex])
 have st0 := St.hand hb
 unfold thrC at st0
 have d1 : decide ((n : Int) < 0) = false := by simp
 have d2 : decide ((4 : Int) ≤ n) = false := by simp; omega
 have H4 := qh (fun (W : World) => ref_four (n : Int) W)
 rw [h4] at H4
 clear h4
 by_cases hgm : goodMailC m = 0
 case neg =>
  have HE := qh (show deliverK k (n : Int) m = k by rw [HK.out, if_pos hgm])
  generalize goodMailC m = q at HG hgm
  have hq : (q != 0) = true := by simpa using hgm
  clear hgm HK
  have st := St.start w
  unfold mailV at *
  go_enter Try.func12, Try.ntmps12
  go_wp2_with (first | go_skip | (go_at_call 24; go_must (refine (H4.out _).mono ?_; rintro e v1 ⟨rfl, rfl⟩)) | (with_reducible refine mB 42 st ?_; clear st; intro g1 w1 hg1 st) | (with_reducible refine mXA st Try.isAgg42 Try.sizeOf42 ?_) | (go_at_call 26; go_must (refine (HG.out _ st.below).mono ?_; rintro e v1 ⟨rfl, hb1⟩; replace st := st.call hb1; clear hb1)))
  refine bodyPost_ret (v := .tuple #[]) (by simp [results, Try.results12, go_sem]) rfl ⟨⟨_, rfl⟩, ?_⟩
  rw [HE.out]
  exact RkTo.none h st.below
 obtain ⟨_, _, q5, q6, q7⟩ := mail_facts hgm
 have hml := goodL_len q5; have hmf := goodL_fitI q5
 have hmg := (grants_facts q6).1
 clear q5 q6
 rw [hgm] at HG
 have HK1 := qh (show deliverK k (n : Int) m = if flowsL m.label x.label x.own = true ∧ x.mails.length < 6 then k.put n { x with mails := x.mails ++ [m] } else k by rw [HK.out, if_neg (by simpa using hgm)])
 clear hgm HK
 have hgg : ¬ ok g := h.apart g (by simp)
 have HKp := qh (show ∀ (W : World) (bl : Blks), St [g] w W bl → Keeps ok w W from fun W bl s => s.keeps (by simpa using hgg))
 have hxf := goodL_fitI hx.good; have hxl := goodL_len hx.good; have hxo := hx.ownL; have hxm := hx.mailN
 have HF := qh (fun (W : World) (bl : Blks) (hW : St [g] w W bl) (hR2 : MailR okm W m la lc ga gc) => ref_Flows (fun _ => True) W la xa oa lc xc oc m.label x.label x.own hmf hxf (by unfold maxLen; omega) (hR2.label.okay fun _ _ => trivial) ((hT.label.keep (HKp.out W _ hW)).okay fun _ _ => trivial) ((hT.own.keep (HKp.out W _ hW)).okay fun _ _ => trivial))
 have HM := qh (fun (W : World) (hR2 : MailR okm W m la lc ga gc) => ref_CopyMail okm W m la lc ga gc hR2.label hR2.grants (by omega) hg)
 generalize flowsL m.label x.label x.own = fl at HF HK1
 have HB := qh (show ∀ (W : World) (bl : Blks), St [g] w W bl → (g, 38, winC (preC k css n) [.slice xa x.label.length xc, .slice oa x.own.length oc, .string x.text, .slice ba x.objects.length bc, .slice ma x.mails.length mc] (postC k css n)) ∈ bl → Below w.heap.size w W from fun W bl s hm => st0.below2 s (by simpa using hm))
 have st := st0
 clear st0
 unfold mailV at *
 have h6 : (fl = false ∧ x.mails.length < 6) ∨ ¬ x.mails.length < 6 ∨ (fl = true ∧ x.mails.length < 6) := by cases fl <;> simp <;> omega
 rcases h6 with ⟨rfl, h6⟩ | h6 | ⟨rfl, h6⟩
 ·have HE := qh (show deliverK k (n : Int) m = k by rw [HK1.out, if_neg (by simp)])
  have d6 : decide ((x.mails.length : Int) < 6) = true := by simp; omega
  clear HK1
  go_enter Try.func12, Try.ntmps12
  go_wp2_with (first | go_skip | (go_at_call 24; go_must (refine (H4.out _).mono ?_; rintro e v1 ⟨rfl, rfl⟩)) | (with_reducible refine mB 42 st ?_; clear st; intro g1 w1 hg1 st) | (with_reducible refine mXA st Try.isAgg42 Try.sizeOf42 ?_) | (go_at_call 26; go_must (refine (HG.out _ (HB.out _ _ st (by simp))).mono ?_; rintro e v1 ⟨rfl, hb1⟩; replace st := st.call hb1; clear hb1)))
  refine det_region (by kernel_rfl) 19 rfl (fun W => St [g] w W [(g, 38, winC (preC k css n) [.slice xa x.label.length xc, .slice oa x.own.length oc, .string x.text, .slice ba x.objects.length bc, .slice ma x.mails.length mc] (postC k css n)), (g1, 42, [.int .i64 m.host, .int .i64 m.thread, .slice la m.label.length lc, .slice ga m.grants.length gc, .string m.text])]) (st.drew) (by decide +kernel) ?_
  refine detS 0 rfl ?_; refine detS 1 rfl ?_; refine detS 2 rfl ?_
  refine detT 3 rfl (fun W hW => St.run_loadW hW 0 33 _ rfl Try.isAgg33 4 hpre rfl rfl rfl) ?_
  refine detS 4 rfl ?_; refine detS 5 rfl ?_; refine detS 6 rfl ?_
  refine detS 7 rfl ?_
  refine detT 8 rfl (fun W hW => St.run_load hW 1 30 _ rfl Try.isAgg30 rfl rfl rfl) ?_
  refine detS 9 rfl ?_; refine detS 10 rfl ?_; refine detS 11 rfl ?_
  refine detT 12 rfl (fun W hW => St.run_loadW hW 0 30 _ rfl Try.isAgg30 0 hpre rfl rfl rfl) ?_
  refine detS 13 rfl ?_; refine detS 14 rfl ?_; refine detS 15 rfl ?_
  refine detT 16 rfl (fun W hW => St.run_loadW hW 0 31 _ rfl Try.isAgg31 1 hpre rfl rfl rfl) ?_
  refine det_call (fn := 28) 17 rfl (by decide +kernel) (by first | exact wanted_none rfl | exact wanted_some rfl rfl) (fun W => by first | (go_simp; done) | (go_simp; rfl)) (fun W hW => (HF.out W _ hW (hR.below (HB.out W _ hW (by simp)))).mono fun e w' h => ⟨h.1, hW.call h.2⟩) ?_; simp only [kP, kA, kS, kZ]
  refine detS 18 rfl ?_
  refine det_done (by decide +kernel) ?_
  clear st
  intro W st
  go_wp2
  go_end0
  rw [HE.out]
  exact ⟨⟨_, rfl⟩, RkTo.none h (HB.out _ _ st (by simp))⟩
 ·have HE := qh (show deliverK k (n : Int) m = k by rw [HK1.out, if_neg (fun e => h6 e.2)])
  have d6 : decide ((x.mails.length : Int) < 6) = false := by simp; omega
  clear HK1
  go_enter Try.func12, Try.ntmps12
  go_wp2_with (first | go_skip | (go_at_call 24; go_must (refine (H4.out _).mono ?_; rintro e v1 ⟨rfl, rfl⟩)) | (with_reducible refine mB 42 st ?_; clear st; intro g1 w1 hg1 st) | (with_reducible refine mXA st Try.isAgg42 Try.sizeOf42 ?_) | (go_at_call 26; go_must (refine (HG.out _ (HB.out _ _ st (by simp))).mono ?_; rintro e v1 ⟨rfl, hb1⟩; replace st := st.call hb1; clear hb1)))
  refine det_region (by kernel_rfl) 19 rfl (fun W => St [g] w W [(g, 38, winC (preC k css n) [.slice xa x.label.length xc, .slice oa x.own.length oc, .string x.text, .slice ba x.objects.length bc, .slice ma x.mails.length mc] (postC k css n)), (g1, 42, [.int .i64 m.host, .int .i64 m.thread, .slice la m.label.length lc, .slice ga m.grants.length gc, .string m.text])]) (st.drew) (by decide +kernel) ?_
  refine detS 0 rfl ?_; refine detS 1 rfl ?_; refine detS 2 rfl ?_
  refine detT 3 rfl (fun W hW => St.run_loadW hW 0 33 _ rfl Try.isAgg33 4 hpre rfl rfl rfl) ?_
  refine detS 4 rfl ?_; refine detS 5 rfl ?_; refine detS 6 rfl ?_
  refine detK 7 rfl ?_; refine detK 8 rfl ?_; refine detK 9 rfl ?_; refine detK 10 rfl ?_; refine detK 11 rfl ?_; refine detK 12 rfl ?_; refine detK 13 rfl ?_; refine detK 14 rfl ?_; refine detK 15 rfl ?_; refine detK 16 rfl ?_; refine detK 17 rfl ?_
  refine detS 18 rfl ?_
  refine det_done (by decide +kernel) ?_
  clear st
  intro W st
  go_wp2
  go_end0
  rw [HE.out]
  exact ⟨⟨_, rfl⟩, RkTo.none h (HB.out _ _ st (by simp))⟩
 ·have HE := qh (show deliverK k (n : Int) m = k.put n { x with mails := x.mails ++ [m] } by rw [HK1.out, if_pos ⟨rfl, h6⟩])
  have d6 : decide ((x.mails.length : Int) < 6) = true := by simp; omega
  clear HK1
  go_enter Try.func12, Try.ntmps12
  go_wp2_with (first | go_skip | (go_at_call 24; go_must (refine (H4.out _).mono ?_; rintro e v1 ⟨rfl, rfl⟩)) | (with_reducible refine mB 42 st ?_; clear st; intro g1 w1 hg1 st) | (with_reducible refine mXA st Try.isAgg42 Try.sizeOf42 ?_) | (go_at_call 26; go_must (refine (HG.out _ (HB.out _ _ st (by simp))).mono ?_; rintro e v1 ⟨rfl, hb1⟩; replace st := st.call hb1; clear hb1)))
  refine det_region (by kernel_rfl) 19 rfl (fun W => St [g] w W [(g, 38, winC (preC k css n) [.slice xa x.label.length xc, .slice oa x.own.length oc, .string x.text, .slice ba x.objects.length bc, .slice ma x.mails.length mc] (postC k css n)), (g1, 42, [.int .i64 m.host, .int .i64 m.thread, .slice la m.label.length lc, .slice ga m.grants.length gc, .string m.text])]) (st.drew) (by decide +kernel) ?_
  refine detS 0 rfl ?_; refine detS 1 rfl ?_; refine detS 2 rfl ?_
  refine detT 3 rfl (fun W hW => St.run_loadW hW 0 33 _ rfl Try.isAgg33 4 hpre rfl rfl rfl) ?_
  refine detS 4 rfl ?_; refine detS 5 rfl ?_; refine detS 6 rfl ?_
  refine detS 7 rfl ?_
  refine detT 8 rfl (fun W hW => St.run_load hW 1 30 _ rfl Try.isAgg30 rfl rfl rfl) ?_
  refine detS 9 rfl ?_; refine detS 10 rfl ?_; refine detS 11 rfl ?_
  refine detT 12 rfl (fun W hW => St.run_loadW hW 0 30 _ rfl Try.isAgg30 0 hpre rfl rfl rfl) ?_
  refine detS 13 rfl ?_; refine detS 14 rfl ?_; refine detS 15 rfl ?_
  refine detT 16 rfl (fun W hW => St.run_loadW hW 0 31 _ rfl Try.isAgg31 1 hpre rfl rfl rfl) ?_
  refine det_call (fn := 28) 17 rfl (by decide +kernel) (by first | exact wanted_none rfl | exact wanted_some rfl rfl) (fun W => by first | (go_simp; done) | (go_simp; rfl)) (fun W hW => (HF.out W _ hW (hR.below (HB.out W _ hW (by simp)))).mono fun e w' h => ⟨h.1, hW.call h.2⟩) ?_; simp only [kP, kA, kS, kZ]
  refine detS 18 rfl ?_
  refine det_done (by decide +kernel) ?_
  clear st
  intro W st
  go_wp2_with fail
  obtain ⟨i0, hi, hz0, hz1, hz2⟩ := info_parts info_Mail
  have hmne : ma.map (·.block) ≠ some g := fun e => h.gOut eB (mem_rows2.2 (.inr e))
  have hMg : ∀ b, ma.map (·.block) = some b → b < w.heap.size ∧ ¬ ok b := fun b e => ⟨hT.mails.lt e, h.apartAt eB (mem_rows2.2 (.inr e))⟩
  have hBg : ∀ b, ba.map (·.block) = some b → b < w.heap.size ∧ ¬ ok b ∧ b ≠ g ∧ ma.map (·.block) ≠ some b := fun b e => ⟨hT.objs.lt e, h.apartAt eB (mem_rows2.2 (.inl e)), fun e2 => h.gOut eB (e2 ▸ mem_rows2.2 (.inl e)), h.rowsNe eB e⟩
  have hgw := h.lt g (by simp)
  have hg1w : w.heap.size ≤ g1 := hg1
  have st := st.drew
  have hI := st.wider (M' := g :: rows2 ba ma) (by simp)
  refine lex_tail (by kernel_rfl) 11 1 [11] rfl (by decide +kernel) (fun W => St (g :: rows2 ba ma) w W [(g, 38, winC (preC k css n) [.slice xa x.label.length xc, .slice oa x.own.length oc, .string x.text, .slice ba x.objects.length bc, .slice ma x.mails.length mc] (postC k css n)), (g1, 42, [.int .i64 m.host, .int .i64 m.thread, .slice la m.label.length lc, .slice ga m.grants.length gc, .string m.text])]) ?_
  refine lexS 0 rfl hI ?_
  refine lexS 1 rfl hI ?_
  refine lexS 2 rfl hI ?_
  refine lexS 3 rfl hI ?_
  refine lexT 4 rfl hI (fun W hW => St.run_loadW hW 0 33 _ rfl Try.isAgg33 4 hpre rfl rfl rfl) ?_
  refine lexT 5 rfl hI (fun W hW => St.run_load_agg hW 1 42 _ rfl Try.isAgg42 _ Try.sizeOf42 rfl rfl rfl rfl) ?_
  clear hI
  refine lexO 6 rfl fun K hK => ?_
  refine wp_callee (f := 11) (by first | (go_simp; done) | (go_simp; rfl)) ?_
  refine (HM.out _ (hR.below (HB.out _ _ st (by simp)))).mono ?_
  rintro e v ⟨a1, k1, a2, k2, rfl, hbm, hM1, hM2⟩
  have hM : MailR (newIn _) v m a1 k1 a2 k2 := ⟨hM1, hM2⟩
  have hzv := st.size
  refine ⟨_, rfl, ?_⟩
  replace st := st.call hbm
  clear hbm
  refine hK _ _ (st.wider (by simp)) ?_; clear hK; simp only [kP, kA, kS, kZ]
  refine lexO 7 rfl fun K hK => ?_
  refine wp_build1 st 33 42 _ rfl Try.underlying33 5 Try.sizeOf42 (by decide) (by decide) _ Try.zeroValue42 _ rfl rfl ?_; clear st; intro g3 w3 hg3 hg3e st hg3b hw3z; clear hg3e; simp [Act.eval, Act.put, Value.cells, putL] at st
  have hM3 := hM.below hg3b
  clear hg3b hw3z
  refine hK _ _ ((st.take 2).wider (by simp)) ?_; clear hK; simp only [kP, kA, kS, kZ]
  refine lexO 8 rfl fun K hK => ?_
  have hO : RowAt 42 w3 5 (RMail (fun b => ok b ∨ w.heap.size ≤ b) w3) ma mc x.mails := hT.mails.kept (fun b e => st.frame b (hMg b e).1 (by simp; rintro rfl; exact hmne e)) fun _ _ r => r.move st.size fun b hb' ho => ⟨.inl ho, (HKp.out _ _ st).block b hb' ho⟩
  refine wp_rowApp _ _ 33 rfl i0 _ 80 Try.underlying33 hi hz0 hz1 hz2 rfl (by decide) (y := m) rfl rfl hO rfl (SlR.ofBlk (ok := fun _ => True) (R := RMail (fun b => ok b ∨ w.heap.size ≤ b) w3) (x := m) (st.blk _ (mgE (i := 2) rfl)) ⟨a1, k1, a2, k2, rfl, hM3.label.okay fun b hb => .inr (by omega), hM3.grants.okay fun b hb => .inr (by omega)⟩ rfl rfl trivial) (by omega) (by unfold maxLen; omega) ?_
  intro g4 off4 c4 w4 hO4 hgr hat
  have hst3 := st
  replace st := ((st.take 2).grown hgr (by
   intro y hy e
   simp at hy
   rcases hy with rfl | rfl
   ·exact hmne e
   ·have := (hMg _ e).1; simp only at this; omega)).wider (M' := g :: rows2 ba ma) (by
   intro b hb
   simp only [List.mem_append, Option.mem_toList, List.mem_singleton] at hb
   rcases hb with hb | rfl
   ·exact List.mem_cons_of_mem _ (mem_rows2.2 (.inr hb))
   ·simp)
  simp only [List.take_succ_cons, List.take_zero] at st
  have hI := st
  refine hK _ _ (hI) ?_; clear hK; simp only [kP, kA, kS, kZ]
  refine lexS 9 rfl hI ?_
  refine lexS 10 rfl hI ?_
  clear hI
  refine lex_done (by decide +kernel) ?_
  refine tail_last 11 rfl (by first | exact wanted_none rfl | exact wanted_some rfl rfl) (by decide +kernel) (by decide +kernel) fun K hK => ?_
  refine wp_storeW st 33 _ _ rfl _ Try.sizeOf33 4 ?_; refine ⟨0, _, _, _, _, _, _, _, hpre, rfl, rfl, rfl, rfl, rfl, rfl, ?_⟩; clear st; intro w5 st hw5m hw5z; simp [Act.eval, Act.put, Value.cells, putL] at st
  refine hK _ _ ?_; clear hK
  go_wp2
  go_end0
  refine ⟨⟨_, rfl⟩, ?_⟩
  rw [HE.out]
  have hz3 := hst3.size
  have hch : ∀ b, b < w3.heap.size → b ≠ g → ma.map (·.block) ≠ some b → w5.heap[b]? = w3.heap[b]? := fun b hb h1 h2 => (hw5m b h1).trans (hgr.block b hb fun e => h2 e.symm)
  have hcw : ∀ b, b < w.heap.size → b ≠ g → ma.map (·.block) ≠ some b → w5.heap[b]? = w.heap[b]? := fun b hb h1 h2 => (hch b (by omega) h1 h2).trans (hst3.frame b hb (by simpa using h1))
  have hg4 : ∀ b, b < w3.heap.size → (ok b ∨ w.heap.size ≤ b) → b ≠ g4 := fun b hb ho e => by
   subst e
   rcases hat with hat | hat
   ·rcases ho with ho | ho
    ·exact (hMg _ hat).2 ho
    ·have := (hMg _ hat).1; omega
   ·omega
  have hok : ∀ b, b < w3.heap.size → (ok b ∨ w.heap.size ≤ b) → ((ok b ∨ w.heap.size ≤ b) ∧ b ∉ g :: rows2 ba (some ⟨g4, off4, none⟩)) ∧ w5.heap[b]? = w3.heap[b]? := fun b hb ho => by
   have h1 : b ≠ g := by
    rintro rfl
    rcases ho with ho | ho
    ·exact hgg ho
    ·omega
   refine ⟨⟨ho, fun hm => ?_⟩, hch b hb h1 fun e => ?_⟩
   ·rcases List.mem_cons.1 hm with hm | hm
    ·exact h1 hm
    ·rcases mem_rows2.1 hm with hm | hm
     ·obtain ⟨q1, q2, _⟩ := hBg b hm
      rcases ho with ho | ho
      ·exact q2 ho
      ·omega
     ·exact hg4 b hb ho (Option.some.inj hm).symm
   ·obtain ⟨q1, q2⟩ := hMg b e
    rcases ho with ho | ho
    ·exact q2 ho
    ·omega
  have hokw : ∀ b, b < w.heap.size → ok b → ((ok b ∨ w.heap.size ≤ b) ∧ b ∉ g :: rows2 ba (some ⟨g4, off4, none⟩)) ∧ w5.heap[b]? = w.heap[b]? := fun b hb ho => by
   obtain ⟨q1, q2⟩ := hok b (by omega) (.inl ho)
   exact ⟨q1, q2.trans ((HKp.out _ _ hst3).block b hb ho)⟩
  have hne4 : g4 ≠ g := by
   rintro rfl
   rcases hat with hat | hat
   ·exact hmne hat
   ·omega
  refine h.close (made' := k.made) hn ec eB st (st.blk _ (mgE (i := 0) rfl)) (x' := { x with mails := x.mails ++ [m] }) (B' := rows2 ba (some ⟨g4, off4, none⟩))
   ⟨xa, xc, oa, oc, ba, bc, some ⟨g4, off4, none⟩, c4, by simp [thrC], ⟨hT.label.move st.size hokw fun _ _ r => r, hT.own.move st.size hokw fun _ _ r => r,
    hT.objs.kept (fun b e => hcw b (hBg b e).1 (hBg b e).2.2.1 (hBg b e).2.2.2) fun _ _ r => r.move st.size hokw, hO4.kept (fun b e => by obtain rfl : g4 = b := Option.some.inj e; exact hw5m _ hne4) fun _ _ r => r.move (by have := hgr.size; omega) hok⟩, rfl⟩ ?_ ?_
  ·unfold rows2
   cases hba : ba with
   | none => simp
   | some ad =>
    simp only [Option.map_some, Option.toList_some, List.cons_append, List.nil_append, List.nodup_cons, List.mem_singleton, List.not_mem_nil, not_false_eq_true, List.nodup_nil, and_true]
    intro e
    obtain ⟨q1, _, _, q4⟩ := hBg ad.block (by rw [hba]; rfl)
    rcases hat with hat | hat
    ·exact q4 (by rw [hat, e])
    ·omega
  ·intro b hb
   rcases mem_rows2.1 hb with hb | hb
   ·exact .inl (mem_rows2.2 (.inl hb))
   ·obtain rfl : g4 = b := Option.some.inj hb
    rcases hat with hat | hat
    ·exact .inl (mem_rows2.2 (.inr hat))
    ·exact .inr (by omega)
def RCallPost (ok : Nat → Prop) (w : World) (g : Nat) (Bs : List (List Nat)) (r : Ker × Rep) (e : Ending) (w' : World) : Prop := e = .returned (RepV r.2) ∧ RkTo ok w g Bs w' r.1
theorem rcall_no (w : World) (n : Int) : Calls Try.prog 39 #[.int .i64 n] w fun e w' => e = .returned (.agg #[.int .i64 n, .int .i64 0, .string ⟨#[]⟩]) ∧ Below w.heap.size w w' := by
 have st := St.start w
 go_enter Try.func39, Try.ntmps39
 go_wp2_with (first | go_skip | (with_reducible refine mA st Try.zeroValue52 ?_; clear st; intro g2 w2 hg2 st) | (with_reducible refine mS 0 st Try.sizeOf52 ?_; clear st; intro w3 st hw3m hw3z))
 have hc := fun j => st.cell (i := 0) rfl j
 refine bodyPost_ret (v := _) ?hr rfl ⟨rfl, st.below⟩
 case hr => simp [results, Try.results39, go_sem, hc]; try rfl
theorem four_of {n : Nat} (h : n < 4) : four (n : Int) = true := (four_iff _).2 ⟨by omega, by omega⟩
theorem St.with2 {w0 w : World} {g gb : Nat} {T2 : TypeId} {cs2 : List Value} {x : Nat × TypeId × List Value} {own : Blks} (h : St [g] w0 w (x :: own)) (h2 : w0.heap[gb]? = some (.cells cs2.toArray T2 (0, 0))) (hne : g ≠ gb) (hlt : gb < w0.heap.size) : St [g, gb] w0 w (x :: (gb, T2, cs2) :: own) := by
 have hb : w.heap[gb]? = some (.cells cs2.toArray T2 (0, 0)) := (h.frame gb hlt (by simpa using fun e => hne e.symm)).trans h2
 have hd : ∀ y ∈ x :: own, y.1 ≠ gb := fun y hy e => by
  rcases h.mine y hy with hm | hm
  ·rw [List.mem_singleton.1 hm] at e; exact hne e
  ·omega
 refine ⟨h.os, h.tape, h.output, h.size, fun b hb hm => h.frame b hb fun hm2 => hm (by simp at hm2 ⊢; exact .inl hm2), fun y hy => ?_, fun y hy => ?_, ?_⟩
 ·simp only [List.mem_cons] at hy
  rcases hy with rfl | rfl | hy
  ·exact h.blk y (by simp)
  ·exact hb
  ·exact h.blk y (by simp [hy])
 ·simp only [List.mem_cons] at hy
  rcases hy with rfl | rfl | hy
  ·exact (h.mine y (by simp)).imp (by simp; exact .inl) id
  ·exact .inl (by simp)
  ·exact (h.mine y (by simp [hy])).imp (by simp; exact .inl) id
 ·have hp := List.pairwise_cons.1 h.ne
  refine List.pairwise_cons.2 ⟨fun y hy => ?_, List.pairwise_cons.2 ⟨fun y hy e => hd y (by simp [hy]) e.symm, hp.2⟩⟩
  rcases List.mem_cons.1 hy with rfl | hy
  ·exact hd x (by simp)
  ·exact hp.1 y hy
def Ker.there (k : Ker) (t i : Int) : Bool := (k.obj t i).isSome
theorem RkAt.objCell {ok : Nat → Prop} {w : World} {g : Nat} {k : Ker} {css : List (List Value)} {Bs : List (List Nat)} (h : RkAt ok w g k css Bs) {t m : Nat} (ht : t < 4) (hm : m < 4) {cs : List Value} (hc : css[t]? = some cs) {y : Thr} {la : Option Addr} {lc : Nat} {oa : Option Addr} {oc : Nat} {ba : Option Addr} {bc : Nat} {ma : Option Addr} {mc : Nat} (hy : css[m]? = some (thrC y la lc oa oc ba bc ma mc)) :
  (winC (preC k css t) cs (postC k css t))[1 + m * 5 + 3]? = some (.slice ba y.objects.length bc) := by
 rw [← h.cells ht hc, h.cells hm hy]
 unfold winC thrC
 rw [List.getElem?_append_right (by rw [h.preLen hm]; omega), h.preLen hm, show 1 + m * 5 + 3 - (1 + m * 5) = 3 by omega]
 rfl
theorem RkAt.thereCases {ok : Nat → Prop} {w : World} {g : Nat} {k : Ker} {css : List (List Value)} {Bs : List (List Nat)} (h : RkAt ok w g k css Bs) {n : Nat} (hn : n < 4) {cs : List Value} (hc : css[n]? = some cs) (t i : Int) :
  (four t = false ∧ k.there t i = false) ∨ (four t = true ∧ i < 0 ∧ k.there t i = false) ∨
  ∃ (m j : Nat) (y : Thr) (yb : Option Addr) (yc : Nat), m < 4 ∧ t = m ∧ i = j ∧ k.there t i = decide ((j : Int) < y.objects.length) ∧ (winC (preC k css n) cs (postC k css n))[1 + m * 5 + 3]? = some (.slice yb y.objects.length yc) := by
 by_cases h4 : four t = true
 case neg =>
  have h4' : four t = false := by simpa using h4
  exact .inl ⟨h4', by unfold Ker.there Ker.obj; rw [if_neg (fun e => h4 e.1)]; rfl⟩
 by_cases h0 : i < 0
 ·exact .inr (.inl ⟨h4, h0, by unfold Ker.there Ker.obj; rw [if_neg (fun e => by omega)]; rfl⟩)
 obtain ⟨m, rfl, hm⟩ := four_nat h4
 obtain ⟨j, rfl⟩ := Int.eq_ofNat_of_zero_le (by omega : 0 ≤ i)
 obtain ⟨y, ya, yc, oa, oc, ba, bc, ma, mc, ex, ec, eB, hT, hb⟩ := h.open hm
 refine .inr (.inr ⟨m, j, y, ba, bc, hm, rfl, rfl, ?_, h.objCell hn hm hc ec⟩)
 unfold Ker.there Ker.obj
 rw [if_pos ⟨h4, by omega⟩, Ker.thr_at ex, Int.toNat_natCast]
 by_cases hj : j < y.objects.length
 ·rw [gEg hj, decide_eq_true (by omega)]; rfl
 ·rw [List.getElem?_eq_none (by omega), decide_eq_false (by omega)]; rfl
theorem and3 {m : Nat} (hm : m < 4) (W : World) : (binOp .and 3 (.int .i64 m) (.int .i64 3)).run Try.prog W = .ok (.int .i64 m) W := by
 rcases (by omega : m = 0 ∨ m = 1 ∨ m = 2 ∨ m = 3) with rfl | rfl | rfl | rfl <;> kernel_rfl
theorem run_and3 {w : World} {o : Oper} {A : Act} (T' : TypeId) (x y : Operand) (ho : o.op = .binOp .and 3 x y T') {m : Nat} (hm : m < 4) (hx : A.eval x = .int .i64 m) (hy : A.eval y = .int .i64 3) : (execOp A.eval o).run Try.prog w = .ok (.value (.int .i64 m)) w := by
 have h := and3 hm w
 have hg : (eqGuard .and 3 x y (.int .i64 m) (.int .i64 3)).run Try.prog w = .ok () w := by first | rfl | kernel_rfl
 simp only [execOp, ho, hx, hy, Sem.run_bind, hg, Result.andThen_ok, h, Sem.run_pure]
theorem RkAt.objWin {ok : Nat → Prop} {w : World} {g : Nat} {k : Ker} {css : List (List Value)} {Bs : List (List Nat)} (h : RkAt ok w g k css Bs) {t i : Int} {o : KObj} (ho : k.obj t i = some o) :
  ∃ (m j : Nat) (y : Thr) (ya : Option Addr) (yc : Nat) (oa : Option Addr) (oc gb off bc : Nat) (ma : Option Addr) (mc : Nat), m < 4 ∧ t = m ∧ i = j ∧ k.threads[m]? = some y ∧ css[m]? = some (thrC y ya yc oa oc (some ⟨gb, off, none⟩) bc ma mc) ∧ Bs[m]? = some (rows2 (some ⟨gb, off, none⟩) ma) ∧ ThrR ok w y ya yc oa oc (some ⟨gb, off, none⟩) bc ma mc ∧ y.objects[j]? = some o := by
 unfold Ker.obj at ho
 split at ho
 case isFalse => cases ho
 rename_i h4
 obtain ⟨m, rfl, hm⟩ := four_nat h4.1
 obtain ⟨j, rfl⟩ := Int.eq_ofNat_of_zero_le h4.2
 obtain ⟨y, ya, yc, oa, oc, ba, bc, ma, mc, ex, ec, eB, hT, hb⟩ := h.open hm
 rw [Ker.thr_at ex, Int.toNat_natCast] at ho
 have hj := (gEs ho).1
 rcases hT.objs.2.2 with ⟨_, h0⟩ | ⟨gb, off, cells, rfl, _⟩
 ·have := hT.objs.1; omega
 ·exact ⟨m, j, y, ya, yc, oa, oc, gb, off, bc, ma, mc, hm, rfl, rfl, ex, ec, eB, hT, ho⟩
theorem RkAt.madeAt' {ok : Nat → Prop} {w : World} {g : Nat} {k : Ker} {css : List (List Value)} {Bs : List (List Nat)} (h : RkAt ok w g k css Bs) {t : Nat} (ht : t < 4) (A B C D E : Value) (m : Int) : (winC (preC k css t) [A, B, C, D, E] (postC { k with made := m } css t))[21]? = some (.int .i64 m) := by
 have h1 := h.preLen ht
 have h2 : (css.drop (t + 1)).flatten.length = 5 * (4 - (t + 1)) := by rw [flatten5 _ fun cs hc => h.five cs (List.mem_of_mem_drop hc), List.length_drop, h.n1]
 unfold winC postC
 rw [List.getElem?_append_right (by omega), List.getElem?_append_right (by simp only [List.length_cons, List.length_nil]; omega), List.getElem?_append_right (by simp only [List.length_cons, List.length_nil]; omega)]
 have : 21 - (preC k css t).length - [A, B, C, D, E].length - (css.drop (t + 1)).flatten.length = 0 := by simp only [List.length_cons, List.length_nil]; omega
 rw [this]
 rfl
theorem goodL_fit {l : List Lev} (h : goodL l = true) : ∀ y ∈ l, y.fit := fun y hy => by
 have := (lvOk_iff y).1 (((goodL_iff l).1 h).2.1 y hy)
 unfold Lev.fit fitI
 omega
theorem setR_fitI {l : List Lev} {c n : Int} (h : (setR l c n).2 = 0) : ∀ y ∈ (setR l c n).1, fitI y.c := by
 rcases setR_cases l c n with ⟨k, e, hk⟩ | ⟨e, hg, hc, hn, h8⟩
 ·rw [e] at h; exact absurd h hk
 ·rw [e]; exact goodL_fitI (set_good hg hc hn h8)
section
variable (ok okc : Nat → Prop) (w : World) (g : Nat) (k : Ker) (css : List (List Value)) (Bs : List (List Nat)) (n : Nat) (c : Req) (la : Option Addr) (lc : Nat) (ga : Option Addr) (gc : Nat)
theorem ref_Call_say (h : RkAt ok w g k css Bs) (hk : ∀ x ∈ k.threads, x.ok) (hn : n < 4) (hx64 : ¬ 64 < c.text.size) (hkd : c.kind = 10) :
  Calls Try.prog 14 #[.pointer (some ⟨g, 0, none⟩), .int .i64 n, reqV c la lc ga gc] w (RCallPost ok w g Bs (callK k n c)) := by
 obtain ⟨x, xa, xc, oa, oc, ba, bc, ma, mc, ex, ec, eB, hT, hb⟩ := h.open hn
 have hx := hk x (mgE ex)
 have hpre := h.preLen hn
 have hth := Ker.thr_at ex
 have st0 := St.hand hb
 unfold thrC at st0
 have d1 : decide ((n : Int) < 0) = false := by simp
 have d2 : decide ((4 : Int) ≤ n) = false := by simp; omega
 have d64 := text_size hx64
 have hgg : ¬ ok g := h.apart g (by simp)
 have H4 := qh (fun (W : World) => ref_four (n : Int) W)
 rw [four_of hn] at H4
 have HKp := qh (show ∀ (W : World) (bl : Blks), St [g] w W bl → Keeps ok w W from fun W bl s => s.keeps (by simpa using hgg))
 have HB := qh (show ∀ (W : World) (bl : Blks), St [g] w W bl → (g, 38, winC (preC k css n) [.slice xa x.label.length xc, .slice oa x.own.length oc, .string x.text, .slice ba x.objects.length bc, .slice ma x.mails.length mc] (postC k css n)) ∈ bl → Below w.heap.size w W from fun W bl s hm => st0.below2 s (by simpa using hm))
 have hxf := goodL_fitI hx.good; have hxl := goodL_len hx.good; have hxo := hx.ownL; have hxm := hx.mailN; have hxb := hx.objs; have hxt := hx.text
 have st := st0
 clear st0
 unfold reqV
 go_enter Try.func14, Try.ntmps14
 go_upto_region 7 with (first | go_skip | (go_at_call 24; go_must (refine (H4.out _).mono ?_; rintro e v1 ⟨rfl, rfl⟩)) | (with_reducible refine mB 40 st ?_; clear st; intro g5 w5 hg5 st) | (with_reducible refine mA st Try.zeroValue52 ?_; clear st; intro g6 w6 hg6 st) | (with_reducible refine mX st Try.isAgg9 ?_))
 try simp only [kP, kA, kS, kZ]
 go_cut [9] from 37 to 59 (fun s9 wx => s9 = .bool (k.there c.t c.n) ∧ St [g] w wx [(g, 38, winC (preC k css n) [.slice xa x.label.length xc, .slice oa x.own.length oc, .string x.text, .slice ba x.objects.length bc, .slice ma x.mails.length mc] (postC k css n)), (g5, 40, [.int .i64 c.kind, .int .i64 c.h, .int .i64 c.t, .int .i64 c.n, .int .i64 c.c, .slice la c.label.length lc, .slice ga c.grants.length gc, .string c.text]), (g6, 52, [.int .i64 0, .int .i64 0, .string ⟨#[]⟩])])
 case first =>
  have HTh := qh (h.thereCases hn ec c.t c.n)
  unfold thrC at HTh
  rcases HTh.out with ⟨h1, h2⟩ | ⟨h1, h2, h3⟩ | ⟨m, j, y, yb, yc, hm, et, en, hth, hcell⟩
  ·have F4 := qh (fun (W : World) => ref_four c.t W)
   rw [h1] at F4
   replace h2 := qh h2
   clear h1
   refine det_region (by kernel_rfl) 24 rfl (fun W => St [g] w W [(g, 38, winC (preC k css n) [.slice xa x.label.length xc, .slice oa x.own.length oc, .string x.text, .slice ba x.objects.length bc, .slice ma x.mails.length mc] (postC k css n)), (g5, 40, [.int .i64 c.kind, .int .i64 c.h, .int .i64 c.t, .int .i64 c.n, .int .i64 c.c, .slice la c.label.length lc, .slice ga c.grants.length gc, .string c.text]), (g6, 52, [.int .i64 0, .int .i64 0, .string ⟨#[]⟩])]) (st.drew) (by decide +kernel) ?_
   refine detS 0 rfl ?_
   refine detT 1 rfl (fun W hW => St.run_load hW 1 3 _ rfl Try.isAgg3 rfl rfl rfl) ?_
   refine det_call (fn := 24) 2 rfl (by decide +kernel) (by first | exact wanted_none rfl | exact wanted_some rfl rfl) (fun W => by first | (go_simp; done) | (go_simp; rfl)) (fun W hW => (F4.out W).mono fun e w' h => ⟨h.1, h.2 ▸ hW⟩) ?_; simp only [kP, kA, kS, kZ]
   refine detS 3 rfl ?_
   refine detK 4 rfl ?_; refine detK 5 rfl ?_; refine detK 6 rfl ?_
   refine detS 7 rfl ?_; refine detS 8 rfl ?_
   refine detK 9 rfl ?_; refine detK 10 rfl ?_; refine detK 11 rfl ?_; refine detK 12 rfl ?_; refine detK 13 rfl ?_; refine detK 14 rfl ?_; refine detK 15 rfl ?_; refine detK 16 rfl ?_; refine detK 17 rfl ?_; refine detK 18 rfl ?_; refine detK 19 rfl ?_; refine detK 20 rfl ?_; refine detK 21 rfl ?_
   refine detS 22 rfl ?_; refine detS 23 rfl ?_
   refine det_done (by decide +kernel) ?_
   clear st
   intro W st
   go_wp2_with fail
   go_meet
   exact ⟨by rw [h2.out], st⟩
  ·have F4 := qh (fun (W : World) => ref_four c.t W)
   rw [h1] at F4
   replace h3 := qh h3
   have d3 : decide ((0 : Int) ≤ c.n) = false := by simpa using h2
   clear h1 h2
   refine det_region (by kernel_rfl) 24 rfl (fun W => St [g] w W [(g, 38, winC (preC k css n) [.slice xa x.label.length xc, .slice oa x.own.length oc, .string x.text, .slice ba x.objects.length bc, .slice ma x.mails.length mc] (postC k css n)), (g5, 40, [.int .i64 c.kind, .int .i64 c.h, .int .i64 c.t, .int .i64 c.n, .int .i64 c.c, .slice la c.label.length lc, .slice ga c.grants.length gc, .string c.text]), (g6, 52, [.int .i64 0, .int .i64 0, .string ⟨#[]⟩])]) (st.drew) (by decide +kernel) ?_
   refine detS 0 rfl ?_
   refine detT 1 rfl (fun W hW => St.run_load hW 1 3 _ rfl Try.isAgg3 rfl rfl rfl) ?_
   refine det_call (fn := 24) 2 rfl (by decide +kernel) (by first | exact wanted_none rfl | exact wanted_some rfl rfl) (fun W => by first | (go_simp; done) | (go_simp; rfl)) (fun W hW => (F4.out W).mono fun e w' h => ⟨h.1, h.2 ▸ hW⟩) ?_; simp only [kP, kA, kS, kZ]
   refine detS 3 rfl ?_; refine detS 4 rfl ?_
   refine detT 5 rfl (fun W hW => St.run_load hW 1 3 _ rfl Try.isAgg3 rfl rfl rfl) ?_
   refine detT (v := .bool false) 6 rfl (fun W hW => by (go_simp; done)) ?_
   refine detS 7 rfl ?_; refine detS 8 rfl ?_
   refine detK 9 rfl ?_; refine detK 10 rfl ?_; refine detK 11 rfl ?_; refine detK 12 rfl ?_; refine detK 13 rfl ?_; refine detK 14 rfl ?_; refine detK 15 rfl ?_; refine detK 16 rfl ?_; refine detK 17 rfl ?_; refine detK 18 rfl ?_; refine detK 19 rfl ?_; refine detK 20 rfl ?_; refine detK 21 rfl ?_
   refine detS 22 rfl ?_; refine detS 23 rfl ?_
   refine det_done (by decide +kernel) ?_
   clear st
   intro W st
   go_wp2_with fail
   go_meet
   exact ⟨by rw [h3.out], st⟩
  ·have F4 := qh (fun (W : World) => ref_four (m : Int) W)
   rw [four_of hm] at F4
   have d3 : decide ((0 : Int) ≤ (j : Int)) = true := by simp
   have d5 : decide ((m : Int) < 0) = false := by simp
   have d6 : decide ((4 : Int) ≤ m) = false := by simp; omega
   rw [et, en] at st
   replace et := qh et
   replace en := qh en
   replace hth := qh hth
   refine det_region (by kernel_rfl) 24 rfl (fun W => St [g] w W [(g, 38, winC (preC k css n) [.slice xa x.label.length xc, .slice oa x.own.length oc, .string x.text, .slice ba x.objects.length bc, .slice ma x.mails.length mc] (postC k css n)), (g5, 40, [.int .i64 c.kind, .int .i64 c.h, .int .i64 m, .int .i64 j, .int .i64 c.c, .slice la c.label.length lc, .slice ga c.grants.length gc, .string c.text]), (g6, 52, [.int .i64 0, .int .i64 0, .string ⟨#[]⟩])]) (st.drew) (by decide +kernel) ?_
   refine detS 0 rfl ?_
   refine detT 1 rfl (fun W hW => St.run_load hW 1 3 _ rfl Try.isAgg3 rfl rfl rfl) ?_
   refine det_call (fn := 24) 2 rfl (by decide +kernel) (by first | exact wanted_none rfl | exact wanted_some rfl rfl) (fun W => by first | (go_simp; done) | (go_simp; rfl)) (fun W hW => (F4.out W).mono fun e w' h => ⟨h.1, h.2 ▸ hW⟩) ?_; simp only [kP, kA, kS, kZ]
   refine detS 3 rfl ?_; refine detS 4 rfl ?_
   refine detT 5 rfl (fun W hW => St.run_load hW 1 3 _ rfl Try.isAgg3 rfl rfl rfl) ?_
   refine detT (v := .bool true) 6 rfl (fun W hW => by (go_simp; done)) ?_
   refine detS 7 rfl ?_; refine detS 8 rfl ?_; refine detS 9 rfl ?_
   refine detT 10 rfl (fun W hW => St.run_load hW 1 3 _ rfl Try.isAgg3 rfl rfl rfl) ?_
   refine detS 11 rfl ?_; refine detS 12 rfl ?_
   refine detT 13 rfl (fun W hW => St.run_load hW 1 3 _ rfl Try.isAgg3 rfl rfl rfl) ?_
   refine detT (v := .int .i64 m) 14 rfl (fun W hW => by (exact run_and3 _ _ _ rfl hm rfl rfl)) ?_
   refine detS 15 rfl ?_; refine detS 16 rfl ?_
   refine detT (v := .pointer (some ⟨g, 1 + m * 5, none⟩)) 17 rfl (fun W hW => by (first | (go_simp; done) | (go_simp; omega))) ?_
   refine detS 18 rfl ?_
   refine detT (v := .slice yb y.objects.length yc) 19 rfl (fun W hW => St.run_load hW 0 32 _ rfl Try.isAgg32 rfl rfl hcell) ?_
   refine detS 20 rfl ?_
   refine detT (v := .bool (decide ((j : Int) < y.objects.length))) 21 rfl (fun W hW => by (go_simp; done)) ?_
   refine detS 22 rfl ?_; refine detS 23 rfl ?_
   refine det_done (by decide +kernel) ?_
   clear st
   intro W st
   go_wp2_with fail
   go_meet
   exact ⟨by rw [hth.out]; simp, by rw [et.out, en.out]; exact st⟩
 case rest =>
 obtain ⟨rfl, st⟩ := hcut
 have hg5w : w.heap.size ≤ g5 := hg5
 have hg6w : w.heap.size ≤ g6 := hg6
 have HE := qh (show callK k (n : Int) c = (k, ⟨0, 0, x.text⟩) by unfold callK; simp [hkd, hth])
 rw [hkd] at st
 clear hkd
 go_wp2_with (first | go_skip | (with_reducible refine at_load 9 ?_; (first | refine mem_loadW st 9 _ rfl (wanted_none rfl) Try.isAgg9 2 ?_ | (refine mem_loadW st 9 _ rfl (wanted_some rfl ?_) Try.isAgg9 2 ?_; focus (simp [yielded, Act.put]; done))); refine ⟨0, _, _, _, _, _, _, _, hpre, rfl, rfl, rfl, ?_⟩) | (go_at_call 24; go_must (refine (H4.out _).mono ?_; rintro e v1 ⟨rfl, rfl⟩)) | (with_reducible refine mB 40 st ?_; clear st; intro g5 w5 hg5 st) | (with_reducible refine mA st Try.zeroValue52 ?_; clear st; intro g6 w6 hg6 st) | (with_reducible refine mX st Try.isAgg9 ?_) | (with_reducible refine mX st Try.isAgg3 ?_) | (go_at_call 39; go_must (refine (rcall_no _ _).mono ?_; rintro e vn ⟨rfl, hbn⟩; replace st := st.call hbn; clear hbn)) | (with_reducible refine mS 2 st Try.sizeOf52 ?_; clear st; intro w7 st hw7m hw7z))
 have hc := fun j => st.cell (i := 2) rfl j
 refine bodyPost_ret (v := RepV (⟨0, 0, x.text⟩)) ?hr rfl ?_
 case hr => simp [results, Try.results14, go_sem, hc, RepV, errR]; try rfl
 rw [HE.out]
 exact ⟨rfl, RkTo.none h (HB.out _ _ st (by simp))⟩
end
section
variable (ok okc : Nat → Prop) (w : World) (g : Nat) (k : Ker) (css : List (List Value)) (Bs : List (List Nat)) (n : Nat) (c : Req) (la : Option Addr) (lc : Nat) (ga : Option Addr) (gc : Nat)
theorem ref_Call_other (h : RkAt ok w g k css Bs) (hk : ∀ x ∈ k.threads, x.ok) (hn : n < 4) (hx64 : ¬ 64 < c.text.size) (hkd : c.kind ≠ 1 ∧ c.kind ≠ 2 ∧ c.kind ≠ 3 ∧ c.kind ≠ 4 ∧ c.kind ≠ 5 ∧ c.kind ≠ 7 ∧ c.kind ≠ 9 ∧ c.kind ≠ 10) :
  Calls Try.prog 14 #[.pointer (some ⟨g, 0, none⟩), .int .i64 n, reqV c la lc ga gc] w (RCallPost ok w g Bs (callK k n c)) := by
 obtain ⟨x, xa, xc, oa, oc, ba, bc, ma, mc, ex, ec, eB, hT, hb⟩ := h.open hn
 have hx := hk x (mgE ex)
 have hpre := h.preLen hn
 have hth := Ker.thr_at ex
 have st0 := St.hand hb
 unfold thrC at st0
 have d1 : decide ((n : Int) < 0) = false := by simp
 have d2 : decide ((4 : Int) ≤ n) = false := by simp; omega
 have d64 := text_size hx64
 have hgg : ¬ ok g := h.apart g (by simp)
 have H4 := qh (fun (W : World) => ref_four (n : Int) W)
 rw [four_of hn] at H4
 have HKp := qh (show ∀ (W : World) (bl : Blks), St [g] w W bl → Keeps ok w W from fun W bl s => s.keeps (by simpa using hgg))
 have HB := qh (show ∀ (W : World) (bl : Blks), St [g] w W bl → (g, 38, winC (preC k css n) [.slice xa x.label.length xc, .slice oa x.own.length oc, .string x.text, .slice ba x.objects.length bc, .slice ma x.mails.length mc] (postC k css n)) ∈ bl → Below w.heap.size w W from fun W bl s hm => st0.below2 s (by simpa using hm))
 have hxf := goodL_fitI hx.good; have hxl := goodL_len hx.good; have hxo := hx.ownL; have hxm := hx.mailN; have hxb := hx.objs; have hxt := hx.text
 have st := st0
 clear st0
 unfold reqV
 go_enter Try.func14, Try.ntmps14
 go_upto_region 7 with (first | go_skip | (go_at_call 24; go_must (refine (H4.out _).mono ?_; rintro e v1 ⟨rfl, rfl⟩)) | (with_reducible refine mB 40 st ?_; clear st; intro g5 w5 hg5 st) | (with_reducible refine mA st Try.zeroValue52 ?_; clear st; intro g6 w6 hg6 st) | (with_reducible refine mX st Try.isAgg9 ?_))
 try simp only [kP, kA, kS, kZ]
 go_cut [9] from 37 to 59 (fun s9 wx => s9 = .bool (k.there c.t c.n) ∧ St [g] w wx [(g, 38, winC (preC k css n) [.slice xa x.label.length xc, .slice oa x.own.length oc, .string x.text, .slice ba x.objects.length bc, .slice ma x.mails.length mc] (postC k css n)), (g5, 40, [.int .i64 c.kind, .int .i64 c.h, .int .i64 c.t, .int .i64 c.n, .int .i64 c.c, .slice la c.label.length lc, .slice ga c.grants.length gc, .string c.text]), (g6, 52, [.int .i64 0, .int .i64 0, .string ⟨#[]⟩])])
 case first =>
  have HTh := qh (h.thereCases hn ec c.t c.n)
  unfold thrC at HTh
  rcases HTh.out with ⟨h1, h2⟩ | ⟨h1, h2, h3⟩ | ⟨m, j, y, yb, yc, hm, et, en, hth, hcell⟩
  ·have F4 := qh (fun (W : World) => ref_four c.t W)
   rw [h1] at F4
   replace h2 := qh h2
   clear h1
   refine det_region (by kernel_rfl) 24 rfl (fun W => St [g] w W [(g, 38, winC (preC k css n) [.slice xa x.label.length xc, .slice oa x.own.length oc, .string x.text, .slice ba x.objects.length bc, .slice ma x.mails.length mc] (postC k css n)), (g5, 40, [.int .i64 c.kind, .int .i64 c.h, .int .i64 c.t, .int .i64 c.n, .int .i64 c.c, .slice la c.label.length lc, .slice ga c.grants.length gc, .string c.text]), (g6, 52, [.int .i64 0, .int .i64 0, .string ⟨#[]⟩])]) (st.drew) (by decide +kernel) ?_
   refine detS 0 rfl ?_
   refine detT 1 rfl (fun W hW => St.run_load hW 1 3 _ rfl Try.isAgg3 rfl rfl rfl) ?_
   refine det_call (fn := 24) 2 rfl (by decide +kernel) (by first | exact wanted_none rfl | exact wanted_some rfl rfl) (fun W => by first | (go_simp; done) | (go_simp; rfl)) (fun W hW => (F4.out W).mono fun e w' h => ⟨h.1, h.2 ▸ hW⟩) ?_; simp only [kP, kA, kS, kZ]
   refine detS 3 rfl ?_
   refine detK 4 rfl ?_; refine detK 5 rfl ?_; refine detK 6 rfl ?_
   refine detS 7 rfl ?_; refine detS 8 rfl ?_
   refine detK 9 rfl ?_; refine detK 10 rfl ?_; refine detK 11 rfl ?_; refine detK 12 rfl ?_; refine detK 13 rfl ?_; refine detK 14 rfl ?_; refine detK 15 rfl ?_; refine detK 16 rfl ?_; refine detK 17 rfl ?_; refine detK 18 rfl ?_; refine detK 19 rfl ?_; refine detK 20 rfl ?_; refine detK 21 rfl ?_
   refine detS 22 rfl ?_; refine detS 23 rfl ?_
   refine det_done (by decide +kernel) ?_
   clear st
   intro W st
   go_wp2_with fail
   go_meet
   exact ⟨by rw [h2.out], st⟩
  ·have F4 := qh (fun (W : World) => ref_four c.t W)
   rw [h1] at F4
   replace h3 := qh h3
   have d3 : decide ((0 : Int) ≤ c.n) = false := by simpa using h2
   clear h1 h2
   refine det_region (by kernel_rfl) 24 rfl (fun W => St [g] w W [(g, 38, winC (preC k css n) [.slice xa x.label.length xc, .slice oa x.own.length oc, .string x.text, .slice ba x.objects.length bc, .slice ma x.mails.length mc] (postC k css n)), (g5, 40, [.int .i64 c.kind, .int .i64 c.h, .int .i64 c.t, .int .i64 c.n, .int .i64 c.c, .slice la c.label.length lc, .slice ga c.grants.length gc, .string c.text]), (g6, 52, [.int .i64 0, .int .i64 0, .string ⟨#[]⟩])]) (st.drew) (by decide +kernel) ?_
   refine detS 0 rfl ?_
   refine detT 1 rfl (fun W hW => St.run_load hW 1 3 _ rfl Try.isAgg3 rfl rfl rfl) ?_
   refine det_call (fn := 24) 2 rfl (by decide +kernel) (by first | exact wanted_none rfl | exact wanted_some rfl rfl) (fun W => by first | (go_simp; done) | (go_simp; rfl)) (fun W hW => (F4.out W).mono fun e w' h => ⟨h.1, h.2 ▸ hW⟩) ?_; simp only [kP, kA, kS, kZ]
   refine detS 3 rfl ?_; refine detS 4 rfl ?_
   refine detT 5 rfl (fun W hW => St.run_load hW 1 3 _ rfl Try.isAgg3 rfl rfl rfl) ?_
   refine detT (v := .bool false) 6 rfl (fun W hW => by (go_simp; done)) ?_
   refine detS 7 rfl ?_; refine detS 8 rfl ?_
   refine detK 9 rfl ?_; refine detK 10 rfl ?_; refine detK 11 rfl ?_; refine detK 12 rfl ?_; refine detK 13 rfl ?_; refine detK 14 rfl ?_; refine detK 15 rfl ?_; refine detK 16 rfl ?_; refine detK 17 rfl ?_; refine detK 18 rfl ?_; refine detK 19 rfl ?_; refine detK 20 rfl ?_; refine detK 21 rfl ?_
   refine detS 22 rfl ?_; refine detS 23 rfl ?_
   refine det_done (by decide +kernel) ?_
   clear st
   intro W st
   go_wp2_with fail
   go_meet
   exact ⟨by rw [h3.out], st⟩
  ·have F4 := qh (fun (W : World) => ref_four (m : Int) W)
   rw [four_of hm] at F4
   have d3 : decide ((0 : Int) ≤ (j : Int)) = true := by simp
   have d5 : decide ((m : Int) < 0) = false := by simp
   have d6 : decide ((4 : Int) ≤ m) = false := by simp; omega
   rw [et, en] at st
   replace et := qh et
   replace en := qh en
   replace hth := qh hth
   refine det_region (by kernel_rfl) 24 rfl (fun W => St [g] w W [(g, 38, winC (preC k css n) [.slice xa x.label.length xc, .slice oa x.own.length oc, .string x.text, .slice ba x.objects.length bc, .slice ma x.mails.length mc] (postC k css n)), (g5, 40, [.int .i64 c.kind, .int .i64 c.h, .int .i64 m, .int .i64 j, .int .i64 c.c, .slice la c.label.length lc, .slice ga c.grants.length gc, .string c.text]), (g6, 52, [.int .i64 0, .int .i64 0, .string ⟨#[]⟩])]) (st.drew) (by decide +kernel) ?_
   refine detS 0 rfl ?_
   refine detT 1 rfl (fun W hW => St.run_load hW 1 3 _ rfl Try.isAgg3 rfl rfl rfl) ?_
   refine det_call (fn := 24) 2 rfl (by decide +kernel) (by first | exact wanted_none rfl | exact wanted_some rfl rfl) (fun W => by first | (go_simp; done) | (go_simp; rfl)) (fun W hW => (F4.out W).mono fun e w' h => ⟨h.1, h.2 ▸ hW⟩) ?_; simp only [kP, kA, kS, kZ]
   refine detS 3 rfl ?_; refine detS 4 rfl ?_
   refine detT 5 rfl (fun W hW => St.run_load hW 1 3 _ rfl Try.isAgg3 rfl rfl rfl) ?_
   refine detT (v := .bool true) 6 rfl (fun W hW => by (go_simp; done)) ?_
   refine detS 7 rfl ?_; refine detS 8 rfl ?_; refine detS 9 rfl ?_
   refine detT 10 rfl (fun W hW => St.run_load hW 1 3 _ rfl Try.isAgg3 rfl rfl rfl) ?_
   refine detS 11 rfl ?_; refine detS 12 rfl ?_
   refine detT 13 rfl (fun W hW => St.run_load hW 1 3 _ rfl Try.isAgg3 rfl rfl rfl) ?_
   refine detT (v := .int .i64 m) 14 rfl (fun W hW => by (exact run_and3 _ _ _ rfl hm rfl rfl)) ?_
   refine detS 15 rfl ?_; refine detS 16 rfl ?_
   refine detT (v := .pointer (some ⟨g, 1 + m * 5, none⟩)) 17 rfl (fun W hW => by (first | (go_simp; done) | (go_simp; omega))) ?_
   refine detS 18 rfl ?_
   refine detT (v := .slice yb y.objects.length yc) 19 rfl (fun W hW => St.run_load hW 0 32 _ rfl Try.isAgg32 rfl rfl hcell) ?_
   refine detS 20 rfl ?_
   refine detT (v := .bool (decide ((j : Int) < y.objects.length))) 21 rfl (fun W hW => by (go_simp; done)) ?_
   refine detS 22 rfl ?_; refine detS 23 rfl ?_
   refine det_done (by decide +kernel) ?_
   clear st
   intro W st
   go_wp2_with fail
   go_meet
   exact ⟨by rw [hth.out]; simp, by rw [et.out, en.out]; exact st⟩
 case rest =>
 obtain ⟨rfl, st⟩ := hcut
 have hg5w : w.heap.size ≤ g5 := hg5
 have hg6w : w.heap.size ≤ g6 := hg6
 obtain ⟨k1, k2, k3, k4, k5, k7, k9, k10⟩ := hkd
 have HE := qh (show callK k (n : Int) c = (k, errR 3) by unfold callK; simp [k1, k2, k3, k4, k5, k7, k9, k10])
 have e1 : (c.kind == 1) = false := by simpa using k1
 have e2 : (c.kind == 2) = false := by simpa using k2
 have e3 : (c.kind == 3) = false := by simpa using k3
 have e4 : (c.kind == 4) = false := by simpa using k4
 have e5 : (c.kind == 5) = false := by simpa using k5
 have e7 : (c.kind == 7) = false := by simpa using k7
 have e9 : (c.kind == 9) = false := by simpa using k9
 have e10 : (c.kind == 10) = false := by simpa using k10
 clear k1 k2 k3 k4 k5 k7 k9 k10
 go_wp2_with (first | go_skip | (go_at_call 24; go_must (refine (H4.out _).mono ?_; rintro e v1 ⟨rfl, rfl⟩)) | (with_reducible refine mB 40 st ?_; clear st; intro g5 w5 hg5 st) | (with_reducible refine mA st Try.zeroValue52 ?_; clear st; intro g6 w6 hg6 st) | (with_reducible refine mX st Try.isAgg9 ?_) | (with_reducible refine mX st Try.isAgg3 ?_) | (go_at_call 39; go_must (refine (rcall_no _ _).mono ?_; rintro e vn ⟨rfl, hbn⟩; replace st := st.call hbn; clear hbn)) | (with_reducible refine mS 2 st Try.sizeOf52 ?_; clear st; intro w7 st hw7m hw7z))
 have hc := fun j => st.cell (i := 2) rfl j
 refine bodyPost_ret (v := RepV (errR 3)) ?hr rfl ?_
 case hr => simp [results, Try.results14, go_sem, hc, RepV, errR]; try rfl
 rw [HE.out]
 exact ⟨rfl, RkTo.none h (HB.out _ _ st (by simp))⟩
end
section
variable (ok okc : Nat → Prop) (w : World) (g : Nat) (k : Ker) (css : List (List Value)) (Bs : List (List Nat)) (n : Nat) (c : Req) (la : Option Addr) (lc : Nat) (ga : Option Addr) (gc : Nat)
theorem ref_Call_forget (h : RkAt ok w g k css Bs) (hk : ∀ x ∈ k.threads, x.ok) (hn : n < 4) (hx64 : ¬ 64 < c.text.size) (hkd : c.kind = 9) :
  Calls Try.prog 14 #[.pointer (some ⟨g, 0, none⟩), .int .i64 n, reqV c la lc ga gc] w (RCallPost ok w g Bs (callK k n c)) := by
 obtain ⟨x, xa, xc, oa, oc, ba, bc, ma, mc, ex, ec, eB, hT, hb⟩ := h.open hn
 have hx := hk x (mgE ex)
 have hpre := h.preLen hn
 have hth := Ker.thr_at ex
 have st0 := St.hand hb
 unfold thrC at st0
 have d1 : decide ((n : Int) < 0) = false := by simp
 have d2 : decide ((4 : Int) ≤ n) = false := by simp; omega
 have d64 := text_size hx64
 have hgg : ¬ ok g := h.apart g (by simp)
 have H4 := qh (fun (W : World) => ref_four (n : Int) W)
 rw [four_of hn] at H4
 have HKp := qh (show ∀ (W : World) (bl : Blks), St [g] w W bl → Keeps ok w W from fun W bl s => s.keeps (by simpa using hgg))
 have HB := qh (show ∀ (W : World) (bl : Blks), St [g] w W bl → (g, 38, winC (preC k css n) [.slice xa x.label.length xc, .slice oa x.own.length oc, .string x.text, .slice ba x.objects.length bc, .slice ma x.mails.length mc] (postC k css n)) ∈ bl → Below w.heap.size w W from fun W bl s hm => st0.below2 s (by simpa using hm))
 have hxf := goodL_fitI hx.good; have hxl := goodL_len hx.good; have hxo := hx.ownL; have hxm := hx.mailN; have hxb := hx.objs; have hxt := hx.text
 have st := st0
 clear st0
 unfold reqV
 go_enter Try.func14, Try.ntmps14
 go_upto_region 7 with (first | go_skip | (go_at_call 24; go_must (refine (H4.out _).mono ?_; rintro e v1 ⟨rfl, rfl⟩)) | (with_reducible refine mB 40 st ?_; clear st; intro g5 w5 hg5 st) | (with_reducible refine mA st Try.zeroValue52 ?_; clear st; intro g6 w6 hg6 st) | (with_reducible refine mX st Try.isAgg9 ?_))
 try simp only [kP, kA, kS, kZ]
 go_cut [9] from 37 to 59 (fun s9 wx => s9 = .bool (k.there c.t c.n) ∧ St [g] w wx [(g, 38, winC (preC k css n) [.slice xa x.label.length xc, .slice oa x.own.length oc, .string x.text, .slice ba x.objects.length bc, .slice ma x.mails.length mc] (postC k css n)), (g5, 40, [.int .i64 c.kind, .int .i64 c.h, .int .i64 c.t, .int .i64 c.n, .int .i64 c.c, .slice la c.label.length lc, .slice ga c.grants.length gc, .string c.text]), (g6, 52, [.int .i64 0, .int .i64 0, .string ⟨#[]⟩])])
 case first =>
  have HTh := qh (h.thereCases hn ec c.t c.n)
  unfold thrC at HTh
  rcases HTh.out with ⟨h1, h2⟩ | ⟨h1, h2, h3⟩ | ⟨m, j, y, yb, yc, hm, et, en, hth, hcell⟩
  ·have F4 := qh (fun (W : World) => ref_four c.t W)
   rw [h1] at F4
   replace h2 := qh h2
   clear h1
   refine det_region (by kernel_rfl) 24 rfl (fun W => St [g] w W [(g, 38, winC (preC k css n) [.slice xa x.label.length xc, .slice oa x.own.length oc, .string x.text, .slice ba x.objects.length bc, .slice ma x.mails.length mc] (postC k css n)), (g5, 40, [.int .i64 c.kind, .int .i64 c.h, .int .i64 c.t, .int .i64 c.n, .int .i64 c.c, .slice la c.label.length lc, .slice ga c.grants.length gc, .string c.text]), (g6, 52, [.int .i64 0, .int .i64 0, .string ⟨#[]⟩])]) (st.drew) (by decide +kernel) ?_
   refine detS 0 rfl ?_
   refine detT 1 rfl (fun W hW => St.run_load hW 1 3 _ rfl Try.isAgg3 rfl rfl rfl) ?_
   refine det_call (fn := 24) 2 rfl (by decide +kernel) (by first | exact wanted_none rfl | exact wanted_some rfl rfl) (fun W => by first | (go_simp; done) | (go_simp; rfl)) (fun W hW => (F4.out W).mono fun e w' h => ⟨h.1, h.2 ▸ hW⟩) ?_; simp only [kP, kA, kS, kZ]
   refine detS 3 rfl ?_
   refine detK 4 rfl ?_; refine detK 5 rfl ?_; refine detK 6 rfl ?_
   refine detS 7 rfl ?_; refine detS 8 rfl ?_
   refine detK 9 rfl ?_; refine detK 10 rfl ?_; refine detK 11 rfl ?_; refine detK 12 rfl ?_; refine detK 13 rfl ?_; refine detK 14 rfl ?_; refine detK 15 rfl ?_; refine detK 16 rfl ?_; refine detK 17 rfl ?_; refine detK 18 rfl ?_; refine detK 19 rfl ?_; refine detK 20 rfl ?_; refine detK 21 rfl ?_
   refine detS 22 rfl ?_; refine detS 23 rfl ?_
   refine det_done (by decide +kernel) ?_
   clear st
   intro W st
   go_wp2_with fail
   go_meet
   exact ⟨by rw [h2.out], st⟩
  ·have F4 := qh (fun (W : World) => ref_four c.t W)
   rw [h1] at F4
   replace h3 := qh h3
   have d3 : decide ((0 : Int) ≤ c.n) = false := by simpa using h2
   clear h1 h2
   refine det_region (by kernel_rfl) 24 rfl (fun W => St [g] w W [(g, 38, winC (preC k css n) [.slice xa x.label.length xc, .slice oa x.own.length oc, .string x.text, .slice ba x.objects.length bc, .slice ma x.mails.length mc] (postC k css n)), (g5, 40, [.int .i64 c.kind, .int .i64 c.h, .int .i64 c.t, .int .i64 c.n, .int .i64 c.c, .slice la c.label.length lc, .slice ga c.grants.length gc, .string c.text]), (g6, 52, [.int .i64 0, .int .i64 0, .string ⟨#[]⟩])]) (st.drew) (by decide +kernel) ?_
   refine detS 0 rfl ?_
   refine detT 1 rfl (fun W hW => St.run_load hW 1 3 _ rfl Try.isAgg3 rfl rfl rfl) ?_
   refine det_call (fn := 24) 2 rfl (by decide +kernel) (by first | exact wanted_none rfl | exact wanted_some rfl rfl) (fun W => by first | (go_simp; done) | (go_simp; rfl)) (fun W hW => (F4.out W).mono fun e w' h => ⟨h.1, h.2 ▸ hW⟩) ?_; simp only [kP, kA, kS, kZ]
   refine detS 3 rfl ?_; refine detS 4 rfl ?_
   refine detT 5 rfl (fun W hW => St.run_load hW 1 3 _ rfl Try.isAgg3 rfl rfl rfl) ?_
   refine detT (v := .bool false) 6 rfl (fun W hW => by (go_simp; done)) ?_
   refine detS 7 rfl ?_; refine detS 8 rfl ?_
   refine detK 9 rfl ?_; refine detK 10 rfl ?_; refine detK 11 rfl ?_; refine detK 12 rfl ?_; refine detK 13 rfl ?_; refine detK 14 rfl ?_; refine detK 15 rfl ?_; refine detK 16 rfl ?_; refine detK 17 rfl ?_; refine detK 18 rfl ?_; refine detK 19 rfl ?_; refine detK 20 rfl ?_; refine detK 21 rfl ?_
   refine detS 22 rfl ?_; refine detS 23 rfl ?_
   refine det_done (by decide +kernel) ?_
   clear st
   intro W st
   go_wp2_with fail
   go_meet
   exact ⟨by rw [h3.out], st⟩
  ·have F4 := qh (fun (W : World) => ref_four (m : Int) W)
   rw [four_of hm] at F4
   have d3 : decide ((0 : Int) ≤ (j : Int)) = true := by simp
   have d5 : decide ((m : Int) < 0) = false := by simp
   have d6 : decide ((4 : Int) ≤ m) = false := by simp; omega
   rw [et, en] at st
   replace et := qh et
   replace en := qh en
   replace hth := qh hth
   refine det_region (by kernel_rfl) 24 rfl (fun W => St [g] w W [(g, 38, winC (preC k css n) [.slice xa x.label.length xc, .slice oa x.own.length oc, .string x.text, .slice ba x.objects.length bc, .slice ma x.mails.length mc] (postC k css n)), (g5, 40, [.int .i64 c.kind, .int .i64 c.h, .int .i64 m, .int .i64 j, .int .i64 c.c, .slice la c.label.length lc, .slice ga c.grants.length gc, .string c.text]), (g6, 52, [.int .i64 0, .int .i64 0, .string ⟨#[]⟩])]) (st.drew) (by decide +kernel) ?_
   refine detS 0 rfl ?_
   refine detT 1 rfl (fun W hW => St.run_load hW 1 3 _ rfl Try.isAgg3 rfl rfl rfl) ?_
   refine det_call (fn := 24) 2 rfl (by decide +kernel) (by first | exact wanted_none rfl | exact wanted_some rfl rfl) (fun W => by first | (go_simp; done) | (go_simp; rfl)) (fun W hW => (F4.out W).mono fun e w' h => ⟨h.1, h.2 ▸ hW⟩) ?_; simp only [kP, kA, kS, kZ]
   refine detS 3 rfl ?_; refine detS 4 rfl ?_
   refine detT 5 rfl (fun W hW => St.run_load hW 1 3 _ rfl Try.isAgg3 rfl rfl rfl) ?_
   refine detT (v := .bool true) 6 rfl (fun W hW => by (go_simp; done)) ?_
   refine detS 7 rfl ?_; refine detS 8 rfl ?_; refine detS 9 rfl ?_
   refine detT 10 rfl (fun W hW => St.run_load hW 1 3 _ rfl Try.isAgg3 rfl rfl rfl) ?_
   refine detS 11 rfl ?_; refine detS 12 rfl ?_
   refine detT 13 rfl (fun W hW => St.run_load hW 1 3 _ rfl Try.isAgg3 rfl rfl rfl) ?_
   refine detT (v := .int .i64 m) 14 rfl (fun W hW => by (exact run_and3 _ _ _ rfl hm rfl rfl)) ?_
   refine detS 15 rfl ?_; refine detS 16 rfl ?_
   refine detT (v := .pointer (some ⟨g, 1 + m * 5, none⟩)) 17 rfl (fun W hW => by (first | (go_simp; done) | (go_simp; omega))) ?_
   refine detS 18 rfl ?_
   refine detT (v := .slice yb y.objects.length yc) 19 rfl (fun W hW => St.run_load hW 0 32 _ rfl Try.isAgg32 rfl rfl hcell) ?_
   refine detS 20 rfl ?_
   refine detT (v := .bool (decide ((j : Int) < y.objects.length))) 21 rfl (fun W hW => by (go_simp; done)) ?_
   refine detS 22 rfl ?_; refine detS 23 rfl ?_
   refine det_done (by decide +kernel) ?_
   clear st
   intro W st
   go_wp2_with fail
   go_meet
   exact ⟨by rw [hth.out]; simp, by rw [et.out, en.out]; exact st⟩
 case rest =>
 obtain ⟨rfl, st⟩ := hcut
 have hg5w : w.heap.size ≤ g5 := hg5
 have hg6w : w.heap.size ≤ g6 := hg6
 have HE := qh (show callK k (n : Int) c = (k.put n { x with text := c.text }, errR 0) by unfold callK; simp [hkd, hth])
 rw [hkd] at st
 clear hkd
 go_wp2_with (first | go_skip | (with_reducible refine at_store 9 ?_; refine mem_storeW st 9 _ _ rfl (wanted_none rfl) _ Try.sizeOf9 2 ?_; refine ⟨0, _, _, _, _, _, _, _, hpre, rfl, rfl, rfl, rfl, rfl, rfl, ?_⟩; clear st; intro w8 st hw8m hw8z; simp [Act.eval, Act.put, Value.cells, putL] at st) | (go_at_call 24; go_must (refine (H4.out _).mono ?_; rintro e v1 ⟨rfl, rfl⟩)) | (with_reducible refine mB 40 st ?_; clear st; intro g5 w5 hg5 st) | (with_reducible refine mA st Try.zeroValue52 ?_; clear st; intro g6 w6 hg6 st) | (with_reducible refine mX st Try.isAgg9 ?_) | (with_reducible refine mX st Try.isAgg3 ?_) | (go_at_call 39; go_must (refine (rcall_no _ _).mono ?_; rintro e vn ⟨rfl, hbn⟩; replace st := st.call hbn; clear hbn)) | (with_reducible refine mS 2 st Try.sizeOf52 ?_; clear st; intro w7 st hw7m hw7z))
 have hc := fun j => st.cell (i := 2) rfl j
 refine bodyPost_ret (v := RepV (errR 0)) ?hr rfl ?_
 case hr => simp [results, Try.results14, go_sem, hc, RepV, errR]; try rfl
 rw [HE.out]
 exact ⟨rfl, h.closeSame (made' := k.made) (x' := { x with text := c.text }) hn ec eB hT (st.sub (by simp [thrC]) (by simp)) rfl rfl (h.fine eB ((hT.label.keep (HKp.out _ _ st)).okay fun _ r => .inl r)) (h.fine eB ((hT.own.keep (HKp.out _ _ st)).okay fun _ r => .inl r))⟩
end
end Go.Proofs.Ytealbofmlieicaa
