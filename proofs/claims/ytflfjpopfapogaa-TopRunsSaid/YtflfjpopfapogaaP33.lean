/- Walks and plain laws that the claim rests on, part 33. -/
import Derived.Test.YtflfjpopfapogaaP32
import Derived.Test.YtflfjpopfapogaaP14
import Derived.Test.YtflfjpopfapogaaP15
import Derived.Test.YtflfjpopfapogaaP19
set_option linter.unusedSimpArgs false
set_option linter.unusedVariables false
/- The walks through the kernel's mail and Deliver. -/
namespace Go.Proofs.Ytflfjpopfapogaa
open Go.RowKit
set_option maxRecDepth 100000 in
set_option maxHeartbeats 2000000 in
theorem kernel_mail (ok : Nat → Prop) (w : World) (m : Mail) (la : Option Addr) (lc : Nat) (ga : Option Addr) (gc : Nat) (hl : m.label.length * 16 ≤ 140737488355328) (hg : m.grants.length * 8 ≤ 140737488355328) (hR : MailR ok w m la lc ga gc) :
  Calls Try.prog 29 #[mailV m la lc ga gc] w fun e w' => ∃ a1 k1 a2 k2, e = .returned (mailV m a1 k1 a2 k2) ∧ Below w.heap.size w w' ∧ MailR (fun b => w.heap.size ≤ b) w' m a1 k1 a2 k2 := by
 unfold mailV
 have HL := Lib.hid (fun (W : World) (h : Below w.heap.size w W) => kernel_levels ok W la lc m.label hl (hR.label.below h))
 have HN := Lib.hid (fun (W : World) (h : Below w.heap.size w W) => kernel_numbers ok W ga gc m.grants hg (hR.grants.below h))
 have st := St.start w
 go_enter Try.func29, Try.ntmps29
 go_wp2_with (first | go_skip | (with_reducible refine at_box 45 ?_; refine mem_box st (wanted_none rfl) 45 _ rfl _ rfl _ rfl ?_; clear st; intro g1 w1 hg1 st hg1b; clear hg1b; simp [Act.eval, Act.put, Value.cells, putL] at st) | (with_reducible refine at_alloc 45 ?_; refine mem_alloc st (wanted_none rfl) 45 rfl _ Try.zeroValue45 _ rfl ?_; clear st; intro g2 w2 hg2 st hg2b; clear hg2b; simp [Act.eval, Act.put, Value.cells, putL] at st))
 have st := st.drew
 have hI := St.hand (st.blk _ (List.mem_of_getElem? (i := 0) rfl))
 refine lex_tail (by kernel_rfl) 7 3 [7, 8, 9] rfl (by decide +kernel) (fun W => St [g1] W W [(g1, 45, [.int .i64 m.host, .int .i64 m.thread, .slice la m.label.length lc, .slice ga m.grants.length gc, .string m.text])]) ?_
 refine lexS 0 rfl hI ?_; simp only [kP, kA, kS, kZ]
 refine lexT 1 rfl hI (fun W hW => St.run_load hW 0 24 _ rfl Try.isAgg24 rfl rfl rfl) ?_; simp only [kP, kA, kS, kZ]
 refine lexS 3 rfl hI ?_; simp only [kP, kA, kS, kZ]
 refine lexT 4 rfl hI (fun W hW => St.run_load hW 0 25 _ rfl Try.isAgg25 rfl rfl rfl) ?_; simp only [kP, kA, kS, kZ]
 clear hI
 refine lexO 2 rfl fun K hK => ?_
 refine wp_callee (f := 27) (by first | (go_simp; done) | (go_simp; rfl)) ?_
 refine (HL.out _ st.below).mono ?_
 rintro e v1 ⟨a1, k1, rfl, hb1, hO1⟩
 have hz1 := st.size
 refine ⟨_, rfl, ?_⟩
 replace st := st.call hb1
 clear hb1
 have hI := St.hand (st.blk _ (List.mem_of_getElem? (i := 0) rfl))
 refine hK _ _ (hI) ?_; clear hK; simp only [kP, kA, kS, kZ]
 refine lexS 6 rfl hI ?_; simp only [kP, kA, kS, kZ]
 clear hI
 refine lexO 5 rfl fun K hK => ?_
 refine wp_callee (f := 28) (by first | (go_simp; done) | (go_simp; rfl)) ?_
 refine (HN.out _ st.below).mono ?_
 rintro e v2 ⟨a2, k2, rfl, hb2, hO2⟩
 have hz2 := st.size
 refine ⟨_, rfl, ?_⟩
 replace st := st.call hb2
 replace hO1 := hO1.below hb2
 clear hb2
 refine hK _ _ (St.hand (st.blk _ (List.mem_of_getElem? (i := 0) rfl))) ?_; clear hK; simp only [kP, kA, kS, kZ]
 refine lex_done (by decide +kernel) ?_
 have h1b := st.blk _ (List.mem_of_getElem? (i := 0) rfl)
 refine tail_next 7 rfl (by first | exact wanted_none rfl | exact wanted_some rfl rfl) (by decide +kernel) fun K hK => ?_
 refine wp_store' st 24 _ _ rfl _ Try.sizeOf24 ⟨0, _, _, _, _, _, rfl, rfl, rfl, rfl, rfl, rfl, ?_⟩; clear st; intro w3 st hw3m hw3z; simp [Act.eval, Act.put, Value.cells, putL] at st
 refine hK _ _ ?_; clear hK
 replace hO1 := hO1.stored h1b (by simp) hw3m
 replace hO2 := hO2.stored h1b (by simp) hw3m
 clear h1b hw3m hw3z
 refine tail_take 8 rfl (by first | exact wanted_none rfl | exact wanted_some rfl rfl) (by decide +kernel) (by first | (go_simp; done) | (go_simp; rfl)) ?_; simp only [kP, kA, kS, kZ]
 have h1b := st.blk _ (List.mem_of_getElem? (i := 0) rfl)
 refine tail_last 9 rfl (by first | exact wanted_none rfl | exact wanted_some rfl rfl) (by decide +kernel) (by decide +kernel) fun K hK => ?_
 refine wp_store' st 25 _ _ rfl _ Try.sizeOf25 ⟨0, _, _, _, _, _, rfl, rfl, rfl, rfl, rfl, rfl, ?_⟩; clear st; intro w4 st hw4m hw4z; simp [Act.eval, Act.put, Value.cells, putL] at st
 refine hK _ _ ?_; clear hK
 replace hO1 := hO1.stored h1b (by simp) hw4m
 replace hO2 := hO2.stored h1b (by simp) hw4m
 clear h1b hw4m hw4z
 have h2b := st.blk _ (List.mem_of_getElem? (i := 1) rfl)
 have HO := Lib.hid (show ∀ W, (∀ b, b ≠ g2 → W.heap[b]? = w4.heap[b]?) → MailR (fun b => w.heap.size ≤ b) W m a1 k1 a2 k2 from fun W h => ⟨(hO1.stored h2b (by simp) h).slr fun b hb => by omega, (hO2.stored h2b (by simp) h).slr fun b hb => by omega⟩)
 clear hO1 hO2 h2b
 go_wp2_with (first | go_skip | (with_reducible refine at_load 45 ?_; refine memXA st 45 _ rfl Try.isAgg45 _ Try.sizeOf45 rfl ?_) | (with_reducible refine at_store 45 ?_; refine memS st 45 _ _ rfl _ Try.sizeOf45 ⟨1, _, _, _, _, _, rfl, rfl, rfl, rfl, rfl, rfl, ?_⟩; clear st; intro w5 st hw5m hw5z; simp [Act.eval, Act.put, Value.cells, putL] at st))
 have hc := fun j => st.cell (i := 1) rfl j
 refine bodyPost_ret (v := mailV m a1 k1 a2 k2) ?hr rfl ⟨_, _, _, _, rfl, st.below, HO.out _ hw5m⟩
 case hr => simp [results, Try.results29, go_sem, hc, mailV, putL]; try rfl
open Go.RowKit
theorem St.wider {M M' : List Nat} {w0 w : World} {own : Blks} (h : St M w0 w own) (hM : ∀ b ∈ M, b ∈ M') : St M' w0 w own :=
 ⟨h.os, h.tape, h.output, h.size, fun b hb hm => h.frame b hb fun hm2 => hm (hM b hm2), h.blk, fun x hx => (h.mine x hx).imp (hM _) id, h.ne⟩
theorem four_nat {t : Int} (h : four t = true) : ∃ n : Nat, t = n ∧ n < 4 := by
 obtain ⟨h1, h2⟩ := (four_iff t).1 h
 obtain ⟨n, rfl⟩ := Int.eq_ofNat_of_zero_le h1
 exact ⟨n, rfl, by omega⟩
theorem four_no {t : Int} (h : four t = false) : t < 0 ∨ (0 ≤ t ∧ 4 ≤ t) := by
 have := fun h1 => (four_iff t).2 h1
 by_cases h0 : t < 0
 ·exact .inl h0
 ·refine .inr ⟨by omega, ?_⟩
  by_cases h4 : 4 ≤ t
  ·exact h4
  ·rw [this ⟨by omega, by omega⟩] at h; cases h
theorem info_Mail : (Try.prog.info? 45).map (fun i => (i.zero, i.size, i.bytes)) = some (some (.agg #[.int .i64 0, .int .i64 0, .slice none 0 0, .slice none 0 0, .string .empty]), 5, 80) := by kernel_rfl
theorem Ker.thr_at {k : Ker} {n : Nat} {x : Thr} (h : k.threads[n]? = some x) : k.thr (n : Int) = x := by
 unfold Ker.thr
 rw [Int.toNat_natCast, List.getD_eq_getElem?_getD, h]
 rfl
set_option maxRecDepth 100000 in
set_option maxHeartbeats 4000000 in
theorem kernel_Deliver (ok okm : Nat → Prop) (w : World) (g : Nat) (k : Ker) (css : List (List Value)) (Bs : List (List Nat)) (h : KerAt ok w g k css Bs) (hk : ∀ x ∈ k.threads, x.ok) (t : Int) (m : Mail) (la : Option Addr) (lc : Nat) (ga : Option Addr) (gc : Nat)
  (hl : m.label.length * 16 ≤ 140737488351232) (hg : m.grants.length * 8 ≤ 140737488355328) (hR : MailR okm w m la lc ga gc) :
  Calls Try.prog 45 #[.pointer (some ⟨g, 0, none⟩), .int .i64 t, mailV m la lc ga gc] w fun e w' => (∃ u, e = .returned u) ∧ KerTo ok w g Bs w' (deliverK k t m) := by
 have HG := Lib.hid (fun (W : World) (hW : Below w.heap.size w W) => wire_GoodMail okm W m la lc ga gc (by omega) hg (hR.below hW))
 by_cases h4 : four t = true
 case neg =>
  have h4' : four t = false := by simpa using h4
  have HE := Lib.hid (show deliverK k t m = k by unfold deliverK; rw [if_pos h4'])
  have st := St.start w
  unfold mailV at *
  rcases four_no h4' with d | ⟨d0, d⟩
  all_goals
   clear h4 h4'
   go_enter Try.func45, Try.ntmps45
   go_wp2_with (first | go_skip | (with_reducible refine at_box 45 ?_; refine mem_box st (wanted_none rfl) 45 _ rfl _ rfl _ rfl ?_; clear st; intro g1 w1 hg1 st hg1b; clear hg1b; simp [Act.eval, Act.put, Value.cells, putL] at st))
   refine bodyPost_ret (v := .tuple #[]) (by simp [results, Try.results45, go_sem]) rfl ⟨⟨_, rfl⟩, ?_⟩
   rw [HE.out]
   exact KerTo.none h st.below
 obtain ⟨n, rfl, hn⟩ := four_nat h4
 obtain ⟨x, xa, xc, oa, oc, ba, bc, ma, mc, ex, ec, eB, hT, hb⟩ := h.open hn
 have hx := hk x (List.mem_of_getElem? ex)
 have hpre := h.preLen hn
 have HK := Lib.hid (show deliverK k (n : Int) m = if goodMailC m ≠ 0 then k else if flowsL m.label x.label x.own = true ∧ x.mails.length < 6 then k.put n { x with mails := x.mails ++ [m] } else k by
  unfold deliverK; rw [if_neg (by rw [h4]; simp), Ker.thr_at ex])
 have st0 := St.hand hb
 unfold thrC at st0
 have d1 : decide ((n : Int) < 0) = false := by simp
 have d2 : decide ((4 : Int) ≤ n) = false := by simp; omega
 clear h4
 by_cases hgm : goodMailC m = 0
 case neg =>
  have HE := Lib.hid (show deliverK k (n : Int) m = k by rw [HK.out, if_pos hgm])
  generalize goodMailC m = q at HG hgm
  have hq : (q != 0) = true := by simpa using hgm
  clear hgm HK
  have st := St.start w
  unfold mailV at *
  go_enter Try.func45, Try.ntmps45
  go_wp2_with (first | go_skip | (with_reducible refine at_box 45 ?_; refine mem_box st (wanted_none rfl) 45 _ rfl _ rfl _ rfl ?_; clear st; intro g1 w1 hg1 st hg1b; clear hg1b; simp [Act.eval, Act.put, Value.cells, putL] at st) | (with_reducible refine at_load 45 ?_; refine memXA st 45 _ rfl Try.isAgg45 _ Try.sizeOf45 rfl ?_) | (go_at_call 49; go_must (refine (HG.out _ st.below).mono ?_; rintro e v1 ⟨rfl, hb1⟩; replace st := st.call hb1; clear hb1)))
  refine bodyPost_ret (v := .tuple #[]) (by simp [results, Try.results45, go_sem]) rfl ⟨⟨_, rfl⟩, ?_⟩
  rw [HE.out]
  exact KerTo.none h st.below
 obtain ⟨_, _, q5, q6, q7⟩ := mail_facts hgm
 have hml := goodL_len q5
 have hmg := (grants_facts q6).1
 clear q5 q6
 rw [hgm] at HG
 have HK1 := Lib.hid (show deliverK k (n : Int) m = if flowsL m.label x.label x.own = true ∧ x.mails.length < 6 then k.put n { x with mails := x.mails ++ [m] } else k by rw [HK.out, if_neg (by simpa using hgm)])
 clear hgm HK
 have hgg : ¬ ok g := h.apart g (by simp)
 have HKp := Lib.hid (show ∀ (W : World) (bl : Blks), St [g] w W bl → Keeps ok w W from fun W bl s => s.keeps (by simpa using hgg))
 have hxl := goodL_len hx.good; have hxo := hx.ownL; have hxm := hx.mailN
 have HF := Lib.hid (fun (W : World) (bl : Blks) (hW : St [g] w W bl) (hR2 : MailR okm W m la lc ga gc) => label_Flows (fun _ => True) W la xa oa lc xc oc m.label x.label x.own (by omega) (by omega) (hR2.label.okay fun _ _ => trivial) ((hT.label.keep (HKp.out W _ hW)).okay fun _ _ => trivial) ((hT.own.keep (HKp.out W _ hW)).okay fun _ _ => trivial))
 have HM := Lib.hid (fun (W : World) (hR2 : MailR okm W m la lc ga gc) => kernel_mail okm W m la lc ga gc (by omega) hg hR2)
 generalize flowsL m.label x.label x.own = fl at HF HK1
 have HB := Lib.hid (show ∀ (W : World) (bl : Blks), St [g] w W bl → (g, 84, winC (preC k css n) [.slice xa x.label.length xc, .slice oa x.own.length oc, .string x.text, .slice ba x.objects.length bc, .slice ma x.mails.length mc] (postC k css n)) ∈ bl → Below w.heap.size w W from fun W bl s hm => st0.below2 s (by simpa using hm))
 have st := st0
 clear st0
 unfold mailV at *
 have h6 : fl = false ∨ (fl = true ∧ ¬ x.mails.length < 6) ∨ (fl = true ∧ x.mails.length < 6) := by cases fl <;> simp; omega
 rcases h6 with rfl | ⟨rfl, h6⟩ | ⟨rfl, h6⟩
 ·have HE := Lib.hid (show deliverK k (n : Int) m = k by rw [HK1.out, if_neg (by simp)])
  clear HK1
  go_enter Try.func45, Try.ntmps45
  go_wp2_with (first | go_skip | (with_reducible refine at_box 45 ?_; refine mem_box st (wanted_none rfl) 45 _ rfl _ rfl _ rfl ?_; clear st; intro g1 w1 hg1 st hg1b; clear hg1b; simp [Act.eval, Act.put, Value.cells, putL] at st) | (with_reducible refine at_load 45 ?_; refine memXA st 45 _ rfl Try.isAgg45 _ Try.sizeOf45 rfl ?_) | (go_at_call 49; go_must (refine (HG.out _ (HB.out _ _ st (by simp))).mono ?_; rintro e v1 ⟨rfl, hb1⟩; replace st := st.call hb1; clear hb1)))
  refine det_region (by kernel_rfl) 19 rfl (fun W => St [g] w W [(g, 84, winC (preC k css n) [.slice xa x.label.length xc, .slice oa x.own.length oc, .string x.text, .slice ba x.objects.length bc, .slice ma x.mails.length mc] (postC k css n)), (g1, 45, [.int .i64 m.host, .int .i64 m.thread, .slice la m.label.length lc, .slice ga m.grants.length gc, .string m.text])]) (st.drew) (by decide +kernel) ?_
  refine detS 0 rfl ?_; simp only [kP, kA, kS, kZ]
  refine detT 1 rfl (fun W hW => St.run_load hW 1 24 _ rfl Try.isAgg24 rfl rfl rfl) ?_; simp only [kP, kA, kS, kZ]
  refine detS 2 rfl ?_; simp only [kP, kA, kS, kZ]; refine detS 3 rfl ?_; simp only [kP, kA, kS, kZ]; refine detS 4 rfl ?_; simp only [kP, kA, kS, kZ]
  refine detT 5 rfl (fun W hW => St.run_loadW hW 0 24 _ rfl Try.isAgg24 0 hpre rfl rfl rfl) ?_; simp only [kP, kA, kS, kZ]
  refine detS 6 rfl ?_; simp only [kP, kA, kS, kZ]; refine detS 7 rfl ?_; simp only [kP, kA, kS, kZ]; refine detS 8 rfl ?_; simp only [kP, kA, kS, kZ]
  refine detT 9 rfl (fun W hW => St.run_loadW hW 0 25 _ rfl Try.isAgg25 1 hpre rfl rfl rfl) ?_; simp only [kP, kA, kS, kZ]
  refine det_call (fn := 10) 10 rfl (by decide +kernel) (by first | exact wanted_none rfl | exact wanted_some rfl rfl) (fun W => by first | (go_simp; done) | (go_simp; rfl)) (fun W hW => (HF.out W _ hW (hR.below (HB.out W _ hW (by simp)))).mono fun e w' h => ⟨h.1, hW.call h.2⟩) ?_; simp only [kP, kA, kS, kZ]
  refine detS 11 rfl ?_; simp only [kP, kA, kS, kZ]
  refine detK 12 rfl ?_; simp only [kP, kA, kS, kZ]; refine detK 13 rfl ?_; simp only [kP, kA, kS, kZ]; refine detK 14 rfl ?_; simp only [kP, kA, kS, kZ]; refine detK 15 rfl ?_; simp only [kP, kA, kS, kZ]; refine detK 16 rfl ?_; simp only [kP, kA, kS, kZ]; refine detK 17 rfl ?_; simp only [kP, kA, kS, kZ]
  refine detS 18 rfl ?_; simp only [kP, kA, kS, kZ]
  refine det_done (by decide +kernel) ?_
  clear st
  intro W st
  go_wp2
  go_end0
  rw [HE.out]
  exact ⟨⟨_, rfl⟩, KerTo.none h (HB.out _ _ st (by simp))⟩
 ·have HE := Lib.hid (show deliverK k (n : Int) m = k by rw [HK1.out, if_neg (fun e => h6 e.2)])
  have d6 : decide ((x.mails.length : Int) < 6) = false := by simp; omega
  clear HK1
  go_enter Try.func45, Try.ntmps45
  go_wp2_with (first | go_skip | (with_reducible refine at_box 45 ?_; refine mem_box st (wanted_none rfl) 45 _ rfl _ rfl _ rfl ?_; clear st; intro g1 w1 hg1 st hg1b; clear hg1b; simp [Act.eval, Act.put, Value.cells, putL] at st) | (with_reducible refine at_load 45 ?_; refine memXA st 45 _ rfl Try.isAgg45 _ Try.sizeOf45 rfl ?_) | (go_at_call 49; go_must (refine (HG.out _ (HB.out _ _ st (by simp))).mono ?_; rintro e v1 ⟨rfl, hb1⟩; replace st := st.call hb1; clear hb1)))
  refine det_region (by kernel_rfl) 19 rfl (fun W => St [g] w W [(g, 84, winC (preC k css n) [.slice xa x.label.length xc, .slice oa x.own.length oc, .string x.text, .slice ba x.objects.length bc, .slice ma x.mails.length mc] (postC k css n)), (g1, 45, [.int .i64 m.host, .int .i64 m.thread, .slice la m.label.length lc, .slice ga m.grants.length gc, .string m.text])]) (st.drew) (by decide +kernel) ?_
  refine detS 0 rfl ?_; simp only [kP, kA, kS, kZ]
  refine detT 1 rfl (fun W hW => St.run_load hW 1 24 _ rfl Try.isAgg24 rfl rfl rfl) ?_; simp only [kP, kA, kS, kZ]
  refine detS 2 rfl ?_; simp only [kP, kA, kS, kZ]; refine detS 3 rfl ?_; simp only [kP, kA, kS, kZ]; refine detS 4 rfl ?_; simp only [kP, kA, kS, kZ]
  refine detT 5 rfl (fun W hW => St.run_loadW hW 0 24 _ rfl Try.isAgg24 0 hpre rfl rfl rfl) ?_; simp only [kP, kA, kS, kZ]
  refine detS 6 rfl ?_; simp only [kP, kA, kS, kZ]; refine detS 7 rfl ?_; simp only [kP, kA, kS, kZ]; refine detS 8 rfl ?_; simp only [kP, kA, kS, kZ]
  refine detT 9 rfl (fun W hW => St.run_loadW hW 0 25 _ rfl Try.isAgg25 1 hpre rfl rfl rfl) ?_; simp only [kP, kA, kS, kZ]
  refine det_call (fn := 10) 10 rfl (by decide +kernel) (by first | exact wanted_none rfl | exact wanted_some rfl rfl) (fun W => by first | (go_simp; done) | (go_simp; rfl)) (fun W hW => (HF.out W _ hW (hR.below (HB.out W _ hW (by simp)))).mono fun e w' h => ⟨h.1, hW.call h.2⟩) ?_; simp only [kP, kA, kS, kZ]
  refine detS 11 rfl ?_; simp only [kP, kA, kS, kZ]; refine detS 12 rfl ?_; simp only [kP, kA, kS, kZ]; refine detS 13 rfl ?_; simp only [kP, kA, kS, kZ]; refine detS 14 rfl ?_; simp only [kP, kA, kS, kZ]
  refine detT 15 rfl (fun W hW => St.run_loadW hW 0 27 _ rfl Try.isAgg27 4 hpre rfl rfl rfl) ?_; simp only [kP, kA, kS, kZ]
  refine detS 16 rfl ?_; simp only [kP, kA, kS, kZ]
  refine detS 17 rfl ?_; simp only [kP, kA, kS, kZ]
  refine detS 18 rfl ?_; simp only [kP, kA, kS, kZ]
  refine det_done (by decide +kernel) ?_
  clear st
  intro W st
  go_wp2
  go_end0
  rw [HE.out]
  exact ⟨⟨_, rfl⟩, KerTo.none h (HB.out _ _ st (by simp))⟩
 ·have HE := Lib.hid (show deliverK k (n : Int) m = k.put n { x with mails := x.mails ++ [m] } by rw [HK1.out, if_pos ⟨rfl, h6⟩])
  have d6 : decide ((x.mails.length : Int) < 6) = true := by simp; omega
  clear HK1
  go_enter Try.func45, Try.ntmps45
  go_wp2_with (first | go_skip | (with_reducible refine at_box 45 ?_; refine mem_box st (wanted_none rfl) 45 _ rfl _ rfl _ rfl ?_; clear st; intro g1 w1 hg1 st hg1b; clear hg1b; simp [Act.eval, Act.put, Value.cells, putL] at st) | (with_reducible refine at_load 45 ?_; refine memXA st 45 _ rfl Try.isAgg45 _ Try.sizeOf45 rfl ?_) | (go_at_call 49; go_must (refine (HG.out _ (HB.out _ _ st (by simp))).mono ?_; rintro e v1 ⟨rfl, hb1⟩; replace st := st.call hb1; clear hb1)))
  refine det_region (by kernel_rfl) 19 rfl (fun W => St [g] w W [(g, 84, winC (preC k css n) [.slice xa x.label.length xc, .slice oa x.own.length oc, .string x.text, .slice ba x.objects.length bc, .slice ma x.mails.length mc] (postC k css n)), (g1, 45, [.int .i64 m.host, .int .i64 m.thread, .slice la m.label.length lc, .slice ga m.grants.length gc, .string m.text])]) (st.drew) (by decide +kernel) ?_
  refine detS 0 rfl ?_; simp only [kP, kA, kS, kZ]
  refine detT 1 rfl (fun W hW => St.run_load hW 1 24 _ rfl Try.isAgg24 rfl rfl rfl) ?_; simp only [kP, kA, kS, kZ]
  refine detS 2 rfl ?_; simp only [kP, kA, kS, kZ]; refine detS 3 rfl ?_; simp only [kP, kA, kS, kZ]; refine detS 4 rfl ?_; simp only [kP, kA, kS, kZ]
  refine detT 5 rfl (fun W hW => St.run_loadW hW 0 24 _ rfl Try.isAgg24 0 hpre rfl rfl rfl) ?_; simp only [kP, kA, kS, kZ]
  refine detS 6 rfl ?_; simp only [kP, kA, kS, kZ]; refine detS 7 rfl ?_; simp only [kP, kA, kS, kZ]; refine detS 8 rfl ?_; simp only [kP, kA, kS, kZ]
  refine detT 9 rfl (fun W hW => St.run_loadW hW 0 25 _ rfl Try.isAgg25 1 hpre rfl rfl rfl) ?_; simp only [kP, kA, kS, kZ]
  refine det_call (fn := 10) 10 rfl (by decide +kernel) (by first | exact wanted_none rfl | exact wanted_some rfl rfl) (fun W => by first | (go_simp; done) | (go_simp; rfl)) (fun W hW => (HF.out W _ hW (hR.below (HB.out W _ hW (by simp)))).mono fun e w' h => ⟨h.1, hW.call h.2⟩) ?_; simp only [kP, kA, kS, kZ]
  refine detS 11 rfl ?_; simp only [kP, kA, kS, kZ]; refine detS 12 rfl ?_; simp only [kP, kA, kS, kZ]; refine detS 13 rfl ?_; simp only [kP, kA, kS, kZ]; refine detS 14 rfl ?_; simp only [kP, kA, kS, kZ]
  refine detT 15 rfl (fun W hW => St.run_loadW hW 0 27 _ rfl Try.isAgg27 4 hpre rfl rfl rfl) ?_; simp only [kP, kA, kS, kZ]
  refine detS 16 rfl ?_; simp only [kP, kA, kS, kZ]
  refine detS 17 rfl ?_; simp only [kP, kA, kS, kZ]
  refine detS 18 rfl ?_; simp only [kP, kA, kS, kZ]
  refine det_done (by decide +kernel) ?_
  clear st
  intro W st
  go_wp2_with fail
  obtain ⟨i0, hi, hz0, hz1, hz2⟩ := info_parts info_Mail
  have hmne : ma.map (·.block) ≠ some g := fun e => h.gOut eB (mem_rows2.2 (.inr e))
  have hMg : ∀ b, ma.map (·.block) = some b → b < w.heap.size ∧ ¬ ok b := fun b e => ⟨hT.mails.lt e, h.apartAt eB (mem_rows2.2 (.inr e))⟩
  have hBg : ∀ b, ba.map (·.block) = some b → b < w.heap.size ∧ ¬ ok b ∧ b ≠ g ∧ ma.map (·.block) ≠ some b := fun b e => ⟨hT.objs.lt e, h.apartAt eB (mem_rows2.2 (.inl e)), fun e2 => h.gOut eB (e2 ▸ mem_rows2.2 (.inl e)), h.rowsNe eB e⟩
  have hgw := h.lt g (by simp)
  have hg1w : w.heap.size ≤ g1 := hg1
  have st := st.drew
  have hI := st.wider (M' := g :: rows2 ba ma) (by simp)
  refine lex_tail (by kernel_rfl) 11 1 [11] rfl (by decide +kernel) (fun W => St (g :: rows2 ba ma) w W [(g, 84, winC (preC k css n) [.slice xa x.label.length xc, .slice oa x.own.length oc, .string x.text, .slice ba x.objects.length bc, .slice ma x.mails.length mc] (postC k css n)), (g1, 45, [.int .i64 m.host, .int .i64 m.thread, .slice la m.label.length lc, .slice ga m.grants.length gc, .string m.text])]) ?_
  refine lexS 0 rfl hI ?_; simp only [kP, kA, kS, kZ]
  refine lexS 1 rfl hI ?_; simp only [kP, kA, kS, kZ]
  refine lexS 2 rfl hI ?_; simp only [kP, kA, kS, kZ]
  refine lexS 3 rfl hI ?_; simp only [kP, kA, kS, kZ]
  refine lexT 4 rfl hI (fun W hW => St.run_loadW hW 0 27 _ rfl Try.isAgg27 4 hpre rfl rfl rfl) ?_; simp only [kP, kA, kS, kZ]
  refine lexT 5 rfl hI (fun W hW => St.run_load_agg hW 1 45 _ rfl Try.isAgg45 _ Try.sizeOf45 rfl rfl rfl rfl) ?_; simp only [kP, kA, kS, kZ]
  clear hI
  refine lexO 6 rfl fun K hK => ?_
  refine wp_callee (f := 29) (by first | (go_simp; done) | (go_simp; rfl)) ?_
  refine (HM.out _ (hR.below (HB.out _ _ st (by simp)))).mono ?_
  rintro e v ⟨a1, k1, a2, k2, rfl, hbm, hM⟩
  have hzv := st.size
  refine ⟨_, rfl, ?_⟩
  replace st := st.call hbm
  clear hbm
  refine hK _ _ (st.wider (by simp)) ?_; clear hK; simp only [kP, kA, kS, kZ]
  refine lexO 7 rfl fun K hK => ?_
  refine wp_build1 st 27 45 _ rfl Try.underlying27 5 Try.sizeOf45 (by decide) (by decide) _ Try.zeroValue45 _ rfl rfl ?_; clear st; intro g3 w3 hg3 hg3e st hg3b hw3z; clear hg3e; simp [Act.eval, Act.put, Value.cells, putL] at st
  have hM3 := hM.below hg3b
  clear hg3b hw3z
  refine hK _ _ ((st.take 2).wider (by simp)) ?_; clear hK; simp only [kP, kA, kS, kZ]
  refine lexO 8 rfl fun K hK => ?_
  have hO : RowAt 45 w3 5 (RMail (fun b => ok b ∨ w.heap.size ≤ b) w3) ma mc x.mails := hT.mails.kept (fun b e => st.frame b (hMg b e).1 (by simp; rintro rfl; exact hmne e)) fun _ _ r => r.move st.size fun b hb' ho => ⟨.inl ho, (HKp.out _ _ st).block b hb' ho⟩
  refine wp_rowApp _ _ 27 rfl i0 _ 80 Try.underlying27 hi hz0 hz1 hz2 rfl (by decide) (y := m) rfl rfl hO rfl (SlR.ofBlk (ok := fun _ => True) (R := RMail (fun b => ok b ∨ w.heap.size ≤ b) w3) (x := m) (st.blk _ (List.mem_of_getElem? (i := 2) rfl)) ⟨a1, k1, a2, k2, rfl, hM3.label.okay fun b hb => .inr (by omega), hM3.grants.okay fun b hb => .inr (by omega)⟩ rfl rfl trivial) (by omega) (by unfold maxLen; omega) ?_
  intro g4 off4 c4 w4 hO4 hgr hat
  have hst3 := st
  replace st := ((st.take 2).grown hgr (by
   intro y hy e
   simp at hy
   rcases hy with rfl | rfl
   ·exact hmne e
   ·have := (hMg _ e).1; simp only at this; omega)).wider (M' := g :: rows2 ba ma) (by
   intro b hb
   simp only [List.mem_append, Option.mem_toList, List.mem_singleton] at hb
   rcases hb with hb | rfl
   ·exact List.mem_cons_of_mem _ (mem_rows2.2 (.inr hb))
   ·simp)
  simp only [List.take_succ_cons, List.take_zero] at st
  have hI := st
  refine hK _ _ (hI) ?_; clear hK; simp only [kP, kA, kS, kZ]
  refine lexS 9 rfl hI ?_; simp only [kP, kA, kS, kZ]
  refine lexS 10 rfl hI ?_; simp only [kP, kA, kS, kZ]
  clear hI
  refine lex_done (by decide +kernel) ?_
  refine tail_last 11 rfl (by first | exact wanted_none rfl | exact wanted_some rfl rfl) (by decide +kernel) (by decide +kernel) fun K hK => ?_
  refine wp_storeW st 27 _ _ rfl _ Try.sizeOf27 4 ?_; refine ⟨0, _, _, _, _, _, _, _, hpre, rfl, rfl, rfl, rfl, rfl, rfl, ?_⟩; clear st; intro w5 st hw5m hw5z; simp [Act.eval, Act.put, Value.cells, putL] at st
  refine hK _ _ ?_; clear hK
  go_wp2
  go_end0
  refine ⟨⟨_, rfl⟩, ?_⟩
  rw [HE.out]
  have hz3 := hst3.size
  have hch : ∀ b, b < w3.heap.size → b ≠ g → ma.map (·.block) ≠ some b → w5.heap[b]? = w3.heap[b]? := fun b hb h1 h2 => (hw5m b h1).trans (hgr.block b hb fun e => h2 e.symm)
  have hcw : ∀ b, b < w.heap.size → b ≠ g → ma.map (·.block) ≠ some b → w5.heap[b]? = w.heap[b]? := fun b hb h1 h2 => (hch b (by omega) h1 h2).trans (hst3.frame b hb (by simpa using h1))
  have hg4 : ∀ b, b < w3.heap.size → (ok b ∨ w.heap.size ≤ b) → b ≠ g4 := fun b hb ho e => by
   subst e
   rcases hat with hat | hat
   ·rcases ho with ho | ho
    ·exact (hMg _ hat).2 ho
    ·have := (hMg _ hat).1; omega
   ·omega
  have hok : ∀ b, b < w3.heap.size → (ok b ∨ w.heap.size ≤ b) → ((ok b ∨ w.heap.size ≤ b) ∧ b ∉ g :: rows2 ba (some ⟨g4, off4, none⟩)) ∧ w5.heap[b]? = w3.heap[b]? := fun b hb ho => by
   have h1 : b ≠ g := by
    rintro rfl
    rcases ho with ho | ho
    ·exact hgg ho
    ·omega
   refine ⟨⟨ho, fun hm => ?_⟩, hch b hb h1 fun e => ?_⟩
   ·rcases List.mem_cons.1 hm with hm | hm
    ·exact h1 hm
    ·rcases mem_rows2.1 hm with hm | hm
     ·obtain ⟨q1, q2, _⟩ := hBg b hm
      rcases ho with ho | ho
      ·exact q2 ho
      ·omega
     ·exact hg4 b hb ho (Option.some.inj hm).symm
   ·obtain ⟨q1, q2⟩ := hMg b e
    rcases ho with ho | ho
    ·exact q2 ho
    ·omega
  have hokw : ∀ b, b < w.heap.size → ok b → ((ok b ∨ w.heap.size ≤ b) ∧ b ∉ g :: rows2 ba (some ⟨g4, off4, none⟩)) ∧ w5.heap[b]? = w.heap[b]? := fun b hb ho => by
   obtain ⟨q1, q2⟩ := hok b (by omega) (.inl ho)
   exact ⟨q1, q2.trans ((HKp.out _ _ hst3).block b hb ho)⟩
  have hne4 : g4 ≠ g := by
   rintro rfl
   rcases hat with hat | hat
   ·exact hmne hat
   ·omega
  refine h.close (made' := k.made) hn ec eB st (st.blk _ (List.mem_of_getElem? (i := 0) rfl)) (x' := { x with mails := x.mails ++ [m] }) (B' := rows2 ba (some ⟨g4, off4, none⟩))
   ⟨xa, xc, oa, oc, ba, bc, some ⟨g4, off4, none⟩, c4, by simp [thrC], ⟨hT.label.move st.size hokw fun _ _ r => r, hT.own.move st.size hokw fun _ _ r => r,
    hT.objs.kept (fun b e => hcw b (hBg b e).1 (hBg b e).2.2.1 (hBg b e).2.2.2) fun _ _ r => r.move st.size hokw, hO4.kept (fun b e => by obtain rfl : g4 = b := Option.some.inj e; exact hw5m _ hne4) fun _ _ r => r.move (by have := hgr.size; omega) hok⟩, rfl⟩ ?_ ?_
  ·unfold rows2
   cases hba : ba with
   | none => simp
   | some ad =>
    simp only [Option.map_some, Option.toList_some, List.cons_append, List.nil_append, List.nodup_cons, List.mem_singleton, List.not_mem_nil, not_false_eq_true, List.nodup_nil, and_true]
    intro e
    obtain ⟨q1, _, _, q4⟩ := hBg ad.block (by rw [hba]; rfl)
    rcases hat with hat | hat
    ·exact q4 (by rw [hat, e])
    ·omega
  ·intro b hb
   rcases mem_rows2.1 hb with hb | hb
   ·exact .inl (mem_rows2.2 (.inl hb))
   ·obtain rfl : g4 = b := Option.some.inj hb
    rcases hat with hat | hat
    ·exact .inl (mem_rows2.2 (.inr hat))
    ·exact .inr (by omega)
structure Eff (k : Ker) (t : Int) (c : Req) (r : Rep) (u : Int) (x y : Thr) : Prop where
 other : u ≠ t → y.label = x.label ∧ y.own = x.own ∧ y.text = x.text ∧ y.mails = x.mails
 label : y.label = x.label ∨ (u = t ∧ c.kind = 5 ∧ r.code = 0 ∧ flowsL x.label y.label x.own = true ∧ y.label = (setR x.label c.c c.n).1 ∧ (setR x.label c.c c.n).2 = 0)
 own : ∀ d ∈ x.own, d ∈ y.own
 ownN : ∀ d ∈ y.own, d ∈ x.own ∨ (u = t ∧ r.code = 0 ∧ ((c.kind = 1 ∧ r.n = d) ∨ (c.kind = 7 ∧ ∃ m ∈ x.mails, d ∈ m.grants)))
 objL : x.objects.length ≤ y.objects.length
 obj : ∀ (n : Nat) (o o' : KObj), x.objects[n]? = some o → y.objects[n]? = some o' → o'.label = o.label ∧ (o'.text = o.text ∨ (c.kind = 3 ∧ flowsL (k.thr t).label o.label (k.thr t).own = true))
 text : y.text = x.text ∨ (u = t ∧ (c.kind = 9 ∨ (c.kind = 7 ∧ r.code = 0) ∨ (c.kind = 4 ∧ r.code = 0 ∧ ∃ o, k.obj c.t c.n = some o ∧ flowsL o.label x.label x.own = true)))
 mails : ∀ m ∈ y.mails, m ∈ x.mails
 mailsL : y.mails.length ≤ x.mails.length
theorem Eff.refl (k : Ker) (t : Int) (c : Req) (r : Rep) (u : Int) (x : Thr) : Eff k t c r u x x :=
 ⟨fun _ => ⟨rfl, rfl, rfl, rfl⟩, .inl rfl, fun _ h => h, fun _ h => .inl h, Nat.le_refl _, fun n o o' h h' => by rw [h] at h'; cases h'; exact ⟨rfl, .inl rfl⟩, .inl rfl, fun _ h => h, Nat.le_refl _⟩
theorem Eff.made {k : Ker} {t : Int} {c : Req} {r : Rep} {u : Int} {x : Thr} {k' : Ker} {m : Int} (h : Eff k t c r u x (k'.thr u)) : Eff k t c r u x (({ k' with made := m } : Ker).thr u) := h
structure EffM (m : Mail) (x y : Thr) : Prop where
 label : y.label = x.label
 own : y.own = x.own
 text : y.text = x.text
 objects : y.objects = x.objects
 mails : y.mails = x.mails ∨ (y.mails = x.mails ++ [m] ∧ flowsL m.label x.label x.own = true ∧ goodMailC m = 0)
theorem getD_at {α : Type} {l : List α} {i : Nat} {d x : α} (h : l[i]? = some x) : l.getD i d = x := by
 rw [List.getD_eq_getElem?_getD, h]; rfl
theorem encR_good {f : Frame} (h : (encR f).2 = 0) : goodFrameC f = 0 ∧ (encR f).1 = ⟨(encL f).toArray⟩ := by
 unfold encR at h ⊢
 by_cases hg : goodFrameC f = 0
 ·rw [if_pos hg]; exact ⟨hg, rfl⟩
 ·rw [if_neg hg] at h; exact absurd h hg
section
variable {C : Clu}
theorem Clu.ok.kerAt (h : C.ok) {n : Nat} (hn : n < 4) : ∃ k, C.kers[n]? = some k ∧ C.ker n = k ∧ k.ok ∧ k.host = n := by
 have e : C.kers[n]? = some (C.kers[n]'(by rw [h.kerN]; exact hn)) := List.getElem?_eq_getElem _
 exact ⟨_, e, by unfold Clu.ker; rw [Int.toNat_natCast]; exact getD_at e, (h.ker n _ e).1, (h.ker n _ e).2⟩
theorem Clu.ok.certAt (h : C.ok) {n : Nat} (hn : n < 4) : ∃ l, C.certs[n]? = some l ∧ C.cert n = l ∧ goodCerts l = true := by
 have e : C.certs[n]? = some (C.certs[n]'(by rw [h.certN]; exact hn)) := List.getElem?_eq_getElem _
 exact ⟨_, e, by unfold Clu.cert; rw [Int.toNat_natCast]; exact getD_at e, h.cert _ (List.mem_of_getElem? e)⟩
theorem Clu.ok.lineAt (h : C.ok) {n m : Nat} (hn : n < 4) (hm : m < 4) : ∃ L, C.lines[n * 4 + m]? = some L ∧ C.line n m = L ∧ lineOk L = true ∧ ∀ s ∈ L.sent, goodFrameC s.frame = 0 := by
 have e : C.lines[n * 4 + m]? = some (C.lines[n * 4 + m]'(by rw [h.lineN]; omega)) := List.getElem?_eq_getElem _
 exact ⟨_, e, by unfold Clu.line Proofs.Ytflfjpopfapogaa.lineAt; rw [Int.toNat_natCast, Int.toNat_natCast]; exact getD_at e, h.line _ (List.mem_of_getElem? e)⟩
theorem Clu.ok.setKer (h : C.ok) {n : Nat} {k : Ker} (hk : k.ok) (hh : k.host = n) : (C.setKer n k).ok :=
 ⟨h.now, by simp [Clu.setKer, h.kerN], fun i k' e => by
  unfold Clu.setKer at e
  simp only [Int.toNat_natCast] at e
  rw [List.getElem?_set] at e
  split at e
  ·rename_i hi
   subst hi
   split at e
   ·cases e; exact ⟨hk, hh⟩
   ·cases e
  ·exact h.ker i k' e, h.certN, h.cert, h.lineN, h.line, h.netN, h.net, h.acts⟩
theorem Clu.ok.setCert (h : C.ok) {n : Int} {l : List Cert} (hl : goodCerts l = true) : (C.setCert n l).ok :=
 ⟨h.now, h.kerN, h.ker, by simp [Clu.setCert, h.certN], fun l' hm => by
  rcases List.mem_or_eq_of_mem_set hm with hm | rfl
  ·exact h.cert l' hm
  ·exact hl, h.lineN, h.line, h.netN, h.net, h.acts⟩
theorem Clu.ok.setLineN (h : C.ok) {i : Nat} {L : Line} (hL : lineOk L = true) (hs : ∀ s ∈ L.sent, goodFrameC s.frame = 0) : ({ C with lines := C.lines.set i L } : Clu).ok :=
 ⟨h.now, h.kerN, h.ker, h.certN, h.cert, by simp [h.lineN], fun L' hm => by
  rcases List.mem_or_eq_of_mem_set hm with hm | rfl
  ·exact h.line L' hm
  ·exact ⟨hL, hs⟩, h.netN, h.net, h.acts⟩
theorem Clu.ok.setLine (h : C.ok) {n m : Int} {L : Line} (hL : lineOk L = true) (hs : ∀ s ∈ L.sent, goodFrameC s.frame = 0) : (C.setLine n m L).ok := h.setLineN hL hs
theorem Clu.ok.push (h : C.ok) (f : Frame) : (pushC C f).ok := by
 unfold pushC
 split
 ·rename_i h1
  obtain ⟨hg, he⟩ := encR_good h1.1
  refine ⟨h.now, h.kerN, h.ker, h.certN, h.cert, h.lineN, h.line, by simp; omega, fun s hs => ?_, h.acts⟩
  rcases List.mem_append.1 hs with hs | hs
  ·exact h.net s hs
  ·simp only [List.mem_singleton] at hs
   subst hs
   exact ⟨f, hg, he⟩
 ·exact h
theorem deliverK_host (k : Ker) (t : Int) (m : Mail) : (deliverK k t m).host = k.host := by
 unfold deliverK
 split
 ·rfl
 ·split
  ·rfl
  ·split <;> rfl
theorem stepC_host (k : Ker) (t : Int) (c : Req) : (stepC k t c).1.host = k.host := by
 unfold stepC
 split
 ·rfl
 ·split
  ·rfl
  ·unfold callK
   dsimp only
   repeat' split
   all_goals rfl
theorem letterK_ok {k : Ker} {t : Int} {x : Req} (h : (letterK k t x).2 = 0) : four t = true ∧ (letterK k t x).1 = letterM k t x ∧ goodMailC (letterM k t x) = 0 ∧ (∀ g ∈ x.grants, g ∈ (k.thr t).own) ∧ flowsL (k.thr t).label x.label (k.thr t).own = true := by
 unfold letterK at h ⊢
 split at h
 ·simp at h
 ·rename_i h4
  rw [if_neg h4]
  split at h
  ·rename_i hg; exact absurd h hg
  ·rename_i hg
   rw [if_neg hg]
   split at h
   ·simp at h
   ·rename_i ho
    rw [if_neg ho]
    split at h
    ·simp at h
    ·rename_i hf
     rw [if_neg hf]
     exact ⟨by simpa using h4, rfl, by simpa using hg, by simpa using ho, by simpa using hf⟩
theorem showL_good {l : List Cert} (h : goodCerts l = true) (m : Mail) : (showL l m).all goodCertB = true ∧ (showL l m).length ≤ 24 := by
 obtain ⟨h1, h2, h3⟩ := (goodCerts_iff l).1 h
 refine ⟨List.all_eq_true.2 fun x hx => h1 x (List.mem_filter.1 hx).1, Nat.le_trans (List.length_filter_le _ _) h3⟩
theorem mailF_good {h v t n : Int} {m : Mail} {cs : List Cert} (hh : four h = true) (hv : four v = true) (hne : h ≠ v) (ht : four t = true) (hn : 1 ≤ n ∧ n ≤ 1099511627776) (hm : goodMailC m = 0) (hmh : m.host = h) (hc : cs.all goodCertB = true) (hl : cs.length ≤ 24) : goodFrameC { mailF h v t m cs with seq := n } = 0 := by
 unfold goodFrameC mailF frameRange certsC
 simp only [hh, hv, ht, Bool.true_and, Bool.and_true]
 rw [if_pos (by simp [hne]; omega)]
 simp [hm, hmh, hc]
 omega
theorem sendC_ok (h : C.ok) {n : Nat} (hn : n < 4) {v t : Int} (hv : four v = true) (ht : four t = true) {m : Mail} (hm : goodMailC m = 0) (hmh : m.host = n) : (sendC C n v t m).1.ok := by
 unfold sendC
 obtain ⟨k, ek, e2, hk, hkh⟩ := h.kerAt hn
 split
 ·rw [e2]; exact h.setKer (deliverK_ok hk t m) (by rw [deliverK_host, hkh])
 ·rename_i hne
  split
  ·exact h
  ·split
   ·exact h
   ·rename_i h0
    obtain ⟨q, rfl, hq⟩ := four_nat hv
    obtain ⟨L, eL, e3, hL, hs⟩ := h.lineAt hn hq
    obtain ⟨l, el, e4, hl⟩ := h.certAt hn
    rw [e3, e4] at h0 ⊢
    obtain ⟨a1, a2, a3⟩ := sentLn_ok (f := mailF n q t m (showL l m)) hL h.now.1 h.now.2
    have h0' : (sentLn L (mailF n q t m (showL l m)) C.now).2.2 = 0 := by simpa using h0
    obtain ⟨b1, b2⟩ := a3 h0'
    have hg := showL_good hl m
    have hnx := ((lineOk_iff L).1 hL).1.1
    have hgood : goodFrameC (sentLn L (mailF n q t m (showL l m)) C.now).2.1 = 0 := by
     rw [b1]
     exact mailF_good ((four_iff _).2 ⟨by omega, by omega⟩) hv hne ht ⟨by omega, by omega⟩ hm hmh hg.1 hg.2
    refine (h.setLine a1 fun s hs' => ?_).push _
    rcases a2 s hs' with h1 | ⟨h1, _⟩
    ·exact hs s h1
    ·rw [h1]; exact hgood
theorem goodF_facts {f : Frame} (h : goodFrameC f = 0) : four f.src = true ∧ four f.dst = true ∧ f.src ≠ f.dst ∧ (1 ≤ f.seq ∧ f.seq ≤ 1099511627776) ∧ four f.thread = true ∧ (f.ack = false → goodMailC f.mail = 0 ∧ f.mail.host = f.src ∧ f.certs.length ≤ 24 ∧ f.certs.all goodCertB = true) := by
 unfold goodFrameC at h
 split at h
 ·rename_i hr
  unfold frameRange at hr
  simp only [Bool.and_eq_true, bne_iff_ne, ne_eq, decide_eq_true_eq] at hr
  refine ⟨hr.1.1.1.1.1, hr.1.1.1.1.2, hr.1.1.1.2, ⟨hr.1.1.2, hr.1.2⟩, hr.2, fun ha => ?_⟩
  rw [if_neg (by simp [ha])] at h
  split at h
  ·rename_i hm; exact absurd h hm
  ·rename_i hm
   split at h
   ·simp at h
   ·rename_i hh
    split at h
    ·simp at h
    ·rename_i hl
     unfold certsC at h
     split at h
     ·rename_i hc; exact ⟨by simpa using hm, by simpa using hh, by omega, hc⟩
     ·simp at h
 ·simp at h
theorem tookC_ok (h : C.ok) {f : Frame} (hd : four f.dst = true) : (tookC C f).ok := by
 unfold tookC
 obtain ⟨n, e, hn⟩ := four_nat hd
 rw [e]
 obtain ⟨l, el, e4, hl⟩ := h.certAt hn
 obtain ⟨k, ek, e2, hk, hkh⟩ := h.kerAt hn
 have h1 := h.setCert (n := n) (addAll_ok f.certs (by rw [e4]; exact hl : goodCerts (C.cert n) = true))
 split
 ·rw [e2]
  exact h1.setKer (deliverK_ok hk _ _) (by rw [deliverK_host, hkh])
 ·exact h1
theorem comeF_ok (h : C.ok) {f : Frame} (hg : goodFrameC f = 0) : (comeF C f).ok := by
 obtain ⟨g1, g2, -, -, -, -⟩ := goodF_facts hg
 obtain ⟨n, en, hn⟩ := four_nat g1
 obtain ⟨m, em, hm⟩ := four_nat g2
 unfold comeF
 split
 ·obtain ⟨L, eL, e3, hL, hs⟩ := h.lineAt hm hn
  rw [en, em, e3]
  obtain ⟨q1, q2⟩ := answLn_ok hL f.seq
  exact h.setLine q1 fun s hs' => hs s (q2 s hs')
 ·obtain ⟨L, eL, e3, hL, hs⟩ := h.lineAt hn hm
  obtain ⟨q1, q2, _⟩ := tookLn_ok hL f.seq
  have h1 : (C.setLine f.src f.dst (tookLn (C.line f.src f.dst) f.seq).1).ok := by
   rw [en, em, e3]
   exact h.setLine q1 fun s hs' => hs s (by rw [q2] at hs'; exact hs')
  split
  ·exact tookC_ok (h1.push _) g2
  ·split
   ·exact h1.push _
   ·exact h1
theorem decR_good {s : List UInt8} (h : (decR s).2 = 0) : goodFrameC (decR s).1 = 0 := (dec_only (s := s) (f := (decR s).1) (by rw [← h])).2
theorem callC_ok (h : C.ok) {n : Nat} (hn : n < 4) (t : Int) (x : Req) : (callC C n t x).1.ok := by
 obtain ⟨k, ek, e2, hk, hkh⟩ := h.kerAt hn
 unfold callC
 split
 ·split
  ·exact h
  ·split
   ·exact h
   ·rename_i h4
    split
    ·exact h
    ·rename_i h0
     obtain ⟨q1, q2, q3, _⟩ := letterK_ok (k := C.ker n) (t := t) (x := x) (by simpa using h0)
     rw [q2]
     exact sendC_ok h hn (by simpa using (not_or.1 h4).1) (by simpa using (not_or.1 h4).2) q3 (by rw [e2]; exact hkh)
 ·split
  ·split
   ·exact h
   ·split
    ·exact h
    ·split
     ·exact h
     ·rename_i h0
      exact h.setCert (addC_ok (by simpa using h0)).2.1
  ·rw [e2]
   exact h.setKer (stepC_ok hk t x) (by rw [stepC_host, hkh])
theorem zeroL_ok : lineOk zeroL = true := by decide +kernel
theorem newC_ok : newC.ok := by
 refine ⟨by decide, rfl, fun i k e => ?_, rfl, fun l hl => ?_, by simp [newC], fun L hL => ?_, by decide, by simp [newC], by decide⟩
 ·have hi := (List.getElem?_eq_some_iff.1 e).1
  match i, e with
  | 0, e => cases e; exact ⟨newK_ok (by decide) (by decide), rfl⟩
  | 1, e => cases e; exact ⟨newK_ok (by decide) (by decide), rfl⟩
  | 2, e => cases e; exact ⟨newK_ok (by decide) (by decide), rfl⟩
  | 3, e => cases e; exact ⟨newK_ok (by decide) (by decide), rfl⟩
  | i + 4, _ => simp [newC] at hi; omega
 ·simp [newC] at hl
  subst hl
  decide +kernel
 ·simp only [newC] at hL
  rw [List.eq_of_mem_replicate hL]
  exact ⟨zeroL_ok, by simp [zeroL]⟩
end
end Go.Proofs.Ytflfjpopfapogaa
