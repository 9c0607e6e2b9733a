/- Walks and plain laws that the claim rests on, part 12. -/
import Derived.Test.YtemjnojfhbbapaaP11
set_option linter.unusedSimpArgs false
set_option linter.unusedVariables false
/- The walk through parcloseref.EncodeFrame. -/
namespace Go.Proofs.Ytemjnojfhbbapaa
open Go.RowKit

theorem ref_bytes1 (w : World) (v : Int) (h : 0 ≤ v ∧ v < 256) : Calls Try.prog 26 #[.int .i64 v, .int .i64 1] w fun e w' => e = .returned (.string ⟨[b1 v].toArray⟩) ∧ Below w.heap.size w w' := ref_bytesOf w v 1 h.1 (by omega) (by omega)
theorem ref_bytes6 (w : World) (v : Int) (h : 0 ≤ v ∧ v ≤ 1099511627776) : Calls Try.prog 26 #[.int .i64 v, .int .i64 6] w fun e w' => e = .returned (.string ⟨(be v 6).toArray⟩) ∧ Below w.heap.size w w' := ref_bytesOf w v 6 h.1 h.2 (by omega)

theorem ba_text (xs : List UInt8) (s : ByteArray) : ((⟨xs.toArray⟩ : ByteArray) ++ s) = ⟨(xs ++ s.data.toList).toArray⟩ := by
  have h := ba_app xs s.data.toList
  simp only [Array.toArray_toList] at h
  exact h

theorem run_add (xs ys : List UInt8) (h : xs.length + ys.length ≤ 1000000) (W : World) : (binOp .add 9 (.string ⟨xs.toArray⟩) (.string ⟨ys.toArray⟩)).run Try.prog W = .ok (.string ⟨(xs ++ ys).toArray⟩) W := by
  have h' : ¬ 9223372036854775807 < xs.length + ys.length := by omega
  have e := ba_app xs ys
  go_simp

theorem exec_add {o : Oper} {A : Act} (x y : Operand) (ho : o.op = .binOp .add 9 x y 9) (xs ys : List UInt8) (hx : A.eval x = .string ⟨xs.toArray⟩) (hy : A.eval y = .string ⟨ys.toArray⟩) (h : xs.length + ys.length ≤ 1000000) (W : World) :
    (execOp A.eval o).run Try.prog W = .ok (.value (.string ⟨(xs ++ ys).toArray⟩)) W := by
  have h' : ¬ 9223372036854775807 < xs.length + ys.length := by omega
  have e := ba_app xs ys
  simp only [execOp, ho, hx, hy]
  go_simp

set_option maxRecDepth 100000 in
set_option maxHeartbeats 1600000 in
theorem ref_Encode_bad (ok : Nat → Prop) (w : World) (f : Frame) (la : Option Addr) (lc : Nat) (ga : Option Addr) (gc : Nat) (ca : Option Addr) (cc : Nat) (hf : f.FitsW) (hR : FrameR ok w f la lc ga gc ca cc) (h : goodFrameC f ≠ 0) :
    Calls Try.prog 10 #[frameV f la lc ga gc ca cc] w fun e w' => e = .returned (.tuple #[.string ⟨#[]⟩, .int .i64 (goodFrameC f)]) ∧ Below w.heap.size w w' := by
  have HG := Lib.hid (fun (W : World) (hW : FrameR ok W f la lc ga gc ca cc) => ref_GoodFrame ok W f la lc ga gc ca cc hf hW)
  generalize goodFrameC f = q at h HG ⊢
  have d1 : (q != 0) = true := by simpa using h
  clear h
  unfold frameV at *
  have st := St.start w
  go_enter Try.func10, Try.ntmps10
  go_wp2_with (first | go_skip | (with_reducible refine at_box 29 ?_; refine mem_box st (wanted_none rfl) 29 _ rfl _ rfl _ rfl ?_; clear st; intro g1 w1 hg1 st hg1b; clear hg1b; simp [Act.eval, Act.put, Value.cells, putL] at st) | (with_reducible refine at_load 29 ?_; (first | refine mem_load_agg' st 29 _ rfl (wanted_none rfl) Try.isAgg29 _ Try.sizeOf29 ?_ | (refine mem_load_agg' st 29 _ rfl (wanted_some rfl ?_) Try.isAgg29 _ Try.sizeOf29 ?_; focus (simp [yielded, Act.put]; done))); refine ⟨0, _, _, _, _, _, rfl, rfl, rfl, rfl, ?_⟩) | (go_at_call 12; go_must (refine (HG.out _ (hR.below st.below)).mono ?_; rintro e v2 ⟨rfl, hb2⟩; replace st := st.call hb2; clear hb2)))
  go_ret2
  exact ⟨rfl, st.below⟩

set_option maxRecDepth 100000 in
set_option maxHeartbeats 6400000 in
theorem ref_Encode_ack (ok : Nat → Prop) (w : World) (f : Frame) (la : Option Addr) (lc : Nat) (ga : Option Addr) (gc : Nat) (ca : Option Addr) (cc : Nat) (hf : f.FitsW) (hR : FrameR ok w f la lc ga gc ca cc) (h : goodFrameC f = 0) (hk : f.ack = true) :
    Calls Try.prog 10 #[frameV f la lc ga gc ca cc] w fun e w' => e = .returned (.tuple #[.string ⟨(encL f).toArray⟩, .int .i64 0]) ∧ Below w.heap.size w w' := by
  obtain ⟨⟨s1, s2⟩, ⟨s3, s4⟩, -, ⟨s5, s6⟩, ⟨s7, s8⟩, -, hm⟩ := good_facts h
  have HE := Lib.hid (show encL f = [1] ++ headBytes f by unfold encL; rw [if_pos hk]; rfl)
  clear hm
  have HG := Lib.hid (fun (W : World) (hW : FrameR ok W f la lc ga gc ca cc) => ref_GoodFrame ok W f la lc ga gc ca cc hf hW)
  rw [h] at HG
  have hk1 : Value.bool f.ack = .bool true := by rw [hk]
  obtain ⟨⟨hA, hB⟩, hC⟩ := id hR
  clear h hk
  unfold frameV at *
  rw [hk1] at HG ⊢
  clear hk1
  have st := St.start w
  go_enter Try.func10, Try.ntmps10
  go_wp2_with (first
    | go_skip | (with_reducible refine at_box 29 ?_; refine mem_box st (wanted_none rfl) 29 _ rfl _ rfl _ rfl ?_; clear st; intro g1 w1 hg1 st hg1b; clear hg1b; simp [Act.eval, Act.put, Value.cells, putL] at st) | (with_reducible refine at_load 29 ?_; (first | refine mem_load_agg' st 29 _ rfl (wanted_none rfl) Try.isAgg29 _ Try.sizeOf29 ?_ | (refine mem_load_agg' st 29 _ rfl (wanted_some rfl ?_) Try.isAgg29 _ Try.sizeOf29 ?_; focus (simp [yielded, Act.put]; done))); refine ⟨0, _, _, _, _, _, rfl, rfl, rfl, rfl, ?_⟩)
    | (go_at_call 12; go_must (refine (HG.out _ (hR.below st.below)).mono ?_; rintro e v2 ⟨rfl, hb2⟩; replace st := st.call hb2; clear hb2)))
  clear HG
  refine det_region (by kernel_rfl) 12 rfl (fun W => St [] w W [(g1, 29, [.int .i64 f.src, .int .i64 f.dst, .int .i64 f.seq, .bool true, .int .i64 f.thread, .int .i64 f.mail.host, .int .i64 f.mail.thread, .slice la f.mail.label.length lc, .slice ga f.mail.grants.length gc, .string f.mail.text, .slice ca f.certs.length cc])]) (st.drew) (by decide +kernel) ?_
  refine det_take 0 rfl (by decide +kernel) (by first | exact wanted_none rfl | exact wanted_some rfl rfl) (fun W hW => by first | (go_simp; done) | (go_simp; rfl)) ?_; simp only [Act.put, List.setIfInBounds_toArray, List.set_cons_succ, List.set_cons_zero]
  refine det_take 1 rfl (by decide +kernel) (by first | exact wanted_none rfl | exact wanted_some rfl rfl) (fun W hW => St.run_load hW 0 3 _ rfl Try.isAgg3 rfl rfl rfl) ?_; simp only [Act.put, List.setIfInBounds_toArray, List.set_cons_succ, List.set_cons_zero]
  refine det_call (fn := 26) 2 rfl (by decide +kernel) (by first | exact wanted_none rfl | exact wanted_some rfl rfl) (fun W => by first | (go_simp; done) | (go_simp; rfl)) (fun W hW => (ref_bytes1 W (f.src) ⟨by omega, by omega⟩).mono fun e w' h => ⟨h.1, hW.call h.2⟩) ?_; simp only [Act.put, List.setIfInBounds_toArray, List.set_cons_succ, List.set_cons_zero]
  refine det_take 3 rfl (by decide +kernel) (by first | exact wanted_none rfl | exact wanted_some rfl rfl) (fun W hW => by first | (go_simp; done) | (go_simp; rfl)) ?_; simp only [Act.put, List.setIfInBounds_toArray, List.set_cons_succ, List.set_cons_zero]
  refine det_take 4 rfl (by decide +kernel) (by first | exact wanted_none rfl | exact wanted_some rfl rfl) (fun W hW => St.run_load hW 0 3 _ rfl Try.isAgg3 rfl rfl rfl) ?_; simp only [Act.put, List.setIfInBounds_toArray, List.set_cons_succ, List.set_cons_zero]
  refine det_call (fn := 26) 5 rfl (by decide +kernel) (by first | exact wanted_none rfl | exact wanted_some rfl rfl) (fun W => by first | (go_simp; done) | (go_simp; rfl)) (fun W hW => (ref_bytes1 W (f.dst) ⟨by omega, by omega⟩).mono fun e w' h => ⟨h.1, hW.call h.2⟩) ?_; simp only [Act.put, List.setIfInBounds_toArray, List.set_cons_succ, List.set_cons_zero]
  refine det_take 6 rfl (by decide +kernel) (by first | exact wanted_none rfl | exact wanted_some rfl rfl) (fun W hW => by exact exec_add _ _ rfl ([b1 f.src]) ([b1 f.dst]) rfl rfl (by simp [headBytes, be_length]; try omega) W) ?_; simp only [Act.put, List.setIfInBounds_toArray, List.set_cons_succ, List.set_cons_zero]
  refine det_take 7 rfl (by decide +kernel) (by first | exact wanted_none rfl | exact wanted_some rfl rfl) (fun W hW => by first | (go_simp; done) | (go_simp; rfl)) ?_; simp only [Act.put, List.setIfInBounds_toArray, List.set_cons_succ, List.set_cons_zero]
  refine det_take 8 rfl (by decide +kernel) (by first | exact wanted_none rfl | exact wanted_some rfl rfl) (fun W hW => St.run_load hW 0 3 _ rfl Try.isAgg3 rfl rfl rfl) ?_; simp only [Act.put, List.setIfInBounds_toArray, List.set_cons_succ, List.set_cons_zero]
  refine det_call (fn := 26) 9 rfl (by decide +kernel) (by first | exact wanted_none rfl | exact wanted_some rfl rfl) (fun W => by first | (go_simp; done) | (go_simp; rfl)) (fun W hW => (ref_bytes6 W (f.seq) ⟨by omega, by omega⟩).mono fun e w' h => ⟨h.1, hW.call h.2⟩) ?_; simp only [Act.put, List.setIfInBounds_toArray, List.set_cons_succ, List.set_cons_zero]
  refine det_take 10 rfl (by decide +kernel) (by first | exact wanted_none rfl | exact wanted_some rfl rfl) (fun W hW => by exact exec_add _ _ rfl ([b1 f.src] ++ [b1 f.dst]) (be f.seq 6) rfl rfl (by simp [headBytes, be_length]; try omega) W) ?_; simp only [Act.put, List.setIfInBounds_toArray, List.set_cons_succ, List.set_cons_zero]
  rw [show ([b1 f.src] ++ [b1 f.dst]) ++ be f.seq 6 = headBytes f from rfl]
  refine det_take 11 rfl (by decide +kernel) (by first | exact wanted_none rfl | exact wanted_some rfl rfl) (fun W hW => by first | (go_simp; done) | (go_simp; rfl)) ?_; simp only [Act.put, List.setIfInBounds_toArray, List.set_cons_succ, List.set_cons_zero]
  refine det_done (by decide +kernel) ?_
  clear st
  intro W st
  have hba := ba_app [1] (headBytes f)
  rw [← HE.out] at hba
  replace hba : (⟨#[1]⟩ : ByteArray) ++ ⟨(headBytes f).toArray⟩ = ⟨(encL f).toArray⟩ := hba
  have hl8 : (headBytes f).length = 8 := by simp [headBytes, be_length]
  go_wp2_with (first | go_skip | (with_reducible refine at_load 4 ?_; (first | refine mem_load' st 4 _ rfl (wanted_none rfl) Try.isAgg4 ?_ | (refine mem_load' st 4 _ rfl (wanted_some rfl ?_) Try.isAgg4 ?_; focus (simp [yielded, Act.put]; done))); refine ⟨0, _, _, _, _, _, rfl, rfl, rfl, ?_⟩))
  go_ret2
  exact ⟨rfl, st.below⟩

set_option maxRecDepth 100000 in
set_option maxHeartbeats 6400000 in
theorem ref_Encode_mail (ok : Nat → Prop) (w : World) (f : Frame) (la : Option Addr) (lc : Nat) (ga : Option Addr) (gc : Nat) (ca : Option Addr) (cc : Nat) (hf : f.FitsW) (hR : FrameR ok w f la lc ga gc ca cc) (h : goodFrameC f = 0) (hk : f.ack = false) :
    Calls Try.prog 10 #[frameV f la lc ga gc ca cc] w fun e w' => e = .returned (.tuple #[.string ⟨(encL f).toArray⟩, .int .i64 0]) ∧ Below w.heap.size w w' := by
  obtain ⟨⟨s1, s2⟩, ⟨s3, s4⟩, -, ⟨s5, s6⟩, ⟨s7, s8⟩, -, hm⟩ := good_facts h
  obtain ⟨hm1, -, hc24, hcs⟩ := hm hk
  obtain ⟨-, ⟨s9, s10⟩, hgl, hgr, ht⟩ := mail_facts hm1
  obtain ⟨hl8, hlv, -⟩ := (goodL_iff _).1 hgl
  obtain ⟨hg8, hgv⟩ := grants_facts hgr
  have HLV := Lib.hid hlv; have HGV := Lib.hid hgv; have HCS := Lib.hid hcs
  have HE := Lib.hid (encL_mail hk)
  clear hm hm1 hgl hgr hlv hgv hcs
  have HG := Lib.hid (fun (W : World) (hW : FrameR ok W f la lc ga gc ca cc) => ref_GoodFrame ok W f la lc ga gc ca cc hf hW)
  rw [h] at HG
  have hk1 : Value.bool f.ack = .bool false := by rw [hk]
  obtain ⟨⟨hA, hB⟩, hC⟩ := id hR
  clear h hk
  unfold frameV at *
  rw [hk1] at HG ⊢
  clear hk1
  have st := St.start w
  go_enter Try.func10, Try.ntmps10
  go_wp2_with (first
    | go_skip | (with_reducible refine at_box 29 ?_; refine mem_box st (wanted_none rfl) 29 _ rfl _ rfl _ rfl ?_; clear st; intro g1 w1 hg1 st hg1b; clear hg1b; simp [Act.eval, Act.put, Value.cells, putL] at st) | (with_reducible refine at_load 29 ?_; (first | refine mem_load_agg' st 29 _ rfl (wanted_none rfl) Try.isAgg29 _ Try.sizeOf29 ?_ | (refine mem_load_agg' st 29 _ rfl (wanted_some rfl ?_) Try.isAgg29 _ Try.sizeOf29 ?_; focus (simp [yielded, Act.put]; done))); refine ⟨0, _, _, _, _, _, rfl, rfl, rfl, rfl, ?_⟩)
    | (go_at_call 12; go_must (refine (HG.out _ (hR.below st.below)).mono ?_; rintro e v2 ⟨rfl, hb2⟩; replace st := st.call hb2; clear hb2)))
  clear HG
  refine det_region (by kernel_rfl) 12 rfl (fun W => St [] w W [(g1, 29, [.int .i64 f.src, .int .i64 f.dst, .int .i64 f.seq, .bool false, .int .i64 f.thread, .int .i64 f.mail.host, .int .i64 f.mail.thread, .slice la f.mail.label.length lc, .slice ga f.mail.grants.length gc, .string f.mail.text, .slice ca f.certs.length cc])]) (st.drew) (by decide +kernel) ?_
  refine det_take 0 rfl (by decide +kernel) (by first | exact wanted_none rfl | exact wanted_some rfl rfl) (fun W hW => by first | (go_simp; done) | (go_simp; rfl)) ?_; simp only [Act.put, List.setIfInBounds_toArray, List.set_cons_succ, List.set_cons_zero]
  refine det_take 1 rfl (by decide +kernel) (by first | exact wanted_none rfl | exact wanted_some rfl rfl) (fun W hW => St.run_load hW 0 3 _ rfl Try.isAgg3 rfl rfl rfl) ?_; simp only [Act.put, List.setIfInBounds_toArray, List.set_cons_succ, List.set_cons_zero]
  refine det_call (fn := 26) 2 rfl (by decide +kernel) (by first | exact wanted_none rfl | exact wanted_some rfl rfl) (fun W => by first | (go_simp; done) | (go_simp; rfl)) (fun W hW => (ref_bytes1 W (f.src) ⟨by omega, by omega⟩).mono fun e w' h => ⟨h.1, hW.call h.2⟩) ?_; simp only [Act.put, List.setIfInBounds_toArray, List.set_cons_succ, List.set_cons_zero]
  refine det_take 3 rfl (by decide +kernel) (by first | exact wanted_none rfl | exact wanted_some rfl rfl) (fun W hW => by first | (go_simp; done) | (go_simp; rfl)) ?_; simp only [Act.put, List.setIfInBounds_toArray, List.set_cons_succ, List.set_cons_zero]
  refine det_take 4 rfl (by decide +kernel) (by first | exact wanted_none rfl | exact wanted_some rfl rfl) (fun W hW => St.run_load hW 0 3 _ rfl Try.isAgg3 rfl rfl rfl) ?_; simp only [Act.put, List.setIfInBounds_toArray, List.set_cons_succ, List.set_cons_zero]
  refine det_call (fn := 26) 5 rfl (by decide +kernel) (by first | exact wanted_none rfl | exact wanted_some rfl rfl) (fun W => by first | (go_simp; done) | (go_simp; rfl)) (fun W hW => (ref_bytes1 W (f.dst) ⟨by omega, by omega⟩).mono fun e w' h => ⟨h.1, hW.call h.2⟩) ?_; simp only [Act.put, List.setIfInBounds_toArray, List.set_cons_succ, List.set_cons_zero]
  refine det_take 6 rfl (by decide +kernel) (by first | exact wanted_none rfl | exact wanted_some rfl rfl) (fun W hW => by exact exec_add _ _ rfl ([b1 f.src]) ([b1 f.dst]) rfl rfl (by simp [headBytes, be_length]; try omega) W) ?_; simp only [Act.put, List.setIfInBounds_toArray, List.set_cons_succ, List.set_cons_zero]
  refine det_take 7 rfl (by decide +kernel) (by first | exact wanted_none rfl | exact wanted_some rfl rfl) (fun W hW => by first | (go_simp; done) | (go_simp; rfl)) ?_; simp only [Act.put, List.setIfInBounds_toArray, List.set_cons_succ, List.set_cons_zero]
  refine det_take 8 rfl (by decide +kernel) (by first | exact wanted_none rfl | exact wanted_some rfl rfl) (fun W hW => St.run_load hW 0 3 _ rfl Try.isAgg3 rfl rfl rfl) ?_; simp only [Act.put, List.setIfInBounds_toArray, List.set_cons_succ, List.set_cons_zero]
  refine det_call (fn := 26) 9 rfl (by decide +kernel) (by first | exact wanted_none rfl | exact wanted_some rfl rfl) (fun W => by first | (go_simp; done) | (go_simp; rfl)) (fun W hW => (ref_bytes6 W (f.seq) ⟨by omega, by omega⟩).mono fun e w' h => ⟨h.1, hW.call h.2⟩) ?_; simp only [Act.put, List.setIfInBounds_toArray, List.set_cons_succ, List.set_cons_zero]
  refine det_take 10 rfl (by decide +kernel) (by first | exact wanted_none rfl | exact wanted_some rfl rfl) (fun W hW => by exact exec_add _ _ rfl ([b1 f.src] ++ [b1 f.dst]) (be f.seq 6) rfl rfl (by simp [headBytes, be_length]; try omega) W) ?_; simp only [Act.put, List.setIfInBounds_toArray, List.set_cons_succ, List.set_cons_zero]
  rw [show ([b1 f.src] ++ [b1 f.dst]) ++ be f.seq 6 = headBytes f from rfl]
  refine det_take 11 rfl (by decide +kernel) (by first | exact wanted_none rfl | exact wanted_some rfl rfl) (fun W hW => by first | (go_simp; done) | (go_simp; rfl)) ?_; simp only [Act.put, List.setIfInBounds_toArray, List.set_cons_succ, List.set_cons_zero]
  refine det_done (by decide +kernel) ?_
  clear st
  intro W st
  go_wp2_with (first | go_skip | (with_reducible refine at_load 4 ?_; (first | refine mem_load' st 4 _ rfl (wanted_none rfl) Try.isAgg4 ?_ | (refine mem_load' st 4 _ rfl (wanted_some rfl ?_) Try.isAgg4 ?_; focus (simp [yielded, Act.put]; done))); refine ⟨0, _, _, _, _, _, rfl, rfl, rfl, ?_⟩))
  refine det_region (by kernel_rfl) 18 rfl (fun W => St [] w W [(g1, 29, [.int .i64 f.src, .int .i64 f.dst, .int .i64 f.seq, .bool false, .int .i64 f.thread, .int .i64 f.mail.host, .int .i64 f.mail.thread, .slice la f.mail.label.length lc, .slice ga f.mail.grants.length gc, .string f.mail.text, .slice ca f.certs.length cc])]) (st.drew) (by decide +kernel) ?_
  refine det_take 0 rfl (by decide +kernel) (by first | exact wanted_none rfl | exact wanted_some rfl rfl) (fun W hW => by first | (go_simp; done) | (go_simp; rfl)) ?_; simp only [Act.put, List.setIfInBounds_toArray, List.set_cons_succ, List.set_cons_zero]
  refine det_take 1 rfl (by decide +kernel) (by first | exact wanted_none rfl | exact wanted_some rfl rfl) (fun W hW => by exact exec_add _ _ rfl ([0]) (headBytes f) rfl rfl (by simp [headBytes, be_length]; try omega) W) ?_; simp only [Act.put, List.setIfInBounds_toArray, List.set_cons_succ, List.set_cons_zero]
  refine det_take 2 rfl (by decide +kernel) (by first | exact wanted_none rfl | exact wanted_some rfl rfl) (fun W hW => by first | (go_simp; done) | (go_simp; rfl)) ?_; simp only [Act.put, List.setIfInBounds_toArray, List.set_cons_succ, List.set_cons_zero]
  refine det_take 3 rfl (by decide +kernel) (by first | exact wanted_none rfl | exact wanted_some rfl rfl) (fun W hW => St.run_load hW 0 3 _ rfl Try.isAgg3 rfl rfl rfl) ?_; simp only [Act.put, List.setIfInBounds_toArray, List.set_cons_succ, List.set_cons_zero]
  refine det_call (fn := 26) 4 rfl (by decide +kernel) (by first | exact wanted_none rfl | exact wanted_some rfl rfl) (fun W => by first | (go_simp; done) | (go_simp; rfl)) (fun W hW => (ref_bytes1 W (f.thread) ⟨by omega, by omega⟩).mono fun e w' h => ⟨h.1, hW.call h.2⟩) ?_; simp only [Act.put, List.setIfInBounds_toArray, List.set_cons_succ, List.set_cons_zero]
  refine det_take 5 rfl (by decide +kernel) (by first | exact wanted_none rfl | exact wanted_some rfl rfl) (fun W hW => by exact exec_add _ _ rfl ([0] ++ headBytes f) ([b1 f.thread]) rfl rfl (by simp [headBytes, be_length]; try omega) W) ?_; simp only [Act.put, List.setIfInBounds_toArray, List.set_cons_succ, List.set_cons_zero]
  refine det_take 6 rfl (by decide +kernel) (by first | exact wanted_none rfl | exact wanted_some rfl rfl) (fun W hW => by first | (go_simp; done) | (go_simp; rfl)) ?_; simp only [Act.put, List.setIfInBounds_toArray, List.set_cons_succ, List.set_cons_zero]
  refine det_take 7 rfl (by decide +kernel) (by first | exact wanted_none rfl | exact wanted_some rfl rfl) (fun W hW => by first | (go_simp; done) | (go_simp; rfl)) ?_; simp only [Act.put, List.setIfInBounds_toArray, List.set_cons_succ, List.set_cons_zero]
  refine det_take 8 rfl (by decide +kernel) (by first | exact wanted_none rfl | exact wanted_some rfl rfl) (fun W hW => St.run_load hW 0 3 _ rfl Try.isAgg3 rfl rfl rfl) ?_; simp only [Act.put, List.setIfInBounds_toArray, List.set_cons_succ, List.set_cons_zero]
  refine det_call (fn := 26) 9 rfl (by decide +kernel) (by first | exact wanted_none rfl | exact wanted_some rfl rfl) (fun W => by first | (go_simp; done) | (go_simp; rfl)) (fun W hW => (ref_bytes1 W (f.mail.thread) ⟨by omega, by omega⟩).mono fun e w' h => ⟨h.1, hW.call h.2⟩) ?_; simp only [Act.put, List.setIfInBounds_toArray, List.set_cons_succ, List.set_cons_zero]
  refine det_take 10 rfl (by decide +kernel) (by first | exact wanted_none rfl | exact wanted_some rfl rfl) (fun W hW => by exact exec_add _ _ rfl (([0] ++ headBytes f) ++ [b1 f.thread]) ([b1 f.mail.thread]) rfl rfl (by simp [headBytes, be_length]; try omega) W) ?_; simp only [Act.put, List.setIfInBounds_toArray, List.set_cons_succ, List.set_cons_zero]
  refine det_take 11 rfl (by decide +kernel) (by first | exact wanted_none rfl | exact wanted_some rfl rfl) (fun W hW => by first | (go_simp; done) | (go_simp; rfl)) ?_; simp only [Act.put, List.setIfInBounds_toArray, List.set_cons_succ, List.set_cons_zero]
  refine det_take 12 rfl (by decide +kernel) (by first | exact wanted_none rfl | exact wanted_some rfl rfl) (fun W hW => by first | (go_simp; done) | (go_simp; rfl)) ?_; simp only [Act.put, List.setIfInBounds_toArray, List.set_cons_succ, List.set_cons_zero]
  refine det_take 13 rfl (by decide +kernel) (by first | exact wanted_none rfl | exact wanted_some rfl rfl) (fun W hW => St.run_load hW 0 23 _ rfl Try.isAgg23 rfl rfl rfl) ?_; simp only [Act.put, List.setIfInBounds_toArray, List.set_cons_succ, List.set_cons_zero]
  refine det_take 14 rfl (by decide +kernel) (by first | exact wanted_none rfl | exact wanted_some rfl rfl) (fun W hW => by first | (go_simp; done) | (go_simp; rfl)) ?_; simp only [Act.put, List.setIfInBounds_toArray, List.set_cons_succ, List.set_cons_zero]
  refine det_call (fn := 26) 15 rfl (by decide +kernel) (by first | exact wanted_none rfl | exact wanted_some rfl rfl) (fun W => by first | (go_simp; done) | (go_simp; rfl)) (fun W hW => (ref_bytes1 W ((f.mail.label.length : Int)) ⟨by omega, by omega⟩).mono fun e w' h => ⟨h.1, hW.call h.2⟩) ?_; simp only [Act.put, List.setIfInBounds_toArray, List.set_cons_succ, List.set_cons_zero]
  refine det_take 16 rfl (by decide +kernel) (by first | exact wanted_none rfl | exact wanted_some rfl rfl) (fun W hW => by exact exec_add _ _ rfl ((([0] ++ headBytes f) ++ [b1 f.thread]) ++ [b1 f.mail.thread]) ([b1 (f.mail.label.length : Int)]) rfl rfl (by simp [headBytes, be_length]; try omega) W) ?_; simp only [Act.put, List.setIfInBounds_toArray, List.set_cons_succ, List.set_cons_zero]
  rw [show ((([0] ++ headBytes f) ++ [b1 f.thread]) ++ [b1 f.mail.thread]) ++ [b1 (f.mail.label.length : Int)] = mailHead f by simp [mailHead]]
  refine det_take 17 rfl (by decide +kernel) (by first | exact wanted_none rfl | exact wanted_some rfl rfl) (fun W hW => by first | (go_simp; done) | (go_simp; rfl)) ?_; simp only [Act.put, List.setIfInBounds_toArray, List.set_cons_succ, List.set_cons_zero]
  refine det_done (by decide +kernel) ?_
  clear st
  intro W st
  go_wp2_with (first | go_skip | (with_reducible refine at_load 23 ?_; (first | refine mem_load' st 23 _ rfl (wanted_none rfl) Try.isAgg23 ?_ | (refine mem_load' st 23 _ rfl (wanted_some rfl ?_) Try.isAgg23 ?_; focus (simp [yielded, Act.put]; done))); refine ⟨0, _, _, _, _, _, rfl, rfl, rfl, ?_⟩))
  have hstart : mailHead f = mailHead f ++ (f.mail.label.take 0).flatMap levBytes := by simp
  go_loopw [54, 6, 8] (fun i s _ wr => ∃ (k : Nat) (xs : List UInt8), k ≤ f.mail.label.length ∧ i = .int .i64 k ∧ s = .string ⟨xs.toArray⟩ ∧ St [] w wr [(g1, 29, [.int .i64 f.src, .int .i64 f.dst, .int .i64 f.seq, .bool false, .int .i64 f.thread, .int .i64 f.mail.host, .int .i64 f.mail.thread, .slice la f.mail.label.length lc, .slice ga f.mail.grants.length gc, .string f.mail.text, .slice ca f.certs.length cc])] ∧ Hid (xs = mailHead f ++ (f.mail.label.take k).flatMap levBytes)) (fun i _ _ _ => f.mail.label.length - (intOf i).toNat)
  case atStart => exact ⟨0, _, Nat.zero_le _, rfl, rfl, st, hstart⟩
  case round =>
    clear st hstart
    obtain ⟨k, xs, hk, rfl, rfl, st, HX⟩ := hrel
    have hln : xs.length ≤ 12 + 2 * k := by
      rw [HX.out, List.length_append, mailHead_len, flat_lev_len, List.length_take]; omega
    by_cases hlt : k < f.mail.label.length
    · obtain ⟨b, o, rfl, hb, _⟩ := (hA.below st.below).lev_at k hlt
      have hrow := (hA.below st.below).lev_row k hlt
      have hlv := HLV.out _ (List.getElem_mem hlt)
      rw [lvOk_iff] at hlv
      obtain ⟨q1, q2, q3, q4, -⟩ := hlv
      have HT := Lib.hid (show xs ++ levBytes f.mail.label[k] = mailHead f ++ (f.mail.label.take (k + 1)).flatMap levBytes by rw [HX.out, flatMap_take levBytes f.mail.label k hlt, List.append_assoc])
      generalize hx : f.mail.label[k] = x at hrow q1 q2 q3 q4 HT
      clear hx HX
      go_wp2_with (first | go_skip | (with_reducible refine at_load 51 ?_; refine wpList_load_cells (wanted_none rfl) 51 _ rfl Try.isAgg51 _ Try.sizeOf51 b (o + k * 2) rfl [.int .i64 x.c, .int .i64 x.l] rfl hrow ?_) | (with_reducible refine at_alloc 51 ?_; refine mem_alloc st (wanted_none rfl) 51 rfl _ Try.zeroValue51 _ rfl ?_; clear st; intro g11 w11 hg11 st hg11b; clear hg11b; simp [Act.eval, Act.put, Value.cells, putL] at st) | (with_reducible refine at_store 51 ?_; (first | refine mem_store' st 51 _ _ rfl (wanted_none rfl) _ Try.sizeOf51 ?_ | (refine mem_store' st 51 _ _ rfl (wanted_some rfl ?_) _ Try.sizeOf51 ?_; focus (simp [yielded, Act.put]; done))); refine ⟨1, _, _, _, _, _, rfl, rfl, rfl, rfl, rfl, rfl, ?_⟩; clear st; intro w12 st hw12m hw12z; simp [Act.eval, Act.put, Value.cells, putL] at st))
      refine det_region (by kernel_rfl) 10 rfl (fun W => St [] w W [(g1, 29, [.int .i64 f.src, .int .i64 f.dst, .int .i64 f.seq, .bool false, .int .i64 f.thread, .int .i64 f.mail.host, .int .i64 f.mail.thread, .slice (some ⟨b, o, none⟩) f.mail.label.length lc, .slice ga f.mail.grants.length gc, .string f.mail.text, .slice ca f.certs.length cc]), (g11, 51, [.int .i64 x.c, .int .i64 x.l])]) (st.drew) (by decide +kernel) ?_
      refine det_take 0 rfl (by decide +kernel) (by first | exact wanted_none rfl | exact wanted_some rfl rfl) (fun W hW => by first | (go_simp; done) | (go_simp; rfl)) ?_; simp only [Act.put, List.setIfInBounds_toArray, List.set_cons_succ, List.set_cons_zero]
      refine det_take 1 rfl (by decide +kernel) (by first | exact wanted_none rfl | exact wanted_some rfl rfl) (fun W hW => by first | (go_simp; done) | (go_simp; rfl)) ?_; simp only [Act.put, List.setIfInBounds_toArray, List.set_cons_succ, List.set_cons_zero]
      refine det_take 2 rfl (by decide +kernel) (by first | exact wanted_none rfl | exact wanted_some rfl rfl) (fun W hW => St.run_load hW 1 3 _ rfl Try.isAgg3 rfl rfl rfl) ?_; simp only [Act.put, List.setIfInBounds_toArray, List.set_cons_succ, List.set_cons_zero]
      refine det_call (fn := 26) 3 rfl (by decide +kernel) (by first | exact wanted_none rfl | exact wanted_some rfl rfl) (fun W => by first | (go_simp; done) | (go_simp; rfl)) (fun W hW => (ref_bytes1 W (x.c) ⟨by omega, by omega⟩).mono fun e w' h => ⟨h.1, hW.call h.2⟩) ?_; simp only [Act.put, List.setIfInBounds_toArray, List.set_cons_succ, List.set_cons_zero]
      refine det_take 4 rfl (by decide +kernel) (by first | exact wanted_none rfl | exact wanted_some rfl rfl) (fun W hW => by first | (go_simp; done) | (go_simp; rfl)) ?_; simp only [Act.put, List.setIfInBounds_toArray, List.set_cons_succ, List.set_cons_zero]
      refine det_take 5 rfl (by decide +kernel) (by first | exact wanted_none rfl | exact wanted_some rfl rfl) (fun W hW => St.run_load hW 1 3 _ rfl Try.isAgg3 rfl rfl rfl) ?_; simp only [Act.put, List.setIfInBounds_toArray, List.set_cons_succ, List.set_cons_zero]
      refine det_call (fn := 26) 6 rfl (by decide +kernel) (by first | exact wanted_none rfl | exact wanted_some rfl rfl) (fun W => by first | (go_simp; done) | (go_simp; rfl)) (fun W hW => (ref_bytes1 W (x.l) ⟨by omega, by omega⟩).mono fun e w' h => ⟨h.1, hW.call h.2⟩) ?_; simp only [Act.put, List.setIfInBounds_toArray, List.set_cons_succ, List.set_cons_zero]
      refine det_take 7 rfl (by decide +kernel) (by first | exact wanted_none rfl | exact wanted_some rfl rfl) (fun W hW => by exact exec_add _ _ rfl ([b1 x.c]) ([b1 x.l]) rfl rfl (by simp [headBytes, be_length]; try omega) W) ?_; simp only [Act.put, List.setIfInBounds_toArray, List.set_cons_succ, List.set_cons_zero]
      refine det_take 8 rfl (by decide +kernel) (by first | exact wanted_none rfl | exact wanted_some rfl rfl) (fun W hW => by exact exec_add _ _ rfl (xs) ([b1 x.c] ++ [b1 x.l]) rfl rfl (by simp [headBytes, be_length]; try omega) W) ?_; simp only [Act.put, List.setIfInBounds_toArray, List.set_cons_succ, List.set_cons_zero]
      rw [show xs ++ ([b1 x.c] ++ [b1 x.l]) = xs ++ levBytes x from rfl]
      generalize xs ++ levBytes x = ys at HT ⊢
      refine det_take 9 rfl (by decide +kernel) (by first | exact wanted_none rfl | exact wanted_some rfl rfl) (fun W hW => by first | (go_simp; done) | (go_simp; rfl)) ?_; simp only [Act.put, List.setIfInBounds_toArray, List.set_cons_succ, List.set_cons_zero]
      refine det_done (by decide +kernel) ?_
      clear st
      intro W st
      replace st := st.take 1
      simp only [List.take_succ_cons, List.take_zero] at st
      go_wp2
      go_roundw
      case rel => exact ⟨k + 1, _, hlt, by go_num, rfl, st, HT⟩
      case measure => simp [intOf]; omega
    · have hkn : f.mail.label.take k = f.mail.label := List.take_of_length_le (by omega)
      have HX1 := Lib.hid (show xs ++ [b1 (f.mail.grants.length : Int)] = mailMid f ++ (f.mail.grants.take 0).map b1 by rw [HX.out, hkn]; simp [mailMid])
      clear hkn HX
      go_wp2_with (first | go_skip | (with_reducible refine at_load 24 ?_; (first | refine mem_load' st 24 _ rfl (wanted_none rfl) Try.isAgg24 ?_ | (refine mem_load' st 24 _ rfl (wanted_some rfl ?_) Try.isAgg24 ?_; focus (simp [yielded, Act.put]; done))); refine ⟨0, _, _, _, _, _, rfl, rfl, rfl, ?_⟩) | (go_at_call 26; go_must (refine (ref_bytes1 _ ((f.mail.grants.length : Int)) ⟨by omega, by omega⟩).mono ?_; rintro e v2 ⟨rfl, hb2⟩; replace st := st.call hb2; clear hb2)) | (refine wpList_wanted (wanted_none rfl) fun K9 hK9 => wp_value (exec_add _ _ rfl (xs) ([b1 (f.mail.grants.length : Int)]) rfl rfl (by simp; omega) _) (hK9 _ _ ?_); clear hK9 K9))
      generalize xs ++ [b1 (f.mail.grants.length : Int)] = xs at HX1
      clear hln hlt hk
      go_loopw [79, 6, 10] (fun i s _ wr => ∃ (k : Nat) (xs : List UInt8), k ≤ f.mail.grants.length ∧ i = .int .i64 k ∧ s = .string ⟨xs.toArray⟩ ∧ St [] w wr [(g1, 29, [.int .i64 f.src, .int .i64 f.dst, .int .i64 f.seq, .bool false, .int .i64 f.thread, .int .i64 f.mail.host, .int .i64 f.mail.thread, .slice la f.mail.label.length lc, .slice ga f.mail.grants.length gc, .string f.mail.text, .slice ca f.certs.length cc])] ∧ Hid (xs = mailMid f ++ (f.mail.grants.take k).map b1)) (fun i _ _ _ => f.mail.grants.length - (intOf i).toNat)
      case atStart => exact ⟨0, _, Nat.zero_le _, rfl, rfl, st, HX1⟩
      case round =>
        clear st HX1
        obtain ⟨k, xs, hk, rfl, rfl, st, HX⟩ := hrel
        have hln : xs.length ≤ 13 + 2 * f.mail.label.length + k := by
          rw [HX.out, List.length_append, mailMid_len, List.length_map, List.length_take]; omega
        by_cases hlt : k < f.mail.grants.length
        · obtain ⟨b, o, rfl, hb, hc1⟩ := (hB.below st.below).int_at k hlt
          obtain ⟨q1, q2⟩ := HGV.out _ (List.getElem_mem hlt)
          have HT := Lib.hid (show xs ++ [b1 f.mail.grants[k]] = mailMid f ++ (f.mail.grants.take (k + 1)).map b1 by rw [HX.out, map_take b1 f.mail.grants k hlt, List.append_assoc])
          generalize hx : f.mail.grants[k] = x at hc1 q1 q2 HT
          clear hx HX
          go_wp2_with (first | go_skip | (go_at_call 26; go_must (refine (ref_bytes1 _ (x) ⟨by omega, by omega⟩).mono ?_; rintro e v2 ⟨rfl, hb2⟩; replace st := st.call hb2; clear hb2)) | (refine wpList_wanted (wanted_none rfl) fun K9 hK9 => wp_value (exec_add _ _ rfl (xs) ([b1 x]) rfl rfl (by simp; omega) _) (hK9 _ _ ?_); clear hK9 K9))
          go_roundw
          case rel => exact ⟨k + 1, _, hlt, by go_num, rfl, st, HT⟩
          case measure => simp [intOf]; omega
        · have hkn : f.mail.grants.take k = f.mail.grants := List.take_of_length_le (by omega)
          have HX1 := Lib.hid (show xs ++ (([b1 (f.mail.text.size : Int)] ++ f.mail.text.data.toList) ++ [b1 (f.certs.length : Int)]) = mailText f ++ (f.certs.take 0).flatMap certBytes by rw [HX.out, hkn]; simp [mailText])
          have htl := text_len f.mail.text
          clear hkn HX
          go_wp2
          refine det_region (by kernel_rfl) 17 rfl (fun W => St [] w W [(g1, 29, [.int .i64 f.src, .int .i64 f.dst, .int .i64 f.seq, .bool false, .int .i64 f.thread, .int .i64 f.mail.host, .int .i64 f.mail.thread, .slice la f.mail.label.length lc, .slice ga f.mail.grants.length gc, .string f.mail.text, .slice ca f.certs.length cc])]) (st.drew) (by decide +kernel) ?_
          refine det_take 0 rfl (by decide +kernel) (by first | exact wanted_none rfl | exact wanted_some rfl rfl) (fun W hW => by first | (go_simp; done) | (go_simp; rfl)) ?_; simp only [Act.put, List.setIfInBounds_toArray, List.set_cons_succ, List.set_cons_zero]
          refine det_take 1 rfl (by decide +kernel) (by first | exact wanted_none rfl | exact wanted_some rfl rfl) (fun W hW => by first | (go_simp; done) | (go_simp; rfl)) ?_; simp only [Act.put, List.setIfInBounds_toArray, List.set_cons_succ, List.set_cons_zero]
          refine det_take 2 rfl (by decide +kernel) (by first | exact wanted_none rfl | exact wanted_some rfl rfl) (fun W hW => by first | (go_simp; done) | (go_simp; rfl)) ?_; simp only [Act.put, List.setIfInBounds_toArray, List.set_cons_succ, List.set_cons_zero]
          refine det_take 3 rfl (by decide +kernel) (by first | exact wanted_none rfl | exact wanted_some rfl rfl) (fun W hW => St.run_load hW 0 9 _ rfl Try.isAgg9 rfl rfl rfl) ?_; simp only [Act.put, List.setIfInBounds_toArray, List.set_cons_succ, List.set_cons_zero]
          refine det_take 4 rfl (by decide +kernel) (by first | exact wanted_none rfl | exact wanted_some rfl rfl) (fun W hW => by first | (go_simp; done) | (go_simp; rfl)) ?_; simp only [Act.put, List.setIfInBounds_toArray, List.set_cons_succ, List.set_cons_zero]
          refine det_call (fn := 26) 5 rfl (by decide +kernel) (by first | exact wanted_none rfl | exact wanted_some rfl rfl) (fun W => by first | (go_simp; done) | (go_simp; rfl)) (fun W hW => (ref_bytes1 W ((f.mail.text.size : Int)) ⟨by omega, by omega⟩).mono fun e w' h => ⟨h.1, hW.call h.2⟩) ?_; simp only [Act.put, List.setIfInBounds_toArray, List.set_cons_succ, List.set_cons_zero]
          refine det_take 6 rfl (by decide +kernel) (by first | exact wanted_none rfl | exact wanted_some rfl rfl) (fun W hW => by first | (go_simp; done) | (go_simp; rfl)) ?_; simp only [Act.put, List.setIfInBounds_toArray, List.set_cons_succ, List.set_cons_zero]
          refine det_take 7 rfl (by decide +kernel) (by first | exact wanted_none rfl | exact wanted_some rfl rfl) (fun W hW => by first | (go_simp; done) | (go_simp; rfl)) ?_; simp only [Act.put, List.setIfInBounds_toArray, List.set_cons_succ, List.set_cons_zero]
          refine det_take 8 rfl (by decide +kernel) (by first | exact wanted_none rfl | exact wanted_some rfl rfl) (fun W hW => St.run_load hW 0 9 _ rfl Try.isAgg9 rfl rfl rfl) ?_; simp only [Act.put, List.setIfInBounds_toArray, List.set_cons_succ, List.set_cons_zero]
          refine det_take 9 rfl (by decide +kernel) (by first | exact wanted_none rfl | exact wanted_some rfl rfl) (fun W hW => by exact exec_add _ _ rfl ([b1 (f.mail.text.size : Int)]) (f.mail.text.data.toList) rfl rfl (by simp [headBytes, be_length]; try omega) W) ?_; simp only [Act.put, List.setIfInBounds_toArray, List.set_cons_succ, List.set_cons_zero]
          refine det_take 10 rfl (by decide +kernel) (by first | exact wanted_none rfl | exact wanted_some rfl rfl) (fun W hW => by first | (go_simp; done) | (go_simp; rfl)) ?_; simp only [Act.put, List.setIfInBounds_toArray, List.set_cons_succ, List.set_cons_zero]
          refine det_take 11 rfl (by decide +kernel) (by first | exact wanted_none rfl | exact wanted_some rfl rfl) (fun W hW => St.run_load hW 0 27 _ rfl Try.isAgg27 rfl rfl rfl) ?_; simp only [Act.put, List.setIfInBounds_toArray, List.set_cons_succ, List.set_cons_zero]
          refine det_take 12 rfl (by decide +kernel) (by first | exact wanted_none rfl | exact wanted_some rfl rfl) (fun W hW => by first | (go_simp; done) | (go_simp; rfl)) ?_; simp only [Act.put, List.setIfInBounds_toArray, List.set_cons_succ, List.set_cons_zero]
          refine det_call (fn := 26) 13 rfl (by decide +kernel) (by first | exact wanted_none rfl | exact wanted_some rfl rfl) (fun W => by first | (go_simp; done) | (go_simp; rfl)) (fun W hW => (ref_bytes1 W ((f.certs.length : Int)) ⟨by omega, by omega⟩).mono fun e w' h => ⟨h.1, hW.call h.2⟩) ?_; simp only [Act.put, List.setIfInBounds_toArray, List.set_cons_succ, List.set_cons_zero]
          refine det_take 14 rfl (by decide +kernel) (by first | exact wanted_none rfl | exact wanted_some rfl rfl) (fun W hW => by exact exec_add _ _ rfl ([b1 (f.mail.text.size : Int)] ++ f.mail.text.data.toList) ([b1 (f.certs.length : Int)]) rfl rfl (by simp [headBytes, be_length]; try omega) W) ?_; simp only [Act.put, List.setIfInBounds_toArray, List.set_cons_succ, List.set_cons_zero]
          refine det_take 15 rfl (by decide +kernel) (by first | exact wanted_none rfl | exact wanted_some rfl rfl) (fun W hW => by exact exec_add _ _ rfl (xs) (([b1 (f.mail.text.size : Int)] ++ f.mail.text.data.toList) ++ [b1 (f.certs.length : Int)]) rfl rfl (by simp [headBytes, be_length]; try omega) W) ?_; simp only [Act.put, List.setIfInBounds_toArray, List.set_cons_succ, List.set_cons_zero]
          generalize xs ++ (([b1 (f.mail.text.size : Int)] ++ f.mail.text.data.toList) ++ [b1 (f.certs.length : Int)]) = xs at HX1 ⊢
          refine det_take 16 rfl (by decide +kernel) (by first | exact wanted_none rfl | exact wanted_some rfl rfl) (fun W hW => by first | (go_simp; done) | (go_simp; rfl)) ?_; simp only [Act.put, List.setIfInBounds_toArray, List.set_cons_succ, List.set_cons_zero]
          refine det_done (by decide +kernel) ?_
          clear st
          intro W st
          clear htl
          go_wp2_with (first | go_skip | (with_reducible refine at_load 27 ?_; (first | refine mem_load' st 27 _ rfl (wanted_none rfl) Try.isAgg27 ?_ | (refine mem_load' st 27 _ rfl (wanted_some rfl ?_) Try.isAgg27 ?_; focus (simp [yielded, Act.put]; done))); refine ⟨0, _, _, _, _, _, rfl, rfl, rfl, ?_⟩))
          clear hln hlt hk
          go_loopw [107, 6, 12] (fun i s _ wr => ∃ (k : Nat) (xs : List UInt8), k ≤ f.certs.length ∧ i = .int .i64 k ∧ s = .string ⟨xs.toArray⟩ ∧ St [] w wr [(g1, 29, [.int .i64 f.src, .int .i64 f.dst, .int .i64 f.seq, .bool false, .int .i64 f.thread, .int .i64 f.mail.host, .int .i64 f.mail.thread, .slice la f.mail.label.length lc, .slice ga f.mail.grants.length gc, .string f.mail.text, .slice ca f.certs.length cc])] ∧ Hid (xs = mailText f ++ (f.certs.take k).flatMap certBytes)) (fun i _ _ _ => f.certs.length - (intOf i).toNat)
          case atStart => exact ⟨0, _, Nat.zero_le _, rfl, rfl, st, HX1⟩
          case round =>
            clear st HX1
            obtain ⟨k, xs, hk, rfl, rfl, st, HX⟩ := hrel
            have hln : xs.length ≤ 15 + 2 * f.mail.label.length + f.mail.grants.length + f.mail.text.size + 9 * k := by
              rw [HX.out, List.length_append, mailText_len, flat_cert_len, List.length_take]; omega
            by_cases hlt : k < f.certs.length
            · obtain ⟨b, o, rfl, hb, _⟩ := (hC.below st.below).cert_at k hlt
              have hrow := (hC.below st.below).cert_row k hlt
              have hgc := cert_facts (HCS.out _ (List.getElem_mem hlt))
              obtain ⟨⟨q1, q2⟩, ⟨q3, q4⟩, ⟨q5, q6⟩, -, q7, q8⟩ := hgc
              have HT := Lib.hid (show xs ++ certBytes f.certs[k] = mailText f ++ (f.certs.take (k + 1)).flatMap certBytes by rw [HX.out, flatMap_take certBytes f.certs k hlt, List.append_assoc])
              generalize hx : f.certs[k] = x at hrow q1 q2 q3 q4 q5 q6 q7 q8 HT
              clear hx HX
              go_wp2_with (first | go_skip | (with_reducible refine at_load 39 ?_; refine wpList_load_cells (wanted_none rfl) 39 _ rfl Try.isAgg39 _ Try.sizeOf39 b (o + k * 4) rfl [.int .i64 x.c, .int .i64 x.by_, .int .i64 x.host, .int .i64 x.till] rfl hrow ?_) | (with_reducible refine at_alloc 39 ?_; refine mem_alloc st (wanted_none rfl) 39 rfl _ Try.zeroValue39 _ rfl ?_; clear st; intro g21 w21 hg21 st hg21b; clear hg21b; simp [Act.eval, Act.put, Value.cells, putL] at st) | (with_reducible refine at_store 39 ?_; (first | refine mem_store' st 39 _ _ rfl (wanted_none rfl) _ Try.sizeOf39 ?_ | (refine mem_store' st 39 _ _ rfl (wanted_some rfl ?_) _ Try.sizeOf39 ?_; focus (simp [yielded, Act.put]; done))); refine ⟨1, _, _, _, _, _, rfl, rfl, rfl, rfl, rfl, rfl, ?_⟩; clear st; intro w22 st hw22m hw22z; simp [Act.eval, Act.put, Value.cells, putL] at st))
              refine det_region (by kernel_rfl) 18 rfl (fun W => St [] w W [(g1, 29, [.int .i64 f.src, .int .i64 f.dst, .int .i64 f.seq, .bool false, .int .i64 f.thread, .int .i64 f.mail.host, .int .i64 f.mail.thread, .slice la f.mail.label.length lc, .slice ga f.mail.grants.length gc, .string f.mail.text, .slice (some ⟨b, o, none⟩) f.certs.length cc]), (g21, 39, [.int .i64 x.c, .int .i64 x.by_, .int .i64 x.host, .int .i64 x.till])]) (st.drew) (by decide +kernel) ?_
              refine det_take 0 rfl (by decide +kernel) (by first | exact wanted_none rfl | exact wanted_some rfl rfl) (fun W hW => by first | (go_simp; done) | (go_simp; rfl)) ?_; simp only [Act.put, List.setIfInBounds_toArray, List.set_cons_succ, List.set_cons_zero]
              refine det_take 1 rfl (by decide +kernel) (by first | exact wanted_none rfl | exact wanted_some rfl rfl) (fun W hW => by first | (go_simp; done) | (go_simp; rfl)) ?_; simp only [Act.put, List.setIfInBounds_toArray, List.set_cons_succ, List.set_cons_zero]
              refine det_take 2 rfl (by decide +kernel) (by first | exact wanted_none rfl | exact wanted_some rfl rfl) (fun W hW => St.run_load hW 1 3 _ rfl Try.isAgg3 rfl rfl rfl) ?_; simp only [Act.put, List.setIfInBounds_toArray, List.set_cons_succ, List.set_cons_zero]
              refine det_call (fn := 26) 3 rfl (by decide +kernel) (by first | exact wanted_none rfl | exact wanted_some rfl rfl) (fun W => by first | (go_simp; done) | (go_simp; rfl)) (fun W hW => (ref_bytes1 W (x.c) ⟨by omega, by omega⟩).mono fun e w' h => ⟨h.1, hW.call h.2⟩) ?_; simp only [Act.put, List.setIfInBounds_toArray, List.set_cons_succ, List.set_cons_zero]
              refine det_take 4 rfl (by decide +kernel) (by first | exact wanted_none rfl | exact wanted_some rfl rfl) (fun W hW => by first | (go_simp; done) | (go_simp; rfl)) ?_; simp only [Act.put, List.setIfInBounds_toArray, List.set_cons_succ, List.set_cons_zero]
              refine det_take 5 rfl (by decide +kernel) (by first | exact wanted_none rfl | exact wanted_some rfl rfl) (fun W hW => St.run_load hW 1 3 _ rfl Try.isAgg3 rfl rfl rfl) ?_; simp only [Act.put, List.setIfInBounds_toArray, List.set_cons_succ, List.set_cons_zero]
              refine det_call (fn := 26) 6 rfl (by decide +kernel) (by first | exact wanted_none rfl | exact wanted_some rfl rfl) (fun W => by first | (go_simp; done) | (go_simp; rfl)) (fun W hW => (ref_bytes1 W (x.by_) ⟨by omega, by omega⟩).mono fun e w' h => ⟨h.1, hW.call h.2⟩) ?_; simp only [Act.put, List.setIfInBounds_toArray, List.set_cons_succ, List.set_cons_zero]
              refine det_take 7 rfl (by decide +kernel) (by first | exact wanted_none rfl | exact wanted_some rfl rfl) (fun W hW => by exact exec_add _ _ rfl ([b1 x.c]) ([b1 x.by_]) rfl rfl (by simp [headBytes, be_length]; try omega) W) ?_; simp only [Act.put, List.setIfInBounds_toArray, List.set_cons_succ, List.set_cons_zero]
              refine det_take 8 rfl (by decide +kernel) (by first | exact wanted_none rfl | exact wanted_some rfl rfl) (fun W hW => by first | (go_simp; done) | (go_simp; rfl)) ?_; simp only [Act.put, List.setIfInBounds_toArray, List.set_cons_succ, List.set_cons_zero]
              refine det_take 9 rfl (by decide +kernel) (by first | exact wanted_none rfl | exact wanted_some rfl rfl) (fun W hW => St.run_load hW 1 3 _ rfl Try.isAgg3 rfl rfl rfl) ?_; simp only [Act.put, List.setIfInBounds_toArray, List.set_cons_succ, List.set_cons_zero]
              refine det_call (fn := 26) 10 rfl (by decide +kernel) (by first | exact wanted_none rfl | exact wanted_some rfl rfl) (fun W => by first | (go_simp; done) | (go_simp; rfl)) (fun W hW => (ref_bytes1 W (x.host) ⟨by omega, by omega⟩).mono fun e w' h => ⟨h.1, hW.call h.2⟩) ?_; simp only [Act.put, List.setIfInBounds_toArray, List.set_cons_succ, List.set_cons_zero]
              refine det_take 11 rfl (by decide +kernel) (by first | exact wanted_none rfl | exact wanted_some rfl rfl) (fun W hW => by exact exec_add _ _ rfl ([b1 x.c] ++ [b1 x.by_]) ([b1 x.host]) rfl rfl (by simp [headBytes, be_length]; try omega) W) ?_; simp only [Act.put, List.setIfInBounds_toArray, List.set_cons_succ, List.set_cons_zero]
              refine det_take 12 rfl (by decide +kernel) (by first | exact wanted_none rfl | exact wanted_some rfl rfl) (fun W hW => by first | (go_simp; done) | (go_simp; rfl)) ?_; simp only [Act.put, List.setIfInBounds_toArray, List.set_cons_succ, List.set_cons_zero]
              refine det_take 13 rfl (by decide +kernel) (by first | exact wanted_none rfl | exact wanted_some rfl rfl) (fun W hW => St.run_load hW 1 3 _ rfl Try.isAgg3 rfl rfl rfl) ?_; simp only [Act.put, List.setIfInBounds_toArray, List.set_cons_succ, List.set_cons_zero]
              refine det_call (fn := 26) 14 rfl (by decide +kernel) (by first | exact wanted_none rfl | exact wanted_some rfl rfl) (fun W => by first | (go_simp; done) | (go_simp; rfl)) (fun W hW => (ref_bytes6 W (x.till) ⟨by omega, by omega⟩).mono fun e w' h => ⟨h.1, hW.call h.2⟩) ?_; simp only [Act.put, List.setIfInBounds_toArray, List.set_cons_succ, List.set_cons_zero]
              refine det_take 15 rfl (by decide +kernel) (by first | exact wanted_none rfl | exact wanted_some rfl rfl) (fun W hW => by exact exec_add _ _ rfl (([b1 x.c] ++ [b1 x.by_]) ++ [b1 x.host]) (be x.till 6) rfl rfl (by simp [headBytes, be_length]; try omega) W) ?_; simp only [Act.put, List.setIfInBounds_toArray, List.set_cons_succ, List.set_cons_zero]
              refine det_take 16 rfl (by decide +kernel) (by first | exact wanted_none rfl | exact wanted_some rfl rfl) (fun W hW => by exact exec_add _ _ rfl (xs) ((([b1 x.c] ++ [b1 x.by_]) ++ [b1 x.host]) ++ be x.till 6) rfl rfl (by simp [headBytes, be_length]; try omega) W) ?_; simp only [Act.put, List.setIfInBounds_toArray, List.set_cons_succ, List.set_cons_zero]
              rw [show xs ++ ((([b1 x.c] ++ [b1 x.by_]) ++ [b1 x.host]) ++ be x.till 6) = xs ++ certBytes x from rfl]
              generalize xs ++ certBytes x = ys at HT ⊢
              refine det_take 17 rfl (by decide +kernel) (by first | exact wanted_none rfl | exact wanted_some rfl rfl) (fun W hW => by first | (go_simp; done) | (go_simp; rfl)) ?_; simp only [Act.put, List.setIfInBounds_toArray, List.set_cons_succ, List.set_cons_zero]
              refine det_done (by decide +kernel) ?_
              clear st
              intro W st
              replace st := st.take 1
              simp only [List.take_succ_cons, List.take_zero] at st
              go_wp2
              go_roundw
              case rel => exact ⟨k + 1, _, hlt, by go_num, rfl, st, HT⟩
              case measure => simp [intOf]; omega
            · have hkn : f.certs.take k = f.certs := List.take_of_length_le (by omega)
              rw [hkn, ← HE.out] at HX
              have HX2 := HX.out
              subst HX2
              clear hkn HX
              go_wp2
              go_ret2
              exact ⟨rfl, st.below⟩

end Go.Proofs.Ytemjnojfhbbapaa

/- wire.Encode and the document's, as one contract each; does wire answer at all? -/
namespace Go.Proofs.Ytemjnojfhbbapaa
open Go.RowKit

theorem wire_Encode (ok : Nat → Prop) (w : World) (f : Frame) (la : Option Addr) (lc : Nat) (ga : Option Addr) (gc : Nat) (ca : Option Addr) (cc : Nat) (hf : f.FitsW) (hR : FrameR ok w f la lc ga gc ca cc) :
    Calls Try.prog 8 #[frameV f la lc ga gc ca cc] w fun e w' => e = .returned (.tuple #[.string (encR f).1, .int .i64 (encR f).2]) ∧ Below w.heap.size w w' := by
  unfold encR
  by_cases h : goodFrameC f = 0
  · rw [if_pos h]
    cases hk : f.ack
    · exact wire_Encode_mail ok w f la lc ga gc ca cc hf hR h hk
    · exact wire_Encode_ack ok w f la lc ga gc ca cc hf hR h hk
  · rw [if_neg h]
    exact wire_Encode_bad ok w f la lc ga gc ca cc hf hR h

theorem ref_Encode (ok : Nat → Prop) (w : World) (f : Frame) (la : Option Addr) (lc : Nat) (ga : Option Addr) (gc : Nat) (ca : Option Addr) (cc : Nat) (hf : f.FitsW) (hR : FrameR ok w f la lc ga gc ca cc) :
    Calls Try.prog 10 #[frameV f la lc ga gc ca cc] w fun e w' => e = .returned (.tuple #[.string (encR f).1, .int .i64 (encR f).2]) ∧ Below w.heap.size w w' := by
  unfold encR
  by_cases h : goodFrameC f = 0
  · rw [if_pos h]
    cases hk : f.ack
    · exact ref_Encode_mail ok w f la lc ga gc ca cc hf hR h hk
    · exact ref_Encode_ack ok w f la lc ga gc ca cc hf hR h hk
  · rw [if_neg h]
    exact ref_Encode_bad ok w f la lc ga gc ca cc hf hR h

def frame9 : Frame := ⟨0, 1, 1, true, 0, ⟨0, 0, [], [], ⟨#[]⟩⟩, []⟩
theorem frame9_good : goodFrameC frame9 = 0 := by decide
theorem frame9_enc : encL frame9 = [1, 0, 1, 0, 0, 0, 0, 0, 1] := by decide

set_option maxRecDepth 100000 in
set_option maxHeartbeats 1000000 in
theorem codes_law (w : World) : Calls Try.prog 18 #[] w fun e w' => e = .returned (.bool true) ∧ Below w.heap.size w w' := by
  have HE := Lib.hid (fun W : World => wire_Encode_ack (fun _ => True) W frame9 none 0 none 0 none 0 ⟨by decide, by decide, by decide, by decide⟩ ⟨⟨SlR.nil _ _ _ _, SlR.nil _ _ _ _⟩, SlR.nil _ _ _ _⟩ frame9_good rfl)
  rw [frame9_enc] at HE
  unfold frameV frame9 at HE
  go_enter Try.func18, Try.ntmps18
  go_wp2_with fail
  refine (HE.out _).mono ?_
  rintro e v2 ⟨rfl, hb2⟩
  go_wp2
  go_ret
  exact ⟨rfl, hb2⟩

set_option maxRecDepth 100000 in
set_option maxHeartbeats 1000000 in
theorem codes_keep (w : World) : Calls Try.prog 22 #[] w fun e w' => e = .returned (.bool true) ∧ Below w.heap.size w w' := by
  have HE := Lib.hid (fun W : World => wire_Encode_ack (fun _ => True) W frame9 none 0 none 0 none 0 ⟨by decide, by decide, by decide, by decide⟩ ⟨⟨SlR.nil _ _ _ _, SlR.nil _ _ _ _⟩, SlR.nil _ _ _ _⟩ frame9_good rfl)
  rw [frame9_enc] at HE
  unfold frameV frame9 at HE
  go_enter Try.func22, Try.ntmps22
  go_wp2_with fail
  refine (HE.out _).mono ?_
  rintro e v2 ⟨rfl, hb2⟩
  go_wp2
  go_ret
  exact ⟨rfl, hb2⟩

end Go.Proofs.Ytemjnojfhbbapaa
