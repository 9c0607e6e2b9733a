/- For every frame, Good, GoodMail, GoodCert and Encode answer exactly what P2.1 to P2.3 say, errors too. No condition. -/
import Derived.Test.YtemjnojfhbbapaaRows
import Derived.WalkKit
import Derived.ProofKit
import Derived.OpenShut
import Derived.SizedLaws
import Derived.Test.YtemjnojfhbbapaaP2
import Derived.Test.YtemjnojfhbbapaaP5
import Derived.Test.YtemjnojfhbbapaaP11
set_option linter.unusedSimpArgs false
set_option linter.unusedVariables false
namespace Go.Proofs.Ytemjnojfhbbapaa.wireEncodes
open Go.ChangeShapes Go.WideShapes Go.ChangeAt Go.RowKit

set_option maxRecDepth 100000 in
set_option maxHeartbeats 6000000 in
theorem walk (w : World) (f : Frame) (la : Option Addr) (lc : Nat) (ga : Option Addr) (gc : Nat) (ca : Option Addr) (cc : Nat) (hf : f.Fits) (hfw : f.FitsW) (hR : FrameR (fun _ => True) w f la lc ga gc ca cc) :
    Calls Try.prog 3 #[frameV f la lc ga gc ca cc] w fun r w' => r = .returned (.bool true) ∧ Below w.heap.size w w' := by
  have HE1 := Lib.hid (fun (W : World) (a1 : Option Addr) (k1 : Nat) (a2 : Option Addr) (k2 : Nat) (a3 : Option Addr) (k3 : Nat) (h : FrameR (fun _ => True) W f a1 k1 a2 k2 a3 k3) => wire_Encode (fun _ => True) W f a1 k1 a2 k2 a3 k3 hfw h)
  have HE2 := Lib.hid (fun (W : World) (h : FrameR (fun _ => True) W f la lc ga gc ca cc) => ref_Encode (fun _ => True) W f la lc ga gc ca cc hfw h)
  have hcl : f.certs.length ≤ 9223372036854775807 := by have h1 := hR.certs.1; have h2 := hR.certs.2.1; unfold maxLen at h2; omega
  generalize hS : (encR f).1 = S at HE1 HE2
  generalize hq : (encR f).2 = q at HE1 HE2
  clear hS hq
  have st := St.start w
  unfold frameV at *
  go_enter Try.func3, Try.ntmps3
  go_wp2_with (first | go_skip | (with_reducible refine at_box 29 ?_; refine mem_box st (wanted_none rfl) 29 _ rfl _ rfl _ rfl ?_; clear st; intro g1 w1 hg1 st hg1b; clear hg1b; simp [Act.eval, Act.put, Value.cells, putL] at st) | (with_reducible refine at_load 29 ?_; (first | refine mem_load_agg' st 29 _ rfl (wanted_none rfl) Try.isAgg29 _ Try.sizeOf29 ?_ | (refine mem_load_agg' st 29 _ rfl (wanted_some rfl ?_) Try.isAgg29 _ Try.sizeOf29 ?_; focus (simp [yielded, Act.put]; done))); refine ⟨0, _, _, _, _, _, rfl, rfl, rfl, rfl, ?_⟩))
  refine (ref_CopyFrame (fun _ => True) _ f la lc ga gc ca cc (hR.below st.below).mail.label (hR.below st.below).mail.grants (hR.below st.below).certs hf).mono ?_
  rintro e v2 ⟨a1, k1, a2, k2, a3, k3, rfl, hb2, hA2, hB2, hC2⟩
  have hR2 : FrameR (fun _ => True) v2 f a1 k1 a2 k2 a3 k3 := ⟨⟨hA2.okay fun _ _ => trivial, hB2.okay fun _ _ => trivial⟩, hC2.okay fun _ _ => trivial⟩
  replace st := st.call hb2
  clear hb2 hA2 hB2 hC2
  unfold frameV
  go_wp2_with fail
  refine (HE1.out _ a1 k1 a2 k2 a3 k3 hR2).mono ?_
  rintro e v3 ⟨rfl, hb3⟩
  replace st := st.call hb3
  clear hb3 hR2
  go_wp2_with (first | go_skip | (with_reducible refine at_load 29 ?_; (first | refine mem_load_agg' st 29 _ rfl (wanted_none rfl) Try.isAgg29 _ Try.sizeOf29 ?_ | (refine mem_load_agg' st 29 _ rfl (wanted_some rfl ?_) Try.isAgg29 _ Try.sizeOf29 ?_; focus (simp [yielded, Act.put]; done))); refine ⟨0, _, _, _, _, _, rfl, rfl, rfl, rfl, ?_⟩))
  refine (HE2.out _ (hR.below st.below)).mono ?_
  rintro e wr0 ⟨rfl, hb4⟩
  replace st := st.call hb4
  clear hb4
  go_wp2
  have hR1 := hR.below st.below
  refine wp_region_ahead (by kernel_rfl) [(0, some 19), (1, some 20), (2, some 21), (3, some 22), (4, some 23), (5, some 24), (6, some 25), (7, some 26), (8, some 27), (9, some 28), (10, some 29), (11, some 30), (12, some 31), (13, some 32), (14, some 33), (15, some 34), (16, some 35), (17, some 36), (18, some 37), (19, some 38), (20, some 39), (21, some 40), (22, some 41), (23, some 42), (24, some 43), (25, some 44)] [0, 1, 2, 3, 4, 5, 6, 7, 8, 9, 10, 11, 12, 13, 14, 15, 16, 17, 18, 19, 20, 21, 22, 23, 24, 25] rfl 0 (by decide +kernel) rfl (fun W W' => Below W.heap.size W W') (fun i v W => match i with
    | 0 => v = .string S
    | 1 => v = .string S
    | 2 => v = .bool false
    | 3 => v = .bool false
    | 4 => v = .int .i64 q
    | 5 => v = .int .i64 q
    | 6 => v = .bool false
    | 7 => v = .bool false
    | 8 => v = .bool false
    | 9 => v = .agg #[.int .i64 f.src, .int .i64 f.dst, .int .i64 f.seq, .bool f.ack, .int .i64 f.thread, .int .i64 f.mail.host, .int .i64 f.mail.thread, .slice la f.mail.label.length lc, .slice ga f.mail.grants.length gc, .string f.mail.text, .slice ca f.certs.length cc]
    | 10 => ∃ a1 k1 a2 k2 a3 k3, v = frameV f a1 k1 a2 k2 a3 k3 ∧ FrameR (fun _ => True) W f a1 k1 a2 k2 a3 k3
    | 11 => v = .int .i64 (goodFrameC f)
    | 12 => v = .agg #[.int .i64 f.src, .int .i64 f.dst, .int .i64 f.seq, .bool f.ack, .int .i64 f.thread, .int .i64 f.mail.host, .int .i64 f.mail.thread, .slice la f.mail.label.length lc, .slice ga f.mail.grants.length gc, .string f.mail.text, .slice ca f.certs.length cc]
    | 13 => v = .int .i64 (goodFrameC f)
    | 14 => v = .bool false
    | 15 => v = .bool false
    | 16 => v = .bool false
    | 17 => v = .pointer (some ⟨g1, 5, none⟩)
    | 18 => v = .agg #[.int .i64 f.mail.host, .int .i64 f.mail.thread, .slice la f.mail.label.length lc, .slice ga f.mail.grants.length gc, .string f.mail.text]
    | 19 => ∃ a1 k1 a2 k2, v = mailV f.mail a1 k1 a2 k2 ∧ MailR (fun _ => True) W f.mail a1 k1 a2 k2
    | 20 => v = .int .i64 (goodMailC f.mail)
    | 21 => v = .pointer (some ⟨g1, 5, none⟩)
    | 22 => v = .agg #[.int .i64 f.mail.host, .int .i64 f.mail.thread, .slice la f.mail.label.length lc, .slice ga f.mail.grants.length gc, .string f.mail.text]
    | 23 => v = .int .i64 (goodMailC f.mail)
    | 24 => v = .bool false
    | _ => v = .bool false)
    (fun W => Below wr0.heap.size wr0 W) (Below.refl _ _).drew ?mono ?step ?fin
  case mono =>
    intro i v U U' hi hb _ _ h
    simp only [List.mem_cons, List.not_mem_nil, or_false] at hi
    rcases hi with rfl | rfl | rfl | rfl | rfl | rfl | rfl | rfl | rfl | rfl | rfl | rfl | rfl | rfl | rfl | rfl | rfl | rfl | rfl | rfl | rfl | rfl | rfl | rfl | rfl | rfl
    · exact h
    · exact h
    · exact h
    · exact h
    · exact h
    · exact h
    · exact h
    · exact h
    · exact h
    · exact h
    · obtain ⟨a1, k1, a2, k2, a3, k3, e, h⟩ := h; exact ⟨a1, k1, a2, k2, a3, k3, e, h.below hb⟩
    · exact h
    · exact h
    · exact h
    · exact h
    · exact h
    · exact h
    · exact h
    · exact h
    · obtain ⟨a1, k1, a2, k2, e, h⟩ := h; exact ⟨a1, k1, a2, k2, e, h.below hb⟩
    · exact h
    · exact h
    · exact h
    · exact h
    · exact h
    · exact h
  case step =>
    intro i t hi x W hI hp K hK
    have stW := st.call hI
    simp only [putAll, Act.put, List.setIfInBounds_toArray, List.set_cons_succ, List.set_cons_zero] at hK ⊢
    simp only [List.mem_cons, List.not_mem_nil, or_false, Prod.mk.injEq] at hi
    rcases hi with ⟨rfl, rfl⟩ | ⟨rfl, rfl⟩ | ⟨rfl, rfl⟩ | ⟨rfl, rfl⟩ | ⟨rfl, rfl⟩ | ⟨rfl, rfl⟩ | ⟨rfl, rfl⟩ | ⟨rfl, rfl⟩ | ⟨rfl, rfl⟩ | ⟨rfl, rfl⟩ | ⟨rfl, rfl⟩ | ⟨rfl, rfl⟩ | ⟨rfl, rfl⟩ | ⟨rfl, rfl⟩ | ⟨rfl, rfl⟩ | ⟨rfl, rfl⟩ | ⟨rfl, rfl⟩ | ⟨rfl, rfl⟩ | ⟨rfl, rfl⟩ | ⟨rfl, rfl⟩ | ⟨rfl, rfl⟩ | ⟨rfl, rfl⟩ | ⟨rfl, rfl⟩ | ⟨rfl, rfl⟩ | ⟨rfl, rfl⟩ | ⟨rfl, rfl⟩
    · refine wpOp_at rfl rfl ?_
      exact wp_value (v := .string S) (by go_simp) (hK _ _ (Below.refl _ _) hI rfl)
    · refine wpOp_at rfl rfl ?_
      exact wp_value (v := .string S) (by go_simp) (hK _ _ (Below.refl _ _) hI rfl)
    · have p0 : x 0 = _ := hp 0 (by decide +kernel)
      have p1 : x 1 = _ := hp 1 (by decide +kernel)
      simp only [p0, p1] at hK ⊢
      refine wpOp_at rfl rfl ?_
      exact wp_value (v := .bool false) (by go_simp) (hK _ _ (Below.refl _ _) hI rfl)
    · have p2 : x 2 = _ := hp 2 (by decide +kernel)
      simp only [p2] at hK ⊢
      refine wpOp_at rfl rfl ?_
      exact wp_value (v := .bool false) (by go_simp) (hK _ _ (Below.refl _ _) hI rfl)
    · have p3 : x 3 = _ := hp 3 (by decide +kernel)
      simp only [p3] at hK ⊢
      refine wpOp_plain (i := 4) rfl (wanted_some rfl (by simp [yielded, Act.put])) ?_
      exact wp_value (v := .int .i64 q) (by go_simp) (hK _ _ (Below.refl _ _) hI rfl)
    · have p3 : x 3 = _ := hp 3 (by decide +kernel)
      simp only [p3] at hK ⊢
      refine wpOp_plain (i := 5) rfl (wanted_some rfl (by simp [yielded, Act.put])) ?_
      exact wp_value (v := .int .i64 q) (by go_simp) (hK _ _ (Below.refl _ _) hI rfl)
    · have p3 : x 3 = _ := hp 3 (by decide +kernel)
      have p4 : x 4 = _ := hp 4 (by decide +kernel)
      have p5 : x 5 = _ := hp 5 (by decide +kernel)
      simp only [p3, p4, p5] at hK ⊢
      refine wpOp_plain (i := 6) rfl (wanted_some rfl (by simp [yielded, Act.put])) ?_
      exact wp_value (v := .bool false) (by go_simp) (hK _ _ (Below.refl _ _) hI rfl)
    · have p3 : x 3 = _ := hp 3 (by decide +kernel)
      have p6 : x 6 = _ := hp 6 (by decide +kernel)
      simp only [p3, p6] at hK ⊢
      refine wpOp_at rfl rfl ?_
      exact wp_value (v := .bool false) (by go_simp) (hK _ _ (Below.refl _ _) hI rfl)
    · have p7 : x 7 = _ := hp 7 (by decide +kernel)
      simp only [p7] at hK ⊢
      refine wpOp_at rfl rfl ?_
      exact wp_value (v := .bool false) (by go_simp) (hK _ _ (Below.refl _ _) hI rfl)
    · have p8 : x 8 = _ := hp 8 (by decide +kernel)
      simp only [p8] at hK ⊢
      refine wpOp_plain (i := 9) rfl (wanted_some rfl (by simp [yielded, Act.put])) ?_
      exact wp_load_agg' stW 29 _ rfl Try.isAgg29 _ Try.sizeOf29 ⟨0, _, _, _, _, _, rfl, rfl, rfl, rfl, hK _ _ (Below.refl _ _) hI rfl⟩
    · have p8 : x 8 = _ := hp 8 (by decide +kernel)
      have p9 : x 9 = _ := hp 9 (by decide +kernel)
      simp only [p8, p9] at hK ⊢
      refine wpOp_plain (i := 10) rfl (wanted_some rfl (by simp [yielded, Act.put])) ?_
      refine wp_callee (f := 9) (by first | (go_simp; done) | (go_simp; rfl)) ?_
      refine (ref_CopyFrame (fun _ => True) W f la lc ga gc ca cc (hR1.below hI).mail.label (hR1.below hI).mail.grants (hR1.below hI).certs hf).mono ?_
      rintro e W2 ⟨a1, k1, a2, k2, a3, k3, rfl, hb2, hA2, hB2, hC2⟩
      have hR2 : FrameR (fun _ => True) W2 f a1 k1 a2 k2 a3 k3 := ⟨⟨hA2.okay fun _ _ => trivial, hB2.okay fun _ _ => trivial⟩, hC2.okay fun _ _ => trivial⟩
      exact ⟨_, rfl, hK _ _ hb2 (hI.keep hb2) ⟨_, _, _, _, _, _, rfl, hR2⟩⟩
    · have p8 : x 8 = _ := hp 8 (by decide +kernel)
      obtain ⟨a110, k110, a210, k210, a310, k310, p10, h10⟩ := hp 10 (by decide +kernel)
      simp only [p8, p10] at hK ⊢
      refine wpOp_plain (i := 11) rfl (wanted_some rfl (by simp [yielded, Act.put])) ?_
      refine wp_callee (f := 11) (by first | (go_simp; done) | (go_simp; rfl)) ?_
      refine (wire_Good (fun _ => True) W f a110 k110 a210 k210 a310 k310 hfw h10).mono ?_
      rintro e W2 ⟨rfl, hb2⟩
      exact ⟨_, rfl, hK _ _ hb2 (hI.keep hb2) rfl⟩
    · have p8 : x 8 = _ := hp 8 (by decide +kernel)
      simp only [p8] at hK ⊢
      refine wpOp_plain (i := 12) rfl (wanted_some rfl (by simp [yielded, Act.put])) ?_
      exact wp_load_agg' stW 29 _ rfl Try.isAgg29 _ Try.sizeOf29 ⟨0, _, _, _, _, _, rfl, rfl, rfl, rfl, hK _ _ (Below.refl _ _) hI rfl⟩
    · have p8 : x 8 = _ := hp 8 (by decide +kernel)
      have p12 : x 12 = _ := hp 12 (by decide +kernel)
      simp only [p8, p12] at hK ⊢
      refine wpOp_plain (i := 13) rfl (wanted_some rfl (by simp [yielded, Act.put])) ?_
      refine wp_callee (f := 12) (by first | (go_simp; done) | (go_simp; rfl)) ?_
      refine (ref_GoodFrame (fun _ => True) W f la lc ga gc ca cc hfw (hR1.below hI)).mono ?_
      rintro e W2 ⟨rfl, hb2⟩
      exact ⟨_, rfl, hK _ _ hb2 (hI.keep hb2) rfl⟩
    · have p8 : x 8 = _ := hp 8 (by decide +kernel)
      have p11 : x 11 = _ := hp 11 (by decide +kernel)
      have p13 : x 13 = _ := hp 13 (by decide +kernel)
      simp only [p8, p11, p13] at hK ⊢
      refine wpOp_plain (i := 14) rfl (wanted_some rfl (by simp [yielded, Act.put])) ?_
      exact wp_value (v := .bool false) (by go_simp) (hK _ _ (Below.refl _ _) hI rfl)
    · have p8 : x 8 = _ := hp 8 (by decide +kernel)
      have p14 : x 14 = _ := hp 14 (by decide +kernel)
      simp only [p8, p14] at hK ⊢
      refine wpOp_at rfl rfl ?_
      exact wp_value (v := .bool false) (by go_simp) (hK _ _ (Below.refl _ _) hI rfl)
    · have p15 : x 15 = _ := hp 15 (by decide +kernel)
      simp only [p15] at hK ⊢
      refine wpOp_at rfl rfl ?_
      exact wp_value (v := .bool false) (by go_simp) (hK _ _ (Below.refl _ _) hI rfl)
    · have p16 : x 16 = _ := hp 16 (by decide +kernel)
      simp only [p16] at hK ⊢
      refine wpOp_plain (i := 17) rfl (wanted_some rfl (by simp [yielded, Act.put])) ?_
      exact wp_value (v := .pointer (some ⟨g1, 5, none⟩)) (by go_simp) (hK _ _ (Below.refl _ _) hI rfl)
    · have p16 : x 16 = _ := hp 16 (by decide +kernel)
      have p17 : x 17 = _ := hp 17 (by decide +kernel)
      simp only [p16, p17] at hK ⊢
      refine wpOp_plain (i := 18) rfl (wanted_some rfl (by simp [yielded, Act.put])) ?_
      exact wp_load_agg' stW 26 _ rfl Try.isAgg26 _ Try.sizeOf26 ⟨0, _, _, _, _, _, rfl, rfl, rfl, rfl, hK _ _ (Below.refl _ _) hI rfl⟩
    · have p16 : x 16 = _ := hp 16 (by decide +kernel)
      have p18 : x 18 = _ := hp 18 (by decide +kernel)
      simp only [p16, p18] at hK ⊢
      refine wpOp_plain (i := 19) rfl (wanted_some rfl (by simp [yielded, Act.put])) ?_
      refine wp_callee (f := 14) (by first | (go_simp; done) | (go_simp; rfl)) ?_
      refine (ref_CopyMail (fun _ => True) W f.mail la lc ga gc (hR1.below hI).mail.label (hR1.below hI).mail.grants hfw.label hfw.grants).mono ?_
      rintro e W2 ⟨a1, k1, a2, k2, rfl, hb2, hA2, hB2⟩
      have hR2 : MailR (fun _ => True) W2 f.mail a1 k1 a2 k2 := ⟨hA2.okay fun _ _ => trivial, hB2.okay fun _ _ => trivial⟩
      exact ⟨_, rfl, hK _ _ hb2 (hI.keep hb2) ⟨_, _, _, _, rfl, hR2⟩⟩
    · have p16 : x 16 = _ := hp 16 (by decide +kernel)
      obtain ⟨a119, k119, a219, k219, p19, h19⟩ := hp 19 (by decide +kernel)
      simp only [p16, p19] at hK ⊢
      refine wpOp_plain (i := 20) rfl (wanted_some rfl (by simp [yielded, Act.put])) ?_
      refine wp_callee (f := 13) (by first | (go_simp; done) | (go_simp; rfl)) ?_
      refine (wire_GoodMail (fun _ => True) W f.mail a119 k119 a219 k219 hfw.label hfw.grants h19).mono ?_
      rintro e W2 ⟨rfl, hb2⟩
      exact ⟨_, rfl, hK _ _ hb2 (hI.keep hb2) rfl⟩
    · have p16 : x 16 = _ := hp 16 (by decide +kernel)
      simp only [p16] at hK ⊢
      refine wpOp_plain (i := 21) rfl (wanted_some rfl (by simp [yielded, Act.put])) ?_
      exact wp_value (v := .pointer (some ⟨g1, 5, none⟩)) (by go_simp) (hK _ _ (Below.refl _ _) hI rfl)
    · have p16 : x 16 = _ := hp 16 (by decide +kernel)
      have p21 : x 21 = _ := hp 21 (by decide +kernel)
      simp only [p16, p21] at hK ⊢
      refine wpOp_plain (i := 22) rfl (wanted_some rfl (by simp [yielded, Act.put])) ?_
      exact wp_load_agg' stW 26 _ rfl Try.isAgg26 _ Try.sizeOf26 ⟨0, _, _, _, _, _, rfl, rfl, rfl, rfl, hK _ _ (Below.refl _ _) hI rfl⟩
    · have p16 : x 16 = _ := hp 16 (by decide +kernel)
      have p22 : x 22 = _ := hp 22 (by decide +kernel)
      simp only [p16, p22] at hK ⊢
      refine wpOp_plain (i := 23) rfl (wanted_some rfl (by simp [yielded, Act.put])) ?_
      refine wp_callee (f := 15) (by first | (go_simp; done) | (go_simp; rfl)) ?_
      refine (ref_GoodMail (fun _ => True) W f.mail la lc ga gc hfw.text (hR1.below hI).mail).mono ?_
      rintro e W2 ⟨rfl, hb2⟩
      exact ⟨_, rfl, hK _ _ hb2 (hI.keep hb2) rfl⟩
    · have p16 : x 16 = _ := hp 16 (by decide +kernel)
      have p20 : x 20 = _ := hp 20 (by decide +kernel)
      have p23 : x 23 = _ := hp 23 (by decide +kernel)
      simp only [p16, p20, p23] at hK ⊢
      refine wpOp_plain (i := 24) rfl (wanted_some rfl (by simp [yielded, Act.put])) ?_
      exact wp_value (v := .bool false) (by go_simp) (hK _ _ (Below.refl _ _) hI rfl)
    · have p16 : x 16 = _ := hp 16 (by decide +kernel)
      have p24 : x 24 = _ := hp 24 (by decide +kernel)
      simp only [p16, p24] at hK ⊢
      refine wpOp_at rfl rfl ?_
      exact wp_value (v := .bool false) (by go_simp) (hK _ _ (Below.refl _ _) hI rfl)
  case fin =>
    intro x W hI hG
    have p25 : x 25 = _ := hG 25 (by simp)
    simp only [putAll, Act.put, List.setIfInBounds_toArray, List.set_cons_succ, List.set_cons_zero, p25]
    clear hG
    refine wpAny_done (by decide +kernel) ?_ 0
    replace st := st.call hI
    clear hI hR1 HE1 HE2
    go_wp2
    go_loopw [7] (fun i wr => ∃ k : Nat, k ≤ f.certs.length ∧ i = .int .i64 k ∧ St [] w wr [(g1, 29, [.int .i64 f.src, .int .i64 f.dst, .int .i64 f.seq, .bool f.ack, .int .i64 f.thread, .int .i64 f.mail.host, .int .i64 f.mail.thread, .slice la f.mail.label.length lc, .slice ga f.mail.grants.length gc, .string f.mail.text, .slice ca f.certs.length cc])]) (fun i _ => f.certs.length - (intOf i).toNat)
    case atStart => exact ⟨0, Nat.zero_le _, rfl, st⟩
    case round =>
      clear st
      obtain ⟨k, hk, rfl, st⟩ := hrel
      by_cases hlt : k < f.certs.length
      · obtain ⟨b, o, rfl, hb, _⟩ := (hR.certs.below st.below).cert_at k hlt
        have HRow := Lib.hid (fun (W : World) (h : Below w.heap.size w W) => (hR.certs.below h).cert_row k hlt)
        generalize hx : f.certs[k] = x at HRow
        clear hx
        go_wp2_with (first | go_skip | (with_reducible refine at_load 27 ?_; (first | refine mem_load' st 27 _ rfl (wanted_none rfl) Try.isAgg27 ?_ | (refine mem_load' st 27 _ rfl (wanted_some rfl ?_) Try.isAgg27 ?_; focus (simp [yielded, Act.put]; done))); refine ⟨0, _, _, _, _, _, rfl, rfl, rfl, ?_⟩))
        refine det_region (by kernel_rfl) 13 rfl (fun W => St [] w W [(g1, 29, [.int .i64 f.src, .int .i64 f.dst, .int .i64 f.seq, .bool f.ack, .int .i64 f.thread, .int .i64 f.mail.host, .int .i64 f.mail.thread, .slice la f.mail.label.length lc, .slice ga f.mail.grants.length gc, .string f.mail.text, .slice (some ⟨b, o, none⟩) f.certs.length cc])]) (st.drew) (by decide +kernel) ?_
        refine det_take 0 rfl (by decide +kernel) (by first | exact wanted_none rfl | exact wanted_some rfl rfl) (fun W hW => by first | (go_simp; done) | (go_simp; rfl)) ?_; simp only [Act.put, List.setIfInBounds_toArray, List.set_cons_succ, List.set_cons_zero]
        refine det_take 1 rfl (by decide +kernel) (by first | exact wanted_none rfl | exact wanted_some rfl rfl) (fun W hW => St.run_load hW 0 27 _ rfl Try.isAgg27 rfl rfl rfl) ?_; simp only [Act.put, List.setIfInBounds_toArray, List.set_cons_succ, List.set_cons_zero]
        refine det_take 2 rfl (by decide +kernel) (by first | exact wanted_none rfl | exact wanted_some rfl rfl) (fun W hW => by first | (go_simp; done) | (go_simp; rfl)) ?_; simp only [Act.put, List.setIfInBounds_toArray, List.set_cons_succ, List.set_cons_zero]
        refine det_take 3 rfl (by decide +kernel) (by first | exact wanted_none rfl | exact wanted_some rfl rfl) (fun W hW => by first | (go_simp; done) | (go_simp; rfl)) ?_; simp only [Act.put, List.setIfInBounds_toArray, List.set_cons_succ, List.set_cons_zero]
        refine det_take (v := .agg #[.int .i64 x.c, .int .i64 x.by_, .int .i64 x.host, .int .i64 x.till]) 4 rfl (by decide +kernel) (by first | exact wanted_none rfl | exact wanted_some rfl rfl) (fun W hW => by exact run_load_at 39 _ rfl Try.isAgg39 _ Try.sizeOf39 _ _ rfl [.int .i64 x.c, .int .i64 x.by_, .int .i64 x.host, .int .i64 x.till] rfl (HRow.out W hW.below)) ?_; simp only [Act.put, List.setIfInBounds_toArray, List.set_cons_succ, List.set_cons_zero]
        refine det_call (fn := 16) 5 rfl (by decide +kernel) (by first | exact wanted_none rfl | exact wanted_some rfl rfl) (fun W => by first | (go_simp; done) | (go_simp; rfl)) (fun W hW => (wire_GoodCert x W).mono fun e w' h => ⟨h.1, hW.call h.2⟩) ?_; simp only [Act.put, List.setIfInBounds_toArray, List.set_cons_succ, List.set_cons_zero]
        refine det_take 6 rfl (by decide +kernel) (by first | exact wanted_none rfl | exact wanted_some rfl rfl) (fun W hW => by first | (go_simp; done) | (go_simp; rfl)) ?_; simp only [Act.put, List.setIfInBounds_toArray, List.set_cons_succ, List.set_cons_zero]
        refine det_take 7 rfl (by decide +kernel) (by first | exact wanted_none rfl | exact wanted_some rfl rfl) (fun W hW => St.run_load hW 0 27 _ rfl Try.isAgg27 rfl rfl rfl) ?_; simp only [Act.put, List.setIfInBounds_toArray, List.set_cons_succ, List.set_cons_zero]
        refine det_take 8 rfl (by decide +kernel) (by first | exact wanted_none rfl | exact wanted_some rfl rfl) (fun W hW => by first | (go_simp; done) | (go_simp; rfl)) ?_; simp only [Act.put, List.setIfInBounds_toArray, List.set_cons_succ, List.set_cons_zero]
        refine det_take 9 rfl (by decide +kernel) (by first | exact wanted_none rfl | exact wanted_some rfl rfl) (fun W hW => by first | (go_simp; done) | (go_simp; rfl)) ?_; simp only [Act.put, List.setIfInBounds_toArray, List.set_cons_succ, List.set_cons_zero]
        refine det_take (v := .agg #[.int .i64 x.c, .int .i64 x.by_, .int .i64 x.host, .int .i64 x.till]) 10 rfl (by decide +kernel) (by first | exact wanted_none rfl | exact wanted_some rfl rfl) (fun W hW => by exact run_load_at 39 _ rfl Try.isAgg39 _ Try.sizeOf39 _ _ rfl [.int .i64 x.c, .int .i64 x.by_, .int .i64 x.host, .int .i64 x.till] rfl (HRow.out W hW.below)) ?_; simp only [Act.put, List.setIfInBounds_toArray, List.set_cons_succ, List.set_cons_zero]
        refine det_call (fn := 17) 11 rfl (by decide +kernel) (by first | exact wanted_none rfl | exact wanted_some rfl rfl) (fun W => by first | (go_simp; done) | (go_simp; rfl)) (fun W hW => (ref_GoodCert x W).mono fun e w' h => ⟨h.1, hW.call h.2⟩) ?_; simp only [Act.put, List.setIfInBounds_toArray, List.set_cons_succ, List.set_cons_zero]
        refine det_take 12 rfl (by decide +kernel) (by first | exact wanted_none rfl | exact wanted_some rfl rfl) (fun W hW => by first | (go_simp; done) | (go_simp; rfl)) ?_; simp only [Act.put, List.setIfInBounds_toArray, List.set_cons_succ, List.set_cons_zero]
        refine det_done (by decide +kernel) ?_
        clear st
        intro W st
        go_wp2
        go_roundw
        case rel => exact ⟨k + 1, hlt, by go_num, st⟩
        case measure => simp [intOf]; omega
      · go_wp2_with (first | go_skip | (with_reducible refine at_load 27 ?_; (first | refine mem_load' st 27 _ rfl (wanted_none rfl) Try.isAgg27 ?_ | (refine mem_load' st 27 _ rfl (wanted_some rfl ?_) Try.isAgg27 ?_; focus (simp [yielded, Act.put]; done))); refine ⟨0, _, _, _, _, _, rfl, rfl, rfl, ?_⟩) | (go_at_call 18; go_must (refine (codes_law _).mono ?_; rintro e v9 ⟨rfl, hb9⟩; replace st := st.call hb9; clear hb9)))
        go_ret
        exact ⟨rfl, st.below⟩

theorem own : ownKnob Try.prog.godebug = none := by kernel_rfl
theorem laid : laidOutB Try.prog = true := by kernel_rfl

set_option maxRecDepth 100000 in
theorem contract (H : Type) (enc : TypeId × Value → H) (W : World) (base : Nat) (args : Array Value) (ds gs : List (DataW H)) (before : List MemPlace)
    (hval : ∀ (j : Nat) t v, Try.f3.params[j]? = some t → args[j]? = some v → Value.okWide Try.prog W .any base t v)
    (hW : DataW.Whole enc Try.prog Try.f3.params.toList Rows.wireEncodesSpec.vars false W args.toList ds gs before)
    (hsz : (DataW.weightsEach Try.prog (Try.f3.params.toList ++ Rows.wireEncodesSpec.plain.varTypes Try.prog) (ds ++ gs)).all (· ≤ reachBytes) = true) :
    Calls Try.prog 3 args W fun e W' => ∃ v, e = .returned v ∧ Rows.wireEncodesSpec.post enc Try.prog Try.f3 false true false false W args v W' := by
  have hW' := hW
  obtain ⟨p, q, hA0, hV, rfl, hfz, hnd⟩ := hW
  have hA : DataW.TrodAll enc Try.prog W 0 (fun _ => true) true Try.f3.params.toList args.toList ds p := hA0
  have hpar := Try.params3
  rw [hpar] at hA hval hsz
  obtain ⟨v0, vs0, d0, ds0, p0, q0, hargs0, rfl, rfl, h0, r0⟩ := trodAll_cons hA
  obtain ⟨hnil, rfl, rfl⟩ := trodAll_nil r0
  obtain rfl : args = #[v0] := by cases args; simp_all
  obtain ⟨rfl, rfl⟩ := trodVars_none hV
  have w0 : ∀ n ∈ d0.weights Try.prog 29, n ≤ reachBytes := fun n hn => by simpa using List.all_eq_true.1 hsz n (DataW.weights_mem_each (j := 0) (t := 29) (d := d0) rfl rfl n hn)
  obtain ⟨x0, cs0, rfl, ⟨la0, lc0, ga0, gc0, ca0, cc0, rfl, hA0, hB0, hC0⟩, hx0, hm0⟩ := arg_struct reads_Frame Try.underlying29 (hval 0 _ v0 rfl rfl) h0 w0
  refine (walk W x0 la0 lc0 ga0 gc0 ca0 cc0 ⟨by have := hx0.2.2.2.2.2.1.2.2.1.1; omega, by have := hx0.2.2.2.2.2.1.2.2.2.1.1; omega, by have := hx0.2.2.2.2.2.2.1; omega⟩ ⟨by have := hx0.2.2.2.2.2.1.2.2.1.1; omega, by have := hx0.2.2.2.2.2.1.2.2.2.1.1; omega, by have := hx0.2.2.2.2.2.2.1; omega, by have := hx0.2.2.2.2.2.1.2.2.2.2; omega⟩ ⟨⟨hA0, hB0⟩, hC0⟩).mono fun e W' ⟨he, hb⟩ => ?_
  exact ⟨_, he, law_post laid (by kernel_rfl) hW' rfl rfl (by kernel_rfl) Try.underlying4 hb⟩

set_option maxRecDepth 100000 in
theorem lifted (os : Os) (started : os.Started) (H : Type) (enc : TypeId × Value → H) :
    ReturnsInHanded {} Try.checked os 3 .any (Rows.wireEncodesSpec.pre6 enc Try.prog Try.f3 Rows.wireEncodesRow.domain false) (Rows.wireEncodesSpec.post enc Try.prog Try.f3 false true false false) := by
  refine returnsInHanded_of_change_sized (C := Try.checked) own started (by kernel_rfl) Try.func3
    (ChangeSpec.witness6 (enc := enc) (C := Try.checked) false ⟨#[], #[.agg #[.int .i64 0, .int .i64 0, .int .i64 0, .bool false, .int .i64 0, .int .i64 0, .int .i64 0, .slice none 0 0, .slice none 0 0, .string .empty, .slice none 0 0]], []⟩ 12 (by kernel_rfl) (by kernel_rfl) (by kernel_rfl) (by kernel_rfl)) ?_
  intro W base args ds gs before hval hW _ hsz _
  exact contract H enc W base args ds gs before hval hW hsz

theorem proved : Rows.WireEncodesSaid :=
  OpenClaim.holds_of_wide 3 Try.f3 rfl rfl rfl rfl rfl rfl rfl ⟨rfl, rfl, rfl, rfl, rfl⟩ rfl rfl rfl rfl rfl (by kernel_rfl) Try.func3 (by kernel_rfl)
    (of_decide_eq_true (by kernel_rfl)) (by unfold Func.isWrapper; first | (rw [if_pos (by decide +kernel)]; kernel_rfl) | (rw [if_neg (by decide +kernel)]; exact ⟨rfl, rfl⟩))
    (fun os started H enc _ => lifted os started H enc)


end Go.Proofs.Ytemjnojfhbbapaa.wireEncodes
