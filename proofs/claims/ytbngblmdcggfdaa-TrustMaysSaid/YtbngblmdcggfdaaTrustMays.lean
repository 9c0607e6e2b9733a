/- For all certs, mail and times, Home, Trusted, May and Show answer exactly what P4.2 and P4.3 say. No condition. -/
import Derived.Test.YtbngblmdcggfdaaRows
import Derived.WalkKit
import Derived.IntWalk
import Derived.ProofKit
import Derived.OpenShut
import Derived.SizedLaws
import Derived.Test.YtbngblmdcggfdaaP1
import Derived.Test.YtbngblmdcggfdaaP3
import Derived.Test.YtbngblmdcggfdaaP4
set_option linter.unusedSimpArgs false
set_option linter.unusedVariables false
namespace Go.Proofs.Ytbngblmdcggfdaa.trustMays
open Go.ChangeShapes Go.WideShapes Go.ChangeAt Go.RowKit

set_option maxRecDepth 100000 in
theorem law_certs (ok : Nat → Prop) (w : World) (a : Option Addr) (c : Nat) (l : List Cert) (hl : l.length * 32 ≤ 140737488355328) (hR : SlR ok w 4 RCert a c l) :
    Calls Try.prog 7 #[.slice a l.length c] w fun e w' => ∃ a' c', e = .returned (.slice a' l.length c') ∧ Below w.heap.size w w' ∧ SlR (fun _ => True) w' 4 RCert a' c' l := by
  obtain ⟨i0, hi, hz0, hz1, hz2⟩ := info_parts info_Cert
  go_enter Try.func7, Try.ntmps7
  go_wp2_with (first | go_skip | (at_builtin; go_must (refine wpList_copy (wanted_none rfl) _ _ 22 rfl 43 i0 _ 4 32 Try.underlying22 hi hz0 hz1 hz2 rfl (by decide) rfl rfl rfl hR hl ?_; intro a' c' w' hO hb)))
  go_ret
  exact ⟨a', c', rfl, hb, hO.slr fun _ _ => trivial⟩

set_option maxRecDepth 100000 in
set_option maxHeartbeats 6000000 in
theorem walk_neg (w : World) (l : List Cert) (ca : Option Addr) (cc : Nat) (c h : Int) (m : Mail) (la : Option Addr) (lc : Nat) (ga : Option Addr) (gc : Nat) (now : Int) (hc0 : c < 0) (hfit : ∀ x ∈ l, x.fit) (hfa : ∀ y ∈ m.label, fitI y.c) (hfg : ∀ y ∈ m.grants, fitI y) (hC : SlR (fun _ => True) w 4 RCert ca cc l) (hl : l.length * 32 ≤ 140737488351232) (hM : MailR (fun _ => True) w m la lc ga gc) (hm : m.grants.length * 8 ≤ 140737488351232 ∧ m.label.length * 16 ≤ 140737488351232) (hcm : c ≤ 9223372036854775807) :
    Calls Try.prog 3 #[.slice ca l.length cc, .int .i64 c, .int .i64 h, mailV m la lc ga gc, .int .i64 now] w fun r w' => r = .returned (.bool true) ∧ Below w.heap.size w w' := by
  have HF := Lib.hid hfit
  have HFa := Lib.hid hfa
  have HFg := Lib.hid hfg
  clear hfit hfa hfg
  obtain ⟨t0, t1, t2, t3, hv, -⟩ := four_of l c now
  have HV := Lib.hid hv
  clear hv
  have hne : ∀ W : World, (binOp .eql 28 (.agg #[.bool t0, .bool t1, .bool t2, .bool t3]) (.agg #[.bool t0, .bool t1, .bool t2, .bool t3])).run Try.prog W = .ok (.bool true) W := by
    intro W; cases t0 <;> cases t1 <;> cases t2 <;> cases t3 <;> kernel_rfl
  have hgu := guard_four
  have hd : decide (c < 0) = true := by simpa using hc0
  skip
  have st := St.start w
  unfold mailV
  go_enter Try.func3, Try.ntmps3
  go_wp2_with (first | go_skip | (refine mem_box st (wanted_none rfl) 27 _ rfl _ rfl _ rfl ?_; clear st; intro g1 w1 hg1 st hg1b; clear hg1b; simp [Act.eval, Act.put, Value.cells, putL] at st))
  have hC1 := hC.below st.below
  have hM1 := hM.below st.below
  have hB1 := st.below
  clear hC hM
  refine wp_region_ahead (by kernel_rfl) [(0, some 11), (1, some 12), (2, some 13), (3, some 14), (4, some 15), (5, some 16), (6, some 17), (7, some 18), (8, some 19), (9, some 20), (10, some 21), (11, some 22), (12, some 23), (13, some 24), (14, some 25), (15, some 26), (16, some 27), (17, some 28), (18, some 29), (19, some 30), (20, some 31), (21, some 32), (22, some 33), (23, some 34), (24, some 35), (25, some 36), (26, some 37), (27, some 38), (28, some 39), (29, some 40), (30, some 41), (31, some 42), (32, some 43), (33, some 44), (34, some 45), (35, some 46), (36, some 47), (37, some 48), (38, some 49), (39, some 50), (40, some 51), (41, some 52), (42, some 53), (43, some 54), (44, some 55), (45, some 56), (46, some 57), (47, some 58), (48, some 59), (49, some 60), (50, some 10)] [0, 1, 2, 3, 4, 5, 6, 7, 8, 9, 10, 11, 12, 13, 14, 15, 16, 17, 18, 19, 20, 21, 22, 23, 24, 25, 26, 27, 28, 29, 30, 31, 32, 33, 34, 35, 36, 37, 38, 39, 40, 41, 42, 43, 44, 45, 46, 47, 48, 49, 50] rfl 0 (by decide +kernel) rfl (fun W W' => Below W.heap.size W W') (fun i v W => match i with
    | 0 => v = .slice ca l.length cc
    | 1 => ∃ a k, v = .slice a l.length k ∧ SlR (fun _ => True) W 4 RCert a k l
    | 2 => v = .int .i64 c
    | 3 => v = .int .i64 now
    | 4 => v = .agg #[.bool t0, .bool t1, .bool t2, .bool t3]
    | 5 => v = .slice ca l.length cc
    | 6 => v = .int .i64 c
    | 7 => v = .int .i64 now
    | 8 => v = .agg #[.bool t0, .bool t1, .bool t2, .bool t3]
    | 9 => v = .bool true
    | 10 => v = .bool true
    | 11 => v = .slice ca l.length cc
    | 12 => ∃ a k, v = .slice a l.length k ∧ SlR (fun _ => True) W 4 RCert a k l
    | 13 => v = .int .i64 h
    | 14 => v = .agg #[.int .i64 m.host, .int .i64 m.thread, .slice la m.label.length lc, .slice ga m.grants.length gc, .string m.text]
    | 15 => ∃ a k b q, v = mailV m a k b q ∧ MailR (fun _ => True) W m a k b q
    | 16 => v = .int .i64 now
    | 17 => v = .bool (mayB l h m now)
    | 18 => v = .slice ca l.length cc
    | 19 => v = .int .i64 h
    | 20 => v = .agg #[.int .i64 m.host, .int .i64 m.thread, .slice la m.label.length lc, .slice ga m.grants.length gc, .string m.text]
    | 21 => v = .int .i64 now
    | 22 => v = .bool (mayB l h m now)
    | 23 => v = .bool true
    | 24 => v = .bool true
    | 25 => v = .bool true
    | 26 => v = .slice ca l.length cc
    | 27 => ∃ a k, v = .slice a l.length k ∧ SlR (fun _ => True) W 4 RCert a k l
    | 28 => v = .agg #[.int .i64 m.host, .int .i64 m.thread, .slice la m.label.length lc, .slice ga m.grants.length gc, .string m.text]
    | 29 => ∃ a k b q, v = mailV m a k b q ∧ MailR (fun _ => True) W m a k b q
    | 30 => ∃ a k, v = .slice a (showL l m).length k ∧ SlR (fun _ => True) W 4 RCert a k (showL l m)
    | 31 => v = .slice ca l.length cc
    | 32 => v = .agg #[.int .i64 m.host, .int .i64 m.thread, .slice la m.label.length lc, .slice ga m.grants.length gc, .string m.text]
    | 33 => ∃ a k, v = .slice a (showL l m).length k ∧ SlR (fun _ => True) W 4 RCert a k (showL l m)
    | 34 => v = .bool true
    | 35 => v = .bool true
    | 36 => v = .bool true
    | 37 => v = .int .i64 c
    | 38 => v = .bool true
    | 39 => v = .bool true
    | 40 => v = undef
    | 41 => v = undef
    | 42 => v = undef
    | 43 => v = undef
    | 44 => v = undef
    | 45 => v = .bool true
    | 46 => v = .bool true
    | 47 => v = .bool true
    | 48 => v = .bool true
    | 49 => v = .bool true
    | _ => v = .bool true)
    (fun W => Below w1.heap.size w1 W) (Below.refl _ _).drew ?mono ?step ?fin
  case mono =>
    intro i v U U' hi hb _ _ h
    simp only [List.mem_cons, List.not_mem_nil, or_false] at hi
    rcases hi with rfl | rfl | rfl | rfl | rfl | rfl | rfl | rfl | rfl | rfl | rfl | rfl | rfl | rfl | rfl | rfl | rfl | rfl | rfl | rfl | rfl | rfl | rfl | rfl | rfl | rfl | rfl | rfl | rfl | rfl | rfl | rfl | rfl | rfl | rfl | rfl | rfl | rfl | rfl | rfl | rfl | rfl | rfl | rfl | rfl | rfl | rfl | rfl | rfl | rfl | rfl
    · exact h
    · obtain ⟨a, k, e, h⟩ := h; exact ⟨a, k, e, h.below hb⟩
    · exact h
    · exact h
    · exact h
    · exact h
    · exact h
    · exact h
    · exact h
    · exact h
    · exact h
    · exact h
    · obtain ⟨a, k, e, h⟩ := h; exact ⟨a, k, e, h.below hb⟩
    · exact h
    · exact h
    · obtain ⟨a, k, b, q, e, h⟩ := h; exact ⟨a, k, b, q, e, h.below hb⟩
    · exact h
    · exact h
    · exact h
    · exact h
    · exact h
    · exact h
    · exact h
    · exact h
    · exact h
    · exact h
    · exact h
    · obtain ⟨a, k, e, h⟩ := h; exact ⟨a, k, e, h.below hb⟩
    · exact h
    · obtain ⟨a, k, b, q, e, h⟩ := h; exact ⟨a, k, b, q, e, h.below hb⟩
    · obtain ⟨a, k, e, h⟩ := h; exact ⟨a, k, e, h.below hb⟩
    · exact h
    · exact h
    · obtain ⟨a, k, e, h⟩ := h; exact ⟨a, k, e, h.below hb⟩
    · exact h
    · exact h
    · exact h
    · exact h
    · exact h
    · exact h
    · exact h
    · exact h
    · exact h
    · exact h
    · exact h
    · exact h
    · exact h
    · exact h
    · exact h
    · exact h
    · exact h
  case step =>
    intro i t hi x W hI hp K hK
    have stW := st.call hI
    simp only [putAll, Act.put, List.setIfInBounds_toArray, List.set_cons_succ, List.set_cons_zero] at hK ⊢
    simp only [List.mem_cons, List.not_mem_nil, or_false, Prod.mk.injEq] at hi
    rcases hi with ⟨rfl, rfl⟩ | ⟨rfl, rfl⟩ | ⟨rfl, rfl⟩ | ⟨rfl, rfl⟩ | ⟨rfl, rfl⟩ | ⟨rfl, rfl⟩ | ⟨rfl, rfl⟩ | ⟨rfl, rfl⟩ | ⟨rfl, rfl⟩ | ⟨rfl, rfl⟩ | ⟨rfl, rfl⟩ | ⟨rfl, rfl⟩ | ⟨rfl, rfl⟩ | ⟨rfl, rfl⟩ | ⟨rfl, rfl⟩ | ⟨rfl, rfl⟩ | ⟨rfl, rfl⟩ | ⟨rfl, rfl⟩ | ⟨rfl, rfl⟩ | ⟨rfl, rfl⟩ | ⟨rfl, rfl⟩ | ⟨rfl, rfl⟩ | ⟨rfl, rfl⟩ | ⟨rfl, rfl⟩ | ⟨rfl, rfl⟩ | ⟨rfl, rfl⟩ | ⟨rfl, rfl⟩ | ⟨rfl, rfl⟩ | ⟨rfl, rfl⟩ | ⟨rfl, rfl⟩ | ⟨rfl, rfl⟩ | ⟨rfl, rfl⟩ | ⟨rfl, rfl⟩ | ⟨rfl, rfl⟩ | ⟨rfl, rfl⟩ | ⟨rfl, rfl⟩ | ⟨rfl, rfl⟩ | ⟨rfl, rfl⟩ | ⟨rfl, rfl⟩ | ⟨rfl, rfl⟩ | ⟨rfl, rfl⟩ | ⟨rfl, rfl⟩ | ⟨rfl, rfl⟩ | ⟨rfl, rfl⟩ | ⟨rfl, rfl⟩ | ⟨rfl, rfl⟩ | ⟨rfl, rfl⟩ | ⟨rfl, rfl⟩ | ⟨rfl, rfl⟩ | ⟨rfl, rfl⟩ | ⟨rfl, rfl⟩
    · refine wpOp_at rfl rfl ?_
      exact wp_value (v := .slice ca l.length cc) (by go_simp) (hK _ _ (Below.refl _ _) hI rfl)
    · have p0 : x 0 = _ := hp 0 (by decide +kernel)
      simp only [p0] at hK ⊢
      refine wpOp_at rfl rfl ?_
      refine wp_callee (f := 7) (by first | (go_simp; done) | (go_simp; rfl)) ?_
      refine (law_certs (fun _ => True) W ca cc l (by omega) (hC1.below hI)).mono ?_
      rintro e W2 ⟨a, k, rfl, hb2, hR2⟩
      exact ⟨_, rfl, hK _ _ hb2 (hI.keep hb2) ⟨_, _, rfl, hR2⟩⟩
    · refine wpOp_at rfl rfl ?_
      exact wp_value (v := .int .i64 c) (by go_simp) (hK _ _ (Below.refl _ _) hI rfl)
    · refine wpOp_at rfl rfl ?_
      exact wp_value (v := .int .i64 now) (by go_simp) (hK _ _ (Below.refl _ _) hI rfl)
    · obtain ⟨a1, k1, p1, h1⟩ := hp 1 (by decide +kernel)
      have p2 : x 2 = _ := hp 2 (by decide +kernel)
      have p3 : x 3 = _ := hp 3 (by decide +kernel)
      simp only [p1, p2, p3] at hK ⊢
      refine wpOp_at rfl rfl ?_
      refine wp_callee (f := 6) (by first | (go_simp; done) | (go_simp; rfl)) ?_
      refine (trust_Trusted (fun _ => True) W a1 k1 l c now h1).mono ?_
      rintro e W2 ⟨rfl, hb2⟩
      rw [HV.out]
      exact ⟨_, rfl, hK _ _ hb2 (hI.keep hb2) rfl⟩
    · refine wpOp_at rfl rfl ?_
      exact wp_value (v := .slice ca l.length cc) (by go_simp) (hK _ _ (Below.refl _ _) hI rfl)
    · refine wpOp_at rfl rfl ?_
      exact wp_value (v := .int .i64 c) (by go_simp) (hK _ _ (Below.refl _ _) hI rfl)
    · refine wpOp_at rfl rfl ?_
      exact wp_value (v := .int .i64 now) (by go_simp) (hK _ _ (Below.refl _ _) hI rfl)
    · have p5 : x 5 = _ := hp 5 (by decide +kernel)
      have p6 : x 6 = _ := hp 6 (by decide +kernel)
      have p7 : x 7 = _ := hp 7 (by decide +kernel)
      simp only [p5, p6, p7] at hK ⊢
      refine wpOp_at rfl rfl ?_
      refine wp_callee (f := 8) (by first | (go_simp; done) | (go_simp; rfl)) ?_
      refine (ref_Trusted (fun _ => True) W ca cc l c now HF.out (hC1.below hI)).mono ?_
      rintro e W2 ⟨rfl, hb2⟩
      rw [HV.out]
      exact ⟨_, rfl, hK _ _ hb2 (hI.keep hb2) rfl⟩
    · have p4 : x 4 = _ := hp 4 (by decide +kernel)
      have p8 : x 8 = _ := hp 8 (by decide +kernel)
      simp only [p4, p8] at hK ⊢
      refine wpOp_at rfl rfl ?_
      exact wp_value (v := .bool true) (by go_simp) (hK _ _ (Below.refl _ _) hI rfl)
    · have p9 : x 9 = _ := hp 9 (by decide +kernel)
      simp only [p9] at hK ⊢
      refine wpOp_at rfl rfl ?_
      exact wp_value (v := .bool true) (by go_simp) (hK _ _ (Below.refl _ _) hI rfl)
    · have p10 : x 10 = _ := hp 10 (by decide +kernel)
      simp only [p10] at hK ⊢
      refine wpOp_plain (i := 11) rfl (wanted_some rfl (by simp [yielded, Act.put])) ?_
      exact wp_value (v := .slice ca l.length cc) (by go_simp) (hK _ _ (Below.refl _ _) hI rfl)
    · have p10 : x 10 = _ := hp 10 (by decide +kernel)
      have p11 : x 11 = _ := hp 11 (by decide +kernel)
      simp only [p10, p11] at hK ⊢
      refine wpOp_plain (i := 12) rfl (wanted_some rfl (by simp [yielded, Act.put])) ?_
      refine wp_callee (f := 7) (by first | (go_simp; done) | (go_simp; rfl)) ?_
      refine (law_certs (fun _ => True) W ca cc l (by omega) (hC1.below hI)).mono ?_
      rintro e W2 ⟨a, k, rfl, hb2, hR2⟩
      exact ⟨_, rfl, hK _ _ hb2 (hI.keep hb2) ⟨_, _, rfl, hR2⟩⟩
    · have p10 : x 10 = _ := hp 10 (by decide +kernel)
      simp only [p10] at hK ⊢
      refine wpOp_plain (i := 13) rfl (wanted_some rfl (by simp [yielded, Act.put])) ?_
      exact wp_value (v := .int .i64 h) (by go_simp) (hK _ _ (Below.refl _ _) hI rfl)
    · have p10 : x 10 = _ := hp 10 (by decide +kernel)
      simp only [p10] at hK ⊢
      refine wpOp_plain (i := 14) rfl (wanted_some rfl (by simp [yielded, Act.put])) ?_
      exact wp_load_agg' stW 27 _ rfl Try.isAgg27 _ Try.sizeOf27 ⟨0, _, _, _, _, _, rfl, rfl, rfl, rfl, hK _ _ (Below.refl _ _) hI rfl⟩
    · have p10 : x 10 = _ := hp 10 (by decide +kernel)
      have p14 : x 14 = _ := hp 14 (by decide +kernel)
      simp only [p10, p14] at hK ⊢
      refine wpOp_plain (i := 15) rfl (wanted_some rfl (by simp [yielded, Act.put])) ?_
      refine wp_callee (f := 10) (by first | (go_simp; done) | (go_simp; rfl)) ?_
      refine (ref_CopyMail (fun _ => True) W m la lc ga gc (hM1.below hI).label (hM1.below hI).grants (by omega) (by omega)).mono ?_
      rintro e W2 ⟨a, k, b, q, rfl, hb2, hA2, hB2⟩
      have hR2 : MailR (fun _ => True) W2 m a k b q := ⟨hA2.okay fun _ _ => trivial, hB2.okay fun _ _ => trivial⟩
      exact ⟨_, rfl, hK _ _ hb2 (hI.keep hb2) ⟨_, _, _, _, rfl, hR2⟩⟩
    · have p10 : x 10 = _ := hp 10 (by decide +kernel)
      simp only [p10] at hK ⊢
      refine wpOp_plain (i := 16) rfl (wanted_some rfl (by simp [yielded, Act.put])) ?_
      exact wp_value (v := .int .i64 now) (by go_simp) (hK _ _ (Below.refl _ _) hI rfl)
    · have p10 : x 10 = _ := hp 10 (by decide +kernel)
      obtain ⟨a12, k12, p12, h12⟩ := hp 12 (by decide +kernel)
      have p13 : x 13 = _ := hp 13 (by decide +kernel)
      obtain ⟨a15, k15, b15, q15, p15, h15⟩ := hp 15 (by decide +kernel)
      have p16 : x 16 = _ := hp 16 (by decide +kernel)
      simp only [p10, p12, p13, p15, p16] at hK ⊢
      refine wpOp_plain (i := 17) rfl (wanted_some rfl (by simp [yielded, Act.put])) ?_
      refine wp_callee (f := 9) (by first | (go_simp; done) | (go_simp; rfl)) ?_
      refine (trust_May (fun _ => True) W l a12 k12 h m a15 k15 b15 q15 now hm h12 h15).mono ?_
      rintro e W2 ⟨rfl, hb2⟩
      exact ⟨_, rfl, hK _ _ hb2 (hI.keep hb2) rfl⟩
    · have p10 : x 10 = _ := hp 10 (by decide +kernel)
      simp only [p10] at hK ⊢
      refine wpOp_plain (i := 18) rfl (wanted_some rfl (by simp [yielded, Act.put])) ?_
      exact wp_value (v := .slice ca l.length cc) (by go_simp) (hK _ _ (Below.refl _ _) hI rfl)
    · have p10 : x 10 = _ := hp 10 (by decide +kernel)
      simp only [p10] at hK ⊢
      refine wpOp_plain (i := 19) rfl (wanted_some rfl (by simp [yielded, Act.put])) ?_
      exact wp_value (v := .int .i64 h) (by go_simp) (hK _ _ (Below.refl _ _) hI rfl)
    · have p10 : x 10 = _ := hp 10 (by decide +kernel)
      simp only [p10] at hK ⊢
      refine wpOp_plain (i := 20) rfl (wanted_some rfl (by simp [yielded, Act.put])) ?_
      exact wp_load_agg' stW 27 _ rfl Try.isAgg27 _ Try.sizeOf27 ⟨0, _, _, _, _, _, rfl, rfl, rfl, rfl, hK _ _ (Below.refl _ _) hI rfl⟩
    · have p10 : x 10 = _ := hp 10 (by decide +kernel)
      simp only [p10] at hK ⊢
      refine wpOp_plain (i := 21) rfl (wanted_some rfl (by simp [yielded, Act.put])) ?_
      exact wp_value (v := .int .i64 now) (by go_simp) (hK _ _ (Below.refl _ _) hI rfl)
    · have p10 : x 10 = _ := hp 10 (by decide +kernel)
      have p18 : x 18 = _ := hp 18 (by decide +kernel)
      have p19 : x 19 = _ := hp 19 (by decide +kernel)
      have p20 : x 20 = _ := hp 20 (by decide +kernel)
      have p21 : x 21 = _ := hp 21 (by decide +kernel)
      simp only [p10, p18, p19, p20, p21] at hK ⊢
      refine wpOp_plain (i := 22) rfl (wanted_some rfl (by simp [yielded, Act.put])) ?_
      refine wp_callee (f := 11) (by first | (go_simp; done) | (go_simp; rfl)) ?_
      refine (ref_May (fun _ => True) W l ca cc h m la lc ga gc now HF.out HFa.out HFg.out hm (hC1.below hI) (hM1.below hI)).mono ?_
      rintro e W2 ⟨rfl, hb2⟩
      exact ⟨_, rfl, hK _ _ hb2 (hI.keep hb2) rfl⟩
    · have p10 : x 10 = _ := hp 10 (by decide +kernel)
      have p17 : x 17 = _ := hp 17 (by decide +kernel)
      have p22 : x 22 = _ := hp 22 (by decide +kernel)
      simp only [p10, p17, p22] at hK ⊢
      refine wpOp_plain (i := 23) rfl (wanted_some rfl (by simp [yielded, Act.put])) ?_
      exact wp_value (v := .bool true) (by go_simp) (hK _ _ (Below.refl _ _) hI rfl)
    · have p10 : x 10 = _ := hp 10 (by decide +kernel)
      have p23 : x 23 = _ := hp 23 (by decide +kernel)
      simp only [p10, p23] at hK ⊢
      refine wpOp_at rfl rfl ?_
      exact wp_value (v := .bool true) (by go_simp) (hK _ _ (Below.refl _ _) hI rfl)
    · have p24 : x 24 = _ := hp 24 (by decide +kernel)
      simp only [p24] at hK ⊢
      refine wpOp_at rfl rfl ?_
      exact wp_value (v := .bool true) (by go_simp) (hK _ _ (Below.refl _ _) hI rfl)
    · have p25 : x 25 = _ := hp 25 (by decide +kernel)
      simp only [p25] at hK ⊢
      refine wpOp_plain (i := 26) rfl (wanted_some rfl (by simp [yielded, Act.put])) ?_
      exact wp_value (v := .slice ca l.length cc) (by go_simp) (hK _ _ (Below.refl _ _) hI rfl)
    · have p25 : x 25 = _ := hp 25 (by decide +kernel)
      have p26 : x 26 = _ := hp 26 (by decide +kernel)
      simp only [p25, p26] at hK ⊢
      refine wpOp_plain (i := 27) rfl (wanted_some rfl (by simp [yielded, Act.put])) ?_
      refine wp_callee (f := 7) (by first | (go_simp; done) | (go_simp; rfl)) ?_
      refine (law_certs (fun _ => True) W ca cc l (by omega) (hC1.below hI)).mono ?_
      rintro e W2 ⟨a, k, rfl, hb2, hR2⟩
      exact ⟨_, rfl, hK _ _ hb2 (hI.keep hb2) ⟨_, _, rfl, hR2⟩⟩
    · have p25 : x 25 = _ := hp 25 (by decide +kernel)
      simp only [p25] at hK ⊢
      refine wpOp_plain (i := 28) rfl (wanted_some rfl (by simp [yielded, Act.put])) ?_
      exact wp_load_agg' stW 27 _ rfl Try.isAgg27 _ Try.sizeOf27 ⟨0, _, _, _, _, _, rfl, rfl, rfl, rfl, hK _ _ (Below.refl _ _) hI rfl⟩
    · have p25 : x 25 = _ := hp 25 (by decide +kernel)
      have p28 : x 28 = _ := hp 28 (by decide +kernel)
      simp only [p25, p28] at hK ⊢
      refine wpOp_plain (i := 29) rfl (wanted_some rfl (by simp [yielded, Act.put])) ?_
      refine wp_callee (f := 10) (by first | (go_simp; done) | (go_simp; rfl)) ?_
      refine (ref_CopyMail (fun _ => True) W m la lc ga gc (hM1.below hI).label (hM1.below hI).grants (by omega) (by omega)).mono ?_
      rintro e W2 ⟨a, k, b, q, rfl, hb2, hA2, hB2⟩
      have hR2 : MailR (fun _ => True) W2 m a k b q := ⟨hA2.okay fun _ _ => trivial, hB2.okay fun _ _ => trivial⟩
      exact ⟨_, rfl, hK _ _ hb2 (hI.keep hb2) ⟨_, _, _, _, rfl, hR2⟩⟩
    · have p25 : x 25 = _ := hp 25 (by decide +kernel)
      obtain ⟨a27, k27, p27, h27⟩ := hp 27 (by decide +kernel)
      obtain ⟨a29, k29, b29, q29, p29, h29⟩ := hp 29 (by decide +kernel)
      simp only [p25, p27, p29] at hK ⊢
      refine wpOp_plain (i := 30) rfl (wanted_some rfl (by simp [yielded, Act.put])) ?_
      refine wp_callee (f := 13) (by first | (go_simp; done) | (go_simp; rfl)) ?_
      refine (trust_Show (fun _ => True) W l a27 k27 m a29 k29 b29 q29 hm (by omega) h27 h29).mono ?_
      rintro e W2 ⟨a, k, rfl, hb2, hS2⟩
      have hR2 := hS2.okay (fun _ _ => trivial : ∀ b, _ → True)
      exact ⟨_, rfl, hK _ _ hb2 (hI.keep hb2) ⟨_, _, rfl, hR2⟩⟩
    · have p25 : x 25 = _ := hp 25 (by decide +kernel)
      simp only [p25] at hK ⊢
      refine wpOp_plain (i := 31) rfl (wanted_some rfl (by simp [yielded, Act.put])) ?_
      exact wp_value (v := .slice ca l.length cc) (by go_simp) (hK _ _ (Below.refl _ _) hI rfl)
    · have p25 : x 25 = _ := hp 25 (by decide +kernel)
      simp only [p25] at hK ⊢
      refine wpOp_plain (i := 32) rfl (wanted_some rfl (by simp [yielded, Act.put])) ?_
      exact wp_load_agg' stW 27 _ rfl Try.isAgg27 _ Try.sizeOf27 ⟨0, _, _, _, _, _, rfl, rfl, rfl, rfl, hK _ _ (Below.refl _ _) hI rfl⟩
    · have p25 : x 25 = _ := hp 25 (by decide +kernel)
      have p31 : x 31 = _ := hp 31 (by decide +kernel)
      have p32 : x 32 = _ := hp 32 (by decide +kernel)
      simp only [p25, p31, p32] at hK ⊢
      refine wpOp_plain (i := 33) rfl (wanted_some rfl (by simp [yielded, Act.put])) ?_
      refine wp_callee (f := 14) (by first | (go_simp; done) | (go_simp; rfl)) ?_
      refine (ref_Show (fun _ => True) W l ca cc m la lc ga gc hm HFa.out HFg.out HF.out (by omega) (hC1.below hI) (hM1.below hI)).mono ?_
      rintro e W2 ⟨a, k, rfl, hb2, hS2⟩
      have hR2 := hS2.okay (fun _ _ => trivial : ∀ b, _ → True)
      exact ⟨_, rfl, hK _ _ hb2 (hI.keep hb2) ⟨_, _, rfl, hR2⟩⟩
    · have p25 : x 25 = _ := hp 25 (by decide +kernel)
      obtain ⟨a30, k30, p30, h30⟩ := hp 30 (by decide +kernel)
      obtain ⟨a33, k33, p33, h33⟩ := hp 33 (by decide +kernel)
      simp only [p25, p30, p33] at hK ⊢
      refine wpOp_plain (i := 34) rfl (wanted_some rfl (by simp [yielded, Act.put])) ?_
      refine wp_callee (f := 12) (by first | (go_simp; done) | (go_simp; rfl)) ?_
      refine (ref_SameCerts (fun _ => True) (fun _ => True) _ _ _ _ _ (showL l m) (showL l m) h30 h33).mono ?_
      rintro e W2 ⟨rfl, hb2⟩
      rw [decide_eq_true (rfl : showL l m = showL l m)]
      exact ⟨_, rfl, hK _ _ hb2 (hI.keep hb2) rfl⟩
    · have p25 : x 25 = _ := hp 25 (by decide +kernel)
      have p34 : x 34 = _ := hp 34 (by decide +kernel)
      simp only [p25, p34] at hK ⊢
      refine wpOp_at rfl rfl ?_
      exact wp_value (v := .bool true) (by go_simp) (hK _ _ (Below.refl _ _) hI rfl)
    · have p35 : x 35 = _ := hp 35 (by decide +kernel)
      simp only [p35] at hK ⊢
      refine wpOp_at rfl rfl ?_
      exact wp_value (v := .bool true) (by go_simp) (hK _ _ (Below.refl _ _) hI rfl)
    · have p36 : x 36 = _ := hp 36 (by decide +kernel)
      simp only [p36] at hK ⊢
      refine wpOp_plain (i := 37) rfl (wanted_some rfl (by simp [yielded, Act.put])) ?_
      exact wp_value (v := .int .i64 c) (by go_simp) (hK _ _ (Below.refl _ _) hI rfl)
    · have p36 : x 36 = _ := hp 36 (by decide +kernel)
      have p37 : x 37 = _ := hp 37 (by decide +kernel)
      simp only [p36, p37] at hK ⊢
      refine wpOp_plain (i := 38) rfl (wanted_some rfl (by simp [yielded, Act.put])) ?_
      exact wp_value (v := .bool true) (by go_simp) (hK _ _ (Below.refl _ _) hI rfl)
    · have p36 : x 36 = _ := hp 36 (by decide +kernel)
      have p38 : x 38 = _ := hp 38 (by decide +kernel)
      simp only [p36, p38] at hK ⊢
      refine wpOp_plain (i := 39) rfl (wanted_some rfl (by simp [yielded, Act.put])) ?_
      exact wp_value (v := .bool true) (by go_simp) (hK _ _ (Below.refl _ _) hI rfl)
    · have p39 : x 39 = _ := hp 39 (by decide +kernel)
      simp only [p39] at hK ⊢
      exact wpOp_skip (i := 40) rfl (by simp [Region.wanted, yielded, Act.put]) (hK _ _ (Below.refl _ _) hI rfl)
    · have p39 : x 39 = _ := hp 39 (by decide +kernel)
      have p40 : x 40 = _ := hp 40 (by decide +kernel)
      simp only [p39, p40] at hK ⊢
      exact wpOp_skip (i := 41) rfl (by simp [Region.wanted, yielded, Act.put]) (hK _ _ (Below.refl _ _) hI rfl)
    · have p39 : x 39 = _ := hp 39 (by decide +kernel)
      simp only [p39] at hK ⊢
      exact wpOp_skip (i := 42) rfl (by simp [Region.wanted, yielded, Act.put]) (hK _ _ (Below.refl _ _) hI rfl)
    · have p39 : x 39 = _ := hp 39 (by decide +kernel)
      have p42 : x 42 = _ := hp 42 (by decide +kernel)
      simp only [p39, p42] at hK ⊢
      exact wpOp_skip (i := 43) rfl (by simp [Region.wanted, yielded, Act.put]) (hK _ _ (Below.refl _ _) hI rfl)
    · have p39 : x 39 = _ := hp 39 (by decide +kernel)
      have p41 : x 41 = _ := hp 41 (by decide +kernel)
      have p43 : x 43 = _ := hp 43 (by decide +kernel)
      simp only [p39, p41, p43] at hK ⊢
      exact wpOp_skip (i := 44) rfl (by simp [Region.wanted, yielded, Act.put]) (hK _ _ (Below.refl _ _) hI rfl)
    · have p36 : x 36 = _ := hp 36 (by decide +kernel)
      have p39 : x 39 = _ := hp 39 (by decide +kernel)
      have p44 : x 44 = _ := hp 44 (by decide +kernel)
      simp only [p36, p39, p44] at hK ⊢
      refine wpOp_plain (i := 45) rfl (wanted_some rfl (by simp [yielded, Act.put])) ?_
      exact wp_value (v := .bool true) (by go_simp) (hK _ _ (Below.refl _ _) hI rfl)
    · have p36 : x 36 = _ := hp 36 (by decide +kernel)
      have p45 : x 45 = _ := hp 45 (by decide +kernel)
      simp only [p36, p45] at hK ⊢
      refine wpOp_at rfl rfl ?_
      exact wp_value (v := .bool true) (by go_simp) (hK _ _ (Below.refl _ _) hI rfl)
    · have p46 : x 46 = _ := hp 46 (by decide +kernel)
      simp only [p46] at hK ⊢
      refine wpOp_at rfl rfl ?_
      exact wp_value (v := .bool true) (by go_simp) (hK _ _ (Below.refl _ _) hI rfl)
    · have p47 : x 47 = _ := hp 47 (by decide +kernel)
      simp only [p47] at hK ⊢
      refine wpOp_plain (i := 48) rfl (wanted_some rfl (by simp [yielded, Act.put])) ?_
      refine wp_callee (f := 16) (by first | (go_simp; done) | (go_simp; rfl)) ?_
      refine (trusts_law W).mono ?_
      rintro e W2 ⟨rfl, hb2⟩
      exact ⟨_, rfl, hK _ _ hb2 (hI.keep hb2) rfl⟩
    · have p47 : x 47 = _ := hp 47 (by decide +kernel)
      have p48 : x 48 = _ := hp 48 (by decide +kernel)
      simp only [p47, p48] at hK ⊢
      refine wpOp_at rfl rfl ?_
      exact wp_value (v := .bool true) (by go_simp) (hK _ _ (Below.refl _ _) hI rfl)
    · have p49 : x 49 = _ := hp 49 (by decide +kernel)
      simp only [p49] at hK ⊢
      refine wpOp_at rfl rfl ?_
      exact wp_value (v := .bool true) (by go_simp) (hK _ _ (Below.refl _ _) hI rfl)
  case fin =>
    intro x W hI hG
    have p50 : x 50 = _ := hG 50 (by simp)
    simp only [putAll, Act.put, List.setIfInBounds_toArray, List.set_cons_succ, List.set_cons_zero, p50]
    clear hG
    refine wpAny_done (by decide +kernel) ?_ 0
    go_wp2
    go_ret
    exact ⟨rfl, hB1.keep hI⟩

set_option maxRecDepth 100000 in
set_option maxHeartbeats 6000000 in
theorem walk_pos (w : World) (l : List Cert) (ca : Option Addr) (cc : Nat) (c h : Int) (m : Mail) (la : Option Addr) (lc : Nat) (ga : Option Addr) (gc : Nat) (now : Int) (hc0 : 0 ≤ c) (hfit : ∀ x ∈ l, x.fit) (hfa : ∀ y ∈ m.label, fitI y.c) (hfg : ∀ y ∈ m.grants, fitI y) (hC : SlR (fun _ => True) w 4 RCert ca cc l) (hl : l.length * 32 ≤ 140737488351232) (hM : MailR (fun _ => True) w m la lc ga gc) (hm : m.grants.length * 8 ≤ 140737488351232 ∧ m.label.length * 16 ≤ 140737488351232) (hcm : c ≤ 9223372036854775807) :
    Calls Try.prog 3 #[.slice ca l.length cc, .int .i64 c, .int .i64 h, mailV m la lc ga gc, .int .i64 now] w fun r w' => r = .returned (.bool true) ∧ Below w.heap.size w w' := by
  have HF := Lib.hid hfit
  have HFa := Lib.hid hfa
  have HFg := Lib.hid hfg
  clear hfit hfa hfg
  obtain ⟨t0, t1, t2, t3, hv, -⟩ := four_of l c now
  have HV := Lib.hid hv
  clear hv
  have hne : ∀ W : World, (binOp .eql 28 (.agg #[.bool t0, .bool t1, .bool t2, .bool t3]) (.agg #[.bool t0, .bool t1, .bool t2, .bool t3])).run Try.prog W = .ok (.bool true) W := by
    intro W; cases t0 <;> cases t1 <;> cases t2 <;> cases t3 <;> kernel_rfl
  have hgu := guard_four
  have hd : decide (c < 0) = false := by simp; omega
  have HQ := Lib.hid (show IntKind.i64.wrap (c.tdiv 20) = c / 20 by rw [Int.tdiv_eq_ediv_of_nonneg hc0]; exact IntWalk.i64_in _ (by omega))
  have st := St.start w
  unfold mailV
  go_enter Try.func3, Try.ntmps3
  go_wp2_with (first | go_skip | (refine mem_box st (wanted_none rfl) 27 _ rfl _ rfl _ rfl ?_; clear st; intro g1 w1 hg1 st hg1b; clear hg1b; simp [Act.eval, Act.put, Value.cells, putL] at st))
  have hC1 := hC.below st.below
  have hM1 := hM.below st.below
  have hB1 := st.below
  clear hC hM
  refine wp_region_ahead (by kernel_rfl) [(0, some 11), (1, some 12), (2, some 13), (3, some 14), (4, some 15), (5, some 16), (6, some 17), (7, some 18), (8, some 19), (9, some 20), (10, some 21), (11, some 22), (12, some 23), (13, some 24), (14, some 25), (15, some 26), (16, some 27), (17, some 28), (18, some 29), (19, some 30), (20, some 31), (21, some 32), (22, some 33), (23, some 34), (24, some 35), (25, some 36), (26, some 37), (27, some 38), (28, some 39), (29, some 40), (30, some 41), (31, some 42), (32, some 43), (33, some 44), (34, some 45), (35, some 46), (36, some 47), (37, some 48), (38, some 49), (39, some 50), (40, some 51), (41, some 52), (42, some 53), (43, some 54), (44, some 55), (45, some 56), (46, some 57), (47, some 58), (48, some 59), (49, some 60), (50, some 10)] [0, 1, 2, 3, 4, 5, 6, 7, 8, 9, 10, 11, 12, 13, 14, 15, 16, 17, 18, 19, 20, 21, 22, 23, 24, 25, 26, 27, 28, 29, 30, 31, 32, 33, 34, 35, 36, 37, 38, 39, 40, 41, 42, 43, 44, 45, 46, 47, 48, 49, 50] rfl 0 (by decide +kernel) rfl (fun W W' => Below W.heap.size W W') (fun i v W => match i with
    | 0 => v = .slice ca l.length cc
    | 1 => ∃ a k, v = .slice a l.length k ∧ SlR (fun _ => True) W 4 RCert a k l
    | 2 => v = .int .i64 c
    | 3 => v = .int .i64 now
    | 4 => v = .agg #[.bool t0, .bool t1, .bool t2, .bool t3]
    | 5 => v = .slice ca l.length cc
    | 6 => v = .int .i64 c
    | 7 => v = .int .i64 now
    | 8 => v = .agg #[.bool t0, .bool t1, .bool t2, .bool t3]
    | 9 => v = .bool true
    | 10 => v = .bool true
    | 11 => v = .slice ca l.length cc
    | 12 => ∃ a k, v = .slice a l.length k ∧ SlR (fun _ => True) W 4 RCert a k l
    | 13 => v = .int .i64 h
    | 14 => v = .agg #[.int .i64 m.host, .int .i64 m.thread, .slice la m.label.length lc, .slice ga m.grants.length gc, .string m.text]
    | 15 => ∃ a k b q, v = mailV m a k b q ∧ MailR (fun _ => True) W m a k b q
    | 16 => v = .int .i64 now
    | 17 => v = .bool (mayB l h m now)
    | 18 => v = .slice ca l.length cc
    | 19 => v = .int .i64 h
    | 20 => v = .agg #[.int .i64 m.host, .int .i64 m.thread, .slice la m.label.length lc, .slice ga m.grants.length gc, .string m.text]
    | 21 => v = .int .i64 now
    | 22 => v = .bool (mayB l h m now)
    | 23 => v = .bool true
    | 24 => v = .bool true
    | 25 => v = .bool true
    | 26 => v = .slice ca l.length cc
    | 27 => ∃ a k, v = .slice a l.length k ∧ SlR (fun _ => True) W 4 RCert a k l
    | 28 => v = .agg #[.int .i64 m.host, .int .i64 m.thread, .slice la m.label.length lc, .slice ga m.grants.length gc, .string m.text]
    | 29 => ∃ a k b q, v = mailV m a k b q ∧ MailR (fun _ => True) W m a k b q
    | 30 => ∃ a k, v = .slice a (showL l m).length k ∧ SlR (fun _ => True) W 4 RCert a k (showL l m)
    | 31 => v = .slice ca l.length cc
    | 32 => v = .agg #[.int .i64 m.host, .int .i64 m.thread, .slice la m.label.length lc, .slice ga m.grants.length gc, .string m.text]
    | 33 => ∃ a k, v = .slice a (showL l m).length k ∧ SlR (fun _ => True) W 4 RCert a k (showL l m)
    | 34 => v = .bool true
    | 35 => v = .bool true
    | 36 => v = .bool true
    | 37 => v = .int .i64 c
    | 38 => v = .bool false
    | 39 => v = .bool false
    | 40 => v = .int .i64 c
    | 41 => v = .int .i64 (c / 20)
    | 42 => v = .int .i64 c
    | 43 => v = .int .i64 (c / 20)
    | 44 => v = .bool true
    | 45 => v = .bool true
    | 46 => v = .bool true
    | 47 => v = .bool true
    | 48 => v = .bool true
    | 49 => v = .bool true
    | _ => v = .bool true)
    (fun W => Below w1.heap.size w1 W) (Below.refl _ _).drew ?mono ?step ?fin
  case mono =>
    intro i v U U' hi hb _ _ h
    simp only [List.mem_cons, List.not_mem_nil, or_false] at hi
    rcases hi with rfl | rfl | rfl | rfl | rfl | rfl | rfl | rfl | rfl | rfl | rfl | rfl | rfl | rfl | rfl | rfl | rfl | rfl | rfl | rfl | rfl | rfl | rfl | rfl | rfl | rfl | rfl | rfl | rfl | rfl | rfl | rfl | rfl | rfl | rfl | rfl | rfl | rfl | rfl | rfl | rfl | rfl | rfl | rfl | rfl | rfl | rfl | rfl | rfl | rfl | rfl
    · exact h
    · obtain ⟨a, k, e, h⟩ := h; exact ⟨a, k, e, h.below hb⟩
    · exact h
    · exact h
    · exact h
    · exact h
    · exact h
    · exact h
    · exact h
    · exact h
    · exact h
    · exact h
    · obtain ⟨a, k, e, h⟩ := h; exact ⟨a, k, e, h.below hb⟩
    · exact h
    · exact h
    · obtain ⟨a, k, b, q, e, h⟩ := h; exact ⟨a, k, b, q, e, h.below hb⟩
    · exact h
    · exact h
    · exact h
    · exact h
    · exact h
    · exact h
    · exact h
    · exact h
    · exact h
    · exact h
    · exact h
    · obtain ⟨a, k, e, h⟩ := h; exact ⟨a, k, e, h.below hb⟩
    · exact h
    · obtain ⟨a, k, b, q, e, h⟩ := h; exact ⟨a, k, b, q, e, h.below hb⟩
    · obtain ⟨a, k, e, h⟩ := h; exact ⟨a, k, e, h.below hb⟩
    · exact h
    · exact h
    · obtain ⟨a, k, e, h⟩ := h; exact ⟨a, k, e, h.below hb⟩
    · exact h
    · exact h
    · exact h
    · exact h
    · exact h
    · exact h
    · exact h
    · exact h
    · exact h
    · exact h
    · exact h
    · exact h
    · exact h
    · exact h
    · exact h
    · exact h
    · exact h
  case step =>
    intro i t hi x W hI hp K hK
    have stW := st.call hI
    simp only [putAll, Act.put, List.setIfInBounds_toArray, List.set_cons_succ, List.set_cons_zero] at hK ⊢
    simp only [List.mem_cons, List.not_mem_nil, or_false, Prod.mk.injEq] at hi
    rcases hi with ⟨rfl, rfl⟩ | ⟨rfl, rfl⟩ | ⟨rfl, rfl⟩ | ⟨rfl, rfl⟩ | ⟨rfl, rfl⟩ | ⟨rfl, rfl⟩ | ⟨rfl, rfl⟩ | ⟨rfl, rfl⟩ | ⟨rfl, rfl⟩ | ⟨rfl, rfl⟩ | ⟨rfl, rfl⟩ | ⟨rfl, rfl⟩ | ⟨rfl, rfl⟩ | ⟨rfl, rfl⟩ | ⟨rfl, rfl⟩ | ⟨rfl, rfl⟩ | ⟨rfl, rfl⟩ | ⟨rfl, rfl⟩ | ⟨rfl, rfl⟩ | ⟨rfl, rfl⟩ | ⟨rfl, rfl⟩ | ⟨rfl, rfl⟩ | ⟨rfl, rfl⟩ | ⟨rfl, rfl⟩ | ⟨rfl, rfl⟩ | ⟨rfl, rfl⟩ | ⟨rfl, rfl⟩ | ⟨rfl, rfl⟩ | ⟨rfl, rfl⟩ | ⟨rfl, rfl⟩ | ⟨rfl, rfl⟩ | ⟨rfl, rfl⟩ | ⟨rfl, rfl⟩ | ⟨rfl, rfl⟩ | ⟨rfl, rfl⟩ | ⟨rfl, rfl⟩ | ⟨rfl, rfl⟩ | ⟨rfl, rfl⟩ | ⟨rfl, rfl⟩ | ⟨rfl, rfl⟩ | ⟨rfl, rfl⟩ | ⟨rfl, rfl⟩ | ⟨rfl, rfl⟩ | ⟨rfl, rfl⟩ | ⟨rfl, rfl⟩ | ⟨rfl, rfl⟩ | ⟨rfl, rfl⟩ | ⟨rfl, rfl⟩ | ⟨rfl, rfl⟩ | ⟨rfl, rfl⟩ | ⟨rfl, rfl⟩
    · refine wpOp_at rfl rfl ?_
      exact wp_value (v := .slice ca l.length cc) (by go_simp) (hK _ _ (Below.refl _ _) hI rfl)
    · have p0 : x 0 = _ := hp 0 (by decide +kernel)
      simp only [p0] at hK ⊢
      refine wpOp_at rfl rfl ?_
      refine wp_callee (f := 7) (by first | (go_simp; done) | (go_simp; rfl)) ?_
      refine (law_certs (fun _ => True) W ca cc l (by omega) (hC1.below hI)).mono ?_
      rintro e W2 ⟨a, k, rfl, hb2, hR2⟩
      exact ⟨_, rfl, hK _ _ hb2 (hI.keep hb2) ⟨_, _, rfl, hR2⟩⟩
    · refine wpOp_at rfl rfl ?_
      exact wp_value (v := .int .i64 c) (by go_simp) (hK _ _ (Below.refl _ _) hI rfl)
    · refine wpOp_at rfl rfl ?_
      exact wp_value (v := .int .i64 now) (by go_simp) (hK _ _ (Below.refl _ _) hI rfl)
    · obtain ⟨a1, k1, p1, h1⟩ := hp 1 (by decide +kernel)
      have p2 : x 2 = _ := hp 2 (by decide +kernel)
      have p3 : x 3 = _ := hp 3 (by decide +kernel)
      simp only [p1, p2, p3] at hK ⊢
      refine wpOp_at rfl rfl ?_
      refine wp_callee (f := 6) (by first | (go_simp; done) | (go_simp; rfl)) ?_
      refine (trust_Trusted (fun _ => True) W a1 k1 l c now h1).mono ?_
      rintro e W2 ⟨rfl, hb2⟩
      rw [HV.out]
      exact ⟨_, rfl, hK _ _ hb2 (hI.keep hb2) rfl⟩
    · refine wpOp_at rfl rfl ?_
      exact wp_value (v := .slice ca l.length cc) (by go_simp) (hK _ _ (Below.refl _ _) hI rfl)
    · refine wpOp_at rfl rfl ?_
      exact wp_value (v := .int .i64 c) (by go_simp) (hK _ _ (Below.refl _ _) hI rfl)
    · refine wpOp_at rfl rfl ?_
      exact wp_value (v := .int .i64 now) (by go_simp) (hK _ _ (Below.refl _ _) hI rfl)
    · have p5 : x 5 = _ := hp 5 (by decide +kernel)
      have p6 : x 6 = _ := hp 6 (by decide +kernel)
      have p7 : x 7 = _ := hp 7 (by decide +kernel)
      simp only [p5, p6, p7] at hK ⊢
      refine wpOp_at rfl rfl ?_
      refine wp_callee (f := 8) (by first | (go_simp; done) | (go_simp; rfl)) ?_
      refine (ref_Trusted (fun _ => True) W ca cc l c now HF.out (hC1.below hI)).mono ?_
      rintro e W2 ⟨rfl, hb2⟩
      rw [HV.out]
      exact ⟨_, rfl, hK _ _ hb2 (hI.keep hb2) rfl⟩
    · have p4 : x 4 = _ := hp 4 (by decide +kernel)
      have p8 : x 8 = _ := hp 8 (by decide +kernel)
      simp only [p4, p8] at hK ⊢
      refine wpOp_at rfl rfl ?_
      exact wp_value (v := .bool true) (by go_simp) (hK _ _ (Below.refl _ _) hI rfl)
    · have p9 : x 9 = _ := hp 9 (by decide +kernel)
      simp only [p9] at hK ⊢
      refine wpOp_at rfl rfl ?_
      exact wp_value (v := .bool true) (by go_simp) (hK _ _ (Below.refl _ _) hI rfl)
    · have p10 : x 10 = _ := hp 10 (by decide +kernel)
      simp only [p10] at hK ⊢
      refine wpOp_plain (i := 11) rfl (wanted_some rfl (by simp [yielded, Act.put])) ?_
      exact wp_value (v := .slice ca l.length cc) (by go_simp) (hK _ _ (Below.refl _ _) hI rfl)
    · have p10 : x 10 = _ := hp 10 (by decide +kernel)
      have p11 : x 11 = _ := hp 11 (by decide +kernel)
      simp only [p10, p11] at hK ⊢
      refine wpOp_plain (i := 12) rfl (wanted_some rfl (by simp [yielded, Act.put])) ?_
      refine wp_callee (f := 7) (by first | (go_simp; done) | (go_simp; rfl)) ?_
      refine (law_certs (fun _ => True) W ca cc l (by omega) (hC1.below hI)).mono ?_
      rintro e W2 ⟨a, k, rfl, hb2, hR2⟩
      exact ⟨_, rfl, hK _ _ hb2 (hI.keep hb2) ⟨_, _, rfl, hR2⟩⟩
    · have p10 : x 10 = _ := hp 10 (by decide +kernel)
      simp only [p10] at hK ⊢
      refine wpOp_plain (i := 13) rfl (wanted_some rfl (by simp [yielded, Act.put])) ?_
      exact wp_value (v := .int .i64 h) (by go_simp) (hK _ _ (Below.refl _ _) hI rfl)
    · have p10 : x 10 = _ := hp 10 (by decide +kernel)
      simp only [p10] at hK ⊢
      refine wpOp_plain (i := 14) rfl (wanted_some rfl (by simp [yielded, Act.put])) ?_
      exact wp_load_agg' stW 27 _ rfl Try.isAgg27 _ Try.sizeOf27 ⟨0, _, _, _, _, _, rfl, rfl, rfl, rfl, hK _ _ (Below.refl _ _) hI rfl⟩
    · have p10 : x 10 = _ := hp 10 (by decide +kernel)
      have p14 : x 14 = _ := hp 14 (by decide +kernel)
      simp only [p10, p14] at hK ⊢
      refine wpOp_plain (i := 15) rfl (wanted_some rfl (by simp [yielded, Act.put])) ?_
      refine wp_callee (f := 10) (by first | (go_simp; done) | (go_simp; rfl)) ?_
      refine (ref_CopyMail (fun _ => True) W m la lc ga gc (hM1.below hI).label (hM1.below hI).grants (by omega) (by omega)).mono ?_
      rintro e W2 ⟨a, k, b, q, rfl, hb2, hA2, hB2⟩
      have hR2 : MailR (fun _ => True) W2 m a k b q := ⟨hA2.okay fun _ _ => trivial, hB2.okay fun _ _ => trivial⟩
      exact ⟨_, rfl, hK _ _ hb2 (hI.keep hb2) ⟨_, _, _, _, rfl, hR2⟩⟩
    · have p10 : x 10 = _ := hp 10 (by decide +kernel)
      simp only [p10] at hK ⊢
      refine wpOp_plain (i := 16) rfl (wanted_some rfl (by simp [yielded, Act.put])) ?_
      exact wp_value (v := .int .i64 now) (by go_simp) (hK _ _ (Below.refl _ _) hI rfl)
    · have p10 : x 10 = _ := hp 10 (by decide +kernel)
      obtain ⟨a12, k12, p12, h12⟩ := hp 12 (by decide +kernel)
      have p13 : x 13 = _ := hp 13 (by decide +kernel)
      obtain ⟨a15, k15, b15, q15, p15, h15⟩ := hp 15 (by decide +kernel)
      have p16 : x 16 = _ := hp 16 (by decide +kernel)
      simp only [p10, p12, p13, p15, p16] at hK ⊢
      refine wpOp_plain (i := 17) rfl (wanted_some rfl (by simp [yielded, Act.put])) ?_
      refine wp_callee (f := 9) (by first | (go_simp; done) | (go_simp; rfl)) ?_
      refine (trust_May (fun _ => True) W l a12 k12 h m a15 k15 b15 q15 now hm h12 h15).mono ?_
      rintro e W2 ⟨rfl, hb2⟩
      exact ⟨_, rfl, hK _ _ hb2 (hI.keep hb2) rfl⟩
    · have p10 : x 10 = _ := hp 10 (by decide +kernel)
      simp only [p10] at hK ⊢
      refine wpOp_plain (i := 18) rfl (wanted_some rfl (by simp [yielded, Act.put])) ?_
      exact wp_value (v := .slice ca l.length cc) (by go_simp) (hK _ _ (Below.refl _ _) hI rfl)
    · have p10 : x 10 = _ := hp 10 (by decide +kernel)
      simp only [p10] at hK ⊢
      refine wpOp_plain (i := 19) rfl (wanted_some rfl (by simp [yielded, Act.put])) ?_
      exact wp_value (v := .int .i64 h) (by go_simp) (hK _ _ (Below.refl _ _) hI rfl)
    · have p10 : x 10 = _ := hp 10 (by decide +kernel)
      simp only [p10] at hK ⊢
      refine wpOp_plain (i := 20) rfl (wanted_some rfl (by simp [yielded, Act.put])) ?_
      exact wp_load_agg' stW 27 _ rfl Try.isAgg27 _ Try.sizeOf27 ⟨0, _, _, _, _, _, rfl, rfl, rfl, rfl, hK _ _ (Below.refl _ _) hI rfl⟩
    · have p10 : x 10 = _ := hp 10 (by decide +kernel)
      simp only [p10] at hK ⊢
      refine wpOp_plain (i := 21) rfl (wanted_some rfl (by simp [yielded, Act.put])) ?_
      exact wp_value (v := .int .i64 now) (by go_simp) (hK _ _ (Below.refl _ _) hI rfl)
    · have p10 : x 10 = _ := hp 10 (by decide +kernel)
      have p18 : x 18 = _ := hp 18 (by decide +kernel)
      have p19 : x 19 = _ := hp 19 (by decide +kernel)
      have p20 : x 20 = _ := hp 20 (by decide +kernel)
      have p21 : x 21 = _ := hp 21 (by decide +kernel)
      simp only [p10, p18, p19, p20, p21] at hK ⊢
      refine wpOp_plain (i := 22) rfl (wanted_some rfl (by simp [yielded, Act.put])) ?_
      refine wp_callee (f := 11) (by first | (go_simp; done) | (go_simp; rfl)) ?_
      refine (ref_May (fun _ => True) W l ca cc h m la lc ga gc now HF.out HFa.out HFg.out hm (hC1.below hI) (hM1.below hI)).mono ?_
      rintro e W2 ⟨rfl, hb2⟩
      exact ⟨_, rfl, hK _ _ hb2 (hI.keep hb2) rfl⟩
    · have p10 : x 10 = _ := hp 10 (by decide +kernel)
      have p17 : x 17 = _ := hp 17 (by decide +kernel)
      have p22 : x 22 = _ := hp 22 (by decide +kernel)
      simp only [p10, p17, p22] at hK ⊢
      refine wpOp_plain (i := 23) rfl (wanted_some rfl (by simp [yielded, Act.put])) ?_
      exact wp_value (v := .bool true) (by go_simp) (hK _ _ (Below.refl _ _) hI rfl)
    · have p10 : x 10 = _ := hp 10 (by decide +kernel)
      have p23 : x 23 = _ := hp 23 (by decide +kernel)
      simp only [p10, p23] at hK ⊢
      refine wpOp_at rfl rfl ?_
      exact wp_value (v := .bool true) (by go_simp) (hK _ _ (Below.refl _ _) hI rfl)
    · have p24 : x 24 = _ := hp 24 (by decide +kernel)
      simp only [p24] at hK ⊢
      refine wpOp_at rfl rfl ?_
      exact wp_value (v := .bool true) (by go_simp) (hK _ _ (Below.refl _ _) hI rfl)
    · have p25 : x 25 = _ := hp 25 (by decide +kernel)
      simp only [p25] at hK ⊢
      refine wpOp_plain (i := 26) rfl (wanted_some rfl (by simp [yielded, Act.put])) ?_
      exact wp_value (v := .slice ca l.length cc) (by go_simp) (hK _ _ (Below.refl _ _) hI rfl)
    · have p25 : x 25 = _ := hp 25 (by decide +kernel)
      have p26 : x 26 = _ := hp 26 (by decide +kernel)
      simp only [p25, p26] at hK ⊢
      refine wpOp_plain (i := 27) rfl (wanted_some rfl (by simp [yielded, Act.put])) ?_
      refine wp_callee (f := 7) (by first | (go_simp; done) | (go_simp; rfl)) ?_
      refine (law_certs (fun _ => True) W ca cc l (by omega) (hC1.below hI)).mono ?_
      rintro e W2 ⟨a, k, rfl, hb2, hR2⟩
      exact ⟨_, rfl, hK _ _ hb2 (hI.keep hb2) ⟨_, _, rfl, hR2⟩⟩
    · have p25 : x 25 = _ := hp 25 (by decide +kernel)
      simp only [p25] at hK ⊢
      refine wpOp_plain (i := 28) rfl (wanted_some rfl (by simp [yielded, Act.put])) ?_
      exact wp_load_agg' stW 27 _ rfl Try.isAgg27 _ Try.sizeOf27 ⟨0, _, _, _, _, _, rfl, rfl, rfl, rfl, hK _ _ (Below.refl _ _) hI rfl⟩
    · have p25 : x 25 = _ := hp 25 (by decide +kernel)
      have p28 : x 28 = _ := hp 28 (by decide +kernel)
      simp only [p25, p28] at hK ⊢
      refine wpOp_plain (i := 29) rfl (wanted_some rfl (by simp [yielded, Act.put])) ?_
      refine wp_callee (f := 10) (by first | (go_simp; done) | (go_simp; rfl)) ?_
      refine (ref_CopyMail (fun _ => True) W m la lc ga gc (hM1.below hI).label (hM1.below hI).grants (by omega) (by omega)).mono ?_
      rintro e W2 ⟨a, k, b, q, rfl, hb2, hA2, hB2⟩
      have hR2 : MailR (fun _ => True) W2 m a k b q := ⟨hA2.okay fun _ _ => trivial, hB2.okay fun _ _ => trivial⟩
      exact ⟨_, rfl, hK _ _ hb2 (hI.keep hb2) ⟨_, _, _, _, rfl, hR2⟩⟩
    · have p25 : x 25 = _ := hp 25 (by decide +kernel)
      obtain ⟨a27, k27, p27, h27⟩ := hp 27 (by decide +kernel)
      obtain ⟨a29, k29, b29, q29, p29, h29⟩ := hp 29 (by decide +kernel)
      simp only [p25, p27, p29] at hK ⊢
      refine wpOp_plain (i := 30) rfl (wanted_some rfl (by simp [yielded, Act.put])) ?_
      refine wp_callee (f := 13) (by first | (go_simp; done) | (go_simp; rfl)) ?_
      refine (trust_Show (fun _ => True) W l a27 k27 m a29 k29 b29 q29 hm (by omega) h27 h29).mono ?_
      rintro e W2 ⟨a, k, rfl, hb2, hS2⟩
      have hR2 := hS2.okay (fun _ _ => trivial : ∀ b, _ → True)
      exact ⟨_, rfl, hK _ _ hb2 (hI.keep hb2) ⟨_, _, rfl, hR2⟩⟩
    · have p25 : x 25 = _ := hp 25 (by decide +kernel)
      simp only [p25] at hK ⊢
      refine wpOp_plain (i := 31) rfl (wanted_some rfl (by simp [yielded, Act.put])) ?_
      exact wp_value (v := .slice ca l.length cc) (by go_simp) (hK _ _ (Below.refl _ _) hI rfl)
    · have p25 : x 25 = _ := hp 25 (by decide +kernel)
      simp only [p25] at hK ⊢
      refine wpOp_plain (i := 32) rfl (wanted_some rfl (by simp [yielded, Act.put])) ?_
      exact wp_load_agg' stW 27 _ rfl Try.isAgg27 _ Try.sizeOf27 ⟨0, _, _, _, _, _, rfl, rfl, rfl, rfl, hK _ _ (Below.refl _ _) hI rfl⟩
    · have p25 : x 25 = _ := hp 25 (by decide +kernel)
      have p31 : x 31 = _ := hp 31 (by decide +kernel)
      have p32 : x 32 = _ := hp 32 (by decide +kernel)
      simp only [p25, p31, p32] at hK ⊢
      refine wpOp_plain (i := 33) rfl (wanted_some rfl (by simp [yielded, Act.put])) ?_
      refine wp_callee (f := 14) (by first | (go_simp; done) | (go_simp; rfl)) ?_
      refine (ref_Show (fun _ => True) W l ca cc m la lc ga gc hm HFa.out HFg.out HF.out (by omega) (hC1.below hI) (hM1.below hI)).mono ?_
      rintro e W2 ⟨a, k, rfl, hb2, hS2⟩
      have hR2 := hS2.okay (fun _ _ => trivial : ∀ b, _ → True)
      exact ⟨_, rfl, hK _ _ hb2 (hI.keep hb2) ⟨_, _, rfl, hR2⟩⟩
    · have p25 : x 25 = _ := hp 25 (by decide +kernel)
      obtain ⟨a30, k30, p30, h30⟩ := hp 30 (by decide +kernel)
      obtain ⟨a33, k33, p33, h33⟩ := hp 33 (by decide +kernel)
      simp only [p25, p30, p33] at hK ⊢
      refine wpOp_plain (i := 34) rfl (wanted_some rfl (by simp [yielded, Act.put])) ?_
      refine wp_callee (f := 12) (by first | (go_simp; done) | (go_simp; rfl)) ?_
      refine (ref_SameCerts (fun _ => True) (fun _ => True) _ _ _ _ _ (showL l m) (showL l m) h30 h33).mono ?_
      rintro e W2 ⟨rfl, hb2⟩
      rw [decide_eq_true (rfl : showL l m = showL l m)]
      exact ⟨_, rfl, hK _ _ hb2 (hI.keep hb2) rfl⟩
    · have p25 : x 25 = _ := hp 25 (by decide +kernel)
      have p34 : x 34 = _ := hp 34 (by decide +kernel)
      simp only [p25, p34] at hK ⊢
      refine wpOp_at rfl rfl ?_
      exact wp_value (v := .bool true) (by go_simp) (hK _ _ (Below.refl _ _) hI rfl)
    · have p35 : x 35 = _ := hp 35 (by decide +kernel)
      simp only [p35] at hK ⊢
      refine wpOp_at rfl rfl ?_
      exact wp_value (v := .bool true) (by go_simp) (hK _ _ (Below.refl _ _) hI rfl)
    · have p36 : x 36 = _ := hp 36 (by decide +kernel)
      simp only [p36] at hK ⊢
      refine wpOp_plain (i := 37) rfl (wanted_some rfl (by simp [yielded, Act.put])) ?_
      exact wp_value (v := .int .i64 c) (by go_simp) (hK _ _ (Below.refl _ _) hI rfl)
    · have p36 : x 36 = _ := hp 36 (by decide +kernel)
      have p37 : x 37 = _ := hp 37 (by decide +kernel)
      simp only [p36, p37] at hK ⊢
      refine wpOp_plain (i := 38) rfl (wanted_some rfl (by simp [yielded, Act.put])) ?_
      exact wp_value (v := .bool false) (by go_simp) (hK _ _ (Below.refl _ _) hI rfl)
    · have p36 : x 36 = _ := hp 36 (by decide +kernel)
      have p38 : x 38 = _ := hp 38 (by decide +kernel)
      simp only [p36, p38] at hK ⊢
      refine wpOp_plain (i := 39) rfl (wanted_some rfl (by simp [yielded, Act.put])) ?_
      exact wp_value (v := .bool false) (by go_simp) (hK _ _ (Below.refl _ _) hI rfl)
    · have p39 : x 39 = _ := hp 39 (by decide +kernel)
      simp only [p39] at hK ⊢
      refine wpOp_plain (i := 40) rfl (wanted_some rfl (by simp [yielded, Act.put])) ?_
      exact wp_value (v := .int .i64 c) (by go_simp) (hK _ _ (Below.refl _ _) hI rfl)
    · have p39 : x 39 = _ := hp 39 (by decide +kernel)
      have p40 : x 40 = _ := hp 40 (by decide +kernel)
      simp only [p39, p40] at hK ⊢
      refine wpOp_plain (i := 41) rfl (wanted_some rfl (by simp [yielded, Act.put])) ?_
      refine wp_callee (f := 15) (by first | (go_simp; done) | (go_simp; rfl)) ?_
      refine (trust_Home c W hc0 (by omega)).mono ?_
      rintro e W2 ⟨rfl, rfl⟩
      exact ⟨_, rfl, hK _ _ (Below.refl _ _) hI rfl⟩
    · have p39 : x 39 = _ := hp 39 (by decide +kernel)
      simp only [p39] at hK ⊢
      refine wpOp_plain (i := 42) rfl (wanted_some rfl (by simp [yielded, Act.put])) ?_
      exact wp_value (v := .int .i64 c) (by go_simp) (hK _ _ (Below.refl _ _) hI rfl)
    · have p39 : x 39 = _ := hp 39 (by decide +kernel)
      have p42 : x 42 = _ := hp 42 (by decide +kernel)
      simp only [p39, p42] at hK ⊢
      refine wpOp_plain (i := 43) rfl (wanted_some rfl (by simp [yielded, Act.put])) ?_
      exact wp_value (v := .int .i64 (c / 20)) (by go_simp; exact HQ.out) (hK _ _ (Below.refl _ _) hI rfl)
    · have p39 : x 39 = _ := hp 39 (by decide +kernel)
      have p41 : x 41 = _ := hp 41 (by decide +kernel)
      have p43 : x 43 = _ := hp 43 (by decide +kernel)
      simp only [p39, p41, p43] at hK ⊢
      refine wpOp_plain (i := 44) rfl (wanted_some rfl (by simp [yielded, Act.put])) ?_
      exact wp_value (v := .bool true) (by go_simp) (hK _ _ (Below.refl _ _) hI rfl)
    · have p36 : x 36 = _ := hp 36 (by decide +kernel)
      have p39 : x 39 = _ := hp 39 (by decide +kernel)
      have p44 : x 44 = _ := hp 44 (by decide +kernel)
      simp only [p36, p39, p44] at hK ⊢
      refine wpOp_plain (i := 45) rfl (wanted_some rfl (by simp [yielded, Act.put])) ?_
      exact wp_value (v := .bool true) (by go_simp) (hK _ _ (Below.refl _ _) hI rfl)
    · have p36 : x 36 = _ := hp 36 (by decide +kernel)
      have p45 : x 45 = _ := hp 45 (by decide +kernel)
      simp only [p36, p45] at hK ⊢
      refine wpOp_at rfl rfl ?_
      exact wp_value (v := .bool true) (by go_simp) (hK _ _ (Below.refl _ _) hI rfl)
    · have p46 : x 46 = _ := hp 46 (by decide +kernel)
      simp only [p46] at hK ⊢
      refine wpOp_at rfl rfl ?_
      exact wp_value (v := .bool true) (by go_simp) (hK _ _ (Below.refl _ _) hI rfl)
    · have p47 : x 47 = _ := hp 47 (by decide +kernel)
      simp only [p47] at hK ⊢
      refine wpOp_plain (i := 48) rfl (wanted_some rfl (by simp [yielded, Act.put])) ?_
      refine wp_callee (f := 16) (by first | (go_simp; done) | (go_simp; rfl)) ?_
      refine (trusts_law W).mono ?_
      rintro e W2 ⟨rfl, hb2⟩
      exact ⟨_, rfl, hK _ _ hb2 (hI.keep hb2) rfl⟩
    · have p47 : x 47 = _ := hp 47 (by decide +kernel)
      have p48 : x 48 = _ := hp 48 (by decide +kernel)
      simp only [p47, p48] at hK ⊢
      refine wpOp_at rfl rfl ?_
      exact wp_value (v := .bool true) (by go_simp) (hK _ _ (Below.refl _ _) hI rfl)
    · have p49 : x 49 = _ := hp 49 (by decide +kernel)
      simp only [p49] at hK ⊢
      refine wpOp_at rfl rfl ?_
      exact wp_value (v := .bool true) (by go_simp) (hK _ _ (Below.refl _ _) hI rfl)
  case fin =>
    intro x W hI hG
    have p50 : x 50 = _ := hG 50 (by simp)
    simp only [putAll, Act.put, List.setIfInBounds_toArray, List.set_cons_succ, List.set_cons_zero, p50]
    clear hG
    refine wpAny_done (by decide +kernel) ?_ 0
    go_wp2
    go_ret
    exact ⟨rfl, hB1.keep hI⟩

theorem walk (w : World) (l : List Cert) (ca : Option Addr) (cc : Nat) (c h : Int) (m : Mail) (la : Option Addr) (lc : Nat) (ga : Option Addr) (gc : Nat) (now : Int) (hc : fitI c) (hfit : ∀ x ∈ l, x.fit) (hm0 : m.fit) (hC : SlR (fun _ => True) w 4 RCert ca cc l) (hl : l.length * 32 ≤ 140737488351232) (hM : MailR (fun _ => True) w m la lc ga gc) :
    Calls Try.prog 3 #[.slice ca l.length cc, .int .i64 c, .int .i64 h, mailV m la lc ga gc, .int .i64 now] w fun r w' => r = .returned (.bool true) ∧ Below w.heap.size w w' := by
  have h1 : ∀ y ∈ m.label, fitI y.c := fun y hy => (hm0.2.2.1.2 y hy).1
  have h2 : ∀ y ∈ m.grants, fitI y := hm0.2.2.2.1.2
  by_cases h0 : c < 0
  · exact walk_neg w l ca cc c h m la lc ga gc now h0 hfit h1 h2 hC hl hM ⟨hm0.2.2.2.1.1, hm0.2.2.1.1⟩ hc.2
  · exact walk_pos w l ca cc c h m la lc ga gc now (by omega) hfit h1 h2 hC hl hM ⟨hm0.2.2.2.1.1, hm0.2.2.1.1⟩ hc.2

theorem own : ownKnob Try.prog.godebug = none := by kernel_rfl
theorem laid : laidOutB Try.prog = true := by kernel_rfl

set_option maxRecDepth 100000 in
theorem contract (H : Type) (enc : TypeId × Value → H) (W : World) (base : Nat) (args : Array Value) (ds gs : List (DataW H)) (before : List MemPlace)
    (hval : ∀ (j : Nat) t v, Try.f3.params[j]? = some t → args[j]? = some v → Value.okWide Try.prog W .any base t v)
    (hW : DataW.Whole enc Try.prog Try.f3.params.toList Rows.trustMaysSpec.vars false W args.toList ds gs before)
    (hsz : (DataW.weightsEach Try.prog (Try.f3.params.toList ++ Rows.trustMaysSpec.plain.varTypes Try.prog) (ds ++ gs)).all (· ≤ reachBytes) = true) :
    Calls Try.prog 3 args W fun e W' => ∃ v, e = .returned v ∧ Rows.trustMaysSpec.post enc Try.prog Try.f3 false true false false W args v W' := by
  have hW' := hW
  obtain ⟨p, q, hA0, hV, rfl, hfz, hnd⟩ := hW
  have hA : DataW.TrodAll enc Try.prog W 0 (fun _ => true) true Try.f3.params.toList args.toList ds p := hA0
  have hpar := Try.params3
  rw [hpar] at hA hval hsz
  obtain ⟨v0, vs0, d0, ds0, p0, q0, hargs0, rfl, rfl, h0, r0⟩ := trodAll_cons hA
  obtain ⟨v1, vs1, d1, ds1, p1, q1, hargs1, rfl, rfl, h1, r1⟩ := trodAll_cons r0
  obtain ⟨v2, vs2, d2, ds2, p2, q2, hargs2, rfl, rfl, h2, r2⟩ := trodAll_cons r1
  obtain ⟨v3, vs3, d3, ds3, p3, q3, hargs3, rfl, rfl, h3, r3⟩ := trodAll_cons r2
  obtain ⟨v4, vs4, d4, ds4, p4, q4, hargs4, rfl, rfl, h4, r4⟩ := trodAll_cons r3
  obtain ⟨hnil, rfl, rfl⟩ := trodAll_nil r4
  obtain rfl : args = #[v0, v1, v2, v3, v4] := by cases args; simp_all
  obtain ⟨rfl, rfl⟩ := trodVars_none hV
  have w0 : ∀ n ∈ d0.weights Try.prog 22, n ≤ reachBytes := fun n hn => by simpa using List.all_eq_true.1 hsz n (DataW.weights_mem_each (j := 0) (t := 22) (d := d0) rfl rfl n hn)
  obtain ⟨x0, a0, c0, rfl, hR0, hl0, hx0, hm0⟩ := arg_slice (fit := Cert.fit) (mass := Cert.mass) reads_Cert Try.underlying22 (by kernel_rfl : Try.prog.cellsOf _ = 4) (by decide) (by kernel_rfl : Try.prog.bytesOf _ = 32) (hval 0 _ v0 rfl rfl) h0 w0
  have w1 : ∀ n ∈ d1.weights Try.prog 3, n ≤ reachBytes := fun n hn => by simpa using List.all_eq_true.1 hsz n (DataW.weights_mem_each (j := 1) (t := 3) (d := d1) rfl rfl n hn)
  obtain ⟨x1, rfl, hx1⟩ := arg_int Try.underlying3 (hval 1 _ v1 rfl rfl) h1
  have w2 : ∀ n ∈ d2.weights Try.prog 3, n ≤ reachBytes := fun n hn => by simpa using List.all_eq_true.1 hsz n (DataW.weights_mem_each (j := 2) (t := 3) (d := d2) rfl rfl n hn)
  obtain ⟨x2, rfl, hx2⟩ := arg_int Try.underlying3 (hval 2 _ v2 rfl rfl) h2
  have w3 : ∀ n ∈ d3.weights Try.prog 27, n ≤ reachBytes := fun n hn => by simpa using List.all_eq_true.1 hsz n (DataW.weights_mem_each (j := 3) (t := 27) (d := d3) rfl rfl n hn)
  obtain ⟨x3, cs3, rfl, ⟨la3, lc3, ga3, gc3, rfl, hA3, hB3⟩, hx3, hm3⟩ := arg_struct reads_Mail Try.underlying27 (hval 3 _ v3 rfl rfl) h3 w3
  have w4 : ∀ n ∈ d4.weights Try.prog 3, n ≤ reachBytes := fun n hn => by simpa using List.all_eq_true.1 hsz n (DataW.weights_mem_each (j := 4) (t := 3) (d := d4) rfl rfl n hn)
  obtain ⟨x4, rfl, hx4⟩ := arg_int Try.underlying3 (hval 4 _ v4 rfl rfl) h4
  refine (walk W x0 a0 c0 x1 x2 x3 la3 lc3 ga3 gc3 x4 hx1 hx0 hx3 hR0 hl0 ⟨hA3, hB3⟩).mono fun e W' ⟨he, hb⟩ => ?_
  exact ⟨_, he, law_post laid (by kernel_rfl) hW' rfl rfl (by kernel_rfl) Try.underlying4 hb⟩

set_option maxRecDepth 100000 in
theorem lifted (os : Os) (started : os.Started) (H : Type) (enc : TypeId × Value → H) :
    ReturnsInHanded {} Try.checked os 3 .any (Rows.trustMaysSpec.pre6 enc Try.prog Try.f3 Rows.trustMaysRow.domain false) (Rows.trustMaysSpec.post enc Try.prog Try.f3 false true false false) := by
  refine returnsInHanded_of_change_sized (C := Try.checked) own started (by kernel_rfl) Try.func3
    (ChangeSpec.witness6 (enc := enc) (C := Try.checked) false ⟨#[], #[.slice none 0 0, .int .i64 0, .int .i64 0, .agg #[.int .i64 0, .int .i64 0, .slice none 0 0, .slice none 0 0, .string .empty], .int .i64 0], []⟩ 12 (by kernel_rfl) (by kernel_rfl) (by kernel_rfl) (by kernel_rfl)) ?_
  intro W base args ds gs before hval hW _ hsz _
  exact contract H enc W base args ds gs before hval hW hsz

theorem proved : Rows.TrustMaysSaid :=
  OpenClaim.holds_of_wide 3 Try.f3 rfl rfl rfl rfl rfl rfl rfl ⟨rfl, rfl, rfl, rfl, rfl⟩ rfl rfl rfl rfl rfl (by kernel_rfl) Try.func3 (by kernel_rfl)
    (of_decide_eq_true (by kernel_rfl)) (by unfold Func.isWrapper; first | (rw [if_pos (by decide +kernel)]; kernel_rfl) | (rw [if_neg (by decide +kernel)]; exact ⟨rfl, rfl⟩))
    (fun os started H enc _ => lifted os started H enc)


end Go.Proofs.Ytbngblmdcggfdaa.trustMays
