/- Walks and plain laws, part 21. -/
import Derived.Test.YtnjjdpiofbajlaaGreatP13
import Derived.Deep.DeepCutAuto
import Derived.Deep.CutBlock
import Derived.Test.YtnjjdpiofbajlaaGreatP18
set_option linter.unusedSimpArgs false
set_option linter.unusedVariables false
set_option maxHeartbeats 16000000
set_option maxRecDepth 100000
namespace Go.Proofs.YtnjjdpiofbajlaaGreat
open Go.RowKit
abbrev zeroFC : List Value := [.int .i64 0, .int .i64 0, .int .i64 0, .bool false, .int .i64 0, .int .i64 0, .int .i64 0, .slice none 0 0, .slice none 0 0, .string ⟨#[]⟩, .slice none 0 0]
theorem tkMany_len {α : Type} (g : Tk → α × Tk) (hg : ∀ t, (g t).2.2.length ≤ t.2.length) : ∀ (n : Nat) (t : Tk), (tkMany g n t).1.length ≤ n ∧ (tkMany g n t).2.2.length ≤ t.2.length
 | 0, t => ⟨Nat.le_refl _, Nat.le_refl _⟩
 | n + 1, t => by
  unfold tkMany
  split
  ·exact ⟨by simp, Nat.le_refl _⟩
  ·obtain ⟨h1, h2⟩ := tkMany_len g hg n (g t).2
   exact ⟨by simpa using h1, Nat.le_trans h2 (hg t)⟩
theorem tkLev_len (t : Tk) : (tkLev t).2.2.length ≤ t.2.length := Nat.le_trans (tkNum_len 1 _) (tkNum_len 1 t)
theorem tkCert_len (t : Tk) : (tkCert t).2.2.length ≤ t.2.length := Nat.le_trans (tkNum_len 6 _) (Nat.le_trans (tkNum_len 1 _) (Nat.le_trans (tkNum_len 1 _) (tkNum_len 1 t)))
def frameC (f : Frame) (la : Option Addr) (lc : Nat) (ga : Option Addr) (gc : Nat) (ca : Option Addr) (cc : Nat) : List Value := [.int .i64 f.src, .int .i64 f.dst, .int .i64 f.seq, .bool f.ack, .int .i64 f.thread, .int .i64 f.mail.host, .int .i64 f.mail.thread, .slice la f.mail.label.length lc, .slice ga f.mail.grants.length gc, .string f.mail.text, .slice ca f.certs.length cc]
def DecPost (w : World) (s : List UInt8) (e : Ending) (w' : World) : Prop :=
 ∃ la lc ga gc ca cc, e = .returned (.tuple #[frameV (decR s).1 la lc ga gc ca cc, .int .i64 (decR s).2]) ∧ FrameR (fun b => w.heap.size ≤ b) w' (decR s).1 la lc ga gc ca cc ∧ Below w.heap.size w w'
def DecMid (w : World) (s : List UInt8) (g2 g4 g6 : Nat) (wx : World) : Prop :=
 ∃ la lc ga gc ca cc, St [] w wx [(g2, 110, zeroFC), (g4, 141, takerC (codeT s)), (g6, 110, frameC (codeF s) la lc ga gc ca cc)] ∧
  FrameR (fun b => w.heap.size ≤ b ∧ b ≠ g2) wx (codeF s) la lc ga gc ca cc ∧ (codeF s).FitsW
theorem wire_Decode (w : World) (s : List UInt8) (hl : s.length ≤ 9223372036854775807) : Calls Tryz.prog 51 #[.string ⟨s.toArray⟩] w (DecPost w s) := by
 obtain ⟨⟨k, t1⟩, E1⟩ : ∃ r, tkNum 1 (false, s) = r := ⟨_, rfl⟩
 obtain ⟨⟨a, t2⟩, E2⟩ : ∃ r, tkNum 1 t1 = r := ⟨_, rfl⟩
 obtain ⟨⟨b, t3⟩, E3⟩ : ∃ r, tkNum 1 t2 = r := ⟨_, rfl⟩
 obtain ⟨⟨q, t4⟩, E4⟩ : ∃ r, tkNum 6 t3 = r := ⟨_, rfl⟩
 have HH := qh (show tkHead (false, s) = ((k, a, b, q), t4) by unfold tkHead; simp only [E1, E2, E3, E4])
 have l1 := tkNum_len 1 (false, s); rw [E1] at l1; simp only at l1
 have l2 := tkNum_len 1 t1; rw [E2] at l2; simp only at l2
 have l3 := tkNum_len 1 t2; rw [E3] at l3; simp only at l3
 have l4 := tkNum_len 6 t3; rw [E4] at l4; simp only at l4
 have k0 := tkNum_lo 1 (false, s); rw [E1] at k0; simp only at k0
 have k1 := tkNum_hi 1 (false, s); rw [E1] at k1; simp only at k1
 have q0 := tkNum_lo 6 t3; rw [E4] at q0; simp only at q0
 have H1 := qh E1
 have H2 := qh E2
 have H3 := qh E3
 have H4 := qh E4
 clear E1 E2 E3 E4
 have st := St.start w
 go_enter Tryz.func51, Tryz.ntmps51
 go_wp2_with (first | go_skip | (with_reducible refine mA st Tryz.zeroValue110 ?_; clear st; intro g2 w2 hg2 st) | (with_reducible refine mB 141 st ?_; clear st; intro g4 w4 hg4 st))
 refine (taker_one _ g4 (false, s) t1 k H1.out hl (st.blk _ (mgE (i := 1) rfl))).mono ?_
 rintro e v1 ⟨rfl, ht⟩
 replace st := st.turn (i := 1) rfl ht
 simp only [List.set_cons_succ, List.set_cons_zero] at st
 clear ht
 go_wp2_with fail
 refine (taker_one _ g4 t1 t2 a H2.out (by omega) (st.blk _ (mgE (i := 1) rfl))).mono ?_
 rintro e v2 ⟨rfl, ht⟩
 replace st := st.turn (i := 1) rfl ht
 simp only [List.set_cons_succ, List.set_cons_zero] at st
 clear ht
 go_wp2_with fail
 refine (taker_one _ g4 t2 t3 b H3.out (by omega) (st.blk _ (mgE (i := 1) rfl))).mono ?_
 rintro e v3 ⟨rfl, ht⟩
 replace st := st.turn (i := 1) rfl ht
 simp only [List.set_cons_succ, List.set_cons_zero] at st
 clear ht
 go_wp2_with fail
 refine (taker_six _ g4 t3 t4 q H4.out (by omega) (st.blk _ (mgE (i := 1) rfl))).mono ?_
 rintro e v4 ⟨rfl, ht⟩
 replace st := st.turn (i := 1) rfl ht
 simp only [List.set_cons_succ, List.set_cons_zero] at st
 clear ht
 go_upto_if 28 with (first | go_skip | (with_reducible refine mA st Tryz.zeroValue110 ?_; clear st; intro g6 w6 hg6 st) | (with_reducible refine mS 2 st Tryz.sizeOf110 ?_; clear st; intro w7 st hw7m hw7z))
 go_cut [] (fun wx => DecMid w s g2 g4 g6 wx)
 case first =>
  by_cases hk : k = 0
  case neg =>
   have hkb : (k == 0) = false := by simpa using hk
   have HK := qh hk
   clear hk
   go_wp2_with fail
   go_meet
   have e1 : codeT s = t4 := by unfold codeT; rw [HH.out]; simp only; rw [if_neg HK.out]
   have e2 : codeF s = ackFrame (k, a, b, q) (k == 1) := by unfold codeF; rw [HH.out]; simp only; rw [if_neg HK.out, Bool.beq_eq_decide_eq]
   refine ⟨none, 0, none, 0, none, 0, by rw [e1, e2]; exact st, ?_, ?_⟩
   ·rw [e2]; exact ⟨⟨SlR.nil _ _ _ _, SlR.nil _ _ _ _⟩, SlR.nil _ _ _ _⟩
   ·rw [e2]; exact ⟨by simp [ackFrame], by simp [ackFrame], by simp [ackFrame], by show (0 : Nat) ≤ _; omega⟩
  subst hk
  obtain ⟨⟨th, t5⟩, F1⟩ : ∃ r, tkNum 1 t4 = r := ⟨_, rfl⟩
  obtain ⟨⟨mt, t6⟩, F2⟩ : ∃ r, tkNum 1 t5 = r := ⟨_, rfl⟩
  obtain ⟨⟨n1, t7⟩, F3⟩ : ∃ r, tkNum 1 t6 = r := ⟨_, rfl⟩
  obtain ⟨⟨ls, t8⟩, F4⟩ : ∃ r, tkMany tkLev n1.toNat t7 = r := ⟨_, rfl⟩
  obtain ⟨⟨n2, t9⟩, F5⟩ : ∃ r, tkNum 1 t8 = r := ⟨_, rfl⟩
  obtain ⟨⟨gs, t10⟩, F6⟩ : ∃ r, tkMany (tkNum 1) n2.toNat t9 = r := ⟨_, rfl⟩
  obtain ⟨⟨n3, t11⟩, F7⟩ : ∃ r, tkNum 1 t10 = r := ⟨_, rfl⟩
  obtain ⟨⟨x, t12⟩, F8⟩ : ∃ r, tkText n3.toNat t11 = r := ⟨_, rfl⟩
  obtain ⟨⟨n4, t13⟩, F9⟩ : ∃ r, tkNum 1 t12 = r := ⟨_, rfl⟩
  obtain ⟨⟨cs, t14⟩, F10⟩ : ∃ r, tkMany tkCert n4.toNat t13 = r := ⟨_, rfl⟩
  have HB := qh (show tkBody t4 = (⟨th, mt, ls, gs, x, cs⟩, t14) by unfold tkBody; simp only [F1, F2, F3, F4, F5, F6, F7, F8, F9, F10])
  have m1 := tkNum_len 1 t4; rw [F1] at m1; simp only at m1
  have m2 := tkNum_len 1 t5; rw [F2] at m2; simp only at m2
  have m3 := tkNum_len 1 t6; rw [F3] at m3; simp only at m3
  have m4 := (tkMany_len tkLev tkLev_len n1.toNat t7).2; rw [F4] at m4; simp only at m4
  have m5 := tkNum_len 1 t8; rw [F5] at m5; simp only at m5
  have m6 := (tkMany_len (tkNum 1) (tkNum_len 1) n2.toNat t9).2; rw [F6] at m6; simp only at m6
  have m7 := tkNum_len 1 t10; rw [F7] at m7; simp only at m7
  have m8 := tkText_len n3.toNat t11; rw [F8] at m8; simp only at m8
  have m9 := tkNum_len 1 t12; rw [F9] at m9; simp only at m9
  have p1 := tkNum_lo 1 t6; rw [F3] at p1; simp only at p1
  have p2 := tkNum_hi 1 t6; rw [F3] at p2; simp only at p2
  have p3 := tkNum_lo 1 t8; rw [F5] at p3; simp only at p3
  have p4 := tkNum_hi 1 t8; rw [F5] at p4; simp only at p4
  have p5 := tkNum_lo 1 t10; rw [F7] at p5; simp only at p5
  have p6 := tkNum_hi 1 t10; rw [F7] at p6; simp only at p6
  have p7 := tkNum_lo 1 t12; rw [F9] at p7; simp only at p7
  have p8 := tkNum_hi 1 t12; rw [F9] at p8; simp only at p8
  have G1 := qh F1; have G2 := qh F2; have G3 := qh F3; have G4 := qh F4; have G5 := qh F5; have G6 := qh F6; have G7 := qh F7; have G8 := qh F8; have G9 := qh F9; have G10 := qh F10
  clear F1 F2 F3 F4 F5 F6 F7 F8 F9 F10 H1 H2 H3 H4
  clear hw7m hw7z
  go_wp2_with fail
  refine (taker_one _ g4 t4 t5 th G1.out (by omega) (st.blk _ (mgE (i := 1) rfl))).mono ?_
  rintro e v5 ⟨rfl, ht⟩
  replace st := st.turn (i := 1) rfl ht
  simp only [List.set_cons_succ, List.set_cons_zero] at st
  clear ht
  go_wp2_with (first | go_skip | (with_reducible refine mS 2 st Tryz.sizeOf3 ?_; clear st; intro w8 st hw8m hw8z))
  clear hw8m hw8z
  replace st := st.drew
  have hI : St [g6] w8.drew w8.drew [(g6, 110, [.int .i64 a, .int .i64 b, .int .i64 q, .bool false, .int .i64 th, .int .i64 0, .int .i64 0, .slice none 0 0, .slice none 0 0, .string ⟨#[]⟩, .slice none 0 0])] := St.hand (st.blk _ (mgE (i := 2) rfl))
  refine lex_tail (by kernel_rfl) 6 4 [6, 7, 8, 9] rfl (by decide +kernel) (fun W => St [g6] W W [(g6, 110, [.int .i64 a, .int .i64 b, .int .i64 q, .bool false, .int .i64 th, .int .i64 0, .int .i64 0, .slice none 0 0, .slice none 0 0, .string ⟨#[]⟩, .slice none 0 0])]) ?_
  refine lexS 0 rfl hI ?_
  refine lexT 1 rfl hI (fun W hW => St.run_load hW 0 3 _ rfl Tryz.isAgg3 rfl rfl rfl) ?_
  refine lexS 2 rfl hI ?_
  refine lexS 4 rfl hI ?_
  refine lexS 5 rfl hI ?_
  clear hI
  refine lexO 3 rfl fun K hK => ?_
  refine wp_callee (f := 75) (by first | (go_simp; done) | (go_simp; rfl)) ?_
  refine (taker_one _ g4 t5 t6 mt G2.out (by omega) (st.blk _ (mgE (i := 1) rfl))).mono ?_
  rintro e v9 ⟨rfl, ht⟩
  replace st := st.turn (i := 1) rfl ht
  simp only [List.set_cons_succ, List.set_cons_zero] at st
  clear ht
  refine ⟨_, rfl, ?_⟩
  refine hK _ _ (St.hand (st.blk _ (mgE (i := 2) rfl))) ?_; clear hK; simp only [kP, kA, kS, kZ]
  refine lex_done (by decide +kernel) ?_
  refine tail_next 6 rfl (by first | exact wanted_none rfl | exact wanted_some rfl rfl) (by decide +kernel) fun K hK => ?_
  refine wp_store' st 3 _ _ rfl _ Tryz.sizeOf3 ⟨2, _, _, _, _, _, rfl, rfl, rfl, rfl, rfl, rfl, ?_⟩; clear st; intro w10 st hw10m hw10z; simp [Act.eval, Act.put, Value.cells, putL] at st
  refine hK _ _ ?_; clear hK hw10m hw10z
  refine tail_take 7 rfl (by first | exact wanted_none rfl | exact wanted_some rfl rfl) (by decide +kernel) (by first | (go_simp; done) | (go_simp; rfl)) ?_; simp only [kP, kA, kS, kZ]
  refine tail_take 8 rfl (by first | exact wanted_none rfl | exact wanted_some rfl rfl) (by decide +kernel) (by first | (go_simp; done) | (go_simp; rfl)) ?_; simp only [kP, kA, kS, kZ]
  refine tail_last 9 rfl (by first | exact wanted_none rfl | exact wanted_some rfl rfl) (by decide +kernel) (by decide +kernel) fun K hK => ?_
  refine wp_store' st 3 _ _ rfl _ Tryz.sizeOf3 ⟨2, _, _, _, _, _, rfl, rfl, rfl, rfl, rfl, rfl, ?_⟩; clear st; intro w11 st hw11m hw11z; simp [Act.eval, Act.put, Value.cells, putL] at st
  refine hK _ _ ?_; clear hK hw11m hw11z
  go_wp2_with fail
  refine (taker_one _ g4 t6 t7 n1 G3.out (by omega) (st.blk _ (mgE (i := 1) rfl))).mono ?_
  rintro e v12 ⟨rfl, ht⟩
  replace st := st.turn (i := 1) rfl ht
  simp only [List.set_cons_succ, List.set_cons_zero] at st
  clear ht
  -- LOOPS
  have hcl : ls.length ≤ 255 := by have := (tkMany_len tkLev tkLev_len n1.toNat t7).1; rw [G4.out] at this; simp only at this; omega
  go_upto_block 0 with fail
  go_cut [] (fun wx => ∃ la lc, St [] w wx [(g2, 110, zeroFC), (g4, 141, takerC t8), (g6, 110, [.int .i64 a, .int .i64 b, .int .i64 q, .bool false, .int .i64 th, .int .i64 a, .int .i64 mt, .slice la ls.length lc, .slice none 0 0, .string ⟨#[]⟩, .slice none 0 0])] ∧ Own w.heap.size 73 wx 2 RLev la lc ls)
  case first =>
   go_wp2_with fail
   go_loopw [7] (fun v7 wr => ∃ (m : Nat) (l : List Lev) (t : Tk) (a0 : Option Addr) (c0 : Nat), v7 = .int .i64 m ∧ m + l.length ≤ 255 ∧ Hid (tkMany tkLev n1.toNat t7 = (l ++ (tkMany tkLev m t).1, (tkMany tkLev m t).2)) ∧ t.2.length ≤ t7.2.length ∧ St [] w wr [(g2, 110, zeroFC), (g4, 141, takerC t), (g6, 110, [.int .i64 a, .int .i64 b, .int .i64 q, .bool false, .int .i64 th, .int .i64 a, .int .i64 mt, .slice a0 l.length c0, .slice none 0 0, .string ⟨#[]⟩, .slice none 0 0])] ∧ Own w.heap.size 73 wr 2 RLev a0 c0 l) (fun v7 _ => (intOf v7).toNat)
   case atStart => exact ⟨n1.toNat, [], t7, none, 0, by rw [Int.toNat_of_nonneg (by omega)], by simp; omega, qh (by simp), Nat.le_refl _, st, Own.nil _ _ _ _ _⟩
   case round =>
    obtain ⟨m, l, ⟨tb, ts⟩, a0, c0, rfl, hml, HL, htl, st, hO⟩ := hrel
    simp only at htl
    by_cases hm : 0 < m
    case neg =>
     obtain rfl : m = 0 := by omega
     have HE := qh (show ls = l ∧ t8 = (tb, ts) by have h1 := G4.out; rw [HL.out] at h1; simp [tkMany] at h1; exact ⟨h1.1.symm, h1.2.symm⟩)
     go_wp2_with (first | go_skip | (with_reducible refine mX st Tryz.isAgg4 ?_))
     go_meet
     rw [HE.out.1, HE.out.2]
     exact ⟨a0, c0, st, hO⟩
    cases tb with
    | true =>
     have HE := qh (show ls = l ∧ t8 = (true, ts) by have h1 := G4.out; rw [HL.out] at h1; obtain ⟨j, rfl⟩ : ∃ j, m = j + 1 := ⟨m - 1, by omega⟩; simp [tkMany] at h1; exact ⟨h1.1.symm, h1.2.symm⟩)
     go_wp2_with (first | go_skip | (with_reducible refine mX st Tryz.isAgg4 ?_))
     go_meet
     rw [HE.out.1, HE.out.2]
     exact ⟨a0, c0, st, hO⟩
    | false =>
     obtain ⟨⟨c, u1⟩, J0⟩ : ∃ r, tkNum 1 (false, ts) = r := ⟨_, rfl⟩
     have j0 := tkNum_len 1 (false, ts); rw [J0] at j0; simp only at j0
     obtain ⟨⟨lv, u2⟩, J1⟩ : ∃ r, tkNum 1 u1 = r := ⟨_, rfl⟩
     have j1 := tkNum_len 1 u1; rw [J1] at j1; simp only at j1
     obtain ⟨j, rfl⟩ : ∃ j, m = j + 1 := ⟨m - 1, by omega⟩
     have HN : Hid (tkMany tkLev n1.toNat t7 = ((l ++ [(⟨c, lv⟩ : Lev)]) ++ (tkMany tkLev j u2).1, (tkMany tkLev j u2).2)) := qh (by rw [HL.out]; simp [tkMany, tkLev, J0, J1])
     have R0 := qh J0; clear J0
     have R1 := qh J1; clear J1
     clear HL
     obtain ⟨i0, hi, hz0, hz1, hz2⟩ := info_parts info_Level
     go_wp2_with (first | go_skip | (with_reducible refine mX st Tryz.isAgg4 ?_))
     refine (taker_one _ g4 (false, ts) u1 c R0.out (by first | omega | (simp only at *; omega)) (st.blk _ (mgE (i := 1) rfl))).mono ?_
     rintro e v21 ⟨rfl, ht⟩
     have st0 := st
     replace st := st.turn (i := 1) rfl ht
     simp only [List.set_cons_succ, List.set_cons_zero] at st
     replace hO := hO.turn ht (st0.blk _ (mgE (i := 1) rfl)) (by simp)
     clear ht st0
     go_wp2_with fail
     replace st := st.drew
     replace hO := hO.below (Below.refl _ _).drew
     have hI : St [g6] (World.drew _) (World.drew _) [(g6, 110, [.int .i64 a, .int .i64 b, .int .i64 q, .bool false, .int .i64 th, .int .i64 a, .int .i64 mt, .slice a0 l.length c0, .slice none 0 0, .string ⟨#[]⟩, .slice none 0 0])] := St.hand (st.blk _ (mgE (i := 2) rfl))
     refine lex_tail (by kernel_rfl) 11 1 [11] rfl (by decide +kernel) (fun W => St [g6] W W [(g6, 110, [.int .i64 a, .int .i64 b, .int .i64 q, .bool false, .int .i64 th, .int .i64 a, .int .i64 mt, .slice a0 l.length c0, .slice none 0 0, .string ⟨#[]⟩, .slice none 0 0])]) ?_
     refine lexS 0 rfl hI ?_
     refine lexS 1 rfl hI ?_
     refine lexT 2 rfl hI (fun W hW => St.run_load hW 0 27 _ rfl Tryz.isAgg27 rfl rfl rfl) ?_
     refine lexS 3 rfl hI ?_
     refine lexS 4 rfl hI ?_
     clear hI
     refine lexO 5 rfl fun K hK => ?_
     refine wp_callee (f := 75) (by first | (go_simp; done) | (go_simp; rfl)) ?_
     refine (taker_one _ g4 u1 u2 lv R1.out (by first | omega | (simp only at *; omega)) (st.blk _ (mgE (i := 1) rfl))).mono ?_
     rintro e v22 ⟨rfl, ht⟩
     have st0 := st
     replace st := st.turn (i := 1) rfl ht
     simp only [List.set_cons_succ, List.set_cons_zero] at st
     replace hO := hO.turn ht (st0.blk _ (mgE (i := 1) rfl)) (by simp)
     clear ht st0
     refine ⟨_, rfl, ?_⟩
     have hI := St.hand (st.blk _ (mgE (i := 2) rfl))
     refine hK _ _ (hI) ?_; clear hK; simp only [kP, kA, kS, kZ]
     refine lexS 6 rfl hI ?_
     clear hI
     refine lexO 7 rfl fun K hK => ?_
     refine wp_build1 st 27 73 _ rfl Tryz.underlying27 2 Tryz.sizeOf73 (by decide) (by decide) _ Tryz.zeroValue73 _ rfl rfl ?_; clear st; intro g23 w23 hg23 hg23e st hg23b hw23z; clear hg23e; simp [Act.eval, Act.put, Value.cells, putL] at st
     have hb := hg23b
     replace hO := hO.below hb
     refine hK _ _ (St.hand (st.blk _ (mgE (i := 2) rfl))) ?_; clear hK; simp only [kP, kA, kS, kZ]
     refine lexO 8 rfl fun K hK => ?_
     refine wp_app1 _ _ 27 rfl 73 i0 _ 2 16 Tryz.underlying27 hi hz0 hz1 hz2 rfl (by decide) (y := (⟨c, lv⟩ : Lev)) rfl rfl hO rfl (SlR.ofBlk (ok := fun _ => True) (R := RLev) (x := (⟨c, lv⟩ : Lev)) (st.blk _ (mgE (i := 3) rfl)) rfl rfl rfl trivial) (by omega) (by unfold maxLen; omega) st.size ?_
     intro ga24 c24 w24 hN hgr _ _
     have st1 := (st.take 3).buf hO (Nat.le_refl _) hgr (by simp)
     clear hO hgr st
     have st := st1
     clear st1
     simp only [List.take_succ_cons, List.take_zero] at st
     have hI := St.hand (st.blk _ (mgE (i := 2) rfl))
     refine hK _ _ (hI) ?_; clear hK; simp only [kP, kA, kS, kZ]
     refine lexS 9 rfl hI ?_
     refine lexS 10 rfl hI ?_
     clear hI
     refine lex_done (by decide +kernel) ?_
     refine tail_last 11 rfl (by first | exact wanted_none rfl | exact wanted_some rfl rfl) (by decide +kernel) (by decide +kernel) fun K hK => ?_
     have h6 := st.blk _ (mgE (i := 2) rfl)
     refine wp_store' st 27 _ _ rfl _ Tryz.sizeOf27 ⟨2, _, _, _, _, _, rfl, rfl, rfl, rfl, rfl, rfl, ?_⟩; clear st; intro w25 st hw25m hw25z; simp [Act.eval, Act.put, Value.cells, putL] at st
     replace hN := hN.stored h6 (by simp) hw25m
     clear h6 hw25m hw25z
     refine hK _ _ ?_; clear hK
     go_wp2_with fail
     go_roundw
     case rel => exact ⟨j, l ++ [(⟨c, lv⟩ : Lev)], u2, _, _, by go_num, by simp; omega, HN, by omega, by simpa using st, hN⟩
     case measure => simp [intOf] <;> omega
  case rest =>
   obtain ⟨la, lc, st, hOl⟩ := hcut
   go_wp2_with fail
   refine (taker_one _ g4 t8 t9 n2 G5.out (by omega) (st.blk _ (mgE (i := 1) rfl))).mono ?_
   rintro e v26 ⟨rfl, ht⟩
   have st0 := st
   replace st := st.turn (i := 1) rfl ht
   simp only [List.set_cons_succ, List.set_cons_zero] at st
   replace hOl := hOl.turn ht (st0.blk _ (mgE (i := 1) rfl)) (by simp)
   clear ht st0
   have hcl : gs.length ≤ 255 := by have := (tkMany_len (tkNum 1) (tkNum_len 1) n2.toNat t9).1; rw [G6.out] at this; simp only at this; omega
   go_upto_block 2 with fail
   go_cut [] (fun wx => ∃ ga gc, St [] w wx [(g2, 110, zeroFC), (g4, 141, takerC t10), (g6, 110, [.int .i64 a, .int .i64 b, .int .i64 q, .bool false, .int .i64 th, .int .i64 a, .int .i64 mt, .slice la ls.length lc, .slice ga gs.length gc, .string ⟨#[]⟩, .slice none 0 0])] ∧ Own w.heap.size 3 wx 1 RInt ga gc gs ∧ Own w.heap.size 73 wx 2 RLev la lc ls)
   case first =>
    go_wp2_with fail
    go_loopw [9] (fun v7 wr => ∃ (m : Nat) (l : List Int) (t : Tk) (a0 : Option Addr) (c0 : Nat), v7 = .int .i64 m ∧ m + l.length ≤ 255 ∧ Hid (tkMany (tkNum 1) n2.toNat t9 = (l ++ (tkMany (tkNum 1) m t).1, (tkMany (tkNum 1) m t).2)) ∧ t.2.length ≤ t9.2.length ∧ St [] w wr [(g2, 110, zeroFC), (g4, 141, takerC t), (g6, 110, [.int .i64 a, .int .i64 b, .int .i64 q, .bool false, .int .i64 th, .int .i64 a, .int .i64 mt, .slice la ls.length lc, .slice a0 l.length c0, .string ⟨#[]⟩, .slice none 0 0])] ∧ Own w.heap.size 3 wr 1 RInt a0 c0 l ∧ Own w.heap.size 73 wr 2 RLev la lc ls) (fun v7 _ => (intOf v7).toNat)
    case atStart => exact ⟨n2.toNat, [], t9, none, 0, by rw [Int.toNat_of_nonneg (by omega)], by simp; omega, qh (by simp), Nat.le_refl _, st, Own.nil _ _ _ _ _, hOl⟩
    case round =>
     obtain ⟨m, l, ⟨tb, ts⟩, a0, c0, rfl, hml, HL, htl, st, hO, hOl⟩ := hrel
     simp only at htl
     by_cases hm : 0 < m
     case neg =>
      obtain rfl : m = 0 := by omega
      have HE := qh (show gs = l ∧ t10 = (tb, ts) by have h1 := G6.out; rw [HL.out] at h1; simp [tkMany] at h1; exact ⟨h1.1.symm, h1.2.symm⟩)
      go_wp2_with (first | go_skip | (with_reducible refine mX st Tryz.isAgg4 ?_))
      go_meet
      rw [HE.out.1, HE.out.2]
      exact ⟨a0, c0, st, hO, hOl⟩
     cases tb with
     | true =>
      have HE := qh (show gs = l ∧ t10 = (true, ts) by have h1 := G6.out; rw [HL.out] at h1; obtain ⟨j, rfl⟩ : ∃ j, m = j + 1 := ⟨m - 1, by omega⟩; simp [tkMany] at h1; exact ⟨h1.1.symm, h1.2.symm⟩)
      go_wp2_with (first | go_skip | (with_reducible refine mX st Tryz.isAgg4 ?_))
      go_meet
      rw [HE.out.1, HE.out.2]
      exact ⟨a0, c0, st, hO, hOl⟩
     | false =>
      obtain ⟨⟨c, u1⟩, J0⟩ : ∃ r, tkNum 1 (false, ts) = r := ⟨_, rfl⟩
      have j0 := tkNum_len 1 (false, ts); rw [J0] at j0; simp only at j0
      obtain ⟨j, rfl⟩ : ∃ j, m = j + 1 := ⟨m - 1, by omega⟩
      have HN : Hid (tkMany (tkNum 1) n2.toNat t9 = ((l ++ [(c : Int)]) ++ (tkMany (tkNum 1) j u1).1, (tkMany (tkNum 1) j u1).2)) := qh (by rw [HL.out]; simp [tkMany, J0])
      have R0 := qh J0; clear J0
      clear HL
      obtain ⟨i0, hi, hz0, hz1, hz2⟩ := info_parts info_int
      go_wp2_with (first | go_skip | (with_reducible refine mX st Tryz.isAgg4 ?_))
      replace st := st.drew
      replace hO := hO.below (Below.refl _ _).drew
      replace hOl := hOl.below (Below.refl _ _).drew
      have hI : St [g6] (World.drew _) (World.drew _) [(g6, 110, [.int .i64 a, .int .i64 b, .int .i64 q, .bool false, .int .i64 th, .int .i64 a, .int .i64 mt, .slice la ls.length lc, .slice a0 l.length c0, .string ⟨#[]⟩, .slice none 0 0])] := St.hand (st.blk _ (mgE (i := 2) rfl))
      refine lex_tail (by kernel_rfl) 9 1 [9] rfl (by decide +kernel) (fun W => St [g6] W W [(g6, 110, [.int .i64 a, .int .i64 b, .int .i64 q, .bool false, .int .i64 th, .int .i64 a, .int .i64 mt, .slice la ls.length lc, .slice a0 l.length c0, .string ⟨#[]⟩, .slice none 0 0])]) ?_
      refine lexS 0 rfl hI ?_
      refine lexS 1 rfl hI ?_
      refine lexT 2 rfl hI (fun W hW => St.run_load hW 0 28 _ rfl Tryz.isAgg28 rfl rfl rfl) ?_
      refine lexS 3 rfl hI ?_
      clear hI
      refine lexO 4 rfl fun K hK => ?_
      refine wp_callee (f := 75) (by first | (go_simp; done) | (go_simp; rfl)) ?_
      refine (taker_one _ g4 (false, ts) u1 c R0.out (by first | omega | (simp only at *; omega)) (st.blk _ (mgE (i := 1) rfl))).mono ?_
      rintro e v27 ⟨rfl, ht⟩
      have st0 := st
      replace st := st.turn (i := 1) rfl ht
      simp only [List.set_cons_succ, List.set_cons_zero] at st
      replace hO := hO.turn ht (st0.blk _ (mgE (i := 1) rfl)) (by simp); replace hOl := hOl.turn ht (st0.blk _ (mgE (i := 1) rfl)) (by simp)
      clear ht st0
      refine ⟨_, rfl, ?_⟩
      have hI := St.hand (st.blk _ (mgE (i := 2) rfl))
      refine hK _ _ (hI) ?_; clear hK; simp only [kP, kA, kS, kZ]
      clear hI
      refine lexO 5 rfl fun K hK => ?_
      refine wp_build1 st 28 3 _ rfl Tryz.underlying28 1 Tryz.sizeOf3 (by decide) (by decide) _ Tryz.zeroValue3 _ rfl rfl ?_; clear st; intro g28 w28 hg28 hg28e st hg28b hw28z; clear hg28e; simp [Act.eval, Act.put, Value.cells, putL] at st
      have hb := hg28b
      replace hO := hO.below hb; replace hOl := hOl.below hb
      refine hK _ _ (St.hand (st.blk _ (mgE (i := 2) rfl))) ?_; clear hK; simp only [kP, kA, kS, kZ]
      refine lexO 6 rfl fun K hK => ?_
      refine wp_app1 _ _ 28 rfl 3 i0 _ 1 8 Tryz.underlying28 hi hz0 hz1 hz2 rfl (by decide) (y := (c : Int)) rfl rfl hO rfl (SlR.ofBlk (ok := fun _ => True) (R := RInt) (x := (c : Int)) (st.blk _ (mgE (i := 3) rfl)) rfl rfl rfl trivial) (by omega) (by unfold maxLen; omega) st.size ?_
      intro ga29 c29 w29 hN hgr _ _
      have st1 := (st.take 3).buf hO (Nat.le_refl _) hgr (by simp)
      replace hOl := hOl.aside hgr (fun b e e2 => hO.apart hOl (by decide) b e2 e)
      clear hO hgr st
      have st := st1
      clear st1
      simp only [List.take_succ_cons, List.take_zero] at st
      have hI := St.hand (st.blk _ (mgE (i := 2) rfl))
      refine hK _ _ (hI) ?_; clear hK; simp only [kP, kA, kS, kZ]
      refine lexS 7 rfl hI ?_
      refine lexS 8 rfl hI ?_
      clear hI
      refine lex_done (by decide +kernel) ?_
      refine tail_last 9 rfl (by first | exact wanted_none rfl | exact wanted_some rfl rfl) (by decide +kernel) (by decide +kernel) fun K hK => ?_
      have h6 := st.blk _ (mgE (i := 2) rfl)
      refine wp_store' st 28 _ _ rfl _ Tryz.sizeOf28 ⟨2, _, _, _, _, _, rfl, rfl, rfl, rfl, rfl, rfl, ?_⟩; clear st; intro w30 st hw30m hw30z; simp [Act.eval, Act.put, Value.cells, putL] at st
      replace hN := hN.stored h6 (by simp) hw30m
      replace hOl := hOl.stored h6 (by simp) hw30m
      clear h6 hw30m hw30z
      refine hK _ _ ?_; clear hK
      go_wp2_with fail
      go_roundw
      case rel => exact ⟨j, l ++ [(c : Int)], u1, _, _, by go_num, by simp; omega, HN, by omega, by simpa using st, hN, hOl⟩
      case measure => simp [intOf] <;> omega
   case rest =>
    obtain ⟨ga, gc, st, hOg, hOl⟩ := hcut
    go_wp2_with fail
    refine (taker_one _ g4 t10 t11 n3 G7.out (by omega) (st.blk _ (mgE (i := 1) rfl))).mono ?_
    rintro e v31 ⟨rfl, ht⟩
    have st0 := st
    replace st := st.turn (i := 1) rfl ht
    simp only [List.set_cons_succ, List.set_cons_zero] at st
    replace hOl := hOl.turn ht (st0.blk _ (mgE (i := 1) rfl)) (by simp)
    replace hOg := hOg.turn ht (st0.blk _ (mgE (i := 1) rfl)) (by simp)
    clear ht st0
    go_wp2_with fail
    refine (taker_txt _ g4 t11 t12 n3 x G8.out p5 (by omega) (by omega) (st.blk _ (mgE (i := 1) rfl))).mono ?_
    rintro e v32 ⟨rfl, ht⟩
    have st0 := st
    replace st := st.turn (i := 1) rfl ht
    simp only [List.set_cons_succ, List.set_cons_zero] at st
    replace hOl := hOl.turn ht (st0.blk _ (mgE (i := 1) rfl)) (by simp)
    replace hOg := hOg.turn ht (st0.blk _ (mgE (i := 1) rfl)) (by simp)
    clear ht st0
    have h6 := st.blk _ (mgE (i := 2) rfl)
    go_wp2_with (first | go_skip | (with_reducible refine mS 2 st Tryz.sizeOf9 ?_; clear st; intro w33 st hw33m hw33z))
    replace hOl := hOl.stored h6 (by simp) hw33m
    replace hOg := hOg.stored h6 (by simp) hw33m
    clear h6 hw33m hw33z
    refine (taker_one _ g4 t12 t13 n4 G9.out (by omega) (st.blk _ (mgE (i := 1) rfl))).mono ?_
    rintro e v34 ⟨rfl, ht⟩
    have st0 := st
    replace st := st.turn (i := 1) rfl ht
    simp only [List.set_cons_succ, List.set_cons_zero] at st
    replace hOl := hOl.turn ht (st0.blk _ (mgE (i := 1) rfl)) (by simp)
    replace hOg := hOg.turn ht (st0.blk _ (mgE (i := 1) rfl)) (by simp)
    clear ht st0
    have hcl : cs.length ≤ 255 := by have := (tkMany_len tkCert tkCert_len n4.toNat t13).1; rw [G10.out] at this; simp only at this; omega
    go_upto_block 4 with fail
    go_cut [] (fun wx => ∃ ca cc, St [] w wx [(g2, 110, zeroFC), (g4, 141, takerC t14), (g6, 110, [.int .i64 a, .int .i64 b, .int .i64 q, .bool false, .int .i64 th, .int .i64 a, .int .i64 mt, .slice la ls.length lc, .slice ga gs.length gc, .string ⟨x.toArray⟩, .slice ca cs.length cc])] ∧ Own w.heap.size 47 wx 4 RCert ca cc cs ∧ Own w.heap.size 73 wx 2 RLev la lc ls ∧ Own w.heap.size 3 wx 1 RInt ga gc gs)
    case first =>
     go_wp2_with fail
     go_loopw [10] (fun v7 wr => ∃ (m : Nat) (l : List Cert) (t : Tk) (a0 : Option Addr) (c0 : Nat), v7 = .int .i64 m ∧ m + l.length ≤ 255 ∧ Hid (tkMany tkCert n4.toNat t13 = (l ++ (tkMany tkCert m t).1, (tkMany tkCert m t).2)) ∧ t.2.length ≤ t13.2.length ∧ St [] w wr [(g2, 110, zeroFC), (g4, 141, takerC t), (g6, 110, [.int .i64 a, .int .i64 b, .int .i64 q, .bool false, .int .i64 th, .int .i64 a, .int .i64 mt, .slice la ls.length lc, .slice ga gs.length gc, .string ⟨x.toArray⟩, .slice a0 l.length c0])] ∧ Own w.heap.size 47 wr 4 RCert a0 c0 l ∧ Own w.heap.size 73 wr 2 RLev la lc ls ∧ Own w.heap.size 3 wr 1 RInt ga gc gs) (fun v7 _ => (intOf v7).toNat)
     case atStart => exact ⟨n4.toNat, [], t13, none, 0, by rw [Int.toNat_of_nonneg (by omega)], by simp; omega, qh (by simp), Nat.le_refl _, st, Own.nil _ _ _ _ _, hOl, hOg⟩
     case round =>
      obtain ⟨m, l, ⟨tb, ts⟩, a0, c0, rfl, hml, HL, htl, st, hO, hOl, hOg⟩ := hrel
      simp only at htl
      by_cases hm : 0 < m
      case neg =>
       obtain rfl : m = 0 := by omega
       have HE := qh (show cs = l ∧ t14 = (tb, ts) by have h1 := G10.out; rw [HL.out] at h1; simp [tkMany] at h1; exact ⟨h1.1.symm, h1.2.symm⟩)
       go_wp2_with (first | go_skip | (with_reducible refine mX st Tryz.isAgg4 ?_))
       go_meet
       rw [HE.out.1, HE.out.2]
       exact ⟨a0, c0, st, hO, hOl, hOg⟩
      cases tb with
      | true =>
       have HE := qh (show cs = l ∧ t14 = (true, ts) by have h1 := G10.out; rw [HL.out] at h1; obtain ⟨j, rfl⟩ : ∃ j, m = j + 1 := ⟨m - 1, by omega⟩; simp [tkMany] at h1; exact ⟨h1.1.symm, h1.2.symm⟩)
       go_wp2_with (first | go_skip | (with_reducible refine mX st Tryz.isAgg4 ?_))
       go_meet
       rw [HE.out.1, HE.out.2]
       exact ⟨a0, c0, st, hO, hOl, hOg⟩
      | false =>
       obtain ⟨⟨c, u1⟩, J0⟩ : ∃ r, tkNum 1 (false, ts) = r := ⟨_, rfl⟩
       have j0 := tkNum_len 1 (false, ts); rw [J0] at j0; simp only at j0
       obtain ⟨⟨cb, u2⟩, J1⟩ : ∃ r, tkNum 1 u1 = r := ⟨_, rfl⟩
       have j1 := tkNum_len 1 u1; rw [J1] at j1; simp only at j1
       obtain ⟨⟨ch, u3⟩, J2⟩ : ∃ r, tkNum 1 u2 = r := ⟨_, rfl⟩
       have j2 := tkNum_len 1 u2; rw [J2] at j2; simp only at j2
       obtain ⟨⟨ct, u4⟩, J3⟩ : ∃ r, tkNum 6 u3 = r := ⟨_, rfl⟩
       have j3 := tkNum_len 6 u3; rw [J3] at j3; simp only at j3
       obtain ⟨j, rfl⟩ : ∃ j, m = j + 1 := ⟨m - 1, by omega⟩
       have HN : Hid (tkMany tkCert n4.toNat t13 = ((l ++ [(⟨c, cb, ch, ct⟩ : Cert)]) ++ (tkMany tkCert j u4).1, (tkMany tkCert j u4).2)) := qh (by rw [HL.out]; simp [tkMany, tkCert, J0, J1, J2, J3])
       have R0 := qh J0; clear J0
       have R1 := qh J1; clear J1
       have R2 := qh J2; clear J2
       have R3 := qh J3; clear J3
       clear HL
       obtain ⟨i0, hi, hz0, hz1, hz2⟩ := info_parts info_Cert
       have stA := st
       replace st := st.rebase
       go_wp2_with (first | go_skip | (with_reducible refine mX st Tryz.isAgg4 ?_))
       refine (taker_one _ g4 (false, ts) u1 c R0.out (by first | omega | (simp only at *; omega)) (st.blk _ (mgE (i := 1) rfl))).mono ?_
       rintro e v35 ⟨rfl, ht⟩
       replace st := st.turn (i := 1) rfl ht
       simp only [List.set_cons_succ, List.set_cons_zero] at st
       clear ht
       go_wp2_with fail
       refine (taker_one _ g4 u1 u2 cb R1.out (by first | omega | (simp only at *; omega)) (st.blk _ (mgE (i := 1) rfl))).mono ?_
       rintro e v36 ⟨rfl, ht⟩
       replace st := st.turn (i := 1) rfl ht
       simp only [List.set_cons_succ, List.set_cons_zero] at st
       clear ht
       go_wp2_with fail
       refine (taker_one _ g4 u2 u3 ch R2.out (by first | omega | (simp only at *; omega)) (st.blk _ (mgE (i := 1) rfl))).mono ?_
       rintro e v37 ⟨rfl, ht⟩
       replace st := st.turn (i := 1) rfl ht
       simp only [List.set_cons_succ, List.set_cons_zero] at st
       clear ht
       go_wp2_with (first | go_skip | (with_reducible refine mA st Tryz.zeroValue47 ?_; clear st; intro g38 w38 hg38 st) | (with_reducible refine mS 3 st Tryz.sizeOf47 ?_; clear st; intro w39 st hw39m hw39z))
       clear hw39m hw39z
       refine (taker_six _ g4 u3 u4 ct R3.out (by first | omega | (simp only at *; omega)) (st.blk _ (mgE (i := 1) rfl))).mono ?_
       rintro e v40 ⟨rfl, ht⟩
       replace st := st.turn (i := 1) rfl ht
       simp only [List.set_cons_succ, List.set_cons_zero] at st
       clear ht
       go_wp2_with (first
        | go_skip | (with_reducible refine mS 3 st Tryz.sizeOf3 ?_; clear st; intro w41 st hw41m hw41z) | (with_reducible refine mX st Tryz.isAgg44 ?_) | (with_reducible refine mXA st Tryz.isAgg47 Tryz.sizeOf47 ?_) | (with_reducible refine at_build1 44 ?_; refine wpList_build1 st (wanted_none rfl) 44 47 _ rfl Tryz.underlying44 4 Tryz.sizeOf47 (by decide) (by decide) _ Tryz.zeroValue47 _ rfl rfl ?_; have stw42 := st; clear st; intro g42 w42 hg42 hg42e st hw42b hw42z; simp [Act.eval, Act.put, Value.cells, putL] at st)
        | (at_builtin; go_must (have hOc := hO.through stA st (by simp); refine wpList_app1 (wanted_none rfl) _ _ 44 rfl 47 i0 _ 4 32 Tryz.underlying44 hi hz0 hz1 hz2 rfl (by decide) (y := (⟨c, cb, ch, ct⟩ : Cert)) rfl rfl hOc rfl (SlR.ofBlk (ok := fun _ => True) (R := RCert) (x := (⟨c, cb, ch, ct⟩ : Cert)) (st.blk _ (mgE (i := 4) rfl)) rfl rfl rfl trivial) ?l1 ?l2 ?l3 ?_)))
       case l1 => omega
       case l2 => unfold maxLen; omega
       case l3 => have := stA.size; have := st.size; omega
       intro ga c9 w43 hN hgr _ _
       replace hOl := (hOl.through stA st (by simp)).aside hgr (fun b e e2 => hOc.apart (hOl.through stA st (by simp)) (by decide) b e2 e)
       replace hOg := (hOg.through stA st (by simp)).aside hgr (fun b e e2 => hOc.apart (hOg.through stA st (by simp)) (by decide) b e2 e)
       have st1 := ((St.back stA st).take 3).buf hOc (Nat.le_refl _) hgr (by simp)
       clear hO hOc hgr st stA
       have st := st1
       clear st1
       simp only [List.take_succ_cons, List.take_zero] at st
       have h6 := st.blk _ (mgE (i := 2) rfl)
       go_wp2_with (first | go_skip | (with_reducible refine mS 2 st Tryz.sizeOf44 ?_; clear st; intro w44 st hw44m hw44z))
       replace hN := hN.stored h6 (by simp) hw44m
       replace hOl := hOl.stored h6 (by simp) hw44m
       replace hOg := hOg.stored h6 (by simp) hw44m
       clear h6 hw44m hw44z
       go_roundw
       case rel => exact ⟨j, l ++ [(⟨c, cb, ch, ct⟩ : Cert)], u4, _, _, by go_num, by simp; omega, HN, by omega, by simpa using st, hN, hOl, hOg⟩
       case measure => simp [intOf] <;> omega
    case rest =>
     obtain ⟨ca, cc, st, hOc, hOl, hOg⟩ := hcut
     have hll : ls.length ≤ 255 := by have := (tkMany_len tkLev tkLev_len n1.toNat t7).1; rw [G4.out] at this; simp only at this; omega
     have hgl : gs.length ≤ 255 := by have := (tkMany_len (tkNum 1) (tkNum_len 1) n2.toNat t9).1; rw [G6.out] at this; simp only at this; omega
     have hxl := (tkText_le n3.toNat t11).1; rw [G8.out] at hxl; simp only at hxl
     go_wp2_with fail
     go_meet
     have e1 : codeT s = t14 := by unfold codeT; rw [HH.out]; simp only [if_true]; rw [HB.out]
     have e2 : codeF s = mailFrame (0, a, b, q) false ⟨th, mt, ls, gs, x, cs⟩ := by unfold codeF; rw [HH.out]; simp only [if_true]; rw [HB.out]
     refine ⟨la, lc, ga, gc, ca, cc, by rw [e1, e2]; exact st, ?_, ?_⟩
     ·rw [e2]; exact ⟨⟨hOl.slrN (st.blk _ (mgE (i := 0) rfl)) (by simp), hOg.slrN (st.blk _ (mgE (i := 0) rfl)) (by simp)⟩, hOc.slrN (st.blk _ (mgE (i := 0) rfl)) (by simp)⟩
     ·rw [e2]; exact ⟨by simp only [mailFrame]; omega, by simp only [mailFrame]; omega, by simp only [mailFrame]; omega, by show x.toArray.size ≤ _; simp; omega⟩
 case rest =>
  obtain ⟨la, lc, ga, gc, ca, cc, st, hF, hW⟩ := hcut
  have HD := qh (show decR s = if (codeT s).1 = true ∨ (codeT s).2 ≠ [] ∨ 1 < k then (zeroF, 1) else if goodFrameC (codeF s) ≠ 0 then (zeroF, goodFrameC (codeF s)) else (codeF s, 0) by rw [← codeR_eq]; unfold codeR; rw [HH.out])
  have HG := qh (fun (W : World) (h : FrameR (fun b => w.heap.size ≤ b ∧ b ≠ g2) W (codeF s) la lc ga gc ca cc) => wire_Good (fun b => w.heap.size ≤ b ∧ b ≠ g2) W (codeF s) la lc ga gc ca cc hW h)
  generalize codeT s = t at HD st
  generalize codeF s = f at HD st HG hF hW
  clear HH H1 H2 H3 H4
  obtain ⟨tb, ts⟩ := t
  simp only at HD
  unfold frameC at st
  unfold frameV at HG
  have hz : FrameR (fun b => w.heap.size ≤ b) w zeroF none 0 none 0 none 0 := ⟨⟨SlR.nil _ _ _ _, SlR.nil _ _ _ _⟩, SlR.nil _ _ _ _⟩
  have hsz := st.size
  cases tb with
  | true =>
   have HE := qh (show decR s = (zeroF, 1) by rw [HD.out, if_pos (.inl rfl)])
   clear HD
   go_wp2_with (first | go_skip | (with_reducible refine mX st Tryz.isAgg4 ?_) | (with_reducible refine mS 0 st Tryz.sizeOf110 ?_; clear st; intro w90 st hw90m hw90z))
   have hc := fun j => st.cell (i := 0) rfl j
   refine bodyPost_ret (v := .tuple #[frameV zeroF none 0 none 0 none 0, .int .i64 1]) ?hr rfl ⟨none, 0, none, 0, none, 0, ?_, ?_, st.below⟩
   case hr => simp [results, Tryz.results51, go_sem, hc, frameV]; try rfl
   ·rw [HE.out]
   ·rw [HE.out]; exact hz.below st.below
  | false =>
   by_cases hts : ts = []
   case neg =>
    have HE := qh (show decR s = (zeroF, 1) by rw [HD.out, if_pos (.inr (.inl hts))])
    clear HD
    go_wp2_with (first | go_skip | (with_reducible refine mX st Tryz.isAgg4 ?_) | (with_reducible refine mX st Tryz.isAgg9 ?_) | (with_reducible refine mS 0 st Tryz.sizeOf110 ?_; clear st; intro w90 st hw90m hw90z))
    have hc := fun j => st.cell (i := 0) rfl j
    refine bodyPost_ret (v := .tuple #[frameV zeroF none 0 none 0 none 0, .int .i64 1]) ?hr rfl ⟨none, 0, none, 0, none, 0, ?_, ?_, st.below⟩
    case hr => simp [results, Tryz.results51, go_sem, hc, frameV]; try rfl
    ·rw [HE.out]
    ·rw [HE.out]; exact hz.below st.below
   subst hts
   by_cases hk1 : 1 < k
   case pos =>
    have HE := qh (show decR s = (zeroF, 1) by rw [HD.out, if_pos (.inr (.inr hk1))])
    clear HD
    go_wp2_with (first | go_skip | (with_reducible refine mX st Tryz.isAgg4 ?_) | (with_reducible refine mX st Tryz.isAgg9 ?_) | (with_reducible refine mS 0 st Tryz.sizeOf110 ?_; clear st; intro w90 st hw90m hw90z))
    have hc := fun j => st.cell (i := 0) rfl j
    refine bodyPost_ret (v := .tuple #[frameV zeroF none 0 none 0 none 0, .int .i64 1]) ?hr rfl ⟨none, 0, none, 0, none, 0, ?_, ?_, st.below⟩
    case hr => simp [results, Tryz.results51, go_sem, hc, frameV]; try rfl
    ·rw [HE.out]
    ·rw [HE.out]; exact hz.below st.below
   have HE0 := qh (show decR s = if goodFrameC f ≠ 0 then (zeroF, goodFrameC f) else (f, 0) by rw [HD.out, if_neg (by simp; omega)])
   clear HD
   generalize goodFrameC f = qq at HE0 HG
   by_cases hq : qq = 0
   ·subst hq
    have HE := qh (show decR s = (f, 0) by rw [HE0.out, if_neg (by simp)])
    clear HE0
    go_wp2_with (first
     | go_skip | (with_reducible refine mX st Tryz.isAgg4 ?_) | (with_reducible refine mX st Tryz.isAgg9 ?_) | (with_reducible refine mXA st Tryz.isAgg110 Tryz.sizeOf110 ?_)
     | (go_at_call 77; go_must (refine (HG.out _ hF).mono ?_; rintro e v90 ⟨rfl, hb⟩; replace st := st.call hb; replace hF := hF.below hb; have hv90 := hb.size; clear hb)) | (with_reducible refine mS 0 st Tryz.sizeOf110 ?_; clear st; intro w90 st hw90m hw90z))
    have hc := fun j => st.cell (i := 0) rfl j
    have hk9 : Keeps (fun b => w.heap.size ≤ b ∧ b ≠ g2) v90 w90 := ⟨by omega, fun b hb ho => hw90m b ho.2⟩
    refine bodyPost_ret (v := .tuple #[frameV f la lc ga gc ca cc, .int .i64 0]) ?hr rfl ⟨la, lc, ga, gc, ca, cc, ?_, ?_, st.below⟩
    case hr => simp [results, Tryz.results51, go_sem, hc, frameV]; try rfl
    ·rw [HE.out]
    ·rw [HE.out]; exact ⟨⟨(hF.mail.label.keep hk9).okay fun _ h => h.1, (hF.mail.grants.keep hk9).okay fun _ h => h.1⟩, (hF.certs.keep hk9).okay fun _ h => h.1⟩
   ·have HE := qh (show decR s = (zeroF, qq) by rw [HE0.out, if_pos hq])
    have hqb : (qq != 0) = true := by simpa using hq
    clear HE0 hq
    go_wp2_with (first
     | go_skip | (with_reducible refine mX st Tryz.isAgg4 ?_) | (with_reducible refine mX st Tryz.isAgg9 ?_) | (with_reducible refine mXA st Tryz.isAgg110 Tryz.sizeOf110 ?_)
     | (go_at_call 77; go_must (refine (HG.out _ hF).mono ?_; rintro e v90 ⟨rfl, hb⟩; replace st := st.call hb; clear hb)) | (with_reducible refine mS 0 st Tryz.sizeOf110 ?_; clear st; intro w90 st hw90m hw90z))
    have hc := fun j => st.cell (i := 0) rfl j
    refine bodyPost_ret (v := .tuple #[frameV zeroF none 0 none 0 none 0, .int .i64 qq]) ?hr rfl ⟨none, 0, none, 0, none, 0, ?_, ?_, st.below⟩
    case hr => simp [results, Tryz.results51, go_sem, hc, frameV]; try rfl
    ·rw [HE.out]
    ·rw [HE.out]; exact hz.below st.below

theorem encL_len {f : Frame} (h : goodFrameC f = 0) : (encL f).length ≤ 100000 := by
 obtain ⟨_, _, _, _, _, hA, hM⟩ := good_facts h
 unfold encL
 split
 ·simp [headBytes, be_length]
 ·rename_i hk
  obtain ⟨m1, _, m3, _⟩ := hM (by simpa using hk)
  obtain ⟨_, _, q5, q6, q7⟩ := mail_facts m1
  obtain ⟨q8, _⟩ := grants_facts q6
  unfold goodL at q5
  by_cases hl : f.mail.label.length ≤ 8
  ·have e1 : ∀ l : List Lev, (l.flatMap levBytes).length = l.length * 2 := by
    intro l
    induction l with
    | nil => rfl
    | cons x l ih => simp [List.flatMap_cons, ih, levBytes]; omega
   have e2 : ∀ l : List Cert, (l.flatMap certBytes).length = l.length * 9 := by
    intro l
    induction l with
    | nil => rfl
    | cons x l ih => simp [List.flatMap_cons, ih, certBytes, be_length]; omega
   have e3 : f.mail.text.data.toList.length = f.mail.text.size := by rw [Array.length_toList]; rfl
   simp [headBytes, be_length, mailBytes, e1, e2]
   have : f.mail.text.data.size = f.mail.text.size := rfl
   omega
  ·rw [if_neg hl] at q5; simp at q5
end Go.Proofs.YtnjjdpiofbajlaaGreat
