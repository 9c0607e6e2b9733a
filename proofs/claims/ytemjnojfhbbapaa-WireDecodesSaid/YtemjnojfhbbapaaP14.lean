/- Walks and plain laws that the claim rests on, part 14. -/
import Derived.Test.YtemjnojfhbbapaaP8
import Derived.Test.YtemjnojfhbbapaaP7
import Derived.Test.YtemjnojfhbbapaaP3
import Derived.Test.YtemjnojfhbbapaaP6
import Derived.Test.YtemjnojfhbbapaaP11
import Derived.Deep.DeepCutAuto
import Derived.Deep.CutBlock
import Derived.Test.YtemjnojfhbbapaaP13
set_option linter.unusedSimpArgs false
set_option linter.unusedVariables false
/- The walk through wire.Decode. -/
namespace Go.Proofs.Ytemjnojfhbbapaa
open Go.RowKit

abbrev zeroC : List Value := [.int .i64 0, .int .i64 0, .int .i64 0, .bool false, .int .i64 0, .int .i64 0, .int .i64 0, .slice none 0 0, .slice none 0 0, .string ⟨#[]⟩, .slice none 0 0]


theorem tkMany_len {α : Type} (g : Tk → α × Tk) (hg : ∀ t, (g t).2.2.length ≤ t.2.length) : ∀ (n : Nat) (t : Tk), (tkMany g n t).1.length ≤ n ∧ (tkMany g n t).2.2.length ≤ t.2.length
  | 0, t => ⟨Nat.le_refl _, Nat.le_refl _⟩
  | n + 1, t => by
    unfold tkMany
    split
    · exact ⟨by simp, Nat.le_refl _⟩
    · obtain ⟨h1, h2⟩ := tkMany_len g hg n (g t).2
      exact ⟨by simpa using h1, Nat.le_trans h2 (hg t)⟩
theorem tkLev_len (t : Tk) : (tkLev t).2.2.length ≤ t.2.length := Nat.le_trans (tkNum_len 1 _) (tkNum_len 1 t)
theorem tkCert_len (t : Tk) : (tkCert t).2.2.length ≤ t.2.length := Nat.le_trans (tkNum_len 6 _) (Nat.le_trans (tkNum_len 1 _) (Nat.le_trans (tkNum_len 1 _) (tkNum_len 1 t)))

def frameC (f : Frame) (la : Option Addr) (lc : Nat) (ga : Option Addr) (gc : Nat) (ca : Option Addr) (cc : Nat) : List Value := [.int .i64 f.src, .int .i64 f.dst, .int .i64 f.seq, .bool f.ack, .int .i64 f.thread, .int .i64 f.mail.host, .int .i64 f.mail.thread, .slice la f.mail.label.length lc, .slice ga f.mail.grants.length gc, .string f.mail.text, .slice ca f.certs.length cc]

def DecPost (w : World) (s : List UInt8) (e : Ending) (w' : World) : Prop :=
  ∃ la lc ga gc ca cc, e = .returned (.tuple #[frameV (decR s).1 la lc ga gc ca cc, .int .i64 (decR s).2]) ∧ FrameR (fun b => w.heap.size ≤ b) w' (decR s).1 la lc ga gc ca cc ∧ Below w.heap.size w w'

/-- What stands behind the fields' reading. -/
def DecMid (w : World) (s : List UInt8) (g2 g4 g6 : Nat) (wx : World) : Prop :=
  ∃ la lc ga gc ca cc, St [] w wx [(g2, 29, zeroC), (g4, 59, takerC (codeT s)), (g6, 29, frameC (codeF s) la lc ga gc ca cc)] ∧
    FrameR (fun b => w.heap.size ≤ b ∧ b ≠ g2) wx (codeF s) la lc ga gc ca cc ∧ (codeF s).FitsW

set_option maxRecDepth 100000 in
set_option maxHeartbeats 4000000 in
theorem wire_Decode (w : World) (s : List UInt8) (hl : s.length ≤ 9223372036854775807) : Calls Try.prog 19 #[.string ⟨s.toArray⟩] w (DecPost w s) := by
  obtain ⟨⟨k, t1⟩, E1⟩ : ∃ r, tkNum 1 (false, s) = r := ⟨_, rfl⟩
  obtain ⟨⟨a, t2⟩, E2⟩ : ∃ r, tkNum 1 t1 = r := ⟨_, rfl⟩
  obtain ⟨⟨b, t3⟩, E3⟩ : ∃ r, tkNum 1 t2 = r := ⟨_, rfl⟩
  obtain ⟨⟨q, t4⟩, E4⟩ : ∃ r, tkNum 6 t3 = r := ⟨_, rfl⟩
  have HH := Lib.hid (show tkHead (false, s) = ((k, a, b, q), t4) by unfold tkHead; simp only [E1, E2, E3, E4])
  have l1 := tkNum_len 1 (false, s); rw [E1] at l1; simp only at l1
  have l2 := tkNum_len 1 t1; rw [E2] at l2; simp only at l2
  have l3 := tkNum_len 1 t2; rw [E3] at l3; simp only at l3
  have l4 := tkNum_len 6 t3; rw [E4] at l4; simp only at l4
  have k0 := tkNum_lo 1 (false, s); rw [E1] at k0; simp only at k0
  have k1 := tkNum_hi 1 (false, s); rw [E1] at k1; simp only at k1
  have q0 := tkNum_lo 6 t3; rw [E4] at q0; simp only at q0
  have H1 := Lib.hid E1
  have H2 := Lib.hid E2
  have H3 := Lib.hid E3
  have H4 := Lib.hid E4
  clear E1 E2 E3 E4
  have st := St.start w
  go_enter Try.func19, Try.ntmps19
  go_wp2_with (first | go_skip | (with_reducible refine at_alloc 29 ?_; refine mem_alloc st (wanted_none rfl) 29 rfl _ Try.zeroValue29 _ rfl ?_; clear st; intro g2 w2 hg2 st hg2b; clear hg2b; simp [Act.eval, Act.put, Value.cells, putL] at st) | (with_reducible refine at_box 59 ?_; refine mem_box st (wanted_none rfl) 59 _ rfl _ rfl _ rfl ?_; clear st; intro g4 w4 hg4 st hg4b; clear hg4b; simp [Act.eval, Act.put, Value.cells, putL] at st))
  refine (taker_one _ g4 (false, s) t1 k H1.out hl (st.blk _ (List.mem_of_getElem? (i := 1) rfl))).mono ?_
  rintro e v1 ⟨rfl, ht⟩
  replace st := st.turn (i := 1) rfl ht
  simp only [List.set_cons_succ, List.set_cons_zero] at st
  clear ht
  go_wp2_with fail
  refine (taker_one _ g4 t1 t2 a H2.out (by omega) (st.blk _ (List.mem_of_getElem? (i := 1) rfl))).mono ?_
  rintro e v2 ⟨rfl, ht⟩
  replace st := st.turn (i := 1) rfl ht
  simp only [List.set_cons_succ, List.set_cons_zero] at st
  clear ht
  go_wp2_with fail
  refine (taker_one _ g4 t2 t3 b H3.out (by omega) (st.blk _ (List.mem_of_getElem? (i := 1) rfl))).mono ?_
  rintro e v3 ⟨rfl, ht⟩
  replace st := st.turn (i := 1) rfl ht
  simp only [List.set_cons_succ, List.set_cons_zero] at st
  clear ht
  go_wp2_with fail
  refine (taker_six _ g4 t3 t4 q H4.out (by omega) (st.blk _ (List.mem_of_getElem? (i := 1) rfl))).mono ?_
  rintro e v4 ⟨rfl, ht⟩
  replace st := st.turn (i := 1) rfl ht
  simp only [List.set_cons_succ, List.set_cons_zero] at st
  clear ht
  go_upto_if 28 with (first | go_skip | (with_reducible refine at_alloc 29 ?_; refine mem_alloc st (wanted_none rfl) 29 rfl _ Try.zeroValue29 _ rfl ?_; clear st; intro g6 w6 hg6 st hg6b; clear hg6b; simp [Act.eval, Act.put, Value.cells, putL] at st) | (with_reducible refine at_store 29 ?_; (first | refine mem_store' st 29 _ _ rfl (wanted_none rfl) _ Try.sizeOf29 ?_ | (refine mem_store' st 29 _ _ rfl (wanted_some rfl ?_) _ Try.sizeOf29 ?_; focus (simp [yielded, Act.put]; done))); refine ⟨2, _, _, _, _, _, rfl, rfl, rfl, rfl, rfl, rfl, ?_⟩; clear st; intro w7 st hw7m hw7z; simp [Act.eval, Act.put, Value.cells, putL] at st))
  go_cut [] (fun wx => DecMid w s g2 g4 g6 wx)
  case first =>
    by_cases hk : k = 0
    case neg =>
      have hkb : (k == 0) = false := by simpa using hk
      have HK := Lib.hid hk
      clear hk
      go_wp2_with fail
      go_meet
      have e1 : codeT s = t4 := by unfold codeT; rw [HH.out]; simp only; rw [if_neg HK.out]
      have e2 : codeF s = ackFrame (k, a, b, q) (k == 1) := by unfold codeF; rw [HH.out]; simp only; rw [if_neg HK.out, Bool.beq_eq_decide_eq]
      refine ⟨none, 0, none, 0, none, 0, by rw [e1, e2]; exact st, ?_, ?_⟩
      · rw [e2]; exact ⟨⟨SlR.nil _ _ _ _, SlR.nil _ _ _ _⟩, SlR.nil _ _ _ _⟩
      · rw [e2]; exact ⟨by simp [ackFrame], by simp [ackFrame], by simp [ackFrame], by show (0 : Nat) ≤ _; omega⟩
    subst hk
    obtain ⟨⟨th, t5⟩, F1⟩ : ∃ r, tkNum 1 t4 = r := ⟨_, rfl⟩
    obtain ⟨⟨mt, t6⟩, F2⟩ : ∃ r, tkNum 1 t5 = r := ⟨_, rfl⟩
    obtain ⟨⟨n1, t7⟩, F3⟩ : ∃ r, tkNum 1 t6 = r := ⟨_, rfl⟩
    obtain ⟨⟨ls, t8⟩, F4⟩ : ∃ r, tkMany tkLev n1.toNat t7 = r := ⟨_, rfl⟩
    obtain ⟨⟨n2, t9⟩, F5⟩ : ∃ r, tkNum 1 t8 = r := ⟨_, rfl⟩
    obtain ⟨⟨gs, t10⟩, F6⟩ : ∃ r, tkMany (tkNum 1) n2.toNat t9 = r := ⟨_, rfl⟩
    obtain ⟨⟨n3, t11⟩, F7⟩ : ∃ r, tkNum 1 t10 = r := ⟨_, rfl⟩
    obtain ⟨⟨x, t12⟩, F8⟩ : ∃ r, tkText n3.toNat t11 = r := ⟨_, rfl⟩
    obtain ⟨⟨n4, t13⟩, F9⟩ : ∃ r, tkNum 1 t12 = r := ⟨_, rfl⟩
    obtain ⟨⟨cs, t14⟩, F10⟩ : ∃ r, tkMany tkCert n4.toNat t13 = r := ⟨_, rfl⟩
    have HB := Lib.hid (show tkBody t4 = (⟨th, mt, ls, gs, x, cs⟩, t14) by unfold tkBody; simp only [F1, F2, F3, F4, F5, F6, F7, F8, F9, F10])
    have m1 := tkNum_len 1 t4; rw [F1] at m1; simp only at m1
    have m2 := tkNum_len 1 t5; rw [F2] at m2; simp only at m2
    have m3 := tkNum_len 1 t6; rw [F3] at m3; simp only at m3
    have m4 := (tkMany_len tkLev tkLev_len n1.toNat t7).2; rw [F4] at m4; simp only at m4
    have m5 := tkNum_len 1 t8; rw [F5] at m5; simp only at m5
    have m6 := (tkMany_len (tkNum 1) (tkNum_len 1) n2.toNat t9).2; rw [F6] at m6; simp only at m6
    have m7 := tkNum_len 1 t10; rw [F7] at m7; simp only at m7
    have m8 := tkText_len n3.toNat t11; rw [F8] at m8; simp only at m8
    have m9 := tkNum_len 1 t12; rw [F9] at m9; simp only at m9
    have p1 := tkNum_lo 1 t6; rw [F3] at p1; simp only at p1
    have p2 := tkNum_hi 1 t6; rw [F3] at p2; simp only at p2
    have p3 := tkNum_lo 1 t8; rw [F5] at p3; simp only at p3
    have p4 := tkNum_hi 1 t8; rw [F5] at p4; simp only at p4
    have p5 := tkNum_lo 1 t10; rw [F7] at p5; simp only at p5
    have p6 := tkNum_hi 1 t10; rw [F7] at p6; simp only at p6
    have p7 := tkNum_lo 1 t12; rw [F9] at p7; simp only at p7
    have p8 := tkNum_hi 1 t12; rw [F9] at p8; simp only at p8
    have G1 := Lib.hid F1; have G2 := Lib.hid F2; have G3 := Lib.hid F3; have G4 := Lib.hid F4; have G5 := Lib.hid F5; have G6 := Lib.hid F6; have G7 := Lib.hid F7; have G8 := Lib.hid F8; have G9 := Lib.hid F9; have G10 := Lib.hid F10
    clear F1 F2 F3 F4 F5 F6 F7 F8 F9 F10 H1 H2 H3 H4
    clear hw7m hw7z
    go_wp2_with fail
    refine (taker_one _ g4 t4 t5 th G1.out (by omega) (st.blk _ (List.mem_of_getElem? (i := 1) rfl))).mono ?_
    rintro e v5 ⟨rfl, ht⟩
    replace st := st.turn (i := 1) rfl ht
    simp only [List.set_cons_succ, List.set_cons_zero] at st
    clear ht
    go_wp2_with (first | go_skip | (with_reducible refine at_store 3 ?_; (first | refine mem_store' st 3 _ _ rfl (wanted_none rfl) _ Try.sizeOf3 ?_ | (refine mem_store' st 3 _ _ rfl (wanted_some rfl ?_) _ Try.sizeOf3 ?_; focus (simp [yielded, Act.put]; done))); refine ⟨2, _, _, _, _, _, rfl, rfl, rfl, rfl, rfl, rfl, ?_⟩; clear st; intro w8 st hw8m hw8z; simp [Act.eval, Act.put, Value.cells, putL] at st))
    clear hw8m hw8z
    replace st := st.drew
    have hI : St [g6] w8.drew w8.drew [(g6, 29, [.int .i64 a, .int .i64 b, .int .i64 q, .bool false, .int .i64 th, .int .i64 0, .int .i64 0, .slice none 0 0, .slice none 0 0, .string ⟨#[]⟩, .slice none 0 0])] := St.hand (st.blk _ (List.mem_of_getElem? (i := 2) rfl))
    refine lex_tail (by kernel_rfl) 6 4 [6, 7, 8, 9] rfl (by decide +kernel) (fun W => St [g6] W W [(g6, 29, [.int .i64 a, .int .i64 b, .int .i64 q, .bool false, .int .i64 th, .int .i64 0, .int .i64 0, .slice none 0 0, .slice none 0 0, .string ⟨#[]⟩, .slice none 0 0])]) ?_
    refine lex_take 0 rfl (by decide +kernel) (by first | exact wanted_none rfl | exact wanted_some rfl rfl) hI (fun W hW => by first | (go_simp; done) | (go_simp; rfl)) ?_; simp only [Act.put, List.setIfInBounds_toArray, List.set_cons_succ, List.set_cons_zero]
    refine lex_take 1 rfl (by decide +kernel) (by first | exact wanted_none rfl | exact wanted_some rfl rfl) hI (fun W hW => St.run_load hW 0 3 _ rfl Try.isAgg3 rfl rfl rfl) ?_; simp only [Act.put, List.setIfInBounds_toArray, List.set_cons_succ, List.set_cons_zero]
    refine lex_take 2 rfl (by decide +kernel) (by first | exact wanted_none rfl | exact wanted_some rfl rfl) hI (fun W hW => by first | (go_simp; done) | (go_simp; rfl)) ?_; simp only [Act.put, List.setIfInBounds_toArray, List.set_cons_succ, List.set_cons_zero]
    refine lex_take 4 rfl (by decide +kernel) (by first | exact wanted_none rfl | exact wanted_some rfl rfl) hI (fun W hW => by first | (go_simp; done) | (go_simp; rfl)) ?_; simp only [Act.put, List.setIfInBounds_toArray, List.set_cons_succ, List.set_cons_zero]
    refine lex_take 5 rfl (by decide +kernel) (by first | exact wanted_none rfl | exact wanted_some rfl rfl) hI (fun W hW => by first | (go_simp; done) | (go_simp; rfl)) ?_; simp only [Act.put, List.setIfInBounds_toArray, List.set_cons_succ, List.set_cons_zero]
    clear hI
    refine lex_only 3 rfl (by decide +kernel) (by first | exact wanted_none rfl | exact wanted_some rfl rfl) fun K hK => ?_
    refine wp_callee (f := 36) (by first | (go_simp; done) | (go_simp; rfl)) ?_
    refine (taker_one _ g4 t5 t6 mt G2.out (by omega) (st.blk _ (List.mem_of_getElem? (i := 1) rfl))).mono ?_
    rintro e v9 ⟨rfl, ht⟩
    replace st := st.turn (i := 1) rfl ht
    simp only [List.set_cons_succ, List.set_cons_zero] at st
    clear ht
    refine ⟨_, rfl, ?_⟩
    refine hK _ _ (St.hand (st.blk _ (List.mem_of_getElem? (i := 2) rfl))) ?_; clear hK; simp only [Act.put, List.setIfInBounds_toArray, List.set_cons_succ, List.set_cons_zero]
    refine lex_done (by decide +kernel) ?_
    refine tail_next 6 rfl (by first | exact wanted_none rfl | exact wanted_some rfl rfl) (by decide +kernel) fun K hK => ?_
    refine wp_store' st 3 _ _ rfl _ Try.sizeOf3 ⟨2, _, _, _, _, _, rfl, rfl, rfl, rfl, rfl, rfl, ?_⟩; clear st; intro w10 st hw10m hw10z; simp [Act.eval, Act.put, Value.cells, putL] at st
    refine hK _ _ ?_; clear hK hw10m hw10z
    refine tail_take 7 rfl (by first | exact wanted_none rfl | exact wanted_some rfl rfl) (by decide +kernel) (by first | (go_simp; done) | (go_simp; rfl)) ?_; simp only [Act.put, List.setIfInBounds_toArray, List.set_cons_succ, List.set_cons_zero]
    refine tail_take 8 rfl (by first | exact wanted_none rfl | exact wanted_some rfl rfl) (by decide +kernel) (by first | (go_simp; done) | (go_simp; rfl)) ?_; simp only [Act.put, List.setIfInBounds_toArray, List.set_cons_succ, List.set_cons_zero]
    refine tail_last 9 rfl (by first | exact wanted_none rfl | exact wanted_some rfl rfl) (by decide +kernel) (by decide +kernel) fun K hK => ?_
    refine wp_store' st 3 _ _ rfl _ Try.sizeOf3 ⟨2, _, _, _, _, _, rfl, rfl, rfl, rfl, rfl, rfl, ?_⟩; clear st; intro w11 st hw11m hw11z; simp [Act.eval, Act.put, Value.cells, putL] at st
    refine hK _ _ ?_; clear hK hw11m hw11z
    go_wp2_with fail
    refine (taker_one _ g4 t6 t7 n1 G3.out (by omega) (st.blk _ (List.mem_of_getElem? (i := 1) rfl))).mono ?_
    rintro e v12 ⟨rfl, ht⟩
    replace st := st.turn (i := 1) rfl ht
    simp only [List.set_cons_succ, List.set_cons_zero] at st
    clear ht
    -- LOOPS
    have hcl : ls.length ≤ 255 := by have := (tkMany_len tkLev tkLev_len n1.toNat t7).1; rw [G4.out] at this; simp only at this; omega
    go_upto_block 0 with fail
    go_cut [] (fun wx => ∃ la lc, St [] w wx [(g2, 29, zeroC), (g4, 59, takerC t8), (g6, 29, [.int .i64 a, .int .i64 b, .int .i64 q, .bool false, .int .i64 th, .int .i64 a, .int .i64 mt, .slice la ls.length lc, .slice none 0 0, .string ⟨#[]⟩, .slice none 0 0])] ∧ Own w.heap.size 51 wx 2 RLev la lc ls)
    case first =>
      go_wp2_with fail
      go_loopw [7] (fun v7 wr => ∃ (m : Nat) (l : List Lev) (t : Tk) (a0 : Option Addr) (c0 : Nat), v7 = .int .i64 m ∧ m + l.length ≤ 255 ∧ Hid (tkMany tkLev n1.toNat t7 = (l ++ (tkMany tkLev m t).1, (tkMany tkLev m t).2)) ∧ t.2.length ≤ t7.2.length ∧ St [] w wr [(g2, 29, zeroC), (g4, 59, takerC t), (g6, 29, [.int .i64 a, .int .i64 b, .int .i64 q, .bool false, .int .i64 th, .int .i64 a, .int .i64 mt, .slice a0 l.length c0, .slice none 0 0, .string ⟨#[]⟩, .slice none 0 0])] ∧ Own w.heap.size 51 wr 2 RLev a0 c0 l) (fun v7 _ => (intOf v7).toNat)
      case atStart => exact ⟨n1.toNat, [], t7, none, 0, by rw [Int.toNat_of_nonneg (by omega)], by simp; omega, Lib.hid (by simp), Nat.le_refl _, st, Own.nil _ _ _ _ _⟩
      case round =>
        obtain ⟨m, l, ⟨tb, ts⟩, a0, c0, rfl, hml, HL, htl, st, hO⟩ := hrel
        simp only at htl
        by_cases hm : 0 < m
        case neg =>
          obtain rfl : m = 0 := by omega
          have HE := Lib.hid (show ls = l ∧ t8 = (tb, ts) by have h1 := G4.out; rw [HL.out] at h1; simp [tkMany] at h1; exact ⟨h1.1.symm, h1.2.symm⟩)
          go_wp2_with (first | go_skip | (with_reducible refine at_load 4 ?_; (first | refine mem_load' st 4 _ rfl (wanted_none rfl) Try.isAgg4 ?_ | (refine mem_load' st 4 _ rfl (wanted_some rfl ?_) Try.isAgg4 ?_; focus (simp [yielded, Act.put]; done))); refine ⟨1, _, _, _, _, _, rfl, rfl, rfl, ?_⟩))
          go_meet
          rw [HE.out.1, HE.out.2]
          exact ⟨a0, c0, st, hO⟩
        cases tb with
        | true =>
          have HE := Lib.hid (show ls = l ∧ t8 = (true, ts) by have h1 := G4.out; rw [HL.out] at h1; obtain ⟨j, rfl⟩ : ∃ j, m = j + 1 := ⟨m - 1, by omega⟩; simp [tkMany] at h1; exact ⟨h1.1.symm, h1.2.symm⟩)
          go_wp2_with (first | go_skip | (with_reducible refine at_load 4 ?_; (first | refine mem_load' st 4 _ rfl (wanted_none rfl) Try.isAgg4 ?_ | (refine mem_load' st 4 _ rfl (wanted_some rfl ?_) Try.isAgg4 ?_; focus (simp [yielded, Act.put]; done))); refine ⟨1, _, _, _, _, _, rfl, rfl, rfl, ?_⟩))
          go_meet
          rw [HE.out.1, HE.out.2]
          exact ⟨a0, c0, st, hO⟩
        | false =>
          obtain ⟨⟨c, u1⟩, J0⟩ : ∃ r, tkNum 1 (false, ts) = r := ⟨_, rfl⟩
          have j0 := tkNum_len 1 (false, ts); rw [J0] at j0; simp only at j0
          obtain ⟨⟨lv, u2⟩, J1⟩ : ∃ r, tkNum 1 u1 = r := ⟨_, rfl⟩
          have j1 := tkNum_len 1 u1; rw [J1] at j1; simp only at j1
          obtain ⟨j, rfl⟩ : ∃ j, m = j + 1 := ⟨m - 1, by omega⟩
          have HN : Hid (tkMany tkLev n1.toNat t7 = ((l ++ [(⟨c, lv⟩ : Lev)]) ++ (tkMany tkLev j u2).1, (tkMany tkLev j u2).2)) := Lib.hid (by rw [HL.out]; simp [tkMany, tkLev, J0, J1])
          have R0 := Lib.hid J0; clear J0
          have R1 := Lib.hid J1; clear J1
          clear HL
          obtain ⟨i0, hi, hz0, hz1, hz2⟩ := info_parts info_Level
          go_wp2_with (first | go_skip | (with_reducible refine at_load 4 ?_; (first | refine mem_load' st 4 _ rfl (wanted_none rfl) Try.isAgg4 ?_ | (refine mem_load' st 4 _ rfl (wanted_some rfl ?_) Try.isAgg4 ?_; focus (simp [yielded, Act.put]; done))); refine ⟨1, _, _, _, _, _, rfl, rfl, rfl, ?_⟩))
          refine (taker_one _ g4 (false, ts) u1 c R0.out (by first | omega | (simp only at *; omega)) (st.blk _ (List.mem_of_getElem? (i := 1) rfl))).mono ?_
          rintro e v21 ⟨rfl, ht⟩
          have st0 := st
          replace st := st.turn (i := 1) rfl ht
          simp only [List.set_cons_succ, List.set_cons_zero] at st
          replace hO := hO.turn ht (st0.blk _ (List.mem_of_getElem? (i := 1) rfl)) (by simp)
          clear ht st0
          go_wp2_with fail
          replace st := st.drew
          replace hO := hO.below (Below.refl _ _).drew
          have hI : St [g6] (World.drew _) (World.drew _) [(g6, 29, [.int .i64 a, .int .i64 b, .int .i64 q, .bool false, .int .i64 th, .int .i64 a, .int .i64 mt, .slice a0 l.length c0, .slice none 0 0, .string ⟨#[]⟩, .slice none 0 0])] := St.hand (st.blk _ (List.mem_of_getElem? (i := 2) rfl))
          refine lex_tail (by kernel_rfl) 11 1 [11] rfl (by decide +kernel) (fun W => St [g6] W W [(g6, 29, [.int .i64 a, .int .i64 b, .int .i64 q, .bool false, .int .i64 th, .int .i64 a, .int .i64 mt, .slice a0 l.length c0, .slice none 0 0, .string ⟨#[]⟩, .slice none 0 0])]) ?_
          refine lex_take 0 rfl (by decide +kernel) (by first | exact wanted_none rfl | exact wanted_some rfl rfl) hI (fun W hW => by first | (go_simp; done) | (go_simp; rfl)) ?_; simp only [Act.put, List.setIfInBounds_toArray, List.set_cons_succ, List.set_cons_zero]
          refine lex_take 1 rfl (by decide +kernel) (by first | exact wanted_none rfl | exact wanted_some rfl rfl) hI (fun W hW => by first | (go_simp; done) | (go_simp; rfl)) ?_; simp only [Act.put, List.setIfInBounds_toArray, List.set_cons_succ, List.set_cons_zero]
          refine lex_take 2 rfl (by decide +kernel) (by first | exact wanted_none rfl | exact wanted_some rfl rfl) hI (fun W hW => St.run_load hW 0 23 _ rfl Try.isAgg23 rfl rfl rfl) ?_; simp only [Act.put, List.setIfInBounds_toArray, List.set_cons_succ, List.set_cons_zero]
          refine lex_take 3 rfl (by decide +kernel) (by first | exact wanted_none rfl | exact wanted_some rfl rfl) hI (fun W hW => by first | (go_simp; done) | (go_simp; rfl)) ?_; simp only [Act.put, List.setIfInBounds_toArray, List.set_cons_succ, List.set_cons_zero]
          refine lex_take 4 rfl (by decide +kernel) (by first | exact wanted_none rfl | exact wanted_some rfl rfl) hI (fun W hW => by first | (go_simp; done) | (go_simp; rfl)) ?_; simp only [Act.put, List.setIfInBounds_toArray, List.set_cons_succ, List.set_cons_zero]
          clear hI
          refine lex_only 5 rfl (by decide +kernel) (by first | exact wanted_none rfl | exact wanted_some rfl rfl) fun K hK => ?_
          refine wp_callee (f := 36) (by first | (go_simp; done) | (go_simp; rfl)) ?_
          refine (taker_one _ g4 u1 u2 lv R1.out (by first | omega | (simp only at *; omega)) (st.blk _ (List.mem_of_getElem? (i := 1) rfl))).mono ?_
          rintro e v22 ⟨rfl, ht⟩
          have st0 := st
          replace st := st.turn (i := 1) rfl ht
          simp only [List.set_cons_succ, List.set_cons_zero] at st
          replace hO := hO.turn ht (st0.blk _ (List.mem_of_getElem? (i := 1) rfl)) (by simp)
          clear ht st0
          refine ⟨_, rfl, ?_⟩
          have hI := St.hand (st.blk _ (List.mem_of_getElem? (i := 2) rfl))
          refine hK _ _ (hI) ?_; clear hK; simp only [Act.put, List.setIfInBounds_toArray, List.set_cons_succ, List.set_cons_zero]
          refine lex_take 6 rfl (by decide +kernel) (by first | exact wanted_none rfl | exact wanted_some rfl rfl) hI (fun W hW => by first | (go_simp; done) | (go_simp; rfl)) ?_; simp only [Act.put, List.setIfInBounds_toArray, List.set_cons_succ, List.set_cons_zero]
          clear hI
          refine lex_only 7 rfl (by decide +kernel) (by first | exact wanted_none rfl | exact wanted_some rfl rfl) fun K hK => ?_
          refine wp_build1 st 23 51 _ rfl Try.underlying23 2 Try.sizeOf51 (by decide) (by decide) _ Try.zeroValue51 _ rfl rfl ?_; clear st; intro g23 w23 hg23 hg23e st hg23b hw23z; clear hg23e; simp [Act.eval, Act.put, Value.cells, putL] at st
          have hb := hg23b
          replace hO := hO.below hb
          refine hK _ _ (St.hand (st.blk _ (List.mem_of_getElem? (i := 2) rfl))) ?_; clear hK; simp only [Act.put, List.setIfInBounds_toArray, List.set_cons_succ, List.set_cons_zero]
          refine lex_only 8 rfl (by decide +kernel) (by first | exact wanted_none rfl | exact wanted_some rfl rfl) fun K hK => ?_
          refine wp_app1 _ _ 23 rfl 51 i0 _ 2 16 Try.underlying23 hi hz0 hz1 hz2 rfl (by decide) (y := (⟨c, lv⟩ : Lev)) rfl rfl hO rfl (SlR.ofBlk (ok := fun _ => True) (R := RLev) (x := (⟨c, lv⟩ : Lev)) (st.blk _ (List.mem_of_getElem? (i := 3) rfl)) rfl rfl rfl trivial) (by omega) (by unfold maxLen; omega) st.size ?_
          intro ga24 c24 w24 hN hgr _ _
          have st1 := (st.take 3).buf hO (Nat.le_refl _) hgr (by simp)
          clear hO hgr st
          have st := st1
          clear st1
          simp only [List.take_succ_cons, List.take_zero] at st
          have hI := St.hand (st.blk _ (List.mem_of_getElem? (i := 2) rfl))
          refine hK _ _ (hI) ?_; clear hK; simp only [Act.put, List.setIfInBounds_toArray, List.set_cons_succ, List.set_cons_zero]
          refine lex_take 9 rfl (by decide +kernel) (by first | exact wanted_none rfl | exact wanted_some rfl rfl) hI (fun W hW => by first | (go_simp; done) | (go_simp; rfl)) ?_; simp only [Act.put, List.setIfInBounds_toArray, List.set_cons_succ, List.set_cons_zero]
          refine lex_take 10 rfl (by decide +kernel) (by first | exact wanted_none rfl | exact wanted_some rfl rfl) hI (fun W hW => by first | (go_simp; done) | (go_simp; rfl)) ?_; simp only [Act.put, List.setIfInBounds_toArray, List.set_cons_succ, List.set_cons_zero]
          clear hI
          refine lex_done (by decide +kernel) ?_
          refine tail_last 11 rfl (by first | exact wanted_none rfl | exact wanted_some rfl rfl) (by decide +kernel) (by decide +kernel) fun K hK => ?_
          have h6 := st.blk _ (List.mem_of_getElem? (i := 2) rfl)
          refine wp_store' st 23 _ _ rfl _ Try.sizeOf23 ⟨2, _, _, _, _, _, rfl, rfl, rfl, rfl, rfl, rfl, ?_⟩; clear st; intro w25 st hw25m hw25z; simp [Act.eval, Act.put, Value.cells, putL] at st
          replace hN := hN.stored h6 (by simp) hw25m
          clear h6 hw25m hw25z
          refine hK _ _ ?_; clear hK
          go_wp2_with fail
          go_roundw
          case rel => exact ⟨j, l ++ [(⟨c, lv⟩ : Lev)], u2, _, _, by go_num, by simp; omega, HN, by omega, by simpa using st, hN⟩
          case measure => simp [intOf] <;> omega
    case rest =>
      obtain ⟨la, lc, st, hOl⟩ := hcut
      go_wp2_with fail
      refine (taker_one _ g4 t8 t9 n2 G5.out (by omega) (st.blk _ (List.mem_of_getElem? (i := 1) rfl))).mono ?_
      rintro e v26 ⟨rfl, ht⟩
      have st0 := st
      replace st := st.turn (i := 1) rfl ht
      simp only [List.set_cons_succ, List.set_cons_zero] at st
      replace hOl := hOl.turn ht (st0.blk _ (List.mem_of_getElem? (i := 1) rfl)) (by simp)
      clear ht st0
      have hcl : gs.length ≤ 255 := by have := (tkMany_len (tkNum 1) (tkNum_len 1) n2.toNat t9).1; rw [G6.out] at this; simp only at this; omega
      go_upto_block 2 with fail
      go_cut [] (fun wx => ∃ ga gc, St [] w wx [(g2, 29, zeroC), (g4, 59, takerC t10), (g6, 29, [.int .i64 a, .int .i64 b, .int .i64 q, .bool false, .int .i64 th, .int .i64 a, .int .i64 mt, .slice la ls.length lc, .slice ga gs.length gc, .string ⟨#[]⟩, .slice none 0 0])] ∧ Own w.heap.size 3 wx 1 RInt ga gc gs ∧ Own w.heap.size 51 wx 2 RLev la lc ls)
      case first =>
        go_wp2_with fail
        go_loopw [9] (fun v7 wr => ∃ (m : Nat) (l : List Int) (t : Tk) (a0 : Option Addr) (c0 : Nat), v7 = .int .i64 m ∧ m + l.length ≤ 255 ∧ Hid (tkMany (tkNum 1) n2.toNat t9 = (l ++ (tkMany (tkNum 1) m t).1, (tkMany (tkNum 1) m t).2)) ∧ t.2.length ≤ t9.2.length ∧ St [] w wr [(g2, 29, zeroC), (g4, 59, takerC t), (g6, 29, [.int .i64 a, .int .i64 b, .int .i64 q, .bool false, .int .i64 th, .int .i64 a, .int .i64 mt, .slice la ls.length lc, .slice a0 l.length c0, .string ⟨#[]⟩, .slice none 0 0])] ∧ Own w.heap.size 3 wr 1 RInt a0 c0 l ∧ Own w.heap.size 51 wr 2 RLev la lc ls) (fun v7 _ => (intOf v7).toNat)
        case atStart => exact ⟨n2.toNat, [], t9, none, 0, by rw [Int.toNat_of_nonneg (by omega)], by simp; omega, Lib.hid (by simp), Nat.le_refl _, st, Own.nil _ _ _ _ _, hOl⟩
        case round =>
          obtain ⟨m, l, ⟨tb, ts⟩, a0, c0, rfl, hml, HL, htl, st, hO, hOl⟩ := hrel
          simp only at htl
          by_cases hm : 0 < m
          case neg =>
            obtain rfl : m = 0 := by omega
            have HE := Lib.hid (show gs = l ∧ t10 = (tb, ts) by have h1 := G6.out; rw [HL.out] at h1; simp [tkMany] at h1; exact ⟨h1.1.symm, h1.2.symm⟩)
            go_wp2_with (first | go_skip | (with_reducible refine at_load 4 ?_; (first | refine mem_load' st 4 _ rfl (wanted_none rfl) Try.isAgg4 ?_ | (refine mem_load' st 4 _ rfl (wanted_some rfl ?_) Try.isAgg4 ?_; focus (simp [yielded, Act.put]; done))); refine ⟨1, _, _, _, _, _, rfl, rfl, rfl, ?_⟩))
            go_meet
            rw [HE.out.1, HE.out.2]
            exact ⟨a0, c0, st, hO, hOl⟩
          cases tb with
          | true =>
            have HE := Lib.hid (show gs = l ∧ t10 = (true, ts) by have h1 := G6.out; rw [HL.out] at h1; obtain ⟨j, rfl⟩ : ∃ j, m = j + 1 := ⟨m - 1, by omega⟩; simp [tkMany] at h1; exact ⟨h1.1.symm, h1.2.symm⟩)
            go_wp2_with (first | go_skip | (with_reducible refine at_load 4 ?_; (first | refine mem_load' st 4 _ rfl (wanted_none rfl) Try.isAgg4 ?_ | (refine mem_load' st 4 _ rfl (wanted_some rfl ?_) Try.isAgg4 ?_; focus (simp [yielded, Act.put]; done))); refine ⟨1, _, _, _, _, _, rfl, rfl, rfl, ?_⟩))
            go_meet
            rw [HE.out.1, HE.out.2]
            exact ⟨a0, c0, st, hO, hOl⟩
          | false =>
            obtain ⟨⟨c, u1⟩, J0⟩ : ∃ r, tkNum 1 (false, ts) = r := ⟨_, rfl⟩
            have j0 := tkNum_len 1 (false, ts); rw [J0] at j0; simp only at j0
            obtain ⟨j, rfl⟩ : ∃ j, m = j + 1 := ⟨m - 1, by omega⟩
            have HN : Hid (tkMany (tkNum 1) n2.toNat t9 = ((l ++ [(c : Int)]) ++ (tkMany (tkNum 1) j u1).1, (tkMany (tkNum 1) j u1).2)) := Lib.hid (by rw [HL.out]; simp [tkMany, J0])
            have R0 := Lib.hid J0; clear J0
            clear HL
            obtain ⟨i0, hi, hz0, hz1, hz2⟩ := info_parts info_int
            go_wp2_with (first | go_skip | (with_reducible refine at_load 4 ?_; (first | refine mem_load' st 4 _ rfl (wanted_none rfl) Try.isAgg4 ?_ | (refine mem_load' st 4 _ rfl (wanted_some rfl ?_) Try.isAgg4 ?_; focus (simp [yielded, Act.put]; done))); refine ⟨1, _, _, _, _, _, rfl, rfl, rfl, ?_⟩))
            replace st := st.drew
            replace hO := hO.below (Below.refl _ _).drew
            replace hOl := hOl.below (Below.refl _ _).drew
            have hI : St [g6] (World.drew _) (World.drew _) [(g6, 29, [.int .i64 a, .int .i64 b, .int .i64 q, .bool false, .int .i64 th, .int .i64 a, .int .i64 mt, .slice la ls.length lc, .slice a0 l.length c0, .string ⟨#[]⟩, .slice none 0 0])] := St.hand (st.blk _ (List.mem_of_getElem? (i := 2) rfl))
            refine lex_tail (by kernel_rfl) 9 1 [9] rfl (by decide +kernel) (fun W => St [g6] W W [(g6, 29, [.int .i64 a, .int .i64 b, .int .i64 q, .bool false, .int .i64 th, .int .i64 a, .int .i64 mt, .slice la ls.length lc, .slice a0 l.length c0, .string ⟨#[]⟩, .slice none 0 0])]) ?_
            refine lex_take 0 rfl (by decide +kernel) (by first | exact wanted_none rfl | exact wanted_some rfl rfl) hI (fun W hW => by first | (go_simp; done) | (go_simp; rfl)) ?_; simp only [Act.put, List.setIfInBounds_toArray, List.set_cons_succ, List.set_cons_zero]
            refine lex_take 1 rfl (by decide +kernel) (by first | exact wanted_none rfl | exact wanted_some rfl rfl) hI (fun W hW => by first | (go_simp; done) | (go_simp; rfl)) ?_; simp only [Act.put, List.setIfInBounds_toArray, List.set_cons_succ, List.set_cons_zero]
            refine lex_take 2 rfl (by decide +kernel) (by first | exact wanted_none rfl | exact wanted_some rfl rfl) hI (fun W hW => St.run_load hW 0 24 _ rfl Try.isAgg24 rfl rfl rfl) ?_; simp only [Act.put, List.setIfInBounds_toArray, List.set_cons_succ, List.set_cons_zero]
            refine lex_take 3 rfl (by decide +kernel) (by first | exact wanted_none rfl | exact wanted_some rfl rfl) hI (fun W hW => by first | (go_simp; done) | (go_simp; rfl)) ?_; simp only [Act.put, List.setIfInBounds_toArray, List.set_cons_succ, List.set_cons_zero]
            clear hI
            refine lex_only 4 rfl (by decide +kernel) (by first | exact wanted_none rfl | exact wanted_some rfl rfl) fun K hK => ?_
            refine wp_callee (f := 36) (by first | (go_simp; done) | (go_simp; rfl)) ?_
            refine (taker_one _ g4 (false, ts) u1 c R0.out (by first | omega | (simp only at *; omega)) (st.blk _ (List.mem_of_getElem? (i := 1) rfl))).mono ?_
            rintro e v27 ⟨rfl, ht⟩
            have st0 := st
            replace st := st.turn (i := 1) rfl ht
            simp only [List.set_cons_succ, List.set_cons_zero] at st
            replace hO := hO.turn ht (st0.blk _ (List.mem_of_getElem? (i := 1) rfl)) (by simp); replace hOl := hOl.turn ht (st0.blk _ (List.mem_of_getElem? (i := 1) rfl)) (by simp)
            clear ht st0
            refine ⟨_, rfl, ?_⟩
            have hI := St.hand (st.blk _ (List.mem_of_getElem? (i := 2) rfl))
            refine hK _ _ (hI) ?_; clear hK; simp only [Act.put, List.setIfInBounds_toArray, List.set_cons_succ, List.set_cons_zero]
            clear hI
            refine lex_only 5 rfl (by decide +kernel) (by first | exact wanted_none rfl | exact wanted_some rfl rfl) fun K hK => ?_
            refine wp_build1 st 24 3 _ rfl Try.underlying24 1 Try.sizeOf3 (by decide) (by decide) _ Try.zeroValue3 _ rfl rfl ?_; clear st; intro g28 w28 hg28 hg28e st hg28b hw28z; clear hg28e; simp [Act.eval, Act.put, Value.cells, putL] at st
            have hb := hg28b
            replace hO := hO.below hb; replace hOl := hOl.below hb
            refine hK _ _ (St.hand (st.blk _ (List.mem_of_getElem? (i := 2) rfl))) ?_; clear hK; simp only [Act.put, List.setIfInBounds_toArray, List.set_cons_succ, List.set_cons_zero]
            refine lex_only 6 rfl (by decide +kernel) (by first | exact wanted_none rfl | exact wanted_some rfl rfl) fun K hK => ?_
            refine wp_app1 _ _ 24 rfl 3 i0 _ 1 8 Try.underlying24 hi hz0 hz1 hz2 rfl (by decide) (y := (c : Int)) rfl rfl hO rfl (SlR.ofBlk (ok := fun _ => True) (R := RInt) (x := (c : Int)) (st.blk _ (List.mem_of_getElem? (i := 3) rfl)) rfl rfl rfl trivial) (by omega) (by unfold maxLen; omega) st.size ?_
            intro ga29 c29 w29 hN hgr _ _
            have st1 := (st.take 3).buf hO (Nat.le_refl _) hgr (by simp)
            replace hOl := hOl.aside hgr (fun b e e2 => hO.apart hOl (by decide) b e2 e)
            clear hO hgr st
            have st := st1
            clear st1
            simp only [List.take_succ_cons, List.take_zero] at st
            have hI := St.hand (st.blk _ (List.mem_of_getElem? (i := 2) rfl))
            refine hK _ _ (hI) ?_; clear hK; simp only [Act.put, List.setIfInBounds_toArray, List.set_cons_succ, List.set_cons_zero]
            refine lex_take 7 rfl (by decide +kernel) (by first | exact wanted_none rfl | exact wanted_some rfl rfl) hI (fun W hW => by first | (go_simp; done) | (go_simp; rfl)) ?_; simp only [Act.put, List.setIfInBounds_toArray, List.set_cons_succ, List.set_cons_zero]
            refine lex_take 8 rfl (by decide +kernel) (by first | exact wanted_none rfl | exact wanted_some rfl rfl) hI (fun W hW => by first | (go_simp; done) | (go_simp; rfl)) ?_; simp only [Act.put, List.setIfInBounds_toArray, List.set_cons_succ, List.set_cons_zero]
            clear hI
            refine lex_done (by decide +kernel) ?_
            refine tail_last 9 rfl (by first | exact wanted_none rfl | exact wanted_some rfl rfl) (by decide +kernel) (by decide +kernel) fun K hK => ?_
            have h6 := st.blk _ (List.mem_of_getElem? (i := 2) rfl)
            refine wp_store' st 24 _ _ rfl _ Try.sizeOf24 ⟨2, _, _, _, _, _, rfl, rfl, rfl, rfl, rfl, rfl, ?_⟩; clear st; intro w30 st hw30m hw30z; simp [Act.eval, Act.put, Value.cells, putL] at st
            replace hN := hN.stored h6 (by simp) hw30m
            replace hOl := hOl.stored h6 (by simp) hw30m
            clear h6 hw30m hw30z
            refine hK _ _ ?_; clear hK
            go_wp2_with fail
            go_roundw
            case rel => exact ⟨j, l ++ [(c : Int)], u1, _, _, by go_num, by simp; omega, HN, by omega, by simpa using st, hN, hOl⟩
            case measure => simp [intOf] <;> omega
      case rest =>
        obtain ⟨ga, gc, st, hOg, hOl⟩ := hcut
        go_wp2_with fail
        refine (taker_one _ g4 t10 t11 n3 G7.out (by omega) (st.blk _ (List.mem_of_getElem? (i := 1) rfl))).mono ?_
        rintro e v31 ⟨rfl, ht⟩
        have st0 := st
        replace st := st.turn (i := 1) rfl ht
        simp only [List.set_cons_succ, List.set_cons_zero] at st
        replace hOl := hOl.turn ht (st0.blk _ (List.mem_of_getElem? (i := 1) rfl)) (by simp)
        replace hOg := hOg.turn ht (st0.blk _ (List.mem_of_getElem? (i := 1) rfl)) (by simp)
        clear ht st0
        go_wp2_with fail
        refine (taker_txt _ g4 t11 t12 n3 x G8.out p5 (by omega) (by omega) (st.blk _ (List.mem_of_getElem? (i := 1) rfl))).mono ?_
        rintro e v32 ⟨rfl, ht⟩
        have st0 := st
        replace st := st.turn (i := 1) rfl ht
        simp only [List.set_cons_succ, List.set_cons_zero] at st
        replace hOl := hOl.turn ht (st0.blk _ (List.mem_of_getElem? (i := 1) rfl)) (by simp)
        replace hOg := hOg.turn ht (st0.blk _ (List.mem_of_getElem? (i := 1) rfl)) (by simp)
        clear ht st0
        have h6 := st.blk _ (List.mem_of_getElem? (i := 2) rfl)
        go_wp2_with (first | go_skip | (with_reducible refine at_store 9 ?_; (first | refine mem_store' st 9 _ _ rfl (wanted_none rfl) _ Try.sizeOf9 ?_ | (refine mem_store' st 9 _ _ rfl (wanted_some rfl ?_) _ Try.sizeOf9 ?_; focus (simp [yielded, Act.put]; done))); refine ⟨2, _, _, _, _, _, rfl, rfl, rfl, rfl, rfl, rfl, ?_⟩; clear st; intro w33 st hw33m hw33z; simp [Act.eval, Act.put, Value.cells, putL] at st))
        replace hOl := hOl.stored h6 (by simp) hw33m
        replace hOg := hOg.stored h6 (by simp) hw33m
        clear h6 hw33m hw33z
        refine (taker_one _ g4 t12 t13 n4 G9.out (by omega) (st.blk _ (List.mem_of_getElem? (i := 1) rfl))).mono ?_
        rintro e v34 ⟨rfl, ht⟩
        have st0 := st
        replace st := st.turn (i := 1) rfl ht
        simp only [List.set_cons_succ, List.set_cons_zero] at st
        replace hOl := hOl.turn ht (st0.blk _ (List.mem_of_getElem? (i := 1) rfl)) (by simp)
        replace hOg := hOg.turn ht (st0.blk _ (List.mem_of_getElem? (i := 1) rfl)) (by simp)
        clear ht st0
        have hcl : cs.length ≤ 255 := by have := (tkMany_len tkCert tkCert_len n4.toNat t13).1; rw [G10.out] at this; simp only at this; omega
        go_upto_block 4 with fail
        go_cut [] (fun wx => ∃ ca cc, St [] w wx [(g2, 29, zeroC), (g4, 59, takerC t14), (g6, 29, [.int .i64 a, .int .i64 b, .int .i64 q, .bool false, .int .i64 th, .int .i64 a, .int .i64 mt, .slice la ls.length lc, .slice ga gs.length gc, .string ⟨x.toArray⟩, .slice ca cs.length cc])] ∧ Own w.heap.size 39 wx 4 RCert ca cc cs ∧ Own w.heap.size 51 wx 2 RLev la lc ls ∧ Own w.heap.size 3 wx 1 RInt ga gc gs)
        case first =>
          go_wp2_with fail
          go_loopw [10] (fun v7 wr => ∃ (m : Nat) (l : List Cert) (t : Tk) (a0 : Option Addr) (c0 : Nat), v7 = .int .i64 m ∧ m + l.length ≤ 255 ∧ Hid (tkMany tkCert n4.toNat t13 = (l ++ (tkMany tkCert m t).1, (tkMany tkCert m t).2)) ∧ t.2.length ≤ t13.2.length ∧ St [] w wr [(g2, 29, zeroC), (g4, 59, takerC t), (g6, 29, [.int .i64 a, .int .i64 b, .int .i64 q, .bool false, .int .i64 th, .int .i64 a, .int .i64 mt, .slice la ls.length lc, .slice ga gs.length gc, .string ⟨x.toArray⟩, .slice a0 l.length c0])] ∧ Own w.heap.size 39 wr 4 RCert a0 c0 l ∧ Own w.heap.size 51 wr 2 RLev la lc ls ∧ Own w.heap.size 3 wr 1 RInt ga gc gs) (fun v7 _ => (intOf v7).toNat)
          case atStart => exact ⟨n4.toNat, [], t13, none, 0, by rw [Int.toNat_of_nonneg (by omega)], by simp; omega, Lib.hid (by simp), Nat.le_refl _, st, Own.nil _ _ _ _ _, hOl, hOg⟩
          case round =>
            obtain ⟨m, l, ⟨tb, ts⟩, a0, c0, rfl, hml, HL, htl, st, hO, hOl, hOg⟩ := hrel
            simp only at htl
            by_cases hm : 0 < m
            case neg =>
              obtain rfl : m = 0 := by omega
              have HE := Lib.hid (show cs = l ∧ t14 = (tb, ts) by have h1 := G10.out; rw [HL.out] at h1; simp [tkMany] at h1; exact ⟨h1.1.symm, h1.2.symm⟩)
              go_wp2_with (first | go_skip | (with_reducible refine at_load 4 ?_; (first | refine mem_load' st 4 _ rfl (wanted_none rfl) Try.isAgg4 ?_ | (refine mem_load' st 4 _ rfl (wanted_some rfl ?_) Try.isAgg4 ?_; focus (simp [yielded, Act.put]; done))); refine ⟨1, _, _, _, _, _, rfl, rfl, rfl, ?_⟩))
              go_meet
              rw [HE.out.1, HE.out.2]
              exact ⟨a0, c0, st, hO, hOl, hOg⟩
            cases tb with
            | true =>
              have HE := Lib.hid (show cs = l ∧ t14 = (true, ts) by have h1 := G10.out; rw [HL.out] at h1; obtain ⟨j, rfl⟩ : ∃ j, m = j + 1 := ⟨m - 1, by omega⟩; simp [tkMany] at h1; exact ⟨h1.1.symm, h1.2.symm⟩)
              go_wp2_with (first | go_skip | (with_reducible refine at_load 4 ?_; (first | refine mem_load' st 4 _ rfl (wanted_none rfl) Try.isAgg4 ?_ | (refine mem_load' st 4 _ rfl (wanted_some rfl ?_) Try.isAgg4 ?_; focus (simp [yielded, Act.put]; done))); refine ⟨1, _, _, _, _, _, rfl, rfl, rfl, ?_⟩))
              go_meet
              rw [HE.out.1, HE.out.2]
              exact ⟨a0, c0, st, hO, hOl, hOg⟩
            | false =>
              obtain ⟨⟨c, u1⟩, J0⟩ : ∃ r, tkNum 1 (false, ts) = r := ⟨_, rfl⟩
              have j0 := tkNum_len 1 (false, ts); rw [J0] at j0; simp only at j0
              obtain ⟨⟨cb, u2⟩, J1⟩ : ∃ r, tkNum 1 u1 = r := ⟨_, rfl⟩
              have j1 := tkNum_len 1 u1; rw [J1] at j1; simp only at j1
              obtain ⟨⟨ch, u3⟩, J2⟩ : ∃ r, tkNum 1 u2 = r := ⟨_, rfl⟩
              have j2 := tkNum_len 1 u2; rw [J2] at j2; simp only at j2
              obtain ⟨⟨ct, u4⟩, J3⟩ : ∃ r, tkNum 6 u3 = r := ⟨_, rfl⟩
              have j3 := tkNum_len 6 u3; rw [J3] at j3; simp only at j3
              obtain ⟨j, rfl⟩ : ∃ j, m = j + 1 := ⟨m - 1, by omega⟩
              have HN : Hid (tkMany tkCert n4.toNat t13 = ((l ++ [(⟨c, cb, ch, ct⟩ : Cert)]) ++ (tkMany tkCert j u4).1, (tkMany tkCert j u4).2)) := Lib.hid (by rw [HL.out]; simp [tkMany, tkCert, J0, J1, J2, J3])
              have R0 := Lib.hid J0; clear J0
              have R1 := Lib.hid J1; clear J1
              have R2 := Lib.hid J2; clear J2
              have R3 := Lib.hid J3; clear J3
              clear HL
              obtain ⟨i0, hi, hz0, hz1, hz2⟩ := info_parts info_Cert
              have stA := st
              replace st := st.rebase
              go_wp2_with (first | go_skip | (with_reducible refine at_load 4 ?_; (first | refine mem_load' st 4 _ rfl (wanted_none rfl) Try.isAgg4 ?_ | (refine mem_load' st 4 _ rfl (wanted_some rfl ?_) Try.isAgg4 ?_; focus (simp [yielded, Act.put]; done))); refine ⟨1, _, _, _, _, _, rfl, rfl, rfl, ?_⟩))
              refine (taker_one _ g4 (false, ts) u1 c R0.out (by first | omega | (simp only at *; omega)) (st.blk _ (List.mem_of_getElem? (i := 1) rfl))).mono ?_
              rintro e v35 ⟨rfl, ht⟩
              replace st := st.turn (i := 1) rfl ht
              simp only [List.set_cons_succ, List.set_cons_zero] at st
              clear ht
              go_wp2_with fail
              refine (taker_one _ g4 u1 u2 cb R1.out (by first | omega | (simp only at *; omega)) (st.blk _ (List.mem_of_getElem? (i := 1) rfl))).mono ?_
              rintro e v36 ⟨rfl, ht⟩
              replace st := st.turn (i := 1) rfl ht
              simp only [List.set_cons_succ, List.set_cons_zero] at st
              clear ht
              go_wp2_with fail
              refine (taker_one _ g4 u2 u3 ch R2.out (by first | omega | (simp only at *; omega)) (st.blk _ (List.mem_of_getElem? (i := 1) rfl))).mono ?_
              rintro e v37 ⟨rfl, ht⟩
              replace st := st.turn (i := 1) rfl ht
              simp only [List.set_cons_succ, List.set_cons_zero] at st
              clear ht
              go_wp2_with (first | go_skip | (with_reducible refine at_alloc 39 ?_; refine mem_alloc st (wanted_none rfl) 39 rfl _ Try.zeroValue39 _ rfl ?_; clear st; intro g38 w38 hg38 st hg38b; clear hg38b; simp [Act.eval, Act.put, Value.cells, putL] at st) | (with_reducible refine at_store 39 ?_; (first | refine mem_store' st 39 _ _ rfl (wanted_none rfl) _ Try.sizeOf39 ?_ | (refine mem_store' st 39 _ _ rfl (wanted_some rfl ?_) _ Try.sizeOf39 ?_; focus (simp [yielded, Act.put]; done))); refine ⟨3, _, _, _, _, _, rfl, rfl, rfl, rfl, rfl, rfl, ?_⟩; clear st; intro w39 st hw39m hw39z; simp [Act.eval, Act.put, Value.cells, putL] at st))
              clear hw39m hw39z
              refine (taker_six _ g4 u3 u4 ct R3.out (by first | omega | (simp only at *; omega)) (st.blk _ (List.mem_of_getElem? (i := 1) rfl))).mono ?_
              rintro e v40 ⟨rfl, ht⟩
              replace st := st.turn (i := 1) rfl ht
              simp only [List.set_cons_succ, List.set_cons_zero] at st
              clear ht
              go_wp2_with (first
                | go_skip | (with_reducible refine at_store 3 ?_; (first | refine mem_store' st 3 _ _ rfl (wanted_none rfl) _ Try.sizeOf3 ?_ | (refine mem_store' st 3 _ _ rfl (wanted_some rfl ?_) _ Try.sizeOf3 ?_; focus (simp [yielded, Act.put]; done))); refine ⟨3, _, _, _, _, _, rfl, rfl, rfl, rfl, rfl, rfl, ?_⟩; clear st; intro w41 st hw41m hw41z; simp [Act.eval, Act.put, Value.cells, putL] at st) | (with_reducible refine at_load 27 ?_; (first | refine mem_load' st 27 _ rfl (wanted_none rfl) Try.isAgg27 ?_ | (refine mem_load' st 27 _ rfl (wanted_some rfl ?_) Try.isAgg27 ?_; focus (simp [yielded, Act.put]; done))); refine ⟨2, _, _, _, _, _, rfl, rfl, rfl, ?_⟩) | (with_reducible refine at_load 39 ?_; (first | refine mem_load_agg' st 39 _ rfl (wanted_none rfl) Try.isAgg39 _ Try.sizeOf39 ?_ | (refine mem_load_agg' st 39 _ rfl (wanted_some rfl ?_) Try.isAgg39 _ Try.sizeOf39 ?_; focus (simp [yielded, Act.put]; done))); refine ⟨3, _, _, _, _, _, rfl, rfl, rfl, rfl, ?_⟩) | (with_reducible refine at_build1 27 ?_; refine wpList_build1 st (wanted_none rfl) 27 39 _ rfl Try.underlying27 4 Try.sizeOf39 (by decide) (by decide) _ Try.zeroValue39 _ rfl rfl ?_; have stw42 := st; clear st; intro g42 w42 hg42 hg42e st hw42b hw42z; simp [Act.eval, Act.put, Value.cells, putL] at st)
                | (at_builtin; go_must (have hOc := hO.through stA st (by simp); refine wpList_app1 (wanted_none rfl) _ _ 27 rfl 39 i0 _ 4 32 Try.underlying27 hi hz0 hz1 hz2 rfl (by decide) (y := (⟨c, cb, ch, ct⟩ : Cert)) rfl rfl hOc rfl (SlR.ofBlk (ok := fun _ => True) (R := RCert) (x := (⟨c, cb, ch, ct⟩ : Cert)) (st.blk _ (List.mem_of_getElem? (i := 4) rfl)) rfl rfl rfl trivial) ?l1 ?l2 ?l3 ?_)))
              case l1 => omega
              case l2 => unfold maxLen; omega
              case l3 => have := stA.size; have := st.size; omega
              intro ga c9 w43 hN hgr _ _
              replace hOl := (hOl.through stA st (by simp)).aside hgr (fun b e e2 => hOc.apart (hOl.through stA st (by simp)) (by decide) b e2 e)
              replace hOg := (hOg.through stA st (by simp)).aside hgr (fun b e e2 => hOc.apart (hOg.through stA st (by simp)) (by decide) b e2 e)
              have st1 := ((St.back stA st).take 3).buf hOc (Nat.le_refl _) hgr (by simp)
              clear hO hOc hgr st stA
              have st := st1
              clear st1
              simp only [List.take_succ_cons, List.take_zero] at st
              have h6 := st.blk _ (List.mem_of_getElem? (i := 2) rfl)
              go_wp2_with (first | go_skip | (with_reducible refine at_store 27 ?_; (first | refine mem_store' st 27 _ _ rfl (wanted_none rfl) _ Try.sizeOf27 ?_ | (refine mem_store' st 27 _ _ rfl (wanted_some rfl ?_) _ Try.sizeOf27 ?_; focus (simp [yielded, Act.put]; done))); refine ⟨2, _, _, _, _, _, rfl, rfl, rfl, rfl, rfl, rfl, ?_⟩; clear st; intro w44 st hw44m hw44z; simp [Act.eval, Act.put, Value.cells, putL] at st))
              replace hN := hN.stored h6 (by simp) hw44m
              replace hOl := hOl.stored h6 (by simp) hw44m
              replace hOg := hOg.stored h6 (by simp) hw44m
              clear h6 hw44m hw44z
              go_roundw
              case rel => exact ⟨j, l ++ [(⟨c, cb, ch, ct⟩ : Cert)], u4, _, _, by go_num, by simp; omega, HN, by omega, by simpa using st, hN, hOl, hOg⟩
              case measure => simp [intOf] <;> omega
        case rest =>
          obtain ⟨ca, cc, st, hOc, hOl, hOg⟩ := hcut
          have hll : ls.length ≤ 255 := by have := (tkMany_len tkLev tkLev_len n1.toNat t7).1; rw [G4.out] at this; simp only at this; omega
          have hgl : gs.length ≤ 255 := by have := (tkMany_len (tkNum 1) (tkNum_len 1) n2.toNat t9).1; rw [G6.out] at this; simp only at this; omega
          have hxl := (tkText_le n3.toNat t11).1; rw [G8.out] at hxl; simp only at hxl
          go_wp2_with fail
          go_meet
          have e1 : codeT s = t14 := by unfold codeT; rw [HH.out]; simp only [if_true]; rw [HB.out]
          have e2 : codeF s = mailFrame (0, a, b, q) false ⟨th, mt, ls, gs, x, cs⟩ := by unfold codeF; rw [HH.out]; simp only [if_true]; rw [HB.out]
          refine ⟨la, lc, ga, gc, ca, cc, by rw [e1, e2]; exact st, ?_, ?_⟩
          · rw [e2]; exact ⟨⟨hOl.slrN (st.blk _ (List.mem_of_getElem? (i := 0) rfl)) (by simp), hOg.slrN (st.blk _ (List.mem_of_getElem? (i := 0) rfl)) (by simp)⟩, hOc.slrN (st.blk _ (List.mem_of_getElem? (i := 0) rfl)) (by simp)⟩
          · rw [e2]; exact ⟨by simp only [mailFrame]; omega, by simp only [mailFrame]; omega, by simp only [mailFrame]; omega, by show x.toArray.size ≤ _; simp; omega⟩
  case rest =>
    obtain ⟨la, lc, ga, gc, ca, cc, st, hF, hW⟩ := hcut
    have HD := Lib.hid (show decR s = if (codeT s).1 = true ∨ (codeT s).2 ≠ [] ∨ 1 < k then (zeroF, 1) else if goodFrameC (codeF s) ≠ 0 then (zeroF, goodFrameC (codeF s)) else (codeF s, 0) by rw [← codeR_eq]; unfold codeR; rw [HH.out])
    have HG := Lib.hid (fun (W : World) (h : FrameR (fun b => w.heap.size ≤ b ∧ b ≠ g2) W (codeF s) la lc ga gc ca cc) => wire_Good (fun b => w.heap.size ≤ b ∧ b ≠ g2) W (codeF s) la lc ga gc ca cc hW h)
    generalize codeT s = t at HD st
    generalize codeF s = f at HD st HG hF hW
    clear HH H1 H2 H3 H4
    obtain ⟨tb, ts⟩ := t
    simp only at HD
    unfold frameC at st
    unfold frameV at HG
    have hz : FrameR (fun b => w.heap.size ≤ b) w zeroF none 0 none 0 none 0 := ⟨⟨SlR.nil _ _ _ _, SlR.nil _ _ _ _⟩, SlR.nil _ _ _ _⟩
    have hsz := st.size
    cases tb with
    | true =>
      have HE := Lib.hid (show decR s = (zeroF, 1) by rw [HD.out, if_pos (.inl rfl)])
      clear HD
      go_wp2_with (first | go_skip | (with_reducible refine at_load 4 ?_; (first | refine mem_load' st 4 _ rfl (wanted_none rfl) Try.isAgg4 ?_ | (refine mem_load' st 4 _ rfl (wanted_some rfl ?_) Try.isAgg4 ?_; focus (simp [yielded, Act.put]; done))); refine ⟨1, _, _, _, _, _, rfl, rfl, rfl, ?_⟩) | (with_reducible refine at_store 29 ?_; (first | refine mem_store' st 29 _ _ rfl (wanted_none rfl) _ Try.sizeOf29 ?_ | (refine mem_store' st 29 _ _ rfl (wanted_some rfl ?_) _ Try.sizeOf29 ?_; focus (simp [yielded, Act.put]; done))); refine ⟨0, _, _, _, _, _, rfl, rfl, rfl, rfl, rfl, rfl, ?_⟩; clear st; intro w90 st hw90m hw90z; simp [Act.eval, Act.put, Value.cells, putL] at st))
      have hc := fun j => st.cell (i := 0) rfl j
      refine bodyPost_ret (v := .tuple #[frameV zeroF none 0 none 0 none 0, .int .i64 1]) ?hr rfl ⟨none, 0, none, 0, none, 0, ?_, ?_, st.below⟩
      case hr => simp [results, Try.results19, go_sem, hc, frameV]; try rfl
      · rw [HE.out]
      · rw [HE.out]; exact hz.below st.below
    | false =>
      by_cases hts : ts = []
      case neg =>
        have HE := Lib.hid (show decR s = (zeroF, 1) by rw [HD.out, if_pos (.inr (.inl hts))])
        clear HD
        go_wp2_with (first | go_skip | (with_reducible refine at_load 4 ?_; (first | refine mem_load' st 4 _ rfl (wanted_none rfl) Try.isAgg4 ?_ | (refine mem_load' st 4 _ rfl (wanted_some rfl ?_) Try.isAgg4 ?_; focus (simp [yielded, Act.put]; done))); refine ⟨1, _, _, _, _, _, rfl, rfl, rfl, ?_⟩) | (with_reducible refine at_load 9 ?_; (first | refine mem_load' st 9 _ rfl (wanted_none rfl) Try.isAgg9 ?_ | (refine mem_load' st 9 _ rfl (wanted_some rfl ?_) Try.isAgg9 ?_; focus (simp [yielded, Act.put]; done))); refine ⟨1, _, _, _, _, _, rfl, rfl, rfl, ?_⟩) | (with_reducible refine at_store 29 ?_; (first | refine mem_store' st 29 _ _ rfl (wanted_none rfl) _ Try.sizeOf29 ?_ | (refine mem_store' st 29 _ _ rfl (wanted_some rfl ?_) _ Try.sizeOf29 ?_; focus (simp [yielded, Act.put]; done))); refine ⟨0, _, _, _, _, _, rfl, rfl, rfl, rfl, rfl, rfl, ?_⟩; clear st; intro w90 st hw90m hw90z; simp [Act.eval, Act.put, Value.cells, putL] at st))
        have hc := fun j => st.cell (i := 0) rfl j
        refine bodyPost_ret (v := .tuple #[frameV zeroF none 0 none 0 none 0, .int .i64 1]) ?hr rfl ⟨none, 0, none, 0, none, 0, ?_, ?_, st.below⟩
        case hr => simp [results, Try.results19, go_sem, hc, frameV]; try rfl
        · rw [HE.out]
        · rw [HE.out]; exact hz.below st.below
      subst hts
      by_cases hk1 : 1 < k
      case pos =>
        have HE := Lib.hid (show decR s = (zeroF, 1) by rw [HD.out, if_pos (.inr (.inr hk1))])
        clear HD
        go_wp2_with (first | go_skip | (with_reducible refine at_load 4 ?_; (first | refine mem_load' st 4 _ rfl (wanted_none rfl) Try.isAgg4 ?_ | (refine mem_load' st 4 _ rfl (wanted_some rfl ?_) Try.isAgg4 ?_; focus (simp [yielded, Act.put]; done))); refine ⟨1, _, _, _, _, _, rfl, rfl, rfl, ?_⟩) | (with_reducible refine at_load 9 ?_; (first | refine mem_load' st 9 _ rfl (wanted_none rfl) Try.isAgg9 ?_ | (refine mem_load' st 9 _ rfl (wanted_some rfl ?_) Try.isAgg9 ?_; focus (simp [yielded, Act.put]; done))); refine ⟨1, _, _, _, _, _, rfl, rfl, rfl, ?_⟩) | (with_reducible refine at_store 29 ?_; (first | refine mem_store' st 29 _ _ rfl (wanted_none rfl) _ Try.sizeOf29 ?_ | (refine mem_store' st 29 _ _ rfl (wanted_some rfl ?_) _ Try.sizeOf29 ?_; focus (simp [yielded, Act.put]; done))); refine ⟨0, _, _, _, _, _, rfl, rfl, rfl, rfl, rfl, rfl, ?_⟩; clear st; intro w90 st hw90m hw90z; simp [Act.eval, Act.put, Value.cells, putL] at st))
        have hc := fun j => st.cell (i := 0) rfl j
        refine bodyPost_ret (v := .tuple #[frameV zeroF none 0 none 0 none 0, .int .i64 1]) ?hr rfl ⟨none, 0, none, 0, none, 0, ?_, ?_, st.below⟩
        case hr => simp [results, Try.results19, go_sem, hc, frameV]; try rfl
        · rw [HE.out]
        · rw [HE.out]; exact hz.below st.below
      have HE0 := Lib.hid (show decR s = if goodFrameC f ≠ 0 then (zeroF, goodFrameC f) else (f, 0) by rw [HD.out, if_neg (by simp; omega)])
      clear HD
      generalize goodFrameC f = qq at HE0 HG
      by_cases hq : qq = 0
      · subst hq
        have HE := Lib.hid (show decR s = (f, 0) by rw [HE0.out, if_neg (by simp)])
        clear HE0
        go_wp2_with (first
          | go_skip | (with_reducible refine at_load 4 ?_; (first | refine mem_load' st 4 _ rfl (wanted_none rfl) Try.isAgg4 ?_ | (refine mem_load' st 4 _ rfl (wanted_some rfl ?_) Try.isAgg4 ?_; focus (simp [yielded, Act.put]; done))); refine ⟨1, _, _, _, _, _, rfl, rfl, rfl, ?_⟩) | (with_reducible refine at_load 9 ?_; (first | refine mem_load' st 9 _ rfl (wanted_none rfl) Try.isAgg9 ?_ | (refine mem_load' st 9 _ rfl (wanted_some rfl ?_) Try.isAgg9 ?_; focus (simp [yielded, Act.put]; done))); refine ⟨1, _, _, _, _, _, rfl, rfl, rfl, ?_⟩) | (with_reducible refine at_load 29 ?_; (first | refine mem_load_agg' st 29 _ rfl (wanted_none rfl) Try.isAgg29 _ Try.sizeOf29 ?_ | (refine mem_load_agg' st 29 _ rfl (wanted_some rfl ?_) Try.isAgg29 _ Try.sizeOf29 ?_; focus (simp [yielded, Act.put]; done))); refine ⟨2, _, _, _, _, _, rfl, rfl, rfl, rfl, ?_⟩)
          | (go_at_call 11; go_must (refine (HG.out _ hF).mono ?_; rintro e v90 ⟨rfl, hb⟩; replace st := st.call hb; replace hF := hF.below hb; have hv90 := hb.size; clear hb)) | (with_reducible refine at_store 29 ?_; (first | refine mem_store' st 29 _ _ rfl (wanted_none rfl) _ Try.sizeOf29 ?_ | (refine mem_store' st 29 _ _ rfl (wanted_some rfl ?_) _ Try.sizeOf29 ?_; focus (simp [yielded, Act.put]; done))); refine ⟨0, _, _, _, _, _, rfl, rfl, rfl, rfl, rfl, rfl, ?_⟩; clear st; intro w90 st hw90m hw90z; simp [Act.eval, Act.put, Value.cells, putL] at st))
        have hc := fun j => st.cell (i := 0) rfl j
        have hk9 : Keeps (fun b => w.heap.size ≤ b ∧ b ≠ g2) v90 w90 := ⟨by omega, fun b hb ho => hw90m b ho.2⟩
        refine bodyPost_ret (v := .tuple #[frameV f la lc ga gc ca cc, .int .i64 0]) ?hr rfl ⟨la, lc, ga, gc, ca, cc, ?_, ?_, st.below⟩
        case hr => simp [results, Try.results19, go_sem, hc, frameV]; try rfl
        · rw [HE.out]
        · rw [HE.out]; exact ⟨⟨(hF.mail.label.keep hk9).okay fun _ h => h.1, (hF.mail.grants.keep hk9).okay fun _ h => h.1⟩, (hF.certs.keep hk9).okay fun _ h => h.1⟩
      · have HE := Lib.hid (show decR s = (zeroF, qq) by rw [HE0.out, if_pos hq])
        have hqb : (qq != 0) = true := by simpa using hq
        clear HE0 hq
        go_wp2_with (first
          | go_skip | (with_reducible refine at_load 4 ?_; (first | refine mem_load' st 4 _ rfl (wanted_none rfl) Try.isAgg4 ?_ | (refine mem_load' st 4 _ rfl (wanted_some rfl ?_) Try.isAgg4 ?_; focus (simp [yielded, Act.put]; done))); refine ⟨1, _, _, _, _, _, rfl, rfl, rfl, ?_⟩) | (with_reducible refine at_load 9 ?_; (first | refine mem_load' st 9 _ rfl (wanted_none rfl) Try.isAgg9 ?_ | (refine mem_load' st 9 _ rfl (wanted_some rfl ?_) Try.isAgg9 ?_; focus (simp [yielded, Act.put]; done))); refine ⟨1, _, _, _, _, _, rfl, rfl, rfl, ?_⟩) | (with_reducible refine at_load 29 ?_; (first | refine mem_load_agg' st 29 _ rfl (wanted_none rfl) Try.isAgg29 _ Try.sizeOf29 ?_ | (refine mem_load_agg' st 29 _ rfl (wanted_some rfl ?_) Try.isAgg29 _ Try.sizeOf29 ?_; focus (simp [yielded, Act.put]; done))); refine ⟨2, _, _, _, _, _, rfl, rfl, rfl, rfl, ?_⟩)
          | (go_at_call 11; go_must (refine (HG.out _ hF).mono ?_; rintro e v90 ⟨rfl, hb⟩; replace st := st.call hb; clear hb)) | (with_reducible refine at_store 29 ?_; (first | refine mem_store' st 29 _ _ rfl (wanted_none rfl) _ Try.sizeOf29 ?_ | (refine mem_store' st 29 _ _ rfl (wanted_some rfl ?_) _ Try.sizeOf29 ?_; focus (simp [yielded, Act.put]; done))); refine ⟨0, _, _, _, _, _, rfl, rfl, rfl, rfl, rfl, rfl, ?_⟩; clear st; intro w90 st hw90m hw90z; simp [Act.eval, Act.put, Value.cells, putL] at st))
        have hc := fun j => st.cell (i := 0) rfl j
        refine bodyPost_ret (v := .tuple #[frameV zeroF none 0 none 0 none 0, .int .i64 qq]) ?hr rfl ⟨none, 0, none, 0, none, 0, ?_, ?_, st.below⟩
        case hr => simp [results, Try.results19, go_sem, hc, frameV]; try rfl
        · rw [HE.out]
        · rw [HE.out]; exact hz.below st.below

end Go.Proofs.Ytemjnojfhbbapaa

/- What the reference decodes, in plain words. -/
namespace Go.Proofs.Ytemjnojfhbbapaa
open Go.RowKit

/-! ### In plain words -/
theorem pHead_eq (k a b : UInt8) (q r : List UInt8) (hq : q.length = 6) : pHead (k :: a :: b :: (q ++ r)) = some (((k.toNat : Int), (a.toNat : Int), (b.toNat : Int), numOf q), r) := by
  unfold pHead
  rw [pNum1_cons]
  simp only [Option.bind_some]
  rw [pNum1_cons]
  simp only [Option.bind_some]
  rw [pNum1_cons]
  simp only [Option.bind_some]
  have e : pNum 6 (q ++ r) = some (numOf q, r) := by
    unfold pNum
    rw [if_neg (by simp; omega), List.take_append_of_le_length (by omega), List.take_of_length_le (by omega), List.drop_append_of_le_length (by omega), List.drop_of_length_le (by omega)]
    rfl
  rw [e]
  rfl

theorem pHead_short {s : List UInt8} (h : s.length < 9) : pHead s = none := by
  match s, h with
  | [], _ => rfl
  | [_], _ => rfl
  | [_, _], _ => rfl
  | k :: a :: b :: t, h =>
    unfold pHead
    rw [pNum1_cons]
    simp only [Option.bind_some]
    rw [pNum1_cons]
    simp only [Option.bind_some]
    rw [pNum1_cons]
    simp only [Option.bind_some]
    have e : pNum 6 t = none := by
      unfold pNum
      rw [if_pos (by simp at h; omega)]
    rw [e]
    rfl

def fin (hd : Int × Int × Int × Int) : Option (Body × List UInt8) → Frame × Int
  | some (b, []) => if goodFrameC (mailFrame hd false b) = 0 then (mailFrame hd false b, 0) else (zeroF, goodFrameC (mailFrame hd false b))
  | _ => (zeroF, 1)

theorem dec_short {s : List UInt8} (h : s.length < 9) : decR s = (zeroF, 1) := decR_none (by unfold pFrame; rw [pHead_short h]; rfl)

theorem dec_kind {s r : List UInt8} {hd : Int × Int × Int × Int} (h : pHead s = some (hd, r)) (hk : 1 < hd.1) : decR s = (zeroF, 1) := decR_none (by
  unfold pFrame
  rw [h]
  simp only [Option.bind_some]
  rw [if_neg (by omega), if_neg (by omega)])

theorem dec_mail {s r : List UInt8} {hd : Int × Int × Int × Int} (h : pHead s = some (hd, r)) (hk : hd.1 = 0) : decR s = fin hd (refBody r) := by
  have e : pFrame s = (refBody r).bind fun b => some (mailFrame hd false b.1, b.2) := by
    unfold pFrame
    rw [h, refBody_eq]
    simp only [Option.bind_some]
    rw [if_pos hk]
  cases hb : refBody r with
  | none => rw [hb] at e; exact decR_none e
  | some p =>
    obtain ⟨b, t⟩ := p
    rw [hb] at e
    simp only [Option.bind_some] at e
    cases t with
    | nil => rw [decR_some e]; rfl
    | cons c t => rw [decR_more e]; rfl

theorem dec_ack {s r : List UInt8} {hd : Int × Int × Int × Int} (h : pHead s = some (hd, r)) (hk : hd.1 = 1) : decR s = if r ≠ [] then (zeroF, 1) else if goodFrameC (ackFrame hd true) = 0 then (ackFrame hd true, 0) else (zeroF, goodFrameC (ackFrame hd true)) := by
  have e : pFrame s = some (ackFrame hd true, r) := by
    unfold pFrame
    rw [h]
    simp only [Option.bind_some]
    rw [if_neg (by omega), if_pos hk]
  cases r with
  | nil => rw [decR_some e]; simp
  | cons c t => rw [decR_more e, if_pos (by simp)]

theorem refBody_short {r : List UInt8} (h : r.length < 2) : refBody r = none := by
  match r, h with
  | [], _ => rfl
  | [c], _ =>
    unfold refBody
    rw [pNum1_cons]
    rfl

theorem refBody_go (th mt : UInt8) (r : List UInt8) : refBody (th :: mt :: r) = (pRows 2 r).bind fun l => (pRows 1 l.2).bind fun g => (pRows 1 g.2).bind fun x => (pRows 9 x.2).bind fun c => some (⟨(th.toNat : Int), (mt.toNat : Int), l.1.map dLev, g.1.map dNum, x.1.flatten, c.1.map dCert⟩, c.2) := by
  unfold refBody
  rw [pNum1_cons]
  simp only [Option.bind_some]
  rw [pNum1_cons]
  simp only [Option.bind_some]

theorem flatten_le {z : Nat} : ∀ (xs : List (List UInt8)), (∀ x ∈ xs, x.length = z) → xs.flatten.length = xs.length * z
  | [], _ => by simp
  | x :: xs, h => by
    rw [List.flatten_cons, List.length_append, flatten_le xs (fun y hy => h y (by simp [hy])), h x (by simp), List.length_cons, Nat.succ_mul]
    omega

theorem ba_cons_ne (c : UInt8) (t : List UInt8) : ((ba (c :: t)).toList == ByteArray.toList ⟨#[]⟩) = false := by
  rw [ByteArray.toList_mk, ByteArray.toList_eq]
  rfl

theorem wrap_byte (c : UInt8) : IntKind.i64.wrap (c.toNat : Int) = (c.toNat : Int) := by
  have := c.toNat_lt
  simp [IntKind.wrap, IntKind.bits, IntKind.signed]
  omega

theorem dLev_two (x0 x1 : UInt8) : dLev [x0, x1] = ⟨(x0.toNat : Int), (x1.toNat : Int)⟩ := by simp [dLev, numOf]
theorem dNum_one (x0 : UInt8) : dNum [x0] = (x0.toNat : Int) := by simp [dNum, numOf]
theorem dCert_nine (x0 x1 x2 : UInt8) (t : List UInt8) (h : t.length = 6) : dCert (x0 :: x1 :: x2 :: t) = ⟨(x0.toNat : Int), (x1.toNat : Int), (x2.toNat : Int), numOf t⟩ := by
  have : t.take 6 = t := List.take_of_length_le (by omega)
  simp [dCert, this]
  simp [numOf]

theorem take_map_snoc {α β : Type} (f : α → β) (l : List α) (j : Nat) (h : j < l.length) : (l.take (j + 1)).map f = (l.take j).map f ++ [f l[j]] := by
  rw [List.take_succ_eq_append_getElem h, List.map_append]; rfl

end Go.Proofs.Ytemjnojfhbbapaa

/- The walk through parcloseref.DecodeFrame at an ack. -/
namespace Go.Proofs.Ytemjnojfhbbapaa
open Go.RowKit

set_option maxRecDepth 100000 in
set_option maxHeartbeats 8000000 in
theorem ref_dec_ack (w : World) (s : List UInt8) (k a b : UInt8) (q r : List UInt8) (hl : s.length ≤ 9223372036854775807) (hs : s = k :: a :: b :: (q ++ r)) (hq : q.length = 6) (hk : (k.toNat : Int) = 1) : Calls Try.prog 20 #[.string (ba s)] w (DecPost w s) := by
  have hsz := ba_size s
  have hz : FrameR (fun b => w.heap.size ≤ b) w zeroF none 0 none 0 none 0 := ⟨⟨SlR.nil _ _ _ _, SlR.nil _ _ _ _⟩, SlR.nil _ _ _ _⟩
  have hs9 : 9 ≤ s.length := by rw [hs]; simp; omega
  have d1 : decide ((s.length : Int) < 9) = false := by simp; omega
  have HH := Lib.hid (show pHead s = some (((k.toNat : Int), (a.toNat : Int), (b.toNat : Int), numOf q), r) by rw [hs]; exact pHead_eq k a b q r hq)
  have H0 := Lib.hid (show s[0]? = some k by rw [hs]; rfl)
  have d2 : decide ((1 : Int) < (k.toNat : Int)) = false := by rw [hk]; rfl
  have H1 := Lib.hid (show s[1]? = some a by rw [hs]; rfl)
  have H2 := Lib.hid (show s[2]? = some b by rw [hs]; rfl)
  have HQ := Lib.hid (show (s.take 9).drop 3 = q by rw [hs]; simp only [List.take_succ_cons, List.drop_succ_cons, List.drop_zero]; rw [List.take_append_of_le_length (by omega), List.take_of_length_le (by omega)])
  have HR := Lib.hid (show s.drop 9 = r by rw [hs]; simp only [List.drop_succ_cons]; rw [List.drop_append_of_le_length (by omega), List.drop_of_length_le (by omega)]; rfl)
  have HS9 := Lib.hid hs9
  have hrl : r.length ≤ 9223372036854775807 := by rw [hs] at hl; simp at hl; omega
  have HN := Lib.hid (fun (V : World) => ref_numberOf V q (by omega))
  have hk1 : ((k.toNat : Int) == 1) = true := by rw [hk]; rfl
  have HK := Lib.hid hk
  have hrz := ba_size r
  have wa := wrap_byte a
  have wb := wrap_byte b
  have st := St.start w
  clear hs9 hs hq hk
  go_enter Try.func20, Try.ntmps20
  go_upto_region 1 with (first | go_skip | (with_reducible refine at_alloc 29 ?_; refine mem_alloc st (wanted_none rfl) 29 rfl _ Try.zeroValue29 _ rfl ?_; clear st; intro g2 w2 hg2 st hg2b; clear hg2b; simp [Act.eval, Act.put, Value.cells, putL] at st))
  go_upto_region 4 with (first | go_skip | (with_reducible refine at_alloc 29 ?_; refine mem_alloc st (wanted_none rfl) 29 rfl _ Try.zeroValue29 _ rfl ?_; clear st; intro g4 w4 hg4 st hg4b; clear hg4b; simp [Act.eval, Act.put, Value.cells, putL] at st) | (with_reducible refine at_store 29 ?_; (first | refine mem_store' st 29 _ _ rfl (wanted_none rfl) _ Try.sizeOf29 ?_ | (refine mem_store' st 29 _ _ rfl (wanted_some rfl ?_) _ Try.sizeOf29 ?_; focus (simp [yielded, Act.put]; done))); refine ⟨1, _, _, _, _, _, rfl, rfl, rfl, rfl, rfl, rfl, ?_⟩; clear st; intro w5 st hw5m hw5z; simp [Act.eval, Act.put, Value.cells, putL] at st) | ((with_reducible refine at_index 9 ?_); first | refine wpList_value (wanted_none rfl) (run_byte 9 _ _ rfl Try.underlying9 (i := 0) rfl rfl H0.out) ?_ | refine wpList_value (wanted_some rfl rfl) (run_byte 9 _ _ rfl Try.underlying9 (i := 0) rfl rfl H0.out) ?_))
  clear hw5m hw5z
  go_cut [5] (fun s5 wx => ∃ g5, s5 = .pointer (some ⟨g5, 0, none⟩) ∧ St [] w wx [(g2, 29, zeroC), (g4, 29, zeroC), (g5, 29, [.int .i64 a.toNat, .int .i64 b.toNat, .int .i64 (numOf q), .bool true, .int .i64 0, .int .i64 0, .int .i64 0, .slice none 0 0, .slice none 0 0, .string ⟨#[]⟩, .slice none 0 0])])
  case first =>
    replace st := st.drew
    have hI := st
    refine lex_region (by kernel_rfl) 15 rfl (fun V => St [] w V [(g2, 29, zeroC), (g4, 29, zeroC)]) ?_
    refine lex_take 0 rfl (by decide +kernel) (by first | exact wanted_none rfl | exact wanted_some rfl rfl) hI (fun W hW => by first | (go_simp; done) | (go_simp; rfl)) ?_; simp only [Act.put, List.setIfInBounds_toArray, List.set_cons_succ, List.set_cons_zero]
    refine lex_take 1 rfl (by decide +kernel) (by first | exact wanted_none rfl | exact wanted_some rfl rfl) hI (fun W hW => by exact run_byte 9 _ _ rfl Try.underlying9 (i := 1) rfl rfl H1.out) ?_; simp only [Act.put, List.setIfInBounds_toArray, List.set_cons_succ, List.set_cons_zero]
    refine lex_take 2 rfl (by decide +kernel) (by first | exact wanted_none rfl | exact wanted_some rfl rfl) hI (fun W hW => by first | (go_simp; done) | (go_simp; rfl)) ?_; simp only [Act.put, List.setIfInBounds_toArray, List.set_cons_succ, List.set_cons_zero]
    refine lex_take 3 rfl (by decide +kernel) (by first | exact wanted_none rfl | exact wanted_some rfl rfl) hI (fun W hW => by first | (go_simp; done) | (go_simp; rfl)) ?_; simp only [Act.put, List.setIfInBounds_toArray, List.set_cons_succ, List.set_cons_zero]
    refine lex_take 4 rfl (by decide +kernel) (by first | exact wanted_none rfl | exact wanted_some rfl rfl) hI (fun W hW => by exact run_byte 9 _ _ rfl Try.underlying9 (i := 2) rfl rfl H2.out) ?_; simp only [Act.put, List.setIfInBounds_toArray, List.set_cons_succ, List.set_cons_zero]
    refine lex_take 5 rfl (by decide +kernel) (by first | exact wanted_none rfl | exact wanted_some rfl rfl) hI (fun W hW => by first | (go_simp; done) | (go_simp; rfl)) ?_; simp only [Act.put, List.setIfInBounds_toArray, List.set_cons_succ, List.set_cons_zero]
    refine lex_take 6 rfl (by decide +kernel) (by first | exact wanted_none rfl | exact wanted_some rfl rfl) hI (fun W hW => by first | (go_simp; done) | (go_simp; rfl)) ?_; simp only [Act.put, List.setIfInBounds_toArray, List.set_cons_succ, List.set_cons_zero]
    refine lex_take 7 rfl (by decide +kernel) (by first | exact wanted_none rfl | exact wanted_some rfl rfl) hI (fun W hW => by (refine (run_between 9 _ _ _ rfl Try.underlying9 3 9 rfl rfl rfl (by decide) HS9.out).trans ?_; rw [HQ.out])) ?_; simp only [Act.put, List.setIfInBounds_toArray, List.set_cons_succ, List.set_cons_zero]
    refine lex_take 9 rfl (by decide +kernel) (by first | exact wanted_none rfl | exact wanted_some rfl rfl) hI (fun W hW => by first | (go_simp; done) | (go_simp; rfl)) ?_; simp only [Act.put, List.setIfInBounds_toArray, List.set_cons_succ, List.set_cons_zero]
    refine lex_take 10 rfl (by decide +kernel) (by first | exact wanted_none rfl | exact wanted_some rfl rfl) hI (fun W hW => by exact run_byte 9 _ _ rfl Try.underlying9 (i := 0) rfl rfl H0.out) ?_; simp only [Act.put, List.setIfInBounds_toArray, List.set_cons_succ, List.set_cons_zero]
    refine lex_take 11 rfl (by decide +kernel) (by first | exact wanted_none rfl | exact wanted_some rfl rfl) hI (fun W hW => by first | (go_simp; done) | (go_simp; rfl)) ?_; simp only [Act.put, List.setIfInBounds_toArray, List.set_cons_succ, List.set_cons_zero]
    clear hI
    refine lex_each [8, 13] (by decide +kernel) (by decide) ?_; intro i hi K hK; simp only [List.mem_cons, List.not_mem_nil, or_false] at hi; rcases hi with rfl | rfl <;> refine ⟨_, rfl, (by first | exact wanted_none rfl | exact wanted_some rfl rfl), ?_⟩
    · refine wp_callee (f := 38) (by first | (go_simp; done) | (go_simp; rfl)) ?_
      refine (HN.out _).mono ?_
      rintro e v7 ⟨rfl, hb7⟩
      refine ⟨_, rfl, ?_⟩
      replace st := st.call hb7
      have hI := st
      refine hK _ _ (hI) ?_; clear hK; simp only [Act.put, List.setIfInBounds_toArray, List.set_cons_succ, List.set_cons_zero]
      refine lex_take 12 rfl (by decide +kernel) (by first | exact wanted_none rfl | exact wanted_some rfl rfl) hI (fun W hW => by first | (go_simp; done) | (go_simp; rfl)) ?_; simp only [Act.put, List.setIfInBounds_toArray, List.set_cons_succ, List.set_cons_zero]
      clear hI
      refine lex_only 13 rfl (by decide +kernel) (by first | exact wanted_none rfl | exact wanted_some rfl rfl) fun K hK => ?_
      refine wp_alloc st 29 rfl _ Try.zeroValue29 _ rfl ?_; clear st; intro g5 w8 hg5 st hg5b; simp [Act.eval, Act.put, Value.cells, putL] at st
      refine hK _ _ (st.take 2) ?_; clear hK; simp only [Act.put, List.setIfInBounds_toArray, List.set_cons_succ, List.set_cons_zero]
      refine lex_only 14 rfl (by decide +kernel) (by first | exact wanted_none rfl | exact wanted_some rfl rfl) fun K hK => ?_
      refine wp_store' st 29 _ _ rfl _ Try.sizeOf29 ⟨2, _, _, _, _, _, rfl, rfl, rfl, rfl, rfl, rfl, ?_⟩; clear st; intro w9 st hw9m hw9z; simp [Act.eval, Act.put, Value.cells, putL] at st
      refine hK _ _ (st.take 2) ?_; clear hK; simp only [Act.put, List.setIfInBounds_toArray, List.set_cons_succ, List.set_cons_zero]
      refine lex_done (by decide +kernel) ?_
      go_wp2_with fail
      go_meet
      exact ⟨g5, rfl, st⟩
    · refine wp_alloc st 29 rfl _ Try.zeroValue29 _ rfl ?_; clear st; intro g5 w8 hg5 st hg5b; simp [Act.eval, Act.put, Value.cells, putL] at st
      refine hK _ _ (st.take 2) ?_; clear hK; simp only [Act.put, List.setIfInBounds_toArray, List.set_cons_succ, List.set_cons_zero]
      refine lex_only 8 rfl (by decide +kernel) (by first | exact wanted_none rfl | exact wanted_some rfl rfl) fun K hK => ?_
      refine wp_callee (f := 38) (by first | (go_simp; done) | (go_simp; rfl)) ?_
      refine (HN.out _).mono ?_
      rintro e v7 ⟨rfl, hb7⟩
      refine ⟨_, rfl, ?_⟩
      replace st := st.call hb7
      have hI := st.take 2
      refine hK _ _ (hI) ?_; clear hK; simp only [Act.put, List.setIfInBounds_toArray, List.set_cons_succ, List.set_cons_zero]
      refine lex_take 12 rfl (by decide +kernel) (by first | exact wanted_none rfl | exact wanted_some rfl rfl) hI (fun W hW => by first | (go_simp; done) | (go_simp; rfl)) ?_; simp only [Act.put, List.setIfInBounds_toArray, List.set_cons_succ, List.set_cons_zero]
      clear hI
      refine lex_only 14 rfl (by decide +kernel) (by first | exact wanted_none rfl | exact wanted_some rfl rfl) fun K hK => ?_
      refine wp_store' st 29 _ _ rfl _ Try.sizeOf29 ⟨2, _, _, _, _, _, rfl, rfl, rfl, rfl, rfl, rfl, ?_⟩; clear st; intro w9 st hw9m hw9z; simp [Act.eval, Act.put, Value.cells, putL] at st
      refine hK _ _ (st.take 2) ?_; clear hK; simp only [Act.put, List.setIfInBounds_toArray, List.set_cons_succ, List.set_cons_zero]
      refine lex_done (by decide +kernel) ?_
      go_wp2_with fail
      go_meet
      exact ⟨g5, rfl, st⟩
  case rest =>
    obtain ⟨g5, rfl, st⟩ := hcut
    have HA := Lib.hid (dec_ack HH.out HK.out)
    by_cases hr : r = []
    case neg =>
      have HE := Lib.hid (show decR s = (zeroF, 1) by rw [HA.out, if_pos hr])
      obtain ⟨c, t, rfl⟩ : ∃ c t, r = c :: t := by cases r with
        | nil => exact absurd rfl hr
        | cons c t => exact ⟨c, t, rfl⟩
      have dr := ba_cons_ne c t
      clear hr HA
      go_wp2_with (first | go_skip | ((with_reducible refine at_slice 9 ?_); refine wpList_value (wanted_none rfl) (run_from 9 _ _ rfl Try.underlying9 9 rfl rfl HS9.out) ?_; rw [HR.out]) | (with_reducible refine at_load 4 ?_; (first | refine mem_load' st 4 _ rfl (wanted_none rfl) Try.isAgg4 ?_ | (refine mem_load' st 4 _ rfl (wanted_some rfl ?_) Try.isAgg4 ?_; focus (simp [yielded, Act.put]; done))); refine ⟨2, _, _, _, _, _, rfl, rfl, rfl, ?_⟩) | (with_reducible refine at_load 29 ?_; (first | refine mem_load_agg' st 29 _ rfl (wanted_none rfl) Try.isAgg29 _ Try.sizeOf29 ?_ | (refine mem_load_agg' st 29 _ rfl (wanted_some rfl ?_) Try.isAgg29 _ Try.sizeOf29 ?_; focus (simp [yielded, Act.put]; done))); refine ⟨1, _, _, _, _, _, rfl, rfl, rfl, rfl, ?_⟩) | (with_reducible refine at_store 29 ?_; (first | refine mem_store' st 29 _ _ rfl (wanted_none rfl) _ Try.sizeOf29 ?_ | (refine mem_store' st 29 _ _ rfl (wanted_some rfl ?_) _ Try.sizeOf29 ?_; focus (simp [yielded, Act.put]; done))); refine ⟨0, _, _, _, _, _, rfl, rfl, rfl, rfl, rfl, rfl, ?_⟩; clear st; intro w90 st hw90m hw90z; simp [Act.eval, Act.put, Value.cells, putL] at st))
      have hc := fun j => st.cell (i := 0) rfl j
      refine bodyPost_ret (v := .tuple #[frameV zeroF none 0 none 0 none 0, .int .i64 1]) ?hr rfl ⟨none, 0, none, 0, none, 0, ?_, ?_, st.below⟩
      case hr => simp [results, Try.results20, go_sem, hc, frameV]; try rfl
      · rw [HE.out]
      · rw [HE.out]; exact hz.below st.below
    subst hr
    obtain ⟨f, hfd⟩ : ∃ f, f = ackFrame ((k.toNat : Int), (a.toNat : Int), (b.toNat : Int), numOf q) true := ⟨_, rfl⟩
    have HD := Lib.hid (show decR s = if goodFrameC f = 0 then (f, 0) else (zeroF, goodFrameC f) by rw [HA.out, if_neg (by simp), hfd])
    replace st : St [] w wc [(g2, 29, zeroC), (g4, 29, zeroC), (g5, 29, frameC f none 0 none 0 none 0)] := by rw [hfd]; exact st
    have hF : FrameR (fun b => w.heap.size ≤ b ∧ b ≠ g2) wc f none 0 none 0 none 0 := by rw [hfd]; exact ⟨⟨SlR.nil _ _ _ _, SlR.nil _ _ _ _⟩, SlR.nil _ _ _ _⟩
    have HG := Lib.hid (fun (W : World) (h : FrameR (fun b => w.heap.size ≤ b ∧ b ≠ g2) W f none 0 none 0 none 0) => ref_GoodFrame (fun b => w.heap.size ≤ b ∧ b ≠ g2) W f none 0 none 0 none 0 (by rw [hfd]; exact ⟨by simp [ackFrame], by simp [ackFrame], by simp [ackFrame], by show (0 : Nat) ≤ _; omega⟩) h)
    have hak : f.ack = true := by rw [hfd]; rfl
    clear hfd HA
    unfold frameC at st
    unfold frameV at HG
    rw [hak] at st HG
    have HAK := Lib.hid hak
    clear hak
    generalize goodFrameC f = qq at HD HG
    by_cases hq0 : qq = 0
    · subst hq0
      have HE := Lib.hid (show decR s = (f, 0) by rw [HD.out, if_pos rfl])
      clear HD
      go_wp2_with (first
        | go_skip | ((with_reducible refine at_slice 9 ?_); refine wpList_value (wanted_none rfl) (run_from 9 _ _ rfl Try.underlying9 9 rfl rfl HS9.out) ?_; rw [HR.out]) | (with_reducible refine at_load 4 ?_; (first | refine mem_load' st 4 _ rfl (wanted_none rfl) Try.isAgg4 ?_ | (refine mem_load' st 4 _ rfl (wanted_some rfl ?_) Try.isAgg4 ?_; focus (simp [yielded, Act.put]; done))); refine ⟨2, _, _, _, _, _, rfl, rfl, rfl, ?_⟩) | (with_reducible refine at_load 29 ?_; (first | refine mem_load_agg' st 29 _ rfl (wanted_none rfl) Try.isAgg29 _ Try.sizeOf29 ?_ | (refine mem_load_agg' st 29 _ rfl (wanted_some rfl ?_) Try.isAgg29 _ Try.sizeOf29 ?_; focus (simp [yielded, Act.put]; done))); refine ⟨2, _, _, _, _, _, rfl, rfl, rfl, rfl, ?_⟩)
        | (go_at_call 12; go_must (refine (HG.out _ hF).mono ?_; rintro e v90 ⟨rfl, hb⟩; replace st := st.call hb; replace hF := hF.below hb; have hv90 := hb.size; clear hb)) | (with_reducible refine at_store 29 ?_; (first | refine mem_store' st 29 _ _ rfl (wanted_none rfl) _ Try.sizeOf29 ?_ | (refine mem_store' st 29 _ _ rfl (wanted_some rfl ?_) _ Try.sizeOf29 ?_; focus (simp [yielded, Act.put]; done))); refine ⟨0, _, _, _, _, _, rfl, rfl, rfl, rfl, rfl, rfl, ?_⟩; clear st; intro w90 st hw90m hw90z; simp [Act.eval, Act.put, Value.cells, putL] at st))
      have hc := fun j => st.cell (i := 0) rfl j
      have hk9 : Keeps (fun b => w.heap.size ≤ b ∧ b ≠ g2) v90 w90 := ⟨by omega, fun b hb ho => hw90m b ho.2⟩
      refine bodyPost_ret (v := .tuple #[frameV f none 0 none 0 none 0, .int .i64 0]) ?hr rfl ⟨none, 0, none, 0, none, 0, ?_, ?_, st.below⟩
      case hr => simp [results, Try.results20, go_sem, hc, frameV, HAK.out]; try rfl
      · rw [HE.out]
      · rw [HE.out]; exact ⟨⟨(hF.mail.label.keep hk9).okay fun _ h => h.1, (hF.mail.grants.keep hk9).okay fun _ h => h.1⟩, (hF.certs.keep hk9).okay fun _ h => h.1⟩
    · have HE := Lib.hid (show decR s = (zeroF, qq) by rw [HD.out, if_neg hq0])
      have hqb : (qq != 0) = true := by simpa using hq0
      clear HD hq0
      go_wp2_with (first
        | go_skip | ((with_reducible refine at_slice 9 ?_); refine wpList_value (wanted_none rfl) (run_from 9 _ _ rfl Try.underlying9 9 rfl rfl HS9.out) ?_; rw [HR.out]) | (with_reducible refine at_load 4 ?_; (first | refine mem_load' st 4 _ rfl (wanted_none rfl) Try.isAgg4 ?_ | (refine mem_load' st 4 _ rfl (wanted_some rfl ?_) Try.isAgg4 ?_; focus (simp [yielded, Act.put]; done))); refine ⟨2, _, _, _, _, _, rfl, rfl, rfl, ?_⟩) | (with_reducible refine at_load 29 ?_; (first | refine mem_load_agg' st 29 _ rfl (wanted_none rfl) Try.isAgg29 _ Try.sizeOf29 ?_ | (refine mem_load_agg' st 29 _ rfl (wanted_some rfl ?_) Try.isAgg29 _ Try.sizeOf29 ?_; focus (simp [yielded, Act.put]; done))); refine ⟨2, _, _, _, _, _, rfl, rfl, rfl, rfl, ?_⟩) | (with_reducible refine at_load 29 ?_; (first | refine mem_load_agg' st 29 _ rfl (wanted_none rfl) Try.isAgg29 _ Try.sizeOf29 ?_ | (refine mem_load_agg' st 29 _ rfl (wanted_some rfl ?_) Try.isAgg29 _ Try.sizeOf29 ?_; focus (simp [yielded, Act.put]; done))); refine ⟨1, _, _, _, _, _, rfl, rfl, rfl, rfl, ?_⟩)
        | (go_at_call 12; go_must (refine (HG.out _ hF).mono ?_; rintro e v90 ⟨rfl, hb⟩; replace st := st.call hb; clear hb)) | (with_reducible refine at_store 29 ?_; (first | refine mem_store' st 29 _ _ rfl (wanted_none rfl) _ Try.sizeOf29 ?_ | (refine mem_store' st 29 _ _ rfl (wanted_some rfl ?_) _ Try.sizeOf29 ?_; focus (simp [yielded, Act.put]; done))); refine ⟨0, _, _, _, _, _, rfl, rfl, rfl, rfl, rfl, rfl, ?_⟩; clear st; intro w90 st hw90m hw90z; simp [Act.eval, Act.put, Value.cells, putL] at st))
      have hc := fun j => st.cell (i := 0) rfl j
      refine bodyPost_ret (v := .tuple #[frameV zeroF none 0 none 0 none 0, .int .i64 qq]) ?hr rfl ⟨none, 0, none, 0, none, 0, ?_, ?_, st.below⟩
      case hr => simp [results, Try.results20, go_sem, hc, frameV]; try rfl
      · rw [HE.out]
      · rw [HE.out]; exact hz.below st.below

end Go.Proofs.Ytemjnojfhbbapaa

/- The walk through parcloseref.DecodeFrame at mail. -/
namespace Go.Proofs.Ytemjnojfhbbapaa
open Go.RowKit

set_option maxRecDepth 100000 in
set_option maxHeartbeats 8000000 in
theorem ref_dec_mail (w : World) (s : List UInt8) (k a b : UInt8) (q r : List UInt8) (hl : s.length ≤ 9223372036854775807) (hs : s = k :: a :: b :: (q ++ r)) (hq : q.length = 6) (hk : (k.toNat : Int) = 0) : Calls Try.prog 20 #[.string (ba s)] w (DecPost w s) := by
  have hsz := ba_size s
  have hz : FrameR (fun b => w.heap.size ≤ b) w zeroF none 0 none 0 none 0 := ⟨⟨SlR.nil _ _ _ _, SlR.nil _ _ _ _⟩, SlR.nil _ _ _ _⟩
  have hs9 : 9 ≤ s.length := by rw [hs]; simp; omega
  have d1 : decide ((s.length : Int) < 9) = false := by simp; omega
  have HH := Lib.hid (show pHead s = some (((k.toNat : Int), (a.toNat : Int), (b.toNat : Int), numOf q), r) by rw [hs]; exact pHead_eq k a b q r hq)
  have H0 := Lib.hid (show s[0]? = some k by rw [hs]; rfl)
  have d2 : decide ((1 : Int) < (k.toNat : Int)) = false := by rw [hk]; rfl
  have H1 := Lib.hid (show s[1]? = some a by rw [hs]; rfl)
  have H2 := Lib.hid (show s[2]? = some b by rw [hs]; rfl)
  have HQ := Lib.hid (show (s.take 9).drop 3 = q by rw [hs]; simp only [List.take_succ_cons, List.drop_succ_cons, List.drop_zero]; rw [List.take_append_of_le_length (by omega), List.take_of_length_le (by omega)])
  have HR := Lib.hid (show s.drop 9 = r by rw [hs]; simp only [List.drop_succ_cons]; rw [List.drop_append_of_le_length (by omega), List.drop_of_length_le (by omega)]; rfl)
  have HS9 := Lib.hid hs9
  have hrl : r.length ≤ 9223372036854775807 := by rw [hs] at hl; simp at hl; omega
  have HN := Lib.hid (fun (V : World) => ref_numberOf V q (by omega))
  have hk1 : ((k.toNat : Int) == 1) = false := by rw [hk]; rfl
  have HK := Lib.hid hk
  have hrz := ba_size r
  have wa := wrap_byte a
  have wb := wrap_byte b
  have st := St.start w
  clear hs9 hs hq hk
  go_enter Try.func20, Try.ntmps20
  go_upto_region 1 with (first | go_skip | (with_reducible refine at_alloc 29 ?_; refine mem_alloc st (wanted_none rfl) 29 rfl _ Try.zeroValue29 _ rfl ?_; clear st; intro g2 w2 hg2 st hg2b; clear hg2b; simp [Act.eval, Act.put, Value.cells, putL] at st))
  go_upto_region 4 with (first | go_skip | (with_reducible refine at_alloc 29 ?_; refine mem_alloc st (wanted_none rfl) 29 rfl _ Try.zeroValue29 _ rfl ?_; clear st; intro g4 w4 hg4 st hg4b; clear hg4b; simp [Act.eval, Act.put, Value.cells, putL] at st) | (with_reducible refine at_store 29 ?_; (first | refine mem_store' st 29 _ _ rfl (wanted_none rfl) _ Try.sizeOf29 ?_ | (refine mem_store' st 29 _ _ rfl (wanted_some rfl ?_) _ Try.sizeOf29 ?_; focus (simp [yielded, Act.put]; done))); refine ⟨1, _, _, _, _, _, rfl, rfl, rfl, rfl, rfl, rfl, ?_⟩; clear st; intro w5 st hw5m hw5z; simp [Act.eval, Act.put, Value.cells, putL] at st) | ((with_reducible refine at_index 9 ?_); first | refine wpList_value (wanted_none rfl) (run_byte 9 _ _ rfl Try.underlying9 (i := 0) rfl rfl H0.out) ?_ | refine wpList_value (wanted_some rfl rfl) (run_byte 9 _ _ rfl Try.underlying9 (i := 0) rfl rfl H0.out) ?_))
  clear hw5m hw5z
  go_cut [5] (fun s5 wx => ∃ g5, s5 = .pointer (some ⟨g5, 0, none⟩) ∧ St [] w wx [(g2, 29, zeroC), (g4, 29, zeroC), (g5, 29, [.int .i64 a.toNat, .int .i64 b.toNat, .int .i64 (numOf q), .bool false, .int .i64 0, .int .i64 0, .int .i64 0, .slice none 0 0, .slice none 0 0, .string ⟨#[]⟩, .slice none 0 0])])
  case first =>
    replace st := st.drew
    have hI := st
    refine lex_region (by kernel_rfl) 15 rfl (fun V => St [] w V [(g2, 29, zeroC), (g4, 29, zeroC)]) ?_
    refine lex_take 0 rfl (by decide +kernel) (by first | exact wanted_none rfl | exact wanted_some rfl rfl) hI (fun W hW => by first | (go_simp; done) | (go_simp; rfl)) ?_; simp only [Act.put, List.setIfInBounds_toArray, List.set_cons_succ, List.set_cons_zero]
    refine lex_take 1 rfl (by decide +kernel) (by first | exact wanted_none rfl | exact wanted_some rfl rfl) hI (fun W hW => by exact run_byte 9 _ _ rfl Try.underlying9 (i := 1) rfl rfl H1.out) ?_; simp only [Act.put, List.setIfInBounds_toArray, List.set_cons_succ, List.set_cons_zero]
    refine lex_take 2 rfl (by decide +kernel) (by first | exact wanted_none rfl | exact wanted_some rfl rfl) hI (fun W hW => by first | (go_simp; done) | (go_simp; rfl)) ?_; simp only [Act.put, List.setIfInBounds_toArray, List.set_cons_succ, List.set_cons_zero]
    refine lex_take 3 rfl (by decide +kernel) (by first | exact wanted_none rfl | exact wanted_some rfl rfl) hI (fun W hW => by first | (go_simp; done) | (go_simp; rfl)) ?_; simp only [Act.put, List.setIfInBounds_toArray, List.set_cons_succ, List.set_cons_zero]
    refine lex_take 4 rfl (by decide +kernel) (by first | exact wanted_none rfl | exact wanted_some rfl rfl) hI (fun W hW => by exact run_byte 9 _ _ rfl Try.underlying9 (i := 2) rfl rfl H2.out) ?_; simp only [Act.put, List.setIfInBounds_toArray, List.set_cons_succ, List.set_cons_zero]
    refine lex_take 5 rfl (by decide +kernel) (by first | exact wanted_none rfl | exact wanted_some rfl rfl) hI (fun W hW => by first | (go_simp; done) | (go_simp; rfl)) ?_; simp only [Act.put, List.setIfInBounds_toArray, List.set_cons_succ, List.set_cons_zero]
    refine lex_take 6 rfl (by decide +kernel) (by first | exact wanted_none rfl | exact wanted_some rfl rfl) hI (fun W hW => by first | (go_simp; done) | (go_simp; rfl)) ?_; simp only [Act.put, List.setIfInBounds_toArray, List.set_cons_succ, List.set_cons_zero]
    refine lex_take 7 rfl (by decide +kernel) (by first | exact wanted_none rfl | exact wanted_some rfl rfl) hI (fun W hW => by (refine (run_between 9 _ _ _ rfl Try.underlying9 3 9 rfl rfl rfl (by decide) HS9.out).trans ?_; rw [HQ.out])) ?_; simp only [Act.put, List.setIfInBounds_toArray, List.set_cons_succ, List.set_cons_zero]
    refine lex_take 9 rfl (by decide +kernel) (by first | exact wanted_none rfl | exact wanted_some rfl rfl) hI (fun W hW => by first | (go_simp; done) | (go_simp; rfl)) ?_; simp only [Act.put, List.setIfInBounds_toArray, List.set_cons_succ, List.set_cons_zero]
    refine lex_take 10 rfl (by decide +kernel) (by first | exact wanted_none rfl | exact wanted_some rfl rfl) hI (fun W hW => by exact run_byte 9 _ _ rfl Try.underlying9 (i := 0) rfl rfl H0.out) ?_; simp only [Act.put, List.setIfInBounds_toArray, List.set_cons_succ, List.set_cons_zero]
    refine lex_take 11 rfl (by decide +kernel) (by first | exact wanted_none rfl | exact wanted_some rfl rfl) hI (fun W hW => by first | (go_simp; done) | (go_simp; rfl)) ?_; simp only [Act.put, List.setIfInBounds_toArray, List.set_cons_succ, List.set_cons_zero]
    clear hI
    refine lex_each [8, 13] (by decide +kernel) (by decide) ?_; intro i hi K hK; simp only [List.mem_cons, List.not_mem_nil, or_false] at hi; rcases hi with rfl | rfl <;> refine ⟨_, rfl, (by first | exact wanted_none rfl | exact wanted_some rfl rfl), ?_⟩
    · refine wp_callee (f := 38) (by first | (go_simp; done) | (go_simp; rfl)) ?_
      refine (HN.out _).mono ?_
      rintro e v7 ⟨rfl, hb7⟩
      refine ⟨_, rfl, ?_⟩
      replace st := st.call hb7
      have hI := st
      refine hK _ _ (hI) ?_; clear hK; simp only [Act.put, List.setIfInBounds_toArray, List.set_cons_succ, List.set_cons_zero]
      refine lex_take 12 rfl (by decide +kernel) (by first | exact wanted_none rfl | exact wanted_some rfl rfl) hI (fun W hW => by first | (go_simp; done) | (go_simp; rfl)) ?_; simp only [Act.put, List.setIfInBounds_toArray, List.set_cons_succ, List.set_cons_zero]
      clear hI
      refine lex_only 13 rfl (by decide +kernel) (by first | exact wanted_none rfl | exact wanted_some rfl rfl) fun K hK => ?_
      refine wp_alloc st 29 rfl _ Try.zeroValue29 _ rfl ?_; clear st; intro g5 w8 hg5 st hg5b; simp [Act.eval, Act.put, Value.cells, putL] at st
      refine hK _ _ (st.take 2) ?_; clear hK; simp only [Act.put, List.setIfInBounds_toArray, List.set_cons_succ, List.set_cons_zero]
      refine lex_only 14 rfl (by decide +kernel) (by first | exact wanted_none rfl | exact wanted_some rfl rfl) fun K hK => ?_
      refine wp_store' st 29 _ _ rfl _ Try.sizeOf29 ⟨2, _, _, _, _, _, rfl, rfl, rfl, rfl, rfl, rfl, ?_⟩; clear st; intro w9 st hw9m hw9z; simp [Act.eval, Act.put, Value.cells, putL] at st
      refine hK _ _ (st.take 2) ?_; clear hK; simp only [Act.put, List.setIfInBounds_toArray, List.set_cons_succ, List.set_cons_zero]
      refine lex_done (by decide +kernel) ?_
      go_wp2_with fail
      go_meet
      exact ⟨g5, rfl, st⟩
    · refine wp_alloc st 29 rfl _ Try.zeroValue29 _ rfl ?_; clear st; intro g5 w8 hg5 st hg5b; simp [Act.eval, Act.put, Value.cells, putL] at st
      refine hK _ _ (st.take 2) ?_; clear hK; simp only [Act.put, List.setIfInBounds_toArray, List.set_cons_succ, List.set_cons_zero]
      refine lex_only 8 rfl (by decide +kernel) (by first | exact wanted_none rfl | exact wanted_some rfl rfl) fun K hK => ?_
      refine wp_callee (f := 38) (by first | (go_simp; done) | (go_simp; rfl)) ?_
      refine (HN.out _).mono ?_
      rintro e v7 ⟨rfl, hb7⟩
      refine ⟨_, rfl, ?_⟩
      replace st := st.call hb7
      have hI := st.take 2
      refine hK _ _ (hI) ?_; clear hK; simp only [Act.put, List.setIfInBounds_toArray, List.set_cons_succ, List.set_cons_zero]
      refine lex_take 12 rfl (by decide +kernel) (by first | exact wanted_none rfl | exact wanted_some rfl rfl) hI (fun W hW => by first | (go_simp; done) | (go_simp; rfl)) ?_; simp only [Act.put, List.setIfInBounds_toArray, List.set_cons_succ, List.set_cons_zero]
      clear hI
      refine lex_only 14 rfl (by decide +kernel) (by first | exact wanted_none rfl | exact wanted_some rfl rfl) fun K hK => ?_
      refine wp_store' st 29 _ _ rfl _ Try.sizeOf29 ⟨2, _, _, _, _, _, rfl, rfl, rfl, rfl, rfl, rfl, ?_⟩; clear st; intro w9 st hw9m hw9z; simp [Act.eval, Act.put, Value.cells, putL] at st
      refine hK _ _ (st.take 2) ?_; clear hK; simp only [Act.put, List.setIfInBounds_toArray, List.set_cons_succ, List.set_cons_zero]
      refine lex_done (by decide +kernel) ?_
      go_wp2_with fail
      go_meet
      exact ⟨g5, rfl, st⟩
  case rest =>
    obtain ⟨g5, rfl, st⟩ := hcut
    have HA := Lib.hid (dec_mail HH.out HK.out)
    by_cases hr2 : r.length < 2
    case pos =>
      have HE := Lib.hid (show decR s = (zeroF, 1) by rw [HA.out, refBody_short hr2]; rfl)
      have d3 : decide ((r.length : Int) < 2) = true := by simp; omega
      clear hr2 HA
      go_wp2_with (first | go_skip | ((with_reducible refine at_slice 9 ?_); refine wpList_value (wanted_none rfl) (run_from 9 _ _ rfl Try.underlying9 9 rfl rfl HS9.out) ?_; rw [HR.out]) | (with_reducible refine at_load 4 ?_; (first | refine mem_load' st 4 _ rfl (wanted_none rfl) Try.isAgg4 ?_ | (refine mem_load' st 4 _ rfl (wanted_some rfl ?_) Try.isAgg4 ?_; focus (simp [yielded, Act.put]; done))); refine ⟨2, _, _, _, _, _, rfl, rfl, rfl, ?_⟩) | (with_reducible refine at_load 29 ?_; (first | refine mem_load_agg' st 29 _ rfl (wanted_none rfl) Try.isAgg29 _ Try.sizeOf29 ?_ | (refine mem_load_agg' st 29 _ rfl (wanted_some rfl ?_) Try.isAgg29 _ Try.sizeOf29 ?_; focus (simp [yielded, Act.put]; done))); refine ⟨1, _, _, _, _, _, rfl, rfl, rfl, rfl, ?_⟩) | (with_reducible refine at_store 29 ?_; (first | refine mem_store' st 29 _ _ rfl (wanted_none rfl) _ Try.sizeOf29 ?_ | (refine mem_store' st 29 _ _ rfl (wanted_some rfl ?_) _ Try.sizeOf29 ?_; focus (simp [yielded, Act.put]; done))); refine ⟨0, _, _, _, _, _, rfl, rfl, rfl, rfl, rfl, rfl, ?_⟩; clear st; intro w90 st hw90m hw90z; simp [Act.eval, Act.put, Value.cells, putL] at st))
      have hc := fun j => st.cell (i := 0) rfl j
      refine bodyPost_ret (v := .tuple #[frameV zeroF none 0 none 0 none 0, .int .i64 1]) ?hr rfl ⟨none, 0, none, 0, none, 0, ?_, ?_, st.below⟩
      case hr => simp [results, Try.results20, go_sem, hc, frameV]; try rfl
      · rw [HE.out]
      · rw [HE.out]; exact hz.below st.below
    have d3 : decide ((r.length : Int) < 2) = false := by simp; omega
    obtain ⟨th, mt, r2, hr⟩ : ∃ th mt r2, r = th :: mt :: r2 := by
      match r, hr2 with
      | [], h => simp at h
      | [_], h => simp at h
      | th :: mt :: t, _ => exact ⟨th, mt, t, rfl⟩
    have R0 := Lib.hid (show r[0]? = some th by rw [hr]; rfl)
    have R1 := Lib.hid (show r[1]? = some mt by rw [hr]; rfl)
    have R2 := Lib.hid (show r.drop 2 = r2 by rw [hr]; rfl)
    have R3 := Lib.hid (show 2 ≤ r.length by omega)
    have hr2l : r2.length ≤ 9223372036854775807 := by rw [hr] at hrl; simp at hrl; omega
    have HB0 := Lib.hid (show decR s = fin ((k.toNat : Int), (a.toNat : Int), (b.toNat : Int), numOf q) ((pRows 2 r2).bind fun l => (pRows 1 l.2).bind fun g => (pRows 1 g.2).bind fun x => (pRows 9 x.2).bind fun c => some (⟨(th.toNat : Int), (mt.toNat : Int), l.1.map dLev, g.1.map dNum, x.1.flatten, c.1.map dCert⟩, c.2)) by rw [HA.out, hr, refBody_go])
    have wth := wrap_byte th
    have wmt := wrap_byte mt
    obtain ⟨⟨xs1, r3, o1⟩, E1⟩ : ∃ p, rowsB 2 r2 = p := ⟨_, rfl⟩
    obtain ⟨n1, l1, m1⟩ := rowsB_facts E1
    have HW1 := Lib.hid (fun (V : World) => ref_rows V r2 2 (by decide) (by decide) hr2l)
    unfold RowsPost at HW1
    rw [E1] at HW1
    simp only at HW1
    have HE1 := Lib.hid E1
    clear HA hr E1 hr2
    go_upto_region 9 with (first | go_skip | ((with_reducible refine at_slice 9 ?_); refine wpList_value (wanted_none rfl) (run_from 9 _ _ rfl Try.underlying9 9 rfl rfl HS9.out) ?_; rw [HR.out]) | (with_reducible refine at_load 4 ?_; (first | refine mem_load' st 4 _ rfl (wanted_none rfl) Try.isAgg4 ?_ | (refine mem_load' st 4 _ rfl (wanted_some rfl ?_) Try.isAgg4 ?_; focus (simp [yielded, Act.put]; done))); refine ⟨2, _, _, _, _, _, rfl, rfl, rfl, ?_⟩))
    replace st := st.drew
    have hI : (World.drew _).cell? ⟨g5, 0, none⟩ = some (.int .i64 a.toNat) := st.cell (i := 2) rfl 0
    refine lex_region (by kernel_rfl) 16 rfl (fun V => V.cell? ⟨g5, 0, none⟩ = some (.int .i64 a.toNat)) ?_
    refine lex_take 0 rfl (by decide +kernel) (by first | exact wanted_none rfl | exact wanted_some rfl rfl) hI (fun W hW => by first | (go_simp; done) | (go_simp; rfl)) ?_; simp only [Act.put, List.setIfInBounds_toArray, List.set_cons_succ, List.set_cons_zero]
    refine lex_take 1 rfl (by decide +kernel) (by first | exact wanted_none rfl | exact wanted_some rfl rfl) hI (fun W hW => by exact run_byte 9 _ _ rfl Try.underlying9 (i := 0) rfl rfl R0.out) ?_; simp only [Act.put, List.setIfInBounds_toArray, List.set_cons_succ, List.set_cons_zero]
    refine lex_take 2 rfl (by decide +kernel) (by first | exact wanted_none rfl | exact wanted_some rfl rfl) hI (fun W hW => by first | (go_simp; done) | (go_simp; rfl)) ?_; simp only [Act.put, List.setIfInBounds_toArray, List.set_cons_succ, List.set_cons_zero]
    refine lex_take 3 rfl (by decide +kernel) (by first | exact wanted_none rfl | exact wanted_some rfl rfl) hI (fun W hW => by first | (go_simp; done) | (go_simp; rfl)) ?_; simp only [Act.put, List.setIfInBounds_toArray, List.set_cons_succ, List.set_cons_zero]
    refine lex_take 4 rfl (by decide +kernel) (by first | exact wanted_none rfl | exact wanted_some rfl rfl) hI (fun W hW => run_cell_one 3 _ rfl Try.isAgg3 g5 0 rfl _ hW) ?_; simp only [Act.put, List.setIfInBounds_toArray, List.set_cons_succ, List.set_cons_zero]
    refine lex_take 5 rfl (by decide +kernel) (by first | exact wanted_none rfl | exact wanted_some rfl rfl) hI (fun W hW => by first | (go_simp; done) | (go_simp; rfl)) ?_; simp only [Act.put, List.setIfInBounds_toArray, List.set_cons_succ, List.set_cons_zero]
    refine lex_take 6 rfl (by decide +kernel) (by first | exact wanted_none rfl | exact wanted_some rfl rfl) hI (fun W hW => by exact run_byte 9 _ _ rfl Try.underlying9 (i := 1) rfl rfl R1.out) ?_; simp only [Act.put, List.setIfInBounds_toArray, List.set_cons_succ, List.set_cons_zero]
    refine lex_take 7 rfl (by decide +kernel) (by first | exact wanted_none rfl | exact wanted_some rfl rfl) hI (fun W hW => by first | (go_simp; done) | (go_simp; rfl)) ?_; simp only [Act.put, List.setIfInBounds_toArray, List.set_cons_succ, List.set_cons_zero]
    refine lex_take 8 rfl (by decide +kernel) (by first | exact wanted_none rfl | exact wanted_some rfl rfl) hI (fun W hW => by first | (go_simp; done) | (go_simp; rfl)) ?_; simp only [Act.put, List.setIfInBounds_toArray, List.set_cons_succ, List.set_cons_zero]
    clear hI
    refine lex_only 9 rfl (by decide +kernel) (by first | exact wanted_none rfl | exact wanted_some rfl rfl) fun K hK => ?_
    refine wp_store' st 3 _ _ rfl _ Try.sizeOf3 ⟨2, _, _, _, _, _, rfl, rfl, rfl, rfl, rfl, rfl, ?_⟩; clear st; intro w10 st hw10m hw10z; simp [Act.eval, Act.put, Value.cells, putL] at st
    clear hw10m hw10z
    have hI := st.cell (i := 2) rfl 0
    refine hK _ _ (hI) ?_; clear hK; simp only [Act.put, List.setIfInBounds_toArray, List.set_cons_succ, List.set_cons_zero]
    refine lex_take 10 rfl (by decide +kernel) (by first | exact wanted_none rfl | exact wanted_some rfl rfl) hI (fun W hW => by first | (go_simp; done) | (go_simp; rfl)) ?_; simp only [Act.put, List.setIfInBounds_toArray, List.set_cons_succ, List.set_cons_zero]
    refine lex_take 11 rfl (by decide +kernel) (by first | exact wanted_none rfl | exact wanted_some rfl rfl) hI (fun W hW => by first | (go_simp; done) | (go_simp; rfl)) ?_; simp only [Act.put, List.setIfInBounds_toArray, List.set_cons_succ, List.set_cons_zero]
    clear hI
    refine lex_only 12 rfl (by decide +kernel) (by first | exact wanted_none rfl | exact wanted_some rfl rfl) fun K hK => ?_
    refine wp_store' st 3 _ _ rfl _ Try.sizeOf3 ⟨2, _, _, _, _, _, rfl, rfl, rfl, rfl, rfl, rfl, ?_⟩; clear st; intro w11 st hw11m hw11z; simp [Act.eval, Act.put, Value.cells, putL] at st
    clear hw11m hw11z
    have hI := st.cell (i := 2) rfl 0
    refine hK _ _ (hI) ?_; clear hK; simp only [Act.put, List.setIfInBounds_toArray, List.set_cons_succ, List.set_cons_zero]
    refine lex_take 13 rfl (by decide +kernel) (by first | exact wanted_none rfl | exact wanted_some rfl rfl) hI (fun W hW => by first | (go_simp; done) | (go_simp; rfl)) ?_; simp only [Act.put, List.setIfInBounds_toArray, List.set_cons_succ, List.set_cons_zero]
    refine lex_take 14 rfl (by decide +kernel) (by first | exact wanted_none rfl | exact wanted_some rfl rfl) hI (fun W hW => by first | (go_simp; done) | (go_simp; rfl)) ?_; simp only [Act.put, List.setIfInBounds_toArray, List.set_cons_succ, List.set_cons_zero]
    clear hI
    refine lex_only 15 rfl (by decide +kernel) (by first | exact wanted_none rfl | exact wanted_some rfl rfl) fun K hK => ?_
    refine wp_store' st 3 _ _ rfl _ Try.sizeOf3 ⟨2, _, _, _, _, _, rfl, rfl, rfl, rfl, rfl, rfl, ?_⟩; clear st; intro w12 st hw12m hw12z; simp [Act.eval, Act.put, Value.cells, putL] at st
    clear hw12m hw12z
    refine hK _ _ (st.cell (i := 2) rfl 0) ?_; clear hK; simp only [Act.put, List.setIfInBounds_toArray, List.set_cons_succ, List.set_cons_zero]
    refine lex_done (by decide +kernel) ?_
    cases o1 with
    | false =>
      have HE := Lib.hid (show decR s = (zeroF, 1) by rw [HB0.out, rowsB_none HE1.out]; rfl)
      go_wp2_with (first
        | go_skip | ((with_reducible refine at_slice 9 ?_); refine wpList_value (wanted_none rfl) (run_from 9 _ _ rfl Try.underlying9 2 rfl rfl R3.out) ?_; rw [R2.out])
        | (go_at_call 39; go_must (refine (HW1.out _).mono ?_; rintro e y1 ⟨ra1, rc1, rfl, hby, hO1⟩; replace st := st.call hby; clear hby)) | (with_reducible refine at_load 29 ?_; (first | refine mem_load_agg' st 29 _ rfl (wanted_none rfl) Try.isAgg29 _ Try.sizeOf29 ?_ | (refine mem_load_agg' st 29 _ rfl (wanted_some rfl ?_) Try.isAgg29 _ Try.sizeOf29 ?_; focus (simp [yielded, Act.put]; done))); refine ⟨1, _, _, _, _, _, rfl, rfl, rfl, rfl, ?_⟩) | (with_reducible refine at_store 29 ?_; (first | refine mem_store' st 29 _ _ rfl (wanted_none rfl) _ Try.sizeOf29 ?_ | (refine mem_store' st 29 _ _ rfl (wanted_some rfl ?_) _ Try.sizeOf29 ?_; focus (simp [yielded, Act.put]; done))); refine ⟨0, _, _, _, _, _, rfl, rfl, rfl, rfl, rfl, rfl, ?_⟩; clear st; intro w90 st hw90m hw90z; simp [Act.eval, Act.put, Value.cells, putL] at st))
      have hc := fun j => st.cell (i := 0) rfl j
      refine bodyPost_ret (v := .tuple #[frameV zeroF none 0 none 0 none 0, .int .i64 1]) ?hr rfl ⟨none, 0, none, 0, none, 0, ?_, ?_, st.below⟩
      case hr => simp [results, Try.results20, go_sem, hc, frameV]; try rfl
      · rw [HE.out]
      · rw [HE.out]; exact hz.below st.below
    | true => ?_
    have HB1 := Lib.hid (show decR s = fin ((k.toNat : Int), (a.toNat : Int), (b.toNat : Int), numOf q) ((pRows 1 r3).bind fun g => (pRows 1 g.2).bind fun x => (pRows 9 x.2).bind fun c => some (⟨(th.toNat : Int), (mt.toNat : Int), xs1.map dLev, g.1.map dNum, x.1.flatten, c.1.map dCert⟩, c.2)) by rw [HB0.out, rowsB_some HE1.out]; rfl)
    clear HB0 HE1
    go_wp2_with (first
      | go_skip | ((with_reducible refine at_slice 9 ?_); refine wpList_value (wanted_none rfl) (run_from 9 _ _ rfl Try.underlying9 2 rfl rfl R3.out) ?_; rw [R2.out])
      | (go_at_call 39; go_must (refine (HW1.out _).mono ?_; rintro e y1 ⟨ra1, rc1, rfl, hby, hO1⟩; replace hO1 := hO1.le st.size; replace st := st.call hby; clear hby)))
    go_loopw [82] (fun v wr => ∃ (j : Nat) (la : Option Addr) (lc : Nat), j ≤ xs1.length ∧ v = .int .i64 j ∧ St [] w wr [(g2, 29, zeroC), (g4, 29, zeroC), (g5, 29, [.int .i64 a.toNat, .int .i64 b.toNat, .int .i64 (numOf q), .bool false, .int .i64 th.toNat, .int .i64 a.toNat, .int .i64 mt.toNat, .slice la j lc, .slice none 0 0, .string ⟨#[]⟩, .slice none 0 0])] ∧ Own w.heap.size 51 wr 2 RLev la lc ((xs1.take j).map dLev) ∧ Own w.heap.size 9 wr 1 RStr ra1 rc1 (xs1.map ba)) (fun v _ => xs1.length - (intOf v).toNat)
    case atStart => exact ⟨0, none, 0, Nat.zero_le _, rfl, st, Own.nil _ _ _ _ _, hO1⟩
    case round =>
      clear st hO1
      obtain ⟨j, la, lc, hj, rfl, st, hO, hO1⟩ := hrel
      by_cases hjn : j < xs1.length
      · skip
        obtain ⟨x0, x1, hx⟩ : ∃ x0 x1, xs1[j] = [x0, x1] := by
          match xs1[j], l1 xs1[j] (List.getElem_mem _) with
            | [x0, x1], _ => exact ⟨x0, x1, rfl⟩
        obtain ⟨bb, oo, hre, hbl, hcl⟩ := (hO1.slr (ok := fun _ => True) fun _ _ => trivial).str_at j (by simpa using hjn)
        simp only [List.getElem_map] at hcl
        have X0 := Lib.hid (show xs1[j][0]? = some x0 by rw [hx]; rfl)
        have wx0 := wrap_byte x0
        have X1 := Lib.hid (show xs1[j][1]? = some x1 by rw [hx]; rfl)
        have wx1 := wrap_byte x1
        have SN := Lib.hid (show (xs1.take (j + 1)).map dLev = (xs1.take j).map dLev ++ [(⟨(x0.toNat : Int), (x1.toNat : Int)⟩ : Lev)] by rw [take_map_snoc _ _ _ hjn, hx, dLev_two])
        have KL := Lib.hid (show ((xs1.take j).map dLev).length = j by simp; omega)
        obtain ⟨i0, hi, hz0, hz1, hz2⟩ := info_parts info_Level
        subst hre
        clear hx
        go_upto_region 16 with (first | go_skip | fail)
        replace st := st.drew
        replace hO := hO.below (Below.refl _ _).drew
        replace hO1 := hO1.below (Below.refl _ _).drew
        have hI : St [g5] (World.drew _) (World.drew _) [(g5, 29, [.int .i64 a.toNat, .int .i64 b.toNat, .int .i64 (numOf q), .bool false, .int .i64 th.toNat, .int .i64 a.toNat, .int .i64 mt.toNat, .slice la j lc, .slice none 0 0, .string ⟨#[]⟩, .slice none 0 0])] := St.hand (st.blk _ (List.mem_of_getElem? (i := 2) rfl))
        refine lex_tail (by kernel_rfl) 14 1 [14] rfl (by decide +kernel) (fun V => St [g5] V V [(g5, 29, [.int .i64 a.toNat, .int .i64 b.toNat, .int .i64 (numOf q), .bool false, .int .i64 th.toNat, .int .i64 a.toNat, .int .i64 mt.toNat, .slice la j lc, .slice none 0 0, .string ⟨#[]⟩, .slice none 0 0])]) ?_
        refine lex_take 0 rfl (by decide +kernel) (by first | exact wanted_none rfl | exact wanted_some rfl rfl) hI (fun W hW => by first | (go_simp; done) | (go_simp; rfl)) ?_; simp only [Act.put, List.setIfInBounds_toArray, List.set_cons_succ, List.set_cons_zero]
        refine lex_take 1 rfl (by decide +kernel) (by first | exact wanted_none rfl | exact wanted_some rfl rfl) hI (fun W hW => by first | (go_simp; done) | (go_simp; rfl)) ?_; simp only [Act.put, List.setIfInBounds_toArray, List.set_cons_succ, List.set_cons_zero]
        refine lex_take 2 rfl (by decide +kernel) (by first | exact wanted_none rfl | exact wanted_some rfl rfl) hI (fun W hW => St.run_load hW 0 23 _ rfl Try.isAgg23 rfl rfl rfl) ?_; simp only [Act.put, List.setIfInBounds_toArray, List.set_cons_succ, List.set_cons_zero]
        refine lex_take 3 rfl (by decide +kernel) (by first | exact wanted_none rfl | exact wanted_some rfl rfl) hI (fun W hW => by first | (go_simp; done) | (go_simp; rfl)) ?_; simp only [Act.put, List.setIfInBounds_toArray, List.set_cons_succ, List.set_cons_zero]
        refine lex_take 4 rfl (by decide +kernel) (by first | exact wanted_none rfl | exact wanted_some rfl rfl) hI (fun W hW => by exact run_byte 9 _ _ rfl Try.underlying9 (i := 0) rfl rfl X0.out) ?_; simp only [Act.put, List.setIfInBounds_toArray, List.set_cons_succ, List.set_cons_zero]
        refine lex_take 5 rfl (by decide +kernel) (by first | exact wanted_none rfl | exact wanted_some rfl rfl) hI (fun W hW => by first | (go_simp; done) | (go_simp; rfl)) ?_; simp only [Act.put, List.setIfInBounds_toArray, List.set_cons_succ, List.set_cons_zero]
        refine lex_take 6 rfl (by decide +kernel) (by first | exact wanted_none rfl | exact wanted_some rfl rfl) hI (fun W hW => by first | (go_simp; done) | (go_simp; rfl)) ?_; simp only [Act.put, List.setIfInBounds_toArray, List.set_cons_succ, List.set_cons_zero]
        refine lex_take 7 rfl (by decide +kernel) (by first | exact wanted_none rfl | exact wanted_some rfl rfl) hI (fun W hW => by exact run_byte 9 _ _ rfl Try.underlying9 (i := 1) rfl rfl X1.out) ?_; simp only [Act.put, List.setIfInBounds_toArray, List.set_cons_succ, List.set_cons_zero]
        refine lex_take 8 rfl (by decide +kernel) (by first | exact wanted_none rfl | exact wanted_some rfl rfl) hI (fun W hW => by first | (go_simp; done) | (go_simp; rfl)) ?_; simp only [Act.put, List.setIfInBounds_toArray, List.set_cons_succ, List.set_cons_zero]
        refine lex_take 9 rfl (by decide +kernel) (by first | exact wanted_none rfl | exact wanted_some rfl rfl) hI (fun W hW => by first | (go_simp; done) | (go_simp; rfl)) ?_; simp only [Act.put, List.setIfInBounds_toArray, List.set_cons_succ, List.set_cons_zero]
        clear hI
        refine lex_only 10 rfl (by decide +kernel) (by first | exact wanted_none rfl | exact wanted_some rfl rfl) fun K hK => ?_
        refine wp_build1 st 23 51 _ rfl Try.underlying23 2 Try.sizeOf51 (by decide) (by decide) _ Try.zeroValue51 _ rfl rfl ?_; clear st; intro g23 w23 hg23 hg23e st hg23b hw23z; clear hg23e; simp [Act.eval, Act.put, Value.cells, putL] at st
        have hb := hg23b
        replace hO := hO.below hb
        replace hO1 := hO1.below hb
        have hI := St.hand (st.blk _ (List.mem_of_getElem? (i := 2) rfl))
        refine hK _ _ (hI) ?_; clear hK; simp only [Act.put, List.setIfInBounds_toArray, List.set_cons_succ, List.set_cons_zero]
        clear hI
        refine lex_only 11 rfl (by decide +kernel) (by first | exact wanted_none rfl | exact wanted_some rfl rfl) fun K hK => ?_
        refine wp_app1 _ _ 23 rfl 51 i0 _ 2 16 Try.underlying23 hi hz0 hz1 hz2 rfl (by decide) (y := (⟨(x0.toNat : Int), (x1.toNat : Int)⟩ : Lev)) rfl KL.out.symm hO rfl (SlR.ofBlk (ok := fun _ => True) (R := RLev) (x := (⟨(x0.toNat : Int), (x1.toNat : Int)⟩ : Lev)) (st.blk _ (List.mem_of_getElem? (i := 3) rfl)) rfl rfl rfl trivial) (by rw [KL.out]; omega) (by rw [KL.out]; unfold maxLen; omega) st.size ?_
        intro ga24 c24 w24 hN hgr _ _
        have st1 := (st.take 3).buf hO (Nat.le_refl _) hgr (by simp)
        replace hO1 := hO1.aside hgr (fun b e e2 => hO.apart hO1 (by decide) b e2 e)
        clear hO hgr st
        have st := st1
        clear st1
        simp only [List.take_succ_cons, List.take_zero] at st
        have hI := St.hand (st.blk _ (List.mem_of_getElem? (i := 2) rfl))
        refine hK _ _ (hI) ?_; clear hK; simp only [Act.put, List.setIfInBounds_toArray, List.set_cons_succ, List.set_cons_zero]
        refine lex_take 12 rfl (by decide +kernel) (by first | exact wanted_none rfl | exact wanted_some rfl rfl) hI (fun W hW => by first | (go_simp; done) | (go_simp; rfl)) ?_; simp only [Act.put, List.setIfInBounds_toArray, List.set_cons_succ, List.set_cons_zero]
        refine lex_take 13 rfl (by decide +kernel) (by first | exact wanted_none rfl | exact wanted_some rfl rfl) hI (fun W hW => by first | (go_simp; done) | (go_simp; rfl)) ?_; simp only [Act.put, List.setIfInBounds_toArray, List.set_cons_succ, List.set_cons_zero]
        clear hI
        refine lex_done (by decide +kernel) ?_
        refine tail_last 14 rfl (by first | exact wanted_none rfl | exact wanted_some rfl rfl) (by decide +kernel) (by decide +kernel) fun K hK => ?_
        have h6 := st.blk _ (List.mem_of_getElem? (i := 2) rfl)
        refine wp_store' st 23 _ _ rfl _ Try.sizeOf23 ⟨2, _, _, _, _, _, rfl, rfl, rfl, rfl, rfl, rfl, ?_⟩; clear st; intro w25 st hw25m hw25z; simp [Act.eval, Act.put, Value.cells, putL] at st
        replace hN := hN.stored h6 (by simp) hw25m
        replace hO1 := hO1.stored h6 (by simp) hw25m
        clear h6 hw25m hw25z
        refine hK _ _ ?_; clear hK
        go_wp2_with fail
        go_roundw
        case rel => exact ⟨j + 1, _, _, hjn, by go_num, by simpa using st, by rw [SN.out]; exact hN, hO1⟩
        case measure => simp [intOf] <;> omega
      · obtain rfl : j = xs1.length := by omega
        rw [List.take_of_length_le (Nat.le_refl _)] at hO
        have hOl := hO
        clear hO hO1 hjn hj
        obtain ⟨⟨xs2, r4, o2⟩, E2⟩ : ∃ p, rowsB 1 r3 = p := ⟨_, rfl⟩
        obtain ⟨n2, l2, m2⟩ := rowsB_facts E2
        have HW2 := Lib.hid (fun (V : World) => ref_rows V r3 1 (by decide) (by decide) (by omega))
        unfold RowsPost at HW2
        rw [E2] at HW2
        simp only at HW2
        have HE2 := Lib.hid E2
        clear E2
        go_upto_region 18 with (first | go_skip | fail)
        cases o2 with
        | false =>
          have HE := Lib.hid (show decR s = (zeroF, 1) by rw [HB1.out, rowsB_none HE2.out]; rfl)
          go_wp2_with (first
            | go_skip
            | (go_at_call 39; go_must (refine (HW2.out _).mono ?_; rintro e y2 ⟨ra2, rc2, rfl, hby, hO2⟩; replace st := st.call hby; clear hby)) | (with_reducible refine at_load 29 ?_; (first | refine mem_load_agg' st 29 _ rfl (wanted_none rfl) Try.isAgg29 _ Try.sizeOf29 ?_ | (refine mem_load_agg' st 29 _ rfl (wanted_some rfl ?_) Try.isAgg29 _ Try.sizeOf29 ?_; focus (simp [yielded, Act.put]; done))); refine ⟨1, _, _, _, _, _, rfl, rfl, rfl, rfl, ?_⟩) | (with_reducible refine at_store 29 ?_; (first | refine mem_store' st 29 _ _ rfl (wanted_none rfl) _ Try.sizeOf29 ?_ | (refine mem_store' st 29 _ _ rfl (wanted_some rfl ?_) _ Try.sizeOf29 ?_; focus (simp [yielded, Act.put]; done))); refine ⟨0, _, _, _, _, _, rfl, rfl, rfl, rfl, rfl, rfl, ?_⟩; clear st; intro w90 st hw90m hw90z; simp [Act.eval, Act.put, Value.cells, putL] at st))
          have hc := fun j => st.cell (i := 0) rfl j
          refine bodyPost_ret (v := .tuple #[frameV zeroF none 0 none 0 none 0, .int .i64 1]) ?hr rfl ⟨none, 0, none, 0, none, 0, ?_, ?_, st.below⟩
          case hr => simp [results, Try.results20, go_sem, hc, frameV]; try rfl
          · rw [HE.out]
          · rw [HE.out]; exact hz.below st.below
        | true => ?_
        have HB2 := Lib.hid (show decR s = fin ((k.toNat : Int), (a.toNat : Int), (b.toNat : Int), numOf q) ((pRows 1 r4).bind fun x => (pRows 9 x.2).bind fun c => some (⟨(th.toNat : Int), (mt.toNat : Int), xs1.map dLev, xs2.map dNum, x.1.flatten, c.1.map dCert⟩, c.2)) by rw [HB1.out, rowsB_some HE2.out]; rfl)
        clear HB1 HE2
        go_wp2_with (first | go_skip | (go_at_call 39; go_must (refine (HW2.out _).mono ?_; rintro e y2 ⟨ra2, rc2, rfl, hby, hO2⟩; replace hO2 := hO2.le st.size; replace st := st.call hby; replace hOl := hOl.below hby; clear hby)))
        go_loopw [112] (fun v wr => ∃ (j : Nat) (ga : Option Addr) (gc : Nat), j ≤ xs2.length ∧ v = .int .i64 j ∧ St [] w wr [(g2, 29, zeroC), (g4, 29, zeroC), (g5, 29, [.int .i64 a.toNat, .int .i64 b.toNat, .int .i64 (numOf q), .bool false, .int .i64 th.toNat, .int .i64 a.toNat, .int .i64 mt.toNat, .slice la xs1.length lc, .slice ga j gc, .string ⟨#[]⟩, .slice none 0 0])] ∧ Own w.heap.size 3 wr 1 RInt ga gc ((xs2.take j).map dNum) ∧ Own w.heap.size 9 wr 1 RStr ra2 rc2 (xs2.map ba) ∧ Own w.heap.size 51 wr 2 RLev la lc (xs1.map dLev)) (fun v _ => xs2.length - (intOf v).toNat)
        case atStart => exact ⟨0, none, 0, Nat.zero_le _, rfl, st, Own.nil _ _ _ _ _, hO2, hOl⟩
        case round =>
          clear st hO2 hOl
          obtain ⟨j, ga, gc, hj, rfl, st, hO, hO2, hOl⟩ := hrel
          by_cases hjn : j < xs2.length
          · skip
            obtain ⟨x0, hx⟩ : ∃ x0, xs2[j] = [x0] := by
              match xs2[j], l2 xs2[j] (List.getElem_mem _) with
                | [x0], _ => exact ⟨x0, rfl⟩
            obtain ⟨bb, oo, hre, hbl, hcl⟩ := (hO2.slr (ok := fun _ => True) fun _ _ => trivial).str_at j (by simpa using hjn)
            simp only [List.getElem_map] at hcl
            have X0 := Lib.hid (show xs2[j][0]? = some x0 by rw [hx]; rfl)
            have wx0 := wrap_byte x0
            have SN := Lib.hid (show (xs2.take (j + 1)).map dNum = (xs2.take j).map dNum ++ [(x0.toNat : Int)] by rw [take_map_snoc _ _ _ hjn, hx, dNum_one])
            have KL := Lib.hid (show ((xs2.take j).map dNum).length = j by simp; omega)
            obtain ⟨i0, hi, hz0, hz1, hz2⟩ := info_parts info_int
            subst hre
            clear hx
            go_upto_region 24 with (first | go_skip | fail)
            replace st := st.drew
            replace hO := hO.below (Below.refl _ _).drew
            replace hO2 := hO2.below (Below.refl _ _).drew
            replace hOl := hOl.below (Below.refl _ _).drew
            have hI : St [g5] (World.drew _) (World.drew _) [(g5, 29, [.int .i64 a.toNat, .int .i64 b.toNat, .int .i64 (numOf q), .bool false, .int .i64 th.toNat, .int .i64 a.toNat, .int .i64 mt.toNat, .slice la xs1.length lc, .slice ga j gc, .string ⟨#[]⟩, .slice none 0 0])] := St.hand (st.blk _ (List.mem_of_getElem? (i := 2) rfl))
            refine lex_tail (by kernel_rfl) 10 1 [10] rfl (by decide +kernel) (fun V => St [g5] V V [(g5, 29, [.int .i64 a.toNat, .int .i64 b.toNat, .int .i64 (numOf q), .bool false, .int .i64 th.toNat, .int .i64 a.toNat, .int .i64 mt.toNat, .slice la xs1.length lc, .slice ga j gc, .string ⟨#[]⟩, .slice none 0 0])]) ?_
            refine lex_take 0 rfl (by decide +kernel) (by first | exact wanted_none rfl | exact wanted_some rfl rfl) hI (fun W hW => by first | (go_simp; done) | (go_simp; rfl)) ?_; simp only [Act.put, List.setIfInBounds_toArray, List.set_cons_succ, List.set_cons_zero]
            refine lex_take 1 rfl (by decide +kernel) (by first | exact wanted_none rfl | exact wanted_some rfl rfl) hI (fun W hW => by first | (go_simp; done) | (go_simp; rfl)) ?_; simp only [Act.put, List.setIfInBounds_toArray, List.set_cons_succ, List.set_cons_zero]
            refine lex_take 2 rfl (by decide +kernel) (by first | exact wanted_none rfl | exact wanted_some rfl rfl) hI (fun W hW => St.run_load hW 0 24 _ rfl Try.isAgg24 rfl rfl rfl) ?_; simp only [Act.put, List.setIfInBounds_toArray, List.set_cons_succ, List.set_cons_zero]
            refine lex_take 3 rfl (by decide +kernel) (by first | exact wanted_none rfl | exact wanted_some rfl rfl) hI (fun W hW => by first | (go_simp; done) | (go_simp; rfl)) ?_; simp only [Act.put, List.setIfInBounds_toArray, List.set_cons_succ, List.set_cons_zero]
            refine lex_take 4 rfl (by decide +kernel) (by first | exact wanted_none rfl | exact wanted_some rfl rfl) hI (fun W hW => by exact run_byte 9 _ _ rfl Try.underlying9 (i := 0) rfl rfl X0.out) ?_; simp only [Act.put, List.setIfInBounds_toArray, List.set_cons_succ, List.set_cons_zero]
            refine lex_take 5 rfl (by decide +kernel) (by first | exact wanted_none rfl | exact wanted_some rfl rfl) hI (fun W hW => by first | (go_simp; done) | (go_simp; rfl)) ?_; simp only [Act.put, List.setIfInBounds_toArray, List.set_cons_succ, List.set_cons_zero]
            clear hI
            refine lex_only 6 rfl (by decide +kernel) (by first | exact wanted_none rfl | exact wanted_some rfl rfl) fun K hK => ?_
            refine wp_build1 st 24 3 _ rfl Try.underlying24 1 Try.sizeOf3 (by decide) (by decide) _ Try.zeroValue3 _ rfl rfl ?_; clear st; intro g23 w23 hg23 hg23e st hg23b hw23z; clear hg23e; simp [Act.eval, Act.put, Value.cells, putL] at st
            have hb := hg23b
            replace hO := hO.below hb
            replace hO2 := hO2.below hb
            replace hOl := hOl.below hb
            have hI := St.hand (st.blk _ (List.mem_of_getElem? (i := 2) rfl))
            refine hK _ _ (hI) ?_; clear hK; simp only [Act.put, List.setIfInBounds_toArray, List.set_cons_succ, List.set_cons_zero]
            clear hI
            refine lex_only 7 rfl (by decide +kernel) (by first | exact wanted_none rfl | exact wanted_some rfl rfl) fun K hK => ?_
            refine wp_app1 _ _ 24 rfl 3 i0 _ 1 8 Try.underlying24 hi hz0 hz1 hz2 rfl (by decide) (y := (x0.toNat : Int)) rfl KL.out.symm hO rfl (SlR.ofBlk (ok := fun _ => True) (R := RInt) (x := (x0.toNat : Int)) (st.blk _ (List.mem_of_getElem? (i := 3) rfl)) rfl rfl rfl trivial) (by rw [KL.out]; omega) (by rw [KL.out]; unfold maxLen; omega) st.size ?_
            intro ga24 c24 w24 hN hgr _ _
            have st1 := (st.take 3).buf hO (Nat.le_refl _) hgr (by simp)
            replace hO2 := hO2.aside hgr (fun b e e2 => hO.apart hO2 (by decide) b e2 e)
            replace hOl := hOl.aside hgr (fun b e e2 => hO.apart hOl (by decide) b e2 e)
            clear hO hgr st
            have st := st1
            clear st1
            simp only [List.take_succ_cons, List.take_zero] at st
            have hI := St.hand (st.blk _ (List.mem_of_getElem? (i := 2) rfl))
            refine hK _ _ (hI) ?_; clear hK; simp only [Act.put, List.setIfInBounds_toArray, List.set_cons_succ, List.set_cons_zero]
            refine lex_take 8 rfl (by decide +kernel) (by first | exact wanted_none rfl | exact wanted_some rfl rfl) hI (fun W hW => by first | (go_simp; done) | (go_simp; rfl)) ?_; simp only [Act.put, List.setIfInBounds_toArray, List.set_cons_succ, List.set_cons_zero]
            refine lex_take 9 rfl (by decide +kernel) (by first | exact wanted_none rfl | exact wanted_some rfl rfl) hI (fun W hW => by first | (go_simp; done) | (go_simp; rfl)) ?_; simp only [Act.put, List.setIfInBounds_toArray, List.set_cons_succ, List.set_cons_zero]
            clear hI
            refine lex_done (by decide +kernel) ?_
            refine tail_last 10 rfl (by first | exact wanted_none rfl | exact wanted_some rfl rfl) (by decide +kernel) (by decide +kernel) fun K hK => ?_
            have h6 := st.blk _ (List.mem_of_getElem? (i := 2) rfl)
            refine wp_store' st 24 _ _ rfl _ Try.sizeOf24 ⟨2, _, _, _, _, _, rfl, rfl, rfl, rfl, rfl, rfl, ?_⟩; clear st; intro w25 st hw25m hw25z; simp [Act.eval, Act.put, Value.cells, putL] at st
            replace hN := hN.stored h6 (by simp) hw25m
            replace hO2 := hO2.stored h6 (by simp) hw25m
            replace hOl := hOl.stored h6 (by simp) hw25m
            clear h6 hw25m hw25z
            refine hK _ _ ?_; clear hK
            go_wp2_with fail
            go_roundw
            case rel => exact ⟨j + 1, _, _, hjn, by go_num, by simpa using st, by rw [SN.out]; exact hN, hO2, hOl⟩
            case measure => simp [intOf] <;> omega
          · obtain rfl : j = xs2.length := by omega
            rw [List.take_of_length_le (Nat.le_refl _)] at hO
            have hOg := hO
            clear hO hO2 hjn hj
            obtain ⟨⟨xs3, r5, o3⟩, E3⟩ : ∃ p, rowsB 1 r4 = p := ⟨_, rfl⟩
            obtain ⟨n3, l3, m3⟩ := rowsB_facts E3
            have HW3 := Lib.hid (fun (V : World) => ref_rows V r4 1 (by decide) (by decide) (by omega))
            unfold RowsPost at HW3
            rw [E3] at HW3
            simp only at HW3
            have HE3 := Lib.hid E3
            clear E3
            go_upto_region 26 with (first | go_skip | fail)
            cases o3 with
            | false =>
              have HE := Lib.hid (show decR s = (zeroF, 1) by rw [HB2.out, rowsB_none HE3.out]; rfl)
              go_wp2_with (first
                | go_skip
                | (go_at_call 39; go_must (refine (HW3.out _).mono ?_; rintro e y3 ⟨ra3, rc3, rfl, hby, hO3⟩; replace st := st.call hby; clear hby)) | (with_reducible refine at_load 29 ?_; (first | refine mem_load_agg' st 29 _ rfl (wanted_none rfl) Try.isAgg29 _ Try.sizeOf29 ?_ | (refine mem_load_agg' st 29 _ rfl (wanted_some rfl ?_) Try.isAgg29 _ Try.sizeOf29 ?_; focus (simp [yielded, Act.put]; done))); refine ⟨1, _, _, _, _, _, rfl, rfl, rfl, rfl, ?_⟩) | (with_reducible refine at_store 29 ?_; (first | refine mem_store' st 29 _ _ rfl (wanted_none rfl) _ Try.sizeOf29 ?_ | (refine mem_store' st 29 _ _ rfl (wanted_some rfl ?_) _ Try.sizeOf29 ?_; focus (simp [yielded, Act.put]; done))); refine ⟨0, _, _, _, _, _, rfl, rfl, rfl, rfl, rfl, rfl, ?_⟩; clear st; intro w90 st hw90m hw90z; simp [Act.eval, Act.put, Value.cells, putL] at st))
              have hc := fun j => st.cell (i := 0) rfl j
              refine bodyPost_ret (v := .tuple #[frameV zeroF none 0 none 0 none 0, .int .i64 1]) ?hr rfl ⟨none, 0, none, 0, none, 0, ?_, ?_, st.below⟩
              case hr => simp [results, Try.results20, go_sem, hc, frameV]; try rfl
              · rw [HE.out]
              · rw [HE.out]; exact hz.below st.below
            | true => ?_
            have HB3 := Lib.hid (show decR s = fin ((k.toNat : Int), (a.toNat : Int), (b.toNat : Int), numOf q) ((pRows 9 r5).bind fun c => some (⟨(th.toNat : Int), (mt.toNat : Int), xs1.map dLev, xs2.map dNum, xs3.flatten, c.1.map dCert⟩, c.2)) by rw [HB2.out, rowsB_some HE3.out]; rfl)
            clear HB2 HE3
            go_wp2_with (first | go_skip | (go_at_call 39; go_must (refine (HW3.out _).mono ?_; rintro e y3 ⟨ra3, rc3, rfl, hby, hO3⟩; replace hO3 := hO3.le st.size; replace st := st.call hby; replace hOl := hOl.below hby; replace hOg := hOg.below hby; clear hby)))
            go_loopw [138] (fun v wr => ∃ (j : Nat), j ≤ xs3.length ∧ v = .int .i64 j ∧ St [] w wr [(g2, 29, zeroC), (g4, 29, zeroC), (g5, 29, [.int .i64 a.toNat, .int .i64 b.toNat, .int .i64 (numOf q), .bool false, .int .i64 th.toNat, .int .i64 a.toNat, .int .i64 mt.toNat, .slice la xs1.length lc, .slice ga xs2.length gc, .string (ba (xs3.take j).flatten), .slice none 0 0])] ∧ Own w.heap.size 9 wr 1 RStr ra3 rc3 (xs3.map ba) ∧ Own w.heap.size 51 wr 2 RLev la lc (xs1.map dLev) ∧ Own w.heap.size 3 wr 1 RInt ga gc (xs2.map dNum)) (fun v _ => xs3.length - (intOf v).toNat)
            case atStart => exact ⟨0, Nat.zero_le _, rfl, st, hO3, hOl, hOg⟩
            case round =>
              clear st hO3 hOl hOg
              obtain ⟨j, hj, rfl, st, hO3, hOl, hOg⟩ := hrel
              by_cases hjn : j < xs3.length
              · skip
                obtain ⟨bb, oo, hre, hbl, hcl⟩ := (hO3.slr (ok := fun _ => True) fun _ _ => trivial).str_at j (by simpa using hjn)
                simp only [List.getElem_map] at hcl
                have SN := Lib.hid (show ba (xs3.take (j + 1)).flatten = ba (xs3.take j).flatten ++ ba xs3[j] by rw [List.take_succ_eq_append_getElem hjn, List.flatten_append, List.flatten_singleton, ba_app])
                have HL := Lib.hid (show (ba (xs3.take j).flatten).size + (ba xs3[j]).size ≤ 9223372036854775807 by
                  have h1 := flatten_le (z := 1) (xs3.take j) fun x hx => l3 x (List.take_subset _ _ hx)
                  have h2 := l3 xs3[j] (List.getElem_mem _)
                  rw [ba_size, ba_size, h1, h2, List.length_take]
                  omega)
                have h6 := st.blk _ (List.mem_of_getElem? (i := 2) rfl)
                subst hre
                go_wp2_with (first | go_skip | (with_reducible refine at_load 9 ?_; (first | refine mem_load' st 9 _ rfl (wanted_none rfl) Try.isAgg9 ?_ | (refine mem_load' st 9 _ rfl (wanted_some rfl ?_) Try.isAgg9 ?_; focus (simp [yielded, Act.put]; done))); refine ⟨2, _, _, _, _, _, rfl, rfl, rfl, ?_⟩) | ((with_reducible refine at_cat 9 9 ?_); refine wpList_value (wanted_none rfl) (run_cat 9 9 _ _ rfl rfl rfl HL.out) ?_; rw [← SN.out]) | (with_reducible refine at_store 9 ?_; (first | refine mem_store' st 9 _ _ rfl (wanted_none rfl) _ Try.sizeOf9 ?_ | (refine mem_store' st 9 _ _ rfl (wanted_some rfl ?_) _ Try.sizeOf9 ?_; focus (simp [yielded, Act.put]; done))); refine ⟨2, _, _, _, _, _, rfl, rfl, rfl, rfl, rfl, rfl, ?_⟩; clear st; intro w25 st hw25m hw25z; simp [Act.eval, Act.put, Value.cells, putL] at st))
                replace hO3 := hO3.stored h6 (by simp) hw25m
                replace hOl := hOl.stored h6 (by simp) hw25m
                replace hOg := hOg.stored h6 (by simp) hw25m
                clear h6 hw25m hw25z
                go_roundw
                case rel => exact ⟨j + 1, hjn, by go_num, st, hO3, hOl, hOg⟩
                case measure => simp [intOf] <;> omega
              · obtain rfl : j = xs3.length := by omega
                rw [List.take_of_length_le (Nat.le_refl _)] at st
                clear hO3 hjn hj
                obtain ⟨⟨xs4, r6, o4⟩, E4⟩ : ∃ p, rowsB 9 r5 = p := ⟨_, rfl⟩
                obtain ⟨n4, l4, m4⟩ := rowsB_facts E4
                have HW4 := Lib.hid (fun (V : World) => ref_rows V r5 9 (by decide) (by decide) (by omega))
                unfold RowsPost at HW4
                rw [E4] at HW4
                simp only at HW4
                have HE4 := Lib.hid E4
                clear E4
                go_upto_region 34 with (first | go_skip | fail)
                cases o4 with
                | false =>
                  have HE := Lib.hid (show decR s = (zeroF, 1) by rw [HB3.out, rowsB_none HE4.out]; rfl)
                  go_wp2_with (first
                    | go_skip
                    | (go_at_call 39; go_must (refine (HW4.out _).mono ?_; rintro e y4 ⟨ra4, rc4, rfl, hby, hO4⟩; replace st := st.call hby; clear hby)) | (with_reducible refine at_load 29 ?_; (first | refine mem_load_agg' st 29 _ rfl (wanted_none rfl) Try.isAgg29 _ Try.sizeOf29 ?_ | (refine mem_load_agg' st 29 _ rfl (wanted_some rfl ?_) Try.isAgg29 _ Try.sizeOf29 ?_; focus (simp [yielded, Act.put]; done))); refine ⟨1, _, _, _, _, _, rfl, rfl, rfl, rfl, ?_⟩) | (with_reducible refine at_store 29 ?_; (first | refine mem_store' st 29 _ _ rfl (wanted_none rfl) _ Try.sizeOf29 ?_ | (refine mem_store' st 29 _ _ rfl (wanted_some rfl ?_) _ Try.sizeOf29 ?_; focus (simp [yielded, Act.put]; done))); refine ⟨0, _, _, _, _, _, rfl, rfl, rfl, rfl, rfl, rfl, ?_⟩; clear st; intro w90 st hw90m hw90z; simp [Act.eval, Act.put, Value.cells, putL] at st))
                  have hc := fun j => st.cell (i := 0) rfl j
                  refine bodyPost_ret (v := .tuple #[frameV zeroF none 0 none 0 none 0, .int .i64 1]) ?hr rfl ⟨none, 0, none, 0, none, 0, ?_, ?_, st.below⟩
                  case hr => simp [results, Try.results20, go_sem, hc, frameV]; try rfl
                  · rw [HE.out]
                  · rw [HE.out]; exact hz.below st.below
                | true => ?_
                have HB4 := Lib.hid (show decR s = fin ((k.toNat : Int), (a.toNat : Int), (b.toNat : Int), numOf q) (some (⟨(th.toNat : Int), (mt.toNat : Int), xs1.map dLev, xs2.map dNum, xs3.flatten, xs4.map dCert⟩, r6)) by rw [HB3.out, rowsB_some HE4.out]; rfl)
                clear HB3 HE4
                go_wp2_with (first | go_skip | (go_at_call 39; go_must (refine (HW4.out _).mono ?_; rintro e y4 ⟨ra4, rc4, rfl, hby, hO4⟩; replace hO4 := hO4.le st.size; replace st := st.call hby; replace hOl := hOl.below hby; replace hOg := hOg.below hby; clear hby)))
                go_loopw [161] (fun v wr => ∃ (j : Nat) (ca : Option Addr) (cc : Nat), j ≤ xs4.length ∧ v = .int .i64 j ∧ St [] w wr [(g2, 29, zeroC), (g4, 29, zeroC), (g5, 29, [.int .i64 a.toNat, .int .i64 b.toNat, .int .i64 (numOf q), .bool false, .int .i64 th.toNat, .int .i64 a.toNat, .int .i64 mt.toNat, .slice la xs1.length lc, .slice ga xs2.length gc, .string (ba xs3.flatten), .slice ca j cc])] ∧ Own w.heap.size 39 wr 4 RCert ca cc ((xs4.take j).map dCert) ∧ Own w.heap.size 9 wr 1 RStr ra4 rc4 (xs4.map ba) ∧ Own w.heap.size 51 wr 2 RLev la lc (xs1.map dLev) ∧ Own w.heap.size 3 wr 1 RInt ga gc (xs2.map dNum)) (fun v _ => xs4.length - (intOf v).toNat)
                case atStart => exact ⟨0, none, 0, Nat.zero_le _, rfl, st, Own.nil _ _ _ _ _, hO4, hOl, hOg⟩
                case round =>
                  clear st hO4 hOl hOg
                  obtain ⟨j, ca, cc, hj, rfl, st, hO, hO4, hOl, hOg⟩ := hrel
                  by_cases hjn : j < xs4.length
                  · skip
                    obtain ⟨x0, x1, x2, t, hx, htl⟩ : ∃ x0 x1 x2 t, xs4[j] = x0 :: x1 :: x2 :: t ∧ t.length = 6 := by
                      match xs4[j], l4 xs4[j] (List.getElem_mem _) with
                        | x0 :: x1 :: x2 :: t, h => exact ⟨x0, x1, x2, t, rfl, by simpa using h⟩
                    obtain ⟨bb, oo, hre, hbl, hcl⟩ := (hO4.slr (ok := fun _ => True) fun _ _ => trivial).str_at j (by simpa using hjn)
                    simp only [List.getElem_map] at hcl
                    have X0 := Lib.hid (show xs4[j][0]? = some x0 by rw [hx]; rfl)
                    have wx0 := wrap_byte x0
                    have X1 := Lib.hid (show xs4[j][1]? = some x1 by rw [hx]; rfl)
                    have wx1 := wrap_byte x1
                    have X2 := Lib.hid (show xs4[j][2]? = some x2 by rw [hx]; rfl)
                    have wx2 := wrap_byte x2
                    have SN := Lib.hid (show (xs4.take (j + 1)).map dCert = (xs4.take j).map dCert ++ [(⟨(x0.toNat : Int), (x1.toNat : Int), (x2.toNat : Int), numOf t⟩ : Cert)] by rw [take_map_snoc _ _ _ hjn, hx, dCert_nine _ _ _ _ htl])
                    have KL := Lib.hid (show ((xs4.take j).map dCert).length = j by simp; omega)
                    have XD := Lib.hid (show xs4[j].drop 3 = t by rw [hx]; rfl)
                    have XL := Lib.hid (show 3 ≤ xs4[j].length by rw [hx]; simp)
                    have HN4 := Lib.hid (fun (V : World) => ref_numberOf V t (by omega))
                    obtain ⟨i0, hi, hz0, hz1, hz2⟩ := info_parts info_Cert
                    subst hre
                    clear hx htl
                    go_upto_region 40 with (first | go_skip | fail)
                    replace st := st.drew
                    replace hO := hO.below (Below.refl _ _).drew
                    replace hO4 := hO4.below (Below.refl _ _).drew
                    replace hOl := hOl.below (Below.refl _ _).drew
                    replace hOg := hOg.below (Below.refl _ _).drew
                    have hI : St [g5] (World.drew _) (World.drew _) [(g5, 29, [.int .i64 a.toNat, .int .i64 b.toNat, .int .i64 (numOf q), .bool false, .int .i64 th.toNat, .int .i64 a.toNat, .int .i64 mt.toNat, .slice la xs1.length lc, .slice ga xs2.length gc, .string (ba xs3.flatten), .slice ca j cc])] := St.hand (st.blk _ (List.mem_of_getElem? (i := 2) rfl))
                    refine lex_tail (by kernel_rfl) 18 1 [18] rfl (by decide +kernel) (fun V => St [g5] V V [(g5, 29, [.int .i64 a.toNat, .int .i64 b.toNat, .int .i64 (numOf q), .bool false, .int .i64 th.toNat, .int .i64 a.toNat, .int .i64 mt.toNat, .slice la xs1.length lc, .slice ga xs2.length gc, .string (ba xs3.flatten), .slice ca j cc])]) ?_
                    refine lex_take 0 rfl (by decide +kernel) (by first | exact wanted_none rfl | exact wanted_some rfl rfl) hI (fun W hW => by first | (go_simp; done) | (go_simp; rfl)) ?_; simp only [Act.put, List.setIfInBounds_toArray, List.set_cons_succ, List.set_cons_zero]
                    refine lex_take 1 rfl (by decide +kernel) (by first | exact wanted_none rfl | exact wanted_some rfl rfl) hI (fun W hW => St.run_load hW 0 27 _ rfl Try.isAgg27 rfl rfl rfl) ?_; simp only [Act.put, List.setIfInBounds_toArray, List.set_cons_succ, List.set_cons_zero]
                    refine lex_take 2 rfl (by decide +kernel) (by first | exact wanted_none rfl | exact wanted_some rfl rfl) hI (fun W hW => by first | (go_simp; done) | (go_simp; rfl)) ?_; simp only [Act.put, List.setIfInBounds_toArray, List.set_cons_succ, List.set_cons_zero]
                    refine lex_take 3 rfl (by decide +kernel) (by first | exact wanted_none rfl | exact wanted_some rfl rfl) hI (fun W hW => by exact run_byte 9 _ _ rfl Try.underlying9 (i := 0) rfl rfl X0.out) ?_; simp only [Act.put, List.setIfInBounds_toArray, List.set_cons_succ, List.set_cons_zero]
                    refine lex_take 4 rfl (by decide +kernel) (by first | exact wanted_none rfl | exact wanted_some rfl rfl) hI (fun W hW => by first | (go_simp; done) | (go_simp; rfl)) ?_; simp only [Act.put, List.setIfInBounds_toArray, List.set_cons_succ, List.set_cons_zero]
                    refine lex_take 5 rfl (by decide +kernel) (by first | exact wanted_none rfl | exact wanted_some rfl rfl) hI (fun W hW => by first | (go_simp; done) | (go_simp; rfl)) ?_; simp only [Act.put, List.setIfInBounds_toArray, List.set_cons_succ, List.set_cons_zero]
                    refine lex_take 6 rfl (by decide +kernel) (by first | exact wanted_none rfl | exact wanted_some rfl rfl) hI (fun W hW => by exact run_byte 9 _ _ rfl Try.underlying9 (i := 1) rfl rfl X1.out) ?_; simp only [Act.put, List.setIfInBounds_toArray, List.set_cons_succ, List.set_cons_zero]
                    refine lex_take 7 rfl (by decide +kernel) (by first | exact wanted_none rfl | exact wanted_some rfl rfl) hI (fun W hW => by first | (go_simp; done) | (go_simp; rfl)) ?_; simp only [Act.put, List.setIfInBounds_toArray, List.set_cons_succ, List.set_cons_zero]
                    refine lex_take 8 rfl (by decide +kernel) (by first | exact wanted_none rfl | exact wanted_some rfl rfl) hI (fun W hW => by first | (go_simp; done) | (go_simp; rfl)) ?_; simp only [Act.put, List.setIfInBounds_toArray, List.set_cons_succ, List.set_cons_zero]
                    refine lex_take 9 rfl (by decide +kernel) (by first | exact wanted_none rfl | exact wanted_some rfl rfl) hI (fun W hW => by exact run_byte 9 _ _ rfl Try.underlying9 (i := 2) rfl rfl X2.out) ?_; simp only [Act.put, List.setIfInBounds_toArray, List.set_cons_succ, List.set_cons_zero]
                    refine lex_take 10 rfl (by decide +kernel) (by first | exact wanted_none rfl | exact wanted_some rfl rfl) hI (fun W hW => by first | (go_simp; done) | (go_simp; rfl)) ?_; simp only [Act.put, List.setIfInBounds_toArray, List.set_cons_succ, List.set_cons_zero]
                    refine lex_take 11 rfl (by decide +kernel) (by first | exact wanted_none rfl | exact wanted_some rfl rfl) hI (fun W hW => by first | (go_simp; done) | (go_simp; rfl)) ?_; simp only [Act.put, List.setIfInBounds_toArray, List.set_cons_succ, List.set_cons_zero]
                    refine lex_take 12 rfl (by decide +kernel) (by first | exact wanted_none rfl | exact wanted_some rfl rfl) hI (fun W hW => by (refine (run_from 9 _ _ rfl Try.underlying9 3 rfl rfl XL.out).trans ?_; rw [XD.out])) ?_; simp only [Act.put, List.setIfInBounds_toArray, List.set_cons_succ, List.set_cons_zero]
                    clear hI
                    refine lex_only 13 rfl (by decide +kernel) (by first | exact wanted_none rfl | exact wanted_some rfl rfl) fun K hK => ?_
                    refine wp_callee (f := 38) (by first | (go_simp; done) | (go_simp; rfl)) ?_
                    refine (HN4.out _).mono ?_
                    rintro e v41 ⟨rfl, hb⟩
                    refine ⟨_, rfl, ?_⟩
                    replace st := st.call hb
                    replace hO := hO.below hb; replace hO4 := hO4.below hb; replace hOl := hOl.below hb; replace hOg := hOg.below hb
                    have hI := St.hand (st.blk _ (List.mem_of_getElem? (i := 2) rfl))
                    refine hK _ _ (hI) ?_; clear hK; simp only [Act.put, List.setIfInBounds_toArray, List.set_cons_succ, List.set_cons_zero]
                    refine lex_take 14 rfl (by decide +kernel) (by first | exact wanted_none rfl | exact wanted_some rfl rfl) hI (fun W hW => by first | (go_simp; done) | (go_simp; rfl)) ?_; simp only [Act.put, List.setIfInBounds_toArray, List.set_cons_succ, List.set_cons_zero]
                    clear hI hb
                    refine lex_only 15 rfl (by decide +kernel) (by first | exact wanted_none rfl | exact wanted_some rfl rfl) fun K hK => ?_
                    refine wp_build1 st 27 39 _ rfl Try.underlying27 4 Try.sizeOf39 (by decide) (by decide) _ Try.zeroValue39 _ rfl rfl ?_; clear st; intro g23 w23 hg23 hg23e st hg23b hw23z; clear hg23e; simp [Act.eval, Act.put, Value.cells, putL] at st
                    have hb := hg23b
                    replace hO := hO.below hb
                    replace hO4 := hO4.below hb
                    replace hOl := hOl.below hb
                    replace hOg := hOg.below hb
                    have hI := St.hand (st.blk _ (List.mem_of_getElem? (i := 2) rfl))
                    refine hK _ _ (hI) ?_; clear hK; simp only [Act.put, List.setIfInBounds_toArray, List.set_cons_succ, List.set_cons_zero]
                    clear hI
                    refine lex_only 16 rfl (by decide +kernel) (by first | exact wanted_none rfl | exact wanted_some rfl rfl) fun K hK => ?_
                    refine wp_app1 _ _ 27 rfl 39 i0 _ 4 32 Try.underlying27 hi hz0 hz1 hz2 rfl (by decide) (y := (⟨(x0.toNat : Int), (x1.toNat : Int), (x2.toNat : Int), numOf t⟩ : Cert)) rfl KL.out.symm hO rfl (SlR.ofBlk (ok := fun _ => True) (R := RCert) (x := (⟨(x0.toNat : Int), (x1.toNat : Int), (x2.toNat : Int), numOf t⟩ : Cert)) (st.blk _ (List.mem_of_getElem? (i := 3) rfl)) rfl rfl rfl trivial) (by rw [KL.out]; omega) (by rw [KL.out]; unfold maxLen; omega) st.size ?_
                    intro ga24 c24 w24 hN hgr _ _
                    have st1 := (st.take 3).buf hO (Nat.le_refl _) hgr (by simp)
                    replace hO4 := hO4.aside hgr (fun b e e2 => hO.apart hO4 (by decide) b e2 e)
                    replace hOl := hOl.aside hgr (fun b e e2 => hO.apart hOl (by decide) b e2 e)
                    replace hOg := hOg.aside hgr (fun b e e2 => hO.apart hOg (by decide) b e2 e)
                    clear hO hgr st
                    have st := st1
                    clear st1
                    simp only [List.take_succ_cons, List.take_zero] at st
                    have hI := St.hand (st.blk _ (List.mem_of_getElem? (i := 2) rfl))
                    refine hK _ _ (hI) ?_; clear hK; simp only [Act.put, List.setIfInBounds_toArray, List.set_cons_succ, List.set_cons_zero]
                    refine lex_take 17 rfl (by decide +kernel) (by first | exact wanted_none rfl | exact wanted_some rfl rfl) hI (fun W hW => by first | (go_simp; done) | (go_simp; rfl)) ?_; simp only [Act.put, List.setIfInBounds_toArray, List.set_cons_succ, List.set_cons_zero]
                    clear hI
                    refine lex_done (by decide +kernel) ?_
                    refine tail_last 18 rfl (by first | exact wanted_none rfl | exact wanted_some rfl rfl) (by decide +kernel) (by decide +kernel) fun K hK => ?_
                    have h6 := st.blk _ (List.mem_of_getElem? (i := 2) rfl)
                    refine wp_store' st 27 _ _ rfl _ Try.sizeOf27 ⟨2, _, _, _, _, _, rfl, rfl, rfl, rfl, rfl, rfl, ?_⟩; clear st; intro w25 st hw25m hw25z; simp [Act.eval, Act.put, Value.cells, putL] at st
                    replace hN := hN.stored h6 (by simp) hw25m
                    replace hO4 := hO4.stored h6 (by simp) hw25m
                    replace hOl := hOl.stored h6 (by simp) hw25m
                    replace hOg := hOg.stored h6 (by simp) hw25m
                    clear h6 hw25m hw25z
                    refine hK _ _ ?_; clear hK
                    go_wp2_with fail
                    go_roundw
                    case rel => exact ⟨j + 1, _, _, hjn, by go_num, by simpa using st, by rw [SN.out]; exact hN, hO4, hOl, hOg⟩
                    case measure => simp [intOf] <;> omega
                  · obtain rfl : j = xs4.length := by omega
                    rw [List.take_of_length_le (Nat.le_refl _)] at hO
                    have hOc := hO
                    clear hO hO4 hjn hj
                    cases r6 with
                    | cons c t =>
                      have HE := Lib.hid (show decR s = (zeroF, 1) from HB4.out)
                      have dr := ba_cons_ne c t
                      go_wp2_with (first | go_skip | (with_reducible refine at_load 29 ?_; (first | refine mem_load_agg' st 29 _ rfl (wanted_none rfl) Try.isAgg29 _ Try.sizeOf29 ?_ | (refine mem_load_agg' st 29 _ rfl (wanted_some rfl ?_) Try.isAgg29 _ Try.sizeOf29 ?_; focus (simp [yielded, Act.put]; done))); refine ⟨1, _, _, _, _, _, rfl, rfl, rfl, rfl, ?_⟩) | (with_reducible refine at_store 29 ?_; (first | refine mem_store' st 29 _ _ rfl (wanted_none rfl) _ Try.sizeOf29 ?_ | (refine mem_store' st 29 _ _ rfl (wanted_some rfl ?_) _ Try.sizeOf29 ?_; focus (simp [yielded, Act.put]; done))); refine ⟨0, _, _, _, _, _, rfl, rfl, rfl, rfl, rfl, rfl, ?_⟩; clear st; intro w90 st hw90m hw90z; simp [Act.eval, Act.put, Value.cells, putL] at st))
                      have hc := fun j => st.cell (i := 0) rfl j
                      refine bodyPost_ret (v := .tuple #[frameV zeroF none 0 none 0 none 0, .int .i64 1]) ?hr rfl ⟨none, 0, none, 0, none, 0, ?_, ?_, st.below⟩
                      case hr => simp [results, Try.results20, go_sem, hc, frameV]; try rfl
                      · rw [HE.out]
                      · rw [HE.out]; exact hz.below st.below
                    | nil => ?_
                    obtain ⟨f, hfd⟩ : ∃ f, f = mailFrame ((k.toNat : Int), (a.toNat : Int), (b.toNat : Int), numOf q) false ⟨(th.toNat : Int), (mt.toNat : Int), xs1.map dLev, xs2.map dNum, xs3.flatten, xs4.map dCert⟩ := ⟨_, rfl⟩
                    have HD := Lib.hid (show decR s = if goodFrameC f = 0 then (f, 0) else (zeroF, goodFrameC f) by rw [HB4.out, hfd]; rfl)
                    have hw2 := st.blk _ (List.mem_of_getElem? (i := 0) rfl)
                    have hF : FrameR (fun b => w.heap.size ≤ b ∧ b ≠ g2) wr f la lc ga gc ca cc := by rw [hfd]; exact ⟨⟨hOl.slrN hw2 (by simp), hOg.slrN hw2 (by simp)⟩, hOc.slrN hw2 (by simp)⟩
                    clear hw2 hOl hOg hOc HB4
                    have hfit : f.FitsW := by
                      have h3 := flatten_le xs3 l3
                      rw [hfd]
                      exact ⟨by simp only [mailFrame, List.length_map]; omega, by simp only [mailFrame, List.length_map]; omega, by simp only [mailFrame, List.length_map]; omega, by show (xs3.flatten).toArray.size ≤ _; simp only [List.size_toArray]; omega⟩
                    have HG := Lib.hid (fun (W : World) (h : FrameR (fun b => w.heap.size ≤ b ∧ b ≠ g2) W f la lc ga gc ca cc) => ref_GoodFrame (fun b => w.heap.size ≤ b ∧ b ≠ g2) W f la lc ga gc ca cc hfit h)
                    have hcs : (g5, 29, [.int .i64 a.toNat, .int .i64 b.toNat, .int .i64 (numOf q), .bool false, .int .i64 th.toNat, .int .i64 a.toNat, .int .i64 mt.toNat, .slice la xs1.length lc, .slice ga xs2.length gc, .string (ba xs3.flatten), .slice ca xs4.length cc]) = (g5, 29, frameC f la lc ga gc ca cc) := by rw [hfd]; simp [frameC, mailFrame]
                    rw [hcs] at st
                    have hak : f.ack = false := by rw [hfd]; rfl
                    clear hfd hcs hfit
                    unfold frameC at st
                    unfold frameV at HG
                    rw [hak] at st HG
                    have HAK := Lib.hid hak
                    clear hak
                    generalize goodFrameC f = qq at HD HG
                    by_cases hq0 : qq = 0
                    · subst hq0
                      have HE := Lib.hid (show decR s = (f, 0) by rw [HD.out, if_pos rfl])
                      clear HD
                      go_wp2_with (first
                        | go_skip | ((with_reducible refine at_slice 9 ?_); refine wpList_value (wanted_none rfl) (run_from 9 _ _ rfl Try.underlying9 9 rfl rfl HS9.out) ?_; rw [HR.out]) | (with_reducible refine at_load 4 ?_; (first | refine mem_load' st 4 _ rfl (wanted_none rfl) Try.isAgg4 ?_ | (refine mem_load' st 4 _ rfl (wanted_some rfl ?_) Try.isAgg4 ?_; focus (simp [yielded, Act.put]; done))); refine ⟨2, _, _, _, _, _, rfl, rfl, rfl, ?_⟩) | (with_reducible refine at_load 29 ?_; (first | refine mem_load_agg' st 29 _ rfl (wanted_none rfl) Try.isAgg29 _ Try.sizeOf29 ?_ | (refine mem_load_agg' st 29 _ rfl (wanted_some rfl ?_) Try.isAgg29 _ Try.sizeOf29 ?_; focus (simp [yielded, Act.put]; done))); refine ⟨2, _, _, _, _, _, rfl, rfl, rfl, rfl, ?_⟩)
                        | (go_at_call 12; go_must (refine (HG.out _ hF).mono ?_; rintro e v90 ⟨rfl, hb⟩; replace st := st.call hb; replace hF := hF.below hb; have hv90 := hb.size; clear hb)) | (with_reducible refine at_store 29 ?_; (first | refine mem_store' st 29 _ _ rfl (wanted_none rfl) _ Try.sizeOf29 ?_ | (refine mem_store' st 29 _ _ rfl (wanted_some rfl ?_) _ Try.sizeOf29 ?_; focus (simp [yielded, Act.put]; done))); refine ⟨0, _, _, _, _, _, rfl, rfl, rfl, rfl, rfl, rfl, ?_⟩; clear st; intro w90 st hw90m hw90z; simp [Act.eval, Act.put, Value.cells, putL] at st))
                      have hc := fun j => st.cell (i := 0) rfl j
                      have hk9 : Keeps (fun b => w.heap.size ≤ b ∧ b ≠ g2) v90 w90 := ⟨by omega, fun b hb ho => hw90m b ho.2⟩
                      refine bodyPost_ret (v := .tuple #[frameV f la lc ga gc ca cc, .int .i64 0]) ?hr rfl ⟨la, lc, ga, gc, ca, cc, ?_, ?_, st.below⟩
                      case hr => simp [results, Try.results20, go_sem, hc, frameV, HAK.out]; try rfl
                      · rw [HE.out]
                      · rw [HE.out]; exact ⟨⟨(hF.mail.label.keep hk9).okay fun _ h => h.1, (hF.mail.grants.keep hk9).okay fun _ h => h.1⟩, (hF.certs.keep hk9).okay fun _ h => h.1⟩
                    · have HE := Lib.hid (show decR s = (zeroF, qq) by rw [HD.out, if_neg hq0])
                      have hqb : (qq != 0) = true := by simpa using hq0
                      clear HD hq0
                      go_wp2_with (first
                        | go_skip | ((with_reducible refine at_slice 9 ?_); refine wpList_value (wanted_none rfl) (run_from 9 _ _ rfl Try.underlying9 9 rfl rfl HS9.out) ?_; rw [HR.out]) | (with_reducible refine at_load 4 ?_; (first | refine mem_load' st 4 _ rfl (wanted_none rfl) Try.isAgg4 ?_ | (refine mem_load' st 4 _ rfl (wanted_some rfl ?_) Try.isAgg4 ?_; focus (simp [yielded, Act.put]; done))); refine ⟨2, _, _, _, _, _, rfl, rfl, rfl, ?_⟩) | (with_reducible refine at_load 29 ?_; (first | refine mem_load_agg' st 29 _ rfl (wanted_none rfl) Try.isAgg29 _ Try.sizeOf29 ?_ | (refine mem_load_agg' st 29 _ rfl (wanted_some rfl ?_) Try.isAgg29 _ Try.sizeOf29 ?_; focus (simp [yielded, Act.put]; done))); refine ⟨2, _, _, _, _, _, rfl, rfl, rfl, rfl, ?_⟩) | (with_reducible refine at_load 29 ?_; (first | refine mem_load_agg' st 29 _ rfl (wanted_none rfl) Try.isAgg29 _ Try.sizeOf29 ?_ | (refine mem_load_agg' st 29 _ rfl (wanted_some rfl ?_) Try.isAgg29 _ Try.sizeOf29 ?_; focus (simp [yielded, Act.put]; done))); refine ⟨1, _, _, _, _, _, rfl, rfl, rfl, rfl, ?_⟩)
                        | (go_at_call 12; go_must (refine (HG.out _ hF).mono ?_; rintro e v90 ⟨rfl, hb⟩; replace st := st.call hb; clear hb)) | (with_reducible refine at_store 29 ?_; (first | refine mem_store' st 29 _ _ rfl (wanted_none rfl) _ Try.sizeOf29 ?_ | (refine mem_store' st 29 _ _ rfl (wanted_some rfl ?_) _ Try.sizeOf29 ?_; focus (simp [yielded, Act.put]; done))); refine ⟨0, _, _, _, _, _, rfl, rfl, rfl, rfl, rfl, rfl, ?_⟩; clear st; intro w90 st hw90m hw90z; simp [Act.eval, Act.put, Value.cells, putL] at st))
                      have hc := fun j => st.cell (i := 0) rfl j
                      refine bodyPost_ret (v := .tuple #[frameV zeroF none 0 none 0 none 0, .int .i64 qq]) ?hr rfl ⟨none, 0, none, 0, none, 0, ?_, ?_, st.below⟩
                      case hr => simp [results, Try.results20, go_sem, hc, frameV]; try rfl
                      · rw [HE.out]
                      · rw [HE.out]; exact hz.below st.below

end Go.Proofs.Ytemjnojfhbbapaa

/- parcloseref.DecodeFrame, whatever comes. -/
namespace Go.Proofs.Ytemjnojfhbbapaa
open Go.RowKit

set_option maxRecDepth 100000 in
set_option maxHeartbeats 8000000 in
theorem ref_DecodeFrame (w : World) (s : List UInt8) (hl : s.length ≤ 9223372036854775807) : Calls Try.prog 20 #[.string (ba s)] w (DecPost w s) := by
  have hsz := ba_size s
  have hz : FrameR (fun b => w.heap.size ≤ b) w zeroF none 0 none 0 none 0 := ⟨⟨SlR.nil _ _ _ _, SlR.nil _ _ _ _⟩, SlR.nil _ _ _ _⟩
  have st := St.start w
  by_cases hs9 : s.length < 9
  case pos =>
    have HE := Lib.hid (dec_short hs9)
    have d1 : decide ((s.length : Int) < 9) = true := by simp; omega
    clear hs9
    go_enter Try.func20, Try.ntmps20
    go_upto_region 1 with (first | go_skip | (with_reducible refine at_alloc 29 ?_; refine mem_alloc st (wanted_none rfl) 29 rfl _ Try.zeroValue29 _ rfl ?_; clear st; intro g2 w2 hg2 st hg2b; clear hg2b; simp [Act.eval, Act.put, Value.cells, putL] at st))
    go_wp2_with (first | go_skip | (with_reducible refine at_alloc 29 ?_; refine mem_alloc st (wanted_none rfl) 29 rfl _ Try.zeroValue29 _ rfl ?_; clear st; intro g4 w4 hg4 st hg4b; clear hg4b; simp [Act.eval, Act.put, Value.cells, putL] at st) | (with_reducible refine at_store 29 ?_; (first | refine mem_store' st 29 _ _ rfl (wanted_none rfl) _ Try.sizeOf29 ?_ | (refine mem_store' st 29 _ _ rfl (wanted_some rfl ?_) _ Try.sizeOf29 ?_; focus (simp [yielded, Act.put]; done))); refine ⟨1, _, _, _, _, _, rfl, rfl, rfl, rfl, rfl, rfl, ?_⟩; clear st; intro w5 st hw5m hw5z; simp [Act.eval, Act.put, Value.cells, putL] at st) | (with_reducible refine at_load 29 ?_; (first | refine mem_load_agg' st 29 _ rfl (wanted_none rfl) Try.isAgg29 _ Try.sizeOf29 ?_ | (refine mem_load_agg' st 29 _ rfl (wanted_some rfl ?_) Try.isAgg29 _ Try.sizeOf29 ?_; focus (simp [yielded, Act.put]; done))); refine ⟨1, _, _, _, _, _, rfl, rfl, rfl, rfl, ?_⟩) | (with_reducible refine at_store 29 ?_; (first | refine mem_store' st 29 _ _ rfl (wanted_none rfl) _ Try.sizeOf29 ?_ | (refine mem_store' st 29 _ _ rfl (wanted_some rfl ?_) _ Try.sizeOf29 ?_; focus (simp [yielded, Act.put]; done))); refine ⟨0, _, _, _, _, _, rfl, rfl, rfl, rfl, rfl, rfl, ?_⟩; clear st; intro w6 st hw6m hw6z; simp [Act.eval, Act.put, Value.cells, putL] at st))
    have hc := fun j => st.cell (i := 0) rfl j
    refine bodyPost_ret (v := .tuple #[frameV zeroF none 0 none 0 none 0, .int .i64 1]) ?hr rfl ⟨none, 0, none, 0, none, 0, ?_, ?_, st.below⟩
    case hr => simp [results, Try.results20, go_sem, hc, frameV]; try rfl
    · rw [HE.out]
    · rw [HE.out]; exact hz.below st.below
  have d1 : decide ((s.length : Int) < 9) = false := by simp; omega
  obtain ⟨k, a, b, q, r, hs, hq⟩ : ∃ (k a b : UInt8) (q r : List UInt8), s = k :: a :: b :: (q ++ r) ∧ q.length = 6 := by
    match s, hs9 with
    | [], h => simp at h
    | [_], h => simp at h
    | [_, _], h => simp at h
    | k :: a :: b :: t, h => exact ⟨k, a, b, t.take 6, t.drop 6, by rw [List.take_append_drop], by simp at h ⊢; omega⟩
  by_cases hk : 1 < k.toNat
  case pos =>
    have HH := Lib.hid (show pHead s = some (((k.toNat : Int), (a.toNat : Int), (b.toNat : Int), numOf q), r) by rw [hs]; exact pHead_eq k a b q r hq)
    have H0 := Lib.hid (show s[0]? = some k by rw [hs]; rfl)
    have HE := Lib.hid (dec_kind HH.out (by simp only; omega))
    have d2 : decide ((1 : Int) < (k.toNat : Int)) = true := by simp; omega
    clear hs9 hs
    go_enter Try.func20, Try.ntmps20
    go_upto_region 1 with (first | go_skip | (with_reducible refine at_alloc 29 ?_; refine mem_alloc st (wanted_none rfl) 29 rfl _ Try.zeroValue29 _ rfl ?_; clear st; intro g2 w2 hg2 st hg2b; clear hg2b; simp [Act.eval, Act.put, Value.cells, putL] at st))
    go_wp2_with (first | go_skip | (with_reducible refine at_alloc 29 ?_; refine mem_alloc st (wanted_none rfl) 29 rfl _ Try.zeroValue29 _ rfl ?_; clear st; intro g4 w4 hg4 st hg4b; clear hg4b; simp [Act.eval, Act.put, Value.cells, putL] at st) | (with_reducible refine at_store 29 ?_; (first | refine mem_store' st 29 _ _ rfl (wanted_none rfl) _ Try.sizeOf29 ?_ | (refine mem_store' st 29 _ _ rfl (wanted_some rfl ?_) _ Try.sizeOf29 ?_; focus (simp [yielded, Act.put]; done))); refine ⟨1, _, _, _, _, _, rfl, rfl, rfl, rfl, rfl, rfl, ?_⟩; clear st; intro w5 st hw5m hw5z; simp [Act.eval, Act.put, Value.cells, putL] at st) | ((with_reducible refine at_index 9 ?_); first | refine wpList_value (wanted_none rfl) (run_byte 9 _ _ rfl Try.underlying9 (i := 0) rfl rfl H0.out) ?_ | refine wpList_value (wanted_some rfl rfl) (run_byte 9 _ _ rfl Try.underlying9 (i := 0) rfl rfl H0.out) ?_) | (with_reducible refine at_load 29 ?_; (first | refine mem_load_agg' st 29 _ rfl (wanted_none rfl) Try.isAgg29 _ Try.sizeOf29 ?_ | (refine mem_load_agg' st 29 _ rfl (wanted_some rfl ?_) Try.isAgg29 _ Try.sizeOf29 ?_; focus (simp [yielded, Act.put]; done))); refine ⟨1, _, _, _, _, _, rfl, rfl, rfl, rfl, ?_⟩) | (with_reducible refine at_store 29 ?_; (first | refine mem_store' st 29 _ _ rfl (wanted_none rfl) _ Try.sizeOf29 ?_ | (refine mem_store' st 29 _ _ rfl (wanted_some rfl ?_) _ Try.sizeOf29 ?_; focus (simp [yielded, Act.put]; done))); refine ⟨0, _, _, _, _, _, rfl, rfl, rfl, rfl, rfl, rfl, ?_⟩; clear st; intro w6 st hw6m hw6z; simp [Act.eval, Act.put, Value.cells, putL] at st))
    have hc := fun j => st.cell (i := 0) rfl j
    refine bodyPost_ret (v := .tuple #[frameV zeroF none 0 none 0 none 0, .int .i64 1]) ?hr rfl ⟨none, 0, none, 0, none, 0, ?_, ?_, st.below⟩
    case hr => simp [results, Try.results20, go_sem, hc, frameV]; try rfl
    · rw [HE.out]
    · rw [HE.out]; exact hz.below st.below
  by_cases hk1 : (k.toNat : Int) = 1
  · exact ref_dec_ack w s k a b q r hl hs hq hk1
  · exact ref_dec_mail w s k a b q r hl hs hq (by omega)

end Go.Proofs.Ytemjnojfhbbapaa
