/- Walks and plain laws, part 15. -/
import Derived.Test.YtnjjdpiofbajlaaGreatP12
import Derived.Test.YtnjjdpiofbajlaaGreatP9
set_option linter.unusedSimpArgs false
set_option linter.unusedVariables false
set_option maxHeartbeats 16000000
set_option maxRecDepth 100000
namespace Go.Proofs.YtnjjdpiofbajlaaGreat
open Go.RowKit
theorem FrameR.move {ok ok' : Nat → Prop} {w w' : World} {f : Frame} {la : Option Addr} {lc : Nat} {ga : Option Addr} {gc : Nat} {ca : Option Addr} {cc : Nat} (h : FrameR ok w f la lc ga gc ca cc) (hs : w.heap.size ≤ w'.heap.size) (hk : ∀ b, b < w.heap.size → ok b → ok' b ∧ w'.heap[b]? = w.heap[b]?) : FrameR ok' w' f la lc ga gc ca cc :=
 ⟨⟨h.mail.label.move hs hk fun _ _ h => h, h.mail.grants.move hs hk fun _ _ h => h⟩, h.certs.move hs hk fun _ _ h => h⟩
theorem SentR.move {ok ok' : Nat → Prop} {w w' : World} {a : Option Addr} {c : Nat} {xs : List Sent} (h : SentR ok w a c xs) (hs : w.heap.size ≤ w'.heap.size) (hk : ∀ b, b < w.heap.size → ok b → ok' b ∧ w'.heap[b]? = w.heap[b]?) : SentR ok' w' a c xs :=
 SlR.move h hs hk fun _ _ h => RSent.move h hs hk
theorem okmono {ok : Nat → Prop} {w w' : World} {cs : List Value} {s : Sent} (h : RSent ok w cs s) (hb : Below w.heap.size w w') : RSent ok w' cs s := RSent.keep (.of_below hb) h
theorem line_Send_ok (ok : Nat → Prop) (w : World) (hok : ∀ b, w.heap.size ≤ b → ok b) (next high : Int) (sa : Option Addr) (sc : Nat) (sent : List Sent) (e : Eight) (f : Frame) (la : Option Addr) (lc : Nat) (ga : Option Addr) (gc : Nat) (ca : Option Addr) (cc : Nat) (now : Int) (hR : SentR ok w sa sc sent) (hF : FrameR ok w f la lc ga gc ca cc)
  (hg : lineOk ⟨next, sent, high, e⟩ = true) (h1 : 0 ≤ now) (h2 : now ≤ 1099511627776) (h3 : sent.length < 8) (h4 : next < 1099511627775) :
  Calls Tryz.prog 64 #[lineV next high sa sent.length sc e, frameV f la lc ga gc ca cc, .int .i64 now] w fun r w' => ∃ a' c', r = .returned (.tuple #[lineV (next + 1) high a' (sent.length + 1) c' e, frameV { f with seq := next + 1 } la lc ga gc ca cc, .int .i64 0]) ∧ Below w.heap.size w w' ∧ SentR ok w' a' c' (sent ++ [⟨{ f with seq := next + 1 }, 1, now + 2⟩]) := by
 have hG := fun W (hW : SentR ok W sa sc sent) => line_Good ok W next high sa sc sent e hW
 obtain ⟨b3, b4, b1, b2, b5⟩ := lineOk_high hg
 obtain ⟨i0, hi, hz0, hz1, hz2⟩ := info_parts info_Sent
 rw [hg] at hG
 have HG := qh hG
 clear hG hg
 have d0 : decide (now < 0) = false := by simp; omega
 have d1 : decide (1099511627776 < now) = false := by simp; omega
 have dq : decide ((8 : Int) ≤ (sent.length : Int)) = false := by simp; omega
 have dq2 : decide (1099511627775 ≤ next) = false := by simp; omega
 unfold lineV frameV at *
 have st := St.start w
 go_enter Tryz.func64, Tryz.ntmps64
 go_wp2_with (first
  | (with_reducible refine mB 80 st ?_; clear st; intro g1 w1 hg1 st) | (with_reducible refine mB 110 st ?_; clear st; intro g2 w2 hg2 st) | (with_reducible refine mA st Tryz.zeroValue80 ?_; clear st; intro g3 w3 hg3 st) | (with_reducible refine mA st Tryz.zeroValue110 ?_; clear st; intro g4 w4 hg4 st) | (with_reducible refine mXA st Tryz.isAgg80 Tryz.sizeOf80 ?_) | (with_reducible refine mX st Tryz.isAgg77 ?_) | (with_reducible refine mX st Tryz.isAgg3 ?_) | (with_reducible refine mS 0 st Tryz.sizeOf3 ?_; clear st; intro w8 st hw8m hw8z) | (with_reducible refine mS 1 st Tryz.sizeOf3 ?_; clear st; intro w9 st hw9m hw9z)
  | (go_at_call 78; refine (HG.out _ (SentR.below hR st.below)).mono ?_; rintro r v1 ⟨rfl, hb1⟩; replace st := st.call hb1; clear hb1))
 have hw := st.below
 have hRb : SlR ok w9 13 (RSent ok w) sa sc sent := SlR.below hR hw
 have z1 := st.ltAt (i := 0) rfl
 have z2 := st.ltAt (i := 1) rfl
 have z3 := st.ltAt (i := 2) rfl
 have z4 := st.ltAt (i := 3) rfl
 simp only [kP, kA, kS, kZ]
 refine wp_region_ahead (by kernel_rfl) [(0, some 42), (1, some 43), (2, some 44), (3, some 45), (4, some 46), (5, some 47), (6, some 48), (7, some 49), (8, some 50)] [0, 1, 2, 3, 4, 5, 6, 7, 8] rfl 3 (by decide +kernel) rfl (fun w w' => Below w.heap.size w w') (fun i v w' => match i with
  | 0 => v = .pointer (some ⟨g1, 1, none⟩)
  | 1 => v = .slice sa sent.length sc
  | 2 => ∃ a c, v = .slice a sent.length c ∧ Own w9.heap.size 148 w' 13 (RSent ok w) a c sent
  | 3 => v = .agg #[.int .i64 f.src, .int .i64 f.dst, .int .i64 (next + 1), .bool f.ack, .int .i64 f.thread, .int .i64 f.mail.host, .int .i64 f.mail.thread, .slice la f.mail.label.length lc, .slice ga f.mail.grants.length gc, .string f.mail.text, .slice ca f.certs.length cc]
  | 4 => v = .int .i64 now
  | 5 => v = .int .i64 2
  | 6 => v = .int .i64 (now + 2)
  | 7 => v = .agg #[.int .i64 f.src, .int .i64 f.dst, .int .i64 (next + 1), .bool f.ack, .int .i64 f.thread, .int .i64 f.mail.host, .int .i64 f.mail.thread, .slice la f.mail.label.length lc, .slice ga f.mail.grants.length gc, .string f.mail.text, .slice ca f.certs.length cc, .int .i64 1, .int .i64 (now + 2)]
  | _ => ∃ g, v = .slice (some ⟨g, 0, none⟩) 1 1 ∧ w9.heap.size ≤ g ∧ w'.heap[g]? = some (.cells #[.int .i64 f.src, .int .i64 f.dst, .int .i64 (next + 1), .bool f.ack, .int .i64 f.thread, .int .i64 f.mail.host, .int .i64 f.mail.thread, .slice la f.mail.label.length lc, .slice ga f.mail.grants.length gc, .string f.mail.text, .slice ca f.certs.length cc, .int .i64 1, .int .i64 (now + 2)] 148 (0, 0)))
  (fun w' => Below w9.heap.size w9 w') (Below.refl _ _).drew ?mono ?step ?fin
 case mono =>
  intro i v w0 w' hi hb _ _ h
  simp only [List.mem_cons, List.not_mem_nil, or_false] at hi
  rcases hi with rfl | rfl | rfl | rfl | rfl | rfl | rfl | rfl | rfl
  case inr.inr.inl => obtain ⟨a, c, e, hO⟩ := h; exact ⟨a, c, e, hO.below hb⟩
  case inr.inr.inr.inr.inr.inr.inr.inr => obtain ⟨g, e, hle, hg⟩ := h; exact ⟨g, e, hle, (hb.block g (Array.getElem?_eq_some_iff.1 hg).1).trans hg⟩
  all_goals exact h
 case step =>
  intro i t hi x W hI hp K hK
  simp only [List.mem_cons, List.not_mem_nil, or_false, Prod.mk.injEq] at hi
  rcases hi with ⟨rfl, rfl⟩ | ⟨rfl, rfl⟩ | ⟨rfl, rfl⟩ | ⟨rfl, rfl⟩ | ⟨rfl, rfl⟩ | ⟨rfl, rfl⟩ | ⟨rfl, rfl⟩ | ⟨rfl, rfl⟩ | ⟨rfl, rfl⟩
  all_goals simp only [putAll, Act.put, List.setIfInBounds_toArray, List.set_cons_succ, List.set_cons_zero] at hK ⊢
  all_goals have stW := st.call hI
  all_goals refine wpOp_at rfl rfl ?_
  ·exact wp_value (v := .pointer (some ⟨g1, 1, none⟩)) (by go_simp) (hK _ _ (Below.refl _ _) hI rfl)
  ·have p0 : x 0 = _ := hp 0 (by decide +kernel)
   exact wp_load' stW 77 _ rfl Tryz.isAgg77 ⟨0, g1, 1, _, _, _, p0, rfl, rfl, hK _ _ (Below.refl _ _) hI rfl⟩
  ·have p1 : x 1 = _ := hp 1 (by decide +kernel)
   simp only [p1] at hK ⊢
   go_simp
   refine (slices_Clone_Sent ok _ _ _ sent (by omega) (SlR.below hRb hI)).mono ?_
   rintro r v1 ⟨a1, k1, rfl, hb1, hO1⟩
   exact hK _ _ hb1 (hI.keep hb1) ⟨a1, k1, rfl, hO1.le hI.size⟩
  ·exact wp_load_agg' stW 110 _ rfl Tryz.isAgg110 _ Tryz.sizeOf110 ⟨1, g2, 0, _, _, _, rfl, rfl, rfl, rfl, hK _ _ (Below.refl _ _) hI rfl⟩
  ·exact wp_value (v := .int .i64 now) (by go_simp) (hK _ _ (Below.refl _ _) hI rfl)
  ·go_simp
   refine (line_wait 1 _ (by omega) (by omega)).mono ?_
   rintro r v1 ⟨rfl, rfl⟩
   exact hK _ _ (Below.refl _ _) hI rfl
  ·have p4 : x 4 = _ := hp 4 (by decide +kernel)
   have p5 : x 5 = _ := hp 5 (by decide +kernel)
   simp only [p4, p5] at hK ⊢
   have hwr : IntKind.i64.wrap (now + 2) = now + 2 := IntWalk.i64_in _ (by omega)
   exact wp_value (v := .int .i64 (now + 2)) (by go_simp) (hK _ _ (Below.refl _ _) hI rfl)
  ·have p3 : x 3 = _ := hp 3 (by decide +kernel)
   have p6 : x 6 = _ := hp 6 (by decide +kernel)
   simp only [p3, p6] at hK ⊢
   exact wp_value (v := _) (by go_simp) (hK _ _ (Below.refl _ _) hI rfl)
  ·have p7 : x 7 = _ := hp 7 (by decide +kernel)
   simp only [p7] at hK ⊢
   exact wp_build1 stW 77 148 _ rfl Tryz.underlying77 13 Tryz.sizeOf148 (by decide) (by decide) _ Tryz.zeroValue148 _ rfl rfl fun g W' h1 h2 h3 h4 h5 =>
    hK _ _ h4 (hI.keep h4) ⟨g, rfl, by have := hI.size; omega, h3.blk _ (mgE (i := 4) rfl)⟩
 case fin =>
  intro x W hI hG
  have p0 : x 0 = _ := hG 0 (by simp)
  obtain ⟨a1, k1, p2, hO1⟩ : ∃ a c, x 2 = .slice a sent.length c ∧ Own w9.heap.size 148 W 13 (RSent ok w) a c sent := hG 2 (by simp)
  obtain ⟨gb, p8, hle, hgb⟩ := hG 8 (by simp)
  simp only [putAll, Act.put, List.setIfInBounds_toArray, List.set_cons_succ, List.set_cons_zero]
  refine wpAny_at (i := 9) rfl rfl (by decide +kernel) fun K hK => ?_
  refine wp_app1 _ _ 77 rfl 148 i0 _ 13 160 Tryz.underlying77 hi hz0 hz1 hz2 rfl (by decide) (y := (⟨{ f with seq := next + 1 }, 1, now + 2⟩ : Sent)) p2 rfl hO1 p8 (SlR.ofBlk (ok := fun _ => True) hgb ⟨la, lc, ga, gc, ca, cc, rfl, hF.mail.label, hF.mail.grants, hF.certs⟩ rfl rfl trivial) (by omega) (by unfold maxLen; omega) hI.size ?_
  intro g7 c7 w7 hO7 hgr hat hlt7
  refine hK _ _ ?_
  clear hK
  have hB7 : Below w9.heap.size w9 w7 := hO1.grown hI hgr (Nat.le_refl _) hI.size
  have st7 := st.call hB7
  simp only [kP, kA, kS, kZ]
  refine wpAny_at (i := 10) rfl rfl (by decide +kernel) fun K hK => ?_
  refine wp_value (w' := w7) (v := .pointer (some ⟨g1, 1, none⟩)) (by go_simp) (hK _ _ ?_)
  clear hK
  simp only [kP, kA, kS, kZ]
  refine wpAny_at (i := 11) rfl rfl (by decide +kernel) fun K hK => ?_
  refine wp_store' st7.rebase 77 _ _ rfl _ Tryz.sizeOf77 ⟨0, g1, 1, _, _, _, rfl, rfl, rfl, rfl, rfl, rfl, fun w8' st8 hm8 hz8 => hK _ _ ?_⟩
  clear hK
  refine wpAny_done (by decide +kernel) ?_ 0
  simp [Act.eval, Act.put, Value.cells, putL] at st8
  have hne34 : g3 ≠ g4 := by
   have := st8.ne
   simp at this
   exact this.2.2
  clear st st7 hgb hO1 hgr
  go_wp2
  simp only [kP, kA, kS, kZ]
  refine wp_region_ahead (by kernel_rfl) [(0, some 53), (1, some 54), (2, none), (3, none), (4, some 8)] [0, 1, 2, 3, 4] rfl 0 (by decide +kernel) rfl
   (fun u u' => (u.heap[g3]? = some (.cells #[.int .i64 (next + 1), .slice (some ⟨g7, 0, none⟩) (sent.length + 1) c7, .int .i64 high, .bool e.s0, .bool e.s1, .bool e.s2, .bool e.s3, .bool e.s4, .bool e.s5, .bool e.s6, .bool e.s7] 80 (0, 0)) → u'.heap[g3]? = some (.cells #[.int .i64 (next + 1), .slice (some ⟨g7, 0, none⟩) (sent.length + 1) c7, .int .i64 high, .bool e.s0, .bool e.s1, .bool e.s2, .bool e.s3, .bool e.s4, .bool e.s5, .bool e.s6, .bool e.s7] 80 (0, 0))) ∧ (u.heap[g4]? = some (.cells #[.int .i64 f.src, .int .i64 f.dst, .int .i64 (next + 1), .bool f.ack, .int .i64 f.thread, .int .i64 f.mail.host, .int .i64 f.mail.thread, .slice la f.mail.label.length lc, .slice ga f.mail.grants.length gc, .string f.mail.text, .slice ca f.certs.length cc] 110 (0, 0)) → u'.heap[g4]? = some (.cells #[.int .i64 f.src, .int .i64 f.dst, .int .i64 (next + 1), .bool f.ack, .int .i64 f.thread, .int .i64 f.mail.host, .int .i64 f.mail.thread, .slice la f.mail.label.length lc, .slice ga f.mail.grants.length gc, .string f.mail.text, .slice ca f.certs.length cc] 110 (0, 0))))
   (fun i v u => match i with
    | 0 => v = .agg #[.int .i64 (next + 1), .slice (some ⟨g7, 0, none⟩) (sent.length + 1) c7, .int .i64 high, .bool e.s0, .bool e.s1, .bool e.s2, .bool e.s3, .bool e.s4, .bool e.s5, .bool e.s6, .bool e.s7]
    | 1 => v = .agg #[.int .i64 f.src, .int .i64 f.dst, .int .i64 (next + 1), .bool f.ack, .int .i64 f.thread, .int .i64 f.mail.host, .int .i64 f.mail.thread, .slice la f.mail.label.length lc, .slice ga f.mail.grants.length gc, .string f.mail.text, .slice ca f.certs.length cc]
    | 2 => u.heap[g3]? = some (.cells #[.int .i64 (next + 1), .slice (some ⟨g7, 0, none⟩) (sent.length + 1) c7, .int .i64 high, .bool e.s0, .bool e.s1, .bool e.s2, .bool e.s3, .bool e.s4, .bool e.s5, .bool e.s6, .bool e.s7] 80 (0, 0))
    | 3 => u.heap[g4]? = some (.cells #[.int .i64 f.src, .int .i64 f.dst, .int .i64 (next + 1), .bool f.ack, .int .i64 f.thread, .int .i64 f.mail.host, .int .i64 f.mail.thread, .slice la f.mail.label.length lc, .slice ga f.mail.grants.length gc, .string f.mail.text, .slice ca f.certs.length cc] 110 (0, 0))
    | _ => v = .int .i64 0)
   (fun u => ∃ c3 c4 : List Value, c3.length = 11 ∧ c4.length = 11 ∧ St [g1, g2, g3, g4] w7 u [(g1, 80, [.int .i64 (next + 1), .slice (some ⟨g7, 0, none⟩) (sent.length + 1) c7, .int .i64 high, .bool e.s0, .bool e.s1, .bool e.s2, .bool e.s3, .bool e.s4, .bool e.s5, .bool e.s6, .bool e.s7]), (g2, 110, [.int .i64 f.src, .int .i64 f.dst, .int .i64 (next + 1), .bool f.ack, .int .i64 f.thread, .int .i64 f.mail.host, .int .i64 f.mail.thread, .slice la f.mail.label.length lc, .slice ga f.mail.grants.length gc, .string f.mail.text, .slice ca f.certs.length cc]), (g3, 80, c3), (g4, 110, c4)]) ⟨_, _, rfl, rfl, st8.drew⟩ ?mono2 ?step2 ?fin2
  case mono2 =>
   intro i v u u' hi hr _ _ h
   simp only [List.mem_cons, List.not_mem_nil, or_false] at hi
   rcases hi with rfl | rfl | rfl | rfl | rfl
   case inr.inr.inl => exact hr.1 h
   case inr.inr.inr.inl => exact hr.2 h
   all_goals exact h
  case step2 =>
   intro i t hi x U hI2 hp K hK
   obtain ⟨c3, c4, l3, l4, stU⟩ := hI2
   simp only [List.mem_cons, List.not_mem_nil, or_false, Prod.mk.injEq] at hi
   rcases hi with ⟨rfl, rfl⟩ | ⟨rfl, rfl⟩ | ⟨rfl, rfl⟩ | ⟨rfl, rfl⟩ | ⟨rfl, rfl⟩
   all_goals simp only [putAll, Act.put, List.setIfInBounds_toArray, List.set_cons_succ, List.set_cons_zero] at hK ⊢
   all_goals refine wpOp_at rfl rfl ?_
   ·exact wp_load_agg' stU 80 _ rfl Tryz.isAgg80 _ Tryz.sizeOf80 ⟨0, g1, 0, _, _, _, rfl, rfl, rfl, rfl, hK _ _ ⟨id, id⟩ ⟨c3, c4, l3, l4, stU⟩ rfl⟩
   ·exact wp_load_agg' stU 110 _ rfl Tryz.isAgg110 _ Tryz.sizeOf110 ⟨1, g2, 0, _, _, _, rfl, rfl, rfl, rfl, hK _ _ ⟨id, id⟩ ⟨c3, c4, l3, l4, stU⟩ rfl⟩
   ·have p0 : x 0 = _ := hp 0 (by decide +kernel)
    simp only [p0] at hK ⊢
    obtain ⟨v0, v1, v2, v3, v4, v5, v6, v7, v8, v9, v10, rfl⟩ := len11 l3
    refine wp_store' stU 80 _ _ rfl _ Tryz.sizeOf80 ⟨2, g3, 0, _, _, _, rfl, rfl, rfl, rfl, rfl, rfl, fun u' stu hm hz => ?_⟩
    simp [Act.eval, Act.put, Value.cells, putL] at stu
    exact hK undef _ ⟨fun _ => stu.blk _ (mgE (i := 2) rfl), fun h => (hm g4 (fun e => hne34 e.symm)).trans h⟩ ⟨_, c4, rfl, l4, stu⟩ (stu.blk _ (mgE (i := 2) rfl))
   ·have p1 : x 1 = _ := hp 1 (by decide +kernel)
    simp only [p1] at hK ⊢
    obtain ⟨v0, v1, v2, v3, v4, v5, v6, v7, v8, v9, v10, rfl⟩ := len11 l4
    refine wp_store' stU 110 _ _ rfl _ Tryz.sizeOf110 ⟨3, g4, 0, _, _, _, rfl, rfl, rfl, rfl, rfl, rfl, fun u' stu hm hz => ?_⟩
    simp [Act.eval, Act.put, Value.cells, putL] at stu
    exact hK undef _ ⟨fun h => (hm g3 hne34).trans h, fun _ => stu.blk _ (mgE (i := 3) rfl)⟩ ⟨c3, _, l3, rfl, stu⟩ (stu.blk _ (mgE (i := 3) rfl))
   ·exact wp_value (w' := U) (v := .int .i64 0) (by go_simp) (hK _ _ ⟨id, id⟩ ⟨c3, c4, l3, l4, stU⟩ rfl)
  case fin2 =>
   intro x U hI2 hG2
   obtain ⟨c3, c4, l3, l4, stU⟩ := hI2
   have q2 : U.heap[g3]? = _ := hG2 2 (by simp)
   have q3 : U.heap[g4]? = _ := hG2 3 (by simp)
   have q4 : x 4 = .int .i64 0 := hG2 4 (by simp)
   simp only [putAll, Act.put, List.setIfInBounds_toArray, List.set_cons_succ, List.set_cons_zero]
   refine wpAny_done (by decide +kernel) ?_ 0
   simp only [q4]
   go_wp2
   have hc := fun j => cell_of_row U g3 j _ _ _ q2
   have hc' := fun j => cell_of_row U g4 j _ _ _ q3
   have hwz := hw.size
   have hBU : Below w.heap.size w U := (hw.keep hB7).trans (stU.belowB (by have := hB7.size; omega) (by simp; omega))
   refine bodyPost_ret (v := _) ?hr rfl ⟨some ⟨g7, 0, none⟩, c7, rfl, hBU, ?_⟩
   case hr => simp [results, Tryz.results64, go_sem, hc, hc']
   have hs := hO7.slr (ok := fun b => w9.heap.size ≤ b) fun b hb => hb
   exact hs.move stU.size (fun b hb ho => ⟨hok b (by omega), stU.frame b hb (by simp; omega)⟩) fun _ _ h => okmono h hBU
theorem St.grown {M : List Nat} {w0 w w' : World} {own : Blks} {row : Option Nat} (st : St M w0 w own) (hg : w.grownBy w' row) (hn : ∀ x ∈ own, row ≠ some x.1) : St (row.toList ++ M) w0 w' own := by
 refine ⟨hg.os.trans st.os, hg.tape.trans st.tape, hg.output.trans st.output, Nat.le_trans st.size hg.size, fun b hb hM => ?_, fun x hx => ?_, fun x hx => ?_, st.ne⟩
 ·rw [hg.block b (Nat.lt_of_lt_of_le hb st.size) (by rintro rfl; simp at hM), st.frame b hb (by simp at hM; exact hM.2)]
 ·rw [hg.block _ (st.lt hx) fun e => hn x hx e.symm]
  exact st.blk x hx
 ·rcases st.mine x hx with h | h
  ·exact .inl (by simp [h])
  ·exact .inr h
structure SendX where
 k : Int
 next : Int
 sent : List Sent
 f : Frame
def frame0 : Frame := ⟨0, 0, 0, false, 0, ⟨0, 0, [], [], ⟨#[]⟩⟩, []⟩
def sendX (g : Bool) (next : Int) (sent : List Sent) (f : Frame) (now : Int) : SendX :=
 if g = false ∨ now < 0 ∨ 1099511627776 < now then ⟨2, next, sent, frame0⟩
 else if sent.length = 8 ∨ next = 1099511627775 then ⟨5, next, sent, frame0⟩
 else ⟨0, next + 1, sent ++ [⟨{ f with seq := next + 1 }, 1, now + 2⟩], { f with seq := next + 1 }⟩
theorem FrameR.zero (ok : Nat → Prop) (w : World) : FrameR ok w frame0 none 0 none 0 none 0 := ⟨⟨SlR.nil _ _ _ _, SlR.nil _ _ _ _⟩, SlR.nil _ _ _ _⟩
theorem line_Send (ok : Nat → Prop) (w : World) (hok : ∀ b, w.heap.size ≤ b → ok b) (next high : Int) (sa : Option Addr) (sc : Nat) (sent : List Sent) (e : Eight) (f : Frame) (la : Option Addr) (lc : Nat) (ga : Option Addr) (gc : Nat) (ca : Option Addr) (cc : Nat) (now : Int) (hR : SentR ok w sa sc sent) (hF : FrameR ok w f la lc ga gc ca cc) (hf : ∀ s ∈ sent, s.frame.Fits) (hff : f.Fits)
  (g : Bool) (hg : lineOk ⟨next, sent, high, e⟩ = g) (r : SendX) (hr : sendX g next sent f now = r) :
  Calls Tryz.prog 64 #[lineV next high sa sent.length sc e, frameV f la lc ga gc ca cc, .int .i64 now] w fun v w' => ∃ a' c' la' lc' ga' gc' ca' cc', v = .returned (.tuple #[lineV r.next high a' r.sent.length c' e, frameV r.f la' lc' ga' gc' ca' cc', .int .i64 r.k]) ∧ Below w.heap.size w w' ∧ SentR ok w' a' c' r.sent ∧ FrameR ok w' r.f la' lc' ga' gc' ca' cc' := by
 unfold sendX at hr
 subst hg
 by_cases h1 : lineOk ⟨next, sent, high, e⟩ = false ∨ now < 0 ∨ 1099511627776 < now
 ·rw [if_pos h1] at hr
  subst hr
  refine (line_Send_range ok w next high sa sc sent e f la lc ga gc ca cc now hR h1).mono ?_
  rintro v w' ⟨rfl, hb⟩
  exact ⟨sa, sc, none, 0, none, 0, none, 0, rfl, hb, SentR.below hR hb, FrameR.zero _ _⟩
 ·rw [if_neg h1] at hr
  obtain ⟨h1, h2, h3⟩ : lineOk ⟨next, sent, high, e⟩ = true ∧ 0 ≤ now ∧ now ≤ 1099511627776 := by
   refine ⟨?_, by omega, by omega⟩
   cases h : lineOk ⟨next, sent, high, e⟩
   ·exact absurd (Or.inl h) h1
   ·rfl
  obtain ⟨b3, b4, b1, b2, b5⟩ := lineOk_high h1
  by_cases h4 : sent.length = 8 ∨ next = 1099511627775
  ·rw [if_pos h4] at hr
   subst hr
   refine (line_Send_full ok w next high sa sc sent e f la lc ga gc ca cc now hR h1 h2 h3 h4).mono ?_
   rintro v w' ⟨rfl, hb⟩
   exact ⟨sa, sc, none, 0, none, 0, none, 0, rfl, hb, SentR.below hR hb, FrameR.zero _ _⟩
  ·rw [if_neg h4] at hr
   subst hr
   refine (line_Send_ok ok w hok next high sa sc sent e f la lc ga gc ca cc now hR hF  h1 h2 h3 (by omega) (by omega)).mono ?_
   rintro v w' ⟨a', c', rfl, hb, hS⟩
   have hF' := hF.below hb
   exact ⟨a', c', la, lc, ga, gc, ca, cc, by simp, hb, hS, ⟨⟨hF'.mail.label, hF'.mail.grants⟩, hF'.certs⟩⟩
end Go.Proofs.YtnjjdpiofbajlaaGreat
