/- For every line, frame and time, Good and Send answer exactly what the document's reference says, errors too. No condition. -/
import Derived.Test.YtclocdhkpckolaaRows
import Derived.Test.YtclocdhkpckolaaSendB
import Derived.Test.YtclocdhkpckolaaTwo
import Derived.Test.YtclocdhkpckolaaSameL
import Derived.Test.YtclocdhkpckolaaLines
import Derived.Test.YtclocdhkpckolaaOpens
import Derived.SizedLaws
namespace Go.Proofs.Ytclocdhkpckolaa.lineSends
open Go.ChangeShapes Go.WideShapes Go.ChangeAt Go.RowKit

set_option maxRecDepth 20000 in
set_option maxHeartbeats 4000000 in
theorem walk (w : World) (L : Line) (sa : Option Addr) (sc : Nat) (f : Frame) (la : Option Addr) (lc : Nat) (ga : Option Addr) (gc : Nat) (ca : Option Addr) (cc : Nat) (now : Int) (hR : SentR (fun _ => True) w sa sc L.sent) (hF : FrameR (fun _ => True) w f la lc ga gc ca cc) (hf : L.fit) (hff : f.fit) :
    Calls Try.prog 3 #[lineV L.next L.high sa L.sent.length sc L.seen, frameV f la lc ga gc ca cc, .int .i64 now] w fun r w' => r = .returned (.bool true) ∧ Below w.heap.size w w' := by
  obtain ⟨hl, hfits⟩ := fitsL hf
  have hfit := fitsF hff
  obtain ⟨next, sent, high, e⟩ := L
  simp only at hl hfits hR ⊢
  generalize hg : lineOk ⟨next, sent, high, e⟩ = good
  generalize hr : sendX good next sent f now = r
  obtain ⟨rk, rn, rs, rf⟩ := r
  have HCL := Lib.hid (fun (W : World) (h : SentR (fun _ => True) W sa sc sent) => ref_CopyLine (fun _ => True) W next high sa sc sent e h hl hfits)
  have HCF := Lib.hid (fun (ok : Nat → Prop) (W : World) (h : FrameR ok W f la lc ga gc ca cc) => ref_CopyFrame ok W f la lc ga gc ca cc h.mail.label h.mail.grants h.certs hfit)
  have HS := Lib.hid (fun (ok : Nat → Prop) (W : World) hok a c l1 k1 l2 k2 l3 k3 hS hF => line_Send ok W hok next high a c sent e f l1 k1 l2 k2 l3 k3 now hS hF hfits hfit good hg _ hr)
  have HO := Lib.hid (fun (ok : Nat → Prop) (W : World) hok a c l1 k1 l2 k2 l3 k3 hS hF => ref_SendOn ok W hok next high a c sent e f l1 k1 l2 k2 l3 k3 now hS hF hfits hfit good hg _ hr)
  have HGL := Lib.hid (fun (W : World) a c (h : SentR (fun _ => True) W a c sent) => line_Good (fun _ => True) W next high a c sent e h)
  have HGR := Lib.hid (fun (W : World) a c (h : SentR (fun _ => True) W a c sent) => ref_GoodLine (fun _ => True) W next high a c sent e h)
  rw [hg] at HGL HGR
  clear hg hr hfits hfit hf hff
  unfold lineV frameV at *
  have st := St.start w
  go_enter Try.func3, Try.ntmps3
  go_wp2_with (first
    | go_skip | (refine mem_box st (wanted_none rfl) 25 _ rfl _ rfl _ rfl ?_; clear st; intro g1 w1 hg1 st hg1b; clear hg1b; simp [Act.eval, Act.put, Value.cells, putL] at st) | (refine mem_box st (wanted_none rfl) 33 _ rfl _ rfl _ rfl ?_; clear st; intro g2 w2 hg2 st hg2b; clear hg2b; simp [Act.eval, Act.put, Value.cells, putL] at st) | ((first | refine mem_load_agg' st 25 _ rfl (wanted_none rfl) Try.isAgg25 _ Try.sizeOf25 ?_ | (refine mem_load_agg' st 25 _ rfl (wanted_some rfl ?_) Try.isAgg25 _ Try.sizeOf25 ?_; focus (simp [yielded, Act.put]; done))); refine ⟨0, _, _, _, _, _, rfl, rfl, rfl, rfl, ?_⟩) | (refine mem_alloc st (wanted_none rfl) 25 rfl _ Try.zeroValue25 _ rfl ?_; clear st; intro g3 w3 hg3 st hg3b; clear hg3b; simp [Act.eval, Act.put, Value.cells, putL] at st) | ((first | refine mem_store' st 25 _ _ rfl (wanted_none rfl) _ Try.sizeOf25 ?_ | (refine mem_store' st 25 _ _ rfl (wanted_some rfl ?_) _ Try.sizeOf25 ?_; focus (simp [yielded, Act.put]; done))); refine ⟨2, _, _, _, _, _, rfl, rfl, rfl, rfl, rfl, rfl, ?_⟩; clear st; intro w4 st hw4m hw4z; simp [Act.eval, Act.put, Value.cells, putL] at st)
    | (go_at_call 9; refine (HCL.out _ (SentR.below hR st.below)).mono ?_; rintro r v1 ⟨a1, k1, rfl, hb1, hR1⟩; replace st := st.call hb1; have st1 := st; replace st := st.rebase))
  have hB4 := st1.below2 st (by simp)
  have hw4 := st1.below.keep hB4
  have hF4 := hF.below hw4
  have hR0 := SentR.below hR hw4
  have hR4 := SentR.move hR1 hB4.size fun b hb _ => (⟨trivial, hB4.block b hb⟩ : True ∧ _)
  have st0 := st
  simp only [Act.put, List.setIfInBounds_toArray, List.set_cons_succ, List.set_cons_zero]
  have kk : ∀ {s : Two} {W : World}, St [] w4 W (s.own 25 33) → ∀ b, b < w4.heap.size → True → s.free b ∧ W.heap[b]? = w4.heap[b]? := fun stI b hb _ => ⟨Two.old stI hb, stI.frame b hb (by simp)⟩
  refine wp_region_ghost (by kernel_rfl) [(0, some 17), (1, some 18), (2, some 19), (3, some 20), (4, some 21), (5, some 16), (6, some 22), (7, some 23), (8, some 24), (9, some 8), (10, some 9), (11, none), (12, none), (13, some 10)] [0, 1, 2, 3, 4, 5, 6, 7, 8, 9, 10, 11, 12, 13] rfl 0 (by decide +kernel) rfl (Two.Rel 9 11 10 12) (fun i v s W => match i with
    | 0 => v = .agg #[.int .i64 next, .slice a1 sent.length k1, .int .i64 high, .bool e.s0, .bool e.s1, .bool e.s2, .bool e.s3, .bool e.s4, .bool e.s5, .bool e.s6, .bool e.s7]
    | 1 => v = .agg #[.int .i64 f.src, .int .i64 f.dst, .int .i64 f.seq, .bool f.ack, .int .i64 f.thread, .int .i64 f.mail.host, .int .i64 f.mail.thread, .slice la f.mail.label.length lc, .slice ga f.mail.grants.length gc, .string f.mail.text, .slice ca f.certs.length cc]
    | 2 => ∃ l1 k1 l2 k2 l3 k3, v = .agg #[.int .i64 f.src, .int .i64 f.dst, .int .i64 f.seq, .bool f.ack, .int .i64 f.thread, .int .i64 f.mail.host, .int .i64 f.mail.thread, .slice l1 f.mail.label.length k1, .slice l2 f.mail.grants.length k2, .string f.mail.text, .slice l3 f.certs.length k3] ∧ FrameR s.free W f l1 k1 l2 k2 l3 k3
    | 3 => v = .int .i64 now
    | 4 => ∃ a c l1 k1 l2 k2 l3 k3, v = .tuple #[.agg #[.int .i64 rn, .slice a rs.length c, .int .i64 high, .bool e.s0, .bool e.s1, .bool e.s2, .bool e.s3, .bool e.s4, .bool e.s5, .bool e.s6, .bool e.s7], .agg #[.int .i64 rf.src, .int .i64 rf.dst, .int .i64 rf.seq, .bool rf.ack, .int .i64 rf.thread, .int .i64 rf.mail.host, .int .i64 rf.mail.thread, .slice l1 rf.mail.label.length k1, .slice l2 rf.mail.grants.length k2, .string rf.mail.text, .slice l3 rf.certs.length k3], .int .i64 rk] ∧ SentR s.free W a c rs ∧ FrameR s.free W rf l1 k1 l2 k2 l3 k3
    | 5 => ∃ a c l1 k1 l2 k2 l3 k3, v = .tuple #[.agg #[.int .i64 rn, .slice a rs.length c, .int .i64 high, .bool e.s0, .bool e.s1, .bool e.s2, .bool e.s3, .bool e.s4, .bool e.s5, .bool e.s6, .bool e.s7], .agg #[.int .i64 rf.src, .int .i64 rf.dst, .int .i64 rf.seq, .bool rf.ack, .int .i64 rf.thread, .int .i64 rf.mail.host, .int .i64 rf.mail.thread, .slice l1 rf.mail.label.length k1, .slice l2 rf.mail.grants.length k2, .string rf.mail.text, .slice l3 rf.certs.length k3], .int .i64 rk] ∧ SentR s.free W a c rs ∧ FrameR s.free W rf l1 k1 l2 k2 l3 k3
    | 6 => ∃ a c, v = .agg #[.int .i64 rn, .slice a rs.length c, .int .i64 high, .bool e.s0, .bool e.s1, .bool e.s2, .bool e.s3, .bool e.s4, .bool e.s5, .bool e.s6, .bool e.s7] ∧ SentR s.free W a c rs
    | 7 => ∃ l1 k1 l2 k2 l3 k3, v = .agg #[.int .i64 rf.src, .int .i64 rf.dst, .int .i64 rf.seq, .bool rf.ack, .int .i64 rf.thread, .int .i64 rf.mail.host, .int .i64 rf.mail.thread, .slice l1 rf.mail.label.length k1, .slice l2 rf.mail.grants.length k2, .string rf.mail.text, .slice l3 rf.certs.length k3] ∧ FrameR s.free W rf l1 k1 l2 k2 l3 k3
    | 8 => v = .int .i64 rk
    | 9 => ∃ g c, v = .pointer (some ⟨g, 0, none⟩) ∧ s.1 = some (g, c) ∧ c.length = 11
    | 10 => ∃ g c, v = .pointer (some ⟨g, 0, none⟩) ∧ s.2 = some (g, c) ∧ c.length = 11
    | 11 => ∃ g a c, s.1 = some (g, [.int .i64 rn, .slice a rs.length c, .int .i64 high, .bool e.s0, .bool e.s1, .bool e.s2, .bool e.s3, .bool e.s4, .bool e.s5, .bool e.s6, .bool e.s7]) ∧ SentR s.free W a c rs
    | 12 => ∃ g l1 k1 l2 k2 l3 k3, s.2 = some (g, [.int .i64 rf.src, .int .i64 rf.dst, .int .i64 rf.seq, .bool rf.ack, .int .i64 rf.thread, .int .i64 rf.mail.host, .int .i64 rf.mail.thread, .slice l1 rf.mail.label.length k1, .slice l2 rf.mail.grants.length k2, .string rf.mail.text, .slice l3 rf.certs.length k3]) ∧ FrameR s.free W rf l1 k1 l2 k2 l3 k3
    | _ => v = .int .i64 rk)
    (fun s W => St [] w4 W (s.own 25 33)) (none, none) (St.start w4).drew ?mono ?step ?fin
  case mono =>
    intro i k v s W s' W' hi hk hne hp hr hI hI' h
    simp only [List.mem_cons, List.not_mem_nil, or_false] at hi
    rcases hi with rfl | rfl | rfl | rfl | rfl | rfl | rfl | rfl | rfl | rfl | rfl | rfl | rfl | rfl
    · exact h
    · exact h
    · obtain ⟨l1, k1, l2, k2, l3, k3, e, h1⟩ := h; exact ⟨l1, k1, l2, k2, l3, k3, e, FrameR.two h1 hr⟩
    · exact h
    · obtain ⟨a, c, l1, k1, l2, k2, l3, k3, e, h1, h2⟩ := h; exact ⟨a, c, l1, k1, l2, k2, l3, k3, e, SentR.two h1 hr, FrameR.two h2 hr⟩
    · obtain ⟨a, c, l1, k1, l2, k2, l3, k3, e, h1, h2⟩ := h; exact ⟨a, c, l1, k1, l2, k2, l3, k3, e, SentR.two h1 hr, FrameR.two h2 hr⟩
    · obtain ⟨a, c, e, h1⟩ := h; exact ⟨a, c, e, SentR.two h1 hr⟩
    · obtain ⟨l1, k1, l2, k2, l3, k3, e, h1⟩ := h; exact ⟨l1, k1, l2, k2, l3, k3, e, FrameR.two h1 hr⟩
    · exact h
    · obtain ⟨g, c, e, h1, h2⟩ := h; obtain ⟨c', h3, h4⟩ := hr.one' hne.symm g c h1; exact ⟨g, c', e, h3, h4.trans h2⟩
    · obtain ⟨g, c, e, h1, h2⟩ := h; obtain ⟨c', h3, h4⟩ := hr.two' hne.symm g c h1; exact ⟨g, c', e, h3, h4.trans h2⟩
    · obtain ⟨g, a, c, e, h1⟩ := h; exact ⟨g, a, c, (hr.one (fun e => hp (by rw [e]; decide +kernel)) hne.symm).trans e, SentR.two h1 hr⟩
    · obtain ⟨g, l1, k1, l2, k2, l3, k3, e, h1⟩ := h; exact ⟨g, l1, k1, l2, k2, l3, k3, (hr.two (fun e => hp (by rw [e]; decide +kernel)) hne.symm).trans e, FrameR.two h1 hr⟩
    · exact h
  case step =>
    intro i t hi x s W hI hp K hK
    simp only [List.mem_cons, List.not_mem_nil, or_false, Prod.mk.injEq] at hi
    rcases hi with ⟨rfl, rfl⟩ | ⟨rfl, rfl⟩ | ⟨rfl, rfl⟩ | ⟨rfl, rfl⟩ | ⟨rfl, rfl⟩ | ⟨rfl, rfl⟩ | ⟨rfl, rfl⟩ | ⟨rfl, rfl⟩ | ⟨rfl, rfl⟩ | ⟨rfl, rfl⟩ | ⟨rfl, rfl⟩ | ⟨rfl, rfl⟩ | ⟨rfl, rfl⟩ | ⟨rfl, rfl⟩
    all_goals simp only [putAll, Act.put, List.setIfInBounds_toArray, List.set_cons_succ, List.set_cons_zero] at hK ⊢
    all_goals have stW := st0.call hI.below
    all_goals refine wpOp_at rfl rfl ?_
    · exact wp_load_agg' stW 25 _ rfl Try.isAgg25 _ Try.sizeOf25 ⟨2, g3, 0, _, _, _, rfl, rfl, rfl, rfl, hK _ s _ (.below (Below.refl _ _)) hI rfl⟩
    · exact wp_load_agg' stW 33 _ rfl Try.isAgg33 _ Try.sizeOf33 ⟨1, g2, 0, _, _, _, rfl, rfl, rfl, rfl, hK _ s _ (.below (Below.refl _ _)) hI rfl⟩
    · have p1 : x 1 = _ := hp 1 (by decide +kernel)
      simp only [p1] at hK ⊢
      go_simp
      refine (HCF.out s.free W (FrameR.move hF4 hI.size (kk hI))).mono ?_
      rintro r u1 ⟨l1, k1, l2, k2, l3, k3, rfl, hb1, hO1, hO2, hO3⟩
      have hn : ∀ b, W.heap.size ≤ b → s.free b := fun b hb => Two.new hI hb
      exact hK _ s _ (.below hb1) (hI.call hb1) ⟨l1, k1, l2, k2, l3, k3, rfl, ⟨⟨hO1.okay hn, hO2.okay hn⟩, hO3.okay hn⟩⟩
    · exact wp_value (v := .int .i64 now) (by go_simp) (hK _ s _ (.below (Below.refl _ _)) hI rfl)
    · have p0 : x 0 = _ := hp 0 (by decide +kernel)
      obtain ⟨l1, k1, l2, k2, l3, k3, p2, h2⟩ := hp 2 (by decide +kernel)
      have p3 : x 3 = _ := hp 3 (by decide +kernel)
      simp only [p0, p2, p3] at hK ⊢
      go_simp
      refine (HS.out s.free W (fun b hb => Two.new hI hb) _ _ _ _ _ _ _ _ (SentR.move hR4 hI.size (kk hI)) h2).mono ?_
      rintro r u1 ⟨a', c', l1', k1', l2', k2', l3', k3', rfl, hb1, hS1, hF1⟩
      exact hK _ s _ (.below hb1) (hI.call hb1) ⟨a', c', l1', k1', l2', k2', l3', k3', rfl, hS1, hF1⟩
    · obtain ⟨a, c, l1, k1, l2, k2, l3, k3, p4, h4⟩ := hp 4 (by decide +kernel)
      simp only [p4] at hK ⊢
      exact wp_value (v := .tuple #[.agg #[.int .i64 rn, .slice a rs.length c, .int .i64 high, .bool e.s0, .bool e.s1, .bool e.s2, .bool e.s3, .bool e.s4, .bool e.s5, .bool e.s6, .bool e.s7], .agg #[.int .i64 rf.src, .int .i64 rf.dst, .int .i64 rf.seq, .bool rf.ack, .int .i64 rf.thread, .int .i64 rf.mail.host, .int .i64 rf.mail.thread, .slice l1 rf.mail.label.length k1, .slice l2 rf.mail.grants.length k2, .string rf.mail.text, .slice l3 rf.certs.length k3], .int .i64 rk]) (by go_simp) (hK _ s _ (.below (Below.refl _ _)) hI ⟨a, c, l1, k1, l2, k2, l3, k3, rfl, h4⟩)
    · obtain ⟨a, c, l1, k1, l2, k2, l3, k3, p5, h5, h6⟩ := hp 5 (by decide +kernel)
      simp only [p5] at hK ⊢
      exact wp_value (v := .agg #[.int .i64 rn, .slice a rs.length c, .int .i64 high, .bool e.s0, .bool e.s1, .bool e.s2, .bool e.s3, .bool e.s4, .bool e.s5, .bool e.s6, .bool e.s7]) (by go_simp) (hK _ s _ (.below (Below.refl _ _)) hI ⟨a, c, rfl, h5⟩)
    · obtain ⟨a, c, l1, k1, l2, k2, l3, k3, p5, h5, h6⟩ := hp 5 (by decide +kernel)
      simp only [p5] at hK ⊢
      exact wp_value (v := .agg #[.int .i64 rf.src, .int .i64 rf.dst, .int .i64 rf.seq, .bool rf.ack, .int .i64 rf.thread, .int .i64 rf.mail.host, .int .i64 rf.mail.thread, .slice l1 rf.mail.label.length k1, .slice l2 rf.mail.grants.length k2, .string rf.mail.text, .slice l3 rf.certs.length k3]) (by go_simp) (hK _ s _ (.below (Below.refl _ _)) hI ⟨l1, k1, l2, k2, l3, k3, rfl, h6⟩)
    · obtain ⟨a, c, l1, k1, l2, k2, l3, k3, p5, h5, h6⟩ := hp 5 (by decide +kernel)
      simp only [p5] at hK ⊢
      exact wp_value (v := .int .i64 rk) (by go_simp) (hK _ s _ (.below (Below.refl _ _)) hI rfl)
    · exact Two.alloc1 9 11 10 12 hI rfl _ Try.zeroValue25 _ rfl fun g W' h1 h2 => hK _ _ _ h1 h2 ⟨g, _, rfl, rfl, rfl⟩
    · exact Two.alloc2 9 11 10 12 hI rfl _ Try.zeroValue33 _ rfl fun g W' h1 h2 => hK _ _ _ h1 h2 ⟨g, _, rfl, rfl, rfl⟩
    · obtain ⟨a, c, p6, h6⟩ := hp 6 (by decide +kernel)
      obtain ⟨g, c', p9, h9, h10⟩ := hp 9 (by decide +kernel)
      simp only [p6, p9] at hK ⊢
      exact Two.store1 9 11 10 12 hI 25 _ _ rfl _ Try.sizeOf25 g c' h9 rfl _ rfl rfl h10 rfl fun W' h1 h2 => hK undef _ _ h1 h2 ⟨g, a, c, rfl, SentR.two h6 h1⟩
    · obtain ⟨l1, k1, l2, k2, l3, k3, p7, h7⟩ := hp 7 (by decide +kernel)
      obtain ⟨g, c', p10, h10, h11⟩ := hp 10 (by decide +kernel)
      simp only [p7, p10] at hK ⊢
      exact Two.store2 9 11 10 12 hI 33 _ _ rfl _ Try.sizeOf33 g c' h10 rfl _ rfl rfl h11 rfl fun W' h1 h2 => hK undef _ _ h1 h2 ⟨g, l1, k1, l2, k2, l3, k3, rfl, FrameR.two h7 h1⟩
    · have p8 : x 8 = _ := hp 8 (by decide +kernel)
      simp only [p8] at hK ⊢
      exact wp_value (v := .int .i64 rk) (by go_simp) (hK _ s _ (.below (Below.refl _ _)) hI rfl)
  case fin =>
    intro x s W hI hG
    obtain ⟨g8, c8, p9, q9, _⟩ := hG 9 (by simp)
    obtain ⟨g9, c9, p10, q10, _⟩ := hG 10 (by simp)
    obtain ⟨g8', a2, k2, q11, hR2⟩ := hG 11 (by simp)
    obtain ⟨g9', l1, m1, l2, m2, l3, m3, q12, hF2⟩ := hG 12 (by simp)
    have p13 : x 13 = _ := hG 13 (by simp)
    obtain rfl : g8 = g8' := by rw [q9] at q11; simp at q11; exact q11.1
    obtain rfl : g9 = g9' := by rw [q10] at q12; simp at q12; exact q12.1
    clear q9 q10 hG
    have stj := st0.join hI
    simp only [Two.own, q11, q12, Option.map_some, Option.toList_some, List.cons_append, List.nil_append] at stj
    simp only [putAll, Act.put, List.setIfInBounds_toArray, List.set_cons_succ, List.set_cons_zero, p9, p10, p13]
    refine wpAny_done (by decide +kernel) ?_ 0
    have hB0 : Below w.heap.size w W := hw4.keep hI.below
    have hS0 := SentR.below hR0 hI.below
    have hS1 := SentR.below hR4 hI.below
    have hS2 : SentR (fun _ => True) W a2 k2 rs := SentR.move hR2 (Nat.le_refl _) fun _ _ _ => ⟨trivial, rfl⟩
    replace hF2 : FrameR (fun _ => True) W rf l1 m1 l2 m2 l3 m3 := FrameR.move hF2 (Nat.le_refl _) fun _ _ _ => ⟨trivial, rfl⟩
    have hFa := hF4.below hI.below
    clear hR0 hR4 hR2 hR hF hR1 hF4 hB4 hw4
    replace st := stj
    clear st0 stj hI st1 hb1
    have hsW := hB0.size
    go_wp2_with (first
      | go_skip | ((first | refine mem_load_agg' st 25 _ rfl (wanted_none rfl) Try.isAgg25 _ Try.sizeOf25 ?_ | (refine mem_load_agg' st 25 _ rfl (wanted_some rfl ?_) Try.isAgg25 _ Try.sizeOf25 ?_; focus (simp [yielded, Act.put]; done))); refine ⟨0, _, _, _, _, _, rfl, rfl, rfl, rfl, ?_⟩) | ((first | refine mem_load_agg' st 33 _ rfl (wanted_none rfl) Try.isAgg33 _ Try.sizeOf33 ?_ | (refine mem_load_agg' st 33 _ rfl (wanted_some rfl ?_) Try.isAgg33 _ Try.sizeOf33 ?_; focus (simp [yielded, Act.put]; done))); refine ⟨1, _, _, _, _, _, rfl, rfl, rfl, rfl, ?_⟩) | (refine mem_alloc st (wanted_none rfl) 25 rfl _ Try.zeroValue25 _ rfl ?_; clear st; intro g11 w11 hg11 st hg11b; clear hg11b; simp [Act.eval, Act.put, Value.cells, putL] at st) | (refine mem_alloc st (wanted_none rfl) 33 rfl _ Try.zeroValue33 _ rfl ?_; clear st; intro g12 w12 hg12 st hg12b; clear hg12b; simp [Act.eval, Act.put, Value.cells, putL] at st) | ((first | refine mem_store' st 25 _ _ rfl (wanted_none rfl) _ Try.sizeOf25 ?_ | (refine mem_store' st 25 _ _ rfl (wanted_some rfl ?_) _ Try.sizeOf25 ?_; focus (simp [yielded, Act.put]; done))); refine ⟨5, _, _, _, _, _, rfl, rfl, rfl, rfl, rfl, rfl, ?_⟩; clear st; intro w13 st hw13m hw13z; simp [Act.eval, Act.put, Value.cells, putL] at st) | ((first | refine mem_store' st 33 _ _ rfl (wanted_none rfl) _ Try.sizeOf33 ?_ | (refine mem_store' st 33 _ _ rfl (wanted_some rfl ?_) _ Try.sizeOf33 ?_; focus (simp [yielded, Act.put]; done))); refine ⟨6, _, _, _, _, _, rfl, rfl, rfl, rfl, rfl, rfl, ?_⟩; clear st; intro w14 st hw14m hw14z; simp [Act.eval, Act.put, Value.cells, putL] at st)
      | (go_at_call 12; refine (HO.out (fun _ => True) _ (fun _ _ => trivial) _ _ _ _ _ _ _ _ hS0 hFa).mono ?_; rintro r v3 ⟨a3, k3, o1, n1, o2, n2, o3, n3, rfl, hb3, hS3, hF3⟩; replace st := st.call hb3; have st3 := st; replace st := st.rebase))
    have hB3 := st3.below2 st (by simp)
    replace hS0 := SentR.below (SentR.below hS0 hb3) hB3
    replace hS1 := SentR.below (SentR.below hS1 hb3) hB3
    replace hS2 := SentR.below (SentR.below hS2 hb3) hB3
    replace hF2 := (hF2.below hb3).below hB3
    replace hS3 := SentR.below hS3 hB3
    replace hF3 := hF3.below hB3
    have hw := (hB0.keep hb3).keep hB3
    clear hb3 hB3 hB0 st3 hFa
    try simp only [Act.put, List.setIfInBounds_toArray, List.set_cons_succ, List.set_cons_zero]
    refine wp_region_ahead (by kernel_rfl) [(0, some 33), (1, some 34), (2, some 35), (3, some 36), (4, some 37), (5, some 38), (6, some 39), (7, some 40), (8, some 41), (9, some 42), (10, some 43), (11, some 44), (12, some 45), (13, some 46), (14, some 47), (15, some 48), (16, some 49), (17, some 50), (18, some 51), (19, some 52), (20, some 53), (21, some 54), (22, some 55), (23, some 56), (24, some 57), (25, some 58), (26, some 59), (27, some 60), (28, some 61), (29, some 6)] [0, 1, 2, 3, 4, 5, 6, 7, 8, 9, 10, 11, 12, 13, 14, 15, 16, 17, 18, 19, 20, 21, 22, 23, 24, 25, 26, 27, 28, 29] rfl 0 (by decide +kernel) rfl (fun w w' => Below w.heap.size w w') (fun i v W => match i with
    | 0 => v = .int .i64 rk
    | 1 => v = .int .i64 rk
    | 2 => v = .bool true
    | 3 => v = .bool true
    | 4 => v = .agg #[.int .i64 rn, .slice a2 rs.length k2, .int .i64 high, .bool e.s0, .bool e.s1, .bool e.s2, .bool e.s3, .bool e.s4, .bool e.s5, .bool e.s6, .bool e.s7]
    | 5 => v = .agg #[.int .i64 rn, .slice a3 rs.length k3, .int .i64 high, .bool e.s0, .bool e.s1, .bool e.s2, .bool e.s3, .bool e.s4, .bool e.s5, .bool e.s6, .bool e.s7]
    | 6 => v = .bool true
    | 7 => v = .bool true
    | 8 => v = .bool true
    | 9 => v = .agg #[.int .i64 rf.src, .int .i64 rf.dst, .int .i64 rf.seq, .bool rf.ack, .int .i64 rf.thread, .int .i64 rf.mail.host, .int .i64 rf.mail.thread, .slice l1 rf.mail.label.length m1, .slice l2 rf.mail.grants.length m2, .string rf.mail.text, .slice l3 rf.certs.length m3]
    | 10 => v = .agg #[.int .i64 rf.src, .int .i64 rf.dst, .int .i64 rf.seq, .bool rf.ack, .int .i64 rf.thread, .int .i64 rf.mail.host, .int .i64 rf.mail.thread, .slice o1 rf.mail.label.length n1, .slice o2 rf.mail.grants.length n2, .string rf.mail.text, .slice o3 rf.certs.length n3]
    | 11 => v = .bool true
    | 12 => v = .bool true
    | 13 => v = .bool true
    | 14 => v = .agg #[.int .i64 next, .slice a1 sent.length k1, .int .i64 high, .bool e.s0, .bool e.s1, .bool e.s2, .bool e.s3, .bool e.s4, .bool e.s5, .bool e.s6, .bool e.s7]
    | 15 => v = .agg #[.int .i64 next, .slice sa sent.length sc, .int .i64 high, .bool e.s0, .bool e.s1, .bool e.s2, .bool e.s3, .bool e.s4, .bool e.s5, .bool e.s6, .bool e.s7]
    | 16 => v = .bool true
    | 17 => v = .bool true
    | 18 => v = .bool true
    | 19 => v = .agg #[.int .i64 next, .slice sa sent.length sc, .int .i64 high, .bool e.s0, .bool e.s1, .bool e.s2, .bool e.s3, .bool e.s4, .bool e.s5, .bool e.s6, .bool e.s7]
    | 20 => ∃ a c, v = .agg #[.int .i64 next, .slice a sent.length c, .int .i64 high, .bool e.s0, .bool e.s1, .bool e.s2, .bool e.s3, .bool e.s4, .bool e.s5, .bool e.s6, .bool e.s7] ∧ SentR (fun _ => True) W a c sent
    | 21 => v = .bool good
    | 22 => v = .agg #[.int .i64 next, .slice sa sent.length sc, .int .i64 high, .bool e.s0, .bool e.s1, .bool e.s2, .bool e.s3, .bool e.s4, .bool e.s5, .bool e.s6, .bool e.s7]
    | 23 => v = .bool good
    | 24 => v = .bool true
    | 25 => v = .bool true
    | 26 => v = .bool true
    | 27 => v = .bool true
    | 28 => v = .bool true
    | _ => v = .bool true)
      (fun W => Below w14.heap.size w14 W) (Below.refl _ _).drew ?mono2 ?step2 ?fin2
    case mono2 =>
      intro i v U U' hi hb _ _ h
      simp only [List.mem_cons, List.not_mem_nil, or_false] at hi
      rcases hi with rfl | rfl | rfl | rfl | rfl | rfl | rfl | rfl | rfl | rfl | rfl | rfl | rfl | rfl | rfl | rfl | rfl | rfl | rfl | rfl | rfl | rfl | rfl | rfl | rfl | rfl | rfl | rfl | rfl | rfl
      case inr.inr.inr.inr.inr.inr.inr.inr.inr.inr.inr.inr.inr.inr.inr.inr.inr.inr.inr.inr.inl => obtain ⟨a, c, e, h⟩ := h; exact ⟨a, c, e, SentR.below h hb⟩
      all_goals exact h
    case step2 =>
      intro i t hi x W hI hp K hK
      have stW := st.call hI
      simp only [List.mem_cons, List.not_mem_nil, or_false, Prod.mk.injEq] at hi
      rcases hi with ⟨rfl, rfl⟩ | ⟨rfl, rfl⟩ | ⟨rfl, rfl⟩ | ⟨rfl, rfl⟩ | ⟨rfl, rfl⟩ | ⟨rfl, rfl⟩ | ⟨rfl, rfl⟩ | ⟨rfl, rfl⟩ | ⟨rfl, rfl⟩ | ⟨rfl, rfl⟩ | ⟨rfl, rfl⟩ | ⟨rfl, rfl⟩ | ⟨rfl, rfl⟩ | ⟨rfl, rfl⟩ | ⟨rfl, rfl⟩ | ⟨rfl, rfl⟩ | ⟨rfl, rfl⟩ | ⟨rfl, rfl⟩ | ⟨rfl, rfl⟩ | ⟨rfl, rfl⟩ | ⟨rfl, rfl⟩ | ⟨rfl, rfl⟩ | ⟨rfl, rfl⟩ | ⟨rfl, rfl⟩ | ⟨rfl, rfl⟩ | ⟨rfl, rfl⟩ | ⟨rfl, rfl⟩ | ⟨rfl, rfl⟩ | ⟨rfl, rfl⟩ | ⟨rfl, rfl⟩
      all_goals simp only [putAll, Act.put, List.setIfInBounds_toArray, List.set_cons_succ, List.set_cons_zero] at hK ⊢
      · refine wpOp_at rfl rfl ?_
        exact wp_value (v := .int .i64 rk) (by go_simp) (hK _ _ (Below.refl _ _) hI rfl)
      · refine wpOp_at rfl rfl ?_
        exact wp_value (v := .int .i64 rk) (by go_simp) (hK _ _ (Below.refl _ _) hI rfl)
      · have p0 : x 0 = _ := hp 0 (by decide +kernel)
        have p1 : x 1 = _ := hp 1 (by decide +kernel)
        simp only [p0, p1] at hK ⊢
        refine wpOp_at rfl rfl ?_
        exact wp_value (v := .bool true) (by go_simp) (hK _ _ (Below.refl _ _) hI rfl)
      · have p2 : x 2 = _ := hp 2 (by decide +kernel)
        simp only [p2] at hK ⊢
        refine wpOp_at rfl rfl ?_
        exact wp_value (v := .bool true) (by go_simp) (hK _ _ (Below.refl _ _) hI rfl)
      · have p3 : x 3 = _ := hp 3 (by decide +kernel)
        simp only [p3] at hK ⊢
        refine wpOp_plain (i := 4) rfl (wanted_some rfl (by simp [yielded, Act.put])) ?_
        exact wp_load_agg' stW 25 _ rfl Try.isAgg25 _ Try.sizeOf25 ⟨3, g8, 0, _, _, _, rfl, rfl, rfl, rfl, hK _ _ (Below.refl _ _) hI rfl⟩
      · have p3 : x 3 = _ := hp 3 (by decide +kernel)
        simp only [p3] at hK ⊢
        refine wpOp_plain (i := 5) rfl (wanted_some rfl (by simp [yielded, Act.put])) ?_
        exact wp_load_agg' stW 25 _ rfl Try.isAgg25 _ Try.sizeOf25 ⟨5, g11, 0, _, _, _, rfl, rfl, rfl, rfl, hK _ _ (Below.refl _ _) hI rfl⟩
      · have p3 : x 3 = _ := hp 3 (by decide +kernel)
        have p4 : x 4 = _ := hp 4 (by decide +kernel)
        have p5 : x 5 = _ := hp 5 (by decide +kernel)
        simp only [p3, p4, p5] at hK ⊢
        refine wpOp_plain (i := 6) rfl (wanted_some rfl (by simp [yielded, Act.put])) ?_
        go_simp
        refine (ref_SameLine (fun _ => True) (fun _ => True) W rn high rs e a2 k2 a3 k3 (SentR.below hS2 hI) (SentR.below hS3 hI)).mono ?_
        rintro r u1 ⟨rfl, hb1⟩
        exact hK _ _ hb1 (hI.keep hb1) rfl
      · have p3 : x 3 = _ := hp 3 (by decide +kernel)
        have p6 : x 6 = _ := hp 6 (by decide +kernel)
        simp only [p3, p6] at hK ⊢
        refine wpOp_at rfl rfl ?_
        exact wp_value (v := .bool true) (by go_simp) (hK _ _ (Below.refl _ _) hI rfl)
      · have p7 : x 7 = _ := hp 7 (by decide +kernel)
        simp only [p7] at hK ⊢
        refine wpOp_at rfl rfl ?_
        exact wp_value (v := .bool true) (by go_simp) (hK _ _ (Below.refl _ _) hI rfl)
      · have p8 : x 8 = _ := hp 8 (by decide +kernel)
        simp only [p8] at hK ⊢
        refine wpOp_plain (i := 9) rfl (wanted_some rfl (by simp [yielded, Act.put])) ?_
        exact wp_load_agg' stW 33 _ rfl Try.isAgg33 _ Try.sizeOf33 ⟨4, g9, 0, _, _, _, rfl, rfl, rfl, rfl, hK _ _ (Below.refl _ _) hI rfl⟩
      · have p8 : x 8 = _ := hp 8 (by decide +kernel)
        simp only [p8] at hK ⊢
        refine wpOp_plain (i := 10) rfl (wanted_some rfl (by simp [yielded, Act.put])) ?_
        exact wp_load_agg' stW 33 _ rfl Try.isAgg33 _ Try.sizeOf33 ⟨6, g12, 0, _, _, _, rfl, rfl, rfl, rfl, hK _ _ (Below.refl _ _) hI rfl⟩
      · have p8 : x 8 = _ := hp 8 (by decide +kernel)
        have p9 : x 9 = _ := hp 9 (by decide +kernel)
        have p10 : x 10 = _ := hp 10 (by decide +kernel)
        simp only [p8, p9, p10] at hK ⊢
        refine wpOp_plain (i := 11) rfl (wanted_some rfl (by simp [yielded, Act.put])) ?_
        go_simp
        refine (ref_SameFrame (fun _ => True) (fun _ => True) W rf l1 m1 l2 m2 l3 m3 o1 n1 o2 n2 o3 n3 (hF2.below hI) (hF3.below hI)).mono ?_
        rintro r u1 ⟨rfl, hb1⟩
        exact hK _ _ hb1 (hI.keep hb1) rfl
      · have p8 : x 8 = _ := hp 8 (by decide +kernel)
        have p11 : x 11 = _ := hp 11 (by decide +kernel)
        simp only [p8, p11] at hK ⊢
        refine wpOp_at rfl rfl ?_
        exact wp_value (v := .bool true) (by go_simp) (hK _ _ (Below.refl _ _) hI rfl)
      · have p12 : x 12 = _ := hp 12 (by decide +kernel)
        simp only [p12] at hK ⊢
        refine wpOp_at rfl rfl ?_
        exact wp_value (v := .bool true) (by go_simp) (hK _ _ (Below.refl _ _) hI rfl)
      · have p13 : x 13 = _ := hp 13 (by decide +kernel)
        simp only [p13] at hK ⊢
        refine wpOp_plain (i := 14) rfl (wanted_some rfl (by simp [yielded, Act.put])) ?_
        exact wp_load_agg' stW 25 _ rfl Try.isAgg25 _ Try.sizeOf25 ⟨2, g3, 0, _, _, _, rfl, rfl, rfl, rfl, hK _ _ (Below.refl _ _) hI rfl⟩
      · have p13 : x 13 = _ := hp 13 (by decide +kernel)
        simp only [p13] at hK ⊢
        refine wpOp_plain (i := 15) rfl (wanted_some rfl (by simp [yielded, Act.put])) ?_
        exact wp_load_agg' stW 25 _ rfl Try.isAgg25 _ Try.sizeOf25 ⟨0, g1, 0, _, _, _, rfl, rfl, rfl, rfl, hK _ _ (Below.refl _ _) hI rfl⟩
      · have p13 : x 13 = _ := hp 13 (by decide +kernel)
        have p14 : x 14 = _ := hp 14 (by decide +kernel)
        have p15 : x 15 = _ := hp 15 (by decide +kernel)
        simp only [p13, p14, p15] at hK ⊢
        refine wpOp_plain (i := 16) rfl (wanted_some rfl (by simp [yielded, Act.put])) ?_
        go_simp
        refine (ref_SameLine (fun _ => True) (fun _ => True) W next high sent e a1 k1 sa sc (SentR.below hS1 hI) (SentR.below hS0 hI)).mono ?_
        rintro r u1 ⟨rfl, hb1⟩
        exact hK _ _ hb1 (hI.keep hb1) rfl
      · have p13 : x 13 = _ := hp 13 (by decide +kernel)
        have p16 : x 16 = _ := hp 16 (by decide +kernel)
        simp only [p13, p16] at hK ⊢
        refine wpOp_at rfl rfl ?_
        exact wp_value (v := .bool true) (by go_simp) (hK _ _ (Below.refl _ _) hI rfl)
      · have p17 : x 17 = _ := hp 17 (by decide +kernel)
        simp only [p17] at hK ⊢
        refine wpOp_at rfl rfl ?_
        exact wp_value (v := .bool true) (by go_simp) (hK _ _ (Below.refl _ _) hI rfl)
      · have p18 : x 18 = _ := hp 18 (by decide +kernel)
        simp only [p18] at hK ⊢
        refine wpOp_plain (i := 19) rfl (wanted_some rfl (by simp [yielded, Act.put])) ?_
        exact wp_load_agg' stW 25 _ rfl Try.isAgg25 _ Try.sizeOf25 ⟨0, g1, 0, _, _, _, rfl, rfl, rfl, rfl, hK _ _ (Below.refl _ _) hI rfl⟩
      · have p18 : x 18 = _ := hp 18 (by decide +kernel)
        have p19 : x 19 = _ := hp 19 (by decide +kernel)
        simp only [p18, p19] at hK ⊢
        refine wpOp_plain (i := 20) rfl (wanted_some rfl (by simp [yielded, Act.put])) ?_
        go_simp
        refine (HCL.out W (SentR.below hS0 hI)).mono ?_
        rintro r u1 ⟨a, c, rfl, hb1, hC⟩
        exact hK _ _ hb1 (hI.keep hb1) ⟨a, c, rfl, SentR.move hC (Nat.le_refl _) fun b _ _ => ⟨trivial, rfl⟩⟩
      · have p18 : x 18 = _ := hp 18 (by decide +kernel)
        obtain ⟨a, c, p20, hC⟩ := hp 20 (by decide +kernel)
        simp only [p18, p20] at hK ⊢
        refine wpOp_plain (i := 21) rfl (wanted_some rfl (by simp [yielded, Act.put])) ?_
        go_simp
        refine (HGL.out W a c hC).mono ?_
        rintro r u1 ⟨rfl, hb1⟩
        exact hK _ _ hb1 (hI.keep hb1) rfl
      · have p18 : x 18 = _ := hp 18 (by decide +kernel)
        simp only [p18] at hK ⊢
        refine wpOp_plain (i := 22) rfl (wanted_some rfl (by simp [yielded, Act.put])) ?_
        exact wp_load_agg' stW 25 _ rfl Try.isAgg25 _ Try.sizeOf25 ⟨0, g1, 0, _, _, _, rfl, rfl, rfl, rfl, hK _ _ (Below.refl _ _) hI rfl⟩
      · have p18 : x 18 = _ := hp 18 (by decide +kernel)
        have p22 : x 22 = _ := hp 22 (by decide +kernel)
        simp only [p18, p22] at hK ⊢
        refine wpOp_plain (i := 23) rfl (wanted_some rfl (by simp [yielded, Act.put])) ?_
        go_simp
        refine (HGR.out W sa sc (SentR.below hS0 hI)).mono ?_
        rintro r u1 ⟨rfl, hb1⟩
        exact hK _ _ hb1 (hI.keep hb1) rfl
      · have p18 : x 18 = _ := hp 18 (by decide +kernel)
        have p21 : x 21 = _ := hp 21 (by decide +kernel)
        have p23 : x 23 = _ := hp 23 (by decide +kernel)
        simp only [p18, p21, p23] at hK ⊢
        refine wpOp_plain (i := 24) rfl (wanted_some rfl (by simp [yielded, Act.put])) ?_
        exact wp_value (v := .bool true) (by go_simp) (hK _ _ (Below.refl _ _) hI rfl)
      · have p18 : x 18 = _ := hp 18 (by decide +kernel)
        have p24 : x 24 = _ := hp 24 (by decide +kernel)
        simp only [p18, p24] at hK ⊢
        refine wpOp_at rfl rfl ?_
        exact wp_value (v := .bool true) (by go_simp) (hK _ _ (Below.refl _ _) hI rfl)
      · have p25 : x 25 = _ := hp 25 (by decide +kernel)
        simp only [p25] at hK ⊢
        refine wpOp_at rfl rfl ?_
        exact wp_value (v := .bool true) (by go_simp) (hK _ _ (Below.refl _ _) hI rfl)
      · have p26 : x 26 = _ := hp 26 (by decide +kernel)
        simp only [p26] at hK ⊢
        refine wpOp_plain (i := 27) rfl (wanted_some rfl (by simp [yielded, Act.put])) ?_
        go_simp
        refine (lines_yes W).mono ?_
        rintro r u1 ⟨rfl, hb1⟩
        exact hK _ _ hb1 (hI.keep hb1) rfl
      · have p26 : x 26 = _ := hp 26 (by decide +kernel)
        have p27 : x 27 = _ := hp 27 (by decide +kernel)
        simp only [p26, p27] at hK ⊢
        refine wpOp_at rfl rfl ?_
        exact wp_value (v := .bool true) (by go_simp) (hK _ _ (Below.refl _ _) hI rfl)
      · have p28 : x 28 = _ := hp 28 (by decide +kernel)
        simp only [p28] at hK ⊢
        refine wpOp_at rfl rfl ?_
        exact wp_value (v := .bool true) (by go_simp) (hK _ _ (Below.refl _ _) hI rfl)
    case fin2 =>
      intro x W hI hG
      have p29 : x 29 = .bool true := hG 29 (by simp)
      simp only [putAll, Act.put, List.setIfInBounds_toArray, List.set_cons_succ, List.set_cons_zero, p29]
      refine wpAny_done (by decide +kernel) ?_ 0
      go_wp2
      go_ret
      exact ⟨rfl, hw.keep hI⟩

theorem own : ownKnob Try.prog.godebug = none := by kernel_rfl
theorem laid : laidOutB Try.prog = true := by kernel_rfl

set_option maxRecDepth 100000 in
theorem contract (H : Type) (enc : TypeId × Value → H) (W : World) (base : Nat) (args : Array Value) (ds gs : List (DataW H)) (before : List MemPlace)
    (hval : ∀ (j : Nat) t v, Try.f3.params[j]? = some t → args[j]? = some v → Value.okWide Try.prog W .any base t v)
    (hW : DataW.Whole enc Try.prog Try.f3.params.toList Rows.lineSendsSpec.vars false W args.toList ds gs before)
    (hsz : (DataW.weightsEach Try.prog (Try.f3.params.toList ++ Rows.lineSendsSpec.plain.varTypes Try.prog) (ds ++ gs)).all (· ≤ reachBytes) = true) :
    Calls Try.prog 3 args W fun e W' => ∃ v, e = .returned v ∧ Rows.lineSendsSpec.post enc Try.prog Try.f3 false true false false W args v W' := by
  have hW' := hW
  obtain ⟨p, q, hA0, hV, rfl, hfz, hnd⟩ := hW
  have hA : DataW.TrodAll enc Try.prog W 0 (fun _ => true) true Try.f3.params.toList args.toList ds p := hA0
  have hpar := Try.params3
  rw [hpar] at hA hval hsz
  obtain ⟨v0, vs0, d0, ds0, p0, q0, hargs0, rfl, rfl, h0, r0⟩ := trodAll_cons hA
  obtain ⟨v1, vs1, d1, ds1, p1, q1, hargs1, rfl, rfl, h1, r1⟩ := trodAll_cons r0
  obtain ⟨v2, vs2, d2, ds2, p2, q2, hargs2, rfl, rfl, h2, r2⟩ := trodAll_cons r1
  obtain ⟨hnil, rfl, rfl⟩ := trodAll_nil r2
  obtain rfl : args = #[v0, v1, v2] := by cases args; simp_all
  obtain ⟨rfl, rfl⟩ := trodVars_none hV
  have w0 : ∀ n ∈ d0.weights Try.prog 25, n ≤ reachBytes := fun n hn => by simpa using List.all_eq_true.1 hsz n (DataW.weights_mem_each (j := 0) (t := 25) (d := d0) rfl rfl n hn)
  obtain ⟨x0, cs0, rfl, ⟨a0, c0, rfl, hR0⟩, hx0, hm0⟩ := arg_struct reads_Line Try.underlying25 (hval 0 _ v0 rfl rfl) h0 w0
  have w1 : ∀ n ∈ d1.weights Try.prog 33, n ≤ reachBytes := fun n hn => by simpa using List.all_eq_true.1 hsz n (DataW.weights_mem_each (j := 1) (t := 33) (d := d1) rfl rfl n hn)
  obtain ⟨x1, cs1, rfl, ⟨la1, lc1, ga1, gc1, ca1, cc1, rfl, hA1, hB1, hC1⟩, hx1, hm1⟩ := arg_struct reads_Frame Try.underlying33 (hval 1 _ v1 rfl rfl) h1 w1
  have w2 : ∀ n ∈ d2.weights Try.prog 3, n ≤ reachBytes := fun n hn => by simpa using List.all_eq_true.1 hsz n (DataW.weights_mem_each (j := 2) (t := 3) (d := d2) rfl rfl n hn)
  obtain ⟨x2, rfl, hx2⟩ := arg_int Try.underlying3 (hval 2 _ v2 rfl rfl) h2
  refine (walk W x0 a0 c0 x1 la1 lc1 ga1 gc1 ca1 cc1 x2 hR0 ⟨⟨hA1, hB1⟩, hC1⟩ hx0 hx1).mono fun e W' ⟨he, hb⟩ => ?_
  exact ⟨_, he, law_post laid (by kernel_rfl) hW' rfl rfl (by kernel_rfl) Try.underlying4 hb⟩

set_option maxRecDepth 100000 in
theorem lifted (os : Os) (started : os.Started) (H : Type) (enc : TypeId × Value → H) :
    ReturnsInHanded {} Try.checked os 3 .any (Rows.lineSendsSpec.pre6 enc Try.prog Try.f3 Rows.lineSendsRow.domain false) (Rows.lineSendsSpec.post enc Try.prog Try.f3 false true false false) := by
  refine returnsInHanded_of_change_sized (C := Try.checked) own started (by kernel_rfl) Try.func3
    (ChangeSpec.witness6 (enc := enc) (C := Try.checked) false ⟨#[], #[.agg #[.int .i64 0, .slice none 0 0, .int .i64 0, .bool false, .bool false, .bool false, .bool false, .bool false, .bool false, .bool false, .bool false], .agg #[.int .i64 0, .int .i64 0, .int .i64 0, .bool false, .int .i64 0, .int .i64 0, .int .i64 0, .slice none 0 0, .slice none 0 0, .string .empty, .slice none 0 0], .int .i64 0], []⟩ 12 (by kernel_rfl) (by kernel_rfl) (by kernel_rfl) (by kernel_rfl)) ?_
  intro W base args ds gs before hval hW _ hsz _
  exact contract H enc W base args ds gs before hval hW hsz

theorem proved : Rows.LineSendsSaid :=
  OpenClaim.holds_of_wide 3 Try.f3 rfl rfl rfl rfl rfl rfl rfl ⟨rfl, rfl, rfl, rfl, rfl⟩ rfl rfl rfl rfl rfl (by kernel_rfl) Try.func3 (by kernel_rfl)
    (of_decide_eq_true (by kernel_rfl)) (by unfold Func.isWrapper; first | (rw [if_pos (by decide +kernel)]; kernel_rfl) | (rw [if_neg (by decide +kernel)]; exact ⟨rfl, rfl⟩))
    (fun os started H enc _ => lifted os started H enc)

end Go.Proofs.Ytclocdhkpckolaa.lineSends
