/- The walk through the reference's word on sending. -/
import Derived.Test.YtclocdhkpckolaaSendO
import Derived.Test.YtclocdhkpckolaaLineR
set_option linter.unusedSimpArgs false
set_option linter.unusedVariables false
namespace Go.Proofs.Ytclocdhkpckolaa
open Go.RowKit

set_option maxHeartbeats 2000000 in
theorem ref_SendOn_range (ok : Nat → Prop) (w : World) (next high : Int) (sa : Option Addr) (sc : Nat) (sent : List Sent) (e : Eight) (f : Frame) (la : Option Addr) (lc : Nat) (ga : Option Addr) (gc : Nat) (ca : Option Addr) (cc : Nat) (now : Int) (hR : SentR ok w sa sc sent)
    (h : lineOk ⟨next, sent, high, e⟩ = false ∨ now < 0 ∨ 1099511627776 < now) :
    Calls Try.prog 12 #[lineV next high sa sent.length sc e, frameV f la lc ga gc ca cc, .int .i64 now] w fun r w' => r = .returned (.tuple #[lineV next high sa sent.length sc e, frameZ, .int .i64 2]) ∧ Below w.heap.size w w' := by
  have hG := fun W (hW : SentR ok W sa sc sent) => ref_GoodLine ok W next high sa sc sent e hW
  generalize lineOk ⟨next, sent, high, e⟩ = g at h hG
  have HG := Lib.hid hG
  clear hG
  unfold lineV frameV frameZ at *
  have st := St.start w
  have tk := trivial
  rcases or3 (!g) (decide (now < 0)) (decide (1099511627776 < now)) with d | ⟨d0, d⟩ | ⟨d0, d1, d⟩ | ⟨d0, d1, d2⟩
  case inr.inr.inr =>
    exfalso
    simp at d0 d1 d2
    rcases h with h | h | h
    · rw [h] at d0; simp at d0
    · omega
    · omega
  all_goals
    go_enter Try.func12, Try.ntmps12
    go_wp2_with (first
      | (refine mem_box st (wanted_none rfl) 25 _ rfl _ rfl _ rfl ?_; clear st; intro g1 w1 hg1 st hg1b; clear hg1b; simp [Act.eval, Act.put, Value.cells, putL] at st) | (refine mem_box st (wanted_none rfl) 33 _ rfl _ rfl _ rfl ?_; clear st; intro g2 w2 hg2 st hg2b; clear hg2b; simp [Act.eval, Act.put, Value.cells, putL] at st) | (refine mem_alloc st (wanted_none rfl) 25 rfl _ Try.zeroValue25 _ rfl ?_; clear st; intro g3 w3 hg3 st hg3b; clear hg3b; simp [Act.eval, Act.put, Value.cells, putL] at st) | (refine mem_alloc st (wanted_none rfl) 33 rfl _ Try.zeroValue33 _ rfl ?_; clear st; intro g4 w4 hg4 st hg4b; clear hg4b; simp [Act.eval, Act.put, Value.cells, putL] at st) | ((first | refine mem_load_agg' st 25 _ rfl (wanted_none rfl) Try.isAgg25 _ Try.sizeOf25 ?_ | (refine mem_load_agg' st 25 _ rfl (wanted_some rfl ?_) Try.isAgg25 _ Try.sizeOf25 ?_; focus (simp [yielded, Act.put]; done))); refine ⟨0, _, _, _, _, _, rfl, rfl, rfl, rfl, ?_⟩) | ((first | refine mem_store' st 25 _ _ rfl (wanted_none rfl) _ Try.sizeOf25 ?_ | (refine mem_store' st 25 _ _ rfl (wanted_some rfl ?_) _ Try.sizeOf25 ?_; focus (simp [yielded, Act.put]; done))); refine ⟨2, _, _, _, _, _, rfl, rfl, rfl, rfl, rfl, rfl, ?_⟩; clear st; intro w8 st hw8m hw8z; simp [Act.eval, Act.put, Value.cells, putL] at st) | ((first | refine mem_store' st 33 _ _ rfl (wanted_none rfl) _ Try.sizeOf33 ?_ | (refine mem_store' st 33 _ _ rfl (wanted_some rfl ?_) _ Try.sizeOf33 ?_; focus (simp [yielded, Act.put]; done))); refine ⟨3, _, _, _, _, _, rfl, rfl, rfl, rfl, rfl, rfl, ?_⟩; clear st; intro w9 st hw9m hw9z; simp [Act.eval, Act.put, Value.cells, putL] at st)
      | (go_at_call 16; refine (HG.out _ (SentR.below hR st.below)).mono ?_; rintro r v1 ⟨rfl, hb1⟩; replace st := st.call hb1; clear hb1))
    have hc := fun j => st.cell (i := 2) rfl j
    have hc' := fun j => st.cell (i := 3) rfl j
    refine bodyPost_ret (v := _) ?hr rfl ⟨rfl, st.below⟩
    case hr => simp [results, Try.results12, go_sem, hc, hc', putL]

set_option maxHeartbeats 2000000 in
theorem ref_SendOn_full (ok : Nat → Prop) (w : World) (next high : Int) (sa : Option Addr) (sc : Nat) (sent : List Sent) (e : Eight) (f : Frame) (la : Option Addr) (lc : Nat) (ga : Option Addr) (gc : Nat) (ca : Option Addr) (cc : Nat) (now : Int) (hR : SentR ok w sa sc sent)
    (hg : lineOk ⟨next, sent, high, e⟩ = true) (h1 : 0 ≤ now) (h2 : now ≤ 1099511627776) (h3 : sent.length = 8 ∨ next = 1099511627775) :
    Calls Try.prog 12 #[lineV next high sa sent.length sc e, frameV f la lc ga gc ca cc, .int .i64 now] w fun r w' => r = .returned (.tuple #[lineV next high sa sent.length sc e, frameZ, .int .i64 5]) ∧ Below w.heap.size w w' := by
  have hG := fun W (hW : SentR ok W sa sc sent) => ref_GoodLine ok W next high sa sc sent e hW
  obtain ⟨b3, b4, b1, b2, b5⟩ := lineOk_high hg
  rw [hg] at hG
  have HG := Lib.hid hG
  clear hG hg
  have d0 : decide (now < 0) = false := by simp; omega
  have d1 : decide (1099511627776 < now) = false := by simp; omega
  unfold lineV frameV frameZ at *
  have st := St.start w
  have hq : sent.length = 8 ∨ (sent.length ≠ 8 ∧ next = 1099511627775) := by omega
  clear h3
  rcases hq with hq | ⟨hq, hq2⟩
  all_goals
    first | (have dq : ((sent.length : Int) == 8) = true := by simp; omega) | (have dq : ((sent.length : Int) == 8) = false := by simp; omega)
    try (have dq2 : (next == 1099511627775) = true := by simpa using hq2)
    clear hq
    try clear hq2
    go_enter Try.func12, Try.ntmps12
    go_wp2_with (first
      | (refine mem_box st (wanted_none rfl) 25 _ rfl _ rfl _ rfl ?_; clear st; intro g1 w1 hg1 st hg1b; clear hg1b; simp [Act.eval, Act.put, Value.cells, putL] at st) | (refine mem_box st (wanted_none rfl) 33 _ rfl _ rfl _ rfl ?_; clear st; intro g2 w2 hg2 st hg2b; clear hg2b; simp [Act.eval, Act.put, Value.cells, putL] at st) | (refine mem_alloc st (wanted_none rfl) 25 rfl _ Try.zeroValue25 _ rfl ?_; clear st; intro g3 w3 hg3 st hg3b; clear hg3b; simp [Act.eval, Act.put, Value.cells, putL] at st) | (refine mem_alloc st (wanted_none rfl) 33 rfl _ Try.zeroValue33 _ rfl ?_; clear st; intro g4 w4 hg4 st hg4b; clear hg4b; simp [Act.eval, Act.put, Value.cells, putL] at st) | ((first | refine mem_load_agg' st 25 _ rfl (wanted_none rfl) Try.isAgg25 _ Try.sizeOf25 ?_ | (refine mem_load_agg' st 25 _ rfl (wanted_some rfl ?_) Try.isAgg25 _ Try.sizeOf25 ?_; focus (simp [yielded, Act.put]; done))); refine ⟨0, _, _, _, _, _, rfl, rfl, rfl, rfl, ?_⟩) | ((first | refine mem_load' st 22 _ rfl (wanted_none rfl) Try.isAgg22 ?_ | (refine mem_load' st 22 _ rfl (wanted_some rfl ?_) Try.isAgg22 ?_; focus (simp [yielded, Act.put]; done))); refine ⟨0, _, _, _, _, _, rfl, rfl, rfl, ?_⟩) | ((first | refine mem_load' st 3 _ rfl (wanted_none rfl) Try.isAgg3 ?_ | (refine mem_load' st 3 _ rfl (wanted_some rfl ?_) Try.isAgg3 ?_; focus (simp [yielded, Act.put]; done))); refine ⟨0, _, _, _, _, _, rfl, rfl, rfl, ?_⟩) | ((first | refine mem_store' st 25 _ _ rfl (wanted_none rfl) _ Try.sizeOf25 ?_ | (refine mem_store' st 25 _ _ rfl (wanted_some rfl ?_) _ Try.sizeOf25 ?_; focus (simp [yielded, Act.put]; done))); refine ⟨2, _, _, _, _, _, rfl, rfl, rfl, rfl, rfl, rfl, ?_⟩; clear st; intro w8 st hw8m hw8z; simp [Act.eval, Act.put, Value.cells, putL] at st) | ((first | refine mem_store' st 33 _ _ rfl (wanted_none rfl) _ Try.sizeOf33 ?_ | (refine mem_store' st 33 _ _ rfl (wanted_some rfl ?_) _ Try.sizeOf33 ?_; focus (simp [yielded, Act.put]; done))); refine ⟨3, _, _, _, _, _, rfl, rfl, rfl, rfl, rfl, rfl, ?_⟩; clear st; intro w9 st hw9m hw9z; simp [Act.eval, Act.put, Value.cells, putL] at st)
      | (go_at_call 16; refine (HG.out _ (SentR.below hR st.below)).mono ?_; rintro r v1 ⟨rfl, hb1⟩; replace st := st.call hb1; clear hb1))
    have hc := fun j => st.cell (i := 2) rfl j
    have hc' := fun j => st.cell (i := 3) rfl j
    refine bodyPost_ret (v := _) ?hr rfl ⟨rfl, st.below⟩
    case hr => simp [results, Try.results12, go_sem, hc, hc', putL]

theorem SlR.only {ok : Nat → Prop} {w : World} {α : Type} {sz : Nat} {R : List Value → α → Prop} {g o c : Nat} {xs : List α} (h : SlR ok w sz R (some ⟨g, o, none⟩) c xs) : SlR (fun b => b = g) w sz R (some ⟨g, o, none⟩) c xs := by
  refine ⟨h.1, h.2.1, h.2.2.1, fun i x hx => ?_⟩
  obtain ⟨b, o', cs, ha, _, r⟩ := h.2.2.2 i x hx
  have e : g = b := by simp at ha; exact ha.1
  exact ⟨b, o', cs, ha, e.symm, r⟩

/-- A row of ours has grown: whatever else is known stays. -/
theorem St.grown {M : List Nat} {w0 w w' : World} {own : Blks} {row : Option Nat} (st : St M w0 w own) (hg : w.grownBy w' row) (hn : ∀ x ∈ own, row ≠ some x.1) : St (row.toList ++ M) w0 w' own := by
  refine ⟨hg.os.trans st.os, hg.tape.trans st.tape, hg.output.trans st.output, Nat.le_trans st.size hg.size, fun b hb hM => ?_, fun x hx => ?_, fun x hx => ?_, st.ne⟩
  · rw [hg.block b (Nat.lt_of_lt_of_le hb st.size) (by rintro rfl; simp at hM), st.frame b hb (by simp at hM; exact hM.2)]
  · rw [hg.block _ (st.lt hx) fun e => hn x hx e.symm]
    exact st.blk x hx
  · rcases st.mine x hx with h | h
    · exact .inl (by simp [h])
    · exact .inr h

set_option maxRecDepth 20000 in
set_option maxHeartbeats 2000000 in
theorem ref_SendOn_ok (ok : Nat → Prop) (w : World) (hok : ∀ b, w.heap.size ≤ b → ok b) (next high : Int) (sa : Option Addr) (sc : Nat) (sent : List Sent) (e : Eight) (f : Frame) (la : Option Addr) (lc : Nat) (ga : Option Addr) (gc : Nat) (ca : Option Addr) (cc : Nat) (now : Int) (hR : SentR ok w sa sc sent) (hF : FrameR ok w f la lc ga gc ca cc) (hf : ∀ s ∈ sent, s.frame.Fits) (hff : f.Fits)
    (hg : lineOk ⟨next, sent, high, e⟩ = true) (h1 : 0 ≤ now) (h2 : now ≤ 1099511627776) (h3 : sent.length < 8) (h4 : next < 1099511627775) :
    Calls Try.prog 12 #[lineV next high sa sent.length sc e, frameV f la lc ga gc ca cc, .int .i64 now] w fun r w' => ∃ a' c', r = .returned (.tuple #[lineV (next + 1) high a' (sent.length + 1) c' e, frameV { f with seq := next + 1 } la lc ga gc ca cc, .int .i64 0]) ∧ Below w.heap.size w w' ∧ SentR ok w' a' c' (sent ++ [⟨{ f with seq := next + 1 }, 1, now + 2⟩]) := by
  have hG := fun W (hW : SentR ok W sa sc sent) => ref_GoodLine ok W next high sa sc sent e hW
  obtain ⟨b3, b4, b1, b2, b5⟩ := lineOk_high hg
  obtain ⟨i0, hi, hz0, hz1, hz2⟩ := info_parts info_Sent
  rw [hg] at hG
  have HG := Lib.hid hG
  clear hG hg
  have d0 : decide (now < 0) = false := by simp; omega
  have d1 : decide (1099511627776 < now) = false := by simp; omega
  have dq : ((sent.length : Int) == 8) = false := by simp; omega
  have dq2 : (next == 1099511627775) = false := by simp; omega
  unfold lineV frameV at *
  have HCL := Lib.hid (fun (W : World) (h : SentR ok W sa sc sent) => ref_CopyLineO ok W next high sa sc sent e h (by omega) hf)
  have st := St.start w
  have tk := trivial
  go_enter Try.func12, Try.ntmps12
  go_wp2_with (first
    | (refine mem_box st (wanted_none rfl) 25 _ rfl _ rfl _ rfl ?_; clear st; intro g1 w1 hg1 st hg1b; clear hg1b; simp [Act.eval, Act.put, Value.cells, putL] at st) | (refine mem_box st (wanted_none rfl) 33 _ rfl _ rfl _ rfl ?_; clear st; intro g2 w2 hg2 st hg2b; clear hg2b; simp [Act.eval, Act.put, Value.cells, putL] at st) | (refine mem_alloc st (wanted_none rfl) 33 rfl _ Try.zeroValue33 _ rfl ?_; clear st; intro g4 w4 hg4 st hg4b; clear hg4b; simp [Act.eval, Act.put, Value.cells, putL] at st) | ((first | refine mem_load_agg' st 25 _ rfl (wanted_none rfl) Try.isAgg25 _ Try.sizeOf25 ?_ | (refine mem_load_agg' st 25 _ rfl (wanted_some rfl ?_) Try.isAgg25 _ Try.sizeOf25 ?_; focus (simp [yielded, Act.put]; done))); refine ⟨0, _, _, _, _, _, rfl, rfl, rfl, rfl, ?_⟩) | ((first | refine mem_load' st 22 _ rfl (wanted_none rfl) Try.isAgg22 ?_ | (refine mem_load' st 22 _ rfl (wanted_some rfl ?_) Try.isAgg22 ?_; focus (simp [yielded, Act.put]; done))); refine ⟨0, _, _, _, _, _, rfl, rfl, rfl, ?_⟩)
    | (clear tk; (refine mem_alloc st (wanted_none rfl) 25 rfl _ Try.zeroValue25 _ rfl ?_; clear st; intro g3 w3 hg3 st hg3b; clear hg3b; simp [Act.eval, Act.put, Value.cells, putL] at st)) | (refine mem_alloc st (wanted_none rfl) 25 rfl _ Try.zeroValue25 _ rfl ?_; clear st; intro g5 w5 hg5 st hg5b; clear hg5b; simp [Act.eval, Act.put, Value.cells, putL] at st) | ((first | refine mem_store' st 25 _ _ rfl (wanted_none rfl) _ Try.sizeOf25 ?_ | (refine mem_store' st 25 _ _ rfl (wanted_some rfl ?_) _ Try.sizeOf25 ?_; focus (simp [yielded, Act.put]; done))); refine ⟨4, _, _, _, _, _, rfl, rfl, rfl, rfl, rfl, rfl, ?_⟩; clear st; intro w6 st hw6m hw6z; simp [Act.eval, Act.put, Value.cells, putL] at st) | ((first | refine mem_store' st 3 _ _ rfl (wanted_none rfl) _ Try.sizeOf3 ?_ | (refine mem_store' st 3 _ _ rfl (wanted_some rfl ?_) _ Try.sizeOf3 ?_; focus (simp [yielded, Act.put]; done))); refine ⟨4, _, _, _, _, _, rfl, rfl, rfl, rfl, rfl, rfl, ?_⟩; clear st; intro w8 st hw8m hw8z; simp [Act.eval, Act.put, Value.cells, putL] at st) | ((first | refine mem_store' st 3 _ _ rfl (wanted_none rfl) _ Try.sizeOf3 ?_ | (refine mem_store' st 3 _ _ rfl (wanted_some rfl ?_) _ Try.sizeOf3 ?_; focus (simp [yielded, Act.put]; done))); refine ⟨1, _, _, _, _, _, rfl, rfl, rfl, rfl, rfl, rfl, ?_⟩; clear st; intro w9 st hw9m hw9z; simp [Act.eval, Act.put, Value.cells, putL] at st) | ((first | refine mem_load' st 3 _ rfl (wanted_none rfl) Try.isAgg3 ?_ | (refine mem_load' st 3 _ rfl (wanted_some rfl ?_) Try.isAgg3 ?_; focus (simp [yielded, Act.put]; done))); refine ⟨4, _, _, _, _, _, rfl, rfl, rfl, ?_⟩) | ((first | refine mem_load' st 3 _ rfl (wanted_none rfl) Try.isAgg3 ?_ | (refine mem_load' st 3 _ rfl (wanted_some rfl ?_) Try.isAgg3 ?_; focus (simp [yielded, Act.put]; done))); refine ⟨0, _, _, _, _, _, rfl, rfl, rfl, ?_⟩)
    | (go_at_call 16; refine (HG.out _ (SentR.below hR st.below)).mono ?_; rintro r v1 ⟨rfl, hb1⟩; replace st := st.call hb1; clear hb1)
    | (go_at_call 9; refine (HCL.out _ (SentR.below hR st.below)).mono ?_; rintro r v2 ⟨a0, k0, rfl, hb2, hO0⟩; unfold lineV; have y1 := st.ltAt (i := 0) rfl; have y2 := st.ltAt (i := 1) rfl; have y3 := st.ltAt (i := 2) rfl; have y4 := st.ltAt (i := 3) rfl; have hs1 := st.below.size; replace st := st.call hb2; have st2 := st; replace st := st.rebase))
  have hB2 := hb2.size
  have zz : ∀ b, v1.heap.size ≤ b → b < v2.heap.size → w9.heap[b]? = v2.heap[b]? := fun b h1 h2 => st.frame b h2 (by simp; omega)
  have hst := st.size
  have g5l := st.ltAt (i := 4) rfl
  have hw9 : Below w.heap.size w w9 := st2.below.trans (st.belowB (by omega) (by simp; omega))
  have hF9 := hF.below hw9
  simp only [Act.put, List.setIfInBounds_toArray, List.set_cons_succ, List.set_cons_zero]
  refine wp_region_ahead (by kernel_rfl) [(0, some 43), (1, some 44), (2, some 45), (3, some 46), (4, some 47), (5, some 48), (6, some 49), (7, some 50)] [0, 1, 2, 3, 4, 5, 6, 7] rfl 3 (by decide +kernel) rfl (fun w w' => Below w.heap.size w w') (fun i v w' => match i with
    | 0 => v = .pointer (some ⟨g5, 1, none⟩)
    | 1 => v = .slice a0 sent.length k0
    | 2 => v = .agg #[.int .i64 f.src, .int .i64 f.dst, .int .i64 (next + 1), .bool f.ack, .int .i64 f.thread, .int .i64 f.mail.host, .int .i64 f.mail.thread, .slice la f.mail.label.length lc, .slice ga f.mail.grants.length gc, .string f.mail.text, .slice ca f.certs.length cc]
    | 3 => ∃ l1 k1 l2 k2 l3 k3, v = .agg #[.int .i64 f.src, .int .i64 f.dst, .int .i64 (next + 1), .bool f.ack, .int .i64 f.thread, .int .i64 f.mail.host, .int .i64 f.mail.thread, .slice l1 f.mail.label.length k1, .slice l2 f.mail.grants.length k2, .string f.mail.text, .slice l3 f.certs.length k3] ∧ FrameR (newIn w9) w' f l1 k1 l2 k2 l3 k3
    | 4 => v = .int .i64 now
    | 5 => v = .int .i64 (now + 2)
    | 6 => ∃ l1 k1 l2 k2 l3 k3, v = .agg #[.int .i64 f.src, .int .i64 f.dst, .int .i64 (next + 1), .bool f.ack, .int .i64 f.thread, .int .i64 f.mail.host, .int .i64 f.mail.thread, .slice l1 f.mail.label.length k1, .slice l2 f.mail.grants.length k2, .string f.mail.text, .slice l3 f.certs.length k3, .int .i64 1, .int .i64 (now + 2)] ∧ FrameR (newIn w9) w' f l1 k1 l2 k2 l3 k3
    | _ => ∃ g l1 k1 l2 k2 l3 k3, v = .slice (some ⟨g, 0, none⟩) 1 1 ∧ FrameR (newIn w9) w' f l1 k1 l2 k2 l3 k3 ∧ w'.heap[g]? = some (.cells #[.int .i64 f.src, .int .i64 f.dst, .int .i64 (next + 1), .bool f.ack, .int .i64 f.thread, .int .i64 f.mail.host, .int .i64 f.mail.thread, .slice l1 f.mail.label.length k1, .slice l2 f.mail.grants.length k2, .string f.mail.text, .slice l3 f.certs.length k3, .int .i64 1, .int .i64 (now + 2)] 56 (0, 0)))
    (fun w' => Below w9.heap.size w9 w') (Below.refl _ _).drew ?mono ?step ?fin
  case mono =>
    intro i v w0 w' hi hb _ _ h
    simp only [List.mem_cons, List.not_mem_nil, or_false] at hi
    rcases hi with rfl | rfl | rfl | rfl | rfl | rfl | rfl | rfl
    case inr.inr.inr.inl => obtain ⟨l1, k1, l2, k2, l3, k3, e, h⟩ := h; exact ⟨l1, k1, l2, k2, l3, k3, e, h.below hb⟩
    case inr.inr.inr.inr.inr.inr.inl => obtain ⟨l1, k1, l2, k2, l3, k3, e, h⟩ := h; exact ⟨l1, k1, l2, k2, l3, k3, e, h.below hb⟩
    case inr.inr.inr.inr.inr.inr.inr => obtain ⟨g, l1, k1, l2, k2, l3, k3, e, h, hg⟩ := h; exact ⟨g, l1, k1, l2, k2, l3, k3, e, h.below hb, (hb.block g (Array.getElem?_eq_some_iff.1 hg).1).trans hg⟩
    all_goals exact h
  case step =>
    intro i t hi x W hI hp K hK
    simp only [List.mem_cons, List.not_mem_nil, or_false, Prod.mk.injEq] at hi
    rcases hi with ⟨rfl, rfl⟩ | ⟨rfl, rfl⟩ | ⟨rfl, rfl⟩ | ⟨rfl, rfl⟩ | ⟨rfl, rfl⟩ | ⟨rfl, rfl⟩ | ⟨rfl, rfl⟩ | ⟨rfl, rfl⟩
    all_goals simp only [putAll, Act.put, List.setIfInBounds_toArray, List.set_cons_succ, List.set_cons_zero] at hK ⊢
    all_goals have stW := st.call hI
    all_goals refine wpOp_at rfl rfl ?_
    · exact wp_value (v := .pointer (some ⟨g5, 1, none⟩)) (by go_simp) (hK _ _ (Below.refl _ _) hI rfl)
    · have p0 : x 0 = _ := hp 0 (by decide +kernel)
      exact wp_load' stW 22 _ rfl Try.isAgg22 ⟨4, g5, 1, _, _, _, p0, rfl, rfl, hK _ _ (Below.refl _ _) hI rfl⟩
    · exact wp_load_agg' stW 33 _ rfl Try.isAgg33 _ Try.sizeOf33 ⟨1, g2, 0, _, _, _, rfl, rfl, rfl, rfl, hK _ _ (Below.refl _ _) hI rfl⟩
    · have p2 : x 2 = _ := hp 2 (by decide +kernel)
      simp only [p2] at hK ⊢
      go_simp
      refine (ref_CopyFrame ok _ { f with seq := next + 1 } la lc ga gc ca cc (hF9.mail.label.below hI) (hF9.mail.grants.below hI) (hF9.certs.below hI) ⟨hff.label, hff.grants, hff.certs⟩).mono ?_
      rintro r u1 ⟨l1, k1, l2, k2, l3, k3, rfl, hb1, hO1, hO2, hO3⟩
      have hIs := hI.size
      exact hK _ _ hb1 (hI.keep hb1) ⟨l1, k1, l2, k2, l3, k3, rfl, ⟨⟨hO1.okay fun b (h : W.heap.size ≤ b) => (by show w9.heap.size ≤ b; omega), hO2.okay fun b (h : W.heap.size ≤ b) => (by show w9.heap.size ≤ b; omega)⟩, hO3.okay fun b (h : W.heap.size ≤ b) => (by show w9.heap.size ≤ b; omega)⟩⟩
    · exact wp_value (v := .int .i64 now) (by go_simp) (hK _ _ (Below.refl _ _) hI rfl)
    · have p4 : x 4 = _ := hp 4 (by decide +kernel)
      simp only [p4] at hK ⊢
      have hwr : IntKind.i64.wrap (now + 2) = now + 2 := IntWalk.i64_in _ (by omega)
      exact wp_value (v := .int .i64 (now + 2)) (by go_simp) (hK _ _ (Below.refl _ _) hI rfl)
    · obtain ⟨l1, k1, l2, k2, l3, k3, p3, h3⟩ := hp 3 (by decide +kernel)
      have p5 : x 5 = _ := hp 5 (by decide +kernel)
      simp only [p3, p5] at hK ⊢
      exact wp_value (v := _) (by go_simp) (hK _ _ (Below.refl _ _) hI ⟨l1, k1, l2, k2, l3, k3, rfl, h3⟩)
    · obtain ⟨l1, k1, l2, k2, l3, k3, p6, h6⟩ := hp 6 (by decide +kernel)
      simp only [p6] at hK ⊢
      exact wp_build1 stW 22 56 _ rfl Try.underlying22 13 Try.sizeOf56 (by decide) (by decide) _ Try.zeroValue56 _ rfl rfl fun g W' h1 h2 h3 h4 h5 =>
        hK _ _ h4 (hI.keep h4) ⟨g, l1, k1, l2, k2, l3, k3, rfl, h6.below h4, h3.blk _ (List.mem_of_getElem? (i := 5) rfl)⟩
  case fin =>
    intro x W hI hG
    have hIs := hI.size
    have p1 : x 1 = .slice a0 sent.length k0 := hG 1 (by simp)
    obtain ⟨gb, l1, k1, l2, k2, l3, k3, p7, h7, hgb⟩ := hG 7 (by simp)
    have zW : ∀ b, v1.heap.size ≤ b → b < v2.heap.size → W.heap[b]? = v2.heap[b]? := fun b h1 h2 => (hI.block b (by omega)).trans (zz b h1 h2)
    have hO : Own v1.heap.size 56 W 13 (RSent (fun b => (v1.heap.size ≤ b ∧ b ≠ g5) ∧ a0.map (·.block) ≠ some b) W) a0 k0 sent := hO0.move zW fun _ _ h => h.move (by omega) fun b hb ho => ⟨⟨⟨ho.1, by omega⟩, ho.2⟩, zW b ho.1 hb⟩
    have ha0 : ∀ k, a0.map (·.block) = some k → v1.heap.size ≤ k ∧ k < v2.heap.size := hO0.blockLt
    have hwv : w.heap.size ≤ v1.heap.size := by
      have := st2.mine _ (List.mem_of_getElem? (i := 0) rfl)
      simp at this
      omega
    have hws := hw9.size
    have hB1 : Below w.heap.size w W := hw9.trans (hI.mono hws)
    simp only [putAll, Act.put, List.setIfInBounds_toArray, List.set_cons_succ, List.set_cons_zero]
    refine wpAny_at (i := 8) rfl rfl (by decide +kernel) fun K hK => ?_
    refine wp_app1 _ _ 22 rfl 56 i0 _ 13 160 Try.underlying22 hi hz0 hz1 hz2 rfl (by decide) (y := (⟨{ f with seq := next + 1 }, 1, now + 2⟩ : Sent)) p1 rfl hO p7 (SlR.ofBlk (ok := fun _ => True) hgb ⟨l1, k1, l2, k2, l3, k3, rfl, ?m1, ?m2, ?m3⟩ rfl rfl trivial) (by omega) (by unfold maxLen; omega) (by omega) ?_
    case m1 => exact h7.mail.label.okay fun b (h : w9.heap.size ≤ b) => ⟨⟨by omega, by omega⟩, fun e => by have := ha0 b e; omega⟩
    case m2 => exact h7.mail.grants.okay fun b (h : w9.heap.size ≤ b) => ⟨⟨by omega, by omega⟩, fun e => by have := ha0 b e; omega⟩
    case m3 => exact h7.certs.okay fun b (h : w9.heap.size ≤ b) => ⟨⟨by omega, by omega⟩, fun e => by have := ha0 b e; omega⟩
    intro g7 c7 w7 hO7 hgr hat hlt7
    refine hK _ _ ?_
    clear hK
    have hg75 : g7 ≠ g5 := by
      rcases hat with hat | hat
      · have := ha0 g7 hat; omega
      · omega
    have hg71 : v1.heap.size ≤ g7 := by
      rcases hat with hat | hat
      · exact (ha0 g7 hat).1
      · omega
    have hB7 : Below w.heap.size w w7 := hO.grown hB1 hgr hwv (by omega)
    have hO8 := hO7.slr (ok := fun b => v1.heap.size ≤ b) fun b hb => hb
    replace hO8 : SlR (fun b => b = g7) w7 13 (RSent (fun b => v1.heap.size ≤ b ∧ b ≠ g5) w7) (some ⟨g7, 0, none⟩) c7 (sent ++ [⟨{ f with seq := next + 1 }, 1, now + 2⟩]) := hO8.only.mono (.refl _ _) fun _ _ h => h.move hgr.size fun b hb ho => ⟨ho.1, hgr.block b hb fun e => ho.2 e.symm⟩
    have st7 := (st.call hI).grown hgr (by
      intro x hx e
      have := ha0 _ e
      simp at hx
      rcases hx with rfl | rfl | rfl | rfl | rfl <;> simp at this <;> omega)
    clear hO7 hgr hat hO h7 hgb st hO0 hG
    simp only [Act.put, List.setIfInBounds_toArray, List.set_cons_succ, List.set_cons_zero]
    refine wpAny_at (i := 9) rfl rfl (by decide +kernel) fun K hK => ?_
    refine wp_value (w' := w7) (v := .pointer (some ⟨g5, 1, none⟩)) (by go_simp) (hK _ _ ?_)
    clear hK
    simp only [Act.put, List.setIfInBounds_toArray, List.set_cons_succ, List.set_cons_zero]
    refine wpAny_at (i := 10) rfl rfl (by decide +kernel) fun K hK => ?_
    refine wp_store' st7.rebase 22 _ _ rfl _ Try.sizeOf22 ⟨4, g5, 1, _, _, _, rfl, rfl, rfl, rfl, rfl, rfl, fun w8' st8 hm8 hz8 => hK _ _ ?_⟩
    clear hK
    refine wpAny_done (by decide +kernel) ?_ 0
    simp [Act.eval, Act.put, Value.cells, putL] at st8
    have hs7 := hB7.size
    have hs8 := st8.size
    replace hO8 : SlR (fun b => v1.heap.size ≤ b ∧ b ≠ g5) w8' 13 (RSent (fun b => v1.heap.size ≤ b ∧ b ≠ g5) w8') (some ⟨g7, 0, none⟩) c7 (sent ++ [⟨{ f with seq := next + 1 }, 1, now + 2⟩]) := hO8.move hs8 (fun b hb ho => ⟨by subst ho; exact ⟨hg71, hg75⟩, by subst ho; exact hm8 _ hg75⟩) fun _ _ h => h.move hs8 fun b hb ho => ⟨ho, hm8 b ho.2⟩
    have hB8 : Below w.heap.size w w8' := hB7.trans ⟨st8.os, st8.tape, st8.output, by omega, fun b hb => hm8 b (by omega)⟩
    have hne34 : g3 ≠ g4 := by
      have := st8.ne
      simp at this
      exact this.2.2.1.1
    clear st7
    go_wp2
    simp only [Act.put, List.setIfInBounds_toArray, List.set_cons_succ, List.set_cons_zero]
    refine wp_region_ahead (by kernel_rfl) [(0, some 53), (1, some 54), (2, none), (3, none), (4, some 8)] [0, 1, 2, 3, 4] rfl 0 (by decide +kernel) rfl
      (fun u u' => (u.heap[g3]? = some (.cells #[.int .i64 (next + 1), .slice (some ⟨g7, 0, none⟩) (sent.length + 1) c7, .int .i64 high, .bool e.s0, .bool e.s1, .bool e.s2, .bool e.s3, .bool e.s4, .bool e.s5, .bool e.s6, .bool e.s7] 25 (0, 0)) → u'.heap[g3]? = some (.cells #[.int .i64 (next + 1), .slice (some ⟨g7, 0, none⟩) (sent.length + 1) c7, .int .i64 high, .bool e.s0, .bool e.s1, .bool e.s2, .bool e.s3, .bool e.s4, .bool e.s5, .bool e.s6, .bool e.s7] 25 (0, 0))) ∧ (u.heap[g4]? = some (.cells #[.int .i64 f.src, .int .i64 f.dst, .int .i64 (next + 1), .bool f.ack, .int .i64 f.thread, .int .i64 f.mail.host, .int .i64 f.mail.thread, .slice la f.mail.label.length lc, .slice ga f.mail.grants.length gc, .string f.mail.text, .slice ca f.certs.length cc] 33 (0, 0)) → u'.heap[g4]? = some (.cells #[.int .i64 f.src, .int .i64 f.dst, .int .i64 (next + 1), .bool f.ack, .int .i64 f.thread, .int .i64 f.mail.host, .int .i64 f.mail.thread, .slice la f.mail.label.length lc, .slice ga f.mail.grants.length gc, .string f.mail.text, .slice ca f.certs.length cc] 33 (0, 0))))
      (fun i v u => match i with
        | 0 => v = .agg #[.int .i64 (next + 1), .slice (some ⟨g7, 0, none⟩) (sent.length + 1) c7, .int .i64 high, .bool e.s0, .bool e.s1, .bool e.s2, .bool e.s3, .bool e.s4, .bool e.s5, .bool e.s6, .bool e.s7]
        | 1 => v = .agg #[.int .i64 f.src, .int .i64 f.dst, .int .i64 (next + 1), .bool f.ack, .int .i64 f.thread, .int .i64 f.mail.host, .int .i64 f.mail.thread, .slice la f.mail.label.length lc, .slice ga f.mail.grants.length gc, .string f.mail.text, .slice ca f.certs.length cc]
        | 2 => u.heap[g3]? = some (.cells #[.int .i64 (next + 1), .slice (some ⟨g7, 0, none⟩) (sent.length + 1) c7, .int .i64 high, .bool e.s0, .bool e.s1, .bool e.s2, .bool e.s3, .bool e.s4, .bool e.s5, .bool e.s6, .bool e.s7] 25 (0, 0))
        | 3 => u.heap[g4]? = some (.cells #[.int .i64 f.src, .int .i64 f.dst, .int .i64 (next + 1), .bool f.ack, .int .i64 f.thread, .int .i64 f.mail.host, .int .i64 f.mail.thread, .slice la f.mail.label.length lc, .slice ga f.mail.grants.length gc, .string f.mail.text, .slice ca f.certs.length cc] 33 (0, 0))
        | _ => v = .int .i64 0)
      (fun u => ∃ c3 c4 : List Value, c3.length = 11 ∧ c4.length = 11 ∧ St [g1, g2, g3, g4, g5] w8' u [(g1, 25, [.int .i64 next, .slice sa sent.length sc, .int .i64 high, .bool e.s0, .bool e.s1, .bool e.s2, .bool e.s3, .bool e.s4, .bool e.s5, .bool e.s6, .bool e.s7]), (g2, 33, [.int .i64 f.src, .int .i64 f.dst, .int .i64 (next + 1), .bool f.ack, .int .i64 f.thread, .int .i64 f.mail.host, .int .i64 f.mail.thread, .slice la f.mail.label.length lc, .slice ga f.mail.grants.length gc, .string f.mail.text, .slice ca f.certs.length cc]), (g3, 25, c3), (g4, 33, c4), (g5, 25, [.int .i64 (next + 1), .slice (some ⟨g7, 0, none⟩) (sent.length + 1) c7, .int .i64 high, .bool e.s0, .bool e.s1, .bool e.s2, .bool e.s3, .bool e.s4, .bool e.s5, .bool e.s6, .bool e.s7])]) ⟨_, _, rfl, rfl, st8.rebase.drew⟩ ?mono2 ?step2 ?fin2
    case mono2 =>
      intro i v u u' hi hr _ _ h
      simp only [List.mem_cons, List.not_mem_nil, or_false] at hi
      rcases hi with rfl | rfl | rfl | rfl | rfl
      case inr.inr.inl => exact hr.1 h
      case inr.inr.inr.inl => exact hr.2 h
      all_goals exact h
    case step2 =>
      intro i t hi x U hI2 hp K hK
      obtain ⟨c3, c4, l3, l4, stU⟩ := hI2
      simp only [List.mem_cons, List.not_mem_nil, or_false, Prod.mk.injEq] at hi
      rcases hi with ⟨rfl, rfl⟩ | ⟨rfl, rfl⟩ | ⟨rfl, rfl⟩ | ⟨rfl, rfl⟩ | ⟨rfl, rfl⟩
      all_goals simp only [putAll, Act.put, List.setIfInBounds_toArray, List.set_cons_succ, List.set_cons_zero] at hK ⊢
      all_goals refine wpOp_at rfl rfl ?_
      · exact wp_load_agg' stU 25 _ rfl Try.isAgg25 _ Try.sizeOf25 ⟨4, g5, 0, _, _, _, rfl, rfl, rfl, rfl, hK _ _ ⟨id, id⟩ ⟨c3, c4, l3, l4, stU⟩ rfl⟩
      · exact wp_load_agg' stU 33 _ rfl Try.isAgg33 _ Try.sizeOf33 ⟨1, g2, 0, _, _, _, rfl, rfl, rfl, rfl, hK _ _ ⟨id, id⟩ ⟨c3, c4, l3, l4, stU⟩ rfl⟩
      · have p0 : x 0 = _ := hp 0 (by decide +kernel)
        simp only [p0] at hK ⊢
        obtain ⟨v0, v1, v2, v3, v4, v5, v6, v7, v8, v9, v10, rfl⟩ := len11 l3
        refine wp_store' stU 25 _ _ rfl _ Try.sizeOf25 ⟨2, g3, 0, _, _, _, rfl, rfl, rfl, rfl, rfl, rfl, fun u' stu hm hz => ?_⟩
        simp [Act.eval, Act.put, Value.cells, putL] at stu
        exact hK undef _ ⟨fun _ => stu.blk _ (List.mem_of_getElem? (i := 2) rfl), fun h => (hm g4 (fun e => hne34 e.symm)).trans h⟩ ⟨_, c4, rfl, l4, stu⟩ (stu.blk _ (List.mem_of_getElem? (i := 2) rfl))
      · have p1 : x 1 = _ := hp 1 (by decide +kernel)
        simp only [p1] at hK ⊢
        obtain ⟨v0, v1, v2, v3, v4, v5, v6, v7, v8, v9, v10, rfl⟩ := len11 l4
        refine wp_store' stU 33 _ _ rfl _ Try.sizeOf33 ⟨3, g4, 0, _, _, _, rfl, rfl, rfl, rfl, rfl, rfl, fun u' stu hm hz => ?_⟩
        simp [Act.eval, Act.put, Value.cells, putL] at stu
        exact hK undef _ ⟨fun h => (hm g3 hne34).trans h, fun _ => stu.blk _ (List.mem_of_getElem? (i := 3) rfl)⟩ ⟨c3, _, l3, rfl, stu⟩ (stu.blk _ (List.mem_of_getElem? (i := 3) rfl))
      · exact wp_value (w' := U) (v := .int .i64 0) (by go_simp) (hK _ _ ⟨id, id⟩ ⟨c3, c4, l3, l4, stU⟩ rfl)
    case fin2 =>
      intro x U hI2 hG2
      obtain ⟨c3, c4, l3, l4, stU⟩ := hI2
      have q2 : U.heap[g3]? = _ := hG2 2 (by simp)
      have q3 : U.heap[g4]? = _ := hG2 3 (by simp)
      have q4 : x 4 = .int .i64 0 := hG2 4 (by simp)
      simp only [putAll, Act.put, List.setIfInBounds_toArray, List.set_cons_succ, List.set_cons_zero]
      refine wpAny_done (by decide +kernel) ?_ 0
      simp only [q4]
      go_wp2
      have hc := fun j => cell_of_row U g3 j _ _ _ q2
      have hc' := fun j => cell_of_row U g4 j _ _ _ q3
      have hBU : Below w.heap.size w U := hB8.trans (stU.belowB (by omega) (by simp; omega))
      refine bodyPost_ret (v := _) ?hr rfl ⟨some ⟨g7, 0, none⟩, c7, rfl, ?_, ?_⟩
      case hr => simp [results, Try.results12, go_sem, hc, hc']
      · exact hBU
      · exact hO8.move stU.size (fun b hb ho => ⟨hok b (by have := ho.1; omega), stU.frame b hb (by have := ho.1; have := ho.2; simp; omega)⟩) fun _ _ h => h.move stU.size fun b hb ho => ⟨hok b (by have := ho.1; omega), stU.frame b hb (by have := ho.1; have := ho.2; simp; omega)⟩

end Go.Proofs.Ytclocdhkpckolaa
