/- The walk through the reference's copy of a line. -/
import Derived.Test.YtclocdhkpckolaaCopyF
import Derived.Test.YtclocdhkpckolaaMemB
import Derived.Test.YtclocdhkpckolaaLine
set_option linter.unusedSimpArgs false
set_option linter.unusedVariables false
namespace Go.Proofs.Ytclocdhkpckolaa
open Go.RowKit

theorem info_Sent : (Try.prog.info? 56).map (fun i => (i.zero, i.size, i.bytes)) = some (some (.agg #[.int .i64 0, .int .i64 0, .int .i64 0, .bool false, .int .i64 0, .int .i64 0, .int .i64 0, .slice none 0 0, .slice none 0 0, .string .empty, .slice none 0 0, .int .i64 0, .int .i64 0]), 13, 160) := by kernel_rfl

/-- The cells of a frame that was sent. -/
def sentCells (s : Sent) (la : Option Addr) (lc : Nat) (ga : Option Addr) (gc : Nat) (ca : Option Addr) (cc : Nat) : List Value := [.int .i64 s.frame.src, .int .i64 s.frame.dst, .int .i64 s.frame.seq, .bool s.frame.ack, .int .i64 s.frame.thread, .int .i64 s.frame.mail.host, .int .i64 s.frame.mail.thread, .slice la s.frame.mail.label.length lc, .slice ga s.frame.mail.grants.length gc, .string s.frame.mail.text, .slice ca s.frame.certs.length cc, .int .i64 s.tries, .int .i64 s.due]

/-- Blocks from B on, but the one at o. -/
def besides (B : Nat) (o : Option Addr) (b : Nat) : Prop := B ≤ b ∧ o.map (·.block) ≠ some b

theorem RSent.move {ok ok' : Nat → Prop} {w w' : World} {cs : List Value} {s : Sent} (h : RSent ok w cs s) (hs : w.heap.size ≤ w'.heap.size) (hk : ∀ b, b < w.heap.size → ok b → ok' b ∧ w'.heap[b]? = w.heap[b]?) : RSent ok' w' cs s := by
  obtain ⟨la, lc, ga, gc, ca, cc, e, h1, h2, h3⟩ := h
  exact ⟨la, lc, ga, gc, ca, cc, e, h1.move hs hk fun _ _ h => h, h2.move hs hk fun _ _ h => h, h3.move hs hk fun _ _ h => h⟩

/-- One element more, whose own memory is new: what the elements hold still lies apart from the row. -/
theorem sents_push {B : Nat} {wr wa w' : World} {T : TypeId} {o : Option Addr} {c g : Nat} {l : List Sent} (hr : Below wr.heap.size wr wa) (hO : Own B T w' 13 (RSent (besides B o) wa) (some ⟨g, 0, none⟩) c l) (hg : wa.grownBy w' (o.map (·.block))) (hat : AtOrNew o g wa) :
    Own B T w' 13 (RSent (besides B (some ⟨g, 0, none⟩)) w') (some ⟨g, 0, none⟩) c l :=
  hO.mono fun _ _ h => h.move hg.size fun b hb ho => ⟨⟨ho.1, fun e => by
    simp only [Option.map_some, Option.some.injEq] at e
    subst e
    rcases hat with hat | hat
    · exact ho.2 hat
    · omega⟩, hg.block b hb fun e => ho.2 e.symm⟩

set_option maxRecDepth 20000 in
set_option maxHeartbeats 1000000 in
theorem ref_CopyLineO (ok : Nat → Prop) (w : World) (next high : Int) (sa : Option Addr) (sc : Nat) (sent : List Sent) (e : Eight) (hR : SentR ok w sa sc sent) (hl : sent.length * 160 ≤ 140737488355328) (hf : ∀ s ∈ sent, s.frame.Fits) :
    Calls Try.prog 9 #[lineV next high sa sent.length sc e] w fun r w' => ∃ sa' sc', r = .returned (lineV next high sa' sent.length sc' e) ∧ Below w.heap.size w w' ∧ Own w.heap.size 56 w' 13 (RSent (besides w.heap.size sa') w') sa' sc' sent := by
  obtain ⟨i0, hi, hz0, hz1, hz2⟩ := info_parts info_Sent
  unfold lineV
  have hsl : sent.length ≤ 9223372036854775807 := by omega
  have st := St.start w
  go_enter Try.func9, Try.ntmps9
  go_wp2_with (first | (refine mem_box st (wanted_none rfl) 25 _ rfl _ rfl _ rfl ?_; clear st; intro g1 w1 hg1 st hg1b; clear hg1b; simp [Act.eval, Act.put, Value.cells, putL] at st) | (refine mem_alloc st (wanted_none rfl) 25 rfl _ Try.zeroValue25 _ rfl ?_; clear st; intro g2 w2 hg2 st hg2b; clear hg2b; simp [Act.eval, Act.put, Value.cells, putL] at st) | ((first | refine mem_load' st 22 _ rfl (wanted_none rfl) Try.isAgg22 ?_ | (refine mem_load' st 22 _ rfl (wanted_some rfl ?_) Try.isAgg22 ?_; focus (simp [yielded, Act.put]; done))); refine ⟨0, _, _, _, _, _, rfl, rfl, rfl, ?_⟩))
  have hz : g1 < w2.heap.size := st.ltAt (i := 0) rfl
  have hzz : g2 < w2.heap.size := st.ltAt (i := 1) rfl
  have hw := st.below
  have st0 := st
  clear st
  go_loopw [3, 9] (fun v i wr => ∃ (k : Nat) (o : Option Addr) (c : Nat), k ≤ sent.length ∧ i = .int .i64 k ∧ v = .slice o k c ∧ Own w2.heap.size 56 wr 13 (RSent (besides w2.heap.size o) wr) o c (sent.take k) ∧ Below w2.heap.size w2 wr) (fun _ i _ => sent.length - (intOf i).toNat)
  case atStart => exact ⟨0, none, 0, Nat.zero_le _, rfl, rfl, Own.nil _ _ _ _ _, Below.refl _ _⟩
  case round =>
    obtain ⟨k, o, c, hk, rfl, rfl, hO, hB⟩ := hrel
    have hBs := hB.size
    by_cases hlt : k < sent.length
    · obtain ⟨b, o', la, lc, ga, gc, ca, cc, rfl, hb, ⟨hA1, hA2, hA3⟩, f0, f1, f2, f3, f4, f5, f6, f7, f8, f9, f10, f11, f12⟩ := SlR.sent_at (SentR.below hR (hw.keep hB)) k hlt
      have hF := Lib.hid (hf _ (List.getElem_mem hlt))
      have st := St.start wr
      go_wp2_with (first
        | (refine mem_alloc st (wanted_none rfl) 56 rfl _ Try.zeroValue56 _ rfl ?_; clear st; intro g3 w3 hg3 st hg3b; clear hg3b; simp [Act.eval, Act.put, Value.cells, putL] at st) | ((first | refine mem_store' st 56 _ _ rfl (wanted_none rfl) _ Try.sizeOf56 ?_ | (refine mem_store' st 56 _ _ rfl (wanted_some rfl ?_) _ Try.sizeOf56 ?_; focus (simp [yielded, Act.put]; done))); refine ⟨0, _, _, _, _, _, rfl, rfl, rfl, rfl, rfl, rfl, ?_⟩; clear st; intro w4 st hw4m hw4z; simp [Act.eval, Act.put, Value.cells, putL] at st) | ((first | refine mem_load_agg' st 33 _ rfl (wanted_none rfl) Try.isAgg33 _ Try.sizeOf33 ?_ | (refine mem_load_agg' st 33 _ rfl (wanted_some rfl ?_) Try.isAgg33 _ Try.sizeOf33 ?_; focus (simp [yielded, Act.put]; done))); refine ⟨0, _, _, _, _, _, rfl, rfl, rfl, rfl, ?_⟩)
        | (go_at_call 11; refine (ref_CopyFrame ok _ sent[k].frame la lc ga gc ca cc (hA1.below st.below) (hA2.below st.below) (hA3.below st.below) hF.out).mono ?_; rintro r v1 ⟨a1, k1, a2, k2, a3, k3, rfl, hb1, hO1, hO2, hO3⟩; unfold frameV; have hs4 := st.below.size; have hg3l := st.ltAt (i := 0) rfl; replace st := st.call hb1)
        | ((first | refine mem_store' st 33 _ _ rfl (wanted_none rfl) _ Try.sizeOf33 ?_ | (refine mem_store' st 33 _ _ rfl (wanted_some rfl ?_) _ Try.sizeOf33 ?_; focus (simp [yielded, Act.put]; done))); refine ⟨0, _, _, _, _, _, rfl, rfl, rfl, rfl, rfl, rfl, ?_⟩; clear st; intro w5 st hw5m hw5z; simp [Act.eval, Act.put, Value.cells, putL] at st) | ((first | refine mem_load_agg' st 56 _ rfl (wanted_none rfl) Try.isAgg56 _ Try.sizeOf56 ?_ | (refine mem_load_agg' st 56 _ rfl (wanted_some rfl ?_) Try.isAgg56 _ Try.sizeOf56 ?_; focus (simp [yielded, Act.put]; done))); refine ⟨0, _, _, _, _, _, rfl, rfl, rfl, rfl, ?_⟩) | (refine wpList_build1 st (wanted_none rfl) 22 56 _ rfl Try.underlying22 13 Try.sizeOf56 (by decide) (by decide) _ Try.zeroValue56 _ rfl rfl ?_; have stw6 := st; clear st; intro g6 w6 hg6 hg6e st hw6b hw6z; simp [Act.eval, Act.put, Value.cells, putL] at st)
        | (at_builtin; go_must (refine wpList_app1 (wanted_none rfl) _ _ 22 rfl 56 i0 _ 13 160 Try.underlying22 hi hz0 hz1 hz2 rfl (by decide) (y := sent[k]) rfl ?x1 ((hO.below st.below).mono fun _ _ h => RSent.keep (.of_below st.below) h) rfl (SlR.ofBlk (ok := fun _ => True) (st.blk _ (List.mem_of_getElem? (i := 1) rfl)) ?x2 rfl rfl trivial) ?_ ?_ ?_ ?_)))
      case x1 => simp; omega
      case x2 =>
        have hs6 := hw6b.size
        have hmv : ∀ b, b < v1.heap.size → newIn w4 b → besides w2.heap.size o b ∧ w6.heap[b]? = v1.heap[b]? := fun b hb ho => by
          have ho' : w4.heap.size ≤ b := ho
          refine ⟨⟨by omega, fun e => by have := (hO.blockLt _ e).2; omega⟩, (hw6b.block b (by omega)).trans (hw5m b (by omega))⟩
        exact ⟨_, _, _, _, _, _, rfl, hO1.move (by omega) hmv fun _ _ h => h, hO2.move (by omega) hmv fun _ _ h => h, hO3.move (by omega) hmv fun _ _ h => h⟩
      · simp; omega
      · simp [maxLen]; omega
      · have := hw6b.size; omega
      · intro g7 c7 w7 hO7 hgr hat hlt7
        have hB7 : Below w2.heap.size w2 w7 := ((hO.below st.below).grown (hB.trans (st.below.mono hBs)) hgr (Nat.le_refl _) (by have := hw6b.size; omega))
        have e : sent.take k ++ [sent[k]] = sent.take (k + 1) := by rw [List.take_succ_eq_append_getElem hlt]
        have hO8 := sents_push st.below hO7 hgr hat
        try rw [e] at hO8
        clear e hO7 hgr hat hO1 hO2 hO3 hO hw5m hw4m hb1 st stw6 hA1 hA2 hA3 f0 f1 f2 f3 f4 f5 f6 f7 f8 f9 f10 f11 f12
        go_wp2
        go_roundw
        case rel => exact ⟨k + 1, some ⟨g7, 0, none⟩, c7, hlt, by go_num, rfl, hO8, hB7⟩
        case measure => simp [intOf]; omega
    · have hkn : k = sent.length := by omega
      have e : sent.take k = sent := List.take_of_length_le (by omega)
      rw [e] at hO
      subst hkn
      have st := (st0.call hB).rebase
      clear st0 e hf
      go_wp2_with (first | ((first | refine mem_store' st 22 _ _ rfl (wanted_none rfl) _ Try.sizeOf22 ?_ | (refine mem_store' st 22 _ _ rfl (wanted_some rfl ?_) _ Try.sizeOf22 ?_; focus (simp [yielded, Act.put]; done))); refine ⟨0, _, _, _, _, _, rfl, rfl, rfl, rfl, rfl, rfl, ?_⟩; clear st; intro w8 st hw8m hw8z; simp [Act.eval, Act.put, Value.cells, putL] at st) | ((first | refine mem_load_agg' st 25 _ rfl (wanted_none rfl) Try.isAgg25 _ Try.sizeOf25 ?_ | (refine mem_load_agg' st 25 _ rfl (wanted_some rfl ?_) Try.isAgg25 _ Try.sizeOf25 ?_; focus (simp [yielded, Act.put]; done))); refine ⟨0, _, _, _, _, _, rfl, rfl, rfl, rfl, ?_⟩) | ((first | refine mem_store' st 25 _ _ rfl (wanted_none rfl) _ Try.sizeOf25 ?_ | (refine mem_store' st 25 _ _ rfl (wanted_some rfl ?_) _ Try.sizeOf25 ?_; focus (simp [yielded, Act.put]; done))); refine ⟨1, _, _, _, _, _, rfl, rfl, rfl, rfl, rfl, rfl, ?_⟩; clear st; intro w9 st hw9m hw9z; simp [Act.eval, Act.put, Value.cells, putL] at st))
      have hc := fun j => st.cell (i := 1) rfl j
      refine bodyPost_ret (v := lineV next high o sent.length c e) ?hr rfl ⟨_, _, rfl, ?_, ?_⟩
      case hr => simp [results, Try.results9, go_sem, hc, lineV, putL]
      · exact (hw.keep hB).trans (st.belowB (by have := hw.size; omega) (by simp; omega))
      · have hwz := hw.size
        have hk9 : ∀ b, b < wr.heap.size → w2.heap.size ≤ b → w9.heap[b]? = wr.heap[b]? := fun b hb ho => st.frame b hb (by simp; omega)
        exact (hO.move (fun b ho hb => hk9 b hb ho) fun _ _ h => h.move st.size fun b hb ho => ⟨⟨by have := ho.1; omega, ho.2⟩, hk9 b hb ho.1⟩).le hwz

theorem ref_CopyLine (ok : Nat → Prop) (w : World) (next high : Int) (sa : Option Addr) (sc : Nat) (sent : List Sent) (e : Eight) (hR : SentR ok w sa sc sent) (hl : sent.length * 160 ≤ 140737488355328) (hf : ∀ s ∈ sent, s.frame.Fits) :
    Calls Try.prog 9 #[lineV next high sa sent.length sc e] w fun r w' => ∃ sa' sc', r = .returned (lineV next high sa' sent.length sc' e) ∧ Below w.heap.size w w' ∧ SentR (newIn w) w' sa' sc' sent :=
  (ref_CopyLineO ok w next high sa sc sent e hR hl hf).mono fun _ _ ⟨a, c, h1, h2, h3⟩ => ⟨a, c, h1, h2, (h3.slr (ok := newIn w) fun _ h => h).mono (.refl _ _) fun _ _ h => h.move (Nat.le_refl _) fun _ _ ho => ⟨ho.1, rfl⟩⟩

end Go.Proofs.Ytclocdhkpckolaa
