/- The walk through the reference's copy of a frame. -/
import Derived.Test.YtclocdhkpckolaaCopy
set_option linter.unusedSimpArgs false
set_option linter.unusedVariables false
namespace Go.Proofs.Ytclocdhkpckolaa
open Go.RowKit

def frameV (f : Frame) (la : Option Addr) (lc : Nat) (ga : Option Addr) (gc : Nat) (ca : Option Addr) (cc : Nat) : Value := .agg #[.int .i64 f.src, .int .i64 f.dst, .int .i64 f.seq, .bool f.ack, .int .i64 f.thread, .int .i64 f.mail.host, .int .i64 f.mail.thread, .slice la f.mail.label.length lc, .slice ga f.mail.grants.length gc, .string f.mail.text, .slice ca f.certs.length cc]

/-- What a frame holds lies within the bounds of append. -/
structure Frame.Fits (f : Frame) : Prop where
  label : f.mail.label.length * 16 ≤ 140737488355328
  grants : f.mail.grants.length * 8 ≤ 140737488355328
  certs : f.certs.length * 32 ≤ 140737488355328

set_option maxRecDepth 20000 in
set_option maxHeartbeats 8000000 in
theorem ref_CopyFrame (ok : Nat → Prop) (w : World) (f : Frame) (la : Option Addr) (lc : Nat) (ga : Option Addr) (gc : Nat) (ca : Option Addr) (cc : Nat) (hA : SlR ok w 2 RLev la lc f.mail.label) (hB : SlR ok w 1 RInt ga gc f.mail.grants) (hC : SlR ok w 4 RCert ca cc f.certs) (hf : f.Fits) :
    Calls Try.prog 11 #[frameV f la lc ga gc ca cc] w fun e w' => ∃ la' lc' ga' gc' ca' cc', e = .returned (frameV f la' lc' ga' gc' ca' cc') ∧ Below w.heap.size w w' ∧ SlR (newIn w) w' 2 RLev la' lc' f.mail.label ∧ SlR (newIn w) w' 1 RInt ga' gc' f.mail.grants ∧ SlR (newIn w) w' 4 RCert ca' cc' f.certs := by
  obtain ⟨i0, hi, hz0, hz1, hz2⟩ := info_parts info_Cert
  obtain ⟨hl, hg, hcl⟩ := hf
  unfold frameV
  have st := St.start w
  go_enter Try.func11, Try.ntmps11
  go_wp2_with (first | (refine mem_box st (wanted_none rfl) 33 _ rfl _ rfl _ rfl ?_; clear st; intro g1 w1 hg1 st hg1b; clear hg1b; simp [Act.eval, Act.put, Value.cells, putL] at st) | (refine mem_alloc st (wanted_none rfl) 33 rfl _ Try.zeroValue33 _ rfl ?_; clear st; intro g2 w2 hg2 st hg2b; clear hg2b; simp [Act.eval, Act.put, Value.cells, putL] at st))
  have p5 : w2.cell? ⟨g1, 5, none⟩ = some (.int .i64 f.mail.host) := st.cell (i := 0) rfl 5; have pf5 : w2.frozen? ⟨g1, 5, none⟩ = false := st.free (i := 0) rfl 5; have p6 : w2.cell? ⟨g1, 6, none⟩ = some (.int .i64 f.mail.thread) := st.cell (i := 0) rfl 6; have pf6 : w2.frozen? ⟨g1, 6, none⟩ = false := st.free (i := 0) rfl 6; have p7 : w2.cell? ⟨g1, 7, none⟩ = some (.slice la f.mail.label.length lc) := st.cell (i := 0) rfl 7; have pf7 : w2.frozen? ⟨g1, 7, none⟩ = false := st.free (i := 0) rfl 7; have p8 : w2.cell? ⟨g1, 8, none⟩ = some (.slice ga f.mail.grants.length gc) := st.cell (i := 0) rfl 8; have pf8 : w2.frozen? ⟨g1, 8, none⟩ = false := st.free (i := 0) rfl 8; have p9 : w2.cell? ⟨g1, 9, none⟩ = some (.string f.mail.text) := st.cell (i := 0) rfl 9; have pf9 : w2.frozen? ⟨g1, 9, none⟩ = false := st.free (i := 0) rfl 9; have p10 : w2.cell? ⟨g1, 10, none⟩ = some (.slice ca f.certs.length cc) := st.cell (i := 0) rfl 10; have pf10 : w2.frozen? ⟨g1, 10, none⟩ = false := st.free (i := 0) rfl 10
  have hz : g1 < w2.heap.size := st.ltAt (i := 0) rfl
  have hzz : g2 < w2.heap.size := st.ltAt (i := 1) rfl
  have h0 := (Below.refl w2.heap.size w2).drew
  have hw := st.below
  go_region_law (first
    | (refine step_copy (wanted_none rfl) _ _ 31 rfl 66 i0 _ 4 32 Try.underlying31 hi hz0 hz1 hz2 rfl (by decide) rfl rfl rfl (hC.below (hw.keep h0)) hcl ?_; intro a3 k3 v3 hO3 hb3; replace hO3 := hO3.slr (ok := fun b => w2.heap.size ≤ b) (fun b hb => Nat.le_trans h0.size hb); replace h0 := h0.keep hb3; have q5 := (h0.cell (p := ⟨g1, 5, none⟩) hz).trans p5; have qf5 := (h0.frozen (p := ⟨g1, 5, none⟩) hz).trans pf5; have q6 := (h0.cell (p := ⟨g1, 6, none⟩) hz).trans p6; have qf6 := (h0.frozen (p := ⟨g1, 6, none⟩) hz).trans pf6; have q7 := (h0.cell (p := ⟨g1, 7, none⟩) hz).trans p7; have qf7 := (h0.frozen (p := ⟨g1, 7, none⟩) hz).trans pf7; have q8 := (h0.cell (p := ⟨g1, 8, none⟩) hz).trans p8; have qf8 := (h0.frozen (p := ⟨g1, 8, none⟩) hz).trans pf8; have q9 := (h0.cell (p := ⟨g1, 9, none⟩) hz).trans p9; have qf9 := (h0.frozen (p := ⟨g1, 9, none⟩) hz).trans pf9; have q10 := (h0.cell (p := ⟨g1, 10, none⟩) hz).trans p10; have qf10 := (h0.frozen (p := ⟨g1, 10, none⟩) hz).trans pf10)
    | (go_simp; go_at_call 29; refine (ref_CopyMail ok _ f.mail la lc ga gc (hA.below (hw.keep h0)) (hB.below (hw.keep h0)) hl hg).mono ?_; rintro e v1 ⟨a1, k1, a2, k2, rfl, hb1, hO1, hO2⟩; replace hO1 := hO1.okay (ok' := fun b => w2.heap.size ≤ b) (fun b hb => Nat.le_trans h0.size hb); replace hO2 := hO2.okay (ok' := fun b => w2.heap.size ≤ b) (fun b hb => Nat.le_trans h0.size hb); replace h0 := h0.keep hb1; have q5 := (h0.cell (p := ⟨g1, 5, none⟩) hz).trans p5; have qf5 := (h0.frozen (p := ⟨g1, 5, none⟩) hz).trans pf5; have q6 := (h0.cell (p := ⟨g1, 6, none⟩) hz).trans p6; have qf6 := (h0.frozen (p := ⟨g1, 6, none⟩) hz).trans pf6; have q7 := (h0.cell (p := ⟨g1, 7, none⟩) hz).trans p7; have qf7 := (h0.frozen (p := ⟨g1, 7, none⟩) hz).trans pf7; have q8 := (h0.cell (p := ⟨g1, 8, none⟩) hz).trans p8; have qf8 := (h0.frozen (p := ⟨g1, 8, none⟩) hz).trans pf8; have q9 := (h0.cell (p := ⟨g1, 9, none⟩) hz).trans p9; have qf9 := (h0.frozen (p := ⟨g1, 9, none⟩) hz).trans pf9; have q10 := (h0.cell (p := ⟨g1, 10, none⟩) hz).trans p10; have qf10 := (h0.frozen (p := ⟨g1, 10, none⟩) hz).trans pf10; unfold mailV; dsimp only))
  all_goals
    first
      | (replace hO1 := hO1.below hb3; replace hO2 := hO2.below hb3)
      | replace hO3 := hO3.below hb1
    replace st := ((((((st.call h0).rebase.setCell (i := 0) rfl 5 (.int .i64 f.mail.host)).setCell (i := 0) rfl 6 (.int .i64 f.mail.thread)).setCell (i := 0) rfl 7 (.slice a1 f.mail.label.length k1)).setCell (i := 0) rfl 8 (.slice a2 f.mail.grants.length k2)).setCell (i := 0) rfl 9 (.string f.mail.text)).setCell (i := 0) rfl 10 (.slice a3 f.certs.length k3)
    clear p5 pf5 p6 pf6 p7 pf7 p8 pf8 p9 pf9 p10 pf10
    clear q5 qf5 q6 qf6 q7 qf7 q8 qf8 q9 qf9 q10 qf10
    clear hb1 hb3
    go_wp2_with (first | ((first | refine mem_load_agg' st 33 _ rfl (wanted_none rfl) Try.isAgg33 _ Try.sizeOf33 ?_ | (refine mem_load_agg' st 33 _ rfl (wanted_some rfl ?_) Try.isAgg33 _ Try.sizeOf33 ?_; focus (simp [yielded, Act.put]; done))); refine ⟨0, _, _, _, _, _, rfl, rfl, rfl, rfl, ?_⟩) | ((first | refine mem_store' st 33 _ _ rfl (wanted_none rfl) _ Try.sizeOf33 ?_ | (refine mem_store' st 33 _ _ rfl (wanted_some rfl ?_) _ Try.sizeOf33 ?_; focus (simp [yielded, Act.put]; done))); refine ⟨1, _, _, _, _, _, rfl, rfl, rfl, rfl, rfl, rfl, ?_⟩; clear st; intro w3 st hw3m hw3z; simp [Act.eval, Act.put, Value.cells, putL] at st))
    have hc := fun j => st.cell (i := 1) rfl j
    have hk := st.keeps (ok := fun b => w2.heap.size ≤ b) (by simp; omega)
    refine bodyPost_ret (v := frameV f a1 k1 a2 k2 a3 k3) ?hr rfl ⟨_, _, _, _, _, _, rfl, ?_, ?_, ?_, ?_⟩
    case hr => simp [results, Try.results11, go_sem, hc, frameV, putL]
    · exact (hw.keep h0).trans (st.belowB (by have := hw.size; have := h0.size; omega) (by simp; omega))
    · exact (hO1.keep hk).okay (fun b hb => by have := hw.size; show w.heap.size ≤ b; omega)
    · exact (hO2.keep hk).okay (fun b hb => by have := hw.size; show w.heap.size ≤ b; omega)
    · exact (hO3.keep hk).okay (fun b hb => by have := hw.size; show w.heap.size ≤ b; omega)

end Go.Proofs.Ytclocdhkpckolaa
