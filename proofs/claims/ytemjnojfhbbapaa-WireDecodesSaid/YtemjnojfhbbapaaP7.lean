/- Walks and plain laws that the claim rests on, part 7. -/
import Derived.Test.YtemjnojfhbbapaaP3
import Derived.Test.YtemjnojfhbbapaaP1
import Derived.Test.YtemjnojfhbbapaaP4
import Derived.Deep.RegionLaw
import Derived.Test.YtemjnojfhbbapaaP6
set_option linter.unusedSimpArgs false
set_option linter.unusedVariables false
/- The walks through the references' copies of mail, frames, lines. -/
namespace Go.Proofs.Ytemjnojfhbbapaa
open Go.RowKit

def mailV (m : Mail) (la : Option Addr) (lc : Nat) (ga : Option Addr) (gc : Nat) : Value := .agg #[.int .i64 m.host, .int .i64 m.thread, .slice la m.label.length lc, .slice ga m.grants.length gc, .string m.text]

/-- New memory: blocks that did not lie in w. -/
abbrev newIn (w : World) : Nat → Prop := fun b => w.heap.size ≤ b

set_option maxHeartbeats 4000000 in
theorem ref_CopyMail (ok : Nat → Prop) (w : World) (m : Mail) (la : Option Addr) (lc : Nat) (ga : Option Addr) (gc : Nat) (hA : SlR ok w 2 RLev la lc m.label) (hB : SlR ok w 1 RInt ga gc m.grants) (hl : m.label.length * 16 ≤ 140737488355328) (hg : m.grants.length * 8 ≤ 140737488355328) :
    Calls Try.prog 14 #[mailV m la lc ga gc] w fun e w' => ∃ la' lc' ga' gc', e = .returned (mailV m la' lc' ga' gc') ∧ Below w.heap.size w w' ∧ SlR (newIn w) w' 2 RLev la' lc' m.label ∧ SlR (newIn w) w' 1 RInt ga' gc' m.grants := by
  obtain ⟨i0, hi, hz0, hz1, hz2⟩ := info_parts info_Level
  obtain ⟨j0, hj, hy0, hy1, hy2⟩ := info_parts info_int
  unfold mailV
  have st := St.start w
  go_enter Try.func14, Try.ntmps14
  go_wp2_with (first | (with_reducible refine at_box 26 ?_; refine mem_box st (wanted_none rfl) 26 _ rfl _ rfl _ rfl ?_; clear st; intro g1 w1 hg1 st hg1b; clear hg1b; simp [Act.eval, Act.put, Value.cells, putL] at st) | (with_reducible refine at_alloc 26 ?_; refine mem_alloc st (wanted_none rfl) 26 rfl _ Try.zeroValue26 _ rfl ?_; clear st; intro g2 w2 hg2 st hg2b; clear hg2b; simp [Act.eval, Act.put, Value.cells, putL] at st))
  have c2 : w2.cell? ⟨g1, 2, none⟩ = some (.slice la m.label.length lc) := st.cell (i := 0) rfl 2
  have c3 : w2.cell? ⟨g1, 3, none⟩ = some (.slice ga m.grants.length gc) := st.cell (i := 0) rfl 3
  have hz : g1 < w2.heap.size := st.ltAt (i := 0) rfl
  have hzz : g2 < w2.heap.size := st.ltAt (i := 1) rfl
  have f2 : w2.frozen? ⟨g1, 2, none⟩ = false := st.free (i := 0) rfl 2
  have f3 : w2.frozen? ⟨g1, 3, none⟩ = false := st.free (i := 0) rfl 3
  have h0 := (Below.refl w2.heap.size w2).drew
  have hw := st.below
  go_region_law (first
    | (refine step_copy (wanted_none rfl) _ _ 23 rfl 51 i0 _ 2 16 Try.underlying23 hi hz0 hz1 hz2 rfl (by decide) rfl rfl rfl (hA.below (hw.keep h0)) hl ?_; intro a1 k1 v1 hO1 hb1; replace hO1 := hO1.slr (ok := fun b => w2.heap.size ≤ b) (fun b hb => Nat.le_trans h0.size hb); replace h0 := h0.keep hb1; have d2 := (h0.cell (p := ⟨g1, 2, none⟩) hz).trans c2; have d3 := (h0.cell (p := ⟨g1, 3, none⟩) hz).trans c3; have e2 := (h0.frozen (p := ⟨g1, 2, none⟩) hz).trans f2; have e3 := (h0.frozen (p := ⟨g1, 3, none⟩) hz).trans f3)
    | (refine step_copy (wanted_none rfl) _ _ 24 rfl 3 j0 _ 1 8 Try.underlying24 hj hy0 hy1 hy2 rfl (by decide) rfl rfl rfl (hB.below (hw.keep h0)) hg ?_; intro a2 k2 v2 hO2 hb2; replace hO2 := hO2.slr (ok := fun b => w2.heap.size ≤ b) (fun b hb => Nat.le_trans h0.size hb); replace h0 := h0.keep hb2; have d2 := (h0.cell (p := ⟨g1, 2, none⟩) hz).trans c2; have d3 := (h0.cell (p := ⟨g1, 3, none⟩) hz).trans c3; have e2 := (h0.frozen (p := ⟨g1, 2, none⟩) hz).trans f2; have e3 := (h0.frozen (p := ⟨g1, 3, none⟩) hz).trans f3))
  all_goals
    first
      | replace hO1 := hO1.below hb2
      | replace hO2 := hO2.below hb1
    replace st := ((st.call h0).rebase.setCell (i := 0) rfl 2 (.slice a1 m.label.length k1)).setCell (i := 0) rfl 3 (.slice a2 m.grants.length k2)
    clear c2 c3 f2 f3 d2 d3 e2 e3 hb1 hb2
    go_wp2_with (first | (with_reducible refine at_load 26 ?_; (first | refine mem_load_agg' st 26 _ rfl (wanted_none rfl) Try.isAgg26 _ Try.sizeOf26 ?_ | (refine mem_load_agg' st 26 _ rfl (wanted_some rfl ?_) Try.isAgg26 _ Try.sizeOf26 ?_; focus (simp [yielded, Act.put]; done))); refine ⟨0, _, _, _, _, _, rfl, rfl, rfl, rfl, ?_⟩) | (with_reducible refine at_store 26 ?_; (first | refine mem_store' st 26 _ _ rfl (wanted_none rfl) _ Try.sizeOf26 ?_ | (refine mem_store' st 26 _ _ rfl (wanted_some rfl ?_) _ Try.sizeOf26 ?_; focus (simp [yielded, Act.put]; done))); refine ⟨1, _, _, _, _, _, rfl, rfl, rfl, rfl, rfl, rfl, ?_⟩; clear st; intro w3 st hw3m hw3z; simp [Act.eval, Act.put, Value.cells, putL] at st))
    have hc := fun j => st.cell (i := 1) rfl j
    have hk := st.keeps (ok := fun b => w2.heap.size ≤ b) (by simp; omega)
    refine bodyPost_ret (v := mailV m a1 k1 a2 k2) ?hr rfl ⟨_, _, _, _, rfl, ?_, ?_, ?_⟩
    case hr => simp [results, Try.results14, go_sem, hc, mailV, putL]
    · exact (hw.keep h0).trans (st.belowB (by have := hw.size; have := h0.size; omega) (by simp; omega))
    · exact (hO1.keep hk).okay (fun b hb => by have := hw.size; show w.heap.size ≤ b; omega)
    · exact (hO2.keep hk).okay (fun b hb => by have := hw.size; show w.heap.size ≤ b; omega)

end Go.Proofs.Ytemjnojfhbbapaa

/- The walk through the reference's copy of a frame. -/
namespace Go.Proofs.Ytemjnojfhbbapaa
open Go.RowKit

def frameV (f : Frame) (la : Option Addr) (lc : Nat) (ga : Option Addr) (gc : Nat) (ca : Option Addr) (cc : Nat) : Value := .agg #[.int .i64 f.src, .int .i64 f.dst, .int .i64 f.seq, .bool f.ack, .int .i64 f.thread, .int .i64 f.mail.host, .int .i64 f.mail.thread, .slice la f.mail.label.length lc, .slice ga f.mail.grants.length gc, .string f.mail.text, .slice ca f.certs.length cc]

/-- What a frame holds lies within the bounds of append. -/
structure Frame.Fits (f : Frame) : Prop where
  label : f.mail.label.length * 16 ≤ 140737488355328
  grants : f.mail.grants.length * 8 ≤ 140737488355328
  certs : f.certs.length * 32 ≤ 140737488355328

set_option maxRecDepth 20000 in
set_option maxHeartbeats 8000000 in
theorem ref_CopyFrame (ok : Nat → Prop) (w : World) (f : Frame) (la : Option Addr) (lc : Nat) (ga : Option Addr) (gc : Nat) (ca : Option Addr) (cc : Nat) (hA : SlR ok w 2 RLev la lc f.mail.label) (hB : SlR ok w 1 RInt ga gc f.mail.grants) (hC : SlR ok w 4 RCert ca cc f.certs) (hf : f.Fits) :
    Calls Try.prog 9 #[frameV f la lc ga gc ca cc] w fun e w' => ∃ la' lc' ga' gc' ca' cc', e = .returned (frameV f la' lc' ga' gc' ca' cc') ∧ Below w.heap.size w w' ∧ SlR (newIn w) w' 2 RLev la' lc' f.mail.label ∧ SlR (newIn w) w' 1 RInt ga' gc' f.mail.grants ∧ SlR (newIn w) w' 4 RCert ca' cc' f.certs := by
  obtain ⟨i0, hi, hz0, hz1, hz2⟩ := info_parts info_Cert
  obtain ⟨hl, hg, hcl⟩ := hf
  unfold frameV
  have st := St.start w
  go_enter Try.func9, Try.ntmps9
  go_wp2_with (first | (with_reducible refine at_box 29 ?_; refine mem_box st (wanted_none rfl) 29 _ rfl _ rfl _ rfl ?_; clear st; intro g1 w1 hg1 st hg1b; clear hg1b; simp [Act.eval, Act.put, Value.cells, putL] at st) | (with_reducible refine at_alloc 29 ?_; refine mem_alloc st (wanted_none rfl) 29 rfl _ Try.zeroValue29 _ rfl ?_; clear st; intro g2 w2 hg2 st hg2b; clear hg2b; simp [Act.eval, Act.put, Value.cells, putL] at st))
  have p5 : w2.cell? ⟨g1, 5, none⟩ = some (.int .i64 f.mail.host) := st.cell (i := 0) rfl 5; have pf5 : w2.frozen? ⟨g1, 5, none⟩ = false := st.free (i := 0) rfl 5; have p6 : w2.cell? ⟨g1, 6, none⟩ = some (.int .i64 f.mail.thread) := st.cell (i := 0) rfl 6; have pf6 : w2.frozen? ⟨g1, 6, none⟩ = false := st.free (i := 0) rfl 6; have p7 : w2.cell? ⟨g1, 7, none⟩ = some (.slice la f.mail.label.length lc) := st.cell (i := 0) rfl 7; have pf7 : w2.frozen? ⟨g1, 7, none⟩ = false := st.free (i := 0) rfl 7; have p8 : w2.cell? ⟨g1, 8, none⟩ = some (.slice ga f.mail.grants.length gc) := st.cell (i := 0) rfl 8; have pf8 : w2.frozen? ⟨g1, 8, none⟩ = false := st.free (i := 0) rfl 8; have p9 : w2.cell? ⟨g1, 9, none⟩ = some (.string f.mail.text) := st.cell (i := 0) rfl 9; have pf9 : w2.frozen? ⟨g1, 9, none⟩ = false := st.free (i := 0) rfl 9; have p10 : w2.cell? ⟨g1, 10, none⟩ = some (.slice ca f.certs.length cc) := st.cell (i := 0) rfl 10; have pf10 : w2.frozen? ⟨g1, 10, none⟩ = false := st.free (i := 0) rfl 10
  have hz : g1 < w2.heap.size := st.ltAt (i := 0) rfl
  have hzz : g2 < w2.heap.size := st.ltAt (i := 1) rfl
  have h0 := (Below.refl w2.heap.size w2).drew
  have hw := st.below
  go_region_law (first
    | (refine step_copy (wanted_none rfl) _ _ 27 rfl 39 i0 _ 4 32 Try.underlying27 hi hz0 hz1 hz2 rfl (by decide) rfl rfl rfl (hC.below (hw.keep h0)) hcl ?_; intro a3 k3 v3 hO3 hb3; replace hO3 := hO3.slr (ok := fun b => w2.heap.size ≤ b) (fun b hb => Nat.le_trans h0.size hb); replace h0 := h0.keep hb3; have q5 := (h0.cell (p := ⟨g1, 5, none⟩) hz).trans p5; have qf5 := (h0.frozen (p := ⟨g1, 5, none⟩) hz).trans pf5; have q6 := (h0.cell (p := ⟨g1, 6, none⟩) hz).trans p6; have qf6 := (h0.frozen (p := ⟨g1, 6, none⟩) hz).trans pf6; have q7 := (h0.cell (p := ⟨g1, 7, none⟩) hz).trans p7; have qf7 := (h0.frozen (p := ⟨g1, 7, none⟩) hz).trans pf7; have q8 := (h0.cell (p := ⟨g1, 8, none⟩) hz).trans p8; have qf8 := (h0.frozen (p := ⟨g1, 8, none⟩) hz).trans pf8; have q9 := (h0.cell (p := ⟨g1, 9, none⟩) hz).trans p9; have qf9 := (h0.frozen (p := ⟨g1, 9, none⟩) hz).trans pf9; have q10 := (h0.cell (p := ⟨g1, 10, none⟩) hz).trans p10; have qf10 := (h0.frozen (p := ⟨g1, 10, none⟩) hz).trans pf10)
    | (go_simp; go_at_call 14; refine (ref_CopyMail ok _ f.mail la lc ga gc (hA.below (hw.keep h0)) (hB.below (hw.keep h0)) hl hg).mono ?_; rintro e v1 ⟨a1, k1, a2, k2, rfl, hb1, hO1, hO2⟩; replace hO1 := hO1.okay (ok' := fun b => w2.heap.size ≤ b) (fun b hb => Nat.le_trans h0.size hb); replace hO2 := hO2.okay (ok' := fun b => w2.heap.size ≤ b) (fun b hb => Nat.le_trans h0.size hb); replace h0 := h0.keep hb1; have q5 := (h0.cell (p := ⟨g1, 5, none⟩) hz).trans p5; have qf5 := (h0.frozen (p := ⟨g1, 5, none⟩) hz).trans pf5; have q6 := (h0.cell (p := ⟨g1, 6, none⟩) hz).trans p6; have qf6 := (h0.frozen (p := ⟨g1, 6, none⟩) hz).trans pf6; have q7 := (h0.cell (p := ⟨g1, 7, none⟩) hz).trans p7; have qf7 := (h0.frozen (p := ⟨g1, 7, none⟩) hz).trans pf7; have q8 := (h0.cell (p := ⟨g1, 8, none⟩) hz).trans p8; have qf8 := (h0.frozen (p := ⟨g1, 8, none⟩) hz).trans pf8; have q9 := (h0.cell (p := ⟨g1, 9, none⟩) hz).trans p9; have qf9 := (h0.frozen (p := ⟨g1, 9, none⟩) hz).trans pf9; have q10 := (h0.cell (p := ⟨g1, 10, none⟩) hz).trans p10; have qf10 := (h0.frozen (p := ⟨g1, 10, none⟩) hz).trans pf10; unfold mailV; dsimp only))
  all_goals
    first
      | (replace hO1 := hO1.below hb3; replace hO2 := hO2.below hb3)
      | replace hO3 := hO3.below hb1
    replace st := ((((((st.call h0).rebase.setCell (i := 0) rfl 5 (.int .i64 f.mail.host)).setCell (i := 0) rfl 6 (.int .i64 f.mail.thread)).setCell (i := 0) rfl 7 (.slice a1 f.mail.label.length k1)).setCell (i := 0) rfl 8 (.slice a2 f.mail.grants.length k2)).setCell (i := 0) rfl 9 (.string f.mail.text)).setCell (i := 0) rfl 10 (.slice a3 f.certs.length k3)
    clear p5 pf5 p6 pf6 p7 pf7 p8 pf8 p9 pf9 p10 pf10
    clear q5 qf5 q6 qf6 q7 qf7 q8 qf8 q9 qf9 q10 qf10
    clear hb1 hb3
    go_wp2_with (first | (with_reducible refine at_load 29 ?_; (first | refine mem_load_agg' st 29 _ rfl (wanted_none rfl) Try.isAgg29 _ Try.sizeOf29 ?_ | (refine mem_load_agg' st 29 _ rfl (wanted_some rfl ?_) Try.isAgg29 _ Try.sizeOf29 ?_; focus (simp [yielded, Act.put]; done))); refine ⟨0, _, _, _, _, _, rfl, rfl, rfl, rfl, ?_⟩) | (with_reducible refine at_store 29 ?_; (first | refine mem_store' st 29 _ _ rfl (wanted_none rfl) _ Try.sizeOf29 ?_ | (refine mem_store' st 29 _ _ rfl (wanted_some rfl ?_) _ Try.sizeOf29 ?_; focus (simp [yielded, Act.put]; done))); refine ⟨1, _, _, _, _, _, rfl, rfl, rfl, rfl, rfl, rfl, ?_⟩; clear st; intro w3 st hw3m hw3z; simp [Act.eval, Act.put, Value.cells, putL] at st))
    have hc := fun j => st.cell (i := 1) rfl j
    have hk := st.keeps (ok := fun b => w2.heap.size ≤ b) (by simp; omega)
    refine bodyPost_ret (v := frameV f a1 k1 a2 k2 a3 k3) ?hr rfl ⟨_, _, _, _, _, _, rfl, ?_, ?_, ?_, ?_⟩
    case hr => simp [results, Try.results9, go_sem, hc, frameV, putL]
    · exact (hw.keep h0).trans (st.belowB (by have := hw.size; have := h0.size; omega) (by simp; omega))
    · exact (hO1.keep hk).okay (fun b hb => by have := hw.size; show w.heap.size ≤ b; omega)
    · exact (hO2.keep hk).okay (fun b hb => by have := hw.size; show w.heap.size ≤ b; omega)
    · exact (hO3.keep hk).okay (fun b hb => by have := hw.size; show w.heap.size ≤ b; omega)

end Go.Proofs.Ytemjnojfhbbapaa

/- The walk through the reference's copy of a line. -/
namespace Go.Proofs.Ytemjnojfhbbapaa
open Go.RowKit

def sentCells (s : Sent) (la : Option Addr) (lc : Nat) (ga : Option Addr) (gc : Nat) (ca : Option Addr) (cc : Nat) : List Value := [.int .i64 s.frame.src, .int .i64 s.frame.dst, .int .i64 s.frame.seq, .bool s.frame.ack, .int .i64 s.frame.thread, .int .i64 s.frame.mail.host, .int .i64 s.frame.mail.thread, .slice la s.frame.mail.label.length lc, .slice ga s.frame.mail.grants.length gc, .string s.frame.mail.text, .slice ca s.frame.certs.length cc, .int .i64 s.tries, .int .i64 s.due]

/-- Blocks from B on, but the one at o. -/
def besides (B : Nat) (o : Option Addr) (b : Nat) : Prop := B ≤ b ∧ o.map (·.block) ≠ some b

theorem RSent.move {ok ok' : Nat → Prop} {w w' : World} {cs : List Value} {s : Sent} (h : RSent ok w cs s) (hs : w.heap.size ≤ w'.heap.size) (hk : ∀ b, b < w.heap.size → ok b → ok' b ∧ w'.heap[b]? = w.heap[b]?) : RSent ok' w' cs s := by
  obtain ⟨la, lc, ga, gc, ca, cc, e, h1, h2, h3⟩ := h
  exact ⟨la, lc, ga, gc, ca, cc, e, h1.move hs hk fun _ _ h => h, h2.move hs hk fun _ _ h => h, h3.move hs hk fun _ _ h => h⟩

/-- One element more, whose own memory is new: what the elements hold still lies apart from the row. -/
theorem sents_push {B : Nat} {wr wa w' : World} {T : TypeId} {o : Option Addr} {c g : Nat} {l : List Sent} (hr : Below wr.heap.size wr wa) (hO : Own B T w' 13 (RSent (besides B o) wa) (some ⟨g, 0, none⟩) c l) (hg : wa.grownBy w' (o.map (·.block))) (hat : AtOrNew o g wa) :
    Own B T w' 13 (RSent (besides B (some ⟨g, 0, none⟩)) w') (some ⟨g, 0, none⟩) c l :=
  hO.mono fun _ _ h => h.move hg.size fun b hb ho => ⟨⟨ho.1, fun e => by
    simp only [Option.map_some, Option.some.injEq] at e
    subst e
    rcases hat with hat | hat
    · exact ho.2 hat
    · omega⟩, hg.block b hb fun e => ho.2 e.symm⟩

end Go.Proofs.Ytemjnojfhbbapaa

/- The walks through the references' comparisons of mail, frames, lines that read alike. -/
namespace Go.Proofs.Ytemjnojfhbbapaa
open Go.RowKit

/-- Both lists that a mail holds. -/
structure MailR (ok : Nat → Prop) (w : World) (m : Mail) (la : Option Addr) (lc : Nat) (ga : Option Addr) (gc : Nat) : Prop where
  label : SlR ok w 2 RLev la lc m.label
  grants : SlR ok w 1 RInt ga gc m.grants
theorem MailR.below {ok : Nat → Prop} {w w' : World} {m : Mail} {la : Option Addr} {lc : Nat} {ga : Option Addr} {gc : Nat} (h : MailR ok w m la lc ga gc) (hb : Below w.heap.size w w') : MailR ok w' m la lc ga gc := ⟨h.label.below hb, h.grants.below hb⟩

structure FrameR (ok : Nat → Prop) (w : World) (f : Frame) (la : Option Addr) (lc : Nat) (ga : Option Addr) (gc : Nat) (ca : Option Addr) (cc : Nat) : Prop where
  mail : MailR ok w f.mail la lc ga gc
  certs : SlR ok w 4 RCert ca cc f.certs
theorem FrameR.below {ok : Nat → Prop} {w w' : World} {f : Frame} {la : Option Addr} {lc : Nat} {ga : Option Addr} {gc : Nat} {ca : Option Addr} {cc : Nat} (h : FrameR ok w f la lc ga gc ca cc) (hb : Below w.heap.size w w') : FrameR ok w' f la lc ga gc ca cc := ⟨h.mail.below hb, h.certs.below hb⟩

set_option maxHeartbeats 1000000 in
theorem ref_SameMail (ok ok' : Nat → Prop) (w : World) (m : Mail) (la : Option Addr) (lc : Nat) (ga : Option Addr) (gc : Nat) (la' : Option Addr) (lc' : Nat) (ga' : Option Addr) (gc' : Nat) (h : MailR ok w m la lc ga gc) (h' : MailR ok' w m la' lc' ga' gc') :
    Calls Try.prog 30 #[mailV m la lc ga gc, mailV m la' lc' ga' gc'] w fun e w' => e = .returned (.bool true) ∧ Below w.heap.size w w' := by
  unfold mailV
  have st := St.start w
  go_enter Try.func30, Try.ntmps30
  go_wp2_with (first
    | (refine mem_box st (wanted_none rfl) _ _ rfl _ rfl _ rfl ?_; clear st; intro g wx hgx st hbx; clear hgx hbx; simp [Act.eval, Act.put, Value.cells, putL] at st) | (with_reducible refine at_alloc 26 ?_; refine mem_alloc st (wanted_none rfl) 26 rfl _ Try.zeroValue26 _ rfl ?_; clear st; intro g wx hgx st hbx; clear hgx hbx; simp [Act.eval, Act.put, Value.cells, putL] at st) | (with_reducible refine at_alloc 3 ?_; refine mem_alloc st (wanted_none rfl) 3 rfl _ Try.zeroValue3 _ rfl ?_; clear st; intro g wx hgx st hbx; clear hgx hbx; simp [Act.eval, Act.put, Value.cells, putL] at st) | (with_reducible refine at_alloc 9 ?_; refine mem_alloc st (wanted_none rfl) 9 rfl _ Try.zeroValue9 _ rfl ?_; clear st; intro g wx hgx st hbx; clear hgx hbx; simp [Act.eval, Act.put, Value.cells, putL] at st) | (with_reducible refine at_alloc 23 ?_; refine mem_alloc st (wanted_none rfl) 23 rfl _ Try.zeroValue23 _ rfl ?_; clear st; intro g wx hgx st hbx; clear hgx hbx; simp [Act.eval, Act.put, Value.cells, putL] at st) | (with_reducible refine at_alloc 24 ?_; refine mem_alloc st (wanted_none rfl) 24 rfl _ Try.zeroValue24 _ rfl ?_; clear st; intro g wx hgx st hbx; clear hgx hbx; simp [Act.eval, Act.put, Value.cells, putL] at st) | (with_reducible refine at_load 26 ?_; (first | refine mem_load_agg' st 26 _ rfl (wanted_none rfl) Try.isAgg26 _ Try.sizeOf26 ?_ | (refine mem_load_agg' st 26 _ rfl (wanted_some rfl ?_) Try.isAgg26 _ Try.sizeOf26 ?_; focus (simp [yielded, Act.put]; done))); (first | (refine ⟨0, _, _, _, _, _, rfl, rfl, rfl, rfl, ?_⟩) | (refine ⟨1, _, _, _, _, _, rfl, rfl, rfl, rfl, ?_⟩) | (refine ⟨2, _, _, _, _, _, rfl, rfl, rfl, rfl, ?_⟩) | (refine ⟨3, _, _, _, _, _, rfl, rfl, rfl, rfl, ?_⟩) | (refine ⟨4, _, _, _, _, _, rfl, rfl, rfl, rfl, ?_⟩) | (refine ⟨5, _, _, _, _, _, rfl, rfl, rfl, rfl, ?_⟩) | (refine ⟨6, _, _, _, _, _, rfl, rfl, rfl, rfl, ?_⟩) | (refine ⟨7, _, _, _, _, _, rfl, rfl, rfl, rfl, ?_⟩))) | (with_reducible refine at_load 3 ?_; (first | refine mem_load' st 3 _ rfl (wanted_none rfl) Try.isAgg3 ?_ | (refine mem_load' st 3 _ rfl (wanted_some rfl ?_) Try.isAgg3 ?_; focus (simp [yielded, Act.put]; done))); (first | (refine ⟨0, _, _, _, _, _, rfl, rfl, rfl, ?_⟩) | (refine ⟨1, _, _, _, _, _, rfl, rfl, rfl, ?_⟩) | (refine ⟨2, _, _, _, _, _, rfl, rfl, rfl, ?_⟩) | (refine ⟨3, _, _, _, _, _, rfl, rfl, rfl, ?_⟩) | (refine ⟨4, _, _, _, _, _, rfl, rfl, rfl, ?_⟩) | (refine ⟨5, _, _, _, _, _, rfl, rfl, rfl, ?_⟩) | (refine ⟨6, _, _, _, _, _, rfl, rfl, rfl, ?_⟩) | (refine ⟨7, _, _, _, _, _, rfl, rfl, rfl, ?_⟩))) | (with_reducible refine at_load 9 ?_; (first | refine mem_load' st 9 _ rfl (wanted_none rfl) Try.isAgg9 ?_ | (refine mem_load' st 9 _ rfl (wanted_some rfl ?_) Try.isAgg9 ?_; focus (simp [yielded, Act.put]; done))); (first | (refine ⟨0, _, _, _, _, _, rfl, rfl, rfl, ?_⟩) | (refine ⟨1, _, _, _, _, _, rfl, rfl, rfl, ?_⟩) | (refine ⟨2, _, _, _, _, _, rfl, rfl, rfl, ?_⟩) | (refine ⟨3, _, _, _, _, _, rfl, rfl, rfl, ?_⟩) | (refine ⟨4, _, _, _, _, _, rfl, rfl, rfl, ?_⟩) | (refine ⟨5, _, _, _, _, _, rfl, rfl, rfl, ?_⟩) | (refine ⟨6, _, _, _, _, _, rfl, rfl, rfl, ?_⟩) | (refine ⟨7, _, _, _, _, _, rfl, rfl, rfl, ?_⟩))) | (with_reducible refine at_load 23 ?_; (first | refine mem_load' st 23 _ rfl (wanted_none rfl) Try.isAgg23 ?_ | (refine mem_load' st 23 _ rfl (wanted_some rfl ?_) Try.isAgg23 ?_; focus (simp [yielded, Act.put]; done))); (first | (refine ⟨0, _, _, _, _, _, rfl, rfl, rfl, ?_⟩) | (refine ⟨1, _, _, _, _, _, rfl, rfl, rfl, ?_⟩) | (refine ⟨2, _, _, _, _, _, rfl, rfl, rfl, ?_⟩) | (refine ⟨3, _, _, _, _, _, rfl, rfl, rfl, ?_⟩) | (refine ⟨4, _, _, _, _, _, rfl, rfl, rfl, ?_⟩) | (refine ⟨5, _, _, _, _, _, rfl, rfl, rfl, ?_⟩) | (refine ⟨6, _, _, _, _, _, rfl, rfl, rfl, ?_⟩) | (refine ⟨7, _, _, _, _, _, rfl, rfl, rfl, ?_⟩))) | (with_reducible refine at_load 24 ?_; (first | refine mem_load' st 24 _ rfl (wanted_none rfl) Try.isAgg24 ?_ | (refine mem_load' st 24 _ rfl (wanted_some rfl ?_) Try.isAgg24 ?_; focus (simp [yielded, Act.put]; done))); (first | (refine ⟨0, _, _, _, _, _, rfl, rfl, rfl, ?_⟩) | (refine ⟨1, _, _, _, _, _, rfl, rfl, rfl, ?_⟩) | (refine ⟨2, _, _, _, _, _, rfl, rfl, rfl, ?_⟩) | (refine ⟨3, _, _, _, _, _, rfl, rfl, rfl, ?_⟩) | (refine ⟨4, _, _, _, _, _, rfl, rfl, rfl, ?_⟩) | (refine ⟨5, _, _, _, _, _, rfl, rfl, rfl, ?_⟩) | (refine ⟨6, _, _, _, _, _, rfl, rfl, rfl, ?_⟩) | (refine ⟨7, _, _, _, _, _, rfl, rfl, rfl, ?_⟩))) | (with_reducible refine at_store 26 ?_; (first | refine mem_store' st 26 _ _ rfl (wanted_none rfl) _ Try.sizeOf26 ?_ | (refine mem_store' st 26 _ _ rfl (wanted_some rfl ?_) _ Try.sizeOf26 ?_; focus (simp [yielded, Act.put]; done))); (first | (refine ⟨0, _, _, _, _, _, rfl, rfl, rfl, rfl, rfl, rfl, ?_⟩) | (refine ⟨1, _, _, _, _, _, rfl, rfl, rfl, rfl, rfl, rfl, ?_⟩) | (refine ⟨2, _, _, _, _, _, rfl, rfl, rfl, rfl, rfl, rfl, ?_⟩) | (refine ⟨3, _, _, _, _, _, rfl, rfl, rfl, rfl, rfl, rfl, ?_⟩) | (refine ⟨4, _, _, _, _, _, rfl, rfl, rfl, rfl, rfl, rfl, ?_⟩) | (refine ⟨5, _, _, _, _, _, rfl, rfl, rfl, rfl, rfl, rfl, ?_⟩) | (refine ⟨6, _, _, _, _, _, rfl, rfl, rfl, rfl, rfl, rfl, ?_⟩) | (refine ⟨7, _, _, _, _, _, rfl, rfl, rfl, rfl, rfl, rfl, ?_⟩)); clear st; intro wx st _ _; simp [Act.eval, Act.put, Value.cells, putL] at st) | (with_reducible refine at_store 3 ?_; (first | refine mem_store' st 3 _ _ rfl (wanted_none rfl) _ Try.sizeOf3 ?_ | (refine mem_store' st 3 _ _ rfl (wanted_some rfl ?_) _ Try.sizeOf3 ?_; focus (simp [yielded, Act.put]; done))); (first | (refine ⟨0, _, _, _, _, _, rfl, rfl, rfl, rfl, rfl, rfl, ?_⟩) | (refine ⟨1, _, _, _, _, _, rfl, rfl, rfl, rfl, rfl, rfl, ?_⟩) | (refine ⟨2, _, _, _, _, _, rfl, rfl, rfl, rfl, rfl, rfl, ?_⟩) | (refine ⟨3, _, _, _, _, _, rfl, rfl, rfl, rfl, rfl, rfl, ?_⟩) | (refine ⟨4, _, _, _, _, _, rfl, rfl, rfl, rfl, rfl, rfl, ?_⟩) | (refine ⟨5, _, _, _, _, _, rfl, rfl, rfl, rfl, rfl, rfl, ?_⟩) | (refine ⟨6, _, _, _, _, _, rfl, rfl, rfl, rfl, rfl, rfl, ?_⟩) | (refine ⟨7, _, _, _, _, _, rfl, rfl, rfl, rfl, rfl, rfl, ?_⟩)); clear st; intro wx st _ _; simp [Act.eval, Act.put, Value.cells, putL] at st) | (with_reducible refine at_store 9 ?_; (first | refine mem_store' st 9 _ _ rfl (wanted_none rfl) _ Try.sizeOf9 ?_ | (refine mem_store' st 9 _ _ rfl (wanted_some rfl ?_) _ Try.sizeOf9 ?_; focus (simp [yielded, Act.put]; done))); (first | (refine ⟨0, _, _, _, _, _, rfl, rfl, rfl, rfl, rfl, rfl, ?_⟩) | (refine ⟨1, _, _, _, _, _, rfl, rfl, rfl, rfl, rfl, rfl, ?_⟩) | (refine ⟨2, _, _, _, _, _, rfl, rfl, rfl, rfl, rfl, rfl, ?_⟩) | (refine ⟨3, _, _, _, _, _, rfl, rfl, rfl, rfl, rfl, rfl, ?_⟩) | (refine ⟨4, _, _, _, _, _, rfl, rfl, rfl, rfl, rfl, rfl, ?_⟩) | (refine ⟨5, _, _, _, _, _, rfl, rfl, rfl, rfl, rfl, rfl, ?_⟩) | (refine ⟨6, _, _, _, _, _, rfl, rfl, rfl, rfl, rfl, rfl, ?_⟩) | (refine ⟨7, _, _, _, _, _, rfl, rfl, rfl, rfl, rfl, rfl, ?_⟩)); clear st; intro wx st _ _; simp [Act.eval, Act.put, Value.cells, putL] at st) | (with_reducible refine at_store 23 ?_; (first | refine mem_store' st 23 _ _ rfl (wanted_none rfl) _ Try.sizeOf23 ?_ | (refine mem_store' st 23 _ _ rfl (wanted_some rfl ?_) _ Try.sizeOf23 ?_; focus (simp [yielded, Act.put]; done))); (first | (refine ⟨0, _, _, _, _, _, rfl, rfl, rfl, rfl, rfl, rfl, ?_⟩) | (refine ⟨1, _, _, _, _, _, rfl, rfl, rfl, rfl, rfl, rfl, ?_⟩) | (refine ⟨2, _, _, _, _, _, rfl, rfl, rfl, rfl, rfl, rfl, ?_⟩) | (refine ⟨3, _, _, _, _, _, rfl, rfl, rfl, rfl, rfl, rfl, ?_⟩) | (refine ⟨4, _, _, _, _, _, rfl, rfl, rfl, rfl, rfl, rfl, ?_⟩) | (refine ⟨5, _, _, _, _, _, rfl, rfl, rfl, rfl, rfl, rfl, ?_⟩) | (refine ⟨6, _, _, _, _, _, rfl, rfl, rfl, rfl, rfl, rfl, ?_⟩) | (refine ⟨7, _, _, _, _, _, rfl, rfl, rfl, rfl, rfl, rfl, ?_⟩)); clear st; intro wx st _ _; simp [Act.eval, Act.put, Value.cells, putL] at st) | (with_reducible refine at_store 24 ?_; (first | refine mem_store' st 24 _ _ rfl (wanted_none rfl) _ Try.sizeOf24 ?_ | (refine mem_store' st 24 _ _ rfl (wanted_some rfl ?_) _ Try.sizeOf24 ?_; focus (simp [yielded, Act.put]; done))); (first | (refine ⟨0, _, _, _, _, _, rfl, rfl, rfl, rfl, rfl, rfl, ?_⟩) | (refine ⟨1, _, _, _, _, _, rfl, rfl, rfl, rfl, rfl, rfl, ?_⟩) | (refine ⟨2, _, _, _, _, _, rfl, rfl, rfl, rfl, rfl, rfl, ?_⟩) | (refine ⟨3, _, _, _, _, _, rfl, rfl, rfl, rfl, rfl, rfl, ?_⟩) | (refine ⟨4, _, _, _, _, _, rfl, rfl, rfl, rfl, rfl, rfl, ?_⟩) | (refine ⟨5, _, _, _, _, _, rfl, rfl, rfl, rfl, rfl, rfl, ?_⟩) | (refine ⟨6, _, _, _, _, _, rfl, rfl, rfl, rfl, rfl, rfl, ?_⟩) | (refine ⟨7, _, _, _, _, _, rfl, rfl, rfl, rfl, rfl, rfl, ?_⟩)); clear st; intro wx st _ _; simp [Act.eval, Act.put, Value.cells, putL] at st)
    | (go_at_call 42; refine (ref_SameLabel ok ok' _ _ _ _ _ _ _ (h.label.below st.below) (h'.label.below st.below)).mono ?_; rintro r v1 ⟨rfl, hb1⟩; replace st := st.call hb1; clear hb1)
    | (go_at_call 43; refine (ref_SameNumbers ok ok' _ _ _ _ _ _ _ (h.grants.below st.below) (h'.grants.below st.below)).mono ?_; rintro r v1 ⟨rfl, hb1⟩; replace st := st.call hb1; clear hb1))
  go_ret
  exact ⟨by simp, st.below⟩

set_option maxHeartbeats 1000000 in
theorem ref_SameFrame (ok ok' : Nat → Prop) (w : World) (f : Frame) (la : Option Addr) (lc : Nat) (ga : Option Addr) (gc : Nat) (ca : Option Addr) (cc : Nat) (la' : Option Addr) (lc' : Nat) (ga' : Option Addr) (gc' : Nat) (ca' : Option Addr) (cc' : Nat) (h : FrameR ok w f la lc ga gc ca cc) (h' : FrameR ok' w f la' lc' ga' gc' ca' cc') :
    Calls Try.prog 21 #[frameV f la lc ga gc ca cc, frameV f la' lc' ga' gc' ca' cc'] w fun e w' => e = .returned (.bool true) ∧ Below w.heap.size w w' := by
  unfold frameV
  have st := St.start w
  go_enter Try.func21, Try.ntmps21
  go_wp2_with (first
    | (refine mem_box st (wanted_none rfl) _ _ rfl _ rfl _ rfl ?_; clear st; intro g wx hgx st hbx; clear hgx hbx; simp [Act.eval, Act.put, Value.cells, putL] at st) | (with_reducible refine at_alloc 29 ?_; refine mem_alloc st (wanted_none rfl) 29 rfl _ Try.zeroValue29 _ rfl ?_; clear st; intro g wx hgx st hbx; clear hgx hbx; simp [Act.eval, Act.put, Value.cells, putL] at st) | (with_reducible refine at_alloc 26 ?_; refine mem_alloc st (wanted_none rfl) 26 rfl _ Try.zeroValue26 _ rfl ?_; clear st; intro g wx hgx st hbx; clear hgx hbx; simp [Act.eval, Act.put, Value.cells, putL] at st) | (with_reducible refine at_alloc 3 ?_; refine mem_alloc st (wanted_none rfl) 3 rfl _ Try.zeroValue3 _ rfl ?_; clear st; intro g wx hgx st hbx; clear hgx hbx; simp [Act.eval, Act.put, Value.cells, putL] at st) | (with_reducible refine at_alloc 4 ?_; refine mem_alloc st (wanted_none rfl) 4 rfl _ Try.zeroValue4 _ rfl ?_; clear st; intro g wx hgx st hbx; clear hgx hbx; simp [Act.eval, Act.put, Value.cells, putL] at st) | (with_reducible refine at_alloc 27 ?_; refine mem_alloc st (wanted_none rfl) 27 rfl _ Try.zeroValue27 _ rfl ?_; clear st; intro g wx hgx st hbx; clear hgx hbx; simp [Act.eval, Act.put, Value.cells, putL] at st) | (with_reducible refine at_load 29 ?_; (first | refine mem_load_agg' st 29 _ rfl (wanted_none rfl) Try.isAgg29 _ Try.sizeOf29 ?_ | (refine mem_load_agg' st 29 _ rfl (wanted_some rfl ?_) Try.isAgg29 _ Try.sizeOf29 ?_; focus (simp [yielded, Act.put]; done))); (first | (refine ⟨0, _, _, _, _, _, rfl, rfl, rfl, rfl, ?_⟩) | (refine ⟨1, _, _, _, _, _, rfl, rfl, rfl, rfl, ?_⟩) | (refine ⟨2, _, _, _, _, _, rfl, rfl, rfl, rfl, ?_⟩) | (refine ⟨3, _, _, _, _, _, rfl, rfl, rfl, rfl, ?_⟩) | (refine ⟨4, _, _, _, _, _, rfl, rfl, rfl, rfl, ?_⟩) | (refine ⟨5, _, _, _, _, _, rfl, rfl, rfl, rfl, ?_⟩) | (refine ⟨6, _, _, _, _, _, rfl, rfl, rfl, rfl, ?_⟩) | (refine ⟨7, _, _, _, _, _, rfl, rfl, rfl, rfl, ?_⟩))) | (with_reducible refine at_load 26 ?_; (first | refine mem_load_agg' st 26 _ rfl (wanted_none rfl) Try.isAgg26 _ Try.sizeOf26 ?_ | (refine mem_load_agg' st 26 _ rfl (wanted_some rfl ?_) Try.isAgg26 _ Try.sizeOf26 ?_; focus (simp [yielded, Act.put]; done))); (first | (refine ⟨0, _, _, _, _, _, rfl, rfl, rfl, rfl, ?_⟩) | (refine ⟨1, _, _, _, _, _, rfl, rfl, rfl, rfl, ?_⟩) | (refine ⟨2, _, _, _, _, _, rfl, rfl, rfl, rfl, ?_⟩) | (refine ⟨3, _, _, _, _, _, rfl, rfl, rfl, rfl, ?_⟩) | (refine ⟨4, _, _, _, _, _, rfl, rfl, rfl, rfl, ?_⟩) | (refine ⟨5, _, _, _, _, _, rfl, rfl, rfl, rfl, ?_⟩) | (refine ⟨6, _, _, _, _, _, rfl, rfl, rfl, rfl, ?_⟩) | (refine ⟨7, _, _, _, _, _, rfl, rfl, rfl, rfl, ?_⟩))) | (with_reducible refine at_load 3 ?_; (first | refine mem_load' st 3 _ rfl (wanted_none rfl) Try.isAgg3 ?_ | (refine mem_load' st 3 _ rfl (wanted_some rfl ?_) Try.isAgg3 ?_; focus (simp [yielded, Act.put]; done))); (first | (refine ⟨0, _, _, _, _, _, rfl, rfl, rfl, ?_⟩) | (refine ⟨1, _, _, _, _, _, rfl, rfl, rfl, ?_⟩) | (refine ⟨2, _, _, _, _, _, rfl, rfl, rfl, ?_⟩) | (refine ⟨3, _, _, _, _, _, rfl, rfl, rfl, ?_⟩) | (refine ⟨4, _, _, _, _, _, rfl, rfl, rfl, ?_⟩) | (refine ⟨5, _, _, _, _, _, rfl, rfl, rfl, ?_⟩) | (refine ⟨6, _, _, _, _, _, rfl, rfl, rfl, ?_⟩) | (refine ⟨7, _, _, _, _, _, rfl, rfl, rfl, ?_⟩))) | (with_reducible refine at_load 4 ?_; (first | refine mem_load' st 4 _ rfl (wanted_none rfl) Try.isAgg4 ?_ | (refine mem_load' st 4 _ rfl (wanted_some rfl ?_) Try.isAgg4 ?_; focus (simp [yielded, Act.put]; done))); (first | (refine ⟨0, _, _, _, _, _, rfl, rfl, rfl, ?_⟩) | (refine ⟨1, _, _, _, _, _, rfl, rfl, rfl, ?_⟩) | (refine ⟨2, _, _, _, _, _, rfl, rfl, rfl, ?_⟩) | (refine ⟨3, _, _, _, _, _, rfl, rfl, rfl, ?_⟩) | (refine ⟨4, _, _, _, _, _, rfl, rfl, rfl, ?_⟩) | (refine ⟨5, _, _, _, _, _, rfl, rfl, rfl, ?_⟩) | (refine ⟨6, _, _, _, _, _, rfl, rfl, rfl, ?_⟩) | (refine ⟨7, _, _, _, _, _, rfl, rfl, rfl, ?_⟩))) | (with_reducible refine at_load 27 ?_; (first | refine mem_load' st 27 _ rfl (wanted_none rfl) Try.isAgg27 ?_ | (refine mem_load' st 27 _ rfl (wanted_some rfl ?_) Try.isAgg27 ?_; focus (simp [yielded, Act.put]; done))); (first | (refine ⟨0, _, _, _, _, _, rfl, rfl, rfl, ?_⟩) | (refine ⟨1, _, _, _, _, _, rfl, rfl, rfl, ?_⟩) | (refine ⟨2, _, _, _, _, _, rfl, rfl, rfl, ?_⟩) | (refine ⟨3, _, _, _, _, _, rfl, rfl, rfl, ?_⟩) | (refine ⟨4, _, _, _, _, _, rfl, rfl, rfl, ?_⟩) | (refine ⟨5, _, _, _, _, _, rfl, rfl, rfl, ?_⟩) | (refine ⟨6, _, _, _, _, _, rfl, rfl, rfl, ?_⟩) | (refine ⟨7, _, _, _, _, _, rfl, rfl, rfl, ?_⟩))) | (with_reducible refine at_store 29 ?_; (first | refine mem_store' st 29 _ _ rfl (wanted_none rfl) _ Try.sizeOf29 ?_ | (refine mem_store' st 29 _ _ rfl (wanted_some rfl ?_) _ Try.sizeOf29 ?_; focus (simp [yielded, Act.put]; done))); (first | (refine ⟨0, _, _, _, _, _, rfl, rfl, rfl, rfl, rfl, rfl, ?_⟩) | (refine ⟨1, _, _, _, _, _, rfl, rfl, rfl, rfl, rfl, rfl, ?_⟩) | (refine ⟨2, _, _, _, _, _, rfl, rfl, rfl, rfl, rfl, rfl, ?_⟩) | (refine ⟨3, _, _, _, _, _, rfl, rfl, rfl, rfl, rfl, rfl, ?_⟩) | (refine ⟨4, _, _, _, _, _, rfl, rfl, rfl, rfl, rfl, rfl, ?_⟩) | (refine ⟨5, _, _, _, _, _, rfl, rfl, rfl, rfl, rfl, rfl, ?_⟩) | (refine ⟨6, _, _, _, _, _, rfl, rfl, rfl, rfl, rfl, rfl, ?_⟩) | (refine ⟨7, _, _, _, _, _, rfl, rfl, rfl, rfl, rfl, rfl, ?_⟩)); clear st; intro wx st _ _; simp [Act.eval, Act.put, Value.cells, putL] at st) | (with_reducible refine at_store 26 ?_; (first | refine mem_store' st 26 _ _ rfl (wanted_none rfl) _ Try.sizeOf26 ?_ | (refine mem_store' st 26 _ _ rfl (wanted_some rfl ?_) _ Try.sizeOf26 ?_; focus (simp [yielded, Act.put]; done))); (first | (refine ⟨0, _, _, _, _, _, rfl, rfl, rfl, rfl, rfl, rfl, ?_⟩) | (refine ⟨1, _, _, _, _, _, rfl, rfl, rfl, rfl, rfl, rfl, ?_⟩) | (refine ⟨2, _, _, _, _, _, rfl, rfl, rfl, rfl, rfl, rfl, ?_⟩) | (refine ⟨3, _, _, _, _, _, rfl, rfl, rfl, rfl, rfl, rfl, ?_⟩) | (refine ⟨4, _, _, _, _, _, rfl, rfl, rfl, rfl, rfl, rfl, ?_⟩) | (refine ⟨5, _, _, _, _, _, rfl, rfl, rfl, rfl, rfl, rfl, ?_⟩) | (refine ⟨6, _, _, _, _, _, rfl, rfl, rfl, rfl, rfl, rfl, ?_⟩) | (refine ⟨7, _, _, _, _, _, rfl, rfl, rfl, rfl, rfl, rfl, ?_⟩)); clear st; intro wx st _ _; simp [Act.eval, Act.put, Value.cells, putL] at st) | (with_reducible refine at_store 3 ?_; (first | refine mem_store' st 3 _ _ rfl (wanted_none rfl) _ Try.sizeOf3 ?_ | (refine mem_store' st 3 _ _ rfl (wanted_some rfl ?_) _ Try.sizeOf3 ?_; focus (simp [yielded, Act.put]; done))); (first | (refine ⟨0, _, _, _, _, _, rfl, rfl, rfl, rfl, rfl, rfl, ?_⟩) | (refine ⟨1, _, _, _, _, _, rfl, rfl, rfl, rfl, rfl, rfl, ?_⟩) | (refine ⟨2, _, _, _, _, _, rfl, rfl, rfl, rfl, rfl, rfl, ?_⟩) | (refine ⟨3, _, _, _, _, _, rfl, rfl, rfl, rfl, rfl, rfl, ?_⟩) | (refine ⟨4, _, _, _, _, _, rfl, rfl, rfl, rfl, rfl, rfl, ?_⟩) | (refine ⟨5, _, _, _, _, _, rfl, rfl, rfl, rfl, rfl, rfl, ?_⟩) | (refine ⟨6, _, _, _, _, _, rfl, rfl, rfl, rfl, rfl, rfl, ?_⟩) | (refine ⟨7, _, _, _, _, _, rfl, rfl, rfl, rfl, rfl, rfl, ?_⟩)); clear st; intro wx st _ _; simp [Act.eval, Act.put, Value.cells, putL] at st) | (with_reducible refine at_store 4 ?_; (first | refine mem_store' st 4 _ _ rfl (wanted_none rfl) _ Try.sizeOf4 ?_ | (refine mem_store' st 4 _ _ rfl (wanted_some rfl ?_) _ Try.sizeOf4 ?_; focus (simp [yielded, Act.put]; done))); (first | (refine ⟨0, _, _, _, _, _, rfl, rfl, rfl, rfl, rfl, rfl, ?_⟩) | (refine ⟨1, _, _, _, _, _, rfl, rfl, rfl, rfl, rfl, rfl, ?_⟩) | (refine ⟨2, _, _, _, _, _, rfl, rfl, rfl, rfl, rfl, rfl, ?_⟩) | (refine ⟨3, _, _, _, _, _, rfl, rfl, rfl, rfl, rfl, rfl, ?_⟩) | (refine ⟨4, _, _, _, _, _, rfl, rfl, rfl, rfl, rfl, rfl, ?_⟩) | (refine ⟨5, _, _, _, _, _, rfl, rfl, rfl, rfl, rfl, rfl, ?_⟩) | (refine ⟨6, _, _, _, _, _, rfl, rfl, rfl, rfl, rfl, rfl, ?_⟩) | (refine ⟨7, _, _, _, _, _, rfl, rfl, rfl, rfl, rfl, rfl, ?_⟩)); clear st; intro wx st _ _; simp [Act.eval, Act.put, Value.cells, putL] at st) | (with_reducible refine at_store 27 ?_; (first | refine mem_store' st 27 _ _ rfl (wanted_none rfl) _ Try.sizeOf27 ?_ | (refine mem_store' st 27 _ _ rfl (wanted_some rfl ?_) _ Try.sizeOf27 ?_; focus (simp [yielded, Act.put]; done))); (first | (refine ⟨0, _, _, _, _, _, rfl, rfl, rfl, rfl, rfl, rfl, ?_⟩) | (refine ⟨1, _, _, _, _, _, rfl, rfl, rfl, rfl, rfl, rfl, ?_⟩) | (refine ⟨2, _, _, _, _, _, rfl, rfl, rfl, rfl, rfl, rfl, ?_⟩) | (refine ⟨3, _, _, _, _, _, rfl, rfl, rfl, rfl, rfl, rfl, ?_⟩) | (refine ⟨4, _, _, _, _, _, rfl, rfl, rfl, rfl, rfl, rfl, ?_⟩) | (refine ⟨5, _, _, _, _, _, rfl, rfl, rfl, rfl, rfl, rfl, ?_⟩) | (refine ⟨6, _, _, _, _, _, rfl, rfl, rfl, rfl, rfl, rfl, ?_⟩) | (refine ⟨7, _, _, _, _, _, rfl, rfl, rfl, rfl, rfl, rfl, ?_⟩)); clear st; intro wx st _ _; simp [Act.eval, Act.put, Value.cells, putL] at st)
    | (go_at_call 30; refine (ref_SameMail ok ok' _ f.mail la lc ga gc la' lc' ga' gc' (h.mail.below st.below) (h'.mail.below st.below)).mono ?_; rintro r v1 ⟨rfl, hb1⟩; replace st := st.call hb1; clear hb1)
    | (go_at_call 40; refine (ref_SameCerts ok ok' _ _ _ _ _ _ _ (h.certs.below st.below) (h'.certs.below st.below)).mono ?_; rintro r v1 ⟨rfl, hb1⟩; replace st := st.call hb1; clear hb1))
  go_ret
  exact ⟨by simp, st.below⟩

end Go.Proofs.Ytemjnojfhbbapaa

/- The walks through wire.host, thread, rising, GoodCert, GoodMail and Good. -/
namespace Go.Proofs.Ytemjnojfhbbapaa
open Go.RowKit

theorem wire_host (h : Int) (w : World) : Calls Try.prog 27 #[.int .i64 h] w fun e w' => e = .returned (.bool (four h)) ∧ w = w' := by
  by_cases h1 : 0 ≤ h <;> by_cases h2 : h < 4
  all_goals
    go_enter Try.func27, Try.ntmps27
    go_wp2
    go_ret
    exact ⟨ret_bool (by simp [four, h1, h2]), rfl⟩

theorem wire_thread (h : Int) (w : World) : Calls Try.prog 28 #[.int .i64 h] w fun e w' => e = .returned (.bool (four h)) ∧ w = w' := by
  by_cases h1 : 0 ≤ h <;> by_cases h2 : h < 4
  all_goals
    go_enter Try.func28, Try.ntmps28
    go_wp2
    go_ret
    exact ⟨ret_bool (by simp [four, h1, h2]), rfl⟩

theorem cat_Category (c : Int) (w : World) : Calls Try.prog 34 #[.int .i64 c] w fun e w' => e = .returned (.bool (catOk c)) ∧ w = w' := label_Category c w

theorem risesI_bad {l : List Int} {k : Nat} (h : k < l.length) (hI : Hid (risesI (-1) l = risesI (prevI l k) (l.drop k))) (hb : ¬ (prevI l k < l[k] ∧ catOk l[k] = true)) (m : Int) : risingB l m = false := by
  unfold risingB
  rw [hI.out, risesI_step l k h, if_neg hb]
  rfl
theorem risesI_go {l : List Int} {k : Nat} (h : k < l.length) (hI : Hid (risesI (-1) l = risesI (prevI l k) (l.drop k))) (hb : prevI l k < l[k] ∧ catOk l[k] = true) : Hid (risesI (-1) l = risesI (prevI l (k + 1)) (l.drop (k + 1))) := by
  show _ = _
  rw [hI.out, risesI_step l k h, if_pos hb]

set_option maxHeartbeats 1600000 in
theorem wire_rising (ok : Nat → Prop) (w : World) (la : Option Addr) (lc : Nat) (l : List Int) (m : Int) (hl : l.length * 8 ≤ 140737488355328) (hR : SlR ok w 1 RInt la lc l) :
    Calls Try.prog 32 #[.slice la l.length lc, .int .i64 m] w fun e w' => e = .returned (.bool (risingB l m)) ∧ Below w.heap.size w w' := by
  go_enter Try.func32, Try.ntmps32
  go_wp2
  go_loopw [9] (fun i wr => ∃ k : Nat, k ≤ l.length ∧ i = .int .i64 k ∧ Below w.heap.size w wr ∧ Hid (risesI (-1) l = risesI (prevI l k) (l.drop k))) (fun i _ => l.length - (intOf i).toNat)
  case atStart => exact ⟨0, Nat.zero_le _, rfl, Below.refl _ _, by rw [prevI_zero]; rfl⟩
  case round =>
    obtain ⟨k, hk, rfl, hB, hI⟩ := hrel
    by_cases hlt : k < l.length
    · obtain ⟨b, o, rfl, hb, h1⟩ := (hR.below hB).int_at k hlt
      have hbs := hB.size
      cases hcat : catOk l[k]
      · have HE := Lib.hid (risesI_bad hlt hI (fun h => by rw [hcat] at h; simp at h) m)
        have HC := Lib.hid hcat
        clear hcat
        go_wp2_with (first | (go_at_call 34; refine (cat_Category _ _).mono ?_; rintro e w2 ⟨rfl, rfl⟩; rw [HC.out]))
        go_ret
        exact ⟨by rw [HE.out]; rfl, hB⟩
      · have HC := Lib.hid hcat
        by_cases hk0 : k = 0
        · have HG := risesI_go hlt hI ⟨by rw [show prevI l k = -1 by rw [hk0, prevI_zero]]; have := (catOk_iff _).1 hcat; omega, hcat⟩
          have d3 : decide ((0 : Int) < (k : Int)) = false := by simp; omega
          have d4 : ¬ 0 < k := by omega
          clear hcat hk0
          go_wp2_with (first | (go_at_call 34; refine (cat_Category _ _).mono ?_; rintro e w2 ⟨rfl, rfl⟩; rw [HC.out]))
          go_roundw
          case rel => exact ⟨k + 1, hlt, by go_num, hB, HG⟩
          case measure => simp [intOf]; omega
        · have hk0' : 0 < k := by omega
          have hki : k - 1 < l.length := by omega
          obtain ⟨b', o', hbo, _, h1'⟩ := (hR.below hB).int_at (k - 1) hki
          simp only [Option.some.injEq, Addr.mk.injEq, and_true] at hbo
          obtain ⟨rfl, rfl⟩ := hbo
          have hp := prevI_pos l k hlt hk0'
          have HP := Lib.hid hp
          have d3 : decide ((0 : Int) < (k : Int)) = true := by simp; omega
          have hcast : ((k : Int) - 1).toNat = k - 1 := by omega
          clear hp hk0
          by_cases hpc : l[k - 1] < l[k]
          · have HG := risesI_go hlt hI ⟨by rw [HP.out]; exact hpc, HC.out⟩
            have d4 : decide (l[k] ≤ l[k - 1]) = false := by simp; omega
            clear hcat
            go_wp2_with (first | (go_at_call 34; refine (cat_Category _ _).mono ?_; rintro e w2 ⟨rfl, rfl⟩; rw [HC.out]))
            go_roundw
            case rel => exact ⟨k + 1, by omega, by go_num, hB, HG⟩
            case measure => simp [intOf]; omega
          · have HE := Lib.hid (risesI_bad hlt hI (fun h => hpc (by rw [← HP.out]; exact h.1)) m)
            have hpc' : l[k] ≤ l[k - 1] := by omega
            have d4 : decide (l[k] ≤ l[k - 1]) = true := by simp; omega
            clear hpc hcat
            go_wp2_with (first | (go_at_call 34; refine (cat_Category _ _).mono ?_; rintro e w2 ⟨rfl, rfl⟩; rw [HC.out]))
            go_ret
            exact ⟨by rw [HE.out]; rfl, hB⟩
    · have hn : k = l.length := by omega
      have e : risingB l m = decide ((l.length : Int) ≤ m) := by unfold risingB; rw [hI.out, List.drop_of_length_le (by omega)]; simp [risesI]
      have HE := Lib.hid e
      clear e hn
      go_wp2
      go_ret
      exact ⟨by rw [HE.out]; rfl, hB⟩

set_option maxHeartbeats 1600000 in
theorem wire_GoodCert (c : Cert) (w : World) : Calls Try.prog 16 #[.agg #[.int .i64 c.c, .int .i64 c.by_, .int .i64 c.host, .int .i64 c.till]] w fun e w' => e = .returned (.bool (goodCertB c)) ∧ Below w.heap.size w w' := by
  rcases chain6 (catOk c.c) (four c.by_) (four c.host) ((c.by_ != c.host)) (decide (0 ≤ c.till)) (decide (c.till ≤ 1099511627776)) with h1 | ⟨h1, h2⟩ | ⟨h1, h2, h3⟩ | ⟨h1, h2, h3, h4⟩ | ⟨h1, h2, h3, h4, h5⟩ | ⟨h1, h2, h3, h4, h5, h6⟩ | ⟨h1, h2, h3, h4, h5, h6⟩
  · have HE := Lib.hid (show goodCertB c = false by simp [goodCertB, h1])
    have H1 := Lib.hid h1; clear h1
    have st := St.start w
    go_enter Try.func16, Try.ntmps16
    go_wp2_with (first | go_skip | (with_reducible refine at_box 39 ?_; refine mem_box st (wanted_none rfl) 39 _ rfl _ rfl _ rfl ?_; clear st; intro g1 w1 hg1 st hg1b; clear hg1b; simp [Act.eval, Act.put, Value.cells, putL] at st) | (with_reducible refine at_load 3 ?_; (first | refine mem_load' st 3 _ rfl (wanted_none rfl) Try.isAgg3 ?_ | (refine mem_load' st 3 _ rfl (wanted_some rfl ?_) Try.isAgg3 ?_; focus (simp [yielded, Act.put]; done))); refine ⟨0, _, _, _, _, _, rfl, rfl, rfl, ?_⟩) | (go_at_call 34; refine (cat_Category _ _).mono ?_; rintro e v ⟨rfl, rfl⟩; first | rw [H1.out]))
    go_ret
    exact ⟨by rw [HE.out]; rfl, st.below⟩
  · have HE := Lib.hid (show goodCertB c = false by simp [goodCertB, h1, h2])
    have H1 := Lib.hid h1; clear h1
    have H2 := Lib.hid h2; clear h2
    have st := St.start w
    go_enter Try.func16, Try.ntmps16
    go_wp2_with (first | go_skip | (with_reducible refine at_box 39 ?_; refine mem_box st (wanted_none rfl) 39 _ rfl _ rfl _ rfl ?_; clear st; intro g1 w1 hg1 st hg1b; clear hg1b; simp [Act.eval, Act.put, Value.cells, putL] at st) | (with_reducible refine at_load 3 ?_; (first | refine mem_load' st 3 _ rfl (wanted_none rfl) Try.isAgg3 ?_ | (refine mem_load' st 3 _ rfl (wanted_some rfl ?_) Try.isAgg3 ?_; focus (simp [yielded, Act.put]; done))); refine ⟨0, _, _, _, _, _, rfl, rfl, rfl, ?_⟩) | (go_at_call 34; refine (cat_Category _ _).mono ?_; rintro e v ⟨rfl, rfl⟩; first | rw [H1.out]) | (go_at_call 27; refine (wire_host _ _).mono ?_; rintro e v ⟨rfl, rfl⟩; first | rw [H2.out]))
    go_ret
    exact ⟨by rw [HE.out]; rfl, st.below⟩
  · have HE := Lib.hid (show goodCertB c = false by simp [goodCertB, h1, h2, h3])
    have H1 := Lib.hid h1; clear h1
    have H2 := Lib.hid h2; clear h2
    have H3 := Lib.hid h3; clear h3
    have st := St.start w
    go_enter Try.func16, Try.ntmps16
    go_wp2_with (first | go_skip | (with_reducible refine at_box 39 ?_; refine mem_box st (wanted_none rfl) 39 _ rfl _ rfl _ rfl ?_; clear st; intro g1 w1 hg1 st hg1b; clear hg1b; simp [Act.eval, Act.put, Value.cells, putL] at st) | (with_reducible refine at_load 3 ?_; (first | refine mem_load' st 3 _ rfl (wanted_none rfl) Try.isAgg3 ?_ | (refine mem_load' st 3 _ rfl (wanted_some rfl ?_) Try.isAgg3 ?_; focus (simp [yielded, Act.put]; done))); refine ⟨0, _, _, _, _, _, rfl, rfl, rfl, ?_⟩) | (go_at_call 34; refine (cat_Category _ _).mono ?_; rintro e v ⟨rfl, rfl⟩; first | rw [H1.out]) | (go_at_call 27; refine (wire_host _ _).mono ?_; rintro e v ⟨rfl, rfl⟩; first | rw [H2.out] | rw [H3.out]))
    go_ret
    exact ⟨by rw [HE.out]; rfl, st.below⟩
  · have HE := Lib.hid (show goodCertB c = false by simp [goodCertB, h1, h2, h3, h4])
    have H1 := Lib.hid h1; clear h1
    have H2 := Lib.hid h2; clear h2
    have H3 := Lib.hid h3; clear h3
    have st := St.start w
    go_enter Try.func16, Try.ntmps16
    go_wp2_with (first | go_skip | (with_reducible refine at_box 39 ?_; refine mem_box st (wanted_none rfl) 39 _ rfl _ rfl _ rfl ?_; clear st; intro g1 w1 hg1 st hg1b; clear hg1b; simp [Act.eval, Act.put, Value.cells, putL] at st) | (with_reducible refine at_load 3 ?_; (first | refine mem_load' st 3 _ rfl (wanted_none rfl) Try.isAgg3 ?_ | (refine mem_load' st 3 _ rfl (wanted_some rfl ?_) Try.isAgg3 ?_; focus (simp [yielded, Act.put]; done))); refine ⟨0, _, _, _, _, _, rfl, rfl, rfl, ?_⟩) | (go_at_call 34; refine (cat_Category _ _).mono ?_; rintro e v ⟨rfl, rfl⟩; first | rw [H1.out]) | (go_at_call 27; refine (wire_host _ _).mono ?_; rintro e v ⟨rfl, rfl⟩; first | rw [H2.out] | rw [H3.out]))
    go_ret
    exact ⟨by rw [HE.out]; rfl, st.below⟩
  · have HE := Lib.hid (show goodCertB c = false by simp [goodCertB, h1, h2, h3, h4, h5])
    have H1 := Lib.hid h1; clear h1
    have H2 := Lib.hid h2; clear h2
    have H3 := Lib.hid h3; clear h3
    have st := St.start w
    go_enter Try.func16, Try.ntmps16
    go_wp2_with (first | go_skip | (with_reducible refine at_box 39 ?_; refine mem_box st (wanted_none rfl) 39 _ rfl _ rfl _ rfl ?_; clear st; intro g1 w1 hg1 st hg1b; clear hg1b; simp [Act.eval, Act.put, Value.cells, putL] at st) | (with_reducible refine at_load 3 ?_; (first | refine mem_load' st 3 _ rfl (wanted_none rfl) Try.isAgg3 ?_ | (refine mem_load' st 3 _ rfl (wanted_some rfl ?_) Try.isAgg3 ?_; focus (simp [yielded, Act.put]; done))); refine ⟨0, _, _, _, _, _, rfl, rfl, rfl, ?_⟩) | (go_at_call 34; refine (cat_Category _ _).mono ?_; rintro e v ⟨rfl, rfl⟩; first | rw [H1.out]) | (go_at_call 27; refine (wire_host _ _).mono ?_; rintro e v ⟨rfl, rfl⟩; first | rw [H2.out] | rw [H3.out]))
    go_ret
    exact ⟨by rw [HE.out]; rfl, st.below⟩
  · have HE := Lib.hid (show goodCertB c = false by simp [goodCertB, h1, h2, h3, h4, h5, h6])
    have H1 := Lib.hid h1; clear h1
    have H2 := Lib.hid h2; clear h2
    have H3 := Lib.hid h3; clear h3
    have st := St.start w
    go_enter Try.func16, Try.ntmps16
    go_wp2_with (first | go_skip | (with_reducible refine at_box 39 ?_; refine mem_box st (wanted_none rfl) 39 _ rfl _ rfl _ rfl ?_; clear st; intro g1 w1 hg1 st hg1b; clear hg1b; simp [Act.eval, Act.put, Value.cells, putL] at st) | (with_reducible refine at_load 3 ?_; (first | refine mem_load' st 3 _ rfl (wanted_none rfl) Try.isAgg3 ?_ | (refine mem_load' st 3 _ rfl (wanted_some rfl ?_) Try.isAgg3 ?_; focus (simp [yielded, Act.put]; done))); refine ⟨0, _, _, _, _, _, rfl, rfl, rfl, ?_⟩) | (go_at_call 34; refine (cat_Category _ _).mono ?_; rintro e v ⟨rfl, rfl⟩; first | rw [H1.out]) | (go_at_call 27; refine (wire_host _ _).mono ?_; rintro e v ⟨rfl, rfl⟩; first | rw [H2.out] | rw [H3.out]))
    go_ret
    exact ⟨by rw [HE.out]; rfl, st.below⟩
  · have HE := Lib.hid (show goodCertB c = true by simp [goodCertB, h1, h2, h3, h4, h5, h6])
    have H1 := Lib.hid h1; clear h1
    have H2 := Lib.hid h2; clear h2
    have H3 := Lib.hid h3; clear h3
    have st := St.start w
    go_enter Try.func16, Try.ntmps16
    go_wp2_with (first | go_skip | (with_reducible refine at_box 39 ?_; refine mem_box st (wanted_none rfl) 39 _ rfl _ rfl _ rfl ?_; clear st; intro g1 w1 hg1 st hg1b; clear hg1b; simp [Act.eval, Act.put, Value.cells, putL] at st) | (with_reducible refine at_load 3 ?_; (first | refine mem_load' st 3 _ rfl (wanted_none rfl) Try.isAgg3 ?_ | (refine mem_load' st 3 _ rfl (wanted_some rfl ?_) Try.isAgg3 ?_; focus (simp [yielded, Act.put]; done))); refine ⟨0, _, _, _, _, _, rfl, rfl, rfl, ?_⟩) | (go_at_call 34; refine (cat_Category _ _).mono ?_; rintro e v ⟨rfl, rfl⟩; first | rw [H1.out]) | (go_at_call 27; refine (wire_host _ _).mono ?_; rintro e v ⟨rfl, rfl⟩; first | rw [H2.out] | rw [H3.out]))
    go_ret
    exact ⟨by rw [HE.out]; rfl, st.below⟩

set_option maxHeartbeats 3200000 in
theorem wire_GoodMail (ok : Nat → Prop) (w : World) (m : Mail) (la : Option Addr) (lc : Nat) (ga : Option Addr) (gc : Nat) (hl : m.label.length * 16 ≤ 140737488355328) (hg : m.grants.length * 8 ≤ 140737488355328) (hR : MailR ok w m la lc ga gc) :
    Calls Try.prog 13 #[mailV m la lc ga gc] w fun e w' => e = .returned (.int .i64 (goodMailC m)) ∧ Below w.heap.size w w' := by
  unfold mailV
  obtain ⟨hA, hB⟩ := hR
  rcases chain4 (four m.host) (four m.thread) (goodL m.label) (risingB m.grants 8) with h1 | ⟨h1, h2⟩ | ⟨h1, h2, h3⟩ | ⟨h1, h2, h3, h4⟩ | ⟨h1, h2, h3, h4⟩
  · have HE := Lib.hid (show goodMailC m = 2 by simp [goodMailC, h1])
    have H1 := Lib.hid h1; clear h1
    have st := St.start w
    go_enter Try.func13, Try.ntmps13
    go_wp2_with (first | go_skip | (with_reducible refine at_box 26 ?_; refine mem_box st (wanted_none rfl) 26 _ rfl _ rfl _ rfl ?_; clear st; intro g1 w1 hg1 st hg1b; clear hg1b; simp [Act.eval, Act.put, Value.cells, putL] at st) | (with_reducible refine at_load 3 ?_; (first | refine mem_load' st 3 _ rfl (wanted_none rfl) Try.isAgg3 ?_ | (refine mem_load' st 3 _ rfl (wanted_some rfl ?_) Try.isAgg3 ?_; focus (simp [yielded, Act.put]; done))); refine ⟨0, _, _, _, _, _, rfl, rfl, rfl, ?_⟩) | (with_reducible refine at_load 23 ?_; (first | refine mem_load' st 23 _ rfl (wanted_none rfl) Try.isAgg23 ?_ | (refine mem_load' st 23 _ rfl (wanted_some rfl ?_) Try.isAgg23 ?_; focus (simp [yielded, Act.put]; done))); refine ⟨0, _, _, _, _, _, rfl, rfl, rfl, ?_⟩) | (with_reducible refine at_load 24 ?_; (first | refine mem_load' st 24 _ rfl (wanted_none rfl) Try.isAgg24 ?_ | (refine mem_load' st 24 _ rfl (wanted_some rfl ?_) Try.isAgg24 ?_; focus (simp [yielded, Act.put]; done))); refine ⟨0, _, _, _, _, _, rfl, rfl, rfl, ?_⟩) | (with_reducible refine at_load 9 ?_; (first | refine mem_load' st 9 _ rfl (wanted_none rfl) Try.isAgg9 ?_ | (refine mem_load' st 9 _ rfl (wanted_some rfl ?_) Try.isAgg9 ?_; focus (simp [yielded, Act.put]; done))); refine ⟨0, _, _, _, _, _, rfl, rfl, rfl, ?_⟩) | (go_at_call 27; refine (wire_host _ _).mono ?_; rintro e v ⟨rfl, rfl⟩; rw [H1.out]))
    go_ret
    exact ⟨by rw [HE.out]; rfl, st.below⟩
  · have HE := Lib.hid (show goodMailC m = 2 by simp [goodMailC, h1, h2])
    have H1 := Lib.hid h1; clear h1
    have H2 := Lib.hid h2; clear h2
    have st := St.start w
    go_enter Try.func13, Try.ntmps13
    go_wp2_with (first | go_skip | (with_reducible refine at_box 26 ?_; refine mem_box st (wanted_none rfl) 26 _ rfl _ rfl _ rfl ?_; clear st; intro g1 w1 hg1 st hg1b; clear hg1b; simp [Act.eval, Act.put, Value.cells, putL] at st) | (with_reducible refine at_load 3 ?_; (first | refine mem_load' st 3 _ rfl (wanted_none rfl) Try.isAgg3 ?_ | (refine mem_load' st 3 _ rfl (wanted_some rfl ?_) Try.isAgg3 ?_; focus (simp [yielded, Act.put]; done))); refine ⟨0, _, _, _, _, _, rfl, rfl, rfl, ?_⟩) | (with_reducible refine at_load 23 ?_; (first | refine mem_load' st 23 _ rfl (wanted_none rfl) Try.isAgg23 ?_ | (refine mem_load' st 23 _ rfl (wanted_some rfl ?_) Try.isAgg23 ?_; focus (simp [yielded, Act.put]; done))); refine ⟨0, _, _, _, _, _, rfl, rfl, rfl, ?_⟩) | (with_reducible refine at_load 24 ?_; (first | refine mem_load' st 24 _ rfl (wanted_none rfl) Try.isAgg24 ?_ | (refine mem_load' st 24 _ rfl (wanted_some rfl ?_) Try.isAgg24 ?_; focus (simp [yielded, Act.put]; done))); refine ⟨0, _, _, _, _, _, rfl, rfl, rfl, ?_⟩) | (with_reducible refine at_load 9 ?_; (first | refine mem_load' st 9 _ rfl (wanted_none rfl) Try.isAgg9 ?_ | (refine mem_load' st 9 _ rfl (wanted_some rfl ?_) Try.isAgg9 ?_; focus (simp [yielded, Act.put]; done))); refine ⟨0, _, _, _, _, _, rfl, rfl, rfl, ?_⟩) | (go_at_call 27; refine (wire_host _ _).mono ?_; rintro e v ⟨rfl, rfl⟩; rw [H1.out]) | (go_at_call 28; refine (wire_thread _ _).mono ?_; rintro e v ⟨rfl, rfl⟩; rw [H2.out]))
    go_ret
    exact ⟨by rw [HE.out]; rfl, st.below⟩
  · have HE := Lib.hid (show goodMailC m = 2 by simp [goodMailC, h1, h2, h3])
    have H1 := Lib.hid h1; clear h1
    have H2 := Lib.hid h2; clear h2
    have H3 := Lib.hid h3; clear h3
    have st := St.start w
    go_enter Try.func13, Try.ntmps13
    go_wp2_with (first | go_skip | (with_reducible refine at_box 26 ?_; refine mem_box st (wanted_none rfl) 26 _ rfl _ rfl _ rfl ?_; clear st; intro g1 w1 hg1 st hg1b; clear hg1b; simp [Act.eval, Act.put, Value.cells, putL] at st) | (with_reducible refine at_load 3 ?_; (first | refine mem_load' st 3 _ rfl (wanted_none rfl) Try.isAgg3 ?_ | (refine mem_load' st 3 _ rfl (wanted_some rfl ?_) Try.isAgg3 ?_; focus (simp [yielded, Act.put]; done))); refine ⟨0, _, _, _, _, _, rfl, rfl, rfl, ?_⟩) | (with_reducible refine at_load 23 ?_; (first | refine mem_load' st 23 _ rfl (wanted_none rfl) Try.isAgg23 ?_ | (refine mem_load' st 23 _ rfl (wanted_some rfl ?_) Try.isAgg23 ?_; focus (simp [yielded, Act.put]; done))); refine ⟨0, _, _, _, _, _, rfl, rfl, rfl, ?_⟩) | (with_reducible refine at_load 24 ?_; (first | refine mem_load' st 24 _ rfl (wanted_none rfl) Try.isAgg24 ?_ | (refine mem_load' st 24 _ rfl (wanted_some rfl ?_) Try.isAgg24 ?_; focus (simp [yielded, Act.put]; done))); refine ⟨0, _, _, _, _, _, rfl, rfl, rfl, ?_⟩) | (with_reducible refine at_load 9 ?_; (first | refine mem_load' st 9 _ rfl (wanted_none rfl) Try.isAgg9 ?_ | (refine mem_load' st 9 _ rfl (wanted_some rfl ?_) Try.isAgg9 ?_; focus (simp [yielded, Act.put]; done))); refine ⟨0, _, _, _, _, _, rfl, rfl, rfl, ?_⟩) | (go_at_call 27; refine (wire_host _ _).mono ?_; rintro e v ⟨rfl, rfl⟩; rw [H1.out]) | (go_at_call 28; refine (wire_thread _ _).mono ?_; rintro e v ⟨rfl, rfl⟩; rw [H2.out]) | (go_at_call 31; refine (label_Good ok _ _ _ _ hl (hA.below st.below)).mono ?_; rintro e v2 ⟨rfl, hb2⟩; rw [H3.out]; replace st := st.call hb2; clear hb2))
    go_ret
    exact ⟨by rw [HE.out]; rfl, st.below⟩
  · have HE := Lib.hid (show goodMailC m = 2 by simp [goodMailC, h1, h2, h3, h4])
    have H1 := Lib.hid h1; clear h1
    have H2 := Lib.hid h2; clear h2
    have H3 := Lib.hid h3; clear h3
    have H4 := Lib.hid h4; clear h4
    have st := St.start w
    go_enter Try.func13, Try.ntmps13
    go_wp2_with (first | go_skip | (with_reducible refine at_box 26 ?_; refine mem_box st (wanted_none rfl) 26 _ rfl _ rfl _ rfl ?_; clear st; intro g1 w1 hg1 st hg1b; clear hg1b; simp [Act.eval, Act.put, Value.cells, putL] at st) | (with_reducible refine at_load 3 ?_; (first | refine mem_load' st 3 _ rfl (wanted_none rfl) Try.isAgg3 ?_ | (refine mem_load' st 3 _ rfl (wanted_some rfl ?_) Try.isAgg3 ?_; focus (simp [yielded, Act.put]; done))); refine ⟨0, _, _, _, _, _, rfl, rfl, rfl, ?_⟩) | (with_reducible refine at_load 23 ?_; (first | refine mem_load' st 23 _ rfl (wanted_none rfl) Try.isAgg23 ?_ | (refine mem_load' st 23 _ rfl (wanted_some rfl ?_) Try.isAgg23 ?_; focus (simp [yielded, Act.put]; done))); refine ⟨0, _, _, _, _, _, rfl, rfl, rfl, ?_⟩) | (with_reducible refine at_load 24 ?_; (first | refine mem_load' st 24 _ rfl (wanted_none rfl) Try.isAgg24 ?_ | (refine mem_load' st 24 _ rfl (wanted_some rfl ?_) Try.isAgg24 ?_; focus (simp [yielded, Act.put]; done))); refine ⟨0, _, _, _, _, _, rfl, rfl, rfl, ?_⟩) | (with_reducible refine at_load 9 ?_; (first | refine mem_load' st 9 _ rfl (wanted_none rfl) Try.isAgg9 ?_ | (refine mem_load' st 9 _ rfl (wanted_some rfl ?_) Try.isAgg9 ?_; focus (simp [yielded, Act.put]; done))); refine ⟨0, _, _, _, _, _, rfl, rfl, rfl, ?_⟩) | (go_at_call 27; refine (wire_host _ _).mono ?_; rintro e v ⟨rfl, rfl⟩; rw [H1.out]) | (go_at_call 28; refine (wire_thread _ _).mono ?_; rintro e v ⟨rfl, rfl⟩; rw [H2.out]) | (go_at_call 31; refine (label_Good ok _ _ _ _ hl (hA.below st.below)).mono ?_; rintro e v2 ⟨rfl, hb2⟩; rw [H3.out]; replace st := st.call hb2; clear hb2) | (go_at_call 32; refine (wire_rising ok _ _ _ _ _ hg (hB.below st.below)).mono ?_; rintro e v3 ⟨rfl, hb3⟩; rw [H4.out]; replace st := st.call hb3; clear hb3))
    go_ret
    exact ⟨by rw [HE.out]; rfl, st.below⟩
  · have HE := Lib.hid (show goodMailC m = if 64 < m.text.size then 9 else 0 by simp [goodMailC, h1, h2, h3, h4])
    have H1 := Lib.hid h1; clear h1
    have H2 := Lib.hid h2; clear h2
    have H3 := Lib.hid h3; clear h3
    have H4 := Lib.hid h4; clear h4
    have st := St.start w
    by_cases ht : 64 < m.text.size
    · rw [if_pos ht] at HE
      go_enter Try.func13, Try.ntmps13
      go_wp2_with (first | go_skip | (with_reducible refine at_box 26 ?_; refine mem_box st (wanted_none rfl) 26 _ rfl _ rfl _ rfl ?_; clear st; intro g1 w1 hg1 st hg1b; clear hg1b; simp [Act.eval, Act.put, Value.cells, putL] at st) | (with_reducible refine at_load 3 ?_; (first | refine mem_load' st 3 _ rfl (wanted_none rfl) Try.isAgg3 ?_ | (refine mem_load' st 3 _ rfl (wanted_some rfl ?_) Try.isAgg3 ?_; focus (simp [yielded, Act.put]; done))); refine ⟨0, _, _, _, _, _, rfl, rfl, rfl, ?_⟩) | (with_reducible refine at_load 23 ?_; (first | refine mem_load' st 23 _ rfl (wanted_none rfl) Try.isAgg23 ?_ | (refine mem_load' st 23 _ rfl (wanted_some rfl ?_) Try.isAgg23 ?_; focus (simp [yielded, Act.put]; done))); refine ⟨0, _, _, _, _, _, rfl, rfl, rfl, ?_⟩) | (with_reducible refine at_load 24 ?_; (first | refine mem_load' st 24 _ rfl (wanted_none rfl) Try.isAgg24 ?_ | (refine mem_load' st 24 _ rfl (wanted_some rfl ?_) Try.isAgg24 ?_; focus (simp [yielded, Act.put]; done))); refine ⟨0, _, _, _, _, _, rfl, rfl, rfl, ?_⟩) | (with_reducible refine at_load 9 ?_; (first | refine mem_load' st 9 _ rfl (wanted_none rfl) Try.isAgg9 ?_ | (refine mem_load' st 9 _ rfl (wanted_some rfl ?_) Try.isAgg9 ?_; focus (simp [yielded, Act.put]; done))); refine ⟨0, _, _, _, _, _, rfl, rfl, rfl, ?_⟩) | (go_at_call 27; refine (wire_host _ _).mono ?_; rintro e v ⟨rfl, rfl⟩; rw [H1.out]) | (go_at_call 28; refine (wire_thread _ _).mono ?_; rintro e v ⟨rfl, rfl⟩; rw [H2.out]) | (go_at_call 31; refine (label_Good ok _ _ _ _ hl (hA.below st.below)).mono ?_; rintro e v2 ⟨rfl, hb2⟩; rw [H3.out]; replace st := st.call hb2; clear hb2) | (go_at_call 32; refine (wire_rising ok _ _ _ _ _ hg (hB.below st.below)).mono ?_; rintro e v3 ⟨rfl, hb3⟩; rw [H4.out]; replace st := st.call hb3; clear hb3))
      go_ret
      exact ⟨by rw [HE.out]; rfl, st.below⟩
    · rw [if_neg ht] at HE
      go_enter Try.func13, Try.ntmps13
      go_wp2_with (first | go_skip | (with_reducible refine at_box 26 ?_; refine mem_box st (wanted_none rfl) 26 _ rfl _ rfl _ rfl ?_; clear st; intro g1 w1 hg1 st hg1b; clear hg1b; simp [Act.eval, Act.put, Value.cells, putL] at st) | (with_reducible refine at_load 3 ?_; (first | refine mem_load' st 3 _ rfl (wanted_none rfl) Try.isAgg3 ?_ | (refine mem_load' st 3 _ rfl (wanted_some rfl ?_) Try.isAgg3 ?_; focus (simp [yielded, Act.put]; done))); refine ⟨0, _, _, _, _, _, rfl, rfl, rfl, ?_⟩) | (with_reducible refine at_load 23 ?_; (first | refine mem_load' st 23 _ rfl (wanted_none rfl) Try.isAgg23 ?_ | (refine mem_load' st 23 _ rfl (wanted_some rfl ?_) Try.isAgg23 ?_; focus (simp [yielded, Act.put]; done))); refine ⟨0, _, _, _, _, _, rfl, rfl, rfl, ?_⟩) | (with_reducible refine at_load 24 ?_; (first | refine mem_load' st 24 _ rfl (wanted_none rfl) Try.isAgg24 ?_ | (refine mem_load' st 24 _ rfl (wanted_some rfl ?_) Try.isAgg24 ?_; focus (simp [yielded, Act.put]; done))); refine ⟨0, _, _, _, _, _, rfl, rfl, rfl, ?_⟩) | (with_reducible refine at_load 9 ?_; (first | refine mem_load' st 9 _ rfl (wanted_none rfl) Try.isAgg9 ?_ | (refine mem_load' st 9 _ rfl (wanted_some rfl ?_) Try.isAgg9 ?_; focus (simp [yielded, Act.put]; done))); refine ⟨0, _, _, _, _, _, rfl, rfl, rfl, ?_⟩) | (go_at_call 27; refine (wire_host _ _).mono ?_; rintro e v ⟨rfl, rfl⟩; rw [H1.out]) | (go_at_call 28; refine (wire_thread _ _).mono ?_; rintro e v ⟨rfl, rfl⟩; rw [H2.out]) | (go_at_call 31; refine (label_Good ok _ _ _ _ hl (hA.below st.below)).mono ?_; rintro e v2 ⟨rfl, hb2⟩; rw [H3.out]; replace st := st.call hb2; clear hb2) | (go_at_call 32; refine (wire_rising ok _ _ _ _ _ hg (hB.below st.below)).mono ?_; rintro e v3 ⟨rfl, hb3⟩; rw [H4.out]; replace st := st.call hb3; clear hb3))
      go_ret
      exact ⟨by rw [HE.out]; rfl, st.below⟩

end Go.Proofs.Ytemjnojfhbbapaa

/- The walk through wire.Good. -/
namespace Go.Proofs.Ytemjnojfhbbapaa
open Go.RowKit

theorem chain4n (a b c d : Bool) : a = true ∨ (a = false ∧ b = true) ∨ (a = false ∧ b = false ∧ c = true) ∨ (a = false ∧ b = false ∧ c = false ∧ d = true) ∨ (a = false ∧ b = false ∧ c = false ∧ d = false) := by
  cases a <;> cases b <;> cases c <;> cases d <;> simp

theorem ackPlain_bne (f : Frame) : ackPlain f = !((f.thread != 0) || (f.mail.host != 0) || (f.mail.thread != 0) || decide (0 < f.mail.label.length + f.mail.grants.length + f.mail.text.size + f.certs.length)) := by
  unfold ackPlain
  have e : decide (f.mail.label.length + f.mail.grants.length + f.mail.text.size + f.certs.length = 0) = !decide (0 < f.mail.label.length + f.mail.grants.length + f.mail.text.size + f.certs.length) := by
    rw [Bool.eq_iff_iff]; simp <;> omega
  rw [e]
  simp only [bne]
  cases (f.thread == 0) <;> cases (f.mail.host == 0) <;> cases (f.mail.thread == 0) <;> simp

structure Frame.FitsW (f : Frame) : Prop where
  label : f.mail.label.length * 16 ≤ 140737488355328
  grants : f.mail.grants.length * 8 ≤ 140737488355328
  certs : f.certs.length * 32 ≤ 140737488355328
  text : f.mail.text.size ≤ 140737488355328

set_option maxHeartbeats 3200000 in
theorem wire_Good_range (ok : Nat → Prop) (w : World) (f : Frame) (la : Option Addr) (lc : Nat) (ga : Option Addr) (gc : Nat) (ca : Option Addr) (cc : Nat) (hf : f.FitsW) (hR : FrameR ok w f la lc ga gc ca cc) (h : frameRange f = false) :
    Calls Try.prog 11 #[frameV f la lc ga gc ca cc] w fun e w' => e = .returned (.int .i64 2) ∧ Below w.heap.size w w' := by
  unfold frameV
  obtain ⟨f1, f2, f3, f4⟩ := hf
  obtain ⟨⟨hA, hB⟩, hC⟩ := hR
  clear hA hB hC
  unfold frameRange at h
  rcases chain6 (four f.src) (four f.dst) ((f.src != f.dst)) (decide (1 ≤ f.seq)) (decide (f.seq ≤ 1099511627776)) (four f.thread) with h1 | ⟨h1, h2⟩ | ⟨h1, h2, h3⟩ | ⟨h1, h2, h3, h4⟩ | ⟨h1, h2, h3, h4, h5⟩ | ⟨h1, h2, h3, h4, h5, h6⟩ | ⟨h1, h2, h3, h4, h5, h6⟩
  · clear h
    have H1 := Lib.hid h1; clear h1
    have st := St.start w
    go_enter Try.func11, Try.ntmps11
    go_wp2_with (first | go_skip | (with_reducible refine at_box 29 ?_; refine mem_box st (wanted_none rfl) 29 _ rfl _ rfl _ rfl ?_; clear st; intro g1 w1 hg1 st hg1b; clear hg1b; simp [Act.eval, Act.put, Value.cells, putL] at st) | (with_reducible refine at_load 3 ?_; (first | refine mem_load' st 3 _ rfl (wanted_none rfl) Try.isAgg3 ?_ | (refine mem_load' st 3 _ rfl (wanted_some rfl ?_) Try.isAgg3 ?_; focus (simp [yielded, Act.put]; done))); refine ⟨0, _, _, _, _, _, rfl, rfl, rfl, ?_⟩) | (with_reducible refine at_load 4 ?_; (first | refine mem_load' st 4 _ rfl (wanted_none rfl) Try.isAgg4 ?_ | (refine mem_load' st 4 _ rfl (wanted_some rfl ?_) Try.isAgg4 ?_; focus (simp [yielded, Act.put]; done))); refine ⟨0, _, _, _, _, _, rfl, rfl, rfl, ?_⟩) | (go_at_call 27; refine (wire_host _ _).mono ?_; rintro e v ⟨rfl, rfl⟩; first | rw [H1.out]))
    go_ret
    exact ⟨rfl, st.below⟩
  · clear h
    have H1 := Lib.hid h1; clear h1
    have H2 := Lib.hid h2; clear h2
    have st := St.start w
    go_enter Try.func11, Try.ntmps11
    go_wp2_with (first | go_skip | (with_reducible refine at_box 29 ?_; refine mem_box st (wanted_none rfl) 29 _ rfl _ rfl _ rfl ?_; clear st; intro g1 w1 hg1 st hg1b; clear hg1b; simp [Act.eval, Act.put, Value.cells, putL] at st) | (with_reducible refine at_load 3 ?_; (first | refine mem_load' st 3 _ rfl (wanted_none rfl) Try.isAgg3 ?_ | (refine mem_load' st 3 _ rfl (wanted_some rfl ?_) Try.isAgg3 ?_; focus (simp [yielded, Act.put]; done))); refine ⟨0, _, _, _, _, _, rfl, rfl, rfl, ?_⟩) | (with_reducible refine at_load 4 ?_; (first | refine mem_load' st 4 _ rfl (wanted_none rfl) Try.isAgg4 ?_ | (refine mem_load' st 4 _ rfl (wanted_some rfl ?_) Try.isAgg4 ?_; focus (simp [yielded, Act.put]; done))); refine ⟨0, _, _, _, _, _, rfl, rfl, rfl, ?_⟩) | (go_at_call 27; refine (wire_host _ _).mono ?_; rintro e v ⟨rfl, rfl⟩; first | rw [H1.out] | rw [H2.out]))
    go_ret
    exact ⟨rfl, st.below⟩
  · clear h
    have H1 := Lib.hid h1; clear h1
    have H2 := Lib.hid h2; clear h2
    have h3a : (f.src == f.dst) = true := by simpa [bne] using h3
    have st := St.start w
    go_enter Try.func11, Try.ntmps11
    go_wp2_with (first | go_skip | (with_reducible refine at_box 29 ?_; refine mem_box st (wanted_none rfl) 29 _ rfl _ rfl _ rfl ?_; clear st; intro g1 w1 hg1 st hg1b; clear hg1b; simp [Act.eval, Act.put, Value.cells, putL] at st) | (with_reducible refine at_load 3 ?_; (first | refine mem_load' st 3 _ rfl (wanted_none rfl) Try.isAgg3 ?_ | (refine mem_load' st 3 _ rfl (wanted_some rfl ?_) Try.isAgg3 ?_; focus (simp [yielded, Act.put]; done))); refine ⟨0, _, _, _, _, _, rfl, rfl, rfl, ?_⟩) | (with_reducible refine at_load 4 ?_; (first | refine mem_load' st 4 _ rfl (wanted_none rfl) Try.isAgg4 ?_ | (refine mem_load' st 4 _ rfl (wanted_some rfl ?_) Try.isAgg4 ?_; focus (simp [yielded, Act.put]; done))); refine ⟨0, _, _, _, _, _, rfl, rfl, rfl, ?_⟩) | (go_at_call 27; refine (wire_host _ _).mono ?_; rintro e v ⟨rfl, rfl⟩; first | rw [H1.out] | rw [H2.out]))
    go_ret
    exact ⟨rfl, st.below⟩
  · clear h
    have H1 := Lib.hid h1; clear h1
    have H2 := Lib.hid h2; clear h2
    have h3a : (f.src == f.dst) = false := by simpa [bne] using h3
    have h4a : decide (f.seq < 1) = true := by simp at h4 ⊢; omega
    have st := St.start w
    go_enter Try.func11, Try.ntmps11
    go_wp2_with (first | go_skip | (with_reducible refine at_box 29 ?_; refine mem_box st (wanted_none rfl) 29 _ rfl _ rfl _ rfl ?_; clear st; intro g1 w1 hg1 st hg1b; clear hg1b; simp [Act.eval, Act.put, Value.cells, putL] at st) | (with_reducible refine at_load 3 ?_; (first | refine mem_load' st 3 _ rfl (wanted_none rfl) Try.isAgg3 ?_ | (refine mem_load' st 3 _ rfl (wanted_some rfl ?_) Try.isAgg3 ?_; focus (simp [yielded, Act.put]; done))); refine ⟨0, _, _, _, _, _, rfl, rfl, rfl, ?_⟩) | (with_reducible refine at_load 4 ?_; (first | refine mem_load' st 4 _ rfl (wanted_none rfl) Try.isAgg4 ?_ | (refine mem_load' st 4 _ rfl (wanted_some rfl ?_) Try.isAgg4 ?_; focus (simp [yielded, Act.put]; done))); refine ⟨0, _, _, _, _, _, rfl, rfl, rfl, ?_⟩) | (go_at_call 27; refine (wire_host _ _).mono ?_; rintro e v ⟨rfl, rfl⟩; first | rw [H1.out] | rw [H2.out]))
    go_ret
    exact ⟨rfl, st.below⟩
  · clear h
    have H1 := Lib.hid h1; clear h1
    have H2 := Lib.hid h2; clear h2
    have h3a : (f.src == f.dst) = false := by simpa [bne] using h3
    have h4a : decide (f.seq < 1) = false := by simp at h4 ⊢; omega
    have h5a : decide (1099511627776 < f.seq) = true := by simp at h5 ⊢; omega
    have st := St.start w
    go_enter Try.func11, Try.ntmps11
    go_wp2_with (first | go_skip | (with_reducible refine at_box 29 ?_; refine mem_box st (wanted_none rfl) 29 _ rfl _ rfl _ rfl ?_; clear st; intro g1 w1 hg1 st hg1b; clear hg1b; simp [Act.eval, Act.put, Value.cells, putL] at st) | (with_reducible refine at_load 3 ?_; (first | refine mem_load' st 3 _ rfl (wanted_none rfl) Try.isAgg3 ?_ | (refine mem_load' st 3 _ rfl (wanted_some rfl ?_) Try.isAgg3 ?_; focus (simp [yielded, Act.put]; done))); refine ⟨0, _, _, _, _, _, rfl, rfl, rfl, ?_⟩) | (with_reducible refine at_load 4 ?_; (first | refine mem_load' st 4 _ rfl (wanted_none rfl) Try.isAgg4 ?_ | (refine mem_load' st 4 _ rfl (wanted_some rfl ?_) Try.isAgg4 ?_; focus (simp [yielded, Act.put]; done))); refine ⟨0, _, _, _, _, _, rfl, rfl, rfl, ?_⟩) | (go_at_call 27; refine (wire_host _ _).mono ?_; rintro e v ⟨rfl, rfl⟩; first | rw [H1.out] | rw [H2.out]))
    go_ret
    exact ⟨rfl, st.below⟩
  · clear h
    have H1 := Lib.hid h1; clear h1
    have H2 := Lib.hid h2; clear h2
    have h3a : (f.src == f.dst) = false := by simpa [bne] using h3
    have h4a : decide (f.seq < 1) = false := by simp at h4 ⊢; omega
    have h5a : decide (1099511627776 < f.seq) = false := by simp at h5 ⊢; omega
    have H6 := Lib.hid h6; clear h6
    have st := St.start w
    go_enter Try.func11, Try.ntmps11
    go_wp2_with (first | go_skip | (with_reducible refine at_box 29 ?_; refine mem_box st (wanted_none rfl) 29 _ rfl _ rfl _ rfl ?_; clear st; intro g1 w1 hg1 st hg1b; clear hg1b; simp [Act.eval, Act.put, Value.cells, putL] at st) | (with_reducible refine at_load 3 ?_; (first | refine mem_load' st 3 _ rfl (wanted_none rfl) Try.isAgg3 ?_ | (refine mem_load' st 3 _ rfl (wanted_some rfl ?_) Try.isAgg3 ?_; focus (simp [yielded, Act.put]; done))); refine ⟨0, _, _, _, _, _, rfl, rfl, rfl, ?_⟩) | (with_reducible refine at_load 4 ?_; (first | refine mem_load' st 4 _ rfl (wanted_none rfl) Try.isAgg4 ?_ | (refine mem_load' st 4 _ rfl (wanted_some rfl ?_) Try.isAgg4 ?_; focus (simp [yielded, Act.put]; done))); refine ⟨0, _, _, _, _, _, rfl, rfl, rfl, ?_⟩) | (go_at_call 27; refine (wire_host _ _).mono ?_; rintro e v ⟨rfl, rfl⟩; first | rw [H1.out] | rw [H2.out]) | (go_at_call 28; refine (wire_thread _ _).mono ?_; rintro e v ⟨rfl, rfl⟩; rw [H6.out]))
    go_ret
    exact ⟨rfl, st.below⟩
  · simp [h1, h2, h3, h4, h5, h6] at h

set_option maxHeartbeats 3200000 in
theorem wire_Good_ack (ok : Nat → Prop) (w : World) (f : Frame) (la : Option Addr) (lc : Nat) (ga : Option Addr) (gc : Nat) (ca : Option Addr) (cc : Nat) (hf : f.FitsW) (hR : FrameR ok w f la lc ga gc ca cc) (h : frameRange f = true) (hk : f.ack = true) :
    Calls Try.prog 11 #[frameV f la lc ga gc ca cc] w fun e w' => e = .returned (.int .i64 (ackC f)) ∧ Below w.heap.size w w' := by
  unfold frameV
  obtain ⟨f1, f2, f3, f4⟩ := hf
  obtain ⟨⟨hA, hB⟩, hC⟩ := hR
  rw [hk]; clear hk
  unfold frameRange at h
  simp only [Bool.and_eq_true] at h
  obtain ⟨⟨⟨⟨⟨h1, h2⟩, h3⟩, h4⟩, h5⟩, h6⟩ := h
  have h3a : (f.src == f.dst) = false := by simpa [bne] using h3
  have h4a : decide (f.seq < 1) = false := by simp at h4 ⊢; omega
  have h5a : decide (1099511627776 < f.seq) = false := by simp at h5 ⊢; omega
  have H1 := Lib.hid h1; have H2 := Lib.hid h2; have H6 := Lib.hid h6
  clear h1 h2 h3 h4 h5 h6
  have HK := ackPlain_bne f
  have s1 : f.mail.label.length ≤ 9223372036854775807 := by omega
  rcases chain4n (f.thread != 0) (f.mail.host != 0) (f.mail.thread != 0) (decide (0 < f.mail.label.length + f.mail.grants.length + f.mail.text.size + f.certs.length)) with k1 | ⟨k1, k2⟩ | ⟨k1, k2, k3⟩ | ⟨k1, k2, k3, k4⟩ | ⟨k1, k2, k3, k4⟩
  · simp only [k1] at HK
    have HE := Lib.hid (show ackC f = 1 by unfold ackC; rw [HK]; simp)
    clear HK
    have st := St.start w
    go_enter Try.func11, Try.ntmps11
    go_wp2_with (first | go_skip | (with_reducible refine at_box 29 ?_; refine mem_box st (wanted_none rfl) 29 _ rfl _ rfl _ rfl ?_; clear st; intro g1 w1 hg1 st hg1b; clear hg1b; simp [Act.eval, Act.put, Value.cells, putL] at st) | (with_reducible refine at_load 3 ?_; (first | refine mem_load' st 3 _ rfl (wanted_none rfl) Try.isAgg3 ?_ | (refine mem_load' st 3 _ rfl (wanted_some rfl ?_) Try.isAgg3 ?_; focus (simp [yielded, Act.put]; done))); refine ⟨0, _, _, _, _, _, rfl, rfl, rfl, ?_⟩) | (with_reducible refine at_load 4 ?_; (first | refine mem_load' st 4 _ rfl (wanted_none rfl) Try.isAgg4 ?_ | (refine mem_load' st 4 _ rfl (wanted_some rfl ?_) Try.isAgg4 ?_; focus (simp [yielded, Act.put]; done))); refine ⟨0, _, _, _, _, _, rfl, rfl, rfl, ?_⟩) | (with_reducible refine at_load 3 ?_; (first | refine mem_load' st 3 _ rfl (wanted_none rfl) Try.isAgg3 ?_ | (refine mem_load' st 3 _ rfl (wanted_some rfl ?_) Try.isAgg3 ?_; focus (simp [yielded, Act.put]; done))); refine ⟨1, _, _, _, _, _, rfl, rfl, rfl, ?_⟩) | (with_reducible refine at_load 23 ?_; (first | refine mem_load' st 23 _ rfl (wanted_none rfl) Try.isAgg23 ?_ | (refine mem_load' st 23 _ rfl (wanted_some rfl ?_) Try.isAgg23 ?_; focus (simp [yielded, Act.put]; done))); refine ⟨1, _, _, _, _, _, rfl, rfl, rfl, ?_⟩) | (with_reducible refine at_load 24 ?_; (first | refine mem_load' st 24 _ rfl (wanted_none rfl) Try.isAgg24 ?_ | (refine mem_load' st 24 _ rfl (wanted_some rfl ?_) Try.isAgg24 ?_; focus (simp [yielded, Act.put]; done))); refine ⟨1, _, _, _, _, _, rfl, rfl, rfl, ?_⟩) | (with_reducible refine at_load 9 ?_; (first | refine mem_load' st 9 _ rfl (wanted_none rfl) Try.isAgg9 ?_ | (refine mem_load' st 9 _ rfl (wanted_some rfl ?_) Try.isAgg9 ?_; focus (simp [yielded, Act.put]; done))); refine ⟨1, _, _, _, _, _, rfl, rfl, rfl, ?_⟩) | (with_reducible refine at_load 27 ?_; (first | refine mem_load' st 27 _ rfl (wanted_none rfl) Try.isAgg27 ?_ | (refine mem_load' st 27 _ rfl (wanted_some rfl ?_) Try.isAgg27 ?_; focus (simp [yielded, Act.put]; done))); refine ⟨0, _, _, _, _, _, rfl, rfl, rfl, ?_⟩) | (with_reducible refine at_load 26 ?_; (first | refine mem_load_agg' st 26 _ rfl (wanted_none rfl) Try.isAgg26 _ Try.sizeOf26 ?_ | (refine mem_load_agg' st 26 _ rfl (wanted_some rfl ?_) Try.isAgg26 _ Try.sizeOf26 ?_; focus (simp [yielded, Act.put]; done))); refine ⟨0, _, _, _, _, _, rfl, rfl, rfl, rfl, ?_⟩) | (with_reducible refine at_alloc 26 ?_; refine mem_alloc st (wanted_none rfl) 26 rfl _ Try.zeroValue26 _ rfl ?_; clear st; intro g3 w3 hg3 st hg3b; clear hg3b; simp [Act.eval, Act.put, Value.cells, putL] at st) | (with_reducible refine at_store 26 ?_; (first | refine mem_store' st 26 _ _ rfl (wanted_none rfl) _ Try.sizeOf26 ?_ | (refine mem_store' st 26 _ _ rfl (wanted_some rfl ?_) _ Try.sizeOf26 ?_; focus (simp [yielded, Act.put]; done))); refine ⟨1, _, _, _, _, _, rfl, rfl, rfl, rfl, rfl, rfl, ?_⟩; clear st; intro w4 st hw4m hw4z; simp [Act.eval, Act.put, Value.cells, putL] at st) | (go_at_call 27; refine (wire_host _ _).mono ?_; rintro e v ⟨rfl, rfl⟩; first | rw [H1.out] | rw [H2.out]) | (go_at_call 28; refine (wire_thread _ _).mono ?_; rintro e v ⟨rfl, rfl⟩; rw [H6.out]))
    go_ret
    exact ⟨by rw [HE.out]; rfl, st.below⟩
  · simp only [k1, k2] at HK
    have HE := Lib.hid (show ackC f = 1 by unfold ackC; rw [HK]; simp)
    clear HK
    have st := St.start w
    go_enter Try.func11, Try.ntmps11
    go_wp2_with (first | go_skip | (with_reducible refine at_box 29 ?_; refine mem_box st (wanted_none rfl) 29 _ rfl _ rfl _ rfl ?_; clear st; intro g1 w1 hg1 st hg1b; clear hg1b; simp [Act.eval, Act.put, Value.cells, putL] at st) | (with_reducible refine at_load 3 ?_; (first | refine mem_load' st 3 _ rfl (wanted_none rfl) Try.isAgg3 ?_ | (refine mem_load' st 3 _ rfl (wanted_some rfl ?_) Try.isAgg3 ?_; focus (simp [yielded, Act.put]; done))); refine ⟨0, _, _, _, _, _, rfl, rfl, rfl, ?_⟩) | (with_reducible refine at_load 4 ?_; (first | refine mem_load' st 4 _ rfl (wanted_none rfl) Try.isAgg4 ?_ | (refine mem_load' st 4 _ rfl (wanted_some rfl ?_) Try.isAgg4 ?_; focus (simp [yielded, Act.put]; done))); refine ⟨0, _, _, _, _, _, rfl, rfl, rfl, ?_⟩) | (with_reducible refine at_load 3 ?_; (first | refine mem_load' st 3 _ rfl (wanted_none rfl) Try.isAgg3 ?_ | (refine mem_load' st 3 _ rfl (wanted_some rfl ?_) Try.isAgg3 ?_; focus (simp [yielded, Act.put]; done))); refine ⟨1, _, _, _, _, _, rfl, rfl, rfl, ?_⟩) | (with_reducible refine at_load 23 ?_; (first | refine mem_load' st 23 _ rfl (wanted_none rfl) Try.isAgg23 ?_ | (refine mem_load' st 23 _ rfl (wanted_some rfl ?_) Try.isAgg23 ?_; focus (simp [yielded, Act.put]; done))); refine ⟨1, _, _, _, _, _, rfl, rfl, rfl, ?_⟩) | (with_reducible refine at_load 24 ?_; (first | refine mem_load' st 24 _ rfl (wanted_none rfl) Try.isAgg24 ?_ | (refine mem_load' st 24 _ rfl (wanted_some rfl ?_) Try.isAgg24 ?_; focus (simp [yielded, Act.put]; done))); refine ⟨1, _, _, _, _, _, rfl, rfl, rfl, ?_⟩) | (with_reducible refine at_load 9 ?_; (first | refine mem_load' st 9 _ rfl (wanted_none rfl) Try.isAgg9 ?_ | (refine mem_load' st 9 _ rfl (wanted_some rfl ?_) Try.isAgg9 ?_; focus (simp [yielded, Act.put]; done))); refine ⟨1, _, _, _, _, _, rfl, rfl, rfl, ?_⟩) | (with_reducible refine at_load 27 ?_; (first | refine mem_load' st 27 _ rfl (wanted_none rfl) Try.isAgg27 ?_ | (refine mem_load' st 27 _ rfl (wanted_some rfl ?_) Try.isAgg27 ?_; focus (simp [yielded, Act.put]; done))); refine ⟨0, _, _, _, _, _, rfl, rfl, rfl, ?_⟩) | (with_reducible refine at_load 26 ?_; (first | refine mem_load_agg' st 26 _ rfl (wanted_none rfl) Try.isAgg26 _ Try.sizeOf26 ?_ | (refine mem_load_agg' st 26 _ rfl (wanted_some rfl ?_) Try.isAgg26 _ Try.sizeOf26 ?_; focus (simp [yielded, Act.put]; done))); refine ⟨0, _, _, _, _, _, rfl, rfl, rfl, rfl, ?_⟩) | (with_reducible refine at_alloc 26 ?_; refine mem_alloc st (wanted_none rfl) 26 rfl _ Try.zeroValue26 _ rfl ?_; clear st; intro g3 w3 hg3 st hg3b; clear hg3b; simp [Act.eval, Act.put, Value.cells, putL] at st) | (with_reducible refine at_store 26 ?_; (first | refine mem_store' st 26 _ _ rfl (wanted_none rfl) _ Try.sizeOf26 ?_ | (refine mem_store' st 26 _ _ rfl (wanted_some rfl ?_) _ Try.sizeOf26 ?_; focus (simp [yielded, Act.put]; done))); refine ⟨1, _, _, _, _, _, rfl, rfl, rfl, rfl, rfl, rfl, ?_⟩; clear st; intro w4 st hw4m hw4z; simp [Act.eval, Act.put, Value.cells, putL] at st) | (go_at_call 27; refine (wire_host _ _).mono ?_; rintro e v ⟨rfl, rfl⟩; first | rw [H1.out] | rw [H2.out]) | (go_at_call 28; refine (wire_thread _ _).mono ?_; rintro e v ⟨rfl, rfl⟩; rw [H6.out]))
    go_ret
    exact ⟨by rw [HE.out]; rfl, st.below⟩
  · simp only [k1, k2, k3] at HK
    have HE := Lib.hid (show ackC f = 1 by unfold ackC; rw [HK]; simp)
    clear HK
    have st := St.start w
    go_enter Try.func11, Try.ntmps11
    go_wp2_with (first | go_skip | (with_reducible refine at_box 29 ?_; refine mem_box st (wanted_none rfl) 29 _ rfl _ rfl _ rfl ?_; clear st; intro g1 w1 hg1 st hg1b; clear hg1b; simp [Act.eval, Act.put, Value.cells, putL] at st) | (with_reducible refine at_load 3 ?_; (first | refine mem_load' st 3 _ rfl (wanted_none rfl) Try.isAgg3 ?_ | (refine mem_load' st 3 _ rfl (wanted_some rfl ?_) Try.isAgg3 ?_; focus (simp [yielded, Act.put]; done))); refine ⟨0, _, _, _, _, _, rfl, rfl, rfl, ?_⟩) | (with_reducible refine at_load 4 ?_; (first | refine mem_load' st 4 _ rfl (wanted_none rfl) Try.isAgg4 ?_ | (refine mem_load' st 4 _ rfl (wanted_some rfl ?_) Try.isAgg4 ?_; focus (simp [yielded, Act.put]; done))); refine ⟨0, _, _, _, _, _, rfl, rfl, rfl, ?_⟩) | (with_reducible refine at_load 3 ?_; (first | refine mem_load' st 3 _ rfl (wanted_none rfl) Try.isAgg3 ?_ | (refine mem_load' st 3 _ rfl (wanted_some rfl ?_) Try.isAgg3 ?_; focus (simp [yielded, Act.put]; done))); refine ⟨1, _, _, _, _, _, rfl, rfl, rfl, ?_⟩) | (with_reducible refine at_load 23 ?_; (first | refine mem_load' st 23 _ rfl (wanted_none rfl) Try.isAgg23 ?_ | (refine mem_load' st 23 _ rfl (wanted_some rfl ?_) Try.isAgg23 ?_; focus (simp [yielded, Act.put]; done))); refine ⟨1, _, _, _, _, _, rfl, rfl, rfl, ?_⟩) | (with_reducible refine at_load 24 ?_; (first | refine mem_load' st 24 _ rfl (wanted_none rfl) Try.isAgg24 ?_ | (refine mem_load' st 24 _ rfl (wanted_some rfl ?_) Try.isAgg24 ?_; focus (simp [yielded, Act.put]; done))); refine ⟨1, _, _, _, _, _, rfl, rfl, rfl, ?_⟩) | (with_reducible refine at_load 9 ?_; (first | refine mem_load' st 9 _ rfl (wanted_none rfl) Try.isAgg9 ?_ | (refine mem_load' st 9 _ rfl (wanted_some rfl ?_) Try.isAgg9 ?_; focus (simp [yielded, Act.put]; done))); refine ⟨1, _, _, _, _, _, rfl, rfl, rfl, ?_⟩) | (with_reducible refine at_load 27 ?_; (first | refine mem_load' st 27 _ rfl (wanted_none rfl) Try.isAgg27 ?_ | (refine mem_load' st 27 _ rfl (wanted_some rfl ?_) Try.isAgg27 ?_; focus (simp [yielded, Act.put]; done))); refine ⟨0, _, _, _, _, _, rfl, rfl, rfl, ?_⟩) | (with_reducible refine at_load 26 ?_; (first | refine mem_load_agg' st 26 _ rfl (wanted_none rfl) Try.isAgg26 _ Try.sizeOf26 ?_ | (refine mem_load_agg' st 26 _ rfl (wanted_some rfl ?_) Try.isAgg26 _ Try.sizeOf26 ?_; focus (simp [yielded, Act.put]; done))); refine ⟨0, _, _, _, _, _, rfl, rfl, rfl, rfl, ?_⟩) | (with_reducible refine at_alloc 26 ?_; refine mem_alloc st (wanted_none rfl) 26 rfl _ Try.zeroValue26 _ rfl ?_; clear st; intro g3 w3 hg3 st hg3b; clear hg3b; simp [Act.eval, Act.put, Value.cells, putL] at st) | (with_reducible refine at_store 26 ?_; (first | refine mem_store' st 26 _ _ rfl (wanted_none rfl) _ Try.sizeOf26 ?_ | (refine mem_store' st 26 _ _ rfl (wanted_some rfl ?_) _ Try.sizeOf26 ?_; focus (simp [yielded, Act.put]; done))); refine ⟨1, _, _, _, _, _, rfl, rfl, rfl, rfl, rfl, rfl, ?_⟩; clear st; intro w4 st hw4m hw4z; simp [Act.eval, Act.put, Value.cells, putL] at st) | (go_at_call 27; refine (wire_host _ _).mono ?_; rintro e v ⟨rfl, rfl⟩; first | rw [H1.out] | rw [H2.out]) | (go_at_call 28; refine (wire_thread _ _).mono ?_; rintro e v ⟨rfl, rfl⟩; rw [H6.out]))
    go_ret
    exact ⟨by rw [HE.out]; rfl, st.below⟩
  · simp only [k1, k2, k3, k4] at HK
    have HE := Lib.hid (show ackC f = 1 by unfold ackC; rw [HK]; simp)
    have k4a : decide ((0 : Int) < (f.mail.label.length : Int) + f.mail.grants.length + f.mail.text.size + f.certs.length) = true := decide_eq_true (by have := of_decide_eq_true k4; omega)
    clear HK
    have st := St.start w
    go_enter Try.func11, Try.ntmps11
    go_wp2_with (first | go_skip | (with_reducible refine at_box 29 ?_; refine mem_box st (wanted_none rfl) 29 _ rfl _ rfl _ rfl ?_; clear st; intro g1 w1 hg1 st hg1b; clear hg1b; simp [Act.eval, Act.put, Value.cells, putL] at st) | (with_reducible refine at_load 3 ?_; (first | refine mem_load' st 3 _ rfl (wanted_none rfl) Try.isAgg3 ?_ | (refine mem_load' st 3 _ rfl (wanted_some rfl ?_) Try.isAgg3 ?_; focus (simp [yielded, Act.put]; done))); refine ⟨0, _, _, _, _, _, rfl, rfl, rfl, ?_⟩) | (with_reducible refine at_load 4 ?_; (first | refine mem_load' st 4 _ rfl (wanted_none rfl) Try.isAgg4 ?_ | (refine mem_load' st 4 _ rfl (wanted_some rfl ?_) Try.isAgg4 ?_; focus (simp [yielded, Act.put]; done))); refine ⟨0, _, _, _, _, _, rfl, rfl, rfl, ?_⟩) | (with_reducible refine at_load 3 ?_; (first | refine mem_load' st 3 _ rfl (wanted_none rfl) Try.isAgg3 ?_ | (refine mem_load' st 3 _ rfl (wanted_some rfl ?_) Try.isAgg3 ?_; focus (simp [yielded, Act.put]; done))); refine ⟨1, _, _, _, _, _, rfl, rfl, rfl, ?_⟩) | (with_reducible refine at_load 23 ?_; (first | refine mem_load' st 23 _ rfl (wanted_none rfl) Try.isAgg23 ?_ | (refine mem_load' st 23 _ rfl (wanted_some rfl ?_) Try.isAgg23 ?_; focus (simp [yielded, Act.put]; done))); refine ⟨1, _, _, _, _, _, rfl, rfl, rfl, ?_⟩) | (with_reducible refine at_load 24 ?_; (first | refine mem_load' st 24 _ rfl (wanted_none rfl) Try.isAgg24 ?_ | (refine mem_load' st 24 _ rfl (wanted_some rfl ?_) Try.isAgg24 ?_; focus (simp [yielded, Act.put]; done))); refine ⟨1, _, _, _, _, _, rfl, rfl, rfl, ?_⟩) | (with_reducible refine at_load 9 ?_; (first | refine mem_load' st 9 _ rfl (wanted_none rfl) Try.isAgg9 ?_ | (refine mem_load' st 9 _ rfl (wanted_some rfl ?_) Try.isAgg9 ?_; focus (simp [yielded, Act.put]; done))); refine ⟨1, _, _, _, _, _, rfl, rfl, rfl, ?_⟩) | (with_reducible refine at_load 27 ?_; (first | refine mem_load' st 27 _ rfl (wanted_none rfl) Try.isAgg27 ?_ | (refine mem_load' st 27 _ rfl (wanted_some rfl ?_) Try.isAgg27 ?_; focus (simp [yielded, Act.put]; done))); refine ⟨0, _, _, _, _, _, rfl, rfl, rfl, ?_⟩) | (with_reducible refine at_load 26 ?_; (first | refine mem_load_agg' st 26 _ rfl (wanted_none rfl) Try.isAgg26 _ Try.sizeOf26 ?_ | (refine mem_load_agg' st 26 _ rfl (wanted_some rfl ?_) Try.isAgg26 _ Try.sizeOf26 ?_; focus (simp [yielded, Act.put]; done))); refine ⟨0, _, _, _, _, _, rfl, rfl, rfl, rfl, ?_⟩) | (with_reducible refine at_alloc 26 ?_; refine mem_alloc st (wanted_none rfl) 26 rfl _ Try.zeroValue26 _ rfl ?_; clear st; intro g3 w3 hg3 st hg3b; clear hg3b; simp [Act.eval, Act.put, Value.cells, putL] at st) | (with_reducible refine at_store 26 ?_; (first | refine mem_store' st 26 _ _ rfl (wanted_none rfl) _ Try.sizeOf26 ?_ | (refine mem_store' st 26 _ _ rfl (wanted_some rfl ?_) _ Try.sizeOf26 ?_; focus (simp [yielded, Act.put]; done))); refine ⟨1, _, _, _, _, _, rfl, rfl, rfl, rfl, rfl, rfl, ?_⟩; clear st; intro w4 st hw4m hw4z; simp [Act.eval, Act.put, Value.cells, putL] at st) | (go_at_call 27; refine (wire_host _ _).mono ?_; rintro e v ⟨rfl, rfl⟩; first | rw [H1.out] | rw [H2.out]) | (go_at_call 28; refine (wire_thread _ _).mono ?_; rintro e v ⟨rfl, rfl⟩; rw [H6.out]))
    go_ret
    exact ⟨by rw [HE.out]; rfl, st.below⟩
  · simp only [k1, k2, k3, k4] at HK
    have HE := Lib.hid (show ackC f = 0 by unfold ackC; rw [HK]; simp)
    have k4a : decide ((0 : Int) < (f.mail.label.length : Int) + f.mail.grants.length + f.mail.text.size + f.certs.length) = false := decide_eq_false (by have := of_decide_eq_false k4; omega)
    clear HK
    have st := St.start w
    go_enter Try.func11, Try.ntmps11
    go_wp2_with (first | go_skip | (with_reducible refine at_box 29 ?_; refine mem_box st (wanted_none rfl) 29 _ rfl _ rfl _ rfl ?_; clear st; intro g1 w1 hg1 st hg1b; clear hg1b; simp [Act.eval, Act.put, Value.cells, putL] at st) | (with_reducible refine at_load 3 ?_; (first | refine mem_load' st 3 _ rfl (wanted_none rfl) Try.isAgg3 ?_ | (refine mem_load' st 3 _ rfl (wanted_some rfl ?_) Try.isAgg3 ?_; focus (simp [yielded, Act.put]; done))); refine ⟨0, _, _, _, _, _, rfl, rfl, rfl, ?_⟩) | (with_reducible refine at_load 4 ?_; (first | refine mem_load' st 4 _ rfl (wanted_none rfl) Try.isAgg4 ?_ | (refine mem_load' st 4 _ rfl (wanted_some rfl ?_) Try.isAgg4 ?_; focus (simp [yielded, Act.put]; done))); refine ⟨0, _, _, _, _, _, rfl, rfl, rfl, ?_⟩) | (with_reducible refine at_load 3 ?_; (first | refine mem_load' st 3 _ rfl (wanted_none rfl) Try.isAgg3 ?_ | (refine mem_load' st 3 _ rfl (wanted_some rfl ?_) Try.isAgg3 ?_; focus (simp [yielded, Act.put]; done))); refine ⟨1, _, _, _, _, _, rfl, rfl, rfl, ?_⟩) | (with_reducible refine at_load 23 ?_; (first | refine mem_load' st 23 _ rfl (wanted_none rfl) Try.isAgg23 ?_ | (refine mem_load' st 23 _ rfl (wanted_some rfl ?_) Try.isAgg23 ?_; focus (simp [yielded, Act.put]; done))); refine ⟨1, _, _, _, _, _, rfl, rfl, rfl, ?_⟩) | (with_reducible refine at_load 24 ?_; (first | refine mem_load' st 24 _ rfl (wanted_none rfl) Try.isAgg24 ?_ | (refine mem_load' st 24 _ rfl (wanted_some rfl ?_) Try.isAgg24 ?_; focus (simp [yielded, Act.put]; done))); refine ⟨1, _, _, _, _, _, rfl, rfl, rfl, ?_⟩) | (with_reducible refine at_load 9 ?_; (first | refine mem_load' st 9 _ rfl (wanted_none rfl) Try.isAgg9 ?_ | (refine mem_load' st 9 _ rfl (wanted_some rfl ?_) Try.isAgg9 ?_; focus (simp [yielded, Act.put]; done))); refine ⟨1, _, _, _, _, _, rfl, rfl, rfl, ?_⟩) | (with_reducible refine at_load 27 ?_; (first | refine mem_load' st 27 _ rfl (wanted_none rfl) Try.isAgg27 ?_ | (refine mem_load' st 27 _ rfl (wanted_some rfl ?_) Try.isAgg27 ?_; focus (simp [yielded, Act.put]; done))); refine ⟨0, _, _, _, _, _, rfl, rfl, rfl, ?_⟩) | (with_reducible refine at_load 26 ?_; (first | refine mem_load_agg' st 26 _ rfl (wanted_none rfl) Try.isAgg26 _ Try.sizeOf26 ?_ | (refine mem_load_agg' st 26 _ rfl (wanted_some rfl ?_) Try.isAgg26 _ Try.sizeOf26 ?_; focus (simp [yielded, Act.put]; done))); refine ⟨0, _, _, _, _, _, rfl, rfl, rfl, rfl, ?_⟩) | (with_reducible refine at_alloc 26 ?_; refine mem_alloc st (wanted_none rfl) 26 rfl _ Try.zeroValue26 _ rfl ?_; clear st; intro g3 w3 hg3 st hg3b; clear hg3b; simp [Act.eval, Act.put, Value.cells, putL] at st) | (with_reducible refine at_store 26 ?_; (first | refine mem_store' st 26 _ _ rfl (wanted_none rfl) _ Try.sizeOf26 ?_ | (refine mem_store' st 26 _ _ rfl (wanted_some rfl ?_) _ Try.sizeOf26 ?_; focus (simp [yielded, Act.put]; done))); refine ⟨1, _, _, _, _, _, rfl, rfl, rfl, rfl, rfl, rfl, ?_⟩; clear st; intro w4 st hw4m hw4z; simp [Act.eval, Act.put, Value.cells, putL] at st) | (go_at_call 27; refine (wire_host _ _).mono ?_; rintro e v ⟨rfl, rfl⟩; first | rw [H1.out] | rw [H2.out]) | (go_at_call 28; refine (wire_thread _ _).mono ?_; rintro e v ⟨rfl, rfl⟩; rw [H6.out]))
    go_ret
    exact ⟨by rw [HE.out]; rfl, st.below⟩

set_option maxHeartbeats 3200000 in
theorem wire_Good_mail (ok : Nat → Prop) (w : World) (f : Frame) (la : Option Addr) (lc : Nat) (ga : Option Addr) (gc : Nat) (ca : Option Addr) (cc : Nat) (hf : f.FitsW) (hR : FrameR ok w f la lc ga gc ca cc) (h : frameRange f = true) (hk : f.ack = false) (hm : goodMailC f.mail ≠ 0) :
    Calls Try.prog 11 #[frameV f la lc ga gc ca cc] w fun e w' => e = .returned (.int .i64 (goodMailC f.mail)) ∧ Below w.heap.size w w' := by
  unfold frameV
  obtain ⟨f1, f2, f3, f4⟩ := hf
  obtain ⟨⟨hA, hB⟩, hC⟩ := hR
  rw [hk]; clear hk
  unfold frameRange at h
  simp only [Bool.and_eq_true] at h
  obtain ⟨⟨⟨⟨⟨h1, h2⟩, h3⟩, h4⟩, h5⟩, h6⟩ := h
  have h3a : (f.src == f.dst) = false := by simpa [bne] using h3
  have h4a : decide (f.seq < 1) = false := by simp at h4 ⊢; omega
  have h5a : decide (1099511627776 < f.seq) = false := by simp at h5 ⊢; omega
  have H1 := Lib.hid h1; have H2 := Lib.hid h2; have H6 := Lib.hid h6
  clear h1 h2 h3 h4 h5 h6
  generalize hq : goodMailC f.mail = q at hm ⊢
  have HM := Lib.hid hq
  have d1 : (q != 0) = true := by simpa using hm
  clear hq hm
  have st := St.start w
  go_enter Try.func11, Try.ntmps11
  go_wp2_with (first | go_skip | (with_reducible refine at_box 29 ?_; refine mem_box st (wanted_none rfl) 29 _ rfl _ rfl _ rfl ?_; clear st; intro g1 w1 hg1 st hg1b; clear hg1b; simp [Act.eval, Act.put, Value.cells, putL] at st) | (with_reducible refine at_load 3 ?_; (first | refine mem_load' st 3 _ rfl (wanted_none rfl) Try.isAgg3 ?_ | (refine mem_load' st 3 _ rfl (wanted_some rfl ?_) Try.isAgg3 ?_; focus (simp [yielded, Act.put]; done))); refine ⟨0, _, _, _, _, _, rfl, rfl, rfl, ?_⟩) | (with_reducible refine at_load 4 ?_; (first | refine mem_load' st 4 _ rfl (wanted_none rfl) Try.isAgg4 ?_ | (refine mem_load' st 4 _ rfl (wanted_some rfl ?_) Try.isAgg4 ?_; focus (simp [yielded, Act.put]; done))); refine ⟨0, _, _, _, _, _, rfl, rfl, rfl, ?_⟩) | (with_reducible refine at_load 26 ?_; (first | refine mem_load_agg' st 26 _ rfl (wanted_none rfl) Try.isAgg26 _ Try.sizeOf26 ?_ | (refine mem_load_agg' st 26 _ rfl (wanted_some rfl ?_) Try.isAgg26 _ Try.sizeOf26 ?_; focus (simp [yielded, Act.put]; done))); refine ⟨0, _, _, _, _, _, rfl, rfl, rfl, rfl, ?_⟩) | (with_reducible refine at_load 27 ?_; (first | refine mem_load' st 27 _ rfl (wanted_none rfl) Try.isAgg27 ?_ | (refine mem_load' st 27 _ rfl (wanted_some rfl ?_) Try.isAgg27 ?_; focus (simp [yielded, Act.put]; done))); refine ⟨0, _, _, _, _, _, rfl, rfl, rfl, ?_⟩) | (go_at_call 13; refine (wire_GoodMail ok _ f.mail la lc ga gc f1 f2 ⟨hA.below st.below, hB.below st.below⟩).mono ?_; rintro e v5 ⟨rfl, hb5⟩; rw [HM.out]; replace st := st.call hb5; clear hb5) | (go_at_call 27; refine (wire_host _ _).mono ?_; rintro e v ⟨rfl, rfl⟩; first | rw [H1.out] | rw [H2.out]) | (go_at_call 28; refine (wire_thread _ _).mono ?_; rintro e v ⟨rfl, rfl⟩; rw [H6.out]))
  go_ret
  exact ⟨rfl, st.below⟩

set_option maxHeartbeats 3200000 in
theorem wire_Good_host (ok : Nat → Prop) (w : World) (f : Frame) (la : Option Addr) (lc : Nat) (ga : Option Addr) (gc : Nat) (ca : Option Addr) (cc : Nat) (hf : f.FitsW) (hR : FrameR ok w f la lc ga gc ca cc) (h : frameRange f = true) (hk : f.ack = false) (hm : goodMailC f.mail = 0) (hh : f.mail.host ≠ f.src) :
    Calls Try.prog 11 #[frameV f la lc ga gc ca cc] w fun e w' => e = .returned (.int .i64 1) ∧ Below w.heap.size w w' := by
  unfold frameV
  obtain ⟨f1, f2, f3, f4⟩ := hf
  obtain ⟨⟨hA, hB⟩, hC⟩ := hR
  rw [hk]; clear hk
  unfold frameRange at h
  simp only [Bool.and_eq_true] at h
  obtain ⟨⟨⟨⟨⟨h1, h2⟩, h3⟩, h4⟩, h5⟩, h6⟩ := h
  have h3a : (f.src == f.dst) = false := by simpa [bne] using h3
  have h4a : decide (f.seq < 1) = false := by simp at h4 ⊢; omega
  have h5a : decide (1099511627776 < f.seq) = false := by simp at h5 ⊢; omega
  have H1 := Lib.hid h1; have H2 := Lib.hid h2; have H6 := Lib.hid h6
  clear h1 h2 h3 h4 h5 h6
  have HM := Lib.hid hm
  have d1 : (f.mail.host != f.src) = true := by simpa using hh
  clear hm hh
  have st := St.start w
  go_enter Try.func11, Try.ntmps11
  go_wp2_with (first | go_skip | (with_reducible refine at_box 29 ?_; refine mem_box st (wanted_none rfl) 29 _ rfl _ rfl _ rfl ?_; clear st; intro g1 w1 hg1 st hg1b; clear hg1b; simp [Act.eval, Act.put, Value.cells, putL] at st) | (with_reducible refine at_load 3 ?_; (first | refine mem_load' st 3 _ rfl (wanted_none rfl) Try.isAgg3 ?_ | (refine mem_load' st 3 _ rfl (wanted_some rfl ?_) Try.isAgg3 ?_; focus (simp [yielded, Act.put]; done))); refine ⟨0, _, _, _, _, _, rfl, rfl, rfl, ?_⟩) | (with_reducible refine at_load 4 ?_; (first | refine mem_load' st 4 _ rfl (wanted_none rfl) Try.isAgg4 ?_ | (refine mem_load' st 4 _ rfl (wanted_some rfl ?_) Try.isAgg4 ?_; focus (simp [yielded, Act.put]; done))); refine ⟨0, _, _, _, _, _, rfl, rfl, rfl, ?_⟩) | (with_reducible refine at_load 26 ?_; (first | refine mem_load_agg' st 26 _ rfl (wanted_none rfl) Try.isAgg26 _ Try.sizeOf26 ?_ | (refine mem_load_agg' st 26 _ rfl (wanted_some rfl ?_) Try.isAgg26 _ Try.sizeOf26 ?_; focus (simp [yielded, Act.put]; done))); refine ⟨0, _, _, _, _, _, rfl, rfl, rfl, rfl, ?_⟩) | (with_reducible refine at_load 27 ?_; (first | refine mem_load' st 27 _ rfl (wanted_none rfl) Try.isAgg27 ?_ | (refine mem_load' st 27 _ rfl (wanted_some rfl ?_) Try.isAgg27 ?_; focus (simp [yielded, Act.put]; done))); refine ⟨0, _, _, _, _, _, rfl, rfl, rfl, ?_⟩) | (go_at_call 13; refine (wire_GoodMail ok _ f.mail la lc ga gc f1 f2 ⟨hA.below st.below, hB.below st.below⟩).mono ?_; rintro e v5 ⟨rfl, hb5⟩; rw [HM.out]; replace st := st.call hb5; clear hb5) | (go_at_call 27; refine (wire_host _ _).mono ?_; rintro e v ⟨rfl, rfl⟩; first | rw [H1.out] | rw [H2.out]) | (go_at_call 28; refine (wire_thread _ _).mono ?_; rintro e v ⟨rfl, rfl⟩; rw [H6.out]))
  go_ret
  exact ⟨rfl, st.below⟩

set_option maxHeartbeats 3200000 in
theorem wire_Good_full (ok : Nat → Prop) (w : World) (f : Frame) (la : Option Addr) (lc : Nat) (ga : Option Addr) (gc : Nat) (ca : Option Addr) (cc : Nat) (hf : f.FitsW) (hR : FrameR ok w f la lc ga gc ca cc) (h : frameRange f = true) (hk : f.ack = false) (hm : goodMailC f.mail = 0) (hh : f.mail.host = f.src) (h24 : 24 < f.certs.length) :
    Calls Try.prog 11 #[frameV f la lc ga gc ca cc] w fun e w' => e = .returned (.int .i64 5) ∧ Below w.heap.size w w' := by
  unfold frameV
  obtain ⟨f1, f2, f3, f4⟩ := hf
  obtain ⟨⟨hA, hB⟩, hC⟩ := hR
  rw [hk]; clear hk
  unfold frameRange at h
  simp only [Bool.and_eq_true] at h
  obtain ⟨⟨⟨⟨⟨h1, h2⟩, h3⟩, h4⟩, h5⟩, h6⟩ := h
  have h3a : (f.src == f.dst) = false := by simpa [bne] using h3
  have h4a : decide (f.seq < 1) = false := by simp at h4 ⊢; omega
  have h5a : decide (1099511627776 < f.seq) = false := by simp at h5 ⊢; omega
  have H1 := Lib.hid h1; have H2 := Lib.hid h2; have H6 := Lib.hid h6
  clear h1 h2 h3 h4 h5 h6
  have HM := Lib.hid hm
  have d1 : (f.mail.host != f.src) = false := by simpa using hh
  clear hm hh
  have d2 : decide ((24 : Int) < f.certs.length) = true := by simp; omega
  have st := St.start w
  go_enter Try.func11, Try.ntmps11
  go_wp2_with (first | go_skip | (with_reducible refine at_box 29 ?_; refine mem_box st (wanted_none rfl) 29 _ rfl _ rfl _ rfl ?_; clear st; intro g1 w1 hg1 st hg1b; clear hg1b; simp [Act.eval, Act.put, Value.cells, putL] at st) | (with_reducible refine at_load 3 ?_; (first | refine mem_load' st 3 _ rfl (wanted_none rfl) Try.isAgg3 ?_ | (refine mem_load' st 3 _ rfl (wanted_some rfl ?_) Try.isAgg3 ?_; focus (simp [yielded, Act.put]; done))); refine ⟨0, _, _, _, _, _, rfl, rfl, rfl, ?_⟩) | (with_reducible refine at_load 4 ?_; (first | refine mem_load' st 4 _ rfl (wanted_none rfl) Try.isAgg4 ?_ | (refine mem_load' st 4 _ rfl (wanted_some rfl ?_) Try.isAgg4 ?_; focus (simp [yielded, Act.put]; done))); refine ⟨0, _, _, _, _, _, rfl, rfl, rfl, ?_⟩) | (with_reducible refine at_load 26 ?_; (first | refine mem_load_agg' st 26 _ rfl (wanted_none rfl) Try.isAgg26 _ Try.sizeOf26 ?_ | (refine mem_load_agg' st 26 _ rfl (wanted_some rfl ?_) Try.isAgg26 _ Try.sizeOf26 ?_; focus (simp [yielded, Act.put]; done))); refine ⟨0, _, _, _, _, _, rfl, rfl, rfl, rfl, ?_⟩) | (with_reducible refine at_load 27 ?_; (first | refine mem_load' st 27 _ rfl (wanted_none rfl) Try.isAgg27 ?_ | (refine mem_load' st 27 _ rfl (wanted_some rfl ?_) Try.isAgg27 ?_; focus (simp [yielded, Act.put]; done))); refine ⟨0, _, _, _, _, _, rfl, rfl, rfl, ?_⟩) | (go_at_call 13; refine (wire_GoodMail ok _ f.mail la lc ga gc f1 f2 ⟨hA.below st.below, hB.below st.below⟩).mono ?_; rintro e v5 ⟨rfl, hb5⟩; rw [HM.out]; replace st := st.call hb5; clear hb5) | (go_at_call 27; refine (wire_host _ _).mono ?_; rintro e v ⟨rfl, rfl⟩; first | rw [H1.out] | rw [H2.out]) | (go_at_call 28; refine (wire_thread _ _).mono ?_; rintro e v ⟨rfl, rfl⟩; rw [H6.out]))
  go_ret
  exact ⟨rfl, st.below⟩

theorem all_step {l : List Cert} {k : Nat} (h : k < l.length) : (l.drop k).all goodCertB = (goodCertB l[k] && (l.drop (k + 1)).all goodCertB) := by
  rw [List.drop_eq_getElem_cons h, List.all_cons]

set_option maxHeartbeats 3200000 in
theorem wire_Good_certs (ok : Nat → Prop) (w : World) (f : Frame) (la : Option Addr) (lc : Nat) (ga : Option Addr) (gc : Nat) (ca : Option Addr) (cc : Nat) (hf : f.FitsW) (hR : FrameR ok w f la lc ga gc ca cc) (h : frameRange f = true) (hk : f.ack = false) (hm : goodMailC f.mail = 0) (hh : f.mail.host = f.src) (h24 : f.certs.length ≤ 24) :
    Calls Try.prog 11 #[frameV f la lc ga gc ca cc] w fun e w' => e = .returned (.int .i64 (certsC f)) ∧ Below w.heap.size w w' := by
  unfold frameV
  obtain ⟨f1, f2, f3, f4⟩ := hf
  obtain ⟨⟨hA, hB⟩, hC⟩ := hR
  rw [hk]; clear hk
  unfold frameRange at h
  simp only [Bool.and_eq_true] at h
  obtain ⟨⟨⟨⟨⟨h1, h2⟩, h3⟩, h4⟩, h5⟩, h6⟩ := h
  have h3a : (f.src == f.dst) = false := by simpa [bne] using h3
  have h4a : decide (f.seq < 1) = false := by simp at h4 ⊢; omega
  have h5a : decide (1099511627776 < f.seq) = false := by simp at h5 ⊢; omega
  have H1 := Lib.hid h1; have H2 := Lib.hid h2; have H6 := Lib.hid h6
  clear h1 h2 h3 h4 h5 h6
  have HM := Lib.hid hm
  have d1 : (f.mail.host != f.src) = false := by simpa using hh
  clear hm hh
  have d2 : decide ((24 : Int) < f.certs.length) = false := by simp; omega
  have E0 := Lib.hid (show f.certs.all goodCertB = (f.certs.drop 0).all goodCertB by rw [List.drop_zero])
  have st := St.start w
  go_enter Try.func11, Try.ntmps11
  go_wp2_with (first | go_skip | (with_reducible refine at_box 29 ?_; refine mem_box st (wanted_none rfl) 29 _ rfl _ rfl _ rfl ?_; clear st; intro g1 w1 hg1 st hg1b; clear hg1b; simp [Act.eval, Act.put, Value.cells, putL] at st) | (with_reducible refine at_load 3 ?_; (first | refine mem_load' st 3 _ rfl (wanted_none rfl) Try.isAgg3 ?_ | (refine mem_load' st 3 _ rfl (wanted_some rfl ?_) Try.isAgg3 ?_; focus (simp [yielded, Act.put]; done))); refine ⟨0, _, _, _, _, _, rfl, rfl, rfl, ?_⟩) | (with_reducible refine at_load 4 ?_; (first | refine mem_load' st 4 _ rfl (wanted_none rfl) Try.isAgg4 ?_ | (refine mem_load' st 4 _ rfl (wanted_some rfl ?_) Try.isAgg4 ?_; focus (simp [yielded, Act.put]; done))); refine ⟨0, _, _, _, _, _, rfl, rfl, rfl, ?_⟩) | (with_reducible refine at_load 26 ?_; (first | refine mem_load_agg' st 26 _ rfl (wanted_none rfl) Try.isAgg26 _ Try.sizeOf26 ?_ | (refine mem_load_agg' st 26 _ rfl (wanted_some rfl ?_) Try.isAgg26 _ Try.sizeOf26 ?_; focus (simp [yielded, Act.put]; done))); refine ⟨0, _, _, _, _, _, rfl, rfl, rfl, rfl, ?_⟩) | (with_reducible refine at_load 27 ?_; (first | refine mem_load' st 27 _ rfl (wanted_none rfl) Try.isAgg27 ?_ | (refine mem_load' st 27 _ rfl (wanted_some rfl ?_) Try.isAgg27 ?_; focus (simp [yielded, Act.put]; done))); refine ⟨0, _, _, _, _, _, rfl, rfl, rfl, ?_⟩) | (go_at_call 13; refine (wire_GoodMail ok _ f.mail la lc ga gc f1 f2 ⟨hA.below st.below, hB.below st.below⟩).mono ?_; rintro e v5 ⟨rfl, hb5⟩; rw [HM.out]; replace st := st.call hb5; clear hb5) | (go_at_call 27; refine (wire_host _ _).mono ?_; rintro e v ⟨rfl, rfl⟩; first | rw [H1.out] | rw [H2.out]) | (go_at_call 28; refine (wire_thread _ _).mono ?_; rintro e v ⟨rfl, rfl⟩; rw [H6.out]))
  replace hC := hC.below st.below
  have st0 := st
  clear st hA hB HM H1 H2 H6 d1 d2 h3a h4a h5a
  go_loopw [94] (fun i wr => ∃ k : Nat, k ≤ f.certs.length ∧ i = .int .i64 k ∧ Below v5.heap.size v5 wr ∧ Hid (f.certs.all goodCertB = (f.certs.drop k).all goodCertB)) (fun i _ => f.certs.length - (intOf i).toNat)
  case atStart => exact ⟨0, Nat.zero_le _, rfl, Below.refl _ _, E0⟩
  case round =>
    obtain ⟨k, hk, rfl, hBk, hI⟩ := hrel
    have st := st0.call hBk
    by_cases hlt : k < f.certs.length
    · obtain ⟨b, o, rfl, hb, c1, c2, c3, c4⟩ := (hC.below hBk).cert_at k hlt
      have hs := all_step hlt
      have str := st
      replace st := st.rebase
      cases hg : goodCertB f.certs[k]
      all_goals
        have HG := Lib.hid hg
        have HS := Lib.hid hs
        clear hg hs st0
        go_wp2_with (first | go_skip | (with_reducible refine at_alloc 39 ?_; refine mem_alloc st (wanted_none rfl) 39 rfl _ Try.zeroValue39 _ rfl ?_; clear st; intro g6 w6 hg6 st hg6b; clear hg6b; simp [Act.eval, Act.put, Value.cells, putL] at st) | (with_reducible refine at_store 39 ?_; (first | refine mem_store' st 39 _ _ rfl (wanted_none rfl) _ Try.sizeOf39 ?_ | (refine mem_store' st 39 _ _ rfl (wanted_some rfl ?_) _ Try.sizeOf39 ?_; focus (simp [yielded, Act.put]; done))); refine ⟨1, _, _, _, _, _, rfl, rfl, rfl, rfl, rfl, rfl, ?_⟩; clear st; intro w7 st hw7m hw7z; simp [Act.eval, Act.put, Value.cells, putL] at st) | (with_reducible refine at_load 39 ?_; (first | refine mem_load_agg' st 39 _ rfl (wanted_none rfl) Try.isAgg39 _ Try.sizeOf39 ?_ | (refine mem_load_agg' st 39 _ rfl (wanted_some rfl ?_) Try.isAgg39 _ Try.sizeOf39 ?_; focus (simp [yielded, Act.put]; done))); refine ⟨1, _, _, _, _, _, rfl, rfl, rfl, rfl, ?_⟩) | (go_at_call 16; refine (wire_GoodCert f.certs[k] _).mono ?_; rintro e v8 ⟨rfl, hb8⟩; rw [HG.out]; replace st := st.call hb8; clear hb8))
      · go_ret
        have e : certsC f = 2 := by unfold certsC; rw [hI.out, HS.out, HG.out]; rfl
        exact ⟨by rw [e]; rfl, str.below.keep (str.below2 st (by simp))⟩
      · go_roundw
        case rel => exact ⟨k + 1, hlt, by go_num, hBk.keep (str.below2 st (by simp)), by rw [hI.out, HS.out, HG.out]; rfl⟩
        case measure => simp [intOf]; omega
    · go_wp2_with fail
      go_ret
      have e : certsC f = 0 := by unfold certsC; rw [hI.out, List.drop_of_length_le (by omega)]; rfl
      exact ⟨by rw [e]; rfl, st.below⟩

theorem wire_Good (ok : Nat → Prop) (w : World) (f : Frame) (la : Option Addr) (lc : Nat) (ga : Option Addr) (gc : Nat) (ca : Option Addr) (cc : Nat) (hf : f.FitsW) (hR : FrameR ok w f la lc ga gc ca cc) :
    Calls Try.prog 11 #[frameV f la lc ga gc ca cc] w fun e w' => e = .returned (.int .i64 (goodFrameC f)) ∧ Below w.heap.size w w' := by
  unfold goodFrameC
  by_cases h : frameRange f = true
  · rw [if_pos h]
    by_cases hk : f.ack = true
    · rw [if_pos hk]; exact wire_Good_ack ok w f la lc ga gc ca cc hf hR h hk
    · rw [if_neg hk]
      replace hk : f.ack = false := by simpa using hk
      by_cases hm : goodMailC f.mail ≠ 0
      · rw [if_pos hm]; exact wire_Good_mail ok w f la lc ga gc ca cc hf hR h hk hm
      · rw [if_neg hm]
        replace hm : goodMailC f.mail = 0 := Classical.not_not.1 hm
        by_cases hh : f.mail.host ≠ f.src
        · rw [if_pos hh]; exact wire_Good_host ok w f la lc ga gc ca cc hf hR h hk hm hh
        · rw [if_neg hh]
          replace hh : f.mail.host = f.src := Classical.not_not.1 hh
          by_cases h24 : 24 < f.certs.length
          · rw [if_pos h24]; exact wire_Good_full ok w f la lc ga gc ca cc hf hR h hk hm hh h24
          · rw [if_neg h24]; exact wire_Good_certs ok w f la lc ga gc ca cc hf hR h hk hm hh (by omega)
  · rw [if_neg h]
    exact wire_Good_range ok w f la lc ga gc ca cc hf hR (by simpa using h)


end Go.Proofs.Ytemjnojfhbbapaa

/- The walk through wire.Encode. -/
namespace Go.Proofs.Ytemjnojfhbbapaa
open Go.RowKit

set_option maxRecDepth 100000 in
set_option maxHeartbeats 1600000 in
theorem wire_Encode_bad (ok : Nat → Prop) (w : World) (f : Frame) (la : Option Addr) (lc : Nat) (ga : Option Addr) (gc : Nat) (ca : Option Addr) (cc : Nat) (hf : f.FitsW) (hR : FrameR ok w f la lc ga gc ca cc) (h : goodFrameC f ≠ 0) :
    Calls Try.prog 8 #[frameV f la lc ga gc ca cc] w fun e w' => e = .returned (.tuple #[.string ⟨#[]⟩, .int .i64 (goodFrameC f)]) ∧ Below w.heap.size w w' := by
  have HG := Lib.hid (fun (W : World) (hW : FrameR ok W f la lc ga gc ca cc) => wire_Good ok W f la lc ga gc ca cc hf hW)
  generalize goodFrameC f = q at h HG ⊢
  have d1 : (q != 0) = true := by simpa using h
  clear h
  unfold frameV at *
  have st := St.start w
  go_enter Try.func8, Try.ntmps8
  go_wp2_with (first | go_skip | (with_reducible refine at_box 29 ?_; refine mem_box st (wanted_none rfl) 29 _ rfl _ rfl _ rfl ?_; clear st; intro g1 w1 hg1 st hg1b; clear hg1b; simp [Act.eval, Act.put, Value.cells, putL] at st) | (with_reducible refine at_load 29 ?_; (first | refine mem_load_agg' st 29 _ rfl (wanted_none rfl) Try.isAgg29 _ Try.sizeOf29 ?_ | (refine mem_load_agg' st 29 _ rfl (wanted_some rfl ?_) Try.isAgg29 _ Try.sizeOf29 ?_; focus (simp [yielded, Act.put]; done))); refine ⟨0, _, _, _, _, _, rfl, rfl, rfl, rfl, ?_⟩) | (go_at_call 11; refine (HG.out _ (hR.below st.below)).mono ?_; rintro e v2 ⟨rfl, hb2⟩; replace st := st.call hb2; clear hb2))
  go_ret2
  exact ⟨rfl, st.below⟩

set_option maxRecDepth 100000 in
set_option maxHeartbeats 1600000 in
theorem wire_Encode_ack (ok : Nat → Prop) (w : World) (f : Frame) (la : Option Addr) (lc : Nat) (ga : Option Addr) (gc : Nat) (ca : Option Addr) (cc : Nat) (hf : f.FitsW) (hR : FrameR ok w f la lc ga gc ca cc) (h : goodFrameC f = 0) (hk : f.ack = true) :
    Calls Try.prog 8 #[frameV f la lc ga gc ca cc] w fun e w' => e = .returned (.tuple #[.string ⟨(encL f).toArray⟩, .int .i64 0]) ∧ Below w.heap.size w w' := by
  obtain ⟨⟨s1, s2⟩, ⟨s3, s4⟩, _, ⟨s5, s6⟩, _⟩ := good_facts h
  have HG := Lib.hid (fun (W : World) (hW : FrameR ok W f la lc ga gc ca cc) => wire_Good ok W f la lc ga gc ca cc hf hW)
  have HK := Lib.hid hk
  have HE := Lib.hid (show encL f = 1 :: ([b1 f.src, b1 f.dst] ++ be f.seq 6) by unfold encL; rw [if_pos hk]; rfl)
  rw [h] at HG
  have hk1 : Value.bool f.ack = .bool true := by rw [hk]
  clear h hk
  unfold frameV at *
  rw [hk1] at HG ⊢
  clear hk1
  have st := St.start w
  go_enter Try.func8, Try.ntmps8
  go_wp2_with (first
    | go_skip | (with_reducible refine at_box 29 ?_; refine mem_box st (wanted_none rfl) 29 _ rfl _ rfl _ rfl ?_; clear st; intro g1 w1 hg1 st hg1b; clear hg1b; simp [Act.eval, Act.put, Value.cells, putL] at st) | (with_reducible refine at_load 29 ?_; (first | refine mem_load_agg' st 29 _ rfl (wanted_none rfl) Try.isAgg29 _ Try.sizeOf29 ?_ | (refine mem_load_agg' st 29 _ rfl (wanted_some rfl ?_) Try.isAgg29 _ Try.sizeOf29 ?_; focus (simp [yielded, Act.put]; done))); refine ⟨0, _, _, _, _, _, rfl, rfl, rfl, rfl, ?_⟩) | (with_reducible refine at_load 3 ?_; (first | refine mem_load' st 3 _ rfl (wanted_none rfl) Try.isAgg3 ?_ | (refine mem_load' st 3 _ rfl (wanted_some rfl ?_) Try.isAgg3 ?_; focus (simp [yielded, Act.put]; done))); refine ⟨0, _, _, _, _, _, rfl, rfl, rfl, ?_⟩) | (with_reducible refine at_load 4 ?_; (first | refine mem_load' st 4 _ rfl (wanted_none rfl) Try.isAgg4 ?_ | (refine mem_load' st 4 _ rfl (wanted_some rfl ?_) Try.isAgg4 ?_; focus (simp [yielded, Act.put]; done))); refine ⟨0, _, _, _, _, _, rfl, rfl, rfl, ?_⟩)
    | (go_at_call 11; refine (HG.out _ (hR.below st.below)).mono ?_; rintro e v2 ⟨rfl, hb2⟩; replace st := st.call hb2; clear hb2)
    | (refine wpList_buildU3 st (wanted_none rfl) 48 5 _ _ _ rfl Try.underlying48 Try.sizeOf5 Try.zeroValue5 _ _ _ rfl rfl rfl ?_; have stw4 := st; clear st; intro g4 w4 hg4 hg4e st hg4b hg4z; clear hg4e; simp [Act.eval, Act.put, Value.cells, putL] at st))
  have hO4 : Own w.heap.size 5 w4 1 RU8 (some ⟨g4, 0, none⟩) 3 [0, b1 f.src, b1 f.dst] := Own.bytesBlk [0, b1 f.src, b1 f.dst] (st.blk _ (List.mem_of_getElem? (i := 1) rfl)) (by simp only [List.map, b1]; rw [← byteV_eq s1 (by omega), ← byteV_eq s3 (by omega)]; rfl) hg4 (by simp [maxLen])
  replace st := st.sub (own' := [(g1, 29, [.int .i64 f.src, .int .i64 f.dst, .int .i64 f.seq, .bool true, .int .i64 f.thread, .int .i64 f.mail.host, .int .i64 f.mail.thread, .slice la f.mail.label.length lc, .slice ga f.mail.grants.length gc, .string f.mail.text, .slice ca f.certs.length cc])]) (by simp) (by simp)
  refine (wire_put w.heap.size _ _ _ [0, b1 f.src, b1 f.dst] f.seq (by omega) (by omega) (by simp) st.size hO4).mono ?_
  rintro e v5 ⟨g5, c5, rfl, hO5, hg5, _⟩
  replace st := st.buf hO4 (Nat.le_refl _) hg5 (by simp)
  clear hO4 hg5
  have hc0 : v5.cell? ⟨g5, 0, none⟩ = some (.int .u8 0) := hO5.byteCell 0 (by simp)
  have hf0 := hO5.byteFree 0
  obtain ⟨hO6, hg6⟩ := hO5.set 0 1
  have st6 := st.buf hO5 (Nat.le_refl _) hg6 (by simp)
  have hcv := hO6.string (P := Try.prog) 48 9 5 Try.underlying48 Try.underlying5 Try.underlying9
  have e6 : ([0, b1 f.src, b1 f.dst] ++ be f.seq 6).set 0 1 = encL f := by rw [HE.out]; rfl
  have e7 : (([0, b1 f.src, b1 f.dst] ++ be f.seq 6).set 0 1).length = 9 := by simp [be_length]
  rw [e7, e6] at hcv
  replace hcv : (convert 48 9 (.slice (some ⟨g5, 0, none⟩) 9 c5)).run Try.prog (v5.setCell ⟨g5, 0, none⟩ (.int .u8 1)) = .ok (.string ⟨(encL f).toArray⟩) (v5.setCell ⟨g5, 0, none⟩ (.int .u8 1)) := hcv
  clear hO5 hO6 hg6 e6 e7 HE
  simp only [List.length_cons, List.length_nil, Nat.zero_add, Nat.reduceAdd]
  go_wp2_with (first | go_skip | (with_reducible refine at_load 4 ?_; (first | refine mem_load' st 4 _ rfl (wanted_none rfl) Try.isAgg4 ?_ | (refine mem_load' st 4 _ rfl (wanted_some rfl ?_) Try.isAgg4 ?_; focus (simp [yielded, Act.put]; done))); refine ⟨0, _, _, _, _, _, rfl, rfl, rfl, ?_⟩))
  go_ret2
  exact ⟨rfl, st6.below⟩

end Go.Proofs.Ytemjnojfhbbapaa

/- The walks through the library's clones of lists, and line's wait. -/
namespace Go.Proofs.Ytemjnojfhbbapaa
open Go.RowKit

end Go.Proofs.Ytemjnojfhbbapaa

/- The walk through line.Send. -/
namespace Go.Proofs.Ytemjnojfhbbapaa
open Go.RowKit

/-- A frame of nothing, as a value. -/
def frameZ : Value := .agg #[.int .i64 0, .int .i64 0, .int .i64 0, .bool false, .int .i64 0, .int .i64 0, .int .i64 0, .slice none 0 0, .slice none 0 0, .string ⟨#[]⟩, .slice none 0 0]

end Go.Proofs.Ytemjnojfhbbapaa

/- parcloseref.SameMail at two mails of any kind. -/
namespace Go.Proofs.Ytemjnojfhbbapaa
open Go.RowKit

set_option maxRecDepth 100000 in
set_option maxHeartbeats 2000000 in
theorem ref_SameMail_dec (ok ok' : Nat → Prop) (w : World) (m n : Mail) (la : Option Addr) (lc : Nat) (ga : Option Addr) (gc : Nat) (la' : Option Addr) (lc' : Nat) (ga' : Option Addr) (gc' : Nat) (h : MailR ok w m la lc ga gc) (h' : MailR ok' w n la' lc' ga' gc') :
    Calls Try.prog 30 #[mailV m la lc ga gc, mailV n la' lc' ga' gc'] w fun e w' => e = .returned (.bool (decide (m = n))) ∧ Below w.heap.size w w' := by
  obtain ⟨hL, hG⟩ := h
  obtain ⟨hL', hG'⟩ := h'
  have HL := Lib.hid (fun (W : World) (hb : Below w.heap.size w W) => ref_SameLabel ok ok' W la lc la' lc' m.label n.label (hL.below hb) (hL'.below hb))
  have HG := Lib.hid (fun (W : World) (hb : Below w.heap.size w W) => ref_SameNumbers ok ok' W ga gc ga' gc' m.grants n.grants (hG.below hb) (hG'.below hb))
  clear hL hG hL' hG'
  obtain ⟨m1, m2, m3, m4, m5⟩ := m
  obtain ⟨n1, n2, n3, n4, n5⟩ := n
  have HX := Lib.hid (show decide ((⟨m1, m2, m3, m4, m5⟩ : Mail) = ⟨n1, n2, n3, n4, n5⟩) = (decide (m1 = n1) && decide (m2 = n2) && decide (m3 = n3) && decide (m4 = n4) && decide (m5 = n5)) by
    rw [Bool.eq_iff_iff]; simp [and_assoc])
  simp only at HL HG
  generalize hb4 : decide (m3 = n3) = b4 at HX HL
  generalize hb5 : decide (m4 = n4) = b5 at HX HG
  have H4 := Lib.hid hb4
  have H5 := Lib.hid hb5
  clear hb4 hb5
  unfold mailV
  have st := St.start w
  by_cases e1 : m1 = n1
  · have d1 : (m1 == n1) = true := by simpa using e1
    by_cases e2 : m2 = n2
    · have d2 : (m2 == n2) = true := by simpa using e2
      by_cases e3 : m5 = n5
      · cases b4
        · have HE := Lib.hid (show decide ((⟨m1, m2, m3, m4, m5⟩ : Mail) = ⟨n1, n2, n3, n4, n5⟩) = false by rw [HX.out, decide_eq_true e1, decide_eq_true e2]; rfl)
          clear e1 e2
          subst e3
          go_enter Try.func30, Try.ntmps30
          go_wp2_with (first
            | go_skip | (refine mem_box st (wanted_none rfl) _ _ rfl _ rfl _ rfl ?_; clear st; intro g wx hgx st hbx; clear hgx hbx; simp [Act.eval, Act.put, Value.cells, putL] at st) | (with_reducible refine at_alloc 26 ?_; refine mem_alloc st (wanted_none rfl) 26 rfl _ Try.zeroValue26 _ rfl ?_; clear st; intro g wx hgx st hbx; clear hgx hbx; simp [Act.eval, Act.put, Value.cells, putL] at st) | (with_reducible refine at_alloc 3 ?_; refine mem_alloc st (wanted_none rfl) 3 rfl _ Try.zeroValue3 _ rfl ?_; clear st; intro g wx hgx st hbx; clear hgx hbx; simp [Act.eval, Act.put, Value.cells, putL] at st) | (with_reducible refine at_alloc 9 ?_; refine mem_alloc st (wanted_none rfl) 9 rfl _ Try.zeroValue9 _ rfl ?_; clear st; intro g wx hgx st hbx; clear hgx hbx; simp [Act.eval, Act.put, Value.cells, putL] at st) | (with_reducible refine at_alloc 23 ?_; refine mem_alloc st (wanted_none rfl) 23 rfl _ Try.zeroValue23 _ rfl ?_; clear st; intro g wx hgx st hbx; clear hgx hbx; simp [Act.eval, Act.put, Value.cells, putL] at st) | (with_reducible refine at_alloc 24 ?_; refine mem_alloc st (wanted_none rfl) 24 rfl _ Try.zeroValue24 _ rfl ?_; clear st; intro g wx hgx st hbx; clear hgx hbx; simp [Act.eval, Act.put, Value.cells, putL] at st) | (with_reducible refine at_load 26 ?_; (first | refine mem_load_agg' st 26 _ rfl (wanted_none rfl) Try.isAgg26 _ Try.sizeOf26 ?_ | (refine mem_load_agg' st 26 _ rfl (wanted_some rfl ?_) Try.isAgg26 _ Try.sizeOf26 ?_; focus (simp [yielded, Act.put]; done))); (first | (refine ⟨0, _, _, _, _, _, rfl, rfl, rfl, rfl, ?_⟩) | (refine ⟨1, _, _, _, _, _, rfl, rfl, rfl, rfl, ?_⟩) | (refine ⟨2, _, _, _, _, _, rfl, rfl, rfl, rfl, ?_⟩) | (refine ⟨3, _, _, _, _, _, rfl, rfl, rfl, rfl, ?_⟩) | (refine ⟨4, _, _, _, _, _, rfl, rfl, rfl, rfl, ?_⟩) | (refine ⟨5, _, _, _, _, _, rfl, rfl, rfl, rfl, ?_⟩) | (refine ⟨6, _, _, _, _, _, rfl, rfl, rfl, rfl, ?_⟩) | (refine ⟨7, _, _, _, _, _, rfl, rfl, rfl, rfl, ?_⟩))) | (with_reducible refine at_load 3 ?_; (first | refine mem_load' st 3 _ rfl (wanted_none rfl) Try.isAgg3 ?_ | (refine mem_load' st 3 _ rfl (wanted_some rfl ?_) Try.isAgg3 ?_; focus (simp [yielded, Act.put]; done))); (first | (refine ⟨0, _, _, _, _, _, rfl, rfl, rfl, ?_⟩) | (refine ⟨1, _, _, _, _, _, rfl, rfl, rfl, ?_⟩) | (refine ⟨2, _, _, _, _, _, rfl, rfl, rfl, ?_⟩) | (refine ⟨3, _, _, _, _, _, rfl, rfl, rfl, ?_⟩) | (refine ⟨4, _, _, _, _, _, rfl, rfl, rfl, ?_⟩) | (refine ⟨5, _, _, _, _, _, rfl, rfl, rfl, ?_⟩) | (refine ⟨6, _, _, _, _, _, rfl, rfl, rfl, ?_⟩) | (refine ⟨7, _, _, _, _, _, rfl, rfl, rfl, ?_⟩))) | (with_reducible refine at_load 9 ?_; (first | refine mem_load' st 9 _ rfl (wanted_none rfl) Try.isAgg9 ?_ | (refine mem_load' st 9 _ rfl (wanted_some rfl ?_) Try.isAgg9 ?_; focus (simp [yielded, Act.put]; done))); (first | (refine ⟨0, _, _, _, _, _, rfl, rfl, rfl, ?_⟩) | (refine ⟨1, _, _, _, _, _, rfl, rfl, rfl, ?_⟩) | (refine ⟨2, _, _, _, _, _, rfl, rfl, rfl, ?_⟩) | (refine ⟨3, _, _, _, _, _, rfl, rfl, rfl, ?_⟩) | (refine ⟨4, _, _, _, _, _, rfl, rfl, rfl, ?_⟩) | (refine ⟨5, _, _, _, _, _, rfl, rfl, rfl, ?_⟩) | (refine ⟨6, _, _, _, _, _, rfl, rfl, rfl, ?_⟩) | (refine ⟨7, _, _, _, _, _, rfl, rfl, rfl, ?_⟩))) | (with_reducible refine at_load 23 ?_; (first | refine mem_load' st 23 _ rfl (wanted_none rfl) Try.isAgg23 ?_ | (refine mem_load' st 23 _ rfl (wanted_some rfl ?_) Try.isAgg23 ?_; focus (simp [yielded, Act.put]; done))); (first | (refine ⟨0, _, _, _, _, _, rfl, rfl, rfl, ?_⟩) | (refine ⟨1, _, _, _, _, _, rfl, rfl, rfl, ?_⟩) | (refine ⟨2, _, _, _, _, _, rfl, rfl, rfl, ?_⟩) | (refine ⟨3, _, _, _, _, _, rfl, rfl, rfl, ?_⟩) | (refine ⟨4, _, _, _, _, _, rfl, rfl, rfl, ?_⟩) | (refine ⟨5, _, _, _, _, _, rfl, rfl, rfl, ?_⟩) | (refine ⟨6, _, _, _, _, _, rfl, rfl, rfl, ?_⟩) | (refine ⟨7, _, _, _, _, _, rfl, rfl, rfl, ?_⟩))) | (with_reducible refine at_load 24 ?_; (first | refine mem_load' st 24 _ rfl (wanted_none rfl) Try.isAgg24 ?_ | (refine mem_load' st 24 _ rfl (wanted_some rfl ?_) Try.isAgg24 ?_; focus (simp [yielded, Act.put]; done))); (first | (refine ⟨0, _, _, _, _, _, rfl, rfl, rfl, ?_⟩) | (refine ⟨1, _, _, _, _, _, rfl, rfl, rfl, ?_⟩) | (refine ⟨2, _, _, _, _, _, rfl, rfl, rfl, ?_⟩) | (refine ⟨3, _, _, _, _, _, rfl, rfl, rfl, ?_⟩) | (refine ⟨4, _, _, _, _, _, rfl, rfl, rfl, ?_⟩) | (refine ⟨5, _, _, _, _, _, rfl, rfl, rfl, ?_⟩) | (refine ⟨6, _, _, _, _, _, rfl, rfl, rfl, ?_⟩) | (refine ⟨7, _, _, _, _, _, rfl, rfl, rfl, ?_⟩))) | (with_reducible refine at_store 26 ?_; (first | refine mem_store' st 26 _ _ rfl (wanted_none rfl) _ Try.sizeOf26 ?_ | (refine mem_store' st 26 _ _ rfl (wanted_some rfl ?_) _ Try.sizeOf26 ?_; focus (simp [yielded, Act.put]; done))); (first | (refine ⟨0, _, _, _, _, _, rfl, rfl, rfl, rfl, rfl, rfl, ?_⟩) | (refine ⟨1, _, _, _, _, _, rfl, rfl, rfl, rfl, rfl, rfl, ?_⟩) | (refine ⟨2, _, _, _, _, _, rfl, rfl, rfl, rfl, rfl, rfl, ?_⟩) | (refine ⟨3, _, _, _, _, _, rfl, rfl, rfl, rfl, rfl, rfl, ?_⟩) | (refine ⟨4, _, _, _, _, _, rfl, rfl, rfl, rfl, rfl, rfl, ?_⟩) | (refine ⟨5, _, _, _, _, _, rfl, rfl, rfl, rfl, rfl, rfl, ?_⟩) | (refine ⟨6, _, _, _, _, _, rfl, rfl, rfl, rfl, rfl, rfl, ?_⟩) | (refine ⟨7, _, _, _, _, _, rfl, rfl, rfl, rfl, rfl, rfl, ?_⟩)); clear st; intro wx st _ _; simp [Act.eval, Act.put, Value.cells, putL] at st) | (with_reducible refine at_store 3 ?_; (first | refine mem_store' st 3 _ _ rfl (wanted_none rfl) _ Try.sizeOf3 ?_ | (refine mem_store' st 3 _ _ rfl (wanted_some rfl ?_) _ Try.sizeOf3 ?_; focus (simp [yielded, Act.put]; done))); (first | (refine ⟨0, _, _, _, _, _, rfl, rfl, rfl, rfl, rfl, rfl, ?_⟩) | (refine ⟨1, _, _, _, _, _, rfl, rfl, rfl, rfl, rfl, rfl, ?_⟩) | (refine ⟨2, _, _, _, _, _, rfl, rfl, rfl, rfl, rfl, rfl, ?_⟩) | (refine ⟨3, _, _, _, _, _, rfl, rfl, rfl, rfl, rfl, rfl, ?_⟩) | (refine ⟨4, _, _, _, _, _, rfl, rfl, rfl, rfl, rfl, rfl, ?_⟩) | (refine ⟨5, _, _, _, _, _, rfl, rfl, rfl, rfl, rfl, rfl, ?_⟩) | (refine ⟨6, _, _, _, _, _, rfl, rfl, rfl, rfl, rfl, rfl, ?_⟩) | (refine ⟨7, _, _, _, _, _, rfl, rfl, rfl, rfl, rfl, rfl, ?_⟩)); clear st; intro wx st _ _; simp [Act.eval, Act.put, Value.cells, putL] at st) | (with_reducible refine at_store 9 ?_; (first | refine mem_store' st 9 _ _ rfl (wanted_none rfl) _ Try.sizeOf9 ?_ | (refine mem_store' st 9 _ _ rfl (wanted_some rfl ?_) _ Try.sizeOf9 ?_; focus (simp [yielded, Act.put]; done))); (first | (refine ⟨0, _, _, _, _, _, rfl, rfl, rfl, rfl, rfl, rfl, ?_⟩) | (refine ⟨1, _, _, _, _, _, rfl, rfl, rfl, rfl, rfl, rfl, ?_⟩) | (refine ⟨2, _, _, _, _, _, rfl, rfl, rfl, rfl, rfl, rfl, ?_⟩) | (refine ⟨3, _, _, _, _, _, rfl, rfl, rfl, rfl, rfl, rfl, ?_⟩) | (refine ⟨4, _, _, _, _, _, rfl, rfl, rfl, rfl, rfl, rfl, ?_⟩) | (refine ⟨5, _, _, _, _, _, rfl, rfl, rfl, rfl, rfl, rfl, ?_⟩) | (refine ⟨6, _, _, _, _, _, rfl, rfl, rfl, rfl, rfl, rfl, ?_⟩) | (refine ⟨7, _, _, _, _, _, rfl, rfl, rfl, rfl, rfl, rfl, ?_⟩)); clear st; intro wx st _ _; simp [Act.eval, Act.put, Value.cells, putL] at st) | (with_reducible refine at_store 23 ?_; (first | refine mem_store' st 23 _ _ rfl (wanted_none rfl) _ Try.sizeOf23 ?_ | (refine mem_store' st 23 _ _ rfl (wanted_some rfl ?_) _ Try.sizeOf23 ?_; focus (simp [yielded, Act.put]; done))); (first | (refine ⟨0, _, _, _, _, _, rfl, rfl, rfl, rfl, rfl, rfl, ?_⟩) | (refine ⟨1, _, _, _, _, _, rfl, rfl, rfl, rfl, rfl, rfl, ?_⟩) | (refine ⟨2, _, _, _, _, _, rfl, rfl, rfl, rfl, rfl, rfl, ?_⟩) | (refine ⟨3, _, _, _, _, _, rfl, rfl, rfl, rfl, rfl, rfl, ?_⟩) | (refine ⟨4, _, _, _, _, _, rfl, rfl, rfl, rfl, rfl, rfl, ?_⟩) | (refine ⟨5, _, _, _, _, _, rfl, rfl, rfl, rfl, rfl, rfl, ?_⟩) | (refine ⟨6, _, _, _, _, _, rfl, rfl, rfl, rfl, rfl, rfl, ?_⟩) | (refine ⟨7, _, _, _, _, _, rfl, rfl, rfl, rfl, rfl, rfl, ?_⟩)); clear st; intro wx st _ _; simp [Act.eval, Act.put, Value.cells, putL] at st) | (with_reducible refine at_store 24 ?_; (first | refine mem_store' st 24 _ _ rfl (wanted_none rfl) _ Try.sizeOf24 ?_ | (refine mem_store' st 24 _ _ rfl (wanted_some rfl ?_) _ Try.sizeOf24 ?_; focus (simp [yielded, Act.put]; done))); (first | (refine ⟨0, _, _, _, _, _, rfl, rfl, rfl, rfl, rfl, rfl, ?_⟩) | (refine ⟨1, _, _, _, _, _, rfl, rfl, rfl, rfl, rfl, rfl, ?_⟩) | (refine ⟨2, _, _, _, _, _, rfl, rfl, rfl, rfl, rfl, rfl, ?_⟩) | (refine ⟨3, _, _, _, _, _, rfl, rfl, rfl, rfl, rfl, rfl, ?_⟩) | (refine ⟨4, _, _, _, _, _, rfl, rfl, rfl, rfl, rfl, rfl, ?_⟩) | (refine ⟨5, _, _, _, _, _, rfl, rfl, rfl, rfl, rfl, rfl, ?_⟩) | (refine ⟨6, _, _, _, _, _, rfl, rfl, rfl, rfl, rfl, rfl, ?_⟩) | (refine ⟨7, _, _, _, _, _, rfl, rfl, rfl, rfl, rfl, rfl, ?_⟩)); clear st; intro wx st _ _; simp [Act.eval, Act.put, Value.cells, putL] at st)
            | (go_at_call 42; go_must (refine (HL.out _ st.below).mono ?_; rintro r v1 ⟨rfl, hb1⟩; replace st := st.call hb1; clear hb1))
            | (go_at_call 43; go_must (refine (HG.out _ st.below).mono ?_; rintro r v1 ⟨rfl, hb1⟩; replace st := st.call hb1; clear hb1)))
          go_ret
          exact ⟨by rw [HE.out]; rfl, st.below⟩
        · have HE := Lib.hid (show decide ((⟨m1, m2, m3, m4, m5⟩ : Mail) = ⟨n1, n2, n3, n4, n5⟩) = b5 by rw [HX.out, decide_eq_true e1, decide_eq_true e2, decide_eq_true e3]; simp)
          clear e1 e2
          subst e3
          go_enter Try.func30, Try.ntmps30
          go_wp2_with (first
            | go_skip | (refine mem_box st (wanted_none rfl) _ _ rfl _ rfl _ rfl ?_; clear st; intro g wx hgx st hbx; clear hgx hbx; simp [Act.eval, Act.put, Value.cells, putL] at st) | (with_reducible refine at_alloc 26 ?_; refine mem_alloc st (wanted_none rfl) 26 rfl _ Try.zeroValue26 _ rfl ?_; clear st; intro g wx hgx st hbx; clear hgx hbx; simp [Act.eval, Act.put, Value.cells, putL] at st) | (with_reducible refine at_alloc 3 ?_; refine mem_alloc st (wanted_none rfl) 3 rfl _ Try.zeroValue3 _ rfl ?_; clear st; intro g wx hgx st hbx; clear hgx hbx; simp [Act.eval, Act.put, Value.cells, putL] at st) | (with_reducible refine at_alloc 9 ?_; refine mem_alloc st (wanted_none rfl) 9 rfl _ Try.zeroValue9 _ rfl ?_; clear st; intro g wx hgx st hbx; clear hgx hbx; simp [Act.eval, Act.put, Value.cells, putL] at st) | (with_reducible refine at_alloc 23 ?_; refine mem_alloc st (wanted_none rfl) 23 rfl _ Try.zeroValue23 _ rfl ?_; clear st; intro g wx hgx st hbx; clear hgx hbx; simp [Act.eval, Act.put, Value.cells, putL] at st) | (with_reducible refine at_alloc 24 ?_; refine mem_alloc st (wanted_none rfl) 24 rfl _ Try.zeroValue24 _ rfl ?_; clear st; intro g wx hgx st hbx; clear hgx hbx; simp [Act.eval, Act.put, Value.cells, putL] at st) | (with_reducible refine at_load 26 ?_; (first | refine mem_load_agg' st 26 _ rfl (wanted_none rfl) Try.isAgg26 _ Try.sizeOf26 ?_ | (refine mem_load_agg' st 26 _ rfl (wanted_some rfl ?_) Try.isAgg26 _ Try.sizeOf26 ?_; focus (simp [yielded, Act.put]; done))); (first | (refine ⟨0, _, _, _, _, _, rfl, rfl, rfl, rfl, ?_⟩) | (refine ⟨1, _, _, _, _, _, rfl, rfl, rfl, rfl, ?_⟩) | (refine ⟨2, _, _, _, _, _, rfl, rfl, rfl, rfl, ?_⟩) | (refine ⟨3, _, _, _, _, _, rfl, rfl, rfl, rfl, ?_⟩) | (refine ⟨4, _, _, _, _, _, rfl, rfl, rfl, rfl, ?_⟩) | (refine ⟨5, _, _, _, _, _, rfl, rfl, rfl, rfl, ?_⟩) | (refine ⟨6, _, _, _, _, _, rfl, rfl, rfl, rfl, ?_⟩) | (refine ⟨7, _, _, _, _, _, rfl, rfl, rfl, rfl, ?_⟩))) | (with_reducible refine at_load 3 ?_; (first | refine mem_load' st 3 _ rfl (wanted_none rfl) Try.isAgg3 ?_ | (refine mem_load' st 3 _ rfl (wanted_some rfl ?_) Try.isAgg3 ?_; focus (simp [yielded, Act.put]; done))); (first | (refine ⟨0, _, _, _, _, _, rfl, rfl, rfl, ?_⟩) | (refine ⟨1, _, _, _, _, _, rfl, rfl, rfl, ?_⟩) | (refine ⟨2, _, _, _, _, _, rfl, rfl, rfl, ?_⟩) | (refine ⟨3, _, _, _, _, _, rfl, rfl, rfl, ?_⟩) | (refine ⟨4, _, _, _, _, _, rfl, rfl, rfl, ?_⟩) | (refine ⟨5, _, _, _, _, _, rfl, rfl, rfl, ?_⟩) | (refine ⟨6, _, _, _, _, _, rfl, rfl, rfl, ?_⟩) | (refine ⟨7, _, _, _, _, _, rfl, rfl, rfl, ?_⟩))) | (with_reducible refine at_load 9 ?_; (first | refine mem_load' st 9 _ rfl (wanted_none rfl) Try.isAgg9 ?_ | (refine mem_load' st 9 _ rfl (wanted_some rfl ?_) Try.isAgg9 ?_; focus (simp [yielded, Act.put]; done))); (first | (refine ⟨0, _, _, _, _, _, rfl, rfl, rfl, ?_⟩) | (refine ⟨1, _, _, _, _, _, rfl, rfl, rfl, ?_⟩) | (refine ⟨2, _, _, _, _, _, rfl, rfl, rfl, ?_⟩) | (refine ⟨3, _, _, _, _, _, rfl, rfl, rfl, ?_⟩) | (refine ⟨4, _, _, _, _, _, rfl, rfl, rfl, ?_⟩) | (refine ⟨5, _, _, _, _, _, rfl, rfl, rfl, ?_⟩) | (refine ⟨6, _, _, _, _, _, rfl, rfl, rfl, ?_⟩) | (refine ⟨7, _, _, _, _, _, rfl, rfl, rfl, ?_⟩))) | (with_reducible refine at_load 23 ?_; (first | refine mem_load' st 23 _ rfl (wanted_none rfl) Try.isAgg23 ?_ | (refine mem_load' st 23 _ rfl (wanted_some rfl ?_) Try.isAgg23 ?_; focus (simp [yielded, Act.put]; done))); (first | (refine ⟨0, _, _, _, _, _, rfl, rfl, rfl, ?_⟩) | (refine ⟨1, _, _, _, _, _, rfl, rfl, rfl, ?_⟩) | (refine ⟨2, _, _, _, _, _, rfl, rfl, rfl, ?_⟩) | (refine ⟨3, _, _, _, _, _, rfl, rfl, rfl, ?_⟩) | (refine ⟨4, _, _, _, _, _, rfl, rfl, rfl, ?_⟩) | (refine ⟨5, _, _, _, _, _, rfl, rfl, rfl, ?_⟩) | (refine ⟨6, _, _, _, _, _, rfl, rfl, rfl, ?_⟩) | (refine ⟨7, _, _, _, _, _, rfl, rfl, rfl, ?_⟩))) | (with_reducible refine at_load 24 ?_; (first | refine mem_load' st 24 _ rfl (wanted_none rfl) Try.isAgg24 ?_ | (refine mem_load' st 24 _ rfl (wanted_some rfl ?_) Try.isAgg24 ?_; focus (simp [yielded, Act.put]; done))); (first | (refine ⟨0, _, _, _, _, _, rfl, rfl, rfl, ?_⟩) | (refine ⟨1, _, _, _, _, _, rfl, rfl, rfl, ?_⟩) | (refine ⟨2, _, _, _, _, _, rfl, rfl, rfl, ?_⟩) | (refine ⟨3, _, _, _, _, _, rfl, rfl, rfl, ?_⟩) | (refine ⟨4, _, _, _, _, _, rfl, rfl, rfl, ?_⟩) | (refine ⟨5, _, _, _, _, _, rfl, rfl, rfl, ?_⟩) | (refine ⟨6, _, _, _, _, _, rfl, rfl, rfl, ?_⟩) | (refine ⟨7, _, _, _, _, _, rfl, rfl, rfl, ?_⟩))) | (with_reducible refine at_store 26 ?_; (first | refine mem_store' st 26 _ _ rfl (wanted_none rfl) _ Try.sizeOf26 ?_ | (refine mem_store' st 26 _ _ rfl (wanted_some rfl ?_) _ Try.sizeOf26 ?_; focus (simp [yielded, Act.put]; done))); (first | (refine ⟨0, _, _, _, _, _, rfl, rfl, rfl, rfl, rfl, rfl, ?_⟩) | (refine ⟨1, _, _, _, _, _, rfl, rfl, rfl, rfl, rfl, rfl, ?_⟩) | (refine ⟨2, _, _, _, _, _, rfl, rfl, rfl, rfl, rfl, rfl, ?_⟩) | (refine ⟨3, _, _, _, _, _, rfl, rfl, rfl, rfl, rfl, rfl, ?_⟩) | (refine ⟨4, _, _, _, _, _, rfl, rfl, rfl, rfl, rfl, rfl, ?_⟩) | (refine ⟨5, _, _, _, _, _, rfl, rfl, rfl, rfl, rfl, rfl, ?_⟩) | (refine ⟨6, _, _, _, _, _, rfl, rfl, rfl, rfl, rfl, rfl, ?_⟩) | (refine ⟨7, _, _, _, _, _, rfl, rfl, rfl, rfl, rfl, rfl, ?_⟩)); clear st; intro wx st _ _; simp [Act.eval, Act.put, Value.cells, putL] at st) | (with_reducible refine at_store 3 ?_; (first | refine mem_store' st 3 _ _ rfl (wanted_none rfl) _ Try.sizeOf3 ?_ | (refine mem_store' st 3 _ _ rfl (wanted_some rfl ?_) _ Try.sizeOf3 ?_; focus (simp [yielded, Act.put]; done))); (first | (refine ⟨0, _, _, _, _, _, rfl, rfl, rfl, rfl, rfl, rfl, ?_⟩) | (refine ⟨1, _, _, _, _, _, rfl, rfl, rfl, rfl, rfl, rfl, ?_⟩) | (refine ⟨2, _, _, _, _, _, rfl, rfl, rfl, rfl, rfl, rfl, ?_⟩) | (refine ⟨3, _, _, _, _, _, rfl, rfl, rfl, rfl, rfl, rfl, ?_⟩) | (refine ⟨4, _, _, _, _, _, rfl, rfl, rfl, rfl, rfl, rfl, ?_⟩) | (refine ⟨5, _, _, _, _, _, rfl, rfl, rfl, rfl, rfl, rfl, ?_⟩) | (refine ⟨6, _, _, _, _, _, rfl, rfl, rfl, rfl, rfl, rfl, ?_⟩) | (refine ⟨7, _, _, _, _, _, rfl, rfl, rfl, rfl, rfl, rfl, ?_⟩)); clear st; intro wx st _ _; simp [Act.eval, Act.put, Value.cells, putL] at st) | (with_reducible refine at_store 9 ?_; (first | refine mem_store' st 9 _ _ rfl (wanted_none rfl) _ Try.sizeOf9 ?_ | (refine mem_store' st 9 _ _ rfl (wanted_some rfl ?_) _ Try.sizeOf9 ?_; focus (simp [yielded, Act.put]; done))); (first | (refine ⟨0, _, _, _, _, _, rfl, rfl, rfl, rfl, rfl, rfl, ?_⟩) | (refine ⟨1, _, _, _, _, _, rfl, rfl, rfl, rfl, rfl, rfl, ?_⟩) | (refine ⟨2, _, _, _, _, _, rfl, rfl, rfl, rfl, rfl, rfl, ?_⟩) | (refine ⟨3, _, _, _, _, _, rfl, rfl, rfl, rfl, rfl, rfl, ?_⟩) | (refine ⟨4, _, _, _, _, _, rfl, rfl, rfl, rfl, rfl, rfl, ?_⟩) | (refine ⟨5, _, _, _, _, _, rfl, rfl, rfl, rfl, rfl, rfl, ?_⟩) | (refine ⟨6, _, _, _, _, _, rfl, rfl, rfl, rfl, rfl, rfl, ?_⟩) | (refine ⟨7, _, _, _, _, _, rfl, rfl, rfl, rfl, rfl, rfl, ?_⟩)); clear st; intro wx st _ _; simp [Act.eval, Act.put, Value.cells, putL] at st) | (with_reducible refine at_store 23 ?_; (first | refine mem_store' st 23 _ _ rfl (wanted_none rfl) _ Try.sizeOf23 ?_ | (refine mem_store' st 23 _ _ rfl (wanted_some rfl ?_) _ Try.sizeOf23 ?_; focus (simp [yielded, Act.put]; done))); (first | (refine ⟨0, _, _, _, _, _, rfl, rfl, rfl, rfl, rfl, rfl, ?_⟩) | (refine ⟨1, _, _, _, _, _, rfl, rfl, rfl, rfl, rfl, rfl, ?_⟩) | (refine ⟨2, _, _, _, _, _, rfl, rfl, rfl, rfl, rfl, rfl, ?_⟩) | (refine ⟨3, _, _, _, _, _, rfl, rfl, rfl, rfl, rfl, rfl, ?_⟩) | (refine ⟨4, _, _, _, _, _, rfl, rfl, rfl, rfl, rfl, rfl, ?_⟩) | (refine ⟨5, _, _, _, _, _, rfl, rfl, rfl, rfl, rfl, rfl, ?_⟩) | (refine ⟨6, _, _, _, _, _, rfl, rfl, rfl, rfl, rfl, rfl, ?_⟩) | (refine ⟨7, _, _, _, _, _, rfl, rfl, rfl, rfl, rfl, rfl, ?_⟩)); clear st; intro wx st _ _; simp [Act.eval, Act.put, Value.cells, putL] at st) | (with_reducible refine at_store 24 ?_; (first | refine mem_store' st 24 _ _ rfl (wanted_none rfl) _ Try.sizeOf24 ?_ | (refine mem_store' st 24 _ _ rfl (wanted_some rfl ?_) _ Try.sizeOf24 ?_; focus (simp [yielded, Act.put]; done))); (first | (refine ⟨0, _, _, _, _, _, rfl, rfl, rfl, rfl, rfl, rfl, ?_⟩) | (refine ⟨1, _, _, _, _, _, rfl, rfl, rfl, rfl, rfl, rfl, ?_⟩) | (refine ⟨2, _, _, _, _, _, rfl, rfl, rfl, rfl, rfl, rfl, ?_⟩) | (refine ⟨3, _, _, _, _, _, rfl, rfl, rfl, rfl, rfl, rfl, ?_⟩) | (refine ⟨4, _, _, _, _, _, rfl, rfl, rfl, rfl, rfl, rfl, ?_⟩) | (refine ⟨5, _, _, _, _, _, rfl, rfl, rfl, rfl, rfl, rfl, ?_⟩) | (refine ⟨6, _, _, _, _, _, rfl, rfl, rfl, rfl, rfl, rfl, ?_⟩) | (refine ⟨7, _, _, _, _, _, rfl, rfl, rfl, rfl, rfl, rfl, ?_⟩)); clear st; intro wx st _ _; simp [Act.eval, Act.put, Value.cells, putL] at st)
            | (go_at_call 42; go_must (refine (HL.out _ st.below).mono ?_; rintro r v1 ⟨rfl, hb1⟩; replace st := st.call hb1; clear hb1))
            | (go_at_call 43; go_must (refine (HG.out _ st.below).mono ?_; rintro r v1 ⟨rfl, hb1⟩; replace st := st.call hb1; clear hb1)))
          go_ret
          exact ⟨by rw [HE.out]; rfl, st.below⟩
      · have HE := Lib.hid (show decide ((⟨m1, m2, m3, m4, m5⟩ : Mail) = ⟨n1, n2, n3, n4, n5⟩) = false by rw [HX.out, decide_eq_false e3]; simp)
        have d4 : ¬ m5.toList = n5.toList := fun h => e3 (by rw [ByteArray.toList_eq, ByteArray.toList_eq] at h; exact ByteArray.ext (Array.toList_inj.1 h))
        clear e1 e2 e3
        go_enter Try.func30, Try.ntmps30
        go_wp2_with (first
          | go_skip | (refine mem_box st (wanted_none rfl) _ _ rfl _ rfl _ rfl ?_; clear st; intro g wx hgx st hbx; clear hgx hbx; simp [Act.eval, Act.put, Value.cells, putL] at st) | (with_reducible refine at_alloc 26 ?_; refine mem_alloc st (wanted_none rfl) 26 rfl _ Try.zeroValue26 _ rfl ?_; clear st; intro g wx hgx st hbx; clear hgx hbx; simp [Act.eval, Act.put, Value.cells, putL] at st) | (with_reducible refine at_alloc 3 ?_; refine mem_alloc st (wanted_none rfl) 3 rfl _ Try.zeroValue3 _ rfl ?_; clear st; intro g wx hgx st hbx; clear hgx hbx; simp [Act.eval, Act.put, Value.cells, putL] at st) | (with_reducible refine at_alloc 9 ?_; refine mem_alloc st (wanted_none rfl) 9 rfl _ Try.zeroValue9 _ rfl ?_; clear st; intro g wx hgx st hbx; clear hgx hbx; simp [Act.eval, Act.put, Value.cells, putL] at st) | (with_reducible refine at_alloc 23 ?_; refine mem_alloc st (wanted_none rfl) 23 rfl _ Try.zeroValue23 _ rfl ?_; clear st; intro g wx hgx st hbx; clear hgx hbx; simp [Act.eval, Act.put, Value.cells, putL] at st) | (with_reducible refine at_alloc 24 ?_; refine mem_alloc st (wanted_none rfl) 24 rfl _ Try.zeroValue24 _ rfl ?_; clear st; intro g wx hgx st hbx; clear hgx hbx; simp [Act.eval, Act.put, Value.cells, putL] at st) | (with_reducible refine at_load 26 ?_; (first | refine mem_load_agg' st 26 _ rfl (wanted_none rfl) Try.isAgg26 _ Try.sizeOf26 ?_ | (refine mem_load_agg' st 26 _ rfl (wanted_some rfl ?_) Try.isAgg26 _ Try.sizeOf26 ?_; focus (simp [yielded, Act.put]; done))); (first | (refine ⟨0, _, _, _, _, _, rfl, rfl, rfl, rfl, ?_⟩) | (refine ⟨1, _, _, _, _, _, rfl, rfl, rfl, rfl, ?_⟩) | (refine ⟨2, _, _, _, _, _, rfl, rfl, rfl, rfl, ?_⟩) | (refine ⟨3, _, _, _, _, _, rfl, rfl, rfl, rfl, ?_⟩) | (refine ⟨4, _, _, _, _, _, rfl, rfl, rfl, rfl, ?_⟩) | (refine ⟨5, _, _, _, _, _, rfl, rfl, rfl, rfl, ?_⟩) | (refine ⟨6, _, _, _, _, _, rfl, rfl, rfl, rfl, ?_⟩) | (refine ⟨7, _, _, _, _, _, rfl, rfl, rfl, rfl, ?_⟩))) | (with_reducible refine at_load 3 ?_; (first | refine mem_load' st 3 _ rfl (wanted_none rfl) Try.isAgg3 ?_ | (refine mem_load' st 3 _ rfl (wanted_some rfl ?_) Try.isAgg3 ?_; focus (simp [yielded, Act.put]; done))); (first | (refine ⟨0, _, _, _, _, _, rfl, rfl, rfl, ?_⟩) | (refine ⟨1, _, _, _, _, _, rfl, rfl, rfl, ?_⟩) | (refine ⟨2, _, _, _, _, _, rfl, rfl, rfl, ?_⟩) | (refine ⟨3, _, _, _, _, _, rfl, rfl, rfl, ?_⟩) | (refine ⟨4, _, _, _, _, _, rfl, rfl, rfl, ?_⟩) | (refine ⟨5, _, _, _, _, _, rfl, rfl, rfl, ?_⟩) | (refine ⟨6, _, _, _, _, _, rfl, rfl, rfl, ?_⟩) | (refine ⟨7, _, _, _, _, _, rfl, rfl, rfl, ?_⟩))) | (with_reducible refine at_load 9 ?_; (first | refine mem_load' st 9 _ rfl (wanted_none rfl) Try.isAgg9 ?_ | (refine mem_load' st 9 _ rfl (wanted_some rfl ?_) Try.isAgg9 ?_; focus (simp [yielded, Act.put]; done))); (first | (refine ⟨0, _, _, _, _, _, rfl, rfl, rfl, ?_⟩) | (refine ⟨1, _, _, _, _, _, rfl, rfl, rfl, ?_⟩) | (refine ⟨2, _, _, _, _, _, rfl, rfl, rfl, ?_⟩) | (refine ⟨3, _, _, _, _, _, rfl, rfl, rfl, ?_⟩) | (refine ⟨4, _, _, _, _, _, rfl, rfl, rfl, ?_⟩) | (refine ⟨5, _, _, _, _, _, rfl, rfl, rfl, ?_⟩) | (refine ⟨6, _, _, _, _, _, rfl, rfl, rfl, ?_⟩) | (refine ⟨7, _, _, _, _, _, rfl, rfl, rfl, ?_⟩))) | (with_reducible refine at_load 23 ?_; (first | refine mem_load' st 23 _ rfl (wanted_none rfl) Try.isAgg23 ?_ | (refine mem_load' st 23 _ rfl (wanted_some rfl ?_) Try.isAgg23 ?_; focus (simp [yielded, Act.put]; done))); (first | (refine ⟨0, _, _, _, _, _, rfl, rfl, rfl, ?_⟩) | (refine ⟨1, _, _, _, _, _, rfl, rfl, rfl, ?_⟩) | (refine ⟨2, _, _, _, _, _, rfl, rfl, rfl, ?_⟩) | (refine ⟨3, _, _, _, _, _, rfl, rfl, rfl, ?_⟩) | (refine ⟨4, _, _, _, _, _, rfl, rfl, rfl, ?_⟩) | (refine ⟨5, _, _, _, _, _, rfl, rfl, rfl, ?_⟩) | (refine ⟨6, _, _, _, _, _, rfl, rfl, rfl, ?_⟩) | (refine ⟨7, _, _, _, _, _, rfl, rfl, rfl, ?_⟩))) | (with_reducible refine at_load 24 ?_; (first | refine mem_load' st 24 _ rfl (wanted_none rfl) Try.isAgg24 ?_ | (refine mem_load' st 24 _ rfl (wanted_some rfl ?_) Try.isAgg24 ?_; focus (simp [yielded, Act.put]; done))); (first | (refine ⟨0, _, _, _, _, _, rfl, rfl, rfl, ?_⟩) | (refine ⟨1, _, _, _, _, _, rfl, rfl, rfl, ?_⟩) | (refine ⟨2, _, _, _, _, _, rfl, rfl, rfl, ?_⟩) | (refine ⟨3, _, _, _, _, _, rfl, rfl, rfl, ?_⟩) | (refine ⟨4, _, _, _, _, _, rfl, rfl, rfl, ?_⟩) | (refine ⟨5, _, _, _, _, _, rfl, rfl, rfl, ?_⟩) | (refine ⟨6, _, _, _, _, _, rfl, rfl, rfl, ?_⟩) | (refine ⟨7, _, _, _, _, _, rfl, rfl, rfl, ?_⟩))) | (with_reducible refine at_store 26 ?_; (first | refine mem_store' st 26 _ _ rfl (wanted_none rfl) _ Try.sizeOf26 ?_ | (refine mem_store' st 26 _ _ rfl (wanted_some rfl ?_) _ Try.sizeOf26 ?_; focus (simp [yielded, Act.put]; done))); (first | (refine ⟨0, _, _, _, _, _, rfl, rfl, rfl, rfl, rfl, rfl, ?_⟩) | (refine ⟨1, _, _, _, _, _, rfl, rfl, rfl, rfl, rfl, rfl, ?_⟩) | (refine ⟨2, _, _, _, _, _, rfl, rfl, rfl, rfl, rfl, rfl, ?_⟩) | (refine ⟨3, _, _, _, _, _, rfl, rfl, rfl, rfl, rfl, rfl, ?_⟩) | (refine ⟨4, _, _, _, _, _, rfl, rfl, rfl, rfl, rfl, rfl, ?_⟩) | (refine ⟨5, _, _, _, _, _, rfl, rfl, rfl, rfl, rfl, rfl, ?_⟩) | (refine ⟨6, _, _, _, _, _, rfl, rfl, rfl, rfl, rfl, rfl, ?_⟩) | (refine ⟨7, _, _, _, _, _, rfl, rfl, rfl, rfl, rfl, rfl, ?_⟩)); clear st; intro wx st _ _; simp [Act.eval, Act.put, Value.cells, putL] at st) | (with_reducible refine at_store 3 ?_; (first | refine mem_store' st 3 _ _ rfl (wanted_none rfl) _ Try.sizeOf3 ?_ | (refine mem_store' st 3 _ _ rfl (wanted_some rfl ?_) _ Try.sizeOf3 ?_; focus (simp [yielded, Act.put]; done))); (first | (refine ⟨0, _, _, _, _, _, rfl, rfl, rfl, rfl, rfl, rfl, ?_⟩) | (refine ⟨1, _, _, _, _, _, rfl, rfl, rfl, rfl, rfl, rfl, ?_⟩) | (refine ⟨2, _, _, _, _, _, rfl, rfl, rfl, rfl, rfl, rfl, ?_⟩) | (refine ⟨3, _, _, _, _, _, rfl, rfl, rfl, rfl, rfl, rfl, ?_⟩) | (refine ⟨4, _, _, _, _, _, rfl, rfl, rfl, rfl, rfl, rfl, ?_⟩) | (refine ⟨5, _, _, _, _, _, rfl, rfl, rfl, rfl, rfl, rfl, ?_⟩) | (refine ⟨6, _, _, _, _, _, rfl, rfl, rfl, rfl, rfl, rfl, ?_⟩) | (refine ⟨7, _, _, _, _, _, rfl, rfl, rfl, rfl, rfl, rfl, ?_⟩)); clear st; intro wx st _ _; simp [Act.eval, Act.put, Value.cells, putL] at st) | (with_reducible refine at_store 9 ?_; (first | refine mem_store' st 9 _ _ rfl (wanted_none rfl) _ Try.sizeOf9 ?_ | (refine mem_store' st 9 _ _ rfl (wanted_some rfl ?_) _ Try.sizeOf9 ?_; focus (simp [yielded, Act.put]; done))); (first | (refine ⟨0, _, _, _, _, _, rfl, rfl, rfl, rfl, rfl, rfl, ?_⟩) | (refine ⟨1, _, _, _, _, _, rfl, rfl, rfl, rfl, rfl, rfl, ?_⟩) | (refine ⟨2, _, _, _, _, _, rfl, rfl, rfl, rfl, rfl, rfl, ?_⟩) | (refine ⟨3, _, _, _, _, _, rfl, rfl, rfl, rfl, rfl, rfl, ?_⟩) | (refine ⟨4, _, _, _, _, _, rfl, rfl, rfl, rfl, rfl, rfl, ?_⟩) | (refine ⟨5, _, _, _, _, _, rfl, rfl, rfl, rfl, rfl, rfl, ?_⟩) | (refine ⟨6, _, _, _, _, _, rfl, rfl, rfl, rfl, rfl, rfl, ?_⟩) | (refine ⟨7, _, _, _, _, _, rfl, rfl, rfl, rfl, rfl, rfl, ?_⟩)); clear st; intro wx st _ _; simp [Act.eval, Act.put, Value.cells, putL] at st) | (with_reducible refine at_store 23 ?_; (first | refine mem_store' st 23 _ _ rfl (wanted_none rfl) _ Try.sizeOf23 ?_ | (refine mem_store' st 23 _ _ rfl (wanted_some rfl ?_) _ Try.sizeOf23 ?_; focus (simp [yielded, Act.put]; done))); (first | (refine ⟨0, _, _, _, _, _, rfl, rfl, rfl, rfl, rfl, rfl, ?_⟩) | (refine ⟨1, _, _, _, _, _, rfl, rfl, rfl, rfl, rfl, rfl, ?_⟩) | (refine ⟨2, _, _, _, _, _, rfl, rfl, rfl, rfl, rfl, rfl, ?_⟩) | (refine ⟨3, _, _, _, _, _, rfl, rfl, rfl, rfl, rfl, rfl, ?_⟩) | (refine ⟨4, _, _, _, _, _, rfl, rfl, rfl, rfl, rfl, rfl, ?_⟩) | (refine ⟨5, _, _, _, _, _, rfl, rfl, rfl, rfl, rfl, rfl, ?_⟩) | (refine ⟨6, _, _, _, _, _, rfl, rfl, rfl, rfl, rfl, rfl, ?_⟩) | (refine ⟨7, _, _, _, _, _, rfl, rfl, rfl, rfl, rfl, rfl, ?_⟩)); clear st; intro wx st _ _; simp [Act.eval, Act.put, Value.cells, putL] at st) | (with_reducible refine at_store 24 ?_; (first | refine mem_store' st 24 _ _ rfl (wanted_none rfl) _ Try.sizeOf24 ?_ | (refine mem_store' st 24 _ _ rfl (wanted_some rfl ?_) _ Try.sizeOf24 ?_; focus (simp [yielded, Act.put]; done))); (first | (refine ⟨0, _, _, _, _, _, rfl, rfl, rfl, rfl, rfl, rfl, ?_⟩) | (refine ⟨1, _, _, _, _, _, rfl, rfl, rfl, rfl, rfl, rfl, ?_⟩) | (refine ⟨2, _, _, _, _, _, rfl, rfl, rfl, rfl, rfl, rfl, ?_⟩) | (refine ⟨3, _, _, _, _, _, rfl, rfl, rfl, rfl, rfl, rfl, ?_⟩) | (refine ⟨4, _, _, _, _, _, rfl, rfl, rfl, rfl, rfl, rfl, ?_⟩) | (refine ⟨5, _, _, _, _, _, rfl, rfl, rfl, rfl, rfl, rfl, ?_⟩) | (refine ⟨6, _, _, _, _, _, rfl, rfl, rfl, rfl, rfl, rfl, ?_⟩) | (refine ⟨7, _, _, _, _, _, rfl, rfl, rfl, rfl, rfl, rfl, ?_⟩)); clear st; intro wx st _ _; simp [Act.eval, Act.put, Value.cells, putL] at st)
          | (go_at_call 42; go_must (refine (HL.out _ st.below).mono ?_; rintro r v1 ⟨rfl, hb1⟩; replace st := st.call hb1; clear hb1))
          | (go_at_call 43; go_must (refine (HG.out _ st.below).mono ?_; rintro r v1 ⟨rfl, hb1⟩; replace st := st.call hb1; clear hb1)))
        go_ret
        exact ⟨by rw [HE.out]; rfl, st.below⟩
    · have d2 : (m2 == n2) = false := by simpa using e2
      have HE := Lib.hid (show decide ((⟨m1, m2, m3, m4, m5⟩ : Mail) = ⟨n1, n2, n3, n4, n5⟩) = false by rw [HX.out, decide_eq_false e2]; simp)
      clear e1 e2
      go_enter Try.func30, Try.ntmps30
      go_wp2_with (first
        | go_skip | (refine mem_box st (wanted_none rfl) _ _ rfl _ rfl _ rfl ?_; clear st; intro g wx hgx st hbx; clear hgx hbx; simp [Act.eval, Act.put, Value.cells, putL] at st) | (with_reducible refine at_alloc 26 ?_; refine mem_alloc st (wanted_none rfl) 26 rfl _ Try.zeroValue26 _ rfl ?_; clear st; intro g wx hgx st hbx; clear hgx hbx; simp [Act.eval, Act.put, Value.cells, putL] at st) | (with_reducible refine at_alloc 3 ?_; refine mem_alloc st (wanted_none rfl) 3 rfl _ Try.zeroValue3 _ rfl ?_; clear st; intro g wx hgx st hbx; clear hgx hbx; simp [Act.eval, Act.put, Value.cells, putL] at st) | (with_reducible refine at_alloc 9 ?_; refine mem_alloc st (wanted_none rfl) 9 rfl _ Try.zeroValue9 _ rfl ?_; clear st; intro g wx hgx st hbx; clear hgx hbx; simp [Act.eval, Act.put, Value.cells, putL] at st) | (with_reducible refine at_alloc 23 ?_; refine mem_alloc st (wanted_none rfl) 23 rfl _ Try.zeroValue23 _ rfl ?_; clear st; intro g wx hgx st hbx; clear hgx hbx; simp [Act.eval, Act.put, Value.cells, putL] at st) | (with_reducible refine at_alloc 24 ?_; refine mem_alloc st (wanted_none rfl) 24 rfl _ Try.zeroValue24 _ rfl ?_; clear st; intro g wx hgx st hbx; clear hgx hbx; simp [Act.eval, Act.put, Value.cells, putL] at st) | (with_reducible refine at_load 26 ?_; (first | refine mem_load_agg' st 26 _ rfl (wanted_none rfl) Try.isAgg26 _ Try.sizeOf26 ?_ | (refine mem_load_agg' st 26 _ rfl (wanted_some rfl ?_) Try.isAgg26 _ Try.sizeOf26 ?_; focus (simp [yielded, Act.put]; done))); (first | (refine ⟨0, _, _, _, _, _, rfl, rfl, rfl, rfl, ?_⟩) | (refine ⟨1, _, _, _, _, _, rfl, rfl, rfl, rfl, ?_⟩) | (refine ⟨2, _, _, _, _, _, rfl, rfl, rfl, rfl, ?_⟩) | (refine ⟨3, _, _, _, _, _, rfl, rfl, rfl, rfl, ?_⟩) | (refine ⟨4, _, _, _, _, _, rfl, rfl, rfl, rfl, ?_⟩) | (refine ⟨5, _, _, _, _, _, rfl, rfl, rfl, rfl, ?_⟩) | (refine ⟨6, _, _, _, _, _, rfl, rfl, rfl, rfl, ?_⟩) | (refine ⟨7, _, _, _, _, _, rfl, rfl, rfl, rfl, ?_⟩))) | (with_reducible refine at_load 3 ?_; (first | refine mem_load' st 3 _ rfl (wanted_none rfl) Try.isAgg3 ?_ | (refine mem_load' st 3 _ rfl (wanted_some rfl ?_) Try.isAgg3 ?_; focus (simp [yielded, Act.put]; done))); (first | (refine ⟨0, _, _, _, _, _, rfl, rfl, rfl, ?_⟩) | (refine ⟨1, _, _, _, _, _, rfl, rfl, rfl, ?_⟩) | (refine ⟨2, _, _, _, _, _, rfl, rfl, rfl, ?_⟩) | (refine ⟨3, _, _, _, _, _, rfl, rfl, rfl, ?_⟩) | (refine ⟨4, _, _, _, _, _, rfl, rfl, rfl, ?_⟩) | (refine ⟨5, _, _, _, _, _, rfl, rfl, rfl, ?_⟩) | (refine ⟨6, _, _, _, _, _, rfl, rfl, rfl, ?_⟩) | (refine ⟨7, _, _, _, _, _, rfl, rfl, rfl, ?_⟩))) | (with_reducible refine at_load 9 ?_; (first | refine mem_load' st 9 _ rfl (wanted_none rfl) Try.isAgg9 ?_ | (refine mem_load' st 9 _ rfl (wanted_some rfl ?_) Try.isAgg9 ?_; focus (simp [yielded, Act.put]; done))); (first | (refine ⟨0, _, _, _, _, _, rfl, rfl, rfl, ?_⟩) | (refine ⟨1, _, _, _, _, _, rfl, rfl, rfl, ?_⟩) | (refine ⟨2, _, _, _, _, _, rfl, rfl, rfl, ?_⟩) | (refine ⟨3, _, _, _, _, _, rfl, rfl, rfl, ?_⟩) | (refine ⟨4, _, _, _, _, _, rfl, rfl, rfl, ?_⟩) | (refine ⟨5, _, _, _, _, _, rfl, rfl, rfl, ?_⟩) | (refine ⟨6, _, _, _, _, _, rfl, rfl, rfl, ?_⟩) | (refine ⟨7, _, _, _, _, _, rfl, rfl, rfl, ?_⟩))) | (with_reducible refine at_load 23 ?_; (first | refine mem_load' st 23 _ rfl (wanted_none rfl) Try.isAgg23 ?_ | (refine mem_load' st 23 _ rfl (wanted_some rfl ?_) Try.isAgg23 ?_; focus (simp [yielded, Act.put]; done))); (first | (refine ⟨0, _, _, _, _, _, rfl, rfl, rfl, ?_⟩) | (refine ⟨1, _, _, _, _, _, rfl, rfl, rfl, ?_⟩) | (refine ⟨2, _, _, _, _, _, rfl, rfl, rfl, ?_⟩) | (refine ⟨3, _, _, _, _, _, rfl, rfl, rfl, ?_⟩) | (refine ⟨4, _, _, _, _, _, rfl, rfl, rfl, ?_⟩) | (refine ⟨5, _, _, _, _, _, rfl, rfl, rfl, ?_⟩) | (refine ⟨6, _, _, _, _, _, rfl, rfl, rfl, ?_⟩) | (refine ⟨7, _, _, _, _, _, rfl, rfl, rfl, ?_⟩))) | (with_reducible refine at_load 24 ?_; (first | refine mem_load' st 24 _ rfl (wanted_none rfl) Try.isAgg24 ?_ | (refine mem_load' st 24 _ rfl (wanted_some rfl ?_) Try.isAgg24 ?_; focus (simp [yielded, Act.put]; done))); (first | (refine ⟨0, _, _, _, _, _, rfl, rfl, rfl, ?_⟩) | (refine ⟨1, _, _, _, _, _, rfl, rfl, rfl, ?_⟩) | (refine ⟨2, _, _, _, _, _, rfl, rfl, rfl, ?_⟩) | (refine ⟨3, _, _, _, _, _, rfl, rfl, rfl, ?_⟩) | (refine ⟨4, _, _, _, _, _, rfl, rfl, rfl, ?_⟩) | (refine ⟨5, _, _, _, _, _, rfl, rfl, rfl, ?_⟩) | (refine ⟨6, _, _, _, _, _, rfl, rfl, rfl, ?_⟩) | (refine ⟨7, _, _, _, _, _, rfl, rfl, rfl, ?_⟩))) | (with_reducible refine at_store 26 ?_; (first | refine mem_store' st 26 _ _ rfl (wanted_none rfl) _ Try.sizeOf26 ?_ | (refine mem_store' st 26 _ _ rfl (wanted_some rfl ?_) _ Try.sizeOf26 ?_; focus (simp [yielded, Act.put]; done))); (first | (refine ⟨0, _, _, _, _, _, rfl, rfl, rfl, rfl, rfl, rfl, ?_⟩) | (refine ⟨1, _, _, _, _, _, rfl, rfl, rfl, rfl, rfl, rfl, ?_⟩) | (refine ⟨2, _, _, _, _, _, rfl, rfl, rfl, rfl, rfl, rfl, ?_⟩) | (refine ⟨3, _, _, _, _, _, rfl, rfl, rfl, rfl, rfl, rfl, ?_⟩) | (refine ⟨4, _, _, _, _, _, rfl, rfl, rfl, rfl, rfl, rfl, ?_⟩) | (refine ⟨5, _, _, _, _, _, rfl, rfl, rfl, rfl, rfl, rfl, ?_⟩) | (refine ⟨6, _, _, _, _, _, rfl, rfl, rfl, rfl, rfl, rfl, ?_⟩) | (refine ⟨7, _, _, _, _, _, rfl, rfl, rfl, rfl, rfl, rfl, ?_⟩)); clear st; intro wx st _ _; simp [Act.eval, Act.put, Value.cells, putL] at st) | (with_reducible refine at_store 3 ?_; (first | refine mem_store' st 3 _ _ rfl (wanted_none rfl) _ Try.sizeOf3 ?_ | (refine mem_store' st 3 _ _ rfl (wanted_some rfl ?_) _ Try.sizeOf3 ?_; focus (simp [yielded, Act.put]; done))); (first | (refine ⟨0, _, _, _, _, _, rfl, rfl, rfl, rfl, rfl, rfl, ?_⟩) | (refine ⟨1, _, _, _, _, _, rfl, rfl, rfl, rfl, rfl, rfl, ?_⟩) | (refine ⟨2, _, _, _, _, _, rfl, rfl, rfl, rfl, rfl, rfl, ?_⟩) | (refine ⟨3, _, _, _, _, _, rfl, rfl, rfl, rfl, rfl, rfl, ?_⟩) | (refine ⟨4, _, _, _, _, _, rfl, rfl, rfl, rfl, rfl, rfl, ?_⟩) | (refine ⟨5, _, _, _, _, _, rfl, rfl, rfl, rfl, rfl, rfl, ?_⟩) | (refine ⟨6, _, _, _, _, _, rfl, rfl, rfl, rfl, rfl, rfl, ?_⟩) | (refine ⟨7, _, _, _, _, _, rfl, rfl, rfl, rfl, rfl, rfl, ?_⟩)); clear st; intro wx st _ _; simp [Act.eval, Act.put, Value.cells, putL] at st) | (with_reducible refine at_store 9 ?_; (first | refine mem_store' st 9 _ _ rfl (wanted_none rfl) _ Try.sizeOf9 ?_ | (refine mem_store' st 9 _ _ rfl (wanted_some rfl ?_) _ Try.sizeOf9 ?_; focus (simp [yielded, Act.put]; done))); (first | (refine ⟨0, _, _, _, _, _, rfl, rfl, rfl, rfl, rfl, rfl, ?_⟩) | (refine ⟨1, _, _, _, _, _, rfl, rfl, rfl, rfl, rfl, rfl, ?_⟩) | (refine ⟨2, _, _, _, _, _, rfl, rfl, rfl, rfl, rfl, rfl, ?_⟩) | (refine ⟨3, _, _, _, _, _, rfl, rfl, rfl, rfl, rfl, rfl, ?_⟩) | (refine ⟨4, _, _, _, _, _, rfl, rfl, rfl, rfl, rfl, rfl, ?_⟩) | (refine ⟨5, _, _, _, _, _, rfl, rfl, rfl, rfl, rfl, rfl, ?_⟩) | (refine ⟨6, _, _, _, _, _, rfl, rfl, rfl, rfl, rfl, rfl, ?_⟩) | (refine ⟨7, _, _, _, _, _, rfl, rfl, rfl, rfl, rfl, rfl, ?_⟩)); clear st; intro wx st _ _; simp [Act.eval, Act.put, Value.cells, putL] at st) | (with_reducible refine at_store 23 ?_; (first | refine mem_store' st 23 _ _ rfl (wanted_none rfl) _ Try.sizeOf23 ?_ | (refine mem_store' st 23 _ _ rfl (wanted_some rfl ?_) _ Try.sizeOf23 ?_; focus (simp [yielded, Act.put]; done))); (first | (refine ⟨0, _, _, _, _, _, rfl, rfl, rfl, rfl, rfl, rfl, ?_⟩) | (refine ⟨1, _, _, _, _, _, rfl, rfl, rfl, rfl, rfl, rfl, ?_⟩) | (refine ⟨2, _, _, _, _, _, rfl, rfl, rfl, rfl, rfl, rfl, ?_⟩) | (refine ⟨3, _, _, _, _, _, rfl, rfl, rfl, rfl, rfl, rfl, ?_⟩) | (refine ⟨4, _, _, _, _, _, rfl, rfl, rfl, rfl, rfl, rfl, ?_⟩) | (refine ⟨5, _, _, _, _, _, rfl, rfl, rfl, rfl, rfl, rfl, ?_⟩) | (refine ⟨6, _, _, _, _, _, rfl, rfl, rfl, rfl, rfl, rfl, ?_⟩) | (refine ⟨7, _, _, _, _, _, rfl, rfl, rfl, rfl, rfl, rfl, ?_⟩)); clear st; intro wx st _ _; simp [Act.eval, Act.put, Value.cells, putL] at st) | (with_reducible refine at_store 24 ?_; (first | refine mem_store' st 24 _ _ rfl (wanted_none rfl) _ Try.sizeOf24 ?_ | (refine mem_store' st 24 _ _ rfl (wanted_some rfl ?_) _ Try.sizeOf24 ?_; focus (simp [yielded, Act.put]; done))); (first | (refine ⟨0, _, _, _, _, _, rfl, rfl, rfl, rfl, rfl, rfl, ?_⟩) | (refine ⟨1, _, _, _, _, _, rfl, rfl, rfl, rfl, rfl, rfl, ?_⟩) | (refine ⟨2, _, _, _, _, _, rfl, rfl, rfl, rfl, rfl, rfl, ?_⟩) | (refine ⟨3, _, _, _, _, _, rfl, rfl, rfl, rfl, rfl, rfl, ?_⟩) | (refine ⟨4, _, _, _, _, _, rfl, rfl, rfl, rfl, rfl, rfl, ?_⟩) | (refine ⟨5, _, _, _, _, _, rfl, rfl, rfl, rfl, rfl, rfl, ?_⟩) | (refine ⟨6, _, _, _, _, _, rfl, rfl, rfl, rfl, rfl, rfl, ?_⟩) | (refine ⟨7, _, _, _, _, _, rfl, rfl, rfl, rfl, rfl, rfl, ?_⟩)); clear st; intro wx st _ _; simp [Act.eval, Act.put, Value.cells, putL] at st)
        | (go_at_call 42; go_must (refine (HL.out _ st.below).mono ?_; rintro r v1 ⟨rfl, hb1⟩; replace st := st.call hb1; clear hb1))
        | (go_at_call 43; go_must (refine (HG.out _ st.below).mono ?_; rintro r v1 ⟨rfl, hb1⟩; replace st := st.call hb1; clear hb1)))
      go_ret
      exact ⟨by rw [HE.out]; rfl, st.below⟩
  · have d1 : (m1 == n1) = false := by simpa using e1
    have HE := Lib.hid (show decide ((⟨m1, m2, m3, m4, m5⟩ : Mail) = ⟨n1, n2, n3, n4, n5⟩) = false by rw [HX.out, decide_eq_false e1]; rfl)
    clear e1
    go_enter Try.func30, Try.ntmps30
    go_wp2_with (first
      | go_skip | (refine mem_box st (wanted_none rfl) _ _ rfl _ rfl _ rfl ?_; clear st; intro g wx hgx st hbx; clear hgx hbx; simp [Act.eval, Act.put, Value.cells, putL] at st) | (with_reducible refine at_alloc 26 ?_; refine mem_alloc st (wanted_none rfl) 26 rfl _ Try.zeroValue26 _ rfl ?_; clear st; intro g wx hgx st hbx; clear hgx hbx; simp [Act.eval, Act.put, Value.cells, putL] at st) | (with_reducible refine at_alloc 3 ?_; refine mem_alloc st (wanted_none rfl) 3 rfl _ Try.zeroValue3 _ rfl ?_; clear st; intro g wx hgx st hbx; clear hgx hbx; simp [Act.eval, Act.put, Value.cells, putL] at st) | (with_reducible refine at_alloc 9 ?_; refine mem_alloc st (wanted_none rfl) 9 rfl _ Try.zeroValue9 _ rfl ?_; clear st; intro g wx hgx st hbx; clear hgx hbx; simp [Act.eval, Act.put, Value.cells, putL] at st) | (with_reducible refine at_alloc 23 ?_; refine mem_alloc st (wanted_none rfl) 23 rfl _ Try.zeroValue23 _ rfl ?_; clear st; intro g wx hgx st hbx; clear hgx hbx; simp [Act.eval, Act.put, Value.cells, putL] at st) | (with_reducible refine at_alloc 24 ?_; refine mem_alloc st (wanted_none rfl) 24 rfl _ Try.zeroValue24 _ rfl ?_; clear st; intro g wx hgx st hbx; clear hgx hbx; simp [Act.eval, Act.put, Value.cells, putL] at st) | (with_reducible refine at_load 26 ?_; (first | refine mem_load_agg' st 26 _ rfl (wanted_none rfl) Try.isAgg26 _ Try.sizeOf26 ?_ | (refine mem_load_agg' st 26 _ rfl (wanted_some rfl ?_) Try.isAgg26 _ Try.sizeOf26 ?_; focus (simp [yielded, Act.put]; done))); (first | (refine ⟨0, _, _, _, _, _, rfl, rfl, rfl, rfl, ?_⟩) | (refine ⟨1, _, _, _, _, _, rfl, rfl, rfl, rfl, ?_⟩) | (refine ⟨2, _, _, _, _, _, rfl, rfl, rfl, rfl, ?_⟩) | (refine ⟨3, _, _, _, _, _, rfl, rfl, rfl, rfl, ?_⟩) | (refine ⟨4, _, _, _, _, _, rfl, rfl, rfl, rfl, ?_⟩) | (refine ⟨5, _, _, _, _, _, rfl, rfl, rfl, rfl, ?_⟩) | (refine ⟨6, _, _, _, _, _, rfl, rfl, rfl, rfl, ?_⟩) | (refine ⟨7, _, _, _, _, _, rfl, rfl, rfl, rfl, ?_⟩))) | (with_reducible refine at_load 3 ?_; (first | refine mem_load' st 3 _ rfl (wanted_none rfl) Try.isAgg3 ?_ | (refine mem_load' st 3 _ rfl (wanted_some rfl ?_) Try.isAgg3 ?_; focus (simp [yielded, Act.put]; done))); (first | (refine ⟨0, _, _, _, _, _, rfl, rfl, rfl, ?_⟩) | (refine ⟨1, _, _, _, _, _, rfl, rfl, rfl, ?_⟩) | (refine ⟨2, _, _, _, _, _, rfl, rfl, rfl, ?_⟩) | (refine ⟨3, _, _, _, _, _, rfl, rfl, rfl, ?_⟩) | (refine ⟨4, _, _, _, _, _, rfl, rfl, rfl, ?_⟩) | (refine ⟨5, _, _, _, _, _, rfl, rfl, rfl, ?_⟩) | (refine ⟨6, _, _, _, _, _, rfl, rfl, rfl, ?_⟩) | (refine ⟨7, _, _, _, _, _, rfl, rfl, rfl, ?_⟩))) | (with_reducible refine at_load 9 ?_; (first | refine mem_load' st 9 _ rfl (wanted_none rfl) Try.isAgg9 ?_ | (refine mem_load' st 9 _ rfl (wanted_some rfl ?_) Try.isAgg9 ?_; focus (simp [yielded, Act.put]; done))); (first | (refine ⟨0, _, _, _, _, _, rfl, rfl, rfl, ?_⟩) | (refine ⟨1, _, _, _, _, _, rfl, rfl, rfl, ?_⟩) | (refine ⟨2, _, _, _, _, _, rfl, rfl, rfl, ?_⟩) | (refine ⟨3, _, _, _, _, _, rfl, rfl, rfl, ?_⟩) | (refine ⟨4, _, _, _, _, _, rfl, rfl, rfl, ?_⟩) | (refine ⟨5, _, _, _, _, _, rfl, rfl, rfl, ?_⟩) | (refine ⟨6, _, _, _, _, _, rfl, rfl, rfl, ?_⟩) | (refine ⟨7, _, _, _, _, _, rfl, rfl, rfl, ?_⟩))) | (with_reducible refine at_load 23 ?_; (first | refine mem_load' st 23 _ rfl (wanted_none rfl) Try.isAgg23 ?_ | (refine mem_load' st 23 _ rfl (wanted_some rfl ?_) Try.isAgg23 ?_; focus (simp [yielded, Act.put]; done))); (first | (refine ⟨0, _, _, _, _, _, rfl, rfl, rfl, ?_⟩) | (refine ⟨1, _, _, _, _, _, rfl, rfl, rfl, ?_⟩) | (refine ⟨2, _, _, _, _, _, rfl, rfl, rfl, ?_⟩) | (refine ⟨3, _, _, _, _, _, rfl, rfl, rfl, ?_⟩) | (refine ⟨4, _, _, _, _, _, rfl, rfl, rfl, ?_⟩) | (refine ⟨5, _, _, _, _, _, rfl, rfl, rfl, ?_⟩) | (refine ⟨6, _, _, _, _, _, rfl, rfl, rfl, ?_⟩) | (refine ⟨7, _, _, _, _, _, rfl, rfl, rfl, ?_⟩))) | (with_reducible refine at_load 24 ?_; (first | refine mem_load' st 24 _ rfl (wanted_none rfl) Try.isAgg24 ?_ | (refine mem_load' st 24 _ rfl (wanted_some rfl ?_) Try.isAgg24 ?_; focus (simp [yielded, Act.put]; done))); (first | (refine ⟨0, _, _, _, _, _, rfl, rfl, rfl, ?_⟩) | (refine ⟨1, _, _, _, _, _, rfl, rfl, rfl, ?_⟩) | (refine ⟨2, _, _, _, _, _, rfl, rfl, rfl, ?_⟩) | (refine ⟨3, _, _, _, _, _, rfl, rfl, rfl, ?_⟩) | (refine ⟨4, _, _, _, _, _, rfl, rfl, rfl, ?_⟩) | (refine ⟨5, _, _, _, _, _, rfl, rfl, rfl, ?_⟩) | (refine ⟨6, _, _, _, _, _, rfl, rfl, rfl, ?_⟩) | (refine ⟨7, _, _, _, _, _, rfl, rfl, rfl, ?_⟩))) | (with_reducible refine at_store 26 ?_; (first | refine mem_store' st 26 _ _ rfl (wanted_none rfl) _ Try.sizeOf26 ?_ | (refine mem_store' st 26 _ _ rfl (wanted_some rfl ?_) _ Try.sizeOf26 ?_; focus (simp [yielded, Act.put]; done))); (first | (refine ⟨0, _, _, _, _, _, rfl, rfl, rfl, rfl, rfl, rfl, ?_⟩) | (refine ⟨1, _, _, _, _, _, rfl, rfl, rfl, rfl, rfl, rfl, ?_⟩) | (refine ⟨2, _, _, _, _, _, rfl, rfl, rfl, rfl, rfl, rfl, ?_⟩) | (refine ⟨3, _, _, _, _, _, rfl, rfl, rfl, rfl, rfl, rfl, ?_⟩) | (refine ⟨4, _, _, _, _, _, rfl, rfl, rfl, rfl, rfl, rfl, ?_⟩) | (refine ⟨5, _, _, _, _, _, rfl, rfl, rfl, rfl, rfl, rfl, ?_⟩) | (refine ⟨6, _, _, _, _, _, rfl, rfl, rfl, rfl, rfl, rfl, ?_⟩) | (refine ⟨7, _, _, _, _, _, rfl, rfl, rfl, rfl, rfl, rfl, ?_⟩)); clear st; intro wx st _ _; simp [Act.eval, Act.put, Value.cells, putL] at st) | (with_reducible refine at_store 3 ?_; (first | refine mem_store' st 3 _ _ rfl (wanted_none rfl) _ Try.sizeOf3 ?_ | (refine mem_store' st 3 _ _ rfl (wanted_some rfl ?_) _ Try.sizeOf3 ?_; focus (simp [yielded, Act.put]; done))); (first | (refine ⟨0, _, _, _, _, _, rfl, rfl, rfl, rfl, rfl, rfl, ?_⟩) | (refine ⟨1, _, _, _, _, _, rfl, rfl, rfl, rfl, rfl, rfl, ?_⟩) | (refine ⟨2, _, _, _, _, _, rfl, rfl, rfl, rfl, rfl, rfl, ?_⟩) | (refine ⟨3, _, _, _, _, _, rfl, rfl, rfl, rfl, rfl, rfl, ?_⟩) | (refine ⟨4, _, _, _, _, _, rfl, rfl, rfl, rfl, rfl, rfl, ?_⟩) | (refine ⟨5, _, _, _, _, _, rfl, rfl, rfl, rfl, rfl, rfl, ?_⟩) | (refine ⟨6, _, _, _, _, _, rfl, rfl, rfl, rfl, rfl, rfl, ?_⟩) | (refine ⟨7, _, _, _, _, _, rfl, rfl, rfl, rfl, rfl, rfl, ?_⟩)); clear st; intro wx st _ _; simp [Act.eval, Act.put, Value.cells, putL] at st) | (with_reducible refine at_store 9 ?_; (first | refine mem_store' st 9 _ _ rfl (wanted_none rfl) _ Try.sizeOf9 ?_ | (refine mem_store' st 9 _ _ rfl (wanted_some rfl ?_) _ Try.sizeOf9 ?_; focus (simp [yielded, Act.put]; done))); (first | (refine ⟨0, _, _, _, _, _, rfl, rfl, rfl, rfl, rfl, rfl, ?_⟩) | (refine ⟨1, _, _, _, _, _, rfl, rfl, rfl, rfl, rfl, rfl, ?_⟩) | (refine ⟨2, _, _, _, _, _, rfl, rfl, rfl, rfl, rfl, rfl, ?_⟩) | (refine ⟨3, _, _, _, _, _, rfl, rfl, rfl, rfl, rfl, rfl, ?_⟩) | (refine ⟨4, _, _, _, _, _, rfl, rfl, rfl, rfl, rfl, rfl, ?_⟩) | (refine ⟨5, _, _, _, _, _, rfl, rfl, rfl, rfl, rfl, rfl, ?_⟩) | (refine ⟨6, _, _, _, _, _, rfl, rfl, rfl, rfl, rfl, rfl, ?_⟩) | (refine ⟨7, _, _, _, _, _, rfl, rfl, rfl, rfl, rfl, rfl, ?_⟩)); clear st; intro wx st _ _; simp [Act.eval, Act.put, Value.cells, putL] at st) | (with_reducible refine at_store 23 ?_; (first | refine mem_store' st 23 _ _ rfl (wanted_none rfl) _ Try.sizeOf23 ?_ | (refine mem_store' st 23 _ _ rfl (wanted_some rfl ?_) _ Try.sizeOf23 ?_; focus (simp [yielded, Act.put]; done))); (first | (refine ⟨0, _, _, _, _, _, rfl, rfl, rfl, rfl, rfl, rfl, ?_⟩) | (refine ⟨1, _, _, _, _, _, rfl, rfl, rfl, rfl, rfl, rfl, ?_⟩) | (refine ⟨2, _, _, _, _, _, rfl, rfl, rfl, rfl, rfl, rfl, ?_⟩) | (refine ⟨3, _, _, _, _, _, rfl, rfl, rfl, rfl, rfl, rfl, ?_⟩) | (refine ⟨4, _, _, _, _, _, rfl, rfl, rfl, rfl, rfl, rfl, ?_⟩) | (refine ⟨5, _, _, _, _, _, rfl, rfl, rfl, rfl, rfl, rfl, ?_⟩) | (refine ⟨6, _, _, _, _, _, rfl, rfl, rfl, rfl, rfl, rfl, ?_⟩) | (refine ⟨7, _, _, _, _, _, rfl, rfl, rfl, rfl, rfl, rfl, ?_⟩)); clear st; intro wx st _ _; simp [Act.eval, Act.put, Value.cells, putL] at st) | (with_reducible refine at_store 24 ?_; (first | refine mem_store' st 24 _ _ rfl (wanted_none rfl) _ Try.sizeOf24 ?_ | (refine mem_store' st 24 _ _ rfl (wanted_some rfl ?_) _ Try.sizeOf24 ?_; focus (simp [yielded, Act.put]; done))); (first | (refine ⟨0, _, _, _, _, _, rfl, rfl, rfl, rfl, rfl, rfl, ?_⟩) | (refine ⟨1, _, _, _, _, _, rfl, rfl, rfl, rfl, rfl, rfl, ?_⟩) | (refine ⟨2, _, _, _, _, _, rfl, rfl, rfl, rfl, rfl, rfl, ?_⟩) | (refine ⟨3, _, _, _, _, _, rfl, rfl, rfl, rfl, rfl, rfl, ?_⟩) | (refine ⟨4, _, _, _, _, _, rfl, rfl, rfl, rfl, rfl, rfl, ?_⟩) | (refine ⟨5, _, _, _, _, _, rfl, rfl, rfl, rfl, rfl, rfl, ?_⟩) | (refine ⟨6, _, _, _, _, _, rfl, rfl, rfl, rfl, rfl, rfl, ?_⟩) | (refine ⟨7, _, _, _, _, _, rfl, rfl, rfl, rfl, rfl, rfl, ?_⟩)); clear st; intro wx st _ _; simp [Act.eval, Act.put, Value.cells, putL] at st)
      | (go_at_call 42; go_must (refine (HL.out _ st.below).mono ?_; rintro r v1 ⟨rfl, hb1⟩; replace st := st.call hb1; clear hb1))
      | (go_at_call 43; go_must (refine (HG.out _ st.below).mono ?_; rintro r v1 ⟨rfl, hb1⟩; replace st := st.call hb1; clear hb1)))
    go_ret
    exact ⟨by rw [HE.out]; rfl, st.below⟩

end Go.Proofs.Ytemjnojfhbbapaa
