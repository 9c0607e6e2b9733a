/- The walks through the references' copies of mail, frames, lines. -/
import Derived.Test.YtbngblmdcggfdaaApp
import Derived.Test.YtbngblmdcggfdaaMemW
import Derived.Test.YtbngblmdcggfdaaSlices
import Derived.Deep.RegionLaw
set_option linter.unusedSimpArgs false
set_option linter.unusedVariables false
namespace Go.Proofs.Ytbngblmdcggfdaa
open Go.RowKit

def mailV (m : Mail) (la : Option Addr) (lc : Nat) (ga : Option Addr) (gc : Nat) : Value := .agg #[.int .i64 m.host, .int .i64 m.thread, .slice la m.label.length lc, .slice ga m.grants.length gc, .string m.text]

/-- New memory: blocks that did not lie in w. -/
abbrev newIn (w : World) : Nat → Prop := fun b => w.heap.size ≤ b

set_option maxHeartbeats 4000000 in
theorem ref_CopyMail (ok : Nat → Prop) (w : World) (m : Mail) (la : Option Addr) (lc : Nat) (ga : Option Addr) (gc : Nat) (hA : SlR ok w 2 RLev la lc m.label) (hB : SlR ok w 1 RInt ga gc m.grants) (hl : m.label.length * 16 ≤ 140737488355328) (hg : m.grants.length * 8 ≤ 140737488355328) :
    Calls Try.prog 10 #[mailV m la lc ga gc] w fun e w' => ∃ la' lc' ga' gc', e = .returned (mailV m la' lc' ga' gc') ∧ Below w.heap.size w w' ∧ SlR (newIn w) w' 2 RLev la' lc' m.label ∧ SlR (newIn w) w' 1 RInt ga' gc' m.grants := by
  obtain ⟨i0, hi, hz0, hz1, hz2⟩ := info_parts info_Level
  obtain ⟨j0, hj, hy0, hy1, hy2⟩ := info_parts info_int
  unfold mailV
  have st := St.start w
  go_enter Try.func10, Try.ntmps10
  go_wp2_with (first | (refine mem_box st (wanted_none rfl) 27 _ rfl _ rfl _ rfl ?_; clear st; intro g1 w1 hg1 st hg1b; clear hg1b; simp [Act.eval, Act.put, Value.cells, putL] at st) | (refine mem_alloc st (wanted_none rfl) 27 rfl _ Try.zeroValue27 _ rfl ?_; clear st; intro g2 w2 hg2 st hg2b; clear hg2b; simp [Act.eval, Act.put, Value.cells, putL] at st))
  have c2 : w2.cell? ⟨g1, 2, none⟩ = some (.slice la m.label.length lc) := st.cell (i := 0) rfl 2
  have c3 : w2.cell? ⟨g1, 3, none⟩ = some (.slice ga m.grants.length gc) := st.cell (i := 0) rfl 3
  have hz : g1 < w2.heap.size := st.ltAt (i := 0) rfl
  have hzz : g2 < w2.heap.size := st.ltAt (i := 1) rfl
  have f2 : w2.frozen? ⟨g1, 2, none⟩ = false := st.free (i := 0) rfl 2
  have f3 : w2.frozen? ⟨g1, 3, none⟩ = false := st.free (i := 0) rfl 3
  have h0 := (Below.refl w2.heap.size w2).drew
  have hw := st.below
  go_region_law (first
    | (refine step_copy (wanted_none rfl) _ _ 24 rfl 53 i0 _ 2 16 Try.underlying24 hi hz0 hz1 hz2 rfl (by decide) rfl rfl rfl (hA.below (hw.keep h0)) hl ?_; intro a1 k1 v1 hO1 hb1; replace hO1 := hO1.slr (ok := fun b => w2.heap.size ≤ b) (fun b hb => Nat.le_trans h0.size hb); replace h0 := h0.keep hb1; have d2 := (h0.cell (p := ⟨g1, 2, none⟩) hz).trans c2; have d3 := (h0.cell (p := ⟨g1, 3, none⟩) hz).trans c3; have e2 := (h0.frozen (p := ⟨g1, 2, none⟩) hz).trans f2; have e3 := (h0.frozen (p := ⟨g1, 3, none⟩) hz).trans f3)
    | (refine step_copy (wanted_none rfl) _ _ 25 rfl 3 j0 _ 1 8 Try.underlying25 hj hy0 hy1 hy2 rfl (by decide) rfl rfl rfl (hB.below (hw.keep h0)) hg ?_; intro a2 k2 v2 hO2 hb2; replace hO2 := hO2.slr (ok := fun b => w2.heap.size ≤ b) (fun b hb => Nat.le_trans h0.size hb); replace h0 := h0.keep hb2; have d2 := (h0.cell (p := ⟨g1, 2, none⟩) hz).trans c2; have d3 := (h0.cell (p := ⟨g1, 3, none⟩) hz).trans c3; have e2 := (h0.frozen (p := ⟨g1, 2, none⟩) hz).trans f2; have e3 := (h0.frozen (p := ⟨g1, 3, none⟩) hz).trans f3))
  all_goals
    first
      | replace hO1 := hO1.below hb2
      | replace hO2 := hO2.below hb1
    replace st := ((st.call h0).rebase.setCell (i := 0) rfl 2 (.slice a1 m.label.length k1)).setCell (i := 0) rfl 3 (.slice a2 m.grants.length k2)
    clear c2 c3 f2 f3 d2 d3 e2 e3 hb1 hb2
    go_wp2_with (first | ((first | refine mem_load_agg' st 27 _ rfl (wanted_none rfl) Try.isAgg27 _ Try.sizeOf27 ?_ | (refine mem_load_agg' st 27 _ rfl (wanted_some rfl ?_) Try.isAgg27 _ Try.sizeOf27 ?_; focus (simp [yielded, Act.put]; done))); refine ⟨0, _, _, _, _, _, rfl, rfl, rfl, rfl, ?_⟩) | ((first | refine mem_store' st 27 _ _ rfl (wanted_none rfl) _ Try.sizeOf27 ?_ | (refine mem_store' st 27 _ _ rfl (wanted_some rfl ?_) _ Try.sizeOf27 ?_; focus (simp [yielded, Act.put]; done))); refine ⟨1, _, _, _, _, _, rfl, rfl, rfl, rfl, rfl, rfl, ?_⟩; clear st; intro w3 st hw3m hw3z; simp [Act.eval, Act.put, Value.cells, putL] at st))
    have hc := fun j => st.cell (i := 1) rfl j
    have hk := st.keeps (ok := fun b => w2.heap.size ≤ b) (by simp; omega)
    refine bodyPost_ret (v := mailV m a1 k1 a2 k2) ?hr rfl ⟨_, _, _, _, rfl, ?_, ?_, ?_⟩
    case hr => simp [results, Try.results10, go_sem, hc, mailV, putL]
    · exact (hw.keep h0).trans (st.belowB (by have := hw.size; have := h0.size; omega) (by simp; omega))
    · exact (hO1.keep hk).okay (fun b hb => by have := hw.size; show w.heap.size ≤ b; omega)
    · exact (hO2.keep hk).okay (fun b hb => by have := hw.size; show w.heap.size ≤ b; omega)

end Go.Proofs.Ytbngblmdcggfdaa
