/- The walk through the law's 'does line answer at all'. -/
import Derived.Test.YtclocdhkpckolaaSendO
set_option linter.unusedSimpArgs false
set_option linter.unusedVariables false
namespace Go.Proofs.Ytclocdhkpckolaa
open Go.RowKit

set_option maxRecDepth 20000 in
set_option maxHeartbeats 1000000 in
theorem lines_yes (w : World) : Calls Try.prog 17 #[] w fun e w' => e = .returned (.bool true) ∧ Below w.heap.size w w' := by
  have hS := fun W => line_Send_ok (fun _ => True) W (fun _ _ => trivial) 0 0 none 0 [] ⟨false, false, false, false, false, false, false, false⟩ ⟨0, 0, 0, false, 0, ⟨0, 0, [], [], ⟨#[]⟩⟩, []⟩ none 0 none 0 none 0 3 (SlR.nil _ _ _ _) ⟨⟨SlR.nil _ _ _ _, SlR.nil _ _ _ _⟩, SlR.nil _ _ _ _⟩ (by rfl) (by omega) (by omega) (by simp) (by omega)
  have HS := Lib.hid hS
  clear hS
  have st := St.start w
  go_enter Try.func17, Try.ntmps17
  go_wp2_with (first
    | (go_at_call 10; refine (HS.out _).mono ?_; rintro r v1 ⟨a1, k1, rfl, hb1, hR1⟩; unfold lineV frameV; obtain ⟨b, o, la, lc, ga, gc, ca, cc, rfl, hb, _, _, _, _, _, _, _, _, _, _, _, _, _, f12⟩ := SlR.sent_at hR1 0 (by simp); simp at f12; clear st; have st := St.start v1)
    | (refine mem_alloc st (wanted_none rfl) 25 rfl _ Try.zeroValue25 _ rfl ?_; clear st; intro g1 w1 hg1 st hg1b; clear hg1b; simp [Act.eval, Act.put, Value.cells, putL] at st) | (refine mem_alloc st (wanted_none rfl) 33 rfl _ Try.zeroValue33 _ rfl ?_; clear st; intro g2 w2 hg2 st hg2b; clear hg2b; simp [Act.eval, Act.put, Value.cells, putL] at st) | ((first | refine mem_store' st 25 _ _ rfl (wanted_none rfl) _ Try.sizeOf25 ?_ | (refine mem_store' st 25 _ _ rfl (wanted_some rfl ?_) _ Try.sizeOf25 ?_; focus (simp [yielded, Act.put]; done))); refine ⟨0, _, _, _, _, _, rfl, rfl, rfl, rfl, rfl, rfl, ?_⟩; clear st; intro w3 st hw3m hw3z; simp [Act.eval, Act.put, Value.cells, putL] at st)
    | (((first | refine mem_store' st 33 _ _ rfl (wanted_none rfl) _ Try.sizeOf33 ?_ | (refine mem_store' st 33 _ _ rfl (wanted_some rfl ?_) _ Try.sizeOf33 ?_; focus (simp [yielded, Act.put]; done))); refine ⟨1, _, _, _, _, _, rfl, rfl, rfl, rfl, rfl, rfl, ?_⟩; clear st; intro w4 st hw4m hw4z; simp [Act.eval, Act.put, Value.cells, putL] at st); have q12 := (st.below.cell (p := ⟨b, o + 12, none⟩) hb).trans f12)
    | ((first | refine mem_load' st 3 _ rfl (wanted_none rfl) Try.isAgg3 ?_ | (refine mem_load' st 3 _ rfl (wanted_some rfl ?_) Try.isAgg3 ?_; focus (simp [yielded, Act.put]; done))); refine ⟨1, _, _, _, _, _, rfl, rfl, rfl, ?_⟩) | ((first | refine mem_load' st 22 _ rfl (wanted_none rfl) Try.isAgg22 ?_ | (refine mem_load' st 22 _ rfl (wanted_some rfl ?_) Try.isAgg22 ?_; focus (simp [yielded, Act.put]; done))); refine ⟨0, _, _, _, _, _, rfl, rfl, rfl, ?_⟩))
  go_ret
  exact ⟨by simp, hb1.keep st.below⟩

set_option maxRecDepth 20000 in
set_option maxHeartbeats 1000000 in
theorem keep_lines_yes (w : World) : Calls Try.prog 21 #[] w fun e w' => e = .returned (.bool true) ∧ Below w.heap.size w w' := by
  have hS := fun W => line_Send_ok (fun _ => True) W (fun _ _ => trivial) 0 0 none 0 [] ⟨false, false, false, false, false, false, false, false⟩ ⟨0, 0, 0, false, 0, ⟨0, 0, [], [], ⟨#[]⟩⟩, []⟩ none 0 none 0 none 0 3 (SlR.nil _ _ _ _) ⟨⟨SlR.nil _ _ _ _, SlR.nil _ _ _ _⟩, SlR.nil _ _ _ _⟩ (by rfl) (by omega) (by omega) (by simp) (by omega)
  have HS := Lib.hid hS
  clear hS
  have st := St.start w
  go_enter Try.func21, Try.ntmps21
  go_wp2_with (first
    | (go_at_call 10; refine (HS.out _).mono ?_; rintro r v1 ⟨a1, k1, rfl, hb1, hR1⟩; unfold lineV frameV; obtain ⟨b, o, la, lc, ga, gc, ca, cc, rfl, hb, _, _, _, _, _, _, _, _, _, _, _, _, _, f12⟩ := SlR.sent_at hR1 0 (by simp); simp at f12; clear st; have st := St.start v1)
    | (refine mem_alloc st (wanted_none rfl) 25 rfl _ Try.zeroValue25 _ rfl ?_; clear st; intro g1 w1 hg1 st hg1b; clear hg1b; simp [Act.eval, Act.put, Value.cells, putL] at st) | (refine mem_alloc st (wanted_none rfl) 33 rfl _ Try.zeroValue33 _ rfl ?_; clear st; intro g2 w2 hg2 st hg2b; clear hg2b; simp [Act.eval, Act.put, Value.cells, putL] at st) | ((first | refine mem_store' st 25 _ _ rfl (wanted_none rfl) _ Try.sizeOf25 ?_ | (refine mem_store' st 25 _ _ rfl (wanted_some rfl ?_) _ Try.sizeOf25 ?_; focus (simp [yielded, Act.put]; done))); refine ⟨0, _, _, _, _, _, rfl, rfl, rfl, rfl, rfl, rfl, ?_⟩; clear st; intro w3 st hw3m hw3z; simp [Act.eval, Act.put, Value.cells, putL] at st)
    | (((first | refine mem_store' st 33 _ _ rfl (wanted_none rfl) _ Try.sizeOf33 ?_ | (refine mem_store' st 33 _ _ rfl (wanted_some rfl ?_) _ Try.sizeOf33 ?_; focus (simp [yielded, Act.put]; done))); refine ⟨1, _, _, _, _, _, rfl, rfl, rfl, rfl, rfl, rfl, ?_⟩; clear st; intro w4 st hw4m hw4z; simp [Act.eval, Act.put, Value.cells, putL] at st); have q12 := (st.below.cell (p := ⟨b, o + 12, none⟩) hb).trans f12)
    | ((first | refine mem_load' st 3 _ rfl (wanted_none rfl) Try.isAgg3 ?_ | (refine mem_load' st 3 _ rfl (wanted_some rfl ?_) Try.isAgg3 ?_; focus (simp [yielded, Act.put]; done))); refine ⟨1, _, _, _, _, _, rfl, rfl, rfl, ?_⟩) | ((first | refine mem_load' st 22 _ rfl (wanted_none rfl) Try.isAgg22 ?_ | (refine mem_load' st 22 _ rfl (wanted_some rfl ?_) Try.isAgg22 ?_; focus (simp [yielded, Act.put]; done))); refine ⟨0, _, _, _, _, _, rfl, rfl, rfl, ?_⟩))
  go_ret
  exact ⟨by simp, hb1.keep st.below⟩


end Go.Proofs.Ytclocdhkpckolaa
