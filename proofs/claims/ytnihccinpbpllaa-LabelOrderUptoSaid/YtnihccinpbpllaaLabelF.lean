/- The walks through the laws' 'does label answer at all', and label.Flows for one who owns nothing. -/
import Derived.Test.YtnihccinpbpllaaLabel
import Derived.Test.YtnihccinpbpllaaMemB
set_option linter.unusedSimpArgs false
set_option linter.unusedVariables false
namespace Go.Proofs.Ytnihccinpbpllaa
open Go.RowKit

def lev32 : List Lev := [⟨3, 2⟩]

theorem label_Flows_nil (ok : Nat → Prop) (w : World) (la lb : Option Addr) (ca cb : Nat) (a b : List Lev) (hl : (a.length + b.length) * 16 ≤ 140737488355328) (hA : SlR ok w 2 RLev la ca a) (hB : SlR ok w 2 RLev lb cb b) :
    Calls Try.prog 16 #[.slice la a.length ca, .slice lb b.length cb, .slice none 0 0] w fun e w' => e = .returned (.bool (flowsL a b [])) ∧ Below w.heap.size w w' :=
  label_Flows ok w la lb none ca cb 0 a b [] hl (by simp) hA hB (SlR.nil ..)

set_option maxHeartbeats 1000000 in
theorem law_flows (w : World) : Calls Try.prog 15 #[] w fun e w' => e = .returned (.bool true) ∧ Below w.heap.size w w' := by
  have H1 := Lib.hid (show flowsL [] lev32 [] = true by decide)
  have H2 := Lib.hid (show flowsL lev32 [] [] = false by decide)
  have H3 := Lib.hid (show flowsL lev32 [] [3] = true by decide)
  have HA := Lib.hid (fun (W : World) (g : Nat) (h : SlR (fun _ => True) W 2 RLev (some ⟨g, 0, none⟩) 1 lev32) => label_Flows (fun _ => True) W none (some ⟨g, 0, none⟩) none 0 1 0 [] lev32 [] (by decide) (by decide) (SlR.nil ..) h (SlR.nil ..))
  have HB := Lib.hid (fun (W : World) (g : Nat) (h : SlR (fun _ => True) W 2 RLev (some ⟨g, 0, none⟩) 1 lev32) => label_Flows (fun _ => True) W (some ⟨g, 0, none⟩) none none 1 0 0 lev32 [] [] (by decide) (by decide) h (SlR.nil ..) (SlR.nil ..))
  have HC := Lib.hid (fun (W : World) (g g' : Nat) (h : SlR (fun _ => True) W 2 RLev (some ⟨g, 0, none⟩) 1 lev32) (h' : SlR (fun _ => True) W 1 RInt (some ⟨g', 0, none⟩) 1 [3]) => label_Flows (fun _ => True) W (some ⟨g, 0, none⟩) none (some ⟨g', 0, none⟩) 1 0 1 lev32 [] [3] (by decide) (by decide) h (SlR.nil ..) h')
  have st := St.start w
  go_enter Try.func15, Try.ntmps15
  go_wp2_with (first | go_skip | ((refine wpList_build1 st (wanted_none rfl) 23 43 _ rfl Try.underlying23 2 Try.sizeOf43 (by decide) (by decide) _ Try.zeroValue43 _ rfl rfl ?_; have stw1 := st; clear st; intro g1 w1 hg1 hg1e st hw1b hw1z; simp [Act.eval, Act.put, Value.cells, putL] at st); clear hg1e))
  have hS1 : SlR (fun _ => True) w1 2 RLev (some ⟨g1, 0, none⟩) 1 lev32 := SlR.ofBlk (R := RLev) (x := (⟨3, 2⟩ : Lev)) (sz := 2) (st.blk (g1, 43, [.int .i64 3, .int .i64 2]) (List.mem_of_getElem? (i := 0) rfl)) rfl rfl rfl trivial
  refine (HA.out w1 g1 hS1).mono ?_
  rintro e w2 ⟨rfl, hb2⟩
  rw [H1.out]
  have hS2 := hS1.below hb2
  replace st := st.call hb2
  clear hb2
  go_wp2_with fail
  refine (HB.out w2 g1 hS2).mono ?_
  rintro e w3 ⟨rfl, hb3⟩
  rw [H2.out]
  have hS3 := hS2.below hb3
  replace st := st.call hb3
  clear hb3
  go_wp2_with fail
  have st4 := st.new 3 [.int .i64 3]
  refine (HC.out _ g1 w3.heap.size (SlR.ofBlk (R := RLev) (x := (⟨3, 2⟩ : Lev)) (sz := 2) (st4.blk (g1, 43, [.int .i64 3, .int .i64 2]) (List.mem_of_getElem? (i := 0) rfl)) rfl rfl rfl trivial) (SlR.ofBlk (R := RInt) (x := (3 : Int)) (sz := 1) (st4.blk (w3.heap.size, 3, [.int .i64 3]) (List.mem_of_getElem? (i := 1) rfl)) rfl rfl rfl trivial)).mono ?_
  rintro e w5 ⟨rfl, hb5⟩
  rw [H3.out]
  replace st := st4.call hb5
  clear hb5
  go_wp2
  go_ret
  exact ⟨rfl, st.below⟩

set_option maxHeartbeats 1000000 in
theorem keep_flows (w : World) : Calls Try.prog 26 #[] w fun e w' => e = .returned (.bool true) ∧ Below w.heap.size w w' := by
  have H1 := Lib.hid (show flowsL [] lev32 [] = true by decide)
  have H2 := Lib.hid (show flowsL lev32 [] [] = false by decide)
  have H3 := Lib.hid (show flowsL lev32 [] [3] = true by decide)
  have HA := Lib.hid (fun (W : World) (g : Nat) (h : SlR (fun _ => True) W 2 RLev (some ⟨g, 0, none⟩) 1 lev32) => label_Flows (fun _ => True) W none (some ⟨g, 0, none⟩) none 0 1 0 [] lev32 [] (by decide) (by decide) (SlR.nil ..) h (SlR.nil ..))
  have HB := Lib.hid (fun (W : World) (g : Nat) (h : SlR (fun _ => True) W 2 RLev (some ⟨g, 0, none⟩) 1 lev32) => label_Flows (fun _ => True) W (some ⟨g, 0, none⟩) none none 1 0 0 lev32 [] [] (by decide) (by decide) h (SlR.nil ..) (SlR.nil ..))
  have HC := Lib.hid (fun (W : World) (g g' : Nat) (h : SlR (fun _ => True) W 2 RLev (some ⟨g, 0, none⟩) 1 lev32) (h' : SlR (fun _ => True) W 1 RInt (some ⟨g', 0, none⟩) 1 [3]) => label_Flows (fun _ => True) W (some ⟨g, 0, none⟩) none (some ⟨g', 0, none⟩) 1 0 1 lev32 [] [3] (by decide) (by decide) h (SlR.nil ..) h')
  have st := St.start w
  go_enter Try.func26, Try.ntmps26
  go_wp2_with (first | go_skip | ((refine wpList_build1 st (wanted_none rfl) 23 43 _ rfl Try.underlying23 2 Try.sizeOf43 (by decide) (by decide) _ Try.zeroValue43 _ rfl rfl ?_; have stw1 := st; clear st; intro g1 w1 hg1 hg1e st hw1b hw1z; simp [Act.eval, Act.put, Value.cells, putL] at st); clear hg1e))
  have hS1 : SlR (fun _ => True) w1 2 RLev (some ⟨g1, 0, none⟩) 1 lev32 := SlR.ofBlk (R := RLev) (x := (⟨3, 2⟩ : Lev)) (sz := 2) (st.blk (g1, 43, [.int .i64 3, .int .i64 2]) (List.mem_of_getElem? (i := 0) rfl)) rfl rfl rfl trivial
  refine (HA.out w1 g1 hS1).mono ?_
  rintro e w2 ⟨rfl, hb2⟩
  rw [H1.out]
  have hS2 := hS1.below hb2
  replace st := st.call hb2
  clear hb2
  go_wp2_with fail
  refine (HB.out w2 g1 hS2).mono ?_
  rintro e w3 ⟨rfl, hb3⟩
  rw [H2.out]
  have hS3 := hS2.below hb3
  replace st := st.call hb3
  clear hb3
  go_wp2_with fail
  have st4 := st.new 3 [.int .i64 3]
  refine (HC.out _ g1 w3.heap.size (SlR.ofBlk (R := RLev) (x := (⟨3, 2⟩ : Lev)) (sz := 2) (st4.blk (g1, 43, [.int .i64 3, .int .i64 2]) (List.mem_of_getElem? (i := 0) rfl)) rfl rfl rfl trivial) (SlR.ofBlk (R := RInt) (x := (3 : Int)) (sz := 1) (st4.blk (w3.heap.size, 3, [.int .i64 3]) (List.mem_of_getElem? (i := 1) rfl)) rfl rfl rfl trivial)).mono ?_
  rintro e w5 ⟨rfl, hb5⟩
  rw [H3.out]
  replace st := st4.call hb5
  clear hb5
  go_wp2
  go_ret
  exact ⟨rfl, st.below⟩

end Go.Proofs.Ytnihccinpbpllaa
