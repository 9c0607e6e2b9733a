/- Does trust answer at all? -/
import Derived.Test.YtbngblmdcggfdaaTrustT
set_option linter.unusedSimpArgs false
set_option linter.unusedVariables false
namespace Go.Proofs.Ytbngblmdcggfdaa
open Go.RowKit

theorem trustV_four (l : List Cert) (c now : Int) : trustV l c now = .agg (fourL (trustF l c now)).toArray := rfl

theorem guard_four (op : BinOp) (x y : Operand) (xs ys : Array Value) (W : World) : (eqGuard op 28 x y (.agg xs) (.agg ys)).run Try.prog W = .ok () W := run_eqGuard_agg W op _ x y xs ys (by kernel_rfl)

set_option maxRecDepth 100000 in
set_option maxHeartbeats 1000000 in
theorem trusts_law (w : World) : Calls Try.prog 16 #[] w fun e w' => e = .returned (.bool true) ∧ Below w.heap.size w w' := by
  have hne : ∀ W : World, (binOp .eql 28 (.agg #[.bool false, .bool true, .bool false, .bool true]) (.agg #[.bool false, .bool true, .bool false, .bool true])).run Try.prog W = .ok (.bool true) W := fun _ => by kernel_rfl
  have hgu := guard_four
  have HV := Lib.hid (show trustV [⟨25, 1, 3, 9⟩] 25 9 = .agg #[.bool false, .bool true, .bool false, .bool true] by rw [trustV_four, trusts_plain]; rfl)
  have st := St.start w
  go_enter Try.func16, Try.ntmps16
  go_wp2_with (first
    | go_skip | ((refine wpList_build1 st (wanted_none rfl) 22 43 _ rfl Try.underlying22 4 Try.sizeOf43 (by decide) (by decide) _ Try.zeroValue43 _ rfl rfl ?_; have stw1 := st; clear st; intro g1 w1 hg1 hg1e st hw1b hw1z; simp [Act.eval, Act.put, Value.cells, putL] at st); clear hg1e)
    | (go_at_call 6; go_must (refine (trust_Trusted (fun _ => True) _ _ _ [⟨25, 1, 3, 9⟩] 25 9 (SlR.ofBlk (R := RCert) (sz := 4) (x := ⟨25, 1, 3, 9⟩) (st.blk _ (List.mem_of_getElem? (i := 0) rfl)) rfl rfl rfl trivial)).mono ?_; rintro e v2 ⟨rfl, hb2⟩; rw [HV.out]; replace st := st.call hb2; clear hb2))
    | (refine mem_alloc st (wanted_none rfl) 28 rfl _ Try.zeroValue28 _ rfl ?_; clear st; intro g3 w3 hg3 st hg3b; clear hg3b; simp [Act.eval, Act.put, Value.cells, putL] at st) | ((first | refine mem_store' st 28 _ _ rfl (wanted_none rfl) _ Try.sizeOf28 ?_ | (refine mem_store' st 28 _ _ rfl (wanted_some rfl ?_) _ Try.sizeOf28 ?_; focus (simp [yielded, Act.put]; done))); refine ⟨1, _, _, _, _, _, rfl, rfl, rfl, rfl, rfl, rfl, ?_⟩; clear st; intro w4 st hw4m hw4z; simp [Act.eval, Act.put, Value.cells, putL] at st) | ((first | refine mem_load_agg' st 28 _ rfl (wanted_none rfl) Try.isAgg28 _ Try.sizeOf28 ?_ | (refine mem_load_agg' st 28 _ rfl (wanted_some rfl ?_) Try.isAgg28 _ Try.sizeOf28 ?_; focus (simp [yielded, Act.put]; done))); refine ⟨1, _, _, _, _, _, rfl, rfl, rfl, rfl, ?_⟩))
  go_ret
  exact ⟨rfl, st.below⟩

set_option maxRecDepth 100000 in
set_option maxHeartbeats 1000000 in
theorem trusts_keep (w : World) : Calls Try.prog 18 #[] w fun e w' => e = .returned (.bool true) ∧ Below w.heap.size w w' := by
  have hne : ∀ W : World, (binOp .eql 28 (.agg #[.bool false, .bool true, .bool false, .bool true]) (.agg #[.bool false, .bool true, .bool false, .bool true])).run Try.prog W = .ok (.bool true) W := fun _ => by kernel_rfl
  have hgu := guard_four
  have HV := Lib.hid (show trustV [⟨25, 1, 3, 9⟩] 25 9 = .agg #[.bool false, .bool true, .bool false, .bool true] by rw [trustV_four, trusts_plain]; rfl)
  have st := St.start w
  go_enter Try.func18, Try.ntmps18
  go_wp2_with (first
    | go_skip | ((refine wpList_build1 st (wanted_none rfl) 22 43 _ rfl Try.underlying22 4 Try.sizeOf43 (by decide) (by decide) _ Try.zeroValue43 _ rfl rfl ?_; have stw1 := st; clear st; intro g1 w1 hg1 hg1e st hw1b hw1z; simp [Act.eval, Act.put, Value.cells, putL] at st); clear hg1e)
    | (go_at_call 6; go_must (refine (trust_Trusted (fun _ => True) _ _ _ [⟨25, 1, 3, 9⟩] 25 9 (SlR.ofBlk (R := RCert) (sz := 4) (x := ⟨25, 1, 3, 9⟩) (st.blk _ (List.mem_of_getElem? (i := 0) rfl)) rfl rfl rfl trivial)).mono ?_; rintro e v2 ⟨rfl, hb2⟩; rw [HV.out]; replace st := st.call hb2; clear hb2))
    | (refine mem_alloc st (wanted_none rfl) 28 rfl _ Try.zeroValue28 _ rfl ?_; clear st; intro g3 w3 hg3 st hg3b; clear hg3b; simp [Act.eval, Act.put, Value.cells, putL] at st) | ((first | refine mem_store' st 28 _ _ rfl (wanted_none rfl) _ Try.sizeOf28 ?_ | (refine mem_store' st 28 _ _ rfl (wanted_some rfl ?_) _ Try.sizeOf28 ?_; focus (simp [yielded, Act.put]; done))); refine ⟨1, _, _, _, _, _, rfl, rfl, rfl, rfl, rfl, rfl, ?_⟩; clear st; intro w4 st hw4m hw4z; simp [Act.eval, Act.put, Value.cells, putL] at st) | ((first | refine mem_load_agg' st 28 _ rfl (wanted_none rfl) Try.isAgg28 _ Try.sizeOf28 ?_ | (refine mem_load_agg' st 28 _ rfl (wanted_some rfl ?_) Try.isAgg28 _ Try.sizeOf28 ?_; focus (simp [yielded, Act.put]; done))); refine ⟨1, _, _, _, _, _, rfl, rfl, rfl, rfl, ?_⟩))
  go_ret
  exact ⟨rfl, st.below⟩

end Go.Proofs.Ytbngblmdcggfdaa
