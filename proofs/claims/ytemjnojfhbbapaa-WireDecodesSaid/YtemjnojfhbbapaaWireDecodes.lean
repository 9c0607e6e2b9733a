/- For all bytes, Decode answers exactly what P2.4 says, errors too. No condition. -/
import Derived.Test.YtemjnojfhbbapaaRows
import Derived.WalkKit
import Derived.ProofKit
import Derived.OpenShut
import Derived.SizedLaws
import Derived.Test.YtemjnojfhbbapaaP2
import Derived.Test.YtemjnojfhbbapaaP5
import Derived.Test.YtemjnojfhbbapaaP7
import Derived.Test.YtemjnojfhbbapaaP12
import Derived.Test.YtemjnojfhbbapaaP14
set_option linter.unusedSimpArgs false
set_option linter.unusedVariables false
namespace Go.Proofs.Ytemjnojfhbbapaa.wireDecodes
open Go.ChangeShapes Go.WideShapes Go.ChangeAt Go.RowKit

set_option maxRecDepth 100000 in
set_option maxHeartbeats 4000000 in
theorem walk (w : World) (s : ByteArray) (hl : s.size ≤ 9223372036854775807) : Calls Try.prog 4 #[.string s] w fun r w' => r = .returned (.bool true) ∧ Below w.heap.size w w' := by
  obtain ⟨l, rfl⟩ : ∃ l : List UInt8, s = ba l := ⟨s.data.toList, by apply ByteArray.ext; simp⟩
  have hll : l.length ≤ 9223372036854775807 := by rw [ba_size] at hl; exact hl
  have HD := Lib.hid (fun (W : World) => wire_Decode W l hll)
  have HR := Lib.hid (fun (W : World) => ref_DecodeFrame W l hll)
  unfold DecPost at HD HR
  have HS := Lib.hid (fun (W : World) la lc ga gc ca cc la' lc' ga' gc' ca' cc' h h' => ref_SameFrame (fun _ => True) (fun _ => True) W (decR l).1 la lc ga gc ca cc la' lc' ga' gc' ca' cc' h h')
  generalize decR l = r at HD HR HS
  obtain ⟨f, q⟩ := r
  simp only at HD HR HS
  unfold frameV at *
  have st := St.start w
  clear hl hll
  go_enter Try.func4, Try.ntmps4
  go_wp2_with fail
  refine (HD.out _).mono ?_
  rintro e v1 ⟨a1, k1, a2, k2, a3, k3, rfl, hF, hb1⟩
  replace st := st.call hb1
  clear hb1
  have st1 := st
  replace st := st.rebase
  go_wp2_with (first | go_skip | (with_reducible refine at_alloc 29 ?_; refine mem_alloc st (wanted_none rfl) 29 rfl _ Try.zeroValue29 _ rfl ?_; clear st; intro g3 w3 hg3 st hg3b; clear hg3b; simp [Act.eval, Act.put, Value.cells, putL] at st) | (with_reducible refine at_store 29 ?_; (first | refine mem_store' st 29 _ _ rfl (wanted_none rfl) _ Try.sizeOf29 ?_ | (refine mem_store' st 29 _ _ rfl (wanted_some rfl ?_) _ Try.sizeOf29 ?_; focus (simp [yielded, Act.put]; done))); refine ⟨0, _, _, _, _, _, rfl, rfl, rfl, rfl, rfl, rfl, ?_⟩; clear st; intro w4 st hw4m hw4z; simp [Act.eval, Act.put, Value.cells, putL] at st))
  refine (HR.out _).mono ?_
  rintro e v5 ⟨a4, k4, a5, k5, a6, k6, rfl, hG, hb5⟩
  replace st := st.call hb5
  clear hb5
  have st5 := st
  replace st := st.rebase
  go_wp2_with (first
    | go_skip | (with_reducible refine at_alloc 29 ?_; refine mem_alloc st (wanted_none rfl) 29 rfl _ Try.zeroValue29 _ rfl ?_; clear st; intro g6 w6 hg6 st hg6b; clear hg6b; simp [Act.eval, Act.put, Value.cells, putL] at st) | (with_reducible refine at_store 29 ?_; (first | refine mem_store' st 29 _ _ rfl (wanted_none rfl) _ Try.sizeOf29 ?_ | (refine mem_store' st 29 _ _ rfl (wanted_some rfl ?_) _ Try.sizeOf29 ?_; focus (simp [yielded, Act.put]; done))); refine ⟨1, _, _, _, _, _, rfl, rfl, rfl, rfl, rfl, rfl, ?_⟩; clear st; intro w7 st hw7m hw7z; simp [Act.eval, Act.put, Value.cells, putL] at st) | (with_reducible refine at_load 29 ?_; (first | refine mem_load_agg' st 29 _ rfl (wanted_none rfl) Try.isAgg29 _ Try.sizeOf29 ?_ | (refine mem_load_agg' st 29 _ rfl (wanted_some rfl ?_) Try.isAgg29 _ Try.sizeOf29 ?_; focus (simp [yielded, Act.put]; done))); refine ⟨0, _, _, _, _, _, rfl, rfl, rfl, rfl, ?_⟩) | (with_reducible refine at_load 29 ?_; (first | refine mem_load_agg' st 29 _ rfl (wanted_none rfl) Try.isAgg29 _ Try.sizeOf29 ?_ | (refine mem_load_agg' st 29 _ rfl (wanted_some rfl ?_) Try.isAgg29 _ Try.sizeOf29 ?_; focus (simp [yielded, Act.put]; done))); refine ⟨1, _, _, _, _, _, rfl, rfl, rfl, rfl, ?_⟩)
    | (go_at_call 21; go_must (have hB5 := st5.below2 st (by simp); have hB1 := st1.below2 (St.back st5 st) (by simp); refine (HS.out _ a1 k1 a2 k2 a3 k3 a4 k4 a5 k5 a6 k6 ⟨⟨(hF.mail.label.below hB1).okay fun _ _ => trivial, (hF.mail.grants.below hB1).okay fun _ _ => trivial⟩, (hF.certs.below hB1).okay fun _ _ => trivial⟩ ⟨⟨(hG.mail.label.below hB5).okay fun _ _ => trivial, (hG.mail.grants.below hB5).okay fun _ _ => trivial⟩, (hG.certs.below hB5).okay fun _ _ => trivial⟩).mono ?_; rintro e v10 ⟨rfl, hb10⟩; replace st := st.call hb10; clear hb10))
    | (go_at_call 18; go_must (refine (codes_law _).mono ?_; rintro e v11 ⟨rfl, hb11⟩; replace st := st.call hb11; clear hb11)))
  go_ret
  exact ⟨rfl, st1.below.keep (st1.below2 (St.back st5 st) (by simp))⟩

theorem own : ownKnob Try.prog.godebug = none := by kernel_rfl
theorem laid : laidOutB Try.prog = true := by kernel_rfl

set_option maxRecDepth 100000 in
theorem contract (H : Type) (enc : TypeId × Value → H) (W : World) (base : Nat) (args : Array Value) (ds gs : List (DataW H)) (before : List MemPlace)
    (hval : ∀ (j : Nat) t v, Try.f4.params[j]? = some t → args[j]? = some v → Value.okWide Try.prog W .any base t v)
    (hW : DataW.Whole enc Try.prog Try.f4.params.toList Rows.wireDecodesSpec.vars false W args.toList ds gs before)
    (hsz : (DataW.weightsEach Try.prog (Try.f4.params.toList ++ Rows.wireDecodesSpec.plain.varTypes Try.prog) (ds ++ gs)).all (· ≤ reachBytes) = true) :
    Calls Try.prog 4 args W fun e W' => ∃ v, e = .returned v ∧ Rows.wireDecodesSpec.post enc Try.prog Try.f4 false true false false W args v W' := by
  have hW' := hW
  obtain ⟨p, q, hTrd, hV, rfl, hfz, hnd⟩ := hW
  have hA : DataW.TrodAll enc Try.prog W 0 (fun _ => true) true Try.f4.params.toList args.toList ds p := hTrd
  have hpar := Try.params4
  rw [hpar] at hA hval hsz
  obtain ⟨v0, vs0, d0, ds0, p0, q0, hargs0, rfl, rfl, h0, r0⟩ := trodAll_cons hA
  obtain ⟨hnil, rfl, rfl⟩ := trodAll_nil r0
  obtain rfl : args = #[v0] := by cases args; simp_all
  obtain ⟨rfl, rfl⟩ := trodVars_none hV
  have w0 : ∀ n ∈ d0.weights Try.prog 9, n ≤ reachBytes := fun n hn => by simpa using List.all_eq_true.1 hsz n (DataW.weights_mem_each (j := 0) (t := 9) (d := d0) rfl rfl n hn)
  obtain ⟨x0, rfl, hx0, hm0⟩ := arg_string Try.underlying9 (hval 0 _ v0 rfl rfl) h0 w0
  refine (walk W x0 (by first | exact hm0 | omega)).mono fun e W' ⟨he, hb⟩ => ?_
  exact ⟨_, he, law_post laid (by kernel_rfl) hW' rfl rfl (by kernel_rfl) Try.underlying4 hb⟩

set_option maxRecDepth 100000 in
theorem lifted (os : Os) (started : os.Started) (H : Type) (enc : TypeId × Value → H) :
    ReturnsInHanded {} Try.checked os 4 .any (Rows.wireDecodesSpec.pre6 enc Try.prog Try.f4 Rows.wireDecodesRow.domain false) (Rows.wireDecodesSpec.post enc Try.prog Try.f4 false true false false) := by
  refine returnsInHanded_of_change_sized (C := Try.checked) own started (by kernel_rfl) Try.func4
    (ChangeSpec.witness6 (enc := enc) (C := Try.checked) false ⟨#[], #[.string .empty], []⟩ 12 (by kernel_rfl) (by kernel_rfl) (by kernel_rfl) (by kernel_rfl)) ?_
  intro W base args ds gs before hval hW _ hsz _
  exact contract H enc W base args ds gs before hval hW hsz

theorem proved : Rows.WireDecodesSaid :=
  OpenClaim.holds_of_wide 4 Try.f4 rfl rfl rfl rfl rfl rfl rfl ⟨rfl, rfl, rfl, rfl, rfl⟩ rfl rfl rfl rfl rfl (by kernel_rfl) Try.func4 (by kernel_rfl)
    (of_decide_eq_true (by kernel_rfl)) (by unfold Func.isWrapper; first | (rw [if_pos (by decide +kernel)]; kernel_rfl) | (rw [if_neg (by decide +kernel)]; exact ⟨rfl, rfl⟩))
    (fun os started H enc _ => lifted os started H enc)

end Go.Proofs.Ytemjnojfhbbapaa.wireDecodes
