/- For every frame, its bytes are read as it was, and not with something behind. No condition. -/
import Derived.Test.YtemjnojfhbbapaaRows
import Derived.WalkKit
import Derived.ProofKit
import Derived.OpenShut
import Derived.SizedLaws
import Derived.Test.YtemjnojfhbbapaaP2
import Derived.Test.YtemjnojfhbbapaaP5
import Derived.Test.YtemjnojfhbbapaaP13
set_option linter.unusedSimpArgs false
set_option linter.unusedVariables false
namespace Go.Proofs.Ytemjnojfhbbapaa.wireBack
open Go.ChangeShapes Go.WideShapes Go.ChangeAt Go.RowKit

set_option maxRecDepth 100000 in
set_option maxHeartbeats 4000000 in
theorem walk (w : World) (f : Frame) (la : Option Addr) (lc : Nat) (ga : Option Addr) (gc : Nat) (ca : Option Addr) (cc : Nat) (hfw : f.FitsW) (hR : FrameR (fun _ => True) w f la lc ga gc ca cc) :
    Calls Try.prog 6 #[frameV f la lc ga gc ca cc] w fun r w' => r = .returned (.bool true) ∧ Below w.heap.size w w' := by
  have HE := Lib.hid (fun (W : World) h => wire_Encode (fun _ => True) W f la lc ga gc ca cc hfw h)
  have st := St.start w
  by_cases hg : goodFrameC f = 0
  · have hl := encL_len hg
    have e0 : encR f = (⟨(encL f).toArray⟩, 0) := by unfold encR; rw [if_pos hg]
    rw [e0] at HE
    have hd1 := dec_enc hg
    have hd2 := dec_more hg 120 []
    generalize encL f = s at hl HE hd1 hd2
    have HD1 := Lib.hid (fun (W : World) => wire_Decode W s (by omega))
    have HD2 := Lib.hid (fun (W : World) => wire_Decode W (s ++ [120]) (by simp; omega))
    unfold DecPost at HD1 HD2
    rw [hd1] at HD1
    rw [hd2] at HD2
    have hap : ((⟨s.toArray⟩ : ByteArray) ++ ⟨#[120]⟩) = ⟨(s ++ [120]).toArray⟩ := by
      apply ByteArray.ext
      simp
    have HS := Lib.hid (fun (W : World) la' lc' ga' gc' ca' cc' h h' => keep_sameFrame (fun _ => True) (fun _ => True) W f la lc ga gc ca cc la' lc' ga' gc' ca' cc' h h')
    clear e0 hd1 hd2 hg
    unfold frameV at *
    go_enter Try.func6, Try.ntmps6
    go_wp2_with (first
      | go_skip | (with_reducible refine at_box 29 ?_; refine mem_box st (wanted_none rfl) 29 _ rfl _ rfl _ rfl ?_; clear st; intro g1 w1 hg1 st hg1b; clear hg1b; simp [Act.eval, Act.put, Value.cells, putL] at st) | (with_reducible refine at_load 29 ?_; (first | refine mem_load_agg' st 29 _ rfl (wanted_none rfl) Try.isAgg29 _ Try.sizeOf29 ?_ | (refine mem_load_agg' st 29 _ rfl (wanted_some rfl ?_) Try.isAgg29 _ Try.sizeOf29 ?_; focus (simp [yielded, Act.put]; done))); refine ⟨0, _, _, _, _, _, rfl, rfl, rfl, rfl, ?_⟩)
      | (go_at_call 8; go_must (refine (HE.out _ (hR.below st.below)).mono ?_; rintro e v2 ⟨rfl, hb2⟩; replace st := st.call hb2; clear hb2))
      | (go_at_call 22; go_must (refine (codes_keep _).mono ?_; rintro e v3 ⟨rfl, hb3⟩; replace st := st.call hb3; clear hb3)))
    refine (HD1.out _).mono ?_
    rintro e v4 ⟨a1, k1, a2, k2, a3, k3, rfl, hF, hb4⟩
    replace st := st.call hb4
    clear hb4
    have st4 := st
    replace st := st.rebase
    go_wp2_with (first | go_skip | (with_reducible refine at_alloc 29 ?_; refine mem_alloc st (wanted_none rfl) 29 rfl _ Try.zeroValue29 _ rfl ?_; clear st; intro g5 w5 hg5 st hg5b; clear hg5b; simp [Act.eval, Act.put, Value.cells, putL] at st) | (with_reducible refine at_store 29 ?_; (first | refine mem_store' st 29 _ _ rfl (wanted_none rfl) _ Try.sizeOf29 ?_ | (refine mem_store' st 29 _ _ rfl (wanted_some rfl ?_) _ Try.sizeOf29 ?_; focus (simp [yielded, Act.put]; done))); refine ⟨1, _, _, _, _, _, rfl, rfl, rfl, rfl, rfl, rfl, ?_⟩; clear st; intro w6 st hw6m hw6z; simp [Act.eval, Act.put, Value.cells, putL] at st))
    refine (HD2.out _).mono ?_
    rintro e v7 ⟨a4, k4, a5, k5, a6, k6, rfl, _, hb7⟩
    replace st := st.call hb7
    clear hb7
    go_wp2_with (first
      | go_skip | (with_reducible refine at_alloc 29 ?_; refine mem_alloc st (wanted_none rfl) 29 rfl _ Try.zeroValue29 _ rfl ?_; clear st; intro g8 w8 hg8 st hg8b; clear hg8b; simp [Act.eval, Act.put, Value.cells, putL] at st) | (with_reducible refine at_store 29 ?_; (first | refine mem_store' st 29 _ _ rfl (wanted_none rfl) _ Try.sizeOf29 ?_ | (refine mem_store' st 29 _ _ rfl (wanted_some rfl ?_) _ Try.sizeOf29 ?_; focus (simp [yielded, Act.put]; done))); refine ⟨2, _, _, _, _, _, rfl, rfl, rfl, rfl, rfl, rfl, ?_⟩; clear st; intro w9 st hw9m hw9z; simp [Act.eval, Act.put, Value.cells, putL] at st) | (with_reducible refine at_load 29 ?_; (first | refine mem_load_agg' st 29 _ rfl (wanted_none rfl) Try.isAgg29 _ Try.sizeOf29 ?_ | (refine mem_load_agg' st 29 _ rfl (wanted_some rfl ?_) Try.isAgg29 _ Try.sizeOf29 ?_; focus (simp [yielded, Act.put]; done))); refine ⟨0, _, _, _, _, _, rfl, rfl, rfl, rfl, ?_⟩) | (with_reducible refine at_load 29 ?_; (first | refine mem_load_agg' st 29 _ rfl (wanted_none rfl) Try.isAgg29 _ Try.sizeOf29 ?_ | (refine mem_load_agg' st 29 _ rfl (wanted_some rfl ?_) Try.isAgg29 _ Try.sizeOf29 ?_; focus (simp [yielded, Act.put]; done))); refine ⟨1, _, _, _, _, _, rfl, rfl, rfl, rfl, ?_⟩)
      | (go_at_call 24; go_must (have hB4 := st4.below2 st (by simp); refine (HS.out _ a1 k1 a2 k2 a3 k3 (hR.below (st4.below.keep hB4)) ⟨⟨(hF.mail.label.below hB4).okay fun _ _ => trivial, (hF.mail.grants.below hB4).okay fun _ _ => trivial⟩, (hF.certs.below hB4).okay fun _ _ => trivial⟩).mono ?_; rintro e v10 ⟨rfl, hb10⟩; replace st := st.call hb10; clear hb10)))
    go_ret
    exact ⟨rfl, st4.below.keep (st4.below2 st (by simp))⟩
  · have e0 : encR f = (⟨#[]⟩, goodFrameC f) := by unfold encR; rw [if_neg hg]
    rw [e0] at HE
    have HG := Lib.hid (fun (W : World) h => wire_Good (fun _ => True) W f la lc ga gc ca cc hfw h)
    generalize goodFrameC f = q at hg HE HG
    have hqb : (q != 0) = true := by simpa using hg
    clear e0 hg
    unfold frameV at *
    go_enter Try.func6, Try.ntmps6
    go_wp2_with (first
      | go_skip | (with_reducible refine at_box 29 ?_; refine mem_box st (wanted_none rfl) 29 _ rfl _ rfl _ rfl ?_; clear st; intro g1 w1 hg1 st hg1b; clear hg1b; simp [Act.eval, Act.put, Value.cells, putL] at st) | (with_reducible refine at_load 29 ?_; (first | refine mem_load_agg' st 29 _ rfl (wanted_none rfl) Try.isAgg29 _ Try.sizeOf29 ?_ | (refine mem_load_agg' st 29 _ rfl (wanted_some rfl ?_) Try.isAgg29 _ Try.sizeOf29 ?_; focus (simp [yielded, Act.put]; done))); refine ⟨0, _, _, _, _, _, rfl, rfl, rfl, rfl, ?_⟩)
      | (go_at_call 8; go_must (refine (HE.out _ (hR.below st.below)).mono ?_; rintro e v2 ⟨rfl, hb2⟩; replace st := st.call hb2; clear hb2))
      | (go_at_call 11; go_must (refine (HG.out _ (hR.below st.below)).mono ?_; rintro e v2 ⟨rfl, hb2⟩; replace st := st.call hb2; clear hb2))
      | (go_at_call 22; go_must (refine (codes_keep _).mono ?_; rintro e v3 ⟨rfl, hb3⟩; replace st := st.call hb3; clear hb3)))
    go_ret
    exact ⟨by simp, st.below⟩

theorem own : ownKnob Try.prog.godebug = none := by kernel_rfl
theorem laid : laidOutB Try.prog = true := by kernel_rfl

set_option maxRecDepth 100000 in
theorem contract (H : Type) (enc : TypeId × Value → H) (W : World) (base : Nat) (args : Array Value) (ds gs : List (DataW H)) (before : List MemPlace)
    (hval : ∀ (j : Nat) t v, Try.f6.params[j]? = some t → args[j]? = some v → Value.okWide Try.prog W .any base t v)
    (hW : DataW.Whole enc Try.prog Try.f6.params.toList Rows.wireBackSpec.vars false W args.toList ds gs before)
    (hsz : (DataW.weightsEach Try.prog (Try.f6.params.toList ++ Rows.wireBackSpec.plain.varTypes Try.prog) (ds ++ gs)).all (· ≤ reachBytes) = true) :
    Calls Try.prog 6 args W fun e W' => ∃ v, e = .returned v ∧ Rows.wireBackSpec.post enc Try.prog Try.f6 false true false false W args v W' := by
  have hW' := hW
  obtain ⟨p, q, hTrd, hV, rfl, hfz, hnd⟩ := hW
  have hA : DataW.TrodAll enc Try.prog W 0 (fun _ => true) true Try.f6.params.toList args.toList ds p := hTrd
  have hpar := Try.params6
  rw [hpar] at hA hval hsz
  obtain ⟨v0, vs0, d0, ds0, p0, q0, hargs0, rfl, rfl, h0, r0⟩ := trodAll_cons hA
  obtain ⟨hnil, rfl, rfl⟩ := trodAll_nil r0
  obtain rfl : args = #[v0] := by cases args; simp_all
  obtain ⟨rfl, rfl⟩ := trodVars_none hV
  have w0 : ∀ n ∈ d0.weights Try.prog 29, n ≤ reachBytes := fun n hn => by simpa using List.all_eq_true.1 hsz n (DataW.weights_mem_each (j := 0) (t := 29) (d := d0) rfl rfl n hn)
  obtain ⟨x0, cs0, rfl, ⟨la0, lc0, ga0, gc0, ca0, cc0, rfl, hA0, hB0, hC0⟩, hx0, hm0⟩ := arg_struct reads_Frame Try.underlying29 (hval 0 _ v0 rfl rfl) h0 w0
  refine (walk W x0 la0 lc0 ga0 gc0 ca0 cc0 ⟨by have := hx0.2.2.2.2.2.1.2.2.1.1; omega, by have := hx0.2.2.2.2.2.1.2.2.2.1.1; omega, by have := hx0.2.2.2.2.2.2.1; omega, by have := hx0.2.2.2.2.2.1.2.2.2.2; omega⟩ ⟨⟨hA0, hB0⟩, hC0⟩).mono fun e W' ⟨he, hb⟩ => ?_
  exact ⟨_, he, law_post laid (by kernel_rfl) hW' rfl rfl (by kernel_rfl) Try.underlying4 hb⟩

set_option maxRecDepth 100000 in
theorem lifted (os : Os) (started : os.Started) (H : Type) (enc : TypeId × Value → H) :
    ReturnsInHanded {} Try.checked os 6 .any (Rows.wireBackSpec.pre6 enc Try.prog Try.f6 Rows.wireBackRow.domain false) (Rows.wireBackSpec.post enc Try.prog Try.f6 false true false false) := by
  refine returnsInHanded_of_change_sized (C := Try.checked) own started (by kernel_rfl) Try.func6
    (ChangeSpec.witness6 (enc := enc) (C := Try.checked) false ⟨#[], #[.agg #[.int .i64 0, .int .i64 0, .int .i64 0, .bool false, .int .i64 0, .int .i64 0, .int .i64 0, .slice none 0 0, .slice none 0 0, .string .empty, .slice none 0 0]], []⟩ 12 (by kernel_rfl) (by kernel_rfl) (by kernel_rfl) (by kernel_rfl)) ?_
  intro W base args ds gs before hval hW _ hsz _
  exact contract H enc W base args ds gs before hval hW hsz

theorem proved : Rows.WireBackSaid :=
  OpenClaim.holds_of_wide 6 Try.f6 rfl rfl rfl rfl rfl rfl rfl ⟨rfl, rfl, rfl, rfl, rfl⟩ rfl rfl rfl rfl rfl (by kernel_rfl) Try.func6 (by kernel_rfl)
    (of_decide_eq_true (by kernel_rfl)) (by unfold Func.isWrapper; first | (rw [if_pos (by decide +kernel)]; kernel_rfl) | (rw [if_neg (by decide +kernel)]; exact ⟨rfl, rfl⟩))
    (fun os started H enc _ => lifted os started H enc)

end Go.Proofs.Ytemjnojfhbbapaa.wireBack
