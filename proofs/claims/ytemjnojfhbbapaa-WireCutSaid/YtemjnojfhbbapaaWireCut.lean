/- For every frame, a beginning of its bytes, that is not all of them, is no frame. No condition. -/
import Derived.Test.YtemjnojfhbbapaaRows
import Derived.WalkKit
import Derived.ProofKit
import Derived.OpenShut
import Derived.SizedLaws
import Derived.Test.YtemjnojfhbbapaaP2
import Derived.Test.YtemjnojfhbbapaaP5
import Derived.Test.YtemjnojfhbbapaaP13
import Derived.Test.YtemjnojfhbbapaaP4
set_option linter.unusedSimpArgs false
set_option linter.unusedVariables false
namespace Go.Proofs.Ytemjnojfhbbapaa.wireCut
open Go.ChangeShapes Go.WideShapes Go.ChangeAt Go.RowKit

set_option maxRecDepth 100000 in
set_option maxHeartbeats 4000000 in
theorem walk (w : World) (f : Frame) (la : Option Addr) (lc : Nat) (ga : Option Addr) (gc : Nat) (ca : Option Addr) (cc : Nat) (n : Int) (hn : fitI n) (hfw : f.FitsW) (hR : FrameR (fun _ => True) w f la lc ga gc ca cc) :
    Calls Try.prog 5 #[frameV f la lc ga gc ca cc, .int .i64 n] w fun r w' => r = .returned (.bool true) ∧ Below w.heap.size w w' := by
  have HE := Lib.hid (fun (W : World) h => wire_Encode (fun _ => True) W f la lc ga gc ca cc hfw h)
  have st := St.start w
  by_cases hg : goodFrameC f = 0
  · have hl := encL_len hg
    have e0 : encR f = (⟨(encL f).toArray⟩, 0) := by unfold encR; rw [if_pos hg]
    rw [e0] at HE
    have hcut := fun k => dec_cut hg (k := k)
    have hne := encL_ne (f := f)
    generalize encL f = s at hl HE hcut hne
    have hpos : 0 < s.length := List.length_pos_iff.2 hne
    have hie : s.isEmpty = false := List.isEmpty_eq_false_iff.2 hne
    have HP := Lib.hid (fun (W : World) => keep_pick W n s.length (by omega) (by omega) hn)
    have HD := Lib.hid (fun (W : World) (j : Nat) (hj : j < s.length) => wire_Decode W (s.take j) (by simp; omega))
    have HC := Lib.hid hcut
    clear e0 hcut hg
    unfold frameV at *
    go_enter Try.func5, Try.ntmps5
    go_wp2_with (first
      | go_skip | (with_reducible refine at_box 29 ?_; refine mem_box st (wanted_none rfl) 29 _ rfl _ rfl _ rfl ?_; clear st; intro g1 w1 hg1 st hg1b; clear hg1b; simp [Act.eval, Act.put, Value.cells, putL] at st) | (with_reducible refine at_load 29 ?_; (first | refine mem_load_agg' st 29 _ rfl (wanted_none rfl) Try.isAgg29 _ Try.sizeOf29 ?_ | (refine mem_load_agg' st 29 _ rfl (wanted_some rfl ?_) Try.isAgg29 _ Try.sizeOf29 ?_; focus (simp [yielded, Act.put]; done))); refine ⟨0, _, _, _, _, _, rfl, rfl, rfl, rfl, ?_⟩)
      | (go_at_call 8; go_must (refine (HE.out _ (hR.below st.below)).mono ?_; rintro e v2 ⟨rfl, hb2⟩; replace st := st.call hb2; clear hb2))
      | (go_at_call 22; go_must (refine (codes_keep _).mono ?_; rintro e v3 ⟨rfl, hb3⟩; replace st := st.call hb3; clear hb3)))
    refine (HP.out _).mono ?_
    rintro e v4 ⟨⟨p, rfl, p0, p1⟩, rfl⟩
    obtain ⟨j, rfl⟩ := Int.eq_ofNat_of_zero_le p0
    have hjs : j < s.length := by omega
    go_wp2_with fail
    rw [ba_take]
    refine (HD.out _ j hjs).mono ?_
    intro e v5 hpost
    unfold DecPost at hpost
    rw [HC.out j hjs] at hpost
    obtain ⟨a1, k1, a2, k2, a3, k3, rfl, -, hb5⟩ := hpost
    unfold frameV
    replace st := st.call hb5
    clear hb5
    go_wp2_with (first | go_skip | (with_reducible refine at_alloc 29 ?_; refine mem_alloc st (wanted_none rfl) 29 rfl _ Try.zeroValue29 _ rfl ?_; clear st; intro g8 w8 hg8 st hg8b; clear hg8b; simp [Act.eval, Act.put, Value.cells, putL] at st) | (with_reducible refine at_store 29 ?_; (first | refine mem_store' st 29 _ _ rfl (wanted_none rfl) _ Try.sizeOf29 ?_ | (refine mem_store' st 29 _ _ rfl (wanted_some rfl ?_) _ Try.sizeOf29 ?_; focus (simp [yielded, Act.put]; done))); refine ⟨1, _, _, _, _, _, rfl, rfl, rfl, rfl, rfl, rfl, ?_⟩; clear st; intro w9 st hw9m hw9z; simp [Act.eval, Act.put, Value.cells, putL] at st))
    go_ret
    exact ⟨rfl, st.below⟩
  · have e0 : encR f = (⟨#[]⟩, goodFrameC f) := by unfold encR; rw [if_neg hg]
    rw [e0] at HE
    generalize goodFrameC f = q at hg HE
    have hqb : (q != 0) = true := by simpa using hg
    clear e0 hg
    unfold frameV at *
    go_enter Try.func5, Try.ntmps5
    go_wp2_with (first
      | go_skip | (with_reducible refine at_box 29 ?_; refine mem_box st (wanted_none rfl) 29 _ rfl _ rfl _ rfl ?_; clear st; intro g1 w1 hg1 st hg1b; clear hg1b; simp [Act.eval, Act.put, Value.cells, putL] at st) | (with_reducible refine at_load 29 ?_; (first | refine mem_load_agg' st 29 _ rfl (wanted_none rfl) Try.isAgg29 _ Try.sizeOf29 ?_ | (refine mem_load_agg' st 29 _ rfl (wanted_some rfl ?_) Try.isAgg29 _ Try.sizeOf29 ?_; focus (simp [yielded, Act.put]; done))); refine ⟨0, _, _, _, _, _, rfl, rfl, rfl, rfl, ?_⟩)
      | (go_at_call 8; go_must (refine (HE.out _ (hR.below st.below)).mono ?_; rintro e v2 ⟨rfl, hb2⟩; replace st := st.call hb2; clear hb2))
      | (go_at_call 22; go_must (refine (codes_keep _).mono ?_; rintro e v3 ⟨rfl, hb3⟩; replace st := st.call hb3; clear hb3)))
    go_ret
    exact ⟨by simp, st.below⟩

theorem own : ownKnob Try.prog.godebug = none := by kernel_rfl
theorem laid : laidOutB Try.prog = true := by kernel_rfl

set_option maxRecDepth 100000 in
theorem contract (H : Type) (enc : TypeId × Value → H) (W : World) (base : Nat) (args : Array Value) (ds gs : List (DataW H)) (before : List MemPlace)
    (hval : ∀ (j : Nat) t v, Try.f5.params[j]? = some t → args[j]? = some v → Value.okWide Try.prog W .any base t v)
    (hW : DataW.Whole enc Try.prog Try.f5.params.toList Rows.wireCutSpec.vars false W args.toList ds gs before)
    (hsz : (DataW.weightsEach Try.prog (Try.f5.params.toList ++ Rows.wireCutSpec.plain.varTypes Try.prog) (ds ++ gs)).all (· ≤ reachBytes) = true) :
    Calls Try.prog 5 args W fun e W' => ∃ v, e = .returned v ∧ Rows.wireCutSpec.post enc Try.prog Try.f5 false true false false W args v W' := by
  have hW' := hW
  obtain ⟨p, q, hTrd, hV, rfl, hfz, hnd⟩ := hW
  have hA : DataW.TrodAll enc Try.prog W 0 (fun _ => true) true Try.f5.params.toList args.toList ds p := hTrd
  have hpar := Try.params5
  rw [hpar] at hA hval hsz
  obtain ⟨v0, vs0, d0, ds0, p0, q0, hargs0, rfl, rfl, h0, r0⟩ := trodAll_cons hA
  obtain ⟨v1, vs1, d1, ds1, p1, q1, hargs1, rfl, rfl, h1, r1⟩ := trodAll_cons r0
  obtain ⟨hnil, rfl, rfl⟩ := trodAll_nil r1
  obtain rfl : args = #[v0, v1] := by cases args; simp_all
  obtain ⟨rfl, rfl⟩ := trodVars_none hV
  have w0 : ∀ n ∈ d0.weights Try.prog 29, n ≤ reachBytes := fun n hn => by simpa using List.all_eq_true.1 hsz n (DataW.weights_mem_each (j := 0) (t := 29) (d := d0) rfl rfl n hn)
  obtain ⟨x0, cs0, rfl, ⟨la0, lc0, ga0, gc0, ca0, cc0, rfl, hA0, hB0, hC0⟩, hx0, hm0⟩ := arg_struct reads_Frame Try.underlying29 (hval 0 _ v0 rfl rfl) h0 w0
  have w1 : ∀ n ∈ d1.weights Try.prog 3, n ≤ reachBytes := fun n hn => by simpa using List.all_eq_true.1 hsz n (DataW.weights_mem_each (j := 1) (t := 3) (d := d1) rfl rfl n hn)
  obtain ⟨x1, rfl, hx1⟩ := arg_int Try.underlying3 (hval 1 _ v1 rfl rfl) h1
  refine (walk W x0 la0 lc0 ga0 gc0 ca0 cc0 x1 hx1 ⟨by have := hx0.2.2.2.2.2.1.2.2.1.1; omega, by have := hx0.2.2.2.2.2.1.2.2.2.1.1; omega, by have := hx0.2.2.2.2.2.2.1; omega, by have := hx0.2.2.2.2.2.1.2.2.2.2; omega⟩ ⟨⟨hA0, hB0⟩, hC0⟩).mono fun e W' ⟨he, hb⟩ => ?_
  exact ⟨_, he, law_post laid (by kernel_rfl) hW' rfl rfl (by kernel_rfl) Try.underlying4 hb⟩

set_option maxRecDepth 100000 in
theorem lifted (os : Os) (started : os.Started) (H : Type) (enc : TypeId × Value → H) :
    ReturnsInHanded {} Try.checked os 5 .any (Rows.wireCutSpec.pre6 enc Try.prog Try.f5 Rows.wireCutRow.domain false) (Rows.wireCutSpec.post enc Try.prog Try.f5 false true false false) := by
  refine returnsInHanded_of_change_sized (C := Try.checked) own started (by kernel_rfl) Try.func5
    (ChangeSpec.witness6 (enc := enc) (C := Try.checked) false ⟨#[], #[.agg #[.int .i64 0, .int .i64 0, .int .i64 0, .bool false, .int .i64 0, .int .i64 0, .int .i64 0, .slice none 0 0, .slice none 0 0, .string .empty, .slice none 0 0], .int .i64 0], []⟩ 12 (by kernel_rfl) (by kernel_rfl) (by kernel_rfl) (by kernel_rfl)) ?_
  intro W base args ds gs before hval hW _ hsz _
  exact contract H enc W base args ds gs before hval hW hsz

theorem proved : Rows.WireCutSaid :=
  OpenClaim.holds_of_wide 5 Try.f5 rfl rfl rfl rfl rfl rfl rfl ⟨rfl, rfl, rfl, rfl, rfl⟩ rfl rfl rfl rfl rfl (by kernel_rfl) Try.func5 (by kernel_rfl)
    (of_decide_eq_true (by kernel_rfl)) (by unfold Func.isWrapper; first | (rw [if_pos (by decide +kernel)]; kernel_rfl) | (rw [if_neg (by decide +kernel)]; exact ⟨rfl, rfl⟩))
    (fun os started H enc _ => lifted os started H enc)

end Go.Proofs.Ytemjnojfhbbapaa.wireCut
