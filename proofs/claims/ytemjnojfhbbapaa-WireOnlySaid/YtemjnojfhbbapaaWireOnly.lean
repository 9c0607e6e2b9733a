/- For all bytes, what is read as a frame has just these bytes. No condition. -/
import Derived.Test.YtemjnojfhbbapaaRows
import Derived.WalkKit
import Derived.ProofKit
import Derived.OpenShut
import Derived.SizedLaws
import Derived.Test.YtemjnojfhbbapaaP2
import Derived.Test.YtemjnojfhbbapaaP5
import Derived.Test.YtemjnojfhbbapaaP13
set_option linter.unusedSimpArgs false
set_option linter.unusedVariables false
namespace Go.Proofs.Ytemjnojfhbbapaa.wireOnly
open Go.ChangeShapes Go.WideShapes Go.ChangeAt Go.RowKit

set_option maxRecDepth 100000 in
set_option maxHeartbeats 4000000 in
theorem walk (w : World) (s : ByteArray) (hl : s.size ≤ 9223372036854775807) : Calls Try.prog 7 #[.string s] w fun r w' => r = .returned (.bool true) ∧ Below w.heap.size w w' := by
  obtain ⟨⟨f, q⟩, HR⟩ : ∃ r, decR s.data.toList = r := ⟨_, rfl⟩
  have hfit := decR_fits s.data.toList
  have herr : q ≠ 0 → f = zeroF := fun h => by have := decR_err (s := s.data.toList) (by rw [HR]; exact h); rw [HR] at this; exact this
  have hgood : q = 0 → s.data.toList = encL f ∧ goodFrameC f = 0 := fun h => dec_only (by rw [HR, h])
  rw [HR] at hfit
  simp only at hfit
  have HD := Lib.hid (wire_DecodeB w s hl)
  unfold DecPost at HD
  rw [HR] at HD
  simp only at HD
  clear HR
  by_cases hq : q = 0
  · subst hq
    obtain ⟨he, hg⟩ := hgood rfl
    have HE := Lib.hid (fun (W : World) la lc ga gc ca cc h => wire_Encode (fun b => w.heap.size ≤ b) W f la lc ga gc ca cc hfit h)
    have he2 : encR f = (s, 0) := by unfold encR; rw [if_pos hg, ← he, ba_list]
    rw [he2] at HE
    clear he he2 hg herr hgood
    unfold frameV at HD HE
    go_enter Try.func7, Try.ntmps7
    go_wp2_with fail
    refine HD.out.mono ?_
    rintro e v1 ⟨la, lc, ga, gc, ca, cc, rfl, hF, hb⟩
    have st := St.start v1
    go_wp2_with (first
      | go_skip | (with_reducible refine at_alloc 29 ?_; refine mem_alloc st (wanted_none rfl) 29 rfl _ Try.zeroValue29 _ rfl ?_; clear st; intro g3 w3 hg3 st hg3b; clear hg3b; simp [Act.eval, Act.put, Value.cells, putL] at st) | (with_reducible refine at_store 29 ?_; (first | refine mem_store' st 29 _ _ rfl (wanted_none rfl) _ Try.sizeOf29 ?_ | (refine mem_store' st 29 _ _ rfl (wanted_some rfl ?_) _ Try.sizeOf29 ?_; focus (simp [yielded, Act.put]; done))); refine ⟨0, _, _, _, _, _, rfl, rfl, rfl, rfl, rfl, rfl, ?_⟩; clear st; intro w4 st hw4m hw4z; simp [Act.eval, Act.put, Value.cells, putL] at st) | (with_reducible refine at_load 29 ?_; (first | refine mem_load_agg' st 29 _ rfl (wanted_none rfl) Try.isAgg29 _ Try.sizeOf29 ?_ | (refine mem_load_agg' st 29 _ rfl (wanted_some rfl ?_) Try.isAgg29 _ Try.sizeOf29 ?_; focus (simp [yielded, Act.put]; done))); refine ⟨0, _, _, _, _, _, rfl, rfl, rfl, rfl, ?_⟩)
      | (go_at_call 22; go_must (refine (codes_keep _).mono ?_; rintro e v9 ⟨rfl, hb9⟩; replace st := st.call hb9))
      | (go_at_call 8; go_must (refine (HE.out _ la lc ga gc ca cc (hF.below st.below)).mono ?_; rintro e v10 ⟨rfl, hb10⟩; replace st := st.call hb10; clear hb10)))
    go_ret
    exact ⟨rfl, hb.keep st.below⟩
  · have hqb : (q != 0) = true := by simpa using hq
    obtain rfl := herr hq
    clear herr hgood hq hfit
    unfold frameV at HD
    have HS := Lib.hid (fun (W : World) la lc ga gc ca cc la' lc' ga' gc' ca' cc' h h' => keep_sameFrame (fun _ => True) (fun _ => True) W zeroF la lc ga gc ca cc la' lc' ga' gc' ca' cc' h h')
    unfold frameV at HS
    go_enter Try.func7, Try.ntmps7
    go_wp2_with fail
    refine HD.out.mono ?_
    rintro e v1 ⟨la, lc, ga, gc, ca, cc, rfl, hF, hb⟩
    have st := St.start v1
    have HZ := Lib.hid (fun (W : World) (h : Below v1.heap.size v1 W) => (⟨⟨(hF.mail.label.below h).okay fun _ _ => trivial, (hF.mail.grants.below h).okay fun _ _ => trivial⟩, (hF.certs.below h).okay fun _ _ => trivial⟩ : FrameR (fun _ => True) W zeroF la lc ga gc ca cc))
    go_wp2_with (first
      | go_skip | (with_reducible refine at_alloc 29 ?_; refine mem_alloc st (wanted_none rfl) 29 rfl _ Try.zeroValue29 _ rfl ?_; clear st; intro g3 w3 hg3 st hg3b; clear hg3b; simp [Act.eval, Act.put, Value.cells, putL] at st) | (with_reducible refine at_store 29 ?_; (first | refine mem_store' st 29 _ _ rfl (wanted_none rfl) _ Try.sizeOf29 ?_ | (refine mem_store' st 29 _ _ rfl (wanted_some rfl ?_) _ Try.sizeOf29 ?_; focus (simp [yielded, Act.put]; done))); refine ⟨0, _, _, _, _, _, rfl, rfl, rfl, rfl, rfl, rfl, ?_⟩; clear st; intro w4 st hw4m hw4z; simp [Act.eval, Act.put, Value.cells, putL] at st) | (with_reducible refine at_load 29 ?_; (first | refine mem_load_agg' st 29 _ rfl (wanted_none rfl) Try.isAgg29 _ Try.sizeOf29 ?_ | (refine mem_load_agg' st 29 _ rfl (wanted_some rfl ?_) Try.isAgg29 _ Try.sizeOf29 ?_; focus (simp [yielded, Act.put]; done))); refine ⟨0, _, _, _, _, _, rfl, rfl, rfl, rfl, ?_⟩)
      | (go_at_call 22; go_must (refine (codes_keep _).mono ?_; rintro e v9 ⟨rfl, hb9⟩; replace st := st.call hb9; clear hb9))
      | (go_at_call 24; go_must (refine (HS.out _ la lc ga gc ca cc none 0 none 0 none 0 (HZ.out _ st.below) ⟨⟨SlR.nil _ _ _ _, SlR.nil _ _ _ _⟩, SlR.nil _ _ _ _⟩).mono ?_; rintro e v10 ⟨rfl, hb10⟩; replace st := st.call hb10; clear hb10)))
    go_ret
    exact ⟨rfl, hb.keep st.below⟩

theorem own : ownKnob Try.prog.godebug = none := by kernel_rfl
theorem laid : laidOutB Try.prog = true := by kernel_rfl

set_option maxRecDepth 100000 in
theorem contract (H : Type) (enc : TypeId × Value → H) (W : World) (base : Nat) (args : Array Value) (ds gs : List (DataW H)) (before : List MemPlace)
    (hval : ∀ (j : Nat) t v, Try.f7.params[j]? = some t → args[j]? = some v → Value.okWide Try.prog W .any base t v)
    (hW : DataW.Whole enc Try.prog Try.f7.params.toList Rows.wireOnlySpec.vars false W args.toList ds gs before)
    (hsz : (DataW.weightsEach Try.prog (Try.f7.params.toList ++ Rows.wireOnlySpec.plain.varTypes Try.prog) (ds ++ gs)).all (· ≤ reachBytes) = true) :
    Calls Try.prog 7 args W fun e W' => ∃ v, e = .returned v ∧ Rows.wireOnlySpec.post enc Try.prog Try.f7 false true false false W args v W' := by
  have hW' := hW
  obtain ⟨p, q, hA0, hV, rfl, hfz, hnd⟩ := hW
  have hA : DataW.TrodAll enc Try.prog W 0 (fun _ => true) true Try.f7.params.toList args.toList ds p := hA0
  have hpar := Try.params7
  rw [hpar] at hA hval hsz
  obtain ⟨v0, vs0, d0, ds0, p0, q0, hargs0, rfl, rfl, h0, r0⟩ := trodAll_cons hA
  obtain ⟨hnil, rfl, rfl⟩ := trodAll_nil r0
  obtain rfl : args = #[v0] := by cases args; simp_all
  obtain ⟨rfl, rfl⟩ := trodVars_none hV
  have w0 : ∀ n ∈ d0.weights Try.prog 9, n ≤ reachBytes := fun n hn => by simpa using List.all_eq_true.1 hsz n (DataW.weights_mem_each (j := 0) (t := 9) (d := d0) rfl rfl n hn)
  obtain ⟨x0, rfl, hx0, hm0⟩ := arg_string Try.underlying9 (hval 0 _ v0 rfl rfl) h0 w0
  refine (walk W x0 (by first | exact hm0 | omega)).mono fun e W' ⟨he, hb⟩ => ?_
  exact ⟨_, he, law_post laid (by kernel_rfl) hW' rfl rfl (by kernel_rfl) Try.underlying4 hb⟩

set_option maxRecDepth 100000 in
theorem lifted (os : Os) (started : os.Started) (H : Type) (enc : TypeId × Value → H) :
    ReturnsInHanded {} Try.checked os 7 .any (Rows.wireOnlySpec.pre6 enc Try.prog Try.f7 Rows.wireOnlyRow.domain false) (Rows.wireOnlySpec.post enc Try.prog Try.f7 false true false false) := by
  refine returnsInHanded_of_change_sized (C := Try.checked) own started (by kernel_rfl) Try.func7
    (ChangeSpec.witness6 (enc := enc) (C := Try.checked) false ⟨#[], #[.string .empty], []⟩ 12 (by kernel_rfl) (by kernel_rfl) (by kernel_rfl) (by kernel_rfl)) ?_
  intro W base args ds gs before hval hW _ hsz _
  exact contract H enc W base args ds gs before hval hW hsz

theorem proved : Rows.WireOnlySaid :=
  OpenClaim.holds_of_wide 7 Try.f7 rfl rfl rfl rfl rfl rfl rfl ⟨rfl, rfl, rfl, rfl, rfl⟩ rfl rfl rfl rfl rfl (by kernel_rfl) Try.func7 (by kernel_rfl)
    (of_decide_eq_true (by kernel_rfl)) (by unfold Func.isWrapper; first | (rw [if_pos (by decide +kernel)]; kernel_rfl) | (rw [if_neg (by decide +kernel)]; exact ⟨rfl, rfl⟩))
    (fun os started H enc _ => lifted os started H enc)

end Go.Proofs.Ytemjnojfhbbapaa.wireOnly
