/- For all certs, Good and Add answer exactly what P4.1 says, errors too. No condition. -/
import Derived.Test.YtdjgfedccacbiaaRows
import Derived.WalkKit
import Derived.ProofKit
import Derived.OpenShut
import Derived.SizedLaws
import Derived.Test.YtdjgfedccacbiaaFrame
import Derived.Test.YtdjgfedccacbiaaOpens
import Derived.Test.YtdjgfedccacbiaaTrusts
import Derived.Test.YtdjgfedccacbiaaTrustRef
import Derived.Test.YtdjgfedccacbiaaSame
set_option linter.unusedSimpArgs false
set_option linter.unusedVariables false
namespace Go.Proofs.Ytdjgfedccacbiaa.trustAdds
open Go.ChangeShapes Go.WideShapes Go.ChangeAt Go.RowKit

set_option maxRecDepth 100000 in
theorem law_certs (ok : Nat → Prop) (w : World) (a : Option Addr) (c : Nat) (l : List Cert) (hl : l.length * 32 ≤ 140737488355328) (hR : SlR ok w 4 RCert a c l) :
    Calls Try.prog 5 #[.slice a l.length c] w fun e w' => ∃ a' c', e = .returned (.slice a' l.length c') ∧ Below w.heap.size w w' ∧ SlR (fun _ => True) w' 4 RCert a' c' l := by
  obtain ⟨i0, hi, hz0, hz1, hz2⟩ := info_parts info_Cert
  go_enter Try.func5, Try.ntmps5
  go_wp2_with (first | go_skip | (at_builtin; go_must (refine wpList_copy (wanted_none rfl) _ _ 22 rfl 24 i0 _ 4 32 Try.underlying22 hi hz0 hz1 hz2 rfl (by decide) rfl rfl rfl hR hl ?_; intro a' c' w' hO hb)))
  go_ret
  exact ⟨a', c', rfl, hb, hO.slr fun _ _ => trivial⟩

set_option maxRecDepth 100000 in
set_option maxHeartbeats 3000000 in
theorem walk (w : World) (l : List Cert) (la : Option Addr) (lc : Nat) (c : Cert) (hR : SlR (fun _ => True) w 4 RCert la lc l) (hf : l.length * 32 ≤ 140737488351232 ∧ ∀ y ∈ l, y.fit) :
    Calls Try.prog 3 #[.slice la l.length lc, .agg #[.int .i64 c.c, .int .i64 c.by_, .int .i64 c.host, .int .i64 c.till]] w fun r w' => r = .returned (.bool true) ∧ Below w.heap.size w w' := by
  generalize hr : addC l c = r
  obtain ⟨more, code⟩ := r
  have H0 := Lib.hid (fun (W : World) (h : SlR (fun _ => True) W 4 RCert la lc l) => law_certs (fun _ => True) W la lc l (by omega) h)
  have H1 := Lib.hid (fun (W : World) (a : Option Addr) (k : Nat) (h : SlR (fun _ => True) W 4 RCert a k l) => trust_Add (fun _ => True) W a k l c h (more, code) hr)
  have H2 := Lib.hid (fun (W : World) (h : SlR (fun _ => True) W 4 RCert la lc l) => ref_AddCert (fun _ => True) W la lc l c hf.2 (by omega) h (more, code) hr)
  have H3 := Lib.hid (fun (W : World) (h : SlR (fun _ => True) W 4 RCert la lc l) => ref_GoodCerts (fun _ => True) W la lc l hf.2 h)
  have H4 := Lib.hid (fun (W : World) (a : Option Addr) (k : Nat) (h : SlR (fun _ => True) W 4 RCert a k l) => trust_Good (fun _ => True) W a k l h)
  clear hr hf
  generalize goodCerts l = good at H3 H4
  have tk1 := trivial; have tk2 := trivial
  have st := St.start w
  go_enter Try.func3, Try.ntmps3
  go_wp2_with (first
    | go_skip | ((refine mem_box st (wanted_none rfl) 24 _ rfl _ rfl _ rfl ?_; clear st; intro g1 w1 hg1 st hg1b; clear hg1b; simp [Act.eval, Act.put, Value.cells, putL] at st); replace hR := hR.below st.below) | ((first | refine mem_load_agg' st 24 _ rfl (wanted_none rfl) Try.isAgg24 _ Try.sizeOf24 ?_ | (refine mem_load_agg' st 24 _ rfl (wanted_some rfl ?_) Try.isAgg24 _ Try.sizeOf24 ?_; focus (simp [yielded, Act.put]; done))); refine ⟨0, _, _, _, _, _, rfl, rfl, rfl, rfl, ?_⟩)
    | (go_at_call 5; clear tk1; go_must (refine (H0.out _ hR).mono ?_; rintro e v1 ⟨a1, k1, rfl, hb, hR1⟩; replace st := st.call hb; replace hR := hR.below hb; clear hb))
    | (go_at_call 6; go_must (refine (H1.out _ a1 k1 hR1).mono ?_; rintro e v2 ⟨a2, k2, rfl, hb, hR2⟩; replace hR2 := hR2.okay (fun _ _ => trivial : ∀ b, _ → True); replace st := st.call hb; replace hR := hR.below hb; replace hR1 := hR1.below hb; clear hb))
    | (go_at_call 7; go_must (refine (H2.out _ hR).mono ?_; rintro e v3 ⟨a3, k3, rfl, hb, hR3⟩; replace hR3 := hR3.okay (fun _ _ => trivial : ∀ b, _ → True); replace st := st.call hb; replace hR := hR.below hb; replace hR1 := hR1.below hb; replace hR2 := hR2.below hb; clear hb))
    | (go_at_call 8; clear tk2; go_must (refine (ref_SameCerts (fun _ => True) (fun _ => True) _ _ _ _ _ more more hR2 hR3).mono ?_; rintro e v4 ⟨rfl, hb⟩; rw [decide_eq_true (rfl : more = more)]; replace st := st.call hb; replace hR := hR.below hb; replace hR1 := hR1.below hb; clear hb))
    | (go_at_call 8; go_must (refine (ref_SameCerts (fun _ => True) (fun _ => True) _ _ _ _ _ l l hR1 hR).mono ?_; rintro e v4 ⟨rfl, hb⟩; rw [decide_eq_true (rfl : l = l)]; replace st := st.call hb; replace hR := hR.below hb; clear hb))
    | (go_at_call 5; go_must (refine (H0.out _ hR).mono ?_; rintro e v1 ⟨a5, k5, rfl, hb, hR5⟩; replace st := st.call hb; replace hR := hR.below hb; clear hb))
    | (go_at_call 9; go_must (refine (H4.out _ a5 k5 hR5).mono ?_; rintro e v1 ⟨rfl, hb⟩; replace st := st.call hb; replace hR := hR.below hb; clear hb))
    | (go_at_call 10; go_must (refine (H3.out _ hR).mono ?_; rintro e v1 ⟨rfl, hb⟩; replace st := st.call hb; clear hb))
    | (go_at_call 11; go_must (refine (trusts_law _).mono ?_; rintro e v1 ⟨rfl, hb⟩; replace st := st.call hb; clear hb)))
  go_ret
  exact ⟨by simp, st.below⟩

theorem own : ownKnob Try.prog.godebug = none := by kernel_rfl
theorem laid : laidOutB Try.prog = true := by kernel_rfl

set_option maxRecDepth 100000 in
theorem contract (H : Type) (enc : TypeId × Value → H) (W : World) (base : Nat) (args : Array Value) (ds gs : List (DataW H)) (before : List MemPlace)
    (hval : ∀ (j : Nat) t v, Try.f3.params[j]? = some t → args[j]? = some v → Value.okWide Try.prog W .any base t v)
    (hW : DataW.Whole enc Try.prog Try.f3.params.toList Rows.trustAddsSpec.vars false W args.toList ds gs before)
    (hsz : (DataW.weightsEach Try.prog (Try.f3.params.toList ++ Rows.trustAddsSpec.plain.varTypes Try.prog) (ds ++ gs)).all (· ≤ reachBytes) = true) :
    Calls Try.prog 3 args W fun e W' => ∃ v, e = .returned v ∧ Rows.trustAddsSpec.post enc Try.prog Try.f3 false true false false W args v W' := by
  have hW' := hW
  obtain ⟨p, q, hA0, hV, rfl, hfz, hnd⟩ := hW
  have hA : DataW.TrodAll enc Try.prog W 0 (fun _ => true) true Try.f3.params.toList args.toList ds p := hA0
  have hpar := Try.params3
  rw [hpar] at hA hval hsz
  obtain ⟨v0, vs0, d0, ds0, p0, q0, hargs0, rfl, rfl, h0, r0⟩ := trodAll_cons hA
  obtain ⟨v1, vs1, d1, ds1, p1, q1, hargs1, rfl, rfl, h1, r1⟩ := trodAll_cons r0
  obtain ⟨hnil, rfl, rfl⟩ := trodAll_nil r1
  obtain rfl : args = #[v0, v1] := by cases args; simp_all
  obtain ⟨rfl, rfl⟩ := trodVars_none hV
  have w0 : ∀ n ∈ d0.weights Try.prog 22, n ≤ reachBytes := fun n hn => by simpa using List.all_eq_true.1 hsz n (DataW.weights_mem_each (j := 0) (t := 22) (d := d0) rfl rfl n hn)
  obtain ⟨x0, a0, c0, rfl, hR0, hl0, hx0, hm0⟩ := arg_slice (fit := Cert.fit) (mass := Cert.mass) reads_Cert Try.underlying22 (by kernel_rfl : Try.prog.cellsOf _ = 4) (by decide) (by kernel_rfl : Try.prog.bytesOf _ = 32) (hval 0 _ v0 rfl rfl) h0 w0
  have w1 : ∀ n ∈ d1.weights Try.prog 24, n ≤ reachBytes := fun n hn => by simpa using List.all_eq_true.1 hsz n (DataW.weights_mem_each (j := 1) (t := 24) (d := d1) rfl rfl n hn)
  obtain ⟨x1, cs1, rfl, rfl, hx1, hm1⟩ := arg_struct reads_Cert Try.underlying24 (hval 1 _ v1 rfl rfl) h1 w1
  refine (walk W x0 a0 c0 x1 hR0 ⟨hl0, hx0⟩).mono fun e W' ⟨he, hb⟩ => ?_
  exact ⟨_, he, law_post laid (by kernel_rfl) hW' rfl rfl (by kernel_rfl) Try.underlying4 hb⟩

set_option maxRecDepth 100000 in
theorem lifted (os : Os) (started : os.Started) (H : Type) (enc : TypeId × Value → H) :
    ReturnsInHanded {} Try.checked os 3 .any (Rows.trustAddsSpec.pre6 enc Try.prog Try.f3 Rows.trustAddsRow.domain false) (Rows.trustAddsSpec.post enc Try.prog Try.f3 false true false false) := by
  refine returnsInHanded_of_change_sized (C := Try.checked) own started (by kernel_rfl) Try.func3
    (ChangeSpec.witness6 (enc := enc) (C := Try.checked) false ⟨#[], #[.slice none 0 0, .agg #[.int .i64 0, .int .i64 0, .int .i64 0, .int .i64 0]], []⟩ 12 (by kernel_rfl) (by kernel_rfl) (by kernel_rfl) (by kernel_rfl)) ?_
  intro W base args ds gs before hval hW _ hsz _
  exact contract H enc W base args ds gs before hval hW hsz

theorem proved : Rows.TrustAddsSaid :=
  OpenClaim.holds_of_wide 3 Try.f3 rfl rfl rfl rfl rfl rfl rfl ⟨rfl, rfl, rfl, rfl, rfl⟩ rfl rfl rfl rfl rfl (by kernel_rfl) Try.func3 (by kernel_rfl)
    (of_decide_eq_true (by kernel_rfl)) (by unfold Func.isWrapper; first | (rw [if_pos (by decide +kernel)]; kernel_rfl) | (rw [if_neg (by decide +kernel)]; exact ⟨rfl, rfl⟩))
    (fun os started H enc _ => lifted os started H enc)

end Go.Proofs.Ytdjgfedccacbiaa.trustAdds
