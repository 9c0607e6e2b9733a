/- For all labels, Join and Meet are exactly what P1.4 says. The condition: arguments of at most 2^20 parts together (the statement's own 'Upto'). -/
import Derived.Test.YtnihccinpbpllaaRows
import Derived.Test.YtnihccinpbpllaaP12
import Derived.Test.YtnihccinpbpllaaP10
import Derived.Test.YtnihccinpbpllaaP6
import Derived.Test.YtnihccinpbpllaaP4
import Derived.Test.YtnihccinpbpllaaP11
import Derived.SizedLaws
set_option linter.unusedSimpArgs false
set_option linter.unusedVariables false
namespace Go.Proofs.Ytnihccinpbpllaa.labelJoins
open Go.ChangeShapes Go.WideShapes Go.ChangeAt Go.RowKit

set_option maxRecDepth 100000 in
set_option maxHeartbeats 4000000 in
theorem walk (w : World) (a b : List Lev) (la lb : Option Addr) (ca cb : Nat) (hfa : ∀ y ∈ a, y.fit) (hfb : ∀ y ∈ b, y.fit) (hA : SlR (fun _ => True) w 2 RLev la ca a) (hB : SlR (fun _ => True) w 2 RLev lb cb b)
    (ha : a.length ≤ 1048576) (hb0 : b.length ≤ 1048576) :
    Calls Try.prog 3 #[.slice la a.length ca, .slice lb b.length cb] w fun e w' => e = .returned (.bool true) ∧ Below w.heap.size w w' := by
  have HFa := Lib.hid hfa
  have HFb := Lib.hid hfb
  clear hfa hfb
  have hW := Below.refl w.heap.size w
  go_enter Try.func3, Try.ntmps3
  go_wp2_with fail
  refine (law_levels (fun _ => True) _ la ca a (by omega) (hA.below hW)).mono ?_
  rintro e w0 ⟨a1, k1, rfl, hb, hO1⟩
  have hS1 := hO1.slr (fun _ _ => trivial : ∀ b, _ → True); clear hO1
  replace hW := hW.keep hb
  clear hb
  go_wp2_with fail
  refine (law_levels (fun _ => True) _ lb cb b (by omega) (hB.below hW)).mono ?_
  rintro e w1 ⟨a2, k2, rfl, hb, hO2⟩
  have hS2 := hO2.slr (fun _ _ => trivial : ∀ b, _ → True); clear hO2
  replace hS1 := hS1.below hb
  replace hW := hW.keep hb
  clear hb
  go_wp2_with fail
  refine (label_Join (fun _ => True) _ _ _ _ _ a b (by omega) hS1 hS2).mono ?_
  rintro e w2 ⟨a3, k3, rfl, hb, hO3⟩
  have hS3 := hO3.slr (fun _ _ => trivial : ∀ b, _ → True); clear hO3 hS1 hS2
  replace hW := hW.keep hb
  clear hb
  go_wp2_with fail
  refine (ref_Join (fun _ => True) _ la lb ca cb a b HFa.out HFb.out (by omega) (hA.below hW) (hB.below hW)).mono ?_
  rintro e w3 ⟨a4, k4, rfl, hb, hO4⟩
  have hS4 := hO4.okay (fun _ _ => trivial : ∀ b, _ → True); clear hO4
  replace hS3 := hS3.below hb
  replace hW := hW.keep hb
  clear hb
  go_wp2_with fail
  refine (ref_SameLabel (fun _ => True) (fun _ => True) _ _ _ _ _ (bothL max a b) (bothL max a b) hS3 hS4).mono ?_
  rintro e w4 ⟨rfl, hb⟩
  rw [decide_eq_true (rfl : bothL max a b = bothL max a b)]; clear hS3 hS4
  replace hW := hW.keep hb
  clear hb
  go_wp2_with fail
  refine (law_levels (fun _ => True) _ la ca a (by omega) (hA.below hW)).mono ?_
  rintro e w5 ⟨a11, k11, rfl, hb, hO11⟩
  have hS11 := hO11.slr (fun _ _ => trivial : ∀ b, _ → True); clear hO11
  replace hW := hW.keep hb
  clear hb
  go_wp2_with fail
  refine (law_levels (fun _ => True) _ lb cb b (by omega) (hB.below hW)).mono ?_
  rintro e w6 ⟨a12, k12, rfl, hb, hO12⟩
  have hS12 := hO12.slr (fun _ _ => trivial : ∀ b, _ → True); clear hO12
  replace hS11 := hS11.below hb
  replace hW := hW.keep hb
  clear hb
  go_wp2_with fail
  refine (label_Meet (fun _ => True) _ _ _ _ _ a b (by omega) hS11 hS12).mono ?_
  rintro e w7 ⟨a13, k13, rfl, hb, hO13⟩
  have hS13 := hO13.slr (fun _ _ => trivial : ∀ b, _ → True); clear hO13 hS11 hS12
  replace hW := hW.keep hb
  clear hb
  go_wp2_with fail
  refine (ref_Meet (fun _ => True) _ la lb ca cb a b HFa.out HFb.out (by omega) (hA.below hW) (hB.below hW)).mono ?_
  rintro e w8 ⟨a14, k14, rfl, hb, hO14⟩
  have hS14 := hO14.okay (fun _ _ => trivial : ∀ b, _ → True); clear hO14
  replace hS13 := hS13.below hb
  replace hW := hW.keep hb
  clear hb
  go_wp2_with fail
  refine (ref_SameLabel (fun _ => True) (fun _ => True) _ _ _ _ _ (bothL min a b) (bothL min a b) hS13 hS14).mono ?_
  rintro e w9 ⟨rfl, hb⟩
  rw [decide_eq_true (rfl : bothL min a b = bothL min a b)]; clear hS13 hS14
  replace hW := hW.keep hb
  clear hb
  go_wp2_with fail
  refine (law_flows _).mono ?_
  rintro e w10 ⟨rfl, hb⟩
  replace hW := hW.keep hb
  clear hb
  go_wp2_with fail
  go_ret
  exact ⟨rfl, hW⟩

theorem own : ownKnob Try.prog.godebug = none := by kernel_rfl
theorem laid : laidOutB Try.prog = true := by kernel_rfl

set_option maxRecDepth 100000 in
theorem contract (H : Type) (enc : TypeId × Value → H) (W : World) (base : Nat) (args : Array Value) (ds gs : List (DataW H)) (before : List MemPlace)
    (hval : ∀ (j : Nat) t v, Try.f3.params[j]? = some t → args[j]? = some v → Value.okWide Try.prog W .any base t v)
    (hW : DataW.Whole enc Try.prog Try.f3.params.toList Rows.labelJoinsSpec.vars false W args.toList ds gs before)
    (hk : Rows.uptoSmall H (ds ++ gs) = true)
    (hsz : (DataW.weightsEach Try.prog (Try.f3.params.toList ++ Rows.labelJoinsSpec.plain.varTypes Try.prog) (ds ++ gs)).all (· ≤ reachBytes) = true) :
    Calls Try.prog 3 args W fun e W' => ∃ v, e = .returned v ∧ Rows.labelJoinsSpec.post enc Try.prog Try.f3 false true false false W args v W' := by
  have hW' := hW
  obtain ⟨p, q, hA0, hV, rfl, hfz, hnd⟩ := hW
  have hA : DataW.TrodAll enc Try.prog W 0 (fun _ => true) true Try.f3.params.toList args.toList ds p := hA0
  have hpar := Try.params3
  rw [hpar] at hA hval hsz
  obtain ⟨v0, vs0, d0, ds0, p0, q0, hargs0, rfl, rfl, h0, r0⟩ := trodAll_cons hA
  obtain ⟨v1, vs1, d1, ds1, p1, q1, hargs1, rfl, rfl, h1, r1⟩ := trodAll_cons r0
  obtain ⟨hnil, rfl, rfl⟩ := trodAll_nil r1
  obtain rfl : args = #[v0, v1] := by cases args; simp_all
  obtain ⟨rfl, rfl⟩ := trodVars_none hV
  have w0 : ∀ n ∈ d0.weights Try.prog 23, n ≤ reachBytes := fun n hn => by simpa using List.all_eq_true.1 hsz n (DataW.weights_mem_each (j := 0) (t := 23) (d := d0) rfl rfl n hn)
  obtain ⟨x0, a0, c0, rfl, hR0, hl0, hx0, hm0⟩ := arg_slice (fit := Lev.fit) (mass := Lev.mass) reads_Lev Try.underlying23 (by kernel_rfl : Try.prog.cellsOf _ = 2) (by decide) (by kernel_rfl : Try.prog.bytesOf _ = 16) (hval 0 _ v0 rfl rfl) h0 w0
  have w1 : ∀ n ∈ d1.weights Try.prog 23, n ≤ reachBytes := fun n hn => by simpa using List.all_eq_true.1 hsz n (DataW.weights_mem_each (j := 1) (t := 23) (d := d1) rfl rfl n hn)
  obtain ⟨x1, a1, c1, rfl, hR1, hl1, hx1, hm1⟩ := arg_slice (fit := Lev.fit) (mass := Lev.mass) reads_Lev Try.underlying23 (by kernel_rfl : Try.prog.cellsOf _ = 2) (by decide) (by kernel_rfl : Try.prog.bytesOf _ = 16) (hval 1 _ v1 rfl rfl) h1 w1
  have hbk := Nat.le_trans (bkAll_le [d0, d1]) (of_decide_eq_true hk)
  simp only [bkAll] at hbk
  refine (walk W x0 x1 a0 a1 c0 c1 hx0 hx1 hR0 hR1 (by have := hm0; have := hm1; simp only [mass_levs] at *; omega) (by simp only [mass_levs] at *; omega)).mono fun e W' ⟨he, hb⟩ => ?_
  exact ⟨_, he, law_post laid (by kernel_rfl) hW' rfl rfl (by kernel_rfl) Try.underlying4 hb⟩

set_option maxRecDepth 100000 in
theorem lifted (os : Os) (started : os.Started) (H : Type) (enc : TypeId × Value → H) (F : Stop.Interp) :
    ReturnsInHanded {} Try.checked os 3 .any ((Rows.OpenSpec.upto Rows.labelJoinsSpec).pre6 enc Try.prog Try.f3 Rows.labelJoinsUptoRow.domain false) (((Rows.OpenSpec.upto Rows.labelJoinsSpec).at F).post enc Try.prog Try.f3 false true false false) := by
  refine returnsInHanded_of_cond_sized (C := Try.checked) (s := Rows.OpenSpec.upto Rows.labelJoinsSpec) (k := Rows.uptoSmall) rfl own started (by kernel_rfl) Try.func3
    (OpenSpec.witness (enc := enc) (C := Try.checked) (s := Rows.OpenSpec.upto Rows.labelJoinsSpec) (k := Rows.uptoSmall) rfl false ⟨#[], #[.slice none 0 0, .slice none 0 0], []⟩ 12 (by kernel_rfl) (by kernel_rfl) (by kernel_rfl)
      (x := ([.nil, .nil], [], [])) (by kernel_rfl) rfl (by kernel_rfl)) ?_
  intro W base args ds gs before hval hW _ hk hsz _
  exact contract H enc W base args ds gs before hval hW hk hsz

theorem proved : Rows.LabelJoinsUptoSaid :=
  OpenClaim.holds_of_cond 3 Try.f3 rfl rfl rfl rfl rfl rfl rfl ⟨rfl, rfl, rfl, rfl, rfl⟩ rfl rfl rfl rfl rfl (by kernel_rfl) Try.func3 (by kernel_rfl)
    (of_decide_eq_true (by kernel_rfl)) (by unfold Func.isWrapper; first | (rw [if_pos (by decide +kernel)]; kernel_rfl) | (rw [if_neg (by decide +kernel)]; exact ⟨rfl, rfl⟩))
    (fun os started H enc _ F => lifted os started H enc F)


end Go.Proofs.Ytnihccinpbpllaa.labelJoins
