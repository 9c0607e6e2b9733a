/- For all labels, categories and what one owns, Category, Good, At, Flows and Same answer exactly what P1.1 to P1.3 say. The condition: arguments of at most 2^20 parts together (the statement's own 'Upto'). -/
import Derived.Test.YtnihccinpbpllaaRows
import Derived.Test.YtnihccinpbpllaaP1
import Derived.Test.YtnihccinpbpllaaP3
import Derived.SizedLaws
set_option linter.unusedSimpArgs false
set_option linter.unusedVariables false
namespace Go.Proofs.Ytnihccinpbpllaa.labelFlows
open Go.ChangeShapes Go.WideShapes Go.ChangeAt Go.RowKit

set_option maxRecDepth 100000 in
set_option maxHeartbeats 4000000 in
theorem walk (w : World) (a b : List Lev) (own : List Int) (c : Int) (la lb lo : Option Addr) (ca cb co : Nat) (hfa : ∀ y ∈ a, y.fit) (hfb : ∀ y ∈ b, y.fit) (hA : SlR (fun _ => True) w 2 RLev la ca a) (hB : SlR (fun _ => True) w 2 RLev lb cb b) (hO : SlR (fun _ => True) w 1 RInt lo co own)
    (ha : a.length ≤ 1048576) (hb0 : b.length ≤ 1048576) (ho : own.length ≤ 1048576) :
    Calls Try.prog 4 #[.slice la a.length ca, .slice lb b.length cb, .slice lo own.length co, .int .i64 c] w fun e w' => e = .returned (.bool true) ∧ Below w.heap.size w w' := by
  have HFa := Lib.hid (show ∀ y ∈ a, fitI y.c from fun y hy => (hfa y hy).1)
  have HFb := Lib.hid (show ∀ y ∈ b, fitI y.c from fun y hy => (hfb y hy).1)
  clear hfa hfb
  have hW := Below.refl w.heap.size w
  go_enter Try.func4, Try.ntmps4
  go_wp2_with fail
  refine (law_levels (fun _ => True) _ la ca a (by omega) (hA.below hW)).mono ?_
  rintro e w0 ⟨a1, k1, rfl, hb, hO1⟩
  have hS1 := hO1.slr (fun _ _ => trivial : ∀ b, _ → True); clear hO1
  replace hW := hW.keep hb
  clear hb
  go_wp2_with fail
  refine (law_levels (fun _ => True) _ lb cb b (by omega) (hB.below hW)).mono ?_
  rintro e w1 ⟨a2, k2, rfl, hb, hO2⟩
  have hS2 := hO2.slr (fun _ _ => trivial : ∀ b, _ → True); clear hO2
  replace hS1 := hS1.below hb
  replace hW := hW.keep hb
  clear hb
  go_wp2_with fail
  refine (law_numbers (fun _ => True) _ lo co own (by omega) (hO.below hW)).mono ?_
  rintro e w2 ⟨a3, k3, rfl, hb, hO3⟩
  have hS3 := hO3.slr (fun _ _ => trivial : ∀ b, _ → True); clear hO3
  replace hS1 := hS1.below hb
  replace hS2 := hS2.below hb
  replace hW := hW.keep hb
  clear hb
  go_wp2_with fail
  refine (label_Flows (fun _ => True) _ _ _ _ _ _ _ a b own (by omega) (by omega) hS1 hS2 hS3).mono ?_
  rintro e w3 ⟨rfl, hb⟩
  replace hW := hW.keep hb
  clear hb
  go_wp2_with fail
  refine (ref_Flows (fun _ => True) _ la lb lo ca cb co a b own HFa.out HFb.out (by unfold maxLen; omega) (hA.below hW) (hB.below hW) (hO.below hW)).mono ?_
  rintro e w4 ⟨rfl, hb⟩
  replace hW := hW.keep hb
  clear hb
  clear hS1 hS2 hS3
  go_wp2_with fail
  refine (law_levels (fun _ => True) _ la ca a (by omega) (hA.below hW)).mono ?_
  rintro e w5 ⟨a4, k4, rfl, hb, hO4⟩
  have hS4 := hO4.slr (fun _ _ => trivial : ∀ b, _ → True); clear hO4
  replace hW := hW.keep hb
  clear hb
  go_wp2_with fail
  refine (label_Good (fun _ => True) _ a4 k4 a (by omega) hS4).mono ?_
  rintro e w6 ⟨rfl, hb⟩
  replace hW := hW.keep hb
  clear hb
  go_wp2_with fail
  refine (ref_GoodLabel (fun _ => True) _ la ca a (hA.below hW)).mono ?_
  rintro e w7 ⟨rfl, hb⟩
  replace hW := hW.keep hb
  clear hb
  clear hS4
  go_wp2_with fail
  refine (law_levels (fun _ => True) _ la ca a (by omega) (hA.below hW)).mono ?_
  rintro e w8 ⟨a5, k5, rfl, hb, hO5⟩
  have hS5 := hO5.slr (fun _ _ => trivial : ∀ b, _ → True); clear hO5
  replace hW := hW.keep hb
  clear hb
  go_wp2_with fail
  refine (label_At (fun _ => True) _ a5 k5 a c (by omega) hS5).mono ?_
  rintro e w9 ⟨rfl, hb⟩
  replace hW := hW.keep hb
  clear hb
  go_wp2_with fail
  refine (ref_At (fun _ => True) _ la ca a c (hA.below hW)).mono ?_
  rintro e w10 ⟨rfl, hb⟩
  replace hW := hW.keep hb
  clear hb
  clear hS5
  go_wp2_with fail
  refine (label_Category c _).mono ?_
  rintro e v ⟨rfl, rfl⟩
  rw [show decide (0 ≤ c ∧ c < 80) = catOk c from rfl]
  go_wp2_with fail
  refine (ref_IsCategory c _).mono ?_
  rintro e v ⟨rfl, rfl⟩
  go_wp2_with fail
  refine (law_levels (fun _ => True) _ la ca a (by omega) (hA.below hW)).mono ?_
  rintro e w11 ⟨a6, k6, rfl, hb, hO6⟩
  have hS6 := hO6.slr (fun _ _ => trivial : ∀ b, _ → True); clear hO6
  replace hW := hW.keep hb
  clear hb
  go_wp2_with fail
  refine (law_levels (fun _ => True) _ lb cb b (by omega) (hB.below hW)).mono ?_
  rintro e w12 ⟨a7, k7, rfl, hb, hO7⟩
  have hS7 := hO7.slr (fun _ _ => trivial : ∀ b, _ → True); clear hO7
  replace hS6 := hS6.below hb
  replace hW := hW.keep hb
  clear hb
  go_wp2_with fail
  refine (label_Same (fun _ => True) (fun _ => True) _ _ _ _ _ a b hS6 hS7).mono ?_
  rintro e w13 ⟨rfl, hb⟩
  replace hW := hW.keep hb
  clear hb
  go_wp2_with fail
  refine (ref_SameLabel (fun _ => True) (fun _ => True) _ _ _ _ _ a b (hA.below hW) (hB.below hW)).mono ?_
  rintro e w14 ⟨rfl, hb⟩
  replace hW := hW.keep hb
  clear hb
  clear hS6 hS7
  go_wp2_with fail
  refine (law_flows _).mono ?_
  rintro e w15 ⟨rfl, hb⟩
  replace hW := hW.keep hb
  clear hb
  go_wp2_with fail
  go_ret
  exact ⟨rfl, hW⟩

theorem own : ownKnob Try.prog.godebug = none := by kernel_rfl
theorem laid : laidOutB Try.prog = true := by kernel_rfl

set_option maxRecDepth 100000 in
theorem contract (H : Type) (enc : TypeId × Value → H) (W : World) (base : Nat) (args : Array Value) (ds gs : List (DataW H)) (before : List MemPlace)
    (hval : ∀ (j : Nat) t v, Try.f4.params[j]? = some t → args[j]? = some v → Value.okWide Try.prog W .any base t v)
    (hW : DataW.Whole enc Try.prog Try.f4.params.toList Rows.labelFlowsSpec.vars false W args.toList ds gs before)
    (hk : Rows.uptoSmall H (ds ++ gs) = true)
    (hsz : (DataW.weightsEach Try.prog (Try.f4.params.toList ++ Rows.labelFlowsSpec.plain.varTypes Try.prog) (ds ++ gs)).all (· ≤ reachBytes) = true) :
    Calls Try.prog 4 args W fun e W' => ∃ v, e = .returned v ∧ Rows.labelFlowsSpec.post enc Try.prog Try.f4 false true false false W args v W' := by
  have hW' := hW
  obtain ⟨p, q, hA0, hV, rfl, hfz, hnd⟩ := hW
  have hA : DataW.TrodAll enc Try.prog W 0 (fun _ => true) true Try.f4.params.toList args.toList ds p := hA0
  have hpar := Try.params4
  rw [hpar] at hA hval hsz
  obtain ⟨v0, vs0, d0, ds0, p0, q0, hargs0, rfl, rfl, h0, r0⟩ := trodAll_cons hA
  obtain ⟨v1, vs1, d1, ds1, p1, q1, hargs1, rfl, rfl, h1, r1⟩ := trodAll_cons r0
  obtain ⟨v2, vs2, d2, ds2, p2, q2, hargs2, rfl, rfl, h2, r2⟩ := trodAll_cons r1
  obtain ⟨v3, vs3, d3, ds3, p3, q3, hargs3, rfl, rfl, h3, r3⟩ := trodAll_cons r2
  obtain ⟨hnil, rfl, rfl⟩ := trodAll_nil r3
  obtain rfl : args = #[v0, v1, v2, v3] := by cases args; simp_all
  obtain ⟨rfl, rfl⟩ := trodVars_none hV
  have w0 : ∀ n ∈ d0.weights Try.prog 23, n ≤ reachBytes := fun n hn => by simpa using List.all_eq_true.1 hsz n (DataW.weights_mem_each (j := 0) (t := 23) (d := d0) rfl rfl n hn)
  obtain ⟨x0, a0, c0, rfl, hR0, hl0, hx0, hm0⟩ := arg_slice (fit := Lev.fit) (mass := Lev.mass) reads_Lev Try.underlying23 (by kernel_rfl : Try.prog.cellsOf _ = 2) (by decide) (by kernel_rfl : Try.prog.bytesOf _ = 16) (hval 0 _ v0 rfl rfl) h0 w0
  have w1 : ∀ n ∈ d1.weights Try.prog 23, n ≤ reachBytes := fun n hn => by simpa using List.all_eq_true.1 hsz n (DataW.weights_mem_each (j := 1) (t := 23) (d := d1) rfl rfl n hn)
  obtain ⟨x1, a1, c1, rfl, hR1, hl1, hx1, hm1⟩ := arg_slice (fit := Lev.fit) (mass := Lev.mass) reads_Lev Try.underlying23 (by kernel_rfl : Try.prog.cellsOf _ = 2) (by decide) (by kernel_rfl : Try.prog.bytesOf _ = 16) (hval 1 _ v1 rfl rfl) h1 w1
  have w2 : ∀ n ∈ d2.weights Try.prog 28, n ≤ reachBytes := fun n hn => by simpa using List.all_eq_true.1 hsz n (DataW.weights_mem_each (j := 2) (t := 28) (d := d2) rfl rfl n hn)
  obtain ⟨x2, a2, c2, rfl, hR2, hl2, hx2, hm2⟩ := arg_slice (fit := fitI) (mass := fun _ => 1) reads_Int Try.underlying28 (by kernel_rfl : Try.prog.cellsOf _ = 1) (by decide) (by kernel_rfl : Try.prog.bytesOf _ = 8) (hval 2 _ v2 rfl rfl) h2 w2
  have w3 : ∀ n ∈ d3.weights Try.prog 3, n ≤ reachBytes := fun n hn => by simpa using List.all_eq_true.1 hsz n (DataW.weights_mem_each (j := 3) (t := 3) (d := d3) rfl rfl n hn)
  obtain ⟨x3, rfl, hx3⟩ := arg_int Try.underlying3 (hval 3 _ v3 rfl rfl) h3
  have hbk := Nat.le_trans (bkAll_le [d0, d1, d2, d3]) (of_decide_eq_true hk)
  simp only [bkAll] at hbk
  refine (walk W x0 x1 x2 x3 a0 a1 a2 c0 c1 c2 hx0 hx1 hR0 hR1 hR2 (by have := hm0; have := hm1; have := hm2; simp only [mass_levs, mass_ints] at *; omega) (by simp only [mass_levs, mass_ints] at *; omega) (by simp only [mass_levs, mass_ints] at *; omega)).mono fun e W' ⟨he, hb⟩ => ?_
  exact ⟨_, he, law_post laid (by kernel_rfl) hW' rfl rfl (by kernel_rfl) Try.underlying4 hb⟩

set_option maxRecDepth 100000 in
theorem lifted (os : Os) (started : os.Started) (H : Type) (enc : TypeId × Value → H) (F : Stop.Interp) :
    ReturnsInHanded {} Try.checked os 4 .any ((Rows.OpenSpec.upto Rows.labelFlowsSpec).pre6 enc Try.prog Try.f4 Rows.labelFlowsUptoRow.domain false) (((Rows.OpenSpec.upto Rows.labelFlowsSpec).at F).post enc Try.prog Try.f4 false true false false) := by
  refine returnsInHanded_of_cond_sized (C := Try.checked) (s := Rows.OpenSpec.upto Rows.labelFlowsSpec) (k := Rows.uptoSmall) rfl own started (by kernel_rfl) Try.func4
    (OpenSpec.witness (enc := enc) (C := Try.checked) (s := Rows.OpenSpec.upto Rows.labelFlowsSpec) (k := Rows.uptoSmall) rfl false ⟨#[], #[.slice none 0 0, .slice none 0 0, .slice none 0 0, .int .i64 0], []⟩ 12 (by kernel_rfl) (by kernel_rfl) (by kernel_rfl)
      (x := ([.nil, .nil, .nil, .lit (.int .i64 0)], [], [])) (by kernel_rfl) rfl (by kernel_rfl)) ?_
  intro W base args ds gs before hval hW _ hk hsz _
  exact contract H enc W base args ds gs before hval hW hk hsz

theorem proved : Rows.LabelFlowsUptoSaid :=
  OpenClaim.holds_of_cond 4 Try.f4 rfl rfl rfl rfl rfl rfl rfl ⟨rfl, rfl, rfl, rfl, rfl⟩ rfl rfl rfl rfl rfl (by kernel_rfl) Try.func4 (by kernel_rfl)
    (of_decide_eq_true (by kernel_rfl)) (by unfold Func.isWrapper; first | (rw [if_pos (by decide +kernel)]; kernel_rfl) | (rw [if_neg (by decide +kernel)]; exact ⟨rfl, rfl⟩))
    (fun os started H enc _ F => lifted os started H enc F)


end Go.Proofs.Ytnihccinpbpllaa.labelFlows
