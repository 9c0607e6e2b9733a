/- For every label, category and level, Set answers exactly what P1.5 says, errors too. No condition. -/
import Derived.Test.YtnihccinpbpllaaRows
import Derived.Test.YtnihccinpbpllaaP11
import Derived.Test.YtnihccinpbpllaaP4
import Derived.Test.YtnihccinpbpllaaP10
import Derived.Test.YtnihccinpbpllaaP6
import Derived.Test.YtnihccinpbpllaaP5
import Derived.Test.YtnihccinpbpllaaP3
import Derived.SizedLaws
set_option linter.unusedSimpArgs false
set_option linter.unusedVariables false
namespace Go.Proofs.Ytnihccinpbpllaa.labelSets
open Go.ChangeShapes Go.WideShapes Go.ChangeAt Go.RowKit

set_option maxRecDepth 100000 in
set_option maxHeartbeats 4000000 in
theorem walk (w : World) (l : List Lev) (c n : Int) (la : Option Addr) (lc : Nat) (hf : l.length * 16 ≤ 140737488351232 ∧ ∀ y ∈ l, y.fit) (hA : SlR (fun _ => True) w 2 RLev la lc l) :
    Calls Try.prog 7 #[.slice la l.length lc, .int .i64 c, .int .i64 n] w fun e w' => e = .returned (.bool true) ∧ Below w.heap.size w w' := by
  have H1 := Lib.hid (fun (W : World) (a : Option Addr) (k : Nat) (h : SlR (fun _ => True) W 2 RLev a k l) => label_Set (fun _ => True) W a k l c n (by omega) h)
  have H2 := Lib.hid (fun (W : World) (h : SlR (fun _ => True) W 2 RLev la lc l) => ref_Set (fun _ => True) W la lc l c n hf.2 h (setR l c n) rfl)
  have hl := hf.1
  clear hf
  have hW := Below.refl w.heap.size w
  generalize setR l c n = r at H1 H2
  obtain ⟨r1, r2⟩ := r
  go_enter Try.func7, Try.ntmps7
  go_wp2_with fail
  refine (law_levels (fun _ => True) _ la lc l (by omega) (hA.below hW)).mono ?_
  rintro e w1 ⟨a1, k1, rfl, hb, hO1⟩
  have hS1 := hO1.slr (fun _ _ => trivial : ∀ b, _ → True)
  replace hW := hW.keep hb
  clear hb hO1
  go_wp2_with fail
  refine (H1.out _ a1 k1 hS1).mono ?_
  rintro e w2 ⟨a2, k2, rfl, hb, hO2⟩
  have hS2 := hO2.slr (fun _ _ => trivial : ∀ b, _ → True)
  replace hS1 := hS1.below hb
  replace hW := hW.keep hb
  clear hb hO2
  go_wp2_with fail
  refine (H2.out _ (hA.below hW)).mono ?_
  rintro e w3 ⟨a3, k3, rfl, hb, hS3⟩
  replace hS1 := hS1.below hb
  replace hS2 := hS2.below hb
  replace hW := hW.keep hb
  clear hb
  go_wp2_with fail
  refine (ref_SameLabel (fun _ => True) (fun _ => True) _ _ _ _ _ r1 r1 hS2 hS3).mono ?_
  rintro e w4 ⟨rfl, hb⟩
  rw [decide_eq_true (rfl : r1 = r1)]
  replace hS1 := hS1.below hb
  replace hW := hW.keep hb
  clear hb
  go_wp2_with fail
  refine (ref_SameLabel (fun _ => True) (fun _ => True) _ _ _ _ _ l l hS1 (hA.below hW)).mono ?_
  rintro e w5 ⟨rfl, hb⟩
  rw [decide_eq_true (rfl : l = l)]
  replace hW := hW.keep hb
  clear hb
  go_wp2_with fail
  refine (law_flows _).mono ?_
  rintro e w6 ⟨rfl, hb⟩
  replace hW := hW.keep hb
  go_wp2_with fail
  go_ret
  exact ⟨rfl, hW⟩

theorem own : ownKnob Try.prog.godebug = none := by kernel_rfl
theorem laid : laidOutB Try.prog = true := by kernel_rfl

set_option maxRecDepth 100000 in
theorem contract (H : Type) (enc : TypeId × Value → H) (W : World) (base : Nat) (args : Array Value) (ds gs : List (DataW H)) (before : List MemPlace)
    (hval : ∀ (j : Nat) t v, Try.f7.params[j]? = some t → args[j]? = some v → Value.okWide Try.prog W .any base t v)
    (hW : DataW.Whole enc Try.prog Try.f7.params.toList Rows.labelSetsSpec.vars false W args.toList ds gs before)
    (hsz : (DataW.weightsEach Try.prog (Try.f7.params.toList ++ Rows.labelSetsSpec.plain.varTypes Try.prog) (ds ++ gs)).all (· ≤ reachBytes) = true) :
    Calls Try.prog 7 args W fun e W' => ∃ v, e = .returned v ∧ Rows.labelSetsSpec.post enc Try.prog Try.f7 false true false false W args v W' := by
  have hW' := hW
  obtain ⟨p, q, hA0, hV, rfl, hfz, hnd⟩ := hW
  have hA : DataW.TrodAll enc Try.prog W 0 (fun _ => true) true Try.f7.params.toList args.toList ds p := hA0
  have hpar := Try.params7
  rw [hpar] at hA hval hsz
  obtain ⟨v0, vs0, d0, ds0, p0, q0, hargs0, rfl, rfl, h0, r0⟩ := trodAll_cons hA
  obtain ⟨v1, vs1, d1, ds1, p1, q1, hargs1, rfl, rfl, h1, r1⟩ := trodAll_cons r0
  obtain ⟨v2, vs2, d2, ds2, p2, q2, hargs2, rfl, rfl, h2, r2⟩ := trodAll_cons r1
  obtain ⟨hnil, rfl, rfl⟩ := trodAll_nil r2
  obtain rfl : args = #[v0, v1, v2] := by cases args; simp_all
  obtain ⟨rfl, rfl⟩ := trodVars_none hV
  have w0 : ∀ n ∈ d0.weights Try.prog 23, n ≤ reachBytes := fun n hn => by simpa using List.all_eq_true.1 hsz n (DataW.weights_mem_each (j := 0) (t := 23) (d := d0) rfl rfl n hn)
  obtain ⟨x0, a0, c0, rfl, hR0, hl0, hx0, hm0⟩ := arg_slice (fit := Lev.fit) (mass := Lev.mass) reads_Lev Try.underlying23 (by kernel_rfl : Try.prog.cellsOf _ = 2) (by decide) (by kernel_rfl : Try.prog.bytesOf _ = 16) (hval 0 _ v0 rfl rfl) h0 w0
  have w1 : ∀ n ∈ d1.weights Try.prog 3, n ≤ reachBytes := fun n hn => by simpa using List.all_eq_true.1 hsz n (DataW.weights_mem_each (j := 1) (t := 3) (d := d1) rfl rfl n hn)
  obtain ⟨x1, rfl, hx1⟩ := arg_int Try.underlying3 (hval 1 _ v1 rfl rfl) h1
  have w2 : ∀ n ∈ d2.weights Try.prog 3, n ≤ reachBytes := fun n hn => by simpa using List.all_eq_true.1 hsz n (DataW.weights_mem_each (j := 2) (t := 3) (d := d2) rfl rfl n hn)
  obtain ⟨x2, rfl, hx2⟩ := arg_int Try.underlying3 (hval 2 _ v2 rfl rfl) h2
  refine (walk W x0 x1 x2 a0 c0 ⟨hl0, hx0⟩ hR0).mono fun e W' ⟨he, hb⟩ => ?_
  exact ⟨_, he, law_post laid (by kernel_rfl) hW' rfl rfl (by kernel_rfl) Try.underlying4 hb⟩

set_option maxRecDepth 100000 in
theorem lifted (os : Os) (started : os.Started) (H : Type) (enc : TypeId × Value → H) :
    ReturnsInHanded {} Try.checked os 7 .any (Rows.labelSetsSpec.pre6 enc Try.prog Try.f7 Rows.labelSetsRow.domain false) (Rows.labelSetsSpec.post enc Try.prog Try.f7 false true false false) := by
  refine returnsInHanded_of_change_sized (C := Try.checked) own started (by kernel_rfl) Try.func7
    (ChangeSpec.witness6 (enc := enc) (C := Try.checked) false ⟨#[], #[.slice none 0 0, .int .i64 0, .int .i64 0], []⟩ 12 (by kernel_rfl) (by kernel_rfl) (by kernel_rfl) (by kernel_rfl)) ?_
  intro W base args ds gs before hval hW _ hsz _
  exact contract H enc W base args ds gs before hval hW hsz

theorem proved : Rows.LabelSetsSaid :=
  OpenClaim.holds_of_wide 7 Try.f7 rfl rfl rfl rfl rfl rfl rfl ⟨rfl, rfl, rfl, rfl, rfl⟩ rfl rfl rfl rfl rfl (by kernel_rfl) Try.func7 (by kernel_rfl)
    (of_decide_eq_true (by kernel_rfl)) (by unfold Func.isWrapper; first | (rw [if_pos (by decide +kernel)]; kernel_rfl) | (rw [if_neg (by decide +kernel)]; exact ⟨rfl, rfl⟩))
    (fun os started H enc _ => lifted os started H enc)


end Go.Proofs.Ytnihccinpbpllaa.labelSets
