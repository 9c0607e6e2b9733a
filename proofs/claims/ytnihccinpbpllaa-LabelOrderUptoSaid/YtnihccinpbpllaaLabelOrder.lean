/- For all labels, each flows to itself, and on from what it flows to; owning takes no flow away; good labels that flow both ways are the same. The condition: arguments of at most 2^20 parts together (the statement's own 'Upto'). -/
import Derived.Test.YtnihccinpbpllaaRows
import Derived.Test.YtnihccinpbpllaaLabelF
import Derived.Test.YtnihccinpbpllaaLabelP
import Derived.Test.YtnihccinpbpllaaLabelG
import Derived.Test.YtnihccinpbpllaaEqL
import Derived.Test.YtnihccinpbpllaaUpto
import Derived.SizedLaws
import Derived.Deep.DeepCutAuto
set_option linter.unusedSimpArgs false
set_option linter.unusedVariables false
namespace Go.Proofs.Ytnihccinpbpllaa.labelOrder
open Go.ChangeShapes Go.WideShapes Go.ChangeAt Go.RowKit

set_option maxRecDepth 20000 in
set_option maxHeartbeats 4000000 in
theorem walk (w : World) (a b c : List Lev) (own : List Int) (la lb lc lo : Option Addr) (ca cb cc co : Nat) (hA : SlR (fun _ => True) w 2 RLev la ca a) (hB : SlR (fun _ => True) w 2 RLev lb cb b) (hC : SlR (fun _ => True) w 2 RLev lc cc c) (hO : SlR (fun _ => True) w 1 RInt lo co own)
    (ha : a.length ≤ 1048576) (hb : b.length ≤ 1048576) (hc : c.length ≤ 1048576) (ho : own.length ≤ 1048576) :
    Calls Try.prog 5 #[.slice la a.length ca, .slice lb b.length cb, .slice lc c.length cc, .slice lo own.length co] w fun e w' => e = .returned (.bool true) ∧ Below w.heap.size w w' := by
  have E1 := Lib.hid (flows_refl a [])
  have H5 := (flows_trans (a := a) (b := b) (c := c) (own := own))
  have H6 := (flows_own (a := a) (b := b) (own := own))
  have H8 : own.length = 0 → goodL a = true → goodL b = true → flowsL a b own = true → flowsL b a own = true → decide (a = b) = true := by
    intro h0
    obtain rfl : own = [] := List.eq_nil_of_length_eq_zero h0
    intro h1 h2 h3 h4
    simpa using flows_anti h1 h2 h3 h4
  generalize hab : flowsL a b own = ab at H5 H6 H8
  generalize hba : flowsL b a own = ba at H8
  generalize hbc : flowsL b c own = bc at H5
  generalize hac : flowsL a c own = ac at H5
  generalize hnb : flowsL a b [] = nab at H6
  have Eab := Lib.hid hab; have Eba := Lib.hid hba; have Ebc := Lib.hid hbc; have Eac := Lib.hid hac; have Enb := Lib.hid hnb
  clear hab hba hbc hac hnb
  have hW := Below.refl w.heap.size w
  go_enter Try.func5, Try.ntmps5
  go_wp2_with fail
  refine (label_Flows (fun _ => True) _ _ _ _ _ _ _ _ _ _ (by omega) (by omega) (hA.below hW) (hB.below hW) (hO.below hW)).mono ?_
  rintro e w1 ⟨rfl, hb1⟩
  rw [Eab.out]
  replace hW := hW.keep hb1
  clear hb1
  go_wp2_with fail
  refine (label_Flows (fun _ => True) _ _ _ _ _ _ _ _ _ _ (by omega) (by omega) (hB.below hW) (hA.below hW) (hO.below hW)).mono ?_
  rintro e w2 ⟨rfl, hb1⟩
  rw [Eba.out]
  replace hW := hW.keep hb1
  clear hb1
  go_wp2_with fail
  refine (label_Flows (fun _ => True) _ _ _ _ _ _ _ _ _ _ (by omega) (by omega) (hB.below hW) (hC.below hW) (hO.below hW)).mono ?_
  rintro e w3 ⟨rfl, hb1⟩
  rw [Ebc.out]
  replace hW := hW.keep hb1
  clear hb1
  go_wp2_with fail
  refine (label_Flows (fun _ => True) _ _ _ _ _ _ _ _ _ _ (by omega) (by omega) (hA.below hW) (hC.below hW) (hO.below hW)).mono ?_
  rintro e w4 ⟨rfl, hb1⟩
  rw [Eac.out]
  replace hW := hW.keep hb1
  clear hb1
  -- the ways through the first test meet again
  have h5 : (ab = true ∧ bc = true ∧ ac = true ∧ nab = true) ∨ (ab = true ∧ bc = true ∧ ac = true ∧ nab = false) ∨ (ab = true ∧ bc = false ∧ nab = true) ∨ (ab = true ∧ bc = false ∧ nab = false) ∨ (ab = false ∧ nab = false) := by
    cases ab <;> cases bc <;> cases ac <;> cases nab <;> simp_all
  clear H5 H6
  go_upto_region 2 with fail
  go_cut [55] (fun s wx => s = .bool false ∧ Below w.heap.size w wx)
  case first =>
    rcases h5 with ⟨rfl, rfl, rfl, rfl⟩ | ⟨rfl, rfl, rfl, rfl⟩ | ⟨rfl, rfl, rfl⟩ | ⟨rfl, rfl, rfl⟩ | ⟨rfl, rfl⟩
    all_goals
      go_wp2_with fail
      refine (label_Flows_nil (fun _ => True) _ _ _ _ _ _ _ (by omega) (hA.below hW) (hA.below hW)).mono ?_
      rintro e w5 ⟨rfl, hb1⟩
      rw [E1.out]
      replace hW := hW.keep hb1
      clear hb1
      go_wp2_with fail
      refine (label_Flows_nil (fun _ => True) _ _ _ _ _ _ _ (by omega) (hA.below hW) (hB.below hW)).mono ?_
      rintro e w6 ⟨rfl, hb1⟩
      rw [Enb.out]
      replace hW := hW.keep hb1
      clear hb1
      go_wp2_with fail
      refine (keep_flows _).mono ?_
      rintro e w7 ⟨rfl, hb1⟩
      replace hW := hW.keep hb1
      clear hb1
      go_wp2_with fail
      go_meet
      exact ⟨rfl, hW⟩
  case rest =>
    obtain ⟨rfl, hW2⟩ := hcut
    clear h5 hW
    cases hga : goodL a
    · have HGA := Lib.hid hga
      clear hga H8
      go_wp2_with (first | (go_at_call 19; refine (label_Good (fun _ => True) _ _ _ _ (by omega) (hA.below hW2)).mono ?_; rintro e w8 ⟨rfl, hb8⟩; rw [HGA.out]))
      go_ret
      exact ⟨rfl, hW2.keep hb8⟩
    · have HGA := Lib.hid hga
      clear hga
      go_wp2_with fail
      refine (label_Good (fun _ => True) _ _ _ _ (by omega) (hA.below hW2)).mono ?_
      rintro e w8 ⟨rfl, hb8⟩
      rw [HGA.out]
      replace hW2 := hW2.keep hb8
      clear hb8
      cases hgb : goodL b
      · have HGB := Lib.hid hgb
        clear hgb H8
        go_wp2_with fail
        refine (label_Good (fun _ => True) _ _ _ _ (by omega) (hB.below hW2)).mono ?_
        rintro e w9 ⟨rfl, hb9⟩
        rw [HGB.out]
        go_wp2_with fail
        go_ret
        exact ⟨rfl, hW2.keep hb9⟩
      · have HGB := Lib.hid hgb
        clear hgb
        go_wp2_with fail
        refine (label_Good (fun _ => True) _ _ _ _ (by omega) (hB.below hW2)).mono ?_
        rintro e w9 ⟨rfl, hb9⟩
        rw [HGB.out]
        replace hW2 := hW2.keep hb9
        clear hb9
        by_cases h0 : 0 < own.length
        · have d1 : decide (0 < own.length) = true := by simpa using h0
          clear H8
          go_wp2_with fail
          go_ret
          exact ⟨rfl, hW2⟩
        · have d1 : decide (0 < own.length) = false := by simpa using h0
          have H9 := Lib.hid (H8 (by omega) HGA.out HGB.out)
          clear H8
          cases ab <;> cases ba
          · go_wp2_with fail
            go_ret
            exact ⟨rfl, hW2⟩
          · go_wp2_with fail
            go_ret
            exact ⟨rfl, hW2⟩
          · go_wp2_with fail
            go_ret
            exact ⟨rfl, hW2⟩
          · go_wp2_with fail
            refine (label_Same (fun _ => True) (fun _ => True) _ _ _ _ _ _ _ (hA.below hW2) (hB.below hW2)).mono ?_
            rintro e w10 ⟨rfl, hb10⟩
            rw [H9.out (by simp) (by simp)]
            go_wp2_with fail
            go_ret
            exact ⟨by simp, hW2.keep hb10⟩

theorem own : ownKnob Try.prog.godebug = none := by kernel_rfl
theorem laid : laidOutB Try.prog = true := by kernel_rfl

set_option maxRecDepth 100000 in
theorem contract (H : Type) (enc : TypeId × Value → H) (W : World) (base : Nat) (args : Array Value) (ds gs : List (DataW H)) (before : List MemPlace)
    (hval : ∀ (j : Nat) t v, Try.f5.params[j]? = some t → args[j]? = some v → Value.okWide Try.prog W .any base t v)
    (hW : DataW.Whole enc Try.prog Try.f5.params.toList Rows.labelOrderSpec.vars false W args.toList ds gs before)
    (hk : Rows.uptoSmall H (ds ++ gs) = true)
    (hsz : (DataW.weightsEach Try.prog (Try.f5.params.toList ++ Rows.labelOrderSpec.plain.varTypes Try.prog) (ds ++ gs)).all (· ≤ reachBytes) = true) :
    Calls Try.prog 5 args W fun e W' => ∃ v, e = .returned v ∧ Rows.labelOrderSpec.post enc Try.prog Try.f5 false true false false W args v W' := by
  have hW' := hW
  obtain ⟨p, q, hA0, hV, rfl, hfz, hnd⟩ := hW
  have hA : DataW.TrodAll enc Try.prog W 0 (fun _ => true) true Try.f5.params.toList args.toList ds p := hA0
  have hpar := Try.params5
  rw [hpar] at hA hval hsz
  obtain ⟨v0, vs0, d0, ds0, p0, q0, hargs0, rfl, rfl, h0, r0⟩ := trodAll_cons hA
  obtain ⟨v1, vs1, d1, ds1, p1, q1, hargs1, rfl, rfl, h1, r1⟩ := trodAll_cons r0
  obtain ⟨v2, vs2, d2, ds2, p2, q2, hargs2, rfl, rfl, h2, r2⟩ := trodAll_cons r1
  obtain ⟨v3, vs3, d3, ds3, p3, q3, hargs3, rfl, rfl, h3, r3⟩ := trodAll_cons r2
  obtain ⟨hnil, rfl, rfl⟩ := trodAll_nil r3
  obtain rfl : args = #[v0, v1, v2, v3] := by cases args; simp_all
  obtain ⟨rfl, rfl⟩ := trodVars_none hV
  have w0 : ∀ n ∈ d0.weights Try.prog 23, n ≤ reachBytes := fun n hn => by simpa using List.all_eq_true.1 hsz n (DataW.weights_mem_each (j := 0) (t := 23) (d := d0) rfl rfl n hn)
  obtain ⟨x0, a0, c0, rfl, hR0, hl0, hx0, hm0⟩ := arg_slice (fit := Lev.fit) (mass := Lev.mass) reads_Lev Try.underlying23 (by kernel_rfl : Try.prog.cellsOf _ = 2) (by decide) (by kernel_rfl : Try.prog.bytesOf _ = 16) (hval 0 _ v0 rfl rfl) h0 w0
  have w1 : ∀ n ∈ d1.weights Try.prog 23, n ≤ reachBytes := fun n hn => by simpa using List.all_eq_true.1 hsz n (DataW.weights_mem_each (j := 1) (t := 23) (d := d1) rfl rfl n hn)
  obtain ⟨x1, a1, c1, rfl, hR1, hl1, hx1, hm1⟩ := arg_slice (fit := Lev.fit) (mass := Lev.mass) reads_Lev Try.underlying23 (by kernel_rfl : Try.prog.cellsOf _ = 2) (by decide) (by kernel_rfl : Try.prog.bytesOf _ = 16) (hval 1 _ v1 rfl rfl) h1 w1
  have w2 : ∀ n ∈ d2.weights Try.prog 23, n ≤ reachBytes := fun n hn => by simpa using List.all_eq_true.1 hsz n (DataW.weights_mem_each (j := 2) (t := 23) (d := d2) rfl rfl n hn)
  obtain ⟨x2, a2, c2, rfl, hR2, hl2, hx2, hm2⟩ := arg_slice (fit := Lev.fit) (mass := Lev.mass) reads_Lev Try.underlying23 (by kernel_rfl : Try.prog.cellsOf _ = 2) (by decide) (by kernel_rfl : Try.prog.bytesOf _ = 16) (hval 2 _ v2 rfl rfl) h2 w2
  have w3 : ∀ n ∈ d3.weights Try.prog 28, n ≤ reachBytes := fun n hn => by simpa using List.all_eq_true.1 hsz n (DataW.weights_mem_each (j := 3) (t := 28) (d := d3) rfl rfl n hn)
  obtain ⟨x3, a3, c3, rfl, hR3, hl3, hx3, hm3⟩ := arg_slice (fit := fitI) (mass := fun _ => 1) reads_Int Try.underlying28 (by kernel_rfl : Try.prog.cellsOf _ = 1) (by decide) (by kernel_rfl : Try.prog.bytesOf _ = 8) (hval 3 _ v3 rfl rfl) h3 w3
  have hbk := Nat.le_trans (bkAll_le [d0, d1, d2, d3]) (of_decide_eq_true hk)
  simp only [bkAll] at hbk
  refine (walk W x0 x1 x2 x3 a0 a1 a2 a3 c0 c1 c2 c3 hR0 hR1 hR2 hR3 (by have := hm0; have := hm1; have := hm2; have := hm3; simp only [mass_levs] at *; omega) (by simp only [mass_levs] at *; omega) (by simp only [mass_levs] at *; omega) (by simp only [mass_ints] at *; omega)).mono fun e W' ⟨he, hb⟩ => ?_
  exact ⟨_, he, law_post laid (by kernel_rfl) hW' rfl rfl (by kernel_rfl) Try.underlying4 hb⟩

set_option maxRecDepth 100000 in
theorem lifted (os : Os) (started : os.Started) (H : Type) (enc : TypeId × Value → H) (F : Stop.Interp) :
    ReturnsInHanded {} Try.checked os 5 .any ((Rows.OpenSpec.upto Rows.labelOrderSpec).pre6 enc Try.prog Try.f5 Rows.labelOrderUptoRow.domain false) (((Rows.OpenSpec.upto Rows.labelOrderSpec).at F).post enc Try.prog Try.f5 false true false false) := by
  refine returnsInHanded_of_cond_sized (C := Try.checked) (s := Rows.OpenSpec.upto Rows.labelOrderSpec) (k := Rows.uptoSmall) rfl own started (by kernel_rfl) Try.func5
    (OpenSpec.witness (enc := enc) (C := Try.checked) (s := Rows.OpenSpec.upto Rows.labelOrderSpec) (k := Rows.uptoSmall) rfl false ⟨#[], #[.slice none 0 0, .slice none 0 0, .slice none 0 0, .slice none 0 0], []⟩ 12 (by kernel_rfl) (by kernel_rfl) (by kernel_rfl)
      (x := ([.nil, .nil, .nil, .nil], [], [])) (by kernel_rfl) rfl (by kernel_rfl)) ?_
  intro W base args ds gs before hval hW _ hk hsz _
  exact contract H enc W base args ds gs before hval hW hk hsz

theorem proved : Rows.LabelOrderUptoSaid :=
  OpenClaim.holds_of_cond 5 Try.f5 rfl rfl rfl rfl rfl rfl rfl ⟨rfl, rfl, rfl, rfl, rfl⟩ rfl rfl rfl rfl rfl (by kernel_rfl) Try.func5 (by kernel_rfl)
    (of_decide_eq_true (by kernel_rfl)) (by unfold Func.isWrapper; first | (rw [if_pos (by decide +kernel)]; kernel_rfl) | (rw [if_neg (by decide +kernel)]; exact ⟨rfl, rfl⟩))
    (fun os started H enc _ F => lifted os started H enc F)


end Go.Proofs.Ytnihccinpbpllaa.labelOrder
