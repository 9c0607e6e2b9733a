/- For all labels, Join is the least that both flow to, Meet the greatest that flows to both, in either order. The condition: arguments of at most 2^20 parts together (the statement's own 'Upto'). -/
import Derived.Test.YtnihccinpbpllaaRows
import Derived.Test.YtnihccinpbpllaaLabelF
import Derived.Test.YtnihccinpbpllaaLabelP
import Derived.Test.YtnihccinpbpllaaLabelG
import Derived.Test.YtnihccinpbpllaaLabelB
import Derived.Test.YtnihccinpbpllaaEqL
import Derived.Test.YtnihccinpbpllaaUpto
import Derived.SizedLaws
import Derived.Deep.DeepCutAuto
set_option linter.unusedSimpArgs false
set_option linter.unusedVariables false
namespace Go.Proofs.Ytnihccinpbpllaa.labelLattice
open Go.ChangeShapes Go.WideShapes Go.ChangeAt Go.RowKit

theorem both_len (f : Int → Int → Int) (a b : List Lev) : (bothL f a b).length ≤ a.length + b.length := by
  have h1 := bothFrom_length f a b (eachL a b)
  have h2 := eachL_length a b
  unfold bothL
  omega

set_option maxRecDepth 20000 in
set_option maxHeartbeats 8000000 in
theorem walk (w : World) (a b c : List Lev) (la lb lc : Option Addr) (ca cb cc : Nat) (hA : SlR (fun _ => True) w 2 RLev la ca a) (hB : SlR (fun _ => True) w 2 RLev lb cb b) (hC : SlR (fun _ => True) w 2 RLev lc cc c)
    (ha : a.length ≤ 1048576) (hb : b.length ≤ 1048576) (hc : c.length ≤ 1048576) :
    Calls Try.prog 6 #[.slice la a.length ca, .slice lb b.length cb, .slice lc c.length cc] w fun e w' => e = .returned (.bool true) ∧ Below w.heap.size w w' := by
  have hjl := both_len max a b
  have hml := both_len min a b
  have E1 := Lib.hid (flows_join_l a b)
  have E2 := Lib.hid (flows_join_r a b)
  have E3 := Lib.hid (flows_meet_l a b)
  have E4 := Lib.hid (flows_meet_r a b)
  have E5 := Lib.hid (decide_eq_true (join_comm a b))
  have E6 := Lib.hid (decide_eq_true (meet_comm a b))
  have E7 := Lib.hid (fun h : goodL a = true => decide_eq_true (join_meet h b))
  have E8 := Lib.hid (fun h : goodL a = true => decide_eq_true (meet_join h b))
  have E9 := Lib.hid (fun h : goodL a = true => decide_eq_true (join_self h))
  have E10 := flows_join_iff a b c
  have E11 := flows_meet_iff a b c
  have D1 := (show ∀ x y : List Lev, x = y → y = x from fun _ _ h => h.symm)
  generalize hj : bothL max a b = j at hjl E1 E2 E5 E8 E10
  generalize hm : bothL min a b = m at hml E3 E4 E6 E7 E11
  have HJ := Lib.hid hj
  have HM := Lib.hid hm
  generalize hac : flowsL a c [] = fac at E10
  generalize hbc : flowsL b c [] = fbc at E10
  generalize hca : flowsL c a [] = fca at E11
  generalize hcb : flowsL c b [] = fcb at E11
  have Hac := Lib.hid hac; have Hbc := Lib.hid hbc; have Hca := Lib.hid hca; have Hcb := Lib.hid hcb
  have EJ := Lib.hid E10; have EM := Lib.hid E11
  clear hj hm hac hbc hca hcb E10 E11 D1
  have hW := Below.refl w.heap.size w
  go_enter Try.func6, Try.ntmps6
  go_wp2_with fail
  refine (label_Join (fun _ => True) _ _ _ _ _ _ _ (by omega) (hA.below hW) (hB.below hW)).mono ?_
  rintro e v0 ⟨oj, cj, rfl, hb0, hO0⟩
  rw [HJ.out] at hO0 ⊢
  replace hW := hW.keep hb0
  have hJ : SlR (fun _ => True) v0 2 RLev oj cj j := hO0.slr fun _ _ => trivial
  clear hb0 hO0
  go_wp2_with fail
  refine (label_Meet (fun _ => True) _ _ _ _ _ _ _ (by omega) (hA.below hW) (hB.below hW)).mono ?_
  rintro e v00 ⟨om, cm, rfl, hb0, hO0⟩
  rw [HM.out] at hO0 ⊢
  have hV := (Below.refl v0.heap.size v0).keep hb0
  replace hW := hW.keep hb0
  replace hJ := hJ.below hb0
  have hM : SlR (fun _ => True) v00 2 RLev om cm m := hO0.slr fun _ _ => trivial
  have hA2 := hA.below hW; have hB2 := hB.below hW; have hC2 := hC.below hW
  have hW0 := Lib.hid hW
  clear hb0 hO0 hV hW hA hB hC
  cases fac <;> cases fca
  · have hW := Below.refl v00.heap.size v00
    skip
    go_wp2_with fail
    refine (label_Flows_nil (fun _ => True) _ _ _ _ _ _ _ (by omega) (hA2.below hW) (hJ.below hW)).mono ?_
    rintro e v1 ⟨rfl, hb1⟩
    rw [E1.out]
    replace hW := hW.keep hb1
    clear hb1
    go_wp2_with fail
    refine (label_Flows_nil (fun _ => True) _ _ _ _ _ _ _ (by omega) (hB2.below hW) (hJ.below hW)).mono ?_
    rintro e v2 ⟨rfl, hb2⟩
    rw [E2.out]
    replace hW := hW.keep hb2
    clear hb2
    go_wp2_with fail
    refine (label_Flows_nil (fun _ => True) _ _ _ _ _ _ _ (by omega) (hM.below hW) (hA2.below hW)).mono ?_
    rintro e v3 ⟨rfl, hb3⟩
    rw [E3.out]
    replace hW := hW.keep hb3
    clear hb3
    go_wp2_with fail
    refine (label_Flows_nil (fun _ => True) _ _ _ _ _ _ _ (by omega) (hM.below hW) (hB2.below hW)).mono ?_
    rintro e v4 ⟨rfl, hb4⟩
    rw [E4.out]
    replace hW := hW.keep hb4
    clear hb4
    go_wp2_with fail
    refine (keep_flows _).mono ?_
    rintro e v5 ⟨rfl, hb5⟩
    replace hW := hW.keep hb5
    clear hb5
    go_wp2_with fail
    refine (label_Flows_nil (fun _ => True) _ _ _ _ _ _ _ (by omega) (hA2.below hW) (hC2.below hW)).mono ?_
    rintro e v6 ⟨rfl, hb6⟩
    rw [Hac.out]
    replace hW := hW.keep hb6
    clear hb6
    go_wp2_with fail
    refine (label_Flows_nil (fun _ => True) _ _ _ _ _ _ _ (by omega) (hC2.below hW) (hA2.below hW)).mono ?_
    rintro e v7 ⟨rfl, hb7⟩
    rw [Hca.out]
    replace hW := hW.keep hb7
    clear hb7
    go_wp2_with fail
    refine (label_Join (fun _ => True) _ _ _ _ _ _ _ (by omega) (hB2.below hW) (hA2.below hW)).mono ?_
    rintro e v8 ⟨o8, c8, rfl, hb8, hO8⟩
    replace hW := hW.keep hb8
    have hX : SlR (fun _ => True) v8 2 RLev o8 c8 (bothL max b a) := hO8.slr fun _ _ => trivial
    clear hb8 hO8
    go_wp2_with fail
    refine (label_Same (fun _ => True) (fun _ => True) _ _ _ _ _ _ _ (hJ.below hW) hX).mono ?_
    rintro e v9 ⟨rfl, hb9⟩
    rw [E5.out]
    replace hW := hW.keep hb9
    clear hb9
    clear hX
    go_wp2_with fail
    refine (label_Meet (fun _ => True) _ _ _ _ _ _ _ (by omega) (hB2.below hW) (hA2.below hW)).mono ?_
    rintro e v10 ⟨o10, c10, rfl, hb10, hO10⟩
    replace hW := hW.keep hb10
    have hX : SlR (fun _ => True) v10 2 RLev o10 c10 (bothL min b a) := hO10.slr fun _ _ => trivial
    clear hb10 hO10
    go_wp2_with fail
    refine (label_Same (fun _ => True) (fun _ => True) _ _ _ _ _ _ _ (hM.below hW) hX).mono ?_
    rintro e v11 ⟨rfl, hb11⟩
    rw [E6.out]
    replace hW := hW.keep hb11
    clear hb11
    clear hX
    cases hga : goodL a
    · have HGA := Lib.hid hga
      clear hga
      go_wp2_with fail
      refine (label_Good (fun _ => True) _ _ _ _ (by omega) (hA2.below hW)).mono ?_
      rintro e v12 ⟨rfl, hb12⟩
      rw [HGA.out]
      replace hW := hW.keep hb12
      clear hb12
      go_wp2_with fail
      go_ret
      exact ⟨rfl, hW0.out.keep hW⟩
    · have HGA := Lib.hid hga
      replace E7 := Lib.hid (E7.out hga)
      replace E8 := Lib.hid (E8.out hga)
      replace E9 := Lib.hid (E9.out hga)
      clear hga
      go_wp2_with fail
      refine (label_Good (fun _ => True) _ _ _ _ (by omega) (hA2.below hW)).mono ?_
      rintro e v13 ⟨rfl, hb13⟩
      rw [HGA.out]
      replace hW := hW.keep hb13
      clear hb13
      go_wp2_with fail
      refine (label_Join (fun _ => True) _ _ _ _ _ _ _ (by omega) (hA2.below hW) (hM.below hW)).mono ?_
      rintro e v14 ⟨o14, c14, rfl, hb14, hO14⟩
      replace hW := hW.keep hb14
      have hX : SlR (fun _ => True) v14 2 RLev o14 c14 (bothL max a m) := hO14.slr fun _ _ => trivial
      clear hb14 hO14
      go_wp2_with fail
      refine (label_Same (fun _ => True) (fun _ => True) _ _ _ _ _ _ _ hX (hA2.below hW)).mono ?_
      rintro e v15 ⟨rfl, hb15⟩
      rw [E7.out]
      replace hW := hW.keep hb15
      clear hb15
      clear hX
      go_wp2_with fail
      refine (label_Meet (fun _ => True) _ _ _ _ _ _ _ (by omega) (hA2.below hW) (hJ.below hW)).mono ?_
      rintro e v16 ⟨o16, c16, rfl, hb16, hO16⟩
      replace hW := hW.keep hb16
      have hX : SlR (fun _ => True) v16 2 RLev o16 c16 (bothL min a j) := hO16.slr fun _ _ => trivial
      clear hb16 hO16
      go_wp2_with fail
      refine (label_Same (fun _ => True) (fun _ => True) _ _ _ _ _ _ _ hX (hA2.below hW)).mono ?_
      rintro e v17 ⟨rfl, hb17⟩
      rw [E8.out]
      replace hW := hW.keep hb17
      clear hb17
      clear hX
      go_wp2_with fail
      refine (label_Join (fun _ => True) _ _ _ _ _ _ _ (by omega) (hA2.below hW) (hA2.below hW)).mono ?_
      rintro e v18 ⟨o18, c18, rfl, hb18, hO18⟩
      replace hW := hW.keep hb18
      have hX : SlR (fun _ => True) v18 2 RLev o18 c18 (bothL max a a) := hO18.slr fun _ _ => trivial
      clear hb18 hO18
      go_wp2_with fail
      refine (label_Same (fun _ => True) (fun _ => True) _ _ _ _ _ _ _ hX (hA2.below hW)).mono ?_
      rintro e v19 ⟨rfl, hb19⟩
      rw [E9.out]
      replace hW := hW.keep hb19
      clear hb19
      clear hX
      go_wp2_with fail
      go_ret
      exact ⟨rfl, hW0.out.keep hW⟩
  · have hW := Below.refl v00.heap.size v00
    skip
    go_wp2_with fail
    refine (label_Flows_nil (fun _ => True) _ _ _ _ _ _ _ (by omega) (hA2.below hW) (hJ.below hW)).mono ?_
    rintro e v20 ⟨rfl, hb20⟩
    rw [E1.out]
    replace hW := hW.keep hb20
    clear hb20
    go_wp2_with fail
    refine (label_Flows_nil (fun _ => True) _ _ _ _ _ _ _ (by omega) (hB2.below hW) (hJ.below hW)).mono ?_
    rintro e v21 ⟨rfl, hb21⟩
    rw [E2.out]
    replace hW := hW.keep hb21
    clear hb21
    go_wp2_with fail
    refine (label_Flows_nil (fun _ => True) _ _ _ _ _ _ _ (by omega) (hM.below hW) (hA2.below hW)).mono ?_
    rintro e v22 ⟨rfl, hb22⟩
    rw [E3.out]
    replace hW := hW.keep hb22
    clear hb22
    go_wp2_with fail
    refine (label_Flows_nil (fun _ => True) _ _ _ _ _ _ _ (by omega) (hM.below hW) (hB2.below hW)).mono ?_
    rintro e v23 ⟨rfl, hb23⟩
    rw [E4.out]
    replace hW := hW.keep hb23
    clear hb23
    go_wp2_with fail
    refine (keep_flows _).mono ?_
    rintro e v24 ⟨rfl, hb24⟩
    replace hW := hW.keep hb24
    clear hb24
    go_wp2_with fail
    refine (label_Flows_nil (fun _ => True) _ _ _ _ _ _ _ (by omega) (hA2.below hW) (hC2.below hW)).mono ?_
    rintro e v25 ⟨rfl, hb25⟩
    rw [Hac.out]
    replace hW := hW.keep hb25
    clear hb25
    go_wp2_with fail
    refine (label_Flows_nil (fun _ => True) _ _ _ _ _ _ _ (by omega) (hC2.below hW) (hA2.below hW)).mono ?_
    rintro e v26 ⟨rfl, hb26⟩
    rw [Hca.out]
    replace hW := hW.keep hb26
    clear hb26
    go_wp2_with fail
    refine (label_Flows_nil (fun _ => True) _ _ _ _ _ _ _ (by omega) (hC2.below hW) (hB2.below hW)).mono ?_
    rintro e v27 ⟨rfl, hb27⟩
    rw [Hcb.out]
    replace hW := hW.keep hb27
    clear hb27
    go_wp2_with fail
    refine (label_Flows_nil (fun _ => True) _ _ _ _ _ _ _ (by omega) (hC2.below hW) (hM.below hW)).mono ?_
    rintro e v28 ⟨rfl, hb28⟩
    rw [EM.out, Bool.true_and]
    replace hW := hW.keep hb28
    clear hb28
    go_wp2_with fail
    refine (label_Join (fun _ => True) _ _ _ _ _ _ _ (by omega) (hB2.below hW) (hA2.below hW)).mono ?_
    rintro e v29 ⟨o29, c29, rfl, hb29, hO29⟩
    replace hW := hW.keep hb29
    have hX : SlR (fun _ => True) v29 2 RLev o29 c29 (bothL max b a) := hO29.slr fun _ _ => trivial
    clear hb29 hO29
    go_wp2_with fail
    refine (label_Same (fun _ => True) (fun _ => True) _ _ _ _ _ _ _ (hJ.below hW) hX).mono ?_
    rintro e v30 ⟨rfl, hb30⟩
    rw [E5.out]
    replace hW := hW.keep hb30
    clear hb30
    clear hX
    go_wp2_with fail
    refine (label_Meet (fun _ => True) _ _ _ _ _ _ _ (by omega) (hB2.below hW) (hA2.below hW)).mono ?_
    rintro e v31 ⟨o31, c31, rfl, hb31, hO31⟩
    replace hW := hW.keep hb31
    have hX : SlR (fun _ => True) v31 2 RLev o31 c31 (bothL min b a) := hO31.slr fun _ _ => trivial
    clear hb31 hO31
    go_wp2_with fail
    refine (label_Same (fun _ => True) (fun _ => True) _ _ _ _ _ _ _ (hM.below hW) hX).mono ?_
    rintro e v32 ⟨rfl, hb32⟩
    rw [E6.out]
    replace hW := hW.keep hb32
    clear hb32
    clear hX
    cases hga : goodL a
    · have HGA := Lib.hid hga
      clear hga
      go_wp2_with fail
      refine (label_Good (fun _ => True) _ _ _ _ (by omega) (hA2.below hW)).mono ?_
      rintro e v33 ⟨rfl, hb33⟩
      rw [HGA.out]
      replace hW := hW.keep hb33
      clear hb33
      go_wp2_with fail
      go_ret
      exact ⟨rfl, hW0.out.keep hW⟩
    · have HGA := Lib.hid hga
      replace E7 := Lib.hid (E7.out hga)
      replace E8 := Lib.hid (E8.out hga)
      replace E9 := Lib.hid (E9.out hga)
      clear hga
      go_wp2_with fail
      refine (label_Good (fun _ => True) _ _ _ _ (by omega) (hA2.below hW)).mono ?_
      rintro e v34 ⟨rfl, hb34⟩
      rw [HGA.out]
      replace hW := hW.keep hb34
      clear hb34
      go_wp2_with fail
      refine (label_Join (fun _ => True) _ _ _ _ _ _ _ (by omega) (hA2.below hW) (hM.below hW)).mono ?_
      rintro e v35 ⟨o35, c35, rfl, hb35, hO35⟩
      replace hW := hW.keep hb35
      have hX : SlR (fun _ => True) v35 2 RLev o35 c35 (bothL max a m) := hO35.slr fun _ _ => trivial
      clear hb35 hO35
      go_wp2_with fail
      refine (label_Same (fun _ => True) (fun _ => True) _ _ _ _ _ _ _ hX (hA2.below hW)).mono ?_
      rintro e v36 ⟨rfl, hb36⟩
      rw [E7.out]
      replace hW := hW.keep hb36
      clear hb36
      clear hX
      go_wp2_with fail
      refine (label_Meet (fun _ => True) _ _ _ _ _ _ _ (by omega) (hA2.below hW) (hJ.below hW)).mono ?_
      rintro e v37 ⟨o37, c37, rfl, hb37, hO37⟩
      replace hW := hW.keep hb37
      have hX : SlR (fun _ => True) v37 2 RLev o37 c37 (bothL min a j) := hO37.slr fun _ _ => trivial
      clear hb37 hO37
      go_wp2_with fail
      refine (label_Same (fun _ => True) (fun _ => True) _ _ _ _ _ _ _ hX (hA2.below hW)).mono ?_
      rintro e v38 ⟨rfl, hb38⟩
      rw [E8.out]
      replace hW := hW.keep hb38
      clear hb38
      clear hX
      go_wp2_with fail
      refine (label_Join (fun _ => True) _ _ _ _ _ _ _ (by omega) (hA2.below hW) (hA2.below hW)).mono ?_
      rintro e v39 ⟨o39, c39, rfl, hb39, hO39⟩
      replace hW := hW.keep hb39
      have hX : SlR (fun _ => True) v39 2 RLev o39 c39 (bothL max a a) := hO39.slr fun _ _ => trivial
      clear hb39 hO39
      go_wp2_with fail
      refine (label_Same (fun _ => True) (fun _ => True) _ _ _ _ _ _ _ hX (hA2.below hW)).mono ?_
      rintro e v40 ⟨rfl, hb40⟩
      rw [E9.out]
      replace hW := hW.keep hb40
      clear hb40
      clear hX
      go_wp2_with fail
      go_ret
      exact ⟨rfl, hW0.out.keep hW⟩
  · have hW := Below.refl v00.heap.size v00
    skip
    go_wp2_with fail
    refine (label_Flows_nil (fun _ => True) _ _ _ _ _ _ _ (by omega) (hA2.below hW) (hJ.below hW)).mono ?_
    rintro e v41 ⟨rfl, hb41⟩
    rw [E1.out]
    replace hW := hW.keep hb41
    clear hb41
    go_wp2_with fail
    refine (label_Flows_nil (fun _ => True) _ _ _ _ _ _ _ (by omega) (hB2.below hW) (hJ.below hW)).mono ?_
    rintro e v42 ⟨rfl, hb42⟩
    rw [E2.out]
    replace hW := hW.keep hb42
    clear hb42
    go_wp2_with fail
    refine (label_Flows_nil (fun _ => True) _ _ _ _ _ _ _ (by omega) (hM.below hW) (hA2.below hW)).mono ?_
    rintro e v43 ⟨rfl, hb43⟩
    rw [E3.out]
    replace hW := hW.keep hb43
    clear hb43
    go_wp2_with fail
    refine (label_Flows_nil (fun _ => True) _ _ _ _ _ _ _ (by omega) (hM.below hW) (hB2.below hW)).mono ?_
    rintro e v44 ⟨rfl, hb44⟩
    rw [E4.out]
    replace hW := hW.keep hb44
    clear hb44
    go_wp2_with fail
    refine (keep_flows _).mono ?_
    rintro e v45 ⟨rfl, hb45⟩
    replace hW := hW.keep hb45
    clear hb45
    go_wp2_with fail
    refine (label_Flows_nil (fun _ => True) _ _ _ _ _ _ _ (by omega) (hA2.below hW) (hC2.below hW)).mono ?_
    rintro e v46 ⟨rfl, hb46⟩
    rw [Hac.out]
    replace hW := hW.keep hb46
    clear hb46
    go_wp2_with fail
    refine (label_Flows_nil (fun _ => True) _ _ _ _ _ _ _ (by omega) (hB2.below hW) (hC2.below hW)).mono ?_
    rintro e v47 ⟨rfl, hb47⟩
    rw [Hbc.out]
    replace hW := hW.keep hb47
    clear hb47
    go_wp2_with fail
    refine (label_Flows_nil (fun _ => True) _ _ _ _ _ _ _ (by omega) (hJ.below hW) (hC2.below hW)).mono ?_
    rintro e v48 ⟨rfl, hb48⟩
    rw [EJ.out, Bool.true_and]
    replace hW := hW.keep hb48
    clear hb48
    go_wp2_with fail
    refine (label_Flows_nil (fun _ => True) _ _ _ _ _ _ _ (by omega) (hC2.below hW) (hA2.below hW)).mono ?_
    rintro e v49 ⟨rfl, hb49⟩
    rw [Hca.out]
    replace hW := hW.keep hb49
    clear hb49
    go_wp2_with fail
    refine (label_Join (fun _ => True) _ _ _ _ _ _ _ (by omega) (hB2.below hW) (hA2.below hW)).mono ?_
    rintro e v50 ⟨o50, c50, rfl, hb50, hO50⟩
    replace hW := hW.keep hb50
    have hX : SlR (fun _ => True) v50 2 RLev o50 c50 (bothL max b a) := hO50.slr fun _ _ => trivial
    clear hb50 hO50
    go_wp2_with fail
    refine (label_Same (fun _ => True) (fun _ => True) _ _ _ _ _ _ _ (hJ.below hW) hX).mono ?_
    rintro e v51 ⟨rfl, hb51⟩
    rw [E5.out]
    replace hW := hW.keep hb51
    clear hb51
    clear hX
    go_wp2_with fail
    refine (label_Meet (fun _ => True) _ _ _ _ _ _ _ (by omega) (hB2.below hW) (hA2.below hW)).mono ?_
    rintro e v52 ⟨o52, c52, rfl, hb52, hO52⟩
    replace hW := hW.keep hb52
    have hX : SlR (fun _ => True) v52 2 RLev o52 c52 (bothL min b a) := hO52.slr fun _ _ => trivial
    clear hb52 hO52
    go_wp2_with fail
    refine (label_Same (fun _ => True) (fun _ => True) _ _ _ _ _ _ _ (hM.below hW) hX).mono ?_
    rintro e v53 ⟨rfl, hb53⟩
    rw [E6.out]
    replace hW := hW.keep hb53
    clear hb53
    clear hX
    cases hga : goodL a
    · have HGA := Lib.hid hga
      clear hga
      go_wp2_with fail
      refine (label_Good (fun _ => True) _ _ _ _ (by omega) (hA2.below hW)).mono ?_
      rintro e v54 ⟨rfl, hb54⟩
      rw [HGA.out]
      replace hW := hW.keep hb54
      clear hb54
      go_wp2_with fail
      go_ret
      exact ⟨rfl, hW0.out.keep hW⟩
    · have HGA := Lib.hid hga
      replace E7 := Lib.hid (E7.out hga)
      replace E8 := Lib.hid (E8.out hga)
      replace E9 := Lib.hid (E9.out hga)
      clear hga
      go_wp2_with fail
      refine (label_Good (fun _ => True) _ _ _ _ (by omega) (hA2.below hW)).mono ?_
      rintro e v55 ⟨rfl, hb55⟩
      rw [HGA.out]
      replace hW := hW.keep hb55
      clear hb55
      go_wp2_with fail
      refine (label_Join (fun _ => True) _ _ _ _ _ _ _ (by omega) (hA2.below hW) (hM.below hW)).mono ?_
      rintro e v56 ⟨o56, c56, rfl, hb56, hO56⟩
      replace hW := hW.keep hb56
      have hX : SlR (fun _ => True) v56 2 RLev o56 c56 (bothL max a m) := hO56.slr fun _ _ => trivial
      clear hb56 hO56
      go_wp2_with fail
      refine (label_Same (fun _ => True) (fun _ => True) _ _ _ _ _ _ _ hX (hA2.below hW)).mono ?_
      rintro e v57 ⟨rfl, hb57⟩
      rw [E7.out]
      replace hW := hW.keep hb57
      clear hb57
      clear hX
      go_wp2_with fail
      refine (label_Meet (fun _ => True) _ _ _ _ _ _ _ (by omega) (hA2.below hW) (hJ.below hW)).mono ?_
      rintro e v58 ⟨o58, c58, rfl, hb58, hO58⟩
      replace hW := hW.keep hb58
      have hX : SlR (fun _ => True) v58 2 RLev o58 c58 (bothL min a j) := hO58.slr fun _ _ => trivial
      clear hb58 hO58
      go_wp2_with fail
      refine (label_Same (fun _ => True) (fun _ => True) _ _ _ _ _ _ _ hX (hA2.below hW)).mono ?_
      rintro e v59 ⟨rfl, hb59⟩
      rw [E8.out]
      replace hW := hW.keep hb59
      clear hb59
      clear hX
      go_wp2_with fail
      refine (label_Join (fun _ => True) _ _ _ _ _ _ _ (by omega) (hA2.below hW) (hA2.below hW)).mono ?_
      rintro e v60 ⟨o60, c60, rfl, hb60, hO60⟩
      replace hW := hW.keep hb60
      have hX : SlR (fun _ => True) v60 2 RLev o60 c60 (bothL max a a) := hO60.slr fun _ _ => trivial
      clear hb60 hO60
      go_wp2_with fail
      refine (label_Same (fun _ => True) (fun _ => True) _ _ _ _ _ _ _ hX (hA2.below hW)).mono ?_
      rintro e v61 ⟨rfl, hb61⟩
      rw [E9.out]
      replace hW := hW.keep hb61
      clear hb61
      clear hX
      go_wp2_with fail
      go_ret
      exact ⟨rfl, hW0.out.keep hW⟩
  · have hW := Below.refl v00.heap.size v00
    skip
    go_wp2_with fail
    refine (label_Flows_nil (fun _ => True) _ _ _ _ _ _ _ (by omega) (hA2.below hW) (hJ.below hW)).mono ?_
    rintro e v62 ⟨rfl, hb62⟩
    rw [E1.out]
    replace hW := hW.keep hb62
    clear hb62
    go_wp2_with fail
    refine (label_Flows_nil (fun _ => True) _ _ _ _ _ _ _ (by omega) (hB2.below hW) (hJ.below hW)).mono ?_
    rintro e v63 ⟨rfl, hb63⟩
    rw [E2.out]
    replace hW := hW.keep hb63
    clear hb63
    go_wp2_with fail
    refine (label_Flows_nil (fun _ => True) _ _ _ _ _ _ _ (by omega) (hM.below hW) (hA2.below hW)).mono ?_
    rintro e v64 ⟨rfl, hb64⟩
    rw [E3.out]
    replace hW := hW.keep hb64
    clear hb64
    go_wp2_with fail
    refine (label_Flows_nil (fun _ => True) _ _ _ _ _ _ _ (by omega) (hM.below hW) (hB2.below hW)).mono ?_
    rintro e v65 ⟨rfl, hb65⟩
    rw [E4.out]
    replace hW := hW.keep hb65
    clear hb65
    go_wp2_with fail
    refine (keep_flows _).mono ?_
    rintro e v66 ⟨rfl, hb66⟩
    replace hW := hW.keep hb66
    clear hb66
    go_wp2_with fail
    refine (label_Flows_nil (fun _ => True) _ _ _ _ _ _ _ (by omega) (hA2.below hW) (hC2.below hW)).mono ?_
    rintro e v67 ⟨rfl, hb67⟩
    rw [Hac.out]
    replace hW := hW.keep hb67
    clear hb67
    go_wp2_with fail
    refine (label_Flows_nil (fun _ => True) _ _ _ _ _ _ _ (by omega) (hB2.below hW) (hC2.below hW)).mono ?_
    rintro e v68 ⟨rfl, hb68⟩
    rw [Hbc.out]
    replace hW := hW.keep hb68
    clear hb68
    go_wp2_with fail
    refine (label_Flows_nil (fun _ => True) _ _ _ _ _ _ _ (by omega) (hJ.below hW) (hC2.below hW)).mono ?_
    rintro e v69 ⟨rfl, hb69⟩
    rw [EJ.out, Bool.true_and]
    replace hW := hW.keep hb69
    clear hb69
    go_wp2_with fail
    refine (label_Flows_nil (fun _ => True) _ _ _ _ _ _ _ (by omega) (hC2.below hW) (hA2.below hW)).mono ?_
    rintro e v70 ⟨rfl, hb70⟩
    rw [Hca.out]
    replace hW := hW.keep hb70
    clear hb70
    go_wp2_with fail
    refine (label_Flows_nil (fun _ => True) _ _ _ _ _ _ _ (by omega) (hC2.below hW) (hB2.below hW)).mono ?_
    rintro e v71 ⟨rfl, hb71⟩
    rw [Hcb.out]
    replace hW := hW.keep hb71
    clear hb71
    go_wp2_with fail
    refine (label_Flows_nil (fun _ => True) _ _ _ _ _ _ _ (by omega) (hC2.below hW) (hM.below hW)).mono ?_
    rintro e v72 ⟨rfl, hb72⟩
    rw [EM.out, Bool.true_and]
    replace hW := hW.keep hb72
    clear hb72
    go_wp2_with fail
    refine (label_Join (fun _ => True) _ _ _ _ _ _ _ (by omega) (hB2.below hW) (hA2.below hW)).mono ?_
    rintro e v73 ⟨o73, c73, rfl, hb73, hO73⟩
    replace hW := hW.keep hb73
    have hX : SlR (fun _ => True) v73 2 RLev o73 c73 (bothL max b a) := hO73.slr fun _ _ => trivial
    clear hb73 hO73
    go_wp2_with fail
    refine (label_Same (fun _ => True) (fun _ => True) _ _ _ _ _ _ _ (hJ.below hW) hX).mono ?_
    rintro e v74 ⟨rfl, hb74⟩
    rw [E5.out]
    replace hW := hW.keep hb74
    clear hb74
    clear hX
    go_wp2_with fail
    refine (label_Meet (fun _ => True) _ _ _ _ _ _ _ (by omega) (hB2.below hW) (hA2.below hW)).mono ?_
    rintro e v75 ⟨o75, c75, rfl, hb75, hO75⟩
    replace hW := hW.keep hb75
    have hX : SlR (fun _ => True) v75 2 RLev o75 c75 (bothL min b a) := hO75.slr fun _ _ => trivial
    clear hb75 hO75
    go_wp2_with fail
    refine (label_Same (fun _ => True) (fun _ => True) _ _ _ _ _ _ _ (hM.below hW) hX).mono ?_
    rintro e v76 ⟨rfl, hb76⟩
    rw [E6.out]
    replace hW := hW.keep hb76
    clear hb76
    clear hX
    cases hga : goodL a
    · have HGA := Lib.hid hga
      clear hga
      go_wp2_with fail
      refine (label_Good (fun _ => True) _ _ _ _ (by omega) (hA2.below hW)).mono ?_
      rintro e v77 ⟨rfl, hb77⟩
      rw [HGA.out]
      replace hW := hW.keep hb77
      clear hb77
      go_wp2_with fail
      go_ret
      exact ⟨rfl, hW0.out.keep hW⟩
    · have HGA := Lib.hid hga
      replace E7 := Lib.hid (E7.out hga)
      replace E8 := Lib.hid (E8.out hga)
      replace E9 := Lib.hid (E9.out hga)
      clear hga
      go_wp2_with fail
      refine (label_Good (fun _ => True) _ _ _ _ (by omega) (hA2.below hW)).mono ?_
      rintro e v78 ⟨rfl, hb78⟩
      rw [HGA.out]
      replace hW := hW.keep hb78
      clear hb78
      go_wp2_with fail
      refine (label_Join (fun _ => True) _ _ _ _ _ _ _ (by omega) (hA2.below hW) (hM.below hW)).mono ?_
      rintro e v79 ⟨o79, c79, rfl, hb79, hO79⟩
      replace hW := hW.keep hb79
      have hX : SlR (fun _ => True) v79 2 RLev o79 c79 (bothL max a m) := hO79.slr fun _ _ => trivial
      clear hb79 hO79
      go_wp2_with fail
      refine (label_Same (fun _ => True) (fun _ => True) _ _ _ _ _ _ _ hX (hA2.below hW)).mono ?_
      rintro e v80 ⟨rfl, hb80⟩
      rw [E7.out]
      replace hW := hW.keep hb80
      clear hb80
      clear hX
      go_wp2_with fail
      refine (label_Meet (fun _ => True) _ _ _ _ _ _ _ (by omega) (hA2.below hW) (hJ.below hW)).mono ?_
      rintro e v81 ⟨o81, c81, rfl, hb81, hO81⟩
      replace hW := hW.keep hb81
      have hX : SlR (fun _ => True) v81 2 RLev o81 c81 (bothL min a j) := hO81.slr fun _ _ => trivial
      clear hb81 hO81
      go_wp2_with fail
      refine (label_Same (fun _ => True) (fun _ => True) _ _ _ _ _ _ _ hX (hA2.below hW)).mono ?_
      rintro e v82 ⟨rfl, hb82⟩
      rw [E8.out]
      replace hW := hW.keep hb82
      clear hb82
      clear hX
      go_wp2_with fail
      refine (label_Join (fun _ => True) _ _ _ _ _ _ _ (by omega) (hA2.below hW) (hA2.below hW)).mono ?_
      rintro e v83 ⟨o83, c83, rfl, hb83, hO83⟩
      replace hW := hW.keep hb83
      have hX : SlR (fun _ => True) v83 2 RLev o83 c83 (bothL max a a) := hO83.slr fun _ _ => trivial
      clear hb83 hO83
      go_wp2_with fail
      refine (label_Same (fun _ => True) (fun _ => True) _ _ _ _ _ _ _ hX (hA2.below hW)).mono ?_
      rintro e v84 ⟨rfl, hb84⟩
      rw [E9.out]
      replace hW := hW.keep hb84
      clear hb84
      clear hX
      go_wp2_with fail
      go_ret
      exact ⟨rfl, hW0.out.keep hW⟩

theorem own : ownKnob Try.prog.godebug = none := by kernel_rfl
theorem laid : laidOutB Try.prog = true := by kernel_rfl

set_option maxRecDepth 100000 in
theorem contract (H : Type) (enc : TypeId × Value → H) (W : World) (base : Nat) (args : Array Value) (ds gs : List (DataW H)) (before : List MemPlace)
    (hval : ∀ (j : Nat) t v, Try.f6.params[j]? = some t → args[j]? = some v → Value.okWide Try.prog W .any base t v)
    (hW : DataW.Whole enc Try.prog Try.f6.params.toList Rows.labelLatticeSpec.vars false W args.toList ds gs before)
    (hk : Rows.uptoSmall H (ds ++ gs) = true)
    (hsz : (DataW.weightsEach Try.prog (Try.f6.params.toList ++ Rows.labelLatticeSpec.plain.varTypes Try.prog) (ds ++ gs)).all (· ≤ reachBytes) = true) :
    Calls Try.prog 6 args W fun e W' => ∃ v, e = .returned v ∧ Rows.labelLatticeSpec.post enc Try.prog Try.f6 false true false false W args v W' := by
  have hW' := hW
  obtain ⟨p, q, hA0, hV, rfl, hfz, hnd⟩ := hW
  have hA : DataW.TrodAll enc Try.prog W 0 (fun _ => true) true Try.f6.params.toList args.toList ds p := hA0
  have hpar := Try.params6
  rw [hpar] at hA hval hsz
  obtain ⟨v0, vs0, d0, ds0, p0, q0, hargs0, rfl, rfl, h0, r0⟩ := trodAll_cons hA
  obtain ⟨v1, vs1, d1, ds1, p1, q1, hargs1, rfl, rfl, h1, r1⟩ := trodAll_cons r0
  obtain ⟨v2, vs2, d2, ds2, p2, q2, hargs2, rfl, rfl, h2, r2⟩ := trodAll_cons r1
  obtain ⟨hnil, rfl, rfl⟩ := trodAll_nil r2
  obtain rfl : args = #[v0, v1, v2] := by cases args; simp_all
  obtain ⟨rfl, rfl⟩ := trodVars_none hV
  have w0 : ∀ n ∈ d0.weights Try.prog 23, n ≤ reachBytes := fun n hn => by simpa using List.all_eq_true.1 hsz n (DataW.weights_mem_each (j := 0) (t := 23) (d := d0) rfl rfl n hn)
  obtain ⟨x0, a0, c0, rfl, hR0, hl0, hx0, hm0⟩ := arg_slice (fit := Lev.fit) (mass := Lev.mass) reads_Lev Try.underlying23 (by kernel_rfl : Try.prog.cellsOf _ = 2) (by decide) (by kernel_rfl : Try.prog.bytesOf _ = 16) (hval 0 _ v0 rfl rfl) h0 w0
  have w1 : ∀ n ∈ d1.weights Try.prog 23, n ≤ reachBytes := fun n hn => by simpa using List.all_eq_true.1 hsz n (DataW.weights_mem_each (j := 1) (t := 23) (d := d1) rfl rfl n hn)
  obtain ⟨x1, a1, c1, rfl, hR1, hl1, hx1, hm1⟩ := arg_slice (fit := Lev.fit) (mass := Lev.mass) reads_Lev Try.underlying23 (by kernel_rfl : Try.prog.cellsOf _ = 2) (by decide) (by kernel_rfl : Try.prog.bytesOf _ = 16) (hval 1 _ v1 rfl rfl) h1 w1
  have w2 : ∀ n ∈ d2.weights Try.prog 23, n ≤ reachBytes := fun n hn => by simpa using List.all_eq_true.1 hsz n (DataW.weights_mem_each (j := 2) (t := 23) (d := d2) rfl rfl n hn)
  obtain ⟨x2, a2, c2, rfl, hR2, hl2, hx2, hm2⟩ := arg_slice (fit := Lev.fit) (mass := Lev.mass) reads_Lev Try.underlying23 (by kernel_rfl : Try.prog.cellsOf _ = 2) (by decide) (by kernel_rfl : Try.prog.bytesOf _ = 16) (hval 2 _ v2 rfl rfl) h2 w2
  have hbk := Nat.le_trans (bkAll_le [d0, d1, d2]) (of_decide_eq_true hk)
  simp only [bkAll] at hbk
  refine (walk W x0 x1 x2 a0 a1 a2 c0 c1 c2 hR0 hR1 hR2 (by have := hm0; have := hm1; have := hm2; simp only [mass_levs] at *; omega) (by simp only [mass_levs] at *; omega) (by simp only [mass_levs] at *; omega)).mono fun e W' ⟨he, hb⟩ => ?_
  exact ⟨_, he, law_post laid (by kernel_rfl) hW' rfl rfl (by kernel_rfl) Try.underlying4 hb⟩

set_option maxRecDepth 100000 in
theorem lifted (os : Os) (started : os.Started) (H : Type) (enc : TypeId × Value → H) (F : Stop.Interp) :
    ReturnsInHanded {} Try.checked os 6 .any ((Rows.OpenSpec.upto Rows.labelLatticeSpec).pre6 enc Try.prog Try.f6 Rows.labelLatticeUptoRow.domain false) (((Rows.OpenSpec.upto Rows.labelLatticeSpec).at F).post enc Try.prog Try.f6 false true false false) := by
  refine returnsInHanded_of_cond_sized (C := Try.checked) (s := Rows.OpenSpec.upto Rows.labelLatticeSpec) (k := Rows.uptoSmall) rfl own started (by kernel_rfl) Try.func6
    (OpenSpec.witness (enc := enc) (C := Try.checked) (s := Rows.OpenSpec.upto Rows.labelLatticeSpec) (k := Rows.uptoSmall) rfl false ⟨#[], #[.slice none 0 0, .slice none 0 0, .slice none 0 0], []⟩ 12 (by kernel_rfl) (by kernel_rfl) (by kernel_rfl)
      (x := ([.nil, .nil, .nil], [], [])) (by kernel_rfl) rfl (by kernel_rfl)) ?_
  intro W base args ds gs before hval hW _ hk hsz _
  exact contract H enc W base args ds gs before hval hW hk hsz

theorem proved : Rows.LabelLatticeUptoSaid :=
  OpenClaim.holds_of_cond 6 Try.f6 rfl rfl rfl rfl rfl rfl rfl ⟨rfl, rfl, rfl, rfl, rfl⟩ rfl rfl rfl rfl rfl (by kernel_rfl) Try.func6 (by kernel_rfl)
    (of_decide_eq_true (by kernel_rfl)) (by unfold Func.isWrapper; first | (rw [if_pos (by decide +kernel)]; kernel_rfl) | (rw [if_neg (by decide +kernel)]; exact ⟨rfl, rfl⟩))
    (fun os started H enc _ F => lifted os started H enc F)

end Go.Proofs.Ytnihccinpbpllaa.labelLattice
