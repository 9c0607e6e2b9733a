/- For every label, what Set sets is there and nothing else is other than it was; set back it is the same; it flows there just if the level does not fall, or one owns it. No condition. -/
import Derived.Test.YtnihccinpbpllaaRows
import Derived.Test.YtnihccinpbpllaaLabelF
import Derived.Test.YtnihccinpbpllaaLabelP
import Derived.Test.YtnihccinpbpllaaLabelG
import Derived.Test.YtnihccinpbpllaaLabelS
import Derived.Test.YtnihccinpbpllaaEqL
import Derived.Test.YtnihccinpbpllaaOpens
import Derived.SizedLaws
import Derived.Deep.DeepCutAuto
set_option linter.unusedSimpArgs false
set_option linter.unusedVariables false
namespace Go.Proofs.Ytnihccinpbpllaa.labelSet
open Go.ChangeShapes Go.WideShapes Go.ChangeAt Go.RowKit

theorem set_no (w : World) (l : List Lev) (c n other : Int) (la : Option Addr) (lc : Nat) (hR : SlR (fun _ => True) w 2 RLev la lc l) (hl : l.length * 16 ≤ 140737488355328) (k : Int) (h : setR l c n = ([], k)) (hk : k ≠ 0) :
    Calls Try.prog 8 #[.slice la l.length lc, .int .i64 c, .int .i64 n, .int .i64 other] w fun e w' => e = .returned (.bool true) ∧ Below w.heap.size w w' := by
  have HS := Lib.hid h
  have d1 : (k != 0) = true := by simpa using hk
  clear h hk
  go_enter Try.func8, Try.ntmps8
  go_wp2_with fail
  refine (label_Set (fun _ => True) _ _ _ _ _ _ hl hR).mono ?_
  rintro e w1 ⟨o, q, rfl, hb1, hO⟩
  rw [HS.out] at hO ⊢
  simp only [List.length_nil]
  go_wp2_with (first | (go_at_call 26; refine (keep_flows _).mono ?_; rintro e w2 ⟨rfl, hb2⟩))
  go_ret
  exact ⟨rfl, hb1.keep hb2⟩

set_option maxHeartbeats 4000000 in
theorem set_yes (w : World) (l : List Lev) (c n other : Int) (la : Option Addr) (lc : Nat) (hR : SlR (fun _ => True) w 2 RLev la lc l) (h : setR l c n = (setL l c n, 0)) (hg : goodL l = true) (hc : 0 ≤ c ∧ c < 80) (hn : 0 ≤ n ∧ n ≤ 3) (h8 : (setL l c n).length ≤ 8) :
    Calls Try.prog 8 #[.slice la l.length lc, .int .i64 c, .int .i64 n, .int .i64 other] w fun e w' => e = .returned (.bool true) ∧ Below w.heap.size w w' := by
  have hl8 := ((goodL_iff l).1 hg).1
  have E1 := Lib.hid h
  have E2 := Lib.hid (set_good hg hc hn h8)
  have E3 := Lib.hid (show lAt (setL l c n) c = n by rw [lAt_set, if_pos rfl])
  have E4 := Lib.hid (show other ≠ c → lAt (setL l c n) other = lAt l other from fun h => by rw [lAt_set, if_neg h])
  have E5 := Lib.hid (setR_back hg hc hn h8)
  have E6 := Lib.hid (flows_set (l := l) c n)
  have E7 := Lib.hid (flows_set_own (l := l) c n)
  clear h hg hc hn
  generalize setL l c n = a at *
  obtain ⟨q, hq⟩ : ∃ q, lAt l c = q := ⟨_, rfl⟩
  rw [hq] at E5 E6
  have HQ := Lib.hid hq
  clear hq
  obtain ⟨r, hr⟩ : ∃ r, lAt l other = r := ⟨_, rfl⟩
  rw [hr] at E4
  have HR := Lib.hid hr
  clear hr
  have st := St.start w
  cases d2 : (other == c) <;> cases d3 : decide (q ≤ n)
  all_goals
    have HD3 := Lib.hid d3
    have hW := Below.refl w.heap.size w
    go_enter Try.func8, Try.ntmps8
    go_wp2_with fail
    refine (label_Set (fun _ => True) _ _ _ _ _ _ (by omega) hR).mono ?_
    rintro e w1 ⟨o, q1, rfl, hb1, hO⟩
    rw [E1.out] at hO ⊢
    replace hW := hW.keep hb1
    replace st := st.call hb1
    have hS : SlR (fun _ => True) w1 2 RLev o q1 a := hO.slr fun _ _ => trivial
    clear hb1 hO
    go_wp2_with fail
    refine (keep_flows _).mono ?_
    rintro e w2 ⟨rfl, hb1⟩
    replace hW := hW.keep hb1
    replace st := st.call hb1
    replace hS := hS.below hb1
    clear hb1
    go_wp2_with fail
    refine (label_At (fun _ => True) _ _ _ _ _ (by omega) (hR.below hW)).mono ?_
    rintro e w3 ⟨rfl, hb1⟩
    rw [HQ.out]
    replace hW := hW.keep hb1
    replace st := st.call hb1
    replace hS := hS.below hb1
    clear hb1
    go_wp2_with fail
    refine (label_Set (fun _ => True) _ _ _ _ _ _ (by omega) hS).mono ?_
    rintro e w4 ⟨o2, q2, rfl, hb1, hO⟩
    rw [E5.out] at hO ⊢
    replace hW := hW.keep hb1
    replace st := st.call hb1
    replace hS := hS.below hb1
    have hT : SlR (fun _ => True) w4 2 RLev o2 q2 l := hO.slr fun _ _ => trivial
    clear hb1 hO
    go_wp2_with fail
    refine (label_Good (fun _ => True) _ _ _ _ (by omega) hS).mono ?_
    rintro e w5 ⟨rfl, hb1⟩
    rw [E2.out]
    replace hW := hW.keep hb1
    replace st := st.call hb1
    replace hS := hS.below hb1
    replace hT := hT.below hb1
    clear hb1
    go_wp2_with fail
    refine (label_At (fun _ => True) _ _ _ _ _ (by omega) hS).mono ?_
    rintro e w6 ⟨rfl, hb1⟩
    rw [E3.out]
    replace hW := hW.keep hb1
    replace st := st.call hb1
    replace hS := hS.below hb1
    replace hT := hT.below hb1
    clear hb1
  · go_wp2_with fail
    refine (label_At (fun _ => True) _ _ _ _ _ (by omega) hS).mono ?_
    rintro e w7 ⟨rfl, hb1⟩
    rw [E4.out (by simpa using d2)]
    replace hW := hW.keep hb1
    replace st := st.call hb1
    replace hS := hS.below hb1
    replace hT := hT.below hb1
    clear hb1
    go_wp2_with fail
    refine (label_At (fun _ => True) _ _ _ _ _ (by omega) (hR.below hW)).mono ?_
    rintro e w8 ⟨rfl, hb1⟩
    rw [HR.out]
    replace hW := hW.keep hb1
    replace st := st.call hb1
    replace hS := hS.below hb1
    replace hT := hT.below hb1
    clear hb1
    go_wp2_with fail
    refine (label_Same (fun _ => True) (fun _ => True) _ _ _ _ _ _ _ hT (hR.below hW)).mono ?_
    rintro e w9 ⟨rfl, hb1⟩
    rw [decide_eq_true (rfl : l = l)]
    replace hW := hW.keep hb1
    replace st := st.call hb1
    replace hS := hS.below hb1
    replace hT := hT.below hb1
    clear hb1
    go_wp2_with fail
    refine (label_Flows_nil (fun _ => True) _ _ _ _ _ _ _ (by omega) (hR.below hW) hS).mono ?_
    rintro e w10 ⟨rfl, hb1⟩
    rw [E6.out, HD3.out]
    replace hW := hW.keep hb1
    replace st := st.call hb1
    replace hS := hS.below hb1
    replace hT := hT.below hb1
    clear hb1
    go_wp2_with fail
    refine (label_At (fun _ => True) _ _ _ _ _ (by omega) (hR.below hW)).mono ?_
    rintro e w11 ⟨rfl, hb1⟩
    rw [HQ.out]
    replace hW := hW.keep hb1
    replace st := st.call hb1
    replace hS := hS.below hb1
    replace hT := hT.below hb1
    clear hb1
    go_wp2_with fail
    have st4 := st.new 3 [.int .i64 c]
    refine (label_Flows (fun _ => True) _ _ _ _ _ _ _ _ _ _ (by omega) (by simp) (hR.below st4.below) (hS.below ((Below.refl _ _).alloc (Nat.le_refl _) _)) (SlR.ofBlk (R := RInt) (x := c) (sz := 1) (st4.blk (w11.heap.size, 3, [.int .i64 c]) (List.mem_of_getElem? (i := 0) rfl)) rfl rfl rfl trivial)).mono ?_
    rintro e wz ⟨rfl, hb1⟩
    rw [E7.out]
    go_wp2_with fail
    go_ret
    exact ⟨by simp, st4.below.keep hb1⟩
  · go_wp2_with fail
    refine (label_At (fun _ => True) _ _ _ _ _ (by omega) hS).mono ?_
    rintro e w7 ⟨rfl, hb1⟩
    rw [E4.out (by simpa using d2)]
    replace hW := hW.keep hb1
    replace st := st.call hb1
    replace hS := hS.below hb1
    replace hT := hT.below hb1
    clear hb1
    go_wp2_with fail
    refine (label_At (fun _ => True) _ _ _ _ _ (by omega) (hR.below hW)).mono ?_
    rintro e w8 ⟨rfl, hb1⟩
    rw [HR.out]
    replace hW := hW.keep hb1
    replace st := st.call hb1
    replace hS := hS.below hb1
    replace hT := hT.below hb1
    clear hb1
    go_wp2_with fail
    refine (label_Same (fun _ => True) (fun _ => True) _ _ _ _ _ _ _ hT (hR.below hW)).mono ?_
    rintro e w9 ⟨rfl, hb1⟩
    rw [decide_eq_true (rfl : l = l)]
    replace hW := hW.keep hb1
    replace st := st.call hb1
    replace hS := hS.below hb1
    replace hT := hT.below hb1
    clear hb1
    go_wp2_with fail
    refine (label_Flows_nil (fun _ => True) _ _ _ _ _ _ _ (by omega) (hR.below hW) hS).mono ?_
    rintro e w10 ⟨rfl, hb1⟩
    rw [E6.out, HD3.out]
    replace hW := hW.keep hb1
    replace st := st.call hb1
    replace hS := hS.below hb1
    replace hT := hT.below hb1
    clear hb1
    go_wp2_with fail
    refine (label_At (fun _ => True) _ _ _ _ _ (by omega) (hR.below hW)).mono ?_
    rintro e w11 ⟨rfl, hb1⟩
    rw [HQ.out]
    replace hW := hW.keep hb1
    replace st := st.call hb1
    replace hS := hS.below hb1
    replace hT := hT.below hb1
    clear hb1
    go_wp2_with fail
    have st4 := st.new 3 [.int .i64 c]
    refine (label_Flows (fun _ => True) _ _ _ _ _ _ _ _ _ _ (by omega) (by simp) (hR.below st4.below) (hS.below ((Below.refl _ _).alloc (Nat.le_refl _) _)) (SlR.ofBlk (R := RInt) (x := c) (sz := 1) (st4.blk (w11.heap.size, 3, [.int .i64 c]) (List.mem_of_getElem? (i := 0) rfl)) rfl rfl rfl trivial)).mono ?_
    rintro e wz ⟨rfl, hb1⟩
    rw [E7.out]
    go_wp2_with fail
    go_ret
    exact ⟨by simp, st4.below.keep hb1⟩
  · go_wp2_with fail
    refine (label_Same (fun _ => True) (fun _ => True) _ _ _ _ _ _ _ hT (hR.below hW)).mono ?_
    rintro e w7 ⟨rfl, hb1⟩
    rw [decide_eq_true (rfl : l = l)]
    replace hW := hW.keep hb1
    replace st := st.call hb1
    replace hS := hS.below hb1
    replace hT := hT.below hb1
    clear hb1
    go_wp2_with fail
    refine (label_Flows_nil (fun _ => True) _ _ _ _ _ _ _ (by omega) (hR.below hW) hS).mono ?_
    rintro e w8 ⟨rfl, hb1⟩
    rw [E6.out, HD3.out]
    replace hW := hW.keep hb1
    replace st := st.call hb1
    replace hS := hS.below hb1
    replace hT := hT.below hb1
    clear hb1
    go_wp2_with fail
    refine (label_At (fun _ => True) _ _ _ _ _ (by omega) (hR.below hW)).mono ?_
    rintro e w9 ⟨rfl, hb1⟩
    rw [HQ.out]
    replace hW := hW.keep hb1
    replace st := st.call hb1
    replace hS := hS.below hb1
    replace hT := hT.below hb1
    clear hb1
    go_wp2_with fail
    have st4 := st.new 3 [.int .i64 c]
    refine (label_Flows (fun _ => True) _ _ _ _ _ _ _ _ _ _ (by omega) (by simp) (hR.below st4.below) (hS.below ((Below.refl _ _).alloc (Nat.le_refl _) _)) (SlR.ofBlk (R := RInt) (x := c) (sz := 1) (st4.blk (w9.heap.size, 3, [.int .i64 c]) (List.mem_of_getElem? (i := 0) rfl)) rfl rfl rfl trivial)).mono ?_
    rintro e wz ⟨rfl, hb1⟩
    rw [E7.out]
    go_wp2_with fail
    go_ret
    exact ⟨by simp, st4.below.keep hb1⟩
  · go_wp2_with fail
    refine (label_Same (fun _ => True) (fun _ => True) _ _ _ _ _ _ _ hT (hR.below hW)).mono ?_
    rintro e w7 ⟨rfl, hb1⟩
    rw [decide_eq_true (rfl : l = l)]
    replace hW := hW.keep hb1
    replace st := st.call hb1
    replace hS := hS.below hb1
    replace hT := hT.below hb1
    clear hb1
    go_wp2_with fail
    refine (label_Flows_nil (fun _ => True) _ _ _ _ _ _ _ (by omega) (hR.below hW) hS).mono ?_
    rintro e w8 ⟨rfl, hb1⟩
    rw [E6.out, HD3.out]
    replace hW := hW.keep hb1
    replace st := st.call hb1
    replace hS := hS.below hb1
    replace hT := hT.below hb1
    clear hb1
    go_wp2_with fail
    refine (label_At (fun _ => True) _ _ _ _ _ (by omega) (hR.below hW)).mono ?_
    rintro e w9 ⟨rfl, hb1⟩
    rw [HQ.out]
    replace hW := hW.keep hb1
    replace st := st.call hb1
    replace hS := hS.below hb1
    replace hT := hT.below hb1
    clear hb1
    go_wp2_with fail
    have st4 := st.new 3 [.int .i64 c]
    refine (label_Flows (fun _ => True) _ _ _ _ _ _ _ _ _ _ (by omega) (by simp) (hR.below st4.below) (hS.below ((Below.refl _ _).alloc (Nat.le_refl _) _)) (SlR.ofBlk (R := RInt) (x := c) (sz := 1) (st4.blk (w9.heap.size, 3, [.int .i64 c]) (List.mem_of_getElem? (i := 0) rfl)) rfl rfl rfl trivial)).mono ?_
    rintro e wz ⟨rfl, hb1⟩
    rw [E7.out]
    go_wp2_with fail
    go_ret
    exact ⟨by simp, st4.below.keep hb1⟩

theorem walk (w : World) (l : List Lev) (c n other : Int) (la : Option Addr) (lc : Nat) (hR : SlR (fun _ => True) w 2 RLev la lc l) (hl : l.length * 16 ≤ 140737488355328) :
    Calls Try.prog 8 #[.slice la l.length lc, .int .i64 c, .int .i64 n, .int .i64 other] w fun e w' => e = .returned (.bool true) ∧ Below w.heap.size w w' := by
  rcases setR_cases l c n with ⟨k, h, hk⟩ | ⟨h, h1, h2, h3, h4⟩
  · exact set_no w l c n other la lc hR hl k h hk
  · exact set_yes w l c n other la lc hR h h1 h2 h3 h4

theorem own : ownKnob Try.prog.godebug = none := by kernel_rfl
theorem laid : laidOutB Try.prog = true := by kernel_rfl

set_option maxRecDepth 100000 in
theorem contract (H : Type) (enc : TypeId × Value → H) (W : World) (base : Nat) (args : Array Value) (ds gs : List (DataW H)) (before : List MemPlace)
    (hval : ∀ (j : Nat) t v, Try.f8.params[j]? = some t → args[j]? = some v → Value.okWide Try.prog W .any base t v)
    (hW : DataW.Whole enc Try.prog Try.f8.params.toList Rows.labelSetSpec.vars false W args.toList ds gs before)
    (hsz : (DataW.weightsEach Try.prog (Try.f8.params.toList ++ Rows.labelSetSpec.plain.varTypes Try.prog) (ds ++ gs)).all (· ≤ reachBytes) = true) :
    Calls Try.prog 8 args W fun e W' => ∃ v, e = .returned v ∧ Rows.labelSetSpec.post enc Try.prog Try.f8 false true false false W args v W' := by
  have hW' := hW
  obtain ⟨p, q, hA0, hV, rfl, hfz, hnd⟩ := hW
  have hA : DataW.TrodAll enc Try.prog W 0 (fun _ => true) true Try.f8.params.toList args.toList ds p := hA0
  have hpar := Try.params8
  rw [hpar] at hA hval hsz
  obtain ⟨v0, vs0, d0, ds0, p0, q0, hargs0, rfl, rfl, h0, r0⟩ := trodAll_cons hA
  obtain ⟨v1, vs1, d1, ds1, p1, q1, hargs1, rfl, rfl, h1, r1⟩ := trodAll_cons r0
  obtain ⟨v2, vs2, d2, ds2, p2, q2, hargs2, rfl, rfl, h2, r2⟩ := trodAll_cons r1
  obtain ⟨v3, vs3, d3, ds3, p3, q3, hargs3, rfl, rfl, h3, r3⟩ := trodAll_cons r2
  obtain ⟨hnil, rfl, rfl⟩ := trodAll_nil r3
  obtain rfl : args = #[v0, v1, v2, v3] := by cases args; simp_all
  obtain ⟨rfl, rfl⟩ := trodVars_none hV
  have w0 : ∀ n ∈ d0.weights Try.prog 23, n ≤ reachBytes := fun n hn => by simpa using List.all_eq_true.1 hsz n (DataW.weights_mem_each (j := 0) (t := 23) (d := d0) rfl rfl n hn)
  obtain ⟨x0, a0, c0, rfl, hR0, hl0, hx0, hm0⟩ := arg_slice (fit := Lev.fit) (mass := Lev.mass) reads_Lev Try.underlying23 (by kernel_rfl : Try.prog.cellsOf _ = 2) (by decide) (by kernel_rfl : Try.prog.bytesOf _ = 16) (hval 0 _ v0 rfl rfl) h0 w0
  have w1 : ∀ n ∈ d1.weights Try.prog 3, n ≤ reachBytes := fun n hn => by simpa using List.all_eq_true.1 hsz n (DataW.weights_mem_each (j := 1) (t := 3) (d := d1) rfl rfl n hn)
  obtain ⟨x1, rfl, hx1⟩ := arg_int Try.underlying3 (hval 1 _ v1 rfl rfl) h1
  have w2 : ∀ n ∈ d2.weights Try.prog 3, n ≤ reachBytes := fun n hn => by simpa using List.all_eq_true.1 hsz n (DataW.weights_mem_each (j := 2) (t := 3) (d := d2) rfl rfl n hn)
  obtain ⟨x2, rfl, hx2⟩ := arg_int Try.underlying3 (hval 2 _ v2 rfl rfl) h2
  have w3 : ∀ n ∈ d3.weights Try.prog 3, n ≤ reachBytes := fun n hn => by simpa using List.all_eq_true.1 hsz n (DataW.weights_mem_each (j := 3) (t := 3) (d := d3) rfl rfl n hn)
  obtain ⟨x3, rfl, hx3⟩ := arg_int Try.underlying3 (hval 3 _ v3 rfl rfl) h3
  refine (walk W x0 x1 x2 x3 a0 c0 hR0 (by omega)).mono fun e W' ⟨he, hb⟩ => ?_
  exact ⟨_, he, law_post laid (by kernel_rfl) hW' rfl rfl (by kernel_rfl) Try.underlying4 hb⟩

set_option maxRecDepth 100000 in
theorem lifted (os : Os) (started : os.Started) (H : Type) (enc : TypeId × Value → H) :
    ReturnsInHanded {} Try.checked os 8 .any (Rows.labelSetSpec.pre6 enc Try.prog Try.f8 Rows.labelSetRow.domain false) (Rows.labelSetSpec.post enc Try.prog Try.f8 false true false false) := by
  refine returnsInHanded_of_change_sized (C := Try.checked) own started (by kernel_rfl) Try.func8
    (ChangeSpec.witness6 (enc := enc) (C := Try.checked) false ⟨#[], #[.slice none 0 0, .int .i64 0, .int .i64 0, .int .i64 0], []⟩ 12 (by kernel_rfl) (by kernel_rfl) (by kernel_rfl) (by kernel_rfl)) ?_
  intro W base args ds gs before hval hW _ hsz _
  exact contract H enc W base args ds gs before hval hW hsz

theorem proved : Rows.LabelSetSaid :=
  OpenClaim.holds_of_wide 8 Try.f8 rfl rfl rfl rfl rfl rfl rfl ⟨rfl, rfl, rfl, rfl, rfl⟩ rfl rfl rfl rfl rfl (by kernel_rfl) Try.func8 (by kernel_rfl)
    (of_decide_eq_true (by kernel_rfl)) (by unfold Func.isWrapper; first | (rw [if_pos (by decide +kernel)]; kernel_rfl) | (rw [if_neg (by decide +kernel)]; exact ⟨rfl, rfl⟩))
    (fun os started H enc _ => lifted os started H enc)

end Go.Proofs.Ytnihccinpbpllaa.labelSet
