/- For every list of acts, the replies to a beginning of it are the beginning of the replies. No condition. -/
import Derived.Test.YtflfjpopfapogaaRows
import Derived.WalkKit
import Derived.ProofKit
import Derived.OpenShut
import Derived.SizedLaws
import Derived.Test.YtflfjpopfapogaaP5
import Derived.Test.YtflfjpopfapogaaP12
import Derived.Test.YtflfjpopfapogaaP48
import Derived.Test.YtflfjpopfapogaaP11
import Derived.Test.YtflfjpopfapogaaP41
import Derived.Test.YtflfjpopfapogaaP26
set_option linter.unusedSimpArgs false
set_option linter.unusedVariables false
namespace Go.Proofs.Ytflfjpopfapogaa.topRuns
open Go.ChangeShapes Go.WideShapes Go.ChangeAt Go.RowKit

theorem repsOf_take : ∀ (l : List Deed) (k : Nat) (C : Clu), repsOf C (l.take k) = (repsOf C l).take k
  | [], k, C => by simp [repsOf]
  | a :: l, 0, C => by simp [repsOf]
  | a :: l, k + 1, C => by simp [repsOf, repsOf_take l k]

theorem RDeed.moveB {ok ok' : Nat → Prop} {w w' : World} {cs : List Value} {x : Deed} (h : RDeed ok w cs x) (hs : w.heap.size ≤ w'.heap.size) (hk : ∀ b, b < w.heap.size → ok b → ok' b ∧ w'.heap[b]? = w.heap[b]?) : RDeed ok' w' cs x := by
  obtain ⟨la, lc, ga, gc, e, h1, h2⟩ := h
  exact ⟨la, lc, ga, gc, e, h1.move hs hk fun _ _ r => r, h2.move hs hk fun _ _ r => r⟩

theorem run_neqRep {w : World} {o : Oper} {A : Act} (T' : TypeId) (x y : Operand) (ho : o.op = .binOp .neq 41 x y T') (r : Rep) (hx : A.eval x = .agg #[.int .i64 r.code, .int .i64 r.n, .string r.text]) (hy : A.eval y = .agg #[.int .i64 r.code, .int .i64 r.n, .string r.text]) : (execOp A.eval o).run Try.prog w = .ok (.value (.bool false)) w := by
  have h := neq_Reply r r true (by simp) w
  unfold RepV at h
  simp only [execOp, ho, hx, hy, Sem.run_bind, guard_Reply, Result.andThen_ok, h, Sem.run_pure]
  rfl

theorem info_Act : (Try.prog.info? 38).map (fun i => (i.zero, i.size, i.bytes)) = some (some (.agg #[.int .i64 0, .int .i64 0, .int .i64 0, .int .i64 0, .int .i64 0, .int .i64 0, .int .i64 0, .int .i64 0, .int .i64 0, .slice none 0 0, .slice none 0 0, .string .empty]), 12, 136) := by kernel_rfl

set_option maxRecDepth 100000 in
set_option maxHeartbeats 8000000 in
theorem walk (w : World) (l : List Deed) (la : Option Addr) (lc : Nat) (k : Int) (hR : SlR (fun _ => True) w 12 (RDeed (fun _ => True) w) la lc l) (hlen : l.length * 136 ≤ 140737488355328) (hB : ∀ a ∈ l, a.call.label.length * 16 ≤ 140737488351232 ∧ a.call.grants.length * 8 ≤ 140737488351232) (hk : -9223372036854775808 ≤ k ∧ k ≤ 9223372036854775807) :
    Calls Try.prog 5 #[.slice la l.length lc, .int .i64 k] w fun r w' => r = .returned (.bool true) ∧ Below w.heap.size w w' := by
  have HA := Lib.hid (fun V : World => top_alive V)
  have st := St.start w
  by_cases h120 : 120 < l.length
  · have d1 : decide ((120 : Int) < (l.length : Int)) = true := by simp; omega
    clear h120
    go_enter Try.func5, Try.ntmps5
    go_wp2_with (first | go_skip | (go_at_call 12; go_must (refine (HA.out _).mono ?_; rintro e v1 ⟨rfl, hb⟩; replace st := st.call hb; clear hb)))
    go_ret
    exact ⟨rfl, st.below⟩
  have d1 : decide ((120 : Int) < (l.length : Int)) = false := by simp; omega
  obtain ⟨i0, hi, hz0, hz1, hz2⟩ := info_parts info_Act
  have HRB := Lib.hid (fun (V : World) (hb : Below w.heap.size w V) => hR.below hb)
  have HMV := Lib.hid (fun (V : World) (hb : Below w.heap.size w V) (B : Nat) (a : Option Addr) (c : Nat) (m : List Deed) (h : Own B 38 V 12 (RDeed (fun _ => True) w) a c m) => (SlR.move (ok' := fun _ => True) (h.slr (ok := fun _ => True) fun _ _ => trivial) (Nat.le_refl _) (fun b _ ho => ⟨ho, rfl⟩) (fun cs x r => RDeed.moveB (ok' := fun _ => True) r hb.size (fun b hb' ho => ⟨ho, hb.block b hb'⟩)) : SlR (fun _ => True) V 12 (RDeed (fun _ => True) V) a c m))
  have HLA := Lib.hid (show (if lc = 0 then la else la.map (·.add (0 * 12))) = la by
    split
    · rfl
    · cases la with
      | none => rfl
      | some ad => simp [Addr.add])
  go_enter Try.func5, Try.ntmps5
  go_upto_region 4 with (first
    | go_skip | (go_at_call 12; go_must (refine (HA.out _).mono ?_; rintro e v1 ⟨rfl, hb⟩; replace st := st.call hb; clear hb))
    | (go_at_call 13; go_must (refine (top_pick _ k _ (by omega) (by omega) hk).mono ?_; rintro e v2 ⟨⟨p, rfl, hp0, hp1⟩, rfl⟩)))
  obtain ⟨j, rfl⟩ := Int.eq_ofNat_of_zero_le hp0
  have hjl : j ≤ l.length := by omega
  go_upto_region 5 with (first
    | go_skip
    | (at_builtin; go_must (refine wpList_copy (wanted_none rfl) _ _ 22 rfl 38 i0 _ 12 136 Try.underlying22 hi hz0 hz1 hz2 rfl (by decide) (ys := l) rfl rfl rfl (HRB.out _ st.below) hlen ?_; intro a2 k2 w2 hO2 hb2; replace st := st.call hb2; clear hb2))
    | (go_at_call 14; go_must (refine (cluster_Run _ (fun _ => True) l a2 k2 (HMV.out _ st.below _ _ _ _ hO2) hB (by omega)).mono ?_; rintro e v3 ⟨a3, k3, rfl, hb3, hO3⟩; replace st := st.call hb3; clear hb3 hO2)))
  have hO3 := hO3.slr (ok := fun _ => True) fun _ _ => trivial
  have hjt : (l.take j).length = j := by rw [List.length_take]; omega
  have st3 := st
  replace st := St.start v3
  have HW3 := Lib.hid st3.below
  clear st3
  go_upto_region 6 with (first
    | go_skip
    | ((with_reducible refine at_slice 22 ?_); refine wpList_value (wanted_none rfl) (run_sl 22 38 _ _ _ _ rfl Try.underlying22 Try.sizeOf38 rfl 0 j lc rfl (fun _ => rfl) rfl (by simp) rfl (fun _ => rfl) (by simp) (Nat.zero_le _) (by have := hR.1; omega) (Nat.le_refl _)) ?_; rw [HLA.out, Nat.sub_zero, Nat.sub_zero])
    | (at_builtin; go_must (refine wpList_copy (wanted_none rfl) _ _ 22 rfl 38 i0 _ 12 136 Try.underlying22 hi hz0 hz1 hz2 rfl (by decide) (ys := l.take j) rfl rfl hjt.symm ((HRB.out _ (HW3.out.keep st.below)).take j) (by rw [hjt]; omega) ?_; intro a4 k4 w4 hO4 hb4; replace st := st.call hb4; clear hb4))
    | (go_at_call 14; go_must (have hrun := cluster_Run _ (fun _ => True) (l.take j) a4 k4 (HMV.out _ (HW3.out.keep st.below) _ _ _ _ hO4) (fun a ha => hB a (List.take_subset _ _ ha)) (by rw [hjt]; omega); rw [hjt] at hrun; refine hrun.mono ?_; rintro e v5 ⟨a5, k5, rfl, hb5, hO5⟩; replace st := st.call hb5; clear hb5 hO4 hrun)))
  have hO5 := hO5.slr (ok := fun _ => True) fun _ _ => trivial
  have hO3 := hO3.below st.below
  have hW5 := HW3.out.keep st.below
  replace st := St.start v5
  clear HW3 HRB HMV
  go_wp2_with (first | go_skip | fail)
  go_loopw [9] (fun i wr => ∃ n : Nat, n ≤ j ∧ i = .int .i64 n ∧ Below v5.heap.size v5 wr) (fun i _ => j - (intOf i).toNat)
  case atStart => exact ⟨0, Nat.zero_le _, rfl, Below.refl _ _⟩
  case round =>
    obtain ⟨n, hn, rfl, hB5⟩ := hrel
    by_cases hnj : n < j
    case neg =>
      go_wp2_with (first | go_skip | fail)
      go_ret
      exact ⟨rfl, hW5.keep hB5⟩
    have hnl : n < (repsOf newC l).length := by rw [repsOf_len]; omega
    obtain ⟨b3, o3, c3, e3, -, hb3, hr3, -, -, hc3⟩ := (hO3.below hB5).2.2.2 n ((repsOf newC l)[n]'hnl) (List.getElem?_eq_getElem hnl)
    have hx5 : (repsOf newC (l.take j))[n]? = some ((repsOf newC l)[n]'hnl) := by
      rw [repsOf_take, List.getElem?_take_of_lt hnj, List.getElem?_eq_getElem]
    obtain ⟨b5, o5, c5, e5, -, hb5, hr5, -, -, hc5⟩ := (hO5.below hB5).2.2.2 n _ hx5
    generalize (repsOf newC l)[n]'hnl = rp at hr3 hr5
    unfold RRep at hr3 hr5
    subst hr3 hr5 e3 e5
    go_upto_region 11 with (first | go_skip | fail)
    try simp only [kP, kA, kS, kZ]
    refine det_region (by kernel_rfl) 9 rfl (fun U => Below wr.heap.size wr U) ((Below.refl _ _).drew) (by decide +kernel) ?_
    refine detS 0 rfl ?_; simp only [kP, kA, kS, kZ]; refine detS 1 rfl ?_; simp only [kP, kA, kS, kZ]
    refine detT (v := .pointer (some ⟨b3, o3 + n * 3, none⟩)) 2 rfl (fun W hW => by (first | (go_simp; done) | (go_simp; omega) | (go_simp; intro h; omega))) ?_; simp only [kP, kA, kS, kZ]
    refine detT 3 rfl (fun U hU => run_load_at 41 _ rfl Try.isAgg41 _ Try.sizeOf41 b3 (o3 + n * 3) rfl [.int .i64 rp.code, .int .i64 rp.n, .string rp.text] rfl (fun jj x hx => (hU.cell (p := ⟨b3, o3 + n * 3 + jj, none⟩) hb3).trans (hc3 jj x hx))) ?_; simp only [kP, kA, kS, kZ]
    refine detS 4 rfl ?_; simp only [kP, kA, kS, kZ]; refine detS 5 rfl ?_; simp only [kP, kA, kS, kZ]
    refine detT (v := .pointer (some ⟨b5, o5 + n * 3, none⟩)) 6 rfl (fun W hW => by (first | (go_simp; done) | (go_simp; omega) | (go_simp; intro h; omega))) ?_; simp only [kP, kA, kS, kZ]
    refine detT 7 rfl (fun U hU => run_load_at 41 _ rfl Try.isAgg41 _ Try.sizeOf41 b5 (o5 + n * 3) rfl [.int .i64 rp.code, .int .i64 rp.n, .string rp.text] rfl (fun jj x hx => (hU.cell (p := ⟨b5, o5 + n * 3 + jj, none⟩) hb5).trans (hc5 jj x hx))) ?_; simp only [kP, kA, kS, kZ]
    refine detT 8 rfl (fun U hU => run_neqRep _ _ _ rfl rp rfl rfl) ?_; simp only [kP, kA, kS, kZ]
    refine det_done (by decide +kernel) ?_
    intro U hU
    go_wp2_with (first | go_skip | fail)
    go_roundw
    case rel => exact ⟨n + 1, hnj, by go_num, hB5.keep hU⟩
    case measure => simp [intOf] <;> omega

theorem own : ownKnob Try.prog.godebug = none := by kernel_rfl
theorem laid : laidOutB Try.prog = true := by kernel_rfl

set_option maxRecDepth 100000 in
theorem contract (H : Type) (enc : TypeId × Value → H) (W : World) (base : Nat) (args : Array Value) (ds gs : List (DataW H)) (before : List MemPlace)
    (hval : ∀ (j : Nat) t v, Try.f5.params[j]? = some t → args[j]? = some v → Value.okWide Try.prog W .any base t v)
    (hW : DataW.Whole enc Try.prog Try.f5.params.toList Rows.topRunsSpec.vars false W args.toList ds gs before)
    (hsz : (DataW.weightsEach Try.prog (Try.f5.params.toList ++ Rows.topRunsSpec.plain.varTypes Try.prog) (ds ++ gs)).all (· ≤ reachBytes) = true) :
    Calls Try.prog 5 args W fun e W' => ∃ v, e = .returned v ∧ Rows.topRunsSpec.post enc Try.prog Try.f5 false true false false W args v W' := by
  have hW' := hW
  obtain ⟨p, q, hTrd, hV, rfl, hfz, hnd⟩ := hW
  have hA : DataW.TrodAll enc Try.prog W 0 (fun _ => true) true Try.f5.params.toList args.toList ds p := hTrd
  have hpar := Try.params5
  rw [hpar] at hA hval hsz
  obtain ⟨v0, vs0, d0, ds0, p0, q0, hargs0, rfl, rfl, h0, r0⟩ := trodAll_cons hA
  obtain ⟨v1, vs1, d1, ds1, p1, q1, hargs1, rfl, rfl, h1, r1⟩ := trodAll_cons r0
  obtain ⟨hnil, rfl, rfl⟩ := trodAll_nil r1
  obtain rfl : args = #[v0, v1] := by cases args; simp_all
  obtain ⟨rfl, rfl⟩ := trodVars_none hV
  have w0 : ∀ n ∈ d0.weights Try.prog 22, n ≤ reachBytes := fun n hn => by simpa using List.all_eq_true.1 hsz n (DataW.weights_mem_each (j := 0) (t := 22) (d := d0) rfl rfl n hn)
  obtain ⟨x0, a0, c0, rfl, hR0, hl0, hx0, hm0⟩ := arg_slice (fit := Deed.fit) (mass := Deed.mass) reads_Deed Try.underlying22 (by kernel_rfl : Try.prog.cellsOf _ = 12) (by decide) (by kernel_rfl : Try.prog.bytesOf _ = 136) (hval 0 _ v0 rfl rfl) h0 w0
  have w1 : ∀ n ∈ d1.weights Try.prog 3, n ≤ reachBytes := fun n hn => by simpa using List.all_eq_true.1 hsz n (DataW.weights_mem_each (j := 1) (t := 3) (d := d1) rfl rfl n hn)
  obtain ⟨x1, rfl, hx1⟩ := arg_int Try.underlying3 (hval 1 _ v1 rfl rfl) h1
  refine (walk W x0 a0 c0 x1 hR0 (by omega) (fun a ha => ⟨by have := (hx0 a ha).2.2.2.2.2.2.2.2.2.1.1; omega, by have := (hx0 a ha).2.2.2.2.2.2.2.2.2.2.1.1; omega⟩) hx1).mono fun e W' ⟨he, hb⟩ => ?_
  exact ⟨_, he, law_post laid (by kernel_rfl) hW' rfl rfl (by kernel_rfl) Try.underlying4 hb⟩

set_option maxRecDepth 100000 in
theorem lifted (os : Os) (started : os.Started) (H : Type) (enc : TypeId × Value → H) :
    ReturnsInHanded {} Try.checked os 5 .any (Rows.topRunsSpec.pre6 enc Try.prog Try.f5 Rows.topRunsRow.domain false) (Rows.topRunsSpec.post enc Try.prog Try.f5 false true false false) := by
  refine returnsInHanded_of_change_sized (C := Try.checked) own started (by kernel_rfl) Try.func5
    (ChangeSpec.witness6 (enc := enc) (C := Try.checked) false ⟨#[], #[.slice none 0 0, .int .i64 0], []⟩ 12 (by kernel_rfl) (by kernel_rfl) (by kernel_rfl) (by kernel_rfl)) ?_
  intro W base args ds gs before hval hW _ hsz _
  exact contract H enc W base args ds gs before hval hW hsz

theorem proved : Rows.TopRunsSaid :=
  OpenClaim.holds_of_wide 5 Try.f5 rfl rfl rfl rfl rfl rfl rfl ⟨rfl, rfl, rfl, rfl, rfl⟩ rfl rfl rfl rfl rfl (by kernel_rfl) Try.func5 (by kernel_rfl)
    (of_decide_eq_true (by kernel_rfl)) (by unfold Func.isWrapper; first | (rw [if_pos (by decide +kernel)]; kernel_rfl) | (rw [if_neg (by decide +kernel)]; exact ⟨rfl, rfl⟩))
    (fun os started H enc _ => lifted os started H enc)

end Go.Proofs.Ytflfjpopfapogaa.topRuns
