/- For every list of acts, behind as many as may be done each further one is refused and changes nothing. No condition. -/
import Derived.Test.YtnjjdpiofbajlaaGreatRows
import Derived.WalkKit
import Derived.ProofKit
import Derived.OpenShut
import Derived.SizedLaws
import Derived.Test.YtnjjdpiofbajlaaGreatP3
import Derived.Test.YtnjjdpiofbajlaaGreatP8
import Derived.Test.YtnjjdpiofbajlaaGreatP38
import Derived.Test.YtnjjdpiofbajlaaGreatP36
import Derived.Test.YtnjjdpiofbajlaaGreatP29
set_option linter.unusedSimpArgs false
set_option linter.unusedVariables false
namespace Go.Proofs.YtnjjdpiofbajlaaGreat.topEnds
open Go.ChangeShapes Go.WideShapes Go.ChangeAt Go.RowKit

def zeroD : Deed := ⟨0, 0, 0, 0, ⟨0, 0, 0, 0, 0, [], [], ⟨#[]⟩⟩⟩

theorem doC_zero {C : Clu} (h : C.acts < 300) : doC C zeroD = ({ C with acts := C.acts + 1 }, errR 3) := by
  unfold doC actC
  rw [if_neg (by omega)]
  rfl

set_option maxRecDepth 100000 in
set_option maxHeartbeats 8000000 in
theorem walk (w : World) (l : List Deed) (la : Option Addr) (lc : Nat) (a : Deed) (la1 : Option Addr) (lc1 : Nat) (ga1 : Option Addr) (gx1 : Nat) (hR : SlR (fun _ => True) w 12 (RDeed (fun _ => True) w) la lc l) (hlen : l.length * 136 ≤ 140737488355328) (hB : ∀ a ∈ l, a.call.label.length * 16 ≤ 140737488351232 ∧ a.call.grants.length * 8 ≤ 140737488351232)
    (hll : a.call.label.length * 16 ≤ 140737488351232) (hgl : a.call.grants.length * 8 ≤ 140737488351232) (hA1 : SlR (fun _ => True) w 2 RLev la1 lc1 a.call.label) (hA2 : SlR (fun _ => True) w 1 RInt ga1 gx1 a.call.grants) :
    Calls Tryz.prog 6 #[.slice la l.length lc, .agg #[.int .i64 a.kind, .int .i64 a.h, .int .i64 a.t, .int .i64 a.n, .int .i64 a.call.kind, .int .i64 a.call.h, .int .i64 a.call.t, .int .i64 a.call.n, .int .i64 a.call.c, .slice la1 a.call.label.length lc1, .slice ga1 a.call.grants.length gx1, .string a.call.text]] w fun r w' => r = .returned (.bool true) ∧ Below w.heap.size w w' := by
  have st := St.start w
  have HPq := Lib.hid (fun (V : World) (hV : Below w.heap.size w V) => play_quiet V _ l la lc (acts_later hR hV) (by omega) hB)
  go_enter Tryz.func6, Tryz.ntmps6
  go_upto_region 5 with (first
    | go_skip | (with_reducible refine mB 32 st ?_; clear st; intro g3 w3 hg3 st)
    | (go_at_call 9; go_must (have hB3 := st.below; have st3 := st; refine (HPq.out _ st.below).mono ?_; rintro e v2 ⟨gc, kg, rfl, hgc, P⟩)))
  have hacts : (doAll newC (l.take 120)).acts = ((min l.length 120 : Nat) : Int) := by
    rw [doAll_acts _ _ (by rw [List.length_take]; show (0 : Int) + _ ≤ _; omega), List.length_take, Nat.min_comm]
    show (0 : Int) + _ = _
    omega
  have HB3 := Lib.hid hB3
  have HC3 := Lib.hid (fun (U : World) (hU : Below w3.heap.size w3 U) => (show ∀ (j : Nat) (v : Value), ([.int .i64 a.kind, .int .i64 a.h, .int .i64 a.t, .int .i64 a.n, .int .i64 a.call.kind, .int .i64 a.call.h, .int .i64 a.call.t, .int .i64 a.call.n, .int .i64 a.call.c, .slice la1 a.call.label.length lc1, .slice ga1 a.call.grants.length gx1, .string a.call.text])[j]? = some v → U.cell? ⟨g3, 0 + j, none⟩ = some v from fun j v hv => by
    have hl := st3.ltAt (i := 0) rfl
    have := (hU.cell (p := ⟨g3, 0 + j, none⟩) hl).trans (st3.cell (i := 0) rfl (0 + j))
    rw [this, Nat.zero_add]; exact hv))
  have hwg : w.heap.size ≤ gc := Nat.le_trans hB3.size hgc
  generalize doAll newC (l.take 120) = C0 at P hacts
  have hP0 := Lib.hid P
  clear st st3 P hB3 HPq
  go_wp2_with (first | go_skip | fail)
  go_loopw [7] (fun v7 wr => ∃ (i : Nat) (C : Clu), i ≤ 300 ∧ v7 = .int .i64 i ∧ C.acts = i ∧ Clus w3 [] [] (fun _ => False) v2 (fun _ => False) gc kg C wr) (fun v7 _ => 300 - (intOf v7).toNat)
  case atStart => exact ⟨min l.length 120, C0, by omega, by first | rfl | go_num | (congr 1; omega), hacts, hP0.out⟩
  case round =>
    clear hP0 hacts
    obtain ⟨i, C, hi, rfl, hac, Pk⟩ := hrel
    by_cases hi3 : i < 300
    case pos =>
      have d1 : decide ((i : Int) < 300) = true := by simp; omega
      have HDo := Lib.hid (cluster_Do Pk zeroD (fun _ => False) (fun _ h => h.elim) none 0 none 0 (by decide) (by decide) (SlR.nil _ _ _ _) (SlR.nil _ _ _ _))
      rw [doC_zero (by omega)] at HDo
      unfold deedV RepV zeroD errR at HDo
      have HAC := Lib.hid hac
      clear Pk hac
      go_wp2_with (first | go_skip | (go_at_call 18; go_must (refine HDo.out.mono ?_; rintro e v3 ⟨rfl, P3⟩)))
      refine wp_value (v := .int .i64 3) (w' := v3) rfl ?_
      go_wp2_with (first | go_skip | fail)
      go_roundw
      case rel => exact ⟨i + 1, _, by omega, by go_num, by simp only; rw [HAC.out]; omega, P3⟩
      case measure => simp [intOf]; omega
    case neg =>
      have d1 : decide ((i : Int) < 300) = false := by simp; omega
      obtain rfl : i = 300 := by omega
      have HPk := Lib.hid Pk
      have HTh := Lib.hid (fun (V : World) (own2 : Blks) (hV : St [] wr V own2) => cluster_Thread (Pk.walk hV) 0 0)
      have HNt := Lib.hid (fun (V : World) (own2 : Blks) (hV : St [] wr V own2) => cluster_Net (Pk.walk hV))
      have HDf := Lib.hid (doC_full (C := C) a hac)
      have st := St.start wr
      obtain ⟨x, hx⟩ : ∃ x, thrC2 C 0 0 = x := ⟨_, rfl⟩
      rw [hx] at HTh
      have HX := Lib.hid hx
      clear Pk hac hx
      go_upto_region 10 with (first
        | go_skip
        | (go_at_call 11; go_must (refine (HTh.out _ _ st).mono ?_; rintro e v3 ⟨ta, tc, oa, oc, ba, bc, ma, mc, rfl, hb3, hT⟩; have hst := st.call hb3; clear st; have st := hst.rebase; simp only [List.map_nil] at st; unfold thrV))
        | (go_at_call 26; go_must (refine (HNt.out _ _ (St.back hst st)).mono ?_; rintro e v4 ⟨na, nc, rfl, hb4, -⟩; replace st := st.call hb4))
        | (with_reducible refine mA st Tryz.zeroValue39 ?_; clear st; intro g8 w8 hg8 st) | (with_reducible refine mS 0 st Tryz.sizeOf39 ?_; clear st; intro w9 st hw9m hw9z))
      try simp only [kP, kA, kS, kZ]
      have hg8 : v3.heap.size ≤ g8 := by simpa using st.mine _ (List.mem_of_getElem? (i := 0) rfl)
      have P9 := HPk.out.told (St.back hst st)
      have hT9 : ThrS (fun b => wr.heap.size ≤ b ∧ ∀ y ∈ ([(g8, 39, [.slice ta x.label.length tc, .slice oa x.own.length oc, .string x.text, .slice ba x.objects.length bc, .slice ma x.mails.length mc])] : Blks), y.1 ≠ b) w9 x ta tc oa oc ba bc ma mc := hT.move st.size fun b hb ho => ⟨⟨ho, fun y hy e => by simp at hy; subst hy; simp at e; omega⟩, st.frame b hb (by simp)⟩
      have hI := P9.below (Below.refl _ _).drew
      have HT9 := Lib.hid hT9
      clear P9 hT9 hT st hst hb3 hb4 HTh HNt
      have HBU := Lib.hid (show ∀ (U : World), Clus w3 [] [(g8, 39, [.slice ta x.label.length tc, .slice oa x.own.length oc, .string x.text, .slice ba x.objects.length bc, .slice ma x.mails.length mc])] (fun _ => False) w9 (fun b => wr.heap.size ≤ b ∧ ∀ y ∈ ([(g8, 39, [.slice ta x.label.length tc, .slice oa x.own.length oc, .string x.text, .slice ba x.objects.length bc, .slice ma x.mails.length mc])] : Blks), y.1 ≠ b) gc kg C U → Below w.heap.size w U from fun U hU => HB3.out.keep hU.st.below)
      have HA1 := Lib.hid (hA1.fit (ok' := fun b => b < w.heap.size) fun b hb _ => hb)
      have HA2 := Lib.hid (hA2.fit (ok' := fun b => b < w.heap.size) fun b hb _ => hb)
      clear hA1 hA2
      refine lex_region (by kernel_rfl) 20 rfl (fun U => Clus w3 [] [(g8, 39, [.slice ta x.label.length tc, .slice oa x.own.length oc, .string x.text, .slice ba x.objects.length bc, .slice ma x.mails.length mc])] (fun _ => False) w9 (fun b => wr.heap.size ≤ b ∧ ∀ y ∈ ([(g8, 39, [.slice ta x.label.length tc, .slice oa x.own.length oc, .string x.text, .slice ba x.objects.length bc, .slice ma x.mails.length mc])] : Blks), y.1 ≠ b) gc kg C U) ?_
      refine lexS 0 rfl hI ?_
      refine lexT 1 rfl hI (fun U hU => run_load_at 32 _ rfl Tryz.isAgg32 _ Tryz.sizeOf32 g3 0 rfl [.int .i64 a.kind, .int .i64 a.h, .int .i64 a.t, .int .i64 a.n, .int .i64 a.call.kind, .int .i64 a.call.h, .int .i64 a.call.t, .int .i64 a.call.n, .int .i64 a.call.c, .slice la1 a.call.label.length lc1, .slice ga1 a.call.grants.length gx1, .string a.call.text] rfl (HC3.out U hU.st.below)) ?_
      refine lexS 3 rfl hI ?_
      refine lexO 2 rfl fun K hK => ?_
      refine wp_callee (f := 18) (by first | (go_simp; done) | (go_simp; rfl)) ?_
      refine (cluster_Do hI a (fun b => b < w.heap.size) (fun b hb => by omega) la1 lc1 ga1 gx1 hll hgl (HA1.out.below (HBU.out _ hI)) (HA2.out.below (HBU.out _ hI))).mono ?_
      rw [HDf.out]
      rintro e V2 ⟨rfl, P2⟩
      refine ⟨_, rfl, ?_⟩
      clear hI
      have hI := P2
      unfold RepV errR
      refine hK _ _ (hI) ?_; clear hK; simp only [kP, kA, kS, kZ]
      refine lexT 4 rfl hI (fun U hU => run_eqlRep _ _ _ rfl (errR 5) (errR 5) true (by simp) rfl rfl) ?_
      refine lexS 5 rfl hI ?_
      refine lexT 6 rfl hI (fun U hU => St.run_load_agg hU.st 0 39 _ rfl Tryz.isAgg39 _ Tryz.sizeOf39 rfl rfl rfl rfl) ?_
      refine lexS 7 rfl hI ?_
      refine lexO 8 rfl fun K hK => ?_
      refine wp_callee (f := 11) (by first | (go_simp; done) | (go_simp; rfl)) ?_
      refine (cluster_Thread hI 0 0).mono ?_
      rw [HX.out]
      rintro e V3 ⟨ta', tc', oa', oc', ba', bc', ma', mc', rfl, hb3, hT'⟩
      refine ⟨_, rfl, ?_⟩
      have P3 := P2.below hb3
      clear hI P2
      have hI := P3
      unfold thrV
      refine hK _ _ (hI) ?_; clear hK; simp only [kP, kA, kS, kZ]
      refine lexO 9 rfl fun K hK => ?_
      refine wp_callee (f := 28) (by first | (go_simp; done) | (go_simp; rfl)) ?_
      have hq := top_sameThread _ _ V3 x ta tc oa oc ba bc ma mc ta' tc' oa' oc' ba' bc' ma' mc' (HT9.out.move P3.kept.size fun b hb ho => ⟨ho, P3.kept.block b hb ho⟩) hT'
      unfold thrV at hq
      refine hq.mono ?_
      rintro e V4 ⟨rfl, hb4⟩
      refine ⟨_, rfl, ?_⟩
      have P4 := P3.below hb4
      clear hI P3 hq hT' hb3
      have hI := P4
      refine hK _ _ (hI) ?_; clear hK; simp only [kP, kA, kS, kZ]
      refine lexS 10 rfl hI ?_
      refine lexS 11 rfl hI ?_
      refine lexS 12 rfl hI ?_
      refine lexS 13 rfl hI ?_
      refine lexS 14 rfl hI ?_
      refine lexO 15 rfl fun K hK => ?_
      refine wp_callee (f := 26) (by first | (go_simp; done) | (go_simp; rfl)) ?_
      refine (cluster_Net hI).mono ?_
      rintro e V5 ⟨na', nc', rfl, hb5, -⟩
      refine ⟨_, rfl, ?_⟩
      have P5 := P4.below hb5
      clear hI P4
      have hI := P5
      refine hK _ _ (hI) ?_; clear hK; simp only [kP, kA, kS, kZ]
      refine lexS 16 rfl hI ?_
      refine lexT (v := .bool true) 17 rfl hI (fun W hW => by (first | (go_simp; done) | (go_simp; rfl))) ?_
      refine lexS 18 rfl hI ?_
      refine lexS 19 rfl hI ?_
      have hBW := Lib.hid (HBU.out _ hI)
      clear hI P5
      refine lex_done (by decide +kernel) ?_
      go_wp2_with (first | go_skip | fail)
      go_ret
      exact ⟨rfl, hBW.out⟩

theorem own : ownKnob Tryz.prog.godebug = none := by kernel_rfl
theorem laid : laidOutB Tryz.prog = true := by kernel_rfl

set_option maxRecDepth 100000 in
theorem contract (H : Type) (enc : TypeId × Value → H) (W : World) (base : Nat) (args : Array Value) (ds gs : List (DataW H)) (before : List MemPlace)
    (hval : ∀ (j : Nat) t v, Tryz.f6.params[j]? = some t → args[j]? = some v → Value.okWide Tryz.prog W .any base t v)
    (hW : DataW.Whole enc Tryz.prog Tryz.f6.params.toList Rows.topEndsSpec.vars false W args.toList ds gs before)
    (hsz : (DataW.weightsEach Tryz.prog (Tryz.f6.params.toList ++ Rows.topEndsSpec.plain.varTypes Tryz.prog) (ds ++ gs)).all (· ≤ reachBytes) = true) :
    Calls Tryz.prog 6 args W fun e W' => ∃ v, e = .returned v ∧ Rows.topEndsSpec.post enc Tryz.prog Tryz.f6 false true false false W args v W' := by
  have hW' := hW
  obtain ⟨p, q, hTrd, hV, rfl, hfz, hnd⟩ := hW
  have hA : DataW.TrodAll enc Tryz.prog W 0 (fun _ => true) true Tryz.f6.params.toList args.toList ds p := hTrd
  have hpar := Tryz.params6
  rw [hpar] at hA hval hsz
  obtain ⟨v0, vs0, d0, ds0, p0, q0, hargs0, rfl, rfl, h0, r0⟩ := trodAll_cons hA
  obtain ⟨v1, vs1, d1, ds1, p1, q1, hargs1, rfl, rfl, h1, r1⟩ := trodAll_cons r0
  obtain ⟨hnil, rfl, rfl⟩ := trodAll_nil r1
  obtain rfl : args = #[v0, v1] := by cases args; simp_all
  obtain ⟨rfl, rfl⟩ := trodVars_none hV
  have w0 : ∀ n ∈ d0.weights Tryz.prog 22, n ≤ reachBytes := fun n hn => by simpa using List.all_eq_true.1 hsz n (DataW.weights_mem_each (j := 0) (t := 22) (d := d0) rfl rfl n hn)
  obtain ⟨x0, a0, c0, rfl, hR0, hl0, hx0, hm0⟩ := arg_slice (fit := Deed.fit) (mass := Deed.mass) reads_Deed Tryz.underlying22 (by kernel_rfl : Tryz.prog.cellsOf _ = 12) (by decide) (by kernel_rfl : Tryz.prog.bytesOf _ = 136) (hval 0 _ v0 rfl rfl) h0 w0
  have w1 : ∀ n ∈ d1.weights Tryz.prog 32, n ≤ reachBytes := fun n hn => by simpa using List.all_eq_true.1 hsz n (DataW.weights_mem_each (j := 1) (t := 32) (d := d1) rfl rfl n hn)
  obtain ⟨x1, cs1, rfl, ⟨la1, lc1, ga1, gc1, rfl, hA1, hB1⟩, hx1, hm1⟩ := arg_struct reads_Deed Tryz.underlying32 (hval 1 _ v1 rfl rfl) h1 w1
  refine (walk W x0 a0 c0 x1 la1 lc1 ga1 gc1 hR0 (by omega) (fun a ha => ⟨by have := (hx0 a ha).2.2.2.2.2.2.2.2.2.1.1; omega, by have := (hx0 a ha).2.2.2.2.2.2.2.2.2.2.1.1; omega⟩) (by have := hx1.2.2.2.2.2.2.2.2.2.1.1; omega) (by have := hx1.2.2.2.2.2.2.2.2.2.2.1.1; omega) hA1 hB1).mono fun e W' ⟨he, hb⟩ => ?_
  exact ⟨_, he, law_post laid (by kernel_rfl) hW' rfl rfl (by kernel_rfl) Tryz.underlying4 hb⟩

set_option maxRecDepth 100000 in
theorem lifted (os : Os) (started : os.Started) (H : Type) (enc : TypeId × Value → H) :
    ReturnsInHanded {} Tryz.checked os 6 .any (Rows.topEndsSpec.pre6 enc Tryz.prog Tryz.f6 Rows.topEndsRow.domain false) (Rows.topEndsSpec.post enc Tryz.prog Tryz.f6 false true false false) := by
  refine returnsInHanded_of_change_sized (C := Tryz.checked) own started (by kernel_rfl) Tryz.func6
    (ChangeSpec.witness6 (enc := enc) (C := Tryz.checked) false ⟨#[], #[.slice none 0 0, .agg #[.int .i64 0, .int .i64 0, .int .i64 0, .int .i64 0, .int .i64 0, .int .i64 0, .int .i64 0, .int .i64 0, .int .i64 0, .slice none 0 0, .slice none 0 0, .string .empty]], []⟩ 12 (by kernel_rfl) (by kernel_rfl) (by kernel_rfl) (by kernel_rfl)) ?_
  intro W base args ds gs before hval hW _ hsz _
  exact contract H enc W base args ds gs before hval hW hsz

theorem proved : Rows.TopEndsSaid :=
  OpenClaim.holds_of_wide 6 Tryz.f6 rfl rfl rfl rfl rfl rfl rfl ⟨rfl, rfl, rfl, rfl, rfl⟩ rfl rfl rfl rfl rfl (by kernel_rfl) Tryz.func6 (by kernel_rfl)
    (of_decide_eq_true (by kernel_rfl)) (by unfold Func.isWrapper; first | (rw [if_pos (by decide +kernel)]; kernel_rfl) | (rw [if_neg (by decide +kernel)]; exact ⟨rfl, rfl⟩))
    (fun os started H enc _ => lifted os started H enc)

end Go.Proofs.YtnjjdpiofbajlaaGreat.topEnds
