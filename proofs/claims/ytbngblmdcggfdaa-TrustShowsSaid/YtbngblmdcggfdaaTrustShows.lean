/- For all good certs and every mail, what Show shows is enough to know what May says. No condition. -/
import Derived.Test.YtbngblmdcggfdaaRows
import Derived.WalkKit
import Derived.ProofKit
import Derived.OpenShut
import Derived.SizedLaws
import Derived.Test.YtbngblmdcggfdaaFrame
import Derived.Test.YtbngblmdcggfdaaOpens
import Derived.Test.YtbngblmdcggfdaaTrusts
import Derived.Test.YtbngblmdcggfdaaTrustM
set_option linter.unusedSimpArgs false
set_option linter.unusedVariables false
namespace Go.Proofs.Ytbngblmdcggfdaa.trustShows
open Go.ChangeShapes Go.WideShapes Go.ChangeAt Go.RowKit

theorem show_sub {l : List Cert} {m : Mail} {x : Cert} : x ∈ showL l m ↔ x ∈ l ∧ x.c ∈ namedL m := by
  unfold showL
  simp [List.mem_filter, inL_iff]

theorem show_good {l : List Cert} {m : Mail} (h : goodCerts l = true) : goodCerts (showL l m) = true := by
  have hg := (goodCerts_iff l).1 h
  refine (goodCerts_iff _).2 ⟨fun x hx => hg.1 x (show_sub.1 hx).1, ?_, Nat.le_trans (List.length_filter_le _ _) hg.2.2⟩
  exact hg.2.1.sublist List.filter_sublist

theorem show_reach {l : List Cert} {m : Mail} {c now h : Int} (hc : c ∈ namedL m) (hr : Reach l c now h) : Reach (showL l m) c now h := by
  induction hr with
  | home => exact .home
  | step x hx h1 h2 _ ih => exact .step x (show_sub.2 ⟨hx, by rw [h1]; exact hc⟩) h1 h2 ih

theorem show_trust {l : List Cert} {m : Mail} {c now h : Int} (hg : goodCerts l = true) (hc : c ∈ namedL m) : trustB (showL l m) c now h = trustB l c now h := by
  rw [Bool.eq_iff_iff, trustB_iff, trustB_iff]
  constructor
  · rintro ⟨a, _, b⟩
    exact ⟨a, hg, b.more (fun x hx => (show_sub.1 hx).1) (Int.le_refl _)⟩
  · rintro ⟨a, _, b⟩
    exact ⟨a, show_good hg, show_reach hc b⟩

theorem show_may {l : List Cert} {m : Mail} {h now : Int} (hg : goodCerts l = true) : mayB (showL l m) h m now = mayB l h m now := by
  unfold mayB
  congr 1
  rw [Bool.eq_iff_iff, List.all_eq_true, List.all_eq_true]
  exact ⟨fun k c hc => by rw [← show_trust hg hc]; exact k c hc, fun k c hc => by rw [show_trust hg hc]; exact k c hc⟩

set_option maxRecDepth 100000 in
set_option maxHeartbeats 3000000 in
theorem walk (w : World) (l : List Cert) (ca : Option Addr) (cc : Nat) (h : Int) (m : Mail) (la : Option Addr) (lc : Nat) (ga : Option Addr) (gc : Nat) (now : Int) (hC : SlR (fun _ => True) w 4 RCert ca cc l) (hl : l.length * 32 ≤ 140737488351232) (hM : MailR (fun _ => True) w m la lc ga gc) (hm : m.grants.length * 8 ≤ 140737488351232 ∧ m.label.length * 16 ≤ 140737488351232) :
    Calls Try.prog 4 #[.slice ca l.length cc, .int .i64 h, mailV m la lc ga gc, .int .i64 now] w fun r w' => r = .returned (.bool true) ∧ Below w.heap.size w w' := by
  have HS := Lib.hid (fun (W : World) (hb : Below w.heap.size w W) => trust_Show (fun _ => True) W l ca cc m la lc ga gc hm (by omega) (hC.below hb) (hM.below hb))
  have HG := Lib.hid (fun (W : World) (hb : Below w.heap.size w W) => trust_Good (fun _ => True) W ca cc l (hC.below hb))
  have HM1 := Lib.hid (fun (W : World) (a : Option Addr) (c : Nat) (s : List Cert) (hS : SlR (fun _ => True) W 4 RCert a c s) (hb : Below w.heap.size w W) => trust_May (fun _ => True) W s a c h m la lc ga gc now hm hS (hM.below hb))
  unfold mailV at *
  cases hg : goodCerts l
  · have HGf := Lib.hid hg
    clear hg
    have st := St.start w
    go_enter Try.func4, Try.ntmps4
    go_wp2_with (first
      | go_skip | (refine mem_box st (wanted_none rfl) 27 _ rfl _ rfl _ rfl ?_; clear st; intro g1 w1 hg1 st hg1b; clear hg1b; simp [Act.eval, Act.put, Value.cells, putL] at st) | ((first | refine mem_load_agg' st 27 _ rfl (wanted_none rfl) Try.isAgg27 _ Try.sizeOf27 ?_ | (refine mem_load_agg' st 27 _ rfl (wanted_some rfl ?_) Try.isAgg27 _ Try.sizeOf27 ?_; focus (simp [yielded, Act.put]; done))); refine ⟨0, _, _, _, _, _, rfl, rfl, rfl, rfl, ?_⟩)
      | (go_at_call 13; go_must (refine (HS.out _ st.below).mono ?_; rintro e v2 ⟨a2, c2, rfl, hb2, -⟩; replace st := st.call hb2; clear hb2))
      | (go_at_call 17; go_must (refine (HG.out _ st.below).mono ?_; rintro e v2 ⟨rfl, hb2⟩; rw [HGf.out]; replace st := st.call hb2; clear hb2))
      | (go_at_call 18; go_must (refine (trusts_keep _).mono ?_; rintro e v2 ⟨rfl, hb2⟩; replace st := st.call hb2; clear hb2)))
    go_ret
    exact ⟨rfl, st.below⟩
  · have HGt := Lib.hid hg
    have HGs := Lib.hid (show_good (m := m) hg)
    have HMm := Lib.hid (show_may (m := m) (h := h) (now := now) hg)
    have hlen : (showL l m).length ≤ l.length := List.length_filter_le _ _
    clear hg
    generalize showL l m = s at HS HGs HMm hlen
    have d1 : decide ((s.length : Int) ≤ (l.length : Int)) = true := by simp; omega
    have st := St.start w
    go_enter Try.func4, Try.ntmps4
    go_wp2_with (first
      | go_skip | (refine mem_box st (wanted_none rfl) 27 _ rfl _ rfl _ rfl ?_; clear st; intro g1 w1 hg1 st hg1b; clear hg1b; simp [Act.eval, Act.put, Value.cells, putL] at st) | ((first | refine mem_load_agg' st 27 _ rfl (wanted_none rfl) Try.isAgg27 _ Try.sizeOf27 ?_ | (refine mem_load_agg' st 27 _ rfl (wanted_some rfl ?_) Try.isAgg27 _ Try.sizeOf27 ?_; focus (simp [yielded, Act.put]; done))); refine ⟨0, _, _, _, _, _, rfl, rfl, rfl, rfl, ?_⟩)
      | (go_at_call 13; go_must (refine (HS.out _ st.below).mono ?_; rintro e v2 ⟨a2, c2, rfl, hb2, hS2⟩; replace hS2 := hS2.okay (fun _ _ => trivial : ∀ b, _ → True); replace st := st.call hb2; clear hb2))
      | (go_at_call 17; go_must (refine (HG.out _ st.below).mono ?_; rintro e v2 ⟨rfl, hb2⟩; rw [HGt.out]; replace st := st.call hb2; replace hS2 := hS2.below hb2; clear hb2))
      | (go_at_call 18; go_must (refine (trusts_keep _).mono ?_; rintro e v2 ⟨rfl, hb2⟩; replace st := st.call hb2; replace hS2 := hS2.below hb2; clear hb2)))
    replace hS2 := hS2.below (Below.refl _ _).drew
    refine lex_still st (by kernel_rfl) 23 rfl ?_; clear st; intro hI
    refine lex_take 0 rfl (by decide +kernel) (by first | exact wanted_none rfl | exact wanted_some rfl rfl) hI (fun W hW => by first | (go_simp; done) | (go_simp; rfl)) ?_; simp only [Act.put, List.setIfInBounds_toArray, List.set_cons_succ, List.set_cons_zero]
    have st := hI
    refine lex_only 1 rfl (by decide +kernel) (by first | exact wanted_none rfl | exact wanted_some rfl rfl) fun K hK => ?_
    refine wp_callee (f := 17) (by first | (go_simp; done) | (go_simp; rfl)) ?_
    refine (trust_Good (fun _ => True) _ a2 c2 s hS2).mono ?_
    rintro e v3 ⟨rfl, hb3⟩
    rw [HGs.out]
    refine ⟨_, rfl, ?_⟩
    replace st := st.call hb3
    replace hS2 := hS2.below hb3
    clear hb3
    refine hK _ _ (st) ?_; clear hK; simp only [Act.put, List.setIfInBounds_toArray, List.set_cons_succ, List.set_cons_zero]
    have hI := st
    refine lex_take 2 rfl (by decide +kernel) (by first | exact wanted_none rfl | exact wanted_some rfl rfl) hI (fun W hW => by first | (go_simp; done) | (go_simp; rfl)) ?_; simp only [Act.put, List.setIfInBounds_toArray, List.set_cons_succ, List.set_cons_zero]
    refine lex_take 3 rfl (by decide +kernel) (by first | exact wanted_none rfl | exact wanted_some rfl rfl) hI (fun W hW => by first | (go_simp; done) | (go_simp; rfl)) ?_; simp only [Act.put, List.setIfInBounds_toArray, List.set_cons_succ, List.set_cons_zero]
    refine lex_take 4 rfl (by decide +kernel) (by first | exact wanted_none rfl | exact wanted_some rfl rfl) hI (fun W hW => by first | (go_simp; done) | (go_simp; rfl)) ?_; simp only [Act.put, List.setIfInBounds_toArray, List.set_cons_succ, List.set_cons_zero]
    refine lex_take 5 rfl (by decide +kernel) (by first | exact wanted_none rfl | exact wanted_some rfl rfl) hI (fun W hW => St.run_load_agg hW 0 27 _ rfl Try.isAgg27 _ Try.sizeOf27 rfl rfl rfl rfl) ?_; simp only [Act.put, List.setIfInBounds_toArray, List.set_cons_succ, List.set_cons_zero]
    refine lex_take 6 rfl (by decide +kernel) (by first | exact wanted_none rfl | exact wanted_some rfl rfl) hI (fun W hW => by first | (go_simp; done) | (go_simp; rfl)) ?_; simp only [Act.put, List.setIfInBounds_toArray, List.set_cons_succ, List.set_cons_zero]
    refine lex_take 8 rfl (by decide +kernel) (by first | exact wanted_none rfl | exact wanted_some rfl rfl) hI (fun W hW => by first | (go_simp; done) | (go_simp; rfl)) ?_; simp only [Act.put, List.setIfInBounds_toArray, List.set_cons_succ, List.set_cons_zero]
    refine lex_take 9 rfl (by decide +kernel) (by first | exact wanted_none rfl | exact wanted_some rfl rfl) hI (fun W hW => by first | (go_simp; done) | (go_simp; rfl)) ?_; simp only [Act.put, List.setIfInBounds_toArray, List.set_cons_succ, List.set_cons_zero]
    refine lex_take 10 rfl (by decide +kernel) (by first | exact wanted_none rfl | exact wanted_some rfl rfl) hI (fun W hW => St.run_load_agg hW 0 27 _ rfl Try.isAgg27 _ Try.sizeOf27 rfl rfl rfl rfl) ?_; simp only [Act.put, List.setIfInBounds_toArray, List.set_cons_succ, List.set_cons_zero]
    refine lex_take 11 rfl (by decide +kernel) (by first | exact wanted_none rfl | exact wanted_some rfl rfl) hI (fun W hW => by first | (go_simp; done) | (go_simp; rfl)) ?_; simp only [Act.put, List.setIfInBounds_toArray, List.set_cons_succ, List.set_cons_zero]
    refine lex_only 7 rfl (by decide +kernel) (by first | exact wanted_none rfl | exact wanted_some rfl rfl) fun K hK => ?_
    refine wp_callee (f := 9) (by first | (go_simp; done) | (go_simp; rfl)) ?_
    refine (HM1.out _ a2 c2 s hS2 st.below).mono ?_
    rintro e v4 ⟨rfl, hb4⟩
    rw [HMm.out]
    refine ⟨_, rfl, ?_⟩
    replace st := st.call hb4
    clear hb4
    refine hK _ _ (st) ?_; clear hK; simp only [Act.put, List.setIfInBounds_toArray, List.set_cons_succ, List.set_cons_zero]
    have hI := st
    refine lex_only 12 rfl (by decide +kernel) (by first | exact wanted_none rfl | exact wanted_some rfl rfl) fun K hK => ?_
    refine wp_callee (f := 9) (by first | (go_simp; done) | (go_simp; rfl)) ?_
    refine (HM1.out _ ca cc l (hC.below st.below) st.below).mono ?_
    rintro e v5 ⟨rfl, hb5⟩
    refine ⟨_, rfl, ?_⟩
    replace st := st.call hb5
    clear hb5
    refine hK _ _ (st) ?_; clear hK; simp only [Act.put, List.setIfInBounds_toArray, List.set_cons_succ, List.set_cons_zero]
    have hI := st
    generalize mayB l h m now = mb
    refine lex_take 13 rfl (by decide +kernel) (by first | exact wanted_none rfl | exact wanted_some rfl rfl) hI (fun W hW => by first | (go_simp; done) | (go_simp; rfl)) ?_; simp only [Act.put, List.setIfInBounds_toArray, List.set_cons_succ, List.set_cons_zero]
    refine lex_take 14 rfl (by decide +kernel) (by first | exact wanted_none rfl | exact wanted_some rfl rfl) hI (fun W hW => by first | (go_simp; done) | (go_simp; rfl)) ?_; simp only [Act.put, List.setIfInBounds_toArray, List.set_cons_succ, List.set_cons_zero]
    refine lex_take 15 rfl (by decide +kernel) (by first | exact wanted_none rfl | exact wanted_some rfl rfl) hI (fun W hW => by first | (go_simp; done) | (go_simp; rfl)) ?_; simp only [Act.put, List.setIfInBounds_toArray, List.set_cons_succ, List.set_cons_zero]
    refine lex_take 16 rfl (by decide +kernel) (by first | exact wanted_none rfl | exact wanted_some rfl rfl) hI (fun W hW => by first | (go_simp; done) | (go_simp; rfl)) ?_; simp only [Act.put, List.setIfInBounds_toArray, List.set_cons_succ, List.set_cons_zero]
    refine lex_take 17 rfl (by decide +kernel) (by first | exact wanted_none rfl | exact wanted_some rfl rfl) hI (fun W hW => by first | (go_simp; done) | (go_simp; rfl)) ?_; simp only [Act.put, List.setIfInBounds_toArray, List.set_cons_succ, List.set_cons_zero]
    refine lex_take 18 rfl (by decide +kernel) (by first | exact wanted_none rfl | exact wanted_some rfl rfl) hI (fun W hW => by first | (go_simp; done) | (go_simp; rfl)) ?_; simp only [Act.put, List.setIfInBounds_toArray, List.set_cons_succ, List.set_cons_zero]
    refine lex_take 19 rfl (by decide +kernel) (by first | exact wanted_none rfl | exact wanted_some rfl rfl) hI (fun W hW => by first | (go_simp; done) | (go_simp; rfl)) ?_; simp only [Act.put, List.setIfInBounds_toArray, List.set_cons_succ, List.set_cons_zero]
    refine lex_take 20 rfl (by decide +kernel) (by first | exact wanted_none rfl | exact wanted_some rfl rfl) hI (fun W hW => by first | (go_simp; done) | (go_simp; rfl)) ?_; simp only [Act.put, List.setIfInBounds_toArray, List.set_cons_succ, List.set_cons_zero]
    refine lex_take 21 rfl (by decide +kernel) (by first | exact wanted_none rfl | exact wanted_some rfl rfl) hI (fun W hW => by first | (go_simp; done) | (go_simp; rfl)) ?_; simp only [Act.put, List.setIfInBounds_toArray, List.set_cons_succ, List.set_cons_zero]
    refine lex_take 22 rfl (by decide +kernel) (by first | exact wanted_none rfl | exact wanted_some rfl rfl) hI (fun W hW => by first | (go_simp; done) | (go_simp; rfl)) ?_; simp only [Act.put, List.setIfInBounds_toArray, List.set_cons_succ, List.set_cons_zero]
    refine lex_done (by decide +kernel) ?_
    go_wp2
    go_ret
    exact ⟨rfl, st.below⟩

theorem own : ownKnob Try.prog.godebug = none := by kernel_rfl
theorem laid : laidOutB Try.prog = true := by kernel_rfl

set_option maxRecDepth 100000 in
theorem contract (H : Type) (enc : TypeId × Value → H) (W : World) (base : Nat) (args : Array Value) (ds gs : List (DataW H)) (before : List MemPlace)
    (hval : ∀ (j : Nat) t v, Try.f4.params[j]? = some t → args[j]? = some v → Value.okWide Try.prog W .any base t v)
    (hW : DataW.Whole enc Try.prog Try.f4.params.toList Rows.trustShowsSpec.vars false W args.toList ds gs before)
    (hsz : (DataW.weightsEach Try.prog (Try.f4.params.toList ++ Rows.trustShowsSpec.plain.varTypes Try.prog) (ds ++ gs)).all (· ≤ reachBytes) = true) :
    Calls Try.prog 4 args W fun e W' => ∃ v, e = .returned v ∧ Rows.trustShowsSpec.post enc Try.prog Try.f4 false true false false W args v W' := by
  have hW' := hW
  obtain ⟨p, q, hA0, hV, rfl, hfz, hnd⟩ := hW
  have hA : DataW.TrodAll enc Try.prog W 0 (fun _ => true) true Try.f4.params.toList args.toList ds p := hA0
  have hpar := Try.params4
  rw [hpar] at hA hval hsz
  obtain ⟨v0, vs0, d0, ds0, p0, q0, hargs0, rfl, rfl, h0, r0⟩ := trodAll_cons hA
  obtain ⟨v1, vs1, d1, ds1, p1, q1, hargs1, rfl, rfl, h1, r1⟩ := trodAll_cons r0
  obtain ⟨v2, vs2, d2, ds2, p2, q2, hargs2, rfl, rfl, h2, r2⟩ := trodAll_cons r1
  obtain ⟨v3, vs3, d3, ds3, p3, q3, hargs3, rfl, rfl, h3, r3⟩ := trodAll_cons r2
  obtain ⟨hnil, rfl, rfl⟩ := trodAll_nil r3
  obtain rfl : args = #[v0, v1, v2, v3] := by cases args; simp_all
  obtain ⟨rfl, rfl⟩ := trodVars_none hV
  have w0 : ∀ n ∈ d0.weights Try.prog 22, n ≤ reachBytes := fun n hn => by simpa using List.all_eq_true.1 hsz n (DataW.weights_mem_each (j := 0) (t := 22) (d := d0) rfl rfl n hn)
  obtain ⟨x0, a0, c0, rfl, hR0, hl0, hx0, hm0⟩ := arg_slice (fit := Cert.fit) (mass := Cert.mass) reads_Cert Try.underlying22 (by kernel_rfl : Try.prog.cellsOf _ = 4) (by decide) (by kernel_rfl : Try.prog.bytesOf _ = 32) (hval 0 _ v0 rfl rfl) h0 w0
  have w1 : ∀ n ∈ d1.weights Try.prog 3, n ≤ reachBytes := fun n hn => by simpa using List.all_eq_true.1 hsz n (DataW.weights_mem_each (j := 1) (t := 3) (d := d1) rfl rfl n hn)
  obtain ⟨x1, rfl, hx1⟩ := arg_int Try.underlying3 (hval 1 _ v1 rfl rfl) h1
  have w2 : ∀ n ∈ d2.weights Try.prog 27, n ≤ reachBytes := fun n hn => by simpa using List.all_eq_true.1 hsz n (DataW.weights_mem_each (j := 2) (t := 27) (d := d2) rfl rfl n hn)
  obtain ⟨x2, cs2, rfl, ⟨la2, lc2, ga2, gc2, rfl, hA2, hB2⟩, hx2, hm2⟩ := arg_struct reads_Mail Try.underlying27 (hval 2 _ v2 rfl rfl) h2 w2
  have w3 : ∀ n ∈ d3.weights Try.prog 3, n ≤ reachBytes := fun n hn => by simpa using List.all_eq_true.1 hsz n (DataW.weights_mem_each (j := 3) (t := 3) (d := d3) rfl rfl n hn)
  obtain ⟨x3, rfl, hx3⟩ := arg_int Try.underlying3 (hval 3 _ v3 rfl rfl) h3
  refine (walk W x0 a0 c0 x1 x2 la2 lc2 ga2 gc2 x3 hR0 hl0 ⟨hA2, hB2⟩ ⟨hx2.2.2.2.1.1, hx2.2.2.1.1⟩).mono fun e W' ⟨he, hb⟩ => ?_
  exact ⟨_, he, law_post laid (by kernel_rfl) hW' rfl rfl (by kernel_rfl) Try.underlying4 hb⟩

set_option maxRecDepth 100000 in
theorem lifted (os : Os) (started : os.Started) (H : Type) (enc : TypeId × Value → H) :
    ReturnsInHanded {} Try.checked os 4 .any (Rows.trustShowsSpec.pre6 enc Try.prog Try.f4 Rows.trustShowsRow.domain false) (Rows.trustShowsSpec.post enc Try.prog Try.f4 false true false false) := by
  refine returnsInHanded_of_change_sized (C := Try.checked) own started (by kernel_rfl) Try.func4
    (ChangeSpec.witness6 (enc := enc) (C := Try.checked) false ⟨#[], #[.slice none 0 0, .int .i64 0, .agg #[.int .i64 0, .int .i64 0, .slice none 0 0, .slice none 0 0, .string .empty], .int .i64 0], []⟩ 12 (by kernel_rfl) (by kernel_rfl) (by kernel_rfl) (by kernel_rfl)) ?_
  intro W base args ds gs before hval hW _ hsz _
  exact contract H enc W base args ds gs before hval hW hsz

theorem proved : Rows.TrustShowsSaid :=
  OpenClaim.holds_of_wide 4 Try.f4 rfl rfl rfl rfl rfl rfl rfl ⟨rfl, rfl, rfl, rfl, rfl⟩ rfl rfl rfl rfl rfl (by kernel_rfl) Try.func4 (by kernel_rfl)
    (of_decide_eq_true (by kernel_rfl)) (by unfold Func.isWrapper; first | (rw [if_pos (by decide +kernel)]; kernel_rfl) | (rw [if_neg (by decide +kernel)]; exact ⟨rfl, rfl⟩))
    (fun os started H enc _ => lifted os started H enc)


end Go.Proofs.Ytbngblmdcggfdaa.trustShows
