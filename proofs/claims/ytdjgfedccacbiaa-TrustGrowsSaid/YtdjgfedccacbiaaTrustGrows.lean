/- For all certs, one more trusts no fewer, a later time no more, one of another category or out of its time nobody else; who made a category is always trusted with it. No condition. -/
import Derived.Test.YtdjgfedccacbiaaRows
import Derived.WalkKit
import Derived.ProofKit
import Derived.OpenShut
import Derived.SizedLaws
import Derived.Test.YtdjgfedccacbiaaFrame
import Derived.Test.YtdjgfedccacbiaaOpens
import Derived.Test.YtdjgfedccacbiaaTrusts
set_option linter.unusedSimpArgs false
set_option linter.unusedVariables false
namespace Go.Proofs.Ytdjgfedccacbiaa.trustGrows
open Go.ChangeShapes Go.WideShapes Go.ChangeAt Go.RowKit

theorem lit4 {a0 a1 a2 a3 v : Bool} {k : Nat} (hk : k < 4) (h : (⟨a0, a1, a2, a3⟩ : Four).get k = v) : [Value.bool a0, .bool a1, .bool a2, .bool a3][k]? = some (.bool v) := by
  rw [← h]
  exact fourL_get ⟨a0, a1, a2, a3⟩ hk

theorem four_of (l : List Cert) (c now : Int) : ∃ a0 a1 a2 a3, trustV l c now = .agg #[.bool a0, .bool a1, .bool a2, .bool a3] ∧ ∀ k, k < 4 → (⟨a0, a1, a2, a3⟩ : Four).get k = trustB l c now k :=
  ⟨_, _, _, _, rfl, fun k hk => trustF_get l c now hk⟩

set_option maxRecDepth 100000 in
set_option maxHeartbeats 3000000 in
theorem walk (w : World) (l : List Cert) (la : Option Addr) (lc : Nat) (x : Cert) (c now later : Int) (hR : SlR (fun _ => True) w 4 RCert la lc l) :
    Calls Try.prog 4 #[.slice la l.length lc, .agg #[.int .i64 x.c, .int .i64 x.by_, .int .i64 x.host, .int .i64 x.till], .int .i64 c, .int .i64 now, .int .i64 later] w fun r w' => r = .returned (.bool true) ∧ Below w.heap.size w w' := by
  have hbad := @addC_bad l x
  have hok := @addC_ok l x
  have hgr := @grows l x c now later
  generalize hr : addC l x = r at hbad hok hgr
  have HA := Lib.hid (fun (W : World) (h : Below w.heap.size w W) => trust_Add (fun _ => True) W la lc l x (hR.below h) r hr)
  obtain ⟨more, code⟩ := r
  simp only at hbad hok hgr HA
  have hlm : ∀ a' k', SlR (fun _ => True) w 4 RCert a' k' l → l.length ≤ 9223372036854775807 := fun _ _ h => by have h1 := h.1; have h2 := h.2.1; unfold maxLen at h2; omega
  have st := St.start w
  by_cases h0 : code = 0
  · subst h0
    obtain ⟨g1, g2, g3, g4, g5, g6⟩ := hok rfl
    have hgq := hgr rfl
    have HA2 := addC_again g2 g5 g6
    have hlen : more.length ≤ 24 := ((goodCerts_iff more).1 g2).2.2
    clear hbad hok hgr hr
    obtain ⟨a0, a1, a2, a3, hva, hfa⟩ := four_of l c now
    obtain ⟨b0, b1, b2, b3, hvb, hfb⟩ := four_of more c now
    obtain ⟨e0, e1, e2, e3, hve, hfe⟩ := four_of l c (max now later)
    have hmm : ∃ t, t = max now later ∧ (now < later ∧ later = t ∨ later ≤ now ∧ now = t) := ⟨_, rfl, by omega⟩
    obtain ⟨t, ht, hlt⟩ := hmm
    simp only [← ht] at hve hfe hgq
    clear ht
    have hgr' := Lib.hid hgq
    clear hgq
    have HG := Lib.hid g2
    have HGl := Lib.hid g1
    have HVa := Lib.hid hva; have HVb := Lib.hid hvb; have HVe := Lib.hid hve
    have HFa := Lib.hid hfa; have HFb := Lib.hid hfb; have HFe := Lib.hid hfe
    have HAd := Lib.hid (fun (W : World) (am : Option Addr) (km : Nat) (h : SlR (fun _ => True) W 4 RCert am km more) => trust_Add (fun _ => True) W am km more x h (more, 0) HA2)
    have HT := Lib.hid (fun (W : World) (t : Int) (h : Below w.heap.size w W) => trust_Trusted (fun _ => True) W la lc l c t (hR.below h))
    clear g1 g2 g3 g4 g5 g6 HA2 hva hvb hve hfa hfb hfe hlm
    rcases hlt with ⟨hlt, rfl⟩ | ⟨hlt, rfl⟩
    all_goals
      have tk1 := trivial; have tk2 := trivial; have tk3 := trivial; have tk4 := trivial
      go_enter Try.func4, Try.ntmps4
      go_wp2_with (first
        | go_skip | (refine mem_box st (wanted_none rfl) 24 _ rfl _ rfl _ rfl ?_; clear st; intro g1 w1 hg1 st hg1b; clear hg1b; simp [Act.eval, Act.put, Value.cells, putL] at st) | ((first | refine mem_load_agg' st 24 _ rfl (wanted_none rfl) Try.isAgg24 _ Try.sizeOf24 ?_ | (refine mem_load_agg' st 24 _ rfl (wanted_some rfl ?_) Try.isAgg24 _ Try.sizeOf24 ?_; focus (simp [yielded, Act.put]; done))); refine ⟨0, _, _, _, _, _, rfl, rfl, rfl, rfl, ?_⟩)
        | (go_at_call 6; clear tk4; go_must (refine (HA.out _ st.below).mono ?_; rintro e v1 ⟨am, km, rfl, hb1, hRm⟩; replace hRm := hRm.okay (fun _ _ => trivial : ∀ b, _ → True); replace st := st.call hb1; clear hb1; have stm := st; replace st := st.rebase))
        | (go_at_call 12; go_must (refine (trusts_keep _).mono ?_; rintro e v1 ⟨rfl, hb1⟩; replace st := st.call hb1; clear hb1))
        | (go_at_call 13; clear tk1; go_must (refine (HT.out _ _ (St.back stm st).below).mono ?_; rintro e v1 ⟨rfl, hb1⟩; rw [HVa.out]; replace st := st.call hb1; clear hb1))
        | (go_at_call 13; clear tk2; go_must (refine (trust_Trusted (fun _ => True) _ am km more c now (hRm.below (stm.below2 st (by simp)))).mono ?_; rintro e v1 ⟨rfl, hb1⟩; rw [HVb.out]; replace st := st.call hb1; clear hb1))
        | (go_at_call 13; clear tk3; go_must (refine (HT.out _ _ (St.back stm st).below).mono ?_; rintro e v1 ⟨rfl, hb1⟩; rw [HVe.out]; replace st := st.call hb1; clear hb1))
        | (refine mem_alloc st (wanted_none rfl) 33 rfl _ Try.zeroValue33 _ rfl ?_; clear st; intro g2 w2 hg2 st hg2b; clear hg2b; simp [Act.eval, Act.put, Value.cells, putL] at st) | ((first | refine mem_store' st 33 _ _ rfl (wanted_none rfl) _ Try.sizeOf33 ?_ | (refine mem_store' st 33 _ _ rfl (wanted_some rfl ?_) _ Try.sizeOf33 ?_; focus (simp [yielded, Act.put]; done))); refine ⟨1, _, _, _, _, _, rfl, rfl, rfl, rfl, rfl, rfl, ?_⟩; clear st; intro w3 st hw3m hw3z; simp [Act.eval, Act.put, Value.cells, putL] at st) | ((first | refine mem_store' st 33 _ _ rfl (wanted_none rfl) _ Try.sizeOf33 ?_ | (refine mem_store' st 33 _ _ rfl (wanted_some rfl ?_) _ Try.sizeOf33 ?_; focus (simp [yielded, Act.put]; done))); refine ⟨2, _, _, _, _, _, rfl, rfl, rfl, rfl, rfl, rfl, ?_⟩; clear st; intro w4 st hw4m hw4z; simp [Act.eval, Act.put, Value.cells, putL] at st) | ((first | refine mem_store' st 33 _ _ rfl (wanted_none rfl) _ Try.sizeOf33 ?_ | (refine mem_store' st 33 _ _ rfl (wanted_some rfl ?_) _ Try.sizeOf33 ?_; focus (simp [yielded, Act.put]; done))); refine ⟨3, _, _, _, _, _, rfl, rfl, rfl, rfl, rfl, rfl, ?_⟩; clear st; intro w5 st hw5m hw5z; simp [Act.eval, Act.put, Value.cells, putL] at st))
      go_loop [51] (fun i => ∃ k : Nat, k ≤ 4 ∧ i = .int .i64 k) (fun i => 4 - (intOf i).toNat)
      case atStart => exact ⟨0, by omega, rfl⟩
      case round =>
        obtain ⟨k, hk, rfl⟩ := hrel
        by_cases hk4 : k < 4
        · have hgk : ((⟨a0, a1, a2, a3⟩ : Four).get k = true → (⟨b0, b1, b2, b3⟩ : Four).get k = true) ∧ ((⟨e0, e1, e2, e3⟩ : Four).get k = true → (⟨a0, a1, a2, a3⟩ : Four).get k = true) ∧ ((⟨b0, b1, b2, b3⟩ : Four).get k = true → (⟨a0, a1, a2, a3⟩ : Four).get k = false → x.c = c ∧ now ≤ x.till) := by
            rw [HFa.out k hk4, HFb.out k hk4, HFe.out k hk4]
            exact hgr'.out k
          cases hva : (⟨a0, a1, a2, a3⟩ : Four).get k <;> cases hvb : (⟨b0, b1, b2, b3⟩ : Four).get k <;> cases hve : (⟨e0, e1, e2, e3⟩ : Four).get k
          all_goals
            first
            | (exfalso; rw [hva, hvb, hve] at hgk; simp at hgk; done)
            | skip
          all_goals
            have hgx := hgk.2.2
            rw [hva, hvb] at hgx
            have la := lit4 hk4 hva
            have lb := lit4 hk4 hvb
            have le := lit4 hk4 hve
            clear hgk hva hvb hve
            first
            | (obtain ⟨dx1, dx2⟩ := hgx rfl rfl
               replace dx1 : (x.c != c) = false := by simpa using dx1)
            | clear hgx
            have c1 := (st.cell (i := 1) rfl k).trans la
            have c2 := (st.cell (i := 2) rfl k).trans lb
            have c3 := (st.cell (i := 3) rfl k).trans le
            have c4 := st.cell (i := 0) rfl 0
            have c5 := st.cell (i := 0) rfl 3
            simp only [List.getElem?_cons_zero, List.getElem?_cons_succ] at c4 c5
            have HST := Lib.hid st
            clear la lb le st
            go_wp2
            go_round
            case rel => exact ⟨k + 1, hk4, by go_num⟩
            case measure => simp [intOf]; omega
        · have hk5 : k = 4 := by omega
          subst hk5
          cases hcat : catOk c
          · have HC := Lib.hid hcat
            clear hcat
            go_wp2_with (first
              | go_skip | ((first | refine mem_load_agg' st 24 _ rfl (wanted_none rfl) Try.isAgg24 _ Try.sizeOf24 ?_ | (refine mem_load_agg' st 24 _ rfl (wanted_some rfl ?_) Try.isAgg24 _ Try.sizeOf24 ?_; focus (simp [yielded, Act.put]; done))); refine ⟨0, _, _, _, _, _, rfl, rfl, rfl, rfl, ?_⟩)
              | (go_at_call 6; go_must (refine (HAd.out _ am km (hRm.below (stm.below2 st (by simp)))).mono ?_; rintro e v7 ⟨an, kn, rfl, hb7, -⟩; replace st := st.call hb7; clear hb7))
              | (go_at_call 14; go_must (refine (cat_Category c _).mono ?_; rintro e v8 ⟨rfl, rfl⟩; rw [HC.out]))
              | (go_at_call 9; go_must (refine (trust_Good (fun _ => True) _ am km more (hRm.below (stm.below2 st (by simp)))).mono ?_; rintro e v9 ⟨rfl, hb9⟩; rw [HG.out]; replace st := st.call hb9; clear hb9)))
            go_ret
            exact ⟨rfl, (St.back stm st).below⟩
          · have HC := Lib.hid hcat
            have hr5 := home_range hcat
            have hc5 := (catOk_iff c).1 hcat
            obtain ⟨n, hn⟩ := Int.eq_ofNat_of_zero_le hr5.1
            have hn4 : n < 4 := by omega
            have hvn : (⟨a0, a1, a2, a3⟩ : Four).get n = true := by
              rw [HFa.out n hn4, ← hn]
              exact trustB_iff.2 ⟨hcat, HGl.out, .home⟩
            have ln := lit4 hn4 hvn
            clear hvn hcat hr5
            go_wp2_with (first
              | go_skip | ((first | refine mem_load_agg' st 24 _ rfl (wanted_none rfl) Try.isAgg24 _ Try.sizeOf24 ?_ | (refine mem_load_agg' st 24 _ rfl (wanted_some rfl ?_) Try.isAgg24 _ Try.sizeOf24 ?_; focus (simp [yielded, Act.put]; done))); refine ⟨0, _, _, _, _, _, rfl, rfl, rfl, rfl, ?_⟩)
              | (go_at_call 6; go_must (refine (HAd.out _ am km (hRm.below (stm.below2 st (by simp)))).mono ?_; rintro e v7 ⟨an, kn, rfl, hb7, -⟩; replace st := st.call hb7; clear hb7))
              | (go_at_call 14; go_must (refine (cat_Category c _).mono ?_; rintro e v8 ⟨rfl, rfl⟩; rw [HC.out]))
              | (go_at_call 15; go_must (refine (trust_Home c _ hc5.1 (by omega)).mono ?_; rintro e v8 ⟨rfl, rfl⟩; rw [hn]))
              | (refine mem_load' st 4 _ rfl (by first | exact wanted_none rfl | exact wanted_some rfl rfl) Try.isAgg4 ?_; refine ⟨1, _, _, _, _, _, rfl, rfl, ln, ?_⟩)
              | (go_at_call 9; go_must (refine (trust_Good (fun _ => True) _ am km more (hRm.below (stm.below2 st (by simp)))).mono ?_; rintro e v9 ⟨rfl, hb9⟩; rw [HG.out]; replace st := st.call hb9; clear hb9)))
            go_ret
            exact ⟨rfl, (St.back stm st).below⟩
  · have d1 : (code != 0) = true := by simpa using h0
    obtain rfl : more = [] := hbad h0
    clear hbad hok hgr hr hlm h0
    go_enter Try.func4, Try.ntmps4
    go_wp2_with (first
      | go_skip | (refine mem_box st (wanted_none rfl) 24 _ rfl _ rfl _ rfl ?_; clear st; intro g1 w1 hg1 st hg1b; clear hg1b; simp [Act.eval, Act.put, Value.cells, putL] at st) | ((first | refine mem_load_agg' st 24 _ rfl (wanted_none rfl) Try.isAgg24 _ Try.sizeOf24 ?_ | (refine mem_load_agg' st 24 _ rfl (wanted_some rfl ?_) Try.isAgg24 _ Try.sizeOf24 ?_; focus (simp [yielded, Act.put]; done))); refine ⟨0, _, _, _, _, _, rfl, rfl, rfl, rfl, ?_⟩)
      | (go_at_call 6; go_must (refine (HA.out _ st.below).mono ?_; rintro e v1 ⟨a', k', rfl, hb1, -⟩; replace st := st.call hb1; clear hb1))
      | (go_at_call 12; go_must (refine (trusts_keep _).mono ?_; rintro e v1 ⟨rfl, hb1⟩; replace st := st.call hb1; clear hb1)))
    go_ret
    exact ⟨rfl, st.below⟩

theorem own : ownKnob Try.prog.godebug = none := by kernel_rfl
theorem laid : laidOutB Try.prog = true := by kernel_rfl

set_option maxRecDepth 100000 in
theorem contract (H : Type) (enc : TypeId × Value → H) (W : World) (base : Nat) (args : Array Value) (ds gs : List (DataW H)) (before : List MemPlace)
    (hval : ∀ (j : Nat) t v, Try.f4.params[j]? = some t → args[j]? = some v → Value.okWide Try.prog W .any base t v)
    (hW : DataW.Whole enc Try.prog Try.f4.params.toList Rows.trustGrowsSpec.vars false W args.toList ds gs before)
    (hsz : (DataW.weightsEach Try.prog (Try.f4.params.toList ++ Rows.trustGrowsSpec.plain.varTypes Try.prog) (ds ++ gs)).all (· ≤ reachBytes) = true) :
    Calls Try.prog 4 args W fun e W' => ∃ v, e = .returned v ∧ Rows.trustGrowsSpec.post enc Try.prog Try.f4 false true false false W args v W' := by
  have hW' := hW
  obtain ⟨p, q, hA0, hV, rfl, hfz, hnd⟩ := hW
  have hA : DataW.TrodAll enc Try.prog W 0 (fun _ => true) true Try.f4.params.toList args.toList ds p := hA0
  have hpar := Try.params4
  rw [hpar] at hA hval hsz
  obtain ⟨v0, vs0, d0, ds0, p0, q0, hargs0, rfl, rfl, h0, r0⟩ := trodAll_cons hA
  obtain ⟨v1, vs1, d1, ds1, p1, q1, hargs1, rfl, rfl, h1, r1⟩ := trodAll_cons r0
  obtain ⟨v2, vs2, d2, ds2, p2, q2, hargs2, rfl, rfl, h2, r2⟩ := trodAll_cons r1
  obtain ⟨v3, vs3, d3, ds3, p3, q3, hargs3, rfl, rfl, h3, r3⟩ := trodAll_cons r2
  obtain ⟨v4, vs4, d4, ds4, p4, q4, hargs4, rfl, rfl, h4, r4⟩ := trodAll_cons r3
  obtain ⟨hnil, rfl, rfl⟩ := trodAll_nil r4
  obtain rfl : args = #[v0, v1, v2, v3, v4] := by cases args; simp_all
  obtain ⟨rfl, rfl⟩ := trodVars_none hV
  have w0 : ∀ n ∈ d0.weights Try.prog 22, n ≤ reachBytes := fun n hn => by simpa using List.all_eq_true.1 hsz n (DataW.weights_mem_each (j := 0) (t := 22) (d := d0) rfl rfl n hn)
  obtain ⟨x0, a0, c0, rfl, hR0, hl0, hx0, hm0⟩ := arg_slice (fit := Cert.fit) (mass := Cert.mass) reads_Cert Try.underlying22 (by kernel_rfl : Try.prog.cellsOf _ = 4) (by decide) (by kernel_rfl : Try.prog.bytesOf _ = 32) (hval 0 _ v0 rfl rfl) h0 w0
  have w1 : ∀ n ∈ d1.weights Try.prog 24, n ≤ reachBytes := fun n hn => by simpa using List.all_eq_true.1 hsz n (DataW.weights_mem_each (j := 1) (t := 24) (d := d1) rfl rfl n hn)
  obtain ⟨x1, cs1, rfl, rfl, hx1, hm1⟩ := arg_struct reads_Cert Try.underlying24 (hval 1 _ v1 rfl rfl) h1 w1
  have w2 : ∀ n ∈ d2.weights Try.prog 3, n ≤ reachBytes := fun n hn => by simpa using List.all_eq_true.1 hsz n (DataW.weights_mem_each (j := 2) (t := 3) (d := d2) rfl rfl n hn)
  obtain ⟨x2, rfl, hx2⟩ := arg_int Try.underlying3 (hval 2 _ v2 rfl rfl) h2
  have w3 : ∀ n ∈ d3.weights Try.prog 3, n ≤ reachBytes := fun n hn => by simpa using List.all_eq_true.1 hsz n (DataW.weights_mem_each (j := 3) (t := 3) (d := d3) rfl rfl n hn)
  obtain ⟨x3, rfl, hx3⟩ := arg_int Try.underlying3 (hval 3 _ v3 rfl rfl) h3
  have w4 : ∀ n ∈ d4.weights Try.prog 3, n ≤ reachBytes := fun n hn => by simpa using List.all_eq_true.1 hsz n (DataW.weights_mem_each (j := 4) (t := 3) (d := d4) rfl rfl n hn)
  obtain ⟨x4, rfl, hx4⟩ := arg_int Try.underlying3 (hval 4 _ v4 rfl rfl) h4
  refine (walk W x0 a0 c0 x1 x2 x3 x4 hR0).mono fun e W' ⟨he, hb⟩ => ?_
  exact ⟨_, he, law_post laid (by kernel_rfl) hW' rfl rfl (by kernel_rfl) Try.underlying4 hb⟩

set_option maxRecDepth 100000 in
theorem lifted (os : Os) (started : os.Started) (H : Type) (enc : TypeId × Value → H) :
    ReturnsInHanded {} Try.checked os 4 .any (Rows.trustGrowsSpec.pre6 enc Try.prog Try.f4 Rows.trustGrowsRow.domain false) (Rows.trustGrowsSpec.post enc Try.prog Try.f4 false true false false) := by
  refine returnsInHanded_of_change_sized (C := Try.checked) own started (by kernel_rfl) Try.func4
    (ChangeSpec.witness6 (enc := enc) (C := Try.checked) false ⟨#[], #[.slice none 0 0, .agg #[.int .i64 0, .int .i64 0, .int .i64 0, .int .i64 0], .int .i64 0, .int .i64 0, .int .i64 0], []⟩ 12 (by kernel_rfl) (by kernel_rfl) (by kernel_rfl) (by kernel_rfl)) ?_
  intro W base args ds gs before hval hW _ hsz _
  exact contract H enc W base args ds gs before hval hW hsz

theorem proved : Rows.TrustGrowsSaid :=
  OpenClaim.holds_of_wide 4 Try.f4 rfl rfl rfl rfl rfl rfl rfl ⟨rfl, rfl, rfl, rfl, rfl⟩ rfl rfl rfl rfl rfl (by kernel_rfl) Try.func4 (by kernel_rfl)
    (of_decide_eq_true (by kernel_rfl)) (by unfold Func.isWrapper; first | (rw [if_pos (by decide +kernel)]; kernel_rfl) | (rw [if_neg (by decide +kernel)]; exact ⟨rfl, rfl⟩))
    (fun os started H enc _ => lifted os started H enc)

end Go.Proofs.Ytdjgfedccacbiaa.trustGrows
