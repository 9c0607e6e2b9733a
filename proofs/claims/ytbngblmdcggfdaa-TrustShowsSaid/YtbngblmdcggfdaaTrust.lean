/- The walks through trust.Good and trust.Add. -/
import Derived.Test.YtbngblmdcggfdaaTrustP
import Derived.Test.YtbngblmdcggfdaaWireG
import Derived.Test.YtbngblmdcggfdaaClone
import Derived.Test.YtbngblmdcggfdaaTurned
import Derived.Test.YtbngblmdcggfdaaLex
set_option linter.unusedSimpArgs false
set_option linter.unusedVariables false
namespace Go.Proofs.Ytbngblmdcggfdaa
open Go.RowKit

theorem SlR.cert_row {ok : Nat → Prop} {w : World} {b o c : Nat} {xs : List Cert} (h : SlR ok w 4 RCert (some ⟨b, o, none⟩) c xs) (i : Nat) (hi : i < xs.length) :
    ∀ (j : Nat) (v : Value), [Value.int .i64 xs[i].c, .int .i64 xs[i].by_, .int .i64 xs[i].host, .int .i64 xs[i].till][j]? = some v → w.cell? ⟨b, o + i * 4 + j, none⟩ = some v := by
  obtain ⟨b', o', cs, ha, _, hb, hr, _, _, hc⟩ := h.2.2.2 i xs[i] (by simp [hi])
  simp only [Option.some.injEq, Addr.mk.injEq, and_true] at ha
  obtain ⟨rfl, rfl⟩ := ha
  unfold RCert at hr
  subst hr
  exact hc

abbrev certV (x : Cert) : Value := .agg #[.int .i64 x.c, .int .i64 x.by_, .int .i64 x.host, .int .i64 x.till]

set_option maxRecDepth 100000 in
set_option maxHeartbeats 1600000 in
theorem slices_Index_Cert (ok : Nat → Prop) (w : World) (a : Option Addr) (c : Nat) (l : List Cert) (v : Cert) (hR : SlR ok w 4 RCert a c l) :
    Calls Try.prog 36 #[.slice a l.length c, .agg #[.int .i64 v.c, .int .i64 v.by_, .int .i64 v.host, .int .i64 v.till]] w fun e w' => Says e (inL l v) ∧ Below w.heap.size w w' := by
  have hl : l.length ≤ 9223372036854775807 := by have h1 := hR.1; have h2 := hR.2.1; unfold maxLen at h2; omega
  have st := St.start w
  go_enter Try.func36, Try.ntmps36
  go_wp2_with (first | go_skip | (refine mem_box st (wanted_none rfl) 43 _ rfl _ rfl _ rfl ?_; clear st; intro g1 w1 hg1 st hg1b; clear hg1b; simp [Act.eval, Act.put, Value.cells, putL] at st))
  go_loopw [8] (fun i wr => ∃ k : Nat, k ≤ l.length ∧ i = .int .i64 k ∧ St [] w wr [(g1, 43, [.int .i64 v.c, .int .i64 v.by_, .int .i64 v.host, .int .i64 v.till])] ∧ Hid (inL l v = inL (l.drop k) v)) (fun i _ => l.length - (intOf i).toNat)
  case atStart => exact ⟨0, Nat.zero_le _, rfl, st, rfl⟩
  case round =>
    clear st
    obtain ⟨k, hk, rfl, st, hN⟩ := hrel
    by_cases hlt : k < l.length
    · obtain ⟨b, o, rfl, hb, _⟩ := hR.cert_at k hlt
      have hrow := fun (W : World) (h : St [] w W [(g1, 43, [.int .i64 v.c, .int .i64 v.by_, .int .i64 v.host, .int .i64 v.till])]) => (hR.below h.below).cert_row k hlt
      generalize hd : decide (v = l[k]) = d
      have hne := eql_Cert v l[k] d hd
      have hgu := guard_Cert
      have HD := Lib.hid hd
      clear hd
      go_wp2
      refine lex_still st (by kernel_rfl) 6 rfl ?_; clear st; intro hI
      refine lex_take 0 rfl (by decide +kernel) (by first | exact wanted_none rfl | exact wanted_some rfl rfl) hI (fun W hW => St.run_load_agg hW 0 43 _ rfl Try.isAgg43 _ Try.sizeOf43 rfl rfl rfl rfl) ?_; simp only [Act.put, List.setIfInBounds_toArray, List.set_cons_succ, List.set_cons_zero]
      refine lex_take 1 rfl (by decide +kernel) (by first | exact wanted_none rfl | exact wanted_some rfl rfl) hI (fun W hW => by first | (go_simp; done) | (go_simp; rfl)) ?_; simp only [Act.put, List.setIfInBounds_toArray, List.set_cons_succ, List.set_cons_zero]
      refine lex_take 2 rfl (by decide +kernel) (by first | exact wanted_none rfl | exact wanted_some rfl rfl) hI (fun W hW => by first | (go_simp; done) | (go_simp; rfl)) ?_; simp only [Act.put, List.setIfInBounds_toArray, List.set_cons_succ, List.set_cons_zero]
      refine lex_take 3 rfl (by decide +kernel) (by first | exact wanted_none rfl | exact wanted_some rfl rfl) hI (fun W hW => by first | (go_simp; done) | (go_simp; rfl)) ?_; simp only [Act.put, List.setIfInBounds_toArray, List.set_cons_succ, List.set_cons_zero]
      refine lex_take 4 rfl (by decide +kernel) (by first | exact wanted_none rfl | exact wanted_some rfl rfl) hI (fun W hW => run_load_at 43 _ rfl Try.isAgg43 _ Try.sizeOf43 _ _ rfl [.int .i64 l[k].c, .int .i64 l[k].by_, .int .i64 l[k].host, .int .i64 l[k].till] rfl (hrow W hW)) ?_; simp only [Act.put, List.setIfInBounds_toArray, List.set_cons_succ, List.set_cons_zero]
      refine lex_take 5 rfl (by decide +kernel) (by first | exact wanted_none rfl | exact wanted_some rfl rfl) hI (fun W hW => by first | (go_simp; done) | (go_simp; rfl)) ?_; simp only [Act.put, List.setIfInBounds_toArray, List.set_cons_succ, List.set_cons_zero]
      refine lex_done (by decide +kernel) ?_
      replace st := hI
      clear hI hrow hne hgu
      cases d
      · go_wp2
        go_roundw
        case rel => exact ⟨k + 1, hlt, by go_num, st, by rw [hN.out, inL_pass hlt (by simpa using HD.out)]; rfl⟩
        case measure => simp [intOf]; omega
      · go_wp2
        go_ret
        have e : inL l v = true := by rw [hN.out, inL_hit hlt (by simpa using HD.out)]
        exact ⟨⟨k, rfl, by simp, by simp [e]⟩, st.below⟩
    · go_wp2
      go_ret
      have e : inL l v = false := by rw [hN.out, inL_end hlt]
      exact ⟨⟨-1, rfl, by simp [e], by simp⟩, st.below⟩

set_option maxRecDepth 100000 in
set_option maxHeartbeats 400000 in
theorem slices_Contains_Cert (ok : Nat → Prop) (w : World) (a : Option Addr) (c : Nat) (l : List Cert) (v : Cert) (hR : SlR ok w 4 RCert a c l) :
    Calls Try.prog 28 #[.slice a l.length c, .agg #[.int .i64 v.c, .int .i64 v.by_, .int .i64 v.host, .int .i64 v.till]] w fun e w' => e = .returned (.bool (inL l v)) ∧ Below w.heap.size w w' := by
  cases hb : inL l v
  all_goals
    have HB := Lib.hid hb
    clear hb
    have st := St.start w
    go_enter Try.func28, Try.ntmps28
    go_wp2_with (first
      | go_skip | (refine mem_box st (wanted_none rfl) 43 _ rfl _ rfl _ rfl ?_; clear st; intro g1 w1 hg1 st hg1b; clear hg1b; simp [Act.eval, Act.put, Value.cells, putL] at st) | ((first | refine mem_load_agg' st 43 _ rfl (wanted_none rfl) Try.isAgg43 _ Try.sizeOf43 ?_ | (refine mem_load_agg' st 43 _ rfl (wanted_some rfl ?_) Try.isAgg43 _ Try.sizeOf43 ?_; focus (simp [yielded, Act.put]; done))); refine ⟨0, _, _, _, _, _, rfl, rfl, rfl, rfl, ?_⟩)
      | (go_at_call 36; go_must (refine (slices_Index_Cert ok _ _ _ _ v (hR.below st.below)).mono ?_; rintro e w' ⟨⟨n, rfl, h1, h2⟩, hb2⟩; replace st := st.call hb2; rw [HB.out] at h1 h2; simp only [forall_const, reduceCtorEq, false_implies] at h1 h2; clear hb2)))
    go_ret
    exact ⟨by first | rfl | (apply ret_bool; simp; omega), st.below⟩

set_option maxRecDepth 100000 in
set_option maxHeartbeats 3000000 in
theorem trust_Good (ok : Nat → Prop) (w : World) (a : Option Addr) (c : Nat) (l : List Cert) (hR : SlR ok w 4 RCert a c l) :
    Calls Try.prog 17 #[.slice a l.length c] w fun e w' => e = .returned (.bool (goodCerts l)) ∧ Below w.heap.size w w' := by
  have hl : l.length ≤ 9223372036854775807 := by have h1 := hR.1; have h2 := hR.2.1; unfold maxLen at h2; omega
  have hcap := hR.1
  go_enter Try.func17, Try.ntmps17
  go_wp2
  go_loopw [7] (fun i wr => ∃ k : Nat, k ≤ l.length ∧ i = .int .i64 k ∧ Below w.heap.size w wr ∧ Hid (certsOk [] l = certsOk (l.take k) (l.drop k))) (fun i _ => l.length - (intOf i).toNat)
  case atStart => exact ⟨0, Nat.zero_le _, rfl, Below.refl _ _, rfl⟩
  case round =>
    obtain ⟨k, hk, rfl, hB, hN⟩ := hrel
    by_cases hlt : k < l.length
    · obtain ⟨b, o, rfl, hb, _⟩ := hR.cert_at k hlt
      have hrow := ((hR.below hB).cert_row k hlt)
      have hRk := fun (W : World) (h : Below wr.heap.size wr W) => ((hR.below hB).below h).take k
      have hkl : (l.take k).length = k := by simp; omega
      have hkc : k ≤ c := by omega
      have HS := Lib.hid (certsOk_at hlt)
      have st := St.start wr
      have HCt := Lib.hid (fun (W : World) (h : Below wr.heap.size wr W) => (hkl ▸ slices_Contains_Cert ok W (some ⟨b, o, none⟩) c (l.take k) l[k] (hRk W h) : Calls Try.prog 28 #[.slice (some ⟨b, o, none⟩) k c, .agg #[.int .i64 l[k].c, .int .i64 l[k].by_, .int .i64 l[k].host, .int .i64 l[k].till]] W fun e w' => e = .returned (.bool (inL (l.take k) l[k])) ∧ Below W.heap.size W w'))
      clear hRk hkl
      cases hg : goodCertB l[k]
      · have HG := Lib.hid hg
        have HE := Lib.hid (show goodCerts l = false by unfold goodCerts; rw [hN.out, HS.out, hg]; rfl)
        clear hg
        go_wp2_with (first | go_skip | (refine wpList_load_cells (wanted_none rfl) 43 _ rfl Try.isAgg43 _ Try.sizeOf43 b (o + k * 4) rfl [.int .i64 l[k].c, .int .i64 l[k].by_, .int .i64 l[k].host, .int .i64 l[k].till] rfl hrow ?_) | (refine mem_alloc st (wanted_none rfl) 43 rfl _ Try.zeroValue43 _ rfl ?_; clear st; intro g1 w1 hg1 st hg1b; clear hg1b; simp [Act.eval, Act.put, Value.cells, putL] at st) | ((first | refine mem_store' st 43 _ _ rfl (wanted_none rfl) _ Try.sizeOf43 ?_ | (refine mem_store' st 43 _ _ rfl (wanted_some rfl ?_) _ Try.sizeOf43 ?_; focus (simp [yielded, Act.put]; done))); refine ⟨0, _, _, _, _, _, rfl, rfl, rfl, rfl, rfl, rfl, ?_⟩; clear st; intro w2 st hw2m hw2z; simp [Act.eval, Act.put, Value.cells, putL] at st))
        refine lex_still st (by kernel_rfl) 10 rfl ?_; clear st; intro hI
        refine lex_take 0 rfl (by decide +kernel) (by first | exact wanted_none rfl | exact wanted_some rfl rfl) hI (fun W hW => St.run_load_agg hW 0 43 _ rfl Try.isAgg43 _ Try.sizeOf43 rfl rfl rfl rfl) ?_; simp only [Act.put, List.setIfInBounds_toArray, List.set_cons_succ, List.set_cons_zero]
        have st := hI
        refine lex_only 1 rfl (by decide +kernel) (by first | exact wanted_none rfl | exact wanted_some rfl rfl) fun K hK => ?_
        refine wp_callee (f := 27) (by first | (go_simp; done) | (go_simp; rfl)) ?_
        refine (wire_GoodCert l[k] _).mono ?_
        rintro e v3 ⟨rfl, hb3⟩
        rw [HG.out]
        refine ⟨_, rfl, ?_⟩
        replace st := st.call hb3
        clear hb3
        refine hK _ _ (st) ?_; clear hK; simp only [Act.put, List.setIfInBounds_toArray, List.set_cons_succ, List.set_cons_zero]
        have hI := st
        refine lex_take 2 rfl (by decide +kernel) (by first | exact wanted_none rfl | exact wanted_some rfl rfl) hI (fun W hW => by first | (go_simp; done) | (go_simp; rfl)) ?_; simp only [Act.put, List.setIfInBounds_toArray, List.set_cons_succ, List.set_cons_zero]
        refine lex_take 3 rfl (by decide +kernel) (by first | exact wanted_none rfl | exact wanted_some rfl rfl) hI (fun W hW => by first | (go_simp; done) | (go_simp; rfl)) ?_; simp only [Act.put, List.setIfInBounds_toArray, List.set_cons_succ, List.set_cons_zero]
        refine lex_skip 4 rfl (by decide +kernel) (by simp [Region.wanted, yielded]) hI ?_; simp only [Act.put, List.setIfInBounds_toArray, List.set_cons_succ, List.set_cons_zero]
        refine lex_skip 5 rfl (by decide +kernel) (by simp [Region.wanted, yielded]) hI ?_; simp only [Act.put, List.setIfInBounds_toArray, List.set_cons_succ, List.set_cons_zero]
        refine lex_skip 6 rfl (by decide +kernel) (by simp [Region.wanted, yielded]) hI ?_; simp only [Act.put, List.setIfInBounds_toArray, List.set_cons_succ, List.set_cons_zero]
        refine lex_skip 7 rfl (by decide +kernel) (by simp [Region.wanted, yielded]) hI ?_; simp only [Act.put, List.setIfInBounds_toArray, List.set_cons_succ, List.set_cons_zero]
        refine lex_skip 8 rfl (by decide +kernel) (by simp [Region.wanted, yielded]) hI ?_; simp only [Act.put, List.setIfInBounds_toArray, List.set_cons_succ, List.set_cons_zero]
        refine lex_take 9 rfl (by decide +kernel) (by first | exact wanted_none rfl | exact wanted_some rfl rfl) hI (fun W hW => by first | (go_simp; done) | (go_simp; rfl)) ?_; simp only [Act.put, List.setIfInBounds_toArray, List.set_cons_succ, List.set_cons_zero]
        refine lex_done (by decide +kernel) ?_
        go_wp2
        go_ret
        exact ⟨ret_bool HE.out.symm, hB.keep st.below⟩
      · have HG := Lib.hid hg
        cases hi : inL (l.take k) l[k]
        · have HI := Lib.hid hi
          have HE := Lib.hid (show certsOk [] l = certsOk (l.take (k + 1)) (l.drop (k + 1)) by rw [hN.out, HS.out, hg, hi]; rfl)
          clear hg hi
          go_wp2_with (first | go_skip | (refine wpList_load_cells (wanted_none rfl) 43 _ rfl Try.isAgg43 _ Try.sizeOf43 b (o + k * 4) rfl [.int .i64 l[k].c, .int .i64 l[k].by_, .int .i64 l[k].host, .int .i64 l[k].till] rfl hrow ?_) | (refine mem_alloc st (wanted_none rfl) 43 rfl _ Try.zeroValue43 _ rfl ?_; clear st; intro g1 w1 hg1 st hg1b; clear hg1b; simp [Act.eval, Act.put, Value.cells, putL] at st) | ((first | refine mem_store' st 43 _ _ rfl (wanted_none rfl) _ Try.sizeOf43 ?_ | (refine mem_store' st 43 _ _ rfl (wanted_some rfl ?_) _ Try.sizeOf43 ?_; focus (simp [yielded, Act.put]; done))); refine ⟨0, _, _, _, _, _, rfl, rfl, rfl, rfl, rfl, rfl, ?_⟩; clear st; intro w2 st hw2m hw2z; simp [Act.eval, Act.put, Value.cells, putL] at st))
          refine lex_still st (by kernel_rfl) 10 rfl ?_; clear st; intro hI
          refine lex_take 0 rfl (by decide +kernel) (by first | exact wanted_none rfl | exact wanted_some rfl rfl) hI (fun W hW => St.run_load_agg hW 0 43 _ rfl Try.isAgg43 _ Try.sizeOf43 rfl rfl rfl rfl) ?_; simp only [Act.put, List.setIfInBounds_toArray, List.set_cons_succ, List.set_cons_zero]
          have st := hI
          refine lex_only 1 rfl (by decide +kernel) (by first | exact wanted_none rfl | exact wanted_some rfl rfl) fun K hK => ?_
          refine wp_callee (f := 27) (by first | (go_simp; done) | (go_simp; rfl)) ?_
          refine (wire_GoodCert l[k] _).mono ?_
          rintro e v3 ⟨rfl, hb3⟩
          rw [HG.out]
          refine ⟨_, rfl, ?_⟩
          replace st := st.call hb3
          clear hb3
          refine hK _ _ (st) ?_; clear hK; simp only [Act.put, List.setIfInBounds_toArray, List.set_cons_succ, List.set_cons_zero]
          have hI := st
          refine lex_take 2 rfl (by decide +kernel) (by first | exact wanted_none rfl | exact wanted_some rfl rfl) hI (fun W hW => by first | (go_simp; done) | (go_simp; rfl)) ?_; simp only [Act.put, List.setIfInBounds_toArray, List.set_cons_succ, List.set_cons_zero]
          refine lex_take 3 rfl (by decide +kernel) (by first | exact wanted_none rfl | exact wanted_some rfl rfl) hI (fun W hW => by first | (go_simp; done) | (go_simp; rfl)) ?_; simp only [Act.put, List.setIfInBounds_toArray, List.set_cons_succ, List.set_cons_zero]
          refine lex_take 4 rfl (by decide +kernel) (by first | exact wanted_none rfl | exact wanted_some rfl rfl) hI (fun W hW => by first | (go_simp; done) | (go_simp; rfl)) ?_; simp only [Act.put, List.setIfInBounds_toArray, List.set_cons_succ, List.set_cons_zero]
          refine lex_take 5 rfl (by decide +kernel) (by first | exact wanted_none rfl | exact wanted_some rfl rfl) hI (fun W hW => by first | (go_simp; done) | (go_simp; rfl)) ?_; simp only [Act.put, List.setIfInBounds_toArray, List.set_cons_succ, List.set_cons_zero]
          refine lex_take 6 rfl (by decide +kernel) (by first | exact wanted_none rfl | exact wanted_some rfl rfl) hI (fun W hW => by first | (go_simp; done) | (go_simp; rfl)) ?_; simp only [Act.put, List.setIfInBounds_toArray, List.set_cons_succ, List.set_cons_zero]
          refine lex_take 7 rfl (by decide +kernel) (by first | exact wanted_none rfl | exact wanted_some rfl rfl) hI (fun W hW => St.run_load_agg hW 0 43 _ rfl Try.isAgg43 _ Try.sizeOf43 rfl rfl rfl rfl) ?_; simp only [Act.put, List.setIfInBounds_toArray, List.set_cons_succ, List.set_cons_zero]
          refine lex_only 8 rfl (by decide +kernel) (by first | exact wanted_none rfl | exact wanted_some rfl rfl) fun K hK => ?_
          refine wp_callee (f := 28) (by first | (go_simp; done) | (go_simp; rfl)) ?_
          refine (HCt.out _ st.below).mono ?_
          rintro e v4 ⟨rfl, hb4⟩
          rw [HI.out]
          refine ⟨_, rfl, ?_⟩
          replace st := st.call hb4
          clear hb4
          refine hK _ _ (st) ?_; clear hK; simp only [Act.put, List.setIfInBounds_toArray, List.set_cons_succ, List.set_cons_zero]
          have hI := st
          refine lex_take 9 rfl (by decide +kernel) (by first | exact wanted_none rfl | exact wanted_some rfl rfl) hI (fun W hW => by first | (go_simp; done) | (go_simp; rfl)) ?_; simp only [Act.put, List.setIfInBounds_toArray, List.set_cons_succ, List.set_cons_zero]
          refine lex_done (by decide +kernel) ?_
          go_wp2
          go_roundw
          case rel => exact ⟨k + 1, hlt, by go_num, hB.keep st.below, HE.out⟩
          case measure => simp [intOf]; omega
        · have HI := Lib.hid hi
          have HE := Lib.hid (show goodCerts l = false by unfold goodCerts; rw [hN.out, HS.out, hg, hi]; rfl)
          clear hg hi
          go_wp2_with (first | go_skip | (refine wpList_load_cells (wanted_none rfl) 43 _ rfl Try.isAgg43 _ Try.sizeOf43 b (o + k * 4) rfl [.int .i64 l[k].c, .int .i64 l[k].by_, .int .i64 l[k].host, .int .i64 l[k].till] rfl hrow ?_) | (refine mem_alloc st (wanted_none rfl) 43 rfl _ Try.zeroValue43 _ rfl ?_; clear st; intro g1 w1 hg1 st hg1b; clear hg1b; simp [Act.eval, Act.put, Value.cells, putL] at st) | ((first | refine mem_store' st 43 _ _ rfl (wanted_none rfl) _ Try.sizeOf43 ?_ | (refine mem_store' st 43 _ _ rfl (wanted_some rfl ?_) _ Try.sizeOf43 ?_; focus (simp [yielded, Act.put]; done))); refine ⟨0, _, _, _, _, _, rfl, rfl, rfl, rfl, rfl, rfl, ?_⟩; clear st; intro w2 st hw2m hw2z; simp [Act.eval, Act.put, Value.cells, putL] at st))
          refine lex_still st (by kernel_rfl) 10 rfl ?_; clear st; intro hI
          refine lex_take 0 rfl (by decide +kernel) (by first | exact wanted_none rfl | exact wanted_some rfl rfl) hI (fun W hW => St.run_load_agg hW 0 43 _ rfl Try.isAgg43 _ Try.sizeOf43 rfl rfl rfl rfl) ?_; simp only [Act.put, List.setIfInBounds_toArray, List.set_cons_succ, List.set_cons_zero]
          have st := hI
          refine lex_only 1 rfl (by decide +kernel) (by first | exact wanted_none rfl | exact wanted_some rfl rfl) fun K hK => ?_
          refine wp_callee (f := 27) (by first | (go_simp; done) | (go_simp; rfl)) ?_
          refine (wire_GoodCert l[k] _).mono ?_
          rintro e v3 ⟨rfl, hb3⟩
          rw [HG.out]
          refine ⟨_, rfl, ?_⟩
          replace st := st.call hb3
          clear hb3
          refine hK _ _ (st) ?_; clear hK; simp only [Act.put, List.setIfInBounds_toArray, List.set_cons_succ, List.set_cons_zero]
          have hI := st
          refine lex_take 2 rfl (by decide +kernel) (by first | exact wanted_none rfl | exact wanted_some rfl rfl) hI (fun W hW => by first | (go_simp; done) | (go_simp; rfl)) ?_; simp only [Act.put, List.setIfInBounds_toArray, List.set_cons_succ, List.set_cons_zero]
          refine lex_take 3 rfl (by decide +kernel) (by first | exact wanted_none rfl | exact wanted_some rfl rfl) hI (fun W hW => by first | (go_simp; done) | (go_simp; rfl)) ?_; simp only [Act.put, List.setIfInBounds_toArray, List.set_cons_succ, List.set_cons_zero]
          refine lex_take 4 rfl (by decide +kernel) (by first | exact wanted_none rfl | exact wanted_some rfl rfl) hI (fun W hW => by first | (go_simp; done) | (go_simp; rfl)) ?_; simp only [Act.put, List.setIfInBounds_toArray, List.set_cons_succ, List.set_cons_zero]
          refine lex_take 5 rfl (by decide +kernel) (by first | exact wanted_none rfl | exact wanted_some rfl rfl) hI (fun W hW => by first | (go_simp; done) | (go_simp; rfl)) ?_; simp only [Act.put, List.setIfInBounds_toArray, List.set_cons_succ, List.set_cons_zero]
          refine lex_take 6 rfl (by decide +kernel) (by first | exact wanted_none rfl | exact wanted_some rfl rfl) hI (fun W hW => by first | (go_simp; done) | (go_simp; rfl)) ?_; simp only [Act.put, List.setIfInBounds_toArray, List.set_cons_succ, List.set_cons_zero]
          refine lex_take 7 rfl (by decide +kernel) (by first | exact wanted_none rfl | exact wanted_some rfl rfl) hI (fun W hW => St.run_load_agg hW 0 43 _ rfl Try.isAgg43 _ Try.sizeOf43 rfl rfl rfl rfl) ?_; simp only [Act.put, List.setIfInBounds_toArray, List.set_cons_succ, List.set_cons_zero]
          refine lex_only 8 rfl (by decide +kernel) (by first | exact wanted_none rfl | exact wanted_some rfl rfl) fun K hK => ?_
          refine wp_callee (f := 28) (by first | (go_simp; done) | (go_simp; rfl)) ?_
          refine (HCt.out _ st.below).mono ?_
          rintro e v4 ⟨rfl, hb4⟩
          rw [HI.out]
          refine ⟨_, rfl, ?_⟩
          replace st := st.call hb4
          clear hb4
          refine hK _ _ (st) ?_; clear hK; simp only [Act.put, List.setIfInBounds_toArray, List.set_cons_succ, List.set_cons_zero]
          have hI := st
          refine lex_take 9 rfl (by decide +kernel) (by first | exact wanted_none rfl | exact wanted_some rfl rfl) hI (fun W hW => by first | (go_simp; done) | (go_simp; rfl)) ?_; simp only [Act.put, List.setIfInBounds_toArray, List.set_cons_succ, List.set_cons_zero]
          refine lex_done (by decide +kernel) ?_
          go_wp2
          go_ret
          exact ⟨ret_bool HE.out.symm, hB.keep st.below⟩
    · go_wp2
      go_ret
      have e : certsOk [] l = true := by rw [hN.out, List.drop_of_length_le (by omega)]; simp [certsOk]
      exact ⟨ret_bool (by unfold goodCerts; rw [e]; simp; omega), hB⟩

end Go.Proofs.Ytbngblmdcggfdaa
