/- The walks through trust.May and Show. -/
import Derived.Test.YtbngblmdcggfdaaTrustN
set_option linter.unusedSimpArgs false
set_option linter.unusedVariables false
namespace Go.Proofs.Ytbngblmdcggfdaa
open Go.RowKit

noncomputable def mayB (l : List Cert) (h : Int) (m : Mail) (now : Int) : Bool := four h && (namedL m).all fun c => trustB l c now h
def showL (l : List Cert) (m : Mail) : List Cert := l.filter fun x => inL (namedL m) x.c

theorem four_of (l : List Cert) (c now : Int) : ∃ a0 a1 a2 a3, trustV l c now = .agg #[.bool a0, .bool a1, .bool a2, .bool a3] ∧ ∀ k, k < 4 → (⟨a0, a1, a2, a3⟩ : Four).get k = trustB l c now k :=
  ⟨_, _, _, _, rfl, fun k hk => trustF_get l c now hk⟩

theorem index_four {n : Nat} (hn : n < 4) (a0 a1 a2 a3 v : Bool) (hv : (⟨a0, a1, a2, a3⟩ : Four).get n = v) (W : World) : (Instr.index 28 (.agg #[.bool a0, .bool a1, .bool a2, .bool a3]) (.int .i64 n)).run Try.prog W = .ok (.bool v) W := by
  subst hv
  have h0 : ∀ W : World, (Instr.index 28 (.agg #[.bool a0, .bool a1, .bool a2, .bool a3]) (.int .i64 0)).run Try.prog W = .ok (.bool a0) W := fun _ => by kernel_rfl
  have h1 : ∀ W : World, (Instr.index 28 (.agg #[.bool a0, .bool a1, .bool a2, .bool a3]) (.int .i64 1)).run Try.prog W = .ok (.bool a1) W := fun _ => by kernel_rfl
  have h2 : ∀ W : World, (Instr.index 28 (.agg #[.bool a0, .bool a1, .bool a2, .bool a3]) (.int .i64 2)).run Try.prog W = .ok (.bool a2) W := fun _ => by kernel_rfl
  have h3 : ∀ W : World, (Instr.index 28 (.agg #[.bool a0, .bool a1, .bool a2, .bool a3]) (.int .i64 3)).run Try.prog W = .ok (.bool a3) W := fun _ => by kernel_rfl
  rcases (show n = 0 ∨ n = 1 ∨ n = 2 ∨ n = 3 by omega) with rfl | rfl | rfl | rfl
  · exact h0 W
  · exact h1 W
  · exact h2 W
  · exact h3 W

theorem namedL_length (m : Mail) : (namedL m).length ≤ m.grants.length + m.label.length := by
  have h := uniq_length (m.grants ++ catsOf m.label)
  have e : (catsOf m.label).length = m.label.length := by simp [catsOf]
  rw [List.length_append, e] at h
  exact h

set_option maxRecDepth 100000 in
set_option maxHeartbeats 3000000 in
theorem trust_May (ok : Nat → Prop) (w : World) (l : List Cert) (ca : Option Addr) (cc : Nat) (h : Int) (m : Mail) (la : Option Addr) (lc : Nat) (ga : Option Addr) (gc : Nat) (now : Int) (hm : m.grants.length * 8 ≤ 140737488351232 ∧ m.label.length * 16 ≤ 140737488351232) (hC : SlR ok w 4 RCert ca cc l) (hR : MailR ok w m la lc ga gc) :
    Calls Try.prog 9 #[.slice ca l.length cc, .int .i64 h, mailV m la lc ga gc, .int .i64 now] w fun e w' => e = .returned (.bool (mayB l h m now)) ∧ Below w.heap.size w w' := by
  have HN := Lib.hid (fun (W : World) (hb : Below w.heap.size w W) => trust_named ok W m la lc ga gc hm (hR.below hb))
  have HT := Lib.hid (fun (W : World) (c : Int) (hb : Below w.heap.size w W) => trust_Trusted ok W ca cc l c now (hC.below hb))
  have st := St.start w
  unfold mailV at *
  by_cases h0 : 0 ≤ h
  · obtain ⟨n, rfl⟩ := Int.eq_ofNat_of_zero_le h0
    by_cases h4 : n < 4
    · have hf : four (n : Int) = true := (four_iff _).2 ⟨by omega, by omega⟩
      have HMay := Lib.hid (show mayB l n m now = (namedL m).all fun c => trustB l c now n by unfold mayB; rw [hf]; rfl)
      have hlen : (namedL m).length ≤ 9223372036854775807 := by
        have := namedL_length m
        omega
      clear hf h0
      go_enter Try.func9, Try.ntmps9
      go_wp2_with (first
        | go_skip | (refine mem_box st (wanted_none rfl) 27 _ rfl _ rfl _ rfl ?_; clear st; intro g1 w1 hg1 st hg1b; clear hg1b; simp [Act.eval, Act.put, Value.cells, putL] at st) | ((first | refine mem_load_agg' st 27 _ rfl (wanted_none rfl) Try.isAgg27 _ Try.sizeOf27 ?_ | (refine mem_load_agg' st 27 _ rfl (wanted_some rfl ?_) Try.isAgg27 _ Try.sizeOf27 ?_; focus (simp [yielded, Act.put]; done))); refine ⟨0, _, _, _, _, _, rfl, rfl, rfl, rfl, ?_⟩)
        | (go_at_call 23; go_must (refine (HN.out _ st.below).mono ?_; rintro e v2 ⟨a2, c2, rfl, hb2, hS⟩; replace st := st.call hb2; clear hb2)))
      go_loopw [20] (fun i wr => ∃ k : Nat, k ≤ (namedL m).length ∧ i = .int .i64 k ∧ Below w.heap.size w wr ∧ SlR (fun _ => True) wr 1 RInt a2 c2 (namedL m) ∧ Hid (((namedL m).all fun c => trustB l c now n) = ((namedL m).drop k).all fun c => trustB l c now n)) (fun i _ => (namedL m).length - (intOf i).toNat)
      case atStart => exact ⟨0, Nat.zero_le _, rfl, st.below, hS, rfl⟩
      case round =>
        clear st hS
        obtain ⟨k, hk, rfl, hB, hS, hI⟩ := hrel
        by_cases hlt : k < (namedL m).length
        · obtain ⟨b, o, rfl, hb, h1⟩ := hS.int_at k hlt
          obtain ⟨a0, a1, a2, a3, hv, hf⟩ := four_of l (namedL m)[k] now
          have HV := Lib.hid hv
          have hD := drop_at hlt
          cases ht : trustB l (namedL m)[k] now n
          · have hix := index_four h4 a0 a1 a2 a3 false (by rw [hf n h4, ht])
            have HE := Lib.hid (show mayB l n m now = false by rw [HMay.out, hI.out, hD, List.all_cons, ht, Bool.false_and])
            clear hv hf hD ht
            have st := St.start wr
            go_wp2_with (first | go_skip | (go_at_call 6; go_must (refine (HT.out _ _ (hB.keep st.below)).mono ?_; rintro e v3 ⟨rfl, hb3⟩; rw [HV.out]; replace st := st.call hb3; clear hb3)))
            go_ret
            exact ⟨ret_bool HE.out.symm, hB.keep st.below⟩
          · have hix := index_four h4 a0 a1 a2 a3 true (by rw [hf n h4, ht])
            have HE := Lib.hid (show ((namedL m).all fun c => trustB l c now n) = ((namedL m).drop (k + 1)).all fun c => trustB l c now n by rw [hI.out, hD, List.all_cons, ht, Bool.true_and])
            clear hv hf hD ht
            have st := St.start wr
            go_wp2_with (first | go_skip | (go_at_call 6; go_must (refine (HT.out _ _ (hB.keep st.below)).mono ?_; rintro e v3 ⟨rfl, hb3⟩; rw [HV.out]; replace st := st.call hb3; clear hb3)))
            go_roundw
            case rel => exact ⟨k + 1, hlt, by go_num, hB.keep st.below, hS.below st.below, HE.out⟩
            case measure => simp [intOf]; omega
        · have HE := Lib.hid (show mayB l n m now = true by rw [HMay.out, hI.out, List.drop_of_length_le (by omega)]; rfl)
          go_wp2
          go_ret
          exact ⟨ret_bool HE.out.symm, hB⟩
    · have HE := Lib.hid (show mayB l n m now = false by unfold mayB; rw [show four (n : Int) = false by rw [Bool.eq_false_iff]; intro hf; have := (four_iff _).1 hf; omega]; rfl)
      have d1 : ¬ ((n : Int) < 0) := by omega
      have d2 : decide ((4 : Int) ≤ n) = true := by simp; omega
      go_enter Try.func9, Try.ntmps9
      go_wp2_with (first | go_skip | (refine mem_box st (wanted_none rfl) 27 _ rfl _ rfl _ rfl ?_; clear st; intro g1 w1 hg1 st hg1b; clear hg1b; simp [Act.eval, Act.put, Value.cells, putL] at st))
      go_ret
      exact ⟨ret_bool HE.out.symm, st.below⟩
  · have HE := Lib.hid (show mayB l h m now = false by unfold mayB; rw [show four h = false by rw [Bool.eq_false_iff]; intro hf; have := (four_iff _).1 hf; omega]; rfl)
    have d1 : decide (h < 0) = true := by simp; omega
    go_enter Try.func9, Try.ntmps9
    go_wp2_with (first | go_skip | (refine mem_box st (wanted_none rfl) 27 _ rfl _ rfl _ rfl ?_; clear st; intro g1 w1 hg1 st hg1b; clear hg1b; simp [Act.eval, Act.put, Value.cells, putL] at st))
    go_ret
    exact ⟨ret_bool HE.out.symm, st.below⟩

set_option maxRecDepth 100000 in
set_option maxHeartbeats 3000000 in
theorem trust_Show (ok : Nat → Prop) (w : World) (l : List Cert) (ca : Option Addr) (cc : Nat) (m : Mail) (la : Option Addr) (lc : Nat) (ga : Option Addr) (gc : Nat) (hm : m.grants.length * 8 ≤ 140737488351232 ∧ m.label.length * 16 ≤ 140737488351232) (hl32 : l.length * 32 ≤ 140737488355328) (hC : SlR ok w 4 RCert ca cc l) (hR : MailR ok w m la lc ga gc) :
    Calls Try.prog 13 #[.slice ca l.length cc, mailV m la lc ga gc] w fun e w' => ∃ a c, e = .returned (.slice a (showL l m).length c) ∧ Below w.heap.size w w' ∧ SlR (fun b => w.heap.size ≤ b) w' 4 RCert a c (showL l m) := by
  have HN := Lib.hid (fun (W : World) (hb : Below w.heap.size w W) => trust_named ok W m la lc ga gc hm (hR.below hb))
  obtain ⟨i0, hi, hz0, hz1, hz2⟩ := info_parts info_Cert
  have hlen : (namedL m).length ≤ 4611686018427387903 := by
    have := namedL_length m
    omega
  have st := St.start w
  unfold mailV at *
  go_enter Try.func13, Try.ntmps13
  go_wp2_with (first | go_skip | (refine mem_box st (wanted_none rfl) 27 _ rfl _ rfl _ rfl ?_; clear st; intro g1 w1 hg1 st hg1b; clear hg1b; simp [Act.eval, Act.put, Value.cells, putL] at st))
  have lg := st.ltAt (i := 0) rfl
  have hsB := st.size
  generalize hBe : w1.heap.size = B at lg hsB
  have hB0 : B ≤ w1.heap.size := by omega
  clear hBe
  go_loopw [10, 5] (fun i p wr => ∃ (k : Nat) (a : Option Addr) (c : Nat), k ≤ l.length ∧ i = .int .i64 k ∧ p = .slice a ((l.take k).filter fun x => inL (namedL m) x.c).length c ∧ St [] w wr [(g1, 27, [.int .i64 m.host, .int .i64 m.thread, .slice la m.label.length lc, .slice ga m.grants.length gc, .string m.text])] ∧ Own B 43 wr 4 RCert a c ((l.take k).filter fun x => inL (namedL m) x.c) ∧ B ≤ wr.heap.size) (fun i _ _ => l.length - (intOf i).toNat)
  case atStart => exact ⟨0, none, 0, Nat.zero_le _, rfl, rfl, st, Own.nil _ _ _ _ _, hB0⟩
  case round =>
    clear st hB0
    obtain ⟨k, a, c, hk, rfl, rfl, st, hO, hB⟩ := hrel
    by_cases hlt : k < l.length
    · obtain ⟨b, o, rfl, hb, _⟩ := hC.cert_at k hlt
      have hrow := ((hC.below st.below).cert_row k hlt)
      have hfl : ((l.take k).filter fun x => inL (namedL m) x.c).length ≤ k := Nat.le_trans (List.length_filter_le _ _) (by rw [List.length_take]; omega)
      have htk : (l.take (k + 1)).filter (fun x => inL (namedL m) x.c) = (l.take k).filter (fun x => inL (namedL m) x.c) ++ (if inL (namedL m) l[k].c = true then [l[k]] else []) := by
        rw [List.take_succ_eq_append_getElem hlt, List.filter_append]
        simp [List.filter_cons]
      generalize hout : (l.take k).filter (fun x => inL (namedL m) x.c) = out at hO hfl htk ⊢
      clear hout
      have st0 := st
      replace st := st.rebase
      cases hin : inL (namedL m) l[k].c
      all_goals
        have HI := Lib.hid hin
        rw [hin] at htk
        have HTK := Lib.hid htk
        clear hin htk
        go_wp2_with (first
          | go_skip | (refine wpList_load_cells (wanted_none rfl) 43 _ rfl Try.isAgg43 _ Try.sizeOf43 b (o + k * 4) rfl [.int .i64 l[k].c, .int .i64 l[k].by_, .int .i64 l[k].host, .int .i64 l[k].till] rfl hrow ?_)
          | (refine mem_alloc st (wanted_none rfl) 43 rfl _ Try.zeroValue43 _ rfl ?_; clear st; intro g5 w5 hg5 st hg5b; clear hg5b; simp [Act.eval, Act.put, Value.cells, putL] at st) | ((first | refine mem_store' st 43 _ _ rfl (wanted_none rfl) _ Try.sizeOf43 ?_ | (refine mem_store' st 43 _ _ rfl (wanted_some rfl ?_) _ Try.sizeOf43 ?_; focus (simp [yielded, Act.put]; done))); refine ⟨1, _, _, _, _, _, rfl, rfl, rfl, rfl, rfl, rfl, ?_⟩; clear st; intro w6 st hw6m hw6z; simp [Act.eval, Act.put, Value.cells, putL] at st))
        refine lex_still st (by kernel_rfl) 5 rfl ?_; clear st; intro hI
        refine lex_take 0 rfl (by decide +kernel) (by first | exact wanted_none rfl | exact wanted_some rfl rfl) hI (fun W hW => St.run_load_agg hW 0 27 _ rfl Try.isAgg27 _ Try.sizeOf27 rfl rfl rfl rfl) ?_; simp only [Act.put, List.setIfInBounds_toArray, List.set_cons_succ, List.set_cons_zero]
        refine lex_take 2 rfl (by decide +kernel) (by first | exact wanted_none rfl | exact wanted_some rfl rfl) hI (fun W hW => by first | (go_simp; done) | (go_simp; rfl)) ?_; simp only [Act.put, List.setIfInBounds_toArray, List.set_cons_succ, List.set_cons_zero]
        refine lex_take 3 rfl (by decide +kernel) (by first | exact wanted_none rfl | exact wanted_some rfl rfl) hI (fun W hW => St.run_load hW 1 3 _ rfl Try.isAgg3 rfl rfl rfl) ?_; simp only [Act.put, List.setIfInBounds_toArray, List.set_cons_succ, List.set_cons_zero]
        have st := hI
        refine lex_only 1 rfl (by decide +kernel) (by first | exact wanted_none rfl | exact wanted_some rfl rfl) fun K hK => ?_
        refine wp_callee (f := 23) (by first | (go_simp; done) | (go_simp; rfl)) ?_
        refine (HN.out _ (St.back st0 st).below).mono ?_
        rintro e v7 ⟨a7, c7, rfl, hb7, hS7⟩
        refine ⟨_, rfl, ?_⟩
        replace st := st.call hb7
        refine hK _ _ (st) ?_; clear hK; simp only [Act.put, List.setIfInBounds_toArray, List.set_cons_succ, List.set_cons_zero]
        have hI := st
        refine lex_only 4 rfl (by decide +kernel) (by first | exact wanted_none rfl | exact wanted_some rfl rfl) fun K hK => ?_
        refine wp_callee (f := 26) (by first | (go_simp; done) | (go_simp; rfl)) ?_
        refine (slices_Contains_int _ _ a7 c7 (namedL m) l[k].c hlen hS7).mono ?_
        rintro e v8 ⟨rfl, rfl⟩
        rw [HI.out]
        refine ⟨_, rfl, ?_⟩
        refine hK _ _ (st) ?_; clear hK; simp only [Act.put, List.setIfInBounds_toArray, List.set_cons_succ, List.set_cons_zero]
        refine lex_done (by decide +kernel) ?_
        clear hI hS7 hb7
      · go_wp2
        go_roundw
        case rel => exact ⟨k + 1, a, c, hlt, by go_num, by rw [HTK.out]; simp, St.back st0 (st.take 1), by rw [HTK.out]; simpa using hO.below (st0.below2 st (by simp)), Nat.le_trans hB st.size⟩
        case measure => simp [intOf]; omega
      · go_wp2_with (first
          | go_skip | ((first | refine mem_load_agg' st 43 _ rfl (wanted_none rfl) Try.isAgg43 _ Try.sizeOf43 ?_ | (refine mem_load_agg' st 43 _ rfl (wanted_some rfl ?_) Try.isAgg43 _ Try.sizeOf43 ?_; focus (simp [yielded, Act.put]; done))); refine ⟨1, _, _, _, _, _, rfl, rfl, rfl, rfl, ?_⟩) | ((refine wpList_build1 st (wanted_none rfl) 22 43 _ rfl Try.underlying22 4 Try.sizeOf43 (by decide) (by decide) _ Try.zeroValue43 _ rfl rfl ?_; have stw9 := st; clear st; intro g9 w9 hg9 hg9e st hw9b hw9z; simp [Act.eval, Act.put, Value.cells, putL] at st); clear hg9e)
          | (at_builtin; go_must (refine wpList_app1 (wanted_none rfl) _ _ 22 rfl 43 i0 _ 4 32 Try.underlying22 hi hz0 hz1 hz2 rfl (by decide) rfl rfl (hO.below (st0.below2 st (by simp))) rfl (SlR.ofBlk (ok := fun _ => True) (R := RCert) (x := l[k]) (st.blk _ (List.mem_of_getElem? (i := 2) rfl)) rfl rfl rfl trivial) (by omega) (by unfold maxLen; omega) (Nat.le_trans hB st.size) ?_; intro g8 c8 w8 hO8 hg8 _ _)))
        go_roundw
        case rel =>
          have hzz := st.size
          refine ⟨k + 1, some ⟨g8, 0, none⟩, c8, hlt, by go_num, by rw [HTK.out]; simp, (St.back st0 (st.take 1)).grownNew hg8 (fun q hq => Nat.le_trans hsB (hO.blockLt q hq).1) (fun x hx => ?_), by rw [HTK.out]; simpa using hO8, Nat.le_trans hB (Nat.le_trans hzz hg8.size)⟩
          simp at hx
          subst hx
          intro he
          have := (hO.blockLt _ he).1
          simp at this
          omega
        case measure => simp [intOf]; omega
    · have hkn : l.take k = l := List.take_of_length_le (by omega)
      rw [hkn] at hO ⊢
      go_wp2
      go_ret
      exact ⟨a, c, rfl, st.below, (hO.le hsB).slr fun _ h => h⟩

end Go.Proofs.Ytbngblmdcggfdaa
