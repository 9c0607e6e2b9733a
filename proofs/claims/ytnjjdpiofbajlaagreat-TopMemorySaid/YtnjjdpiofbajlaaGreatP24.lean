/- Walks and plain laws, part 24. -/
import Derived.Test.YtnjjdpiofbajlaaGreatP19
import Derived.Test.YtnjjdpiofbajlaaGreatP23
set_option linter.unusedSimpArgs false
set_option linter.unusedVariables false
set_option maxHeartbeats 16000000
set_option maxRecDepth 100000
namespace Go.Proofs.YtnjjdpiofbajlaaGreat
open Go.RowKit
def namedL (m : Mail) : List Int := uniq (m.grants ++ catsOf m.label)
theorem uniq_length (l : List Int) : (uniq l).length ≤ l.length := by
 rw [← sort_compact]
 unfold Lib.compact Lib.compactUpTo
 rw [List.length_map]
 refine Nat.le_trans (List.length_filter_le _ _) ?_
 simp
theorem trust_named (ok : Nat → Prop) (w : World) (m : Mail) (la : Option Addr) (lc : Nat) (ga : Option Addr) (gc : Nat) (hm : m.grants.length * 8 ≤ 140737488351232 ∧ m.label.length * 16 ≤ 140737488351232) (hR : MailR ok w m la lc ga gc) :
  Calls Tryz.prog 83 #[mailV m la lc ga gc] w fun e w' => ∃ a c, e = .returned (.slice a (namedL m).length c) ∧ Below w.heap.size w w' ∧ SlR (fun _ => True) w' 1 RInt a c (namedL m) := by
 obtain ⟨hL, hG⟩ := hR
 obtain ⟨i0, hi, hz0, hz1, hz2⟩ := info_parts info_int
 unfold mailV
 have st := St.start w
 have hg8 : m.grants.length * 8 ≤ 140737488355328 := by omega
 go_enter Tryz.func83, Tryz.ntmps83
 go_wp2_with (first
  | go_skip | (with_reducible refine mB 42 st ?_; clear st; intro g1 w1 hg1 st) | (with_reducible refine mX st Tryz.isAgg28 ?_)
  | (go_at_call 95; go_must (refine (slices_Clone_int ok _ _ _ _ hg8 (hG.below st.below)).mono ?_; rintro e v2 ⟨a2, c2, rfl, hb2, hO⟩; have hsB := st.size; have lg := st.ltAt (i := 0) rfl; have hz2' := hb2.size; replace st := st.call hb2))
  | (with_reducible refine mX st Tryz.isAgg27 ?_))
 generalize hBe : w1.heap.size = B at hO hsB lg hz2'
 have hL2 := hL.below st.below
 clear hBe hb2
 go_loopw [12, 3] (fun i p wr => ∃ (k : Nat) (a : Option Addr) (c : Nat), k ≤ m.label.length ∧ i = .int .i64 k ∧ p = .slice a (m.grants.length + k) c ∧ St [] w wr [(g1, 42, [.int .i64 m.host, .int .i64 m.thread, .slice la m.label.length lc, .slice ga m.grants.length gc, .string m.text])] ∧ Own B 3 wr 1 RInt a c (m.grants ++ (catsOf m.label).take k) ∧ B ≤ wr.heap.size) (fun i _ _ => m.label.length - (intOf i).toNat)
 case atStart => exact ⟨0, a2, c2, Nat.zero_le _, rfl, rfl, st, by simpa using hO, hz2'⟩
 case round =>
  clear st hO hz2' hL2
  obtain ⟨k, a, c, hk, rfl, rfl, st, hO, hB⟩ := hrel
  have hlk : (m.grants ++ (catsOf m.label).take k).length = m.grants.length + k := by simp [catsOf]; omega
  by_cases hlt : k < m.label.length
  ·obtain ⟨b, o, rfl, hb, h1, h2⟩ := (hL.below st.below).lev_at k hlt
   have hrow : ∀ (j : Nat) (v : Value), [Value.int .i64 m.label[k].c, .int .i64 m.label[k].l][j]? = some v → wr.cell? ⟨b, o + k * 2 + j, none⟩ = some v := fun j v hj => by
    rcases j with _ | _ | j
    ·simp at hj; subst hj; exact h1
    ·simp at hj; subst hj; exact h2
    ·simp at hj
   have hcl : (catsOf m.label).length = m.label.length := by simp [catsOf]
   have htk : (catsOf m.label).take (k + 1) = (catsOf m.label).take k ++ [m.label[k].c] := by
    rw [List.take_succ_eq_append_getElem (by omega)]; simp [catsOf]
   have HTK := qh htk
   have HLK := qh hlk
   have st0 := st
   replace st := st.rebase
   clear h1 h2 hlk hcl htk
   go_wp2_with (first
    | go_skip | (with_reducible refine at_load 73 ?_; refine wpList_load_cells (wanted_none rfl) 73 _ rfl Tryz.isAgg73 _ Tryz.sizeOf73 b (o + k * 2) rfl [.int .i64 m.label[k].c, .int .i64 m.label[k].l] rfl hrow ?_)
    | (with_reducible refine mA st Tryz.zeroValue73 ?_; clear st; intro g5 w5 hg5 st) | (with_reducible refine mS 1 st Tryz.sizeOf73 ?_; clear st; intro w6 st hw6m hw6z) | (with_reducible refine mX st Tryz.isAgg3 ?_) | ((with_reducible refine at_build1 28 ?_; refine wpList_build1 st (wanted_none rfl) 28 3 _ rfl Tryz.underlying28 1 Tryz.sizeOf3 (by decide) (by decide) _ Tryz.zeroValue3 _ rfl rfl ?_; have stw7 := st; clear st; intro g7 w7 hg7 hg7e st hw7b hw7z; simp [Act.eval, Act.put, Value.cells, putL] at st); clear hg7e)
    | (at_builtin; go_must (refine wpList_appBig (wanted_none rfl) _ _ 28 rfl 3 i0 _ 1 8 Tryz.underlying28 hi hz0 hz1 hz2 rfl (by decide) rfl HLK.out.symm (hO.below (st0.below2 st (by simp))) rfl (SlR.ofBlk (ok := fun _ => True) (R := RInt) (sz := 1) (x := m.label[k].c) (st.blk _ (mgE (i := 2) rfl)) rfl rfl rfl trivial) (by rw [HLK.out]; omega) (by rw [HLK.out]; unfold maxLen; omega) (Nat.le_trans hB st.size) ?_; intro g8 c8 w8 hO8 hg8')))
   go_roundw
   case rel =>
    have hzz := st.size
    refine ⟨k + 1, _, c8, hlt, by go_num, rfl, (St.back st0 (st.take 1)).grownNew hg8' (fun q hq => Nat.le_trans hsB (hO.blockLt q hq).1) (fun x hx => ?_), by rw [HTK.out, ← List.append_assoc]; exact hO8, Nat.le_trans hB (Nat.le_trans hzz hg8'.size)⟩
    simp at hx
    subst hx
    intro he
    have := (hO.blockLt _ he).1
    simp at this
    omega
   case measure => simp [intOf]; omega
  ·have hkn : k = m.label.length := by omega
   subst hkn
   have e1 : m.grants ++ (catsOf m.label).take m.label.length = m.grants ++ catsOf m.label := by rw [List.take_of_length_le (by simp [catsOf])]
   rw [e1] at hO hlk
   have e3 : Lib.compact ((m.grants ++ catsOf m.label).mergeSort fun x y => decide (x ≤ y)) = namedL m := by rw [sort_compact, namedL]
   have e4 : ((m.grants ++ catsOf m.label).mergeSort fun x y => decide (x ≤ y)).length = m.grants.length + m.label.length := by simp [catsOf]
   have E2 := qh hlk
   have E3 := qh e3
   have E4 := qh e4
   have hBw := st.below
   clear e1 hlk e3 e4
   generalize hab : m.grants ++ catsOf m.label = ab at hO E2 E3 E4
   have HAB := qh hab
   clear hab
   go_wp2_with fail
   rw [← E2.out]
   refine (slices_Sort_own hO (by rw [E2.out]; omega)).mono ?_
   rintro e w3 ⟨rfl, hO3, hg3⟩
   have hB3 := hO.grown hBw hg3 hsB hBw.size
   clear hO hg3 hBw
   go_wp2_with fail
   rw [E2.out, ← E4.out]
   refine (slices_Compact_own hO3 (by rw [E4.out]; omega)).mono ?_
   rintro e w4 ⟨rfl, hO4, hg4⟩
   have hB4 := hO3.grown hB3 hg4 hsB hB3.size
   rw [E3.out] at hO4 ⊢
   clear hO3 hg4 hB3
   go_wp2
   go_ret
   exact ⟨a, c, rfl, hB4, hO4.slr fun _ _ => trivial⟩
noncomputable def mayB (l : List Cert) (h : Int) (m : Mail) (now : Int) : Bool := four h && (namedL m).all fun c => trustB l c now h
def showL (l : List Cert) (m : Mail) : List Cert := l.filter fun x => inL (namedL m) x.c
theorem four_of (l : List Cert) (c now : Int) : ∃ a0 a1 a2 a3, trustV l c now = .agg #[.bool a0, .bool a1, .bool a2, .bool a3] ∧ ∀ k, k < 4 → (⟨a0, a1, a2, a3⟩ : Four).get k = trustB l c now k :=
 ⟨_, _, _, _, rfl, fun k hk => trustF_get l c now hk⟩
theorem index_four {n : Nat} (hn : n < 4) (a0 a1 a2 a3 v : Bool) (hv : (⟨a0, a1, a2, a3⟩ : Four).get n = v) (W : World) : (Instr.index 154 (.agg #[.bool a0, .bool a1, .bool a2, .bool a3]) (.int .i64 n)).run Tryz.prog W = .ok (.bool v) W := by
 subst hv
 have h0 : ∀ W : World, (Instr.index 154 (.agg #[.bool a0, .bool a1, .bool a2, .bool a3]) (.int .i64 0)).run Tryz.prog W = .ok (.bool a0) W := fun _ => by kernel_rfl
 have h1 : ∀ W : World, (Instr.index 154 (.agg #[.bool a0, .bool a1, .bool a2, .bool a3]) (.int .i64 1)).run Tryz.prog W = .ok (.bool a1) W := fun _ => by kernel_rfl
 have h2 : ∀ W : World, (Instr.index 154 (.agg #[.bool a0, .bool a1, .bool a2, .bool a3]) (.int .i64 2)).run Tryz.prog W = .ok (.bool a2) W := fun _ => by kernel_rfl
 have h3 : ∀ W : World, (Instr.index 154 (.agg #[.bool a0, .bool a1, .bool a2, .bool a3]) (.int .i64 3)).run Tryz.prog W = .ok (.bool a3) W := fun _ => by kernel_rfl
 rcases (show n = 0 ∨ n = 1 ∨ n = 2 ∨ n = 3 by omega) with rfl | rfl | rfl | rfl
 ·exact h0 W
 ·exact h1 W
 ·exact h2 W
 ·exact h3 W
theorem namedL_length (m : Mail) : (namedL m).length ≤ m.grants.length + m.label.length := by
 have h := uniq_length (m.grants ++ catsOf m.label)
 have e : (catsOf m.label).length = m.label.length := by simp [catsOf]
 rw [List.length_append, e] at h
 exact h
theorem trust_May (ok : Nat → Prop) (w : World) (l : List Cert) (ca : Option Addr) (cc : Nat) (h : Int) (m : Mail) (la : Option Addr) (lc : Nat) (ga : Option Addr) (gc : Nat) (now : Int) (hm : m.grants.length * 8 ≤ 140737488351232 ∧ m.label.length * 16 ≤ 140737488351232) (hC : SlR ok w 4 RCert ca cc l) (hR : MailR ok w m la lc ga gc) :
  Calls Tryz.prog 55 #[.slice ca l.length cc, .int .i64 h, mailV m la lc ga gc, .int .i64 now] w fun e w' => e = .returned (.bool (mayB l h m now)) ∧ Below w.heap.size w w' := by
 have HN := qh (fun (W : World) (hb : Below w.heap.size w W) => trust_named ok W m la lc ga gc hm (hR.below hb))
 have HT := qh (fun (W : World) (c : Int) (hb : Below w.heap.size w W) => trust_Trusted ok W ca cc l c now (hC.below hb))
 have st := St.start w
 unfold mailV at *
 by_cases h0 : 0 ≤ h
 ·obtain ⟨n, rfl⟩ := Int.eq_ofNat_of_zero_le h0
  by_cases h4 : n < 4
  ·have hf : four (n : Int) = true := (four_iff _).2 ⟨by omega, by omega⟩
   have HMay := qh (show mayB l n m now = (namedL m).all fun c => trustB l c now n by unfold mayB; rw [hf]; rfl)
   have hlen : (namedL m).length ≤ 9223372036854775807 := by
    have := namedL_length m
    omega
   clear hf h0
   go_enter Tryz.func55, Tryz.ntmps55
   go_wp2_with (first
    | go_skip | (with_reducible refine mB 42 st ?_; clear st; intro g1 w1 hg1 st) | (with_reducible refine mXA st Tryz.isAgg42 Tryz.sizeOf42 ?_)
    | (go_at_call 83; go_must (refine (HN.out _ st.below).mono ?_; rintro e v2 ⟨a2, c2, rfl, hb2, hS⟩; replace st := st.call hb2; clear hb2)))
   go_loopw [20] (fun i wr => ∃ k : Nat, k ≤ (namedL m).length ∧ i = .int .i64 k ∧ Below w.heap.size w wr ∧ SlR (fun _ => True) wr 1 RInt a2 c2 (namedL m) ∧ Hid (((namedL m).all fun c => trustB l c now n) = ((namedL m).drop k).all fun c => trustB l c now n)) (fun i _ => (namedL m).length - (intOf i).toNat)
   case atStart => exact ⟨0, Nat.zero_le _, rfl, st.below, hS, rfl⟩
   case round =>
    clear st hS
    obtain ⟨k, hk, rfl, hB, hS, hI⟩ := hrel
    by_cases hlt : k < (namedL m).length
    ·obtain ⟨b, o, rfl, hb, h1⟩ := hS.int_at k hlt
     obtain ⟨a0, a1, a2, a3, hv, hf⟩ := four_of l (namedL m)[k] now
     have HV := qh hv
     have hD := drop_at hlt
     cases ht : trustB l (namedL m)[k] now n
     ·have hix := index_four h4 a0 a1 a2 a3 false (by rw [hf n h4, ht])
      have HE := qh (show mayB l n m now = false by rw [HMay.out, hI.out, hD, List.all_cons, ht, Bool.false_and])
      clear hv hf hD ht
      have st := St.start wr
      go_wp2_with (first | go_skip | (go_at_call 84; go_must (refine (HT.out _ _ (hB.keep st.below)).mono ?_; rintro e v3 ⟨rfl, hb3⟩; rw [HV.out]; replace st := st.call hb3; clear hb3)))
      go_ret
      exact ⟨ret_bool HE.out.symm, hB.keep st.below⟩
     ·have hix := index_four h4 a0 a1 a2 a3 true (by rw [hf n h4, ht])
      have HE := qh (show ((namedL m).all fun c => trustB l c now n) = ((namedL m).drop (k + 1)).all fun c => trustB l c now n by rw [hI.out, hD, List.all_cons, ht, Bool.true_and])
      clear hv hf hD ht
      have st := St.start wr
      go_wp2_with (first | go_skip | (go_at_call 84; go_must (refine (HT.out _ _ (hB.keep st.below)).mono ?_; rintro e v3 ⟨rfl, hb3⟩; rw [HV.out]; replace st := st.call hb3; clear hb3)))
      go_roundw
      case rel => exact ⟨k + 1, hlt, by go_num, hB.keep st.below, hS.below st.below, HE.out⟩
      case measure => simp [intOf]; omega
    ·have HE := qh (show mayB l n m now = true by rw [HMay.out, hI.out, List.drop_of_length_le (by omega)]; rfl)
     go_wp2
     go_ret
     exact ⟨ret_bool HE.out.symm, hB⟩
  ·have HE := qh (show mayB l n m now = false by unfold mayB; rw [show four (n : Int) = false by rw [Bool.eq_false_iff]; intro hf; have := (four_iff _).1 hf; omega]; rfl)
   have d1 : ¬ ((n : Int) < 0) := by omega
   have d2 : decide ((4 : Int) ≤ n) = true := by simp; omega
   go_enter Tryz.func55, Tryz.ntmps55
   go_wp2_with (first | go_skip | (with_reducible refine mB 42 st ?_; clear st; intro g1 w1 hg1 st))
   go_ret
   exact ⟨ret_bool HE.out.symm, st.below⟩
 ·have HE := qh (show mayB l h m now = false by unfold mayB; rw [show four h = false by rw [Bool.eq_false_iff]; intro hf; have := (four_iff _).1 hf; omega]; rfl)
  have d1 : decide (h < 0) = true := by simp; omega
  go_enter Tryz.func55, Tryz.ntmps55
  go_wp2_with (first | go_skip | (with_reducible refine mB 42 st ?_; clear st; intro g1 w1 hg1 st))
  go_ret
  exact ⟨ret_bool HE.out.symm, st.below⟩
theorem trust_Show (ok : Nat → Prop) (w : World) (l : List Cert) (ca : Option Addr) (cc : Nat) (m : Mail) (la : Option Addr) (lc : Nat) (ga : Option Addr) (gc : Nat) (hm : m.grants.length * 8 ≤ 140737488351232 ∧ m.label.length * 16 ≤ 140737488351232) (hl32 : l.length * 32 ≤ 140737488355328) (hC : SlR ok w 4 RCert ca cc l) (hR : MailR ok w m la lc ga gc) :
  Calls Tryz.prog 63 #[.slice ca l.length cc, mailV m la lc ga gc] w fun e w' => ∃ a c, e = .returned (.slice a (showL l m).length c) ∧ Below w.heap.size w w' ∧ SlR (fun b => w.heap.size ≤ b) w' 4 RCert a c (showL l m) := by
 have HN := qh (fun (W : World) (hb : Below w.heap.size w W) => trust_named ok W m la lc ga gc hm (hR.below hb))
 obtain ⟨i0, hi, hz0, hz1, hz2⟩ := info_parts info_Cert
 have hlen : (namedL m).length ≤ 4611686018427387903 := by
  have := namedL_length m
  omega
 have st := St.start w
 unfold mailV at *
 go_enter Tryz.func63, Tryz.ntmps63
 go_wp2_with (first | go_skip | (with_reducible refine mB 42 st ?_; clear st; intro g1 w1 hg1 st))
 have lg := st.ltAt (i := 0) rfl
 have hsB := st.size
 generalize hBe : w1.heap.size = B at lg hsB
 have hB0 : B ≤ w1.heap.size := by omega
 clear hBe
 go_loopw [10, 5] (fun i p wr => ∃ (k : Nat) (a : Option Addr) (c : Nat), k ≤ l.length ∧ i = .int .i64 k ∧ p = .slice a ((l.take k).filter fun x => inL (namedL m) x.c).length c ∧ St [] w wr [(g1, 42, [.int .i64 m.host, .int .i64 m.thread, .slice la m.label.length lc, .slice ga m.grants.length gc, .string m.text])] ∧ Own B 47 wr 4 RCert a c ((l.take k).filter fun x => inL (namedL m) x.c) ∧ B ≤ wr.heap.size) (fun i _ _ => l.length - (intOf i).toNat)
 case atStart => exact ⟨0, none, 0, Nat.zero_le _, rfl, rfl, st, Own.nil _ _ _ _ _, hB0⟩
 case round =>
  clear st hB0
  obtain ⟨k, a, c, hk, rfl, rfl, st, hO, hB⟩ := hrel
  by_cases hlt : k < l.length
  ·obtain ⟨b, o, rfl, hb, _⟩ := hC.cert_at k hlt
   have hrow := ((hC.below st.below).cert_row k hlt)
   have hfl : ((l.take k).filter fun x => inL (namedL m) x.c).length ≤ k := Nat.le_trans (List.length_filter_le _ _) (by rw [List.length_take]; omega)
   have htk : (l.take (k + 1)).filter (fun x => inL (namedL m) x.c) = (l.take k).filter (fun x => inL (namedL m) x.c) ++ (if inL (namedL m) l[k].c = true then [l[k]] else []) := by
    rw [List.take_succ_eq_append_getElem hlt, List.filter_append]
    simp [List.filter_cons]
   generalize hout : (l.take k).filter (fun x => inL (namedL m) x.c) = out at hO hfl htk ⊢
   clear hout
   have st0 := st
   replace st := st.rebase
   cases hin : inL (namedL m) l[k].c
   all_goals
    have HI := qh hin
    rw [hin] at htk
    have HTK := qh htk
    clear hin htk
    go_wp2_with (first
     | go_skip | (with_reducible refine at_load 47 ?_; refine wpList_load_cells (wanted_none rfl) 47 _ rfl Tryz.isAgg47 _ Tryz.sizeOf47 b (o + k * 4) rfl [.int .i64 l[k].c, .int .i64 l[k].by_, .int .i64 l[k].host, .int .i64 l[k].till] rfl hrow ?_)
     | (with_reducible refine mA st Tryz.zeroValue47 ?_; clear st; intro g5 w5 hg5 st) | (with_reducible refine mS 1 st Tryz.sizeOf47 ?_; clear st; intro w6 st hw6m hw6z))
    refine lex_still st (by kernel_rfl) 5 rfl ?_; clear st; intro hI
    refine lexT 0 rfl hI (fun W hW => St.run_load_agg hW 0 42 _ rfl Tryz.isAgg42 _ Tryz.sizeOf42 rfl rfl rfl rfl) ?_
    refine lexS 2 rfl hI ?_
    refine lexT 3 rfl hI (fun W hW => St.run_load hW 1 3 _ rfl Tryz.isAgg3 rfl rfl rfl) ?_
    have st := hI
    refine lexO 1 rfl fun K hK => ?_
    refine wp_callee (f := 83) (by first | (go_simp; done) | (go_simp; rfl)) ?_
    refine (HN.out _ (St.back st0 st).below).mono ?_
    rintro e v7 ⟨a7, c7, rfl, hb7, hS7⟩
    refine ⟨_, rfl, ?_⟩
    replace st := st.call hb7
    refine hK _ _ (st) ?_; clear hK; simp only [kP, kA, kS, kZ]
    have hI := st
    refine lexO 4 rfl fun K hK => ?_
    refine wp_callee (f := 41) (by first | (go_simp; done) | (go_simp; rfl)) ?_
    refine (slices_Contains_int _ _ a7 c7 (namedL m) l[k].c hlen hS7).mono ?_
    rintro e v8 ⟨rfl, rfl⟩
    rw [HI.out]
    refine ⟨_, rfl, ?_⟩
    refine hK _ _ (st) ?_; clear hK; simp only [kP, kA, kS, kZ]
    refine lex_done (by decide +kernel) ?_
    clear hI hS7 hb7
   ·go_wp2
    go_roundw
    case rel => exact ⟨k + 1, a, c, hlt, by go_num, by rw [HTK.out]; simp, St.back st0 (st.take 1), by rw [HTK.out]; simpa using hO.below (st0.below2 st (by simp)), Nat.le_trans hB st.size⟩
    case measure => simp [intOf]; omega
   ·go_wp2_with (first
     | go_skip | (with_reducible refine mXA st Tryz.isAgg47 Tryz.sizeOf47 ?_) | ((with_reducible refine at_build1 44 ?_; refine wpList_build1 st (wanted_none rfl) 44 47 _ rfl Tryz.underlying44 4 Tryz.sizeOf47 (by decide) (by decide) _ Tryz.zeroValue47 _ rfl rfl ?_; have stw9 := st; clear st; intro g9 w9 hg9 hg9e st hw9b hw9z; simp [Act.eval, Act.put, Value.cells, putL] at st); clear hg9e)
     | (at_builtin; go_must (refine wpList_app1 (wanted_none rfl) _ _ 44 rfl 47 i0 _ 4 32 Tryz.underlying44 hi hz0 hz1 hz2 rfl (by decide) rfl rfl (hO.below (st0.below2 st (by simp))) rfl (SlR.ofBlk (ok := fun _ => True) (R := RCert) (x := l[k]) (st.blk _ (mgE (i := 2) rfl)) rfl rfl rfl trivial) (by omega) (by unfold maxLen; omega) (Nat.le_trans hB st.size) ?_; intro g8 c8 w8 hO8 hg8 _ _)))
    go_roundw
    case rel =>
     have hzz := st.size
     refine ⟨k + 1, some ⟨g8, 0, none⟩, c8, hlt, by go_num, by rw [HTK.out]; simp, (St.back st0 (st.take 1)).grownNew hg8 (fun q hq => Nat.le_trans hsB (hO.blockLt q hq).1) (fun x hx => ?_), by rw [HTK.out]; simpa using hO8, Nat.le_trans hB (Nat.le_trans hzz hg8.size)⟩
     simp at hx
     subst hx
     intro he
     have := (hO.blockLt _ he).1
     simp at this
     omega
    case measure => simp [intOf]; omega
  ·have hkn : l.take k = l := List.take_of_length_le (by omega)
   rw [hkn] at hO ⊢
   go_wp2
   go_ret
   exact ⟨a, c, rfl, st.below, (hO.le hsB).slr fun _ h => h⟩
end Go.Proofs.YtnjjdpiofbajlaaGreat
