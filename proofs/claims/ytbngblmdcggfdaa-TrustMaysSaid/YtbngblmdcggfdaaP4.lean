/- Walks and plain laws that the claim rests on, part 4. -/
import Derived.Test.YtbngblmdcggfdaaP3
import Derived.Test.YtbngblmdcggfdaaP2
import Derived.Test.YtbngblmdcggfdaaP1
import Derived.Maps.RangeWalk
set_option linter.unusedSimpArgs false
set_option linter.unusedVariables false
/- The walks through trust.named, May and Show. -/
namespace Go.Proofs.Ytbngblmdcggfdaa
open Go.RowKit

def namedL (m : Mail) : List Int := uniq (m.grants ++ catsOf m.label)

theorem namedL_mem {m : Mail} {z : Int} : z ∈ namedL m ↔ z ∈ m.grants ∨ ∃ x ∈ m.label, x.c = z := by
  rw [namedL, uniq_mem, List.mem_append]
  simp [catsOf]

theorem uniq_length (l : List Int) : (uniq l).length ≤ l.length := by
  rw [← sort_compact]
  unfold Lib.compact Lib.compactUpTo
  rw [List.length_map]
  refine Nat.le_trans (List.length_filter_le _ _) ?_
  simp

set_option maxRecDepth 100000 in
set_option maxHeartbeats 3000000 in
theorem trust_named (ok : Nat → Prop) (w : World) (m : Mail) (la : Option Addr) (lc : Nat) (ga : Option Addr) (gc : Nat) (hm : m.grants.length * 8 ≤ 140737488351232 ∧ m.label.length * 16 ≤ 140737488351232) (hR : MailR ok w m la lc ga gc) :
    Calls Try.prog 23 #[mailV m la lc ga gc] w fun e w' => ∃ a c, e = .returned (.slice a (namedL m).length c) ∧ Below w.heap.size w w' ∧ SlR (fun _ => True) w' 1 RInt a c (namedL m) := by
  obtain ⟨hL, hG⟩ := hR
  obtain ⟨i0, hi, hz0, hz1, hz2⟩ := info_parts info_int
  unfold mailV
  have st := St.start w
  have hg8 : m.grants.length * 8 ≤ 140737488355328 := by omega
  go_enter Try.func23, Try.ntmps23
  go_wp2_with (first
    | go_skip | (refine mem_box st (wanted_none rfl) 27 _ rfl _ rfl _ rfl ?_; clear st; intro g1 w1 hg1 st hg1b; clear hg1b; simp [Act.eval, Act.put, Value.cells, putL] at st) | ((first | refine mem_load' st 25 _ rfl (wanted_none rfl) Try.isAgg25 ?_ | (refine mem_load' st 25 _ rfl (wanted_some rfl ?_) Try.isAgg25 ?_; focus (simp [yielded, Act.put]; done))); refine ⟨0, _, _, _, _, _, rfl, rfl, rfl, ?_⟩)
    | (go_at_call 30; go_must (refine (slices_Clone_int ok _ _ _ _ hg8 (hG.below st.below)).mono ?_; rintro e v2 ⟨a2, c2, rfl, hb2, hO⟩; have hsB := st.size; have lg := st.ltAt (i := 0) rfl; have hz2' := hb2.size; replace st := st.call hb2))
    | ((first | refine mem_load' st 24 _ rfl (wanted_none rfl) Try.isAgg24 ?_ | (refine mem_load' st 24 _ rfl (wanted_some rfl ?_) Try.isAgg24 ?_; focus (simp [yielded, Act.put]; done))); refine ⟨0, _, _, _, _, _, rfl, rfl, rfl, ?_⟩))
  generalize hBe : w1.heap.size = B at hO hsB lg hz2'
  have hL2 := hL.below st.below
  clear hBe hb2
  go_loopw [12, 3] (fun i p wr => ∃ (k : Nat) (a : Option Addr) (c : Nat), k ≤ m.label.length ∧ i = .int .i64 k ∧ p = .slice a (m.grants.length + k) c ∧ St [] w wr [(g1, 27, [.int .i64 m.host, .int .i64 m.thread, .slice la m.label.length lc, .slice ga m.grants.length gc, .string m.text])] ∧ Own B 3 wr 1 RInt a c (m.grants ++ (catsOf m.label).take k) ∧ B ≤ wr.heap.size) (fun i _ _ => m.label.length - (intOf i).toNat)
  case atStart => exact ⟨0, a2, c2, Nat.zero_le _, rfl, rfl, st, by simpa using hO, hz2'⟩
  case round =>
    clear st hO hz2' hL2
    obtain ⟨k, a, c, hk, rfl, rfl, st, hO, hB⟩ := hrel
    have hlk : (m.grants ++ (catsOf m.label).take k).length = m.grants.length + k := by simp [catsOf]; omega
    by_cases hlt : k < m.label.length
    · obtain ⟨b, o, rfl, hb, h1, h2⟩ := (hL.below st.below).lev_at k hlt
      have hrow : ∀ (j : Nat) (v : Value), [Value.int .i64 m.label[k].c, .int .i64 m.label[k].l][j]? = some v → wr.cell? ⟨b, o + k * 2 + j, none⟩ = some v := fun j v hj => by
        rcases j with _ | _ | j
        · simp at hj; subst hj; exact h1
        · simp at hj; subst hj; exact h2
        · simp at hj
      have hcl : (catsOf m.label).length = m.label.length := by simp [catsOf]
      have htk : (catsOf m.label).take (k + 1) = (catsOf m.label).take k ++ [m.label[k].c] := by
        rw [List.take_succ_eq_append_getElem (by omega)]; simp [catsOf]
      have HTK := Lib.hid htk
      have HLK := Lib.hid hlk
      have st0 := st
      replace st := st.rebase
      clear h1 h2 hlk hcl htk
      go_wp2_with (first
        | go_skip | (refine wpList_load_cells (wanted_none rfl) 53 _ rfl Try.isAgg53 _ Try.sizeOf53 b (o + k * 2) rfl [.int .i64 m.label[k].c, .int .i64 m.label[k].l] rfl hrow ?_)
        | (refine mem_alloc st (wanted_none rfl) 53 rfl _ Try.zeroValue53 _ rfl ?_; clear st; intro g5 w5 hg5 st hg5b; clear hg5b; simp [Act.eval, Act.put, Value.cells, putL] at st) | ((first | refine mem_store' st 53 _ _ rfl (wanted_none rfl) _ Try.sizeOf53 ?_ | (refine mem_store' st 53 _ _ rfl (wanted_some rfl ?_) _ Try.sizeOf53 ?_; focus (simp [yielded, Act.put]; done))); refine ⟨1, _, _, _, _, _, rfl, rfl, rfl, rfl, rfl, rfl, ?_⟩; clear st; intro w6 st hw6m hw6z; simp [Act.eval, Act.put, Value.cells, putL] at st) | ((first | refine mem_load' st 3 _ rfl (wanted_none rfl) Try.isAgg3 ?_ | (refine mem_load' st 3 _ rfl (wanted_some rfl ?_) Try.isAgg3 ?_; focus (simp [yielded, Act.put]; done))); refine ⟨1, _, _, _, _, _, rfl, rfl, rfl, ?_⟩) | ((refine wpList_build1 st (wanted_none rfl) 25 3 _ rfl Try.underlying25 1 Try.sizeOf3 (by decide) (by decide) _ Try.zeroValue3 _ rfl rfl ?_; have stw7 := st; clear st; intro g7 w7 hg7 hg7e st hw7b hw7z; simp [Act.eval, Act.put, Value.cells, putL] at st); clear hg7e)
        | (at_builtin; go_must (refine wpList_appBig (wanted_none rfl) _ _ 25 rfl 3 i0 _ 1 8 Try.underlying25 hi hz0 hz1 hz2 rfl (by decide) rfl HLK.out.symm (hO.below (st0.below2 st (by simp))) rfl (SlR.ofBlk (ok := fun _ => True) (R := RInt) (sz := 1) (x := m.label[k].c) (st.blk _ (List.mem_of_getElem? (i := 2) rfl)) rfl rfl rfl trivial) (by rw [HLK.out]; omega) (by rw [HLK.out]; unfold maxLen; omega) (Nat.le_trans hB st.size) ?_; intro g8 c8 w8 hO8 hg8')))
      go_roundw
      case rel =>
        have hzz := st.size
        refine ⟨k + 1, _, c8, hlt, by go_num, rfl, (St.back st0 (st.take 1)).grownNew hg8' (fun q hq => Nat.le_trans hsB (hO.blockLt q hq).1) (fun x hx => ?_), by rw [HTK.out, ← List.append_assoc]; exact hO8, Nat.le_trans hB (Nat.le_trans hzz hg8'.size)⟩
        simp at hx
        subst hx
        intro he
        have := (hO.blockLt _ he).1
        simp at this
        omega
      case measure => simp [intOf]; omega
    · have hkn : k = m.label.length := by omega
      subst hkn
      have e1 : m.grants ++ (catsOf m.label).take m.label.length = m.grants ++ catsOf m.label := by rw [List.take_of_length_le (by simp [catsOf])]
      rw [e1] at hO hlk
      have e3 : Lib.compact ((m.grants ++ catsOf m.label).mergeSort fun x y => decide (x ≤ y)) = namedL m := by rw [sort_compact, namedL]
      have e4 : ((m.grants ++ catsOf m.label).mergeSort fun x y => decide (x ≤ y)).length = m.grants.length + m.label.length := by simp [catsOf]
      have E2 := Lib.hid hlk
      have E3 := Lib.hid e3
      have E4 := Lib.hid e4
      have hBw := st.below
      clear e1 hlk e3 e4
      generalize hab : m.grants ++ catsOf m.label = ab at hO E2 E3 E4
      have HAB := Lib.hid hab
      clear hab
      go_wp2_with fail
      rw [← E2.out]
      refine (slices_Sort_own hO (by rw [E2.out]; omega)).mono ?_
      rintro e w3 ⟨rfl, hO3, hg3⟩
      have hB3 := hO.grown hBw hg3 hsB hBw.size
      clear hO hg3 hBw
      go_wp2_with fail
      rw [E2.out, ← E4.out]
      refine (slices_Compact_own hO3 (by rw [E4.out]; omega)).mono ?_
      rintro e w4 ⟨rfl, hO4, hg4⟩
      have hB4 := hO3.grown hB3 hg4 hsB hB3.size
      rw [E3.out] at hO4 ⊢
      clear hO3 hg4 hB3
      go_wp2
      go_ret
      exact ⟨a, c, rfl, hB4, hO4.slr fun _ _ => trivial⟩

end Go.Proofs.Ytbngblmdcggfdaa

/- The walks through trust.May and Show. -/
namespace Go.Proofs.Ytbngblmdcggfdaa
open Go.RowKit

noncomputable def mayB (l : List Cert) (h : Int) (m : Mail) (now : Int) : Bool := four h && (namedL m).all fun c => trustB l c now h
def showL (l : List Cert) (m : Mail) : List Cert := l.filter fun x => inL (namedL m) x.c

theorem four_of (l : List Cert) (c now : Int) : ∃ a0 a1 a2 a3, trustV l c now = .agg #[.bool a0, .bool a1, .bool a2, .bool a3] ∧ ∀ k, k < 4 → (⟨a0, a1, a2, a3⟩ : Four).get k = trustB l c now k :=
  ⟨_, _, _, _, rfl, fun k hk => trustF_get l c now hk⟩

theorem index_four {n : Nat} (hn : n < 4) (a0 a1 a2 a3 v : Bool) (hv : (⟨a0, a1, a2, a3⟩ : Four).get n = v) (W : World) : (Instr.index 28 (.agg #[.bool a0, .bool a1, .bool a2, .bool a3]) (.int .i64 n)).run Try.prog W = .ok (.bool v) W := by
  subst hv
  have h0 : ∀ W : World, (Instr.index 28 (.agg #[.bool a0, .bool a1, .bool a2, .bool a3]) (.int .i64 0)).run Try.prog W = .ok (.bool a0) W := fun _ => by kernel_rfl
  have h1 : ∀ W : World, (Instr.index 28 (.agg #[.bool a0, .bool a1, .bool a2, .bool a3]) (.int .i64 1)).run Try.prog W = .ok (.bool a1) W := fun _ => by kernel_rfl
  have h2 : ∀ W : World, (Instr.index 28 (.agg #[.bool a0, .bool a1, .bool a2, .bool a3]) (.int .i64 2)).run Try.prog W = .ok (.bool a2) W := fun _ => by kernel_rfl
  have h3 : ∀ W : World, (Instr.index 28 (.agg #[.bool a0, .bool a1, .bool a2, .bool a3]) (.int .i64 3)).run Try.prog W = .ok (.bool a3) W := fun _ => by kernel_rfl
  rcases (show n = 0 ∨ n = 1 ∨ n = 2 ∨ n = 3 by omega) with rfl | rfl | rfl | rfl
  · exact h0 W
  · exact h1 W
  · exact h2 W
  · exact h3 W

theorem namedL_length (m : Mail) : (namedL m).length ≤ m.grants.length + m.label.length := by
  have h := uniq_length (m.grants ++ catsOf m.label)
  have e : (catsOf m.label).length = m.label.length := by simp [catsOf]
  rw [List.length_append, e] at h
  exact h

set_option maxRecDepth 100000 in
set_option maxHeartbeats 3000000 in
theorem trust_May (ok : Nat → Prop) (w : World) (l : List Cert) (ca : Option Addr) (cc : Nat) (h : Int) (m : Mail) (la : Option Addr) (lc : Nat) (ga : Option Addr) (gc : Nat) (now : Int) (hm : m.grants.length * 8 ≤ 140737488351232 ∧ m.label.length * 16 ≤ 140737488351232) (hC : SlR ok w 4 RCert ca cc l) (hR : MailR ok w m la lc ga gc) :
    Calls Try.prog 9 #[.slice ca l.length cc, .int .i64 h, mailV m la lc ga gc, .int .i64 now] w fun e w' => e = .returned (.bool (mayB l h m now)) ∧ Below w.heap.size w w' := by
  have HN := Lib.hid (fun (W : World) (hb : Below w.heap.size w W) => trust_named ok W m la lc ga gc hm (hR.below hb))
  have HT := Lib.hid (fun (W : World) (c : Int) (hb : Below w.heap.size w W) => trust_Trusted ok W ca cc l c now (hC.below hb))
  have st := St.start w
  unfold mailV at *
  by_cases h0 : 0 ≤ h
  · obtain ⟨n, rfl⟩ := Int.eq_ofNat_of_zero_le h0
    by_cases h4 : n < 4
    · have hf : four (n : Int) = true := (four_iff _).2 ⟨by omega, by omega⟩
      have HMay := Lib.hid (show mayB l n m now = (namedL m).all fun c => trustB l c now n by unfold mayB; rw [hf]; rfl)
      have hlen : (namedL m).length ≤ 9223372036854775807 := by
        have := namedL_length m
        omega
      clear hf h0
      go_enter Try.func9, Try.ntmps9
      go_wp2_with (first
        | go_skip | (refine mem_box st (wanted_none rfl) 27 _ rfl _ rfl _ rfl ?_; clear st; intro g1 w1 hg1 st hg1b; clear hg1b; simp [Act.eval, Act.put, Value.cells, putL] at st) | ((first | refine mem_load_agg' st 27 _ rfl (wanted_none rfl) Try.isAgg27 _ Try.sizeOf27 ?_ | (refine mem_load_agg' st 27 _ rfl (wanted_some rfl ?_) Try.isAgg27 _ Try.sizeOf27 ?_; focus (simp [yielded, Act.put]; done))); refine ⟨0, _, _, _, _, _, rfl, rfl, rfl, rfl, ?_⟩)
        | (go_at_call 23; go_must (refine (HN.out _ st.below).mono ?_; rintro e v2 ⟨a2, c2, rfl, hb2, hS⟩; replace st := st.call hb2; clear hb2)))
      go_loopw [20] (fun i wr => ∃ k : Nat, k ≤ (namedL m).length ∧ i = .int .i64 k ∧ Below w.heap.size w wr ∧ SlR (fun _ => True) wr 1 RInt a2 c2 (namedL m) ∧ Hid (((namedL m).all fun c => trustB l c now n) = ((namedL m).drop k).all fun c => trustB l c now n)) (fun i _ => (namedL m).length - (intOf i).toNat)
      case atStart => exact ⟨0, Nat.zero_le _, rfl, st.below, hS, rfl⟩
      case round =>
        clear st hS
        obtain ⟨k, hk, rfl, hB, hS, hI⟩ := hrel
        by_cases hlt : k < (namedL m).length
        · obtain ⟨b, o, rfl, hb, h1⟩ := hS.int_at k hlt
          obtain ⟨a0, a1, a2, a3, hv, hf⟩ := four_of l (namedL m)[k] now
          have HV := Lib.hid hv
          have hD := drop_at hlt
          cases ht : trustB l (namedL m)[k] now n
          · have hix := index_four h4 a0 a1 a2 a3 false (by rw [hf n h4, ht])
            have HE := Lib.hid (show mayB l n m now = false by rw [HMay.out, hI.out, hD, List.all_cons, ht, Bool.false_and])
            clear hv hf hD ht
            have st := St.start wr
            go_wp2_with (first | go_skip | (go_at_call 6; go_must (refine (HT.out _ _ (hB.keep st.below)).mono ?_; rintro e v3 ⟨rfl, hb3⟩; rw [HV.out]; replace st := st.call hb3; clear hb3)))
            go_ret
            exact ⟨ret_bool HE.out.symm, hB.keep st.below⟩
          · have hix := index_four h4 a0 a1 a2 a3 true (by rw [hf n h4, ht])
            have HE := Lib.hid (show ((namedL m).all fun c => trustB l c now n) = ((namedL m).drop (k + 1)).all fun c => trustB l c now n by rw [hI.out, hD, List.all_cons, ht, Bool.true_and])
            clear hv hf hD ht
            have st := St.start wr
            go_wp2_with (first | go_skip | (go_at_call 6; go_must (refine (HT.out _ _ (hB.keep st.below)).mono ?_; rintro e v3 ⟨rfl, hb3⟩; rw [HV.out]; replace st := st.call hb3; clear hb3)))
            go_roundw
            case rel => exact ⟨k + 1, hlt, by go_num, hB.keep st.below, hS.below st.below, HE.out⟩
            case measure => simp [intOf]; omega
        · have HE := Lib.hid (show mayB l n m now = true by rw [HMay.out, hI.out, List.drop_of_length_le (by omega)]; rfl)
          go_wp2
          go_ret
          exact ⟨ret_bool HE.out.symm, hB⟩
    · have HE := Lib.hid (show mayB l n m now = false by unfold mayB; rw [show four (n : Int) = false by rw [Bool.eq_false_iff]; intro hf; have := (four_iff _).1 hf; omega]; rfl)
      have d1 : ¬ ((n : Int) < 0) := by omega
      have d2 : decide ((4 : Int) ≤ n) = true := by simp; omega
      go_enter Try.func9, Try.ntmps9
      go_wp2_with (first | go_skip | (refine mem_box st (wanted_none rfl) 27 _ rfl _ rfl _ rfl ?_; clear st; intro g1 w1 hg1 st hg1b; clear hg1b; simp [Act.eval, Act.put, Value.cells, putL] at st))
      go_ret
      exact ⟨ret_bool HE.out.symm, st.below⟩
  · have HE := Lib.hid (show mayB l h m now = false by unfold mayB; rw [show four h = false by rw [Bool.eq_false_iff]; intro hf; have := (four_iff _).1 hf; omega]; rfl)
    have d1 : decide (h < 0) = true := by simp; omega
    go_enter Try.func9, Try.ntmps9
    go_wp2_with (first | go_skip | (refine mem_box st (wanted_none rfl) 27 _ rfl _ rfl _ rfl ?_; clear st; intro g1 w1 hg1 st hg1b; clear hg1b; simp [Act.eval, Act.put, Value.cells, putL] at st))
    go_ret
    exact ⟨ret_bool HE.out.symm, st.below⟩

set_option maxRecDepth 100000 in
set_option maxHeartbeats 3000000 in
theorem trust_Show (ok : Nat → Prop) (w : World) (l : List Cert) (ca : Option Addr) (cc : Nat) (m : Mail) (la : Option Addr) (lc : Nat) (ga : Option Addr) (gc : Nat) (hm : m.grants.length * 8 ≤ 140737488351232 ∧ m.label.length * 16 ≤ 140737488351232) (hl32 : l.length * 32 ≤ 140737488355328) (hC : SlR ok w 4 RCert ca cc l) (hR : MailR ok w m la lc ga gc) :
    Calls Try.prog 13 #[.slice ca l.length cc, mailV m la lc ga gc] w fun e w' => ∃ a c, e = .returned (.slice a (showL l m).length c) ∧ Below w.heap.size w w' ∧ SlR (fun b => w.heap.size ≤ b) w' 4 RCert a c (showL l m) := by
  have HN := Lib.hid (fun (W : World) (hb : Below w.heap.size w W) => trust_named ok W m la lc ga gc hm (hR.below hb))
  obtain ⟨i0, hi, hz0, hz1, hz2⟩ := info_parts info_Cert
  have hlen : (namedL m).length ≤ 4611686018427387903 := by
    have := namedL_length m
    omega
  have st := St.start w
  unfold mailV at *
  go_enter Try.func13, Try.ntmps13
  go_wp2_with (first | go_skip | (refine mem_box st (wanted_none rfl) 27 _ rfl _ rfl _ rfl ?_; clear st; intro g1 w1 hg1 st hg1b; clear hg1b; simp [Act.eval, Act.put, Value.cells, putL] at st))
  have lg := st.ltAt (i := 0) rfl
  have hsB := st.size
  generalize hBe : w1.heap.size = B at lg hsB
  have hB0 : B ≤ w1.heap.size := by omega
  clear hBe
  go_loopw [10, 5] (fun i p wr => ∃ (k : Nat) (a : Option Addr) (c : Nat), k ≤ l.length ∧ i = .int .i64 k ∧ p = .slice a ((l.take k).filter fun x => inL (namedL m) x.c).length c ∧ St [] w wr [(g1, 27, [.int .i64 m.host, .int .i64 m.thread, .slice la m.label.length lc, .slice ga m.grants.length gc, .string m.text])] ∧ Own B 43 wr 4 RCert a c ((l.take k).filter fun x => inL (namedL m) x.c) ∧ B ≤ wr.heap.size) (fun i _ _ => l.length - (intOf i).toNat)
  case atStart => exact ⟨0, none, 0, Nat.zero_le _, rfl, rfl, st, Own.nil _ _ _ _ _, hB0⟩
  case round =>
    clear st hB0
    obtain ⟨k, a, c, hk, rfl, rfl, st, hO, hB⟩ := hrel
    by_cases hlt : k < l.length
    · obtain ⟨b, o, rfl, hb, _⟩ := hC.cert_at k hlt
      have hrow := ((hC.below st.below).cert_row k hlt)
      have hfl : ((l.take k).filter fun x => inL (namedL m) x.c).length ≤ k := Nat.le_trans (List.length_filter_le _ _) (by rw [List.length_take]; omega)
      have htk : (l.take (k + 1)).filter (fun x => inL (namedL m) x.c) = (l.take k).filter (fun x => inL (namedL m) x.c) ++ (if inL (namedL m) l[k].c = true then [l[k]] else []) := by
        rw [List.take_succ_eq_append_getElem hlt, List.filter_append]
        simp [List.filter_cons]
      generalize hout : (l.take k).filter (fun x => inL (namedL m) x.c) = out at hO hfl htk ⊢
      clear hout
      have st0 := st
      replace st := st.rebase
      cases hin : inL (namedL m) l[k].c
      all_goals
        have HI := Lib.hid hin
        rw [hin] at htk
        have HTK := Lib.hid htk
        clear hin htk
        go_wp2_with (first
          | go_skip | (refine wpList_load_cells (wanted_none rfl) 43 _ rfl Try.isAgg43 _ Try.sizeOf43 b (o + k * 4) rfl [.int .i64 l[k].c, .int .i64 l[k].by_, .int .i64 l[k].host, .int .i64 l[k].till] rfl hrow ?_)
          | (refine mem_alloc st (wanted_none rfl) 43 rfl _ Try.zeroValue43 _ rfl ?_; clear st; intro g5 w5 hg5 st hg5b; clear hg5b; simp [Act.eval, Act.put, Value.cells, putL] at st) | ((first | refine mem_store' st 43 _ _ rfl (wanted_none rfl) _ Try.sizeOf43 ?_ | (refine mem_store' st 43 _ _ rfl (wanted_some rfl ?_) _ Try.sizeOf43 ?_; focus (simp [yielded, Act.put]; done))); refine ⟨1, _, _, _, _, _, rfl, rfl, rfl, rfl, rfl, rfl, ?_⟩; clear st; intro w6 st hw6m hw6z; simp [Act.eval, Act.put, Value.cells, putL] at st))
        refine lex_still st (by kernel_rfl) 5 rfl ?_; clear st; intro hI
        refine lex_take 0 rfl (by decide +kernel) (by first | exact wanted_none rfl | exact wanted_some rfl rfl) hI (fun W hW => St.run_load_agg hW 0 27 _ rfl Try.isAgg27 _ Try.sizeOf27 rfl rfl rfl rfl) ?_; simp only [Act.put, List.setIfInBounds_toArray, List.set_cons_succ, List.set_cons_zero]
        refine lex_take 2 rfl (by decide +kernel) (by first | exact wanted_none rfl | exact wanted_some rfl rfl) hI (fun W hW => by first | (go_simp; done) | (go_simp; rfl)) ?_; simp only [Act.put, List.setIfInBounds_toArray, List.set_cons_succ, List.set_cons_zero]
        refine lex_take 3 rfl (by decide +kernel) (by first | exact wanted_none rfl | exact wanted_some rfl rfl) hI (fun W hW => St.run_load hW 1 3 _ rfl Try.isAgg3 rfl rfl rfl) ?_; simp only [Act.put, List.setIfInBounds_toArray, List.set_cons_succ, List.set_cons_zero]
        have st := hI
        refine lex_only 1 rfl (by decide +kernel) (by first | exact wanted_none rfl | exact wanted_some rfl rfl) fun K hK => ?_
        refine wp_callee (f := 23) (by first | (go_simp; done) | (go_simp; rfl)) ?_
        refine (HN.out _ (St.back st0 st).below).mono ?_
        rintro e v7 ⟨a7, c7, rfl, hb7, hS7⟩
        refine ⟨_, rfl, ?_⟩
        replace st := st.call hb7
        refine hK _ _ (st) ?_; clear hK; simp only [Act.put, List.setIfInBounds_toArray, List.set_cons_succ, List.set_cons_zero]
        have hI := st
        refine lex_only 4 rfl (by decide +kernel) (by first | exact wanted_none rfl | exact wanted_some rfl rfl) fun K hK => ?_
        refine wp_callee (f := 26) (by first | (go_simp; done) | (go_simp; rfl)) ?_
        refine (slices_Contains_int _ _ a7 c7 (namedL m) l[k].c hlen hS7).mono ?_
        rintro e v8 ⟨rfl, rfl⟩
        rw [HI.out]
        refine ⟨_, rfl, ?_⟩
        refine hK _ _ (st) ?_; clear hK; simp only [Act.put, List.setIfInBounds_toArray, List.set_cons_succ, List.set_cons_zero]
        refine lex_done (by decide +kernel) ?_
        clear hI hS7 hb7
      · go_wp2
        go_roundw
        case rel => exact ⟨k + 1, a, c, hlt, by go_num, by rw [HTK.out]; simp, St.back st0 (st.take 1), by rw [HTK.out]; simpa using hO.below (st0.below2 st (by simp)), Nat.le_trans hB st.size⟩
        case measure => simp [intOf]; omega
      · go_wp2_with (first
          | go_skip | ((first | refine mem_load_agg' st 43 _ rfl (wanted_none rfl) Try.isAgg43 _ Try.sizeOf43 ?_ | (refine mem_load_agg' st 43 _ rfl (wanted_some rfl ?_) Try.isAgg43 _ Try.sizeOf43 ?_; focus (simp [yielded, Act.put]; done))); refine ⟨1, _, _, _, _, _, rfl, rfl, rfl, rfl, ?_⟩) | ((refine wpList_build1 st (wanted_none rfl) 22 43 _ rfl Try.underlying22 4 Try.sizeOf43 (by decide) (by decide) _ Try.zeroValue43 _ rfl rfl ?_; have stw9 := st; clear st; intro g9 w9 hg9 hg9e st hw9b hw9z; simp [Act.eval, Act.put, Value.cells, putL] at st); clear hg9e)
          | (at_builtin; go_must (refine wpList_app1 (wanted_none rfl) _ _ 22 rfl 43 i0 _ 4 32 Try.underlying22 hi hz0 hz1 hz2 rfl (by decide) rfl rfl (hO.below (st0.below2 st (by simp))) rfl (SlR.ofBlk (ok := fun _ => True) (R := RCert) (x := l[k]) (st.blk _ (List.mem_of_getElem? (i := 2) rfl)) rfl rfl rfl trivial) (by omega) (by unfold maxLen; omega) (Nat.le_trans hB st.size) ?_; intro g8 c8 w8 hO8 hg8 _ _)))
        go_roundw
        case rel =>
          have hzz := st.size
          refine ⟨k + 1, some ⟨g8, 0, none⟩, c8, hlt, by go_num, by rw [HTK.out]; simp, (St.back st0 (st.take 1)).grownNew hg8 (fun q hq => Nat.le_trans hsB (hO.blockLt q hq).1) (fun x hx => ?_), by rw [HTK.out]; simpa using hO8, Nat.le_trans hB (Nat.le_trans hzz hg8.size)⟩
          simp at hx
          subst hx
          intro he
          have := (hO.blockLt _ he).1
          simp at this
          omega
        case measure => simp [intOf]; omega
    · have hkn : l.take k = l := List.take_of_length_le (by omega)
      rw [hkn] at hO ⊢
      go_wp2
      go_ret
      exact ⟨a, c, rfl, st.below, (hO.le hsB).slr fun _ h => h⟩

end Go.Proofs.Ytbngblmdcggfdaa

/- Maps that are sets of numbers, and the range over one. No program is in sight. -/
namespace Go.Proofs.Ytbngblmdcggfdaa
open Go.RowKit
open Go.Maps (Keyed IsMap)

theorem wfI {n : Int} (h : fitI n) : (Lit.int .i64 n).wf = true := by
  unfold fitI at h
  simp only [Lit.wf, decide_eq_true_eq, Bool.and_eq_true]
  exact h

section
variable {P : Program} {k e t : TypeId} {w w' : World} {b r n cnt : Nat} {l seen : List Int}

/-- Block b is a set of numbers, of at most n entries: just those of l are in it. -/
def SetB (P : Program) (k e : TypeId) (w : World) (b n : Nat) (l : List Int) : Prop :=
  ∃ D : DataW Unit, w.ownsMap P k (plainElem P e) b n D ∧ IsMap D ∧ ∀ x : Int, (Lit.int .i64 x).wf = true → Maps.has D (.int .i64 x) = inL l x ∧ D.atKey (.int .i64 x) (.lit (.bool false)) = .lit (.bool (inL l x))

theorem SetB.made (P : Program) (k e : TypeId) (w : World) : SetB P k e (w.alloc (.map #[] 0)) w.heap.size 0 [] :=
  ⟨.map [], World.ownsMap_made w P k _, Maps.isMap_empty, fun _ _ => ⟨rfl, rfl⟩⟩

theorem SetB.kept {row : Option Nat} (h : SetB P k e w b n l) (hg : w.grownBy w' row) (hne : row ≠ some b) : SetB P k e w' b n l := by
  obtain ⟨D, h1, h2⟩ := h
  exact ⟨D, h1.kept hg fun e => hne e.symm, h2⟩

theorem SetB.below (h : SetB P k e w b n l) (hb : Below w.heap.size w w') : SetB P k e w' b n l := h.kept (World.grownBy.ofBelow hb none) (by simp)

theorem SetB.lt (h : SetB P k e w b n l) : b < w.heap.size := by
  obtain ⟨D, h1, _⟩ := h
  exact h1.lt

theorem SetB.same {l' : List Int} (h : SetB P k e w b n l) (hl : ∀ x, inL l x = inL l' x) : SetB P k e w b n l' := by
  obtain ⟨D, h1, h2, h3⟩ := h
  exact ⟨D, h1, h2, fun x hx => by rw [← hl]; exact h3 x hx⟩

theorem inL_snoc (l : List Int) (x y : Int) : inL (l ++ [x]) y = if y = x then true else inL l y := by
  by_cases h : y = x
  · subst h
    rw [if_pos rfl, inL_iff]
    simp
  · rw [if_neg h, Bool.eq_iff_iff, inL_iff, inL_iff]
    simp [h]

theorem SetB.lookup (h : SetB P k e w b n l) (K : Keyed P k) (hk : P.underlying k = some (.int .i64)) (ht : P.underlying t = some (.map k e)) (he : P.underlying e = some .bool) (hz : (zeroValue e).run P w = .ok (.bool false) w) {z : Int} (hf : fitI z) :
    (Instr.lookup t (.map (some b)) (.int .i64 z) false).run P w = .ok (.bool (inL l z)) w := by
  obtain ⟨D, h1, _, h3⟩ := h
  have hkey : keyOf P k (.int .i64 z) = some (.int .i64 z) := Maps.keyOf_int_mk hk (wfI hf)
  obtain ⟨v, ps, hrun, hv⟩ := h1.lookup K ht hz (plainElem_bool he false) hkey
  rw [(h3 z (wfI hf)).2] at hv
  rw [hrun, plainElem_bool_inv he hv]

theorem SetB.update (h : SetB P k e w b n l) (K : Keyed P k) (hk : P.underlying k = some (.int .i64)) (ht : P.underlying t = some (.map k e)) (he : P.underlying e = some .bool) (hn : n < maxLen) {z : Int} (hf : fitI z) :
    ∃ w', (Instr.mapUpdate t (.map (some b)) (.int .i64 z) (.bool true)).run P w = .ok () w' ∧ SetB P k e w' b (n + 1) (l ++ [z]) ∧ w.grownBy w' (some b) := by
  obtain ⟨D, h1, h2, h3⟩ := h
  have hkey : keyOf P k (.int .i64 z) = some (.int .i64 z) := Maps.keyOf_int_mk hk (wfI hf)
  obtain ⟨w', hrun, h4, h5⟩ := h1.update K ht hn hkey (plainElem_bool he true)
  refine ⟨w', hrun, ⟨_, h4, h2.put _ _, fun x hx => ?_⟩, h5⟩
  rw [inL_snoc]
  by_cases hxz : x = z
  · subst hxz
    rw [if_pos rfl]
    exact ⟨Maps.has_put_same h2 (K.key hkey) _, Maps.atKey_put_same h2 (K.key hkey) _ _⟩
  · have hne : (Lit.int .i64 x) ≠ .int .i64 z := fun h => hxz (by injection h)
    rw [if_neg hxz]
    exact ⟨(Maps.has_put_other hne _).trans (h3 x hx).1, (Maps.atKey_put_other hne _ _).trans (h3 x hx).2⟩

/-- Block r is a range over it: those of 'seen' have come. -/
def RangeB (P : Program) (k e : TypeId) (w : World) (b r n : Nat) (l seen : List Int) (cnt : Nat) : Prop :=
  ∃ (D : DataW Unit) (left : Lit → Bool), w.ranges P k (plainElem P e) b r n D left cnt ∧ ∀ x : Int, (Lit.int .i64 x).wf = true → left (.int .i64 x) = (inL l x && !inL seen x)

theorem RangeB.left_eq (h : RangeB P k e w b r n l seen cnt) : w.rangeLeft b r = cnt := by
  obtain ⟨D, left, h1, _⟩ := h
  exact h1.left_eq

theorem RangeB.kept {row : Option Nat} (h : RangeB P k e w b r n l seen cnt) (hg : w.grownBy w' row) (hb' : some b ≠ row) (hr' : some r ≠ row) : RangeB P k e w' b r n l seen cnt := by
  obtain ⟨D, left, h1, h2⟩ := h
  exact ⟨D, left, h1.kept hg hb' hr', h2⟩

theorem RangeB.below (h : RangeB P k e w b r n l seen cnt) (hb : Below w.heap.size w w') : RangeB P k e w' b r n l seen cnt := h.kept (World.grownBy.ofBelow hb none) (by simp) (by simp)

theorem RangeB.lt (h : RangeB P k e w b r n l seen cnt) : r < w.heap.size ∧ b < w.heap.size := by
  obtain ⟨D, left, h1, _⟩ := h
  exact ⟨h1.lt, h1.owns.lt⟩

variable {ops : Array Oper} {rest : List Oper} {o : Oper} {A : Act} {Q : Exit → Act → World → Prop} {K' : Act → World → Prop}

theorem wpList_setMake (k e : TypeId) (hgd : Region.wanted o (yielded ops A.tmps) = true) (t : TypeId) (hop : o.op = Op.makeMap t none)
    (hK : ∀ b w', w.heap.size ≤ b → SetB P k e w' b 0 [] → Below w.heap.size w w' → wpList P ops Q rest (A.put o.dst (.map (some b))) w') : wpList P ops Q (o :: rest) A w := by
  refine wpList_wanted hgd fun K1 h' => ?_
  have hrun := run_makeMap (P := P) t w
  unfold Oper.wp
  simp [execOp, hop, hrun, Result.andThen]
  exact h' _ _ (hK _ _ (Nat.le_refl _) (SetB.made P k e w) ((Below.refl _ _).alloc (Nat.le_refl _) _))

theorem wpList_setUpdate (h : SetB P k e w b n l) (K : Keyed P k) (hk : P.underlying k = some (.int .i64)) (hgd : Region.wanted o (yielded ops A.tmps) = true) (m x v : Operand) (t : TypeId) (hop : o.op = Op.mapUpdate t m x v) (ht : P.underlying t = some (.map k e)) (he : P.underlying e = some .bool) (hn : n < maxLen)
    (hm : A.eval m = .map (some b)) (z : Int) (hx : A.eval x = .int .i64 z) (hf : fitI z) (hv : A.eval v = .bool true)
    (hK : ∀ w', SetB P k e w' b (n + 1) (l ++ [z]) → w.grownBy w' (some b) → wpList P ops Q rest (A.put o.dst undef) w') : wpList P ops Q (o :: rest) A w := by
  refine wpList_wanted hgd fun K1 h' => ?_
  obtain ⟨w', hrun, h1, h2⟩ := h.update K hk ht he hn hf
  unfold Oper.wp
  simp [execOp, hop, hm, hx, hv, hrun, Result.andThen]
  exact h' _ _ (hK w' h1 h2)

theorem wp_setLookup (h : SetB P k e w b n l) (K : Keyed P k) (hk : P.underlying k = some (.int .i64)) (m x : Operand) (t : TypeId) (hop : o.op = Op.lookup t m x false) (ht : P.underlying t = some (.map k e)) (he : P.underlying e = some .bool) (hz : ∀ w, (zeroValue e).run P w = .ok (.bool false) w)
    (hm : A.eval m = .map (some b)) (z : Int) (hx : A.eval x = .int .i64 z) (hf : fitI z) (hK : K' (A.put o.dst (.bool (inL l z))) w) : Oper.wp P o A w K' Q := by
  have hrun := h.lookup K hk ht he (hz w) hf
  unfold Oper.wp
  simp [execOp, hop, hm, hx, hrun, Result.andThen]
  exact hK

theorem wpList_setRange (h : SetB P k e w b n l) (K : Keyed P k) (hgd : o.guard = none) (m : Operand) (t : TypeId) (hop : o.op = Op.range t m) (ht : P.underlying t = some (.map k e)) (hm : A.eval m = .map (some b))
    (hK : ∀ r w' cnt, w.heap.size ≤ r → RangeB P k e w' b r n l [] cnt → Below w.heap.size w w' → wpList P ops Q rest (A.put o.dst (.pointer (some ⟨r, 0, none⟩))) w') : wpList P ops Q (o :: rest) A w := by
  obtain ⟨D, h1, h2, h3⟩ := h
  refine wpList_range_own w hgd m t hop k e K ht (plainElem P e) b n D hm h1 fun w' r1 r2 r3 => ?_
  refine hK _ w' _ (Nat.le_refl _) ⟨D, _, r1, fun x hx => ?_⟩ ⟨r2.os, r2.tape, r2.output, r2.size, fun q hq => r2.block q hq (by simp)⟩
  rw [(h3 x hx).1]
  simp [inL]

theorem wpList_setNext (h : RangeB P k e w b r n l seen cnt) (K : Keyed P k) (hk : P.underlying k = some (.int .i64)) (he : P.underlying e = some .bool) (hgd : o.guard = none) (it : Operand) (hop : o.op = Op.next it false) (hit : A.eval it = .pointer (some ⟨r, 0, none⟩))
    (hDone : Hid (∀ x : Int, fitI x → inL l x = true → inL seen x = true) → wpList P ops Q rest (A.put o.dst (.tuple #[.bool false])) w)
    (hMore : ∀ (x : Int) (c : Bool) (w' : World) (cnt' : Nat), fitI x → inL l x = true → RangeB P k e w' b r n l (seen ++ [x]) cnt' → cnt' < cnt → w.grownBy w' (some r) → w'.heap.size = w.heap.size →
      (Instr.entry (.pointer (some ⟨r, 0, none⟩))).run P w' = .ok (.tuple #[.int .i64 x, .bool c]) w' → wpList P ops Q rest (A.put o.dst (.tuple #[.bool true, .int .i64 x, .bool c])) w') : wpList P ops Q (o :: rest) A w := by
  obtain ⟨D, left, h1, h2⟩ := h
  refine wpList_next_ranges w hgd it hop k K (plainElem P e) (Value.int .i64) Value.bool (fun key kl hkey => by obtain ⟨x, rfl, _⟩ := Maps.keyOf_int_inv hk hkey; exact ⟨x, rfl⟩)
    (fun v y hv => by
      unfold plainElem at hv
      rw [he] at hv
      cases v <;> simp at hv
      exact ⟨_, rfl⟩) b r n D left cnt hit h1 (fun h0 hl => hDone (Lib.hid fun x hx hin => ?_)) (fun x c kl y w' cnt' hkey hlk hv hat hrg hlt hgr hsz hen => ?_)
  · have := h2 x (wfI hx)
    rw [hl, hin] at this
    cases hs : inL seen x
    · rw [hs] at this; simp at this
    · rfl
  · obtain ⟨x', ex, rfl, hwx⟩ := Maps.keyOf_int_inv hk hkey
    cases ex
    have hfx : fitI x := by
      simp only [Lit.wf, decide_eq_true_eq, Bool.and_eq_true] at hwx
      exact hwx
    have h3 := h2 x hwx
    rw [hlk] at h3
    have h4 : inL l x = true := by
      cases hl : inL l x
      · rw [hl] at h3; simp at h3
      · rfl
    refine hMore x c w' cnt' hfx h4 ⟨D, _, hrg, fun z hz => ?_⟩ hlt hgr hsz hen
    rw [inL_snoc, h2 z hz]
    by_cases hzx : z = x
    · subst hzx
      rw [if_pos rfl, WideAt.sameKey_self (K.key hkey)]
      simp
    · have hne : (Lit.int .i64 z) ≠ .int .i64 x := fun h => hzx (by injection h)
      rw [if_neg hzx, Maps.sameKey_ne hne]
      simp

end
end Go.Proofs.Ytbngblmdcggfdaa

/- The walks through parcloseref.names, in, At. -/
namespace Go.Proofs.Ytbngblmdcggfdaa
open Go.RowKit
open Go.Maps (Keyed IsMap int_keyed)

/-- A label among labels. -/
def RLabel (ok : Nat → Prop) (w : World) (cs : List Value) (x : List Lev) : Prop := ∃ la lc, cs = [.slice la x.length lc] ∧ SlR ok w 2 RLev la lc x

theorem RLabel.keep {ok : Nat → Prop} {w w' : World} (hk : Keeps ok w w') {cs : List Value} {x : List Lev} (h : RLabel ok w cs x) : RLabel ok w' cs x := by
  obtain ⟨la, lc, e, h1⟩ := h
  exact ⟨la, lc, e, h1.keep hk⟩

abbrev LabelsR (ok : Nat → Prop) (w : World) (a : Option Addr) (c : Nat) (ls : List (List Lev)) : Prop := SlR ok w 1 (RLabel ok w) a c ls

theorem LabelsR.below {ok : Nat → Prop} {w w' : World} {a : Option Addr} {c : Nat} {ls : List (List Lev)} (h : LabelsR ok w a c ls) (hb : Below w.heap.size w w') : LabelsR ok w' a c ls := h.mono (.of_below hb) fun _ _ => RLabel.keep (.of_below hb)

def namesL (ls : List (List Lev)) : List Int := ls.flatMap fun x => x.map (·.c)

theorem namesL_take {ls : List (List Lev)} {k : Nat} (h : k < ls.length) : namesL (ls.take (k + 1)) = namesL (ls.take k) ++ (ls[k].map (·.c)) := by
  unfold namesL
  rw [List.take_succ_eq_append_getElem h, List.flatMap_append]
  simp

set_option maxRecDepth 100000 in
set_option maxHeartbeats 3000000 in
theorem ref_names (ok : Nat → Prop) (w : World) (a : Option Addr) (c : Nat) (ls : List (List Lev)) (hfit : ∀ x ∈ ls, ∀ y ∈ x, fitI y.c) (hn : (namesL ls).length < maxLen) (hR : LabelsR ok w a c ls) :
    Calls Try.prog 33 #[.slice a ls.length c] w fun e w' => ∃ b, e = .returned (.map (some b)) ∧ w.heap.size ≤ b ∧ Below w.heap.size w w' ∧ SetB Try.prog 3 4 w' b (namesL ls).length (namesL ls) := by
  have hl : ls.length ≤ 9223372036854775807 := by have h1 := hR.1; have h2 := hR.2.1; unfold maxLen at h2; omega
  have HF := Lib.hid hfit
  clear hfit
  go_enter Try.func33, Try.ntmps33
  go_wp2_with (first | go_skip | (refine wpList_setMake 3 4 (wanted_none rfl) _ rfl ?_; intro bm w1 hbm hM hb1))
  go_loopw [11] (fun i wr => ∃ k : Nat, k ≤ ls.length ∧ i = .int .i64 k ∧ Below w.heap.size w wr ∧ SetB Try.prog 3 4 wr bm (namesL (ls.take k)).length (namesL (ls.take k))) (fun i _ => ls.length - (intOf i).toNat)
  case atStart => exact ⟨0, Nat.zero_le _, rfl, hb1, hM⟩
  case round =>
    clear hM hb1
    obtain ⟨k, hk, rfl, hB, hM⟩ := hrel
    by_cases hlt : k < ls.length
    · obtain ⟨b, o, cs, rfl, _, hb, ⟨la, lc, rfl, hL⟩, _, _, hc⟩ := hR.2.2.2 k ls[k] (by simp [hlt])
      have h1 : wr.cell? ⟨b, o + k, none⟩ = some (.slice la ls[k].length lc) := (hB.cell (p := ⟨b, o + k, none⟩) hb).trans (by simpa using hc 0 _ rfl)
      have hll : ls[k].length ≤ 9223372036854775807 := by have h1 := hL.1; have h2 := hL.2.1; unfold maxLen at h2; omega
      have HT := Lib.hid (namesL_take hlt)
      have HFk := Lib.hid (HF.out ls[k] (List.getElem_mem hlt))
      have hnk : (namesL (ls.take k)).length + ls[k].length ≤ (namesL ls).length := by
        have e : namesL ls = namesL (ls.take (k + 1)) ++ namesL (ls.drop (k + 1)) := by
          unfold namesL
          rw [← List.flatMap_append, List.take_append_drop]
        rw [e, HT.out]
        simp
      generalize namesL (ls.take k) = done at hM hnk HT
      generalize hx : ls[k] = x at hL h1 hll HFk hnk HT
      clear hx hc
      go_wp2
      go_loopw [17] (fun i wj => ∃ j : Nat, j ≤ x.length ∧ i = .int .i64 j ∧ Below w.heap.size w wj ∧ SetB Try.prog 3 4 wj bm (done.length + j) (done ++ (x.map (·.c)).take j)) (fun i _ => x.length - (intOf i).toNat)
      case atStart => exact ⟨0, Nat.zero_le _, rfl, hB, by simpa using hM⟩
      case round =>
        clear hM
        obtain ⟨j, hj, rfl, hBj, hM⟩ := hrel
        by_cases hlj : j < x.length
        · obtain ⟨b2, o2, rfl, hb2, h21, h22⟩ := (hL.below hBj).lev_at j hlj
          have hrow : ∀ (q : Nat) (v : Value), [Value.int .i64 x[j].c, .int .i64 x[j].l][q]? = some v → wr.cell? ⟨b2, o2 + j * 2 + q, none⟩ = some v := fun q v hq => by
            rcases q with _ | _ | q
            · simp at hq; subst hq; exact h21
            · simp at hq; subst hq; exact h22
            · simp at hq
          have hfj := HFk.out x[j] (List.getElem_mem hlj)
          have htk : (x.map (·.c)).take (j + 1) = (x.map (·.c)).take j ++ [x[j].c] := by
            rw [List.take_succ_eq_append_getElem (by simpa using hlj)]; simp
          have HTK := Lib.hid htk
          have hmm : done.length + j < maxLen := by omega
          clear htk h21 h22
          have st := St.start wr
          go_wp2_with (first
            | go_skip | (refine wpList_load_cells (wanted_none rfl) 53 _ rfl Try.isAgg53 _ Try.sizeOf53 b2 (o2 + j * 2) rfl [.int .i64 x[j].c, .int .i64 x[j].l] rfl hrow ?_)
            | (refine mem_alloc st (wanted_none rfl) 53 rfl _ Try.zeroValue53 _ rfl ?_; clear st; intro g5 w5 hg5 st hg5b; clear hg5b; simp [Act.eval, Act.put, Value.cells, putL] at st) | ((first | refine mem_store' st 53 _ _ rfl (wanted_none rfl) _ Try.sizeOf53 ?_ | (refine mem_store' st 53 _ _ rfl (wanted_some rfl ?_) _ Try.sizeOf53 ?_; focus (simp [yielded, Act.put]; done))); refine ⟨0, _, _, _, _, _, rfl, rfl, rfl, rfl, rfl, rfl, ?_⟩; clear st; intro w6 st hw6m hw6z; simp [Act.eval, Act.put, Value.cells, putL] at st) | ((first | refine mem_load' st 3 _ rfl (wanted_none rfl) Try.isAgg3 ?_ | (refine mem_load' st 3 _ rfl (wanted_some rfl ?_) Try.isAgg3 ?_; focus (simp [yielded, Act.put]; done))); refine ⟨0, _, _, _, _, _, rfl, rfl, rfl, ?_⟩)
            | (at_mapUpdate; go_must (refine wpList_setUpdate (hM.below st.below) (int_keyed Try.underlying3) Try.underlying3 (wanted_none rfl) _ _ _ 45 rfl Try.underlying45 Try.underlying4 hmm rfl _ rfl hfj rfl ?_; intro w7 hM7 hg7)))
          go_roundw
          case rel =>
            have hbz := hM.lt
            refine ⟨j + 1, hlj, by go_num, (hBj.keep st.below).grown hg7 (Nat.le_trans hBj.size st.size) fun q hq => by simp at hq; omega, by rw [HTK.out, ← List.append_assoc]; exact hM7⟩
          case measure => simp [intOf]; omega
        · have hjx : j = x.length := by omega
          subst hjx
          have e : (x.map (·.c)).take x.length = x.map (·.c) := List.take_of_length_le (by simp)
          rw [e] at hM
          go_wp2
          go_roundw
          case rel => exact ⟨k + 1, hlt, by go_num, hBj, by rw [HT.out]; simpa using hM⟩
          case measure => simp [intOf]; omega
    · have e : ls.take k = ls := List.take_of_length_le (by omega)
      rw [e] at hM
      go_wp2
      go_ret
      exact ⟨bm, rfl, hbm, hB, hM⟩

end Go.Proofs.Ytbngblmdcggfdaa

/- The walks through parcloseref.namesOf, May and Show. -/
namespace Go.Proofs.Ytbngblmdcggfdaa
open Go.RowKit
open Go.Maps (Keyed IsMap int_keyed)

theorem labels1 {w : World} {g : Nat} {T : TypeId} {a : List Lev} {la : Option Addr} {ca : Nat} (h : w.heap[g]? = some (.cells [Value.slice la a.length ca].toArray T (0, 0))) {ok : Nat → Prop} (hA : SlR ok w 2 RLev la ca a) : LabelsR (fun _ => True) w (some ⟨g, 0, none⟩) 1 [a] :=
  SlR.ofBlk (R := RLabel (fun _ => True) w) h ⟨la, ca, rfl, hA.okay fun _ _ => trivial⟩ rfl rfl trivial

def namesM (m : Mail) : List Int := catsOf m.label ++ m.grants

theorem namesM_mem (m : Mail) (x : Int) : inL (namesM m) x = inL (namedL m) x := by
  rw [Bool.eq_iff_iff, inL_iff, inL_iff, namedL_mem, namesM, List.mem_append]
  simp [catsOf]
  exact or_comm

set_option maxRecDepth 100000 in
set_option maxHeartbeats 3000000 in
theorem ref_namesOf (ok : Nat → Prop) (w : World) (m : Mail) (la : Option Addr) (lc : Nat) (ga : Option Addr) (gc : Nat) (hfa : ∀ y ∈ m.label, fitI y.c) (hfg : ∀ y ∈ m.grants, fitI y) (hm : m.grants.length * 8 ≤ 140737488351232 ∧ m.label.length * 16 ≤ 140737488351232) (hR : MailR ok w m la lc ga gc) :
    Calls Try.prog 25 #[mailV m la lc ga gc] w fun e w' => ∃ b, e = .returned (.map (some b)) ∧ w.heap.size ≤ b ∧ Below w.heap.size w w' ∧ SetB Try.prog 3 4 w' b (namesM m).length (namesM m) := by
  obtain ⟨hL, hG⟩ := hR
  have hn1 : (namesL [m.label]).length = m.label.length := by simp [namesL]
  have HNm := Lib.hid (fun (W : World) (g : Nat) (h : LabelsR (fun _ => True) W (some ⟨g, 0, none⟩) 1 [m.label]) => ref_names (fun _ => True) W (some ⟨g, 0, none⟩) 1 [m.label] (fun x hx y hy => by
    simp at hx; subst hx; exact hfa y hy) (by rw [hn1]; unfold maxLen; omega) h)
  have HN1 := Lib.hid (show namesL [m.label] = catsOf m.label by simp [namesL, catsOf])
  have HC1 := Lib.hid (show (catsOf m.label).length = m.label.length by simp [catsOf])
  have HF := Lib.hid hfg
  have st := St.start w
  clear hfa hfg hn1
  unfold mailV
  go_enter Try.func25, Try.ntmps25
  go_wp2_with (first
    | go_skip | (refine mem_box st (wanted_none rfl) 27 _ rfl _ rfl _ rfl ?_; clear st; intro g1 w1 hg1 st hg1b; clear hg1b; simp [Act.eval, Act.put, Value.cells, putL] at st) | ((first | refine mem_load' st 24 _ rfl (wanted_none rfl) Try.isAgg24 ?_ | (refine mem_load' st 24 _ rfl (wanted_some rfl ?_) Try.isAgg24 ?_; focus (simp [yielded, Act.put]; done))); refine ⟨0, _, _, _, _, _, rfl, rfl, rfl, ?_⟩) | ((first | refine mem_load' st 25 _ rfl (wanted_none rfl) Try.isAgg25 ?_ | (refine mem_load' st 25 _ rfl (wanted_some rfl ?_) Try.isAgg25 ?_; focus (simp [yielded, Act.put]; done))); refine ⟨0, _, _, _, _, _, rfl, rfl, rfl, ?_⟩) | ((refine wpList_build1 st (wanted_none rfl) 61 24 _ rfl Try.underlying61 1 Try.sizeOf24 (by decide) (by decide) _ Try.zeroValue24 _ rfl rfl ?_; have stw2 := st; clear st; intro g2 w2 hg2 hg2e st hw2b hw2z; simp [Act.eval, Act.put, Value.cells, putL] at st); clear hg2e)
    | (go_at_call 33; go_must (refine (HNm.out _ g2 (labels1 (st.blk _ (List.mem_of_getElem? (i := 1) rfl)) (hL.below st.below))).mono ?_; rintro e v2 ⟨bm, rfl, hbm, hb2, hM⟩; have hs2 := st.size; replace st := st.call hb2; clear hb2)))
  rw [HN1.out, HC1.out] at hM
  have hB0 := st.below
  have hbw : w.heap.size ≤ bm := by omega
  clear st hbm hs2
  go_loopw [13] (fun i wr => ∃ k : Nat, k ≤ m.grants.length ∧ i = .int .i64 k ∧ Below w.heap.size w wr ∧ SetB Try.prog 3 4 wr bm (m.label.length + k) (catsOf m.label ++ m.grants.take k)) (fun i _ => m.grants.length - (intOf i).toNat)
  case atStart => exact ⟨0, Nat.zero_le _, rfl, hB0, by simpa using hM⟩
  case round =>
    clear hM hB0
    obtain ⟨k, hk, rfl, hB, hM⟩ := hrel
    by_cases hlt : k < m.grants.length
    · obtain ⟨b, o, rfl, hb, h1⟩ := (hG.below hB).int_at k hlt
      have hfk := HF.out _ (List.getElem_mem hlt)
      have HT := Lib.hid (show m.grants.take (k + 1) = m.grants.take k ++ [m.grants[k]] by rw [List.take_succ_eq_append_getElem hlt])
      have hmm : m.label.length + k < maxLen := by unfold maxLen; omega
      go_wp2_with (first
        | go_skip
        | (at_mapUpdate; go_must (refine wpList_setUpdate hM (int_keyed Try.underlying3) Try.underlying3 (wanted_none rfl) _ _ _ 45 rfl Try.underlying45 Try.underlying4 hmm rfl _ rfl hfk rfl ?_; intro w7 hM7 hg7)))
      go_roundw
      case rel => exact ⟨k + 1, hlt, by go_num, hB.grown hg7 hB.size fun q hq => by simp at hq; omega, by rw [HT.out, ← List.append_assoc]; exact hM7⟩
      case measure => simp [intOf]; omega
    · have e : m.grants.take k = m.grants := List.take_of_length_le (by omega)
      have ek : k = m.grants.length := by omega
      rw [e] at hM
      subst ek
      have HL := Lib.hid (show (namesM m).length = m.label.length + m.grants.length by simp [namesM, catsOf])
      clear e
      go_wp2
      go_ret
      exact ⟨bm, rfl, hbw, hB, by rw [HL.out]; exact hM⟩

theorem mayB_iff {l : List Cert} {n : Nat} {m : Mail} {now : Int} (h : n < 4) : mayB l n m now = true ↔ ∀ x ∈ namedL m, trustB l x now n = true := by
  unfold mayB
  rw [show four (n : Int) = true from (four_iff _).2 ⟨by omega, by omega⟩, Bool.true_and, List.all_eq_true]

set_option maxRecDepth 100000 in
set_option maxHeartbeats 3000000 in
theorem ref_May (ok : Nat → Prop) (w : World) (l : List Cert) (ca : Option Addr) (cc : Nat) (h : Int) (m : Mail) (la : Option Addr) (lc : Nat) (ga : Option Addr) (gc : Nat) (now : Int) (hfit : ∀ x ∈ l, x.fit) (hfa : ∀ y ∈ m.label, fitI y.c) (hfg : ∀ y ∈ m.grants, fitI y) (hm : m.grants.length * 8 ≤ 140737488351232 ∧ m.label.length * 16 ≤ 140737488351232) (hC : SlR ok w 4 RCert ca cc l) (hR : MailR ok w m la lc ga gc) :
    Calls Try.prog 11 #[.slice ca l.length cc, .int .i64 h, mailV m la lc ga gc, .int .i64 now] w fun e w' => e = .returned (.bool (mayB l h m now)) ∧ Below w.heap.size w w' := by
  have HN := Lib.hid (fun (W : World) (hb : Below w.heap.size w W) => ref_namesOf ok W m la lc ga gc hfa hfg hm (hR.below hb))
  have HT := Lib.hid (fun (W : World) (c : Int) (hb : Below w.heap.size w W) => ref_Trusted ok W ca cc l c now hfit (hC.below hb))
  have st := St.start w
  have HFit := Lib.hid (show ∀ x ∈ namedL m, fitI x from fun x hx => by
    rcases namedL_mem.1 hx with h | ⟨y, hy, rfl⟩
    · exact hfg x h
    · exact hfa y hy)
  have HMem := Lib.hid (namesM_mem m)
  clear hfit hfa hfg
  unfold mailV at *
  cases h4 : four h
  · have H4 := Lib.hid h4
    have HE := Lib.hid (show mayB l h m now = false by unfold mayB; rw [h4]; rfl)
    clear h4
    go_enter Try.func11, Try.ntmps11
    go_wp2_with (first | go_skip | (refine mem_box st (wanted_none rfl) 27 _ rfl _ rfl _ rfl ?_; clear st; intro g1 w1 hg1 st hg1b; clear hg1b; simp [Act.eval, Act.put, Value.cells, putL] at st) | (go_at_call 24; go_must (refine (ref_four _ _).mono ?_; rintro e v ⟨rfl, rfl⟩; rw [H4.out])))
    go_ret
    exact ⟨ret_bool HE.out.symm, st.below⟩
  · have H4 := Lib.hid h4
    have hr := (four_iff h).1 h4
    obtain ⟨n, rfl⟩ := Int.eq_ofNat_of_zero_le hr.1
    have hn4 : n < 4 := by omega
    have HMay := Lib.hid (mayB_iff (l := l) (m := m) (now := now) hn4)
    clear h4 hr
    go_enter Try.func11, Try.ntmps11
    go_wp2_with (first
      | go_skip | (refine mem_box st (wanted_none rfl) 27 _ rfl _ rfl _ rfl ?_; clear st; intro g1 w1 hg1 st hg1b; clear hg1b; simp [Act.eval, Act.put, Value.cells, putL] at st) | ((first | refine mem_load_agg' st 27 _ rfl (wanted_none rfl) Try.isAgg27 _ Try.sizeOf27 ?_ | (refine mem_load_agg' st 27 _ rfl (wanted_some rfl ?_) Try.isAgg27 _ Try.sizeOf27 ?_; focus (simp [yielded, Act.put]; done))); refine ⟨0, _, _, _, _, _, rfl, rfl, rfl, rfl, ?_⟩) | (go_at_call 24; go_must (refine (ref_four _ _).mono ?_; rintro e v ⟨rfl, rfl⟩; rw [H4.out]))
      | (go_at_call 25; go_must (refine (HN.out _ st.below).mono ?_; rintro e v2 ⟨bm, rfl, hbm, hb2, hM⟩; have hs2 := st.size; replace st := st.call hb2; clear hb2))
      | (at_range; go_must (refine wpList_setRange hM (int_keyed Try.underlying3) rfl _ 45 rfl Try.underlying45 rfl ?_; intro r w3 cnt0 hr0 hrg hb3; have hs3 := st.size; replace st := st.call hb3; clear hb3)))
    go_frame
    have hbw : w.heap.size ≤ r := Nat.le_trans hs3 hr0
    have hB0 := st.below
    clear st hM hbm hr0 hs3 hs2
    go_loopw [9] (fun _ wr => ∃ seen cnt, RangeB Try.prog 3 4 wr bm r (namesM m).length (namesM m) seen cnt ∧ Below w.heap.size w wr ∧ Hid (∀ x ∈ seen, trustB l x now n = true)) (fun _ wr => wr.rangeLeft bm r)
    case atStart => exact ⟨[], _, hrg, hB0, fun x hx => by simp at hx⟩
    case round =>
      clear hrg hB0
      obtain ⟨seen, cnt, hrg, hB, hI⟩ := hrel
      have hm0 := hrg.left_eq
      go_wp2_with (first | go_skip | (at_next; refine wpList_setNext hrg (int_keyed Try.underlying3) Try.underlying3 Try.underlying4 rfl _ rfl rfl (fun hD => ?_) (fun x c w4 cnt4 hfx hx hrg4 hcnt hg4 hz4 hen => ?_)))
      · have HE := Lib.hid (show mayB l n m now = true from HMay.out.2 fun x hx => hI.out x ((inL_iff _ _).1 (hD.out x (HFit.out x hx) (by rw [HMem.out, inL_iff]; exact hx))))
        go_ret
        exact ⟨ret_bool HE.out.symm, hB⟩
      · have hB4 : Below w.heap.size w w4 := hB.grown hg4 hB.size fun q hq => by simp at hq; omega
        have hxe : x ∈ namedL m := by rw [HMem.out, inL_iff] at hx; exact hx
        have st := St.start w4
        obtain ⟨a0, a1, a2, a3, hv, hf⟩ := four_of l x now
        have HV := Lib.hid hv
        clear hrg hx hg4
        cases ht : trustB l x now n
        · have hix := index_four hn4 a0 a1 a2 a3 false (by rw [hf n hn4, ht])
          have HE := Lib.hid (show mayB l n m now = false by
            rw [Bool.eq_false_iff]
            intro h
            have := HMay.out.1 h x hxe
            rw [ht] at this
            cases this)
          clear hv hf ht
          go_wp2_with (first | go_skip | (go_at_call 8; go_must (refine (HT.out _ _ (hB4.keep st.below)).mono ?_; rintro e v3 ⟨rfl, hb3⟩; rw [HV.out]; replace st := st.call hb3; clear hb3)))
          go_ret
          exact ⟨ret_bool HE.out.symm, hB4.keep st.below⟩
        · have hix := index_four hn4 a0 a1 a2 a3 true (by rw [hf n hn4, ht])
          have HE := Lib.hid (show ∀ y ∈ seen ++ [x], trustB l y now n = true from fun y hy => by
            rcases List.mem_append.1 hy with hy | hy
            · exact hI.out y hy
            · simp at hy; subst hy; exact ht)
          clear hv hf ht
          go_wp2_with (first | go_skip | (go_at_call 8; go_must (refine (HT.out _ _ (hB4.keep st.below)).mono ?_; rintro e v3 ⟨rfl, hb3⟩; rw [HV.out]; replace st := st.call hb3; clear hb3)))
          go_roundw
          case rel => exact ⟨_, _, hrg4.below st.below, hB4.keep st.below, HE⟩
          case measure => rw [(hrg4.below st.below).left_eq, hm0]; exact hcnt

set_option maxRecDepth 100000 in
set_option maxHeartbeats 3000000 in
theorem ref_Show (ok : Nat → Prop) (w : World) (l : List Cert) (ca : Option Addr) (cc : Nat) (m : Mail) (la : Option Addr) (lc : Nat) (ga : Option Addr) (gc : Nat) (hm : m.grants.length * 8 ≤ 140737488351232 ∧ m.label.length * 16 ≤ 140737488351232) (hfa : ∀ y ∈ m.label, fitI y.c) (hfg : ∀ y ∈ m.grants, fitI y) (hfit : ∀ x ∈ l, x.fit) (hl32 : l.length * 32 ≤ 140737488355328) (hC : SlR ok w 4 RCert ca cc l) (hR : MailR ok w m la lc ga gc) :
    Calls Try.prog 14 #[.slice ca l.length cc, mailV m la lc ga gc] w fun e w' => ∃ a c, e = .returned (.slice a (showL l m).length c) ∧ Below w.heap.size w w' ∧ SlR (fun b => w.heap.size ≤ b) w' 4 RCert a c (showL l m) := by
  have HN := Lib.hid (fun (W : World) (hb : Below w.heap.size w W) => ref_namesOf ok W m la lc ga gc hfa hfg hm (hR.below hb))
  have HMem := Lib.hid (namesM_mem m)
  have HFit := Lib.hid (fun k (hk : k < l.length) => (hfit l[k] (List.getElem_mem hk)).1)
  clear hfa hfg hfit
  obtain ⟨i0, hi, hz0, hz1, hz2⟩ := info_parts info_Cert
  have hlen : (namedL m).length ≤ 4611686018427387903 := by
    have := namedL_length m
    omega
  have st := St.start w
  unfold mailV at *
  go_enter Try.func14, Try.ntmps14
  go_wp2_with (first | go_skip | (refine mem_box st (wanted_none rfl) 27 _ rfl _ rfl _ rfl ?_; clear st; intro g1 w1 hg1 st hg1b; clear hg1b; simp [Act.eval, Act.put, Value.cells, putL] at st))
  have lg := st.ltAt (i := 0) rfl
  have hsB := st.size
  generalize hBe : w1.heap.size = B at lg hsB
  have hB0 : B ≤ w1.heap.size := by omega
  clear hBe
  go_loopw [10, 5] (fun i p wr => ∃ (k : Nat) (a : Option Addr) (c : Nat), k ≤ l.length ∧ i = .int .i64 k ∧ p = .slice a ((l.take k).filter fun x => inL (namedL m) x.c).length c ∧ St [] w wr [(g1, 27, [.int .i64 m.host, .int .i64 m.thread, .slice la m.label.length lc, .slice ga m.grants.length gc, .string m.text])] ∧ Own B 43 wr 4 RCert a c ((l.take k).filter fun x => inL (namedL m) x.c) ∧ B ≤ wr.heap.size) (fun i _ _ => l.length - (intOf i).toNat)
  case atStart => exact ⟨0, none, 0, Nat.zero_le _, rfl, rfl, st, Own.nil _ _ _ _ _, hB0⟩
  case round =>
    clear st hB0
    obtain ⟨k, a, c, hk, rfl, rfl, st, hO, hB⟩ := hrel
    by_cases hlt : k < l.length
    · obtain ⟨b, o, rfl, hb, _⟩ := hC.cert_at k hlt
      have hrow := ((hC.below st.below).cert_row k hlt)
      have hfl : ((l.take k).filter fun x => inL (namedL m) x.c).length ≤ k := Nat.le_trans (List.length_filter_le _ _) (by rw [List.length_take]; omega)
      have htk : (l.take (k + 1)).filter (fun x => inL (namedL m) x.c) = (l.take k).filter (fun x => inL (namedL m) x.c) ++ (if inL (namedL m) l[k].c = true then [l[k]] else []) := by
        rw [List.take_succ_eq_append_getElem hlt, List.filter_append]
        simp [List.filter_cons]
      generalize hout : (l.take k).filter (fun x => inL (namedL m) x.c) = out at hO hfl htk ⊢
      clear hout
      have st0 := st
      replace st := st.rebase
      cases hin : inL (namedL m) l[k].c
      all_goals
        have HI := Lib.hid hin
        rw [hin] at htk
        have HTK := Lib.hid htk
        clear hin htk
        go_wp2_with (first
          | go_skip | (refine wpList_load_cells (wanted_none rfl) 43 _ rfl Try.isAgg43 _ Try.sizeOf43 b (o + k * 4) rfl [.int .i64 l[k].c, .int .i64 l[k].by_, .int .i64 l[k].host, .int .i64 l[k].till] rfl hrow ?_)
          | (refine mem_alloc st (wanted_none rfl) 43 rfl _ Try.zeroValue43 _ rfl ?_; clear st; intro g5 w5 hg5 st hg5b; clear hg5b; simp [Act.eval, Act.put, Value.cells, putL] at st) | ((first | refine mem_store' st 43 _ _ rfl (wanted_none rfl) _ Try.sizeOf43 ?_ | (refine mem_store' st 43 _ _ rfl (wanted_some rfl ?_) _ Try.sizeOf43 ?_; focus (simp [yielded, Act.put]; done))); refine ⟨1, _, _, _, _, _, rfl, rfl, rfl, rfl, rfl, rfl, ?_⟩; clear st; intro w6 st hw6m hw6z; simp [Act.eval, Act.put, Value.cells, putL] at st))
        refine lex_still st (by kernel_rfl) 5 rfl ?_; clear st; intro hI
        refine lex_take 0 rfl (by decide +kernel) (by first | exact wanted_none rfl | exact wanted_some rfl rfl) hI (fun W hW => St.run_load_agg hW 0 27 _ rfl Try.isAgg27 _ Try.sizeOf27 rfl rfl rfl rfl) ?_; simp only [Act.put, List.setIfInBounds_toArray, List.set_cons_succ, List.set_cons_zero]
        refine lex_take 2 rfl (by decide +kernel) (by first | exact wanted_none rfl | exact wanted_some rfl rfl) hI (fun W hW => by first | (go_simp; done) | (go_simp; rfl)) ?_; simp only [Act.put, List.setIfInBounds_toArray, List.set_cons_succ, List.set_cons_zero]
        refine lex_take 3 rfl (by decide +kernel) (by first | exact wanted_none rfl | exact wanted_some rfl rfl) hI (fun W hW => St.run_load hW 1 3 _ rfl Try.isAgg3 rfl rfl rfl) ?_; simp only [Act.put, List.setIfInBounds_toArray, List.set_cons_succ, List.set_cons_zero]
        have st := hI
        refine lex_only 1 rfl (by decide +kernel) (by first | exact wanted_none rfl | exact wanted_some rfl rfl) fun K hK => ?_
        refine wp_callee (f := 25) (by first | (go_simp; done) | (go_simp; rfl)) ?_
        refine (HN.out _ (St.back st0 st).below).mono ?_
        rintro e v7 ⟨b7, rfl, hbm7, hb7, hM7⟩
        refine ⟨_, rfl, ?_⟩
        replace st := st.call hb7
        refine hK _ _ (st) ?_; clear hK; simp only [Act.put, List.setIfInBounds_toArray, List.set_cons_succ, List.set_cons_zero]
        have hI := st
        refine lex_only 4 rfl (by decide +kernel) (by first | exact wanted_none rfl | exact wanted_some rfl rfl) fun K hK => ?_
        refine wp_setLookup hM7 (int_keyed Try.underlying3) Try.underlying3 _ _ 45 rfl Try.underlying45 Try.underlying4 Try.zeroValue4 rfl l[k].c rfl (HFit.out k hlt) ?_
        rw [HMem.out, HI.out]
        refine hK _ _ (st) ?_; clear hK; simp only [Act.put, List.setIfInBounds_toArray, List.set_cons_succ, List.set_cons_zero]
        refine lex_done (by decide +kernel) ?_
        clear hI hM7 hb7 hbm7
      · go_wp2
        go_roundw
        case rel => exact ⟨k + 1, a, c, hlt, by go_num, by rw [HTK.out]; simp, St.back st0 (st.take 1), by rw [HTK.out]; simpa using hO.below (st0.below2 st (by simp)), Nat.le_trans hB st.size⟩
        case measure => simp [intOf]; omega
      · go_wp2_with (first
          | go_skip | ((first | refine mem_load_agg' st 43 _ rfl (wanted_none rfl) Try.isAgg43 _ Try.sizeOf43 ?_ | (refine mem_load_agg' st 43 _ rfl (wanted_some rfl ?_) Try.isAgg43 _ Try.sizeOf43 ?_; focus (simp [yielded, Act.put]; done))); refine ⟨1, _, _, _, _, _, rfl, rfl, rfl, rfl, ?_⟩) | ((refine wpList_build1 st (wanted_none rfl) 22 43 _ rfl Try.underlying22 4 Try.sizeOf43 (by decide) (by decide) _ Try.zeroValue43 _ rfl rfl ?_; have stw9 := st; clear st; intro g9 w9 hg9 hg9e st hw9b hw9z; simp [Act.eval, Act.put, Value.cells, putL] at st); clear hg9e)
          | (at_builtin; go_must (refine wpList_app1 (wanted_none rfl) _ _ 22 rfl 43 i0 _ 4 32 Try.underlying22 hi hz0 hz1 hz2 rfl (by decide) rfl rfl (hO.below (st0.below2 st (by simp))) rfl (SlR.ofBlk (ok := fun _ => True) (R := RCert) (x := l[k]) (st.blk _ (List.mem_of_getElem? (i := 2) rfl)) rfl rfl rfl trivial) (by omega) (by unfold maxLen; omega) (Nat.le_trans hB st.size) ?_; intro g8 c8 w8 hO8 hg8 _ _)))
        go_roundw
        case rel =>
          have hzz := st.size
          refine ⟨k + 1, some ⟨g8, 0, none⟩, c8, hlt, by go_num, by rw [HTK.out]; simp, (St.back st0 (st.take 1)).grownNew hg8 (fun q hq => Nat.le_trans hsB (hO.blockLt q hq).1) (fun x hx => ?_), by rw [HTK.out]; simpa using hO8, Nat.le_trans hB (Nat.le_trans hzz hg8.size)⟩
          simp at hx
          subst hx
          intro he
          have := (hO.blockLt _ he).1
          simp at this
          omega
        case measure => simp [intOf]; omega
    · have hkn : l.take k = l := List.take_of_length_le (by omega)
      rw [hkn] at hO ⊢
      go_wp2
      go_ret
      exact ⟨a, c, rfl, st.below, (hO.le hsB).slr fun _ h => h⟩

end Go.Proofs.Ytbngblmdcggfdaa
