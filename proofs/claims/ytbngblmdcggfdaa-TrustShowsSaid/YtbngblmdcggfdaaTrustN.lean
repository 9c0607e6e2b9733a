/- The walks through trust.named, May and Show. -/
import Derived.Test.YtbngblmdcggfdaaTrustT
import Derived.Test.YtbngblmdcggfdaaSort
import Derived.Test.YtbngblmdcggfdaaAppBig
set_option linter.unusedSimpArgs false
set_option linter.unusedVariables false
namespace Go.Proofs.Ytbngblmdcggfdaa
open Go.RowKit

def namedL (m : Mail) : List Int := uniq (m.grants ++ catsOf m.label)

theorem namedL_mem {m : Mail} {z : Int} : z ∈ namedL m ↔ z ∈ m.grants ∨ ∃ x ∈ m.label, x.c = z := by
  rw [namedL, uniq_mem, List.mem_append]
  simp [catsOf]

theorem uniq_length (l : List Int) : (uniq l).length ≤ l.length := by
  rw [← sort_compact]
  unfold Lib.compact Lib.compactUpTo
  rw [List.length_map]
  refine Nat.le_trans (List.length_filter_le _ _) ?_
  simp

set_option maxRecDepth 100000 in
set_option maxHeartbeats 3000000 in
theorem trust_named (ok : Nat → Prop) (w : World) (m : Mail) (la : Option Addr) (lc : Nat) (ga : Option Addr) (gc : Nat) (hm : m.grants.length * 8 ≤ 140737488351232 ∧ m.label.length * 16 ≤ 140737488351232) (hR : MailR ok w m la lc ga gc) :
    Calls Try.prog 23 #[mailV m la lc ga gc] w fun e w' => ∃ a c, e = .returned (.slice a (namedL m).length c) ∧ Below w.heap.size w w' ∧ SlR (fun _ => True) w' 1 RInt a c (namedL m) := by
  obtain ⟨hL, hG⟩ := hR
  obtain ⟨i0, hi, hz0, hz1, hz2⟩ := info_parts info_int
  unfold mailV
  have st := St.start w
  have hg8 : m.grants.length * 8 ≤ 140737488355328 := by omega
  go_enter Try.func23, Try.ntmps23
  go_wp2_with (first
    | go_skip | (refine mem_box st (wanted_none rfl) 27 _ rfl _ rfl _ rfl ?_; clear st; intro g1 w1 hg1 st hg1b; clear hg1b; simp [Act.eval, Act.put, Value.cells, putL] at st) | ((first | refine mem_load' st 25 _ rfl (wanted_none rfl) Try.isAgg25 ?_ | (refine mem_load' st 25 _ rfl (wanted_some rfl ?_) Try.isAgg25 ?_; focus (simp [yielded, Act.put]; done))); refine ⟨0, _, _, _, _, _, rfl, rfl, rfl, ?_⟩)
    | (go_at_call 30; go_must (refine (slices_Clone_int ok _ _ _ _ hg8 (hG.below st.below)).mono ?_; rintro e v2 ⟨a2, c2, rfl, hb2, hO⟩; have hsB := st.size; have lg := st.ltAt (i := 0) rfl; have hz2' := hb2.size; replace st := st.call hb2))
    | ((first | refine mem_load' st 24 _ rfl (wanted_none rfl) Try.isAgg24 ?_ | (refine mem_load' st 24 _ rfl (wanted_some rfl ?_) Try.isAgg24 ?_; focus (simp [yielded, Act.put]; done))); refine ⟨0, _, _, _, _, _, rfl, rfl, rfl, ?_⟩))
  generalize hBe : w1.heap.size = B at hO hsB lg hz2'
  have hL2 := hL.below st.below
  clear hBe hb2
  go_loopw [12, 3] (fun i p wr => ∃ (k : Nat) (a : Option Addr) (c : Nat), k ≤ m.label.length ∧ i = .int .i64 k ∧ p = .slice a (m.grants.length + k) c ∧ St [] w wr [(g1, 27, [.int .i64 m.host, .int .i64 m.thread, .slice la m.label.length lc, .slice ga m.grants.length gc, .string m.text])] ∧ Own B 3 wr 1 RInt a c (m.grants ++ (catsOf m.label).take k) ∧ B ≤ wr.heap.size) (fun i _ _ => m.label.length - (intOf i).toNat)
  case atStart => exact ⟨0, a2, c2, Nat.zero_le _, rfl, rfl, st, by simpa using hO, hz2'⟩
  case round =>
    clear st hO hz2' hL2
    obtain ⟨k, a, c, hk, rfl, rfl, st, hO, hB⟩ := hrel
    have hlk : (m.grants ++ (catsOf m.label).take k).length = m.grants.length + k := by simp [catsOf]; omega
    by_cases hlt : k < m.label.length
    · obtain ⟨b, o, rfl, hb, h1, h2⟩ := (hL.below st.below).lev_at k hlt
      have hrow : ∀ (j : Nat) (v : Value), [Value.int .i64 m.label[k].c, .int .i64 m.label[k].l][j]? = some v → wr.cell? ⟨b, o + k * 2 + j, none⟩ = some v := fun j v hj => by
        rcases j with _ | _ | j
        · simp at hj; subst hj; exact h1
        · simp at hj; subst hj; exact h2
        · simp at hj
      have hcl : (catsOf m.label).length = m.label.length := by simp [catsOf]
      have htk : (catsOf m.label).take (k + 1) = (catsOf m.label).take k ++ [m.label[k].c] := by
        rw [List.take_succ_eq_append_getElem (by omega)]; simp [catsOf]
      have HTK := Lib.hid htk
      have HLK := Lib.hid hlk
      have st0 := st
      replace st := st.rebase
      clear h1 h2 hlk hcl htk
      go_wp2_with (first
        | go_skip | (refine wpList_load_cells (wanted_none rfl) 53 _ rfl Try.isAgg53 _ Try.sizeOf53 b (o + k * 2) rfl [.int .i64 m.label[k].c, .int .i64 m.label[k].l] rfl hrow ?_)
        | (refine mem_alloc st (wanted_none rfl) 53 rfl _ Try.zeroValue53 _ rfl ?_; clear st; intro g5 w5 hg5 st hg5b; clear hg5b; simp [Act.eval, Act.put, Value.cells, putL] at st) | ((first | refine mem_store' st 53 _ _ rfl (wanted_none rfl) _ Try.sizeOf53 ?_ | (refine mem_store' st 53 _ _ rfl (wanted_some rfl ?_) _ Try.sizeOf53 ?_; focus (simp [yielded, Act.put]; done))); refine ⟨1, _, _, _, _, _, rfl, rfl, rfl, rfl, rfl, rfl, ?_⟩; clear st; intro w6 st hw6m hw6z; simp [Act.eval, Act.put, Value.cells, putL] at st) | ((first | refine mem_load' st 3 _ rfl (wanted_none rfl) Try.isAgg3 ?_ | (refine mem_load' st 3 _ rfl (wanted_some rfl ?_) Try.isAgg3 ?_; focus (simp [yielded, Act.put]; done))); refine ⟨1, _, _, _, _, _, rfl, rfl, rfl, ?_⟩) | ((refine wpList_build1 st (wanted_none rfl) 25 3 _ rfl Try.underlying25 1 Try.sizeOf3 (by decide) (by decide) _ Try.zeroValue3 _ rfl rfl ?_; have stw7 := st; clear st; intro g7 w7 hg7 hg7e st hw7b hw7z; simp [Act.eval, Act.put, Value.cells, putL] at st); clear hg7e)
        | (at_builtin; go_must (refine wpList_appBig (wanted_none rfl) _ _ 25 rfl 3 i0 _ 1 8 Try.underlying25 hi hz0 hz1 hz2 rfl (by decide) rfl HLK.out.symm (hO.below (st0.below2 st (by simp))) rfl (SlR.ofBlk (ok := fun _ => True) (R := RInt) (sz := 1) (x := m.label[k].c) (st.blk _ (List.mem_of_getElem? (i := 2) rfl)) rfl rfl rfl trivial) (by rw [HLK.out]; omega) (by rw [HLK.out]; unfold maxLen; omega) (Nat.le_trans hB st.size) ?_; intro g8 c8 w8 hO8 hg8')))
      go_roundw
      case rel =>
        have hzz := st.size
        refine ⟨k + 1, _, c8, hlt, by go_num, rfl, (St.back st0 (st.take 1)).grownNew hg8' (fun q hq => Nat.le_trans hsB (hO.blockLt q hq).1) (fun x hx => ?_), by rw [HTK.out, ← List.append_assoc]; exact hO8, Nat.le_trans hB (Nat.le_trans hzz hg8'.size)⟩
        simp at hx
        subst hx
        intro he
        have := (hO.blockLt _ he).1
        simp at this
        omega
      case measure => simp [intOf]; omega
    · have hkn : k = m.label.length := by omega
      subst hkn
      have e1 : m.grants ++ (catsOf m.label).take m.label.length = m.grants ++ catsOf m.label := by rw [List.take_of_length_le (by simp [catsOf])]
      rw [e1] at hO hlk
      have e3 : Lib.compact ((m.grants ++ catsOf m.label).mergeSort fun x y => decide (x ≤ y)) = namedL m := by rw [sort_compact, namedL]
      have e4 : ((m.grants ++ catsOf m.label).mergeSort fun x y => decide (x ≤ y)).length = m.grants.length + m.label.length := by simp [catsOf]
      have E2 := Lib.hid hlk
      have E3 := Lib.hid e3
      have E4 := Lib.hid e4
      have hBw := st.below
      clear e1 hlk e3 e4
      generalize hab : m.grants ++ catsOf m.label = ab at hO E2 E3 E4
      have HAB := Lib.hid hab
      clear hab
      go_wp2_with fail
      rw [← E2.out]
      refine (slices_Sort_own hO (by rw [E2.out]; omega)).mono ?_
      rintro e w3 ⟨rfl, hO3, hg3⟩
      have hB3 := hO.grown hBw hg3 hsB hBw.size
      clear hO hg3 hBw
      go_wp2_with fail
      rw [E2.out, ← E4.out]
      refine (slices_Compact_own hO3 (by rw [E4.out]; omega)).mono ?_
      rintro e w4 ⟨rfl, hO4, hg4⟩
      have hB4 := hO3.grown hB3 hg4 hsB hB3.size
      rw [E3.out] at hO4 ⊢
      clear hO3 hg4 hB3
      go_wp2
      go_ret
      exact ⟨a, c, rfl, hB4, hO4.slr fun _ _ => trivial⟩

end Go.Proofs.Ytbngblmdcggfdaa
