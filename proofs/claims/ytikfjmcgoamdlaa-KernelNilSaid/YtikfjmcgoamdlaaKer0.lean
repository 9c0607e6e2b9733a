/- A fresh kernel's first category: what 'calls' asks of kernel. (printed by gen_ker0.py) -/
import Derived.Test.YtikfjmcgoamdlaaApp
import Derived.Test.YtikfjmcgoamdlaaMemB
import Derived.Test.YtikfjmcgoamdlaaSlices
import Derived.Test.YtikfjmcgoamdlaaGhost
import Derived.Test.YtikfjmcgoamdlaaLex
import Derived.Test.YtikfjmcgoamdlaaBuf
import Derived.LoopN
set_option linter.unusedSimpArgs false
set_option linter.unusedVariables false
namespace Go.Proofs.Ytikfjmcgoamdlaa
open Go.RowKit

/-- A call that turns one block of ours alone. -/
theorem St.callM {M : List Nat} {w0 w w' : World} {own : Blks} (h : St M w0 w own) {i g : Nat} {T : TypeId} {cs cs' : List Value} (hi : own[i]? = some (g, T, cs)) (h' : St [g] w w' [(g, T, cs')]) : St M w0 w' (own.set i (g, T, cs')) := by
  have hin : (g, T, cs) ∈ own := List.mem_of_getElem? hi
  have hilt : i < own.length := (List.getElem?_eq_some_iff.1 hi).1
  have hget : own[i] = (g, T, cs) := (List.getElem?_eq_some_iff.1 hi).2
  have hids : (own.set i (g, T, cs')).map (·.1) = own.map (·.1) := by
    apply List.ext_getElem?
    intro j
    simp only [List.getElem?_map, List.getElem?_set]
    by_cases hj : i = j
    · subst hj; simp [hilt, hget]
    · simp [hj]
  refine ⟨h'.os.trans h.os, h'.tape.trans h.tape, h'.output.trans h.output, Nat.le_trans h.size h'.size, ?_, ?_, ?_, ?_⟩
  · intro b hb hM
    have hbg : b ≠ g := by
      rintro rfl
      rcases h.mine _ hin with hm | hm
      · exact hM hm
      · simp at hm; omega
    rw [h'.frame b (Nat.lt_of_lt_of_le hb h.size) (by simp [hbg])]; exact h.frame b hb hM
  · intro x hx
    obtain ⟨j, hj⟩ := List.mem_iff_getElem?.1 hx
    rw [List.getElem?_set] at hj
    by_cases hij : i = j
    · subst hij; simp [hilt] at hj; subst hj; exact h'.blk _ (by simp)
    · rw [if_neg hij] at hj
      have hxin := List.mem_of_getElem? hj
      have hne : x.1 ≠ g := by
        have hp := List.pairwise_iff_getElem.1 h.ne
        have hjl := (List.getElem?_eq_some_iff.1 hj).1
        have hjx := (List.getElem?_eq_some_iff.1 hj).2
        rcases Nat.lt_or_gt_of_ne hij with hlt | hlt
        · have := hp i j hilt hjl hlt; rw [hget, hjx] at this; exact fun e => this e.symm
        · have := hp j i hjl hilt hlt; rw [hget, hjx] at this; exact this
      rw [h'.frame _ (h.lt hxin) (by simp [hne])]; exact h.blk x hxin
  · intro x hx
    have : x.1 ∈ (own.set i (g, T, cs')).map (·.1) := List.mem_map.2 ⟨x, hx, rfl⟩
    rw [hids] at this
    obtain ⟨y, hy, e⟩ := List.mem_map.1 this
    rw [← e]; exact h.mine y hy
  · have : ((own.set i (g, T, cs')).map (·.1)).Pairwise (· ≠ ·) := by rw [hids]; exact List.pairwise_map.2 h.ne
    exact List.pairwise_map.1 this

set_option maxRecDepth 100000 in
theorem kernel_New2 (w : World) : Calls Try.prog 32 #[.int .i64 2] w fun e w' => ∃ g, e = .returned (.tuple #[.pointer (some ⟨g, 0, none⟩), .int .i64 0]) ∧ w.heap.size ≤ g ∧ St [] w w' [(g, 61, [.int .i64 2, .slice none 0 0, .slice none 0 0, .string ⟨#[]⟩, .slice none 0 0, .slice none 0 0, .slice none 0 0, .slice none 0 0, .string ⟨#[]⟩, .slice none 0 0, .slice none 0 0, .slice none 0 0, .slice none 0 0, .string ⟨#[]⟩, .slice none 0 0, .slice none 0 0, .slice none 0 0, .slice none 0 0, .string ⟨#[]⟩, .slice none 0 0, .slice none 0 0, .int .i64 0])] := by
  have st := St.start w
  go_enter Try.func32, Try.ntmps32
  go_wp2_with (first | go_skip | (refine mem_box st (wanted_none rfl) 61 _ rfl _ rfl _ rfl ?_; clear st; intro g1 w1 hg1 st hg1b; clear hg1b; simp [Act.eval, Act.put, Value.cells, putL] at st))
  go_ret2
  exact ⟨g1, rfl, hg1, st⟩

set_option maxRecDepth 100000 in
theorem search_none (w : World) (c : Int) : Calls Try.prog 45 #[.slice none 0 0, .int .i64 c] w fun e w' => e = .returned (.tuple #[.int .i64 0, .bool false]) ∧ w = w' := by
  go_enter Try.func45, Try.ntmps45
  go_wp2
  refine wp_loop_rounds 1 ?_
  rw [rounds_succ]
  go_wp2
  go_ret2
  exact ⟨rfl, rfl⟩

set_option maxRecDepth 100000 in
theorem clone_none (w : World) : Calls Try.prog 47 #[.slice none 0 0] w fun e w' => e = .returned (.slice none 0 0) ∧ w = w' := by
  have hcmp := fun (ww : World) (a : Option Addr) (n c : Nat) => Lib.run_eql_slice_nil ww 24 _ a n c 0 0 Try.underlying24
  go_enter Try.func47, Try.ntmps47
  go_wp2
  go_ret
  exact ⟨rfl, rfl⟩

set_option maxRecDepth 100000 in
theorem insert_none (ok : Nat → Prop) (w : World) (b : Addr) (c : Int) (hR : SlR ok w 1 RInt (some b) 1 [c]) : Calls Try.prog 46 #[.slice none 0 0, .int .i64 0, .slice (some b) 1 1] w fun e w' => ∃ a k, e = .returned (.slice a 1 k) ∧ Below w.heap.size w w' ∧ Own w.heap.size 3 w' 1 RInt a k [c] := by
  obtain ⟨i0, hi, hz0, hz1, hz2⟩ := info_parts info_int
  go_enter Try.func46, Try.ntmps46
  go_wp2_with (first | go_skip | (at_builtin; go_must (refine wpList_copy (wanted_none rfl) _ _ 24 rfl 3 i0 _ 1 8 Try.underlying24 hi hz0 hz1 hz2 rfl (by decide) (ys := [c]) rfl rfl rfl hR (by simp) ?_; intro a k w' hO hb)))
  go_ret
  exact ⟨a, k, rfl, hb, hO⟩

set_option maxRecDepth 100000 in
set_option maxHeartbeats 1000000 in
theorem own_first (w : World) (g : Nat) (hb : w.heap[g]? = some (.cells ([.int .i64 2, .slice none 0 0, .slice none 0 0, .string ⟨#[]⟩, .slice none 0 0, .slice none 0 0, .slice none 0 0, .slice none 0 0, .string ⟨#[]⟩, .slice none 0 0, .slice none 0 0, .slice none 0 0, .slice none 0 0, .string ⟨#[]⟩, .slice none 0 0, .slice none 0 0, .slice none 0 0, .slice none 0 0, .string ⟨#[]⟩, .slice none 0 0, .slice none 0 0, .int .i64 0]).toArray 61 (0, 0))) (c : Int) :
    Calls Try.prog 24 #[.pointer (some ⟨g, 6, none⟩), .int .i64 c] w fun e w' => ∃ a k, e = .returned (.int .i64 0) ∧ St [g] w w' [(g, 61, [.int .i64 2, .slice none 0 0, .slice none 0 0, .string ⟨#[]⟩, .slice none 0 0, .slice none 0 0, .slice none 0 0, .slice a 1 k, .string ⟨#[]⟩, .slice none 0 0, .slice none 0 0, .slice none 0 0, .slice none 0 0, .string ⟨#[]⟩, .slice none 0 0, .slice none 0 0, .slice none 0 0, .slice none 0 0, .string ⟨#[]⟩, .slice none 0 0, .slice none 0 0, .int .i64 0])] ∧ Own w.heap.size 3 w' 1 RInt a k [c] := by
  have hlt : g < w.heap.size := (Array.getElem?_eq_some_iff.1 hb).1
  have st : St [g] w w [(g, 61, [.int .i64 2, .slice none 0 0, .slice none 0 0, .string ⟨#[]⟩, .slice none 0 0, .slice none 0 0, .slice none 0 0, .slice none 0 0, .string ⟨#[]⟩, .slice none 0 0, .slice none 0 0, .slice none 0 0, .slice none 0 0, .string ⟨#[]⟩, .slice none 0 0, .slice none 0 0, .slice none 0 0, .slice none 0 0, .string ⟨#[]⟩, .slice none 0 0, .slice none 0 0, .int .i64 0])] := ⟨rfl, rfl, rfl, Nat.le_refl _, fun _ _ _ => rfl, by simp; exact hb, by simp, by simp⟩
  clear hb
  go_enter Try.func24, Try.ntmps24
  go_wp2_with (first
    | go_skip | ((first | refine mem_load' st 24 _ rfl (wanted_none rfl) Try.isAgg24 ?_ | (refine mem_load' st 24 _ rfl (wanted_some rfl ?_) Try.isAgg24 ?_; focus (simp [yielded, Act.put]; done))); refine ⟨0, _, _, _, _, _, rfl, rfl, rfl, ?_⟩)
    | (go_at_call 45; refine (search_none _ _).mono ?_; rintro e v1 ⟨rfl, rfl⟩)
    | (go_at_call 47; refine (clone_none _).mono ?_; rintro e v1 ⟨rfl, rfl⟩)
    | ((refine wpList_build1 st (wanted_none rfl) 24 3 _ rfl Try.underlying24 1 Try.sizeOf3 (by decide) (by decide) _ Try.zeroValue3 _ rfl rfl ?_; have stw2 := st; clear st; intro g2 w2 hg2 hg2e st hw2b hw2z; simp [Act.eval, Act.put, Value.cells, putL] at st); clear hg2e)
    | (go_at_call 46; go_must (have sz3 := st.size; refine (insert_none (fun _ => True) _ _ c (SlR.ofBlk (R := RInt) (sz := 1) (x := c) (st.blk _ (List.mem_of_getElem? (i := 1) rfl)) rfl rfl rfl trivial)).mono ?_; rintro e v3 ⟨a, k, rfl, hb3, hO⟩; replace st := st.call hb3))
    | ((first | refine mem_store' st 24 _ _ rfl (wanted_none rfl) _ Try.sizeOf24 ?_ | (refine mem_store' st 24 _ _ rfl (wanted_some rfl ?_) _ Try.sizeOf24 ?_; focus (simp [yielded, Act.put]; done))); refine ⟨0, _, _, _, _, _, rfl, rfl, rfl, rfl, rfl, rfl, ?_⟩; clear st; intro w4 st hw4m hw4z; simp [Act.eval, Act.put, Value.cells, putL] at st))
  go_ret
  refine ⟨a, k, rfl, st.sub (by simp) (by simp), ?_⟩
  have hO' := hO.le sz3
  exact hO'.move (fun b h1 h2 => hw4m b (by omega)) (fun _ _ h => h)

set_option maxRecDepth 100000 in
set_option maxHeartbeats 3000000 in
theorem call_first (w : World) (g : Nat) (hb : w.heap[g]? = some (.cells ([.int .i64 2, .slice none 0 0, .slice none 0 0, .string ⟨#[]⟩, .slice none 0 0, .slice none 0 0, .slice none 0 0, .slice none 0 0, .string ⟨#[]⟩, .slice none 0 0, .slice none 0 0, .slice none 0 0, .slice none 0 0, .string ⟨#[]⟩, .slice none 0 0, .slice none 0 0, .slice none 0 0, .slice none 0 0, .string ⟨#[]⟩, .slice none 0 0, .slice none 0 0, .int .i64 0]).toArray 61 (0, 0))) :
    Calls Try.prog 7 #[.pointer (some ⟨g, 0, none⟩), .int .i64 1, .agg #[.int .i64 1, .int .i64 0, .int .i64 0, .int .i64 0, .int .i64 0, .slice none 0 0, .slice none 0 0, .string .empty]] w fun e w' => ∃ a k, e = .returned (.agg #[.int .i64 0, .int .i64 40, .string ⟨#[]⟩]) ∧ St [g] w w' [(g, 61, [.int .i64 2, .slice none 0 0, .slice none 0 0, .string ⟨#[]⟩, .slice none 0 0, .slice none 0 0, .slice none 0 0, .slice a 1 k, .string ⟨#[]⟩, .slice none 0 0, .slice none 0 0, .slice none 0 0, .slice none 0 0, .string ⟨#[]⟩, .slice none 0 0, .slice none 0 0, .slice none 0 0, .slice none 0 0, .string ⟨#[]⟩, .slice none 0 0, .slice none 0 0, .int .i64 1])] ∧ Own w.heap.size 3 w' 1 RInt a k [40] := by
  have hlt : g < w.heap.size := (Array.getElem?_eq_some_iff.1 hb).1
  have st : St [g] w w [(g, 61, [.int .i64 2, .slice none 0 0, .slice none 0 0, .string ⟨#[]⟩, .slice none 0 0, .slice none 0 0, .slice none 0 0, .slice none 0 0, .string ⟨#[]⟩, .slice none 0 0, .slice none 0 0, .slice none 0 0, .slice none 0 0, .string ⟨#[]⟩, .slice none 0 0, .slice none 0 0, .slice none 0 0, .slice none 0 0, .string ⟨#[]⟩, .slice none 0 0, .slice none 0 0, .int .i64 0])] := ⟨rfl, rfl, rfl, Nat.le_refl _, fun _ _ _ => rfl, by simp; exact hb, by simp, by simp⟩
  clear hb
  go_enter Try.func7, Try.ntmps7
  go_wp2_with (first
    | go_skip | (refine mem_box st (wanted_none rfl) 26 _ rfl _ rfl _ rfl ?_; clear st; intro g1 w1 hg1 st hg1b; clear hg1b; simp [Act.eval, Act.put, Value.cells, putL] at st) | (refine mem_alloc st (wanted_none rfl) 35 rfl _ Try.zeroValue35 _ rfl ?_; clear st; intro g2 w2 hg2 st hg2b; clear hg2b; simp [Act.eval, Act.put, Value.cells, putL] at st) | ((first | refine mem_load' st 9 _ rfl (wanted_none rfl) Try.isAgg9 ?_ | (refine mem_load' st 9 _ rfl (wanted_some rfl ?_) Try.isAgg9 ?_; focus (simp [yielded, Act.put]; done))); refine ⟨1, _, _, _, _, _, rfl, rfl, rfl, ?_⟩) | ((first | refine mem_load' st 3 _ rfl (wanted_none rfl) Try.isAgg3 ?_ | (refine mem_load' st 3 _ rfl (wanted_some rfl ?_) Try.isAgg3 ?_; focus (simp [yielded, Act.put]; done))); refine ⟨0, _, _, _, _, _, rfl, rfl, rfl, ?_⟩) | ((first | refine mem_load' st 3 _ rfl (wanted_none rfl) Try.isAgg3 ?_ | (refine mem_load' st 3 _ rfl (wanted_some rfl ?_) Try.isAgg3 ?_; focus (simp [yielded, Act.put]; done))); refine ⟨1, _, _, _, _, _, rfl, rfl, rfl, ?_⟩)
    | (go_at_call 24; go_must (refine (own_first _ g (st.blk _ (List.mem_of_getElem? (i := 0) rfl)) 40).mono ?_; rintro e v3 ⟨a, k, rfl, st3, hO⟩; have sz3 := st.size; have l0 := st.ltAt (i := 0) rfl; have l2 := st.ltAt (i := 2) rfl; replace st := st.callM (i := 0) rfl st3; simp only [List.set_cons_zero] at st))
    | ((first | refine mem_store' st 3 _ _ rfl (wanted_none rfl) _ Try.sizeOf3 ?_ | (refine mem_store' st 3 _ _ rfl (wanted_some rfl ?_) _ Try.sizeOf3 ?_; focus (simp [yielded, Act.put]; done))); refine ⟨0, _, _, _, _, _, rfl, rfl, rfl, rfl, rfl, rfl, ?_⟩; clear st; intro w4 st hw4m hw4z; simp [Act.eval, Act.put, Value.cells, putL] at st) | ((first | refine mem_store' st 35 _ _ rfl (wanted_none rfl) _ Try.sizeOf35 ?_ | (refine mem_store' st 35 _ _ rfl (wanted_some rfl ?_) _ Try.sizeOf35 ?_; focus (simp [yielded, Act.put]; done))); refine ⟨2, _, _, _, _, _, rfl, rfl, rfl, rfl, rfl, rfl, ?_⟩; clear st; intro w5 st hw5m hw5z; simp [Act.eval, Act.put, Value.cells, putL] at st))
  refine lex_still st (by kernel_rfl) 11 rfl ?_; clear st; intro hI
  refine lex_take 0 rfl (by decide +kernel) (wanted_none rfl) hI (fun W hW => by first | (go_simp; done) | (go_simp; rfl)) ?_; simp only [Act.put, List.setIfInBounds_toArray, List.set_cons_succ, List.set_cons_zero]
  refine lex_take 1 rfl (by decide +kernel) (wanted_none rfl) hI (fun W hW => by first | (go_simp; done) | (go_simp; rfl)) ?_; simp only [Act.put, List.setIfInBounds_toArray, List.set_cons_succ, List.set_cons_zero]
  refine lex_take 2 rfl (by decide +kernel) (wanted_none rfl) hI (fun W hW => by first | (go_simp; done) | (go_simp; rfl)) ?_; simp only [Act.put, List.setIfInBounds_toArray, List.set_cons_succ, List.set_cons_zero]
  refine lex_take 3 rfl (by decide +kernel) (wanted_none rfl) hI (fun W hW => St.run_load hW 0 3 _ rfl Try.isAgg3 rfl rfl rfl) ?_; simp only [Act.put, List.setIfInBounds_toArray, List.set_cons_succ, List.set_cons_zero]
  refine lex_take 4 rfl (by decide +kernel) (wanted_none rfl) hI (fun W hW => by first | (go_simp; done) | (go_simp; rfl)) ?_; simp only [Act.put, List.setIfInBounds_toArray, List.set_cons_succ, List.set_cons_zero]
  refine lex_take 5 rfl (by decide +kernel) (wanted_none rfl) hI (fun W hW => by first | (go_simp; done) | (go_simp; rfl)) ?_; simp only [Act.put, List.setIfInBounds_toArray, List.set_cons_succ, List.set_cons_zero]
  refine lex_take 6 rfl (by decide +kernel) (wanted_none rfl) hI (fun W hW => by first | (go_simp; done) | (go_simp; rfl)) ?_; simp only [Act.put, List.setIfInBounds_toArray, List.set_cons_succ, List.set_cons_zero]
  refine lex_take 7 rfl (by decide +kernel) (wanted_none rfl) hI (fun W hW => by first | (go_simp; done) | (go_simp; rfl)) ?_; simp only [Act.put, List.setIfInBounds_toArray, List.set_cons_succ, List.set_cons_zero]
  refine lex_take 8 rfl (by decide +kernel) (wanted_none rfl) hI (fun W hW => St.run_load hW 0 3 _ rfl Try.isAgg3 rfl rfl rfl) ?_; simp only [Act.put, List.setIfInBounds_toArray, List.set_cons_succ, List.set_cons_zero]
  refine lex_take 9 rfl (by decide +kernel) (wanted_none rfl) hI (fun W hW => by first | (go_simp; done) | (go_simp; rfl)) ?_; simp only [Act.put, List.setIfInBounds_toArray, List.set_cons_succ, List.set_cons_zero]
  refine lex_take 10 rfl (by decide +kernel) (wanted_none rfl) hI (fun W hW => by first | (go_simp; done) | (go_simp; rfl)) ?_; simp only [Act.put, List.setIfInBounds_toArray, List.set_cons_succ, List.set_cons_zero]
  refine lex_done (by decide +kernel) ?_
  have st := hI
  clear hI
  go_wp2_with (first
    | go_skip | ((first | refine mem_load' st 3 _ rfl (wanted_none rfl) Try.isAgg3 ?_ | (refine mem_load' st 3 _ rfl (wanted_some rfl ?_) Try.isAgg3 ?_; focus (simp [yielded, Act.put]; done))); refine ⟨0, _, _, _, _, _, rfl, rfl, rfl, ?_⟩) | ((first | refine mem_load' st 3 _ rfl (wanted_none rfl) Try.isAgg3 ?_ | (refine mem_load' st 3 _ rfl (wanted_some rfl ?_) Try.isAgg3 ?_; focus (simp [yielded, Act.put]; done))); refine ⟨1, _, _, _, _, _, rfl, rfl, rfl, ?_⟩)
    | (go_at_call 24; go_must (refine (own_first _ g (st.blk _ (List.mem_of_getElem? (i := 0) rfl)) 40).mono ?_; rintro e v3 ⟨a, k, rfl, st3, hO⟩; have sz3 := st.size; have l0 := st.ltAt (i := 0) rfl; have l2 := st.ltAt (i := 2) rfl; replace st := st.callM (i := 0) rfl st3; simp only [List.set_cons_zero] at st))
    | ((first | refine mem_store' st 3 _ _ rfl (wanted_none rfl) _ Try.sizeOf3 ?_ | (refine mem_store' st 3 _ _ rfl (wanted_some rfl ?_) _ Try.sizeOf3 ?_; focus (simp [yielded, Act.put]; done))); refine ⟨0, _, _, _, _, _, rfl, rfl, rfl, rfl, rfl, rfl, ?_⟩; clear st; intro w4 st hw4m hw4z; simp [Act.eval, Act.put, Value.cells, putL] at st) | ((first | refine mem_store' st 35 _ _ rfl (wanted_none rfl) _ Try.sizeOf35 ?_ | (refine mem_store' st 35 _ _ rfl (wanted_some rfl ?_) _ Try.sizeOf35 ?_; focus (simp [yielded, Act.put]; done))); refine ⟨2, _, _, _, _, _, rfl, rfl, rfl, rfl, rfl, rfl, ?_⟩; clear st; intro w5 st hw5m hw5z; simp [Act.eval, Act.put, Value.cells, putL] at st))
  have hc := fun j => st.cell (i := 2) rfl j
  refine bodyPost_ret (v := _) ?hr rfl ⟨a, k, rfl, st.sub (by simp) (by simp), (hO.move (fun b h1 h2 => (hw5m b (by omega)).trans (hw4m b (by omega))) fun _ _ h => h).le sz3⟩
  case hr => simp [results, Try.results7, go_sem, hc]; try rfl

set_option maxRecDepth 100000 in
theorem kernel_levels (ok : Nat → Prop) (w : World) (a : Option Addr) (c : Nat) (l : List Lev) (hl : l.length * 16 ≤ 140737488355328) (hR : SlR ok w 2 RLev a c l) :
    Calls Try.prog 20 #[.slice a l.length c] w fun e w' => ∃ a' c', e = .returned (.slice a' l.length c') ∧ Below w.heap.size w w' ∧ Own w.heap.size 108 w' 2 RLev a' c' l := by
  obtain ⟨i0, hi, hz0, hz1, hz2⟩ := info_parts info_Level
  go_enter Try.func20, Try.ntmps20
  go_wp2_with (first | go_skip | (at_builtin; go_must (refine wpList_copy (wanted_none rfl) _ _ 23 rfl 108 i0 _ 2 16 Try.underlying23 hi hz0 hz1 hz2 rfl (by decide) rfl rfl rfl hR hl ?_; intro a' c' w' hO hb)))
  go_ret
  exact ⟨a', c', rfl, hb, hO⟩

set_option maxRecDepth 100000 in
theorem kernel_numbers (ok : Nat → Prop) (w : World) (a : Option Addr) (c : Nat) (l : List Int) (hl : l.length * 8 ≤ 140737488355328) (hR : SlR ok w 1 RInt a c l) :
    Calls Try.prog 21 #[.slice a l.length c] w fun e w' => ∃ a' c', e = .returned (.slice a' l.length c') ∧ Below w.heap.size w w' ∧ Own w.heap.size 3 w' 1 RInt a' c' l := by
  obtain ⟨i0, hi, hz0, hz1, hz2⟩ := info_parts info_int
  go_enter Try.func21, Try.ntmps21
  go_wp2_with (first | go_skip | (at_builtin; go_must (refine wpList_copy (wanted_none rfl) _ _ 24 rfl 3 i0 _ 1 8 Try.underlying24 hi hz0 hz1 hz2 rfl (by decide) rfl rfl rfl hR hl ?_; intro a' c' w' hO hb)))
  go_ret
  exact ⟨a', c', rfl, hb, hO⟩

set_option maxRecDepth 100000 in
set_option maxHeartbeats 3000000 in
theorem thread_first (w : World) (g : Nat) (a : Option Addr) (k : Nat) (hb : w.heap[g]? = some (.cells ([.int .i64 2, .slice none 0 0, .slice none 0 0, .string ⟨#[]⟩, .slice none 0 0, .slice none 0 0, .slice none 0 0, .slice a 1 k, .string ⟨#[]⟩, .slice none 0 0, .slice none 0 0, .slice none 0 0, .slice none 0 0, .string ⟨#[]⟩, .slice none 0 0, .slice none 0 0, .slice none 0 0, .slice none 0 0, .string ⟨#[]⟩, .slice none 0 0, .slice none 0 0, .int .i64 1]).toArray 61 (0, 0))) (x : Int) (hR : SlR (fun b => b ≠ g) w 1 RInt a k [x]) :
    Calls Try.prog 10 #[.pointer (some ⟨g, 0, none⟩), .int .i64 1] w fun e w' => ∃ v a' k', e = .returned (.agg #[v, .slice a' 1 k', .string ⟨#[]⟩, .slice none 0 0, .slice none 0 0]) ∧ Below w.heap.size w w' := by
  have hlt : g < w.heap.size := (Array.getElem?_eq_some_iff.1 hb).1
  have st : St [] w w [] := St.start w
  have hg : ∀ W, Below w.heap.size w W → W.heap[g]? = some (.cells ([.int .i64 2, .slice none 0 0, .slice none 0 0, .string ⟨#[]⟩, .slice none 0 0, .slice none 0 0, .slice none 0 0, .slice a 1 k, .string ⟨#[]⟩, .slice none 0 0, .slice none 0 0, .slice none 0 0, .slice none 0 0, .string ⟨#[]⟩, .slice none 0 0, .slice none 0 0, .slice none 0 0, .slice none 0 0, .string ⟨#[]⟩, .slice none 0 0, .slice none 0 0, .int .i64 1]).toArray 61 (0, 0)) := fun W h => (h.block g hlt).trans hb
  have HL := Lib.hid (fun (W : World) => kernel_levels (fun _ => True) W none 0 [] (by simp) (SlR.nil _ _ _ _))
  have HN := Lib.hid (fun (W : World) (h : Below w.heap.size w W) => kernel_numbers (fun b => b ≠ g) W a k [x] (by simp) (hR.below h))
  have HC := Lib.hid hg
  clear hb hg
  go_enter Try.func10, Try.ntmps10
  go_wp2_with (first
    | go_skip | (refine mem_alloc st (wanted_none rfl) 42 rfl _ Try.zeroValue42 _ rfl ?_; clear st; intro g1 w1 hg1 st hg1b; clear hg1b; simp [Act.eval, Act.put, Value.cells, putL] at st)
    | (refine wpList_load_cells (wanted_none rfl) 42 _ rfl Try.isAgg42 _ Try.sizeOf42 g 6 rfl [.slice none 0 0, .slice a 1 k, .string ⟨#[]⟩, .slice none 0 0, .slice none 0 0] rfl (cells_at (HC.out _ st.below) 6 5 _ rfl rfl) ?_)
    | (refine mem_alloc st (wanted_none rfl) 42 rfl _ Try.zeroValue42 _ rfl ?_; clear st; intro g2 w2 hg2 st hg2b; clear hg2b; simp [Act.eval, Act.put, Value.cells, putL] at st) | ((first | refine mem_store' st 42 _ _ rfl (wanted_none rfl) _ Try.sizeOf42 ?_ | (refine mem_store' st 42 _ _ rfl (wanted_some rfl ?_) _ Try.sizeOf42 ?_; focus (simp [yielded, Act.put]; done))); refine ⟨1, _, _, _, _, _, rfl, rfl, rfl, rfl, rfl, rfl, ?_⟩; clear st; intro w3 st hw3m hw3z; simp [Act.eval, Act.put, Value.cells, putL] at st))
  refine lex_still st (by kernel_rfl) 11 rfl ?_; clear st; intro hI
  refine lex_take 0 rfl (by decide +kernel) (wanted_none rfl) hI (fun W hW => by first | (go_simp; done) | (go_simp; rfl)) ?_; simp only [Act.put, List.setIfInBounds_toArray, List.set_cons_succ, List.set_cons_zero]
  refine lex_take 1 rfl (by decide +kernel) (wanted_none rfl) hI (fun W hW => St.run_load hW 1 23 _ rfl Try.isAgg23 rfl rfl rfl) ?_; simp only [Act.put, List.setIfInBounds_toArray, List.set_cons_succ, List.set_cons_zero]
  refine lex_take 3 rfl (by decide +kernel) (wanted_none rfl) hI (fun W hW => by first | (go_simp; done) | (go_simp; rfl)) ?_; simp only [Act.put, List.setIfInBounds_toArray, List.set_cons_succ, List.set_cons_zero]
  refine lex_take 4 rfl (by decide +kernel) (wanted_none rfl) hI (fun W hW => St.run_load hW 1 24 _ rfl Try.isAgg24 rfl rfl rfl) ?_; simp only [Act.put, List.setIfInBounds_toArray, List.set_cons_succ, List.set_cons_zero]
  refine lex_take 6 rfl (by decide +kernel) (wanted_none rfl) hI (fun W hW => by first | (go_simp; done) | (go_simp; rfl)) ?_; simp only [Act.put, List.setIfInBounds_toArray, List.set_cons_succ, List.set_cons_zero]
  refine lex_take 7 rfl (by decide +kernel) (wanted_none rfl) hI (fun W hW => St.run_load hW 1 9 _ rfl Try.isAgg9 rfl rfl rfl) ?_; simp only [Act.put, List.setIfInBounds_toArray, List.set_cons_succ, List.set_cons_zero]
  have st := hI
  refine lex_each [2, 9] (by decide +kernel) (by decide) ?_; intro i hi K hK; simp only [List.mem_cons, List.not_mem_nil, or_false] at hi; rcases hi with rfl | rfl <;> refine ⟨_, rfl, wanted_none rfl, ?_⟩
  · refine wp_callee (f := 20) (by first | (go_simp; done) | (go_simp; rfl)) ?_
    refine (HL.out _).mono ?_
    rintro e v4 ⟨a4, k4, rfl, hb4, -⟩
    refine ⟨_, rfl, ?_⟩
    replace st := st.call hb4
    clear hb4
    refine hK _ _ (st.take 2) ?_; clear hK; simp only [Act.put, List.setIfInBounds_toArray, List.set_cons_succ, List.set_cons_zero]
    have hI := st.take 2
    refine lex_each [5, 9] (by decide +kernel) (by decide) ?_; intro i hi K hK; simp only [List.mem_cons, List.not_mem_nil, or_false] at hi; rcases hi with rfl | rfl <;> refine ⟨_, rfl, wanted_none rfl, ?_⟩
    · refine wp_callee (f := 21) (by first | (go_simp; done) | (go_simp; rfl)) ?_
      refine (HN.out _ st.below).mono ?_
      rintro e v5 ⟨a5, k5, rfl, hb5, -⟩
      refine ⟨_, rfl, ?_⟩
      replace st := st.call hb5
      clear hb5
      refine hK _ _ (st.take 2) ?_; clear hK; simp only [Act.put, List.setIfInBounds_toArray, List.set_cons_succ, List.set_cons_zero]
      have hI := st.take 2
      refine lex_take 8 rfl (by decide +kernel) (wanted_none rfl) hI (fun W hW => by first | (go_simp; done) | (go_simp; rfl)) ?_; simp only [Act.put, List.setIfInBounds_toArray, List.set_cons_succ, List.set_cons_zero]
      refine lex_only 9 rfl (by decide +kernel) (wanted_none rfl) fun K hK => ?_
      refine wp_alloc st 42 rfl _ Try.zeroValue42 _ rfl ?_; clear st; intro g6 w6 hg6 st hg6b; simp [Act.eval, Act.put, Value.cells, putL] at st
      refine hK _ _ (st.take 2) ?_; clear hK; simp only [Act.put, List.setIfInBounds_toArray, List.set_cons_succ, List.set_cons_zero]
      have hI := st.take 2
      refine lex_only 10 rfl (by decide +kernel) (wanted_none rfl) fun K hK => ?_
      refine wp_store' st 42 _ _ rfl _ Try.sizeOf42 ⟨2, _, _, _, _, _, rfl, rfl, rfl, rfl, rfl, rfl, ?_⟩; clear st; intro w7 st hw7m hw7z; simp [Act.eval, Act.put, Value.cells, putL] at st
      refine hK _ _ (st.take 2) ?_; clear hK; simp only [Act.put, List.setIfInBounds_toArray, List.set_cons_succ, List.set_cons_zero]
      have hI := st.take 2
      refine lex_done (by decide +kernel) ?_
      go_wp2_with (first | go_skip | ((first | refine mem_load' st 39 _ rfl (wanted_none rfl) Try.isAgg39 ?_ | (refine mem_load' st 39 _ rfl (wanted_some rfl ?_) Try.isAgg39 ?_; focus (simp [yielded, Act.put]; done))); refine ⟨1, _, _, _, _, _, rfl, rfl, rfl, ?_⟩))
      refine wp_loop_rounds 1 ?_
      rw [rounds_succ]
      go_wp2_with (first | go_skip | ((first | refine mem_load' st 40 _ rfl (wanted_none rfl) Try.isAgg40 ?_ | (refine mem_load' st 40 _ rfl (wanted_some rfl ?_) Try.isAgg40 ?_; focus (simp [yielded, Act.put]; done))); refine ⟨1, _, _, _, _, _, rfl, rfl, rfl, ?_⟩))
      refine wp_loop_rounds 1 ?_
      rw [rounds_succ]
      go_wp2_with (first | go_skip | ((first | refine mem_load_agg' st 42 _ rfl (wanted_none rfl) Try.isAgg42 _ Try.sizeOf42 ?_ | (refine mem_load_agg' st 42 _ rfl (wanted_some rfl ?_) Try.isAgg42 _ Try.sizeOf42 ?_; focus (simp [yielded, Act.put]; done))); refine ⟨2, _, _, _, _, _, rfl, rfl, rfl, rfl, ?_⟩) | ((first | refine mem_store' st 42 _ _ rfl (wanted_none rfl) _ Try.sizeOf42 ?_ | (refine mem_store' st 42 _ _ rfl (wanted_some rfl ?_) _ Try.sizeOf42 ?_; focus (simp [yielded, Act.put]; done))); refine ⟨0, _, _, _, _, _, rfl, rfl, rfl, rfl, rfl, rfl, ?_⟩; clear st; intro w8 st hw8m hw8z; simp [Act.eval, Act.put, Value.cells, putL] at st))
      have hc := fun j => st.cell (i := 0) rfl j
      refine bodyPost_ret (v := .agg #[.slice a4 0 k4, .slice a5 1 k5, .string ⟨#[]⟩, .slice none 0 0, .slice none 0 0]) (by simp [results, Try.results10, go_sem, hc]; try rfl) rfl ⟨_, _, _, rfl, st.below⟩
    · refine wp_alloc st 42 rfl _ Try.zeroValue42 _ rfl ?_; clear st; intro g6 w6 hg6 st hg6b; simp [Act.eval, Act.put, Value.cells, putL] at st
      refine hK _ _ (st.take 2) ?_; clear hK; simp only [Act.put, List.setIfInBounds_toArray, List.set_cons_succ, List.set_cons_zero]
      have hI := st.take 2
      refine lex_only 5 rfl (by decide +kernel) (wanted_none rfl) fun K hK => ?_
      refine wp_callee (f := 21) (by first | (go_simp; done) | (go_simp; rfl)) ?_
      refine (HN.out _ st.below).mono ?_
      rintro e v5 ⟨a5, k5, rfl, hb5, -⟩
      refine ⟨_, rfl, ?_⟩
      replace st := st.call hb5
      clear hb5
      refine hK _ _ (st.take 2) ?_; clear hK; simp only [Act.put, List.setIfInBounds_toArray, List.set_cons_succ, List.set_cons_zero]
      have hI := st.take 2
      refine lex_take 8 rfl (by decide +kernel) (wanted_none rfl) hI (fun W hW => by first | (go_simp; done) | (go_simp; rfl)) ?_; simp only [Act.put, List.setIfInBounds_toArray, List.set_cons_succ, List.set_cons_zero]
      refine lex_only 10 rfl (by decide +kernel) (wanted_none rfl) fun K hK => ?_
      refine wp_store' st 42 _ _ rfl _ Try.sizeOf42 ⟨2, _, _, _, _, _, rfl, rfl, rfl, rfl, rfl, rfl, ?_⟩; clear st; intro w7 st hw7m hw7z; simp [Act.eval, Act.put, Value.cells, putL] at st
      refine hK _ _ (st.take 2) ?_; clear hK; simp only [Act.put, List.setIfInBounds_toArray, List.set_cons_succ, List.set_cons_zero]
      have hI := st.take 2
      refine lex_done (by decide +kernel) ?_
      go_wp2_with (first | go_skip | ((first | refine mem_load' st 39 _ rfl (wanted_none rfl) Try.isAgg39 ?_ | (refine mem_load' st 39 _ rfl (wanted_some rfl ?_) Try.isAgg39 ?_; focus (simp [yielded, Act.put]; done))); refine ⟨1, _, _, _, _, _, rfl, rfl, rfl, ?_⟩))
      refine wp_loop_rounds 1 ?_
      rw [rounds_succ]
      go_wp2_with (first | go_skip | ((first | refine mem_load' st 40 _ rfl (wanted_none rfl) Try.isAgg40 ?_ | (refine mem_load' st 40 _ rfl (wanted_some rfl ?_) Try.isAgg40 ?_; focus (simp [yielded, Act.put]; done))); refine ⟨1, _, _, _, _, _, rfl, rfl, rfl, ?_⟩))
      refine wp_loop_rounds 1 ?_
      rw [rounds_succ]
      go_wp2_with (first | go_skip | ((first | refine mem_load_agg' st 42 _ rfl (wanted_none rfl) Try.isAgg42 _ Try.sizeOf42 ?_ | (refine mem_load_agg' st 42 _ rfl (wanted_some rfl ?_) Try.isAgg42 _ Try.sizeOf42 ?_; focus (simp [yielded, Act.put]; done))); refine ⟨2, _, _, _, _, _, rfl, rfl, rfl, rfl, ?_⟩) | ((first | refine mem_store' st 42 _ _ rfl (wanted_none rfl) _ Try.sizeOf42 ?_ | (refine mem_store' st 42 _ _ rfl (wanted_some rfl ?_) _ Try.sizeOf42 ?_; focus (simp [yielded, Act.put]; done))); refine ⟨0, _, _, _, _, _, rfl, rfl, rfl, rfl, rfl, rfl, ?_⟩; clear st; intro w8 st hw8m hw8z; simp [Act.eval, Act.put, Value.cells, putL] at st))
      have hc := fun j => st.cell (i := 0) rfl j
      refine bodyPost_ret (v := .agg #[.slice a4 0 k4, .slice a5 1 k5, .string ⟨#[]⟩, .slice none 0 0, .slice none 0 0]) (by simp [results, Try.results10, go_sem, hc]; try rfl) rfl ⟨_, _, _, rfl, st.below⟩
  · refine wp_alloc st 42 rfl _ Try.zeroValue42 _ rfl ?_; clear st; intro g6 w6 hg6 st hg6b; simp [Act.eval, Act.put, Value.cells, putL] at st
    refine hK _ _ (st.take 2) ?_; clear hK; simp only [Act.put, List.setIfInBounds_toArray, List.set_cons_succ, List.set_cons_zero]
    have hI := st.take 2
    refine lex_only 2 rfl (by decide +kernel) (wanted_none rfl) fun K hK => ?_
    refine wp_callee (f := 20) (by first | (go_simp; done) | (go_simp; rfl)) ?_
    refine (HL.out _).mono ?_
    rintro e v4 ⟨a4, k4, rfl, hb4, -⟩
    refine ⟨_, rfl, ?_⟩
    replace st := st.call hb4
    clear hb4
    refine hK _ _ (st.take 2) ?_; clear hK; simp only [Act.put, List.setIfInBounds_toArray, List.set_cons_succ, List.set_cons_zero]
    have hI := st.take 2
    refine lex_only 5 rfl (by decide +kernel) (wanted_none rfl) fun K hK => ?_
    refine wp_callee (f := 21) (by first | (go_simp; done) | (go_simp; rfl)) ?_
    refine (HN.out _ st.below).mono ?_
    rintro e v5 ⟨a5, k5, rfl, hb5, -⟩
    refine ⟨_, rfl, ?_⟩
    replace st := st.call hb5
    clear hb5
    refine hK _ _ (st.take 2) ?_; clear hK; simp only [Act.put, List.setIfInBounds_toArray, List.set_cons_succ, List.set_cons_zero]
    have hI := st.take 2
    refine lex_take 8 rfl (by decide +kernel) (wanted_none rfl) hI (fun W hW => by first | (go_simp; done) | (go_simp; rfl)) ?_; simp only [Act.put, List.setIfInBounds_toArray, List.set_cons_succ, List.set_cons_zero]
    refine lex_only 10 rfl (by decide +kernel) (wanted_none rfl) fun K hK => ?_
    refine wp_store' st 42 _ _ rfl _ Try.sizeOf42 ⟨2, _, _, _, _, _, rfl, rfl, rfl, rfl, rfl, rfl, ?_⟩; clear st; intro w7 st hw7m hw7z; simp [Act.eval, Act.put, Value.cells, putL] at st
    refine hK _ _ (st.take 2) ?_; clear hK; simp only [Act.put, List.setIfInBounds_toArray, List.set_cons_succ, List.set_cons_zero]
    have hI := st.take 2
    refine lex_done (by decide +kernel) ?_
    go_wp2_with (first | go_skip | ((first | refine mem_load' st 39 _ rfl (wanted_none rfl) Try.isAgg39 ?_ | (refine mem_load' st 39 _ rfl (wanted_some rfl ?_) Try.isAgg39 ?_; focus (simp [yielded, Act.put]; done))); refine ⟨1, _, _, _, _, _, rfl, rfl, rfl, ?_⟩))
    refine wp_loop_rounds 1 ?_
    rw [rounds_succ]
    go_wp2_with (first | go_skip | ((first | refine mem_load' st 40 _ rfl (wanted_none rfl) Try.isAgg40 ?_ | (refine mem_load' st 40 _ rfl (wanted_some rfl ?_) Try.isAgg40 ?_; focus (simp [yielded, Act.put]; done))); refine ⟨1, _, _, _, _, _, rfl, rfl, rfl, ?_⟩))
    refine wp_loop_rounds 1 ?_
    rw [rounds_succ]
    go_wp2_with (first | go_skip | ((first | refine mem_load_agg' st 42 _ rfl (wanted_none rfl) Try.isAgg42 _ Try.sizeOf42 ?_ | (refine mem_load_agg' st 42 _ rfl (wanted_some rfl ?_) Try.isAgg42 _ Try.sizeOf42 ?_; focus (simp [yielded, Act.put]; done))); refine ⟨2, _, _, _, _, _, rfl, rfl, rfl, rfl, ?_⟩) | ((first | refine mem_store' st 42 _ _ rfl (wanted_none rfl) _ Try.sizeOf42 ?_ | (refine mem_store' st 42 _ _ rfl (wanted_some rfl ?_) _ Try.sizeOf42 ?_; focus (simp [yielded, Act.put]; done))); refine ⟨0, _, _, _, _, _, rfl, rfl, rfl, rfl, rfl, rfl, ?_⟩; clear st; intro w8 st hw8m hw8z; simp [Act.eval, Act.put, Value.cells, putL] at st))
    have hc := fun j => st.cell (i := 0) rfl j
    refine bodyPost_ret (v := .agg #[.slice a4 0 k4, .slice a5 1 k5, .string ⟨#[]⟩, .slice none 0 0, .slice none 0 0]) (by simp [results, Try.results10, go_sem, hc]; try rfl) rfl ⟨_, _, _, rfl, st.below⟩

set_option maxRecDepth 100000 in
set_option maxHeartbeats 3000000 in
theorem calls_yes (w : World) : Calls Try.prog 11 #[] w fun e w' => e = .returned (.bool true) ∧ Below w.heap.size w w' := by
  have hf1 : ∀ W : World, (Instr.field 35 (.agg #[.int .i64 0, .int .i64 40, .string ⟨#[]⟩]) 1).run Try.prog W = .ok (.int .i64 40) W := fun _ => by kernel_rfl
  have hf2 : ∀ (v : Value) (a' : Option Addr) (k' : Nat) (W : World), (Instr.field 42 (.agg #[v, .slice a' 1 k', .string ⟨#[]⟩, .slice none 0 0, .slice none 0 0]) 1).run Try.prog W = .ok (.slice a' 1 k') W := fun _ _ _ _ => by kernel_rfl
  have st := St.start w
  go_enter Try.func11, Try.ntmps11
  go_wp2_with (first
    | go_skip
    | (go_at_call 32; go_must (refine (kernel_New2 _).mono ?_; rintro e v1 ⟨g, rfl, hg, st1⟩; replace st := st.join st1; simp only [List.nil_append] at st; clear st1))
    | (go_at_call 7; go_must (have lg := st.ltAt (i := 0) rfl; refine (call_first _ g (st.blk _ (List.mem_of_getElem? (i := 0) rfl))).mono ?_; rintro e v2 ⟨a, k, rfl, st2, hO⟩; replace st := st.callM (i := 0) rfl st2; simp only [List.set_cons_zero] at st))
    | (go_at_call 10; go_must (refine (thread_first _ g a k (st.blk _ (List.mem_of_getElem? (i := 0) rfl)) 40 (hO.slr fun b hb => by omega)).mono ?_; rintro e v3 ⟨v, a', k', rfl, hb3⟩; replace st := st.call hb3; clear hb3)))
  go_ret
  exact ⟨rfl, st.below⟩

end Go.Proofs.Ytikfjmcgoamdlaa
