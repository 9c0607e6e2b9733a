/- In whatever order the first eight numbers come, each is taken, and not again. No condition. -/
import Derived.Test.YtclocdhkpckolaaRows
import Derived.Test.YtclocdhkpckolaaTurned
import Derived.Test.YtclocdhkpckolaaTwo
import Derived.Test.YtclocdhkpckolaaPick
import Derived.Test.YtclocdhkpckolaaTakeM
import Derived.Test.YtclocdhkpckolaaLines
import Derived.Test.YtclocdhkpckolaaOpens
import Derived.SizedLaws
set_option linter.unusedSimpArgs false
set_option linter.unusedVariables false
namespace Go.Proofs.Ytclocdhkpckolaa.lineTurned
open Go.ChangeShapes Go.WideShapes Go.ChangeAt Go.RowKit

set_option maxRecDepth 20000 in
set_option maxHeartbeats 4000000 in
theorem walk (w : World) (order : List Int) (qa : Option Addr) (qc : Nat) (hQ : SlR (fun _ => True) w 1 RInt qa qc order) (hql : order.length * 8 ≤ 140737488351232) (hqf : ∀ x ∈ order, fitI x) :
    Calls Try.prog 6 #[.slice qa order.length qc] w fun r w' => r = .returned (.bool true) ∧ Below w.heap.size w w' := by
  have hsl : order.length ≤ 9223372036854775807 := by omega
  obtain ⟨i0, hi0, hz0, hz1, hz2⟩ := info_parts info_int
  have st := St.start w
  go_enter Try.func6, Try.ntmps6
  go_wp2_with (first | go_skip | (refine mem_alloc st (wanted_none rfl) 25 rfl _ Try.zeroValue25 _ rfl ?_; clear st; intro gl w1 hgl st hglb; clear hglb; simp [Act.eval, Act.put, Value.cells, putL] at st))
  have hbA := (Below.refl w1.heap.size w1).alloc (Nat.le_refl _) (Obj.cells #[.int .i64 1, .int .i64 2, .int .i64 3, .int .i64 4, .int .i64 5, .int .i64 6, .int .i64 7, .int .i64 8] 3)
  have hgl := st.ltAt (i := 0) rfl
  have hL0 : SlR (fun b => b ≠ gl) (w1.alloc (Obj.cells #[.int .i64 1, .int .i64 2, .int .i64 3, .int .i64 4, .int .i64 5, .int .i64 6, .int .i64 7, .int .i64 8] 3)) 1 RInt (some ⟨w1.heap.size, 0, none⟩) 8 [1, 2, 3, 4, 5, 6, 7, 8] :=
    slr_ints (heap_alloc_new w1 _) (by omega)
  replace st := st.call hbA
  clear hbA
  generalize w1.heap.size = gb at hL0 ⊢
  generalize w1.alloc (Obj.cells #[.int .i64 1, .int .i64 2, .int .i64 3, .int .i64 4, .int .i64 5, .int .i64 6, .int .i64 7, .int .i64 8] 3) = wA at st hL0 ⊢
  go_loopw [4, 5] (fun vl vi wr => ∃ (left : List Int) (la : Option Addr) (lc i : Nat) (high : Int) (e : Eight), vl = .slice la left.length lc ∧ vi = .int .i64 i ∧ i + left.length = 8 ∧ TurnInv left high e ∧ SlR (fun b => b ≠ gl) wr 1 RInt la lc left ∧ St [] w wr [(gl, 25, [.int .i64 0, .slice none 0 0, .int .i64 high, .bool e.s0, .bool e.s1, .bool e.s2, .bool e.s3, .bool e.s4, .bool e.s5, .bool e.s6, .bool e.s7])]) (fun _ vi _ => 8 - (intOf vi).toNat)
  case atStart => exact ⟨_, _, _, 0, 0, ⟨false, false, false, false, false, false, false, false⟩, rfl, rfl, rfl, TurnInv.start, hL0, st⟩
  case round =>
    clear st hL0
    obtain ⟨left, la, lc, i, high, e, rfl, rfl, hi, hI, hL, st⟩ := hrel
    by_cases hne : left = []
    · subst hne
      obtain rfl := hI.done
      have d0 : decide ((0 : Int) < (([] : List Int).length : Int)) = false := rfl
      go_wp2_with (first | go_skip | ((first | refine mem_load' st 3 _ rfl (wanted_none rfl) Try.isAgg3 ?_ | (refine mem_load' st 3 _ rfl (wanted_some rfl ?_) Try.isAgg3 ?_; focus (simp [yielded, Act.put]; done))); refine ⟨0, _, _, _, _, _, rfl, rfl, rfl, ?_⟩) | (go_at_call 21; refine (keep_lines_yes _).mono ?_; rintro x v9 ⟨rfl, hb9⟩))
      go_ret
      exact ⟨rfl, st.below.keep hb9⟩
    · have hpos : 0 < left.length := List.length_pos_iff.2 hne
      have d0 : decide ((0 : Int) < (left.length : Int)) = true := by simp; omega
      have hlo := hI.lo
      have hhi := hI.hi
      by_cases hio : i < order.length
      · have d1 : decide ((i : Int) < order.length) = true := by simp; omega
        obtain ⟨qb, qo, hqa, hqb, hqc⟩ := hQ.int_at i hio
        replace hqc := (st.below.cell (p := ⟨qb, _, none⟩) hqb).trans hqc
        have hqfit := hqf _ (List.getElem_mem hio)
        subst hqa
        go_wp2_with (first | go_skip | (go_at_call 20; refine (keep_pick _ _ left.length (by omega) (by omega) hqfit).mono ?_; rintro x v2 ⟨⟨p, rfl, hp1, hp2⟩, rfl⟩; refine RowKit.Hid.out ?_))
        refine Lib.hid ?_
        obtain ⟨k, rfl⟩ : ∃ k : Nat, p = k := ⟨p.toNat, by omega⟩
        have hk : k < left.length := by omega
        clear hqc
        go_wp2_with fail
        obtain ⟨h', e', ht1, ht2, hI'⟩ := turn_step hI hk
        obtain ⟨lb, lo, rfl, hlb, hcell⟩ := hL.int_at k hk
        have hx1 := hI.rng _ (List.getElem_mem hk)
        generalize left[k] = x0 at ht1 ht2 hcell hx1
        have HT1 : Hid (∀ W, Calls Try.prog 18 #[.agg #[.int .i64 0, .slice none 0 0, .int .i64 high, .bool e.s0, .bool e.s1, .bool e.s2, .bool e.s3, .bool e.s4, .bool e.s5, .bool e.s6, .bool e.s7], .int .i64 x0] W fun v w' => v = .returned (.tuple #[.agg #[.int .i64 0, .slice none 0 0, .int .i64 h', .bool e'.s0, .bool e'.s1, .bool e'.s2, .bool e'.s3, .bool e'.s4, .bool e'.s5, .bool e'.s6, .bool e'.s7], .int .i64 0]) ∧ Below W.heap.size W w') := Lib.hid fun W => line_Take (fun _ => True) W 0 high none 0 [] e x0 (SlR.nil _ _ _ _) true (lineOk_none hlo hhi) _ ht1
        have HT2 : Hid (∀ W, Calls Try.prog 18 #[.agg #[.int .i64 0, .slice none 0 0, .int .i64 h', .bool e'.s0, .bool e'.s1, .bool e'.s2, .bool e'.s3, .bool e'.s4, .bool e'.s5, .bool e'.s6, .bool e'.s7], .int .i64 x0] W fun v w' => v = .returned (.tuple #[.agg #[.int .i64 0, .slice none 0 0, .int .i64 h', .bool e'.s0, .bool e'.s1, .bool e'.s2, .bool e'.s3, .bool e'.s4, .bool e'.s5, .bool e'.s6, .bool e'.s7], .int .i64 10]) ∧ Below W.heap.size W w') := Lib.hid fun W => line_Take (fun _ => True) W 0 h' none 0 [] e' x0 (SlR.nil _ _ _ _) true (lineOk_none hI'.lo hI'.hi) _ ht2
        clear ht1 ht2
        have hlb0 := hlb
        try simp only [Act.put, List.setIfInBounds_toArray, List.set_cons_succ, List.set_cons_zero]
        refine wp_region_ghost (by kernel_rfl) [(0, some 29), (1, some 30), (2, some 31), (3, some 32), (4, some 33), (5, some 34), (6, some 28), (7, some 35), (8, some 36), (9, some 7), (10, none), (11, some 8)] [0, 1, 2, 3, 4, 5, 6, 7, 8, 9, 10, 11] rfl 0 (by decide +kernel) rfl (Two.Rel 9 10 99 98) (fun i v s W => match i with
          | 0 => v = .agg #[.int .i64 0, .slice none 0 0, .int .i64 high, .bool e.s0, .bool e.s1, .bool e.s2, .bool e.s3, .bool e.s4, .bool e.s5, .bool e.s6, .bool e.s7]
          | 1 => v = .slice (some ⟨lb, lo, none⟩) left.length lc
          | 2 => v = .int .i64 (k : Int)
          | 3 => v = .pointer (some ⟨lb, lo + k, none⟩)
          | 4 => v = .int .i64 x0
          | 5 => v = .tuple #[.agg #[.int .i64 0, .slice none 0 0, .int .i64 h', .bool e'.s0, .bool e'.s1, .bool e'.s2, .bool e'.s3, .bool e'.s4, .bool e'.s5, .bool e'.s6, .bool e'.s7], .int .i64 0]
          | 6 => v = .tuple #[.agg #[.int .i64 0, .slice none 0 0, .int .i64 h', .bool e'.s0, .bool e'.s1, .bool e'.s2, .bool e'.s3, .bool e'.s4, .bool e'.s5, .bool e'.s6, .bool e'.s7], .int .i64 0]
          | 7 => v = .agg #[.int .i64 0, .slice none 0 0, .int .i64 h', .bool e'.s0, .bool e'.s1, .bool e'.s2, .bool e'.s3, .bool e'.s4, .bool e'.s5, .bool e'.s6, .bool e'.s7]
          | 8 => v = .int .i64 0
          | 9 => ∃ g c, v = .pointer (some ⟨g, 0, none⟩) ∧ s.1 = some (g, c) ∧ c.length = 11
          | 10 => ∃ g, s.1 = some (g, [.int .i64 0, .slice none 0 0, .int .i64 h', .bool e'.s0, .bool e'.s1, .bool e'.s2, .bool e'.s3, .bool e'.s4, .bool e'.s5, .bool e'.s6, .bool e'.s7])
          | _ => v = .int .i64 0)
          (fun s W => St [] wr W (s.own 25 25)) (none, none) (St.start wr).drew ?mono ?step ?fin
        case mono =>
          intro i k' v s W s' W' hi hk hne hp hr hI hI' h
          simp only [List.mem_cons, List.not_mem_nil, or_false] at hi
          rcases hi with rfl | rfl | rfl | rfl | rfl | rfl | rfl | rfl | rfl | rfl | rfl | rfl
          case inr.inr.inr.inr.inr.inr.inr.inr.inr.inl => obtain ⟨g, c, e, h1, h2⟩ := h; obtain ⟨c', h3, h4⟩ := hr.one' hne.symm g c h1; exact ⟨g, c', e, h3, h4.trans h2⟩
          case inr.inr.inr.inr.inr.inr.inr.inr.inr.inr.inl => obtain ⟨g, e⟩ := h; exact ⟨g, (hr.one (fun e => hp (by rw [e]; decide +kernel)) hne.symm).trans e⟩
          all_goals exact h
        case step =>
          intro i t hi x s W hI hp K hK
          simp only [List.mem_cons, List.not_mem_nil, or_false, Prod.mk.injEq] at hi
          have stW := st.call hI.below
          have hcW := (hI.below.cell (p := ⟨lb, lo + k, none⟩) hlb).trans hcell
          rcases hi with ⟨rfl, rfl⟩ | ⟨rfl, rfl⟩ | ⟨rfl, rfl⟩ | ⟨rfl, rfl⟩ | ⟨rfl, rfl⟩ | ⟨rfl, rfl⟩ | ⟨rfl, rfl⟩ | ⟨rfl, rfl⟩ | ⟨rfl, rfl⟩ | ⟨rfl, rfl⟩ | ⟨rfl, rfl⟩ | ⟨rfl, rfl⟩
          all_goals simp only [putAll, Act.put, List.setIfInBounds_toArray, List.set_cons_succ, List.set_cons_zero] at hK ⊢
          all_goals refine wpOp_at rfl rfl ?_
          · exact wp_load_agg' stW 25 _ rfl Try.isAgg25 _ Try.sizeOf25 ⟨0, gl, 0, _, _, _, rfl, rfl, rfl, rfl, hK _ s _ (.below (Below.refl _ _)) hI rfl⟩
          · exact wp_value (v := .slice (some ⟨lb, lo, none⟩) left.length lc) (by go_simp) (hK _ s _ (.below (Below.refl _ _)) hI rfl)
          · exact wp_value (v := .int .i64 (k : Int)) (by go_simp) (hK _ s _ (.below (Below.refl _ _)) hI rfl)
          · have p1 : x 1 = _ := hp 1 (by decide +kernel)
            have p2 : x 2 = _ := hp 2 (by decide +kernel)
            simp only [p1, p2] at hK ⊢
            exact wp_value (v := .pointer (some ⟨lb, lo + k, none⟩)) (by go_simp) (hK _ s _ (.below (Below.refl _ _)) hI rfl)
          · have p3 : x 3 = _ := hp 3 (by decide +kernel)
            simp only [p3] at hK ⊢
            exact wp_value (v := .int .i64 x0) (by go_simp) (hK _ s _ (.below (Below.refl _ _)) hI rfl)
          · have p0 : x 0 = _ := hp 0 (by decide +kernel)
            have p4 : x 4 = _ := hp 4 (by decide +kernel)
            simp only [p0, p4] at hK ⊢
            go_simp
            refine (HT1.out W).mono ?_
            rintro r u1 ⟨rfl, hb1⟩
            exact hK _ s _ (.below hb1) (hI.call hb1) rfl
          · have p5 : x 5 = _ := hp 5 (by decide +kernel)
            simp only [p5] at hK ⊢
            exact wp_value (v := .tuple #[.agg #[.int .i64 0, .slice none 0 0, .int .i64 h', .bool e'.s0, .bool e'.s1, .bool e'.s2, .bool e'.s3, .bool e'.s4, .bool e'.s5, .bool e'.s6, .bool e'.s7], .int .i64 0]) (by go_simp) (hK _ s _ (.below (Below.refl _ _)) hI rfl)
          · have p6 : x 6 = _ := hp 6 (by decide +kernel)
            simp only [p6] at hK ⊢
            exact wp_value (v := .agg #[.int .i64 0, .slice none 0 0, .int .i64 h', .bool e'.s0, .bool e'.s1, .bool e'.s2, .bool e'.s3, .bool e'.s4, .bool e'.s5, .bool e'.s6, .bool e'.s7]) (by go_simp) (hK _ s _ (.below (Below.refl _ _)) hI rfl)
          · have p6 : x 6 = _ := hp 6 (by decide +kernel)
            simp only [p6] at hK ⊢
            exact wp_value (v := .int .i64 0) (by go_simp) (hK _ s _ (.below (Below.refl _ _)) hI rfl)
          · exact Two.alloc1 9 10 99 98 hI rfl _ Try.zeroValue25 _ rfl fun g W' h1 h2 => hK _ _ _ h1 h2 ⟨g, _, rfl, rfl, rfl⟩
          · have p7 : x 7 = _ := hp 7 (by decide +kernel)
            obtain ⟨g, c', p9, h9, h10⟩ := hp 9 (by decide +kernel)
            simp only [p7, p9] at hK ⊢
            exact Two.store1 9 10 99 98 hI 25 _ _ rfl _ Try.sizeOf25 g c' h9 rfl _ rfl rfl h10 rfl fun W' h1 h2 => hK undef _ _ h1 h2 ⟨g, rfl⟩
          · have p8 : x 8 = _ := hp 8 (by decide +kernel)
            simp only [p8] at hK ⊢
            exact wp_value (v := .int .i64 0) (by go_simp) (hK _ s _ (.below (Below.refl _ _)) hI rfl)
        case fin =>
          intro x s wb hI hG
          obtain ⟨g7, c8, p9, q9, _⟩ := hG 9 (by simp)
          obtain ⟨g7', q10⟩ := hG 10 (by simp)
          have p11 : x 11 = _ := hG 11 (by simp)
          obtain rfl : g7 = g7' := by rw [q9] at q10; simp at q10; exact q10.1
          clear q9 hG
          have hBr := hI.below
          have stI := hI.sub (own' := [(g7, 25, [.int .i64 0, .slice none 0 0, .int .i64 h', .bool e'.s0, .bool e'.s1, .bool e'.s2, .bool e'.s3, .bool e'.s4, .bool e'.s5, .bool e'.s6, .bool e'.s7])]) (by simp [Two.own, q10]) (by simp)
          replace st := st.join stI
          simp only [List.cons_append, List.nil_append] at st
          replace hcell := (hBr.cell (p := ⟨lb, lo + k, none⟩) hlb).trans hcell
          replace hlb := Nat.lt_of_lt_of_le hlb hBr.size
          replace hL := hL.below hBr
          simp only [putAll, Act.put, List.setIfInBounds_toArray, List.set_cons_succ, List.set_cons_zero, p9, p11]
          refine wpAny_done (by decide +kernel) ?_ 0
          clear hI hBr stI p9 p11 q10
          have hWsz := st.size
          go_wp2_with fail
          try simp only [Act.put, List.setIfInBounds_toArray, List.set_cons_succ, List.set_cons_zero]
          refine wp_region_ghost (by kernel_rfl) [(0, some 40), (1, some 41), (2, some 42), (3, some 43), (4, some 44), (5, some 45), (6, some 39), (7, some 46), (8, some 47), (9, some 9), (10, none), (11, some 10)] [0, 1, 2, 3, 4, 5, 6, 7, 8, 9, 10, 11] rfl 0 (by decide +kernel) rfl (Two.Rel 9 10 99 98) (fun i v s W => match i with
            | 0 => v = .agg #[.int .i64 0, .slice none 0 0, .int .i64 h', .bool e'.s0, .bool e'.s1, .bool e'.s2, .bool e'.s3, .bool e'.s4, .bool e'.s5, .bool e'.s6, .bool e'.s7]
            | 1 => v = .slice (some ⟨lb, lo, none⟩) left.length lc
            | 2 => v = .int .i64 (k : Int)
            | 3 => v = .pointer (some ⟨lb, lo + k, none⟩)
            | 4 => v = .int .i64 x0
            | 5 => v = .tuple #[.agg #[.int .i64 0, .slice none 0 0, .int .i64 h', .bool e'.s0, .bool e'.s1, .bool e'.s2, .bool e'.s3, .bool e'.s4, .bool e'.s5, .bool e'.s6, .bool e'.s7], .int .i64 10]
            | 6 => v = .tuple #[.agg #[.int .i64 0, .slice none 0 0, .int .i64 h', .bool e'.s0, .bool e'.s1, .bool e'.s2, .bool e'.s3, .bool e'.s4, .bool e'.s5, .bool e'.s6, .bool e'.s7], .int .i64 10]
            | 7 => v = .agg #[.int .i64 0, .slice none 0 0, .int .i64 h', .bool e'.s0, .bool e'.s1, .bool e'.s2, .bool e'.s3, .bool e'.s4, .bool e'.s5, .bool e'.s6, .bool e'.s7]
            | 8 => v = .int .i64 10
            | 9 => ∃ g c, v = .pointer (some ⟨g, 0, none⟩) ∧ s.1 = some (g, c) ∧ c.length = 11
            | 10 => ∃ g, s.1 = some (g, [.int .i64 0, .slice none 0 0, .int .i64 h', .bool e'.s0, .bool e'.s1, .bool e'.s2, .bool e'.s3, .bool e'.s4, .bool e'.s5, .bool e'.s6, .bool e'.s7])
            | _ => v = .int .i64 10)
            (fun s W => St [] wb W (s.own 25 25)) (none, none) (St.start wb).drew ?mono ?step ?fin
          case mono =>
            intro i k' v s W s' W' hi hk hne hp hr hI hI' h
            simp only [List.mem_cons, List.not_mem_nil, or_false] at hi
            rcases hi with rfl | rfl | rfl | rfl | rfl | rfl | rfl | rfl | rfl | rfl | rfl | rfl
            case inr.inr.inr.inr.inr.inr.inr.inr.inr.inl => obtain ⟨g, c, e, h1, h2⟩ := h; obtain ⟨c', h3, h4⟩ := hr.one' hne.symm g c h1; exact ⟨g, c', e, h3, h4.trans h2⟩
            case inr.inr.inr.inr.inr.inr.inr.inr.inr.inr.inl => obtain ⟨g, e⟩ := h; exact ⟨g, (hr.one (fun e => hp (by rw [e]; decide +kernel)) hne.symm).trans e⟩
            all_goals exact h
          case step =>
            intro i t hi x s W hI hp K hK
            simp only [List.mem_cons, List.not_mem_nil, or_false, Prod.mk.injEq] at hi
            have stW := st.call hI.below
            have hcW := (hI.below.cell (p := ⟨lb, lo + k, none⟩) hlb).trans hcell
            rcases hi with ⟨rfl, rfl⟩ | ⟨rfl, rfl⟩ | ⟨rfl, rfl⟩ | ⟨rfl, rfl⟩ | ⟨rfl, rfl⟩ | ⟨rfl, rfl⟩ | ⟨rfl, rfl⟩ | ⟨rfl, rfl⟩ | ⟨rfl, rfl⟩ | ⟨rfl, rfl⟩ | ⟨rfl, rfl⟩ | ⟨rfl, rfl⟩
            all_goals simp only [putAll, Act.put, List.setIfInBounds_toArray, List.set_cons_succ, List.set_cons_zero] at hK ⊢
            all_goals refine wpOp_at rfl rfl ?_
            · exact wp_load_agg' stW 25 _ rfl Try.isAgg25 _ Try.sizeOf25 ⟨1, g7, 0, _, _, _, rfl, rfl, rfl, rfl, hK _ s _ (.below (Below.refl _ _)) hI rfl⟩
            · exact wp_value (v := .slice (some ⟨lb, lo, none⟩) left.length lc) (by go_simp) (hK _ s _ (.below (Below.refl _ _)) hI rfl)
            · exact wp_value (v := .int .i64 (k : Int)) (by go_simp) (hK _ s _ (.below (Below.refl _ _)) hI rfl)
            · have p1 : x 1 = _ := hp 1 (by decide +kernel)
              have p2 : x 2 = _ := hp 2 (by decide +kernel)
              simp only [p1, p2] at hK ⊢
              exact wp_value (v := .pointer (some ⟨lb, lo + k, none⟩)) (by go_simp) (hK _ s _ (.below (Below.refl _ _)) hI rfl)
            · have p3 : x 3 = _ := hp 3 (by decide +kernel)
              simp only [p3] at hK ⊢
              exact wp_value (v := .int .i64 x0) (by go_simp) (hK _ s _ (.below (Below.refl _ _)) hI rfl)
            · have p0 : x 0 = _ := hp 0 (by decide +kernel)
              have p4 : x 4 = _ := hp 4 (by decide +kernel)
              simp only [p0, p4] at hK ⊢
              go_simp
              refine (HT2.out W).mono ?_
              rintro r u1 ⟨rfl, hb1⟩
              exact hK _ s _ (.below hb1) (hI.call hb1) rfl
            · have p5 : x 5 = _ := hp 5 (by decide +kernel)
              simp only [p5] at hK ⊢
              exact wp_value (v := .tuple #[.agg #[.int .i64 0, .slice none 0 0, .int .i64 h', .bool e'.s0, .bool e'.s1, .bool e'.s2, .bool e'.s3, .bool e'.s4, .bool e'.s5, .bool e'.s6, .bool e'.s7], .int .i64 10]) (by go_simp) (hK _ s _ (.below (Below.refl _ _)) hI rfl)
            · have p6 : x 6 = _ := hp 6 (by decide +kernel)
              simp only [p6] at hK ⊢
              exact wp_value (v := .agg #[.int .i64 0, .slice none 0 0, .int .i64 h', .bool e'.s0, .bool e'.s1, .bool e'.s2, .bool e'.s3, .bool e'.s4, .bool e'.s5, .bool e'.s6, .bool e'.s7]) (by go_simp) (hK _ s _ (.below (Below.refl _ _)) hI rfl)
            · have p6 : x 6 = _ := hp 6 (by decide +kernel)
              simp only [p6] at hK ⊢
              exact wp_value (v := .int .i64 10) (by go_simp) (hK _ s _ (.below (Below.refl _ _)) hI rfl)
            · exact Two.alloc1 9 10 99 98 hI rfl _ Try.zeroValue25 _ rfl fun g W' h1 h2 => hK _ _ _ h1 h2 ⟨g, _, rfl, rfl, rfl⟩
            · have p7 : x 7 = _ := hp 7 (by decide +kernel)
              obtain ⟨g, c', p9, h9, h10⟩ := hp 9 (by decide +kernel)
              simp only [p7, p9] at hK ⊢
              exact Two.store1 9 10 99 98 hI 25 _ _ rfl _ Try.sizeOf25 g c' h9 rfl _ rfl rfl h10 rfl fun W' h1 h2 => hK undef _ _ h1 h2 ⟨g, rfl⟩
            · have p8 : x 8 = _ := hp 8 (by decide +kernel)
              simp only [p8] at hK ⊢
              exact wp_value (v := .int .i64 10) (by go_simp) (hK _ s _ (.below (Below.refl _ _)) hI rfl)
          case fin =>
            intro x s W hI hG
            obtain ⟨g9, c8, p9, q9, _⟩ := hG 9 (by simp)
            obtain ⟨g9', q10⟩ := hG 10 (by simp)
            have p11 : x 11 = _ := hG 11 (by simp)
            obtain rfl : g9 = g9' := by rw [q9] at q10; simp at q10; exact q10.1
            clear q9 hG
            have hBr := hI.below
            have stI := hI.sub (own' := [(g9, 25, [.int .i64 0, .slice none 0 0, .int .i64 h', .bool e'.s0, .bool e'.s1, .bool e'.s2, .bool e'.s3, .bool e'.s4, .bool e'.s5, .bool e'.s6, .bool e'.s7])]) (by simp [Two.own, q10]) (by simp)
            replace st := st.join stI
            simp only [List.cons_append, List.nil_append] at st
            replace hcell := (hBr.cell (p := ⟨lb, lo + k, none⟩) hlb).trans hcell
            replace hlb := Nat.lt_of_lt_of_le hlb hBr.size
            replace hL := hL.below hBr
            simp only [putAll, Act.put, List.setIfInBounds_toArray, List.set_cons_succ, List.set_cons_zero, p9, p11]
            refine wpAny_done (by decide +kernel) ?_ 0
            clear hI hBr stI p9 p11 q10
            go_wp2_with (first | go_skip | ((first | refine mem_load_agg' st 25 _ rfl (wanted_none rfl) Try.isAgg25 _ Try.sizeOf25 ?_ | (refine mem_load_agg' st 25 _ rfl (wanted_some rfl ?_) Try.isAgg25 _ Try.sizeOf25 ?_; focus (simp [yielded, Act.put]; done))); refine ⟨1, _, _, _, _, _, rfl, rfl, rfl, rfl, ?_⟩) | ((first | refine mem_store' st 25 _ _ rfl (wanted_none rfl) _ Try.sizeOf25 ?_ | (refine mem_store' st 25 _ _ rfl (wanted_some rfl ?_) _ Try.sizeOf25 ?_; focus (simp [yielded, Act.put]; done))); refine ⟨0, _, _, _, _, _, rfl, rfl, rfl, rfl, rfl, rfl, ?_⟩; clear st; intro w9 st hw9m hw9z; simp [Act.eval, Act.put, Value.cells, putL] at st))
            replace hL := SlR.move (ok' := fun b => b ≠ gl) hL (Nat.le_of_eq hw9z.symm) (fun b _ ho => ⟨ho, hw9m b ho⟩) fun _ _ h => h
            have hs9 := st.size
            try simp only [Act.put, List.setIfInBounds_toArray, List.set_cons_succ, List.set_cons_zero]
            refine wp_region_ahead (by kernel_rfl) [(0, some 51), (1, some 52), (2, some 53), (3, some 54), (4, some 55), (5, some 56), (6, some 57), (7, some 58)] [0, 1, 2, 3, 4, 5, 6, 7] rfl 2 (by decide +kernel) rfl (fun w w' => Below w.heap.size w w') (fun i v W => match i with
              | 0 => v = .slice (some ⟨lb, lo, none⟩) left.length lc
              | 1 => v = .int .i64 (k : Int)
              | 2 => v = .slice (some ⟨lb, lo, none⟩) k lc
              | 3 => ∃ a c, v = .slice a k c ∧ Own w9.heap.size 3 W 1 RInt a c (left.take k)
              | 4 => v = .slice (some ⟨lb, lo, none⟩) left.length lc
              | 5 => v = .int .i64 (k : Int)
              | 6 => v = .int .i64 ((k : Int) + 1)
              | _ => v = .slice (if lc = k + 1 then some ⟨lb, lo, none⟩ else some ⟨lb, lo + (k + 1), none⟩) (left.length - (k + 1)) (lc - (k + 1)))
              (fun W => Below w9.heap.size w9 W) (Below.refl _ _).drew ?mono3 ?step3 ?fin3
            case mono3 =>
              intro i v U U' hi hb _ _ h
              simp only [List.mem_cons, List.not_mem_nil, or_false] at hi
              rcases hi with rfl | rfl | rfl | rfl | rfl | rfl | rfl | rfl
              case inr.inr.inr.inl => obtain ⟨a, c, e, h⟩ := h; exact ⟨a, c, e, h.below hb⟩
              all_goals exact h
            case step3 =>
              intro i t hi x W hI hp K hK
              simp only [List.mem_cons, List.not_mem_nil, or_false, Prod.mk.injEq] at hi
              have hIs := hI.size
              rcases hi with ⟨rfl, rfl⟩ | ⟨rfl, rfl⟩ | ⟨rfl, rfl⟩ | ⟨rfl, rfl⟩ | ⟨rfl, rfl⟩ | ⟨rfl, rfl⟩ | ⟨rfl, rfl⟩ | ⟨rfl, rfl⟩
              all_goals simp only [putAll, Act.put, List.setIfInBounds_toArray, List.set_cons_succ, List.set_cons_zero] at hK ⊢
              all_goals refine wpOp_at rfl rfl ?_
              · exact wp_value (v := .slice (some ⟨lb, lo, none⟩) left.length lc) (by go_simp) (hK _ _ (Below.refl _ _) hI rfl)
              · exact wp_value (v := .int .i64 (k : Int)) (by go_simp) (hK _ _ (Below.refl _ _) hI rfl)
              · have p0 : x 0 = _ := hp 0 (by decide +kernel)
                have p1 : x 1 = _ := hp 1 (by decide +kernel)
                simp only [p0, p1] at hK ⊢
                have hb2 : 0 ≤ (k : Int) ∧ (k : Int) ≤ (left.length : Int) := by omega
                have hb3 : ¬ lc < k := by have := hL.1; omega
                exact wp_value (v := .slice (some ⟨lb, lo, none⟩) k lc) (by go_simp) (hK _ _ (Below.refl _ _) hI rfl)
              · have p2 : x 2 = _ := hp 2 (by decide +kernel)
                refine wp_copy _ _ 28 rfl 3 i0 _ 1 8 Try.underlying28 hi0 hz0 hz1 hz2 rfl (by decide) rfl p2 (ys := left.take k) (by simp <;> omega) ((hL.take k).below hI) (by simp <;> omega) ?_
                intro a' c' W' hO hB
                exact hK _ _ hB (hI.keep hB) ⟨a', c', rfl, hO.le hIs⟩
              · exact wp_value (v := .slice (some ⟨lb, lo, none⟩) left.length lc) (by go_simp) (hK _ _ (Below.refl _ _) hI rfl)
              · exact wp_value (v := .int .i64 (k : Int)) (by go_simp) (hK _ _ (Below.refl _ _) hI rfl)
              · have p5 : x 5 = _ := hp 5 (by decide +kernel)
                have hwr : IntKind.i64.wrap (((k : Int) + 1)) = ((k : Int) + 1) := IntWalk.i64_in _ (by omega)
                simp only [p5] at hK ⊢
                exact wp_value (v := .int .i64 ((k : Int) + 1)) (by go_simp) (hK _ _ (Below.refl _ _) hI rfl)
              · have p4 : x 4 = _ := hp 4 (by decide +kernel)
                have p6 : x 6 = _ := hp 6 (by decide +kernel)
                simp only [p4, p6] at hK ⊢
                have hb7 : 0 ≤ ((k : Int) + 1) ∧ ((k : Int) + 1) ≤ (left.length : Int) := by omega
                exact wp_value (v := .slice (if lc = k + 1 then some ⟨lb, lo, none⟩ else some ⟨lb, lo + (k + 1), none⟩) (left.length - (k + 1)) (lc - (k + 1))) (by go_simp) (hK _ _ (Below.refl _ _) hI rfl)
            case fin3 =>
              intro x W hI hG
              obtain ⟨a3, c3, p3, hO3⟩ := hG 3 (by simp)
              have p7 : x 7 = _ := hG 7 (by simp)
              have hIs := hI.size
              have hD : SlR (fun b => b ≠ gl) W 1 RInt (if lc = k + 1 then some ⟨lb, lo, none⟩ else some ⟨lb, lo + (k + 1), none⟩) (lc - (k + 1)) (left.drop (k + 1)) := by
                split
                · rename_i hlc
                  have hln := hL.1
                  have hdn : left.drop (k + 1) = [] := List.drop_eq_nil_of_le (by omega)
                  rw [hdn]
                  exact ⟨Nat.zero_le _, by have := hL.2.1; omega, by simp, by simp⟩
                · have h := (hL.drop (k + 1)).below hI
                  rw [show lo + (k + 1) * 1 = lo + (k + 1) by omega] at h
                  exact h
              simp only [putAll, Act.put, List.setIfInBounds_toArray, List.set_cons_succ, List.set_cons_zero]
              refine wpAny_at (i := 8) rfl rfl (by decide +kernel) fun K hK => ?_
              refine wp_app _ _ 28 rfl 3 i0 _ 1 8 Try.underlying28 hi0 hz0 hz1 hz2 rfl (by decide) p3 (by simp <;> omega) hO3 p7 (by simp) hD (by simp <;> omega) (by simp [maxLen] <;> omega) (by omega) ?_
              intro a8 c8 W8 hO8 hgr _
              refine hK _ _ ?_
              clear hK
              simp only [Act.put, List.setIfInBounds_toArray, List.set_cons_succ, List.set_cons_zero]
              refine wpAny_at (i := 9) rfl rfl (by decide +kernel) fun K hK => ?_
              refine wp_value (w' := W8) (v := .slice a8 (k + (left.length - (k + 1))) c8) (by go_simp) (hK _ _ ?_)
              clear hK
              simp only [Act.put, List.setIfInBounds_toArray, List.set_cons_succ, List.set_cons_zero]
              refine wpAny_done (by decide +kernel) ?_ 0
              have st8 := (st.call hI).grownNew hgr (fun q e => by have := (hO3.blockLt q e).1; omega) (by
                intro y hy e
                have h1 := (hO3.blockLt _ e).1
                have h2 := st.lt hy
                omega)
              have hlen : (left.take k ++ left.drop (k + 1)).length = k + (left.length - (k + 1)) := by simp <;> omega
              go_wp2
              go_roundw
              case rel =>
                refine ⟨_, a8, c8, i + 1, h', e', by rw [hlen], by go_num, by rw [hlen]; omega, hI', (hO8.slr (ok := fun b => w9.heap.size ≤ b) fun _ h => h).okay fun b hb => ?_, st8.sub (by simp) (by simp)⟩
                have := st.ltAt (i := 0) rfl
                omega
              case measure => simp [intOf]; omega
      · have d1 : decide ((i : Int) < order.length) = false := by simp; omega
        have hk : 0 < left.length := hpos
        go_wp2_with fail
        obtain ⟨h', e', ht1, ht2, hI'⟩ := turn_step hI hk
        obtain ⟨lb, lo, rfl, hlb, hcell⟩ := hL.int_at 0 hk
        simp only [Nat.add_zero] at hcell
        have hx1 := hI.rng _ (List.getElem_mem hk)
        generalize left[0] = x0 at ht1 ht2 hcell hx1
        have HT1 : Hid (∀ W, Calls Try.prog 18 #[.agg #[.int .i64 0, .slice none 0 0, .int .i64 high, .bool e.s0, .bool e.s1, .bool e.s2, .bool e.s3, .bool e.s4, .bool e.s5, .bool e.s6, .bool e.s7], .int .i64 x0] W fun v w' => v = .returned (.tuple #[.agg #[.int .i64 0, .slice none 0 0, .int .i64 h', .bool e'.s0, .bool e'.s1, .bool e'.s2, .bool e'.s3, .bool e'.s4, .bool e'.s5, .bool e'.s6, .bool e'.s7], .int .i64 0]) ∧ Below W.heap.size W w') := Lib.hid fun W => line_Take (fun _ => True) W 0 high none 0 [] e x0 (SlR.nil _ _ _ _) true (lineOk_none hlo hhi) _ ht1
        have HT2 : Hid (∀ W, Calls Try.prog 18 #[.agg #[.int .i64 0, .slice none 0 0, .int .i64 h', .bool e'.s0, .bool e'.s1, .bool e'.s2, .bool e'.s3, .bool e'.s4, .bool e'.s5, .bool e'.s6, .bool e'.s7], .int .i64 x0] W fun v w' => v = .returned (.tuple #[.agg #[.int .i64 0, .slice none 0 0, .int .i64 h', .bool e'.s0, .bool e'.s1, .bool e'.s2, .bool e'.s3, .bool e'.s4, .bool e'.s5, .bool e'.s6, .bool e'.s7], .int .i64 10]) ∧ Below W.heap.size W w') := Lib.hid fun W => line_Take (fun _ => True) W 0 h' none 0 [] e' x0 (SlR.nil _ _ _ _) true (lineOk_none hI'.lo hI'.hi) _ ht2
        clear ht1 ht2
        have hlb0 := hlb
        try simp only [Act.put, List.setIfInBounds_toArray, List.set_cons_succ, List.set_cons_zero]
        refine wp_region_ghost (by kernel_rfl) [(0, some 29), (1, some 30), (2, some 31), (3, some 32), (4, some 33), (5, some 34), (6, some 28), (7, some 35), (8, some 36), (9, some 7), (10, none), (11, some 8)] [0, 1, 2, 3, 4, 5, 6, 7, 8, 9, 10, 11] rfl 0 (by decide +kernel) rfl (Two.Rel 9 10 99 98) (fun i v s W => match i with
          | 0 => v = .agg #[.int .i64 0, .slice none 0 0, .int .i64 high, .bool e.s0, .bool e.s1, .bool e.s2, .bool e.s3, .bool e.s4, .bool e.s5, .bool e.s6, .bool e.s7]
          | 1 => v = .slice (some ⟨lb, lo, none⟩) left.length lc
          | 2 => v = .int .i64 0
          | 3 => v = .pointer (some ⟨lb, lo, none⟩)
          | 4 => v = .int .i64 x0
          | 5 => v = .tuple #[.agg #[.int .i64 0, .slice none 0 0, .int .i64 h', .bool e'.s0, .bool e'.s1, .bool e'.s2, .bool e'.s3, .bool e'.s4, .bool e'.s5, .bool e'.s6, .bool e'.s7], .int .i64 0]
          | 6 => v = .tuple #[.agg #[.int .i64 0, .slice none 0 0, .int .i64 h', .bool e'.s0, .bool e'.s1, .bool e'.s2, .bool e'.s3, .bool e'.s4, .bool e'.s5, .bool e'.s6, .bool e'.s7], .int .i64 0]
          | 7 => v = .agg #[.int .i64 0, .slice none 0 0, .int .i64 h', .bool e'.s0, .bool e'.s1, .bool e'.s2, .bool e'.s3, .bool e'.s4, .bool e'.s5, .bool e'.s6, .bool e'.s7]
          | 8 => v = .int .i64 0
          | 9 => ∃ g c, v = .pointer (some ⟨g, 0, none⟩) ∧ s.1 = some (g, c) ∧ c.length = 11
          | 10 => ∃ g, s.1 = some (g, [.int .i64 0, .slice none 0 0, .int .i64 h', .bool e'.s0, .bool e'.s1, .bool e'.s2, .bool e'.s3, .bool e'.s4, .bool e'.s5, .bool e'.s6, .bool e'.s7])
          | _ => v = .int .i64 0)
          (fun s W => St [] wr W (s.own 25 25)) (none, none) (St.start wr).drew ?mono ?step ?fin
        case mono =>
          intro i k' v s W s' W' hi hk hne hp hr hI hI' h
          simp only [List.mem_cons, List.not_mem_nil, or_false] at hi
          rcases hi with rfl | rfl | rfl | rfl | rfl | rfl | rfl | rfl | rfl | rfl | rfl | rfl
          case inr.inr.inr.inr.inr.inr.inr.inr.inr.inl => obtain ⟨g, c, e, h1, h2⟩ := h; obtain ⟨c', h3, h4⟩ := hr.one' hne.symm g c h1; exact ⟨g, c', e, h3, h4.trans h2⟩
          case inr.inr.inr.inr.inr.inr.inr.inr.inr.inr.inl => obtain ⟨g, e⟩ := h; exact ⟨g, (hr.one (fun e => hp (by rw [e]; decide +kernel)) hne.symm).trans e⟩
          all_goals exact h
        case step =>
          intro i t hi x s W hI hp K hK
          simp only [List.mem_cons, List.not_mem_nil, or_false, Prod.mk.injEq] at hi
          have stW := st.call hI.below
          have hcW := (hI.below.cell (p := ⟨lb, lo, none⟩) hlb).trans hcell
          rcases hi with ⟨rfl, rfl⟩ | ⟨rfl, rfl⟩ | ⟨rfl, rfl⟩ | ⟨rfl, rfl⟩ | ⟨rfl, rfl⟩ | ⟨rfl, rfl⟩ | ⟨rfl, rfl⟩ | ⟨rfl, rfl⟩ | ⟨rfl, rfl⟩ | ⟨rfl, rfl⟩ | ⟨rfl, rfl⟩ | ⟨rfl, rfl⟩
          all_goals simp only [putAll, Act.put, List.setIfInBounds_toArray, List.set_cons_succ, List.set_cons_zero] at hK ⊢
          all_goals refine wpOp_at rfl rfl ?_
          · exact wp_load_agg' stW 25 _ rfl Try.isAgg25 _ Try.sizeOf25 ⟨0, gl, 0, _, _, _, rfl, rfl, rfl, rfl, hK _ s _ (.below (Below.refl _ _)) hI rfl⟩
          · exact wp_value (v := .slice (some ⟨lb, lo, none⟩) left.length lc) (by go_simp) (hK _ s _ (.below (Below.refl _ _)) hI rfl)
          · exact wp_value (v := .int .i64 0) (by go_simp) (hK _ s _ (.below (Below.refl _ _)) hI rfl)
          · have p1 : x 1 = _ := hp 1 (by decide +kernel)
            have p2 : x 2 = _ := hp 2 (by decide +kernel)
            simp only [p1, p2] at hK ⊢
            exact wp_value (v := .pointer (some ⟨lb, lo, none⟩)) (by go_simp) (hK _ s _ (.below (Below.refl _ _)) hI rfl)
          · have p3 : x 3 = _ := hp 3 (by decide +kernel)
            simp only [p3] at hK ⊢
            exact wp_value (v := .int .i64 x0) (by go_simp) (hK _ s _ (.below (Below.refl _ _)) hI rfl)
          · have p0 : x 0 = _ := hp 0 (by decide +kernel)
            have p4 : x 4 = _ := hp 4 (by decide +kernel)
            simp only [p0, p4] at hK ⊢
            go_simp
            refine (HT1.out W).mono ?_
            rintro r u1 ⟨rfl, hb1⟩
            exact hK _ s _ (.below hb1) (hI.call hb1) rfl
          · have p5 : x 5 = _ := hp 5 (by decide +kernel)
            simp only [p5] at hK ⊢
            exact wp_value (v := .tuple #[.agg #[.int .i64 0, .slice none 0 0, .int .i64 h', .bool e'.s0, .bool e'.s1, .bool e'.s2, .bool e'.s3, .bool e'.s4, .bool e'.s5, .bool e'.s6, .bool e'.s7], .int .i64 0]) (by go_simp) (hK _ s _ (.below (Below.refl _ _)) hI rfl)
          · have p6 : x 6 = _ := hp 6 (by decide +kernel)
            simp only [p6] at hK ⊢
            exact wp_value (v := .agg #[.int .i64 0, .slice none 0 0, .int .i64 h', .bool e'.s0, .bool e'.s1, .bool e'.s2, .bool e'.s3, .bool e'.s4, .bool e'.s5, .bool e'.s6, .bool e'.s7]) (by go_simp) (hK _ s _ (.below (Below.refl _ _)) hI rfl)
          · have p6 : x 6 = _ := hp 6 (by decide +kernel)
            simp only [p6] at hK ⊢
            exact wp_value (v := .int .i64 0) (by go_simp) (hK _ s _ (.below (Below.refl _ _)) hI rfl)
          · exact Two.alloc1 9 10 99 98 hI rfl _ Try.zeroValue25 _ rfl fun g W' h1 h2 => hK _ _ _ h1 h2 ⟨g, _, rfl, rfl, rfl⟩
          · have p7 : x 7 = _ := hp 7 (by decide +kernel)
            obtain ⟨g, c', p9, h9, h10⟩ := hp 9 (by decide +kernel)
            simp only [p7, p9] at hK ⊢
            exact Two.store1 9 10 99 98 hI 25 _ _ rfl _ Try.sizeOf25 g c' h9 rfl _ rfl rfl h10 rfl fun W' h1 h2 => hK undef _ _ h1 h2 ⟨g, rfl⟩
          · have p8 : x 8 = _ := hp 8 (by decide +kernel)
            simp only [p8] at hK ⊢
            exact wp_value (v := .int .i64 0) (by go_simp) (hK _ s _ (.below (Below.refl _ _)) hI rfl)
        case fin =>
          intro x s wb hI hG
          obtain ⟨g7, c8, p9, q9, _⟩ := hG 9 (by simp)
          obtain ⟨g7', q10⟩ := hG 10 (by simp)
          have p11 : x 11 = _ := hG 11 (by simp)
          obtain rfl : g7 = g7' := by rw [q9] at q10; simp at q10; exact q10.1
          clear q9 hG
          have hBr := hI.below
          have stI := hI.sub (own' := [(g7, 25, [.int .i64 0, .slice none 0 0, .int .i64 h', .bool e'.s0, .bool e'.s1, .bool e'.s2, .bool e'.s3, .bool e'.s4, .bool e'.s5, .bool e'.s6, .bool e'.s7])]) (by simp [Two.own, q10]) (by simp)
          replace st := st.join stI
          simp only [List.cons_append, List.nil_append] at st
          replace hcell := (hBr.cell (p := ⟨lb, lo, none⟩) hlb).trans hcell
          replace hlb := Nat.lt_of_lt_of_le hlb hBr.size
          replace hL := hL.below hBr
          simp only [putAll, Act.put, List.setIfInBounds_toArray, List.set_cons_succ, List.set_cons_zero, p9, p11]
          refine wpAny_done (by decide +kernel) ?_ 0
          clear hI hBr stI p9 p11 q10
          have hWsz := st.size
          go_wp2_with fail
          try simp only [Act.put, List.setIfInBounds_toArray, List.set_cons_succ, List.set_cons_zero]
          refine wp_region_ghost (by kernel_rfl) [(0, some 40), (1, some 41), (2, some 42), (3, some 43), (4, some 44), (5, some 45), (6, some 39), (7, some 46), (8, some 47), (9, some 9), (10, none), (11, some 10)] [0, 1, 2, 3, 4, 5, 6, 7, 8, 9, 10, 11] rfl 0 (by decide +kernel) rfl (Two.Rel 9 10 99 98) (fun i v s W => match i with
            | 0 => v = .agg #[.int .i64 0, .slice none 0 0, .int .i64 h', .bool e'.s0, .bool e'.s1, .bool e'.s2, .bool e'.s3, .bool e'.s4, .bool e'.s5, .bool e'.s6, .bool e'.s7]
            | 1 => v = .slice (some ⟨lb, lo, none⟩) left.length lc
            | 2 => v = .int .i64 0
            | 3 => v = .pointer (some ⟨lb, lo, none⟩)
            | 4 => v = .int .i64 x0
            | 5 => v = .tuple #[.agg #[.int .i64 0, .slice none 0 0, .int .i64 h', .bool e'.s0, .bool e'.s1, .bool e'.s2, .bool e'.s3, .bool e'.s4, .bool e'.s5, .bool e'.s6, .bool e'.s7], .int .i64 10]
            | 6 => v = .tuple #[.agg #[.int .i64 0, .slice none 0 0, .int .i64 h', .bool e'.s0, .bool e'.s1, .bool e'.s2, .bool e'.s3, .bool e'.s4, .bool e'.s5, .bool e'.s6, .bool e'.s7], .int .i64 10]
            | 7 => v = .agg #[.int .i64 0, .slice none 0 0, .int .i64 h', .bool e'.s0, .bool e'.s1, .bool e'.s2, .bool e'.s3, .bool e'.s4, .bool e'.s5, .bool e'.s6, .bool e'.s7]
            | 8 => v = .int .i64 10
            | 9 => ∃ g c, v = .pointer (some ⟨g, 0, none⟩) ∧ s.1 = some (g, c) ∧ c.length = 11
            | 10 => ∃ g, s.1 = some (g, [.int .i64 0, .slice none 0 0, .int .i64 h', .bool e'.s0, .bool e'.s1, .bool e'.s2, .bool e'.s3, .bool e'.s4, .bool e'.s5, .bool e'.s6, .bool e'.s7])
            | _ => v = .int .i64 10)
            (fun s W => St [] wb W (s.own 25 25)) (none, none) (St.start wb).drew ?mono ?step ?fin
          case mono =>
            intro i k' v s W s' W' hi hk hne hp hr hI hI' h
            simp only [List.mem_cons, List.not_mem_nil, or_false] at hi
            rcases hi with rfl | rfl | rfl | rfl | rfl | rfl | rfl | rfl | rfl | rfl | rfl | rfl
            case inr.inr.inr.inr.inr.inr.inr.inr.inr.inl => obtain ⟨g, c, e, h1, h2⟩ := h; obtain ⟨c', h3, h4⟩ := hr.one' hne.symm g c h1; exact ⟨g, c', e, h3, h4.trans h2⟩
            case inr.inr.inr.inr.inr.inr.inr.inr.inr.inr.inl => obtain ⟨g, e⟩ := h; exact ⟨g, (hr.one (fun e => hp (by rw [e]; decide +kernel)) hne.symm).trans e⟩
            all_goals exact h
          case step =>
            intro i t hi x s W hI hp K hK
            simp only [List.mem_cons, List.not_mem_nil, or_false, Prod.mk.injEq] at hi
            have stW := st.call hI.below
            have hcW := (hI.below.cell (p := ⟨lb, lo, none⟩) hlb).trans hcell
            rcases hi with ⟨rfl, rfl⟩ | ⟨rfl, rfl⟩ | ⟨rfl, rfl⟩ | ⟨rfl, rfl⟩ | ⟨rfl, rfl⟩ | ⟨rfl, rfl⟩ | ⟨rfl, rfl⟩ | ⟨rfl, rfl⟩ | ⟨rfl, rfl⟩ | ⟨rfl, rfl⟩ | ⟨rfl, rfl⟩ | ⟨rfl, rfl⟩
            all_goals simp only [putAll, Act.put, List.setIfInBounds_toArray, List.set_cons_succ, List.set_cons_zero] at hK ⊢
            all_goals refine wpOp_at rfl rfl ?_
            · exact wp_load_agg' stW 25 _ rfl Try.isAgg25 _ Try.sizeOf25 ⟨1, g7, 0, _, _, _, rfl, rfl, rfl, rfl, hK _ s _ (.below (Below.refl _ _)) hI rfl⟩
            · exact wp_value (v := .slice (some ⟨lb, lo, none⟩) left.length lc) (by go_simp) (hK _ s _ (.below (Below.refl _ _)) hI rfl)
            · exact wp_value (v := .int .i64 0) (by go_simp) (hK _ s _ (.below (Below.refl _ _)) hI rfl)
            · have p1 : x 1 = _ := hp 1 (by decide +kernel)
              have p2 : x 2 = _ := hp 2 (by decide +kernel)
              simp only [p1, p2] at hK ⊢
              exact wp_value (v := .pointer (some ⟨lb, lo, none⟩)) (by go_simp) (hK _ s _ (.below (Below.refl _ _)) hI rfl)
            · have p3 : x 3 = _ := hp 3 (by decide +kernel)
              simp only [p3] at hK ⊢
              exact wp_value (v := .int .i64 x0) (by go_simp) (hK _ s _ (.below (Below.refl _ _)) hI rfl)
            · have p0 : x 0 = _ := hp 0 (by decide +kernel)
              have p4 : x 4 = _ := hp 4 (by decide +kernel)
              simp only [p0, p4] at hK ⊢
              go_simp
              refine (HT2.out W).mono ?_
              rintro r u1 ⟨rfl, hb1⟩
              exact hK _ s _ (.below hb1) (hI.call hb1) rfl
            · have p5 : x 5 = _ := hp 5 (by decide +kernel)
              simp only [p5] at hK ⊢
              exact wp_value (v := .tuple #[.agg #[.int .i64 0, .slice none 0 0, .int .i64 h', .bool e'.s0, .bool e'.s1, .bool e'.s2, .bool e'.s3, .bool e'.s4, .bool e'.s5, .bool e'.s6, .bool e'.s7], .int .i64 10]) (by go_simp) (hK _ s _ (.below (Below.refl _ _)) hI rfl)
            · have p6 : x 6 = _ := hp 6 (by decide +kernel)
              simp only [p6] at hK ⊢
              exact wp_value (v := .agg #[.int .i64 0, .slice none 0 0, .int .i64 h', .bool e'.s0, .bool e'.s1, .bool e'.s2, .bool e'.s3, .bool e'.s4, .bool e'.s5, .bool e'.s6, .bool e'.s7]) (by go_simp) (hK _ s _ (.below (Below.refl _ _)) hI rfl)
            · have p6 : x 6 = _ := hp 6 (by decide +kernel)
              simp only [p6] at hK ⊢
              exact wp_value (v := .int .i64 10) (by go_simp) (hK _ s _ (.below (Below.refl _ _)) hI rfl)
            · exact Two.alloc1 9 10 99 98 hI rfl _ Try.zeroValue25 _ rfl fun g W' h1 h2 => hK _ _ _ h1 h2 ⟨g, _, rfl, rfl, rfl⟩
            · have p7 : x 7 = _ := hp 7 (by decide +kernel)
              obtain ⟨g, c', p9, h9, h10⟩ := hp 9 (by decide +kernel)
              simp only [p7, p9] at hK ⊢
              exact Two.store1 9 10 99 98 hI 25 _ _ rfl _ Try.sizeOf25 g c' h9 rfl _ rfl rfl h10 rfl fun W' h1 h2 => hK undef _ _ h1 h2 ⟨g, rfl⟩
            · have p8 : x 8 = _ := hp 8 (by decide +kernel)
              simp only [p8] at hK ⊢
              exact wp_value (v := .int .i64 10) (by go_simp) (hK _ s _ (.below (Below.refl _ _)) hI rfl)
          case fin =>
            intro x s W hI hG
            obtain ⟨g9, c8, p9, q9, _⟩ := hG 9 (by simp)
            obtain ⟨g9', q10⟩ := hG 10 (by simp)
            have p11 : x 11 = _ := hG 11 (by simp)
            obtain rfl : g9 = g9' := by rw [q9] at q10; simp at q10; exact q10.1
            clear q9 hG
            have hBr := hI.below
            have stI := hI.sub (own' := [(g9, 25, [.int .i64 0, .slice none 0 0, .int .i64 h', .bool e'.s0, .bool e'.s1, .bool e'.s2, .bool e'.s3, .bool e'.s4, .bool e'.s5, .bool e'.s6, .bool e'.s7])]) (by simp [Two.own, q10]) (by simp)
            replace st := st.join stI
            simp only [List.cons_append, List.nil_append] at st
            replace hcell := (hBr.cell (p := ⟨lb, lo, none⟩) hlb).trans hcell
            replace hlb := Nat.lt_of_lt_of_le hlb hBr.size
            replace hL := hL.below hBr
            simp only [putAll, Act.put, List.setIfInBounds_toArray, List.set_cons_succ, List.set_cons_zero, p9, p11]
            refine wpAny_done (by decide +kernel) ?_ 0
            clear hI hBr stI p9 p11 q10
            go_wp2_with (first | go_skip | ((first | refine mem_load_agg' st 25 _ rfl (wanted_none rfl) Try.isAgg25 _ Try.sizeOf25 ?_ | (refine mem_load_agg' st 25 _ rfl (wanted_some rfl ?_) Try.isAgg25 _ Try.sizeOf25 ?_; focus (simp [yielded, Act.put]; done))); refine ⟨1, _, _, _, _, _, rfl, rfl, rfl, rfl, ?_⟩) | ((first | refine mem_store' st 25 _ _ rfl (wanted_none rfl) _ Try.sizeOf25 ?_ | (refine mem_store' st 25 _ _ rfl (wanted_some rfl ?_) _ Try.sizeOf25 ?_; focus (simp [yielded, Act.put]; done))); refine ⟨0, _, _, _, _, _, rfl, rfl, rfl, rfl, rfl, rfl, ?_⟩; clear st; intro w9 st hw9m hw9z; simp [Act.eval, Act.put, Value.cells, putL] at st))
            replace hL := SlR.move (ok' := fun b => b ≠ gl) hL (Nat.le_of_eq hw9z.symm) (fun b _ ho => ⟨ho, hw9m b ho⟩) fun _ _ h => h
            have hs9 := st.size
            try simp only [Act.put, List.setIfInBounds_toArray, List.set_cons_succ, List.set_cons_zero]
            refine wp_region_ahead (by kernel_rfl) [(0, some 51), (1, some 52), (2, some 53), (3, some 54), (4, some 55), (5, some 56), (6, some 57), (7, some 58)] [0, 1, 2, 3, 4, 5, 6, 7] rfl 2 (by decide +kernel) rfl (fun w w' => Below w.heap.size w w') (fun i v W => match i with
              | 0 => v = .slice (some ⟨lb, lo, none⟩) left.length lc
              | 1 => v = .int .i64 0
              | 2 => v = .slice (some ⟨lb, lo, none⟩) 0 lc
              | 3 => ∃ a c, v = .slice a 0 c ∧ Own w9.heap.size 3 W 1 RInt a c (left.take 0)
              | 4 => v = .slice (some ⟨lb, lo, none⟩) left.length lc
              | 5 => v = .int .i64 0
              | 6 => v = .int .i64 1
              | _ => v = .slice (if lc = 0 + 1 then some ⟨lb, lo, none⟩ else some ⟨lb, lo + 1, none⟩) (left.length - (0 + 1)) (lc - (0 + 1)))
              (fun W => Below w9.heap.size w9 W) (Below.refl _ _).drew ?mono3 ?step3 ?fin3
            case mono3 =>
              intro i v U U' hi hb _ _ h
              simp only [List.mem_cons, List.not_mem_nil, or_false] at hi
              rcases hi with rfl | rfl | rfl | rfl | rfl | rfl | rfl | rfl
              case inr.inr.inr.inl => obtain ⟨a, c, e, h⟩ := h; exact ⟨a, c, e, h.below hb⟩
              all_goals exact h
            case step3 =>
              intro i t hi x W hI hp K hK
              simp only [List.mem_cons, List.not_mem_nil, or_false, Prod.mk.injEq] at hi
              have hIs := hI.size
              rcases hi with ⟨rfl, rfl⟩ | ⟨rfl, rfl⟩ | ⟨rfl, rfl⟩ | ⟨rfl, rfl⟩ | ⟨rfl, rfl⟩ | ⟨rfl, rfl⟩ | ⟨rfl, rfl⟩ | ⟨rfl, rfl⟩
              all_goals simp only [putAll, Act.put, List.setIfInBounds_toArray, List.set_cons_succ, List.set_cons_zero] at hK ⊢
              all_goals refine wpOp_at rfl rfl ?_
              · exact wp_value (v := .slice (some ⟨lb, lo, none⟩) left.length lc) (by go_simp) (hK _ _ (Below.refl _ _) hI rfl)
              · exact wp_value (v := .int .i64 0) (by go_simp) (hK _ _ (Below.refl _ _) hI rfl)
              · have p0 : x 0 = _ := hp 0 (by decide +kernel)
                have p1 : x 1 = _ := hp 1 (by decide +kernel)
                simp only [p0, p1] at hK ⊢
                have hb2 : 0 ≤ 0 ∧ 0 ≤ (left.length : Int) := by omega
                have hb3 : ¬ lc < 0 := by have := hL.1; omega
                exact wp_value (v := .slice (some ⟨lb, lo, none⟩) 0 lc) (by go_simp) (hK _ _ (Below.refl _ _) hI rfl)
              · have p2 : x 2 = _ := hp 2 (by decide +kernel)
                refine wp_copy _ _ 28 rfl 3 i0 _ 1 8 Try.underlying28 hi0 hz0 hz1 hz2 rfl (by decide) rfl p2 (ys := left.take 0) (by simp <;> omega) ((hL.take 0).below hI) (by simp <;> omega) ?_
                intro a' c' W' hO hB
                exact hK _ _ hB (hI.keep hB) ⟨a', c', rfl, hO.le hIs⟩
              · exact wp_value (v := .slice (some ⟨lb, lo, none⟩) left.length lc) (by go_simp) (hK _ _ (Below.refl _ _) hI rfl)
              · exact wp_value (v := .int .i64 0) (by go_simp) (hK _ _ (Below.refl _ _) hI rfl)
              · have p5 : x 5 = _ := hp 5 (by decide +kernel)
                have hwr : IntKind.i64.wrap (1) = 1 := IntWalk.i64_in _ (by omega)
                simp only [p5] at hK ⊢
                exact wp_value (v := .int .i64 1) (by go_simp) (hK _ _ (Below.refl _ _) hI rfl)
              · have p4 : x 4 = _ := hp 4 (by decide +kernel)
                have p6 : x 6 = _ := hp 6 (by decide +kernel)
                simp only [p4, p6] at hK ⊢
                have hb7 : 0 ≤ 1 ∧ 1 ≤ (left.length : Int) := by omega
                exact wp_value (v := .slice (if lc = 0 + 1 then some ⟨lb, lo, none⟩ else some ⟨lb, lo + 1, none⟩) (left.length - (0 + 1)) (lc - (0 + 1))) (by go_simp) (hK _ _ (Below.refl _ _) hI rfl)
            case fin3 =>
              intro x W hI hG
              obtain ⟨a3, c3, p3, hO3⟩ := hG 3 (by simp)
              have p7 : x 7 = _ := hG 7 (by simp)
              have hIs := hI.size
              have hD : SlR (fun b => b ≠ gl) W 1 RInt (if lc = 0 + 1 then some ⟨lb, lo, none⟩ else some ⟨lb, lo + 1, none⟩) (lc - (0 + 1)) (left.drop (0 + 1)) := by
                split
                · rename_i hlc
                  have hln := hL.1
                  have hdn : left.drop (0 + 1) = [] := List.drop_eq_nil_of_le (by omega)
                  rw [hdn]
                  exact ⟨Nat.zero_le _, by have := hL.2.1; omega, by simp, by simp⟩
                · have h := (hL.drop (0 + 1)).below hI
                  rw [show lo + (0 + 1) * 1 = lo + 1 by omega] at h
                  exact h
              simp only [putAll, Act.put, List.setIfInBounds_toArray, List.set_cons_succ, List.set_cons_zero]
              refine wpAny_at (i := 8) rfl rfl (by decide +kernel) fun K hK => ?_
              refine wp_app _ _ 28 rfl 3 i0 _ 1 8 Try.underlying28 hi0 hz0 hz1 hz2 rfl (by decide) p3 (by simp <;> omega) hO3 p7 (by simp) hD (by simp <;> omega) (by simp [maxLen] <;> omega) (by omega) ?_
              intro a8 c8 W8 hO8 hgr _
              refine hK _ _ ?_
              clear hK
              simp only [Act.put, List.setIfInBounds_toArray, List.set_cons_succ, List.set_cons_zero]
              refine wpAny_at (i := 9) rfl rfl (by decide +kernel) fun K hK => ?_
              refine wp_value (w' := W8) (v := .slice a8 (0 + (left.length - (0 + 1))) c8) (by go_simp) (hK _ _ ?_)
              clear hK
              simp only [Act.put, List.setIfInBounds_toArray, List.set_cons_succ, List.set_cons_zero]
              refine wpAny_done (by decide +kernel) ?_ 0
              have st8 := (st.call hI).grownNew hgr (fun q e => by have := (hO3.blockLt q e).1; omega) (by
                intro y hy e
                have h1 := (hO3.blockLt _ e).1
                have h2 := st.lt hy
                omega)
              have hlen : (left.take 0 ++ left.drop (0 + 1)).length = 0 + (left.length - (0 + 1)) := by simp <;> omega
              go_wp2
              go_roundw
              case rel =>
                refine ⟨_, a8, c8, i + 1, h', e', by rw [hlen], by go_num, by rw [hlen]; omega, hI', (hO8.slr (ok := fun b => w9.heap.size ≤ b) fun _ h => h).okay fun b hb => ?_, st8.sub (by simp) (by simp)⟩
                have := st.ltAt (i := 0) rfl
                omega
              case measure => simp [intOf]; omega

theorem own : ownKnob Try.prog.godebug = none := by kernel_rfl
theorem laid : laidOutB Try.prog = true := by kernel_rfl

set_option maxRecDepth 100000 in
theorem contract (H : Type) (enc : TypeId × Value → H) (W : World) (base : Nat) (args : Array Value) (ds gs : List (DataW H)) (before : List MemPlace)
    (hval : ∀ (j : Nat) t v, Try.f6.params[j]? = some t → args[j]? = some v → Value.okWide Try.prog W .any base t v)
    (hW : DataW.Whole enc Try.prog Try.f6.params.toList Rows.lineTurnedSpec.vars false W args.toList ds gs before)
    (hsz : (DataW.weightsEach Try.prog (Try.f6.params.toList ++ Rows.lineTurnedSpec.plain.varTypes Try.prog) (ds ++ gs)).all (· ≤ reachBytes) = true) :
    Calls Try.prog 6 args W fun e W' => ∃ v, e = .returned v ∧ Rows.lineTurnedSpec.post enc Try.prog Try.f6 false true false false W args v W' := by
  have hW' := hW
  obtain ⟨p, q, hA0, hV, rfl, hfz, hnd⟩ := hW
  have hA : DataW.TrodAll enc Try.prog W 0 (fun _ => true) true Try.f6.params.toList args.toList ds p := hA0
  have hpar := Try.params6
  rw [hpar] at hA hval hsz
  obtain ⟨v0, vs0, d0, ds0, p0, q0, hargs0, rfl, rfl, h0, r0⟩ := trodAll_cons hA
  obtain ⟨hnil, rfl, rfl⟩ := trodAll_nil r0
  obtain rfl : args = #[v0] := by cases args; simp_all
  obtain ⟨rfl, rfl⟩ := trodVars_none hV
  have w0 : ∀ n ∈ d0.weights Try.prog 28, n ≤ reachBytes := fun n hn => by simpa using List.all_eq_true.1 hsz n (DataW.weights_mem_each (j := 0) (t := 28) (d := d0) rfl rfl n hn)
  obtain ⟨x0, a0, c0, rfl, hR0, hl0, hx0, hm0⟩ := arg_slice (fit := fitI) (mass := fun _ => 1) reads_Int Try.underlying28 (by kernel_rfl : Try.prog.cellsOf _ = 1) (by decide) (by kernel_rfl : Try.prog.bytesOf _ = 8) (hval 0 _ v0 rfl rfl) h0 w0
  refine (walk W x0 a0 c0 hR0 hl0 hx0).mono fun e W' ⟨he, hb⟩ => ?_
  exact ⟨_, he, law_post laid (by kernel_rfl) hW' rfl rfl (by kernel_rfl) Try.underlying4 hb⟩

set_option maxRecDepth 100000 in
theorem lifted (os : Os) (started : os.Started) (H : Type) (enc : TypeId × Value → H) :
    ReturnsInHanded {} Try.checked os 6 .any (Rows.lineTurnedSpec.pre6 enc Try.prog Try.f6 Rows.lineTurnedRow.domain false) (Rows.lineTurnedSpec.post enc Try.prog Try.f6 false true false false) := by
  refine returnsInHanded_of_change_sized (C := Try.checked) own started (by kernel_rfl) Try.func6
    (ChangeSpec.witness6 (enc := enc) (C := Try.checked) false ⟨#[], #[.slice none 0 0], []⟩ 12 (by kernel_rfl) (by kernel_rfl) (by kernel_rfl) (by kernel_rfl)) ?_
  intro W base args ds gs before hval hW _ hsz _
  exact contract H enc W base args ds gs before hval hW hsz

theorem proved : Rows.LineTurnedSaid :=
  OpenClaim.holds_of_wide 6 Try.f6 rfl rfl rfl rfl rfl rfl rfl ⟨rfl, rfl, rfl, rfl, rfl⟩ rfl rfl rfl rfl rfl (by kernel_rfl) Try.func6 (by kernel_rfl)
    (of_decide_eq_true (by kernel_rfl)) (by unfold Func.isWrapper; first | (rw [if_pos (by decide +kernel)]; kernel_rfl) | (rw [if_neg (by decide +kernel)]; exact ⟨rfl, rfl⟩))
    (fun os started H enc _ => lifted os started H enc)

end Go.Proofs.Ytclocdhkpckolaa.lineTurned
