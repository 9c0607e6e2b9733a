/- The walk through the reference's word on the coming of a number greater than all that came; both Takes as one contract each. -/
import Derived.Test.YtclocdhkpckolaaTakeN
import Derived.Test.YtclocdhkpckolaaLineU
set_option linter.unusedSimpArgs false
set_option linter.unusedVariables false
namespace Go.Proofs.Ytclocdhkpckolaa
open Go.RowKit

/-- Stands only at a store: an arm that begins with it (`with_reducible refine at_store ?_`) falls fast elsewhere. -/
theorem at_store {P : Program} {ops : Array Oper} {Q : Exit → Act → World → Prop} {rest : List Oper} {A : Act} {w : World} {d : Option Tmp} {T : TypeId} {x y : Operand} {ty : TypeId} {p : String} {af : Array Edge} {g : Option (Nat × Bool)}
    (h : wpList P ops Q (⟨d, .store T x y, ty, p, af, g⟩ :: rest) A w) : wpList P ops Q (⟨d, .store T x y, ty, p, af, g⟩ :: rest) A w := h

set_option maxHeartbeats 6000000 in
theorem ref_TakeOn_new (ok : Nat → Prop) (w : World) (next high : Int) (sa : Option Addr) (sc : Nat) (sent : List Sent) (e : Eight) (seq : Int) (d : Nat) (hR : SentR ok w sa sc sent)
    (hg : lineOk ⟨next, sent, high, e⟩ = true) (h1 : 1 ≤ seq) (h2 : seq ≤ 1099511627776) (h3 : seq = high + (d : Int)) (h4 : 0 < d) :
    Calls Try.prog 19 #[lineV next high sa sent.length sc e, .int .i64 seq] w fun r w' => r = .returned (.tuple #[lineV next seq sa sent.length sc (Eight.of fun j => if j = 0 then true else shifted e d 8 j), .int .i64 0]) ∧ Below w.heap.size w w' := by
  have hG := fun W (hW : SentR ok W sa sc sent) => ref_GoodLine ok W next high sa sc sent e hW
  obtain ⟨_, _, b1, b2, _⟩ := lineOk_high hg
  rw [hg] at hG
  have HG := Lib.hid hG
  clear hG hg
  have HC := Lib.hid (fun k hk => get_cell next high sa sent.length sc e k hk)
  unfold lineV at *
  have d0 : decide (seq < 1) = false := by simp; omega
  have d1 : decide (1099511627776 < seq) = false := by simp; omega
  have d2 : high - seq < 8 := by omega
  have d3 : high < seq := by omega
  have dd : decide (seq ≤ high) = false := by simp; omega
  have H3 := Lib.hid h3
  have st := St.start w
  have tk := trivial
  clear h3
  go_enter Try.func19, Try.ntmps19
  go_wp2_with (first
    | (clear tk; (refine mem_alloc st (wanted_none rfl) 25 rfl _ Try.zeroValue25 _ rfl ?_; clear st; intro g2 w2 hg2 st hg2b; clear hg2b; simp [Act.eval, Act.put, Value.cells, putL] at st)) | (refine mem_box st (wanted_none rfl) 25 _ rfl _ rfl _ rfl ?_; clear st; intro g1 w1 hg1 st hg1b; clear hg1b; simp [Act.eval, Act.put, Value.cells, putL] at st) | ((first | refine mem_load_agg' st 25 _ rfl (wanted_none rfl) Try.isAgg25 _ Try.sizeOf25 ?_ | (refine mem_load_agg' st 25 _ rfl (wanted_some rfl ?_) Try.isAgg25 _ Try.sizeOf25 ?_; focus (simp [yielded, Act.put]; done))); refine ⟨0, _, _, _, _, _, rfl, rfl, rfl, rfl, ?_⟩)
    | (go_at_call 16; refine (HG.out _ (SentR.below hR st.below)).mono ?_; rintro r v1 ⟨rfl, hb1⟩; replace st := st.call hb1; clear hb1; refine RowKit.Hid.out ?_))
  refine Lib.hid ?_
  have c2 : v1.cell? ⟨g1, 2, none⟩ = some (.int .i64 high) := st.cell (i := 0) rfl 2
  have d2' : decide (8 ≤ high - seq) = false := by simp; omega
  clear d2
  go_wp2_with (first | go_skip | (((first | refine mem_load_agg' st 25 _ rfl (wanted_none rfl) Try.isAgg25 _ Try.sizeOf25 ?_ | (refine mem_load_agg' st 25 _ rfl (wanted_some rfl ?_) Try.isAgg25 _ Try.sizeOf25 ?_; focus (simp [yielded, Act.put]; done))); refine ⟨0, _, _, _, _, _, rfl, rfl, rfl, rfl, ?_⟩); refine RowKit.Hid.out ?_))
  refine Lib.hid ?_
  clear c2
  go_wp2_with (first | go_skip | (refine mem_alloc st (wanted_none rfl) 25 rfl _ Try.zeroValue25 _ rfl ?_; clear st; intro g3 w2 hg3 st hg3b; clear hg3b; simp [Act.eval, Act.put, Value.cells, putL] at st) | ((first | refine mem_load_agg' st 25 _ rfl (wanted_none rfl) Try.isAgg25 _ Try.sizeOf25 ?_ | (refine mem_load_agg' st 25 _ rfl (wanted_some rfl ?_) Try.isAgg25 _ Try.sizeOf25 ?_; focus (simp [yielded, Act.put]; done))); refine ⟨0, _, _, _, _, _, rfl, rfl, rfl, rfl, ?_⟩) | ((first | refine mem_load' st 3 _ rfl (wanted_none rfl) Try.isAgg3 ?_ | (refine mem_load' st 3 _ rfl (wanted_some rfl ?_) Try.isAgg3 ?_; focus (simp [yielded, Act.put]; done))); refine ⟨0, _, _, _, _, _, rfl, rfl, rfl, ?_⟩) | ((first | refine mem_store' st 25 _ _ rfl (wanted_none rfl) _ Try.sizeOf25 ?_ | (refine mem_store' st 25 _ _ rfl (wanted_some rfl ?_) _ Try.sizeOf25 ?_; focus (simp [yielded, Act.put]; done))); refine ⟨2, _, _, _, _, _, rfl, rfl, rfl, rfl, rfl, rfl, ?_⟩; clear st; intro w3 st hw3m hw3z; simp [Act.eval, Act.put, Value.cells, putL] at st) | ((first | refine mem_store' st 3 _ _ rfl (wanted_none rfl) _ Try.sizeOf3 ?_ | (refine mem_store' st 3 _ _ rfl (wanted_some rfl ?_) _ Try.sizeOf3 ?_; focus (simp [yielded, Act.put]; done))); refine ⟨2, _, _, _, _, _, rfl, rfl, rfl, rfl, rfl, rfl, ?_⟩; clear st; intro w4 st hw4m hw4z; simp [Act.eval, Act.put, Value.cells, putL] at st) | ((first | refine mem_store' st 23 _ _ rfl (wanted_none rfl) _ Try.sizeOf23 ?_ | (refine mem_store' st 23 _ _ rfl (wanted_some rfl ?_) _ Try.sizeOf23 ?_; focus (simp [yielded, Act.put]; done))); refine ⟨2, _, _, _, _, _, rfl, rfl, rfl, rfl, rfl, rfl, ?_⟩; clear st; intro w5 st hw5m hw5z; simp [Act.eval, Act.put, Value.cells, putL] at st))
  have hv : ∀ j, j < 8 → (Eight.of fun j => if j = 0 then true else shifted e d 8 j).get j = if j = 0 then true else shifted e d 8 j := fun j hj => by
    match j, hj with
    | 0, _ | 1, _ | 2, _ | 3, _ | 4, _ | 5, _ | 6, _ | 7, _ => rfl
  generalize hw : (Eight.of fun j => if j = 0 then true else shifted e d 8 j) = ey at hv
  have HW := Lib.hid hw
  have HV := Lib.hid hv
  clear hv hw
  have e0 : ([.bool false, .bool false, .bool false, .bool false, .bool false, .bool false, .bool false, .bool false] : List Value) = rowB (upto ey.get 0) := rfl
  have st0 : St [] w w5 [(g1, 25, [.int .i64 next, .slice sa sent.length sc, .int .i64 high, .bool e.s0, .bool e.s1, .bool e.s2, .bool e.s3, .bool e.s4, .bool e.s5, .bool e.s6, .bool e.s7]), (g2, 25, [.int .i64 0, .slice none 0 0, .int .i64 0, .bool false, .bool false, .bool false, .bool false, .bool false, .bool false, .bool false, .bool false]), (g3, 25, .int .i64 next :: .slice sa sent.length sc :: .int .i64 seq :: rowB (upto ey.get 0))] := st
  clear st e0
  go_loopw [49] (fun i wr => ∃ k : Nat, k ≤ 8 ∧ i = .int .i64 k ∧ St [] w wr [(g1, 25, [.int .i64 next, .slice sa sent.length sc, .int .i64 high, .bool e.s0, .bool e.s1, .bool e.s2, .bool e.s3, .bool e.s4, .bool e.s5, .bool e.s6, .bool e.s7]), (g2, 25, [.int .i64 0, .slice none 0 0, .int .i64 0, .bool false, .bool false, .bool false, .bool false, .bool false, .bool false, .bool false, .bool false]), (g3, 25, .int .i64 next :: .slice sa sent.length sc :: .int .i64 seq :: rowB (upto ey.get k))]) (fun i _ => 8 - (intOf i).toNat)
  case atStart => exact ⟨0, by omega, rfl, st0⟩
  case round =>
    obtain ⟨k, hk, rfl, st⟩ := hrel
    clear st0
    by_cases hlt : k < 8
    · have hble : Nat.ble (3 + k + 1) 11 = true := Nat.ble_eq_true_of_le (by omega)
      have hvk := HV.out k hlt
      by_cases hkq : k = 0
      · rw [if_pos hkq] at hvk
        have hq1 : (seq - (k : Int) == seq) = true := by simp; omega
        have HE := Lib.hid (upto_put (.int .i64 next) (.slice sa sent.length sc) (.int .i64 seq) ey.get k true hlt hvk)
        clear hvk hkq
        go_wp2_with (first
          | go_skip | ((first | refine mem_load' st 3 _ rfl (wanted_none rfl) Try.isAgg3 ?_ | (refine mem_load' st 3 _ rfl (wanted_some rfl ?_) Try.isAgg3 ?_; focus (simp [yielded, Act.put]; done))); refine ⟨2, _, _, _, _, _, rfl, rfl, rfl, ?_⟩) | ((first | refine mem_load' st 3 _ rfl (wanted_none rfl) Try.isAgg3 ?_ | (refine mem_load' st 3 _ rfl (wanted_some rfl ?_) Try.isAgg3 ?_; focus (simp [yielded, Act.put]; done))); refine ⟨0, _, _, _, _, _, rfl, rfl, rfl, ?_⟩)
          | ((first | refine mem_store' st 4 _ _ rfl (wanted_none rfl) _ Try.sizeOf4 ?_ | (refine mem_store' st 4 _ _ rfl (wanted_some rfl ?_) _ Try.sizeOf4 ?_; focus (simp [yielded, Act.put]; done))); refine ⟨2, _, _, _, _, [.bool true], rfl, rfl, rfl, rfl, rfl, hble, ?_⟩; clear st; intro w9 st _ _; simp only [List.set_cons_succ, List.set_cons_zero] at st; rw [HE.out] at st))
        go_roundw
        case rel => exact ⟨k + 1, by omega, by go_num, st⟩
        case measure => simp [intOf]; omega
      · rw [if_neg hkq] at hvk
        have hq1 : (seq - (k : Int) == seq) = false := by simp; omega
        by_cases hdk : d ≤ k
        · have hs : shifted e d 8 k = e.get (k - d) := by unfold shifted; rw [if_pos (by omega)]
          rw [hs] at hvk
          have hc := HC.out (k - d) (by omega)
          generalize hb : e.get (k - d) = b at hvk hc
          have HB := Lib.hid hc
          have HE := Lib.hid (upto_put (.int .i64 next) (.slice sa sent.length sc) (.int .i64 seq) ey.get k b hlt hvk)
          have hq2 : seq - (k : Int) ≤ high := by have := H3.out; omega
          have hq3 : ((k - d : Nat) : Int) < 8 := by omega
          have hq5 : (0 : Int) ≤ ((k - d : Nat) : Int) := by omega
          have hq4 : high - (seq - (k : Int)) = ((k - d : Nat) : Int) := by have := H3.out; omega
          clear hvk hkq hc hb hs
          go_wp2_with (first
            | go_skip | ((first | refine mem_load' st 3 _ rfl (wanted_none rfl) Try.isAgg3 ?_ | (refine mem_load' st 3 _ rfl (wanted_some rfl ?_) Try.isAgg3 ?_; focus (simp [yielded, Act.put]; done))); refine ⟨2, _, _, _, _, _, rfl, rfl, rfl, ?_⟩) | ((first | refine mem_load' st 3 _ rfl (wanted_none rfl) Try.isAgg3 ?_ | (refine mem_load' st 3 _ rfl (wanted_some rfl ?_) Try.isAgg3 ?_; focus (simp [yielded, Act.put]; done))); refine ⟨0, _, _, _, _, _, rfl, rfl, rfl, ?_⟩)
            | ((first | refine mem_load' st 4 _ rfl (wanted_none rfl) Try.isAgg4 ?_ | (refine mem_load' st 4 _ rfl (wanted_some rfl ?_) Try.isAgg4 ?_; focus (simp [yielded, Act.put]; done))); refine ⟨0, _, _, _, _, _, rfl, rfl, HB.out, ?_⟩)
            | ((first | refine mem_store' st 4 _ _ rfl (wanted_none rfl) _ Try.sizeOf4 ?_ | (refine mem_store' st 4 _ _ rfl (wanted_some rfl ?_) _ Try.sizeOf4 ?_; focus (simp [yielded, Act.put]; done))); refine ⟨2, _, _, _, _, [.bool b], rfl, rfl, rfl, rfl, rfl, hble, ?_⟩; clear st; intro w9 st _ _; simp only [List.set_cons_succ, List.set_cons_zero] at st; rw [HE.out] at st))
          go_roundw
          case rel => exact ⟨k + 1, by omega, by go_num, st⟩
          case measure => simp [intOf]; omega
        · have hs : shifted e d 8 k = false := by unfold shifted; rw [if_neg (by omega)]
          rw [hs] at hvk
          have HE := Lib.hid (upto_put (.int .i64 next) (.slice sa sent.length sc) (.int .i64 seq) ey.get k false hlt hvk)
          have hq2 : high < seq - (k : Int) := by have := H3.out; omega
          have hq6 : decide (seq - (k : Int) ≤ high) = false := by simp; omega
          clear hvk hkq hs
          have c1 : wr.cell? ⟨g1, 2, none⟩ = some (.int .i64 high) := st.cell (i := 0) rfl 2
          have c2 : wr.cell? ⟨g3, 2, none⟩ = some (.int .i64 seq) := st.cell (i := 2) rfl 2
          go_wp2_with (first
            | go_skip
            | (with_reducible refine at_store ?_; (first | refine mem_store' st 4 _ _ rfl (wanted_none rfl) _ Try.sizeOf4 ?_ | (refine mem_store' st 4 _ _ rfl (wanted_some rfl ?_) _ Try.sizeOf4 ?_; focus (simp [yielded, Act.put]; done))); refine ⟨2, _, _, _, _, [.bool false], rfl, rfl, rfl, rfl, rfl, hble, ?_⟩; clear st; intro w9 st _ _; simp only [List.set_cons_succ, List.set_cons_zero] at st; rw [HE.out] at st))
          clear c1 c2
          go_roundw
          case rel => exact ⟨k + 1, by omega, by go_num, st⟩
          case measure => simp [intOf]; omega
    · have hk8 : k = 8 := by omega
      subst hk8
      simp [rowB, upto] at st
      go_wp2_with (first | ((first | refine mem_load_agg' st 25 _ rfl (wanted_none rfl) Try.isAgg25 _ Try.sizeOf25 ?_ | (refine mem_load_agg' st 25 _ rfl (wanted_some rfl ?_) Try.isAgg25 _ Try.sizeOf25 ?_; focus (simp [yielded, Act.put]; done))); refine ⟨2, _, _, _, _, _, rfl, rfl, rfl, rfl, ?_⟩) | ((first | refine mem_store' st 25 _ _ rfl (wanted_none rfl) _ Try.sizeOf25 ?_ | (refine mem_store' st 25 _ _ rfl (wanted_some rfl ?_) _ Try.sizeOf25 ?_; focus (simp [yielded, Act.put]; done))); refine ⟨1, _, _, _, _, _, rfl, rfl, rfl, rfl, rfl, rfl, ?_⟩; clear st; intro w9 st hw9m hw9z; simp [Act.eval, Act.put, Value.cells, putL] at st))
      have hc := fun j => st.cell (i := 1) rfl j
      refine bodyPost_ret (v := _) ?hr rfl ⟨rfl, st.below⟩
      case hr => rw [HW.out]; simp [results, Try.results19, go_sem, hc, putL, Eight.get]

/-- What a coming number makes of a line: the greatest number, what was seen, the code. -/
theorem takeC_cases {good : Bool} {high seq : Int} {e : Eight} (hh : 0 ≤ high) :
    ((good = false ∨ seq < 1 ∨ 1099511627776 < seq) ∧ takeC good high seq e = (high, e, 2)) ∨
    (good = true ∧ 1 ≤ seq ∧ seq ≤ 1099511627776 ∧ seq ≤ high - 8 ∧ takeC good high seq e = (high, e, 11)) ∨
    (good = true ∧ 1 ≤ seq ∧ seq ≤ 1099511627776 ∧ ∃ q : Nat, high - seq = (q : Int) ∧ q < 8 ∧ ((e.get q = true ∧ takeC good high seq e = (high, e, 10)) ∨ (e.get q = false ∧ takeC good high seq e = (high, e.yes q, 0)))) ∨
    (good = true ∧ 1 ≤ seq ∧ seq ≤ 1099511627776 ∧ ∃ d : Nat, seq = high + (d : Int) ∧ 0 < d ∧ takeC good high seq e = (seq, Eight.of (fun j => if j = 0 then true else shifted e d 8 j), 0)) := by
  unfold takeC
  by_cases h1 : good = false ∨ seq < 1 ∨ 1099511627776 < seq
  · exact .inl ⟨h1, by rw [if_pos h1]⟩
  · have hg : good = true := by cases good <;> simp_all
    have h2 : 1 ≤ seq := by omega
    have h3 : seq ≤ 1099511627776 := by omega
    rw [if_neg h1]
    by_cases h4 : seq ≤ high - 8
    · exact .inr (.inl ⟨hg, h2, h3, h4, by rw [if_pos h4]⟩)
    · rw [if_neg h4]
      by_cases h5 : seq ≤ high
      · rw [if_pos h5]
        refine .inr (.inr (.inl ⟨hg, h2, h3, (high - seq).toNat, by omega, by omega, ?_⟩))
        cases hb : e.get (high - seq).toNat
        · exact .inr ⟨rfl, by simp⟩
        · exact .inl ⟨rfl, by simp⟩
      · rw [if_neg h5]
        refine .inr (.inr (.inr ⟨hg, h2, h3, (seq - high).toNat, by omega, by omega, ?_⟩))
        have e1 : ∀ j : Nat, (if j = 0 then true else if seq - high ≤ (j : Int) then e.get (j - (seq - high).toNat) else false) = (if j = 0 then true else shifted e (seq - high).toNat 8 j) := fun j => by
          by_cases hj : j = 0
          · simp [hj]
          · rw [if_neg hj, if_neg hj]
            unfold shifted
            by_cases hk : seq - high ≤ (j : Int)
            · rw [if_pos hk]
              by_cases h8 : j < (seq - high).toNat + 8
              · rw [if_pos (by omega)]
              · rw [if_neg (by omega)]
                exact get_ge e _ (by omega)
            · rw [if_neg hk, if_neg (by omega)]
        rw [show (fun j : Nat => if j = 0 then true else if seq - high ≤ (j : Int) then e.get (j - (seq - high).toNat) else false) = _ from funext e1]

theorem line_Take (ok : Nat → Prop) (w : World) (next high : Int) (sa : Option Addr) (sc : Nat) (sent : List Sent) (e : Eight) (seq : Int) (hR : SentR ok w sa sc sent) (good : Bool) (hg : lineOk ⟨next, sent, high, e⟩ = good) (r : Int × Eight × Int) (hr : takeC good high seq e = r) :
    Calls Try.prog 18 #[lineV next high sa sent.length sc e, .int .i64 seq] w fun x w' => x = .returned (.tuple #[lineV next r.1 sa sent.length sc r.2.1, .int .i64 r.2.2]) ∧ Below w.heap.size w w' := by
  subst hr
  cases good with
  | false =>
    have e1 : takeC false high seq e = (high, e, 2) := by unfold takeC; rw [if_pos (.inl rfl)]
    rw [e1]
    exact line_Take_range ok w next high sa sc sent e seq hR (.inl hg)
  | true =>
    obtain ⟨_, _, b1, _⟩ := lineOk_high hg
    rcases takeC_cases (good := true) (seq := seq) (e := e) b1 with ⟨h, e1⟩ | ⟨_, h1, h2, h3, e1⟩ | ⟨_, h1, h2, q, h3, h4, ⟨h5, e1⟩ | ⟨h5, e1⟩⟩ | ⟨_, h1, h2, d, h3, h4, e1⟩
    · rw [e1]; exact line_Take_range ok w next high sa sc sent e seq hR (by rw [hg]; exact h)
    · rw [e1]; exact line_Take_old ok w next high sa sc sent e seq hR hg h1 h2 h3
    · rw [e1]; exact line_Take_twice ok w next high sa sc sent e seq q hR hg h1 h2 h3 h4 h5
    · rw [e1]; exact line_Take_seen ok w next high sa sc sent e seq q hR hg h1 h2 h3 h4 h5
    · rw [e1]; exact line_Take_new ok w next high sa sc sent e seq d hR hg h1 h2 h3 h4

theorem ref_TakeOn (ok : Nat → Prop) (w : World) (next high : Int) (sa : Option Addr) (sc : Nat) (sent : List Sent) (e : Eight) (seq : Int) (hR : SentR ok w sa sc sent) (good : Bool) (hg : lineOk ⟨next, sent, high, e⟩ = good) (r : Int × Eight × Int) (hr : takeC good high seq e = r) :
    Calls Try.prog 19 #[lineV next high sa sent.length sc e, .int .i64 seq] w fun x w' => x = .returned (.tuple #[lineV next r.1 sa sent.length sc r.2.1, .int .i64 r.2.2]) ∧ Below w.heap.size w w' := by
  subst hr
  cases good with
  | false =>
    have e1 : takeC false high seq e = (high, e, 2) := by unfold takeC; rw [if_pos (.inl rfl)]
    rw [e1]
    exact ref_TakeOn_range ok w next high sa sc sent e seq hR (.inl hg)
  | true =>
    obtain ⟨_, _, b1, _⟩ := lineOk_high hg
    rcases takeC_cases (good := true) (seq := seq) (e := e) b1 with ⟨h, e1⟩ | ⟨_, h1, h2, h3, e1⟩ | ⟨_, h1, h2, q, h3, h4, ⟨h5, e1⟩ | ⟨h5, e1⟩⟩ | ⟨_, h1, h2, d, h3, h4, e1⟩
    · rw [e1]; exact ref_TakeOn_range ok w next high sa sc sent e seq hR (by rw [hg]; exact h)
    · rw [e1]; exact ref_TakeOn_old ok w next high sa sc sent e seq hR hg h1 h2 h3
    · rw [e1]; exact ref_TakeOn_twice ok w next high sa sc sent e seq q hR hg h1 h2 h3 h4 h5
    · rw [e1]; exact ref_TakeOn_seen ok w next high sa sc sent e seq q hR hg h1 h2 h3 h4 h5
    · rw [e1]; exact ref_TakeOn_new ok w next high sa sc sent e seq d hR hg h1 h2 h3 h4

end Go.Proofs.Ytclocdhkpckolaa
