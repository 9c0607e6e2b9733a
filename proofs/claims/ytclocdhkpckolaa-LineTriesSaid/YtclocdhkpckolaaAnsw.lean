/- The walk through line.Answered's closure and the library's IndexFunc with it. -/
import Derived.Test.YtclocdhkpckolaaClone
import Derived.Test.YtclocdhkpckolaaMemP
import Derived.Shelf.Abstract
set_option linter.unusedSimpArgs false
set_option linter.unusedVariables false
namespace Go.Proofs.Ytclocdhkpckolaa
open Go.RowKit

/-- A list of ours, opened: the block that it lies in, cell for cell. -/
theorem Own.open {base : Nat} {e : TypeId} {w : World} {α : Type} {sz : Nat} {R : List Value → α → Prop} {a : Option Addr} {c : Nat} {xs : List α} (h : Own base e w sz R a c xs) :
    (a = none ∧ xs = []) ∨ ∃ (g : Nat) (css : List (List Value)) (rest : List Value), a = some ⟨g, 0, none⟩ ∧ base ≤ g ∧ w.heap[g]? = some (.cells (css.flatten ++ rest).toArray e (0, 0)) ∧ css.length = xs.length ∧ (∀ cs ∈ css, cs.length = sz ∧ ∀ v ∈ cs, v.oneCell' = true) ∧
      (∀ (i : Nat) (x : α) (cs : List Value), xs[i]? = some x → css[i]? = some cs → R cs x) ∧ c ≤ maxLen ∧ xs.length ≤ c ∧ (css.flatten ++ rest).length = c * sz := by
  obtain ⟨css, h1, h2, h3, h4, h5⟩ := h
  rcases h5 with ⟨e1, e2⟩ | ⟨g, cap, cur, e1, hb, hg, hn, hm, hs, ht⟩
  · simp at e1
    exact .inl ⟨e1.1, List.eq_nil_of_length_eq_zero e2⟩
  · simp only [Value.slice.injEq] at e1
    obtain ⟨rfl, _, rfl⟩ := e1
    have hc : css.flatten ++ cur.toList.drop (xs.length * sz) = cur.toList := by rw [← ht, List.take_append_drop]
    refine .inr ⟨g, css, cur.toList.drop (xs.length * sz), rfl, hb, ?_, h1, h2, h3, hm, hn, ?_⟩
    · rw [hc]; simpa using hg
    · rw [hc]; simpa using hs

set_option maxHeartbeats 400000 in
/-- The closure: is it the one that is answered? -/
theorem line_Answered1 (w : World) (s : Sent) (la : Option Addr) (lc : Nat) (ga : Option Addr) (gc : Nat) (ca : Option Addr) (cc : Nat) (g : Nat) (seq : Int) (hg : g < w.heap.size) (hc : w.cell? ⟨g, 0, none⟩ = some (.int .i64 seq)) :
    Calls Try.prog 33 #[.agg (sentCells s la lc ga gc ca cc).toArray, .pointer (some ⟨g, 0, none⟩)] w fun r w' => r = .returned (.bool (s.frame.seq == seq)) ∧ Below w.heap.size w w' := by
  unfold sentCells
  have st := St.start w
  go_enter Try.func33, Try.ntmps33
  go_wp2_with (first | ((refine mem_box st (wanted_none rfl) 56 _ rfl _ rfl _ rfl ?_; clear st; intro g1 w1 hg1 st hg1b; clear hg1b; simp [Act.eval, Act.put, Value.cells, putL] at st); have hc1 := (st.below.cell (p := ⟨g, 0, none⟩) hg).trans hc) | ((first | refine mem_load' st 3 _ rfl (wanted_none rfl) Try.isAgg3 ?_ | (refine mem_load' st 3 _ rfl (wanted_some rfl ?_) Try.isAgg3 ?_; focus (simp [yielded, Act.put]; done))); refine ⟨0, _, _, _, _, _, rfl, rfl, rfl, ?_⟩))
  go_ret
  exact ⟨rfl, st.below⟩

/-- The frames with this number, the first of them. -/
abbrev atSeq (seq : Int) (s : Sent) : Bool := s.frame.seq == seq

set_option maxHeartbeats 1000000 in
theorem slices_IndexFunc_Sent (ok : Nat → Prop) (w : World) (a : Option Addr) (c : Nat) (l : List Sent) (g : Nat) (seq : Int) (hl : l.length * 160 ≤ 140737488355328) (hR : SentR ok w a c l) (hg : g < w.heap.size) (hc : w.cell? ⟨g, 0, none⟩ = some (.int .i64 seq)) :
    Calls Try.prog 38 #[.slice a l.length c, .func (.func 33) #[] #[.pointer (some ⟨g, 0, none⟩)]] w fun e w' => ∃ n : Int, e = .returned (.int .i64 n) ∧ Below w.heap.size w w' ∧ (l.findIdx (atSeq seq) < l.length → n = l.findIdx (atSeq seq)) ∧ (¬ l.findIdx (atSeq seq) < l.length → n = -1) := by
  have eg : ∀ args w, (callFunc 33 args).run Try.prog w = .ok (.enter 33 args) w := enters_of Try.func33 (by kernel_rfl) rfl
  go_enter Try.func38, Try.ntmps38
  go_wp2
  go_loopw [8] (fun i wr => ∃ k : Nat, k ≤ l.length ∧ i = .int .i64 k ∧ Hid (∀ j (h : j < l.length), j < k → atSeq seq l[j] = false) ∧ Below w.heap.size w wr) (fun i _ => l.length - (intOf i).toNat)
  case atStart => exact ⟨0, Nat.zero_le _, rfl, fun j _ h => by omega, Below.refl _ _⟩
  case round =>
    obtain ⟨k, hk, rfl, hI, hB⟩ := hrel
    by_cases hlt : k < l.length
    · obtain ⟨b, o', la, lc, ga, gc, ca, cc, rfl, hb, ⟨hA1, hA2, hA3⟩, f0, f1, f2, f3, f4, f5, f6, f7, f8, f9, f10, f11, f12⟩ := SlR.sent_at (SentR.below hR hB) k hlt
      have hcl := line_Answered1 wr l[k] la lc ga gc ca cc g seq (Nat.lt_of_lt_of_le hg hB.size) ((hB.cell (p := ⟨g, 0, none⟩) hg).trans hc)
      unfold sentCells at hcl
      go_wp2_with (first | (go_at_call 33; refine hcl.mono ?_; rintro r v1 ⟨rfl, hb1⟩))
      · have hq : (l[k].frame.seq == seq) = true := by assumption
        have hx : l.findIdx (atSeq seq) = k := (List.findIdx_eq hlt).2 ⟨hq, fun j hj => hI.out j (by omega) hj⟩
        go_ret
        exact ⟨k, rfl, hB.keep hb1, fun _ => by rw [hx], fun h => absurd (by rw [hx]; exact hlt) h⟩
      · have hq : (l[k].frame.seq == seq) = false := by assumption
        go_roundw
        case rel => exact ⟨k + 1, hlt, by go_num, fun j h hj => (by
          rcases Nat.lt_succ_iff_lt_or_eq.1 hj with h1 | rfl
          · exact hI.out j h h1
          · exact hq), hB.keep hb1⟩
        case measure => simp [intOf]; omega
    · go_wp2
      go_ret
      have hx : ¬ l.findIdx (atSeq seq) < l.length := fun h => by
        have := List.findIdx_getElem (w := h)
        rw [hI.out _ h (by omega)] at this
        simp at this
      exact ⟨-1, rfl, hB, fun h => absurd h hx, fun _ => rfl⟩

end Go.Proofs.Ytclocdhkpckolaa
