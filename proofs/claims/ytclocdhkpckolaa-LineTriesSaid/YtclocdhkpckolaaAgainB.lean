/- Both words on sending again, each as one contract. -/
import Derived.Test.YtclocdhkpckolaaAgainR
set_option linter.unusedSimpArgs false
set_option linter.unusedVariables false
namespace Go.Proofs.Ytclocdhkpckolaa
open Go.RowKit

theorem line_Again (ok : Nat → Prop) (w : World) (hok : ∀ b, w.heap.size ≤ b → ok b) (next high : Int) (sa : Option Addr) (sc : Nat) (sent : List Sent) (e : Eight) (now : Int) (hR : SentR ok w sa sc sent) (hf : ∀ s ∈ sent, s.frame.Fits) (g : Bool) (hg : lineOk ⟨next, sent, high, e⟩ = g) (r : AgainX) (hr : againX g sent now = r) :
    Calls Try.prog 24 #[lineV next high sa sent.length sc e, .int .i64 now] w fun v w' => ∃ a' c' a2 c2, v = .returned (.tuple #[lineV next high a' r.sent.length c' e, .slice a2 r.out.length c2, .int .i64 r.k]) ∧ Below w.heap.size w w' ∧ SentR ok w' a' c' r.sent ∧ SlR ok w' 11 (RFrame ok w') a2 c2 r.out := by
  unfold againX at hr
  subst hg
  by_cases h1 : lineOk ⟨next, sent, high, e⟩ = false ∨ now < 0 ∨ 1099511627776 < now
  · rw [if_pos h1] at hr
    subst hr
    refine (line_Again_range ok w next high sa sc sent e now hR h1).mono ?_
    rintro v w' ⟨rfl, hb⟩
    exact ⟨sa, sc, none, 0, rfl, hb, SentR.below hR hb, SlR.nil _ _ _ _⟩
  · rw [if_neg h1] at hr
    subst hr
    obtain ⟨h1, h2, h3⟩ : lineOk ⟨next, sent, high, e⟩ = true ∧ 0 ≤ now ∧ now ≤ 1099511627776 := by
      refine ⟨?_, by omega, by omega⟩
      cases h : lineOk ⟨next, sent, high, e⟩
      · exact absurd (Or.inl h) h1
      · rfl
    exact line_Again_ok ok w hok next high sa sc sent e now hR  h1 h2 h3
theorem ref_AgainOn (ok : Nat → Prop) (w : World) (hok : ∀ b, w.heap.size ≤ b → ok b) (next high : Int) (sa : Option Addr) (sc : Nat) (sent : List Sent) (e : Eight) (now : Int) (hR : SentR ok w sa sc sent) (hf : ∀ s ∈ sent, s.frame.Fits) (g : Bool) (hg : lineOk ⟨next, sent, high, e⟩ = g) (r : AgainX) (hr : againX g sent now = r) :
    Calls Try.prog 25 #[lineV next high sa sent.length sc e, .int .i64 now] w fun v w' => ∃ a' c' a2 c2, v = .returned (.tuple #[lineV next high a' r.sent.length c' e, .slice a2 r.out.length c2, .int .i64 r.k]) ∧ Below w.heap.size w w' ∧ SentR ok w' a' c' r.sent ∧ SlR ok w' 11 (RFrame ok w') a2 c2 r.out := by
  unfold againX at hr
  subst hg
  by_cases h1 : lineOk ⟨next, sent, high, e⟩ = false ∨ now < 0 ∨ 1099511627776 < now
  · rw [if_pos h1] at hr
    subst hr
    refine (ref_AgainOn_range ok w next high sa sc sent e now hR h1).mono ?_
    rintro v w' ⟨rfl, hb⟩
    exact ⟨sa, sc, none, 0, rfl, hb, SentR.below hR hb, SlR.nil _ _ _ _⟩
  · rw [if_neg h1] at hr
    subst hr
    obtain ⟨h1, h2, h3⟩ : lineOk ⟨next, sent, high, e⟩ = true ∧ 0 ≤ now ∧ now ≤ 1099511627776 := by
      refine ⟨?_, by omega, by omega⟩
      cases h : lineOk ⟨next, sent, high, e⟩
      · exact absurd (Or.inl h) h1
      · rfl
    exact ref_AgainOn_ok ok w hok next high sa sc sent e now hR hf h1 h2 h3

end Go.Proofs.Ytclocdhkpckolaa
