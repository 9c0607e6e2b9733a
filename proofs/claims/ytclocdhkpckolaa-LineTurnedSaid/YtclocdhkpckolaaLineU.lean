/- The walk through line.Take: a number that was not seen yet. -/
import Derived.Test.YtclocdhkpckolaaLineT
set_option linter.unusedSimpArgs false
set_option linter.unusedVariables false
namespace Go.Proofs.Ytclocdhkpckolaa
open Go.RowKit

set_option maxHeartbeats 8000000 in
theorem line_Take_seen (ok : Nat → Prop) (w : World) (next high : Int) (sa : Option Addr) (sc : Nat) (sent : List Sent) (e : Eight) (seq : Int) (k : Nat) (hR : SentR ok w sa sc sent)
    (hg : lineOk ⟨next, sent, high, e⟩ = true) (h1 : 1 ≤ seq) (h2 : seq ≤ 1099511627776) (h3 : high - seq = (k : Int)) (h4 : k < 8) (h5 : e.get k = false) :
    Calls Try.prog 18 #[lineV next high sa sent.length sc e, .int .i64 seq] w fun r w' => r = .returned (.tuple #[lineV next high sa sent.length sc (e.yes k), .int .i64 0]) ∧ Below w.heap.size w w' := by
  have hG := fun W (hW : SentR ok W sa sc sent) => line_Good ok W next high sa sc sent e hW
  obtain ⟨_, _, b1, b2, _⟩ := lineOk_high hg
  rw [hg] at hG
  have HG := Lib.hid hG
  clear hG hg
  obtain ⟨s0, s1, s2, s3, s4, s5, s6, s7⟩ := e
  unfold lineV at *
  have d0 : decide (seq < 1) = false := by simp; omega
  have d1 : decide (1099511627776 < seq) = false := by simp; omega
  have d2 : high - 8 < seq := by omega
  have d3 : seq ≤ high := by omega
  rcases (show k = 0 ∨ k = 1 ∨ k = 2 ∨ k = 3 ∨ k = 4 ∨ k = 5 ∨ k = 6 ∨ k = 7 by omega) with rfl | rfl | rfl | rfl | rfl | rfl | rfl | rfl
  all_goals
    first | replace h3 : high - seq = 0 := h3 | replace h3 : high - seq = 1 := h3 | replace h3 : high - seq = 2 := h3 | replace h3 : high - seq = 3 := h3 | replace h3 : high - seq = 4 := h3 | replace h3 : high - seq = 5 := h3 | replace h3 : high - seq = 6 := h3 | replace h3 : high - seq = 7 := h3
    simp only [Eight.get] at h5
    subst h5
    go_enter Try.func18, Try.ntmps18
    go_wp2_with fail
    refine (HG.out _ (SentR.below hR (((Below.refl _ _).alloc (Nat.le_refl _) _).alloc (by simp) _))).mono ?_
    rintro r w1 ⟨rfl, hb1⟩
    have hb2 := (((Below.refl w.heap.size w).alloc (Nat.le_refl _) _).alloc (by simp) _).keep hb1
    obtain ⟨hc, hf⟩ := bcell hb1
    have hs := bset hb1
    have hz := hb1.size
    simp only [World.size_alloc] at hz
    go_wp2
    refine bodyPost_ret (v := _) ?hr rfl ⟨rfl, ?_⟩
    case hr => simp [results, Try.results18, go_sem, hc, hz, hs, Eight.yes, Eight.of, Eight.get]
    clear hc hf HG
    go_grown

end Go.Proofs.Ytclocdhkpckolaa
