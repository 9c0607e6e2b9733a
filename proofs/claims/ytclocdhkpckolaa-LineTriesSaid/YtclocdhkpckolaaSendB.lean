/- Both words on sending, each as one contract. -/
import Derived.Test.YtclocdhkpckolaaSendR
set_option linter.unusedSimpArgs false
set_option linter.unusedVariables false
namespace Go.Proofs.Ytclocdhkpckolaa
open Go.RowKit

/-- What sending makes of it: the error, the next number, what is under way, the frame. -/
structure SendX where
  k : Int
  next : Int
  sent : List Sent
  f : Frame

def frame0 : Frame := ⟨0, 0, 0, false, 0, ⟨0, 0, [], [], ⟨#[]⟩⟩, []⟩

def sendX (g : Bool) (next : Int) (sent : List Sent) (f : Frame) (now : Int) : SendX :=
  if g = false ∨ now < 0 ∨ 1099511627776 < now then ⟨2, next, sent, frame0⟩
  else if sent.length = 8 ∨ next = 1099511627775 then ⟨5, next, sent, frame0⟩
  else ⟨0, next + 1, sent ++ [⟨{ f with seq := next + 1 }, 1, now + 2⟩], { f with seq := next + 1 }⟩

theorem FrameR.zero (ok : Nat → Prop) (w : World) : FrameR ok w frame0 none 0 none 0 none 0 := ⟨⟨SlR.nil _ _ _ _, SlR.nil _ _ _ _⟩, SlR.nil _ _ _ _⟩

theorem line_Send (ok : Nat → Prop) (w : World) (hok : ∀ b, w.heap.size ≤ b → ok b) (next high : Int) (sa : Option Addr) (sc : Nat) (sent : List Sent) (e : Eight) (f : Frame) (la : Option Addr) (lc : Nat) (ga : Option Addr) (gc : Nat) (ca : Option Addr) (cc : Nat) (now : Int) (hR : SentR ok w sa sc sent) (hF : FrameR ok w f la lc ga gc ca cc) (hf : ∀ s ∈ sent, s.frame.Fits) (hff : f.Fits)
    (g : Bool) (hg : lineOk ⟨next, sent, high, e⟩ = g) (r : SendX) (hr : sendX g next sent f now = r) :
    Calls Try.prog 10 #[lineV next high sa sent.length sc e, frameV f la lc ga gc ca cc, .int .i64 now] w fun v w' => ∃ a' c' la' lc' ga' gc' ca' cc', v = .returned (.tuple #[lineV r.next high a' r.sent.length c' e, frameV r.f la' lc' ga' gc' ca' cc', .int .i64 r.k]) ∧ Below w.heap.size w w' ∧ SentR ok w' a' c' r.sent ∧ FrameR ok w' r.f la' lc' ga' gc' ca' cc' := by
  unfold sendX at hr
  subst hg
  by_cases h1 : lineOk ⟨next, sent, high, e⟩ = false ∨ now < 0 ∨ 1099511627776 < now
  · rw [if_pos h1] at hr
    subst hr
    refine (line_Send_range ok w next high sa sc sent e f la lc ga gc ca cc now hR h1).mono ?_
    rintro v w' ⟨rfl, hb⟩
    exact ⟨sa, sc, none, 0, none, 0, none, 0, rfl, hb, SentR.below hR hb, FrameR.zero _ _⟩
  · rw [if_neg h1] at hr
    obtain ⟨h1, h2, h3⟩ : lineOk ⟨next, sent, high, e⟩ = true ∧ 0 ≤ now ∧ now ≤ 1099511627776 := by
      refine ⟨?_, by omega, by omega⟩
      cases h : lineOk ⟨next, sent, high, e⟩
      · exact absurd (Or.inl h) h1
      · rfl
    obtain ⟨b3, b4, b1, b2, b5⟩ := lineOk_high h1
    by_cases h4 : sent.length = 8 ∨ next = 1099511627775
    · rw [if_pos h4] at hr
      subst hr
      refine (line_Send_full ok w next high sa sc sent e f la lc ga gc ca cc now hR h1 h2 h3 h4).mono ?_
      rintro v w' ⟨rfl, hb⟩
      exact ⟨sa, sc, none, 0, none, 0, none, 0, rfl, hb, SentR.below hR hb, FrameR.zero _ _⟩
    · rw [if_neg h4] at hr
      subst hr
      refine (line_Send_ok ok w hok next high sa sc sent e f la lc ga gc ca cc now hR hF  h1 h2 h3 (by omega) (by omega)).mono ?_
      rintro v w' ⟨a', c', rfl, hb, hS⟩
      have hF' := hF.below hb
      exact ⟨a', c', la, lc, ga, gc, ca, cc, by simp, hb, hS, ⟨⟨hF'.mail.label, hF'.mail.grants⟩, hF'.certs⟩⟩
theorem ref_SendOn (ok : Nat → Prop) (w : World) (hok : ∀ b, w.heap.size ≤ b → ok b) (next high : Int) (sa : Option Addr) (sc : Nat) (sent : List Sent) (e : Eight) (f : Frame) (la : Option Addr) (lc : Nat) (ga : Option Addr) (gc : Nat) (ca : Option Addr) (cc : Nat) (now : Int) (hR : SentR ok w sa sc sent) (hF : FrameR ok w f la lc ga gc ca cc) (hf : ∀ s ∈ sent, s.frame.Fits) (hff : f.Fits)
    (g : Bool) (hg : lineOk ⟨next, sent, high, e⟩ = g) (r : SendX) (hr : sendX g next sent f now = r) :
    Calls Try.prog 12 #[lineV next high sa sent.length sc e, frameV f la lc ga gc ca cc, .int .i64 now] w fun v w' => ∃ a' c' la' lc' ga' gc' ca' cc', v = .returned (.tuple #[lineV r.next high a' r.sent.length c' e, frameV r.f la' lc' ga' gc' ca' cc', .int .i64 r.k]) ∧ Below w.heap.size w w' ∧ SentR ok w' a' c' r.sent ∧ FrameR ok w' r.f la' lc' ga' gc' ca' cc' := by
  unfold sendX at hr
  subst hg
  by_cases h1 : lineOk ⟨next, sent, high, e⟩ = false ∨ now < 0 ∨ 1099511627776 < now
  · rw [if_pos h1] at hr
    subst hr
    refine (ref_SendOn_range ok w next high sa sc sent e f la lc ga gc ca cc now hR h1).mono ?_
    rintro v w' ⟨rfl, hb⟩
    exact ⟨sa, sc, none, 0, none, 0, none, 0, rfl, hb, SentR.below hR hb, FrameR.zero _ _⟩
  · rw [if_neg h1] at hr
    obtain ⟨h1, h2, h3⟩ : lineOk ⟨next, sent, high, e⟩ = true ∧ 0 ≤ now ∧ now ≤ 1099511627776 := by
      refine ⟨?_, by omega, by omega⟩
      cases h : lineOk ⟨next, sent, high, e⟩
      · exact absurd (Or.inl h) h1
      · rfl
    obtain ⟨b3, b4, b1, b2, b5⟩ := lineOk_high h1
    by_cases h4 : sent.length = 8 ∨ next = 1099511627775
    · rw [if_pos h4] at hr
      subst hr
      refine (ref_SendOn_full ok w next high sa sc sent e f la lc ga gc ca cc now hR h1 h2 h3 h4).mono ?_
      rintro v w' ⟨rfl, hb⟩
      exact ⟨sa, sc, none, 0, none, 0, none, 0, rfl, hb, SentR.below hR hb, FrameR.zero _ _⟩
    · rw [if_neg h4] at hr
      subst hr
      refine (ref_SendOn_ok ok w hok next high sa sc sent e f la lc ga gc ca cc now hR hF hf hff h1 h2 h3 (by omega) (by omega)).mono ?_
      rintro v w' ⟨a', c', rfl, hb, hS⟩
      have hF' := hF.below hb
      exact ⟨a', c', la, lc, ga, gc, ca, cc, by simp, hb, hS, ⟨⟨hF'.mail.label, hF'.mail.grants⟩, hF'.certs⟩⟩

end Go.Proofs.Ytclocdhkpckolaa
