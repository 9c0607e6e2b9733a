/- The walk through line.Take. -/
import Derived.Test.YtikfjmcgoamdlaaLine
set_option linter.unusedSimpArgs false
set_option linter.unusedVariables false
namespace Go.Proofs.Ytikfjmcgoamdlaa
open Go.RowKit

def Eight.get (e : Eight) : Nat → Bool
  | 0 => e.s0
  | 1 => e.s1
  | 2 => e.s2
  | 3 => e.s3
  | 4 => e.s4
  | 5 => e.s5
  | 6 => e.s6
  | 7 => e.s7
  | _ => false

def Eight.of (f : Nat → Bool) : Eight := ⟨f 0, f 1, f 2, f 3, f 4, f 5, f 6, f 7⟩
def Eight.yes (e : Eight) (k : Nat) : Eight := Eight.of fun j => if j = k then true else e.get j

/-- What a coming number makes of a line: the greatest number, what was seen, the code. -/
def takeC (good : Bool) (high seq : Int) (e : Eight) : Int × Eight × Int :=
  if good = false ∨ seq < 1 ∨ 1099511627776 < seq then (high, e, 2)
  else if seq ≤ high - 8 then (high, e, 11)
  else if seq ≤ high then (if e.get (high - seq).toNat = true then (high, e, 10) else (high, e.yes (high - seq).toNat, 0))
  else (seq, Eight.of fun j => if j = 0 then true else if seq - high ≤ j then e.get (j - (seq - high).toNat) else false, 0)

set_option maxHeartbeats 2000000 in
theorem line_Take_range (ok : Nat → Prop) (w : World) (next high : Int) (sa : Option Addr) (sc : Nat) (sent : List Sent) (e : Eight) (seq : Int) (hR : SentR ok w sa sc sent)
    (h : lineOk ⟨next, sent, high, e⟩ = false ∨ seq < 1 ∨ 1099511627776 < seq) :
    Calls Try.prog 54 #[lineV next high sa sent.length sc e, .int .i64 seq] w fun r w' => r = .returned (.tuple #[lineV next high sa sent.length sc e, .int .i64 2]) ∧ Below w.heap.size w w' := by
  have hG := fun W (hW : SentR ok W sa sc sent) => line_Good ok W next high sa sc sent e hW
  generalize lineOk ⟨next, sent, high, e⟩ = g at h hG
  have HG := Lib.hid hG
  clear hG
  unfold lineV at *
  rcases or3 (!g) (decide (seq < 1)) (decide (1099511627776 < seq)) with d | ⟨d0, d⟩ | ⟨d0, d1, d⟩ | ⟨d0, d1, d2⟩
  case inr.inr.inr =>
    exfalso
    simp at d0 d1 d2
    rcases h with h | h | h
    · rw [h] at d0; simp at d0
    · omega
    · omega
  all_goals
    go_enter Try.func54, Try.ntmps54
    go_wp2_with fail
    refine (HG.out _ (SentR.below hR (((Below.refl _ _).alloc (Nat.le_refl _) _).alloc (by simp) _))).mono ?_
    rintro r w1 ⟨rfl, hb1⟩
    have hb2 := (((Below.refl w.heap.size w).alloc (Nat.le_refl _) _).alloc (by simp) _).keep hb1
    obtain ⟨hc, hf⟩ := bcell hb1
    go_wp2
    have hz := hb1.size
    simp only [World.size_alloc] at hz
    refine bodyPost_ret (v := .tuple #[.agg #[.int .i64 next, .slice sa sent.length sc, .int .i64 high, .bool e.s0, .bool e.s1, .bool e.s2, .bool e.s3, .bool e.s4, .bool e.s5, .bool e.s6, .bool e.s7], .int .i64 2]) (by simp [results, Try.results54, go_sem, hc, hz]) rfl ⟨rfl, ?_⟩
    clear hc hf HG
    go_grown

theorem lineOk_high {next high : Int} {sent : List Sent} {e : Eight} (h : lineOk ⟨next, sent, high, e⟩ = true) : 0 ≤ next ∧ next ≤ 1099511627775 ∧ 0 ≤ high ∧ high ≤ 1099511627776 ∧ sent.length ≤ 8 := by
  unfold lineOk at h
  by_cases hh : headOk next high sent.length = true
  · simpa [headOk] using hh
  · rw [if_neg hh] at h; simp at h

set_option maxHeartbeats 2000000 in
theorem line_Take_old (ok : Nat → Prop) (w : World) (next high : Int) (sa : Option Addr) (sc : Nat) (sent : List Sent) (e : Eight) (seq : Int) (hR : SentR ok w sa sc sent)
    (hg : lineOk ⟨next, sent, high, e⟩ = true) (h1 : 1 ≤ seq) (h2 : seq ≤ 1099511627776) (h3 : seq ≤ high - 8) :
    Calls Try.prog 54 #[lineV next high sa sent.length sc e, .int .i64 seq] w fun r w' => r = .returned (.tuple #[lineV next high sa sent.length sc e, .int .i64 11]) ∧ Below w.heap.size w w' := by
  have hG := fun W (hW : SentR ok W sa sc sent) => line_Good ok W next high sa sc sent e hW
  obtain ⟨_, _, b1, b2, _⟩ := lineOk_high hg
  rw [hg] at hG
  have HG := Lib.hid hG
  clear hG hg
  unfold lineV at *
  have d0 : decide (seq < 1) = false := by simp; omega
  have d1 : decide (1099511627776 < seq) = false := by simp; omega
  go_enter Try.func54, Try.ntmps54
  go_wp2_with fail
  refine (HG.out _ (SentR.below hR (((Below.refl _ _).alloc (Nat.le_refl _) _).alloc (by simp) _))).mono ?_
  rintro r w1 ⟨rfl, hb1⟩
  have hb2 := (((Below.refl w.heap.size w).alloc (Nat.le_refl _) _).alloc (by simp) _).keep hb1
  obtain ⟨hc, hf⟩ := bcell hb1
  go_wp2
  have hz := hb1.size
  simp only [World.size_alloc] at hz
  refine bodyPost_ret (v := .tuple #[.agg #[.int .i64 next, .slice sa sent.length sc, .int .i64 high, .bool e.s0, .bool e.s1, .bool e.s2, .bool e.s3, .bool e.s4, .bool e.s5, .bool e.s6, .bool e.s7], .int .i64 11]) (by simp [results, Try.results54, go_sem, hc, hz]) rfl ⟨rfl, ?_⟩
  clear hc hf HG
  go_grown

set_option maxHeartbeats 2000000 in
theorem line_Take_twice (ok : Nat → Prop) (w : World) (next high : Int) (sa : Option Addr) (sc : Nat) (sent : List Sent) (e : Eight) (seq : Int) (k : Nat) (hR : SentR ok w sa sc sent)
    (hg : lineOk ⟨next, sent, high, e⟩ = true) (h1 : 1 ≤ seq) (h2 : seq ≤ 1099511627776) (h3 : high - seq = (k : Int)) (h4 : k < 8) (h5 : e.get k = true) :
    Calls Try.prog 54 #[lineV next high sa sent.length sc e, .int .i64 seq] w fun r w' => r = .returned (.tuple #[lineV next high sa sent.length sc e, .int .i64 10]) ∧ Below w.heap.size w w' := by
  have hG := fun W (hW : SentR ok W sa sc sent) => line_Good ok W next high sa sc sent e hW
  obtain ⟨_, _, b1, b2, _⟩ := lineOk_high hg
  rw [hg] at hG
  have HG := Lib.hid hG
  clear hG hg
  have hk : ([.int .i64 next, .slice sa sent.length sc, .int .i64 high, .bool e.s0, .bool e.s1, .bool e.s2, .bool e.s3, .bool e.s4, .bool e.s5, .bool e.s6, .bool e.s7] : List Value)[3 + k]? = some (.bool true) := by
    rw [← h5]
    match k, h4 with
    | 0, _ | 1, _ | 2, _ | 3, _ | 4, _ | 5, _ | 6, _ | 7, _ => rfl
  unfold lineV at *
  have d0 : decide (seq < 1) = false := by simp; omega
  have d1 : decide (1099511627776 < seq) = false := by simp; omega
  have d2 : high - 8 < seq := by omega
  have d3 : seq ≤ high := by omega
  clear h5
  go_enter Try.func54, Try.ntmps54
  go_wp2_with fail
  refine (HG.out _ (SentR.below hR (((Below.refl _ _).alloc (Nat.le_refl _) _).alloc (by simp) _))).mono ?_
  rintro r w1 ⟨rfl, hb1⟩
  have hb2 := (((Below.refl w.heap.size w).alloc (Nat.le_refl _) _).alloc (by simp) _).keep hb1
  obtain ⟨hc, hf⟩ := bcell hb1
  go_wp2
  have hz := hb1.size
  simp only [World.size_alloc] at hz
  refine bodyPost_ret (v := .tuple #[.agg #[.int .i64 next, .slice sa sent.length sc, .int .i64 high, .bool e.s0, .bool e.s1, .bool e.s2, .bool e.s3, .bool e.s4, .bool e.s5, .bool e.s6, .bool e.s7], .int .i64 10]) (by simp [results, Try.results54, go_sem, hc, hz]) rfl ⟨rfl, ?_⟩
  clear hc hf HG
  go_grown

end Go.Proofs.Ytikfjmcgoamdlaa
