/- The walk through line.Take. -/
import Derived.Test.YtbngblmdcggfdaaLine
set_option linter.unusedSimpArgs false
set_option linter.unusedVariables false
namespace Go.Proofs.Ytbngblmdcggfdaa
open Go.RowKit

def Eight.get (e : Eight) : Nat → Bool
  | 0 => e.s0
  | 1 => e.s1
  | 2 => e.s2
  | 3 => e.s3
  | 4 => e.s4
  | 5 => e.s5
  | 6 => e.s6
  | 7 => e.s7
  | _ => false

def Eight.of (f : Nat → Bool) : Eight := ⟨f 0, f 1, f 2, f 3, f 4, f 5, f 6, f 7⟩
def Eight.yes (e : Eight) (k : Nat) : Eight := Eight.of fun j => if j = k then true else e.get j

/-- What a coming number makes of a line: the greatest number, what was seen, the code. -/
def takeC (good : Bool) (high seq : Int) (e : Eight) : Int × Eight × Int :=
  if good = false ∨ seq < 1 ∨ 1099511627776 < seq then (high, e, 2)
  else if seq ≤ high - 8 then (high, e, 11)
  else if seq ≤ high then (if e.get (high - seq).toNat = true then (high, e, 10) else (high, e.yes (high - seq).toNat, 0))
  else (seq, Eight.of fun j => if j = 0 then true else if seq - high ≤ j then e.get (j - (seq - high).toNat) else false, 0)

theorem lineOk_high {next high : Int} {sent : List Sent} {e : Eight} (h : lineOk ⟨next, sent, high, e⟩ = true) : 0 ≤ next ∧ next ≤ 1099511627775 ∧ 0 ≤ high ∧ high ≤ 1099511627776 ∧ sent.length ≤ 8 := by
  unfold lineOk at h
  by_cases hh : headOk next high sent.length = true
  · simpa [headOk] using hh
  · rw [if_neg hh] at h; simp at h

end Go.Proofs.Ytbngblmdcggfdaa
