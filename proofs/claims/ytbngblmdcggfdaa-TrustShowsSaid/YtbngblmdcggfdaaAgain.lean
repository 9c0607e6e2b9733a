/- What is sent again, in plain words; the walk through line.Again. -/
import Derived.Test.YtbngblmdcggfdaaAnswR
import Derived.Test.YtbngblmdcggfdaaDone
set_option linter.unusedSimpArgs false
set_option linter.unusedVariables false
namespace Go.Proofs.Ytbngblmdcggfdaa
open Go.RowKit

theorem sentsOk_mem : ∀ {next prev : Int} {l : List Sent}, sentsOk next prev l = true → ∀ s ∈ l, 1 ≤ s.tries ∧ s.tries ≤ 5 ∧ 0 ≤ s.due ∧ s.due ≤ 2199023255552
  | _, _, [], _, _, h => by simp at h
  | next, prev, x :: l, h, s, hs => by
    unfold sentsOk at h
    by_cases hx : sentOk next prev x = true
    · rw [if_pos hx] at h
      rcases List.mem_cons.1 hs with rfl | hs
      · simp only [sentOk, decide_eq_true_eq] at hx
        omega
      · exact sentsOk_mem h s hs
    · rw [if_neg hx] at h
      simp at h

theorem lineOk_mem {next high : Int} {sent : List Sent} {e : Eight} (h : lineOk ⟨next, sent, high, e⟩ = true) : ∀ s ∈ sent, 1 ≤ s.tries ∧ s.tries ≤ 5 ∧ 0 ≤ s.due ∧ s.due ≤ 2199023255552 := by
  unfold lineOk at h
  by_cases hh : headOk next high sent.length = true
  · rw [if_pos hh] at h
    exact sentsOk_mem h
  · rw [if_neg hh] at h
    simp at h

/-- What is kept of one that is under way. -/
def keepS (now : Int) (s : Sent) : Option Sent := if now < s.due then some s else if s.tries < 5 then some { s with tries := s.tries + 1, due := now + 2 ^ (s.tries + 1).toNat } else none
/-- What is sent again of it. -/
def outS (now : Int) (s : Sent) : Option Frame := if now < s.due then none else if s.tries < 5 then some s.frame else none

structure AgainX where
  k : Int
  sent : List Sent
  out : List Frame

def againX (g : Bool) (sent : List Sent) (now : Int) : AgainX :=
  if g = false ∨ now < 0 ∨ 1099511627776 < now then ⟨2, sent, []⟩ else ⟨0, sent.filterMap (keepS now), sent.filterMap (outS now)⟩

theorem fm_step {α β : Type} {f : α → Option β} {l : List α} {k : Nat} (h : k < l.length) : (l.take (k + 1)).filterMap f = (l.take k).filterMap f ++ (f l[k]).toList := by
  rw [List.take_succ_eq_append_getElem h, List.filterMap_append]
  cases hx : f l[k] <;> simp [hx]

theorem World.grownBy.ofBelow {w w' : World} (h : Below w.heap.size w w') (row : Option Nat) : w.grownBy w' row := ⟨h.os, h.tape, h.output, h.size, fun k hk _ => h.block k hk⟩

end Go.Proofs.Ytbngblmdcggfdaa
