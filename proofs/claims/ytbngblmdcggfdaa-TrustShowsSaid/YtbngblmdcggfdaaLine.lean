/- The walks through line.Good. -/
import Derived.Test.YtbngblmdcggfdaaPlain
import Derived.Test.YtbngblmdcggfdaaProg
set_option linter.unusedSimpArgs false
set_option linter.unusedVariables false
namespace Go.Proofs.Ytbngblmdcggfdaa
open Go.RowKit

def sentOk (next prev : Int) (s : Sent) : Bool := decide (1 ≤ s.frame.seq ∧ prev < s.frame.seq ∧ s.frame.seq ≤ next ∧ 1 ≤ s.tries ∧ s.tries ≤ 5 ∧ 0 ≤ s.due ∧ s.due ≤ 2199023255552)

def sentsOk (next : Int) : Int → List Sent → Bool
  | _, [] => true
  | p, s :: l => if sentOk next p s = true then sentsOk next s.frame.seq l else false

def headOk (next high : Int) (n : Nat) : Bool := decide (0 ≤ next ∧ next ≤ 1099511627775 ∧ 0 ≤ high ∧ high ≤ 1099511627776 ∧ n ≤ 8)

def lineOk (l : Line) : Bool := if headOk l.next l.high l.sent.length = true then sentsOk l.next 0 l.sent else false

/-- The number of the frame ahead of the k-th. -/
def prevS (l : List Sent) (k : Nat) : Int := if h : 0 < k ∧ k ≤ l.length then (l[k - 1]'(by omega)).frame.seq else 0
theorem prevS_zero (l : List Sent) : prevS l 0 = 0 := by simp [prevS]
theorem prevS_succ (l : List Sent) (k : Nat) (h : k < l.length) : prevS l (k + 1) = l[k].frame.seq := by
  unfold prevS
  rw [dif_pos ⟨by omega, by omega⟩]
  simp
theorem sentsOk_step (next : Int) (l : List Sent) (k : Nat) (h : k < l.length) : sentsOk next (prevS l k) (l.drop k) = (if sentOk next (prevS l k) l[k] = true then sentsOk next (prevS l (k + 1)) (l.drop (k + 1)) else false) := by
  rw [List.drop_eq_getElem_cons h, sentsOk, prevS_succ l k h]

theorem line_bad {L : Line} {k : Nat} (h : k < L.sent.length) (hI : Hid (sentsOk L.next 0 L.sent = sentsOk L.next (prevS L.sent k) (L.sent.drop k))) (hb : sentOk L.next (prevS L.sent k) L.sent[k] = false) : lineOk L = false := by
  have e : sentsOk L.next 0 L.sent = false := by rw [hI.out, sentsOk_step _ _ k h, if_neg (by rw [hb]; simp)]
  unfold lineOk
  rw [e]
  split <;> rfl
theorem line_go {L : Line} {k : Nat} (h : k < L.sent.length) (hI : Hid (sentsOk L.next 0 L.sent = sentsOk L.next (prevS L.sent k) (L.sent.drop k))) (hb : sentOk L.next (prevS L.sent k) L.sent[k] = true) : Hid (sentsOk L.next 0 L.sent = sentsOk L.next (prevS L.sent (k + 1)) (L.sent.drop (k + 1))) := by
  show _ = _
  rw [hI.out, sentsOk_step _ _ k h, if_pos hb]

/-- A line, as a value. -/
def lineV (next high : Int) (sa : Option Addr) (n sc : Nat) (e : Eight) : Value := .agg #[.int .i64 next, .slice sa n sc, .int .i64 high, .bool e.s0, .bool e.s1, .bool e.s2, .bool e.s3, .bool e.s4, .bool e.s5, .bool e.s6, .bool e.s7]

end Go.Proofs.Ytbngblmdcggfdaa
