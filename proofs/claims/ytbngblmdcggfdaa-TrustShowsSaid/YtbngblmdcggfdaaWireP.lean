/- Plain words for what a frame may be. No program, no memory. -/
import Derived.Test.YtbngblmdcggfdaaPlain
set_option linter.unusedSimpArgs false
set_option linter.unusedVariables false
namespace Go.Proofs.Ytbngblmdcggfdaa

def four (h : Int) : Bool := decide (0 ≤ h ∧ h < 4)
def catOk (c : Int) : Bool := decide (0 ≤ c ∧ c < 80)

theorem four_iff (h : Int) : four h = true ↔ 0 ≤ h ∧ h < 4 := by simp [four]
theorem catOk_iff (h : Int) : catOk h = true ↔ 0 ≤ h ∧ h < 80 := by simp [catOk]

def goodCertB (c : Cert) : Bool := catOk c.c && four c.by_ && four c.host && (c.by_ != c.host) && decide (0 ≤ c.till) && decide (c.till ≤ 1099511627776)

/-- Do categories rise, each once, from p on? -/
def risesI : Int → List Int → Bool
  | _, [] => true
  | p, x :: l => if p < x ∧ catOk x = true then risesI x l else false

def prevI (l : List Int) (k : Nat) : Int := if h : 0 < k ∧ k ≤ l.length then l[k - 1]'(by omega) else -1
theorem prevI_zero (l : List Int) : prevI l 0 = -1 := by simp [prevI]
theorem prevI_succ (l : List Int) (k : Nat) (h : k < l.length) : prevI l (k + 1) = l[k] := by
  unfold prevI
  rw [dif_pos ⟨by omega, by omega⟩]
  simp
theorem prevI_pos (l : List Int) (k : Nat) (h : k < l.length) (h0 : 0 < k) : prevI l k = l[k - 1]'(by omega) := by
  unfold prevI
  rw [dif_pos ⟨h0, by omega⟩]
theorem risesI_step (l : List Int) (k : Nat) (h : k < l.length) : risesI (prevI l k) (l.drop k) = (if prevI l k < l[k] ∧ catOk l[k] = true then risesI (prevI l (k + 1)) (l.drop (k + 1)) else false) := by
  rw [List.drop_eq_getElem_cons h, risesI, prevI_succ l k h]

def risingB (l : List Int) (most : Int) : Bool := risesI (-1) l && decide ((l.length : Int) ≤ most)

def goodMailC (m : Mail) : Int :=
  if (four m.host && four m.thread && goodL m.label && risingB m.grants 8) = true then (if 64 < m.text.size then 9 else 0) else 2

def frameRange (f : Frame) : Bool := four f.src && four f.dst && (f.src != f.dst) && decide (1 ≤ f.seq) && decide (f.seq ≤ 1099511627776) && four f.thread
def ackPlain (f : Frame) : Bool := (f.thread == 0) && (f.mail.host == 0) && (f.mail.thread == 0) && decide (f.mail.label.length + f.mail.grants.length + f.mail.text.size + f.certs.length = 0)

def ackC (f : Frame) : Int := if ackPlain f = true then 0 else 1
def certsC (f : Frame) : Int := if f.certs.all goodCertB = true then 0 else 2

def goodFrameC (f : Frame) : Int :=
  if frameRange f = true then
    if f.ack = true then ackC f
    else if goodMailC f.mail ≠ 0 then goodMailC f.mail
    else if f.mail.host ≠ f.src then 1
    else if 24 < f.certs.length then 5
    else certsC f
  else 2

theorem chain2 (a b : Bool) : a = false ∨ (a = true ∧ b = false) ∨ (a = true ∧ b = true) := by cases a <;> cases b <;> simp
theorem chain4 (a b c d : Bool) : a = false ∨ (a = true ∧ b = false) ∨ (a = true ∧ b = true ∧ c = false) ∨ (a = true ∧ b = true ∧ c = true ∧ d = false) ∨ (a = true ∧ b = true ∧ c = true ∧ d = true) := by
  cases a <;> cases b <;> cases c <;> cases d <;> simp
theorem chain6 (a b c d e f : Bool) : a = false ∨ (a = true ∧ b = false) ∨ (a = true ∧ b = true ∧ c = false) ∨ (a = true ∧ b = true ∧ c = true ∧ d = false) ∨ (a = true ∧ b = true ∧ c = true ∧ d = true ∧ e = false) ∨ (a = true ∧ b = true ∧ c = true ∧ d = true ∧ e = true ∧ f = false) ∨ (a = true ∧ b = true ∧ c = true ∧ d = true ∧ e = true ∧ f = true) := by
  cases a <;> cases b <;> cases c <;> cases d <;> cases e <;> cases f <;> simp

end Go.Proofs.Ytbngblmdcggfdaa
