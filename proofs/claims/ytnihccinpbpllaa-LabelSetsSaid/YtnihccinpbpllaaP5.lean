/- Walks and plain laws that the claim rests on, part 5. -/
import Derived.Test.YtnihccinpbpllaaP3
import Derived.Test.YtnihccinpbpllaaP1
import Derived.Test.YtnihccinpbpllaaProg
set_option linter.unusedSimpArgs false
set_option linter.unusedVariables false
/- What reads as data at the program's structs, as records of ours (printed by opens.py). -/
namespace Go.Proofs.Ytnihccinpbpllaa
open Go.RowKit

theorem reads_Int : Reads Try.prog 3 1 (fun _ => RInt) fitI (fun _ => 1) := reads_int Try.underlying3

def Eight.list (e : Eight) : List Value := [.bool e.s0, .bool e.s1, .bool e.s2, .bool e.s3, .bool e.s4, .bool e.s5, .bool e.s6, .bool e.s7]

def RLine (ok : Nat → Prop) (w : World) (cs : List Value) (L : Line) : Prop :=
  ∃ sa sc, cs = [.int .i64 L.next, .slice sa L.sent.length sc, .int .i64 L.high, .bool L.seen.s0, .bool L.seen.s1, .bool L.seen.s2, .bool L.seen.s3, .bool L.seen.s4, .bool L.seen.s5, .bool L.seen.s6, .bool L.seen.s7] ∧ SentR ok w sa sc L.sent

def Lev.fit (x : Lev) : Prop := fitI x.c ∧ fitI x.l
def Lev.mass (x : Lev) : Nat := 1 + 1

theorem reads_Lev : Reads Try.prog 43 2 (fun _ cs (x : Lev) => RLev cs x) Lev.fit Lev.mass := by
  refine reads_fields Try.underlying43 (by kernel_rfl) ?_
  intro H enc w n cs xs hl hn hf hw
  have k0 : Try.prog.cellsOf 3 = 1 := by kernel_rfl
  obtain ⟨c0, c1, rfl⟩ := len2 hl
  obtain ⟨x0, x1, rfl⟩ := len2 hn
  have h0 : DataW.trod enc Try.prog w 0 (fun _ => true) true n 3 (([c0, c1].drop 0).take (Try.prog.cellsOf 3)) = some x0 := hf 0 _ rfl
  have w0 : ∀ n ∈ x0.1.weights Try.prog 3, n ≤ reachBytes := hw 0 _ _ rfl rfl
  rw [k0] at h0
  obtain ⟨y0, r0, _, o0, f0, m0⟩ := (reads_int Try.underlying3) H enc w n _ _ h0 w0
  simp only [List.drop_succ_cons, List.drop_zero, List.take_succ_cons, List.take_zero, List.cons.injEq, and_true] at r0 o0
  have h1 : DataW.trod enc Try.prog w 0 (fun _ => true) true n 3 (([c0, c1].drop 1).take (Try.prog.cellsOf 3)) = some x1 := hf 1 _ rfl
  have w1 : ∀ n ∈ x1.1.weights Try.prog 3, n ≤ reachBytes := hw 1 _ _ rfl rfl
  rw [k0] at h1
  obtain ⟨y1, r1, _, o1, f1, m1⟩ := (reads_int Try.underlying3) H enc w n _ _ h1 w1
  simp only [List.drop_succ_cons, List.drop_zero, List.take_succ_cons, List.take_zero, List.cons.injEq, and_true] at r1 o1
  subst r0
  subst r1
  try dsimp only at m0
  try dsimp only at m1
  exact ⟨⟨y0, y1⟩, rfl, by simp [Value.oneCell'], ⟨f0, f1⟩, by simp only [Lev.mass, bkAll, List.map_cons, List.map_nil]; omega⟩

def Cert.fit (x : Cert) : Prop := fitI x.c ∧ fitI x.by_ ∧ fitI x.host ∧ fitI x.till
def Cert.mass (x : Cert) : Nat := 1 + 1 + 1 + 1

theorem reads_LLev : Reads Try.prog 23 1 (fun w cs (l : List Lev) => ∃ a c, cs = [.slice a l.length c] ∧ SlR (fun _ => True) w 2 ((fun w cs x => RLev cs x) w) a c l) (fun l => l.length * 16 ≤ 140737488351232 ∧ ∀ y ∈ l, y.fit) (fun l => (l.map (Lev.mass)).sum + 1) :=
  reads_slice (fit := Lev.fit) (mass := Lev.mass) reads_Lev Try.underlying23 (by kernel_rfl) (by decide) (by kernel_rfl)

theorem reads_LInt : Reads Try.prog 28 1 (fun w cs (l : List Int) => ∃ a c, cs = [.slice a l.length c] ∧ SlR (fun _ => True) w 1 ((fun _ => RInt) w) a c l) (fun l => l.length * 8 ≤ 140737488351232 ∧ ∀ y ∈ l, fitI y) (fun l => (l.map (fun _ => 1)).sum + 1) :=
  reads_slice (fit := fitI) (mass := fun _ => 1) reads_Int Try.underlying28 (by kernel_rfl) (by decide) (by kernel_rfl)

def Mail.fit (x : Mail) : Prop := fitI x.host ∧ fitI x.thread ∧ (x.label.length * 16 ≤ 140737488351232 ∧ ∀ y ∈ x.label, y.fit) ∧ (x.grants.length * 8 ≤ 140737488351232 ∧ ∀ y ∈ x.grants, fitI y) ∧ x.text.size ≤ 140737488351232
def Mail.mass (x : Mail) : Nat := 1 + 1 + ((x.label.map Lev.mass).sum + 1) + ((x.grants.map fun _ => 1).sum + 1) + (x.text.size + 1)

def Frame.fit (x : Frame) : Prop := fitI x.src ∧ fitI x.dst ∧ fitI x.seq ∧ True ∧ fitI x.thread ∧ x.mail.fit ∧ (x.certs.length * 32 ≤ 140737488351232 ∧ ∀ y ∈ x.certs, y.fit)
def Frame.mass (x : Frame) : Nat := 1 + 1 + 1 + 1 + 1 + x.mail.mass + ((x.certs.map Cert.mass).sum + 1)

def Sent.fit (x : Sent) : Prop := x.frame.fit ∧ fitI x.tries ∧ fitI x.due
def Sent.mass (x : Sent) : Nat := x.frame.mass + 1 + 1

def Line.fit (x : Line) : Prop := fitI x.next ∧ (x.sent.length * 160 ≤ 140737488351232 ∧ ∀ y ∈ x.sent, y.fit) ∧ fitI x.high ∧ True
def Line.mass (x : Line) : Nat := 1 + ((x.sent.map Sent.mass).sum + 1) + 1 + 1

end Go.Proofs.Ytnihccinpbpllaa
