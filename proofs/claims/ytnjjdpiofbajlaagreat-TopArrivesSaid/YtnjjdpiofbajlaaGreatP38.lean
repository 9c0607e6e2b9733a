/- Walks and plain laws, part 38. -/
import Derived.Test.YtnjjdpiofbajlaaGreatP5
import Derived.Test.YtnjjdpiofbajlaaGreatP13
import Derived.Deep.DeepCutAuto
import Derived.OwnWalk
set_option linter.unusedSimpArgs false
set_option linter.unusedVariables false
set_option maxHeartbeats 16000000
set_option maxRecDepth 100000
namespace Go.Proofs.YtnjjdpiofbajlaaGreat
open Go.RowKit
def cutB (s : List UInt8) (n : Nat) : List UInt8 × List UInt8 × Bool := if s.length < n then ([], [], false) else (s.take n, s.drop n, true)
def rowsB (size : Nat) (s : List UInt8) : List (List UInt8) × List UInt8 × Bool := match pRows size s with
 | none => ([], [], false)
 | some p => (p.1, p.2, true)
def RowsPost (w : World) (size : Nat) (s : List UInt8) (e : Ending) (w' : World) : Prop :=
 ∃ a c, e = .returned (.tuple #[.slice a (rowsB size s).1.length c, .string (ba (rowsB size s).2.1), .bool (rowsB size s).2.2]) ∧ Below w.heap.size w w' ∧ Own w.heap.size 9 w' 1 RStr a c ((rowsB size s).1.map ba)
theorem SlR.str_at {ok : Nat → Prop} {w : World} {a : Option Addr} {c : Nat} {xs : List ByteArray} (h : SlR ok w 1 RStr a c xs) (i : Nat) (hi : i < xs.length) :
  ∃ b o, a = some ⟨b, o, none⟩ ∧ b < w.heap.size ∧ w.cell? ⟨b, o + i, none⟩ = some (.string xs[i]) := by
 obtain ⟨b, o, cs, ha, _, hb, rfl, _, _, hc⟩ := h.2.2.2 i xs[i] (by simp [hi])
 exact ⟨b, o, ha, hb, by simpa using hc 0 _ rfl⟩
end Go.Proofs.YtnjjdpiofbajlaaGreat
