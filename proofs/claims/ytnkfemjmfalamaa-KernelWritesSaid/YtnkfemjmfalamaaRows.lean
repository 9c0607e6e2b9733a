/-
  No cell of these rows narrows 'for every input' (looked for: loops, veiled, ifaces, maps, wideKeys, modest, calm, conditions, laid).
  DERIVED. THE GIVEN ROWS OF THIS SEAT. 4 by the template 'for every input the law returns true; each argument reads behind the call as it read before'; 0 by the template 'total and deterministic' (their statements: YtnkfemjmfalamaaTotals.lean).
  GIVEN WITH THE SEED: the statements are not yours to turn. If you find one false, say at which input.
  Laid BY PROGRAM, IN A SANDBOX (cutbox-rows.mjs): the forced cells as the released guide's own fill.sh prints them over the translation 8c11ea7fcfac156a… (all of the seat's roots in one cut). By AI agents, Wed Nov 11 2026. No macro, syntax, notation, axiom, sorry.
-/
import Derived.Test.YtnkfemjmfalamaaChecked
import GoSem.Claim
import GoSem.ClaimJoined
import GoSem.ClaimMapViews
import Derived.JoinedTies
import Derived.KernelRfl
namespace Go.Proofs.Ytnkfemjmfalamaa
/- THE CELL 'sum', in the pinned program and in every row, IS THE sha256 OF THE DUMP (.gsa) THAT YtnkfemjmfalamaaProg.lean LOADS. Nothing in Lean hashes anything: it is a label: what it is worth is what the hold of that sum in a sandbox is worth. -/
noncomputable def Try.pinned : Pinned := { name := "ytnkfemjmfalamaa", sum := "8c11ea7fcfac156af90b76ebc20f13103e4be70430bf6088305c7ca37b7f5d36", checked := Try.checked }
namespace Rows
def none {H : Type} : Left H := { results := [], args := [] }

/-- 'parclosekeep.KernelBlind': WHATEVER THE INPUT: true; the input reads as it did. -/
def kernelBlindSpec : ChangeSpec := { name := "kernelBlind", fn := fun _ => fun
  | [d1, d2, d3, d4] => { results := [.lit (.bool true)], args := [d1, d2, d3, d4] }
  | _ => none }
def kernelBlindRow : OpenClaim := { program := "ytnkfemjmfalamaa", sum := "8c11ea7fcfac156af90b76ebc20f13103e4be70430bf6088305c7ca37b7f5d36", func := "parclose/parclosekeep.KernelBlind", spec := "kernelBlind", inPlace := ["slices.overlaps[int]"], unfollowed := true, recurses := true, apart := false }
def KernelBlindSaid : Prop := kernelBlindRow.holds Try.pinned (OpenSpec.ofChange kernelBlindSpec)

/-- ITS FALSE NEIGHBOUR: 'it returns false'. Refute it at one input. -/
def kernelBlindWrong : ChangeSpec := { name := "kernelBlind", fn := fun _ => fun
  | [d1, d2, d3, d4] => { results := [.lit (.bool false)], args := [d1, d2, d3, d4] }
  | _ => none }
def KernelBlindWrongFalsely : Prop := kernelBlindRow.holds Try.pinned (OpenSpec.ofChange kernelBlindWrong)

/-- 'parclosekeep.KernelLabels': WHATEVER THE INPUT: true; the input reads as it did. -/
def kernelLabelsSpec : ChangeSpec := { name := "kernelLabels", fn := fun _ => fun
  | [d1, d2] => { results := [.lit (.bool true)], args := [d1, d2] }
  | _ => none }
def kernelLabelsRow : OpenClaim := { program := "ytnkfemjmfalamaa", sum := "8c11ea7fcfac156af90b76ebc20f13103e4be70430bf6088305c7ca37b7f5d36", func := "parclose/parclosekeep.KernelLabels", spec := "kernelLabels", inPlace := ["slices.overlaps[int]"], unfollowed := true, recurses := true, apart := false }
def KernelLabelsSaid : Prop := kernelLabelsRow.holds Try.pinned (OpenSpec.ofChange kernelLabelsSpec)

/-- ITS FALSE NEIGHBOUR: 'it returns false'. Refute it at one input. -/
def kernelLabelsWrong : ChangeSpec := { name := "kernelLabels", fn := fun _ => fun
  | [d1, d2] => { results := [.lit (.bool false)], args := [d1, d2] }
  | _ => none }
def KernelLabelsWrongFalsely : Prop := kernelLabelsRow.holds Try.pinned (OpenSpec.ofChange kernelLabelsWrong)

/-- 'parclosekeep.KernelWrites': WHATEVER THE INPUT: true; the input reads as it did. -/
def kernelWritesSpec : ChangeSpec := { name := "kernelWrites", fn := fun _ => fun
  | [d1, d2] => { results := [.lit (.bool true)], args := [d1, d2] }
  | _ => none }
def kernelWritesRow : OpenClaim := { program := "ytnkfemjmfalamaa", sum := "8c11ea7fcfac156af90b76ebc20f13103e4be70430bf6088305c7ca37b7f5d36", func := "parclose/parclosekeep.KernelWrites", spec := "kernelWrites", inPlace := ["slices.overlaps[int]"], unfollowed := true, recurses := true, apart := false }
def KernelWritesSaid : Prop := kernelWritesRow.holds Try.pinned (OpenSpec.ofChange kernelWritesSpec)

/-- ITS FALSE NEIGHBOUR: 'it returns false'. Refute it at one input. -/
def kernelWritesWrong : ChangeSpec := { name := "kernelWrites", fn := fun _ => fun
  | [d1, d2] => { results := [.lit (.bool false)], args := [d1, d2] }
  | _ => none }
def KernelWritesWrongFalsely : Prop := kernelWritesRow.holds Try.pinned (OpenSpec.ofChange kernelWritesWrong)

/-- 'parclosekeep.KernelReads': WHATEVER THE INPUT: true; the input reads as it did. -/
def kernelReadsSpec : ChangeSpec := { name := "kernelReads", fn := fun _ => fun
  | [d1, d2] => { results := [.lit (.bool true)], args := [d1, d2] }
  | _ => none }
def kernelReadsRow : OpenClaim := { program := "ytnkfemjmfalamaa", sum := "8c11ea7fcfac156af90b76ebc20f13103e4be70430bf6088305c7ca37b7f5d36", func := "parclose/parclosekeep.KernelReads", spec := "kernelReads", inPlace := ["slices.overlaps[int]"], unfollowed := true, recurses := true, apart := false }
def KernelReadsSaid : Prop := kernelReadsRow.holds Try.pinned (OpenSpec.ofChange kernelReadsSpec)

/-- ITS FALSE NEIGHBOUR: 'it returns false'. Refute it at one input. -/
def kernelReadsWrong : ChangeSpec := { name := "kernelReads", fn := fun _ => fun
  | [d1, d2] => { results := [.lit (.bool false)], args := [d1, d2] }
  | _ => none }
def KernelReadsWrongFalsely : Prop := kernelReadsRow.holds Try.pinned (OpenSpec.ofChange kernelReadsWrong)

/- THE SECOND FORM. 'bulk': how many values and letters a reading holds, each counted each time it is reached (what is shared counts as often as it is met; a slice's spare places count too). A statement '..UptoSaid' is the law's where the arguments, and the package variables that the reading takes, are together of bulk at most 1048576: NARROWER than '..Said'. Prove '..Said' where nothing that the law and all that it calls make is longer than what came in: it says more and counts as full. Else prove '..UptoSaid'. A law counts once. -/
mutual
def uptoBulk {H : Type} : DataW H → Nat
  | .lit (.string bytes) => bytes.length + 1
  | .lit _ => 1
  | .nil => 1
  | .ptr d => uptoBulk d + 1
  | .slice elems spare => uptoBulkAll elems + uptoBulkAll spare + 1
  | .agg parts => uptoBulkAll parts + 1
  | .iface _ d => uptoBulk d + 1
  | .map entries => uptoBulkEntries entries + 1
  | .held _ => 1
def uptoBulkAll {H : Type} : List (DataW H) → Nat
  | [] => 0
  | d :: r => uptoBulk d + uptoBulkAll r
def uptoBulkEntries {H : Type} : List (Lit × DataW H) → Nat
  | [] => 0
  | x :: r => uptoBulkEntry x + uptoBulkEntries r
def uptoBulkEntry {H : Type} : Lit × DataW H → Nat
  | (.string bytes, d) => bytes.length + uptoBulk d + 1
  | (_, d) => uptoBulk d + 1
 end
def uptoSmall : (H : Type) → List (DataW H) → Bool := fun _ ds => decide (uptoBulkAll ds ≤ 1048576)
def OpenSpec.upto (s : _root_.Go.ChangeSpec) : _root_.Go.OpenSpec := { _root_.Go.OpenSpec.ofChange s with cond := some uptoSmall }

/-- 'parclosekeep.KernelBlind', WHERE WHAT IT READS IS OF BULK AT MOST 1048576: true; the input reads as it did. -/
def kernelBlindUptoRow : OpenClaim := { program := "ytnkfemjmfalamaa", sum := "8c11ea7fcfac156af90b76ebc20f13103e4be70430bf6088305c7ca37b7f5d36", func := "parclose/parclosekeep.KernelBlind", spec := "kernelBlind", inPlace := ["slices.overlaps[int]"], unfollowed := true, recurses := true, apart := false, narrowed := true }
def KernelBlindUptoSaid : Prop := kernelBlindUptoRow.holds Try.pinned (OpenSpec.upto kernelBlindSpec)

/-- 'parclosekeep.KernelLabels', WHERE WHAT IT READS IS OF BULK AT MOST 1048576: true; the input reads as it did. -/
def kernelLabelsUptoRow : OpenClaim := { program := "ytnkfemjmfalamaa", sum := "8c11ea7fcfac156af90b76ebc20f13103e4be70430bf6088305c7ca37b7f5d36", func := "parclose/parclosekeep.KernelLabels", spec := "kernelLabels", inPlace := ["slices.overlaps[int]"], unfollowed := true, recurses := true, apart := false, narrowed := true }
def KernelLabelsUptoSaid : Prop := kernelLabelsUptoRow.holds Try.pinned (OpenSpec.upto kernelLabelsSpec)

/-- 'parclosekeep.KernelWrites', WHERE WHAT IT READS IS OF BULK AT MOST 1048576: true; the input reads as it did. -/
def kernelWritesUptoRow : OpenClaim := { program := "ytnkfemjmfalamaa", sum := "8c11ea7fcfac156af90b76ebc20f13103e4be70430bf6088305c7ca37b7f5d36", func := "parclose/parclosekeep.KernelWrites", spec := "kernelWrites", inPlace := ["slices.overlaps[int]"], unfollowed := true, recurses := true, apart := false, narrowed := true }
def KernelWritesUptoSaid : Prop := kernelWritesUptoRow.holds Try.pinned (OpenSpec.upto kernelWritesSpec)

/-- 'parclosekeep.KernelReads', WHERE WHAT IT READS IS OF BULK AT MOST 1048576: true; the input reads as it did. -/
def kernelReadsUptoRow : OpenClaim := { program := "ytnkfemjmfalamaa", sum := "8c11ea7fcfac156af90b76ebc20f13103e4be70430bf6088305c7ca37b7f5d36", func := "parclose/parclosekeep.KernelReads", spec := "kernelReads", inPlace := ["slices.overlaps[int]"], unfollowed := true, recurses := true, apart := false, narrowed := true }
def KernelReadsUptoSaid : Prop := kernelReadsUptoRow.holds Try.pinned (OpenSpec.upto kernelReadsSpec)

end Rows
end Go.Proofs.Ytnkfemjmfalamaa
