/-
  No cell of these rows narrows 'for every input' (looked for: loops, veiled, ifaces, maps, wideKeys, modest, calm, conditions, laid).
  DERIVED. THE GIVEN ROWS OF THIS SEAT. 6 by the template 'for every input the law returns true; each argument reads behind the call as it read before'; 0 by the template 'total and deterministic' (their statements: YtnihccinpbpllaaTotals.lean).
  GIVEN WITH THE SEED: the statements are not yours to turn. If you find one false, say at which input.
  Laid BY PROGRAM, IN A SANDBOX (cutbox-rows.mjs): the forced cells as the released guide's own fill.sh prints them over the translation 839c2a2a1f4937fc… (all of the seat's roots in one cut). By AI agents, Wed Nov 11 2026. No macro, syntax, notation, axiom, sorry.
-/
import Derived.Test.YtnihccinpbpllaaChecked
import GoSem.Claim
import GoSem.ClaimJoined
import GoSem.ClaimMapViews
import Derived.JoinedTies
import Derived.KernelRfl
namespace Go.Proofs.Ytnihccinpbpllaa
/- THE CELL 'sum', in the pinned program and in every row, IS THE sha256 OF THE DUMP (.gsa) THAT YtnihccinpbpllaaProg.lean LOADS. Nothing in Lean hashes anything: it is a label: what it is worth is what the hold of that sum in a sandbox is worth. -/
noncomputable def Try.pinned : Pinned := { name := "ytnihccinpbpllaa", sum := "839c2a2a1f4937fcf4b3787718f2f88b7a3630dab4db13762d1eb11fc11002b4", checked := Try.checked }
namespace Rows
def none {H : Type} : Left H := { results := [], args := [] }

/-- 'parcloselaw.LabelJoins': WHATEVER THE INPUT: true; the input reads as it did. -/
def labelJoinsSpec : ChangeSpec := { name := "labelJoins", fn := fun _ => fun
  | [d1, d2] => { results := [.lit (.bool true)], args := [d1, d2] }
  | _ => none }
def labelJoinsRow : OpenClaim := { program := "ytnihccinpbpllaa", sum := "839c2a2a1f4937fcf4b3787718f2f88b7a3630dab4db13762d1eb11fc11002b4", func := "parclose/parcloselaw.LabelJoins", spec := "labelJoins", unfollowed := true, recurses := true, apart := false }
def LabelJoinsSaid : Prop := labelJoinsRow.holds Try.pinned (OpenSpec.ofChange labelJoinsSpec)

/-- ITS FALSE NEIGHBOUR: 'it returns false'. Refute it at one input. -/
def labelJoinsWrong : ChangeSpec := { name := "labelJoins", fn := fun _ => fun
  | [d1, d2] => { results := [.lit (.bool false)], args := [d1, d2] }
  | _ => none }
def LabelJoinsWrongFalsely : Prop := labelJoinsRow.holds Try.pinned (OpenSpec.ofChange labelJoinsWrong)

/-- 'parcloselaw.LabelFlows': WHATEVER THE INPUT: true; the input reads as it did. -/
def labelFlowsSpec : ChangeSpec := { name := "labelFlows", fn := fun _ => fun
  | [d1, d2, d3, d4] => { results := [.lit (.bool true)], args := [d1, d2, d3, d4] }
  | _ => none }
def labelFlowsRow : OpenClaim := { program := "ytnihccinpbpllaa", sum := "839c2a2a1f4937fcf4b3787718f2f88b7a3630dab4db13762d1eb11fc11002b4", func := "parclose/parcloselaw.LabelFlows", spec := "labelFlows", recurses := true, apart := false }
def LabelFlowsSaid : Prop := labelFlowsRow.holds Try.pinned (OpenSpec.ofChange labelFlowsSpec)

/-- ITS FALSE NEIGHBOUR: 'it returns false'. Refute it at one input. -/
def labelFlowsWrong : ChangeSpec := { name := "labelFlows", fn := fun _ => fun
  | [d1, d2, d3, d4] => { results := [.lit (.bool false)], args := [d1, d2, d3, d4] }
  | _ => none }
def LabelFlowsWrongFalsely : Prop := labelFlowsRow.holds Try.pinned (OpenSpec.ofChange labelFlowsWrong)

/-- 'parclosekeep.LabelOrder': WHATEVER THE INPUT: true; the input reads as it did. -/
def labelOrderSpec : ChangeSpec := { name := "labelOrder", fn := fun _ => fun
  | [d1, d2, d3, d4] => { results := [.lit (.bool true)], args := [d1, d2, d3, d4] }
  | _ => none }
def labelOrderRow : OpenClaim := { program := "ytnihccinpbpllaa", sum := "839c2a2a1f4937fcf4b3787718f2f88b7a3630dab4db13762d1eb11fc11002b4", func := "parclose/parclosekeep.LabelOrder", spec := "labelOrder", recurses := true, apart := false }
def LabelOrderSaid : Prop := labelOrderRow.holds Try.pinned (OpenSpec.ofChange labelOrderSpec)

/-- ITS FALSE NEIGHBOUR: 'it returns false'. Refute it at one input. -/
def labelOrderWrong : ChangeSpec := { name := "labelOrder", fn := fun _ => fun
  | [d1, d2, d3, d4] => { results := [.lit (.bool false)], args := [d1, d2, d3, d4] }
  | _ => none }
def LabelOrderWrongFalsely : Prop := labelOrderRow.holds Try.pinned (OpenSpec.ofChange labelOrderWrong)

/-- 'parclosekeep.LabelLattice': WHATEVER THE INPUT: true; the input reads as it did. -/
def labelLatticeSpec : ChangeSpec := { name := "labelLattice", fn := fun _ => fun
  | [d1, d2, d3] => { results := [.lit (.bool true)], args := [d1, d2, d3] }
  | _ => none }
def labelLatticeRow : OpenClaim := { program := "ytnihccinpbpllaa", sum := "839c2a2a1f4937fcf4b3787718f2f88b7a3630dab4db13762d1eb11fc11002b4", func := "parclose/parclosekeep.LabelLattice", spec := "labelLattice", unfollowed := true, recurses := true, apart := false }
def LabelLatticeSaid : Prop := labelLatticeRow.holds Try.pinned (OpenSpec.ofChange labelLatticeSpec)

/-- ITS FALSE NEIGHBOUR: 'it returns false'. Refute it at one input. -/
def labelLatticeWrong : ChangeSpec := { name := "labelLattice", fn := fun _ => fun
  | [d1, d2, d3] => { results := [.lit (.bool false)], args := [d1, d2, d3] }
  | _ => none }
def LabelLatticeWrongFalsely : Prop := labelLatticeRow.holds Try.pinned (OpenSpec.ofChange labelLatticeWrong)

/-- 'parcloselaw.LabelSets': WHATEVER THE INPUT: true; the input reads as it did. -/
def labelSetsSpec : ChangeSpec := { name := "labelSets", fn := fun _ => fun
  | [d1, d2, d3] => { results := [.lit (.bool true)], args := [d1, d2, d3] }
  | _ => none }
def labelSetsRow : OpenClaim := { program := "ytnihccinpbpllaa", sum := "839c2a2a1f4937fcf4b3787718f2f88b7a3630dab4db13762d1eb11fc11002b4", func := "parclose/parcloselaw.LabelSets", spec := "labelSets", recurses := true, apart := false }
def LabelSetsSaid : Prop := labelSetsRow.holds Try.pinned (OpenSpec.ofChange labelSetsSpec)

/-- ITS FALSE NEIGHBOUR: 'it returns false'. Refute it at one input. -/
def labelSetsWrong : ChangeSpec := { name := "labelSets", fn := fun _ => fun
  | [d1, d2, d3] => { results := [.lit (.bool false)], args := [d1, d2, d3] }
  | _ => none }
def LabelSetsWrongFalsely : Prop := labelSetsRow.holds Try.pinned (OpenSpec.ofChange labelSetsWrong)

/-- 'parclosekeep.LabelSet': WHATEVER THE INPUT: true; the input reads as it did. -/
def labelSetSpec : ChangeSpec := { name := "labelSet", fn := fun _ => fun
  | [d1, d2, d3, d4] => { results := [.lit (.bool true)], args := [d1, d2, d3, d4] }
  | _ => none }
def labelSetRow : OpenClaim := { program := "ytnihccinpbpllaa", sum := "839c2a2a1f4937fcf4b3787718f2f88b7a3630dab4db13762d1eb11fc11002b4", func := "parclose/parclosekeep.LabelSet", spec := "labelSet", recurses := true, apart := false }
def LabelSetSaid : Prop := labelSetRow.holds Try.pinned (OpenSpec.ofChange labelSetSpec)

/-- ITS FALSE NEIGHBOUR: 'it returns false'. Refute it at one input. -/
def labelSetWrong : ChangeSpec := { name := "labelSet", fn := fun _ => fun
  | [d1, d2, d3, d4] => { results := [.lit (.bool false)], args := [d1, d2, d3, d4] }
  | _ => none }
def LabelSetWrongFalsely : Prop := labelSetRow.holds Try.pinned (OpenSpec.ofChange labelSetWrong)

/- THE SECOND FORM. 'bulk': how many values and letters a reading holds, each counted each time it is reached (what is shared counts as often as it is met; a slice's spare places count too). A statement '..UptoSaid' is the law's where the arguments, and the package variables that the reading takes, are together of bulk at most 1048576: NARROWER than '..Said'. Prove '..Said' where nothing that the law and all that it calls make is longer than what came in: it says more and counts as full. Else prove '..UptoSaid'. A law counts once. -/
mutual
def uptoBulk {H : Type} : DataW H → Nat
  | .lit (.string bytes) => bytes.length + 1
  | .lit _ => 1
  | .nil => 1
  | .ptr d => uptoBulk d + 1
  | .slice elems spare => uptoBulkAll elems + uptoBulkAll spare + 1
  | .agg parts => uptoBulkAll parts + 1
  | .iface _ d => uptoBulk d + 1
  | .map entries => uptoBulkEntries entries + 1
  | .held _ => 1
def uptoBulkAll {H : Type} : List (DataW H) → Nat
  | [] => 0
  | d :: r => uptoBulk d + uptoBulkAll r
def uptoBulkEntries {H : Type} : List (Lit × DataW H) → Nat
  | [] => 0
  | x :: r => uptoBulkEntry x + uptoBulkEntries r
def uptoBulkEntry {H : Type} : Lit × DataW H → Nat
  | (.string bytes, d) => bytes.length + uptoBulk d + 1
  | (_, d) => uptoBulk d + 1
 end
def uptoSmall : (H : Type) → List (DataW H) → Bool := fun _ ds => decide (uptoBulkAll ds ≤ 1048576)
def OpenSpec.upto (s : _root_.Go.ChangeSpec) : _root_.Go.OpenSpec := { _root_.Go.OpenSpec.ofChange s with cond := some uptoSmall }

/-- 'parcloselaw.LabelJoins', WHERE WHAT IT READS IS OF BULK AT MOST 1048576: true; the input reads as it did. -/
def labelJoinsUptoRow : OpenClaim := { program := "ytnihccinpbpllaa", sum := "839c2a2a1f4937fcf4b3787718f2f88b7a3630dab4db13762d1eb11fc11002b4", func := "parclose/parcloselaw.LabelJoins", spec := "labelJoins", unfollowed := true, recurses := true, apart := false, narrowed := true }
def LabelJoinsUptoSaid : Prop := labelJoinsUptoRow.holds Try.pinned (OpenSpec.upto labelJoinsSpec)

/-- 'parcloselaw.LabelFlows', WHERE WHAT IT READS IS OF BULK AT MOST 1048576: true; the input reads as it did. -/
def labelFlowsUptoRow : OpenClaim := { program := "ytnihccinpbpllaa", sum := "839c2a2a1f4937fcf4b3787718f2f88b7a3630dab4db13762d1eb11fc11002b4", func := "parclose/parcloselaw.LabelFlows", spec := "labelFlows", recurses := true, apart := false, narrowed := true }
def LabelFlowsUptoSaid : Prop := labelFlowsUptoRow.holds Try.pinned (OpenSpec.upto labelFlowsSpec)

/-- 'parclosekeep.LabelOrder', WHERE WHAT IT READS IS OF BULK AT MOST 1048576: true; the input reads as it did. -/
def labelOrderUptoRow : OpenClaim := { program := "ytnihccinpbpllaa", sum := "839c2a2a1f4937fcf4b3787718f2f88b7a3630dab4db13762d1eb11fc11002b4", func := "parclose/parclosekeep.LabelOrder", spec := "labelOrder", recurses := true, apart := false, narrowed := true }
def LabelOrderUptoSaid : Prop := labelOrderUptoRow.holds Try.pinned (OpenSpec.upto labelOrderSpec)

/-- 'parclosekeep.LabelLattice', WHERE WHAT IT READS IS OF BULK AT MOST 1048576: true; the input reads as it did. -/
def labelLatticeUptoRow : OpenClaim := { program := "ytnihccinpbpllaa", sum := "839c2a2a1f4937fcf4b3787718f2f88b7a3630dab4db13762d1eb11fc11002b4", func := "parclose/parclosekeep.LabelLattice", spec := "labelLattice", unfollowed := true, recurses := true, apart := false, narrowed := true }
def LabelLatticeUptoSaid : Prop := labelLatticeUptoRow.holds Try.pinned (OpenSpec.upto labelLatticeSpec)

/-- 'parcloselaw.LabelSets', WHERE WHAT IT READS IS OF BULK AT MOST 1048576: true; the input reads as it did. -/
def labelSetsUptoRow : OpenClaim := { program := "ytnihccinpbpllaa", sum := "839c2a2a1f4937fcf4b3787718f2f88b7a3630dab4db13762d1eb11fc11002b4", func := "parclose/parcloselaw.LabelSets", spec := "labelSets", recurses := true, apart := false, narrowed := true }
def LabelSetsUptoSaid : Prop := labelSetsUptoRow.holds Try.pinned (OpenSpec.upto labelSetsSpec)

/-- 'parclosekeep.LabelSet', WHERE WHAT IT READS IS OF BULK AT MOST 1048576: true; the input reads as it did. -/
def labelSetUptoRow : OpenClaim := { program := "ytnihccinpbpllaa", sum := "839c2a2a1f4937fcf4b3787718f2f88b7a3630dab4db13762d1eb11fc11002b4", func := "parclose/parclosekeep.LabelSet", spec := "labelSet", recurses := true, apart := false, narrowed := true }
def LabelSetUptoSaid : Prop := labelSetUptoRow.holds Try.pinned (OpenSpec.upto labelSetSpec)

end Rows
end Go.Proofs.Ytnihccinpbpllaa
