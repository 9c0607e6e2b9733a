/-
  No cell of these rows narrows 'for every input' (looked for: loops, veiled, ifaces, maps, wideKeys, modest, calm, conditions, laid).
  DERIVED. THE GIVEN ROWS OF THIS SEAT. 6 by the template 'for every input the law returns true; each argument reads behind the call as it read before'; 0 by the template 'total and deterministic' (their statements: YtnjjdpiofbajlaaGreatTotals.lean).
  GIVEN WITH THE SEED: the statements are not yours to turn. If you find one false, say at which input.
  Laid BY PROGRAM, IN A SANDBOX (cutbox-rows.mjs): the forced cells as the released guide's own fill.sh prints them over the translation b4697a10007cf74e… (all of the seat's roots in one cut). By AI agents, Wed Nov 11 2026. No macro, syntax, notation, axiom, sorry.
-/
import Derived.Test.YtnjjdpiofbajlaaGreatChecked
import GoSem.Claim
import GoSem.ClaimJoined
import GoSem.ClaimMapViews
import Derived.JoinedTies
import Derived.KernelRfl
namespace Go.Proofs.YtnjjdpiofbajlaaGreat
/- THE CELL 'sum', in the pinned program and in every row, IS THE sha256 OF THE DUMP (.gsa) THAT YtnjjdpiofbajlaaGreatProg.lean LOADS. Nothing in Lean hashes anything: it is a label: what it is worth is what the hold of that sum in a sandbox is worth. -/
noncomputable def Tryz.pinned : Pinned := { name := "ytnjjdpiofbajlaagreat", sum := "b4697a10007cf74ecfbdb07c64cf44ac2f4a25174c3114e4a37d5511b25ecddb", checked := Tryz.checked }
namespace Rows
def none {H : Type} : Left H := { results := [], args := [] }

/-- 'parclosetop.TopOwned': WHATEVER THE INPUT: true; the input reads as it did. -/
def topOwnedSpec : ChangeSpec := { name := "topOwned", fn := fun _ => fun
  | [d] => { results := [.lit (.bool true)], args := [d] }
  | _ => none }
def topOwnedRow : OpenClaim := { program := "ytnjjdpiofbajlaagreat", sum := "b4697a10007cf74ecfbdb07c64cf44ac2f4a25174c3114e4a37d5511b25ecddb", func := "parclose/parclosetop.TopOwned", spec := "topOwned", inPlace := ["slices.overlaps[int]"], unfollowed := true, recurses := true, apart := false }
def TopOwnedSaid : Prop := topOwnedRow.holds Tryz.pinned (OpenSpec.ofChange topOwnedSpec)

/-- ITS FALSE NEIGHBOUR: 'it returns false'. Refute it at one input. -/
def topOwnedWrong : ChangeSpec := { name := "topOwned", fn := fun _ => fun
  | [d] => { results := [.lit (.bool false)], args := [d] }
  | _ => none }
def TopOwnedWrongFalsely : Prop := topOwnedRow.holds Tryz.pinned (OpenSpec.ofChange topOwnedWrong)

/-- 'parclosetop.TopSecret': WHATEVER THE INPUT: true; the input reads as it did. -/
def topSecretSpec : ChangeSpec := { name := "topSecret", fn := fun _ => fun
  | [d1, d2, d3] => { results := [.lit (.bool true)], args := [d1, d2, d3] }
  | _ => none }
def topSecretRow : OpenClaim := { program := "ytnjjdpiofbajlaagreat", sum := "b4697a10007cf74ecfbdb07c64cf44ac2f4a25174c3114e4a37d5511b25ecddb", func := "parclose/parclosetop.TopSecret", spec := "topSecret", inPlace := ["slices.overlaps[int]"], unfollowed := true, recurses := true, apart := false }
def TopSecretSaid : Prop := topSecretRow.holds Tryz.pinned (OpenSpec.ofChange topSecretSpec)

/-- ITS FALSE NEIGHBOUR: 'it returns false'. Refute it at one input. -/
def topSecretWrong : ChangeSpec := { name := "topSecret", fn := fun _ => fun
  | [d1, d2, d3] => { results := [.lit (.bool false)], args := [d1, d2, d3] }
  | _ => none }
def TopSecretWrongFalsely : Prop := topSecretRow.holds Tryz.pinned (OpenSpec.ofChange topSecretWrong)

/-- 'parclosetop.TopArrives': WHATEVER THE INPUT: true; the input reads as it did. -/
def topArrivesSpec : ChangeSpec := { name := "topArrives", fn := fun _ => fun
  | [d1, d2, d3, d4, d5, d6, d7] => { results := [.lit (.bool true)], args := [d1, d2, d3, d4, d5, d6, d7] }
  | _ => none }
def topArrivesRow : OpenClaim := { program := "ytnjjdpiofbajlaagreat", sum := "b4697a10007cf74ecfbdb07c64cf44ac2f4a25174c3114e4a37d5511b25ecddb", func := "parclose/parclosetop.TopArrives", spec := "topArrives", inPlace := ["slices.overlaps[int]"], unfollowed := true, recurses := true, apart := false }
def TopArrivesSaid : Prop := topArrivesRow.holds Tryz.pinned (OpenSpec.ofChange topArrivesSpec)

/-- ITS FALSE NEIGHBOUR: 'it returns false'. Refute it at one input. -/
def topArrivesWrong : ChangeSpec := { name := "topArrives", fn := fun _ => fun
  | [d1, d2, d3, d4, d5, d6, d7] => { results := [.lit (.bool false)], args := [d1, d2, d3, d4, d5, d6, d7] }
  | _ => none }
def TopArrivesWrongFalsely : Prop := topArrivesRow.holds Tryz.pinned (OpenSpec.ofChange topArrivesWrong)

/-- 'parclosetop.TopEnds': WHATEVER THE INPUT: true; the input reads as it did. -/
def topEndsSpec : ChangeSpec := { name := "topEnds", fn := fun _ => fun
  | [d1, d2] => { results := [.lit (.bool true)], args := [d1, d2] }
  | _ => none }
def topEndsRow : OpenClaim := { program := "ytnjjdpiofbajlaagreat", sum := "b4697a10007cf74ecfbdb07c64cf44ac2f4a25174c3114e4a37d5511b25ecddb", func := "parclose/parclosetop.TopEnds", spec := "topEnds", inPlace := ["slices.overlaps[int]"], unfollowed := true, recurses := true, apart := false }
def TopEndsSaid : Prop := topEndsRow.holds Tryz.pinned (OpenSpec.ofChange topEndsSpec)

/-- ITS FALSE NEIGHBOUR: 'it returns false'. Refute it at one input. -/
def topEndsWrong : ChangeSpec := { name := "topEnds", fn := fun _ => fun
  | [d1, d2] => { results := [.lit (.bool false)], args := [d1, d2] }
  | _ => none }
def TopEndsWrongFalsely : Prop := topEndsRow.holds Tryz.pinned (OpenSpec.ofChange topEndsWrong)

/-- 'parclosetop.TopRefused': WHATEVER THE INPUT: true; the input reads as it did. -/
def topRefusedSpec : ChangeSpec := { name := "topRefused", fn := fun _ => fun
  | [d1, d2] => { results := [.lit (.bool true)], args := [d1, d2] }
  | _ => none }
def topRefusedRow : OpenClaim := { program := "ytnjjdpiofbajlaagreat", sum := "b4697a10007cf74ecfbdb07c64cf44ac2f4a25174c3114e4a37d5511b25ecddb", func := "parclose/parclosetop.TopRefused", spec := "topRefused", inPlace := ["slices.overlaps[int]"], unfollowed := true, recurses := true, apart := false }
def TopRefusedSaid : Prop := topRefusedRow.holds Tryz.pinned (OpenSpec.ofChange topRefusedSpec)

/-- ITS FALSE NEIGHBOUR: 'it returns false'. Refute it at one input. -/
def topRefusedWrong : ChangeSpec := { name := "topRefused", fn := fun _ => fun
  | [d1, d2] => { results := [.lit (.bool false)], args := [d1, d2] }
  | _ => none }
def TopRefusedWrongFalsely : Prop := topRefusedRow.holds Tryz.pinned (OpenSpec.ofChange topRefusedWrong)

/-- 'parclosetop.TopMemory': WHATEVER THE INPUT: true; the input reads as it did. -/
def topMemorySpec : ChangeSpec := { name := "topMemory", fn := fun _ => fun
  | [d] => { results := [.lit (.bool true)], args := [d] }
  | _ => none }
def topMemoryRow : OpenClaim := { program := "ytnjjdpiofbajlaagreat", sum := "b4697a10007cf74ecfbdb07c64cf44ac2f4a25174c3114e4a37d5511b25ecddb", func := "parclose/parclosetop.TopMemory", spec := "topMemory", inPlace := ["slices.overlaps[int]"], unfollowed := true, recurses := true, apart := false }
def TopMemorySaid : Prop := topMemoryRow.holds Tryz.pinned (OpenSpec.ofChange topMemorySpec)

/-- ITS FALSE NEIGHBOUR: 'it returns false'. Refute it at one input. -/
def topMemoryWrong : ChangeSpec := { name := "topMemory", fn := fun _ => fun
  | [d] => { results := [.lit (.bool false)], args := [d] }
  | _ => none }
def TopMemoryWrongFalsely : Prop := topMemoryRow.holds Tryz.pinned (OpenSpec.ofChange topMemoryWrong)

/- THE SECOND FORM. 'bulk': how many values and letters a reading holds, each counted each time it is reached (what is shared counts as often as it is met; a slice's spare places count too). A statement '..UptoSaid' is the law's where the arguments, and the package variables that the reading takes, are together of bulk at most 1048576: NARROWER than '..Said'. Prove '..Said' where nothing that the law and all that it calls make is longer than what came in: it says more and counts as full. Else prove '..UptoSaid'. A law counts once. -/
mutual
def uptoBulk {H : Type} : DataW H → Nat
  | .lit (.string bytes) => bytes.length + 1
  | .lit _ => 1
  | .nil => 1
  | .ptr d => uptoBulk d + 1
  | .slice elems spare => uptoBulkAll elems + uptoBulkAll spare + 1
  | .agg parts => uptoBulkAll parts + 1
  | .iface _ d => uptoBulk d + 1
  | .map entries => uptoBulkEntries entries + 1
  | .held _ => 1
def uptoBulkAll {H : Type} : List (DataW H) → Nat
  | [] => 0
  | d :: r => uptoBulk d + uptoBulkAll r
def uptoBulkEntries {H : Type} : List (Lit × DataW H) → Nat
  | [] => 0
  | x :: r => uptoBulkEntry x + uptoBulkEntries r
def uptoBulkEntry {H : Type} : Lit × DataW H → Nat
  | (.string bytes, d) => bytes.length + uptoBulk d + 1
  | (_, d) => uptoBulk d + 1
 end
def uptoSmall : (H : Type) → List (DataW H) → Bool := fun _ ds => decide (uptoBulkAll ds ≤ 1048576)
def OpenSpec.upto (s : _root_.Go.ChangeSpec) : _root_.Go.OpenSpec := { _root_.Go.OpenSpec.ofChange s with cond := some uptoSmall }

/-- 'parclosetop.TopOwned', WHERE WHAT IT READS IS OF BULK AT MOST 1048576: true; the input reads as it did. -/
def topOwnedUptoRow : OpenClaim := { program := "ytnjjdpiofbajlaagreat", sum := "b4697a10007cf74ecfbdb07c64cf44ac2f4a25174c3114e4a37d5511b25ecddb", func := "parclose/parclosetop.TopOwned", spec := "topOwned", inPlace := ["slices.overlaps[int]"], unfollowed := true, recurses := true, apart := false, narrowed := true }
def TopOwnedUptoSaid : Prop := topOwnedUptoRow.holds Tryz.pinned (OpenSpec.upto topOwnedSpec)

/-- 'parclosetop.TopSecret', WHERE WHAT IT READS IS OF BULK AT MOST 1048576: true; the input reads as it did. -/
def topSecretUptoRow : OpenClaim := { program := "ytnjjdpiofbajlaagreat", sum := "b4697a10007cf74ecfbdb07c64cf44ac2f4a25174c3114e4a37d5511b25ecddb", func := "parclose/parclosetop.TopSecret", spec := "topSecret", inPlace := ["slices.overlaps[int]"], unfollowed := true, recurses := true, apart := false, narrowed := true }
def TopSecretUptoSaid : Prop := topSecretUptoRow.holds Tryz.pinned (OpenSpec.upto topSecretSpec)

/-- 'parclosetop.TopArrives', WHERE WHAT IT READS IS OF BULK AT MOST 1048576: true; the input reads as it did. -/
def topArrivesUptoRow : OpenClaim := { program := "ytnjjdpiofbajlaagreat", sum := "b4697a10007cf74ecfbdb07c64cf44ac2f4a25174c3114e4a37d5511b25ecddb", func := "parclose/parclosetop.TopArrives", spec := "topArrives", inPlace := ["slices.overlaps[int]"], unfollowed := true, recurses := true, apart := false, narrowed := true }
def TopArrivesUptoSaid : Prop := topArrivesUptoRow.holds Tryz.pinned (OpenSpec.upto topArrivesSpec)

/-- 'parclosetop.TopEnds', WHERE WHAT IT READS IS OF BULK AT MOST 1048576: true; the input reads as it did. -/
def topEndsUptoRow : OpenClaim := { program := "ytnjjdpiofbajlaagreat", sum := "b4697a10007cf74ecfbdb07c64cf44ac2f4a25174c3114e4a37d5511b25ecddb", func := "parclose/parclosetop.TopEnds", spec := "topEnds", inPlace := ["slices.overlaps[int]"], unfollowed := true, recurses := true, apart := false, narrowed := true }
def TopEndsUptoSaid : Prop := topEndsUptoRow.holds Tryz.pinned (OpenSpec.upto topEndsSpec)

/-- 'parclosetop.TopRefused', WHERE WHAT IT READS IS OF BULK AT MOST 1048576: true; the input reads as it did. -/
def topRefusedUptoRow : OpenClaim := { program := "ytnjjdpiofbajlaagreat", sum := "b4697a10007cf74ecfbdb07c64cf44ac2f4a25174c3114e4a37d5511b25ecddb", func := "parclose/parclosetop.TopRefused", spec := "topRefused", inPlace := ["slices.overlaps[int]"], unfollowed := true, recurses := true, apart := false, narrowed := true }
def TopRefusedUptoSaid : Prop := topRefusedUptoRow.holds Tryz.pinned (OpenSpec.upto topRefusedSpec)

/-- 'parclosetop.TopMemory', WHERE WHAT IT READS IS OF BULK AT MOST 1048576: true; the input reads as it did. -/
def topMemoryUptoRow : OpenClaim := { program := "ytnjjdpiofbajlaagreat", sum := "b4697a10007cf74ecfbdb07c64cf44ac2f4a25174c3114e4a37d5511b25ecddb", func := "parclose/parclosetop.TopMemory", spec := "topMemory", inPlace := ["slices.overlaps[int]"], unfollowed := true, recurses := true, apart := false, narrowed := true }
def TopMemoryUptoSaid : Prop := topMemoryUptoRow.holds Tryz.pinned (OpenSpec.upto topMemorySpec)

end Rows
end Go.Proofs.YtnjjdpiofbajlaaGreat
