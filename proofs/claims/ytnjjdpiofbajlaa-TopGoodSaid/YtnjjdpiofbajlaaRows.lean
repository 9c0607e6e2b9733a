/-
  No cell of these rows narrows 'for every input' (looked for: loops, veiled, ifaces, maps, wideKeys, modest, calm, conditions, laid).
  DERIVED. THE GIVEN ROWS OF THIS SEAT. 3 by the template 'for every input the law returns true; each argument reads behind the call as it read before'; 0 by the template 'total and deterministic' (their statements: YtnjjdpiofbajlaaTotals.lean).
  GIVEN WITH THE SEED: the statements are not yours to turn. If you find one false, say at which input.
  Laid BY PROGRAM, IN A SANDBOX (cutbox-rows.mjs): the forced cells as the released guide's own fill.sh prints them over the translation ed63cab71cba6567… (all of the seat's roots in one cut). By AI agents, Wed Nov 11 2026. No macro, syntax, notation, axiom, sorry.
-/
import Derived.Test.YtnjjdpiofbajlaaChecked
import GoSem.Claim
import GoSem.ClaimJoined
import GoSem.ClaimMapViews
import Derived.JoinedTies
import Derived.KernelRfl
namespace Go.Proofs.Ytnjjdpiofbajlaa
/- THE CELL 'sum', in the pinned program and in every row, IS THE sha256 OF THE DUMP (.gsa) THAT YtnjjdpiofbajlaaProg.lean LOADS. Nothing in Lean hashes anything: it is a label: what it is worth is what the hold of that sum in a sandbox is worth. -/
noncomputable def Try.pinned : Pinned := { name := "ytnjjdpiofbajlaa", sum := "ed63cab71cba6567b18054e0079c412868b6d844fd7359e17a3f1f776918c6c8", checked := Try.checked }
namespace Rows
def none {H : Type} : Left H := { results := [], args := [] }

/-- 'parclosetop.TopGood': WHATEVER THE INPUT: true; the input reads as it did. -/
def topGoodSpec : ChangeSpec := { name := "topGood", fn := fun _ => fun
  | [d] => { results := [.lit (.bool true)], args := [d] }
  | _ => none }
def topGoodRow : OpenClaim := { program := "ytnjjdpiofbajlaa", sum := "ed63cab71cba6567b18054e0079c412868b6d844fd7359e17a3f1f776918c6c8", func := "parclose/parclosetop.TopGood", spec := "topGood", inPlace := ["slices.overlaps[int]"], unfollowed := true, recurses := true, apart := false }
def TopGoodSaid : Prop := topGoodRow.holds Try.pinned (OpenSpec.ofChange topGoodSpec)

/-- ITS FALSE NEIGHBOUR: 'it returns false'. Refute it at one input. -/
def topGoodWrong : ChangeSpec := { name := "topGood", fn := fun _ => fun
  | [d] => { results := [.lit (.bool false)], args := [d] }
  | _ => none }
def TopGoodWrongFalsely : Prop := topGoodRow.holds Try.pinned (OpenSpec.ofChange topGoodWrong)

/-- 'parclosetop.TopTrusted': WHATEVER THE INPUT: true; the input reads as it did. -/
def topTrustedSpec : ChangeSpec := { name := "topTrusted", fn := fun _ => fun
  | [d] => { results := [.lit (.bool true)], args := [d] }
  | _ => none }
def topTrustedRow : OpenClaim := { program := "ytnjjdpiofbajlaa", sum := "ed63cab71cba6567b18054e0079c412868b6d844fd7359e17a3f1f776918c6c8", func := "parclose/parclosetop.TopTrusted", spec := "topTrusted", inPlace := ["slices.overlaps[int]"], unfollowed := true, recurses := true, apart := false }
def TopTrustedSaid : Prop := topTrustedRow.holds Try.pinned (OpenSpec.ofChange topTrustedSpec)

/-- ITS FALSE NEIGHBOUR: 'it returns false'. Refute it at one input. -/
def topTrustedWrong : ChangeSpec := { name := "topTrusted", fn := fun _ => fun
  | [d] => { results := [.lit (.bool false)], args := [d] }
  | _ => none }
def TopTrustedWrongFalsely : Prop := topTrustedRow.holds Try.pinned (OpenSpec.ofChange topTrustedWrong)

/-- 'parclosetop.TopSent': WHATEVER THE INPUT: true; the input reads as it did. -/
def topSentSpec : ChangeSpec := { name := "topSent", fn := fun _ => fun
  | [d] => { results := [.lit (.bool true)], args := [d] }
  | _ => none }
def topSentRow : OpenClaim := { program := "ytnjjdpiofbajlaa", sum := "ed63cab71cba6567b18054e0079c412868b6d844fd7359e17a3f1f776918c6c8", func := "parclose/parclosetop.TopSent", spec := "topSent", inPlace := ["slices.overlaps[int]"], unfollowed := true, recurses := true, apart := false }
def TopSentSaid : Prop := topSentRow.holds Try.pinned (OpenSpec.ofChange topSentSpec)

/-- ITS FALSE NEIGHBOUR: 'it returns false'. Refute it at one input. -/
def topSentWrong : ChangeSpec := { name := "topSent", fn := fun _ => fun
  | [d] => { results := [.lit (.bool false)], args := [d] }
  | _ => none }
def TopSentWrongFalsely : Prop := topSentRow.holds Try.pinned (OpenSpec.ofChange topSentWrong)

/- THE SECOND FORM. 'bulk': how many values and letters a reading holds, each counted each time it is reached (what is shared counts as often as it is met; a slice's spare places count too). A statement '..UptoSaid' is the law's where the arguments, and the package variables that the reading takes, are together of bulk at most 1048576: NARROWER than '..Said'. Prove '..Said' where nothing that the law and all that it calls make is longer than what came in: it says more and counts as full. Else prove '..UptoSaid'. A law counts once. -/
mutual
def uptoBulk {H : Type} : DataW H → Nat
  | .lit (.string bytes) => bytes.length + 1
  | .lit _ => 1
  | .nil => 1
  | .ptr d => uptoBulk d + 1
  | .slice elems spare => uptoBulkAll elems + uptoBulkAll spare + 1
  | .agg parts => uptoBulkAll parts + 1
  | .iface _ d => uptoBulk d + 1
  | .map entries => uptoBulkEntries entries + 1
  | .held _ => 1
def uptoBulkAll {H : Type} : List (DataW H) → Nat
  | [] => 0
  | d :: r => uptoBulk d + uptoBulkAll r
def uptoBulkEntries {H : Type} : List (Lit × DataW H) → Nat
  | [] => 0
  | x :: r => uptoBulkEntry x + uptoBulkEntries r
def uptoBulkEntry {H : Type} : Lit × DataW H → Nat
  | (.string bytes, d) => bytes.length + uptoBulk d + 1
  | (_, d) => uptoBulk d + 1
 end
def uptoSmall : (H : Type) → List (DataW H) → Bool := fun _ ds => decide (uptoBulkAll ds ≤ 1048576)
def OpenSpec.upto (s : _root_.Go.ChangeSpec) : _root_.Go.OpenSpec := { _root_.Go.OpenSpec.ofChange s with cond := some uptoSmall }

/-- 'parclosetop.TopGood', WHERE WHAT IT READS IS OF BULK AT MOST 1048576: true; the input reads as it did. -/
def topGoodUptoRow : OpenClaim := { program := "ytnjjdpiofbajlaa", sum := "ed63cab71cba6567b18054e0079c412868b6d844fd7359e17a3f1f776918c6c8", func := "parclose/parclosetop.TopGood", spec := "topGood", inPlace := ["slices.overlaps[int]"], unfollowed := true, recurses := true, apart := false, narrowed := true }
def TopGoodUptoSaid : Prop := topGoodUptoRow.holds Try.pinned (OpenSpec.upto topGoodSpec)

/-- 'parclosetop.TopTrusted', WHERE WHAT IT READS IS OF BULK AT MOST 1048576: true; the input reads as it did. -/
def topTrustedUptoRow : OpenClaim := { program := "ytnjjdpiofbajlaa", sum := "ed63cab71cba6567b18054e0079c412868b6d844fd7359e17a3f1f776918c6c8", func := "parclose/parclosetop.TopTrusted", spec := "topTrusted", inPlace := ["slices.overlaps[int]"], unfollowed := true, recurses := true, apart := false, narrowed := true }
def TopTrustedUptoSaid : Prop := topTrustedUptoRow.holds Try.pinned (OpenSpec.upto topTrustedSpec)

/-- 'parclosetop.TopSent', WHERE WHAT IT READS IS OF BULK AT MOST 1048576: true; the input reads as it did. -/
def topSentUptoRow : OpenClaim := { program := "ytnjjdpiofbajlaa", sum := "ed63cab71cba6567b18054e0079c412868b6d844fd7359e17a3f1f776918c6c8", func := "parclose/parclosetop.TopSent", spec := "topSent", inPlace := ["slices.overlaps[int]"], unfollowed := true, recurses := true, apart := false, narrowed := true }
def TopSentUptoSaid : Prop := topSentUptoRow.holds Try.pinned (OpenSpec.upto topSentSpec)

end Rows
end Go.Proofs.Ytnjjdpiofbajlaa
