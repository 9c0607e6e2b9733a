/-
  No cell of these rows narrows 'for every input' (looked for: loops, veiled, ifaces, maps, wideKeys, modest, calm, conditions, laid).
  DERIVED. THE GIVEN ROWS OF THIS SEAT. 3 by the template 'for every input the law returns true; each argument reads behind the call as it read before'; 0 by the template 'total and deterministic' (their statements: YtbngblmdcggfdaaTotals.lean).
  GIVEN WITH THE SEED: the statements are not yours to turn. If you find one false, say at which input.
  Laid BY PROGRAM, IN A SANDBOX (cutbox-rows.mjs): the forced cells as the released guide's own fill.sh prints them over the translation 8746fbf39985b898… (all of the seat's roots in one cut). By AI agents, Wed Nov 11 2026. No macro, syntax, notation, axiom, sorry.
-/
import Derived.Test.YtbngblmdcggfdaaChecked
import GoSem.Claim
import GoSem.ClaimJoined
import GoSem.ClaimMapViews
import Derived.JoinedTies
import Derived.KernelRfl
namespace Go.Proofs.Ytbngblmdcggfdaa
/- THE CELL 'sum', in the pinned program and in every row, IS THE sha256 OF THE DUMP (.gsa) THAT YtbngblmdcggfdaaProg.lean LOADS. Nothing in Lean hashes anything: it is a label: what it is worth is what the hold of that sum in a sandbox is worth. -/
noncomputable def Try.pinned : Pinned := { name := "ytbngblmdcggfdaa", sum := "8746fbf39985b8987ab5b66ac95cd2c1088cb70d3cf9569cf1e77323a6cba14e", checked := Try.checked }
namespace Rows
def none {H : Type} : Left H := { results := [], args := [] }

/-- 'parcloselaw.TrustMays': WHATEVER THE INPUT: true; the input reads as it did. -/
def trustMaysSpec : ChangeSpec := { name := "trustMays", fn := fun _ => fun
  | [d1, d2, d3, d4, d5] => { results := [.lit (.bool true)], args := [d1, d2, d3, d4, d5] }
  | _ => none }
def trustMaysRow : OpenClaim := { program := "ytbngblmdcggfdaa", sum := "8746fbf39985b8987ab5b66ac95cd2c1088cb70d3cf9569cf1e77323a6cba14e", func := "parclose/parcloselaw.TrustMays", spec := "trustMays", recurses := true, plainKeys := false, apart := false }
def TrustMaysSaid : Prop := trustMaysRow.holds Try.pinned (OpenSpec.ofChange trustMaysSpec)

/-- ITS FALSE NEIGHBOUR: 'it returns false'. Refute it at one input. -/
def trustMaysWrong : ChangeSpec := { name := "trustMays", fn := fun _ => fun
  | [d1, d2, d3, d4, d5] => { results := [.lit (.bool false)], args := [d1, d2, d3, d4, d5] }
  | _ => none }
def TrustMaysWrongFalsely : Prop := trustMaysRow.holds Try.pinned (OpenSpec.ofChange trustMaysWrong)

/-- 'parclosekeep.TrustShows': WHATEVER THE INPUT: true; the input reads as it did. -/
def trustShowsSpec : ChangeSpec := { name := "trustShows", fn := fun _ => fun
  | [d1, d2, d3, d4] => { results := [.lit (.bool true)], args := [d1, d2, d3, d4] }
  | _ => none }
def trustShowsRow : OpenClaim := { program := "ytbngblmdcggfdaa", sum := "8746fbf39985b8987ab5b66ac95cd2c1088cb70d3cf9569cf1e77323a6cba14e", func := "parclose/parclosekeep.TrustShows", spec := "trustShows", recurses := true, plainKeys := false, apart := false }
def TrustShowsSaid : Prop := trustShowsRow.holds Try.pinned (OpenSpec.ofChange trustShowsSpec)

/-- ITS FALSE NEIGHBOUR: 'it returns false'. Refute it at one input. -/
def trustShowsWrong : ChangeSpec := { name := "trustShows", fn := fun _ => fun
  | [d1, d2, d3, d4] => { results := [.lit (.bool false)], args := [d1, d2, d3, d4] }
  | _ => none }
def TrustShowsWrongFalsely : Prop := trustShowsRow.holds Try.pinned (OpenSpec.ofChange trustShowsWrong)

/-- 'parclosekeep.TrustPlain': WHATEVER THE INPUT: true; the input reads as it did. -/
def trustPlainSpec : ChangeSpec := { name := "trustPlain", fn := fun _ => fun
  | [d1, d2, d3, d4] => { results := [.lit (.bool true)], args := [d1, d2, d3, d4] }
  | _ => none }
def trustPlainRow : OpenClaim := { program := "ytbngblmdcggfdaa", sum := "8746fbf39985b8987ab5b66ac95cd2c1088cb70d3cf9569cf1e77323a6cba14e", func := "parclose/parclosekeep.TrustPlain", spec := "trustPlain", recurses := true, plainKeys := false, apart := false }
def TrustPlainSaid : Prop := trustPlainRow.holds Try.pinned (OpenSpec.ofChange trustPlainSpec)

/-- ITS FALSE NEIGHBOUR: 'it returns false'. Refute it at one input. -/
def trustPlainWrong : ChangeSpec := { name := "trustPlain", fn := fun _ => fun
  | [d1, d2, d3, d4] => { results := [.lit (.bool false)], args := [d1, d2, d3, d4] }
  | _ => none }
def TrustPlainWrongFalsely : Prop := trustPlainRow.holds Try.pinned (OpenSpec.ofChange trustPlainWrong)

/- THE SECOND FORM. 'bulk': how many values and letters a reading holds, each counted each time it is reached (what is shared counts as often as it is met; a slice's spare places count too). A statement '..UptoSaid' is the law's where the arguments, and the package variables that the reading takes, are together of bulk at most 1048576: NARROWER than '..Said'. Prove '..Said' where nothing that the law and all that it calls make is longer than what came in: it says more and counts as full. Else prove '..UptoSaid'. A law counts once. -/
mutual
def uptoBulk {H : Type} : DataW H → Nat
  | .lit (.string bytes) => bytes.length + 1
  | .lit _ => 1
  | .nil => 1
  | .ptr d => uptoBulk d + 1
  | .slice elems spare => uptoBulkAll elems + uptoBulkAll spare + 1
  | .agg parts => uptoBulkAll parts + 1
  | .iface _ d => uptoBulk d + 1
  | .map entries => uptoBulkEntries entries + 1
  | .held _ => 1
def uptoBulkAll {H : Type} : List (DataW H) → Nat
  | [] => 0
  | d :: r => uptoBulk d + uptoBulkAll r
def uptoBulkEntries {H : Type} : List (Lit × DataW H) → Nat
  | [] => 0
  | x :: r => uptoBulkEntry x + uptoBulkEntries r
def uptoBulkEntry {H : Type} : Lit × DataW H → Nat
  | (.string bytes, d) => bytes.length + uptoBulk d + 1
  | (_, d) => uptoBulk d + 1
 end
def uptoSmall : (H : Type) → List (DataW H) → Bool := fun _ ds => decide (uptoBulkAll ds ≤ 1048576)
def OpenSpec.upto (s : _root_.Go.ChangeSpec) : _root_.Go.OpenSpec := { _root_.Go.OpenSpec.ofChange s with cond := some uptoSmall }

/-- 'parcloselaw.TrustMays', WHERE WHAT IT READS IS OF BULK AT MOST 1048576: true; the input reads as it did. -/
def trustMaysUptoRow : OpenClaim := { program := "ytbngblmdcggfdaa", sum := "8746fbf39985b8987ab5b66ac95cd2c1088cb70d3cf9569cf1e77323a6cba14e", func := "parclose/parcloselaw.TrustMays", spec := "trustMays", recurses := true, plainKeys := false, apart := false, narrowed := true }
def TrustMaysUptoSaid : Prop := trustMaysUptoRow.holds Try.pinned (OpenSpec.upto trustMaysSpec)

/-- 'parclosekeep.TrustShows', WHERE WHAT IT READS IS OF BULK AT MOST 1048576: true; the input reads as it did. -/
def trustShowsUptoRow : OpenClaim := { program := "ytbngblmdcggfdaa", sum := "8746fbf39985b8987ab5b66ac95cd2c1088cb70d3cf9569cf1e77323a6cba14e", func := "parclose/parclosekeep.TrustShows", spec := "trustShows", recurses := true, plainKeys := false, apart := false, narrowed := true }
def TrustShowsUptoSaid : Prop := trustShowsUptoRow.holds Try.pinned (OpenSpec.upto trustShowsSpec)

/-- 'parclosekeep.TrustPlain', WHERE WHAT IT READS IS OF BULK AT MOST 1048576: true; the input reads as it did. -/
def trustPlainUptoRow : OpenClaim := { program := "ytbngblmdcggfdaa", sum := "8746fbf39985b8987ab5b66ac95cd2c1088cb70d3cf9569cf1e77323a6cba14e", func := "parclose/parclosekeep.TrustPlain", spec := "trustPlain", recurses := true, plainKeys := false, apart := false, narrowed := true }
def TrustPlainUptoSaid : Prop := trustPlainUptoRow.holds Try.pinned (OpenSpec.upto trustPlainSpec)

end Rows
end Go.Proofs.Ytbngblmdcggfdaa
