/-
  No cell of these rows narrows 'for every input' (looked for: loops, veiled, ifaces, maps, wideKeys, modest, calm, conditions, laid).
  DERIVED. THE GIVEN ROWS OF THIS SEAT. 6 by the template 'for every input the law returns true; each argument reads behind the call as it read before'; 0 by the template 'total and deterministic' (their statements: YtclocdhkpckolaaTotals.lean).
  GIVEN WITH THE SEED: the statements are not yours to turn. If you find one false, say at which input.
  Laid BY PROGRAM, IN A SANDBOX (cutbox-rows.mjs): the forced cells as the released guide's own fill.sh prints them over the translation 63c98b7a4cc4b3a6… (all of the seat's roots in one cut). By AI agents, Wed Nov 11 2026. No macro, syntax, notation, axiom, sorry.
-/
import Derived.Test.YtclocdhkpckolaaChecked
import GoSem.Claim
import GoSem.ClaimJoined
import GoSem.ClaimMapViews
import Derived.JoinedTies
import Derived.KernelRfl
namespace Go.Proofs.Ytclocdhkpckolaa
/- THE CELL 'sum', in the pinned program and in every row, IS THE sha256 OF THE DUMP (.gsa) THAT YtclocdhkpckolaaProg.lean LOADS. Nothing in Lean hashes anything: it is a label: what it is worth is what the hold of that sum in a sandbox is worth. -/
noncomputable def Try.pinned : Pinned := { name := "ytclocdhkpckolaa", sum := "63c98b7a4cc4b3a6db762478491756a2dadf7f6f906f4efae096924508912be5", checked := Try.checked }
namespace Rows
def none {H : Type} : Left H := { results := [], args := [] }

/-- 'parcloselaw.LineSends': WHATEVER THE INPUT: true; the input reads as it did. -/
def lineSendsSpec : ChangeSpec := { name := "lineSends", fn := fun _ => fun
  | [d1, d2, d3] => { results := [.lit (.bool true)], args := [d1, d2, d3] }
  | _ => none }
def lineSendsRow : OpenClaim := { program := "ytclocdhkpckolaa", sum := "63c98b7a4cc4b3a6db762478491756a2dadf7f6f906f4efae096924508912be5", func := "parclose/parcloselaw.LineSends", spec := "lineSends", apart := false }
def LineSendsSaid : Prop := lineSendsRow.holds Try.pinned (OpenSpec.ofChange lineSendsSpec)

/-- ITS FALSE NEIGHBOUR: 'it returns false'. Refute it at one input. -/
def lineSendsWrong : ChangeSpec := { name := "lineSends", fn := fun _ => fun
  | [d1, d2, d3] => { results := [.lit (.bool false)], args := [d1, d2, d3] }
  | _ => none }
def LineSendsWrongFalsely : Prop := lineSendsRow.holds Try.pinned (OpenSpec.ofChange lineSendsWrong)

/-- 'parcloselaw.LineTakes': WHATEVER THE INPUT: true; the input reads as it did. -/
def lineTakesSpec : ChangeSpec := { name := "lineTakes", fn := fun _ => fun
  | [d1, d2] => { results := [.lit (.bool true)], args := [d1, d2] }
  | _ => none }
def lineTakesRow : OpenClaim := { program := "ytclocdhkpckolaa", sum := "63c98b7a4cc4b3a6db762478491756a2dadf7f6f906f4efae096924508912be5", func := "parclose/parcloselaw.LineTakes", spec := "lineTakes", apart := false }
def LineTakesSaid : Prop := lineTakesRow.holds Try.pinned (OpenSpec.ofChange lineTakesSpec)

/-- ITS FALSE NEIGHBOUR: 'it returns false'. Refute it at one input. -/
def lineTakesWrong : ChangeSpec := { name := "lineTakes", fn := fun _ => fun
  | [d1, d2] => { results := [.lit (.bool false)], args := [d1, d2] }
  | _ => none }
def LineTakesWrongFalsely : Prop := lineTakesRow.holds Try.pinned (OpenSpec.ofChange lineTakesWrong)

/-- 'parclosekeep.LineOnce': WHATEVER THE INPUT: true; the input reads as it did. -/
def lineOnceSpec : ChangeSpec := { name := "lineOnce", fn := fun _ => fun
  | [d1, d2] => { results := [.lit (.bool true)], args := [d1, d2] }
  | _ => none }
def lineOnceRow : OpenClaim := { program := "ytclocdhkpckolaa", sum := "63c98b7a4cc4b3a6db762478491756a2dadf7f6f906f4efae096924508912be5", func := "parclose/parclosekeep.LineOnce", spec := "lineOnce", apart := false }
def LineOnceSaid : Prop := lineOnceRow.holds Try.pinned (OpenSpec.ofChange lineOnceSpec)

/-- ITS FALSE NEIGHBOUR: 'it returns false'. Refute it at one input. -/
def lineOnceWrong : ChangeSpec := { name := "lineOnce", fn := fun _ => fun
  | [d1, d2] => { results := [.lit (.bool false)], args := [d1, d2] }
  | _ => none }
def LineOnceWrongFalsely : Prop := lineOnceRow.holds Try.pinned (OpenSpec.ofChange lineOnceWrong)

/-- 'parclosekeep.LineTurned': WHATEVER THE INPUT: true; the input reads as it did. -/
def lineTurnedSpec : ChangeSpec := { name := "lineTurned", fn := fun _ => fun
  | [d] => { results := [.lit (.bool true)], args := [d] }
  | _ => none }
def lineTurnedRow : OpenClaim := { program := "ytclocdhkpckolaa", sum := "63c98b7a4cc4b3a6db762478491756a2dadf7f6f906f4efae096924508912be5", func := "parclose/parclosekeep.LineTurned", spec := "lineTurned", apart := false }
def LineTurnedSaid : Prop := lineTurnedRow.holds Try.pinned (OpenSpec.ofChange lineTurnedSpec)

/-- ITS FALSE NEIGHBOUR: 'it returns false'. Refute it at one input. -/
def lineTurnedWrong : ChangeSpec := { name := "lineTurned", fn := fun _ => fun
  | [d] => { results := [.lit (.bool false)], args := [d] }
  | _ => none }
def LineTurnedWrongFalsely : Prop := lineTurnedRow.holds Try.pinned (OpenSpec.ofChange lineTurnedWrong)

/-- 'parcloselaw.LineAnswers': WHATEVER THE INPUT: true; the input reads as it did. -/
def lineAnswersSpec : ChangeSpec := { name := "lineAnswers", fn := fun _ => fun
  | [d1, d2, d3] => { results := [.lit (.bool true)], args := [d1, d2, d3] }
  | _ => none }
def lineAnswersRow : OpenClaim := { program := "ytclocdhkpckolaa", sum := "63c98b7a4cc4b3a6db762478491756a2dadf7f6f906f4efae096924508912be5", func := "parclose/parcloselaw.LineAnswers", spec := "lineAnswers", unfollowed := true, recurses := true, apart := false }
def LineAnswersSaid : Prop := lineAnswersRow.holds Try.pinned (OpenSpec.ofChange lineAnswersSpec)

/-- ITS FALSE NEIGHBOUR: 'it returns false'. Refute it at one input. -/
def lineAnswersWrong : ChangeSpec := { name := "lineAnswers", fn := fun _ => fun
  | [d1, d2, d3] => { results := [.lit (.bool false)], args := [d1, d2, d3] }
  | _ => none }
def LineAnswersWrongFalsely : Prop := lineAnswersRow.holds Try.pinned (OpenSpec.ofChange lineAnswersWrong)

/-- 'parclosekeep.LineTries': WHATEVER THE INPUT: true; the input reads as it did. -/
def lineTriesSpec : ChangeSpec := { name := "lineTries", fn := fun _ => fun
  | [d1, d2, d3, d4] => { results := [.lit (.bool true)], args := [d1, d2, d3, d4] }
  | _ => none }
def lineTriesRow : OpenClaim := { program := "ytclocdhkpckolaa", sum := "63c98b7a4cc4b3a6db762478491756a2dadf7f6f906f4efae096924508912be5", func := "parclose/parclosekeep.LineTries", spec := "lineTries", unfollowed := true, recurses := true, apart := false }
def LineTriesSaid : Prop := lineTriesRow.holds Try.pinned (OpenSpec.ofChange lineTriesSpec)

/-- ITS FALSE NEIGHBOUR: 'it returns false'. Refute it at one input. -/
def lineTriesWrong : ChangeSpec := { name := "lineTries", fn := fun _ => fun
  | [d1, d2, d3, d4] => { results := [.lit (.bool false)], args := [d1, d2, d3, d4] }
  | _ => none }
def LineTriesWrongFalsely : Prop := lineTriesRow.holds Try.pinned (OpenSpec.ofChange lineTriesWrong)

/- THE SECOND FORM. 'bulk': how many values and letters a reading holds, each counted each time it is reached (what is shared counts as often as it is met; a slice's spare places count too). A statement '..UptoSaid' is the law's where the arguments, and the package variables that the reading takes, are together of bulk at most 1048576: NARROWER than '..Said'. Prove '..Said' where nothing that the law and all that it calls make is longer than what came in: it says more and counts as full. Else prove '..UptoSaid'. A law counts once. -/
mutual
def uptoBulk {H : Type} : DataW H → Nat
  | .lit (.string bytes) => bytes.length + 1
  | .lit _ => 1
  | .nil => 1
  | .ptr d => uptoBulk d + 1
  | .slice elems spare => uptoBulkAll elems + uptoBulkAll spare + 1
  | .agg parts => uptoBulkAll parts + 1
  | .iface _ d => uptoBulk d + 1
  | .map entries => uptoBulkEntries entries + 1
  | .held _ => 1
def uptoBulkAll {H : Type} : List (DataW H) → Nat
  | [] => 0
  | d :: r => uptoBulk d + uptoBulkAll r
def uptoBulkEntries {H : Type} : List (Lit × DataW H) → Nat
  | [] => 0
  | x :: r => uptoBulkEntry x + uptoBulkEntries r
def uptoBulkEntry {H : Type} : Lit × DataW H → Nat
  | (.string bytes, d) => bytes.length + uptoBulk d + 1
  | (_, d) => uptoBulk d + 1
 end
def uptoSmall : (H : Type) → List (DataW H) → Bool := fun _ ds => decide (uptoBulkAll ds ≤ 1048576)
def OpenSpec.upto (s : _root_.Go.ChangeSpec) : _root_.Go.OpenSpec := { _root_.Go.OpenSpec.ofChange s with cond := some uptoSmall }

/-- 'parcloselaw.LineSends', WHERE WHAT IT READS IS OF BULK AT MOST 1048576: true; the input reads as it did. -/
def lineSendsUptoRow : OpenClaim := { program := "ytclocdhkpckolaa", sum := "63c98b7a4cc4b3a6db762478491756a2dadf7f6f906f4efae096924508912be5", func := "parclose/parcloselaw.LineSends", spec := "lineSends", apart := false, narrowed := true }
def LineSendsUptoSaid : Prop := lineSendsUptoRow.holds Try.pinned (OpenSpec.upto lineSendsSpec)

/-- 'parcloselaw.LineTakes', WHERE WHAT IT READS IS OF BULK AT MOST 1048576: true; the input reads as it did. -/
def lineTakesUptoRow : OpenClaim := { program := "ytclocdhkpckolaa", sum := "63c98b7a4cc4b3a6db762478491756a2dadf7f6f906f4efae096924508912be5", func := "parclose/parcloselaw.LineTakes", spec := "lineTakes", apart := false, narrowed := true }
def LineTakesUptoSaid : Prop := lineTakesUptoRow.holds Try.pinned (OpenSpec.upto lineTakesSpec)

/-- 'parclosekeep.LineOnce', WHERE WHAT IT READS IS OF BULK AT MOST 1048576: true; the input reads as it did. -/
def lineOnceUptoRow : OpenClaim := { program := "ytclocdhkpckolaa", sum := "63c98b7a4cc4b3a6db762478491756a2dadf7f6f906f4efae096924508912be5", func := "parclose/parclosekeep.LineOnce", spec := "lineOnce", apart := false, narrowed := true }
def LineOnceUptoSaid : Prop := lineOnceUptoRow.holds Try.pinned (OpenSpec.upto lineOnceSpec)

/-- 'parclosekeep.LineTurned', WHERE WHAT IT READS IS OF BULK AT MOST 1048576: true; the input reads as it did. -/
def lineTurnedUptoRow : OpenClaim := { program := "ytclocdhkpckolaa", sum := "63c98b7a4cc4b3a6db762478491756a2dadf7f6f906f4efae096924508912be5", func := "parclose/parclosekeep.LineTurned", spec := "lineTurned", apart := false, narrowed := true }
def LineTurnedUptoSaid : Prop := lineTurnedUptoRow.holds Try.pinned (OpenSpec.upto lineTurnedSpec)

/-- 'parcloselaw.LineAnswers', WHERE WHAT IT READS IS OF BULK AT MOST 1048576: true; the input reads as it did. -/
def lineAnswersUptoRow : OpenClaim := { program := "ytclocdhkpckolaa", sum := "63c98b7a4cc4b3a6db762478491756a2dadf7f6f906f4efae096924508912be5", func := "parclose/parcloselaw.LineAnswers", spec := "lineAnswers", unfollowed := true, recurses := true, apart := false, narrowed := true }
def LineAnswersUptoSaid : Prop := lineAnswersUptoRow.holds Try.pinned (OpenSpec.upto lineAnswersSpec)

/-- 'parclosekeep.LineTries', WHERE WHAT IT READS IS OF BULK AT MOST 1048576: true; the input reads as it did. -/
def lineTriesUptoRow : OpenClaim := { program := "ytclocdhkpckolaa", sum := "63c98b7a4cc4b3a6db762478491756a2dadf7f6f906f4efae096924508912be5", func := "parclose/parclosekeep.LineTries", spec := "lineTries", unfollowed := true, recurses := true, apart := false, narrowed := true }
def LineTriesUptoSaid : Prop := lineTriesUptoRow.holds Try.pinned (OpenSpec.upto lineTriesSpec)

end Rows
end Go.Proofs.Ytclocdhkpckolaa
