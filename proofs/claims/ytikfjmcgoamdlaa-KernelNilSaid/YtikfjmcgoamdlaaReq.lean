/- A call of a thread and an act, as Lean's own records. No program is in sight. -/
import Derived.Test.YtikfjmcgoamdlaaData
set_option linter.unusedSimpArgs false
set_option linter.unusedVariables false
namespace Go.Proofs.Ytikfjmcgoamdlaa
open Go.RowKit

structure Req where
  kind : Int
  h : Int
  t : Int
  n : Int
  c : Int
  label : List Lev
  grants : List Int
  text : ByteArray

structure Deed where
  kind : Int
  h : Int
  t : Int
  n : Int
  call : Req

def RReq (ok : Nat → Prop) (w : World) (cs : List Value) (x : Req) : Prop :=
  ∃ la lc ga gc, cs = [.int .i64 x.kind, .int .i64 x.h, .int .i64 x.t, .int .i64 x.n, .int .i64 x.c, .slice la x.label.length lc, .slice ga x.grants.length gc, .string x.text] ∧ SlR ok w 2 RLev la lc x.label ∧ SlR ok w 1 RInt ga gc x.grants

def RDeed (ok : Nat → Prop) (w : World) (cs : List Value) (x : Deed) : Prop :=
  ∃ la lc ga gc, cs = [.int .i64 x.kind, .int .i64 x.h, .int .i64 x.t, .int .i64 x.n, .int .i64 x.call.kind, .int .i64 x.call.h, .int .i64 x.call.t, .int .i64 x.call.n, .int .i64 x.call.c, .slice la x.call.label.length lc, .slice ga x.call.grants.length gc, .string x.call.text] ∧ SlR ok w 2 RLev la lc x.call.label ∧ SlR ok w 1 RInt ga gc x.call.grants

end Go.Proofs.Ytikfjmcgoamdlaa
