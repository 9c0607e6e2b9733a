/- The walk through the reference's copy of a frame. -/
import Derived.Test.YtbngblmdcggfdaaCopy
set_option linter.unusedSimpArgs false
set_option linter.unusedVariables false
namespace Go.Proofs.Ytbngblmdcggfdaa
open Go.RowKit

def frameV (f : Frame) (la : Option Addr) (lc : Nat) (ga : Option Addr) (gc : Nat) (ca : Option Addr) (cc : Nat) : Value := .agg #[.int .i64 f.src, .int .i64 f.dst, .int .i64 f.seq, .bool f.ack, .int .i64 f.thread, .int .i64 f.mail.host, .int .i64 f.mail.thread, .slice la f.mail.label.length lc, .slice ga f.mail.grants.length gc, .string f.mail.text, .slice ca f.certs.length cc]

/-- What a frame holds lies within the bounds of append. -/
structure Frame.Fits (f : Frame) : Prop where
  label : f.mail.label.length * 16 ≤ 140737488355328
  grants : f.mail.grants.length * 8 ≤ 140737488355328
  certs : f.certs.length * 32 ≤ 140737488355328

end Go.Proofs.Ytbngblmdcggfdaa
