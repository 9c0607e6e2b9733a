/- Walks and plain laws that the claim rests on, part 6. -/
import Derived.Test.YtnihccinpbpllaaP2
import Derived.Test.YtnihccinpbpllaaP1
import Derived.Test.YtnihccinpbpllaaP4
import Derived.Deep.RegionLaw
set_option linter.unusedSimpArgs false
set_option linter.unusedVariables false
/- The walks through the references' copies of mail, frames, lines. -/
namespace Go.Proofs.Ytnihccinpbpllaa
open Go.RowKit

def mailV (m : Mail) (la : Option Addr) (lc : Nat) (ga : Option Addr) (gc : Nat) : Value := .agg #[.int .i64 m.host, .int .i64 m.thread, .slice la m.label.length lc, .slice ga m.grants.length gc, .string m.text]

/-- New memory: blocks that did not lie in w. -/
abbrev newIn (w : World) : Nat → Prop := fun b => w.heap.size ≤ b

end Go.Proofs.Ytnihccinpbpllaa

/- The walk through the reference's copy of a frame. -/
namespace Go.Proofs.Ytnihccinpbpllaa
open Go.RowKit

def frameV (f : Frame) (la : Option Addr) (lc : Nat) (ga : Option Addr) (gc : Nat) (ca : Option Addr) (cc : Nat) : Value := .agg #[.int .i64 f.src, .int .i64 f.dst, .int .i64 f.seq, .bool f.ack, .int .i64 f.thread, .int .i64 f.mail.host, .int .i64 f.mail.thread, .slice la f.mail.label.length lc, .slice ga f.mail.grants.length gc, .string f.mail.text, .slice ca f.certs.length cc]

/-- What a frame holds lies within the bounds of append. -/
structure Frame.Fits (f : Frame) : Prop where
  label : f.mail.label.length * 16 ≤ 140737488355328
  grants : f.mail.grants.length * 8 ≤ 140737488355328
  certs : f.certs.length * 32 ≤ 140737488355328

end Go.Proofs.Ytnihccinpbpllaa

/- The walk through the reference's copy of a line. -/
namespace Go.Proofs.Ytnihccinpbpllaa
open Go.RowKit

def sentCells (s : Sent) (la : Option Addr) (lc : Nat) (ga : Option Addr) (gc : Nat) (ca : Option Addr) (cc : Nat) : List Value := [.int .i64 s.frame.src, .int .i64 s.frame.dst, .int .i64 s.frame.seq, .bool s.frame.ack, .int .i64 s.frame.thread, .int .i64 s.frame.mail.host, .int .i64 s.frame.mail.thread, .slice la s.frame.mail.label.length lc, .slice ga s.frame.mail.grants.length gc, .string s.frame.mail.text, .slice ca s.frame.certs.length cc, .int .i64 s.tries, .int .i64 s.due]

/-- Blocks from B on, but the one at o. -/
def besides (B : Nat) (o : Option Addr) (b : Nat) : Prop := B ≤ b ∧ o.map (·.block) ≠ some b

theorem RSent.move {ok ok' : Nat → Prop} {w w' : World} {cs : List Value} {s : Sent} (h : RSent ok w cs s) (hs : w.heap.size ≤ w'.heap.size) (hk : ∀ b, b < w.heap.size → ok b → ok' b ∧ w'.heap[b]? = w.heap[b]?) : RSent ok' w' cs s := by
  obtain ⟨la, lc, ga, gc, ca, cc, e, h1, h2, h3⟩ := h
  exact ⟨la, lc, ga, gc, ca, cc, e, h1.move hs hk fun _ _ h => h, h2.move hs hk fun _ _ h => h, h3.move hs hk fun _ _ h => h⟩

/-- One element more, whose own memory is new: what the elements hold still lies apart from the row. -/
theorem sents_push {B : Nat} {wr wa w' : World} {T : TypeId} {o : Option Addr} {c g : Nat} {l : List Sent} (hr : Below wr.heap.size wr wa) (hO : Own B T w' 13 (RSent (besides B o) wa) (some ⟨g, 0, none⟩) c l) (hg : wa.grownBy w' (o.map (·.block))) (hat : AtOrNew o g wa) :
    Own B T w' 13 (RSent (besides B (some ⟨g, 0, none⟩)) w') (some ⟨g, 0, none⟩) c l :=
  hO.mono fun _ _ h => h.move hg.size fun b hb ho => ⟨⟨ho.1, fun e => by
    simp only [Option.map_some, Option.some.injEq] at e
    subst e
    rcases hat with hat | hat
    · exact ho.2 hat
    · omega⟩, hg.block b hb fun e => ho.2 e.symm⟩

end Go.Proofs.Ytnihccinpbpllaa

/- The walks through the library's clones of lists, and line's wait. -/
namespace Go.Proofs.Ytnihccinpbpllaa
open Go.RowKit

end Go.Proofs.Ytnihccinpbpllaa

/- The walk through line.Send. -/
namespace Go.Proofs.Ytnihccinpbpllaa
open Go.RowKit

/-- A frame of nothing, as a value. -/
def frameZ : Value := .agg #[.int .i64 0, .int .i64 0, .int .i64 0, .bool false, .int .i64 0, .int .i64 0, .int .i64 0, .slice none 0 0, .slice none 0 0, .string ⟨#[]⟩, .slice none 0 0]

end Go.Proofs.Ytnihccinpbpllaa

/- The walks through the references' comparisons of mail, frames, lines that read alike. -/
namespace Go.Proofs.Ytnihccinpbpllaa
open Go.RowKit

/-- Both lists that a mail holds. -/
structure MailR (ok : Nat → Prop) (w : World) (m : Mail) (la : Option Addr) (lc : Nat) (ga : Option Addr) (gc : Nat) : Prop where
  label : SlR ok w 2 RLev la lc m.label
  grants : SlR ok w 1 RInt ga gc m.grants
theorem MailR.below {ok : Nat → Prop} {w w' : World} {m : Mail} {la : Option Addr} {lc : Nat} {ga : Option Addr} {gc : Nat} (h : MailR ok w m la lc ga gc) (hb : Below w.heap.size w w') : MailR ok w' m la lc ga gc := ⟨h.label.below hb, h.grants.below hb⟩

structure FrameR (ok : Nat → Prop) (w : World) (f : Frame) (la : Option Addr) (lc : Nat) (ga : Option Addr) (gc : Nat) (ca : Option Addr) (cc : Nat) : Prop where
  mail : MailR ok w f.mail la lc ga gc
  certs : SlR ok w 4 RCert ca cc f.certs
theorem FrameR.below {ok : Nat → Prop} {w w' : World} {f : Frame} {la : Option Addr} {lc : Nat} {ga : Option Addr} {gc : Nat} {ca : Option Addr} {cc : Nat} (h : FrameR ok w f la lc ga gc ca cc) (hb : Below w.heap.size w w') : FrameR ok w' f la lc ga gc ca cc := ⟨h.mail.below hb, h.certs.below hb⟩

end Go.Proofs.Ytnihccinpbpllaa

/- Copies of labels and numbers, by their own memory. -/
namespace Go.Proofs.Ytnihccinpbpllaa
open Go.RowKit

set_option maxRecDepth 100000 in
theorem law_levels (ok : Nat → Prop) (w : World) (a : Option Addr) (c : Nat) (l : List Lev) (hl : l.length * 16 ≤ 140737488355328) (hR : SlR ok w 2 RLev a c l) :
    Calls Try.prog 11 #[.slice a l.length c] w fun e w' => ∃ a' c', e = .returned (.slice a' l.length c') ∧ Below w.heap.size w w' ∧ Own w.heap.size 43 w' 2 RLev a' c' l := by
  obtain ⟨i0, hi, hz0, hz1, hz2⟩ := info_parts info_Level
  go_enter Try.func11, Try.ntmps11
  go_wp2_with (first | go_skip | (at_builtin; go_must (refine wpList_copy (wanted_none rfl) _ _ 23 rfl 43 i0 _ 2 16 Try.underlying23 hi hz0 hz1 hz2 rfl (by decide) rfl rfl rfl hR hl ?_; intro a' c' w' hO hb)))
  go_ret
  exact ⟨a', c', rfl, hb, hO⟩

set_option maxRecDepth 100000 in
theorem law_numbers (ok : Nat → Prop) (w : World) (a : Option Addr) (c : Nat) (l : List Int) (hl : l.length * 8 ≤ 140737488355328) (hR : SlR ok w 1 RInt a c l) :
    Calls Try.prog 17 #[.slice a l.length c] w fun e w' => ∃ a' c', e = .returned (.slice a' l.length c') ∧ Below w.heap.size w w' ∧ Own w.heap.size 3 w' 1 RInt a' c' l := by
  obtain ⟨i0, hi, hz0, hz1, hz2⟩ := info_parts info_int
  go_enter Try.func17, Try.ntmps17
  go_wp2_with (first | go_skip | (at_builtin; go_must (refine wpList_copy (wanted_none rfl) _ _ 28 rfl 3 i0 _ 1 8 Try.underlying28 hi hz0 hz1 hz2 rfl (by decide) rfl rfl rfl hR hl ?_; intro a' c' w' hO hb)))
  go_ret
  exact ⟨a', c', rfl, hb, hO⟩

end Go.Proofs.Ytnihccinpbpllaa
