/- The program's plain records as Lean's own, and what cells stand for each. No program is in sight. -/
import Derived.Test.YtbngblmdcggfdaaLib
set_option linter.unusedSimpArgs false
set_option linter.unusedVariables false
namespace Go.Proofs.Ytbngblmdcggfdaa
open Go.RowKit

structure Lev where
  c : Int
  l : Int
  deriving DecidableEq

structure Mail where
  host : Int
  thread : Int
  label : List Lev
  grants : List Int
  text : ByteArray

structure Cert where
  c : Int
  by_ : Int
  host : Int
  till : Int
  deriving DecidableEq

structure Frame where
  src : Int
  dst : Int
  seq : Int
  ack : Bool
  thread : Int
  mail : Mail
  certs : List Cert

structure Sent where
  frame : Frame
  tries : Int
  due : Int

/-- Cells of the line's eight truths. -/
structure Eight where
  s0 : Bool
  s1 : Bool
  s2 : Bool
  s3 : Bool
  s4 : Bool
  s5 : Bool
  s6 : Bool
  s7 : Bool
  deriving DecidableEq

structure Line where
  next : Int
  sent : List Sent
  high : Int
  seen : Eight

def RInt (cs : List Value) (x : Int) : Prop := cs = [.int .i64 x]
def RLev (cs : List Value) (x : Lev) : Prop := cs = [.int .i64 x.c, .int .i64 x.l]
def RCert (cs : List Value) (x : Cert) : Prop := cs = [.int .i64 x.c, .int .i64 x.by_, .int .i64 x.host, .int .i64 x.till]
def RStr (cs : List Value) (x : ByteArray) : Prop := cs = [.string x]

def RMail (ok : Nat → Prop) (w : World) (cs : List Value) (m : Mail) : Prop :=
  ∃ la lc ga gc, cs = [.int .i64 m.host, .int .i64 m.thread, .slice la m.label.length lc, .slice ga m.grants.length gc, .string m.text] ∧ SlR ok w 2 RLev la lc m.label ∧ SlR ok w 1 RInt ga gc m.grants

def RFrame (ok : Nat → Prop) (w : World) (cs : List Value) (f : Frame) : Prop :=
  ∃ la lc ga gc ca cc, cs = [.int .i64 f.src, .int .i64 f.dst, .int .i64 f.seq, .bool f.ack, .int .i64 f.thread, .int .i64 f.mail.host, .int .i64 f.mail.thread, .slice la f.mail.label.length lc, .slice ga f.mail.grants.length gc, .string f.mail.text, .slice ca f.certs.length cc] ∧
    SlR ok w 2 RLev la lc f.mail.label ∧ SlR ok w 1 RInt ga gc f.mail.grants ∧ SlR ok w 4 RCert ca cc f.certs

def RSent (ok : Nat → Prop) (w : World) (cs : List Value) (s : Sent) : Prop :=
  ∃ la lc ga gc ca cc, cs = [.int .i64 s.frame.src, .int .i64 s.frame.dst, .int .i64 s.frame.seq, .bool s.frame.ack, .int .i64 s.frame.thread, .int .i64 s.frame.mail.host, .int .i64 s.frame.mail.thread, .slice la s.frame.mail.label.length lc, .slice ga s.frame.mail.grants.length gc, .string s.frame.mail.text, .slice ca s.frame.certs.length cc, .int .i64 s.tries, .int .i64 s.due] ∧
    SlR ok w 2 RLev la lc s.frame.mail.label ∧ SlR ok w 1 RInt ga gc s.frame.mail.grants ∧ SlR ok w 4 RCert ca cc s.frame.certs

theorem RMail.keep {ok : Nat → Prop} {w w' : World} (hk : Keeps ok w w') {cs : List Value} {m : Mail} (h : RMail ok w cs m) : RMail ok w' cs m := by
  obtain ⟨la, lc, ga, gc, e, h1, h2⟩ := h
  exact ⟨la, lc, ga, gc, e, h1.keep hk, h2.keep hk⟩
theorem RFrame.keep {ok : Nat → Prop} {w w' : World} (hk : Keeps ok w w') {cs : List Value} {f : Frame} (h : RFrame ok w cs f) : RFrame ok w' cs f := by
  obtain ⟨la, lc, ga, gc, ca, cc, e, h1, h2, h3⟩ := h
  exact ⟨la, lc, ga, gc, ca, cc, e, h1.keep hk, h2.keep hk, h3.keep hk⟩
theorem RSent.keep {ok : Nat → Prop} {w w' : World} (hk : Keeps ok w w') {cs : List Value} {s : Sent} (h : RSent ok w cs s) : RSent ok w' cs s := by
  obtain ⟨la, lc, ga, gc, ca, cc, e, h1, h2, h3⟩ := h
  exact ⟨la, lc, ga, gc, ca, cc, e, h1.keep hk, h2.keep hk, h3.keep hk⟩

/-- A list of frames that were sent. -/
abbrev SentR (ok : Nat → Prop) (w : World) (a : Option Addr) (c : Nat) (l : List Sent) : Prop := SlR ok w 13 (RSent ok w) a c l
theorem SentR.keep {ok : Nat → Prop} {w w' : World} {a : Option Addr} {c : Nat} {l : List Sent} (h : SentR ok w a c l) (hk : Keeps ok w w') : SentR ok w' a c l := h.mono hk fun _ _ => RSent.keep hk
theorem SentR.below {ok : Nat → Prop} {w w' : World} {a : Option Addr} {c : Nat} {l : List Sent} (h : SentR ok w a c l) (hk : Below w.heap.size w w') : SentR ok w' a c l := SentR.keep h (.of_below hk)

section
variable {ok : Nat → Prop} {w w' : World} {a : Option Addr} {c : Nat}

theorem SlR.int_at {xs : List Int} (h : SlR ok w 1 RInt a c xs) (i : Nat) (hi : i < xs.length) :
    ∃ b o, a = some ⟨b, o, none⟩ ∧ b < w.heap.size ∧ w.cell? ⟨b, o + i, none⟩ = some (.int .i64 xs[i]) := by
  obtain ⟨b, o, cs, ha, _, hb, rfl, _, _, hc⟩ := h.2.2.2 i xs[i] (by simp [hi])
  exact ⟨b, o, ha, hb, by simpa using hc 0 _ rfl⟩

theorem SlR.lev_at {xs : List Lev} (h : SlR ok w 2 RLev a c xs) (i : Nat) (hi : i < xs.length) :
    ∃ b o, a = some ⟨b, o, none⟩ ∧ b < w.heap.size ∧ w.cell? ⟨b, o + i * 2, none⟩ = some (.int .i64 xs[i].c) ∧ w.cell? ⟨b, o + i * 2 + 1, none⟩ = some (.int .i64 xs[i].l) := by
  obtain ⟨b, o, cs, ha, _, hb, rfl, _, _, hc⟩ := h.2.2.2 i xs[i] (by simp [hi])
  exact ⟨b, o, ha, hb, by simpa using hc 0 _ rfl, by simpa using hc 1 _ rfl⟩

theorem SlR.cert_at {xs : List Cert} (h : SlR ok w 4 RCert a c xs) (i : Nat) (hi : i < xs.length) :
    ∃ b o, a = some ⟨b, o, none⟩ ∧ b < w.heap.size ∧ w.cell? ⟨b, o + i * 4, none⟩ = some (.int .i64 xs[i].c) ∧ w.cell? ⟨b, o + i * 4 + 1, none⟩ = some (.int .i64 xs[i].by_) ∧
      w.cell? ⟨b, o + i * 4 + 2, none⟩ = some (.int .i64 xs[i].host) ∧ w.cell? ⟨b, o + i * 4 + 3, none⟩ = some (.int .i64 xs[i].till) := by
  obtain ⟨b, o, cs, ha, _, hb, rfl, _, _, hc⟩ := h.2.2.2 i xs[i] (by simp [hi])
  exact ⟨b, o, ha, hb, by simpa using hc 0 _ rfl, by simpa using hc 1 _ rfl, by simpa using hc 2 _ rfl, by simpa using hc 3 _ rfl⟩

theorem SlR.sent_at {xs : List Sent} (h : SentR ok w a c xs) (i : Nat) (hi : i < xs.length) :
    ∃ b o la lc ga gc ca cc, a = some ⟨b, o, none⟩ ∧ b < w.heap.size ∧ (SlR ok w 2 RLev la lc xs[i].frame.mail.label ∧ SlR ok w 1 RInt ga gc xs[i].frame.mail.grants ∧ SlR ok w 4 RCert ca cc xs[i].frame.certs) ∧
      w.cell? ⟨b, o + i * 13, none⟩ = some (.int .i64 xs[i].frame.src) ∧ w.cell? ⟨b, o + i * 13 + 1, none⟩ = some (.int .i64 xs[i].frame.dst) ∧ w.cell? ⟨b, o + i * 13 + 2, none⟩ = some (.int .i64 xs[i].frame.seq) ∧ w.cell? ⟨b, o + i * 13 + 3, none⟩ = some (.bool xs[i].frame.ack) ∧
      w.cell? ⟨b, o + i * 13 + 4, none⟩ = some (.int .i64 xs[i].frame.thread) ∧ w.cell? ⟨b, o + i * 13 + 5, none⟩ = some (.int .i64 xs[i].frame.mail.host) ∧ w.cell? ⟨b, o + i * 13 + 6, none⟩ = some (.int .i64 xs[i].frame.mail.thread) ∧
      w.cell? ⟨b, o + i * 13 + 7, none⟩ = some (.slice la xs[i].frame.mail.label.length lc) ∧ w.cell? ⟨b, o + i * 13 + 8, none⟩ = some (.slice ga xs[i].frame.mail.grants.length gc) ∧ w.cell? ⟨b, o + i * 13 + 9, none⟩ = some (.string xs[i].frame.mail.text) ∧
      w.cell? ⟨b, o + i * 13 + 10, none⟩ = some (.slice ca xs[i].frame.certs.length cc) ∧ w.cell? ⟨b, o + i * 13 + 11, none⟩ = some (.int .i64 xs[i].tries) ∧ w.cell? ⟨b, o + i * 13 + 12, none⟩ = some (.int .i64 xs[i].due) := by
  obtain ⟨b, o, cs, ha, _, hb, ⟨la, lc, ga, gc, ca, cc, rfl, r1, r2, r3⟩, _, _, hc⟩ := h.2.2.2 i xs[i] (by simp [hi])
  exact ⟨b, o, la, lc, ga, gc, ca, cc, ha, hb, ⟨r1, r2, r3⟩, by simpa using hc 0 _ rfl, by simpa using hc 1 _ rfl, by simpa using hc 2 _ rfl, by simpa using hc 3 _ rfl, by simpa using hc 4 _ rfl, by simpa using hc 5 _ rfl, by simpa using hc 6 _ rfl, by simpa using hc 7 _ rfl, by simpa using hc 8 _ rfl, by simpa using hc 9 _ rfl, by simpa using hc 10 _ rfl, by simpa using hc 11 _ rfl, by simpa using hc 12 _ rfl⟩
end

/-- The level of a category in a label: the first that names it, else the plain one. -/
def lAt : List Lev → Int → Int
  | [], _ => 1
  | x :: l, c => if x.c = c then x.l else lAt l c

end Go.Proofs.Ytbngblmdcggfdaa
