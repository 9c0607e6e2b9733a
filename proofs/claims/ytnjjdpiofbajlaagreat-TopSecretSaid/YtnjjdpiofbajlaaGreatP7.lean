/- Walks and plain laws, part 7. -/
import Derived.Test.YtnjjdpiofbajlaaGreatProg
import Derived.Test.YtnjjdpiofbajlaaGreatP2
import Derived.Laws.StructEq
import Derived.ChangeKeysEq
import Derived.Deep.QuietTactic
set_option linter.unusedSimpArgs false
set_option linter.unusedVariables false
set_option maxHeartbeats 16000000
set_option maxRecDepth 100000
namespace Go.Proofs.YtnjjdpiofbajlaaGreat
open Go.RowKit
def sentOk (next prev : Int) (s : Sent) : Bool := decide (1 ≤ s.frame.seq ∧ prev < s.frame.seq ∧ s.frame.seq ≤ next ∧ 1 ≤ s.tries ∧ s.tries ≤ 5 ∧ 0 ≤ s.due ∧ s.due ≤ 2199023255552)
def sentsOk (next : Int) : Int → List Sent → Bool
 | _, [] => true
 | p, s :: l => if sentOk next p s = true then sentsOk next s.frame.seq l else false
def headOk (next high : Int) (n : Nat) : Bool := decide (0 ≤ next ∧ next ≤ 1099511627775 ∧ 0 ≤ high ∧ high ≤ 1099511627776 ∧ n ≤ 8)
def lineOk (l : Line) : Bool := if headOk l.next l.high l.sent.length = true then sentsOk l.next 0 l.sent else false
def prevS (l : List Sent) (k : Nat) : Int := if h : 0 < k ∧ k ≤ l.length then (l[k - 1]'(by omega)).frame.seq else 0
theorem prevS_zero (l : List Sent) : prevS l 0 = 0 := by simp [prevS]
theorem prevS_succ (l : List Sent) (k : Nat) (h : k < l.length) : prevS l (k + 1) = l[k].frame.seq := by
 unfold prevS
 rw [dif_pos ⟨by omega, by omega⟩]
 simp
theorem sentsOk_step (next : Int) (l : List Sent) (k : Nat) (h : k < l.length) : sentsOk next (prevS l k) (l.drop k) = (if sentOk next (prevS l k) l[k] = true then sentsOk next (prevS l (k + 1)) (l.drop (k + 1)) else false) := by
 rw [List.drop_eq_getElem_cons h, sentsOk, prevS_succ l k h]
theorem line_bad {L : Line} {k : Nat} (h : k < L.sent.length) (hI : Hid (sentsOk L.next 0 L.sent = sentsOk L.next (prevS L.sent k) (L.sent.drop k))) (hb : sentOk L.next (prevS L.sent k) L.sent[k] = false) : lineOk L = false := by
 have e : sentsOk L.next 0 L.sent = false := by rw [hI.out, sentsOk_step _ _ k h, if_neg (by rw [hb]; simp)]
 unfold lineOk
 rw [e]
 split <;> rfl
theorem line_go {L : Line} {k : Nat} (h : k < L.sent.length) (hI : Hid (sentsOk L.next 0 L.sent = sentsOk L.next (prevS L.sent k) (L.sent.drop k))) (hb : sentOk L.next (prevS L.sent k) L.sent[k] = true) : Hid (sentsOk L.next 0 L.sent = sentsOk L.next (prevS L.sent (k + 1)) (L.sent.drop (k + 1))) := by
 show _ = _
 rw [hI.out, sentsOk_step _ _ k h, if_pos hb]
def lineV (next high : Int) (sa : Option Addr) (n sc : Nat) (e : Eight) : Value := .agg #[.int .i64 next, .slice sa n sc, .int .i64 high, .bool e.s0, .bool e.s1, .bool e.s2, .bool e.s3, .bool e.s4, .bool e.s5, .bool e.s6, .bool e.s7]
theorem line_Good (ok : Nat → Prop) (w : World) (next high : Int) (sa : Option Addr) (sc : Nat) (sent : List Sent) (e : Eight) (hR : SentR ok w sa sc sent) :
  Calls Tryz.prog 78 #[lineV next high sa sent.length sc e] w fun e' w' => e' = .returned (.bool (lineOk ⟨next, sent, high, e⟩)) ∧ Below w.heap.size w w' := by
 unfold lineV
 obtain ⟨s0, s1, s2, s3, s4, s5, s6, s7⟩ := e
 have hsl : sent.length ≤ 9223372036854775807 := by have h1 := hR.1; have h2 := hR.2.1; unfold maxLen at h2; omega
 generalize hL : (⟨next, sent, high, ⟨s0, s1, s2, s3, s4, s5, s6, s7⟩⟩ : Line) = L
 have HL := qh hL
 clear hL
 rcases or5 (decide (next < 0)) (decide (1099511627776 ≤ next)) (decide (high < 0)) (decide (1099511627776 < high)) (decide ((8 : Int) < (sent.length : Int))) with d | ⟨d0, d⟩ | ⟨d0, d1, d⟩ | ⟨d0, d1, d2, d⟩ | ⟨d0, d1, d2, d3, d⟩ | ⟨d0, d1, d2, d3, d4⟩
 case inr.inr.inr.inr.inr =>
  have HH := qh (show headOk next high sent.length = true by unfold headOk; simp at *; omega)
  have hs : (decide ((sent.length : Int) < 9)) = true := by simp at *; omega
  go_enter Tryz.func78, Tryz.ntmps78
  go_wp2
  have hb0 : Below w.heap.size w (w.alloc (.cells #[.int .i64 next, .slice sa sent.length sc, .int .i64 high, .bool s0, .bool s1, .bool s2, .bool s3, .bool s4, .bool s5, .bool s6, .bool s7] 80)) := (Below.refl _ _).alloc (Nat.le_refl _) _
  generalize hw0 : (w.alloc (.cells #[.int .i64 next, .slice sa sent.length sc, .int .i64 high, .bool s0, .bool s1, .bool s2, .bool s3, .bool s4, .bool s5, .bool s6, .bool s7] 80)) = w0 at hb0 ⊢
  have hz0 : w.heap.size < w0.heap.size := by rw [← hw0]; simp
  have hz0' : w.heap.size < w0.heap.size := hz0
  have c0 : w0.cell? ⟨w.heap.size, 0, none⟩ = some (.int .i64 next) := by rw [← hw0]; exact World.cell?_alloc_at _ _ _ _ rfl
  have c1 : w0.cell? ⟨w.heap.size, 1, none⟩ = some (.slice sa sent.length sc) := by rw [← hw0]; exact World.cell?_alloc_at _ _ _ _ rfl
  have C0 := qh c0
  have C1 := qh c1
  have hR0 : SentR ok w0 sa sc sent := SentR.below hR hb0
  clear c0 c1 hw0 d0 d1 d2 d3 d4
  go_loopw [32] (fun i wr => ∃ k : Nat, k ≤ sent.length ∧ i = .int .i64 k ∧ Below w0.heap.size w0 wr ∧ Hid (sentsOk L.next 0 L.sent = sentsOk L.next (prevS L.sent k) (L.sent.drop k))) (fun i _ => sent.length - (intOf i).toNat)
  case atStart => exact ⟨0, Nat.zero_le _, rfl, Below.refl _ _, by rw [prevS_zero]; rfl⟩
  case round =>
   obtain ⟨k, hk, rfl, hB, hI⟩ := hrel
   have hbs := hB.size
   by_cases hlt : k < sent.length
   ·obtain ⟨b, o, la, lc, ga, gc, ca, cc, rfl, hb, _, f0, f1, f2, f3, f4, f5, f6, f7, f8, f9, f10, f11, f12⟩ := SlR.sent_at (SentR.below hR0 hB) k hlt
    have g0 : wr.cell? ⟨w.heap.size, 0, none⟩ = some (.int .i64 next) := (hB.cell (p := ⟨w.heap.size, 0, none⟩) hz0').trans C0.out
    have g1 : wr.cell? ⟨w.heap.size, 1, none⟩ = some (.slice (some ⟨b, o, none⟩) sent.length sc) := (hB.cell (p := ⟨w.heap.size, 1, none⟩) hz0').trans C1.out
    go_wp2_with fail
    have hB5 : Below w0.heap.size w0 (wr.alloc (.cells #[.int .i64 sent[k].frame.src, .int .i64 sent[k].frame.dst, .int .i64 sent[k].frame.seq, .bool sent[k].frame.ack, .int .i64 sent[k].frame.thread, .int .i64 sent[k].frame.mail.host, .int .i64 sent[k].frame.mail.thread, .slice la sent[k].frame.mail.label.length lc, .slice ga sent[k].frame.mail.grants.length gc, .string sent[k].frame.mail.text, .slice ca sent[k].frame.certs.length cc, .int .i64 sent[k].tries, .int .i64 sent[k].due] 148)) := hB.alloc hbs _
    have q2 := World.cell?_alloc_at (w := wr) #[.int .i64 sent[k].frame.src, .int .i64 sent[k].frame.dst, .int .i64 sent[k].frame.seq, .bool sent[k].frame.ack, .int .i64 sent[k].frame.thread, .int .i64 sent[k].frame.mail.host, .int .i64 sent[k].frame.mail.thread, .slice la sent[k].frame.mail.label.length lc, .slice ga sent[k].frame.mail.grants.length gc, .string sent[k].frame.mail.text, .slice ca sent[k].frame.certs.length cc, .int .i64 sent[k].tries, .int .i64 sent[k].due] 148 wr.heap.size 2 rfl
    have q11 := World.cell?_alloc_at (w := wr) #[.int .i64 sent[k].frame.src, .int .i64 sent[k].frame.dst, .int .i64 sent[k].frame.seq, .bool sent[k].frame.ack, .int .i64 sent[k].frame.thread, .int .i64 sent[k].frame.mail.host, .int .i64 sent[k].frame.mail.thread, .slice la sent[k].frame.mail.label.length lc, .slice ga sent[k].frame.mail.grants.length gc, .string sent[k].frame.mail.text, .slice ca sent[k].frame.certs.length cc, .int .i64 sent[k].tries, .int .i64 sent[k].due] 148 wr.heap.size 11 rfl
    have q12 := World.cell?_alloc_at (w := wr) #[.int .i64 sent[k].frame.src, .int .i64 sent[k].frame.dst, .int .i64 sent[k].frame.seq, .bool sent[k].frame.ack, .int .i64 sent[k].frame.thread, .int .i64 sent[k].frame.mail.host, .int .i64 sent[k].frame.mail.thread, .slice la sent[k].frame.mail.label.length lc, .slice ga sent[k].frame.mail.grants.length gc, .string sent[k].frame.mail.text, .slice ca sent[k].frame.certs.length cc, .int .i64 sent[k].tries, .int .i64 sent[k].due] 148 wr.heap.size 12 rfl
    generalize wr.alloc _ = w5 at hB5 q2 q11 q12 ⊢
    replace q2 : w5.cell? ⟨wr.heap.size, 2, none⟩ = some (.int .i64 sent[k].frame.seq) := q2
    replace q11 : w5.cell? ⟨wr.heap.size, 11, none⟩ = some (.int .i64 sent[k].tries) := q11
    replace q12 : w5.cell? ⟨wr.heap.size, 12, none⟩ = some (.int .i64 sent[k].due) := q12
    have g0 : w5.cell? ⟨w.heap.size, 0, none⟩ = some (.int .i64 next) := (hB5.cell (p := ⟨w.heap.size, 0, none⟩) hz0').trans C0.out
    have g1 : w5.cell? ⟨w.heap.size, 1, none⟩ = some (.slice (some ⟨b, o, none⟩) sent.length sc) := (hB5.cell (p := ⟨w.heap.size, 1, none⟩) hz0').trans C1.out
    have hLs : L.sent = sent := by rw [← HL.out]
    have hLn : L.next = next := by rw [← HL.out]
    subst hLs hLn
    clear f0 f1 f2 f3 f4 f5 f6 f7 f8 f9 f10 f11 f12 HL C0 C1
    by_cases hk0 : k = 0
    ·have hd0 : decide (0 < k) = false := by simp; omega
     have hp : prevS L.sent k = 0 := by rw [hk0, prevS_zero]
     have HP := qh hp
     clear hp hk0
     rcases or6 (decide (L.sent[k].frame.seq < 1)) (decide (L.next < L.sent[k].frame.seq)) (decide (L.sent[k].tries < 1)) (decide (5 < L.sent[k].tries)) (decide (L.sent[k].due < 0)) (decide (2199023255552 < L.sent[k].due)) with d | ⟨d0, d⟩ | ⟨d0, d1, d⟩ | ⟨d0, d1, d2, d⟩ | ⟨d0, d1, d2, d3, d⟩ | ⟨d0, d1, d2, d3, d4, d⟩ | ⟨d0, d1, d2, d3, d4, d⟩
     case inr.inr.inr.inr.inr.inr =>
      have HG := line_go hlt hI (by unfold sentOk; rw [HP.out]; simp at *; omega)
      go_quiet (fail)
      go_wp2
      go_roundw
      case rel => exact ⟨k + 1, by omega, by go_num, hB5.drewN _, HG⟩
      case measure => simp [intOf]; omega
     all_goals
      have HE := qh (line_bad hlt hI (by unfold sentOk; rw [HP.out]; simp at *; omega))
      go_quiet (fail)
      go_wp2
      go_ret
      exact ⟨by rw [HE.out]; rfl, hb0.trans ((hB5.drewN _).mono (by omega))⟩
    ·have hd0 : decide (0 < k) = true := by simp; omega
     have hk1 : 0 < k := by omega
     have hp : prevS L.sent k = L.sent[k - 1].frame.seq := by simp [prevS, hk1, hk]
     have HP := qh hp
     obtain ⟨b', o', _, _, _, _, _, _, hbo, hb', _, _, _, g2, _⟩ := SlR.sent_at (SentR.below hR0 hB5) (k - 1) (by omega)
     simp only [Option.some.injEq, Addr.mk.injEq, and_true] at hbo
     obtain ⟨rfl, rfl⟩ := hbo
     clear hp hk0
     rcases or7 (decide (L.sent[k].frame.seq < 1)) (decide (L.next < L.sent[k].frame.seq)) (decide (L.sent[k].frame.seq ≤ L.sent[k - 1].frame.seq)) (decide (L.sent[k].tries < 1)) (decide (5 < L.sent[k].tries)) (decide (L.sent[k].due < 0)) (decide (2199023255552 < L.sent[k].due)) with d | ⟨d0, d⟩ | ⟨d0, d1, d⟩ | ⟨d0, d1, d2, d⟩ | ⟨d0, d1, d2, d3, d⟩ | ⟨d0, d1, d2, d3, d4, d⟩ | ⟨d0, d1, d2, d3, d4, d5, d⟩ | ⟨d0, d1, d2, d3, d4, d5, d⟩
     case inr.inr.inr.inr.inr.inr.inr =>
      have HG := line_go hlt hI (by unfold sentOk; rw [HP.out]; simp at *; omega)
      go_quiet (fail)
      go_wp2
      go_roundw
      case rel => exact ⟨k + 1, by omega, by go_num, hB5.drewN _, HG⟩
      case measure => simp [intOf]; omega
     all_goals
      have HE := qh (line_bad hlt hI (by unfold sentOk; rw [HP.out]; simp at *; omega))
      go_quiet (fail)
      go_wp2
      go_ret
      exact ⟨by rw [HE.out]; rfl, hb0.trans ((hB5.drewN _).mono (by omega))⟩
   ·go_wp2
    go_ret
    have e : lineOk L = true := by
     unfold lineOk
     rw [hI.out, List.drop_of_length_le (by rw [← HL.out]; simp; omega)]
     rw [if_pos (by rw [← HL.out]; exact HH.out)]
     rfl
    exact ⟨by rw [e]; rfl, hb0.trans (hB.mono (by omega))⟩
 all_goals
  have hbad : lineOk L = false := by
   rw [← HL.out]
   unfold lineOk headOk
   rw [if_neg (by simp at *; omega)]
  have HE := qh hbad
  clear hbad
  go_enter Tryz.func78, Tryz.ntmps78
  go_wp2
  go_ret
  exact ⟨by rw [HE.out]; rfl, (Below.refl _ _).alloc (Nat.le_refl _) _⟩
def Eight.get (e : Eight) : Nat → Bool
 | 0 => e.s0
 | 1 => e.s1
 | 2 => e.s2
 | 3 => e.s3
 | 4 => e.s4
 | 5 => e.s5
 | 6 => e.s6
 | 7 => e.s7
 | _ => false
def Eight.of (f : Nat → Bool) : Eight := ⟨f 0, f 1, f 2, f 3, f 4, f 5, f 6, f 7⟩
def Eight.yes (e : Eight) (k : Nat) : Eight := Eight.of fun j => if j = k then true else e.get j
def takeC (good : Bool) (high seq : Int) (e : Eight) : Int × Eight × Int :=
 if good = false ∨ seq < 1 ∨ 1099511627776 < seq then (high, e, 2)
 else if seq ≤ high - 8 then (high, e, 11)
 else if seq ≤ high then (if e.get (high - seq).toNat = true then (high, e, 10) else (high, e.yes (high - seq).toNat, 0))
 else (seq, Eight.of fun j => if j = 0 then true else if seq - high ≤ j then e.get (j - (seq - high).toNat) else false, 0)
theorem line_Take_range (ok : Nat → Prop) (w : World) (next high : Int) (sa : Option Addr) (sc : Nat) (sent : List Sent) (e : Eight) (seq : Int) (hR : SentR ok w sa sc sent)
  (h : lineOk ⟨next, sent, high, e⟩ = false ∨ seq < 1 ∨ 1099511627776 < seq) :
  Calls Tryz.prog 53 #[lineV next high sa sent.length sc e, .int .i64 seq] w fun r w' => r = .returned (.tuple #[lineV next high sa sent.length sc e, .int .i64 2]) ∧ Below w.heap.size w w' := by
 have hG := fun W (hW : SentR ok W sa sc sent) => line_Good ok W next high sa sc sent e hW
 generalize lineOk ⟨next, sent, high, e⟩ = g at h hG
 have HG := qh hG
 clear hG
 unfold lineV at *
 rcases or3 (!g) (decide (seq < 1)) (decide (1099511627776 < seq)) with d | ⟨d0, d⟩ | ⟨d0, d1, d⟩ | ⟨d0, d1, d2⟩
 case inr.inr.inr =>
  exfalso
  simp at d0 d1 d2
  rcases h with h | h | h
  ·rw [h] at d0; simp at d0
  ·omega
  ·omega
 all_goals
  go_enter Tryz.func53, Tryz.ntmps53
  go_wp2_with fail
  refine (HG.out _ (SentR.below hR (((Below.refl _ _).alloc (Nat.le_refl _) _).alloc (by simp) _))).mono ?_
  rintro r w1 ⟨rfl, hb1⟩
  have hb2 := (((Below.refl w.heap.size w).alloc (Nat.le_refl _) _).alloc (by simp) _).keep hb1
  obtain ⟨hc, hf⟩ := bcell hb1
  go_wp2
  have hz := hb1.size
  simp only [World.size_alloc] at hz
  refine bodyPost_ret (v := .tuple #[.agg #[.int .i64 next, .slice sa sent.length sc, .int .i64 high, .bool e.s0, .bool e.s1, .bool e.s2, .bool e.s3, .bool e.s4, .bool e.s5, .bool e.s6, .bool e.s7], .int .i64 2]) (by simp [results, Tryz.results53, go_sem, hc, hz]) rfl ⟨rfl, ?_⟩
  clear hc hf HG
  go_grown
theorem lineOk_high {next high : Int} {sent : List Sent} {e : Eight} (h : lineOk ⟨next, sent, high, e⟩ = true) : 0 ≤ next ∧ next ≤ 1099511627775 ∧ 0 ≤ high ∧ high ≤ 1099511627776 ∧ sent.length ≤ 8 := by
 unfold lineOk at h
 by_cases hh : headOk next high sent.length = true
 ·simpa [headOk] using hh
 ·rw [if_neg hh] at h; simp at h
theorem line_Take_old (ok : Nat → Prop) (w : World) (next high : Int) (sa : Option Addr) (sc : Nat) (sent : List Sent) (e : Eight) (seq : Int) (hR : SentR ok w sa sc sent)
  (hg : lineOk ⟨next, sent, high, e⟩ = true) (h1 : 1 ≤ seq) (h2 : seq ≤ 1099511627776) (h3 : seq ≤ high - 8) :
  Calls Tryz.prog 53 #[lineV next high sa sent.length sc e, .int .i64 seq] w fun r w' => r = .returned (.tuple #[lineV next high sa sent.length sc e, .int .i64 11]) ∧ Below w.heap.size w w' := by
 have hG := fun W (hW : SentR ok W sa sc sent) => line_Good ok W next high sa sc sent e hW
 obtain ⟨_, _, b1, b2, _⟩ := lineOk_high hg
 rw [hg] at hG
 have HG := qh hG
 clear hG hg
 unfold lineV at *
 have d0 : decide (seq < 1) = false := by simp; omega
 have d1 : decide (1099511627776 < seq) = false := by simp; omega
 go_enter Tryz.func53, Tryz.ntmps53
 go_wp2_with fail
 refine (HG.out _ (SentR.below hR (((Below.refl _ _).alloc (Nat.le_refl _) _).alloc (by simp) _))).mono ?_
 rintro r w1 ⟨rfl, hb1⟩
 have hb2 := (((Below.refl w.heap.size w).alloc (Nat.le_refl _) _).alloc (by simp) _).keep hb1
 obtain ⟨hc, hf⟩ := bcell hb1
 go_wp2
 have hz := hb1.size
 simp only [World.size_alloc] at hz
 refine bodyPost_ret (v := .tuple #[.agg #[.int .i64 next, .slice sa sent.length sc, .int .i64 high, .bool e.s0, .bool e.s1, .bool e.s2, .bool e.s3, .bool e.s4, .bool e.s5, .bool e.s6, .bool e.s7], .int .i64 11]) (by simp [results, Tryz.results53, go_sem, hc, hz]) rfl ⟨rfl, ?_⟩
 clear hc hf HG
 go_grown
theorem line_Take_twice (ok : Nat → Prop) (w : World) (next high : Int) (sa : Option Addr) (sc : Nat) (sent : List Sent) (e : Eight) (seq : Int) (k : Nat) (hR : SentR ok w sa sc sent)
  (hg : lineOk ⟨next, sent, high, e⟩ = true) (h1 : 1 ≤ seq) (h2 : seq ≤ 1099511627776) (h3 : high - seq = (k : Int)) (h4 : k < 8) (h5 : e.get k = true) :
  Calls Tryz.prog 53 #[lineV next high sa sent.length sc e, .int .i64 seq] w fun r w' => r = .returned (.tuple #[lineV next high sa sent.length sc e, .int .i64 10]) ∧ Below w.heap.size w w' := by
 have hG := fun W (hW : SentR ok W sa sc sent) => line_Good ok W next high sa sc sent e hW
 obtain ⟨_, _, b1, b2, _⟩ := lineOk_high hg
 rw [hg] at hG
 have HG := qh hG
 clear hG hg
 have hk : ([.int .i64 next, .slice sa sent.length sc, .int .i64 high, .bool e.s0, .bool e.s1, .bool e.s2, .bool e.s3, .bool e.s4, .bool e.s5, .bool e.s6, .bool e.s7] : List Value)[3 + k]? = some (.bool true) := by
  rw [← h5]
  match k, h4 with
  | 0, _ | 1, _ | 2, _ | 3, _ | 4, _ | 5, _ | 6, _ | 7, _ => rfl
 unfold lineV at *
 have d0 : decide (seq < 1) = false := by simp; omega
 have d1 : decide (1099511627776 < seq) = false := by simp; omega
 have d2 : high - 8 < seq := by omega
 have d3 : seq ≤ high := by omega
 clear h5
 go_enter Tryz.func53, Tryz.ntmps53
 go_wp2_with fail
 refine (HG.out _ (SentR.below hR (((Below.refl _ _).alloc (Nat.le_refl _) _).alloc (by simp) _))).mono ?_
 rintro r w1 ⟨rfl, hb1⟩
 have hb2 := (((Below.refl w.heap.size w).alloc (Nat.le_refl _) _).alloc (by simp) _).keep hb1
 obtain ⟨hc, hf⟩ := bcell hb1
 go_wp2
 have hz := hb1.size
 simp only [World.size_alloc] at hz
 refine bodyPost_ret (v := .tuple #[.agg #[.int .i64 next, .slice sa sent.length sc, .int .i64 high, .bool e.s0, .bool e.s1, .bool e.s2, .bool e.s3, .bool e.s4, .bool e.s5, .bool e.s6, .bool e.s7], .int .i64 10]) (by simp [results, Tryz.results53, go_sem, hc, hz]) rfl ⟨rfl, ?_⟩
 clear hc hf HG
 go_grown
theorem info_Level : (Tryz.prog.info? 73).map (fun i => (i.zero, i.size, i.bytes)) = some (some (.agg #[.int .i64 0, .int .i64 0]), 2, 16) := by kernel_rfl
theorem info_int : (Tryz.prog.info? 3).map (fun i => (i.zero, i.size, i.bytes)) = some (some (.int .i64 0), 1, 8) := by kernel_rfl
theorem info_Cert : (Tryz.prog.info? 47).map (fun i => (i.zero, i.size, i.bytes)) = some (some (.agg #[.int .i64 0, .int .i64 0, .int .i64 0, .int .i64 0]), 4, 32) := by kernel_rfl
theorem slices_Index_int (ok : Nat → Prop) (w : World) (a : Option Addr) (c : Nat) (l : List Int) (v : Int) (hl : l.length ≤ 4611686018427387903) (hR : SlR ok w 1 RInt a c l) :
  Calls Tryz.prog 61 #[.slice a l.length c, .int .i64 v] w fun e w' => Says e (inL l v) ∧ w = w' := by
 go_enter Tryz.func61, Tryz.ntmps61
 go_wp2
 go_loop [8] (fun i => ∃ k : Nat, k ≤ l.length ∧ i = .int .i64 k ∧ Hid (inL l v = inL (l.drop k) v)) (fun i => l.length - (intOf i).toNat)
 case atStart => exact ⟨0, Nat.zero_le _, rfl, rfl⟩
 case round =>
  obtain ⟨k, hk, rfl, hI⟩ := hrel
  by_cases hlt : k < l.length
  ·obtain ⟨b, o, rfl, hb, h1⟩ := hR.int_at k hlt
   go_wp2
   ·have hc : (v == l[k]) = true := by assumption
    go_ret
    have e : inL l v = true := by rw [hI.out, inL_hit hlt (by simpa using hc)]
    exact ⟨⟨k, rfl, by simp, by simp [e]⟩, rfl⟩
   ·have hc : (v == l[k]) = false := by assumption
    go_round
    case rel => exact ⟨k + 1, hlt, by go_num, by rw [hI.out, inL_pass hlt (by simpa using hc)]; rfl⟩
    case measure => simp [intOf]; omega
  ·go_wp2
   go_ret
   have e : inL l v = false := by rw [hI.out, inL_end hlt]
   exact ⟨⟨-1, rfl, by simp [e], by simp⟩, rfl⟩
theorem slices_Contains_int (ok : Nat → Prop) (w : World) (a : Option Addr) (c : Nat) (l : List Int) (v : Int) (hl : l.length ≤ 4611686018427387903) (hR : SlR ok w 1 RInt a c l) :
  Calls Tryz.prog 41 #[.slice a l.length c, .int .i64 v] w fun e w' => e = .returned (.bool (inL l v)) ∧ w = w' := by
 cases hb : inL l v
 all_goals
  have HB := qh hb
  clear hb
  go_enter Tryz.func41, Tryz.ntmps41
  go_wp2_with fail
  refine (slices_Index_int ok _ _ _ _ _ hl hR).mono ?_
  rintro e w' ⟨⟨n, rfl, h1, h2⟩, rfl⟩
  rw [HB.out] at h1 h2
  simp only [forall_const, reduceCtorEq, false_implies] at h1 h2
  go_wp2
  go_ret
  exact ⟨by first | rfl | (apply ret_bool; simp; omega), rfl⟩
theorem slices_Clone_Label (ok : Nat → Prop) (w : World) (a : Option Addr) (c : Nat) (l : List Lev) (hl : l.length * 16 ≤ 140737488355328) (hR : SlR ok w 2 RLev a c l) :
  Calls Tryz.prog 58 #[.slice a l.length c] w fun e w' => ∃ a' c', e = .returned (.slice a' l.length c') ∧ Below w.heap.size w w' ∧ Own w.heap.size 73 w' 2 RLev a' c' l := by
 obtain ⟨i0, hi, hz0, hz1, hz2⟩ := info_parts info_Level
 have hcmp := fun (ww : World) (a : Option Addr) (n c : Nat) => Lib.run_eql_slice_nil ww 27 _ a n c 0 0 Tryz.underlying27
 cases a with
 | none =>
  have h0 := hR.2.2.1 rfl
  have hn := hR.1
  obtain rfl : l = [] := List.eq_nil_of_length_eq_zero (by omega)
  clear hl hR hi hz0 hz1 hz2 h0 hn
  go_enter Tryz.func58, Tryz.ntmps58
  go_wp2
  go_ret
  exact ⟨none, 0, rfl, Below.refl _ _, Own.nil _ _ _ _ _⟩
 | some ad =>
  go_enter Tryz.func58, Tryz.ntmps58
  go_wp2_with (first | (at_builtin; refine wpList_app rfl _ _ 27 rfl 73 i0 _ 2 16 Tryz.underlying27 hi hz0 hz1 hz2 rfl (by decide) (base := w.heap.size) rfl rfl (Own.made (Nat.le_refl _)) rfl rfl (hR.below ((Below.refl _ _).alloc (Nat.le_refl _) _)) ?_ ?_ ?_ ?_))
  ·simpa using hl
  ·simp [maxLen]; omega
  ·simp
  ·intro a' c' w' hO hg _
   go_wp2
   go_ret
   exact ⟨a', c', rfl, ((Below.refl _ _).alloc (Nat.le_refl _) _).grown hg (by simp) (by simp), hO⟩

theorem eqin_Level (d : Nat) (a b : Lev) (W : World) : (Op.equalIn (d + 2) 73 (.agg #[.int .i64 a.c, .int .i64 a.l]) (.agg #[.int .i64 b.c, .int .i64 b.l])).run Tryz.prog W = .ok (decide (a = b)) W := by
 have h1 : Tryz.prog.underlying 73 = some (.struct (Tryz.prog.fieldsOf 73)) := by kernel_rfl
 have h2 : Tryz.prog.stoodInHeld 73 = false := by kernel_rfl
 have hU := Tryz.underlying73
 have hz : ∀ W, (sizeOf 3).run Tryz.prog W = .ok 1 W := Tryz.sizeOf3
 have ha : ∀ W, (isAgg 3).run Tryz.prog W = .ok false W := Tryz.isAgg3
 have e : ∀ d a b W, (Op.equalIn (d + 1) 3 (.int .i64 a) (.int .i64 b)).run Tryz.prog W = .ok (a == b) W := fun d a b W => run_equalIn_int W d _ _ _ a b Tryz.underlying3
 rw [run_equalIn_agg W (d + 1) _ _ _ h1 h2]
 obtain ⟨x, y⟩ := a
 obtain ⟨x', y'⟩ := b
 simp [Program.fieldsOf, hU, Op.eqFields, part, ha, hz, e _ _ _ W, Result.andThen]
 by_cases e1 : x = x' <;> by_cases e2 : y = y' <;> simp [e1, e2]
theorem eqin_Cert (d : Nat) (a b : Cert) (W : World) : (Op.equalIn (d + 2) 47 (.agg #[.int .i64 a.c, .int .i64 a.by_, .int .i64 a.host, .int .i64 a.till]) (.agg #[.int .i64 b.c, .int .i64 b.by_, .int .i64 b.host, .int .i64 b.till])).run Tryz.prog W = .ok (decide (a = b)) W := by
 have h1 : Tryz.prog.underlying 47 = some (.struct (Tryz.prog.fieldsOf 47)) := by kernel_rfl
 have h2 : Tryz.prog.stoodInHeld 47 = false := by kernel_rfl
 have hU := Tryz.underlying47
 have hz : ∀ W, (sizeOf 3).run Tryz.prog W = .ok 1 W := Tryz.sizeOf3
 have ha : ∀ W, (isAgg 3).run Tryz.prog W = .ok false W := Tryz.isAgg3
 have e : ∀ d a b W, (Op.equalIn (d + 1) 3 (.int .i64 a) (.int .i64 b)).run Tryz.prog W = .ok (a == b) W := fun d a b W => run_equalIn_int W d _ _ _ a b Tryz.underlying3
 rw [run_equalIn_agg W (d + 1) _ _ _ h1 h2]
 obtain ⟨x, y, z, u⟩ := a
 obtain ⟨x', y', z', u'⟩ := b
 simp [Program.fieldsOf, hU, Op.eqFields, part, ha, hz, e _ _ _ W, Result.andThen]
 by_cases e1 : x = x' <;> by_cases e2 : y = y' <;> by_cases e3 : z = z' <;> by_cases e4 : u = u' <;> simp [e1, e2, e3, e4]
theorem neq_Level (a b : Lev) (r : Bool) (h : decide (a = b) = r) (W : World) : (binOp .neq 73 (.agg #[.int .i64 a.c, .int .i64 a.l]) (.agg #[.int .i64 b.c, .int .i64 b.l])).run Tryz.prog W = .ok (.bool (!r)) W := by
 rw [run_neq_struct, eqin_Level 9998 a b W, h]
 rfl
theorem guard_Level (op : BinOp) (x y : Operand) (xs ys : Array Value) (W : World) : (eqGuard op 73 x y (.agg xs) (.agg ys)).run Tryz.prog W = .ok () W := run_eqGuard_agg W op _ x y xs ys (by kernel_rfl)
theorem eql_Cert (a b : Cert) (r : Bool) (h : decide (a = b) = r) (W : World) : (binOp .eql 47 (.agg #[.int .i64 a.c, .int .i64 a.by_, .int .i64 a.host, .int .i64 a.till]) (.agg #[.int .i64 b.c, .int .i64 b.by_, .int .i64 b.host, .int .i64 b.till])).run Tryz.prog W = .ok (.bool r) W := by
 rw [run_eql_struct, eqin_Cert 9998 a b W, h]
 rfl
theorem guard_Cert (op : BinOp) (x y : Operand) (xs ys : Array Value) (W : World) : (eqGuard op 47 x y (.agg xs) (.agg ys)).run Tryz.prog W = .ok () W := run_eqGuard_agg W op _ x y xs ys (by kernel_rfl)
theorem take_ne {α : Type} {a b : List α} {k : Nat} (ha : k < a.length) (hb : k < b.length) (h : a[k] ≠ b[k]) : a ≠ b := by
 rintro rfl
 exact h rfl
theorem take_eq_succ {α : Type} {a b : List α} {k : Nat} (ha : k < a.length) (hb : k < b.length) (h : a.take k = b.take k) (e : a[k] = b[k]) : a.take (k + 1) = b.take (k + 1) := by
 rw [List.take_succ_eq_append_getElem ha, List.take_succ_eq_append_getElem hb, h, e]
theorem label_Category (c : Int) (w : World) : Calls Tryz.prog 91 #[.int .i64 c] w fun e w' => e = .returned (.bool (decide (0 ≤ c ∧ c < 80))) ∧ w = w' := by
 by_cases h1 : 0 ≤ c <;> by_cases h2 : c < 80
 all_goals
  go_enter Tryz.func91, Tryz.ntmps91
  go_wp2
  go_ret
  exact ⟨ret_bool (by simp [h1, h2]), rfl⟩
theorem label_At (ok : Nat → Prop) (w : World) (la : Option Addr) (lc : Nat) (l : List Lev) (c : Int) (hl : l.length * 16 ≤ 140737488355328) (hR : SlR ok w 2 RLev la lc l) :
  Calls Tryz.prog 22 #[.slice la l.length lc, .int .i64 c] w fun e w' => e = .returned (.int .i64 (lAt l c)) ∧ Below w.heap.size w w' := by
 go_enter Tryz.func22, Tryz.ntmps22
 go_wp2
 go_loopw [9] (fun i wr => ∃ k : Nat, k ≤ l.length ∧ i = .int .i64 k ∧ Below w.heap.size w wr ∧ Hid (lAt l c = lAt (l.drop k) c)) (fun i _ => l.length - (intOf i).toNat)
 case atStart => exact ⟨0, Nat.zero_le _, rfl, Below.refl _ _, rfl⟩
 case round =>
  obtain ⟨k, hk, rfl, hB, hI⟩ := hrel
  by_cases hlt : k < l.length
  ·obtain ⟨b, o, rfl, hb, h1, h2⟩ := (hR.below hB).lev_at k hlt
   have hbs := hB.size
   go_wp2
   ·have hc : (l[k].c == c) = true := by assumption
    go_ret
    have e : lAt l c = l[k].l := by rw [hI.out, drop_at hlt, lAt, if_pos (by simpa using hc)]
    exact ⟨by rw [e]; rfl, hB.alloc hbs _⟩
   ·have hc : (l[k].c == c) = false := by assumption
    go_roundw
    case rel => exact ⟨k + 1, hlt, by go_num, hB.alloc hbs _, by rw [hI.out, drop_at hlt, lAt, if_neg (by simpa using hc)]; rfl⟩
    case measure => simp [intOf]; omega
  ·go_wp2
   go_ret
   have e : lAt l c = 1 := by rw [hI.out, List.drop_of_length_le (by omega), lAt]
   exact ⟨by rw [e]; rfl, hB⟩
theorem good_bad {l : List Lev} {k : Nat} (h : k < l.length) (hI : Hid (risesL (-1) l = risesL (prevC l k) (l.drop k))) (hb : ¬ (prevC l k < l[k].c ∧ lvOk l[k] = true)) : goodL l = false := by
 unfold goodL
 rw [hI.out, risesL_step l k h, if_neg hb]
 split <;> rfl
theorem good_go {l : List Lev} {k : Nat} (h : k < l.length) (hI : Hid (risesL (-1) l = risesL (prevC l k) (l.drop k))) (hb : prevC l k < l[k].c ∧ lvOk l[k] = true) : Hid (risesL (-1) l = risesL (prevC l (k + 1)) (l.drop (k + 1))) := by
 show _ = _
 rw [hI.out, risesL_step l k h, if_pos hb]
theorem label_Good (ok : Nat → Prop) (w : World) (la : Option Addr) (lc : Nat) (l : List Lev) (hl : l.length * 16 ≤ 140737488355328) (hR : SlR ok w 2 RLev la lc l) :
  Calls Tryz.prog 70 #[.slice la l.length lc] w fun e w' => e = .returned (.bool (goodL l)) ∧ Below w.heap.size w w' := by
 by_cases h8 : l.length ≤ 8
 case neg =>
  have e : goodL l = false := by rw [goodL, if_neg h8]
  have HE := qh e
  clear e
  go_enter Tryz.func70, Tryz.ntmps70
  go_wp2
  go_ret
  exact ⟨by rw [HE.out]; rfl, Below.refl _ _⟩
 case pos =>
  go_enter Tryz.func70, Tryz.ntmps70
  go_wp2
  go_loopw [10] (fun i wr => ∃ k : Nat, k ≤ l.length ∧ i = .int .i64 k ∧ Below w.heap.size w wr ∧ Hid (risesL (-1) l = risesL (prevC l k) (l.drop k))) (fun i _ => l.length - (intOf i).toNat)
  case atStart => exact ⟨0, Nat.zero_le _, rfl, Below.refl _ _, by rw [prevC_zero]; rfl⟩
  case round =>
   obtain ⟨k, hk, rfl, hB, hI⟩ := hrel
   by_cases hlt : k < l.length
   ·obtain ⟨b, o, rfl, hb, h1, h2⟩ := (hR.below hB).lev_at k hlt
    have hbs := hB.size
    have hB' := hB.alloc hbs (.cells #[.int .i64 l[k].c, .int .i64 l[k].l] 73)
    go_wp2_with fail
    by_cases hcat : 0 ≤ l[k].c ∧ l[k].c < 80
    case neg =>
     have HE := qh (good_bad hlt hI fun h => hcat (by have := h.2; simp [lvOk] at this; exact ⟨this.1, this.2.1⟩))
     have hd : decide (0 ≤ l[k].c ∧ l[k].c < 80) = false := by simpa using hcat
     have HC := qh (fun W : World => show Calls Tryz.prog 91 #[.int .i64 l[k].c] W fun e w' => e = .returned (.bool false) ∧ w' = W from (label_Category l[k].c W).mono fun _ _ h => ⟨by rw [h.1, hd], h.2.symm⟩)
     clear hd hcat
     go_quiet ((go_at_call 91; exact Calls.quiet_of_same (HC.out _)))
     go_wp2
     go_ret
     exact ⟨by rw [HE.out]; rfl, hB'.drewN _⟩
    case pos =>
     have HCAT := qh hcat
     have hd : decide (0 ≤ l[k].c ∧ l[k].c < 80) = true := by simpa using hcat
     have HC := qh (fun W : World => show Calls Tryz.prog 91 #[.int .i64 l[k].c] W fun e w' => e = .returned (.bool true) ∧ w' = W from (label_Category l[k].c W).mono fun _ _ h => ⟨by rw [h.1, hd], h.2.symm⟩)
     clear hd hcat
     by_cases hbad : l[k].l < 0 ∨ 3 < l[k].l ∨ l[k].l = 1
     ·have HE := qh (good_bad hlt hI fun h => by have := h.2; simp only [lvOk, decide_eq_true_eq] at this; omega)
      rcases (show l[k].l < 0 ∨ (0 ≤ l[k].l ∧ 3 < l[k].l) ∨ (0 ≤ l[k].l ∧ l[k].l ≤ 3 ∧ l[k].l = 1) by omega) with h3 | h3 | h3
      ·clear hbad
       go_quiet ((go_at_call 91; exact Calls.quiet_of_same (HC.out _)))
       go_wp2
       go_ret
       exact ⟨by rw [HE.out]; rfl, hB'.drewN _⟩
      ·clear hbad
       obtain ⟨h4, h5⟩ := h3
       have d1 : decide (l[k].l < 0) = false := by simp; omega
       have d2 : decide (3 < l[k].l) = true := by simp; omega
       go_quiet ((go_at_call 91; exact Calls.quiet_of_same (HC.out _)))
       go_wp2
       go_ret
       exact ⟨by rw [HE.out]; rfl, hB'.drewN _⟩
      ·clear hbad
       obtain ⟨h4, h5, h6⟩ := h3
       have h7 : (l[k].l == 1) = true := by simpa using h6
       have d1 : decide (l[k].l < 0) = false := by simp; omega
       have d2 : decide (3 < l[k].l) = false := by simp; omega
       clear h6
       go_quiet ((go_at_call 91; exact Calls.quiet_of_same (HC.out _)))
       go_wp2
       go_ret
       exact ⟨by rw [HE.out]; rfl, hB'.drewN _⟩
     ·have h4 : 0 ≤ l[k].l := by omega
      have h5 : l[k].l ≤ 3 := by omega
      have h7 : (l[k].l == 1) = false := by simpa using (show ¬ l[k].l = 1 by omega)
      have d1 : decide (l[k].l < 0) = false := by simp; omega
      have d2 : decide (3 < l[k].l) = false := by simp; omega
      have HOK := qh (show lvOk l[k] = true by simp only [lvOk, decide_eq_true_eq]; have := HCAT.out; omega)
      clear hbad
      by_cases hk0 : k = 0
      ·subst hk0
       have HG := good_go hlt hI ⟨by rw [prevC_zero]; have := HCAT.out; omega, HOK.out⟩
       go_quiet ((go_at_call 91; exact Calls.quiet_of_same (HC.out _)))
       go_wp2
       go_roundw
       case rel => exact ⟨1, by omega, by go_num, hB'.drewN _, HG⟩
       case measure => simp [intOf]; omega
      ·have hk1 : 0 < k := by omega
       obtain ⟨b', o', hbo, hb', g1, g2⟩ := (hR.below hB).lev_at (k - 1) (by omega)
       simp only [Option.some.injEq, Addr.mk.injEq, and_true] at hbo
       obtain ⟨rfl, rfl⟩ := hbo
       have hp : prevC l k = l[k - 1].c := by simp [prevC, hk1, hk]
       have HP := qh hp
       have d3 : decide ((0 : Int) < (k : Int)) = true := by simp; omega
       clear hp hk0
       by_cases hpc : l[k - 1].c < l[k].c
       ·have HG := good_go hlt hI ⟨by rw [HP.out]; exact hpc, HOK.out⟩
        have d4 : decide (l[k].c ≤ l[k - 1].c) = false := by simp; omega
        go_quiet ((go_at_call 91; exact Calls.quiet_of_same (HC.out _)))
        go_wp2
        go_roundw
        case rel => exact ⟨k + 1, by omega, by go_num, hB'.drewN _, HG⟩
        case measure => simp [intOf]; omega
       ·have HE := qh (good_bad hlt hI fun h => hpc (by rw [← HP.out]; exact h.1))
        have hpc' : l[k].c ≤ l[k - 1].c := by omega
        have d4 : decide (l[k].c ≤ l[k - 1].c) = true := by simp; omega
        clear hpc
        go_quiet ((go_at_call 91; exact Calls.quiet_of_same (HC.out _)))
        go_wp2
        go_ret
        exact ⟨by rw [HE.out]; rfl, hB'.drewN _⟩
   ·go_wp2
    go_ret
    have e : goodL l = true := by rw [goodL, if_pos h8, hI.out, List.drop_of_length_le (by omega)]; rfl
    exact ⟨by rw [e]; rfl, hB⟩

def shifted (e : Eight) (d k j : Nat) : Bool := if d ≤ j ∧ j < d + k then e.get (j - d) else false
theorem shifted_succ (e : Eight) (d k j : Nat) : shifted e d (k + 1) j = (if e.get k = true ∧ j = k + d then true else shifted e d k j) := by
 unfold shifted
 by_cases hj : j = k + d
 ·subst hj
  rw [if_pos (by omega), show k + d - d = k by omega, if_neg (c := d ≤ k + d ∧ k + d < d + k) (by omega)]
  cases e.get k <;> simp
 ·rw [if_neg (c := e.get k = true ∧ j = k + d) (by simp [hj])]
  by_cases h : d ≤ j ∧ j < d + k
  ·rw [if_pos h, if_pos (by omega)]
  ·rw [if_neg h, if_neg (by omega)]
theorem get_ge (e : Eight) (k : Nat) (h : 8 ≤ k) : e.get k = false := by
 match k, h with
 | n + 8, _ => rfl
theorem index8_0 (e : Eight) (W : World) : (Instr.index 78 (.agg #[.bool e.s0, .bool e.s1, .bool e.s2, .bool e.s3, .bool e.s4, .bool e.s5, .bool e.s6, .bool e.s7]) (.int .i64 (((0 : Nat) : Int)))).run Tryz.prog W = .ok (.bool e.s0) W := by kernel_rfl
theorem index8_1 (e : Eight) (W : World) : (Instr.index 78 (.agg #[.bool e.s0, .bool e.s1, .bool e.s2, .bool e.s3, .bool e.s4, .bool e.s5, .bool e.s6, .bool e.s7]) (.int .i64 (((1 : Nat) : Int)))).run Tryz.prog W = .ok (.bool e.s1) W := by kernel_rfl
theorem index8_2 (e : Eight) (W : World) : (Instr.index 78 (.agg #[.bool e.s0, .bool e.s1, .bool e.s2, .bool e.s3, .bool e.s4, .bool e.s5, .bool e.s6, .bool e.s7]) (.int .i64 (((2 : Nat) : Int)))).run Tryz.prog W = .ok (.bool e.s2) W := by kernel_rfl
theorem index8_3 (e : Eight) (W : World) : (Instr.index 78 (.agg #[.bool e.s0, .bool e.s1, .bool e.s2, .bool e.s3, .bool e.s4, .bool e.s5, .bool e.s6, .bool e.s7]) (.int .i64 (((3 : Nat) : Int)))).run Tryz.prog W = .ok (.bool e.s3) W := by kernel_rfl
theorem index8_4 (e : Eight) (W : World) : (Instr.index 78 (.agg #[.bool e.s0, .bool e.s1, .bool e.s2, .bool e.s3, .bool e.s4, .bool e.s5, .bool e.s6, .bool e.s7]) (.int .i64 (((4 : Nat) : Int)))).run Tryz.prog W = .ok (.bool e.s4) W := by kernel_rfl
theorem index8_5 (e : Eight) (W : World) : (Instr.index 78 (.agg #[.bool e.s0, .bool e.s1, .bool e.s2, .bool e.s3, .bool e.s4, .bool e.s5, .bool e.s6, .bool e.s7]) (.int .i64 (((5 : Nat) : Int)))).run Tryz.prog W = .ok (.bool e.s5) W := by kernel_rfl
theorem index8_6 (e : Eight) (W : World) : (Instr.index 78 (.agg #[.bool e.s0, .bool e.s1, .bool e.s2, .bool e.s3, .bool e.s4, .bool e.s5, .bool e.s6, .bool e.s7]) (.int .i64 (((6 : Nat) : Int)))).run Tryz.prog W = .ok (.bool e.s6) W := by kernel_rfl
theorem index8_7 (e : Eight) (W : World) : (Instr.index 78 (.agg #[.bool e.s0, .bool e.s1, .bool e.s2, .bool e.s3, .bool e.s4, .bool e.s5, .bool e.s6, .bool e.s7]) (.int .i64 (((7 : Nat) : Int)))).run Tryz.prog W = .ok (.bool e.s7) W := by kernel_rfl
theorem index8 (e : Eight) (k : Nat) (h : k < 8) (W : World) : (Instr.index 78 (.agg #[.bool e.s0, .bool e.s1, .bool e.s2, .bool e.s3, .bool e.s4, .bool e.s5, .bool e.s6, .bool e.s7]) (.int .i64 ((k : Nat)))).run Tryz.prog W = .ok (.bool (e.get k)) W := by
 match k, h with
 | 0, _ => exact index8_0 e W
 | 1, _ => exact index8_1 e W
 | 2, _ => exact index8_2 e W
 | 3, _ => exact index8_3 e W
 | 4, _ => exact index8_4 e W
 | 5, _ => exact index8_5 e W
 | 6, _ => exact index8_6 e W
 | 7, _ => exact index8_7 e W
def rowB (f : Nat → Bool) : List Value := [.bool (f 0), .bool (f 1), .bool (f 2), .bool (f 3), .bool (f 4), .bool (f 5), .bool (f 6), .bool (f 7)]
theorem putL_rowB (f : Nat → Bool) (j : Nat) (h : j < 8) : putL (rowB f) j [.bool true] = rowB fun i => if i = j then true else f i := by
 match j, h with
 | 0, _ | 1, _ | 2, _ | 3, _ | 4, _ | 5, _ | 6, _ | 7, _ => rfl
theorem rowB_congr {f g : Nat → Bool} (h : ∀ j, j < 8 → f j = g j) : rowB f = rowB g := by
 simp [rowB, h]
theorem line_Take_new (ok : Nat → Prop) (w : World) (next high : Int) (sa : Option Addr) (sc : Nat) (sent : List Sent) (e : Eight) (seq : Int) (d : Nat) (hR : SentR ok w sa sc sent)
  (hg : lineOk ⟨next, sent, high, e⟩ = true) (h1 : 1 ≤ seq) (h2 : seq ≤ 1099511627776) (h3 : seq = high + (d : Int)) (h4 : 0 < d) :
  Calls Tryz.prog 53 #[lineV next high sa sent.length sc e, .int .i64 seq] w fun r w' => r = .returned (.tuple #[lineV next seq sa sent.length sc (Eight.of fun j => if j = 0 then true else shifted e d 8 j), .int .i64 0]) ∧ Below w.heap.size w w' := by
 have hG := fun W (hW : SentR ok W sa sc sent) => line_Good ok W next high sa sc sent e hW
 obtain ⟨_, _, b1, b2, _⟩ := lineOk_high hg
 rw [hg] at hG
 have HG := qh hG
 have H3 := qh h3
 have hd1 : high < seq := by omega
 have hidx := qh (fun k hk => index8 e k hk)
 clear hG hg h3
 unfold lineV at *
 have d0 : decide (seq < 1) = false := by simp; omega
 have d1 : decide (1099511627776 < seq) = false := by simp; omega
 have d2 : high - 8 < seq := by omega
 have st := St.start w
 go_enter Tryz.func53, Tryz.ntmps53
 go_wp2_with (first | (refine mem_box st (wanted_none rfl) _ _ rfl _ rfl _ rfl ?_; clear st; intro g wx hgx st hbx; clear hgx hbx; simp [Act.eval, Act.put, Value.cells, putL] at st) | (with_reducible refine at_alloc 80 ?_; refine mem_alloc st (wanted_none rfl) 80 rfl _ Tryz.zeroValue80 _ rfl ?_; clear st; intro g wx hgx st hbx; clear hgx hbx; simp [Act.eval, Act.put, Value.cells, putL] at st) | (with_reducible refine at_alloc 78 ?_; refine mem_alloc st (wanted_none rfl) 78 rfl _ Tryz.zeroValue78 _ rfl ?_; clear st; intro g wx hgx st hbx; clear hgx hbx; simp [Act.eval, Act.put, Value.cells, putL] at st) | (with_reducible refine at_alloc 3 ?_; refine mem_alloc st (wanted_none rfl) 3 rfl _ Tryz.zeroValue3 _ rfl ?_; clear st; intro g wx hgx st hbx; clear hgx hbx; simp [Act.eval, Act.put, Value.cells, putL] at st) | (with_reducible refine at_alloc 4 ?_; refine mem_alloc st (wanted_none rfl) 4 rfl _ Tryz.zeroValue4 _ rfl ?_; clear st; intro g wx hgx st hbx; clear hgx hbx; simp [Act.eval, Act.put, Value.cells, putL] at st) | (with_reducible refine mXA st Tryz.isAgg80 Tryz.sizeOf80 ?_) | (with_reducible refine mXA st Tryz.isAgg78 Tryz.sizeOf78 ?_) | (with_reducible refine mX st Tryz.isAgg3 ?_) | (with_reducible refine mX st Tryz.isAgg4 ?_) | (with_reducible refine mSX st Tryz.sizeOf80 ?_; clear st; intro wx st _ _) | (with_reducible refine mSX st Tryz.sizeOf78 ?_; clear st; intro wx st _ _) | (with_reducible refine mSX st Tryz.sizeOf3 ?_; clear st; intro wx st _ _) | (with_reducible refine mSX st Tryz.sizeOf4 ?_; clear st; intro wx st _ _))
 refine (HG.out _ (SentR.below hR st.below)).mono ?_
 rintro r w1 ⟨rfl, hb1⟩
 replace st := st.call hb1
 clear hb1 HG
 go_wp2_with (first | (refine mem_box st (wanted_none rfl) _ _ rfl _ rfl _ rfl ?_; clear st; intro g wx hgx st hbx; clear hgx hbx; simp [Act.eval, Act.put, Value.cells, putL] at st) | (with_reducible refine at_alloc 80 ?_; refine mem_alloc st (wanted_none rfl) 80 rfl _ Tryz.zeroValue80 _ rfl ?_; clear st; intro g wx hgx st hbx; clear hgx hbx; simp [Act.eval, Act.put, Value.cells, putL] at st) | (with_reducible refine at_alloc 78 ?_; refine mem_alloc st (wanted_none rfl) 78 rfl _ Tryz.zeroValue78 _ rfl ?_; clear st; intro g wx hgx st hbx; clear hgx hbx; simp [Act.eval, Act.put, Value.cells, putL] at st) | (with_reducible refine at_alloc 3 ?_; refine mem_alloc st (wanted_none rfl) 3 rfl _ Tryz.zeroValue3 _ rfl ?_; clear st; intro g wx hgx st hbx; clear hgx hbx; simp [Act.eval, Act.put, Value.cells, putL] at st) | (with_reducible refine at_alloc 4 ?_; refine mem_alloc st (wanted_none rfl) 4 rfl _ Tryz.zeroValue4 _ rfl ?_; clear st; intro g wx hgx st hbx; clear hgx hbx; simp [Act.eval, Act.put, Value.cells, putL] at st) | (with_reducible refine mXA st Tryz.isAgg80 Tryz.sizeOf80 ?_) | (with_reducible refine mXA st Tryz.isAgg78 Tryz.sizeOf78 ?_) | (with_reducible refine mX st Tryz.isAgg3 ?_) | (with_reducible refine mX st Tryz.isAgg4 ?_) | (with_reducible refine mSX st Tryz.sizeOf80 ?_; clear st; intro wx st _ _) | (with_reducible refine mSX st Tryz.sizeOf78 ?_; clear st; intro wx st _ _) | (with_reducible refine mSX st Tryz.sizeOf3 ?_; clear st; intro wx st _ _) | (with_reducible refine mSX st Tryz.sizeOf4 ?_; clear st; intro wx st _ _))
 rename_i g2 y0 g4 y1 y2 y3 y4 y5
 have e0 : ([.bool false, .bool false, .bool false, .bool false, .bool false, .bool false, .bool false, .bool false] : List Value) = rowB (shifted e d 0) := by
  have : ∀ j, shifted e d 0 j = false := fun j => by unfold shifted; rw [if_neg (by omega)]
  simp [rowB, this]
 rw [e0] at st
 clear e0
 have st0 := st
 clear st
 go_loopw [51] (fun i wr => ∃ k : Nat, k ≤ 8 ∧ i = .int .i64 k ∧ St [] w wr [(g2, 80, [.int .i64 next, .slice sa sent.length sc, .int .i64 high, .bool e.s0, .bool e.s1, .bool e.s2, .bool e.s3, .bool e.s4, .bool e.s5, .bool e.s6, .bool e.s7]), (g4, 80, .int .i64 0 :: .slice none 0 0 :: .int .i64 0 :: rowB (shifted e d 0)), (g, 78, rowB (shifted e d k))]) (fun i _ => 8 - (intOf i).toNat)
 case atStart => exact ⟨0, by omega, rfl, st0⟩
 case round =>
  obtain ⟨k, hk, rfl, st⟩ := hrel
  clear st0
  have hto : (k : Int) + seq - high = ((k + d : Nat) : Int) := by have := H3.out; omega
  have hsm : (k : Int) + seq ≤ 9223372036854775807 := by omega
  by_cases hlt : k < 8
  ·have hi := hidx.out k hlt
   have hsh : ∀ b, e.get k = b → rowB (shifted e d (k + 1)) = rowB (fun j => if b = true ∧ j = k + d then true else shifted e d k j) := by
    rintro b rfl
    exact rowB_congr fun j _ => shifted_succ e d k j
   have HSH := qh hsh
   clear hsh
   cases hin : e.get k
   ·rw [hin] at hi
    have HE := qh (show rowB (shifted e d (k + 1)) = rowB (shifted e d k) by rw [HSH.out _ hin]; simp)
    clear hin HSH
    go_wp2_with (first | (refine mem_box st (wanted_none rfl) _ _ rfl _ rfl _ rfl ?_; clear st; intro g wx hgx st hbx; clear hgx hbx; simp [Act.eval, Act.put, Value.cells, putL] at st) | (with_reducible refine at_alloc 80 ?_; refine mem_alloc st (wanted_none rfl) 80 rfl _ Tryz.zeroValue80 _ rfl ?_; clear st; intro g wx hgx st hbx; clear hgx hbx; simp [Act.eval, Act.put, Value.cells, putL] at st) | (with_reducible refine at_alloc 78 ?_; refine mem_alloc st (wanted_none rfl) 78 rfl _ Tryz.zeroValue78 _ rfl ?_; clear st; intro g wx hgx st hbx; clear hgx hbx; simp [Act.eval, Act.put, Value.cells, putL] at st) | (with_reducible refine at_alloc 3 ?_; refine mem_alloc st (wanted_none rfl) 3 rfl _ Tryz.zeroValue3 _ rfl ?_; clear st; intro g wx hgx st hbx; clear hgx hbx; simp [Act.eval, Act.put, Value.cells, putL] at st) | (with_reducible refine at_alloc 4 ?_; refine mem_alloc st (wanted_none rfl) 4 rfl _ Tryz.zeroValue4 _ rfl ?_; clear st; intro g wx hgx st hbx; clear hgx hbx; simp [Act.eval, Act.put, Value.cells, putL] at st) | (with_reducible refine mXA st Tryz.isAgg80 Tryz.sizeOf80 ?_) | (with_reducible refine mXA st Tryz.isAgg78 Tryz.sizeOf78 ?_) | (with_reducible refine mX st Tryz.isAgg3 ?_) | (with_reducible refine mX st Tryz.isAgg4 ?_) | (with_reducible refine mSX st Tryz.sizeOf80 ?_; clear st; intro wx st _ _) | (with_reducible refine mSX st Tryz.sizeOf78 ?_; clear st; intro wx st _ _) | (with_reducible refine mSX st Tryz.sizeOf3 ?_; clear st; intro wx st _ _) | (with_reducible refine mSX st Tryz.sizeOf4 ?_; clear st; intro wx st _ _))
    go_roundw
    case rel => exact ⟨k + 1, by omega, by go_num, by rw [HE.out]; exact st⟩
    case measure => simp [intOf]; omega
   ·rw [hin] at hi
    by_cases hkd : k + d < 8
    ·have hd8 : decide (k + d < 8) = true := by simp; omega
     have hble : Nat.ble (k + d + 1) 8 = true := Nat.ble_eq_true_of_le (by omega)
     have HE := qh (show putL (rowB (shifted e d k)) (k + d) [.bool true] = rowB (shifted e d (k + 1)) by
      rw [putL_rowB _ _ hkd, HSH.out _ hin]
      simp)
     clear hin HSH
     go_wp2_with (first | (refine mem_box st (wanted_none rfl) _ _ rfl _ rfl _ rfl ?_; clear st; intro g wx hgx st hbx; clear hgx hbx; simp [Act.eval, Act.put, Value.cells, putL] at st) | (with_reducible refine at_alloc 80 ?_; refine mem_alloc st (wanted_none rfl) 80 rfl _ Tryz.zeroValue80 _ rfl ?_; clear st; intro g wx hgx st hbx; clear hgx hbx; simp [Act.eval, Act.put, Value.cells, putL] at st) | (with_reducible refine at_alloc 78 ?_; refine mem_alloc st (wanted_none rfl) 78 rfl _ Tryz.zeroValue78 _ rfl ?_; clear st; intro g wx hgx st hbx; clear hgx hbx; simp [Act.eval, Act.put, Value.cells, putL] at st) | (with_reducible refine at_alloc 3 ?_; refine mem_alloc st (wanted_none rfl) 3 rfl _ Tryz.zeroValue3 _ rfl ?_; clear st; intro g wx hgx st hbx; clear hgx hbx; simp [Act.eval, Act.put, Value.cells, putL] at st) | (with_reducible refine at_alloc 4 ?_; refine mem_alloc st (wanted_none rfl) 4 rfl _ Tryz.zeroValue4 _ rfl ?_; clear st; intro g wx hgx st hbx; clear hgx hbx; simp [Act.eval, Act.put, Value.cells, putL] at st) | (with_reducible refine mXA st Tryz.isAgg80 Tryz.sizeOf80 ?_) | (with_reducible refine mXA st Tryz.isAgg78 Tryz.sizeOf78 ?_) | (with_reducible refine mX st Tryz.isAgg3 ?_) | (with_reducible refine mX st Tryz.isAgg4 ?_) | (with_reducible refine mSX st Tryz.sizeOf80 ?_; clear st; intro wx st _ _) | (with_reducible refine mSX st Tryz.sizeOf78 ?_; clear st; intro wx st _ _) | (with_reducible refine mSX st Tryz.sizeOf3 ?_; clear st; intro wx st _ _) | (with_reducible refine mSX st Tryz.sizeOf4 ?_; clear st; intro wx st _ _) | (with_reducible refine at_store 4 ?_; (first | refine mem_store' st 4 _ _ rfl (wanted_none rfl) _ Tryz.sizeOf4 ?_ | (refine mem_store' st 4 _ _ rfl (wanted_some rfl ?_) _ Tryz.sizeOf4 ?_; focus (simp [yielded, Act.put]; done))); refine ⟨2, _, _, _, _, _, rfl, rfl, rfl, rfl, rfl, hble, ?_⟩; clear st; intro wx st _ _; simp [Act.eval, Value.cells] at st))
     rw [HE.out] at st
     go_roundw
     case rel => exact ⟨k + 1, by omega, by go_num, st⟩
     case measure => simp [intOf]; omega
    ·have hd8 : decide (k + d < 8) = false := by simp; omega
     have HE := qh (show rowB (shifted e d (k + 1)) = rowB (shifted e d k) by
      rw [HSH.out _ hin]
      exact rowB_congr fun j hj => by rw [if_neg (by omega)])
     clear hin HSH
     go_wp2_with (first | (refine mem_box st (wanted_none rfl) _ _ rfl _ rfl _ rfl ?_; clear st; intro g wx hgx st hbx; clear hgx hbx; simp [Act.eval, Act.put, Value.cells, putL] at st) | (with_reducible refine at_alloc 80 ?_; refine mem_alloc st (wanted_none rfl) 80 rfl _ Tryz.zeroValue80 _ rfl ?_; clear st; intro g wx hgx st hbx; clear hgx hbx; simp [Act.eval, Act.put, Value.cells, putL] at st) | (with_reducible refine at_alloc 78 ?_; refine mem_alloc st (wanted_none rfl) 78 rfl _ Tryz.zeroValue78 _ rfl ?_; clear st; intro g wx hgx st hbx; clear hgx hbx; simp [Act.eval, Act.put, Value.cells, putL] at st) | (with_reducible refine at_alloc 3 ?_; refine mem_alloc st (wanted_none rfl) 3 rfl _ Tryz.zeroValue3 _ rfl ?_; clear st; intro g wx hgx st hbx; clear hgx hbx; simp [Act.eval, Act.put, Value.cells, putL] at st) | (with_reducible refine at_alloc 4 ?_; refine mem_alloc st (wanted_none rfl) 4 rfl _ Tryz.zeroValue4 _ rfl ?_; clear st; intro g wx hgx st hbx; clear hgx hbx; simp [Act.eval, Act.put, Value.cells, putL] at st) | (with_reducible refine mXA st Tryz.isAgg80 Tryz.sizeOf80 ?_) | (with_reducible refine mXA st Tryz.isAgg78 Tryz.sizeOf78 ?_) | (with_reducible refine mX st Tryz.isAgg3 ?_) | (with_reducible refine mX st Tryz.isAgg4 ?_) | (with_reducible refine mSX st Tryz.sizeOf80 ?_; clear st; intro wx st _ _) | (with_reducible refine mSX st Tryz.sizeOf78 ?_; clear st; intro wx st _ _) | (with_reducible refine mSX st Tryz.sizeOf3 ?_; clear st; intro wx st _ _) | (with_reducible refine mSX st Tryz.sizeOf4 ?_; clear st; intro wx st _ _))
     go_roundw
     case rel => exact ⟨k + 1, by omega, by go_num, by rw [HE.out]; exact st⟩
     case measure => simp [intOf]; omega
  ·have hk8 : k = 8 := by omega
   subst hk8
   simp only [rowB] at st
   clear hidx
   go_wp2_with (first | (refine mem_box st (wanted_none rfl) _ _ rfl _ rfl _ rfl ?_; clear st; intro g wx hgx st hbx; clear hgx hbx; simp [Act.eval, Act.put, Value.cells, putL] at st) | (with_reducible refine at_alloc 80 ?_; refine mem_alloc st (wanted_none rfl) 80 rfl _ Tryz.zeroValue80 _ rfl ?_; clear st; intro g wx hgx st hbx; clear hgx hbx; simp [Act.eval, Act.put, Value.cells, putL] at st) | (with_reducible refine at_alloc 78 ?_; refine mem_alloc st (wanted_none rfl) 78 rfl _ Tryz.zeroValue78 _ rfl ?_; clear st; intro g wx hgx st hbx; clear hgx hbx; simp [Act.eval, Act.put, Value.cells, putL] at st) | (with_reducible refine at_alloc 3 ?_; refine mem_alloc st (wanted_none rfl) 3 rfl _ Tryz.zeroValue3 _ rfl ?_; clear st; intro g wx hgx st hbx; clear hgx hbx; simp [Act.eval, Act.put, Value.cells, putL] at st) | (with_reducible refine at_alloc 4 ?_; refine mem_alloc st (wanted_none rfl) 4 rfl _ Tryz.zeroValue4 _ rfl ?_; clear st; intro g wx hgx st hbx; clear hgx hbx; simp [Act.eval, Act.put, Value.cells, putL] at st) | (with_reducible refine mXA st Tryz.isAgg80 Tryz.sizeOf80 ?_) | (with_reducible refine mXA st Tryz.isAgg78 Tryz.sizeOf78 ?_) | (with_reducible refine mX st Tryz.isAgg3 ?_) | (with_reducible refine mX st Tryz.isAgg4 ?_) | (with_reducible refine mSX st Tryz.sizeOf80 ?_; clear st; intro wx st _ _) | (with_reducible refine mSX st Tryz.sizeOf78 ?_; clear st; intro wx st _ _) | (with_reducible refine mSX st Tryz.sizeOf3 ?_; clear st; intro wx st _ _) | (with_reducible refine mSX st Tryz.sizeOf4 ?_; clear st; intro wx st _ _))
   have hc := fun j => st.cell (i := 1) rfl j
   refine bodyPost_ret (v := _) ?hr rfl ⟨rfl, st.below⟩
   case hr => simp [results, Tryz.results53, go_sem, hc, Eight.of, putL]
def upto (val : Nat → Bool) (k j : Nat) : Bool := if j < k then val j else false
theorem line_Take_seen (ok : Nat → Prop) (w : World) (next high : Int) (sa : Option Addr) (sc : Nat) (sent : List Sent) (e : Eight) (seq : Int) (k : Nat) (hR : SentR ok w sa sc sent)
  (hg : lineOk ⟨next, sent, high, e⟩ = true) (h1 : 1 ≤ seq) (h2 : seq ≤ 1099511627776) (h3 : high - seq = (k : Int)) (h4 : k < 8) (h5 : e.get k = false) :
  Calls Tryz.prog 53 #[lineV next high sa sent.length sc e, .int .i64 seq] w fun r w' => r = .returned (.tuple #[lineV next high sa sent.length sc (e.yes k), .int .i64 0]) ∧ Below w.heap.size w w' := by
 have hG := fun W (hW : SentR ok W sa sc sent) => line_Good ok W next high sa sc sent e hW
 obtain ⟨_, _, b1, b2, _⟩ := lineOk_high hg
 rw [hg] at hG
 have HG := qh hG
 clear hG hg
 obtain ⟨s0, s1, s2, s3, s4, s5, s6, s7⟩ := e
 unfold lineV at *
 have d0 : decide (seq < 1) = false := by simp; omega
 have d1 : decide (1099511627776 < seq) = false := by simp; omega
 have d2 : high - 8 < seq := by omega
 have d3 : seq ≤ high := by omega
 rcases (show k = 0 ∨ k = 1 ∨ k = 2 ∨ k = 3 ∨ k = 4 ∨ k = 5 ∨ k = 6 ∨ k = 7 by omega) with rfl | rfl | rfl | rfl | rfl | rfl | rfl | rfl
 all_goals
  first | replace h3 : high - seq = 0 := h3 | replace h3 : high - seq = 1 := h3 | replace h3 : high - seq = 2 := h3 | replace h3 : high - seq = 3 := h3 | replace h3 : high - seq = 4 := h3 | replace h3 : high - seq = 5 := h3 | replace h3 : high - seq = 6 := h3 | replace h3 : high - seq = 7 := h3
  simp only [Eight.get] at h5
  subst h5
  go_enter Tryz.func53, Tryz.ntmps53
  go_wp2_with fail
  refine (HG.out _ (SentR.below hR (((Below.refl _ _).alloc (Nat.le_refl _) _).alloc (by simp) _))).mono ?_
  rintro r w1 ⟨rfl, hb1⟩
  have hb2 := (((Below.refl w.heap.size w).alloc (Nat.le_refl _) _).alloc (by simp) _).keep hb1
  obtain ⟨hc, hf⟩ := bcell hb1
  have hs := bset hb1
  have hz := hb1.size
  simp only [World.size_alloc] at hz
  go_wp2
  refine bodyPost_ret (v := _) ?hr rfl ⟨rfl, ?_⟩
  case hr => simp [results, Tryz.results53, go_sem, hc, hz, hs, Eight.yes, Eight.of, Eight.get]
  clear hc hf HG
  go_grown
theorem takeC_cases {good : Bool} {high seq : Int} {e : Eight} (hh : 0 ≤ high) :
  ((good = false ∨ seq < 1 ∨ 1099511627776 < seq) ∧ takeC good high seq e = (high, e, 2)) ∨
  (good = true ∧ 1 ≤ seq ∧ seq ≤ 1099511627776 ∧ seq ≤ high - 8 ∧ takeC good high seq e = (high, e, 11)) ∨
  (good = true ∧ 1 ≤ seq ∧ seq ≤ 1099511627776 ∧ ∃ q : Nat, high - seq = (q : Int) ∧ q < 8 ∧ ((e.get q = true ∧ takeC good high seq e = (high, e, 10)) ∨ (e.get q = false ∧ takeC good high seq e = (high, e.yes q, 0)))) ∨
  (good = true ∧ 1 ≤ seq ∧ seq ≤ 1099511627776 ∧ ∃ d : Nat, seq = high + (d : Int) ∧ 0 < d ∧ takeC good high seq e = (seq, Eight.of (fun j => if j = 0 then true else shifted e d 8 j), 0)) := by
 unfold takeC
 by_cases h1 : good = false ∨ seq < 1 ∨ 1099511627776 < seq
 ·exact .inl ⟨h1, by rw [if_pos h1]⟩
 ·have hg : good = true := by cases good <;> simp_all
  have h2 : 1 ≤ seq := by omega
  have h3 : seq ≤ 1099511627776 := by omega
  rw [if_neg h1]
  by_cases h4 : seq ≤ high - 8
  ·exact .inr (.inl ⟨hg, h2, h3, h4, by rw [if_pos h4]⟩)
  ·rw [if_neg h4]
   by_cases h5 : seq ≤ high
   ·rw [if_pos h5]
    refine .inr (.inr (.inl ⟨hg, h2, h3, (high - seq).toNat, by omega, by omega, ?_⟩))
    cases hb : e.get (high - seq).toNat
    ·exact .inr ⟨rfl, by simp⟩
    ·exact .inl ⟨rfl, by simp⟩
   ·rw [if_neg h5]
    refine .inr (.inr (.inr ⟨hg, h2, h3, (seq - high).toNat, by omega, by omega, ?_⟩))
    have e1 : ∀ j : Nat, (if j = 0 then true else if seq - high ≤ (j : Int) then e.get (j - (seq - high).toNat) else false) = (if j = 0 then true else shifted e (seq - high).toNat 8 j) := fun j => by
     by_cases hj : j = 0
     ·simp [hj]
     ·rw [if_neg hj, if_neg hj]
      unfold shifted
      by_cases hk : seq - high ≤ (j : Int)
      ·rw [if_pos hk]
       by_cases h8 : j < (seq - high).toNat + 8
       ·rw [if_pos (by omega)]
       ·rw [if_neg (by omega)]
        exact get_ge e _ (by omega)
      ·rw [if_neg hk, if_neg (by omega)]
    rw [show (fun j : Nat => if j = 0 then true else if seq - high ≤ (j : Int) then e.get (j - (seq - high).toNat) else false) = _ from funext e1]
theorem line_Take (ok : Nat → Prop) (w : World) (next high : Int) (sa : Option Addr) (sc : Nat) (sent : List Sent) (e : Eight) (seq : Int) (hR : SentR ok w sa sc sent) (good : Bool) (hg : lineOk ⟨next, sent, high, e⟩ = good) (r : Int × Eight × Int) (hr : takeC good high seq e = r) :
  Calls Tryz.prog 53 #[lineV next high sa sent.length sc e, .int .i64 seq] w fun x w' => x = .returned (.tuple #[lineV next r.1 sa sent.length sc r.2.1, .int .i64 r.2.2]) ∧ Below w.heap.size w w' := by
 subst hr
 cases good with
 | false =>
  have e1 : takeC false high seq e = (high, e, 2) := by unfold takeC; rw [if_pos (.inl rfl)]
  rw [e1]
  exact line_Take_range ok w next high sa sc sent e seq hR (.inl hg)
 | true =>
  obtain ⟨_, _, b1, _⟩ := lineOk_high hg
  rcases takeC_cases (good := true) (seq := seq) (e := e) b1 with ⟨h, e1⟩ | ⟨_, h1, h2, h3, e1⟩ | ⟨_, h1, h2, q, h3, h4, ⟨h5, e1⟩ | ⟨h5, e1⟩⟩ | ⟨_, h1, h2, d, h3, h4, e1⟩
  ·rw [e1]; exact line_Take_range ok w next high sa sc sent e seq hR (by rw [hg]; exact h)
  ·rw [e1]; exact line_Take_old ok w next high sa sc sent e seq hR hg h1 h2 h3
  ·rw [e1]; exact line_Take_twice ok w next high sa sc sent e seq q hR hg h1 h2 h3 h4 h5
  ·rw [e1]; exact line_Take_seen ok w next high sa sc sent e seq q hR hg h1 h2 h3 h4 h5
  ·rw [e1]; exact line_Take_new ok w next high sa sc sent e seq d hR hg h1 h2 h3 h4
end Go.Proofs.YtnjjdpiofbajlaaGreat
