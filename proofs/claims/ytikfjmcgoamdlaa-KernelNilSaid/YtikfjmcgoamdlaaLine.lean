/- The walks through line.Good. -/
import Derived.Test.YtikfjmcgoamdlaaPlain
import Derived.Test.YtikfjmcgoamdlaaProg
set_option linter.unusedSimpArgs false
set_option linter.unusedVariables false
namespace Go.Proofs.Ytikfjmcgoamdlaa
open Go.RowKit

def sentOk (next prev : Int) (s : Sent) : Bool := decide (1 ≤ s.frame.seq ∧ prev < s.frame.seq ∧ s.frame.seq ≤ next ∧ 1 ≤ s.tries ∧ s.tries ≤ 5 ∧ 0 ≤ s.due ∧ s.due ≤ 2199023255552)

def sentsOk (next : Int) : Int → List Sent → Bool
  | _, [] => true
  | p, s :: l => if sentOk next p s = true then sentsOk next s.frame.seq l else false

def headOk (next high : Int) (n : Nat) : Bool := decide (0 ≤ next ∧ next ≤ 1099511627775 ∧ 0 ≤ high ∧ high ≤ 1099511627776 ∧ n ≤ 8)

def lineOk (l : Line) : Bool := if headOk l.next l.high l.sent.length = true then sentsOk l.next 0 l.sent else false

/-- The number of the frame ahead of the k-th. -/
def prevS (l : List Sent) (k : Nat) : Int := if h : 0 < k ∧ k ≤ l.length then (l[k - 1]'(by omega)).frame.seq else 0
theorem prevS_zero (l : List Sent) : prevS l 0 = 0 := by simp [prevS]
theorem prevS_succ (l : List Sent) (k : Nat) (h : k < l.length) : prevS l (k + 1) = l[k].frame.seq := by
  unfold prevS
  rw [dif_pos ⟨by omega, by omega⟩]
  simp
theorem sentsOk_step (next : Int) (l : List Sent) (k : Nat) (h : k < l.length) : sentsOk next (prevS l k) (l.drop k) = (if sentOk next (prevS l k) l[k] = true then sentsOk next (prevS l (k + 1)) (l.drop (k + 1)) else false) := by
  rw [List.drop_eq_getElem_cons h, sentsOk, prevS_succ l k h]

theorem line_bad {L : Line} {k : Nat} (h : k < L.sent.length) (hI : Hid (sentsOk L.next 0 L.sent = sentsOk L.next (prevS L.sent k) (L.sent.drop k))) (hb : sentOk L.next (prevS L.sent k) L.sent[k] = false) : lineOk L = false := by
  have e : sentsOk L.next 0 L.sent = false := by rw [hI.out, sentsOk_step _ _ k h, if_neg (by rw [hb]; simp)]
  unfold lineOk
  rw [e]
  split <;> rfl
theorem line_go {L : Line} {k : Nat} (h : k < L.sent.length) (hI : Hid (sentsOk L.next 0 L.sent = sentsOk L.next (prevS L.sent k) (L.sent.drop k))) (hb : sentOk L.next (prevS L.sent k) L.sent[k] = true) : Hid (sentsOk L.next 0 L.sent = sentsOk L.next (prevS L.sent (k + 1)) (L.sent.drop (k + 1))) := by
  show _ = _
  rw [hI.out, sentsOk_step _ _ k h, if_pos hb]

/-- A line, as a value. -/
def lineV (next high : Int) (sa : Option Addr) (n sc : Nat) (e : Eight) : Value := .agg #[.int .i64 next, .slice sa n sc, .int .i64 high, .bool e.s0, .bool e.s1, .bool e.s2, .bool e.s3, .bool e.s4, .bool e.s5, .bool e.s6, .bool e.s7]

set_option maxHeartbeats 4000000 in
theorem line_Good (ok : Nat → Prop) (w : World) (next high : Int) (sa : Option Addr) (sc : Nat) (sent : List Sent) (e : Eight) (hR : SentR ok w sa sc sent) :
    Calls Try.prog 73 #[lineV next high sa sent.length sc e] w fun e' w' => e' = .returned (.bool (lineOk ⟨next, sent, high, e⟩)) ∧ Below w.heap.size w w' := by
  unfold lineV
  obtain ⟨s0, s1, s2, s3, s4, s5, s6, s7⟩ := e
  have hsl : sent.length ≤ 9223372036854775807 := by have h1 := hR.1; have h2 := hR.2.1; unfold maxLen at h2; omega
  generalize hL : (⟨next, sent, high, ⟨s0, s1, s2, s3, s4, s5, s6, s7⟩⟩ : Line) = L
  have HL := Lib.hid hL
  clear hL
  rcases or5 (decide (next < 0)) (decide (1099511627776 ≤ next)) (decide (high < 0)) (decide (1099511627776 < high)) (decide ((8 : Int) < (sent.length : Int))) with d | ⟨d0, d⟩ | ⟨d0, d1, d⟩ | ⟨d0, d1, d2, d⟩ | ⟨d0, d1, d2, d3, d⟩ | ⟨d0, d1, d2, d3, d4⟩
  case inr.inr.inr.inr.inr =>
    have HH := Lib.hid (show headOk next high sent.length = true by unfold headOk; simp at *; omega)
    have hs : (decide ((sent.length : Int) < 9)) = true := by simp at *; omega
    go_enter Try.func73, Try.ntmps73
    go_wp2
    have hb0 : Below w.heap.size w (w.alloc (.cells #[.int .i64 next, .slice sa sent.length sc, .int .i64 high, .bool s0, .bool s1, .bool s2, .bool s3, .bool s4, .bool s5, .bool s6, .bool s7] 87)) := (Below.refl _ _).alloc (Nat.le_refl _) _
    generalize hw0 : (w.alloc (.cells #[.int .i64 next, .slice sa sent.length sc, .int .i64 high, .bool s0, .bool s1, .bool s2, .bool s3, .bool s4, .bool s5, .bool s6, .bool s7] 87)) = w0 at hb0 ⊢
    have hz0 : w.heap.size < w0.heap.size := by rw [← hw0]; simp
    have hz0' : w.heap.size < w0.heap.size := hz0
    have c0 : w0.cell? ⟨w.heap.size, 0, none⟩ = some (.int .i64 next) := by rw [← hw0]; exact World.cell?_alloc_at _ _ _ _ rfl
    have c1 : w0.cell? ⟨w.heap.size, 1, none⟩ = some (.slice sa sent.length sc) := by rw [← hw0]; exact World.cell?_alloc_at _ _ _ _ rfl
    have C0 := Lib.hid c0
    have C1 := Lib.hid c1
    have hR0 : SentR ok w0 sa sc sent := SentR.below hR hb0
    clear c0 c1 hw0 d0 d1 d2 d3 d4
    go_loopw [32] (fun i wr => ∃ k : Nat, k ≤ sent.length ∧ i = .int .i64 k ∧ Below w0.heap.size w0 wr ∧ Hid (sentsOk L.next 0 L.sent = sentsOk L.next (prevS L.sent k) (L.sent.drop k))) (fun i _ => sent.length - (intOf i).toNat)
    case atStart => exact ⟨0, Nat.zero_le _, rfl, Below.refl _ _, by rw [prevS_zero]; rfl⟩
    case round =>
      obtain ⟨k, hk, rfl, hB, hI⟩ := hrel
      have hbs := hB.size
      by_cases hlt : k < sent.length
      · obtain ⟨b, o, la, lc, ga, gc, ca, cc, rfl, hb, _, f0, f1, f2, f3, f4, f5, f6, f7, f8, f9, f10, f11, f12⟩ := SlR.sent_at (SentR.below hR0 hB) k hlt
        have g0 : wr.cell? ⟨w.heap.size, 0, none⟩ = some (.int .i64 next) := (hB.cell (p := ⟨w.heap.size, 0, none⟩) hz0').trans C0.out
        have g1 : wr.cell? ⟨w.heap.size, 1, none⟩ = some (.slice (some ⟨b, o, none⟩) sent.length sc) := (hB.cell (p := ⟨w.heap.size, 1, none⟩) hz0').trans C1.out
        go_wp2_with fail
        have hB5 : Below w0.heap.size w0 (wr.alloc (.cells #[.int .i64 sent[k].frame.src, .int .i64 sent[k].frame.dst, .int .i64 sent[k].frame.seq, .bool sent[k].frame.ack, .int .i64 sent[k].frame.thread, .int .i64 sent[k].frame.mail.host, .int .i64 sent[k].frame.mail.thread, .slice la sent[k].frame.mail.label.length lc, .slice ga sent[k].frame.mail.grants.length gc, .string sent[k].frame.mail.text, .slice ca sent[k].frame.certs.length cc, .int .i64 sent[k].tries, .int .i64 sent[k].due] 142)) := hB.alloc hbs _
        have q2 := World.cell?_alloc_at (w := wr) #[.int .i64 sent[k].frame.src, .int .i64 sent[k].frame.dst, .int .i64 sent[k].frame.seq, .bool sent[k].frame.ack, .int .i64 sent[k].frame.thread, .int .i64 sent[k].frame.mail.host, .int .i64 sent[k].frame.mail.thread, .slice la sent[k].frame.mail.label.length lc, .slice ga sent[k].frame.mail.grants.length gc, .string sent[k].frame.mail.text, .slice ca sent[k].frame.certs.length cc, .int .i64 sent[k].tries, .int .i64 sent[k].due] 142 wr.heap.size 2 rfl
        have q11 := World.cell?_alloc_at (w := wr) #[.int .i64 sent[k].frame.src, .int .i64 sent[k].frame.dst, .int .i64 sent[k].frame.seq, .bool sent[k].frame.ack, .int .i64 sent[k].frame.thread, .int .i64 sent[k].frame.mail.host, .int .i64 sent[k].frame.mail.thread, .slice la sent[k].frame.mail.label.length lc, .slice ga sent[k].frame.mail.grants.length gc, .string sent[k].frame.mail.text, .slice ca sent[k].frame.certs.length cc, .int .i64 sent[k].tries, .int .i64 sent[k].due] 142 wr.heap.size 11 rfl
        have q12 := World.cell?_alloc_at (w := wr) #[.int .i64 sent[k].frame.src, .int .i64 sent[k].frame.dst, .int .i64 sent[k].frame.seq, .bool sent[k].frame.ack, .int .i64 sent[k].frame.thread, .int .i64 sent[k].frame.mail.host, .int .i64 sent[k].frame.mail.thread, .slice la sent[k].frame.mail.label.length lc, .slice ga sent[k].frame.mail.grants.length gc, .string sent[k].frame.mail.text, .slice ca sent[k].frame.certs.length cc, .int .i64 sent[k].tries, .int .i64 sent[k].due] 142 wr.heap.size 12 rfl
        generalize wr.alloc _ = w5 at hB5 q2 q11 q12 ⊢
        replace q2 : w5.cell? ⟨wr.heap.size, 2, none⟩ = some (.int .i64 sent[k].frame.seq) := q2
        replace q11 : w5.cell? ⟨wr.heap.size, 11, none⟩ = some (.int .i64 sent[k].tries) := q11
        replace q12 : w5.cell? ⟨wr.heap.size, 12, none⟩ = some (.int .i64 sent[k].due) := q12
        have g0 : w5.cell? ⟨w.heap.size, 0, none⟩ = some (.int .i64 next) := (hB5.cell (p := ⟨w.heap.size, 0, none⟩) hz0').trans C0.out
        have g1 : w5.cell? ⟨w.heap.size, 1, none⟩ = some (.slice (some ⟨b, o, none⟩) sent.length sc) := (hB5.cell (p := ⟨w.heap.size, 1, none⟩) hz0').trans C1.out
        have hLs : L.sent = sent := by rw [← HL.out]
        have hLn : L.next = next := by rw [← HL.out]
        subst hLs hLn
        clear f0 f1 f2 f3 f4 f5 f6 f7 f8 f9 f10 f11 f12 HL C0 C1
        by_cases hk0 : k = 0
        · have hd0 : decide (0 < k) = false := by simp; omega
          have hp : prevS L.sent k = 0 := by rw [hk0, prevS_zero]
          have HP := Lib.hid hp
          clear hp hk0
          rcases or6 (decide (L.sent[k].frame.seq < 1)) (decide (L.next < L.sent[k].frame.seq)) (decide (L.sent[k].tries < 1)) (decide (5 < L.sent[k].tries)) (decide (L.sent[k].due < 0)) (decide (2199023255552 < L.sent[k].due)) with d | ⟨d0, d⟩ | ⟨d0, d1, d⟩ | ⟨d0, d1, d2, d⟩ | ⟨d0, d1, d2, d3, d⟩ | ⟨d0, d1, d2, d3, d4, d⟩ | ⟨d0, d1, d2, d3, d4, d⟩
          case inr.inr.inr.inr.inr.inr =>
            have HG := line_go hlt hI (by unfold sentOk; rw [HP.out]; simp at *; omega)
            go_quiet (fail)
            go_wp2
            go_roundw
            case rel => exact ⟨k + 1, by omega, by go_num, hB5.drewN _, HG⟩
            case measure => simp [intOf]; omega
          all_goals
            have HE := Lib.hid (line_bad hlt hI (by unfold sentOk; rw [HP.out]; simp at *; omega))
            go_quiet (fail)
            go_wp2
            go_ret
            exact ⟨by rw [HE.out]; rfl, hb0.trans ((hB5.drewN _).mono (by omega))⟩
        · have hd0 : decide (0 < k) = true := by simp; omega
          have hk1 : 0 < k := by omega
          have hp : prevS L.sent k = L.sent[k - 1].frame.seq := by simp [prevS, hk1, hk]
          have HP := Lib.hid hp
          obtain ⟨b', o', _, _, _, _, _, _, hbo, hb', _, _, _, g2, _⟩ := SlR.sent_at (SentR.below hR0 hB5) (k - 1) (by omega)
          simp only [Option.some.injEq, Addr.mk.injEq, and_true] at hbo
          obtain ⟨rfl, rfl⟩ := hbo
          clear hp hk0
          rcases or7 (decide (L.sent[k].frame.seq < 1)) (decide (L.next < L.sent[k].frame.seq)) (decide (L.sent[k].frame.seq ≤ L.sent[k - 1].frame.seq)) (decide (L.sent[k].tries < 1)) (decide (5 < L.sent[k].tries)) (decide (L.sent[k].due < 0)) (decide (2199023255552 < L.sent[k].due)) with d | ⟨d0, d⟩ | ⟨d0, d1, d⟩ | ⟨d0, d1, d2, d⟩ | ⟨d0, d1, d2, d3, d⟩ | ⟨d0, d1, d2, d3, d4, d⟩ | ⟨d0, d1, d2, d3, d4, d5, d⟩ | ⟨d0, d1, d2, d3, d4, d5, d⟩
          case inr.inr.inr.inr.inr.inr.inr =>
            have HG := line_go hlt hI (by unfold sentOk; rw [HP.out]; simp at *; omega)
            go_quiet (fail)
            go_wp2
            go_roundw
            case rel => exact ⟨k + 1, by omega, by go_num, hB5.drewN _, HG⟩
            case measure => simp [intOf]; omega
          all_goals
            have HE := Lib.hid (line_bad hlt hI (by unfold sentOk; rw [HP.out]; simp at *; omega))
            go_quiet (fail)
            go_wp2
            go_ret
            exact ⟨by rw [HE.out]; rfl, hb0.trans ((hB5.drewN _).mono (by omega))⟩
      · go_wp2
        go_ret
        have e : lineOk L = true := by
          unfold lineOk
          rw [hI.out, List.drop_of_length_le (by rw [← HL.out]; simp; omega)]
          rw [if_pos (by rw [← HL.out]; exact HH.out)]
          rfl
        exact ⟨by rw [e]; rfl, hb0.trans (hB.mono (by omega))⟩
  all_goals
    have hbad : lineOk L = false := by
      rw [← HL.out]
      unfold lineOk headOk
      rw [if_neg (by simp at *; omega)]
    have HE := Lib.hid hbad
    clear hbad
    go_enter Try.func73, Try.ntmps73
    go_wp2
    go_ret
    exact ⟨by rw [HE.out]; rfl, (Below.refl _ _).alloc (Nat.le_refl _) _⟩

end Go.Proofs.Ytikfjmcgoamdlaa
