/- Walks and plain laws that the claim rests on, part 4. -/
import Derived.Test.YtemjnojfhbbapaaP1
import Derived.Test.YtemjnojfhbbapaaProg
import Derived.Laws.StructEq
import Derived.ChangeKeysEq
import Derived.Deep.QuietTactic
set_option linter.unusedSimpArgs false
set_option linter.unusedVariables false
/- The walks through the library's functions on slices. -/
namespace Go.Proofs.Ytemjnojfhbbapaa
open Go.RowKit

theorem info_Level : (Try.prog.info? 51).map (fun i => (i.zero, i.size, i.bytes)) = some (some (.agg #[.int .i64 0, .int .i64 0]), 2, 16) := by kernel_rfl
theorem info_int : (Try.prog.info? 3).map (fun i => (i.zero, i.size, i.bytes)) = some (some (.int .i64 0), 1, 8) := by kernel_rfl
theorem info_Cert : (Try.prog.info? 39).map (fun i => (i.zero, i.size, i.bytes)) = some (some (.agg #[.int .i64 0, .int .i64 0, .int .i64 0, .int .i64 0]), 4, 32) := by kernel_rfl

end Go.Proofs.Ytemjnojfhbbapaa

/- '==' and '!=' on the program's plain structs. -/
namespace Go.Proofs.Ytemjnojfhbbapaa
open Go.RowKit

theorem eqin_Level (d : Nat) (a b : Lev) (W : World) : (Op.equalIn (d + 2) 51 (.agg #[.int .i64 a.c, .int .i64 a.l]) (.agg #[.int .i64 b.c, .int .i64 b.l])).run Try.prog W = .ok (decide (a = b)) W := by
  have h1 : Try.prog.underlying 51 = some (.struct (Try.prog.fieldsOf 51)) := by kernel_rfl
  have h2 : Try.prog.stoodInHeld 51 = false := by kernel_rfl
  have hU := Try.underlying51
  have hz : ∀ W, (sizeOf 3).run Try.prog W = .ok 1 W := Try.sizeOf3
  have ha : ∀ W, (isAgg 3).run Try.prog W = .ok false W := Try.isAgg3
  have e : ∀ d a b W, (Op.equalIn (d + 1) 3 (.int .i64 a) (.int .i64 b)).run Try.prog W = .ok (a == b) W := fun d a b W => run_equalIn_int W d _ _ _ a b Try.underlying3
  rw [run_equalIn_agg W (d + 1) _ _ _ h1 h2]
  obtain ⟨x, y⟩ := a
  obtain ⟨x', y'⟩ := b
  simp [Program.fieldsOf, hU, Op.eqFields, part, ha, hz, e _ _ _ W, Result.andThen]
  by_cases e1 : x = x' <;> by_cases e2 : y = y' <;> simp [e1, e2]

theorem eqin_Cert (d : Nat) (a b : Cert) (W : World) : (Op.equalIn (d + 2) 39 (.agg #[.int .i64 a.c, .int .i64 a.by_, .int .i64 a.host, .int .i64 a.till]) (.agg #[.int .i64 b.c, .int .i64 b.by_, .int .i64 b.host, .int .i64 b.till])).run Try.prog W = .ok (decide (a = b)) W := by
  have h1 : Try.prog.underlying 39 = some (.struct (Try.prog.fieldsOf 39)) := by kernel_rfl
  have h2 : Try.prog.stoodInHeld 39 = false := by kernel_rfl
  have hU := Try.underlying39
  have hz : ∀ W, (sizeOf 3).run Try.prog W = .ok 1 W := Try.sizeOf3
  have ha : ∀ W, (isAgg 3).run Try.prog W = .ok false W := Try.isAgg3
  have e : ∀ d a b W, (Op.equalIn (d + 1) 3 (.int .i64 a) (.int .i64 b)).run Try.prog W = .ok (a == b) W := fun d a b W => run_equalIn_int W d _ _ _ a b Try.underlying3
  rw [run_equalIn_agg W (d + 1) _ _ _ h1 h2]
  obtain ⟨x, y, z, u⟩ := a
  obtain ⟨x', y', z', u'⟩ := b
  simp [Program.fieldsOf, hU, Op.eqFields, part, ha, hz, e _ _ _ W, Result.andThen]
  by_cases e1 : x = x' <;> by_cases e2 : y = y' <;> by_cases e3 : z = z' <;> by_cases e4 : u = u' <;> simp [e1, e2, e3, e4]

theorem neq_Level (a b : Lev) (r : Bool) (h : decide (a = b) = r) (W : World) : (binOp .neq 51 (.agg #[.int .i64 a.c, .int .i64 a.l]) (.agg #[.int .i64 b.c, .int .i64 b.l])).run Try.prog W = .ok (.bool (!r)) W := by
  rw [run_neq_struct, eqin_Level 9998 a b W, h]
  rfl

theorem eql_Level (a b : Lev) (r : Bool) (h : decide (a = b) = r) (W : World) : (binOp .eql 51 (.agg #[.int .i64 a.c, .int .i64 a.l]) (.agg #[.int .i64 b.c, .int .i64 b.l])).run Try.prog W = .ok (.bool r) W := by
  rw [run_eql_struct, eqin_Level 9998 a b W, h]
  rfl

theorem guard_Level (op : BinOp) (x y : Operand) (xs ys : Array Value) (W : World) : (eqGuard op 51 x y (.agg xs) (.agg ys)).run Try.prog W = .ok () W := run_eqGuard_agg W op _ x y xs ys (by kernel_rfl)

theorem neq_Cert (a b : Cert) (r : Bool) (h : decide (a = b) = r) (W : World) : (binOp .neq 39 (.agg #[.int .i64 a.c, .int .i64 a.by_, .int .i64 a.host, .int .i64 a.till]) (.agg #[.int .i64 b.c, .int .i64 b.by_, .int .i64 b.host, .int .i64 b.till])).run Try.prog W = .ok (.bool (!r)) W := by
  rw [run_neq_struct, eqin_Cert 9998 a b W, h]
  rfl

theorem eql_Cert (a b : Cert) (r : Bool) (h : decide (a = b) = r) (W : World) : (binOp .eql 39 (.agg #[.int .i64 a.c, .int .i64 a.by_, .int .i64 a.host, .int .i64 a.till]) (.agg #[.int .i64 b.c, .int .i64 b.by_, .int .i64 b.host, .int .i64 b.till])).run Try.prog W = .ok (.bool r) W := by
  rw [run_eql_struct, eqin_Cert 9998 a b W, h]
  rfl

theorem guard_Cert (op : BinOp) (x y : Operand) (xs ys : Array Value) (W : World) : (eqGuard op 39 x y (.agg xs) (.agg ys)).run Try.prog W = .ok () W := run_eqGuard_agg W op _ x y xs ys (by kernel_rfl)

end Go.Proofs.Ytemjnojfhbbapaa

/- The walks through the references' comparisons of lists. -/
namespace Go.Proofs.Ytemjnojfhbbapaa
open Go.RowKit

theorem take_ne {α : Type} {a b : List α} {k : Nat} (ha : k < a.length) (hb : k < b.length) (h : a[k] ≠ b[k]) : a ≠ b := by
  rintro rfl
  exact h rfl

theorem take_eq_succ {α : Type} {a b : List α} {k : Nat} (ha : k < a.length) (hb : k < b.length) (h : a.take k = b.take k) (e : a[k] = b[k]) : a.take (k + 1) = b.take (k + 1) := by
  rw [List.take_succ_eq_append_getElem ha, List.take_succ_eq_append_getElem hb, h, e]

set_option maxHeartbeats 1000000 in
theorem ref_SameLabel (ok ok' : Nat → Prop) (w : World) (la : Option Addr) (lc : Nat) (ma : Option Addr) (mc : Nat) (a b : List Lev) (hA : SlR ok w 2 RLev la lc a) (hB : SlR ok' w 2 RLev ma mc b) :
    Calls Try.prog 42 #[.slice la a.length lc, .slice ma b.length mc] w fun e w' => e = .returned (.bool (decide (a = b))) ∧ Below w.heap.size w w' := by
  have hl : a.length ≤ 9223372036854775807 := by have h1 := hA.1; have h2 := hA.2.1; unfold maxLen at h2; omega
  have hm : b.length ≤ 9223372036854775807 := by have h1 := hB.1; have h2 := hB.2.1; unfold maxLen at h2; omega
  by_cases hn : a.length = b.length
  · have d1 : (((a.length : Nat) : Int) != ((b.length : Nat) : Int)) = false := by rw [hn]; simp
    have HN := Lib.hid hn
    have hlb : a.length ≤ b.length := by omega
    clear hn
    go_enter Try.func42, Try.ntmps42
    go_wp2
    go_loopw [13] (fun i wr => ∃ k : Nat, k ≤ a.length ∧ i = .int .i64 k ∧ Below w.heap.size w wr ∧ Hid (a.take k = b.take k)) (fun i _ => a.length - (intOf i).toNat)
    case atStart => exact ⟨0, Nat.zero_le _, rfl, Below.refl _ _, rfl⟩
    case round =>
      obtain ⟨k, hk, rfl, hBw, hI⟩ := hrel
      by_cases hlt : k < a.length
      · have hlt' : k < b.length := by omega
        obtain ⟨b1, o1, rfl, hb1, f1, f2⟩ := (hA.below hBw).lev_at k hlt
        obtain ⟨b2, o2, rfl, hb2, g1, g2⟩ := (hB.below hBw).lev_at k hlt'
        cases hd : decide (a[k] = b[k])
        all_goals
          have HD := Lib.hid hd
          have hne := neq_Level a[k] b[k] _ hd; have hgu := guard_Level
          first | (have hni : (a[k] != b[k]) = true := by simpa using hd) | (have hni : (a[k] != b[k]) = false := by simpa using hd) | skip
          clear hd
          go_wp2
          go_quiet (fail)
          go_wp2
        · go_ret
          have e : decide (a = b) = false := by simpa using take_ne hlt hlt' (by simpa using HD.out)
          exact ⟨by rw [e]; rfl, hBw.drewN _⟩
        · have HI := Lib.hid (take_eq_succ hlt hlt' hI.out (by simpa using HD.out))
          go_roundw
          case rel => exact ⟨k + 1, hlt, by go_num, hBw.drewN _, HI⟩
          case measure => simp [intOf]; omega
      · go_wp2
        go_ret
        have e : decide (a = b) = true := by
          have := hI.out
          rw [List.take_of_length_le (by omega), List.take_of_length_le (by have := HN.out; omega)] at this
          simpa using this
        exact ⟨by rw [e]; rfl, hBw⟩
  · have d1 : (((a.length : Nat) : Int) != ((b.length : Nat) : Int)) = true := by simp; omega
    have e : decide (a = b) = false := by simpa using fun e => hn (by rw [e])
    have HE := Lib.hid e
    clear e hn
    go_enter Try.func42, Try.ntmps42
    go_wp2
    go_ret
    exact ⟨by rw [HE.out]; rfl, Below.refl _ _⟩

set_option maxHeartbeats 1000000 in
theorem ref_SameCerts (ok ok' : Nat → Prop) (w : World) (la : Option Addr) (lc : Nat) (ma : Option Addr) (mc : Nat) (a b : List Cert) (hA : SlR ok w 4 RCert la lc a) (hB : SlR ok' w 4 RCert ma mc b) :
    Calls Try.prog 40 #[.slice la a.length lc, .slice ma b.length mc] w fun e w' => e = .returned (.bool (decide (a = b))) ∧ Below w.heap.size w w' := by
  have hl : a.length ≤ 9223372036854775807 := by have h1 := hA.1; have h2 := hA.2.1; unfold maxLen at h2; omega
  have hm : b.length ≤ 9223372036854775807 := by have h1 := hB.1; have h2 := hB.2.1; unfold maxLen at h2; omega
  by_cases hn : a.length = b.length
  · have d1 : (((a.length : Nat) : Int) != ((b.length : Nat) : Int)) = false := by rw [hn]; simp
    have HN := Lib.hid hn
    have hlb : a.length ≤ b.length := by omega
    clear hn
    go_enter Try.func40, Try.ntmps40
    go_wp2
    go_loopw [13] (fun i wr => ∃ k : Nat, k ≤ a.length ∧ i = .int .i64 k ∧ Below w.heap.size w wr ∧ Hid (a.take k = b.take k)) (fun i _ => a.length - (intOf i).toNat)
    case atStart => exact ⟨0, Nat.zero_le _, rfl, Below.refl _ _, rfl⟩
    case round =>
      obtain ⟨k, hk, rfl, hBw, hI⟩ := hrel
      by_cases hlt : k < a.length
      · have hlt' : k < b.length := by omega
        obtain ⟨b1, o1, rfl, hb1, f1, f2, f3, f4⟩ := (hA.below hBw).cert_at k hlt
        obtain ⟨b2, o2, rfl, hb2, g1, g2, g3, g4⟩ := (hB.below hBw).cert_at k hlt'
        cases hd : decide (a[k] = b[k])
        all_goals
          have HD := Lib.hid hd
          have hne := neq_Cert a[k] b[k] _ hd; have hgu := guard_Cert
          first | (have hni : (a[k] != b[k]) = true := by simpa using hd) | (have hni : (a[k] != b[k]) = false := by simpa using hd) | skip
          clear hd
          go_wp2
          go_quiet (fail)
          go_wp2
        · go_ret
          have e : decide (a = b) = false := by simpa using take_ne hlt hlt' (by simpa using HD.out)
          exact ⟨by rw [e]; rfl, hBw.drewN _⟩
        · have HI := Lib.hid (take_eq_succ hlt hlt' hI.out (by simpa using HD.out))
          go_roundw
          case rel => exact ⟨k + 1, hlt, by go_num, hBw.drewN _, HI⟩
          case measure => simp [intOf]; omega
      · go_wp2
        go_ret
        have e : decide (a = b) = true := by
          have := hI.out
          rw [List.take_of_length_le (by omega), List.take_of_length_le (by have := HN.out; omega)] at this
          simpa using this
        exact ⟨by rw [e]; rfl, hBw⟩
  · have d1 : (((a.length : Nat) : Int) != ((b.length : Nat) : Int)) = true := by simp; omega
    have e : decide (a = b) = false := by simpa using fun e => hn (by rw [e])
    have HE := Lib.hid e
    clear e hn
    go_enter Try.func40, Try.ntmps40
    go_wp2
    go_ret
    exact ⟨by rw [HE.out]; rfl, Below.refl _ _⟩

set_option maxHeartbeats 1000000 in
theorem ref_SameNumbers (ok ok' : Nat → Prop) (w : World) (la : Option Addr) (lc : Nat) (ma : Option Addr) (mc : Nat) (a b : List Int) (hA : SlR ok w 1 RInt la lc a) (hB : SlR ok' w 1 RInt ma mc b) :
    Calls Try.prog 43 #[.slice la a.length lc, .slice ma b.length mc] w fun e w' => e = .returned (.bool (decide (a = b))) ∧ Below w.heap.size w w' := by
  have hl : a.length ≤ 9223372036854775807 := by have h1 := hA.1; have h2 := hA.2.1; unfold maxLen at h2; omega
  have hm : b.length ≤ 9223372036854775807 := by have h1 := hB.1; have h2 := hB.2.1; unfold maxLen at h2; omega
  by_cases hn : a.length = b.length
  · have d1 : (((a.length : Nat) : Int) != ((b.length : Nat) : Int)) = false := by rw [hn]; simp
    have HN := Lib.hid hn
    have hlb : a.length ≤ b.length := by omega
    clear hn
    go_enter Try.func43, Try.ntmps43
    go_wp2
    go_loopw [13] (fun i wr => ∃ k : Nat, k ≤ a.length ∧ i = .int .i64 k ∧ Below w.heap.size w wr ∧ Hid (a.take k = b.take k)) (fun i _ => a.length - (intOf i).toNat)
    case atStart => exact ⟨0, Nat.zero_le _, rfl, Below.refl _ _, rfl⟩
    case round =>
      obtain ⟨k, hk, rfl, hBw, hI⟩ := hrel
      by_cases hlt : k < a.length
      · have hlt' : k < b.length := by omega
        obtain ⟨b1, o1, rfl, hb1, f1⟩ := (hA.below hBw).int_at k hlt
        obtain ⟨b2, o2, rfl, hb2, g1⟩ := (hB.below hBw).int_at k hlt'
        cases hd : decide (a[k] = b[k])
        all_goals
          have HD := Lib.hid hd
          skip
          first | (have hni : (a[k] != b[k]) = true := by simpa using hd) | (have hni : (a[k] != b[k]) = false := by simpa using hd) | skip
          clear hd
          go_wp2
          go_quiet (fail)
          go_wp2
        · go_ret
          have e : decide (a = b) = false := by simpa using take_ne hlt hlt' (by simpa using HD.out)
          exact ⟨by rw [e]; rfl, hBw.drewN _⟩
        · have HI := Lib.hid (take_eq_succ hlt hlt' hI.out (by simpa using HD.out))
          go_roundw
          case rel => exact ⟨k + 1, hlt, by go_num, hBw.drewN _, HI⟩
          case measure => simp [intOf]; omega
      · go_wp2
        go_ret
        have e : decide (a = b) = true := by
          have := hI.out
          rw [List.take_of_length_le (by omega), List.take_of_length_le (by have := HN.out; omega)] at this
          simpa using this
        exact ⟨by rw [e]; rfl, hBw⟩
  · have d1 : (((a.length : Nat) : Int) != ((b.length : Nat) : Int)) = true := by simp; omega
    have e : decide (a = b) = false := by simpa using fun e => hn (by rw [e])
    have HE := Lib.hid e
    clear e hn
    go_enter Try.func43, Try.ntmps43
    go_wp2
    go_ret
    exact ⟨by rw [HE.out]; rfl, Below.refl _ _⟩

end Go.Proofs.Ytemjnojfhbbapaa

/- The walks through line.Good. -/
namespace Go.Proofs.Ytemjnojfhbbapaa
open Go.RowKit

def sentOk (next prev : Int) (s : Sent) : Bool := decide (1 ≤ s.frame.seq ∧ prev < s.frame.seq ∧ s.frame.seq ≤ next ∧ 1 ≤ s.tries ∧ s.tries ≤ 5 ∧ 0 ≤ s.due ∧ s.due ≤ 2199023255552)

def sentsOk (next : Int) : Int → List Sent → Bool
  | _, [] => true
  | p, s :: l => if sentOk next p s = true then sentsOk next s.frame.seq l else false

def headOk (next high : Int) (n : Nat) : Bool := decide (0 ≤ next ∧ next ≤ 1099511627775 ∧ 0 ≤ high ∧ high ≤ 1099511627776 ∧ n ≤ 8)

def lineOk (l : Line) : Bool := if headOk l.next l.high l.sent.length = true then sentsOk l.next 0 l.sent else false

/-- The number of the frame ahead of the k-th. -/
def prevS (l : List Sent) (k : Nat) : Int := if h : 0 < k ∧ k ≤ l.length then (l[k - 1]'(by omega)).frame.seq else 0
theorem prevS_zero (l : List Sent) : prevS l 0 = 0 := by simp [prevS]
theorem prevS_succ (l : List Sent) (k : Nat) (h : k < l.length) : prevS l (k + 1) = l[k].frame.seq := by
  unfold prevS
  rw [dif_pos ⟨by omega, by omega⟩]
  simp
theorem sentsOk_step (next : Int) (l : List Sent) (k : Nat) (h : k < l.length) : sentsOk next (prevS l k) (l.drop k) = (if sentOk next (prevS l k) l[k] = true then sentsOk next (prevS l (k + 1)) (l.drop (k + 1)) else false) := by
  rw [List.drop_eq_getElem_cons h, sentsOk, prevS_succ l k h]

theorem line_bad {L : Line} {k : Nat} (h : k < L.sent.length) (hI : Hid (sentsOk L.next 0 L.sent = sentsOk L.next (prevS L.sent k) (L.sent.drop k))) (hb : sentOk L.next (prevS L.sent k) L.sent[k] = false) : lineOk L = false := by
  have e : sentsOk L.next 0 L.sent = false := by rw [hI.out, sentsOk_step _ _ k h, if_neg (by rw [hb]; simp)]
  unfold lineOk
  rw [e]
  split <;> rfl
theorem line_go {L : Line} {k : Nat} (h : k < L.sent.length) (hI : Hid (sentsOk L.next 0 L.sent = sentsOk L.next (prevS L.sent k) (L.sent.drop k))) (hb : sentOk L.next (prevS L.sent k) L.sent[k] = true) : Hid (sentsOk L.next 0 L.sent = sentsOk L.next (prevS L.sent (k + 1)) (L.sent.drop (k + 1))) := by
  show _ = _
  rw [hI.out, sentsOk_step _ _ k h, if_pos hb]

/-- A line, as a value. -/
def lineV (next high : Int) (sa : Option Addr) (n sc : Nat) (e : Eight) : Value := .agg #[.int .i64 next, .slice sa n sc, .int .i64 high, .bool e.s0, .bool e.s1, .bool e.s2, .bool e.s3, .bool e.s4, .bool e.s5, .bool e.s6, .bool e.s7]

end Go.Proofs.Ytemjnojfhbbapaa

/- The walks through label.Category and At. -/
namespace Go.Proofs.Ytemjnojfhbbapaa
open Go.RowKit

set_option maxHeartbeats 400000 in
theorem label_Category (c : Int) (w : World) : Calls Try.prog 34 #[.int .i64 c] w fun e w' => e = .returned (.bool (decide (0 ≤ c ∧ c < 80))) ∧ w = w' := by
  by_cases h1 : 0 ≤ c <;> by_cases h2 : c < 80
  all_goals
    go_enter Try.func34, Try.ntmps34
    go_wp2
    go_ret
    exact ⟨ret_bool (by simp [h1, h2]), rfl⟩

end Go.Proofs.Ytemjnojfhbbapaa

/- The walk through label.Good. -/
namespace Go.Proofs.Ytemjnojfhbbapaa
open Go.RowKit

theorem good_bad {l : List Lev} {k : Nat} (h : k < l.length) (hI : Hid (risesL (-1) l = risesL (prevC l k) (l.drop k))) (hb : ¬ (prevC l k < l[k].c ∧ lvOk l[k] = true)) : goodL l = false := by
  unfold goodL
  rw [hI.out, risesL_step l k h, if_neg hb]
  split <;> rfl

theorem good_go {l : List Lev} {k : Nat} (h : k < l.length) (hI : Hid (risesL (-1) l = risesL (prevC l k) (l.drop k))) (hb : prevC l k < l[k].c ∧ lvOk l[k] = true) : Hid (risesL (-1) l = risesL (prevC l (k + 1)) (l.drop (k + 1))) := by
  show _ = _
  rw [hI.out, risesL_step l k h, if_pos hb]

set_option maxHeartbeats 1600000 in
theorem label_Good (ok : Nat → Prop) (w : World) (la : Option Addr) (lc : Nat) (l : List Lev) (hl : l.length * 16 ≤ 140737488355328) (hR : SlR ok w 2 RLev la lc l) :
    Calls Try.prog 31 #[.slice la l.length lc] w fun e w' => e = .returned (.bool (goodL l)) ∧ Below w.heap.size w w' := by
  by_cases h8 : l.length ≤ 8
  case neg =>
    have e : goodL l = false := by rw [goodL, if_neg h8]
    have HE := Lib.hid e
    clear e
    go_enter Try.func31, Try.ntmps31
    go_wp2
    go_ret
    exact ⟨by rw [HE.out]; rfl, Below.refl _ _⟩
  case pos =>
    go_enter Try.func31, Try.ntmps31
    go_wp2
    go_loopw [10] (fun i wr => ∃ k : Nat, k ≤ l.length ∧ i = .int .i64 k ∧ Below w.heap.size w wr ∧ Hid (risesL (-1) l = risesL (prevC l k) (l.drop k))) (fun i _ => l.length - (intOf i).toNat)
    case atStart => exact ⟨0, Nat.zero_le _, rfl, Below.refl _ _, by rw [prevC_zero]; rfl⟩
    case round =>
      obtain ⟨k, hk, rfl, hB, hI⟩ := hrel
      by_cases hlt : k < l.length
      · obtain ⟨b, o, rfl, hb, h1, h2⟩ := (hR.below hB).lev_at k hlt
        have hbs := hB.size
        have hB' := hB.alloc hbs (.cells #[.int .i64 l[k].c, .int .i64 l[k].l] 51)
        go_wp2_with fail
        by_cases hcat : 0 ≤ l[k].c ∧ l[k].c < 80
        case neg =>
          have HE := Lib.hid (good_bad hlt hI fun h => hcat (by have := h.2; simp [lvOk] at this; exact ⟨this.1, this.2.1⟩))
          have hd : decide (0 ≤ l[k].c ∧ l[k].c < 80) = false := by simpa using hcat
          have HC := Lib.hid (fun W : World => show Calls Try.prog 34 #[.int .i64 l[k].c] W fun e w' => e = .returned (.bool false) ∧ w' = W from (label_Category l[k].c W).mono fun _ _ h => ⟨by rw [h.1, hd], h.2.symm⟩)
          clear hd hcat
          go_quiet ((go_at_call 34; exact Calls.quiet_of_same (HC.out _)))
          go_wp2
          go_ret
          exact ⟨by rw [HE.out]; rfl, hB'.drewN _⟩
        case pos =>
          have HCAT := Lib.hid hcat
          have hd : decide (0 ≤ l[k].c ∧ l[k].c < 80) = true := by simpa using hcat
          have HC := Lib.hid (fun W : World => show Calls Try.prog 34 #[.int .i64 l[k].c] W fun e w' => e = .returned (.bool true) ∧ w' = W from (label_Category l[k].c W).mono fun _ _ h => ⟨by rw [h.1, hd], h.2.symm⟩)
          clear hd hcat
          by_cases hbad : l[k].l < 0 ∨ 3 < l[k].l ∨ l[k].l = 1
          · have HE := Lib.hid (good_bad hlt hI fun h => by have := h.2; simp only [lvOk, decide_eq_true_eq] at this; omega)
            rcases (show l[k].l < 0 ∨ (0 ≤ l[k].l ∧ 3 < l[k].l) ∨ (0 ≤ l[k].l ∧ l[k].l ≤ 3 ∧ l[k].l = 1) by omega) with h3 | h3 | h3
            · clear hbad
              go_quiet ((go_at_call 34; exact Calls.quiet_of_same (HC.out _)))
              go_wp2
              go_ret
              exact ⟨by rw [HE.out]; rfl, hB'.drewN _⟩
            · clear hbad
              obtain ⟨h4, h5⟩ := h3
              have d1 : decide (l[k].l < 0) = false := by simp; omega
              have d2 : decide (3 < l[k].l) = true := by simp; omega
              go_quiet ((go_at_call 34; exact Calls.quiet_of_same (HC.out _)))
              go_wp2
              go_ret
              exact ⟨by rw [HE.out]; rfl, hB'.drewN _⟩
            · clear hbad
              obtain ⟨h4, h5, h6⟩ := h3
              have h7 : (l[k].l == 1) = true := by simpa using h6
              have d1 : decide (l[k].l < 0) = false := by simp; omega
              have d2 : decide (3 < l[k].l) = false := by simp; omega
              clear h6
              go_quiet ((go_at_call 34; exact Calls.quiet_of_same (HC.out _)))
              go_wp2
              go_ret
              exact ⟨by rw [HE.out]; rfl, hB'.drewN _⟩
          · have h4 : 0 ≤ l[k].l := by omega
            have h5 : l[k].l ≤ 3 := by omega
            have h7 : (l[k].l == 1) = false := by simpa using (show ¬ l[k].l = 1 by omega)
            have d1 : decide (l[k].l < 0) = false := by simp; omega
            have d2 : decide (3 < l[k].l) = false := by simp; omega
            have HOK := Lib.hid (show lvOk l[k] = true by simp only [lvOk, decide_eq_true_eq]; have := HCAT.out; omega)
            clear hbad
            by_cases hk0 : k = 0
            · subst hk0
              have HG := good_go hlt hI ⟨by rw [prevC_zero]; have := HCAT.out; omega, HOK.out⟩
              go_quiet ((go_at_call 34; exact Calls.quiet_of_same (HC.out _)))
              go_wp2
              go_roundw
              case rel => exact ⟨1, by omega, by go_num, hB'.drewN _, HG⟩
              case measure => simp [intOf]; omega
            · have hk1 : 0 < k := by omega
              obtain ⟨b', o', hbo, hb', g1, g2⟩ := (hR.below hB).lev_at (k - 1) (by omega)
              simp only [Option.some.injEq, Addr.mk.injEq, and_true] at hbo
              obtain ⟨rfl, rfl⟩ := hbo
              have hp : prevC l k = l[k - 1].c := by simp [prevC, hk1, hk]
              have HP := Lib.hid hp
              have d3 : decide ((0 : Int) < (k : Int)) = true := by simp; omega
              clear hp hk0
              by_cases hpc : l[k - 1].c < l[k].c
              · have HG := good_go hlt hI ⟨by rw [HP.out]; exact hpc, HOK.out⟩
                have d4 : decide (l[k].c ≤ l[k - 1].c) = false := by simp; omega
                go_quiet ((go_at_call 34; exact Calls.quiet_of_same (HC.out _)))
                go_wp2
                go_roundw
                case rel => exact ⟨k + 1, by omega, by go_num, hB'.drewN _, HG⟩
                case measure => simp [intOf]; omega
              · have HE := Lib.hid (good_bad hlt hI fun h => hpc (by rw [← HP.out]; exact h.1))
                have hpc' : l[k].c ≤ l[k - 1].c := by omega
                have d4 : decide (l[k].c ≤ l[k - 1].c) = true := by simp; omega
                clear hpc
                go_quiet ((go_at_call 34; exact Calls.quiet_of_same (HC.out _)))
                go_wp2
                go_ret
                exact ⟨by rw [HE.out]; rfl, hB'.drewN _⟩
      · go_wp2
        go_ret
        have e : goodL l = true := by rw [goodL, if_pos h8, hI.out, List.drop_of_length_le (by omega)]; rfl
        exact ⟨by rw [e]; rfl, hB⟩

end Go.Proofs.Ytemjnojfhbbapaa

/- The walk through the reference's word on good lines. -/
namespace Go.Proofs.Ytemjnojfhbbapaa
open Go.RowKit

end Go.Proofs.Ytemjnojfhbbapaa

/- The walk through line.Take. -/
namespace Go.Proofs.Ytemjnojfhbbapaa
open Go.RowKit

def Eight.get (e : Eight) : Nat → Bool
  | 0 => e.s0
  | 1 => e.s1
  | 2 => e.s2
  | 3 => e.s3
  | 4 => e.s4
  | 5 => e.s5
  | 6 => e.s6
  | 7 => e.s7
  | _ => false

def Eight.of (f : Nat → Bool) : Eight := ⟨f 0, f 1, f 2, f 3, f 4, f 5, f 6, f 7⟩
def Eight.yes (e : Eight) (k : Nat) : Eight := Eight.of fun j => if j = k then true else e.get j

/-- What a coming number makes of a line: the greatest number, what was seen, the code. -/
def takeC (good : Bool) (high seq : Int) (e : Eight) : Int × Eight × Int :=
  if good = false ∨ seq < 1 ∨ 1099511627776 < seq then (high, e, 2)
  else if seq ≤ high - 8 then (high, e, 11)
  else if seq ≤ high then (if e.get (high - seq).toNat = true then (high, e, 10) else (high, e.yes (high - seq).toNat, 0))
  else (seq, Eight.of fun j => if j = 0 then true else if seq - high ≤ j then e.get (j - (seq - high).toNat) else false, 0)

theorem lineOk_high {next high : Int} {sent : List Sent} {e : Eight} (h : lineOk ⟨next, sent, high, e⟩ = true) : 0 ≤ next ∧ next ≤ 1099511627775 ∧ 0 ≤ high ∧ high ≤ 1099511627776 ∧ sent.length ≤ 8 := by
  unfold lineOk at h
  by_cases hh : headOk next high sent.length = true
  · simpa [headOk] using hh
  · rw [if_neg hh] at h; simp at h

end Go.Proofs.Ytemjnojfhbbapaa

/- The walks through parcloseref.IsCategory and four. -/
namespace Go.Proofs.Ytemjnojfhbbapaa
open Go.RowKit

theorem ref_IsCategory (c : Int) (w : World) : Calls Try.prog 35 #[.int .i64 c] w fun e w' => e = .returned (.bool (catOk c)) ∧ w = w' := by
  by_cases h1 : 0 ≤ c <;> by_cases h2 : c ≤ 79
  all_goals
    go_enter Try.func35, Try.ntmps35
    go_wp2
    go_ret
    exact ⟨ret_bool (by rw [Bool.eq_iff_iff, catOk_iff]; simp; omega), rfl⟩

theorem ref_four (h : Int) (w : World) : Calls Try.prog 29 #[.int .i64 h] w fun e w' => e = .returned (.bool (four h)) ∧ w = w' := by
  by_cases h1 : 0 ≤ h <;> by_cases h2 : h < 4
  all_goals
    go_enter Try.func29, Try.ntmps29
    go_wp2
    go_ret
    exact ⟨ret_bool (by simp [four, h1, h2]), rfl⟩

end Go.Proofs.Ytemjnojfhbbapaa
