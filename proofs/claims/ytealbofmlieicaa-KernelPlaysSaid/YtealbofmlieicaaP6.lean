/- Walks and plain laws, part 6. -/
import Derived.Test.YtealbofmlieicaaProg
import Derived.Test.YtealbofmlieicaaP2
import Derived.Laws.StructEq
import Derived.ChangeKeysEq
import Derived.Deep.QuietTactic
set_option linter.unusedSimpArgs false
set_option linter.unusedVariables false
set_option maxHeartbeats 16000000
set_option maxRecDepth 100000
namespace Go.Proofs.Ytealbofmlieicaa
open Go.RowKit
def sentOk (next prev : Int) (s : Sent) : Bool := decide (1 ≤ s.frame.seq ∧ prev < s.frame.seq ∧ s.frame.seq ≤ next ∧ 1 ≤ s.tries ∧ s.tries ≤ 5 ∧ 0 ≤ s.due ∧ s.due ≤ 2199023255552)
def sentsOk (next : Int) : Int → List Sent → Bool
 | _, [] => true
 | p, s :: l => if sentOk next p s = true then sentsOk next s.frame.seq l else false
def headOk (next high : Int) (n : Nat) : Bool := decide (0 ≤ next ∧ next ≤ 1099511627775 ∧ 0 ≤ high ∧ high ≤ 1099511627776 ∧ n ≤ 8)
def lineOk (l : Line) : Bool := if headOk l.next l.high l.sent.length = true then sentsOk l.next 0 l.sent else false
def prevS (l : List Sent) (k : Nat) : Int := if h : 0 < k ∧ k ≤ l.length then (l[k - 1]'(by omega)).frame.seq else 0
def lineV (next high : Int) (sa : Option Addr) (n sc : Nat) (e : Eight) : Value := .agg #[.int .i64 next, .slice sa n sc, .int .i64 high, .bool e.s0, .bool e.s1, .bool e.s2, .bool e.s3, .bool e.s4, .bool e.s5, .bool e.s6, .bool e.s7]
def Eight.get (e : Eight) : Nat → Bool
 | 0 => e.s0
 | 1 => e.s1
 | 2 => e.s2
 | 3 => e.s3
 | 4 => e.s4
 | 5 => e.s5
 | 6 => e.s6
 | 7 => e.s7
 | _ => false
def Eight.of (f : Nat → Bool) : Eight := ⟨f 0, f 1, f 2, f 3, f 4, f 5, f 6, f 7⟩
def Eight.yes (e : Eight) (k : Nat) : Eight := Eight.of fun j => if j = k then true else e.get j
def takeC (good : Bool) (high seq : Int) (e : Eight) : Int × Eight × Int :=
 if good = false ∨ seq < 1 ∨ 1099511627776 < seq then (high, e, 2)
 else if seq ≤ high - 8 then (high, e, 11)
 else if seq ≤ high then (if e.get (high - seq).toNat = true then (high, e, 10) else (high, e.yes (high - seq).toNat, 0))
 else (seq, Eight.of fun j => if j = 0 then true else if seq - high ≤ j then e.get (j - (seq - high).toNat) else false, 0)
theorem info_Level : (Try.prog.info? 88).map (fun i => (i.zero, i.size, i.bytes)) = some (some (.agg #[.int .i64 0, .int .i64 0]), 2, 16) := by kernel_rfl
theorem info_int : (Try.prog.info? 3).map (fun i => (i.zero, i.size, i.bytes)) = some (some (.int .i64 0), 1, 8) := by kernel_rfl
theorem slices_Index_int (ok : Nat → Prop) (w : World) (a : Option Addr) (c : Nat) (l : List Int) (v : Int) (hl : l.length ≤ 4611686018427387903) (hR : SlR ok w 1 RInt a c l) :
  Calls Try.prog 46 #[.slice a l.length c, .int .i64 v] w fun e w' => Says e (inL l v) ∧ w = w' := by
 go_enter Try.func46, Try.ntmps46
 go_wp2
 go_loop [8] (fun i => ∃ k : Nat, k ≤ l.length ∧ i = .int .i64 k ∧ Hid (inL l v = inL (l.drop k) v)) (fun i => l.length - (intOf i).toNat)
 case atStart => exact ⟨0, Nat.zero_le _, rfl, rfl⟩
 case round =>
  obtain ⟨k, hk, rfl, hI⟩ := hrel
  by_cases hlt : k < l.length
  ·obtain ⟨b, o, rfl, hb, h1⟩ := hR.int_at k hlt
   go_wp2
   ·have hc : (v == l[k]) = true := by assumption
    go_ret
    have e : inL l v = true := by rw [hI.out, inL_hit hlt (by simpa using hc)]
    exact ⟨⟨k, rfl, by simp, by simp [e]⟩, rfl⟩
   ·have hc : (v == l[k]) = false := by assumption
    go_round
    case rel => exact ⟨k + 1, hlt, by go_num, by rw [hI.out, inL_pass hlt (by simpa using hc)]; rfl⟩
    case measure => simp [intOf]; omega
  ·go_wp2
   go_ret
   have e : inL l v = false := by rw [hI.out, inL_end hlt]
   exact ⟨⟨-1, rfl, by simp [e], by simp⟩, rfl⟩
theorem slices_Contains_int (ok : Nat → Prop) (w : World) (a : Option Addr) (c : Nat) (l : List Int) (v : Int) (hl : l.length ≤ 4611686018427387903) (hR : SlR ok w 1 RInt a c l) :
  Calls Try.prog 20 #[.slice a l.length c, .int .i64 v] w fun e w' => e = .returned (.bool (inL l v)) ∧ w = w' := by
 cases hb : inL l v
 all_goals
  have HB := qh hb
  clear hb
  go_enter Try.func20, Try.ntmps20
  go_wp2_with fail
  refine (slices_Index_int ok _ _ _ _ _ hl hR).mono ?_
  rintro e w' ⟨⟨n, rfl, h1, h2⟩, rfl⟩
  rw [HB.out] at h1 h2
  simp only [forall_const, reduceCtorEq, false_implies] at h1 h2
  go_wp2
  go_ret
  exact ⟨by first | rfl | (apply ret_bool; simp; omega), rfl⟩
theorem slices_Clone_Label (ok : Nat → Prop) (w : World) (a : Option Addr) (c : Nat) (l : List Lev) (hl : l.length * 16 ≤ 140737488355328) (hR : SlR ok w 2 RLev a c l) :
  Calls Try.prog 57 #[.slice a l.length c] w fun e w' => ∃ a' c', e = .returned (.slice a' l.length c') ∧ Below w.heap.size w w' ∧ Own w.heap.size 88 w' 2 RLev a' c' l := by
 obtain ⟨i0, hi, hz0, hz1, hz2⟩ := info_parts info_Level
 have hcmp := fun (ww : World) (a : Option Addr) (n c : Nat) => Lib.run_eql_slice_nil ww 30 _ a n c 0 0 Try.underlying30
 cases a with
 | none =>
  have h0 := hR.2.2.1 rfl
  have hn := hR.1
  obtain rfl : l = [] := List.eq_nil_of_length_eq_zero (by omega)
  clear hl hR hi hz0 hz1 hz2 h0 hn
  go_enter Try.func57, Try.ntmps57
  go_wp2
  go_ret
  exact ⟨none, 0, rfl, Below.refl _ _, Own.nil _ _ _ _ _⟩
 | some ad =>
  go_enter Try.func57, Try.ntmps57
  go_wp2_with (first | (at_builtin; refine wpList_app rfl _ _ 30 rfl 88 i0 _ 2 16 Try.underlying30 hi hz0 hz1 hz2 rfl (by decide) (base := w.heap.size) rfl rfl (Own.made (Nat.le_refl _)) rfl rfl (hR.below ((Below.refl _ _).alloc (Nat.le_refl _) _)) ?_ ?_ ?_ ?_))
  ·simpa using hl
  ·simp [maxLen]; omega
  ·simp
  ·intro a' c' w' hO hg _
   go_wp2
   go_ret
   exact ⟨a', c', rfl, ((Below.refl _ _).alloc (Nat.le_refl _) _).grown hg (by simp) (by simp), hO⟩

theorem eqin_Level (d : Nat) (a b : Lev) (W : World) : (Op.equalIn (d + 2) 88 (.agg #[.int .i64 a.c, .int .i64 a.l]) (.agg #[.int .i64 b.c, .int .i64 b.l])).run Try.prog W = .ok (decide (a = b)) W := by
 have h1 : Try.prog.underlying 88 = some (.struct (Try.prog.fieldsOf 88)) := by kernel_rfl
 have h2 : Try.prog.stoodInHeld 88 = false := by kernel_rfl
 have hU := Try.underlying88
 have hz : ∀ W, (sizeOf 3).run Try.prog W = .ok 1 W := Try.sizeOf3
 have ha : ∀ W, (isAgg 3).run Try.prog W = .ok false W := Try.isAgg3
 have e : ∀ d a b W, (Op.equalIn (d + 1) 3 (.int .i64 a) (.int .i64 b)).run Try.prog W = .ok (a == b) W := fun d a b W => run_equalIn_int W d _ _ _ a b Try.underlying3
 rw [run_equalIn_agg W (d + 1) _ _ _ h1 h2]
 obtain ⟨x, y⟩ := a
 obtain ⟨x', y'⟩ := b
 simp [Program.fieldsOf, hU, Op.eqFields, part, ha, hz, e _ _ _ W, Result.andThen]
 by_cases e1 : x = x' <;> by_cases e2 : y = y' <;> simp [e1, e2]
theorem neq_Level (a b : Lev) (r : Bool) (h : decide (a = b) = r) (W : World) : (binOp .neq 88 (.agg #[.int .i64 a.c, .int .i64 a.l]) (.agg #[.int .i64 b.c, .int .i64 b.l])).run Try.prog W = .ok (.bool (!r)) W := by
 rw [run_neq_struct, eqin_Level 9998 a b W, h]
 rfl
theorem guard_Level (op : BinOp) (x y : Operand) (xs ys : Array Value) (W : World) : (eqGuard op 88 x y (.agg xs) (.agg ys)).run Try.prog W = .ok () W := run_eqGuard_agg W op _ x y xs ys (by kernel_rfl)
theorem take_ne {α : Type} {a b : List α} {k : Nat} (ha : k < a.length) (hb : k < b.length) (h : a[k] ≠ b[k]) : a ≠ b := by
 rintro rfl
 exact h rfl
theorem take_eq_succ {α : Type} {a b : List α} {k : Nat} (ha : k < a.length) (hb : k < b.length) (h : a.take k = b.take k) (e : a[k] = b[k]) : a.take (k + 1) = b.take (k + 1) := by
 rw [List.take_succ_eq_append_getElem ha, List.take_succ_eq_append_getElem hb, h, e]
theorem ref_SameLabel (ok ok' : Nat → Prop) (w : World) (la : Option Addr) (lc : Nat) (ma : Option Addr) (mc : Nat) (a b : List Lev) (hA : SlR ok w 2 RLev la lc a) (hB : SlR ok' w 2 RLev ma mc b) :
  Calls Try.prog 29 #[.slice la a.length lc, .slice ma b.length mc] w fun e w' => e = .returned (.bool (decide (a = b))) ∧ Below w.heap.size w w' := by
 have hl : a.length ≤ 9223372036854775807 := by have h1 := hA.1; have h2 := hA.2.1; unfold maxLen at h2; omega
 have hm : b.length ≤ 9223372036854775807 := by have h1 := hB.1; have h2 := hB.2.1; unfold maxLen at h2; omega
 by_cases hn : a.length = b.length
 ·have d1 : (((a.length : Nat) : Int) != ((b.length : Nat) : Int)) = false := by rw [hn]; simp
  have HN := qh hn
  have hlb : a.length ≤ b.length := by omega
  clear hn
  go_enter Try.func29, Try.ntmps29
  go_wp2
  go_loopw [13] (fun i wr => ∃ k : Nat, k ≤ a.length ∧ i = .int .i64 k ∧ Below w.heap.size w wr ∧ Hid (a.take k = b.take k)) (fun i _ => a.length - (intOf i).toNat)
  case atStart => exact ⟨0, Nat.zero_le _, rfl, Below.refl _ _, rfl⟩
  case round =>
   obtain ⟨k, hk, rfl, hBw, hI⟩ := hrel
   by_cases hlt : k < a.length
   ·have hlt' : k < b.length := by omega
    obtain ⟨b1, o1, rfl, hb1, f1, f2⟩ := (hA.below hBw).lev_at k hlt
    obtain ⟨b2, o2, rfl, hb2, g1, g2⟩ := (hB.below hBw).lev_at k hlt'
    cases hd : decide (a[k] = b[k])
    all_goals
     have HD := qh hd
     have hne := neq_Level a[k] b[k] _ hd; have hgu := guard_Level
     first | (have hni : (a[k] != b[k]) = true := by simpa using hd) | (have hni : (a[k] != b[k]) = false := by simpa using hd) | skip
     clear hd
     go_wp2
     go_quiet (fail)
     go_wp2
    ·go_ret
     have e : decide (a = b) = false := by simpa using take_ne hlt hlt' (by simpa using HD.out)
     exact ⟨by rw [e]; rfl, hBw.drewN _⟩
    ·have HI := qh (take_eq_succ hlt hlt' hI.out (by simpa using HD.out))
     go_roundw
     case rel => exact ⟨k + 1, hlt, by go_num, hBw.drewN _, HI⟩
     case measure => simp [intOf]; omega
   ·go_wp2
    go_ret
    have e : decide (a = b) = true := by
     have := hI.out
     rw [List.take_of_length_le (by omega), List.take_of_length_le (by have := HN.out; omega)] at this
     simpa using this
    exact ⟨by rw [e]; rfl, hBw⟩
 ·have d1 : (((a.length : Nat) : Int) != ((b.length : Nat) : Int)) = true := by simp; omega
  have e : decide (a = b) = false := by simpa using fun e => hn (by rw [e])
  have HE := qh e
  clear e hn
  go_enter Try.func29, Try.ntmps29
  go_wp2
  go_ret
  exact ⟨by rw [HE.out]; rfl, Below.refl _ _⟩
theorem ref_SameNumbers (ok ok' : Nat → Prop) (w : World) (la : Option Addr) (lc : Nat) (ma : Option Addr) (mc : Nat) (a b : List Int) (hA : SlR ok w 1 RInt la lc a) (hB : SlR ok' w 1 RInt ma mc b) :
  Calls Try.prog 30 #[.slice la a.length lc, .slice ma b.length mc] w fun e w' => e = .returned (.bool (decide (a = b))) ∧ Below w.heap.size w w' := by
 have hl : a.length ≤ 9223372036854775807 := by have h1 := hA.1; have h2 := hA.2.1; unfold maxLen at h2; omega
 have hm : b.length ≤ 9223372036854775807 := by have h1 := hB.1; have h2 := hB.2.1; unfold maxLen at h2; omega
 by_cases hn : a.length = b.length
 ·have d1 : (((a.length : Nat) : Int) != ((b.length : Nat) : Int)) = false := by rw [hn]; simp
  have HN := qh hn
  have hlb : a.length ≤ b.length := by omega
  clear hn
  go_enter Try.func30, Try.ntmps30
  go_wp2
  go_loopw [13] (fun i wr => ∃ k : Nat, k ≤ a.length ∧ i = .int .i64 k ∧ Below w.heap.size w wr ∧ Hid (a.take k = b.take k)) (fun i _ => a.length - (intOf i).toNat)
  case atStart => exact ⟨0, Nat.zero_le _, rfl, Below.refl _ _, rfl⟩
  case round =>
   obtain ⟨k, hk, rfl, hBw, hI⟩ := hrel
   by_cases hlt : k < a.length
   ·have hlt' : k < b.length := by omega
    obtain ⟨b1, o1, rfl, hb1, f1⟩ := (hA.below hBw).int_at k hlt
    obtain ⟨b2, o2, rfl, hb2, g1⟩ := (hB.below hBw).int_at k hlt'
    cases hd : decide (a[k] = b[k])
    all_goals
     have HD := qh hd
     skip
     first | (have hni : (a[k] != b[k]) = true := by simpa using hd) | (have hni : (a[k] != b[k]) = false := by simpa using hd) | skip
     clear hd
     go_wp2
     go_quiet (fail)
     go_wp2
    ·go_ret
     have e : decide (a = b) = false := by simpa using take_ne hlt hlt' (by simpa using HD.out)
     exact ⟨by rw [e]; rfl, hBw.drewN _⟩
    ·have HI := qh (take_eq_succ hlt hlt' hI.out (by simpa using HD.out))
     go_roundw
     case rel => exact ⟨k + 1, hlt, by go_num, hBw.drewN _, HI⟩
     case measure => simp [intOf]; omega
   ·go_wp2
    go_ret
    have e : decide (a = b) = true := by
     have := hI.out
     rw [List.take_of_length_le (by omega), List.take_of_length_le (by have := HN.out; omega)] at this
     simpa using this
    exact ⟨by rw [e]; rfl, hBw⟩
 ·have d1 : (((a.length : Nat) : Int) != ((b.length : Nat) : Int)) = true := by simp; omega
  have e : decide (a = b) = false := by simpa using fun e => hn (by rw [e])
  have HE := qh e
  clear e hn
  go_enter Try.func30, Try.ntmps30
  go_wp2
  go_ret
  exact ⟨by rw [HE.out]; rfl, Below.refl _ _⟩
theorem label_Category (c : Int) (w : World) : Calls Try.prog 54 #[.int .i64 c] w fun e w' => e = .returned (.bool (decide (0 ≤ c ∧ c < 80))) ∧ w = w' := by
 by_cases h1 : 0 ≤ c <;> by_cases h2 : c < 80
 all_goals
  go_enter Try.func54, Try.ntmps54
  go_wp2
  go_ret
  exact ⟨ret_bool (by simp [h1, h2]), rfl⟩
theorem label_At (ok : Nat → Prop) (w : World) (la : Option Addr) (lc : Nat) (l : List Lev) (c : Int) (hl : l.length * 16 ≤ 140737488355328) (hR : SlR ok w 2 RLev la lc l) :
  Calls Try.prog 48 #[.slice la l.length lc, .int .i64 c] w fun e w' => e = .returned (.int .i64 (lAt l c)) ∧ Below w.heap.size w w' := by
 go_enter Try.func48, Try.ntmps48
 go_wp2
 go_loopw [9] (fun i wr => ∃ k : Nat, k ≤ l.length ∧ i = .int .i64 k ∧ Below w.heap.size w wr ∧ Hid (lAt l c = lAt (l.drop k) c)) (fun i _ => l.length - (intOf i).toNat)
 case atStart => exact ⟨0, Nat.zero_le _, rfl, Below.refl _ _, rfl⟩
 case round =>
  obtain ⟨k, hk, rfl, hB, hI⟩ := hrel
  by_cases hlt : k < l.length
  ·obtain ⟨b, o, rfl, hb, h1, h2⟩ := (hR.below hB).lev_at k hlt
   have hbs := hB.size
   go_wp2
   ·have hc : (l[k].c == c) = true := by assumption
    go_ret
    have e : lAt l c = l[k].l := by rw [hI.out, drop_at hlt, lAt, if_pos (by simpa using hc)]
    exact ⟨by rw [e]; rfl, hB.alloc hbs _⟩
   ·have hc : (l[k].c == c) = false := by assumption
    go_roundw
    case rel => exact ⟨k + 1, hlt, by go_num, hB.alloc hbs _, by rw [hI.out, drop_at hlt, lAt, if_neg (by simpa using hc)]; rfl⟩
    case measure => simp [intOf]; omega
  ·go_wp2
   go_ret
   have e : lAt l c = 1 := by rw [hI.out, List.drop_of_length_le (by omega), lAt]
   exact ⟨by rw [e]; rfl, hB⟩
theorem good_bad {l : List Lev} {k : Nat} (h : k < l.length) (hI : Hid (risesL (-1) l = risesL (prevC l k) (l.drop k))) (hb : ¬ (prevC l k < l[k].c ∧ lvOk l[k] = true)) : goodL l = false := by
 unfold goodL
 rw [hI.out, risesL_step l k h, if_neg hb]
 split <;> rfl
theorem good_go {l : List Lev} {k : Nat} (h : k < l.length) (hI : Hid (risesL (-1) l = risesL (prevC l k) (l.drop k))) (hb : prevC l k < l[k].c ∧ lvOk l[k] = true) : Hid (risesL (-1) l = risesL (prevC l (k + 1)) (l.drop (k + 1))) := by
 show _ = _
 rw [hI.out, risesL_step l k h, if_pos hb]
theorem label_Good (ok : Nat → Prop) (w : World) (la : Option Addr) (lc : Nat) (l : List Lev) (hl : l.length * 16 ≤ 140737488355328) (hR : SlR ok w 2 RLev la lc l) :
  Calls Try.prog 34 #[.slice la l.length lc] w fun e w' => e = .returned (.bool (goodL l)) ∧ Below w.heap.size w w' := by
 by_cases h8 : l.length ≤ 8
 case neg =>
  have e : goodL l = false := by rw [goodL, if_neg h8]
  have HE := qh e
  clear e
  go_enter Try.func34, Try.ntmps34
  go_wp2
  go_ret
  exact ⟨by rw [HE.out]; rfl, Below.refl _ _⟩
 case pos =>
  go_enter Try.func34, Try.ntmps34
  go_wp2
  go_loopw [10] (fun i wr => ∃ k : Nat, k ≤ l.length ∧ i = .int .i64 k ∧ Below w.heap.size w wr ∧ Hid (risesL (-1) l = risesL (prevC l k) (l.drop k))) (fun i _ => l.length - (intOf i).toNat)
  case atStart => exact ⟨0, Nat.zero_le _, rfl, Below.refl _ _, by rw [prevC_zero]; rfl⟩
  case round =>
   obtain ⟨k, hk, rfl, hB, hI⟩ := hrel
   by_cases hlt : k < l.length
   ·obtain ⟨b, o, rfl, hb, h1, h2⟩ := (hR.below hB).lev_at k hlt
    have hbs := hB.size
    have hB' := hB.alloc hbs (.cells #[.int .i64 l[k].c, .int .i64 l[k].l] 88)
    go_wp2_with fail
    by_cases hcat : 0 ≤ l[k].c ∧ l[k].c < 80
    case neg =>
     have HE := qh (good_bad hlt hI fun h => hcat (by have := h.2; simp [lvOk] at this; exact ⟨this.1, this.2.1⟩))
     have hd : decide (0 ≤ l[k].c ∧ l[k].c < 80) = false := by simpa using hcat
     have HC := qh (fun W : World => show Calls Try.prog 54 #[.int .i64 l[k].c] W fun e w' => e = .returned (.bool false) ∧ w' = W from (label_Category l[k].c W).mono fun _ _ h => ⟨by rw [h.1, hd], h.2.symm⟩)
     clear hd hcat
     go_quiet ((go_at_call 54; exact Calls.quiet_of_same (HC.out _)))
     go_wp2
     go_ret
     exact ⟨by rw [HE.out]; rfl, hB'.drewN _⟩
    case pos =>
     have HCAT := qh hcat
     have hd : decide (0 ≤ l[k].c ∧ l[k].c < 80) = true := by simpa using hcat
     have HC := qh (fun W : World => show Calls Try.prog 54 #[.int .i64 l[k].c] W fun e w' => e = .returned (.bool true) ∧ w' = W from (label_Category l[k].c W).mono fun _ _ h => ⟨by rw [h.1, hd], h.2.symm⟩)
     clear hd hcat
     by_cases hbad : l[k].l < 0 ∨ 3 < l[k].l ∨ l[k].l = 1
     ·have HE := qh (good_bad hlt hI fun h => by have := h.2; simp only [lvOk, decide_eq_true_eq] at this; omega)
      rcases (show l[k].l < 0 ∨ (0 ≤ l[k].l ∧ 3 < l[k].l) ∨ (0 ≤ l[k].l ∧ l[k].l ≤ 3 ∧ l[k].l = 1) by omega) with h3 | h3 | h3
      ·clear hbad
       go_quiet ((go_at_call 54; exact Calls.quiet_of_same (HC.out _)))
       go_wp2
       go_ret
       exact ⟨by rw [HE.out]; rfl, hB'.drewN _⟩
      ·clear hbad
       obtain ⟨h4, h5⟩ := h3
       have d1 : decide (l[k].l < 0) = false := by simp; omega
       have d2 : decide (3 < l[k].l) = true := by simp; omega
       go_quiet ((go_at_call 54; exact Calls.quiet_of_same (HC.out _)))
       go_wp2
       go_ret
       exact ⟨by rw [HE.out]; rfl, hB'.drewN _⟩
      ·clear hbad
       obtain ⟨h4, h5, h6⟩ := h3
       have h7 : (l[k].l == 1) = true := by simpa using h6
       have d1 : decide (l[k].l < 0) = false := by simp; omega
       have d2 : decide (3 < l[k].l) = false := by simp; omega
       clear h6
       go_quiet ((go_at_call 54; exact Calls.quiet_of_same (HC.out _)))
       go_wp2
       go_ret
       exact ⟨by rw [HE.out]; rfl, hB'.drewN _⟩
     ·have h4 : 0 ≤ l[k].l := by omega
      have h5 : l[k].l ≤ 3 := by omega
      have h7 : (l[k].l == 1) = false := by simpa using (show ¬ l[k].l = 1 by omega)
      have d1 : decide (l[k].l < 0) = false := by simp; omega
      have d2 : decide (3 < l[k].l) = false := by simp; omega
      have HOK := qh (show lvOk l[k] = true by simp only [lvOk, decide_eq_true_eq]; have := HCAT.out; omega)
      clear hbad
      by_cases hk0 : k = 0
      ·subst hk0
       have HG := good_go hlt hI ⟨by rw [prevC_zero]; have := HCAT.out; omega, HOK.out⟩
       go_quiet ((go_at_call 54; exact Calls.quiet_of_same (HC.out _)))
       go_wp2
       go_roundw
       case rel => exact ⟨1, by omega, by go_num, hB'.drewN _, HG⟩
       case measure => simp [intOf]; omega
      ·have hk1 : 0 < k := by omega
       obtain ⟨b', o', hbo, hb', g1, g2⟩ := (hR.below hB).lev_at (k - 1) (by omega)
       simp only [Option.some.injEq, Addr.mk.injEq, and_true] at hbo
       obtain ⟨rfl, rfl⟩ := hbo
       have hp : prevC l k = l[k - 1].c := by simp [prevC, hk1, hk]
       have HP := qh hp
       have d3 : decide ((0 : Int) < (k : Int)) = true := by simp; omega
       clear hp hk0
       by_cases hpc : l[k - 1].c < l[k].c
       ·have HG := good_go hlt hI ⟨by rw [HP.out]; exact hpc, HOK.out⟩
        have d4 : decide (l[k].c ≤ l[k - 1].c) = false := by simp; omega
        go_quiet ((go_at_call 54; exact Calls.quiet_of_same (HC.out _)))
        go_wp2
        go_roundw
        case rel => exact ⟨k + 1, by omega, by go_num, hB'.drewN _, HG⟩
        case measure => simp [intOf]; omega
       ·have HE := qh (good_bad hlt hI fun h => hpc (by rw [← HP.out]; exact h.1))
        have hpc' : l[k].c ≤ l[k - 1].c := by omega
        have d4 : decide (l[k].c ≤ l[k - 1].c) = true := by simp; omega
        clear hpc
        go_quiet ((go_at_call 54; exact Calls.quiet_of_same (HC.out _)))
        go_wp2
        go_ret
        exact ⟨by rw [HE.out]; rfl, hB'.drewN _⟩
   ·go_wp2
    go_ret
    have e : goodL l = true := by rw [goodL, if_pos h8, hI.out, List.drop_of_length_le (by omega)]; rfl
    exact ⟨by rw [e]; rfl, hB⟩
def pickL (p : Int → Bool) (l : List Lev) (k : Nat) : List Lev := (l.take k).filter fun x => p x.c
theorem pickL_zero (p : Int → Bool) (l : List Lev) : pickL p l 0 = [] := rfl
theorem pickL_yes {p : Int → Bool} {l : List Lev} {k : Nat} (h : k < l.length) (hp : p l[k].c = true) : pickL p l (k + 1) = pickL p l k ++ [l[k]] := by
 unfold pickL; rw [List.take_succ_eq_append_getElem h, List.filter_append]; simp [hp]
theorem pickL_no {p : Int → Bool} {l : List Lev} {k : Nat} (h : k < l.length) (hp : p l[k].c = false) : pickL p l (k + 1) = pickL p l k := by
 unfold pickL; rw [List.take_succ_eq_append_getElem h, List.filter_append]; simp [hp]
theorem pickL_all (p : Int → Bool) (l : List Lev) : pickL p l l.length = l.filter fun x => p x.c := by
 unfold pickL; rw [List.take_length]
theorem pickL_le (p : Int → Bool) (l : List Lev) (k : Nat) : (pickL p l k).length ≤ l.length :=
 Nat.le_trans (List.length_filter_le _ _) (List.length_take_le' _ _)
theorem label_Set (ok : Nat → Prop) (w : World) (la : Option Addr) (lc : Nat) (l : List Lev) (c n : Int) (hl : l.length * 16 ≤ 140737488355328) (hR : SlR ok w 2 RLev la lc l) :
  Calls Try.prog 37 #[.slice la l.length lc, .int .i64 c, .int .i64 n] w fun e w' => ∃ o k, e = .returned (.tuple #[.slice o (setR l c n).1.length k, .int .i64 (setR l c n).2]) ∧ Below w.heap.size w w' ∧ Own w.heap.size 88 w' 2 RLev o k (setR l c n).1 := by
 by_cases hbad : goodL l = true ∧ (0 ≤ c ∧ c < 80) ∧ 0 ≤ n ∧ n ≤ 3
 case neg =>
  have HE := qh (show setR l c n = ([], 2) by unfold setR; rw [if_neg hbad])
  rcases (show goodL l = false ∨ (goodL l = true ∧ ¬ (0 ≤ c ∧ c < 80)) ∨ (goodL l = true ∧ (0 ≤ c ∧ c < 80) ∧ n < 0) ∨ (goodL l = true ∧ (0 ≤ c ∧ c < 80) ∧ 0 ≤ n ∧ 3 < n) by
   cases hg : goodL l
   ·exact .inl rfl
   ·by_cases hc : 0 ≤ c ∧ c < 80
    ·by_cases hn : n < 0
     ·exact .inr (.inr (.inl ⟨rfl, hc, hn⟩))
     ·exact .inr (.inr (.inr ⟨rfl, hc, by omega, Int.not_le.1 fun h => hbad ⟨hg, hc, by omega, h⟩⟩))
    ·exact .inr (.inl ⟨rfl, hc⟩)) with h | ⟨h, hc⟩ | ⟨h, hc, hn⟩ | ⟨h, hc, hn, hn'⟩
  ·have HG := qh h
   clear h hbad
   go_enter Try.func37, Try.ntmps37
   go_wp2_with (first | (go_at_call 34; refine (label_Good ok _ _ _ _ hl hR).mono ?_; rintro e w1 ⟨rfl, hb1⟩; rw [HG.out]))
   refine bodyPost_ret (v := .tuple #[.slice none 0 0, .int .i64 2]) (by simp [results, Try.results37, go_sem]) rfl ?_
   rw [HE.out]
   exact ⟨none, 0, rfl, hb1, Own.nil ..⟩
  ·have HG := qh h
   have HC := qh (show decide (0 ≤ c ∧ c < 80) = false by simpa using hc)
   clear h hbad hc
   go_enter Try.func37, Try.ntmps37
   go_wp2_with (first | (go_at_call 34; refine (label_Good ok _ _ _ _ hl hR).mono ?_; rintro e w1 ⟨rfl, hb1⟩; rw [HG.out]) | (go_at_call 54; refine (label_Category _ _).mono ?_; rintro e w2 ⟨rfl, rfl⟩; rw [HC.out]))
   refine bodyPost_ret (v := .tuple #[.slice none 0 0, .int .i64 2]) (by simp [results, Try.results37, go_sem]) rfl ?_
   rw [HE.out]
   exact ⟨none, 0, rfl, hb1, Own.nil ..⟩
  ·have HG := qh h
   have HC := qh (show decide (0 ≤ c ∧ c < 80) = true by simpa using hc)
   clear h hbad hc
   go_enter Try.func37, Try.ntmps37
   go_wp2_with (first | (go_at_call 34; refine (label_Good ok _ _ _ _ hl hR).mono ?_; rintro e w1 ⟨rfl, hb1⟩; rw [HG.out]) | (go_at_call 54; refine (label_Category _ _).mono ?_; rintro e w2 ⟨rfl, rfl⟩; rw [HC.out]))
   refine bodyPost_ret (v := .tuple #[.slice none 0 0, .int .i64 2]) (by simp [results, Try.results37, go_sem]) rfl ?_
   rw [HE.out]
   exact ⟨none, 0, rfl, hb1, Own.nil ..⟩
  ·have HG := qh h
   have HC := qh (show decide (0 ≤ c ∧ c < 80) = true by simpa using hc)
   have d1 : decide (n < 0) = false := by simp; omega
   clear h hbad hc
   go_enter Try.func37, Try.ntmps37
   go_wp2_with (first | (go_at_call 34; refine (label_Good ok _ _ _ _ hl hR).mono ?_; rintro e w1 ⟨rfl, hb1⟩; rw [HG.out]) | (go_at_call 54; refine (label_Category _ _).mono ?_; rintro e w2 ⟨rfl, rfl⟩; rw [HC.out]))
   refine bodyPost_ret (v := .tuple #[.slice none 0 0, .int .i64 2]) (by simp [results, Try.results37, go_sem]) rfl ?_
   rw [HE.out]
   exact ⟨none, 0, rfl, hb1, Own.nil ..⟩
 case pos =>
  obtain ⟨i0, hi, hz0, hz1, hz2⟩ := info_parts info_Level
  obtain ⟨hg, hc, hn1, hn2⟩ := hbad
  have h8 := ((goodL_iff l).1 hg).1
  have HE := qh (show setR l c n = if (setL l c n).length ≤ 8 then (setL l c n, 0) else ([], 5) by unfold setR; rw [if_pos ⟨hg, hc, hn1, hn2⟩])
  have HG := qh hg
  have HC := qh (show decide (0 ≤ c ∧ c < 80) = true by simpa using hc)
  have d1 : decide (n < 0) = false := by simp; omega
  have d2 : decide (3 < n) = false := by simp; omega
  clear hg hc hl
  go_enter Try.func37, Try.ntmps37
  go_wp2_with (first | (go_at_call 34; refine (label_Good ok _ _ _ _ (by omega) hR).mono ?_; rintro e w1 ⟨rfl, hb1⟩; rw [HG.out]) | (go_at_call 54; refine (label_Category _ _).mono ?_; rintro e w2 ⟨rfl, rfl⟩; rw [HC.out]))
  have hS : SlR ok w1 2 RLev la lc l := hR.below hb1
  have hs1 := hb1.size
  clear hR HG HC
  obtain ⟨p1, hp1⟩ : ∃ p : Int → Bool, (fun x => decide (x < c)) = p := ⟨_, rfl⟩
  have HP1 := qh (fun x => congrFun hp1 x)
  clear hp1
  go_loopw [8, 32] (fun v i wr => ∃ (k : Nat) (o : Option Addr) (cp m : Nat), k ≤ l.length ∧ i = .int .i64 k ∧ v = .slice o m cp ∧ Hid (m = (pickL p1 l k).length) ∧ Own w1.heap.size 88 wr 2 RLev o cp (pickL p1 l k) ∧ Below w1.heap.size w1 wr) (fun _ i _ => l.length - (intOf i).toNat)
  case atStart => exact ⟨0, none, 0, 0, Nat.zero_le _, rfl, rfl, rfl, Own.nil _ _ _ _ _, Below.refl _ _⟩
  case round =>
   obtain ⟨k, o, cp, m, hk, rfl, rfl, HM, hO, hB⟩ := hrel
   by_cases hlt : k < l.length
   ·obtain ⟨b0, o0, rfl, hb, q1, q2⟩ := (hS.below hB).lev_at k hlt
    have hle := pickL_le p1 l k
    by_cases hlc : l[k].c < c
    ·have HY := qh (pickL_yes (p := p1) hlt (by rw [← HP1.out]; simpa using hlc))
     go_wp2_with (first
      | (at_builtin; go_must (refine wpList_app rfl _ _ 30 rfl 88 i0 _ 2 16 Try.underlying30 hi hz0 hz1 hz2 rfl (by decide) rfl HM.out ((hO.below ((Below.refl _ _).alloc (Nat.le_refl _) _)).below ((Below.refl _ _).alloc (Nat.le_refl _) _)) rfl rfl (SlR.one (ok := fun _ => True) [.int .i64 l[k].c, .int .i64 l[k].l] _ l[k] (by simp) rfl rfl (by simp [Value.oneCell']) trivial) ?_ ?_ ?_ ?_)))
     ·simp; omega
     ·simp [maxLen]; omega
     ·have := hB.size; simp; omega
     ·intro a' c' w' hO' hg' _
      have hB' : Below w1.heap.size w1 w' := ((hO.below ((Below.refl _ _).alloc (Nat.le_refl _) _)).below ((Below.refl _ _).alloc (Nat.le_refl _) _)).grown ((hB.alloc hB.size _).alloc (by have := hB.size; simp; omega) _) hg' (Nat.le_refl _) (by have := hB.size; simp; omega)
      rw [← HY.out] at hO'
      have HM' := qh (show m + 1 = (pickL p1 l (k + 1)).length by rw [HY.out, HM.out]; simp)
      clear hO hg' q1 q2 HM
      go_wp2
      go_roundw
      case rel => exact ⟨k + 1, a', c', m + 1, hlt, by go_num, rfl, HM', hO', hB'⟩
      case measure => simp [intOf]; omega
    ·have HN := qh (pickL_no (p := p1) hlt (by rw [← HP1.out]; simpa using hlc))
     have hB' := hB.alloc hB.size (.cells #[.int .i64 l[k].c, .int .i64 l[k].l] 88)
     have hO' := hO.below ((Below.refl wr.heap.size wr).alloc (Nat.le_refl _) (.cells #[.int .i64 l[k].c, .int .i64 l[k].l] 88))
     go_wp2
     go_roundw
     case rel => exact ⟨k + 1, o, cp, m, hlt, by go_num, rfl, by rw [HN.out]; exact HM, by rw [HN.out]; exact hO', hB'⟩
     case measure => simp [intOf]; omega
   ·obtain rfl : k = l.length := by omega
    have e1 := pickL_all p1 l
    rw [e1] at HM hO
    have hm1 : (l.filter fun x => p1 x.c).length ≤ 8 := Nat.le_trans (List.length_filter_le _ _) h8
    have HF1 := qh (show l.filter (fun x => decide (x.c < c)) = l.filter fun x => p1 x.c by congr 1; funext x; exact HP1.out x.c)
    generalize l.filter (fun x => p1 x.c) = f1 at HM hO hm1 HF1
    obtain rfl := HM.out
    clear HM HP1 e1
    by_cases hn : n = 1
    ·have d3 : (n != 1) = false := by simp [hn]
     have HQQ := qh (show f1 ++ (if n = 1 then [] else [⟨c, n⟩]) = f1 by rw [if_pos hn, List.append_nil])
     clear hn
     go_wp2
     obtain ⟨p2, hp2⟩ : ∃ p : Int → Bool, (fun x => decide (c < x)) = p := ⟨_, rfl⟩
     have HP2 := qh (fun x => congrFun hp2 x)
     clear hp2
     go_loopw [8, 55] (fun v i wy => ∃ (k : Nat) (o : Option Addr) (cp m : Nat), k ≤ l.length ∧ i = .int .i64 k ∧ v = .slice o m cp ∧ Hid (m = (f1 ++ pickL p2 l k).length) ∧ Own w1.heap.size 88 wy 2 RLev o cp (f1 ++ pickL p2 l k) ∧ Below w1.heap.size w1 wy) (fun _ i _ => l.length - (intOf i).toNat)
     case atStart => exact ⟨0, _, _, _, Nat.zero_le _, rfl, rfl, by rw [pickL_zero, List.append_nil]; rfl, by rw [pickL_zero, List.append_nil]; exact hO, hB⟩
     case round =>
      clear hO hB
      obtain ⟨k, o, cp, m, hk, rfl, rfl, HM, hO, hB⟩ := hrel
      by_cases hlt : k < l.length
      ·obtain ⟨b0, o0, rfl, hb, q1, q2⟩ := (hS.below hB).lev_at k hlt
       have hle := pickL_le p2 l k
       by_cases hlc : c < l[k].c
       ·have HY := qh (pickL_yes (p := p2) hlt (by rw [← HP2.out]; simpa using hlc))
        go_wp2_with (first
         | (at_builtin; go_must (refine wpList_app rfl _ _ 30 rfl 88 i0 _ 2 16 Try.underlying30 hi hz0 hz1 hz2 rfl (by decide) rfl HM.out ((hO.below ((Below.refl _ _).alloc (Nat.le_refl _) _)).below ((Below.refl _ _).alloc (Nat.le_refl _) _)) rfl rfl (SlR.one (ok := fun _ => True) [.int .i64 l[k].c, .int .i64 l[k].l] _ l[k] (by simp) rfl rfl (by simp [Value.oneCell']) trivial) ?_ ?_ ?_ ?_)))
        ·simp; omega
        ·simp [maxLen]; omega
        ·have := hB.size; simp; omega
        ·intro a' c' w' hO' hg' _
         have hB' : Below w1.heap.size w1 w' := ((hO.below ((Below.refl _ _).alloc (Nat.le_refl _) _)).below ((Below.refl _ _).alloc (Nat.le_refl _) _)).grown ((hB.alloc hB.size _).alloc (by have := hB.size; simp; omega) _) hg' (Nat.le_refl _) (by have := hB.size; simp; omega)
         first | rw [← HY.out] at hO' | rw [List.append_assoc, ← HY.out] at hO'
         have HM' := qh (show m + 1 = (f1 ++ pickL p2 l (k + 1)).length by rw [HY.out, HM.out]; simp; omega)
         clear hO hg' q1 q2 HM
         go_wp2
         go_roundw
         case rel => exact ⟨k + 1, a', c', m + 1, hlt, by go_num, rfl, HM', hO', hB'⟩
         case measure => simp [intOf]; omega
       ·have HN := qh (pickL_no (p := p2) hlt (by rw [← HP2.out]; simpa using hlc))
        have hB' := hB.alloc hB.size (.cells #[.int .i64 l[k].c, .int .i64 l[k].l] 88)
        have hO' := hO.below ((Below.refl wr.heap.size wr).alloc (Nat.le_refl _) (.cells #[.int .i64 l[k].c, .int .i64 l[k].l] 88))
        go_wp2
        go_roundw
        case rel => exact ⟨k + 1, o, cp, m, hlt, by go_num, rfl, by rw [HN.out]; exact HM, by rw [HN.out]; exact hO', hB'⟩
        case measure => simp [intOf]; omega
      ·obtain rfl : k = l.length := by omega
       have e1 := pickL_all p2 l
       have e2 : (l.filter fun x => p2 x.c) = l.filter fun x => decide (c < x.c) := by congr 1; funext x; exact (HP2.out x.c).symm
       have e3 : f1 ++ pickL p2 l l.length = setL l c n := by rw [e1, e2, ← HQQ.out, ← HF1.out, setL, List.append_assoc]
       rw [e3] at HM hO
       clear e1 e2 e3 HQQ HF1 HP2
       generalize setL l c n = res at HM hO HE
       obtain rfl := HM.out
       clear HM
       by_cases h9 : res.length ≤ 8
       ·have HE2 := qh (show setR l c n = (res, 0) by rw [HE.out, if_pos h9])
        go_wp2
        refine bodyPost_ret (v := .tuple #[.slice o res.length cp, .int .i64 0]) (by simp [results, Try.results37, go_sem]) rfl ?_
        rw [HE2.out]
        exact ⟨o, cp, rfl, hb1.keep hB, hO.le hs1⟩
       ·have HE2 := qh (show setR l c n = ([], 5) by rw [HE.out, if_neg h9])
        go_wp2
        refine bodyPost_ret (v := .tuple #[.slice none 0 0, .int .i64 5]) (by simp [results, Try.results37, go_sem]) rfl ?_
        rw [HE2.out]
        exact ⟨none, 0, rfl, hb1.keep hB, Own.nil ..⟩
    ·have d3 : (n != 1) = true := by simpa using hn
     have HQQ := qh (show f1 ++ (if n = 1 then [] else [⟨c, n⟩]) = f1 ++ [⟨c, n⟩] by rw [if_neg hn])
     clear hn
     go_wp2_with (first
      | (at_builtin; go_must (refine wpList_app rfl _ _ 30 rfl 88 i0 _ 2 16 Try.underlying30 hi hz0 hz1 hz2 rfl (by decide) rfl rfl (hO.below ((Below.refl _ _).alloc (Nat.le_refl _) _)) rfl rfl (SlR.one (ok := fun _ => True) [.int .i64 c, .int .i64 n] _ (Lev.mk c n) (by simp) rfl rfl (by simp [Value.oneCell']) trivial) ?_ ?_ ?_ ?_)))
     ·simp; omega
     ·simp [maxLen]; omega
     ·have := hB.size; simp; omega
     ·intro a' c' w' hO' hg' _
      have hB' : Below w1.heap.size w1 w' := (hO.below ((Below.refl _ _).alloc (Nat.le_refl _) _)).grown (hB.alloc hB.size _) hg' (Nat.le_refl _) (by have := hB.size; simp; omega)
      have HPL := qh (show f1.length + 1 = (f1 ++ [(⟨c, n⟩ : Lev)]).length by simp)
      have hpl : (f1 ++ [(⟨c, n⟩ : Lev)]).length ≤ 9 := by simp; omega
      clear hO hB hg' hm1
      generalize f1 ++ [(⟨c, n⟩ : Lev)] = f2 at hO' HQQ HPL hpl
      go_wp2
      obtain ⟨p2, hp2⟩ : ∃ p : Int → Bool, (fun x => decide (c < x)) = p := ⟨_, rfl⟩
      have HP2 := qh (fun x => congrFun hp2 x)
      clear hp2
      go_loopw [8, 55] (fun v i wy => ∃ (k : Nat) (o : Option Addr) (cp m : Nat), k ≤ l.length ∧ i = .int .i64 k ∧ v = .slice o m cp ∧ Hid (m = (f2 ++ pickL p2 l k).length) ∧ Own w1.heap.size 88 wy 2 RLev o cp (f2 ++ pickL p2 l k) ∧ Below w1.heap.size w1 wy) (fun _ i _ => l.length - (intOf i).toNat)
      case atStart => exact ⟨0, _, _, _, Nat.zero_le _, rfl, rfl, by rw [pickL_zero, List.append_nil]; exact HPL.out, by rw [pickL_zero, List.append_nil]; exact hO', hB'⟩
      case round =>
       clear hO' hB'
       obtain ⟨k, o, cp, m, hk, rfl, rfl, HM, hO, hB⟩ := hrel
       by_cases hlt : k < l.length
       ·obtain ⟨b0, o0, rfl, hb, q1, q2⟩ := (hS.below hB).lev_at k hlt
        have hle := pickL_le p2 l k
        by_cases hlc : c < l[k].c
        ·have HY := qh (pickL_yes (p := p2) hlt (by rw [← HP2.out]; simpa using hlc))
         go_wp2_with (first
          | (at_builtin; go_must (refine wpList_app rfl _ _ 30 rfl 88 i0 _ 2 16 Try.underlying30 hi hz0 hz1 hz2 rfl (by decide) rfl HM.out ((hO.below ((Below.refl _ _).alloc (Nat.le_refl _) _)).below ((Below.refl _ _).alloc (Nat.le_refl _) _)) rfl rfl (SlR.one (ok := fun _ => True) [.int .i64 l[k].c, .int .i64 l[k].l] _ l[k] (by simp) rfl rfl (by simp [Value.oneCell']) trivial) ?_ ?_ ?_ ?_)))
         ·simp; omega
         ·simp [maxLen]; omega
         ·have := hB.size; simp; omega
         ·intro a' c' w' hO' hg' _
          have hB' : Below w1.heap.size w1 w' := ((hO.below ((Below.refl _ _).alloc (Nat.le_refl _) _)).below ((Below.refl _ _).alloc (Nat.le_refl _) _)).grown ((hB.alloc hB.size _).alloc (by have := hB.size; simp; omega) _) hg' (Nat.le_refl _) (by have := hB.size; simp; omega)
          first | rw [← HY.out] at hO' | rw [List.append_assoc, ← HY.out] at hO'
          have HM' := qh (show m + 1 = (f2 ++ pickL p2 l (k + 1)).length by rw [HY.out, HM.out]; simp; omega)
          clear hO hg' q1 q2 HM
          go_wp2
          go_roundw
          case rel => exact ⟨k + 1, a', c', m + 1, hlt, by go_num, rfl, HM', hO', hB'⟩
          case measure => simp [intOf]; omega
        ·have HN := qh (pickL_no (p := p2) hlt (by rw [← HP2.out]; simpa using hlc))
         have hB' := hB.alloc hB.size (.cells #[.int .i64 l[k].c, .int .i64 l[k].l] 88)
         have hO' := hO.below ((Below.refl wr.heap.size wr).alloc (Nat.le_refl _) (.cells #[.int .i64 l[k].c, .int .i64 l[k].l] 88))
         go_wp2
         go_roundw
         case rel => exact ⟨k + 1, o, cp, m, hlt, by go_num, rfl, by rw [HN.out]; exact HM, by rw [HN.out]; exact hO', hB'⟩
         case measure => simp [intOf]; omega
       ·obtain rfl : k = l.length := by omega
        have e1 := pickL_all p2 l
        have e2 : (l.filter fun x => p2 x.c) = l.filter fun x => decide (c < x.c) := by congr 1; funext x; exact (HP2.out x.c).symm
        have e3 : f2 ++ pickL p2 l l.length = setL l c n := by rw [e1, e2, ← HQQ.out, ← HF1.out, setL, List.append_assoc]
        rw [e3] at HM hO
        clear e1 e2 e3 HQQ HF1 HP2
        generalize setL l c n = res at HM hO HE
        obtain rfl := HM.out
        clear HM
        by_cases h9 : res.length ≤ 8
        ·have HE2 := qh (show setR l c n = (res, 0) by rw [HE.out, if_pos h9])
         go_wp2
         refine bodyPost_ret (v := .tuple #[.slice o res.length cp, .int .i64 0]) (by simp [results, Try.results37, go_sem]) rfl ?_
         rw [HE2.out]
         exact ⟨o, cp, rfl, hb1.keep hB, hO.le hs1⟩
        ·have HE2 := qh (show setR l c n = ([], 5) by rw [HE.out, if_neg h9])
         go_wp2
         refine bodyPost_ret (v := .tuple #[.slice none 0 0, .int .i64 5]) (by simp [results, Try.results37, go_sem]) rfl ?_
         rw [HE2.out]
         exact ⟨none, 0, rfl, hb1.keep hB, Own.nil ..⟩
theorem ref_IsCategory (c : Int) (w : World) : Calls Try.prog 55 #[.int .i64 c] w fun e w' => e = .returned (.bool (catOk c)) ∧ w = w' := by
 by_cases h1 : 0 ≤ c <;> by_cases h2 : c ≤ 79
 all_goals
  go_enter Try.func55, Try.ntmps55
  go_wp2
  go_ret
  exact ⟨ret_bool (by rw [Bool.eq_iff_iff, catOk_iff]; simp; omega), rfl⟩
theorem ref_four (h : Int) (w : World) : Calls Try.prog 24 #[.int .i64 h] w fun e w' => e = .returned (.bool (four h)) ∧ w = w' := by
 by_cases h1 : 0 ≤ h <;> by_cases h2 : h < 4
 all_goals
  go_enter Try.func24, Try.ntmps24
  go_wp2
  go_ret
  exact ⟨ret_bool (by simp [four, h1, h2]), rfl⟩
end Go.Proofs.Ytealbofmlieicaa
