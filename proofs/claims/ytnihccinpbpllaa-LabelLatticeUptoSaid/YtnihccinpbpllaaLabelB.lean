/- The walks through label.Join, Meet. -/
import Derived.Test.YtnihccinpbpllaaLabel
set_option linter.unusedSimpArgs false
set_option linter.unusedVariables false
namespace Go.Proofs.Ytnihccinpbpllaa
open Go.RowKit

set_option maxHeartbeats 400000 in
theorem label_max (x y : Int) (w : World) : Calls Try.prog 30 #[.int .i64 x, .int .i64 y] w fun e w' => e = .returned (.int .i64 (max x y)) ∧ w = w' := by
  by_cases h : x ≤ y
  all_goals
    go_enter Try.func30, Try.ntmps30
    go_wp2
    go_ret
    exact ⟨ret_int (by omega), rfl⟩

set_option maxHeartbeats 400000 in
theorem label_min (x y : Int) (w : World) : Calls Try.prog 33 #[.int .i64 x, .int .i64 y] w fun e w' => e = .returned (.int .i64 (min x y)) ∧ w = w' := by
  by_cases h : x ≤ y
  all_goals
    go_enter Try.func33, Try.ntmps33
    go_wp2
    go_ret
    exact ⟨ret_int (by omega), rfl⟩

theorem insI_length (x : Int) (l : List Int) : (insI x l).length ≤ l.length + 1 := by
  induction l with
  | nil => simp [insI]
  | cons y l ih =>
    unfold insI
    split
    · simp
    · split
      · simp
      · simp; omega

theorem eachL_length (a b : List Lev) : (eachL a b).length ≤ a.length + b.length := by
  have h : ∀ l : List Int, (uniq l).length ≤ l.length := by
    intro l
    induction l with
    | nil => simp [uniq]
    | cons y l ih => have := insI_length y (uniq l); show (insI y (uniq l)).length ≤ _; simp; omega
  have := h (catsOf a ++ catsOf b)
  simpa [eachL, catsOf] using this

theorem bothFrom_length (f : Int → Int → Int) (a b : List Lev) (l : List Int) : (bothFrom f a b l).length ≤ l.length := by
  induction l with
  | nil => simp [bothFrom]
  | cons c l ih => unfold bothFrom; split <;> simp <;> omega

/-- What has been gathered behind k of the categories. -/
theorem bothFrom_snoc (f : Int → Int → Int) (a b : List Lev) (l : List Int) (k : Nat) (h : k < l.length) :
    bothFrom f a b (l.take (k + 1)) = bothFrom f a b (l.take k) ++ (if f (lAt a l[k]) (lAt b l[k]) = 1 then [] else [⟨l[k], f (lAt a l[k]) (lAt b l[k])⟩]) := by
  rw [List.take_succ_eq_append_getElem h]
  generalize l.take k = t
  induction t with
  | nil => simp only [List.nil_append, bothFrom]
  | cons c t ih => simp only [List.cons_append, bothFrom]; split <;> simp [ih]

set_option maxHeartbeats 1600000 in
theorem label_both_max
    (ok : Nat → Prop) (w : World) (la lb : Option Addr) (ca cb : Nat) (a b : List Lev) (hl : (a.length + b.length) * 16 ≤ 140737488355328)
    (hA : SlR ok w 2 RLev la ca a) (hB : SlR ok w 2 RLev lb cb b) :
    Calls Try.prog 29 #[.slice la a.length ca, .slice lb b.length cb, .func (.func 30) #[] #[]] w fun e w' => ∃ o c, e = .returned (.slice o (bothL max a b).length c) ∧ Below w.heap.size w w' ∧ Own w.heap.size 43 w' 2 RLev o c (bothL max a b) := by
  obtain ⟨f, HF, HFE⟩ : ∃ f : Int → Int → Int, Hid (∀ (x y : Int) (w : World), Calls Try.prog 30 #[.int .i64 x, .int .i64 y] w fun e w' => e = .returned (.int .i64 (f x y)) ∧ w = w') ∧ max = f := ⟨max, label_max, rfl⟩
  rw [HFE]
  clear HFE
  obtain ⟨i0, hi, hz0, hz1, hz2⟩ := info_parts info_Level
  have E0 := Lib.hid (show bothL f a b = bothFrom f a b (eachL a b) from rfl)
  have E1 := Lib.hid (eachL_length a b)
  go_enter Try.func29, Try.ntmps29
  go_wp2_with (first
    | (go_at_call 34; refine (label_each ok _ _ _ _ _ _ _ hl hA hB).mono ?_; rintro e w1 ⟨o, c, rfl, hb1, hO1⟩))
  have hS : SlR (fun _ => True) w1 1 RInt o c (eachL a b) := hO1.slr fun _ _ => trivial
  have hb1s := hb1.size
  clear hO1
  generalize eachL a b = es at hS E0 E1 ⊢
  have hes : es.length ≤ 9223372036854775807 := by have h1 := hS.1; have h2 := hS.2.1; unfold maxLen at h2; omega
  go_loopw [7, 15] (fun v i wr => ∃ (k : Nat) (o : Option Addr) (c n : Nat), k ≤ es.length ∧ i = .int .i64 k ∧ v = .slice o n c ∧ Hid (n = (bothFrom f a b (es.take k)).length) ∧ Own w1.heap.size 43 wr 2 RLev o c (bothFrom f a b (es.take k)) ∧ Below w1.heap.size w1 wr) (fun _ i _ => es.length - (intOf i).toNat)
  case atStart => exact ⟨0, none, 0, 0, Nat.zero_le _, rfl, rfl, rfl, Own.nil _ _ _ _ _, Below.refl _ _⟩
  case round =>
    obtain ⟨k, o, c, n, hk, rfl, rfl, HN, hO, hB'⟩ := hrel
    by_cases hlt : k < es.length
    · obtain ⟨b0, o0, rfl, hb, h1⟩ := (hS.below hB').int_at k hlt
      have hbr : Below w.heap.size w wr := hb1.trans (hB'.mono hb1s)
      have hsn := bothFrom_snoc f a b es k hlt
      generalize hv : f (lAt a es[k]) (lAt b es[k]) = v at hsn
      have HV := Lib.hid hv
      have HSN := Lib.hid hsn
      clear hv hsn
      cases hv1 : (v == 1)
      all_goals
        go_wp2_with fail
        refine (label_At ok _ _ _ _ _ (by omega) (hA.below hbr)).mono ?_
        rintro e w2 ⟨rfl, hb2⟩
        have hb2' := hbr.keep hb2
        go_wp2_with fail
        refine (label_At ok _ _ _ _ _ (by omega) (hB.below hb2')).mono ?_
        rintro e w3 ⟨rfl, hb3⟩
        have hb3' := hb2'.keep hb3
        go_wp2_with fail
        refine (HF.out _ _ _).mono ?_
        rintro e w4 ⟨rfl, rfl⟩
        rw [HV.out]
        have hO3 := (hO.below hb2).below hb3
        have hB3 := (hB'.keep hb2).keep hb3
        clear hO hb2 hb3 h1
      · have hne : (v != 1) = true := by simp [bne, hv1]
        have HV1 := Lib.hid hv1
        clear hv1
        go_wp2_with (first
          | (at_builtin; go_must (refine wpList_app rfl _ _ 23 rfl 43 i0 _ 2 16 Try.underlying23 hi hz0 hz1 hz2 rfl (by decide) rfl HN.out (hO3.below ((Below.refl _ _).alloc (Nat.le_refl _) _)) rfl rfl (SlR.one (ok := fun _ => True) [.int .i64 es[k], .int .i64 v] _ (Lev.mk es[k] v) rfl rfl rfl (by simp [Value.oneCell']) trivial) ?_ ?_ ?_ ?_)))
        · have := bothFrom_length f a b (es.take k); have := E1.out; have := HN.out; simp at *; omega
        · have := bothFrom_length f a b (es.take k); have := E1.out; have := HN.out; simp [maxLen] at *; omega
        · have := hB3.size; simp; omega
        · intro a' c' w' hO' hg' _
          have hB4 : Below w1.heap.size w1 w' := (hO3.below ((Below.refl _ _).alloc (Nat.le_refl _) _)).grown (hB3.alloc hB3.size _) hg' (Nat.le_refl _) (by have := hB3.size; simp; omega)
          have hv1' : v ≠ 1 := by simpa using HV1.out
          have e : bothFrom f a b (es.take k) ++ [Lev.mk es[k] v] = bothFrom f a b (es.take (k + 1)) := by rw [HSN.out, if_neg hv1']
          rw [e] at hO'
          have hn : n + 1 = (bothFrom f a b (es.take (k + 1))).length := by rw [← e, HN.out]; simp
          have HN' := Lib.hid hn
          clear e hn hO3 hg' hv1'
          go_wp2
          go_roundw
          case rel => exact ⟨k + 1, a', c', n + 1, hlt, by go_num, rfl, HN', hO', hB4⟩
          case measure => simp [intOf]; omega
      · have hne : (v != 1) = false := by simp [bne, hv1]
        have hv1' : v = 1 := by simpa using hv1
        have e : bothFrom f a b (es.take (k + 1)) = bothFrom f a b (es.take k) := by rw [HSN.out, if_pos hv1', List.append_nil]
        have HE := Lib.hid e
        clear e hv1'
        go_wp2
        go_roundw
        case rel => exact ⟨k + 1, o, c, n, hlt, by go_num, rfl, by rw [HE.out]; exact HN, by rw [HE.out]; exact hO3, hB3⟩
        case measure => simp [intOf]; omega
    · go_wp2
      go_ret
      have e : bothFrom f a b (es.take k) = bothL f a b := by rw [E0.out, List.take_of_length_le (by omega)]
      rw [e] at hO HN
      exact ⟨o, c, by rw [← HN.out]; rfl, hb1.trans (hB'.mono hb1s), hO.le hb1s⟩

set_option maxHeartbeats 1600000 in
theorem label_both_min
    (ok : Nat → Prop) (w : World) (la lb : Option Addr) (ca cb : Nat) (a b : List Lev) (hl : (a.length + b.length) * 16 ≤ 140737488355328)
    (hA : SlR ok w 2 RLev la ca a) (hB : SlR ok w 2 RLev lb cb b) :
    Calls Try.prog 29 #[.slice la a.length ca, .slice lb b.length cb, .func (.func 33) #[] #[]] w fun e w' => ∃ o c, e = .returned (.slice o (bothL min a b).length c) ∧ Below w.heap.size w w' ∧ Own w.heap.size 43 w' 2 RLev o c (bothL min a b) := by
  obtain ⟨f, HF, HFE⟩ : ∃ f : Int → Int → Int, Hid (∀ (x y : Int) (w : World), Calls Try.prog 33 #[.int .i64 x, .int .i64 y] w fun e w' => e = .returned (.int .i64 (f x y)) ∧ w = w') ∧ min = f := ⟨min, label_min, rfl⟩
  rw [HFE]
  clear HFE
  obtain ⟨i0, hi, hz0, hz1, hz2⟩ := info_parts info_Level
  have E0 := Lib.hid (show bothL f a b = bothFrom f a b (eachL a b) from rfl)
  have E1 := Lib.hid (eachL_length a b)
  go_enter Try.func29, Try.ntmps29
  go_wp2_with (first
    | (go_at_call 34; refine (label_each ok _ _ _ _ _ _ _ hl hA hB).mono ?_; rintro e w1 ⟨o, c, rfl, hb1, hO1⟩))
  have hS : SlR (fun _ => True) w1 1 RInt o c (eachL a b) := hO1.slr fun _ _ => trivial
  have hb1s := hb1.size
  clear hO1
  generalize eachL a b = es at hS E0 E1 ⊢
  have hes : es.length ≤ 9223372036854775807 := by have h1 := hS.1; have h2 := hS.2.1; unfold maxLen at h2; omega
  go_loopw [7, 15] (fun v i wr => ∃ (k : Nat) (o : Option Addr) (c n : Nat), k ≤ es.length ∧ i = .int .i64 k ∧ v = .slice o n c ∧ Hid (n = (bothFrom f a b (es.take k)).length) ∧ Own w1.heap.size 43 wr 2 RLev o c (bothFrom f a b (es.take k)) ∧ Below w1.heap.size w1 wr) (fun _ i _ => es.length - (intOf i).toNat)
  case atStart => exact ⟨0, none, 0, 0, Nat.zero_le _, rfl, rfl, rfl, Own.nil _ _ _ _ _, Below.refl _ _⟩
  case round =>
    obtain ⟨k, o, c, n, hk, rfl, rfl, HN, hO, hB'⟩ := hrel
    by_cases hlt : k < es.length
    · obtain ⟨b0, o0, rfl, hb, h1⟩ := (hS.below hB').int_at k hlt
      have hbr : Below w.heap.size w wr := hb1.trans (hB'.mono hb1s)
      have hsn := bothFrom_snoc f a b es k hlt
      generalize hv : f (lAt a es[k]) (lAt b es[k]) = v at hsn
      have HV := Lib.hid hv
      have HSN := Lib.hid hsn
      clear hv hsn
      cases hv1 : (v == 1)
      all_goals
        go_wp2_with fail
        refine (label_At ok _ _ _ _ _ (by omega) (hA.below hbr)).mono ?_
        rintro e w2 ⟨rfl, hb2⟩
        have hb2' := hbr.keep hb2
        go_wp2_with fail
        refine (label_At ok _ _ _ _ _ (by omega) (hB.below hb2')).mono ?_
        rintro e w3 ⟨rfl, hb3⟩
        have hb3' := hb2'.keep hb3
        go_wp2_with fail
        refine (HF.out _ _ _).mono ?_
        rintro e w4 ⟨rfl, rfl⟩
        rw [HV.out]
        have hO3 := (hO.below hb2).below hb3
        have hB3 := (hB'.keep hb2).keep hb3
        clear hO hb2 hb3 h1
      · have hne : (v != 1) = true := by simp [bne, hv1]
        have HV1 := Lib.hid hv1
        clear hv1
        go_wp2_with (first
          | (at_builtin; go_must (refine wpList_app rfl _ _ 23 rfl 43 i0 _ 2 16 Try.underlying23 hi hz0 hz1 hz2 rfl (by decide) rfl HN.out (hO3.below ((Below.refl _ _).alloc (Nat.le_refl _) _)) rfl rfl (SlR.one (ok := fun _ => True) [.int .i64 es[k], .int .i64 v] _ (Lev.mk es[k] v) rfl rfl rfl (by simp [Value.oneCell']) trivial) ?_ ?_ ?_ ?_)))
        · have := bothFrom_length f a b (es.take k); have := E1.out; have := HN.out; simp at *; omega
        · have := bothFrom_length f a b (es.take k); have := E1.out; have := HN.out; simp [maxLen] at *; omega
        · have := hB3.size; simp; omega
        · intro a' c' w' hO' hg' _
          have hB4 : Below w1.heap.size w1 w' := (hO3.below ((Below.refl _ _).alloc (Nat.le_refl _) _)).grown (hB3.alloc hB3.size _) hg' (Nat.le_refl _) (by have := hB3.size; simp; omega)
          have hv1' : v ≠ 1 := by simpa using HV1.out
          have e : bothFrom f a b (es.take k) ++ [Lev.mk es[k] v] = bothFrom f a b (es.take (k + 1)) := by rw [HSN.out, if_neg hv1']
          rw [e] at hO'
          have hn : n + 1 = (bothFrom f a b (es.take (k + 1))).length := by rw [← e, HN.out]; simp
          have HN' := Lib.hid hn
          clear e hn hO3 hg' hv1'
          go_wp2
          go_roundw
          case rel => exact ⟨k + 1, a', c', n + 1, hlt, by go_num, rfl, HN', hO', hB4⟩
          case measure => simp [intOf]; omega
      · have hne : (v != 1) = false := by simp [bne, hv1]
        have hv1' : v = 1 := by simpa using hv1
        have e : bothFrom f a b (es.take (k + 1)) = bothFrom f a b (es.take k) := by rw [HSN.out, if_pos hv1', List.append_nil]
        have HE := Lib.hid e
        clear e hv1'
        go_wp2
        go_roundw
        case rel => exact ⟨k + 1, o, c, n, hlt, by go_num, rfl, by rw [HE.out]; exact HN, by rw [HE.out]; exact hO3, hB3⟩
        case measure => simp [intOf]; omega
    · go_wp2
      go_ret
      have e : bothFrom f a b (es.take k) = bothL f a b := by rw [E0.out, List.take_of_length_le (by omega)]
      rw [e] at hO HN
      exact ⟨o, c, by rw [← HN.out]; rfl, hb1.trans (hB'.mono hb1s), hO.le hb1s⟩

set_option maxHeartbeats 400000 in
theorem label_Join (ok : Nat → Prop) (w : World) (la lb : Option Addr) (ca cb : Nat) (a b : List Lev) (hl : (a.length + b.length) * 16 ≤ 140737488355328) (hA : SlR ok w 2 RLev la ca a) (hB : SlR ok w 2 RLev lb cb b) :
    Calls Try.prog 10 #[.slice la a.length ca, .slice lb b.length cb] w fun e w' => ∃ o c, e = .returned (.slice o (bothL max a b).length c) ∧ Below w.heap.size w w' ∧ Own w.heap.size 43 w' 2 RLev o c (bothL max a b) := by
  go_enter Try.func10, Try.ntmps10
  go_wp2_with fail
  refine (label_both_max ok _ _ _ _ _ _ _ hl hA hB).mono ?_
  rintro e w1 ⟨o, c, rfl, hb, hO⟩
  go_wp2
  go_ret
  exact ⟨o, c, rfl, hb, hO⟩

set_option maxHeartbeats 400000 in
theorem label_Meet (ok : Nat → Prop) (w : World) (la lb : Option Addr) (ca cb : Nat) (a b : List Lev) (hl : (a.length + b.length) * 16 ≤ 140737488355328) (hA : SlR ok w 2 RLev la ca a) (hB : SlR ok w 2 RLev lb cb b) :
    Calls Try.prog 13 #[.slice la a.length ca, .slice lb b.length cb] w fun e w' => ∃ o c, e = .returned (.slice o (bothL min a b).length c) ∧ Below w.heap.size w w' ∧ Own w.heap.size 43 w' 2 RLev o c (bothL min a b) := by
  go_enter Try.func13, Try.ntmps13
  go_wp2_with fail
  refine (label_both_min ok _ _ _ _ _ _ _ hl hA hB).mono ?_
  rintro e w1 ⟨o, c, rfl, hb, hO⟩
  go_wp2
  go_ret
  exact ⟨o, c, rfl, hb, hO⟩

end Go.Proofs.Ytnihccinpbpllaa
