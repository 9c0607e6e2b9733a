/- The walk through label.Good. -/
import Derived.Test.YtnihccinpbpllaaLabelC
set_option linter.unusedSimpArgs false
set_option linter.unusedVariables false
namespace Go.Proofs.Ytnihccinpbpllaa
open Go.RowKit

theorem good_bad {l : List Lev} {k : Nat} (h : k < l.length) (hI : Hid (risesL (-1) l = risesL (prevC l k) (l.drop k))) (hb : ¬ (prevC l k < l[k].c ∧ lvOk l[k] = true)) : goodL l = false := by
  unfold goodL
  rw [hI.out, risesL_step l k h, if_neg hb]
  split <;> rfl

theorem good_go {l : List Lev} {k : Nat} (h : k < l.length) (hI : Hid (risesL (-1) l = risesL (prevC l k) (l.drop k))) (hb : prevC l k < l[k].c ∧ lvOk l[k] = true) : Hid (risesL (-1) l = risesL (prevC l (k + 1)) (l.drop (k + 1))) := by
  show _ = _
  rw [hI.out, risesL_step l k h, if_pos hb]

set_option maxHeartbeats 1600000 in
theorem label_Good (ok : Nat → Prop) (w : World) (la : Option Addr) (lc : Nat) (l : List Lev) (hl : l.length * 16 ≤ 140737488355328) (hR : SlR ok w 2 RLev la lc l) :
    Calls Try.prog 19 #[.slice la l.length lc] w fun e w' => e = .returned (.bool (goodL l)) ∧ Below w.heap.size w w' := by
  by_cases h8 : l.length ≤ 8
  case neg =>
    have e : goodL l = false := by rw [goodL, if_neg h8]
    have HE := Lib.hid e
    clear e
    go_enter Try.func19, Try.ntmps19
    go_wp2
    go_ret
    exact ⟨by rw [HE.out]; rfl, Below.refl _ _⟩
  case pos =>
    go_enter Try.func19, Try.ntmps19
    go_wp2
    go_loopw [10] (fun i wr => ∃ k : Nat, k ≤ l.length ∧ i = .int .i64 k ∧ Below w.heap.size w wr ∧ Hid (risesL (-1) l = risesL (prevC l k) (l.drop k))) (fun i _ => l.length - (intOf i).toNat)
    case atStart => exact ⟨0, Nat.zero_le _, rfl, Below.refl _ _, by rw [prevC_zero]; rfl⟩
    case round =>
      obtain ⟨k, hk, rfl, hB, hI⟩ := hrel
      by_cases hlt : k < l.length
      · obtain ⟨b, o, rfl, hb, h1, h2⟩ := (hR.below hB).lev_at k hlt
        have hbs := hB.size
        have hB' := hB.alloc hbs (.cells #[.int .i64 l[k].c, .int .i64 l[k].l] 43)
        go_wp2_with fail
        by_cases hcat : 0 ≤ l[k].c ∧ l[k].c < 80
        case neg =>
          have HE := Lib.hid (good_bad hlt hI fun h => hcat (by have := h.2; simp [lvOk] at this; exact ⟨this.1, this.2.1⟩))
          have hd : decide (0 ≤ l[k].c ∧ l[k].c < 80) = false := by simpa using hcat
          have HC := Lib.hid (fun W : World => show Calls Try.prog 23 #[.int .i64 l[k].c] W fun e w' => e = .returned (.bool false) ∧ w' = W from (label_Category l[k].c W).mono fun _ _ h => ⟨by rw [h.1, hd], h.2.symm⟩)
          clear hd hcat
          go_quiet ((go_at_call 23; exact Calls.quiet_of_same (HC.out _)))
          go_wp2
          go_ret
          exact ⟨by rw [HE.out]; rfl, hB'.drewN _⟩
        case pos =>
          have HCAT := Lib.hid hcat
          have hd : decide (0 ≤ l[k].c ∧ l[k].c < 80) = true := by simpa using hcat
          have HC := Lib.hid (fun W : World => show Calls Try.prog 23 #[.int .i64 l[k].c] W fun e w' => e = .returned (.bool true) ∧ w' = W from (label_Category l[k].c W).mono fun _ _ h => ⟨by rw [h.1, hd], h.2.symm⟩)
          clear hd hcat
          by_cases hbad : l[k].l < 0 ∨ 3 < l[k].l ∨ l[k].l = 1
          · have HE := Lib.hid (good_bad hlt hI fun h => by have := h.2; simp only [lvOk, decide_eq_true_eq] at this; omega)
            rcases (show l[k].l < 0 ∨ (0 ≤ l[k].l ∧ 3 < l[k].l) ∨ (0 ≤ l[k].l ∧ l[k].l ≤ 3 ∧ l[k].l = 1) by omega) with h3 | h3 | h3
            · clear hbad
              go_quiet ((go_at_call 23; exact Calls.quiet_of_same (HC.out _)))
              go_wp2
              go_ret
              exact ⟨by rw [HE.out]; rfl, hB'.drewN _⟩
            · clear hbad
              obtain ⟨h4, h5⟩ := h3
              have d1 : decide (l[k].l < 0) = false := by simp; omega
              have d2 : decide (3 < l[k].l) = true := by simp; omega
              go_quiet ((go_at_call 23; exact Calls.quiet_of_same (HC.out _)))
              go_wp2
              go_ret
              exact ⟨by rw [HE.out]; rfl, hB'.drewN _⟩
            · clear hbad
              obtain ⟨h4, h5, h6⟩ := h3
              have h7 : (l[k].l == 1) = true := by simpa using h6
              have d1 : decide (l[k].l < 0) = false := by simp; omega
              have d2 : decide (3 < l[k].l) = false := by simp; omega
              clear h6
              go_quiet ((go_at_call 23; exact Calls.quiet_of_same (HC.out _)))
              go_wp2
              go_ret
              exact ⟨by rw [HE.out]; rfl, hB'.drewN _⟩
          · have h4 : 0 ≤ l[k].l := by omega
            have h5 : l[k].l ≤ 3 := by omega
            have h7 : (l[k].l == 1) = false := by simpa using (show ¬ l[k].l = 1 by omega)
            have d1 : decide (l[k].l < 0) = false := by simp; omega
            have d2 : decide (3 < l[k].l) = false := by simp; omega
            have HOK := Lib.hid (show lvOk l[k] = true by simp only [lvOk, decide_eq_true_eq]; have := HCAT.out; omega)
            clear hbad
            by_cases hk0 : k = 0
            · subst hk0
              have HG := good_go hlt hI ⟨by rw [prevC_zero]; have := HCAT.out; omega, HOK.out⟩
              go_quiet ((go_at_call 23; exact Calls.quiet_of_same (HC.out _)))
              go_wp2
              go_roundw
              case rel => exact ⟨1, by omega, by go_num, hB'.drewN _, HG⟩
              case measure => simp [intOf]; omega
            · have hk1 : 0 < k := by omega
              obtain ⟨b', o', hbo, hb', g1, g2⟩ := (hR.below hB).lev_at (k - 1) (by omega)
              simp only [Option.some.injEq, Addr.mk.injEq, and_true] at hbo
              obtain ⟨rfl, rfl⟩ := hbo
              have hp : prevC l k = l[k - 1].c := by simp [prevC, hk1, hk]
              have HP := Lib.hid hp
              have d3 : decide ((0 : Int) < (k : Int)) = true := by simp; omega
              clear hp hk0
              by_cases hpc : l[k - 1].c < l[k].c
              · have HG := good_go hlt hI ⟨by rw [HP.out]; exact hpc, HOK.out⟩
                have d4 : decide (l[k].c ≤ l[k - 1].c) = false := by simp; omega
                go_quiet ((go_at_call 23; exact Calls.quiet_of_same (HC.out _)))
                go_wp2
                go_roundw
                case rel => exact ⟨k + 1, by omega, by go_num, hB'.drewN _, HG⟩
                case measure => simp [intOf]; omega
              · have HE := Lib.hid (good_bad hlt hI fun h => hpc (by rw [← HP.out]; exact h.1))
                have hpc' : l[k].c ≤ l[k - 1].c := by omega
                have d4 : decide (l[k].c ≤ l[k - 1].c) = true := by simp; omega
                clear hpc
                go_quiet ((go_at_call 23; exact Calls.quiet_of_same (HC.out _)))
                go_wp2
                go_ret
                exact ⟨by rw [HE.out]; rfl, hB'.drewN _⟩
      · go_wp2
        go_ret
        have e : goodL l = true := by rw [goodL, if_pos h8, hI.out, List.drop_of_length_le (by omega)]; rfl
        exact ⟨by rw [e]; rfl, hB⟩

end Go.Proofs.Ytnihccinpbpllaa
