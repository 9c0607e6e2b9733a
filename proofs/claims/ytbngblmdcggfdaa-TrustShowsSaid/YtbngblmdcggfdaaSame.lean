/- The walks through the references' comparisons of lists. -/
import Derived.Test.YtbngblmdcggfdaaSlices
import Derived.Test.YtbngblmdcggfdaaEq
import Derived.Deep.QuietTactic
set_option linter.unusedSimpArgs false
set_option linter.unusedVariables false
namespace Go.Proofs.Ytbngblmdcggfdaa
open Go.RowKit

theorem take_ne {α : Type} {a b : List α} {k : Nat} (ha : k < a.length) (hb : k < b.length) (h : a[k] ≠ b[k]) : a ≠ b := by
  rintro rfl
  exact h rfl

theorem take_eq_succ {α : Type} {a b : List α} {k : Nat} (ha : k < a.length) (hb : k < b.length) (h : a.take k = b.take k) (e : a[k] = b[k]) : a.take (k + 1) = b.take (k + 1) := by
  rw [List.take_succ_eq_append_getElem ha, List.take_succ_eq_append_getElem hb, h, e]

set_option maxHeartbeats 1000000 in
theorem ref_SameCerts (ok ok' : Nat → Prop) (w : World) (la : Option Addr) (lc : Nat) (ma : Option Addr) (mc : Nat) (a b : List Cert) (hA : SlR ok w 4 RCert la lc a) (hB : SlR ok' w 4 RCert ma mc b) :
    Calls Try.prog 12 #[.slice la a.length lc, .slice ma b.length mc] w fun e w' => e = .returned (.bool (decide (a = b))) ∧ Below w.heap.size w w' := by
  have hl : a.length ≤ 9223372036854775807 := by have h1 := hA.1; have h2 := hA.2.1; unfold maxLen at h2; omega
  have hm : b.length ≤ 9223372036854775807 := by have h1 := hB.1; have h2 := hB.2.1; unfold maxLen at h2; omega
  by_cases hn : a.length = b.length
  · have d1 : (((a.length : Nat) : Int) != ((b.length : Nat) : Int)) = false := by rw [hn]; simp
    have HN := Lib.hid hn
    have hlb : a.length ≤ b.length := by omega
    clear hn
    go_enter Try.func12, Try.ntmps12
    go_wp2
    go_loopw [13] (fun i wr => ∃ k : Nat, k ≤ a.length ∧ i = .int .i64 k ∧ Below w.heap.size w wr ∧ Hid (a.take k = b.take k)) (fun i _ => a.length - (intOf i).toNat)
    case atStart => exact ⟨0, Nat.zero_le _, rfl, Below.refl _ _, rfl⟩
    case round =>
      obtain ⟨k, hk, rfl, hBw, hI⟩ := hrel
      by_cases hlt : k < a.length
      · have hlt' : k < b.length := by omega
        obtain ⟨b1, o1, rfl, hb1, f1, f2, f3, f4⟩ := (hA.below hBw).cert_at k hlt
        obtain ⟨b2, o2, rfl, hb2, g1, g2, g3, g4⟩ := (hB.below hBw).cert_at k hlt'
        cases hd : decide (a[k] = b[k])
        all_goals
          have HD := Lib.hid hd
          have hne := neq_Cert a[k] b[k] _ hd; have hgu := guard_Cert
          first | (have hni : (a[k] != b[k]) = true := by simpa using hd) | (have hni : (a[k] != b[k]) = false := by simpa using hd) | skip
          clear hd
          go_wp2
          go_quiet (fail)
          go_wp2
        · go_ret
          have e : decide (a = b) = false := by simpa using take_ne hlt hlt' (by simpa using HD.out)
          exact ⟨by rw [e]; rfl, hBw.drewN _⟩
        · have HI := Lib.hid (take_eq_succ hlt hlt' hI.out (by simpa using HD.out))
          go_roundw
          case rel => exact ⟨k + 1, hlt, by go_num, hBw.drewN _, HI⟩
          case measure => simp [intOf]; omega
      · go_wp2
        go_ret
        have e : decide (a = b) = true := by
          have := hI.out
          rw [List.take_of_length_le (by omega), List.take_of_length_le (by have := HN.out; omega)] at this
          simpa using this
        exact ⟨by rw [e]; rfl, hBw⟩
  · have d1 : (((a.length : Nat) : Int) != ((b.length : Nat) : Int)) = true := by simp; omega
    have e : decide (a = b) = false := by simpa using fun e => hn (by rw [e])
    have HE := Lib.hid e
    clear e hn
    go_enter Try.func12, Try.ntmps12
    go_wp2
    go_ret
    exact ⟨by rw [HE.out]; rfl, Below.refl _ _⟩

end Go.Proofs.Ytbngblmdcggfdaa
