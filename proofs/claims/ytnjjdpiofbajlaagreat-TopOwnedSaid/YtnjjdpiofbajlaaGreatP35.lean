/- Walks and plain laws that the claim rests on, part 35. -/
import Derived.Test.YtnjjdpiofbajlaaGreatP27
set_option linter.unusedSimpArgs false
set_option linter.unusedVariables false
namespace Go.Proofs.YtnjjdpiofbajlaaGreat
open Go.RowKit
section
variable {w0 Wd W : World} {M0 : List Nat} {own : Blks} {X D : Nat → Prop} {gc : Nat} {kg : List Nat} {C : Clu}
def certOf (C : Clu) (h : Int) : List Cert := if four h = true then C.cert h else []
set_option maxRecDepth 100000 in
set_option maxHeartbeats 1000000 in
theorem cluster_Certs (P : Clus w0 M0 own X Wd D gc kg C W) (h : Int) : Calls Tryz.prog 13 #[.pointer (some ⟨gc, 0, none⟩), .int .i64 h] W fun e W' => ∃ a c, e = .returned (.slice a (certOf C h).length c) ∧ Below W.heap.size W W' ∧ Own W.heap.size 47 W' 4 RCert a c (certOf C h) := by
 unfold certOf
 by_cases h4 : four h = true
 case neg =>
  rw [if_neg h4]
  clear P
  rcases four_no (by simpa using h4) with d | ⟨d0, d⟩
  all_goals
   clear h4
   go_enter Tryz.func13, Tryz.ntmps13
   go_wp2_with (first | go_skip | fail)
   go_ret
   exact ⟨none, 0, rfl, Below.refl _ _, Own.nil _ _ _ _ _⟩
 rw [if_pos h4]
 obtain ⟨n, rfl, hn⟩ := four_nat h4
 obtain ⟨l, el, e1, hl⟩ := P.okC.certAt hn
 obtain ⟨ok, BB, na, nc, L, hA, -, -, -⟩ := P.open
 obtain ⟨v, ev, a0, c0, rfl, hR⟩ := hA.cells.cert n l el
 have f0 := hA.cell ev
 have hl24 := ((goodCerts_iff l).1 hl).2.2
 rw [e1]
 have HC := Lib.hid (slices_Clone_Cert ok W a0 c0 l (by omega) hR)
 have d1 : decide ((n : Int) < 0) = false := by simp
 have d2 : decide ((4 : Int) ≤ n) = false := by simp; omega
 clear hA P hR h4 el ev e1 hl
 go_enter Tryz.func13, Tryz.ntmps13
 go_wp2_with (first | go_skip | (go_at_call 32; go_must (refine HC.out.mono ?_; rintro e v1 ⟨a, c, rfl, hb, hO⟩)))
 go_ret
 exact ⟨a, c, rfl, hb, hO⟩
end
end Go.Proofs.YtnjjdpiofbajlaaGreat
