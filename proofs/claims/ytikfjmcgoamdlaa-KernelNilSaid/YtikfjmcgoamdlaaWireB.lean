/- Bytes: what stands for them; the walk through wire.put. -/
import Derived.Test.YtikfjmcgoamdlaaWireP
import Derived.Test.YtikfjmcgoamdlaaMemB
import Derived.Test.YtikfjmcgoamdlaaApp
import Derived.Test.YtikfjmcgoamdlaaSlices
set_option linter.unusedSimpArgs false
set_option linter.unusedVariables false
namespace Go.Proofs.Ytikfjmcgoamdlaa
open Go.RowKit

def RU8 (cs : List Value) (x : UInt8) : Prop := cs = [.int .u8 x.toNat]

theorem info_byte : (Try.prog.info? 5).map (fun i => (i.zero, i.size, i.bytes)) = some (some (.int .u8 0), 1, 1) := by kernel_rfl

/-- The byte of a number at a place. -/
def byteAt (v : Int) (k : Nat) : UInt8 := UInt8.ofNat (v.toNat / 256 ^ k % 256)

/-- The lowest n bytes of a number, the highest first. -/
def be (v : Int) : Nat → List UInt8
  | 0 => []
  | n + 1 => byteAt v n :: be v n

theorem be_length (v : Int) (n : Nat) : (be v n).length = n := by
  induction n with
  | zero => rfl
  | succ n ih => simp [be, ih]

theorem byteAt_int {v : Int} (hv : 0 ≤ v) (k : Nat) : ((byteAt v k).toNat : Int) = v / ((256 ^ k : Nat) : Int) % 256 := by
  obtain ⟨n, rfl⟩ := Int.eq_ofNat_of_zero_le hv
  unfold byteAt
  rw [Int.toNat_natCast]
  generalize 256 ^ k = p
  have h : (UInt8.ofNat (n / p % 256)).toNat = n / p % 256 := by
    rw [UInt8.toNat_ofNat']
    exact Nat.mod_eq_of_lt (Nat.mod_lt _ (by decide))
  rw [h, Int.natCast_emod, Int.natCast_ediv]
  rfl

theorem RU8.byte {v : Int} (hv : 0 ≤ v) (k p : Nat) (hp : 256 ^ k = p) {x : Int} (hx : x = v / (p : Int) % 256) : RU8 [.int .u8 x] (byteAt v k) := by
  unfold RU8
  rw [byteAt_int hv, hp, hx]

/-- One more append: what has turned since w. -/
theorem grown_step {w w1 w2 : World} {r r1 : Option Nat} (h : w.grownBy w1 r) (hl : ∀ j, r1 = some j → w.heap.size ≤ j ∨ r = some j) (o : Obj) (h2 : (w1.alloc o).grownBy w2 r1) : w.grownBy w2 r :=
  (h.trans (World.grownBy_alloc _ _ _)).andThen h2 hl

theorem atOrNew_step {w w1 : World} {r : Option Nat} {a : Option Addr} {g : Nat} {o : Obj} (hs : w.heap.size ≤ w1.heap.size) (hl : ∀ j, a.map (·.block) = some j → w.heap.size ≤ j ∨ r = some j) (h : AtOrNew a g (w1.alloc o)) : ∀ j, (some (⟨g, 0, none⟩ : Addr)).map (·.block) = some j → w.heap.size ≤ j ∨ r = some j := by
  intro j hj
  simp at hj
  subst hj
  rcases h with h | h
  · exact hl _ h
  · left; rw [h]; simp; omega

set_option maxHeartbeats 3200000 in
theorem wire_put (base : Nat) (w : World) (a : Option Addr) (c : Nat) (xs : List UInt8) (v : Int) (hv : 0 ≤ v) (hv' : v ≤ 1099511627776) (hx : xs.length + 6 ≤ 140737488355328) (hb : base ≤ w.heap.size) (hO : Own base 5 w 1 RU8 a c xs) :
    Calls Try.prog 87 #[.slice a xs.length c, .int .i64 v, .int .i64 6] w fun e w' => ∃ g c', e = .returned (.slice (some ⟨g, 0, none⟩) (xs.length + 6) c') ∧ Own base 5 w' 1 RU8 (some ⟨g, 0, none⟩) c' (xs ++ be v 6) ∧ w.grownBy w' (a.map (·.block)) ∧ (w.heap.size ≤ g ∨ a.map (·.block) = some g) := by
  obtain ⟨i0, hi, hz0, hz1, hz2⟩ := info_parts info_byte
  have G := World.grownBy.refl w (a.map (·.block))
  have hL : ∀ j, a.map (·.block) = some j → w.heap.size ≤ j ∨ a.map (·.block) = some j := fun _ h => .inr h
  have hs0 : w.heap.size ≤ w.heap.size := Nat.le_refl _
  have HX := Lib.hid (show xs.length = xs.length from rfl)
  go_enter Try.func87, Try.ntmps87
  go_wp2_with fail
  refine wp_loop_rounds 7 ?_
  rw [rounds_succ]
  go_wp2_with (first | (at_builtin; go_must (refine wpList_app1 (wanted_none rfl) _ _ 153 rfl 5 i0 _ 1 1 Try.underlying153 hi hz0 hz1 hz2 rfl (by decide) rfl ?n0 (hO.below ((Below.refl _ _).alloc (Nat.le_refl _) _)) rfl (SlR.one (ok := fun _ => True) _ _ (byteAt v 5) rfl ?k0 rfl (by simp [Value.oneCell']) trivial) ?l0 ?m0 ?b0 ?_)))
  case n0 => rfl
  case k0 => exact RU8.byte hv 5 1099511627776 (by decide) (by simp <;> omega)
  case l0 => simp; omega
  case m0 => simp [maxLen]; omega
  case b0 => simp; omega
  intro g0 c0 w0 hO0 hg0 hat0 _
  have hL0 := atOrNew_step hs0 hL hat0
  have G0 := grown_step G hL _ hg0
  have hs0' := G0.size
  clear hg0 hat0 hO G hL
  go_wp2_with fail
  rw [rounds_succ]
  go_wp2_with (first | (at_builtin; go_must (refine wpList_app1 (wanted_none rfl) _ _ 153 rfl 5 i0 _ 1 1 Try.underlying153 hi hz0 hz1 hz2 rfl (by decide) rfl ?n1 (hO0.below ((Below.refl _ _).alloc (Nat.le_refl _) _)) rfl (SlR.one (ok := fun _ => True) _ _ (byteAt v 4) rfl ?k1 rfl (by simp [Value.oneCell']) trivial) ?l1 ?m1 ?b1 ?_)))
  case n1 => simp
  case k1 => exact RU8.byte hv 4 4294967296 (by decide) (by simp <;> omega)
  case l1 => simp; omega
  case m1 => simp [maxLen]; omega
  case b1 => simp; omega
  intro g1 c1 w1 hO1 hg1 hat1 _
  have hL1 := atOrNew_step hs0' hL0 hat1
  have G1 := grown_step G0 hL0 _ hg1
  have hs1' := G1.size
  clear hg1 hat1 hO0 G0 hL0
  go_wp2_with fail
  rw [rounds_succ]
  go_wp2_with (first | (at_builtin; go_must (refine wpList_app1 (wanted_none rfl) _ _ 153 rfl 5 i0 _ 1 1 Try.underlying153 hi hz0 hz1 hz2 rfl (by decide) rfl ?n2 (hO1.below ((Below.refl _ _).alloc (Nat.le_refl _) _)) rfl (SlR.one (ok := fun _ => True) _ _ (byteAt v 3) rfl ?k2 rfl (by simp [Value.oneCell']) trivial) ?l2 ?m2 ?b2 ?_)))
  case n2 => simp
  case k2 => exact RU8.byte hv 3 16777216 (by decide) (by simp <;> omega)
  case l2 => simp; omega
  case m2 => simp [maxLen]; omega
  case b2 => simp; omega
  intro g2 c2 w2 hO2 hg2 hat2 _
  have hL2 := atOrNew_step hs1' hL1 hat2
  have G2 := grown_step G1 hL1 _ hg2
  have hs2' := G2.size
  clear hg2 hat2 hO1 G1 hL1
  go_wp2_with fail
  rw [rounds_succ]
  go_wp2_with (first | (at_builtin; go_must (refine wpList_app1 (wanted_none rfl) _ _ 153 rfl 5 i0 _ 1 1 Try.underlying153 hi hz0 hz1 hz2 rfl (by decide) rfl ?n3 (hO2.below ((Below.refl _ _).alloc (Nat.le_refl _) _)) rfl (SlR.one (ok := fun _ => True) _ _ (byteAt v 2) rfl ?k3 rfl (by simp [Value.oneCell']) trivial) ?l3 ?m3 ?b3 ?_)))
  case n3 => simp
  case k3 => exact RU8.byte hv 2 65536 (by decide) (by simp <;> omega)
  case l3 => simp; omega
  case m3 => simp [maxLen]; omega
  case b3 => simp; omega
  intro g3 c3 w3 hO3 hg3 hat3 _
  have hL3 := atOrNew_step hs2' hL2 hat3
  have G3 := grown_step G2 hL2 _ hg3
  have hs3' := G3.size
  clear hg3 hat3 hO2 G2 hL2
  go_wp2_with fail
  rw [rounds_succ]
  go_wp2_with (first | (at_builtin; go_must (refine wpList_app1 (wanted_none rfl) _ _ 153 rfl 5 i0 _ 1 1 Try.underlying153 hi hz0 hz1 hz2 rfl (by decide) rfl ?n4 (hO3.below ((Below.refl _ _).alloc (Nat.le_refl _) _)) rfl (SlR.one (ok := fun _ => True) _ _ (byteAt v 1) rfl ?k4 rfl (by simp [Value.oneCell']) trivial) ?l4 ?m4 ?b4 ?_)))
  case n4 => simp
  case k4 => exact RU8.byte hv 1 256 (by decide) (by simp <;> omega)
  case l4 => simp; omega
  case m4 => simp [maxLen]; omega
  case b4 => simp; omega
  intro g4 c4 w4 hO4 hg4 hat4 _
  have hL4 := atOrNew_step hs3' hL3 hat4
  have G4 := grown_step G3 hL3 _ hg4
  have hs4' := G4.size
  clear hg4 hat4 hO3 G3 hL3
  go_wp2_with fail
  rw [rounds_succ]
  go_wp2_with (first | (at_builtin; go_must (refine wpList_app1 (wanted_none rfl) _ _ 153 rfl 5 i0 _ 1 1 Try.underlying153 hi hz0 hz1 hz2 rfl (by decide) rfl ?n5 (hO4.below ((Below.refl _ _).alloc (Nat.le_refl _) _)) rfl (SlR.one (ok := fun _ => True) _ _ (byteAt v 0) rfl ?k5 rfl (by simp [Value.oneCell']) trivial) ?l5 ?m5 ?b5 ?_)))
  case n5 => simp
  case k5 => exact RU8.byte hv 0 1 (by decide) (by simp <;> omega)
  case l5 => simp; omega
  case m5 => simp [maxLen]; omega
  case b5 => simp; omega
  intro g5 c5 w5 hO5 hg5 hat5 _
  have hL5 := atOrNew_step hs4' hL4 hat5
  have G5 := grown_step G4 hL4 _ hg5
  have hs5' := G5.size
  clear hg5 hat5 hO4 G4 hL4
  have HO := Lib.hid hO5
  have HG := Lib.hid G5
  have HL := Lib.hid (hL5 g5 rfl)
  clear hO5 G5 hL5
  go_wp2_with fail
  rw [rounds_succ]
  go_wp2_with fail
  go_ret
  refine ⟨g5, c5, rfl, ?_, HG.out, HL.out⟩
  have e : be v 6 = [byteAt v 5, byteAt v 4, byteAt v 3, byteAt v 2, byteAt v 1, byteAt v 0] := rfl
  rw [e]
  exact HO.out

end Go.Proofs.Ytikfjmcgoamdlaa
