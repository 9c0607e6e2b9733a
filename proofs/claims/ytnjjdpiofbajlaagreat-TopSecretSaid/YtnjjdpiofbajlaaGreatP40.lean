/- Walks and plain laws, part 40. -/
import Derived.Test.YtnjjdpiofbajlaaGreatP28
import Derived.Test.YtnjjdpiofbajlaaGreatP37
set_option linter.unusedSimpArgs false
set_option linter.unusedVariables false
set_option maxHeartbeats 16000000
set_option maxRecDepth 100000
namespace Go.Proofs.YtnjjdpiofbajlaaGreat
open Go.RowKit
def taintB (x : Thr) (c : Int) : Bool := decide (1 < lAt x.label c) && !inL x.own c
def lowB (x : Thr) (c : Int) : Bool := decide (lAt x.label c ≤ 1) && !inL x.own c
theorem top_tainted (ok : Nat → Prop) (w : World) (x : Thr) (la : Option Addr) (lc : Nat) (oa : Option Addr) (oc : Nat) (ba : Option Addr) (bc : Nat) (ma : Option Addr) (mc : Nat) (c : Int) (hl : x.label.length ≤ 8) (ho : x.own.length ≤ 8) (hT : ThrS ok w x la lc oa oc ba bc ma mc) :
  Calls Tryz.prog 16 #[thrV x la lc oa oc ba bc ma mc, .int .i64 c] w fun e w' => e = .returned (.bool (taintB x c)) ∧ Below w.heap.size w w' := by
 have st := St.start w
 unfold thrV
 have HA := qh (fun (V : World) (hV : Below w.heap.size w V) => label_At ok V la lc x.label c (by omega) (hT.label.below hV))
 have HI := qh (fun (V : World) (hV : Below w.heap.size w V) => top_in ok V oa oc x.own c (by omega) (hT.own.below hV))
 have HB := qh (show taintB x c = (decide (1 < lAt x.label c) && !inL x.own c) from rfl)
 clear hT
 cases hd : decide (1 < lAt x.label c) with
 | true =>
  have HD := qh hd
  go_enter Tryz.func16, Tryz.ntmps16
  go_wp2_with (first
   | go_skip | (with_reducible refine mB 39 st ?_; clear st; intro g1 w1 hg1 st) | (with_reducible refine mX st Tryz.isAgg27 ?_) | (with_reducible refine mX st Tryz.isAgg28 ?_)
   | (go_at_call 22; go_must (refine (HA.out _ st.below).mono ?_; rintro e v2 ⟨rfl, hb2⟩; replace st := st.call hb2))
   | (go_at_call 12; go_must (refine (HI.out _ st.below).mono ?_; rintro e v3 ⟨rfl, rfl⟩)))
  go_ret
  exact ⟨by rw [HB.out, HD.out]; simp, st.below⟩
 | false =>
  have HD := qh hd
  go_enter Tryz.func16, Tryz.ntmps16
  go_wp2_with (first
   | go_skip | (with_reducible refine mB 39 st ?_; clear st; intro g1 w1 hg1 st) | (with_reducible refine mX st Tryz.isAgg27 ?_) | (with_reducible refine mX st Tryz.isAgg28 ?_)
   | (go_at_call 22; go_must (refine (HA.out _ st.below).mono ?_; rintro e v2 ⟨rfl, hb2⟩; replace st := st.call hb2))
   | (go_at_call 12; go_must (refine (HI.out _ st.below).mono ?_; rintro e v3 ⟨rfl, rfl⟩)))
  go_ret
  exact ⟨by rw [HB.out, HD.out]; simp, st.below⟩
theorem top_low (ok : Nat → Prop) (w : World) (x : Thr) (la : Option Addr) (lc : Nat) (oa : Option Addr) (oc : Nat) (ba : Option Addr) (bc : Nat) (ma : Option Addr) (mc : Nat) (c : Int) (hl : x.label.length ≤ 8) (ho : x.own.length ≤ 8) (hT : ThrS ok w x la lc oa oc ba bc ma mc) :
  Calls Tryz.prog 21 #[thrV x la lc oa oc ba bc ma mc, .int .i64 c] w fun e w' => e = .returned (.bool (lowB x c)) ∧ Below w.heap.size w w' := by
 have st := St.start w
 unfold thrV
 have HA := qh (fun (V : World) (hV : Below w.heap.size w V) => label_At ok V la lc x.label c (by omega) (hT.label.below hV))
 have HI := qh (fun (V : World) (hV : Below w.heap.size w V) => top_in ok V oa oc x.own c (by omega) (hT.own.below hV))
 have HB := qh (show lowB x c = (decide (lAt x.label c ≤ 1) && !inL x.own c) from rfl)
 clear hT
 cases hd : decide (lAt x.label c ≤ 1) with
 | true =>
  have HD := qh hd
  go_enter Tryz.func21, Tryz.ntmps21
  go_wp2_with (first
   | go_skip | (with_reducible refine mB 39 st ?_; clear st; intro g1 w1 hg1 st) | (with_reducible refine mX st Tryz.isAgg27 ?_) | (with_reducible refine mX st Tryz.isAgg28 ?_)
   | (go_at_call 22; go_must (refine (HA.out _ st.below).mono ?_; rintro e v2 ⟨rfl, hb2⟩; replace st := st.call hb2))
   | (go_at_call 12; go_must (refine (HI.out _ st.below).mono ?_; rintro e v3 ⟨rfl, rfl⟩)))
  go_ret
  exact ⟨by rw [HB.out, HD.out]; simp, st.below⟩
 | false =>
  have HD := qh hd
  go_enter Tryz.func21, Tryz.ntmps21
  go_wp2_with (first
   | go_skip | (with_reducible refine mB 39 st ?_; clear st; intro g1 w1 hg1 st) | (with_reducible refine mX st Tryz.isAgg27 ?_) | (with_reducible refine mX st Tryz.isAgg28 ?_)
   | (go_at_call 22; go_must (refine (HA.out _ st.below).mono ?_; rintro e v2 ⟨rfl, hb2⟩; replace st := st.call hb2))
   | (go_at_call 12; go_must (refine (HI.out _ st.below).mono ?_; rintro e v3 ⟨rfl, rfl⟩)))
  go_ret
  exact ⟨by rw [HB.out, HD.out]; simp, st.below⟩
end Go.Proofs.YtnjjdpiofbajlaaGreat
