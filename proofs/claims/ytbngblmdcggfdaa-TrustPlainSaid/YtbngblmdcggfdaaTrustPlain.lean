/- For all certs, with mail that names nothing every host is trusted, and nothing is shown. No condition. -/
import Derived.Test.YtbngblmdcggfdaaRows
import Derived.WalkKit
import Derived.ProofKit
import Derived.OpenShut
import Derived.SizedLaws
import Derived.Test.YtbngblmdcggfdaaFrame
import Derived.Test.YtbngblmdcggfdaaOpens
import Derived.Test.YtbngblmdcggfdaaTrusts
import Derived.Test.YtbngblmdcggfdaaTrustM
import Derived.Test.YtbngblmdcggfdaaPick
set_option linter.unusedSimpArgs false
set_option linter.unusedVariables false
namespace Go.Proofs.Ytbngblmdcggfdaa.trustPlain
open Go.ChangeShapes Go.WideShapes Go.ChangeAt Go.RowKit

theorem named_nil (s : ByteArray) : namedL ⟨0, 0, [], [], s⟩ = [] := rfl

set_option maxRecDepth 100000 in
set_option maxHeartbeats 3000000 in
theorem walk (w : World) (l : List Cert) (la : Option Addr) (lc : Nat) (h now : Int) (s : ByteArray) (hR : SlR (fun _ => True) w 4 RCert la lc l) (hl : l.length * 32 ≤ 140737488351232) (hh : fitI h) :
    Calls Try.prog 5 #[.slice la l.length lc, .int .i64 h, .int .i64 now, .string s] w fun r w' => r = .returned (.bool true) ∧ Below w.heap.size w w' := by
  have HMay := Lib.hid (fun (W : World) (n : Int) (hn : 0 ≤ n ∧ n < 4) (hb : Below w.heap.size w W) => (show Calls Try.prog 9 #[.slice la l.length lc, .int .i64 n, .agg #[.int .i64 0, .int .i64 0, .slice none 0 0, .slice none 0 0, .string s], .int .i64 now] W fun e w' => e = .returned (.bool true) ∧ Below W.heap.size W w' from
    (trust_May (fun _ => True) W l la lc n ⟨0, 0, [], [], s⟩ none 0 none 0 now (by simp) (hR.below hb) ⟨SlR.nil _ _ _ _, SlR.nil _ _ _ _⟩).mono fun e w' h => ⟨by rw [h.1]; unfold mayB; rw [named_nil, (four_iff n).2 hn]; rfl, h.2⟩))
  have hsh : (showL l ⟨0, 0, [], [], s⟩).length = 0 := by
    unfold showL
    rw [named_nil]
    simp [inL]
  have HSh := Lib.hid (fun (W : World) (hb : Below w.heap.size w W) => (show Calls Try.prog 13 #[.slice la l.length lc, .agg #[.int .i64 0, .int .i64 0, .slice none 0 0, .slice none 0 0, .string s]] W fun e w' => (∃ a c, e = .returned (.slice a 0 c)) ∧ Below W.heap.size W w' from
    (trust_Show (fun _ => True) W l la lc ⟨0, 0, [], [], s⟩ none 0 none 0 (by simp) (by omega) (hR.below hb) ⟨SlR.nil _ _ _ _, SlR.nil _ _ _ _⟩).mono fun e w' ⟨a, c, h, hb, _⟩ => ⟨⟨a, c, by rw [h, hsh]⟩, hb⟩))
  clear hsh
  have st := St.start w
  go_enter Try.func5, Try.ntmps5
  go_wp2_with (first
    | go_skip
    | (go_at_call 19; go_must (refine (keep_pick _ h 4 (by decide) (by decide) hh).mono ?_; rintro e v1 ⟨⟨p, rfl, hp⟩, rfl⟩))
    | (go_at_call 9; go_must (refine (HMay.out _ p hp st.below).mono ?_; rintro e v2 ⟨rfl, hb2⟩; replace st := st.call hb2; clear hb2))
    | (go_at_call 13; go_must (refine (HSh.out _ st.below).mono ?_; rintro e v2 ⟨⟨a3, c3, rfl⟩, hb2⟩; replace st := st.call hb2; clear hb2))
    | (go_at_call 18; go_must (refine (trusts_keep _).mono ?_; rintro e v2 ⟨rfl, hb2⟩; replace st := st.call hb2; clear hb2)))
  go_ret
  exact ⟨rfl, st.below⟩

theorem own : ownKnob Try.prog.godebug = none := by kernel_rfl
theorem laid : laidOutB Try.prog = true := by kernel_rfl

set_option maxRecDepth 100000 in
theorem contract (H : Type) (enc : TypeId × Value → H) (W : World) (base : Nat) (args : Array Value) (ds gs : List (DataW H)) (before : List MemPlace)
    (hval : ∀ (j : Nat) t v, Try.f5.params[j]? = some t → args[j]? = some v → Value.okWide Try.prog W .any base t v)
    (hW : DataW.Whole enc Try.prog Try.f5.params.toList Rows.trustPlainSpec.vars false W args.toList ds gs before)
    (hsz : (DataW.weightsEach Try.prog (Try.f5.params.toList ++ Rows.trustPlainSpec.plain.varTypes Try.prog) (ds ++ gs)).all (· ≤ reachBytes) = true) :
    Calls Try.prog 5 args W fun e W' => ∃ v, e = .returned v ∧ Rows.trustPlainSpec.post enc Try.prog Try.f5 false true false false W args v W' := by
  have hW' := hW
  obtain ⟨p, q, hA0, hV, rfl, hfz, hnd⟩ := hW
  have hA : DataW.TrodAll enc Try.prog W 0 (fun _ => true) true Try.f5.params.toList args.toList ds p := hA0
  have hpar := Try.params5
  rw [hpar] at hA hval hsz
  obtain ⟨v0, vs0, d0, ds0, p0, q0, hargs0, rfl, rfl, h0, r0⟩ := trodAll_cons hA
  obtain ⟨v1, vs1, d1, ds1, p1, q1, hargs1, rfl, rfl, h1, r1⟩ := trodAll_cons r0
  obtain ⟨v2, vs2, d2, ds2, p2, q2, hargs2, rfl, rfl, h2, r2⟩ := trodAll_cons r1
  obtain ⟨v3, vs3, d3, ds3, p3, q3, hargs3, rfl, rfl, h3, r3⟩ := trodAll_cons r2
  obtain ⟨hnil, rfl, rfl⟩ := trodAll_nil r3
  obtain rfl : args = #[v0, v1, v2, v3] := by cases args; simp_all
  obtain ⟨rfl, rfl⟩ := trodVars_none hV
  have w0 : ∀ n ∈ d0.weights Try.prog 22, n ≤ reachBytes := fun n hn => by simpa using List.all_eq_true.1 hsz n (DataW.weights_mem_each (j := 0) (t := 22) (d := d0) rfl rfl n hn)
  obtain ⟨x0, a0, c0, rfl, hR0, hl0, hx0, hm0⟩ := arg_slice (fit := Cert.fit) (mass := Cert.mass) reads_Cert Try.underlying22 (by kernel_rfl : Try.prog.cellsOf _ = 4) (by decide) (by kernel_rfl : Try.prog.bytesOf _ = 32) (hval 0 _ v0 rfl rfl) h0 w0
  have w1 : ∀ n ∈ d1.weights Try.prog 3, n ≤ reachBytes := fun n hn => by simpa using List.all_eq_true.1 hsz n (DataW.weights_mem_each (j := 1) (t := 3) (d := d1) rfl rfl n hn)
  obtain ⟨x1, rfl, hx1⟩ := arg_int Try.underlying3 (hval 1 _ v1 rfl rfl) h1
  have w2 : ∀ n ∈ d2.weights Try.prog 3, n ≤ reachBytes := fun n hn => by simpa using List.all_eq_true.1 hsz n (DataW.weights_mem_each (j := 2) (t := 3) (d := d2) rfl rfl n hn)
  obtain ⟨x2, rfl, hx2⟩ := arg_int Try.underlying3 (hval 2 _ v2 rfl rfl) h2
  have w3 : ∀ n ∈ d3.weights Try.prog 9, n ≤ reachBytes := fun n hn => by simpa using List.all_eq_true.1 hsz n (DataW.weights_mem_each (j := 3) (t := 9) (d := d3) rfl rfl n hn)
  obtain ⟨x3, rfl, hx3, hm3⟩ := arg_string Try.underlying9 (hval 3 _ v3 rfl rfl) h3 w3
  refine (walk W x0 a0 c0 x1 x2 x3 hR0 hl0 hx1).mono fun e W' ⟨he, hb⟩ => ?_
  exact ⟨_, he, law_post laid (by kernel_rfl) hW' rfl rfl (by kernel_rfl) Try.underlying4 hb⟩

set_option maxRecDepth 100000 in
theorem lifted (os : Os) (started : os.Started) (H : Type) (enc : TypeId × Value → H) :
    ReturnsInHanded {} Try.checked os 5 .any (Rows.trustPlainSpec.pre6 enc Try.prog Try.f5 Rows.trustPlainRow.domain false) (Rows.trustPlainSpec.post enc Try.prog Try.f5 false true false false) := by
  refine returnsInHanded_of_change_sized (C := Try.checked) own started (by kernel_rfl) Try.func5
    (ChangeSpec.witness6 (enc := enc) (C := Try.checked) false ⟨#[], #[.slice none 0 0, .int .i64 0, .int .i64 0, .string .empty], []⟩ 12 (by kernel_rfl) (by kernel_rfl) (by kernel_rfl) (by kernel_rfl)) ?_
  intro W base args ds gs before hval hW _ hsz _
  exact contract H enc W base args ds gs before hval hW hsz

theorem proved : Rows.TrustPlainSaid :=
  OpenClaim.holds_of_wide 5 Try.f5 rfl rfl rfl rfl rfl rfl rfl ⟨rfl, rfl, rfl, rfl, rfl⟩ rfl rfl rfl rfl rfl (by kernel_rfl) Try.func5 (by kernel_rfl)
    (of_decide_eq_true (by kernel_rfl)) (by unfold Func.isWrapper; first | (rw [if_pos (by decide +kernel)]; kernel_rfl) | (rw [if_neg (by decide +kernel)]; exact ⟨rfl, rfl⟩))
    (fun os started H enc _ => lifted os started H enc)

end Go.Proofs.Ytbngblmdcggfdaa.trustPlain
