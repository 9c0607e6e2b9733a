/- For every list of acts, whoever grants a category owns it, and each cert was given by a host with an owner. No condition. -/
import Derived.Test.YtnjjdpiofbajlaaGreatRows
import Derived.WalkKit
import Derived.ProofKit
import Derived.OpenShut
import Derived.SizedLaws
import Derived.Test.YtnjjdpiofbajlaaGreatP3
import Derived.Test.YtnjjdpiofbajlaaGreatP8
import Derived.Test.YtnjjdpiofbajlaaGreatP37
import Derived.Test.YtnjjdpiofbajlaaGreatP33
set_option linter.unusedSimpArgs false
set_option linter.unusedVariables false
namespace Go.Proofs.YtnjjdpiofbajlaaGreat.topOwned
open Go.ChangeShapes Go.WideShapes Go.ChangeAt Go.RowKit

theorem own_all : ∀ (l : List Deed) {C : Clu}, C.ok → OwnI C → OwnI (doAll C l)
  | [], _, _, h => h
  | a :: l, _, hok, h => own_all l (doC_ok hok a) (own_step hok h a)

theorem look {w0 : World} {l : List Deed} : LookAt 10 #[] w0 [] l (fun _ bl _ _ => bl = []) := by
  intro n a ha h120 gc kg W Wd bl D la lc ga gx hgc P J h1 h2
  subst J
  refine (look_owned (own_all (l.take (n + 1)) newC_ok own_new) a _ gc kg W Wd D la lc ga gx P).mono ?_
  rintro e W' ⟨rfl, PN⟩
  exact ⟨rfl, [], fun _ => False, PN, rfl⟩

set_option maxRecDepth 100000 in
set_option maxHeartbeats 8000000 in
theorem walk (w : World) (l : List Deed) (la : Option Addr) (lc : Nat) (hR : SlR (fun _ => True) w 12 (RDeed (fun _ => True) w) la lc l) (hlen : l.length * 136 ≤ 140737488355328) (hB : ∀ a ∈ l, a.call.label.length * 16 ≤ 140737488351232 ∧ a.call.grants.length * 8 ≤ 140737488351232) :
    Calls Tryz.prog 3 #[.slice la l.length lc] w fun r w' => r = .returned (.bool true) ∧ Below w.heap.size w w' := by
  have eg : ∀ args w, (callFunc 10 args).run Tryz.prog w = .ok (.enter 10 args) w := enters_of Tryz.func10 (by kernel_rfl) rfl
  have HPl := Lib.hid (top_play 10 #[] eg w [] [] (fun _ => True) l la lc hR (by simp) (by omega) hB (St.start w) (fun _ bl _ _ => bl = []) (fun _ _ => rfl) (fun _ _ _ _ _ _ h => h) look)
  go_enter Tryz.func3, Tryz.ntmps3
  go_wp2_with (first | go_skip | (go_at_call 9; go_must (refine HPl.out.mono ?_; rintro e v2 ⟨gc, kg, bl, D, rfl, hgc, P, rfl⟩)))
  go_ret
  refine ⟨rfl, ?_⟩
  exact P.st.below

theorem own : ownKnob Tryz.prog.godebug = none := by kernel_rfl
theorem laid : laidOutB Tryz.prog = true := by kernel_rfl

set_option maxRecDepth 100000 in
theorem contract (H : Type) (enc : TypeId × Value → H) (W : World) (base : Nat) (args : Array Value) (ds gs : List (DataW H)) (before : List MemPlace)
    (hval : ∀ (j : Nat) t v, Tryz.f3.params[j]? = some t → args[j]? = some v → Value.okWide Tryz.prog W .any base t v)
    (hW : DataW.Whole enc Tryz.prog Tryz.f3.params.toList Rows.topOwnedSpec.vars false W args.toList ds gs before)
    (hsz : (DataW.weightsEach Tryz.prog (Tryz.f3.params.toList ++ Rows.topOwnedSpec.plain.varTypes Tryz.prog) (ds ++ gs)).all (· ≤ reachBytes) = true) :
    Calls Tryz.prog 3 args W fun e W' => ∃ v, e = .returned v ∧ Rows.topOwnedSpec.post enc Tryz.prog Tryz.f3 false true false false W args v W' := by
  have hW' := hW
  obtain ⟨p, q, hTrd, hV, rfl, hfz, hnd⟩ := hW
  have hA : DataW.TrodAll enc Tryz.prog W 0 (fun _ => true) true Tryz.f3.params.toList args.toList ds p := hTrd
  have hpar := Tryz.params3
  rw [hpar] at hA hval hsz
  obtain ⟨v0, vs0, d0, ds0, p0, q0, hargs0, rfl, rfl, h0, r0⟩ := trodAll_cons hA
  obtain ⟨hnil, rfl, rfl⟩ := trodAll_nil r0
  obtain rfl : args = #[v0] := by cases args; simp_all
  obtain ⟨rfl, rfl⟩ := trodVars_none hV
  have w0 : ∀ n ∈ d0.weights Tryz.prog 22, n ≤ reachBytes := fun n hn => by simpa using List.all_eq_true.1 hsz n (DataW.weights_mem_each (j := 0) (t := 22) (d := d0) rfl rfl n hn)
  obtain ⟨x0, a0, c0, rfl, hR0, hl0, hx0, hm0⟩ := arg_slice (fit := Deed.fit) (mass := Deed.mass) reads_Deed Tryz.underlying22 (by kernel_rfl : Tryz.prog.cellsOf _ = 12) (by decide) (by kernel_rfl : Tryz.prog.bytesOf _ = 136) (hval 0 _ v0 rfl rfl) h0 w0
  refine (walk W x0 a0 c0 hR0 (by omega) (fun a ha => ⟨by have := (hx0 a ha).2.2.2.2.2.2.2.2.2.1.1; omega, by have := (hx0 a ha).2.2.2.2.2.2.2.2.2.2.1.1; omega⟩)).mono fun e W' ⟨he, hb⟩ => ?_
  exact ⟨_, he, law_post laid (by kernel_rfl) hW' rfl rfl (by kernel_rfl) Tryz.underlying4 hb⟩

set_option maxRecDepth 100000 in
theorem lifted (os : Os) (started : os.Started) (H : Type) (enc : TypeId × Value → H) :
    ReturnsInHanded {} Tryz.checked os 3 .any (Rows.topOwnedSpec.pre6 enc Tryz.prog Tryz.f3 Rows.topOwnedRow.domain false) (Rows.topOwnedSpec.post enc Tryz.prog Tryz.f3 false true false false) := by
  refine returnsInHanded_of_change_sized (C := Tryz.checked) own started (by kernel_rfl) Tryz.func3
    (ChangeSpec.witness6 (enc := enc) (C := Tryz.checked) false ⟨#[], #[.slice none 0 0], []⟩ 12 (by kernel_rfl) (by kernel_rfl) (by kernel_rfl) (by kernel_rfl)) ?_
  intro W base args ds gs before hval hW _ hsz _
  exact contract H enc W base args ds gs before hval hW hsz

theorem proved : Rows.TopOwnedSaid :=
  OpenClaim.holds_of_wide 3 Tryz.f3 rfl rfl rfl rfl rfl rfl rfl ⟨rfl, rfl, rfl, rfl, rfl⟩ rfl rfl rfl rfl rfl (by kernel_rfl) Tryz.func3 (by kernel_rfl)
    (of_decide_eq_true (by kernel_rfl)) (by unfold Func.isWrapper; first | (rw [if_pos (by decide +kernel)]; kernel_rfl) | (rw [if_neg (by decide +kernel)]; exact ⟨rfl, rfl⟩))
    (fun os started H enc _ => lifted os started H enc)

end Go.Proofs.YtnjjdpiofbajlaaGreat.topOwned
