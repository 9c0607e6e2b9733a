/- For every list of acts, whatever is written over what a cluster has told, it answers as one does to which nothing is done. No condition. -/
import Derived.Test.YtnjjdpiofbajlaaGreatRows
import Derived.WalkKit
import Derived.ProofKit
import Derived.OpenShut
import Derived.SizedLaws
import Derived.Test.YtnjjdpiofbajlaaGreatP3
import Derived.Test.YtnjjdpiofbajlaaGreatP9
import Derived.Test.YtnjjdpiofbajlaaGreatP44
set_option linter.unusedSimpArgs false
set_option linter.unusedVariables false
set_option maxHeartbeats 16000000
set_option maxRecDepth 100000
namespace Go.Proofs.YtnjjdpiofbajlaaGreat.topMemory
open Go.ChangeShapes Go.WideShapes Go.ChangeAt Go.RowKit

theorem look {w0 : World} {gV gb : Nat} {kb : List Nat} {l : List Deed} (hgb : w0.heap.size ≤ gb) (hB : ∀ a ∈ l, a.call.label.length * 16 ≤ 140737488351232 ∧ a.call.grants.length * 8 ≤ 140737488351232) : LookAt2 30 #[.pointer (some ⟨gV, 0, none⟩)] w0 [(gV, 23, [.pointer (some ⟨gb, 0, none⟩)])] gb kb l := by
  intro n a ha h120 gc kg V la lc ga gx hgc P h1 h2
  obtain ⟨hn, rfl⟩ := gEs ha
  have hst := (doAll_take hn newC).1
  obtain ⟨b1, b2⟩ := hB l[n] (List.getElem_mem hn)
  obtain ⟨C', rc, rn, rt, hs⟩ : ∃ C' rc rn rt, doC (doAll newC (l.take n)) l[n] = (C', ⟨rc, rn, rt⟩) := ⟨_, _, _, _, rfl⟩
  rw [hst, hs] at P ⊢
  dsimp only at P ⊢
  unfold deedV RepV
  exact look_memory hs b1 b2 hgb gc kg V la lc ga gx P h1 h2

theorem walk (w : World) (l : List Deed) (la : Option Addr) (lc : Nat) (hR : SlR (fun _ => True) w 12 (RDeed (fun _ => True) w) la lc l) (hlen : l.length * 136 ≤ 140737488355328) (hB : ∀ a ∈ l, a.call.label.length * 16 ≤ 140737488351232 ∧ a.call.grants.length * 8 ≤ 140737488351232) :
    Calls Tryz.prog 8 #[.slice la l.length lc] w fun r w' => r = .returned (.bool true) ∧ Below w.heap.size w w' := by
  have eg : ∀ args w, (callFunc 30 args).run Tryz.prog w = .ok (.enter 30 args) w := enters_of Tryz.func30 (by kernel_rfl) rfl
  go_enter Tryz.func8, Tryz.ntmps8
  go_upto_region 2 with (first
    | go_skip
    | (go_at_call 15; go_must (refine (cluster_NewX _).mono ?_; rintro e v2 ⟨gb, kb, rfl, P1⟩; have st := St.start v2))
    | (with_reducible refine mA st Tryz.zeroValue23 ?_; clear st; intro gV w3 hgV st) | (with_reducible refine mS 0 st Tryz.sizeOf23 ?_; clear st; intro w4 st hw4m hw4z))
  try simp only [kP, kA, kS, kZ]
  have hgb := P1.gcNew
  have P2 := ((P1.adopt (St.start w)).walk st).anyD
  have HPl := qh (top_play2 30 #[.pointer (some ⟨gV, 0, none⟩)] eg w w4 [(gV, 23, [.pointer (some ⟨gb, 0, none⟩)])] gb kb l la lc hR (by omega) hB P2 (look hgb hB))
  clear P1 P2 st
  go_wp2_with (first | go_skip | (go_at_call 9; go_must (refine HPl.out.mono ?_; rintro e v5 ⟨gc, rfl, hb⟩)))
  go_ret
  exact ⟨rfl, hb⟩

theorem own : ownKnob Tryz.prog.godebug = none := by kernel_rfl
theorem laid : laidOutB Tryz.prog = true := by kernel_rfl

theorem contract (H : Type) (enc : TypeId × Value → H) (W : World) (base : Nat) (args : Array Value) (ds gs : List (DataW H)) (before : List MemPlace)
    (hval : ∀ (j : Nat) t v, Tryz.f8.params[j]? = some t → args[j]? = some v → Value.okWide Tryz.prog W .any base t v)
    (hW : DataW.Whole enc Tryz.prog Tryz.f8.params.toList Rows.topMemorySpec.vars false W args.toList ds gs before)
    (hsz : (DataW.weightsEach Tryz.prog (Tryz.f8.params.toList ++ Rows.topMemorySpec.plain.varTypes Tryz.prog) (ds ++ gs)).all (· ≤ reachBytes) = true) :
    Calls Tryz.prog 8 args W fun e W' => ∃ v, e = .returned v ∧ Rows.topMemorySpec.post enc Tryz.prog Tryz.f8 false true false false W args v W' := by
  have hW' := hW
  obtain ⟨p, q, hTrd, hV, rfl, hfz, hnd⟩ := hW
  have hA : DataW.TrodAll enc Tryz.prog W 0 (fun _ => true) true Tryz.f8.params.toList args.toList ds p := hTrd
  have hpar := Tryz.params8
  rw [hpar] at hA hval hsz
  obtain ⟨v0, vs0, d0, ds0, p0, q0, hargs0, rfl, rfl, h0, r0⟩ := trodAll_cons hA
  obtain ⟨hnil, rfl, rfl⟩ := trodAll_nil r0
  obtain rfl : args = #[v0] := by cases args; simp_all
  obtain ⟨rfl, rfl⟩ := trodVars_none hV
  have w0 : ∀ n ∈ d0.weights Tryz.prog 22, n ≤ reachBytes := fun n hn => by simpa using List.all_eq_true.1 hsz n (DataW.weights_mem_each (j := 0) (t := 22) (d := d0) rfl rfl n hn)
  obtain ⟨x0, a0, c0, rfl, hR0, hl0, hx0, hm0⟩ := arg_slice (fit := Deed.fit) (mass := Deed.mass) reads_Deed Tryz.underlying22 (by kernel_rfl : Tryz.prog.cellsOf _ = 12) (by decide) (by kernel_rfl : Tryz.prog.bytesOf _ = 136) (hval 0 _ v0 rfl rfl) h0 w0
  refine (walk W x0 a0 c0 hR0 (by omega) (fun a ha => ⟨by have := (hx0 a ha).2.2.2.2.2.2.2.2.2.1.1; omega, by have := (hx0 a ha).2.2.2.2.2.2.2.2.2.2.1.1; omega⟩)).mono fun e W' ⟨he, hb⟩ => ?_
  exact ⟨_, he, law_post laid (by kernel_rfl) hW' rfl rfl (by kernel_rfl) Tryz.underlying4 hb⟩

theorem lifted (os : Os) (started : os.Started) (H : Type) (enc : TypeId × Value → H) :
    ReturnsInHanded {} Tryz.checked os 8 .any (Rows.topMemorySpec.pre6 enc Tryz.prog Tryz.f8 Rows.topMemoryRow.domain false) (Rows.topMemorySpec.post enc Tryz.prog Tryz.f8 false true false false) := by
  refine returnsInHanded_of_change_sized (C := Tryz.checked) own started (by kernel_rfl) Tryz.func8
    (ChangeSpec.witness6 (enc := enc) (C := Tryz.checked) false ⟨#[], #[.slice none 0 0], []⟩ 12 (by kernel_rfl) (by kernel_rfl) (by kernel_rfl) (by kernel_rfl)) ?_
  intro W base args ds gs before hval hW _ hsz _
  exact contract H enc W base args ds gs before hval hW hsz

theorem proved : Rows.TopMemorySaid :=
  OpenClaim.holds_of_wide 8 Tryz.f8 rfl rfl rfl rfl rfl rfl rfl ⟨rfl, rfl, rfl, rfl, rfl⟩ rfl rfl rfl rfl rfl (by kernel_rfl) Tryz.func8 (by kernel_rfl)
    (of_decide_eq_true (by kernel_rfl)) (by unfold Func.isWrapper; first | (rw [if_pos (by decide +kernel)]; kernel_rfl) | (rw [if_neg (by decide +kernel)]; exact ⟨rfl, rfl⟩))
    (fun os started H enc _ => lifted os started H enc)

end Go.Proofs.YtnjjdpiofbajlaaGreat.topMemory
