/- For every list of acts, mail comes only where it may flow, and from another host only if that is trusted with all that the mail names. No condition. -/
import Derived.Test.YtnjjdpiofbajlaaRows
import Derived.WalkKit
import Derived.ProofKit
import Derived.OpenShut
import Derived.SizedLaws
import Derived.Test.YtnjjdpiofbajlaaP3
import Derived.Test.YtnjjdpiofbajlaaP8
import Derived.Test.YtnjjdpiofbajlaaP34
import Derived.Test.YtnjjdpiofbajlaaP35
set_option linter.unusedSimpArgs false
set_option linter.unusedVariables false
namespace Go.Proofs.Ytnjjdpiofbajlaa.topTrusted
open Go.ChangeShapes Go.WideShapes Go.ChangeAt Go.RowKit

/-- The captured block: how much mail each had. -/
def LenJ (gW : Nat) (C : Clu) (bl : Blks) : Prop := bl = [(gW, 58, iv (mailsN C))]

theorem look {w0 : World} {gW : Nat} {l : List Deed} : LookAt 16 #[.pointer (some ⟨gW, 0, none⟩)] w0 [gW] l (fun n bl V D => LenJ gW (doAll newC (l.take n)) bl) := by
  intro n a ha h120 gc kg W Wd bl D la lc ga gx hgc P J h1 h2
  obtain ⟨hn, rfl⟩ := List.getElem?_eq_some_iff.1 ha
  have hst := (doAll_take hn newC).1
  have hok := doAll_ok (l.take n) newC_ok
  dsimp only at J ⊢
  rw [hst] at P ⊢
  cases J
  have hm6 : ∀ h t : Nat, h < 4 → t < 4 → ((doAll newC (l.take n)).thr h t).mails.length ≤ 6 := fun h t hh ht => by
    obtain ⟨k, ek, e2, hk, hkh⟩ := hok.kerAt hh
    unfold Clu.thr; rw [e2]; exact (hk.at t).mailN
  have hA : ∀ h t : Nat, h < 4 → t < 4 → Comes (doAll newC (l.take n)) (doC (doAll newC (l.take n)) l[n]).1 h t := fun h t hh ht => doC_comes hok l[n] (four_n hh) (four_n ht)
  refine (look_trusted hA hm6 gc kg W Wd D la lc ga gx P).mono ?_
  rintro e W' ⟨rfl, D', PN⟩
  exact ⟨rfl, _, D', PN, rfl⟩

set_option maxRecDepth 100000 in
set_option maxHeartbeats 8000000 in
theorem walk (w : World) (l : List Deed) (la : Option Addr) (lc : Nat) (hR : SlR (fun _ => True) w 12 (RDeed (fun _ => True) w) la lc l) (hlen : l.length * 136 ≤ 140737488355328) (hB : ∀ a ∈ l, a.call.label.length * 16 ≤ 140737488351232 ∧ a.call.grants.length * 8 ≤ 140737488351232) :
    Calls Try.prog 4 #[.slice la l.length lc] w fun r w' => r = .returned (.bool true) ∧ Below w.heap.size w w' := by
  have eg : ∀ args w, (callFunc 16 args).run Try.prog w = .ok (.enter 16 args) w := enters_of Try.func16 (by kernel_rfl) rfl
  have st := St.start w
  go_enter Try.func4, Try.ntmps4
  have tk := trivial
  go_upto_region 2 with (first | go_skip | (clear tk; (with_reducible refine mA st Try.zeroValue58 ?_; clear st; intro gW w2 hgW st)))
  have hgW' := st.mine _ (List.mem_of_getElem? (i := 0) rfl)
  simp only [List.not_mem_nil, false_or] at hgW'
  have st0 := st.rebase
  simp only [List.map_cons, List.map_nil] at st0
  have hmN : mailsN newC = List.replicate 16 0 := by unfold mailsN; rw [thrsOf_new]; rfl
  have HPl := Lib.hid (top_play 16 #[.pointer (some ⟨gW, 0, none⟩)] eg w2 [gW] _ (fun b => b < w.heap.size) l la lc (acts_later hR st.below) (by simp; omega) (by omega) hB st0 (fun n bl V D => LenJ gW (doAll newC (l.take n)) bl)
    (fun V _ => by rw [show doAll newC (l.take 0) = newC by rw [List.take_zero]; rfl]; unfold LenJ; rw [hmN]; rfl) (fun n bl V V' D hk h => h) look)
  go_wp2_with (first | go_skip | (go_at_call 6; go_must (refine HPl.out.mono ?_; rintro e v2 ⟨gc, kg, bl, D, rfl, hgc, P, -⟩)))
  go_ret
  refine ⟨rfl, ?_⟩
  have hP := P.st
  exact ⟨hP.os.trans st.below.os, hP.tape.trans st.below.tape, hP.output.trans st.below.output, Nat.le_trans st.below.size hP.size, fun b hb => (hP.frame b (Nat.lt_of_lt_of_le hb st.below.size) (by simp; omega)).trans (st.below.block b hb)⟩

theorem own : ownKnob Try.prog.godebug = none := by kernel_rfl
theorem laid : laidOutB Try.prog = true := by kernel_rfl

set_option maxRecDepth 100000 in
theorem contract (H : Type) (enc : TypeId × Value → H) (W : World) (base : Nat) (args : Array Value) (ds gs : List (DataW H)) (before : List MemPlace)
    (hval : ∀ (j : Nat) t v, Try.f4.params[j]? = some t → args[j]? = some v → Value.okWide Try.prog W .any base t v)
    (hW : DataW.Whole enc Try.prog Try.f4.params.toList Rows.topTrustedSpec.vars false W args.toList ds gs before)
    (hsz : (DataW.weightsEach Try.prog (Try.f4.params.toList ++ Rows.topTrustedSpec.plain.varTypes Try.prog) (ds ++ gs)).all (· ≤ reachBytes) = true) :
    Calls Try.prog 4 args W fun e W' => ∃ v, e = .returned v ∧ Rows.topTrustedSpec.post enc Try.prog Try.f4 false true false false W args v W' := by
  have hW' := hW
  obtain ⟨p, q, hTrd, hV, rfl, hfz, hnd⟩ := hW
  have hA : DataW.TrodAll enc Try.prog W 0 (fun _ => true) true Try.f4.params.toList args.toList ds p := hTrd
  have hpar := Try.params4
  rw [hpar] at hA hval hsz
  obtain ⟨v0, vs0, d0, ds0, p0, q0, hargs0, rfl, rfl, h0, r0⟩ := trodAll_cons hA
  obtain ⟨hnil, rfl, rfl⟩ := trodAll_nil r0
  obtain rfl : args = #[v0] := by cases args; simp_all
  obtain ⟨rfl, rfl⟩ := trodVars_none hV
  have w0 : ∀ n ∈ d0.weights Try.prog 22, n ≤ reachBytes := fun n hn => by simpa using List.all_eq_true.1 hsz n (DataW.weights_mem_each (j := 0) (t := 22) (d := d0) rfl rfl n hn)
  obtain ⟨x0, a0, c0, rfl, hR0, hl0, hx0, hm0⟩ := arg_slice (fit := Deed.fit) (mass := Deed.mass) reads_Deed Try.underlying22 (by kernel_rfl : Try.prog.cellsOf _ = 12) (by decide) (by kernel_rfl : Try.prog.bytesOf _ = 136) (hval 0 _ v0 rfl rfl) h0 w0
  refine (walk W x0 a0 c0 hR0 (by omega) (fun a ha => ⟨by have := (hx0 a ha).2.2.2.2.2.2.2.2.2.1.1; omega, by have := (hx0 a ha).2.2.2.2.2.2.2.2.2.2.1.1; omega⟩)).mono fun e W' ⟨he, hb⟩ => ?_
  exact ⟨_, he, law_post laid (by kernel_rfl) hW' rfl rfl (by kernel_rfl) Try.underlying4 hb⟩

set_option maxRecDepth 100000 in
theorem lifted (os : Os) (started : os.Started) (H : Type) (enc : TypeId × Value → H) :
    ReturnsInHanded {} Try.checked os 4 .any (Rows.topTrustedSpec.pre6 enc Try.prog Try.f4 Rows.topTrustedRow.domain false) (Rows.topTrustedSpec.post enc Try.prog Try.f4 false true false false) := by
  refine returnsInHanded_of_change_sized (C := Try.checked) own started (by kernel_rfl) Try.func4
    (ChangeSpec.witness6 (enc := enc) (C := Try.checked) false ⟨#[], #[.slice none 0 0], []⟩ 12 (by kernel_rfl) (by kernel_rfl) (by kernel_rfl) (by kernel_rfl)) ?_
  intro W base args ds gs before hval hW _ hsz _
  exact contract H enc W base args ds gs before hval hW hsz

theorem proved : Rows.TopTrustedSaid :=
  OpenClaim.holds_of_wide 4 Try.f4 rfl rfl rfl rfl rfl rfl rfl ⟨rfl, rfl, rfl, rfl, rfl⟩ rfl rfl rfl rfl rfl (by kernel_rfl) Try.func4 (by kernel_rfl)
    (of_decide_eq_true (by kernel_rfl)) (by unfold Func.isWrapper; first | (rw [if_pos (by decide +kernel)]; kernel_rfl) | (rw [if_neg (by decide +kernel)]; exact ⟨rfl, rfl⟩))
    (fun os started H enc _ => lifted os started H enc)

end Go.Proofs.Ytnjjdpiofbajlaa.topTrusted
