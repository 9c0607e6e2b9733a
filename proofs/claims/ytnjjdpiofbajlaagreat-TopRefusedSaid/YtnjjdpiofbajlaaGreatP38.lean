/- Walks and plain laws that the claim rests on, part 38. -/
import Derived.Test.YtnjjdpiofbajlaaGreatP33
set_option linter.unusedSimpArgs false
set_option linter.unusedVariables false
namespace Go.Proofs.YtnjjdpiofbajlaaGreat
open Go.RowKit
theorem quiet_walk {w0 W Wd : World} {D : Nat → Prop} {gc : Nat} {kg : List Nat} {C : Clu} (a : Deed) (r : Rep) (la : Option Addr) (lc : Nat) (ga : Option Addr) (gx : Nat) (P : Clus w0 [] [] (fun _ => False) Wd D gc kg C W) :
  Calls Tryz.prog 23 #[.pointer (some ⟨gc, 0, none⟩), deedV a la lc ga gx, RepV r] W fun e W' => e = .returned (.bool true) ∧ Clus w0 [] [] (fun _ => False) W' (fun _ => False) gc kg C W' := by
 have P2 := Lib.hid P
 clear P
 have st := St.start W
 unfold deedV RepV
 go_enter Tryz.func23, Tryz.ntmps23
 go_wp2_with (first | go_skip | (with_reducible refine mB 32 st ?_; clear st; intro g4 w4 hg4 st) | (with_reducible refine mB 35 st ?_; clear st; intro g5 w5 hg5 st))
 go_ret
 exact ⟨rfl, (P2.out.below st.below).anyD⟩
theorem quiet_look {w0 : World} {l : List Deed} : LookAt 23 #[] w0 [] l (fun _ bl _ _ => bl = []) := by
 intro n a ha h120 gc kg W Wd bl D la lc ga gx hgc P J h1 h2
 subst J
 refine (quiet_walk a _ la lc ga gx P).mono ?_
 rintro e W' ⟨rfl, PN⟩
 exact ⟨rfl, [], fun _ => False, PN, rfl⟩
theorem play_quiet (w : World) (okl : Nat → Prop) (l : List Deed) (la : Option Addr) (lc : Nat) (hR : SlR okl w 12 (RDeed okl w) la lc l) (hlen : l.length ≤ 4611686018427387904) (hB : ∀ a ∈ l, a.call.label.length * 16 ≤ 140737488351232 ∧ a.call.grants.length * 8 ≤ 140737488351232) :
  Calls Tryz.prog 9 #[.slice la l.length lc, .func (.func 23) #[] #[]] w fun e w' => ∃ gc kg, e = .returned (.tuple #[.pointer (some ⟨gc, 0, none⟩), .bool true]) ∧ w.heap.size ≤ gc ∧ Clus w [] [] (fun _ => False) w' (fun _ => False) gc kg (doAll newC (l.take 120)) w' := by
 have eg : ∀ args w, (callFunc 23 args).run Tryz.prog w = .ok (.enter 23 args) w := enters_of Tryz.func23 (by kernel_rfl) rfl
 refine (top_play 23 #[] eg w [] [] okl l la lc hR (by simp) hlen hB (St.start w) (fun _ bl _ _ => bl = []) (fun _ _ => rfl) (fun _ _ _ _ _ _ h => h) quiet_look).mono ?_
 rintro e w' ⟨gc, kg, bl, D, rfl, hgc, P, rfl⟩
 exact ⟨gc, kg, rfl, hgc, P.anyD⟩
section
variable {C : Clu}
theorem sendC_acts (h v t : Int) (m : Mail) : (sendC C h v t m).1.acts = C.acts := by
 unfold sendC
 split
 ·rfl
 ·split
  ·rfl
  ·split
   ·rfl
   ·exact (pushC_same _ _).2.2.2.2
theorem comeF_same (f : Frame) : (comeF C f).acts = C.acts ∧ (comeF C f).now = C.now := by
 unfold comeF
 split
 ·exact ⟨rfl, rfl⟩
 ·split
  ·unfold tookC
   split
   ·exact ⟨(pushC_same _ _).2.2.2.2, (pushC_same _ _).1⟩
   ·exact ⟨(pushC_same _ _).2.2.2.2, (pushC_same _ _).1⟩
  ·split
   ·exact ⟨(pushC_same _ _).2.2.2.2, (pushC_same _ _).1⟩
   ·exact ⟨rfl, rfl⟩
theorem comeC_same (s : ByteArray) : (comeC C s).acts = C.acts ∧ (comeC C s).now = C.now := by
 unfold comeC
 split
 ·exact ⟨rfl, rfl⟩
 ·exact comeF_same _
theorem actC_acts (a : Deed) : (actC C a).1.acts = C.acts := by
 unfold actC
 split
 ·split
  ·rfl
  ·unfold callC
   split
   ·split
    ·rfl
    ·split
     ·rfl
     ·split
      ·rfl
      ·exact sendC_acts _ _ _ _
   ·split
    ·split
     ·rfl
     ·split
      ·rfl
      ·split <;> rfl
    ·rfl
 ·split
  ·split
   ·rfl
   ·dsimp only
    split
    ·split <;> rfl
    ·rw [(comeC_same _).1]
     split <;> rfl
  ·split
   ·exact (tickC_same a.n).2.2
   ·rfl
theorem doC_acts (a : Deed) (h : C.acts < 300) : (doC C a).1.acts = C.acts + 1 := by
 unfold doC
 rw [if_neg (by omega)]
 exact actC_acts a
theorem doC_full (a : Deed) (h : C.acts = 300) : doC C a = (C, errR 5) := by
 unfold doC
 rw [if_pos (by omega)]
theorem doAll_acts : ∀ (l : List Deed) (C : Clu), C.acts + l.length ≤ 300 → (doAll C l).acts = C.acts + l.length
 | [], C, _ => by simp [doAll]
 | a :: l, C, h => by
  simp only [List.length_cons] at h
  have h1 := doC_acts (C := C) a (by omega)
  have h2 := doAll_acts l (doC C a).1 (by omega)
  unfold doAll
  rw [h2, h1]
  simp only [List.length_cons]
  omega
/-! ### What is refused changes nothing -/
structure Refused (C C' : Clu) (r : Rep) : Prop where
 thr : ∀ h t, C'.thr h t = C.thr h t
 n : r.n = 0
 text : r.text = ⟨#[]⟩
 net : C'.net = C.net
 now : C'.now = C.now
structure SentOut (C' : Clu) (a : Deed) : Prop where
 h : four a.h = true
 t : four a.t = true
 may : a.call.h ≠ a.h → mayB (C'.cert a.h) a.call.h ⟨a.h, a.t, a.call.label, a.call.grants, ⟨#[]⟩⟩ C'.now = true
 flow : a.call.h ≠ a.h → flowsL (C'.thr a.h a.t).label a.call.label (C'.thr a.h a.t).own = true
 good : goodMailC ⟨a.h, a.t, a.call.label, a.call.grants, knowT (C'.thr a.h a.t).text a.call.text⟩ = 0 ∨ a.call.h = a.h
end
end Go.Proofs.YtnjjdpiofbajlaaGreat
