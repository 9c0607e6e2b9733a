/- Walks and plain laws, part 41. -/
import Derived.Test.YtnjjdpiofbajlaaGreatP35
set_option linter.unusedSimpArgs false
set_option linter.unusedVariables false
set_option maxHeartbeats 16000000
set_option maxRecDepth 100000
namespace Go.Proofs.YtnjjdpiofbajlaaGreat
open Go.RowKit
theorem Clus.anyD {w0 Wd W : World} {M0 : List Nat} {own : Blks} {X D : Nat → Prop} {gc : Nat} {kg : List Nat} {C : Clu} (P : Clus w0 M0 own X Wd D gc kg C W) : Clus w0 M0 own X W (fun _ => False) gc kg C W := by
 obtain ⟨st, hok, hD, hDo, hX, ok, BB, na, nc, L, hA, hB, hO⟩ := P
 exact ⟨st, hok, ⟨Nat.le_refl _, fun _ _ _ => rfl⟩, fun _ _ h => h.1.elim, hX, ok, BB, na, nc, L, hA, fun b hb => ⟨(hB b hb).1, (hB b hb).2.1, fun h => h.1.elim⟩, hO⟩
theorem quiet_walk {w0 W Wd : World} {D : Nat → Prop} {gc : Nat} {kg : List Nat} {C : Clu} (a : Deed) (r : Rep) (la : Option Addr) (lc : Nat) (ga : Option Addr) (gx : Nat) (P : Clus w0 [] [] (fun _ => False) Wd D gc kg C W) :
  Calls Tryz.prog 23 #[.pointer (some ⟨gc, 0, none⟩), deedV a la lc ga gx, RepV r] W fun e W' => e = .returned (.bool true) ∧ Clus w0 [] [] (fun _ => False) W' (fun _ => False) gc kg C W' := by
 have P2 := qh P
 clear P
 have st := St.start W
 unfold deedV RepV
 go_enter Tryz.func23, Tryz.ntmps23
 go_wp2_with (first | go_skip | (with_reducible refine mB 32 st ?_; clear st; intro g4 w4 hg4 st) | (with_reducible refine mB 35 st ?_; clear st; intro g5 w5 hg5 st))
 go_ret
 exact ⟨rfl, (P2.out.below st.below).anyD⟩
theorem quiet_look {w0 : World} {l : List Deed} : LookAt 23 #[] w0 [] l (fun _ bl _ _ => bl = []) := by
 intro n a ha h120 gc kg W Wd bl D la lc ga gx hgc P J h1 h2
 subst J
 refine (quiet_walk a _ la lc ga gx P).mono ?_
 rintro e W' ⟨rfl, PN⟩
 exact ⟨rfl, [], fun _ => False, PN, rfl⟩
theorem play_quiet (w : World) (okl : Nat → Prop) (l : List Deed) (la : Option Addr) (lc : Nat) (hR : SlR okl w 12 (RDeed okl w) la lc l) (hlen : l.length ≤ 4611686018427387904) (hB : ∀ a ∈ l, a.call.label.length * 16 ≤ 140737488351232 ∧ a.call.grants.length * 8 ≤ 140737488351232) :
  Calls Tryz.prog 9 #[.slice la l.length lc, .func (.func 23) #[] #[]] w fun e w' => ∃ gc kg, e = .returned (.tuple #[.pointer (some ⟨gc, 0, none⟩), .bool true]) ∧ w.heap.size ≤ gc ∧ Clus w [] [] (fun _ => False) w' (fun _ => False) gc kg (doAll newC (l.take 120)) w' := by
 have eg : ∀ args w, (callFunc 23 args).run Tryz.prog w = .ok (.enter 23 args) w := enters_of Tryz.func23 (by kernel_rfl) rfl
 refine (top_play 23 #[] eg w [] [] okl l la lc hR (by simp) hlen hB (St.start w) (fun _ bl _ _ => bl = []) (fun _ _ => rfl) (fun _ _ _ _ _ _ h => h) quiet_look).mono ?_
 rintro e w' ⟨gc, kg, bl, D, rfl, hgc, P, rfl⟩
 exact ⟨gc, kg, rfl, hgc, P.anyD⟩
abbrev Sends := Nat → Nat → List (Int × Bool)
def cntS (E : Sends) (p h : Nat) (t : Int) : Nat := (E p h).countP fun x => x.1 == t
def cntT (E : Sends) (p h : Nat) (t : Int) : Nat := (E p h).countP fun x => x.1 == t && x.2
def FrE (E : Sends) (f : Frame) : Prop := f.ack = false → ∃ (i : Nat) (b : Bool), f.seq = i + 1 ∧ (E f.src.toNat f.dst.toNat)[i]? = some (f.thread, b)
structure OnceN (C : Clu) (E : Sends) : Prop where
 next : ∀ p h : Nat, p < 4 → h < 4 → p ≠ h → (C.line p h).next = (E p h).length
 sent : ∀ L ∈ C.lines, ∀ s ∈ L.sent, FrE E s.frame
 net : ∀ s ∈ C.net, ∀ f, decR s.data.toList = (f, 0) → FrE E f
 took : ∀ p h : Nat, p < 4 → h < 4 → p ≠ h → ∀ (i : Nat) (t : Int), (E p h)[i]? = some (t, true) → (i : Int) + 1 ≤ (C.line p h).high ∧ ((C.line p h).high - 8 < (i : Int) + 1 → (C.line p h).seen.get ((C.line p h).high - ((i : Int) + 1)).toNat = true)
def Sends.sub (E E' : Sends) : Prop := ∀ p h (i : Nat) t b, (E p h)[i]? = some (t, b) → ∃ b', (E' p h)[i]? = some (t, b')
theorem FrE.up {E E' : Sends} {f : Frame} (h : FrE E f) (hs : E.sub E') : FrE E' f := fun ha => by
 obtain ⟨i, b, h1, h2⟩ := h ha
 obtain ⟨b', h3⟩ := hs _ _ _ _ _ h2
 exact ⟨i, b', h1, h3⟩
def Sends.put (E : Sends) (p h : Nat) (l : List (Int × Bool)) : Sends := fun p' h' => if p' = p ∧ h' = h then l else E p' h'
theorem Sends.put_same (E : Sends) (p h : Nat) (l : List (Int × Bool)) : (E.put p h l) p h = l := if_pos ⟨rfl, rfl⟩
theorem Sends.put_other (E : Sends) {p h p' h' : Nat} (l : List (Int × Bool)) (hn : ¬ (p' = p ∧ h' = h)) : (E.put p h l) p' h' = E p' h' := if_neg hn
theorem Sends.sub_app (E : Sends) (p h : Nat) (x : Int × Bool) : E.sub (E.put p h (E p h ++ [x])) := fun p' h' i t b hb => by
 by_cases e : p' = p ∧ h' = h
 ·obtain ⟨rfl, rfl⟩ := e
  rw [Sends.put_same]
  exact ⟨b, by rw [List.getElem?_append_left (gEs hb).1]; exact hb⟩
 ·rw [Sends.put_other E _ e]; exact ⟨b, hb⟩
theorem Sends.sub_set (E : Sends) (p h : Nat) {i : Nat} {t : Int} {b : Bool} (hi : (E p h)[i]? = some (t, b)) : E.sub (E.put p h ((E p h).set i (t, true))) := fun p' h' j t' b' hb => by
 by_cases e : p' = p ∧ h' = h
 ·obtain ⟨rfl, rfl⟩ := e
  rw [Sends.put_same, List.getElem?_set]
  by_cases e2 : i = j
  ·subst e2
   rw [hi] at hb
   cases hb
   rw [if_pos rfl, if_pos (gEs hi).1]
   exact ⟨true, rfl⟩
  ·rw [if_neg e2]; exact ⟨b', hb⟩
 ·rw [Sends.put_other E _ e]; exact ⟨b', hb⟩
theorem cntS_app (E : Sends) (p h : Nat) (t : Int) (b : Bool) (p' h' : Nat) (t' : Int) : cntS (E.put p h (E p h ++ [(t, b)])) p' h' t' = cntS E p' h' t' + if p = p' ∧ h = h' ∧ t = t' then 1 else 0 := by
 unfold cntS
 by_cases e : p' = p ∧ h' = h
 ·obtain ⟨rfl, rfl⟩ := e
  rw [Sends.put_same, List.countP_append]
  by_cases e2 : t = t' <;> simp [e2]
 ·rw [Sends.put_other E _ e, if_neg (fun hh => e ⟨hh.1.symm, hh.2.1.symm⟩), Nat.add_zero]
theorem cntT_app (E : Sends) (p h : Nat) (t : Int) (b : Bool) (p' h' : Nat) (t' : Int) : cntT (E.put p h (E p h ++ [(t, b)])) p' h' t' = cntT E p' h' t' + if b = true ∧ p = p' ∧ h = h' ∧ t = t' then 1 else 0 := by
 unfold cntT
 by_cases e : p' = p ∧ h' = h
 ·obtain ⟨rfl, rfl⟩ := e
  rw [Sends.put_same, List.countP_append]
  by_cases e2 : t = t' <;> cases b <;> simp [e2]
 ·rw [Sends.put_other E _ e, if_neg (fun hh => e ⟨hh.2.1.symm, hh.2.2.1.symm⟩), Nat.add_zero]
theorem countP_set' {α : Type} (q : α → Bool) : ∀ {l : List α} {i : Nat} {x y : α}, l[i]? = some x → (l.set i y).countP q + (if q x then 1 else 0) = l.countP q + if q y then 1 else 0
 | [], _, _, _, h => by simp at h
 | a :: l, 0, x, y, h => by
  simp at h; subst h
  simp only [List.set_cons_zero, List.countP_cons]
  omega
 | a :: l, i + 1, x, y, h => by
  simp only [List.getElem?_cons_succ] at h
  have := countP_set' q (y := y) h
  simp only [List.set_cons_succ, List.countP_cons]
  omega
theorem cntS_set (E : Sends) (p h : Nat) {i : Nat} {t : Int} {b : Bool} (hi : (E p h)[i]? = some (t, b)) (p' h' : Nat) (t' : Int) : cntS (E.put p h ((E p h).set i (t, true))) p' h' t' = cntS E p' h' t' := by
 unfold cntS
 by_cases e : p' = p ∧ h' = h
 ·obtain ⟨rfl, rfl⟩ := e
  rw [Sends.put_same]
  have := countP_set' (fun x : Int × Bool => x.1 == t') (y := (t, true)) hi
  simp only at this
  omega
 ·rw [Sends.put_other E _ e]
theorem cntT_set (E : Sends) (p h : Nat) {i : Nat} {t : Int} (hi : (E p h)[i]? = some (t, false)) (p' h' : Nat) (t' : Int) : cntT (E.put p h ((E p h).set i (t, true))) p' h' t' = cntT E p' h' t' + if p = p' ∧ h = h' ∧ t = t' then 1 else 0 := by
 unfold cntT
 by_cases e : p' = p ∧ h' = h
 ·obtain ⟨rfl, rfl⟩ := e
  rw [Sends.put_same]
  have := countP_set' (fun x : Int × Bool => x.1 == t' && x.2) (y := (t, true)) hi
  simp only [Bool.and_false, Bool.and_true, Bool.false_eq_true, if_false, Nat.add_zero, beq_iff_eq] at this
  rw [this]
  simp
 ·rw [Sends.put_other E _ e, if_neg (fun hh => e ⟨hh.1.symm, hh.2.1.symm⟩), Nat.add_zero]
/-! ### What each part of an act leaves -/
section
variable {C : Clu} {E : Sends}
theorem OnceN.push (h : OnceN C E) {f : Frame} (hf : FrE E f) : OnceN (pushC C f) E := by
 obtain ⟨-, -, -, hl, -⟩ := pushC_same C f
 refine ⟨fun p q hp hq hne => by rw [pushC_line]; exact h.next p q hp hq hne, fun L hL => h.sent L (by rw [hl] at hL; exact hL), fun s hs => ?_, fun p q hp hq hne => by rw [pushC_line]; exact h.took p q hp hq hne⟩
 unfold pushC at hs
 split at hs
 ·rename_i hc
  obtain ⟨hg, he⟩ := encR_good hc.1
  rcases List.mem_append.1 hs with hs | hs
  ·exact h.net s hs
  ·simp only [List.mem_singleton] at hs
   intro f' hf'
   rw [hs, he] at hf'
   rw [show (⟨(encL f).toArray⟩ : ByteArray).data.toList = encL f from by simp, dec_enc hg] at hf'
   cases hf'
   exact hf
 ·exact h.net s hs
theorem OnceN.pushAll (fs : List Frame) : ∀ {C : Clu}, OnceN C E → (∀ f ∈ fs, FrE E f) → OnceN (Proofs.YtnjjdpiofbajlaaGreat.pushAll C fs) E := by
 induction fs with
 | nil => exact fun h _ => h
 | cons f fs ih => exact fun h hf => ih (h.push (hf f (by simp))) fun g hg => hf g (by simp [hg])
theorem line_set_same (hok : C.ok) {n m : Nat} (hn : n < 4) (hm : m < 4) (L : Line) : (C.setLine n m L).line n m = L := by
 unfold Clu.setLine Clu.line Proofs.YtnjjdpiofbajlaaGreat.lineAt
 simp only [Int.toNat_natCast, List.getD_eq_getElem?_getD]
 rw [List.getElem?_set_self (by rw [hok.lineN]; omega)]
 rfl
theorem line_set_other {n m p q : Nat} (hq : q < 4) (hm : m < 4) (hne : ¬ (p = n ∧ q = m)) (L : Line) : (C.setLine n m L).line p q = C.line p q := by
 unfold Clu.setLine Clu.line Proofs.YtnjjdpiofbajlaaGreat.lineAt
 simp only [Int.toNat_natCast, List.getD_eq_getElem?_getD]
 rw [List.getElem?_set_ne (by omega)]
theorem OnceN.line_sent (h : OnceN C E) (hok : C.ok) {n m : Nat} (hn : n < 4) (hm : m < 4) : ∀ s ∈ (C.line n m).sent, FrE E s.frame := by
 obtain ⟨L, eL, e3, -, -⟩ := hok.lineAt hn hm
 rw [e3]
 exact h.sent L (mgE eL)
theorem OnceN.setLine (h : OnceN C E) (hok : C.ok) {n m : Nat} (hn : n < 4) (hm : m < 4) {L : Line} (h1 : L.next = (C.line n m).next) (h2 : L.high = (C.line n m).high) (h3 : L.seen = (C.line n m).seen) (h4 : ∀ s ∈ L.sent, FrE E s.frame) : OnceN (C.setLine n m L) E := by
 refine ⟨fun p q hp hq hne => ?_, fun L' hL' => ?_, h.net, fun p q hp hq hne => ?_⟩
 ·by_cases e : p = n ∧ q = m
  ·obtain ⟨rfl, rfl⟩ := e
   rw [line_set_same hok hp hq, h1]; exact h.next p q hp hq hne
  ·rw [line_set_other hq hm e]; exact h.next p q hp hq hne
 ·rcases List.mem_or_eq_of_mem_set hL' with hL' | rfl
  ·exact h.sent L' hL'
  ·exact h4
 ·by_cases e : p = n ∧ q = m
  ·obtain ⟨rfl, rfl⟩ := e
   rw [line_set_same hok hp hq, h2, h3]; exact h.took p q hp hq hne
  ·rw [line_set_other hq hm e]; exact h.took p q hp hq hne
theorem OnceN.same (h : OnceN C E) {C' : Clu} (hl : C'.lines = C.lines) (hn : ∀ s ∈ C'.net, s ∈ C.net) : OnceN C' E := by
 have e : ∀ p q, C'.line p q = C.line p q := fun p q => by unfold Clu.line; rw [hl]
 exact ⟨fun p q hp hq hne => by rw [e]; exact h.next p q hp hq hne, fun L hL => h.sent L (hl ▸ hL), fun s hs => h.net s (hn s hs), fun p q hp hq hne => by rw [e]; exact h.took p q hp hq hne⟩
theorem take_new {good : Bool} {high seq : Int} {e : Eight} {l : List (Int × Bool)} (hI : ∀ (i : Nat) (t : Int), l[i]? = some (t, true) → (i : Int) + 1 ≤ high ∧ (high - 8 < (i : Int) + 1 → e.get (high - ((i : Int) + 1)).toNat = true))
  {i : Nat} {t : Int} {b : Bool} (hs : seq = i + 1) (hi : l[i]? = some (t, b)) (hk : (takeC good high seq e).2.2 = 0) :
  b = false ∧ ∀ (j : Nat) (u : Int), (l.set i (t, true))[j]? = some (u, true) → (j : Int) + 1 ≤ (takeC good high seq e).1 ∧ ((takeC good high seq e).1 - 8 < (j : Int) + 1 → (takeC good high seq e).2.1.get ((takeC good high seq e).1 - ((j : Int) + 1)).toNat = true) := by
 unfold takeC at hk ⊢
 split at hk
 ·simp at hk
 ·rename_i c0
  rw [if_neg c0]
  split at hk
  ·simp at hk
  ·rename_i c1
   rw [if_neg c1]
   split at hk
   ·rename_i c2
    rw [if_pos c2]
    split at hk
    ·simp at hk
    ·rename_i c3
     rw [if_neg c3]
     have hb : b = false := by
      cases b
      ·rfl
      ·have := (hI i t hi).2 (by omega)
       rw [hs] at c3
       exact absurd this c3
     refine ⟨hb, fun j u hj => ?_⟩
     simp only
     rw [List.getElem?_set] at hj
     by_cases e2 : i = j
     ·subst e2
      refine ⟨by omega, fun _ => ?_⟩
      unfold Eight.yes
      rw [Eight.get_of _ (by omega), if_pos (by rw [hs])]
     ·rw [if_neg e2] at hj
      obtain ⟨h1, h2⟩ := hI j u hj
      refine ⟨h1, fun h3 => ?_⟩
      unfold Eight.yes
      rw [Eight.get_of _ (by omega), h2 h3]
      simp
   ·rename_i c2
    rw [if_neg c2]
    have hb : b = false := by
     cases b
     ·rfl
     ·have := (hI i t hi).1; omega
    refine ⟨hb, fun j u hj => ?_⟩
    simp only
    rw [List.getElem?_set] at hj
    by_cases e2 : i = j
    ·subst e2
     refine ⟨by omega, fun _ => ?_⟩
     rw [Eight.get_of _ (by omega), if_pos (by omega)]
    ·rw [if_neg e2] at hj
     obtain ⟨h1, h2⟩ := hI j u hj
     refine ⟨by omega, fun h3 => ?_⟩
     rw [Eight.get_of _ (by omega), if_neg (by omega), if_pos (by omega), show (seq - ((j : Int) + 1)).toNat - (seq - high).toNat = (high - ((j : Int) + 1)).toNat by omega]
     exact h2 (by omega)
end
section
variable {C : Clu} {E : Sends}
def Sent1 (a : Deed) (r : Rep) : Prop := a.kind = 1 ∧ a.call.kind = 6 ∧ r.code = 0
def OnceL (C : Clu) (E : Sends) (a : Deed) (C' : Clu) (r : Rep) (E' : Sends) : Prop :=
 OnceN C' E' ∧ (∀ (p h : Nat) (t : Int), (Sent1 a r → a.h = p ∧ a.call.h = h ∧ a.call.t = t → cntS E' p h t = cntS E p h t + 1) ∧ (¬ (Sent1 a r ∧ a.h = p ∧ a.call.h = h ∧ a.call.t = t) → cntS E' p h t = cntS E p h t)) ∧
 (∀ (p h : Nat) (t : Int), cntT E p h t ≤ cntT E' p h t) ∧ (∀ (h t : Int) (m : Mail), MailFrom C a r h t m → ∃ p h' : Nat, p < 4 ∧ h = h' ∧ m.host = p ∧ cntT E p h' t + 1 ≤ cntT E' p h' t) ∧
 (Sent1 a r → four a.h = true ∧ four a.call.h = true ∧ four a.call.t = true)
theorem OnceL.idle {a : Deed} {C' : Clu} {r : Rep} (h : OnceN C' E) (h1 : ¬ Sent1 a r) (h2 : ¬ ((a.kind = 2 ∨ a.kind = 3) ∧ r.code = 0)) : OnceL C E a C' r E :=
 ⟨h, fun p h t => ⟨fun hs _ => absurd hs h1, fun _ => rfl⟩, fun _ _ _ => Nat.le_refl _, fun h t m hm => by
  cases hm with
  | here k1 k6 ha hh ht h4 hr hl => exact absurd ⟨k1, k6, by rw [hr]; rfl⟩ h1
  | came s f k23 hs hd hack hh ht hm htk hmay hr => exact absurd ⟨k23, hr⟩ h2, fun hs => absurd hs h1⟩
theorem OnceN.acting (h : OnceN C E) : OnceN { C with acts := C.acts + 1 } E := h.same rfl fun _ h => h
theorem OnceN.tick : ∀ (n i : Nat) {C : Clu}, C.ok → i + n ≤ 16 → OnceN C E → OnceN (tickAll n i C).1 E
 | 0, _, _, _, _, h => h
 | n + 1, i, C, hok, hi, h => by
  obtain ⟨L, e⟩ : ∃ L, C.lines[i]? = some L := ⟨_, gEg (by rw [hok.lineN]; omega)⟩
  have hl := hok.line _ (mgE e)
  unfold tickAll
  dsimp only
  rw [getD_at e]
  obtain ⟨q1, q2, q3, q4⟩ := againLn_ok hl.1 hok.now.1 hok.now.2
  have hok1 := hok.setLineN (i := i) q1 fun s hs => by
   obtain ⟨s', hs', e'⟩ := q2 s hs
   rw [e']; exact hl.2 s' hs'
  have hsent := h.sent L (mgE e)
  have hN : OnceN { C with lines := C.lines.set i (againLn L C.now).1 } E := by
   have e4 : ((i / 4 : Nat) : Int).toNat * 4 + ((i % 4 : Nat) : Int).toNat = i := by simp; omega
   have e5 : C.line ((i / 4 : Nat) : Int) ((i % 4 : Nat) : Int) = L := by
    unfold Clu.line Proofs.YtnjjdpiofbajlaaGreat.lineAt; rw [e4]; exact getD_at e
   have h2 := h.setLine hok (n := i / 4) (m := i % 4) (by omega) (by omega) (L := (againLn L C.now).1) (by rw [e5]; rfl) (by rw [e5]; rfl) (by rw [e5]; rfl) fun s hs => by
    obtain ⟨s', hs', e'⟩ := q2 s hs
    rw [e']; exact hsent s' hs'
   unfold Clu.setLine Proofs.YtnjjdpiofbajlaaGreat.lineAt at h2
   rw [e4] at h2
   exact h2
  exact OnceN.tick n (i + 1) (Clu.ok.pushAll _ hok1) (by omega) (hN.pushAll _ fun f hf => by
   obtain ⟨s, hs, e'⟩ := q3 f hf
   rw [e']; exact hsent s hs)
theorem OnceN.sendOut (h : OnceN C E) (hok : C.ok) {n v : Nat} (hn : n < 4) (hv : v < 4) (hne : n ≠ v) {t : Int} {m : Mail} {cs : List Cert} (hk : (sentLn (C.line n v) (mailF n v t m cs) C.now).2.2 = 0) :
  OnceN (pushC (C.setLine n v (sentLn (C.line n v) (mailF n v t m cs) C.now).1) (sentLn (C.line n v) (mailF n v t m cs) C.now).2.1) (E.put n v (E n v ++ [(t, false)])) := by
 have hsub := E.sub_app n v (t, false)
 have hnx := h.next n v hn hv hne
 have hls := h.line_sent hok hn hv
 have htk := h.took n v hn hv hne
 obtain ⟨L, eL, e3, hL, -⟩ := hok.lineAt hn hv
 unfold sentLn at hk ⊢
 rw [e3] at hk hnx hls htk ⊢
 unfold sendX at hk ⊢
 split at hk
 ·simp at hk
 ·rename_i c0
  rw [if_neg c0]
  split at hk
  ·simp at hk
  ·rename_i c1
   rw [if_neg c1]
   have hF : FrE (E.put n v (E n v ++ [(t, false)])) { mailF n v t m cs with seq := L.next + 1 } := fun _ => by
    refine ⟨(E n v).length, false, by simp only; omega, ?_⟩
    show ((E.put n v (E n v ++ [(t, false)])) ((n : Int)).toNat ((v : Int)).toNat)[(E n v).length]? = _
    rw [Int.toNat_natCast, Int.toNat_natCast, Sends.put_same, List.getElem?_append_right (Nat.le_refl _), Nat.sub_self]
    rfl
   refine OnceN.push ?_ hF
   refine ⟨fun p q hp hq hpq => ?_, fun L' hL' s hs => ?_, fun s hs f hf => (h.net s hs f hf).up hsub, fun p q hp hq hpq i u hi => ?_⟩
   ·by_cases e : p = n ∧ q = v
    ·obtain ⟨rfl, rfl⟩ := e
     rw [line_set_same hok hp hq, Sends.put_same, List.length_append]
     simp only [List.length_cons, List.length_nil]
     omega
    ·rw [line_set_other hq hv e, Sends.put_other E _ e]; exact h.next p q hp hq hpq
   ·rcases List.mem_or_eq_of_mem_set hL' with hL' | rfl
    ·exact (h.sent L' hL' s hs).up hsub
    ·simp only [List.mem_append, List.mem_singleton] at hs
     rcases hs with hs | rfl
     ·exact (hls s hs).up hsub
     ·exact hF
   ·by_cases e : p = n ∧ q = v
    ·obtain ⟨rfl, rfl⟩ := e
     rw [line_set_same hok hp hq]
     rw [Sends.put_same] at hi
     simp only
     by_cases hil : i < (E p q).length
     ·rw [List.getElem?_append_left hil] at hi
      exact htk i u hi
     ·rw [List.getElem?_append_right (by omega)] at hi
      cases hq2 : i - (E p q).length with
      | zero => rw [hq2] at hi; simp at hi
      | succ k => rw [hq2] at hi; simp at hi
    ·rw [line_set_other hq hv e]
     rw [Sends.put_other E _ e] at hi
     exact h.took p q hp hq hpq i u hi
theorem OnceN.takeIn (h : OnceN C E) (hok : C.ok) {n v : Nat} (hn : n < 4) (hv : v < 4) (hne : n ≠ v) {seq : Int} {i : Nat} {t : Int} {b : Bool} (hs : seq = i + 1) (hi : (E n v)[i]? = some (t, b)) (hk : (tookLn (C.line n v) seq).2 = 0) :
  b = false ∧ OnceN (C.setLine n v (tookLn (C.line n v) seq).1) (E.put n v ((E n v).set i (t, true))) := by
 have hsub := E.sub_set n v hi
 have hnx := h.next n v hn hv hne
 have hls := h.line_sent hok hn hv
 have htk := h.took n v hn hv hne
 obtain ⟨L, eL, e3, hL, -⟩ := hok.lineAt hn hv
 unfold tookLn at hk ⊢
 rw [e3] at hk hnx hls htk ⊢
 obtain ⟨q1, q2⟩ := take_new htk hs hi hk
 refine ⟨q1, ⟨fun p q hp hq hpq => ?_, fun L' hL' s hs => ?_, fun s hs f hf => (h.net s hs f hf).up hsub, fun p q hp hq hpq j u hj => ?_⟩⟩
 ·by_cases e : p = n ∧ q = v
  ·obtain ⟨rfl, rfl⟩ := e
   rw [line_set_same hok hp hq, Sends.put_same, List.length_set]
   exact hnx
  ·rw [line_set_other hq hv e, Sends.put_other E _ e]; exact h.next p q hp hq hpq
 ·rcases List.mem_or_eq_of_mem_set hL' with hL' | rfl
  ·exact (h.sent L' hL' s hs).up hsub
  ·exact (hls s hs).up hsub
 ·by_cases e : p = n ∧ q = v
  ·obtain ⟨rfl, rfl⟩ := e
   rw [line_set_same hok hp hq]
   rw [Sends.put_same] at hj
   exact q2 j u hj
  ·rw [line_set_other hq hv e]
   rw [Sends.put_other E _ e] at hj
   exact h.took p q hp hq hpq j u hj
theorem FrE_ack (E : Sends) (f : Frame) : FrE E (ackOf f) := fun h => by simp [ackOf] at h
theorem OnceN.come (h : OnceN C E) (hok : C.ok) {f : Frame} (hg : goodFrameC f = 0) (hF : FrE E f) : ∃ E', OnceN (comeF C f) E' ∧ (∀ p q t, cntS E' p q t = cntS E p q t) ∧ (∀ p q t, cntT E p q t ≤ cntT E' p q t) ∧
  (f.ack = false → (tookLn (C.line f.src f.dst) f.seq).2 = 0 → cntT E f.src.toNat f.dst.toNat f.thread + 1 ≤ cntT E' f.src.toNat f.dst.toNat f.thread) := by
 obtain ⟨g1, g2, g3, -, -, -⟩ := goodF_facts hg
 obtain ⟨n, en, hn⟩ := four_nat g1
 obtain ⟨v, ev, hv⟩ := four_nat g2
 have hnv : n ≠ v := fun e => g3 (by rw [en, ev, e])
 unfold comeF
 split
 ·rename_i hack
  refine ⟨E, ?_, fun _ _ _ => rfl, fun _ _ _ => Nat.le_refl _, fun ha => by rw [hack] at ha; cases ha⟩
  rw [en, ev]
  obtain ⟨L, eL, e3, hL, -⟩ := hok.lineAt hv hn
  refine h.setLine hok hv hn rfl rfl rfl fun s hs => ?_
  have := (answLn_ok (L := C.line v n) (by rw [e3]; exact hL) f.seq).2 s hs
  exact h.line_sent hok hv hn s this
 ·rename_i hack
  have hack : f.ack = false := by simpa using hack
  split
  ·rename_i htk
   obtain ⟨i, b, hs, hi⟩ := hF hack
   rw [en, ev, Int.toNat_natCast, Int.toNat_natCast] at hi
   have htk2 := htk
   rw [en, ev] at htk2
   obtain ⟨rfl, hN⟩ := h.takeIn hok hn hv hnv hs hi htk2
   refine ⟨E.put n v ((E n v).set i (f.thread, true)), ?_, fun p q t => cntS_set E n v hi p q t, fun p q t => by rw [cntT_set E n v hi]; omega, fun _ _ => by rw [en, ev, Int.toNat_natCast, Int.toNat_natCast, cntT_set E n v hi, if_pos ⟨rfl, rfl, rfl⟩]; omega⟩
   rw [← en, ← ev] at hN
   have h2 := hN.push (FrE_ack _ f)
   unfold tookC
   split
   ·exact h2.same rfl fun _ h => h
   ·exact h2.same rfl fun _ h => h
  ·rename_i htk
   have hsame : OnceN (C.setLine f.src f.dst (tookLn (C.line f.src f.dst) f.seq).1) E := by
    have hq : (tookLn (C.line f.src f.dst) f.seq).1 = C.line f.src f.dst := by
     have htk' : (tookLn (C.line f.src f.dst) f.seq).2 ≠ 0 := htk
     unfold tookLn takeC at htk' ⊢
     split
     ·rfl
     ·rename_i c0
      rw [if_neg c0] at htk'
      split
      ·rfl
      ·rename_i c1
       rw [if_neg c1] at htk'
       split
       ·rename_i c2
        rw [if_pos c2] at htk'
        split
        ·rfl
        ·rename_i c3
         rw [if_neg c3] at htk'
         simp at htk'
       ·rename_i c2
        rw [if_neg c2] at htk'
        simp at htk'
    rw [hq, en, ev]
    exact h.setLine hok hn hv rfl rfl rfl (h.line_sent hok hn hv)
   split
   ·exact ⟨E, hsame.push (FrE_ack _ f), fun _ _ _ => rfl, fun _ _ _ => Nat.le_refl _, fun _ h0 => absurd h0 htk⟩
   ·exact ⟨E, hsame, fun _ _ _ => rfl, fun _ _ _ => Nat.le_refl _, fun _ h0 => absurd h0 htk⟩
theorem once_lines (hok : C.ok) (h : OnceN C E) (a : Deed) : ∃ E', OnceL C E a (doC C a).1 (doC C a).2 E' := by
 unfold doC
 split
 ·exact ⟨E, OnceL.idle h (fun hs => by simp [Sent1, errR] at hs) (fun hh => by simp [errR] at hh)⟩
 have hok1 : ({ C with acts := C.acts + 1 } : Clu).ok := ⟨hok.now, hok.kerN, hok.ker, hok.certN, hok.cert, hok.lineN, hok.line, hok.netN, hok.net, by have := hok.acts; simp only; omega⟩
 have h1 := h.acting
 unfold actC
 split
 ·rename_i k1
  have k23 : ∀ r : Rep, ¬ ((a.kind = 2 ∨ a.kind = 3) ∧ r.code = 0) := fun r hh => by omega
  split
  ·exact ⟨E, OnceL.idle h1 (fun hs => by simp [Sent1, errR] at hs) (k23 _)⟩
  rename_i hf
  have a4 : four a.h = true := by simpa using (not_or.1 hf).1
  obtain ⟨n, e, hn⟩ := four_nat a4
  unfold callC
  split
  ·rename_i k6
   split
   ·exact ⟨E, OnceL.idle h1 (fun hs => by simp [Sent1, errR] at hs) (k23 _)⟩
   split
   ·exact ⟨E, OnceL.idle h1 (fun hs => by simp [Sent1, errR] at hs) (k23 _)⟩
   rename_i hx4
   have c4 : four a.call.h = true := by simpa using (not_or.1 hx4).1
   have t4 : four a.call.t = true := by simpa using (not_or.1 hx4).2
   split
   ·rename_i hl
    exact ⟨E, OnceL.idle h1 (fun hs => hl hs.2.2) (k23 _)⟩
   rename_i hl
   have hl : (letterK (C.ker a.h) a.t a.call).2 = 0 := by
    have h0 : ¬ (letterK (C.ker a.h) a.t a.call).2 ≠ 0 := hl
    simpa using h0
   obtain ⟨-, q2, -, -⟩ := letterK_ok hl
   have hmh : (letterK (C.ker a.h) a.t a.call).1.host = a.h := by
    rw [q2, e]
    obtain ⟨k, ek, e2, hk, hkh⟩ := hok.kerAt hn
    show (C.ker n).host = n
    rw [e2, hkh]
   show ∃ E', OnceL C E a (sendC _ a.h a.call.h a.call.t (letterK (C.ker a.h) a.t a.call).1).1 (errR (sendC _ a.h a.call.h a.call.t (letterK (C.ker a.h) a.t a.call).1).2) E'
   have hlm : letterK (C.ker a.h) a.t a.call = ((letterK (C.ker a.h) a.t a.call).1, 0) := by rw [← hl]
   generalize (letterK (C.ker a.h) a.t a.call).1 = m at hmh hlm
   obtain ⟨v, ev, hv⟩ := four_nat c4
   unfold sendC
   split
   ·rename_i hvv
    have hnv : n = v := by omega
    subst hnv
    refine ⟨E.put n n (E n n ++ [(a.call.t, true)]), ?_, fun p q t => ?_, fun p q t => by rw [cntT_app]; omega, fun h' t' m' hm => ?_, fun _ => ⟨a4, c4, t4⟩⟩
    ·have hsub := E.sub_app n n (a.call.t, true)
     have hx : OnceN { C with acts := C.acts + 1 } (E.put n n (E n n ++ [(a.call.t, true)])) := ⟨fun p q hp hq hne => by rw [Sends.put_other E _ (fun hh => hne (hh.1.trans hh.2.symm))]; exact h1.next p q hp hq hne, fun L hL s hs => (h1.sent L hL s hs).up hsub, fun s hs f hf => (h1.net s hs f hf).up hsub, fun p q hp hq hne i t hi => by rw [Sends.put_other E _ (fun hh => hne (hh.1.trans hh.2.symm))] at hi; exact h1.took p q hp hq hne i t hi⟩
     exact hx.same rfl fun _ h => h
    ·refine ⟨fun _ hh => ?_, fun hh => ?_⟩
     ·rw [cntS_app, if_pos ⟨by omega, by omega, hh.2.2⟩]
     ·rw [cntS_app, if_neg (fun hq => hh ⟨⟨k1, k6, rfl⟩, by omega, by omega, hq.2.2⟩), Nat.add_zero]
    ·cases hm with
     | here k1' k6' ha hh ht h4' hr' hl' =>
      rw [← ha, hlm] at hl'
      cases hl'
      refine ⟨n, n, hn, by omega, by rw [hmh, e], ?_⟩
      rw [cntT_app, if_pos ⟨rfl, rfl, rfl, ht⟩]
      exact Nat.le_refl _
     | came s f k23' hs hd hack hh ht hm htk hmay hr' => omega
   ·rename_i hvv
    have hnv : n ≠ v := fun hh => hvv (by omega)
    split
    ·exact ⟨E, OnceL.idle h1 (fun hs => by simp [Sent1, errR] at hs) (k23 _)⟩
    ·split
     ·rename_i hk0
      exact ⟨E, OnceL.idle h1 (fun hs => hk0 hs.2.2) (k23 _)⟩
     ·rename_i hk0
      have hk0' : ¬ (sentLn (Clu.line { C with acts := C.acts + 1 } a.h a.call.h) (mailF a.h a.call.h a.call.t m (showL (Clu.cert { C with acts := C.acts + 1 } a.h) m)) C.now).2.2 ≠ 0 := hk0
      rw [e, ev] at hk0' ⊢
      have hN := h1.sendOut hok1 hn hv hnv (t := a.call.t) (m := m) (cs := showL (Clu.cert { C with acts := C.acts + 1 } n) m) (by simpa using hk0')
      refine ⟨E.put n v (E n v ++ [(a.call.t, false)]), hN, fun p q t => ?_, fun p q t => by rw [cntT_app]; omega, fun h' t' m' hm => ?_, fun _ => ⟨a4, c4, t4⟩⟩
      ·refine ⟨fun _ hh => ?_, fun hh => ?_⟩
       ·rw [cntS_app, if_pos ⟨by omega, by omega, hh.2.2⟩]
       ·rw [cntS_app, if_neg (fun hq => hh ⟨⟨k1, k6, rfl⟩, by omega, by omega, hq.2.2⟩), Nat.add_zero]
      ·cases hm with
       | here k1' k6' ha hh ht h4' hr' hl' => omega
       | came s f k23' hs hd hack hh ht hm htk hmay hr' => omega
  ·rename_i k6
   have hns : ∀ r : Rep, ¬ Sent1 a r := fun r hs => k6 hs.2.1
   split
   ·split
    ·exact ⟨E, OnceL.idle h1 (hns _) (k23 _)⟩
    split
    ·exact ⟨E, OnceL.idle h1 (hns _) (k23 _)⟩
    split
    ·exact ⟨E, OnceL.idle h1 (hns _) (k23 _)⟩
    ·exact ⟨E, OnceL.idle (h1.same rfl fun _ h => h) (hns _) (k23 _)⟩
   ·exact ⟨E, OnceL.idle (h1.same rfl fun _ h => h) (hns _) (k23 _)⟩
 rename_i k1
 have hns : ∀ r : Rep, ¬ Sent1 a r := fun r hs => k1 hs.1
 split
 ·rename_i k234
  split
  ·exact ⟨E, OnceL.idle h1 (hns _) (fun hh => by simp [errR] at hh)⟩
  rename_i hn
  obtain ⟨i, ei⟩ := Int.eq_ofNat_of_zero_le (show 0 ≤ a.n by omega)
  have hi : i < C.net.length := by simp only at hn; omega
  dsimp only
  have hsm : C.net[a.n.toNat]? = some (C.net.getD a.n.toNat ⟨#[]⟩) := by rw [ei, Int.toNat_natCast, List.getD_eq_getElem?_getD, gEg hi]; rfl
  have hok2 : (if a.kind = 3 then ({ C with acts := C.acts + 1 } : Clu) else { C with acts := C.acts + 1, net := C.net.eraseIdx a.n.toNat }).ok := by
   split
   ·exact hok1
   ·exact ⟨hok1.now, hok1.kerN, hok1.ker, hok1.certN, hok1.cert, hok1.lineN, hok1.line, Nat.le_trans (List.length_eraseIdx_le _ _) hok1.netN, fun s hs => hok1.net s (List.mem_of_mem_eraseIdx hs), hok1.acts⟩
  have h2 : OnceN (if a.kind = 3 then ({ C with acts := C.acts + 1 } : Clu) else { C with acts := C.acts + 1, net := C.net.eraseIdx a.n.toNat }) E := by
   split
   ·exact h1
   ·exact h1.same rfl fun s hs => List.mem_of_mem_eraseIdx hs
  have hC3 : ∀ v w, (if a.kind = 3 then ({ C with acts := C.acts + 1 } : Clu) else { C with acts := C.acts + 1, net := C.net.eraseIdx a.n.toNat }).line v w = C.line v w := fun v w => by split <;> rfl
  by_cases k4 : a.kind = 4
  ·rw [if_pos k4]
   exact ⟨E, OnceL.idle h2 (hns _) (fun hh => by omega)⟩
  rw [if_neg k4]
  generalize C.net.getD a.n.toNat ⟨#[]⟩ = s at hsm
  have hsN := h.net s (mgE hsm)
  show ∃ E', OnceL C E a (comeC (if a.kind = 3 then ({ C with acts := C.acts + 1 } : Clu) else { C with acts := C.acts + 1, net := C.net.eraseIdx a.n.toNat }) s) ⟨0, s.size, ⟨#[]⟩⟩ E'
  generalize (if a.kind = 3 then ({ C with acts := C.acts + 1 } : Clu) else { C with acts := C.acts + 1, net := C.net.eraseIdx a.n.toNat }) = D at hok2 h2 hC3
  unfold comeC
  split
  ·rename_i hd
   refine ⟨E, h2, fun p q t => ⟨fun hs _ => absurd hs (hns _), fun _ => rfl⟩, fun _ _ _ => Nat.le_refl _, fun h' t' m' hm => ?_, fun hs => absurd hs (hns _)⟩
   cases hm with
   | here k1' k6' ha hh ht h4' hr' hl' => exact absurd k1' k1
   | came s' f k23' hs hd' hack hh ht hm htk hmay hr' =>
    rw [hsm] at hs
    cases hs
    exact absurd (by rw [hd']) hd
  ·rename_i hd
   have hd0 : decR s.data.toList = ((decR s.data.toList).1, 0) := by
    have : (decR s.data.toList).2 = 0 := by simpa using hd
    rw [← this]
   generalize (decR s.data.toList).1 = f at hd0
   have hg := (dec_only hd0).2
   obtain ⟨g1, g2, g3, g4, g5, g6⟩ := goodF_facts hg
   obtain ⟨E', hN, q1, q2, q3⟩ := h2.come hok2 hg (hsN f hd0)
   refine ⟨E', hN, fun p q t => ⟨fun hs _ => absurd hs (hns _), fun _ => q1 p q t⟩, q2, fun h' t' m' hm => ?_, fun hs => absurd hs (hns _)⟩
   cases hm with
   | here k1' k6' ha hh ht h4' hr' hl' => exact absurd k1' k1
   | came s' f' k23' hs hd' hack hh ht hm htk hmay hr' =>
    rw [hsm] at hs
    cases hs
    rw [hd0] at hd'
    cases hd'
    obtain ⟨n, en, hn⟩ := four_nat g1
    obtain ⟨v, ev, hv⟩ := four_nat g2
    have q4 := q3 hack (by rw [hC3]; exact htk)
    rw [en, ev, Int.toNat_natCast, Int.toNat_natCast] at q4
    exact ⟨n, v, hn, by rw [← hh, ev], by rw [← hm, (g6 hack).2.1, en], by rw [← ht]; exact q4⟩
 rename_i k234
 split
 ·have k5 : ∀ r : Rep, ¬ ((a.kind = 2 ∨ a.kind = 3) ∧ r.code = 0) := fun r hh => by omega
  generalize ({ C with acts := C.acts + 1 } : Clu) = C1 at hok1 h1
  unfold tickC
  split
  ·exact ⟨E, OnceL.idle h1 (hns _) (k5 _)⟩
  ·rename_i hn
   have hok2 : ({ C1 with now := C1.now + a.n } : Clu).ok := ⟨⟨by have := hok1.now; simp only; omega, by have := hok1.now; simp only; omega⟩, hok1.kerN, hok1.ker, hok1.certN, hok1.cert, hok1.lineN, hok1.line, hok1.netN, hok1.net, hok1.acts⟩
   have h2 : OnceN { C1 with now := C1.now + a.n } E := h1.same rfl fun _ h => h
   generalize ({ C1 with now := C1.now + a.n } : Clu) = D at hok2 h2
   have hT := OnceN.tick 16 0 hok2 (by omega) h2
   generalize tickAll 16 0 D = T at hT
   exact ⟨E, OnceL.idle hT (hns _) (k5 _)⟩
 ·exact ⟨E, OnceL.idle h1 (hns _) (fun hh => by omega)⟩
end
section
variable {C : Clu}
theorem doC_full (a : Deed) (h : C.acts = 300) : doC C a = (C, errR 5) := by
 unfold doC
 rw [if_pos (by omega)]
theorem stepC_refused (k : Ker) (t : Int) (c : Req) (h7 : c.kind ≠ 7) : (stepC k t c).2.code = 0 ∨ ((stepC k t c).1 = k ∧ (stepC k t c).2.n = 0 ∧ (stepC k t c).2.text = ⟨#[]⟩) := by
 unfold stepC
 split
 ·exact .inr ⟨rfl, rfl, rfl⟩
 ·split
  ·exact .inr ⟨rfl, rfl, rfl⟩
  ·unfold callK
   dsimp only
   repeat' split
   all_goals first
    | exact .inr ⟨rfl, rfl, rfl⟩
    | exact .inl rfl
    | exact absurd (by assumption) h7
theorem setKer_self (h : Int) (v w : Int) : (C.setKer h (C.ker h)).thr v w = C.thr v w := by
 unfold Clu.thr
 congr 1
 unfold Clu.setKer Clu.ker
 simp only [List.getD_eq_getElem?_getD]
 rw [List.getElem?_set]
 by_cases e : h.toNat = v.toNat
 ·rw [if_pos e, ← e]
  by_cases q : h.toNat < C.kers.length
  ·rw [if_pos q, gEg q]; rfl
  ·rw [if_neg q, List.getElem?_eq_none (by omega)]
 ·rw [if_neg e]
structure Refused (C C' : Clu) (r : Rep) : Prop where
 thr : ∀ h t, C'.thr h t = C.thr h t
 n : r.n = 0
 text : r.text = ⟨#[]⟩
 net : C'.net = C.net
 now : C'.now = C.now
theorem doC_refused (a : Deed) (h7 : ¬ (a.kind = 1 ∧ a.call.kind = 7)) : (doC C a).2.code = 0 ∨ Refused C (doC C a).1 (doC C a).2 := by
 have hI : ∀ e, Refused C { C with acts := C.acts + 1 } (errR e) := fun e => ⟨fun _ _ => rfl, rfl, rfl, rfl, rfl⟩
 unfold doC
 split
 ·exact .inr ⟨fun _ _ => rfl, rfl, rfl, rfl, rfl⟩
 unfold actC
 split
 ·rename_i k1
  split
  ·exact .inr (hI _)
  ·unfold callC
   split
   ·split
    ·exact .inr (hI _)
    ·split
     ·exact .inr (hI _)
     ·split
      ·exact .inr (hI _)
      ·unfold sendC
       split
       ·exact .inl rfl
       ·split
        ·exact .inr (hI _)
        ·split
         ·exact .inr (hI _)
         ·exact .inl rfl
   ·split
    ·split
     ·exact .inr (hI _)
     ·split
      ·exact .inr (hI _)
      ·split
       ·exact .inr (hI _)
       ·exact .inl rfl
    ·rcases stepC_refused (C.ker a.h) a.t a.call (fun h => h7 ⟨k1, h⟩) with h | ⟨h1, h2, h3⟩
     ·exact .inl h
     ·refine .inr ⟨fun v w => ?_, h2, h3, rfl, rfl⟩
      show (Clu.setKer { C with acts := C.acts + 1 } a.h (stepC (C.ker a.h) a.t a.call).1).thr v w = _
      rw [h1]
      exact setKer_self (C := { C with acts := C.acts + 1 }) a.h v w
 ·split
  ·split
   ·exact .inr (hI _)
   ·exact .inl rfl
  ·split
   ·unfold tickC
    split
    ·exact .inr (hI _)
    ·exact .inl rfl
   ·exact .inr (hI _)
/-! ### What leaves a host -/
structure SentOut (C' : Clu) (a : Deed) : Prop where
 h : four a.h = true
 t : four a.t = true
 may : a.call.h ≠ a.h → mayB (C'.cert a.h) a.call.h ⟨a.h, a.t, a.call.label, a.call.grants, ⟨#[]⟩⟩ C'.now = true
 flow : a.call.h ≠ a.h → flowsL (C'.thr a.h a.t).label a.call.label (C'.thr a.h a.t).own = true
 good : goodMailC ⟨a.h, a.t, a.call.label, a.call.grants, knowT (C'.thr a.h a.t).text a.call.text⟩ = 0 ∨ a.call.h = a.h
end
section
variable {C : Clu} {E : Sends}
theorem Clu.ok.acting' (h : C.ok) (ha : ¬ 300 ≤ C.acts) : ({ C with acts := C.acts + 1 } : Clu).ok := ⟨h.now, h.kerN, h.ker, h.certN, h.cert, h.lineN, h.line, h.netN, h.net, by have := h.acts; simp only; omega⟩
/-! ### No number that came is greater than those that were given -/
def HighI (C : Clu) : Prop := ∀ p h : Nat, p < 4 → h < 4 → p ≠ h → (C.line p h).high ≤ (C.line p h).next
def LineUp (C C' : Clu) (u v : Nat) : Prop := (C.line u v).next ≤ (C'.line u v).next ∧ ((C'.line u v).high ≤ (C.line u v).high ∨ ∃ s f, s ∈ C.net ∧ decR s.data.toList = (f, 0) ∧ f.ack = false ∧ f.src = u ∧ f.dst = v ∧ (C'.line u v).high ≤ max (C.line u v).high f.seq)
theorem LineUp.same {C' : Clu} {u v : Nat} (h : C'.line u v = C.line u v) : LineUp C C' u v := ⟨by rw [h]; exact Int.le_refl _, .inl (by rw [h]; exact Int.le_refl _)⟩
theorem tookLn_high (L : Line) (seq : Int) : (tookLn L seq).1.high ≤ max L.high seq := by
 unfold tookLn takeC
 simp only
 split
 ·omega
 ·split
  ·omega
  ·split
   ·split <;> simp only <;> omega
   ·simp only; omega
theorem tickAll_line : ∀ (n i : Nat) (C : Clu) (j : Nat), (tickAll n i C).1.lines[j]? = if i ≤ j ∧ j < i + n then (C.lines[j]?).map (fun L => (againLn L C.now).1) else C.lines[j]?
 | 0, i, C, j => by rw [if_neg (by omega)]; rfl
 | n + 1, i, C, j => by
  unfold tickAll
  dsimp only
  rw [tickAll_line n (i + 1)]
  obtain ⟨h1, -, -, h4, -⟩ := pushAll_same (againLn (C.lines.getD i zeroL) C.now).2 { C with lines := C.lines.set i (againLn (C.lines.getD i zeroL) C.now).1 }
  rw [h4, h1]
  simp only
  rw [List.getElem?_set]
  by_cases e : i = j
  ·subst e
   rw [if_neg (by omega), if_pos rfl]
   have hb : i ≤ i ∧ i < i + (n + 1) := ⟨Nat.le_refl _, by omega⟩
   by_cases q : i < C.lines.length
   ·rw [if_pos q, if_pos hb, gEg q, List.getD_eq_getElem?_getD, gEg q]; rfl
   ·rw [if_neg q, if_pos hb, List.getElem?_eq_none (by omega)]; rfl
  ·rw [if_neg e]
   by_cases q : i ≤ j ∧ j < i + (n + 1)
   ·rw [if_pos (by omega), if_pos q]
   ·rw [if_neg (by omega), if_neg q]
theorem tick_line (hok : C.ok) {u v : Nat} (hu : u < 4) (hv : v < 4) : (tickAll 16 0 C).1.line u v = (againLn (C.line u v) C.now).1 := by
 have h := tickAll_line 16 0 C (u * 4 + v)
 rw [if_pos (by omega)] at h
 obtain ⟨L, eL, e3, -, -⟩ := hok.lineAt hu hv
 rw [e3]
 rw [eL] at h
 generalize tickAll 16 0 C = T at h
 unfold Clu.line lineAt
 rw [Int.toNat_natCast, Int.toNat_natCast]
 exact getD_at h
theorem doC_line (hok : C.ok) (a : Deed) {u v : Nat} (hu : u < 4) (hv : v < 4) : LineUp C (doC C a).1 u v := by
 unfold doC
 split
 ·exact .same rfl
 rename_i c0
 have hok1 := hok.acting' c0
 unfold actC
 split
 ·split
  ·exact .same rfl
  rename_i hf
  have a4 : four a.h = true := by simpa using (not_or.1 hf).1
  obtain ⟨n, en, hn⟩ := four_nat a4
  unfold callC
  split
  ·split
   ·exact .same rfl
   split
   ·exact .same rfl
   rename_i hx4
   have c4 : four a.call.h = true := by simpa using (not_or.1 hx4).1
   obtain ⟨m, em, hm⟩ := four_nat c4
   split
   ·exact .same rfl
   show LineUp C (sendC { C with acts := C.acts + 1 } a.h a.call.h a.call.t (letterK (C.ker a.h) a.t a.call).1).1 u v
   generalize (letterK (C.ker a.h) a.t a.call).1 = ml
   unfold sendC
   split
   ·exact .same rfl
   ·split
    ·exact .same rfl
    ·split
     ·exact .same rfl
     ·rw [en, em]
      unfold LineUp
      rw [pushC_line]
      by_cases e : u = n ∧ v = m
      ·obtain ⟨rfl, rfl⟩ := e
       rw [line_set_same hok1 hu hv]
       refine ⟨?_, .inl (Int.le_refl _)⟩
       show (C.line u v).next ≤ (sentLn (C.line u v) _ _).1.next
       unfold sentLn sendX
       simp only
       split
       ·exact Int.le_refl _
       ·split
        ·exact Int.le_refl _
        ·simp only; omega
      ·rw [line_set_other hv hm e]
       exact ⟨Int.le_refl _, .inl (Int.le_refl _)⟩
  ·split
   ·split
    ·exact .same rfl
    split
    ·exact .same rfl
    split <;> exact .same rfl
   ·exact .same rfl
 split
 ·split
  ·exact .same rfl
  rename_i hn
  dsimp only
  obtain ⟨i, ei⟩ := Int.eq_ofNat_of_zero_le (show 0 ≤ a.n by omega)
  have hi : i < C.net.length := by simp only at hn; omega
  have hsm : C.net.getD a.n.toNat ⟨#[]⟩ ∈ C.net := by
   rw [ei, Int.toNat_natCast, List.getD_eq_getElem?_getD, gEg hi]
   exact List.getElem_mem _
  have hC3 : ∀ v w, (if a.kind = 3 then ({ C with acts := C.acts + 1 } : Clu) else { C with acts := C.acts + 1, net := C.net.eraseIdx a.n.toNat }).line v w = C.line v w := fun v w => by split <;> rfl
  have hok2 : (if a.kind = 3 then ({ C with acts := C.acts + 1 } : Clu) else { C with acts := C.acts + 1, net := C.net.eraseIdx a.n.toNat }).ok := by
   split
   ·exact hok1
   ·exact ⟨hok1.now, hok1.kerN, hok1.ker, hok1.certN, hok1.cert, hok1.lineN, hok1.line, Nat.le_trans (List.length_eraseIdx_le _ _) hok1.netN, fun s hs => hok1.net s (List.mem_of_mem_eraseIdx hs), hok1.acts⟩
  split
  ·exact .same (hC3 u v)
  ·show LineUp C (comeC (if a.kind = 3 then ({ C with acts := C.acts + 1 } : Clu) else { C with acts := C.acts + 1, net := C.net.eraseIdx a.n.toNat }) (C.net.getD a.n.toNat ⟨#[]⟩)) u v
   generalize (if a.kind = 3 then ({ C with acts := C.acts + 1 } : Clu) else { C with acts := C.acts + 1, net := C.net.eraseIdx a.n.toNat }) = D at hC3 hok2
   generalize C.net.getD a.n.toNat ⟨#[]⟩ = s at hsm
   unfold comeC
   split
   ·exact .same (hC3 u v)
   rename_i hd
   have hd0 : decR s.data.toList = ((decR s.data.toList).1, 0) := by
    have : (decR s.data.toList).2 = 0 := by simpa using hd
    rw [← this]
   generalize (decR s.data.toList).1 = f at hd0
   obtain ⟨g1, g2, -, -, -, -⟩ := goodF_facts (dec_only hd0).2
   obtain ⟨n, en, hn'⟩ := four_nat g1
   obtain ⟨m, em, hm⟩ := four_nat g2
   unfold comeF
   split
   ·rw [en, em]
    unfold LineUp
    by_cases e : u = m ∧ v = n
    ·obtain ⟨rfl, rfl⟩ := e
     rw [line_set_same hok2 hu hv, hC3]
     exact ⟨Int.le_refl _, .inl (Int.le_refl _)⟩
    ·rw [line_set_other hv hn' e, hC3]
     exact ⟨Int.le_refl _, .inl (Int.le_refl _)⟩
   ·rename_i hack
    have hack : f.ack = false := by simpa using hack
    have hset : LineUp C (D.setLine f.src f.dst (tookLn (D.line f.src f.dst) f.seq).1) u v := by
     rw [en, em]
     unfold LineUp
     by_cases e : u = n ∧ v = m
     ·obtain ⟨rfl, rfl⟩ := e
      rw [line_set_same hok2 hu hv, hC3]
      exact ⟨Int.le_refl _, .inr ⟨s, f, hsm, hd0, hack, en, em, tookLn_high _ _⟩⟩
     ·rw [line_set_other hv hm e, hC3]
      exact ⟨Int.le_refl _, .inl (Int.le_refl _)⟩
    have hpush : LineUp C (pushC (D.setLine f.src f.dst (tookLn (D.line f.src f.dst) f.seq).1) (ackOf f)) u v := by
     unfold LineUp
     rw [pushC_line]
     exact hset
    split
    ·unfold tookC
     split <;> exact hpush
    ·split
     ·exact hpush
     ·exact hset
 split
 ·generalize hC1 : ({ C with acts := C.acts + 1 } : Clu) = C1 at hok1
  have hl : C1.line u v = C.line u v := by rw [← hC1]; rfl
  unfold tickC
  split
  ·exact .same hl
  ·rename_i hn
   have hok2 : ({ C1 with now := C1.now + a.n } : Clu).ok := ⟨⟨by have := hok1.now; simp only; omega, by have := hok1.now; simp only; omega⟩, hok1.kerN, hok1.ker, hok1.certN, hok1.cert, hok1.lineN, hok1.line, hok1.netN, hok1.net, hok1.acts⟩
   have hl2 : ({ C1 with now := C1.now + a.n } : Clu).line u v = C.line u v := hl
   generalize ({ C1 with now := C1.now + a.n } : Clu) = D at hok2 hl2
   have hT := tick_line hok2 hu hv
   generalize tickAll 16 0 D = T at hT
   unfold LineUp
   show (C.line u v).next ≤ (T.1.line u v).next ∧ _
   rw [hT, hl2]
   exact ⟨Int.le_refl _, .inl (Int.le_refl _)⟩
 ·exact .same rfl
theorem doC_high (hok : C.ok) (hN : OnceN C E) (h : HighI C) (a : Deed) : HighI (doC C a).1 := fun p q hp hq hne => by
 obtain ⟨h1, h2⟩ := doC_line hok a hp hq
 have h3 := h p q hp hq hne
 rcases h2 with h2 | ⟨s, f, hs, hd, hack, e1, e2, h2⟩
 ·omega
 ·obtain ⟨i, b, h4, h5⟩ := hN.net s hs f hd hack
  rw [e1, e2, Int.toNat_natCast, Int.toNat_natCast] at h5
  have h6 := (gEs h5).1
  have h7 := hN.next p q hp hq hne
  omega
theorem high_new : HighI newC := fun p q hp hq _ => by
 have : newC.line p q = zeroL := by
  unfold Clu.line lineAt newC
  simp only [Int.toNat_natCast, List.getD_eq_getElem?_getD]
  rw [List.getElem?_replicate, if_pos (by omega)]
  rfl
 rw [this]
 decide
/-! ### A frame that goes out is under way, or there is no room -/
def InOr (s : ByteArray) (C : Clu) : Prop := s ∈ C.net ∨ 60 ≤ C.net.length
theorem push_grows (f : Frame) : (∀ s ∈ C.net, s ∈ (pushC C f).net) ∧ C.net.length ≤ (pushC C f).net.length := by
 unfold pushC
 split
 ·exact ⟨fun s hs => List.mem_append.2 (.inl hs), by simp⟩
 ·exact ⟨fun s hs => hs, Nat.le_refl _⟩
theorem InOr.push {s : ByteArray} (h : InOr s C) (f : Frame) : InOr s (pushC C f) := h.imp (fun h => (push_grows f).1 s h) fun h => Nat.le_trans h (push_grows f).2
theorem InOr.pushAll {s : ByteArray} (fs : List Frame) : ∀ {C : Clu}, InOr s C → InOr s (Proofs.YtnjjdpiofbajlaaGreat.pushAll C fs) := by
 induction fs with
 | nil => exact fun h => h
 | cons f fs ih => exact fun h => ih (h.push f)
theorem push_in {f : Frame} (hg : goodFrameC f = 0) : InOr ⟨(encL f).toArray⟩ (pushC C f) := by
 unfold pushC encR
 rw [if_pos hg]
 by_cases q : C.net.length < 60
 ·rw [if_pos ⟨rfl, q⟩]; exact .inl (by simp)
 ·rw [if_neg (fun hh => q hh.2)]; exact .inr (by omega)
theorem pushAll_in {f : Frame} (hg : goodFrameC f = 0) (fs : List Frame) : ∀ {C : Clu}, f ∈ fs → InOr ⟨(encL f).toArray⟩ (Proofs.YtnjjdpiofbajlaaGreat.pushAll C fs) := by
 induction fs with
 | nil => intro C h; simp at h
 | cons g fs ih =>
  intro C h
  rcases List.mem_cons.1 h with rfl | h
  ·exact InOr.pushAll fs (push_in hg)
  ·exact ih h
theorem InOr.tickAll {s : ByteArray} : ∀ (n i : Nat) {C : Clu}, InOr s C → InOr s (Proofs.YtnjjdpiofbajlaaGreat.tickAll n i C).1
 | 0, _, _, h => h
 | n + 1, i, C, h => by
  unfold Proofs.YtnjjdpiofbajlaaGreat.tickAll
  exact InOr.tickAll n (i + 1) (InOr.pushAll _ (C := { C with lines := C.lines.set i (againLn (C.lines.getD i zeroL) C.now).1 }) h)
theorem tickAll_in {f : Frame} (hg : goodFrameC f = 0) : ∀ (n i j : Nat) {C : Clu}, i ≤ j → j < i + n → f ∈ (againLn (C.lines.getD j zeroL) C.now).2 → InOr ⟨(encL f).toArray⟩ (tickAll n i C).1
 | 0, _, _, _, h1, h2, _ => by omega
 | n + 1, i, j, C, h1, h2, hf => by
  unfold Proofs.YtnjjdpiofbajlaaGreat.tickAll
  dsimp only
  by_cases e : i = j
  ·subst e
   exact InOr.tickAll n (i + 1) (pushAll_in hg _ hf)
  ·refine tickAll_in hg n (i + 1) j (by omega) (by omega) ?_
   obtain ⟨q1, -, -, q4, -⟩ := pushAll_same (againLn (C.lines.getD i zeroL) C.now).2 { C with lines := C.lines.set i (againLn (C.lines.getD i zeroL) C.now).1 }
   rw [q4, q1]
   simp only
   rw [List.getD_eq_getElem?_getD, List.getElem?_set_ne e, ← List.getD_eq_getElem?_getD]
   exact hf
/-! ### The frame through the law's acts -/
structure ArrI (C : Clu) (F : Frame) (i : Nat) : Prop where
 ok : C.ok
 good : goodFrameC F = 0
 ack : F.ack = false
 sent : (⟨F, ((1 + i : Nat) : Int), C.now + 2 ^ (i + 1)⟩ : Sent) ∈ (C.line F.src F.dst).sent
 high : (C.line F.src F.dst).high < F.seq
def zeroQ : Req := ⟨0, 0, 0, 0, 0, [], [], ⟨#[]⟩⟩
def dropD : Deed := ⟨4, 0, 0, 0, zeroQ⟩
def tickD (n : Int) : Deed := ⟨5, 0, 0, n, zeroQ⟩
def comeD (n : Int) : Deed := ⟨2, 0, 0, n, zeroQ⟩
def sendD (h t tz u : Int) (text : ByteArray) : Deed := ⟨1, h, t, 0, ⟨6, tz, u, 0, 0, [], [], text⟩⟩
theorem doC_drop (ha : C.acts < 300) (hn : C.net ≠ []) : doC C dropD = ({ C with acts := C.acts + 1, net := C.net.tail }, ⟨0, (C.net.getD 0 ⟨#[]⟩).size, ⟨#[]⟩⟩) := by
 have hl : 0 < C.net.length := List.length_pos_iff.2 hn
 unfold doC actC dropD
 rw [if_neg (by omega)]
 dsimp only
 rw [if_neg (by decide), if_pos (by decide), if_neg (by omega)]
 simp [List.eraseIdx_zero]
def dropK (C : Clu) (k : Nat) : Clu := { C with acts := C.acts + k, net := C.net.drop k }
theorem dropK_zero : dropK C 0 = C := by unfold dropK; simp
theorem dropK_succ {k : Nat} (hk : k < C.net.length) (ha : C.acts + k < 300) : (doC (dropK C k) dropD).1 = dropK C (k + 1) ∧ (doC (dropK C k) dropD).2.code = 0 := by
 rw [doC_drop (by unfold dropK; simpa using ha) (by unfold dropK; simp; omega)]
 unfold dropK
 refine ⟨?_, rfl⟩
 simp only [List.tail_drop, Clu.mk.injEq, and_true, true_and]
 push_cast
 omega
theorem ArrI.drop {F : Frame} {i : Nat} (h : ArrI C F i) {k : Nat} (hok : (dropK C k).ok) : ArrI (dropK C k) F i := ⟨hok, h.good, h.ack, h.sent, h.high⟩
theorem ArrI.tick {F : Frame} {i : Nat} (h : ArrI C F i) (hi : i < 4) (ha : C.acts < 300) (h0 : (doC C (tickD (2 ^ (i + 1)))).2.code = 0) : ArrI (doC C (tickD (2 ^ (i + 1)))).1 F (i + 1) ∧ InOr ⟨(encL F).toArray⟩ (doC C (tickD (2 ^ (i + 1)))).1 := by
 obtain ⟨g1, g2, g3, -, -, -⟩ := goodF_facts h.good
 obtain ⟨n, en, hn⟩ := four_nat g1
 obtain ⟨m, em, hm⟩ := four_nat g2
 have hok' := doC_ok h.ok (tickD (2 ^ (i + 1)))
 have hok1 := h.ok.acting' (show ¬ 300 ≤ C.acts by omega)
 revert h0 hok'
 unfold doC
 rw [if_neg (by omega)]
 unfold actC tickD
 dsimp only
 rw [if_neg (by decide), if_neg (by decide), if_pos (by decide)]
 generalize hC1 : ({ C with acts := C.acts + 1 } : Clu) = C1 at hok1
 have hl : C1.line F.src F.dst = C.line F.src F.dst := by rw [← hC1]; rfl
 have hnow : C1.now = C.now := by rw [← hC1]
 unfold tickC
 intro h0 hok'
 split at h0
 ·simp [errR] at h0
 rename_i hr
 rw [if_neg hr] at hok' ⊢
 have hok2 : ({ C1 with now := C1.now + 2 ^ (i + 1) } : Clu).ok := ⟨⟨by have := hok1.now; simp only; omega, by have := hok1.now; simp only; omega⟩, hok1.kerN, hok1.ker, hok1.certN, hok1.cert, hok1.lineN, hok1.line, hok1.netN, hok1.net, hok1.acts⟩
 have hl2 : ({ C1 with now := C1.now + 2 ^ (i + 1) } : Clu).line F.src F.dst = C.line F.src F.dst := hl
 have hn2 : ({ C1 with now := C1.now + 2 ^ (i + 1) } : Clu).now = C.now + 2 ^ (i + 1) := by simp only; rw [hnow]
 generalize ({ C1 with now := C1.now + 2 ^ (i + 1) } : Clu) = D at hok' hok2 hl2 hn2
 have hT := tick_line hok2 hn hm
 have hTn := (tickAll_same 16 0 D).1
 have hTin := fun hf => tickAll_in h.good 16 0 (n * 4 + m) (C := D) (by omega) (by omega) hf
 rw [← en, ← em, hl2, hn2] at hT
 rw [hn2] at hTn hTin
 have hgl : D.lines.getD (n * 4 + m) zeroL = C.line F.src F.dst := by
  rw [← hl2]
  unfold Clu.line lineAt
  rw [en, em, Int.toNat_natCast, Int.toNat_natCast]
 rw [hgl] at hTin
 generalize tickAll 16 0 D = T at hok' hT hTn hTin
 have hg : lineOk (C.line F.src F.dst) = true := by
  obtain ⟨L, eL, e3, hL, -⟩ := h.ok.lineAt hn hm
  rw [en, em, e3]; exact hL
 have hnb := hok2.now
 rw [hn2] at hnb
 have hk : keepS (C.now + 2 ^ (i + 1)) ⟨F, ((1 + i : Nat) : Int), C.now + 2 ^ (i + 1)⟩ = some ⟨F, ((1 + (i + 1) : Nat) : Int), C.now + 2 ^ (i + 1) + 2 ^ (i + 1 + 1)⟩ := by
  unfold keepS
  simp only
  rw [if_neg (by omega), if_pos (by omega), show (((1 + i : Nat) : Int) + 1).toNat = i + 1 + 1 by omega, show (((1 + i : Nat) : Int) + 1) = ((1 + (i + 1) : Nat) : Int) by omega]
 have ho : outS (C.now + 2 ^ (i + 1)) ⟨F, ((1 + i : Nat) : Int), C.now + 2 ^ (i + 1)⟩ = some F := by
  unfold outS
  simp only
  rw [if_neg (by omega), if_pos (by omega)]
 have hag : againLn (C.line F.src F.dst) (C.now + 2 ^ (i + 1)) = ({ C.line F.src F.dst with sent := (C.line F.src F.dst).sent.filterMap (keepS (C.now + 2 ^ (i + 1))) }, (C.line F.src F.dst).sent.filterMap (outS (C.now + 2 ^ (i + 1)))) := by
  unfold againLn againX
  rw [if_neg (by rw [hg]; simp; omega)]
 rw [hag] at hT hTin
 refine ⟨⟨hok', h.good, h.ack, ?_, ?_⟩, hTin (List.mem_filterMap.2 ⟨_, h.sent, ho⟩)⟩
 ·show _ ∈ (T.1.line F.src F.dst).sent
  rw [hT, hTn]
  exact List.mem_filterMap.2 ⟨_, h.sent, hk⟩
 ·show (T.1.line F.src F.dst).high < F.seq
  rw [hT]
  exact h.high
theorem arr_send (hok : C.ok) (hH : HighI C) (hnet : C.net = []) {h t tz u : Nat} (hh : h < 4) (ht : t < 4) (hto : tz < 4) (hu : u < 4) (hne : h ≠ tz) (text : ByteArray) (htx : text.size ≤ 64) (h0 : (doC C (sendD h t tz u text)).2.code = 0) :
  ∃ F, ArrI (doC C (sendD h t tz u text)).1 F 0 ∧ (doC C (sendD h t tz u text)).1.net = [⟨(encL F).toArray⟩] ∧ F.src = h ∧ F.dst = tz ∧ F.thread = u ∧ F.mail.host = h ∧ F.mail.thread = t ∧ F.mail.label = [] ∧ F.mail.grants = [] := by
 have hok' := doC_ok hok (sendD h t tz u text)
 revert h0 hok'
 unfold doC
 split
 ·intro h0; simp [errR] at h0
 rename_i c0
 have hok1 := hok.acting' c0
 unfold actC sendD
 dsimp only
 rw [if_pos rfl, if_neg (by rw [four_n hh, four_n ht]; simp)]
 unfold callC
 dsimp only
 rw [if_pos rfl, if_neg (by omega), if_neg (by rw [four_n hto, four_n hu]; simp)]
 intro h0
 split at h0
 ·rename_i hl; exact absurd h0 hl
 rename_i hl
 have hl : (letterK (C.ker h) t ⟨6, tz, u, 0, 0, [], [], text⟩).2 = 0 := by
  have q : ¬ (letterK (C.ker h) t ⟨6, tz, u, 0, 0, [], [], text⟩).2 ≠ 0 := hl
  simpa using q
 obtain ⟨-, q2, q3, -, -⟩ := letterK_ok hl
 have hkh : (C.ker h).host = h := by
  obtain ⟨k, ek, e2, hk, hkh⟩ := hok.kerAt hh
  rw [e2, hkh]
 rw [if_neg (by intro hh2; exact hh2 hl)]
 have hM : letterM (C.ker h) t ⟨6, tz, u, 0, 0, [], [], text⟩ = ⟨h, t, [], [], knowT ((C.ker h).thr t).text text⟩ := by unfold letterM; rw [hkh]
 rw [hM] at q2 q3
 have h0' : (sendC { C with acts := C.acts + 1 } h tz u (letterK (C.ker h) t ⟨6, tz, u, 0, 0, [], [], text⟩).1).2 = 0 := h0
 show (sendC { C with acts := C.acts + 1 } h tz u (letterK (C.ker h) t ⟨6, tz, u, 0, 0, [], [], text⟩).1).1.ok → ∃ F, ArrI (sendC { C with acts := C.acts + 1 } h tz u (letterK (C.ker h) t ⟨6, tz, u, 0, 0, [], [], text⟩).1).1 F 0 ∧ (sendC { C with acts := C.acts + 1 } h tz u (letterK (C.ker h) t ⟨6, tz, u, 0, 0, [], [], text⟩).1).1.net = _ ∧ _
 rw [q2] at h0' ⊢
 generalize knowT ((C.ker h).thr t).text text = tx at q3 h0'
 generalize hC1 : ({ C with acts := C.acts + 1 } : Clu) = C1 at hok1 h0'
 have hl1 : C1.line h tz = C.line h tz := by rw [← hC1]; rfl
 have hn1 : C1.net = [] := by rw [← hC1]; exact hnet
 unfold sendC at h0' ⊢
 rw [if_neg (by omega)] at h0' ⊢
 split at h0'
 ·simp at h0'
 rename_i c5
 rw [if_neg c5]
 split at h0'
 ·rename_i c6; exact absurd h0' c6
 rename_i c6
 rw [if_neg c6]
 intro hok'
 obtain ⟨L, eL, e3, hL, hs⟩ := hok1.lineAt hh hto
 obtain ⟨lc, elc, e4, hlc⟩ := hok1.certAt hh
 have c6' : (sentLn (C1.line h tz) (mailF h tz u ⟨h, t, [], [], tx⟩ (showL (C1.cert h) ⟨h, t, [], [], tx⟩)) C1.now).2.2 = 0 := by simpa using c6
 have hsl : sentLn (C1.line h tz) (mailF h tz u ⟨h, t, [], [], tx⟩ (showL (C1.cert h) ⟨h, t, [], [], tx⟩)) C1.now = ({ C1.line h tz with next := (C1.line h tz).next + 1, sent := (C1.line h tz).sent ++ [⟨{ mailF h tz u ⟨h, t, [], [], tx⟩ (showL (C1.cert h) ⟨h, t, [], [], tx⟩) with seq := (C1.line h tz).next + 1 }, 1, C1.now + 2⟩] }, { mailF h tz u ⟨h, t, [], [], tx⟩ (showL (C1.cert h) ⟨h, t, [], [], tx⟩) with seq := (C1.line h tz).next + 1 }, 0) := by
  revert c6'
  unfold sentLn sendX
  split
  ·intro h; simp at h
  ·split
   ·intro h; simp at h
   ·intro _; rfl
 have hnx := ((lineOk_iff L).1 hL).1
 have hnx2 : (C1.line h tz).next < 1099511627775 := by
  have := (sentLn_ok (f := mailF h tz u ⟨h, t, [], [], tx⟩ (showL (C1.cert h) ⟨h, t, [], [], tx⟩)) (by rw [e3]; exact hL : lineOk (C1.line h tz) = true) hok1.now.1 hok1.now.2).2.2 c6'
  exact this.2
 have hg := showL_good (by rw [e4]; exact hlc : goodCerts (C1.cert h) = true) ⟨h, t, [], [], tx⟩
 rw [hsl]
 dsimp only
 generalize hF : ({ mailF h tz u ⟨h, t, [], [], tx⟩ (showL (C1.cert h) ⟨h, t, [], [], tx⟩) with seq := (C1.line h tz).next + 1 } : Frame) = F
 have hgood : goodFrameC F = 0 := by
  rw [← hF]
  exact mailF_good (four_n hh) (four_n hto) (by omega) (four_n hu) (by rw [e3] at hnx2 ⊢; omega) q3 rfl hg.1 hg.2
 have e1 : F.src = h := by rw [← hF]; rfl
 have e2 : F.dst = tz := by rw [← hF]; rfl
 have hnetF : (pushC (C1.setLine h tz { C1.line h tz with next := (C1.line h tz).next + 1, sent := (C1.line h tz).sent ++ [⟨F, 1, C1.now + 2⟩] }) F).net = [⟨(encL F).toArray⟩] := by
  unfold pushC encR
  rw [if_pos hgood, if_pos ⟨rfl, by show C1.net.length < 60; rw [hn1]; decide⟩]
  show C1.net ++ _ = _
  rw [hn1]; rfl
 refine ⟨F, ⟨?_, hgood, by rw [← hF]; rfl, ?_, ?_⟩, hnetF, e1, e2, by rw [← hF]; rfl, by rw [← hF]; rfl, by rw [← hF]; rfl, by rw [← hF]; rfl, by rw [← hF]; rfl⟩
 ·rw [hsl] at hok'
  dsimp only at hok'
  rw [hF] at hok'
  exact hok'
 ·rw [pushC_line, e1, e2, line_set_same hok1 hh hto, (pushC_same _ _).1]
  simp
  right
  rfl
 ·rw [pushC_line, e1, e2, line_set_same hok1 hh hto]
  have h9 := hH h tz hh hto hne
  rw [← hl1] at h9
  rw [← hF]
  simp only
  omega
theorem ArrI.come {F : Frame} {i : Nat} (h : ArrI C F i) {k : Nat} (hk : C.net[k]? = some ⟨(encL F).toArray⟩) (ha : C.acts < 300) (hl : F.mail.label = []) (hg : F.mail.grants = []) :
  (doC C (comeD k)).2.code = 0 ∧ (doC C (comeD k)).1.thr F.dst F.thread = (deliverK (C.ker F.dst) F.thread F.mail).thr F.thread := by
 obtain ⟨g1, g2, g3, g4, g5, -⟩ := goodF_facts h.good
 obtain ⟨n, en, hn⟩ := four_nat g1
 obtain ⟨m, em, hm⟩ := four_nat g2
 have hkl := (gEs hk).1
 have hok1 := h.ok.acting' (show ¬ 300 ≤ C.acts by omega)
 unfold doC actC comeD
 rw [if_neg (by omega)]
 dsimp only
 rw [if_neg (by decide), if_pos (by decide), if_neg (by omega), if_neg (by decide), if_neg (by decide)]
 have hs : C.net.getD ((k : Int)).toNat ⟨#[]⟩ = ⟨(encL F).toArray⟩ := by rw [List.getD_eq_getElem?_getD, Int.toNat_natCast, hk]; rfl
 refine ⟨rfl, ?_⟩
 rw [hs]
 have hok2 : ({ C with acts := C.acts + 1, net := C.net.eraseIdx ((k : Int)).toNat } : Clu).ok := ⟨hok1.now, hok1.kerN, hok1.ker, hok1.certN, hok1.cert, hok1.lineN, hok1.line, Nat.le_trans (List.length_eraseIdx_le _ _) hok1.netN, fun s hs => hok1.net s (List.mem_of_mem_eraseIdx hs), hok1.acts⟩
 generalize hD : ({ C with acts := C.acts + 1, net := C.net.eraseIdx ((k : Int)).toNat } : Clu) = D at hok2
 have hDl : D.line F.src F.dst = C.line F.src F.dst := by rw [← hD]; rfl
 have hDk : ∀ v, D.ker v = C.ker v := fun v => by rw [← hD]; rfl
 unfold comeC
 rw [show (⟨(encL F).toArray⟩ : ByteArray).data.toList = encL F from by simp, dec_enc h.good, if_neg (by simp)]
 unfold comeF
 have htk : (tookLn (D.line F.src F.dst) F.seq).2 = 0 := by
  rw [hDl]
  have hlo : lineOk (C.line F.src F.dst) = true := by
   obtain ⟨L, eL, e3, hL, -⟩ := h.ok.lineAt hn hm
   rw [en, em, e3]; exact hL
  have hh := h.high
  unfold tookLn takeC
  simp only
  rw [if_neg (by rw [hlo]; simp; omega), if_neg (by omega), if_neg (by omega)]
 rw [if_neg (by rw [h.ack]; simp), if_pos htk]
 have hG : ∀ v, (pushC (D.setLine F.src F.dst (tookLn (D.line F.src F.dst) F.seq).1) (ackOf F)).ker v = C.ker v := fun v => by rw [pushC_ker]; exact hDk v
 have hGok : (pushC (D.setLine F.src F.dst (tookLn (D.line F.src F.dst) F.seq).1) (ackOf F)).ok := (comeF_line hok2 h.good h.ack).push _
 generalize (pushC (D.setLine F.src F.dst (tookLn (D.line F.src F.dst) F.seq).1) (ackOf F)) = G at hG hGok
 unfold tookC
 rw [if_pos (by unfold mayB namedL; rw [hl, hg, g1]; rfl), hG]
 unfold Clu.thr
 rw [em]
 obtain ⟨l, el, e4, hlg⟩ := hGok.certAt hm
 rw [Clu.ker_setKer_same (hGok.setCert (n := (m : Int)) (addAll_ok F.certs (by rw [e4]; exact hlg : goodCerts (G.cert m) = true))) hm]
end
theorem top_emptied {w0 Wd W : World} {own : Blks} {D : Nat → Prop} {gc : Nat} {kg : List Nat} {C : Clu} (P : Clus w0 [] own (fun _ => False) Wd D gc kg C W) :
  Calls Tryz.prog 25 #[.pointer (some ⟨gc, 0, none⟩)] W fun e W' => ∃ b, e = .returned (.bool b) ∧ ∃ k, k ≤ C.net.length ∧ C.acts + k ≤ 300 ∧ Clus w0 [] own (fun _ => False) Wd D gc kg (dropK C k) W' ∧ (b = true → k = C.net.length) := by
 have hn := P.okC.netN
 have ha := P.okC.acts
 have P0 := qh P
 clear P
 go_enter Tryz.func25, Tryz.ntmps25
 go_wp2_with (first | go_skip | fail)
 go_loopw [3] (fun v3 wr => ∃ k : Nat, k ≤ C.net.length ∧ C.acts + k ≤ 300 ∧ v3 = .int .i64 k ∧ Clus w0 [] own (fun _ => False) Wd D gc kg (dropK C k) wr) (fun v3 _ => 60 - (intOf v3).toNat)
 case atStart => exact ⟨0, by omega, by omega, rfl, by rw [dropK_zero]; exact P0.out⟩
 case round =>
  clear P0
  obtain ⟨k, hk, hak, rfl, Pk⟩ := hrel
  have hnl : (dropK C k).net.length = C.net.length - k := by unfold dropK; simp
  have hac : (dropK C k).acts = C.acts + k := rfl
  by_cases hkl : k < C.net.length
  case pos =>
   have d1 : decide ((k : Int) < 60) = true := by simp; omega
   have HNt := qh (cluster_Net Pk)
   have d2 : decide ((0 : Int) < ((dropK C k).net.length : Int)) = true := by simp; omega
   have d2' : decide (0 < (dropK C k).net.length) = true := by simp; omega
   have PK := qh Pk
   by_cases h3 : C.acts + k < 300
   case pos =>
    have hds := dropK_succ hkl h3
    have hdr := doC_drop (C := dropK C k) (by rw [hac]; exact h3) (by intro e; rw [e] at hnl; simp at hnl; omega)
    have e1 : (doC (dropK C k) dropD).1 = dropK C (k + 1) := hds.1
    obtain ⟨sz, hsz⟩ : ∃ sz : Int, (doC (dropK C k) dropD).2 = ⟨0, sz, ⟨#[]⟩⟩ := ⟨_, by rw [hdr]⟩
    have HDo := qh (fun (V : World) (hV : Below wr.heap.size wr V) => cluster_Do (PK.out.below hV) dropD (fun _ => False) (fun _ h => h.elim) none 0 none 0 (by decide) (by decide) (SlR.nil _ _ _ _) (SlR.nil _ _ _ _))
    rw [e1, hsz] at HDo
    unfold deedV RepV dropD zeroQ at HDo
    clear Pk hds hdr e1 hsz hnl hac
    go_wp2_with (first
     | go_skip
     | (go_at_call 26; go_must (refine HNt.out.mono ?_; rintro e v4 ⟨na, nc, rfl, hb4, -⟩))
     | (go_at_call 18; go_must (refine (HDo.out _ hb4).mono ?_; rintro e v5 ⟨rfl, P5⟩)))
    refine wp_value (v := .int .i64 0) (w' := v5) rfl ?_
    go_wp2_with (first | go_skip | fail)
    go_roundw
    case rel => exact ⟨k + 1, by omega, by push_cast; omega, by go_num, P5⟩
    case measure => simp [intOf] <;> omega
   case neg =>
    have h300 : (dropK C k).acts = 300 := by rw [hac]; omega
    have hdf := doC_full (C := dropK C k) dropD h300
    have HDo := qh (fun (V : World) (hV : Below wr.heap.size wr V) => cluster_Do (PK.out.below hV) dropD (fun _ => False) (fun _ h => h.elim) none 0 none 0 (by decide) (by decide) (SlR.nil _ _ _ _) (SlR.nil _ _ _ _))
    rw [hdf] at HDo
    unfold deedV RepV dropD zeroQ errR at HDo
    clear Pk hdf hnl hac
    go_wp2_with (first
     | go_skip
     | (go_at_call 26; go_must (refine HNt.out.mono ?_; rintro e v4 ⟨na, nc, rfl, hb4, -⟩))
     | (go_at_call 18; go_must (refine (HDo.out _ hb4).mono ?_; rintro e v5 ⟨rfl, P5⟩)))
    refine wp_value (v := .int .i64 5) (w' := v5) rfl ?_
    go_wp2_with (first | go_skip | fail)
    go_ret
    exact ⟨_, rfl, k, hk, hak, P5, by simp⟩
  case neg =>
   obtain rfl : k = C.net.length := by omega
   have HNt := qh (fun (V : World) (hV : Below wr.heap.size wr V) => cluster_Net (Pk.below hV))
   have PK := qh Pk
   have hl0 : (dropK C C.net.length).net.length = 0 := by omega
   rw [hl0] at HNt
   clear Pk hnl
   have st := St.start wr
   by_cases h60 : C.net.length < 60
   ·have d1 : decide ((C.net.length : Int) < 60) = true := by simp; omega
    go_wp2_with (first
     | go_skip
     | (go_at_call 26; go_must (refine (HNt.out _ st.below).mono ?_; rintro e v4 ⟨na, nc, rfl, hb4, -⟩; replace st := st.call hb4; clear hb4)))
    go_ret
    exact ⟨_, rfl, C.net.length, hk, hak, PK.out.below st.below, fun _ => rfl⟩
   ·have d1 : decide ((C.net.length : Int) < 60) = false := by simp; omega
    go_wp2_with (first
     | go_skip
     | (go_at_call 26; go_must (refine (HNt.out _ st.below).mono ?_; rintro e v4 ⟨na, nc, rfl, hb4, -⟩; replace st := st.call hb4; clear hb4)))
    go_ret
    exact ⟨_, rfl, C.net.length, hk, hak, PK.out.below st.below, fun _ => rfl⟩
structure OnceJ (C : Clu) (n : Nat) (ss cs ws : List Int) (E : Sends) : Prop where
 lines : OnceN C E
 ls : ss.length = 64
 lc : cs.length = 64
 s : ∀ p h t : Nat, p < 4 → h < 4 → t < 4 → ss[p * 16 + h * 4 + t]? = some (cntS E p h t : Int)
 c : ∀ p h t : Nat, p < 4 → h < 4 → t < 4 → ∃ c : Nat, cs[p * 16 + h * 4 + t]? = some (c : Int) ∧ c ≤ cntT E p h t
 w : ws = (thrsOf C).map fun x => (x.mails.length : Int)
 le : ∀ (p h : Nat) (t : Int), cntS E p h t ≤ n
def bumpK (cs : List Int) (ev : Option (Nat × Nat × Nat)) (k : Nat) : List Int := match ev with
 | none => cs
 | some (p, h, t) => if h * 4 + t < k then cs.set (p * 16 + h * 4 + t) (cs.getD (p * 16 + h * 4 + t) 0 + 1) else cs
structure OnceA (a : Deed) (r : Rep) (C C' : Clu) (ss ss' cs : List Int) (ev : Option (Nat × Nat × Nat)) : Prop where
 sent : (Sent1 a r ∧ ∃ p h t : Nat, ∃ s : Nat, p < 4 ∧ h < 4 ∧ t < 4 ∧ a.h = p ∧ a.call.h = h ∧ a.call.t = t ∧ s ≤ 120 ∧ ss[p * 16 + h * 4 + t]? = some (s : Int) ∧ ss' = ss.set (p * 16 + h * 4 + t) ((s : Int) + 1)) ∨ (¬ Sent1 a r ∧ ss' = ss)
 evL : ∀ p h t, ev = some (p, h, t) → p < 4 ∧ h < 4 ∧ t < 4
 came : ∀ h t : Nat, h < 4 → t < 4 → (∃ (p : Nat) (m : Mail) (c s : Nat), ev = some (p, h, t) ∧ p < 4 ∧ m.host = p ∧ (C'.thr h t).mails = (C.thr h t).mails ++ [m] ∧ cs[p * 16 + h * 4 + t]? = some (c : Int) ∧ ss'[p * 16 + h * 4 + t]? = some (s : Int) ∧ c + 1 ≤ s ∧ s ≤ 121) ∨
  ((∀ p, ev ≠ some (p, h, t)) ∧ (C'.thr h t).mails.length ≤ (C.thr h t).mails.length)
theorem once_new : OnceJ newC 0 (List.replicate 64 0) (List.replicate 64 0) (List.replicate 16 0) (fun _ _ => []) := by
 have hl : ∀ p h : Nat, p < 4 → h < 4 → newC.line p h = zeroL := fun p h hp hh => by
  unfold Clu.line lineAt newC
  simp only [Int.toNat_natCast, List.getD_eq_getElem?_getD]
  rw [List.getElem?_replicate, if_pos (by omega)]
  rfl
 refine ⟨⟨fun p h hp hh _ => by rw [hl p h hp hh]; rfl, fun L hL s hs => ?_, fun s hs => by simp [newC] at hs, fun p h _ _ _ i t hi => by simp at hi⟩, rfl, rfl, fun p h t hp hh ht => by rw [List.getElem?_replicate, if_pos (by omega)]; rfl, fun p h t hp hh ht => ⟨0, by rw [List.getElem?_replicate, if_pos (by omega)]; rfl, Nat.zero_le _⟩, by rw [thrsOf_new]; rfl, fun p h t => by simp [cntS]⟩
 simp only [newC] at hL
 rw [List.eq_of_mem_replicate hL] at hs
 simp [zeroL] at hs
theorem high_all : ∀ (l : List Deed) {C : Clu} {E : Sends}, C.ok → OnceN C E → HighI C → HighI (doAll C l)
 | [], _, _, _, _, h => h
 | a :: l, C, E, hok, hN, h => by
  obtain ⟨E', hL⟩ := once_lines hok hN a
  exact high_all l (doC_ok hok a) hL.1 (doC_high hok hN h a)
theorem high_play (l : List Deed) : HighI (doAll newC l) := high_all l newC_ok once_new.lines high_new
theorem arr_told {C : Clu} {F : Frame} {i : Nat} (h : ArrI C F i) {k : Nat} (hk : C.net[k]? = some ⟨(encL F).toArray⟩) (ha : C.acts < 300) (hl : F.mail.label = []) (hg : F.mail.grants = []) :
  (doC C (comeD k)).2.code = 0 ∧ (doC C (comeD k)).1.thr F.dst F.thread = if (C.thr F.dst F.thread).mails.length < 6 ∧ flowsL [] (C.thr F.dst F.thread).label (C.thr F.dst F.thread).own = true then { C.thr F.dst F.thread with mails := (C.thr F.dst F.thread).mails ++ [F.mail] } else C.thr F.dst F.thread := by
 obtain ⟨h1, h2⟩ := h.come hk ha hl hg
 refine ⟨h1, h2.trans ?_⟩
 obtain ⟨g1, g2, g3, g4, g5, g6⟩ := goodF_facts h.good
 obtain ⟨n, en, hn⟩ := four_nat g2
 have h4 : (C.ker F.dst).threads.length = 4 := by
  obtain ⟨k, ek, e2, hk, hkh⟩ := h.ok.kerAt hn
  rw [en, e2]; exact hk.four
 have ht : C.thr F.dst F.thread = (C.ker F.dst).thr F.thread := rfl
 rw [ht]
 unfold deliverK
 rw [if_neg (by rw [g5]; simp), if_neg (by rw [(g6 h.ack).1]; simp), hl]
 by_cases q : ((C.ker F.dst).thr F.thread).mails.length < 6 ∧ flowsL [] ((C.ker F.dst).thr F.thread).label ((C.ker F.dst).thr F.thread).own = true
 ·rw [if_pos ⟨q.2, q.1⟩, if_pos q, Ker.thr_put_same g5 h4]
 ·rw [if_neg (fun hh => q ⟨hh.2, hh.1⟩), if_neg q]
theorem doC_full0 {C : Clu} (hok : C.ok) (a : Deed) (h : ¬ C.acts < 300) : doC C a = (C, errR 5) := doC_full a (by have := hok.acts; omega)
theorem send_no {C : Clu} {h t tz u : Int} {text : ByteArray} (h0 : (doC C (sendD h t tz u text)).2.code ≠ 0) : (doC C (sendD h t tz u text)).1.net = C.net :=
 ((doC_refused (C := C) (sendD h t tz u text) (fun hh => by simp [sendD] at hh)).resolve_left h0).net
end Go.Proofs.YtnjjdpiofbajlaaGreat
