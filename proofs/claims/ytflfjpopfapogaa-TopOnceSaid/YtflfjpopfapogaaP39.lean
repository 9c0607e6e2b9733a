/- Walks and plain laws that the claim rests on, part 39. -/
import Derived.Test.YtflfjpopfapogaaP34
import Derived.Test.YtflfjpopfapogaaP16
set_option linter.unusedSimpArgs false
set_option linter.unusedVariables false
namespace Go.Proofs.Ytflfjpopfapogaa
theorem risesL_mem {l : List Lev} {p : Int} (h : risesL p l = true) : ∀ x ∈ l, lvOk x = true := by
 induction l generalizing p with
 | nil => simp
 | cons y l ih =>
  unfold risesL at h
  split at h
  ·rename_i hh
   intro x hx
   rcases List.mem_cons.1 hx with rfl | hx
   ·exact hh.2
   ·exact ih h x hx
  ·simp at h
theorem ba_nil {s : ByteArray} (h : s.size = 0) : s = ⟨#[]⟩ := by
 apply ByteArray.ext
 exact Array.size_eq_zero_iff.1 h
theorem pFrame_par {f : Frame} (h : goodFrameC f = 0) (r : List UInt8) : pFrame (encL f ++ r) = some (f, r) := by
 obtain ⟨⟨s1, s2⟩, ⟨s3, s4⟩, _, ⟨s5, s6⟩, ⟨s7, s8⟩, hA, hM⟩ := good_facts h
 clear h
 obtain ⟨src, dst, seq, ack, thread, ⟨host, mthread, label, grants, text⟩, certs⟩ := f
 simp only at s1 s2 s3 s4 s5 s6 s7 s8 hA hM
 have hp : ∀ k : Int, byteOk k → HeadOk (k, src, dst, seq) := fun k hk => ⟨hk, ⟨s1, show src < 256 by omega⟩, ⟨s3, show dst < 256 by omega⟩, show 0 ≤ seq by omega, show seq < 256 ^ 6 by omega⟩
 cases ack with
 | true =>
  have h2 := hA rfl
  unfold ackPlain at h2
  simp only [Bool.and_eq_true, beq_iff_eq, decide_eq_true_eq] at h2
  obtain ⟨⟨⟨rfl, rfl⟩, rfl⟩, h3⟩ := h2
  have e1 : label = [] := List.length_eq_zero_iff.1 (by omega)
  have e2 : grants = [] := List.length_eq_zero_iff.1 (by omega)
  have e3 : certs = [] := List.length_eq_zero_iff.1 (by omega)
  have e4 : text = ⟨#[]⟩ := ba_nil (by omega)
  subst e1 e2 e3 e4
  have hh := code_head.par (1, src, dst, seq) r (hp 1 ⟨by omega, by omega⟩)
  have e : encL ⟨src, dst, seq, true, 0, ⟨0, 0, [], [], ⟨#[]⟩⟩, []⟩ ++ r = [b1 1, b1 src, b1 dst] ++ be seq 6 ++ r := by
   unfold encL; rw [if_pos rfl]; simp [headBytes, b1, byteAt]
  rw [e]
  unfold pFrame
  simp only at hh
  rw [hh]
  simp [ackFrame]
 | false =>
  obtain ⟨m1, m2, m3, m4⟩ := hM rfl
  obtain ⟨⟨q1, q2⟩, ⟨q3, q4⟩, q5, q6, q7⟩ := mail_facts m1
  simp only at q1 q2 q3 q4 q5 q6 q7
  subst m2
  obtain ⟨q8, q9⟩ := grants_facts q6
  unfold goodL at q5
  by_cases hl8 : label.length ≤ 8
  ·rw [if_pos hl8] at q5
   have hlev := risesL_mem q5
   have etx : (⟨text.data.toList.toArray⟩ : ByteArray) = text := by apply ByteArray.ext; simp
   have ets : text.data.toList.length = text.size := by rw [Array.length_toList]; rfl
   have hbo : BodyOk ⟨thread, mthread, label, grants, text.data.toList, certs⟩ := by
    refine ⟨⟨s7, by simp only; omega⟩, ⟨q3, by simp only; omega⟩, ⟨by simp only; omega, fun x hx => ?_⟩, ⟨by simp only; omega, fun x hx => ?_⟩, by simp only; omega, by simp only; omega, fun x hx => ?_⟩
    ·have := hlev x hx
     unfold lvOk at this
     simp only [decide_eq_true_eq] at this
     exact ⟨⟨by omega, by omega⟩, ⟨by omega, by omega⟩⟩
    ·have := q9 x hx
     exact ⟨by omega, by omega⟩
    ·obtain ⟨c1, c2, c3, _, c5⟩ := cert_facts (m4 x hx)
     exact ⟨⟨by omega, by omega⟩, ⟨by omega, by omega⟩, ⟨by omega, by omega⟩, by omega, by omega⟩
   have hh := code_head.par (0, host, dst, seq) (bodyBytes ⟨thread, mthread, label, grants, text.data.toList, certs⟩ ++ r) (hp 0 ⟨by omega, by omega⟩)
   have hb := code_body.par ⟨thread, mthread, label, grants, text.data.toList, certs⟩ r hbo
   have e : encL ⟨host, dst, seq, false, thread, ⟨host, mthread, label, grants, text⟩, certs⟩ ++ r = [b1 0, b1 host, b1 dst] ++ be seq 6 ++ (bodyBytes ⟨thread, mthread, label, grants, text.data.toList, certs⟩ ++ r) := by
    unfold encL; rw [if_neg (by simp)]; simp [headBytes, mailBytes, bodyBytes, b1, byteAt, ets]
   rw [e]
   unfold pFrame
   simp only at hh
   rw [hh]
   simp only [Option.bind_some, if_true]
   rw [hb]
   simp [mailFrame, etx]
  ·rw [if_neg hl8] at q5; simp at q5
theorem dec_enc {f : Frame} (h : goodFrameC f = 0) : decR (encL f) = (f, 0) := by
 have hp := pFrame_par h []
 rw [List.append_nil] at hp
 rw [decR_some hp, if_pos h]
abbrev Sends := Nat → Nat → List (Int × Bool)
def cntS (E : Sends) (p h : Nat) (t : Int) : Nat := (E p h).countP fun x => x.1 == t
def cntT (E : Sends) (p h : Nat) (t : Int) : Nat := (E p h).countP fun x => x.1 == t && x.2
theorem cntT_le (E : Sends) (p h : Nat) (t : Int) : cntT E p h t ≤ cntS E p h t := List.countP_mono_left fun x _ hx => by simp at hx ⊢; exact hx.1
def FrE (E : Sends) (f : Frame) : Prop := f.ack = false → ∃ (i : Nat) (b : Bool), f.seq = i + 1 ∧ (E f.src.toNat f.dst.toNat)[i]? = some (f.thread, b)
structure OnceN (C : Clu) (E : Sends) : Prop where
 next : ∀ p h : Nat, p < 4 → h < 4 → p ≠ h → (C.line p h).next = (E p h).length
 sent : ∀ L ∈ C.lines, ∀ s ∈ L.sent, FrE E s.frame
 net : ∀ s ∈ C.net, ∀ f, decR s.data.toList = (f, 0) → FrE E f
 took : ∀ p h : Nat, p < 4 → h < 4 → p ≠ h → ∀ (i : Nat) (t : Int), (E p h)[i]? = some (t, true) → (i : Int) + 1 ≤ (C.line p h).high ∧ ((C.line p h).high - 8 < (i : Int) + 1 → (C.line p h).seen.get ((C.line p h).high - ((i : Int) + 1)).toNat = true)
def Sends.sub (E E' : Sends) : Prop := ∀ p h (i : Nat) t b, (E p h)[i]? = some (t, b) → ∃ b', (E' p h)[i]? = some (t, b')
theorem FrE.up {E E' : Sends} {f : Frame} (h : FrE E f) (hs : E.sub E') : FrE E' f := fun ha => by
 obtain ⟨i, b, h1, h2⟩ := h ha
 obtain ⟨b', h3⟩ := hs _ _ _ _ _ h2
 exact ⟨i, b', h1, h3⟩
def Sends.put (E : Sends) (p h : Nat) (l : List (Int × Bool)) : Sends := fun p' h' => if p' = p ∧ h' = h then l else E p' h'
theorem Sends.put_same (E : Sends) (p h : Nat) (l : List (Int × Bool)) : (E.put p h l) p h = l := if_pos ⟨rfl, rfl⟩
theorem Sends.put_other (E : Sends) {p h p' h' : Nat} (l : List (Int × Bool)) (hn : ¬ (p' = p ∧ h' = h)) : (E.put p h l) p' h' = E p' h' := if_neg hn
theorem Sends.sub_app (E : Sends) (p h : Nat) (x : Int × Bool) : E.sub (E.put p h (E p h ++ [x])) := fun p' h' i t b hb => by
 by_cases e : p' = p ∧ h' = h
 ·obtain ⟨rfl, rfl⟩ := e
  rw [Sends.put_same]
  exact ⟨b, by rw [List.getElem?_append_left (List.getElem?_eq_some_iff.1 hb).1]; exact hb⟩
 ·rw [Sends.put_other E _ e]; exact ⟨b, hb⟩
theorem Sends.sub_set (E : Sends) (p h : Nat) {i : Nat} {t : Int} {b : Bool} (hi : (E p h)[i]? = some (t, b)) : E.sub (E.put p h ((E p h).set i (t, true))) := fun p' h' j t' b' hb => by
 by_cases e : p' = p ∧ h' = h
 ·obtain ⟨rfl, rfl⟩ := e
  rw [Sends.put_same, List.getElem?_set]
  by_cases e2 : i = j
  ·subst e2
   rw [hi] at hb
   cases hb
   rw [if_pos rfl, if_pos (List.getElem?_eq_some_iff.1 hi).1]
   exact ⟨true, rfl⟩
  ·rw [if_neg e2]; exact ⟨b', hb⟩
 ·rw [Sends.put_other E _ e]; exact ⟨b', hb⟩
theorem cntS_app (E : Sends) (p h : Nat) (t : Int) (b : Bool) (p' h' : Nat) (t' : Int) : cntS (E.put p h (E p h ++ [(t, b)])) p' h' t' = cntS E p' h' t' + if p = p' ∧ h = h' ∧ t = t' then 1 else 0 := by
 unfold cntS
 by_cases e : p' = p ∧ h' = h
 ·obtain ⟨rfl, rfl⟩ := e
  rw [Sends.put_same, List.countP_append]
  by_cases e2 : t = t' <;> simp [e2]
 ·rw [Sends.put_other E _ e, if_neg (fun hh => e ⟨hh.1.symm, hh.2.1.symm⟩), Nat.add_zero]
theorem cntT_app (E : Sends) (p h : Nat) (t : Int) (b : Bool) (p' h' : Nat) (t' : Int) : cntT (E.put p h (E p h ++ [(t, b)])) p' h' t' = cntT E p' h' t' + if b = true ∧ p = p' ∧ h = h' ∧ t = t' then 1 else 0 := by
 unfold cntT
 by_cases e : p' = p ∧ h' = h
 ·obtain ⟨rfl, rfl⟩ := e
  rw [Sends.put_same, List.countP_append]
  by_cases e2 : t = t' <;> cases b <;> simp [e2]
 ·rw [Sends.put_other E _ e, if_neg (fun hh => e ⟨hh.2.1.symm, hh.2.2.1.symm⟩), Nat.add_zero]
theorem countP_set' {α : Type} (q : α → Bool) : ∀ {l : List α} {i : Nat} {x y : α}, l[i]? = some x → (l.set i y).countP q + (if q x then 1 else 0) = l.countP q + if q y then 1 else 0
 | [], _, _, _, h => by simp at h
 | a :: l, 0, x, y, h => by
  simp at h; subst h
  simp only [List.set_cons_zero, List.countP_cons]
  omega
 | a :: l, i + 1, x, y, h => by
  simp only [List.getElem?_cons_succ] at h
  have := countP_set' q (y := y) h
  simp only [List.set_cons_succ, List.countP_cons]
  omega
theorem cntS_set (E : Sends) (p h : Nat) {i : Nat} {t : Int} {b : Bool} (hi : (E p h)[i]? = some (t, b)) (p' h' : Nat) (t' : Int) : cntS (E.put p h ((E p h).set i (t, true))) p' h' t' = cntS E p' h' t' := by
 unfold cntS
 by_cases e : p' = p ∧ h' = h
 ·obtain ⟨rfl, rfl⟩ := e
  rw [Sends.put_same]
  have := countP_set' (fun x : Int × Bool => x.1 == t') (y := (t, true)) hi
  simp only at this
  omega
 ·rw [Sends.put_other E _ e]
theorem cntT_set (E : Sends) (p h : Nat) {i : Nat} {t : Int} (hi : (E p h)[i]? = some (t, false)) (p' h' : Nat) (t' : Int) : cntT (E.put p h ((E p h).set i (t, true))) p' h' t' = cntT E p' h' t' + if p = p' ∧ h = h' ∧ t = t' then 1 else 0 := by
 unfold cntT
 by_cases e : p' = p ∧ h' = h
 ·obtain ⟨rfl, rfl⟩ := e
  rw [Sends.put_same]
  have := countP_set' (fun x : Int × Bool => x.1 == t' && x.2) (y := (t, true)) hi
  simp only [Bool.and_false, Bool.and_true, Bool.false_eq_true, if_false, Nat.add_zero, beq_iff_eq] at this
  rw [this]
  simp
 ·rw [Sends.put_other E _ e, if_neg (fun hh => e ⟨hh.1.symm, hh.2.1.symm⟩), Nat.add_zero]
/-! ### What each part of an act leaves -/
section
variable {C : Clu} {E : Sends}
theorem OnceN.push (h : OnceN C E) {f : Frame} (hf : FrE E f) : OnceN (pushC C f) E := by
 obtain ⟨-, -, -, hl, -⟩ := pushC_same C f
 refine ⟨fun p q hp hq hne => by rw [pushC_line]; exact h.next p q hp hq hne, fun L hL => h.sent L (by rw [hl] at hL; exact hL), fun s hs => ?_, fun p q hp hq hne => by rw [pushC_line]; exact h.took p q hp hq hne⟩
 unfold pushC at hs
 split at hs
 ·rename_i hc
  obtain ⟨hg, he⟩ := encR_good hc.1
  rcases List.mem_append.1 hs with hs | hs
  ·exact h.net s hs
  ·simp only [List.mem_singleton] at hs
   intro f' hf'
   rw [hs, he] at hf'
   rw [show (⟨(encL f).toArray⟩ : ByteArray).data.toList = encL f from by simp, dec_enc hg] at hf'
   cases hf'
   exact hf
 ·exact h.net s hs
theorem OnceN.pushAll (fs : List Frame) : ∀ {C : Clu}, OnceN C E → (∀ f ∈ fs, FrE E f) → OnceN (Proofs.Ytflfjpopfapogaa.pushAll C fs) E := by
 induction fs with
 | nil => exact fun h _ => h
 | cons f fs ih => exact fun h hf => ih (h.push (hf f (by simp))) fun g hg => hf g (by simp [hg])
theorem line_set_same (hok : C.ok) {n m : Nat} (hn : n < 4) (hm : m < 4) (L : Line) : (C.setLine n m L).line n m = L := by
 unfold Clu.setLine Clu.line Proofs.Ytflfjpopfapogaa.lineAt
 simp only [Int.toNat_natCast, List.getD_eq_getElem?_getD]
 rw [List.getElem?_set_self (by rw [hok.lineN]; omega)]
 rfl
theorem line_set_other {n m p q : Nat} (hq : q < 4) (hm : m < 4) (hne : ¬ (p = n ∧ q = m)) (L : Line) : (C.setLine n m L).line p q = C.line p q := by
 unfold Clu.setLine Clu.line Proofs.Ytflfjpopfapogaa.lineAt
 simp only [Int.toNat_natCast, List.getD_eq_getElem?_getD]
 rw [List.getElem?_set_ne (by omega)]
theorem OnceN.line_sent (h : OnceN C E) (hok : C.ok) {n m : Nat} (hn : n < 4) (hm : m < 4) : ∀ s ∈ (C.line n m).sent, FrE E s.frame := by
 obtain ⟨L, eL, e3, -, -⟩ := hok.lineAt hn hm
 rw [e3]
 exact h.sent L (List.mem_of_getElem? eL)
theorem OnceN.setLine (h : OnceN C E) (hok : C.ok) {n m : Nat} (hn : n < 4) (hm : m < 4) {L : Line} (h1 : L.next = (C.line n m).next) (h2 : L.high = (C.line n m).high) (h3 : L.seen = (C.line n m).seen) (h4 : ∀ s ∈ L.sent, FrE E s.frame) : OnceN (C.setLine n m L) E := by
 refine ⟨fun p q hp hq hne => ?_, fun L' hL' => ?_, h.net, fun p q hp hq hne => ?_⟩
 ·by_cases e : p = n ∧ q = m
  ·obtain ⟨rfl, rfl⟩ := e
   rw [line_set_same hok hp hq, h1]; exact h.next p q hp hq hne
  ·rw [line_set_other hq hm e]; exact h.next p q hp hq hne
 ·rcases List.mem_or_eq_of_mem_set hL' with hL' | rfl
  ·exact h.sent L' hL'
  ·exact h4
 ·by_cases e : p = n ∧ q = m
  ·obtain ⟨rfl, rfl⟩ := e
   rw [line_set_same hok hp hq, h2, h3]; exact h.took p q hp hq hne
  ·rw [line_set_other hq hm e]; exact h.took p q hp hq hne
theorem OnceN.same (h : OnceN C E) {C' : Clu} (hl : C'.lines = C.lines) (hn : ∀ s ∈ C'.net, s ∈ C.net) : OnceN C' E := by
 have e : ∀ p q, C'.line p q = C.line p q := fun p q => by unfold Clu.line; rw [hl]
 exact ⟨fun p q hp hq hne => by rw [e]; exact h.next p q hp hq hne, fun L hL => h.sent L (hl ▸ hL), fun s hs => h.net s (hn s hs), fun p q hp hq hne => by rw [e]; exact h.took p q hp hq hne⟩
theorem take_new {good : Bool} {high seq : Int} {e : Eight} {l : List (Int × Bool)} (hI : ∀ (i : Nat) (t : Int), l[i]? = some (t, true) → (i : Int) + 1 ≤ high ∧ (high - 8 < (i : Int) + 1 → e.get (high - ((i : Int) + 1)).toNat = true))
  {i : Nat} {t : Int} {b : Bool} (hs : seq = i + 1) (hi : l[i]? = some (t, b)) (hk : (takeC good high seq e).2.2 = 0) :
  b = false ∧ ∀ (j : Nat) (u : Int), (l.set i (t, true))[j]? = some (u, true) → (j : Int) + 1 ≤ (takeC good high seq e).1 ∧ ((takeC good high seq e).1 - 8 < (j : Int) + 1 → (takeC good high seq e).2.1.get ((takeC good high seq e).1 - ((j : Int) + 1)).toNat = true) := by
 unfold takeC at hk ⊢
 split at hk
 ·simp at hk
 ·rename_i c0
  rw [if_neg c0]
  split at hk
  ·simp at hk
  ·rename_i c1
   rw [if_neg c1]
   split at hk
   ·rename_i c2
    rw [if_pos c2]
    split at hk
    ·simp at hk
    ·rename_i c3
     rw [if_neg c3]
     have hb : b = false := by
      cases b
      ·rfl
      ·have := (hI i t hi).2 (by omega)
       rw [hs] at c3
       exact absurd this c3
     refine ⟨hb, fun j u hj => ?_⟩
     simp only
     rw [List.getElem?_set] at hj
     by_cases e2 : i = j
     ·subst e2
      refine ⟨by omega, fun _ => ?_⟩
      unfold Eight.yes
      rw [Eight.get_of _ (by omega), if_pos (by rw [hs])]
     ·rw [if_neg e2] at hj
      obtain ⟨h1, h2⟩ := hI j u hj
      refine ⟨h1, fun h3 => ?_⟩
      unfold Eight.yes
      rw [Eight.get_of _ (by omega), h2 h3]
      simp
   ·rename_i c2
    rw [if_neg c2]
    have hb : b = false := by
     cases b
     ·rfl
     ·have := (hI i t hi).1; omega
    refine ⟨hb, fun j u hj => ?_⟩
    simp only
    rw [List.getElem?_set] at hj
    by_cases e2 : i = j
    ·subst e2
     refine ⟨by omega, fun _ => ?_⟩
     rw [Eight.get_of _ (by omega), if_pos (by omega)]
    ·rw [if_neg e2] at hj
     obtain ⟨h1, h2⟩ := hI j u hj
     refine ⟨by omega, fun h3 => ?_⟩
     rw [Eight.get_of _ (by omega), if_neg (by omega), if_pos (by omega), show (seq - ((j : Int) + 1)).toNat - (seq - high).toNat = (high - ((j : Int) + 1)).toNat by omega]
     exact h2 (by omega)
end
section
variable {C : Clu} {E : Sends}
def Sent1 (a : Deed) (r : Rep) : Prop := a.kind = 1 ∧ a.call.kind = 6 ∧ r.code = 0
def OnceL (C : Clu) (E : Sends) (a : Deed) (C' : Clu) (r : Rep) (E' : Sends) : Prop :=
 OnceN C' E' ∧ (∀ (p h : Nat) (t : Int), (Sent1 a r → a.h = p ∧ a.call.h = h ∧ a.call.t = t → cntS E' p h t = cntS E p h t + 1) ∧ (¬ (Sent1 a r ∧ a.h = p ∧ a.call.h = h ∧ a.call.t = t) → cntS E' p h t = cntS E p h t)) ∧
 (∀ (p h : Nat) (t : Int), cntT E p h t ≤ cntT E' p h t) ∧ (∀ (h t : Int) (m : Mail), MailFrom C a r h t m → ∃ p h' : Nat, p < 4 ∧ h = h' ∧ m.host = p ∧ cntT E p h' t + 1 ≤ cntT E' p h' t) ∧
 (Sent1 a r → four a.h = true ∧ four a.call.h = true ∧ four a.call.t = true)
theorem OnceL.idle {a : Deed} {C' : Clu} {r : Rep} (h : OnceN C' E) (h1 : ¬ Sent1 a r) (h2 : ¬ ((a.kind = 2 ∨ a.kind = 3) ∧ r.code = 0)) : OnceL C E a C' r E :=
 ⟨h, fun p h t => ⟨fun hs _ => absurd hs h1, fun _ => rfl⟩, fun _ _ _ => Nat.le_refl _, fun h t m hm => by
  cases hm with
  | here k1 k6 ha hh ht h4 hr hl => exact absurd ⟨k1, k6, by rw [hr]; rfl⟩ h1
  | came s f k23 hs hd hack hh ht hm htk hmay hr => exact absurd ⟨k23, hr⟩ h2, fun hs => absurd hs h1⟩
theorem OnceN.acting (h : OnceN C E) : OnceN { C with acts := C.acts + 1 } E := h.same rfl fun _ h => h
theorem OnceN.tick : ∀ (n i : Nat) {C : Clu}, C.ok → i + n ≤ 16 → OnceN C E → OnceN (tickAll n i C).1 E
 | 0, _, _, _, _, h => h
 | n + 1, i, C, hok, hi, h => by
  obtain ⟨L, e⟩ : ∃ L, C.lines[i]? = some L := ⟨_, List.getElem?_eq_getElem (by rw [hok.lineN]; omega)⟩
  have hl := hok.line _ (List.mem_of_getElem? e)
  unfold tickAll
  dsimp only
  rw [getD_at e]
  obtain ⟨q1, q2, q3, q4⟩ := againLn_ok hl.1 hok.now.1 hok.now.2
  have hok1 := hok.setLineN (i := i) q1 fun s hs => by
   obtain ⟨s', hs', e'⟩ := q2 s hs
   rw [e']; exact hl.2 s' hs'
  have hsent := h.sent L (List.mem_of_getElem? e)
  have hN : OnceN { C with lines := C.lines.set i (againLn L C.now).1 } E := by
   have e4 : ((i / 4 : Nat) : Int).toNat * 4 + ((i % 4 : Nat) : Int).toNat = i := by simp; omega
   have e5 : C.line ((i / 4 : Nat) : Int) ((i % 4 : Nat) : Int) = L := by
    unfold Clu.line Proofs.Ytflfjpopfapogaa.lineAt; rw [e4]; exact getD_at e
   have h2 := h.setLine hok (n := i / 4) (m := i % 4) (by omega) (by omega) (L := (againLn L C.now).1) (by rw [e5]; rfl) (by rw [e5]; rfl) (by rw [e5]; rfl) fun s hs => by
    obtain ⟨s', hs', e'⟩ := q2 s hs
    rw [e']; exact hsent s' hs'
   unfold Clu.setLine Proofs.Ytflfjpopfapogaa.lineAt at h2
   rw [e4] at h2
   exact h2
  exact OnceN.tick n (i + 1) (Clu.ok.pushAll _ hok1) (by omega) (hN.pushAll _ fun f hf => by
   obtain ⟨s, hs, e'⟩ := q3 f hf
   rw [e']; exact hsent s hs)
theorem OnceN.sendOut (h : OnceN C E) (hok : C.ok) {n v : Nat} (hn : n < 4) (hv : v < 4) (hne : n ≠ v) {t : Int} {m : Mail} {cs : List Cert} (hk : (sentLn (C.line n v) (mailF n v t m cs) C.now).2.2 = 0) :
  OnceN (pushC (C.setLine n v (sentLn (C.line n v) (mailF n v t m cs) C.now).1) (sentLn (C.line n v) (mailF n v t m cs) C.now).2.1) (E.put n v (E n v ++ [(t, false)])) := by
 have hsub := E.sub_app n v (t, false)
 have hnx := h.next n v hn hv hne
 have hls := h.line_sent hok hn hv
 have htk := h.took n v hn hv hne
 obtain ⟨L, eL, e3, hL, -⟩ := hok.lineAt hn hv
 unfold sentLn at hk ⊢
 rw [e3] at hk hnx hls htk ⊢
 unfold sendX at hk ⊢
 split at hk
 ·simp at hk
 ·rename_i c0
  rw [if_neg c0]
  split at hk
  ·simp at hk
  ·rename_i c1
   rw [if_neg c1]
   have hF : FrE (E.put n v (E n v ++ [(t, false)])) { mailF n v t m cs with seq := L.next + 1 } := fun _ => by
    refine ⟨(E n v).length, false, by simp only; omega, ?_⟩
    show ((E.put n v (E n v ++ [(t, false)])) ((n : Int)).toNat ((v : Int)).toNat)[(E n v).length]? = _
    rw [Int.toNat_natCast, Int.toNat_natCast, Sends.put_same, List.getElem?_append_right (Nat.le_refl _), Nat.sub_self]
    rfl
   refine OnceN.push ?_ hF
   refine ⟨fun p q hp hq hpq => ?_, fun L' hL' s hs => ?_, fun s hs f hf => (h.net s hs f hf).up hsub, fun p q hp hq hpq i u hi => ?_⟩
   ·by_cases e : p = n ∧ q = v
    ·obtain ⟨rfl, rfl⟩ := e
     rw [line_set_same hok hp hq, Sends.put_same, List.length_append]
     simp only [List.length_cons, List.length_nil]
     omega
    ·rw [line_set_other hq hv e, Sends.put_other E _ e]; exact h.next p q hp hq hpq
   ·rcases List.mem_or_eq_of_mem_set hL' with hL' | rfl
    ·exact (h.sent L' hL' s hs).up hsub
    ·simp only [List.mem_append, List.mem_singleton] at hs
     rcases hs with hs | rfl
     ·exact (hls s hs).up hsub
     ·exact hF
   ·by_cases e : p = n ∧ q = v
    ·obtain ⟨rfl, rfl⟩ := e
     rw [line_set_same hok hp hq]
     rw [Sends.put_same] at hi
     simp only
     by_cases hil : i < (E p q).length
     ·rw [List.getElem?_append_left hil] at hi
      exact htk i u hi
     ·rw [List.getElem?_append_right (by omega)] at hi
      cases hq2 : i - (E p q).length with
      | zero => rw [hq2] at hi; simp at hi
      | succ k => rw [hq2] at hi; simp at hi
    ·rw [line_set_other hq hv e]
     rw [Sends.put_other E _ e] at hi
     exact h.took p q hp hq hpq i u hi
theorem OnceN.takeIn (h : OnceN C E) (hok : C.ok) {n v : Nat} (hn : n < 4) (hv : v < 4) (hne : n ≠ v) {seq : Int} {i : Nat} {t : Int} {b : Bool} (hs : seq = i + 1) (hi : (E n v)[i]? = some (t, b)) (hk : (tookLn (C.line n v) seq).2 = 0) :
  b = false ∧ OnceN (C.setLine n v (tookLn (C.line n v) seq).1) (E.put n v ((E n v).set i (t, true))) := by
 have hsub := E.sub_set n v hi
 have hnx := h.next n v hn hv hne
 have hls := h.line_sent hok hn hv
 have htk := h.took n v hn hv hne
 obtain ⟨L, eL, e3, hL, -⟩ := hok.lineAt hn hv
 unfold tookLn at hk ⊢
 rw [e3] at hk hnx hls htk ⊢
 obtain ⟨q1, q2⟩ := take_new htk hs hi hk
 refine ⟨q1, ⟨fun p q hp hq hpq => ?_, fun L' hL' s hs => ?_, fun s hs f hf => (h.net s hs f hf).up hsub, fun p q hp hq hpq j u hj => ?_⟩⟩
 ·by_cases e : p = n ∧ q = v
  ·obtain ⟨rfl, rfl⟩ := e
   rw [line_set_same hok hp hq, Sends.put_same, List.length_set]
   exact hnx
  ·rw [line_set_other hq hv e, Sends.put_other E _ e]; exact h.next p q hp hq hpq
 ·rcases List.mem_or_eq_of_mem_set hL' with hL' | rfl
  ·exact (h.sent L' hL' s hs).up hsub
  ·exact (hls s hs).up hsub
 ·by_cases e : p = n ∧ q = v
  ·obtain ⟨rfl, rfl⟩ := e
   rw [line_set_same hok hp hq]
   rw [Sends.put_same] at hj
   exact q2 j u hj
  ·rw [line_set_other hq hv e]
   rw [Sends.put_other E _ e] at hj
   exact h.took p q hp hq hpq j u hj
theorem FrE_ack (E : Sends) (f : Frame) : FrE E (ackOf f) := fun h => by simp [ackOf] at h
theorem OnceN.come (h : OnceN C E) (hok : C.ok) {f : Frame} (hg : goodFrameC f = 0) (hF : FrE E f) : ∃ E', OnceN (comeF C f) E' ∧ (∀ p q t, cntS E' p q t = cntS E p q t) ∧ (∀ p q t, cntT E p q t ≤ cntT E' p q t) ∧
  (f.ack = false → (tookLn (C.line f.src f.dst) f.seq).2 = 0 → cntT E f.src.toNat f.dst.toNat f.thread + 1 ≤ cntT E' f.src.toNat f.dst.toNat f.thread) := by
 obtain ⟨g1, g2, g3, -, -, -⟩ := goodF_facts hg
 obtain ⟨n, en, hn⟩ := four_nat g1
 obtain ⟨v, ev, hv⟩ := four_nat g2
 have hnv : n ≠ v := fun e => g3 (by rw [en, ev, e])
 unfold comeF
 split
 ·rename_i hack
  refine ⟨E, ?_, fun _ _ _ => rfl, fun _ _ _ => Nat.le_refl _, fun ha => by rw [hack] at ha; cases ha⟩
  rw [en, ev]
  obtain ⟨L, eL, e3, hL, -⟩ := hok.lineAt hv hn
  refine h.setLine hok hv hn rfl rfl rfl fun s hs => ?_
  have := (answLn_ok (L := C.line v n) (by rw [e3]; exact hL) f.seq).2 s hs
  exact h.line_sent hok hv hn s this
 ·rename_i hack
  have hack : f.ack = false := by simpa using hack
  split
  ·rename_i htk
   obtain ⟨i, b, hs, hi⟩ := hF hack
   rw [en, ev, Int.toNat_natCast, Int.toNat_natCast] at hi
   have htk2 := htk
   rw [en, ev] at htk2
   obtain ⟨rfl, hN⟩ := h.takeIn hok hn hv hnv hs hi htk2
   refine ⟨E.put n v ((E n v).set i (f.thread, true)), ?_, fun p q t => cntS_set E n v hi p q t, fun p q t => by rw [cntT_set E n v hi]; omega, fun _ _ => by rw [en, ev, Int.toNat_natCast, Int.toNat_natCast, cntT_set E n v hi, if_pos ⟨rfl, rfl, rfl⟩]; omega⟩
   rw [← en, ← ev] at hN
   have h2 := hN.push (FrE_ack _ f)
   unfold tookC
   split
   ·exact h2.same rfl fun _ h => h
   ·exact h2.same rfl fun _ h => h
  ·rename_i htk
   have hsame : OnceN (C.setLine f.src f.dst (tookLn (C.line f.src f.dst) f.seq).1) E := by
    have hq : (tookLn (C.line f.src f.dst) f.seq).1 = C.line f.src f.dst := by
     have htk' : (tookLn (C.line f.src f.dst) f.seq).2 ≠ 0 := htk
     unfold tookLn takeC at htk' ⊢
     split
     ·rfl
     ·rename_i c0
      rw [if_neg c0] at htk'
      split
      ·rfl
      ·rename_i c1
       rw [if_neg c1] at htk'
       split
       ·rename_i c2
        rw [if_pos c2] at htk'
        split
        ·rfl
        ·rename_i c3
         rw [if_neg c3] at htk'
         simp at htk'
       ·rename_i c2
        rw [if_neg c2] at htk'
        simp at htk'
    rw [hq, en, ev]
    exact h.setLine hok hn hv rfl rfl rfl (h.line_sent hok hn hv)
   split
   ·exact ⟨E, hsame.push (FrE_ack _ f), fun _ _ _ => rfl, fun _ _ _ => Nat.le_refl _, fun _ h0 => absurd h0 htk⟩
   ·exact ⟨E, hsame, fun _ _ _ => rfl, fun _ _ _ => Nat.le_refl _, fun _ h0 => absurd h0 htk⟩
theorem once_lines (hok : C.ok) (h : OnceN C E) (a : Deed) : ∃ E', OnceL C E a (doC C a).1 (doC C a).2 E' := by
 unfold doC
 split
 ·exact ⟨E, OnceL.idle h (fun hs => by simp [Sent1, errR] at hs) (fun hh => by simp [errR] at hh)⟩
 have hok1 : ({ C with acts := C.acts + 1 } : Clu).ok := ⟨hok.now, hok.kerN, hok.ker, hok.certN, hok.cert, hok.lineN, hok.line, hok.netN, hok.net, by have := hok.acts; simp only; omega⟩
 have h1 := h.acting
 unfold actC
 split
 ·rename_i k1
  have k23 : ∀ r : Rep, ¬ ((a.kind = 2 ∨ a.kind = 3) ∧ r.code = 0) := fun r hh => by omega
  split
  ·exact ⟨E, OnceL.idle h1 (fun hs => by simp [Sent1, errR] at hs) (k23 _)⟩
  rename_i hf
  have a4 : four a.h = true := by simpa using (not_or.1 hf).1
  obtain ⟨n, e, hn⟩ := four_nat a4
  unfold callC
  split
  ·rename_i k6
   split
   ·exact ⟨E, OnceL.idle h1 (fun hs => by simp [Sent1, errR] at hs) (k23 _)⟩
   split
   ·exact ⟨E, OnceL.idle h1 (fun hs => by simp [Sent1, errR] at hs) (k23 _)⟩
   rename_i hx4
   have c4 : four a.call.h = true := by simpa using (not_or.1 hx4).1
   have t4 : four a.call.t = true := by simpa using (not_or.1 hx4).2
   split
   ·rename_i hl
    exact ⟨E, OnceL.idle h1 (fun hs => hl hs.2.2) (k23 _)⟩
   rename_i hl
   have hl : (letterK (C.ker a.h) a.t a.call).2 = 0 := by
    have h0 : ¬ (letterK (C.ker a.h) a.t a.call).2 ≠ 0 := hl
    simpa using h0
   obtain ⟨-, q2, -, -⟩ := letterK_ok hl
   have hmh : (letterK (C.ker a.h) a.t a.call).1.host = a.h := by
    rw [q2, e]
    obtain ⟨k, ek, e2, hk, hkh⟩ := hok.kerAt hn
    show (C.ker n).host = n
    rw [e2, hkh]
   show ∃ E', OnceL C E a (sendC _ a.h a.call.h a.call.t (letterK (C.ker a.h) a.t a.call).1).1 (errR (sendC _ a.h a.call.h a.call.t (letterK (C.ker a.h) a.t a.call).1).2) E'
   have hlm : letterK (C.ker a.h) a.t a.call = ((letterK (C.ker a.h) a.t a.call).1, 0) := by rw [← hl]
   generalize (letterK (C.ker a.h) a.t a.call).1 = m at hmh hlm
   obtain ⟨v, ev, hv⟩ := four_nat c4
   unfold sendC
   split
   ·rename_i hvv
    have hnv : n = v := by omega
    subst hnv
    refine ⟨E.put n n (E n n ++ [(a.call.t, true)]), ?_, fun p q t => ?_, fun p q t => by rw [cntT_app]; omega, fun h' t' m' hm => ?_, fun _ => ⟨a4, c4, t4⟩⟩
    ·have hsub := E.sub_app n n (a.call.t, true)
     have hx : OnceN { C with acts := C.acts + 1 } (E.put n n (E n n ++ [(a.call.t, true)])) := ⟨fun p q hp hq hne => by rw [Sends.put_other E _ (fun hh => hne (hh.1.trans hh.2.symm))]; exact h1.next p q hp hq hne, fun L hL s hs => (h1.sent L hL s hs).up hsub, fun s hs f hf => (h1.net s hs f hf).up hsub, fun p q hp hq hne i t hi => by rw [Sends.put_other E _ (fun hh => hne (hh.1.trans hh.2.symm))] at hi; exact h1.took p q hp hq hne i t hi⟩
     exact hx.same rfl fun _ h => h
    ·refine ⟨fun _ hh => ?_, fun hh => ?_⟩
     ·rw [cntS_app, if_pos ⟨by omega, by omega, hh.2.2⟩]
     ·rw [cntS_app, if_neg (fun hq => hh ⟨⟨k1, k6, rfl⟩, by omega, by omega, hq.2.2⟩), Nat.add_zero]
    ·cases hm with
     | here k1' k6' ha hh ht h4' hr' hl' =>
      rw [← ha, hlm] at hl'
      cases hl'
      refine ⟨n, n, hn, by omega, by rw [hmh, e], ?_⟩
      rw [cntT_app, if_pos ⟨rfl, rfl, rfl, ht⟩]
      exact Nat.le_refl _
     | came s f k23' hs hd hack hh ht hm htk hmay hr' => omega
   ·rename_i hvv
    have hnv : n ≠ v := fun hh => hvv (by omega)
    split
    ·exact ⟨E, OnceL.idle h1 (fun hs => by simp [Sent1, errR] at hs) (k23 _)⟩
    ·split
     ·rename_i hk0
      exact ⟨E, OnceL.idle h1 (fun hs => hk0 hs.2.2) (k23 _)⟩
     ·rename_i hk0
      have hk0' : ¬ (sentLn (Clu.line { C with acts := C.acts + 1 } a.h a.call.h) (mailF a.h a.call.h a.call.t m (showL (Clu.cert { C with acts := C.acts + 1 } a.h) m)) C.now).2.2 ≠ 0 := hk0
      rw [e, ev] at hk0' ⊢
      have hN := h1.sendOut hok1 hn hv hnv (t := a.call.t) (m := m) (cs := showL (Clu.cert { C with acts := C.acts + 1 } n) m) (by simpa using hk0')
      refine ⟨E.put n v (E n v ++ [(a.call.t, false)]), hN, fun p q t => ?_, fun p q t => by rw [cntT_app]; omega, fun h' t' m' hm => ?_, fun _ => ⟨a4, c4, t4⟩⟩
      ·refine ⟨fun _ hh => ?_, fun hh => ?_⟩
       ·rw [cntS_app, if_pos ⟨by omega, by omega, hh.2.2⟩]
       ·rw [cntS_app, if_neg (fun hq => hh ⟨⟨k1, k6, rfl⟩, by omega, by omega, hq.2.2⟩), Nat.add_zero]
      ·cases hm with
       | here k1' k6' ha hh ht h4' hr' hl' => omega
       | came s f k23' hs hd hack hh ht hm htk hmay hr' => omega
  ·rename_i k6
   have hns : ∀ r : Rep, ¬ Sent1 a r := fun r hs => k6 hs.2.1
   split
   ·split
    ·exact ⟨E, OnceL.idle h1 (hns _) (k23 _)⟩
    split
    ·exact ⟨E, OnceL.idle h1 (hns _) (k23 _)⟩
    split
    ·exact ⟨E, OnceL.idle h1 (hns _) (k23 _)⟩
    ·exact ⟨E, OnceL.idle (h1.same rfl fun _ h => h) (hns _) (k23 _)⟩
   ·exact ⟨E, OnceL.idle (h1.same rfl fun _ h => h) (hns _) (k23 _)⟩
 rename_i k1
 have hns : ∀ r : Rep, ¬ Sent1 a r := fun r hs => k1 hs.1
 split
 ·rename_i k234
  split
  ·exact ⟨E, OnceL.idle h1 (hns _) (fun hh => by simp [errR] at hh)⟩
  rename_i hn
  obtain ⟨i, ei⟩ := Int.eq_ofNat_of_zero_le (show 0 ≤ a.n by omega)
  have hi : i < C.net.length := by simp only at hn; omega
  dsimp only
  have hsm : C.net[a.n.toNat]? = some (C.net.getD a.n.toNat ⟨#[]⟩) := by rw [ei, Int.toNat_natCast, List.getD_eq_getElem?_getD, List.getElem?_eq_getElem hi]; rfl
  have hok2 : (if a.kind = 3 then ({ C with acts := C.acts + 1 } : Clu) else { C with acts := C.acts + 1, net := C.net.eraseIdx a.n.toNat }).ok := by
   split
   ·exact hok1
   ·exact ⟨hok1.now, hok1.kerN, hok1.ker, hok1.certN, hok1.cert, hok1.lineN, hok1.line, Nat.le_trans (List.length_eraseIdx_le _ _) hok1.netN, fun s hs => hok1.net s (List.mem_of_mem_eraseIdx hs), hok1.acts⟩
  have h2 : OnceN (if a.kind = 3 then ({ C with acts := C.acts + 1 } : Clu) else { C with acts := C.acts + 1, net := C.net.eraseIdx a.n.toNat }) E := by
   split
   ·exact h1
   ·exact h1.same rfl fun s hs => List.mem_of_mem_eraseIdx hs
  have hC3 : ∀ v w, (if a.kind = 3 then ({ C with acts := C.acts + 1 } : Clu) else { C with acts := C.acts + 1, net := C.net.eraseIdx a.n.toNat }).line v w = C.line v w := fun v w => by split <;> rfl
  by_cases k4 : a.kind = 4
  ·rw [if_pos k4]
   exact ⟨E, OnceL.idle h2 (hns _) (fun hh => by omega)⟩
  rw [if_neg k4]
  generalize C.net.getD a.n.toNat ⟨#[]⟩ = s at hsm
  have hsN := h.net s (List.mem_of_getElem? hsm)
  show ∃ E', OnceL C E a (comeC (if a.kind = 3 then ({ C with acts := C.acts + 1 } : Clu) else { C with acts := C.acts + 1, net := C.net.eraseIdx a.n.toNat }) s) ⟨0, s.size, ⟨#[]⟩⟩ E'
  generalize (if a.kind = 3 then ({ C with acts := C.acts + 1 } : Clu) else { C with acts := C.acts + 1, net := C.net.eraseIdx a.n.toNat }) = D at hok2 h2 hC3
  unfold comeC
  split
  ·rename_i hd
   refine ⟨E, h2, fun p q t => ⟨fun hs _ => absurd hs (hns _), fun _ => rfl⟩, fun _ _ _ => Nat.le_refl _, fun h' t' m' hm => ?_, fun hs => absurd hs (hns _)⟩
   cases hm with
   | here k1' k6' ha hh ht h4' hr' hl' => exact absurd k1' k1
   | came s' f k23' hs hd' hack hh ht hm htk hmay hr' =>
    rw [hsm] at hs
    cases hs
    exact absurd (by rw [hd']) hd
  ·rename_i hd
   have hd0 : decR s.data.toList = ((decR s.data.toList).1, 0) := by
    have : (decR s.data.toList).2 = 0 := by simpa using hd
    rw [← this]
   generalize (decR s.data.toList).1 = f at hd0
   have hg := (dec_only hd0).2
   obtain ⟨g1, g2, g3, g4, g5, g6⟩ := goodF_facts hg
   obtain ⟨E', hN, q1, q2, q3⟩ := h2.come hok2 hg (hsN f hd0)
   refine ⟨E', hN, fun p q t => ⟨fun hs _ => absurd hs (hns _), fun _ => q1 p q t⟩, q2, fun h' t' m' hm => ?_, fun hs => absurd hs (hns _)⟩
   cases hm with
   | here k1' k6' ha hh ht h4' hr' hl' => exact absurd k1' k1
   | came s' f' k23' hs hd' hack hh ht hm htk hmay hr' =>
    rw [hsm] at hs
    cases hs
    rw [hd0] at hd'
    cases hd'
    obtain ⟨n, en, hn⟩ := four_nat g1
    obtain ⟨v, ev, hv⟩ := four_nat g2
    have q4 := q3 hack (by rw [hC3]; exact htk)
    rw [en, ev, Int.toNat_natCast, Int.toNat_natCast] at q4
    exact ⟨n, v, hn, by rw [← hh, ev], by rw [← hm, (g6 hack).2.1, en], by rw [← ht]; exact q4⟩
 rename_i k234
 split
 ·have k5 : ∀ r : Rep, ¬ ((a.kind = 2 ∨ a.kind = 3) ∧ r.code = 0) := fun r hh => by omega
  generalize ({ C with acts := C.acts + 1 } : Clu) = C1 at hok1 h1
  unfold tickC
  split
  ·exact ⟨E, OnceL.idle h1 (hns _) (k5 _)⟩
  ·rename_i hn
   have hok2 : ({ C1 with now := C1.now + a.n } : Clu).ok := ⟨⟨by have := hok1.now; simp only; omega, by have := hok1.now; simp only; omega⟩, hok1.kerN, hok1.ker, hok1.certN, hok1.cert, hok1.lineN, hok1.line, hok1.netN, hok1.net, hok1.acts⟩
   have h2 : OnceN { C1 with now := C1.now + a.n } E := h1.same rfl fun _ h => h
   generalize ({ C1 with now := C1.now + a.n } : Clu) = D at hok2 h2
   have hT := OnceN.tick 16 0 hok2 (by omega) h2
   generalize tickAll 16 0 D = T at hT
   exact ⟨E, OnceL.idle hT (hns _) (k5 _)⟩
 ·exact ⟨E, OnceL.idle h1 (hns _) (fun hh => by omega)⟩
end
structure OnceJ (C : Clu) (n : Nat) (ss cs ws : List Int) (E : Sends) : Prop where
 lines : OnceN C E
 ls : ss.length = 64
 lc : cs.length = 64
 s : ∀ p h t : Nat, p < 4 → h < 4 → t < 4 → ss[p * 16 + h * 4 + t]? = some (cntS E p h t : Int)
 c : ∀ p h t : Nat, p < 4 → h < 4 → t < 4 → ∃ c : Nat, cs[p * 16 + h * 4 + t]? = some (c : Int) ∧ c ≤ cntT E p h t
 w : ws = (thrsOf C).map fun x => (x.mails.length : Int)
 le : ∀ (p h : Nat) (t : Int), cntS E p h t ≤ n
def bumpK (cs : List Int) (ev : Option (Nat × Nat × Nat)) (k : Nat) : List Int := match ev with
 | none => cs
 | some (p, h, t) => if h * 4 + t < k then cs.set (p * 16 + h * 4 + t) (cs.getD (p * 16 + h * 4 + t) 0 + 1) else cs
theorem bumpK_len (cs : List Int) (ev : Option (Nat × Nat × Nat)) (k : Nat) : (bumpK cs ev k).length = cs.length := by
 unfold bumpK
 split
 ·rfl
 ·split
  ·rw [List.length_set]
  ·rfl
structure OnceA (a : Deed) (r : Rep) (C C' : Clu) (ss ss' cs : List Int) (ev : Option (Nat × Nat × Nat)) : Prop where
 sent : (Sent1 a r ∧ ∃ p h t : Nat, ∃ s : Nat, p < 4 ∧ h < 4 ∧ t < 4 ∧ a.h = p ∧ a.call.h = h ∧ a.call.t = t ∧ s ≤ 120 ∧ ss[p * 16 + h * 4 + t]? = some (s : Int) ∧ ss' = ss.set (p * 16 + h * 4 + t) ((s : Int) + 1)) ∨ (¬ Sent1 a r ∧ ss' = ss)
 evL : ∀ p h t, ev = some (p, h, t) → p < 4 ∧ h < 4 ∧ t < 4
 came : ∀ h t : Nat, h < 4 → t < 4 → (∃ (p : Nat) (m : Mail) (c s : Nat), ev = some (p, h, t) ∧ p < 4 ∧ m.host = p ∧ (C'.thr h t).mails = (C.thr h t).mails ++ [m] ∧ cs[p * 16 + h * 4 + t]? = some (c : Int) ∧ ss'[p * 16 + h * 4 + t]? = some (s : Int) ∧ c + 1 ≤ s ∧ s ≤ 121) ∨
  ((∀ p, ev ≠ some (p, h, t)) ∧ (C'.thr h t).mails.length ≤ (C.thr h t).mails.length)
theorem mailFrom_one {C : Clu} {a : Deed} {r : Rep} {h t h' t' : Int} {m m' : Mail} (x : MailFrom C a r h t m) (y : MailFrom C a r h' t' m') : h = h' ∧ t = t' := by
 cases x with
 | here k1 k6 ha hh ht h4 hr hl =>
  cases y with
  | here k1' k6' ha' hh' ht' h4' hr' hl' => exact ⟨ha.symm.trans ha', ht.symm.trans ht'⟩
  | came s' f' k23' hs' hd' hack' hh' ht' hm' htk' hmay' hr' => omega
 | came s f k23 hs hd hack hh ht hm htk hmay hr =>
  cases y with
  | here k1' k6' ha' hh' ht' h4' hr' hl' => omega
  | came s' f' k23' hs' hd' hack' hh' ht' hm' htk' hmay' hr' =>
   rw [hs] at hs'
   cases hs'
   rw [hd] at hd'
   cases hd'
   exact ⟨hh.symm.trans hh', ht.symm.trans ht'⟩
theorem once_act {C : Clu} {n : Nat} {ss cs ws : List Int} {E : Sends} (hok : C.ok) (hn : n < 120) (hJ : OnceJ C n ss cs ws E) (a : Deed) :
  ∃ E' ev ss', OnceA a (doC C a).2 C (doC C a).1 ss ss' cs ev ∧ OnceJ (doC C a).1 (n + 1) ss' (bumpK cs ev 16) ((thrsOf (doC C a).1).map fun x => (x.mails.length : Int)) E' := by
 obtain ⟨E', hN, hS, hT, hM, hB⟩ := once_lines hok hJ.lines a
 have hthr := fun (h t : Nat) (hh : h < 4) (ht : t < 4) => doC_thr hok a (four_n hh) (four_n ht)
 obtain ⟨C', hC'⟩ : ∃ C', (doC C a).1 = C' := ⟨_, rfl⟩
 obtain ⟨r, hr⟩ : ∃ r, (doC C a).2 = r := ⟨_, rfl⟩
 rw [hC', hr] at hthr
 rw [hC'] at hN
 rw [hr] at hS hB hM
 rw [hC', hr]
 clear hC' hr
 -- what was sent
 have hs : ∃ ss' : List Int, ss'.length = 64 ∧ (∀ p h t : Nat, p < 4 → h < 4 → t < 4 → ss'[p * 16 + h * 4 + t]? = some (cntS E' p h t : Int)) ∧
   ((Sent1 a r ∧ ∃ p h t : Nat, ∃ s : Nat, p < 4 ∧ h < 4 ∧ t < 4 ∧ a.h = p ∧ a.call.h = h ∧ a.call.t = t ∧ s ≤ 120 ∧ ss[p * 16 + h * 4 + t]? = some (s : Int) ∧ ss' = ss.set (p * 16 + h * 4 + t) ((s : Int) + 1)) ∨ (¬ Sent1 a r ∧ ss' = ss)) := by
  by_cases h1 : Sent1 a r
  ·obtain ⟨b1, b2, b3⟩ := hB h1
   obtain ⟨p, ep, hp⟩ := four_nat b1
   obtain ⟨h, eh, hh⟩ := four_nat b2
   obtain ⟨t, et, ht⟩ := four_nat b3
   refine ⟨ss.set (p * 16 + h * 4 + t) ((cntS E p h t : Int) + 1), by rw [List.length_set]; exact hJ.ls, fun p' h' t' hp' hh' ht' => ?_, .inl ⟨h1, p, h, t, cntS E p h t, hp, hh, ht, ep, eh, et, by have := hJ.le p h t; omega, hJ.s p h t hp hh ht, rfl⟩⟩
   rw [List.getElem?_set]
   by_cases e : p * 16 + h * 4 + t = p' * 16 + h' * 4 + t'
   ·obtain ⟨rfl, rfl, rfl⟩ : p = p' ∧ h = h' ∧ t = t' := by omega
    rw [if_pos rfl, if_pos (by rw [hJ.ls]; omega), (hS p h t).1 h1 ⟨ep, eh, et⟩]
    simp
   ·rw [if_neg e, (hS p' h' t').2 fun hh => e (by omega)]
    exact hJ.s p' h' t' hp' hh' ht'
  ·exact ⟨ss, hJ.ls, fun p h t hp hh ht => by rw [(hS p h t).2 fun hh => h1 hh.1]; exact hJ.s p h t hp hh ht, .inr ⟨h1, rfl⟩⟩
 obtain ⟨ss', hl', hs', hs1⟩ := hs
 have hle : ∀ (p h : Nat) (t : Int), cntS E' p h t ≤ n + 1 := fun p h t => by
  by_cases h1 : Sent1 a r ∧ a.h = p ∧ a.call.h = h ∧ a.call.t = t
  ·rw [(hS p h t).1 h1.1 h1.2]; have := hJ.le p h t; omega
  ·rw [(hS p h t).2 h1]; have := hJ.le p h t; omega
 by_cases hev : ∃ h t : Nat, h < 4 ∧ t < 4 ∧ ∃ m, (C'.thr h t).mails = (C.thr h t).mails ++ [m] ∧ MailFrom C a r h t m
 ·obtain ⟨h, t, hh, ht, m, hm1, hm2⟩ := hev
  obtain ⟨p, h', hp, eh, hmh, hcnt⟩ := hM h t m hm2
  obtain rfl : h = h' := by omega
  obtain ⟨c, hc1, hc2⟩ := hJ.c p h t hp hh ht
  have hTS := cntT_le E' p h t
  refine ⟨E', some (p, h, t), ss', ⟨hs1, fun p' h' t' e => by cases e; exact ⟨hp, hh, ht⟩, fun h2 t2 hh2 ht2 => ?_⟩, hN, hl', by rw [bumpK_len]; exact hJ.lc, hs', fun p' h' t' hp' hh' ht' => ?_, rfl, hle⟩
  ·by_cases e : h2 = h ∧ t2 = t
   ·obtain ⟨rfl, rfl⟩ := e
    exact .inl ⟨p, m, c, cntS E' p h2 t2, rfl, hp, hmh, hm1, hc1, hs' p h2 t2 hp hh ht, by omega, by have := hle p h2 t2; omega⟩
   ·refine .inr ⟨fun p' e' => ?_, ?_⟩
    ·cases e'; exact e ⟨rfl, rfl⟩
    ·cases hthr h2 t2 hh2 ht2 with
     | same e => rw [e]; exact Nat.le_refl _
     | call k1 ha q4 k6 k8 e hr =>
      obtain ⟨k, ek, e2, hk, hkh⟩ := hok.kerAt hh2
      rw [e]
      exact (stepC_eff (C.ker h2) a.t (by rw [e2]; exact hk.four) a.call t2 (four_n ht2)).mailsL
     | mail m' e' hf hl hg hm' =>
      obtain ⟨q1, q2⟩ := mailFrom_one hm' hm2
      exact absurd ⟨by omega, by omega⟩ e
  ·unfold bumpK
   simp only
   rw [if_pos (by omega), List.getElem?_set]
   by_cases e : p * 16 + h * 4 + t = p' * 16 + h' * 4 + t'
   ·obtain ⟨rfl, rfl, rfl⟩ : p = p' ∧ h = h' ∧ t = t' := by omega
    rw [if_pos rfl, if_pos (by rw [hJ.lc]; omega)]
    refine ⟨c + 1, ?_, by omega⟩
    rw [List.getD_eq_getElem?_getD, hc1]
    simp
   ·rw [if_neg e]
    obtain ⟨c', h1, h2⟩ := hJ.c p' h' t' hp' hh' ht'
    exact ⟨c', h1, Nat.le_trans h2 (hT p' h' t')⟩
 ·refine ⟨E', none, ss', ⟨hs1, (fun _ _ _ e => by cases e), fun h2 t2 hh2 ht2 => .inr ⟨(fun _ e => by cases e), ?_⟩⟩, hN, hl', hJ.lc, hs', fun p' h' t' hp' hh' ht' => ?_, rfl, hle⟩
  ·cases hthr h2 t2 hh2 ht2 with
   | same e => rw [e]; exact Nat.le_refl _
   | call k1 ha q4 k6 k8 e hr =>
    obtain ⟨k, ek, e2, hk, hkh⟩ := hok.kerAt hh2
    rw [e]
    exact (stepC_eff (C.ker h2) a.t (by rw [e2]; exact hk.four) a.call t2 (four_n ht2)).mailsL
   | mail m' e' hf hl hg hm' => exact absurd ⟨h2, t2, hh2, ht2, m', by rw [e'], hm'⟩ hev
  ·obtain ⟨c', h1, h2⟩ := hJ.c p' h' t' hp' hh' ht'
   exact ⟨c', h1, Nat.le_trans h2 (hT p' h' t')⟩
theorem once_new : OnceJ newC 0 (List.replicate 64 0) (List.replicate 64 0) (List.replicate 16 0) (fun _ _ => []) := by
 have hl : ∀ p h : Nat, p < 4 → h < 4 → newC.line p h = zeroL := fun p h hp hh => by
  unfold Clu.line lineAt newC
  simp only [Int.toNat_natCast, List.getD_eq_getElem?_getD]
  rw [List.getElem?_replicate, if_pos (by omega)]
  rfl
 refine ⟨⟨fun p h hp hh _ => by rw [hl p h hp hh]; rfl, fun L hL s hs => ?_, fun s hs => by simp [newC] at hs, fun p h _ _ _ i t hi => by simp at hi⟩, rfl, rfl, fun p h t hp hh ht => by rw [List.getElem?_replicate, if_pos (by omega)]; rfl, fun p h t hp hh ht => ⟨0, by rw [List.getElem?_replicate, if_pos (by omega)]; rfl, Nat.zero_le _⟩, by rw [thrsOf_new]; rfl, fun p h t => by simp [cntS]⟩
 simp only [newC] at hL
 rw [List.eq_of_mem_replicate hL] at hs
 simp [zeroL] at hs
open Go.RowKit
def iv (l : List Int) : List Value := l.map (Value.int .i64)
theorem iv_len (l : List Int) : (iv l).length = l.length := List.length_map ..
theorem iv_at {l : List Int} {i : Nat} {x : Int} (h : l[i]? = some x) : (iv l)[i]? = some (.int .i64 x) := by unfold iv; rw [List.getElem?_map, h]; rfl
theorem iv_put (l : List Int) (i : Nat) (x : Int) : putL (iv l) i [.int .i64 x] = iv (l.set i x) := by unfold iv; rw [putL_cons, putL_nil, List.map_set]
def mailsN (C : Clu) : List Int := (thrsOf C).map fun x => (x.mails.length : Int)
theorem mailsN_len (C : Clu) : (mailsN C).length = 16 := by simp [mailsN, thrsOf_len]
theorem mailsN_at (C : Clu) {h t : Nat} (hh : h < 4) (ht : t < 4) : (mailsN C)[h * 4 + t]? = some ((C.thr h t).mails.length : Int) := by
 unfold mailsN; rw [List.getElem?_map, thrsOf_at C hh ht]; rfl
theorem bumpK_zero (cs : List Int) (ev : Option (Nat × Nat × Nat)) : bumpK cs ev 0 = cs := by
 unfold bumpK
 split
 ·rfl
 ·exact if_neg (by omega)
theorem bumpK_hit {cs : List Int} {p h t : Nat} {c : Int} (hc : cs[p * 16 + h * 4 + t]? = some c) : bumpK cs (some (p, h, t)) (h * 4 + t) = cs ∧ bumpK cs (some (p, h, t)) (h * 4 + t + 1) = cs.set (p * 16 + h * 4 + t) (c + 1) := by
 unfold bumpK
 simp only
 refine ⟨if_neg (by omega), ?_⟩
 rw [if_pos (by omega), List.getD_eq_getElem?_getD, hc]
 rfl
theorem bumpK_pass {cs : List Int} {ev : Option (Nat × Nat × Nat)} {h t : Nat} (ht : t < 4) (hL : ∀ p h t, ev = some (p, h, t) → p < 4 ∧ h < 4 ∧ t < 4) (hn : ∀ p, ev ≠ some (p, h, t)) : bumpK cs ev (h * 4 + t + 1) = bumpK cs ev (h * 4 + t) := by
 unfold bumpK
 split
 ·rfl
 ·rename_i p' h' t'
  obtain ⟨h1, h2, h3⟩ := hL p' h' t' rfl
  have : ¬ h' * 4 + t' = h * 4 + t := fun e => hn p' (by rw [show h' = h by omega, show t' = t by omega])
  by_cases q : h' * 4 + t' < h * 4 + t
  ·rw [if_pos q, if_pos (by omega)]
  ·rw [if_neg q, if_neg (by omega)]
set_option maxRecDepth 100000 in
set_option maxHeartbeats 8000000 in
theorem look_once {w0 : World} {gS gC gW : Nat} {C C' : Clu} {a : Deed} {r : Rep} {ss ss' cs : List Int} {ev : Option (Nat × Nat × Nat)} (hA : OnceA a r C C' ss ss' cs ev) (hls : ss.length = 64) (hlc : cs.length = 64)
  (hm6 : ∀ h t : Nat, h < 4 → t < 4 → (C.thr h t).mails.length ≤ 6) (gc : Nat) (kg : List Nat) (W Wd : World) (D : Nat → Prop) (la : Option Addr) (lc : Nat) (ga : Option Addr) (gx : Nat)
  (P : Clus w0 [gS, gC, gW] [(gS, 51, iv (ss)), (gC, 51, iv (cs)), (gW, 50, iv (mailsN C))] (fun _ => False) Wd D gc kg C' W) :
  Calls Try.prog 11 #[.pointer (some ⟨gc, 0, none⟩), deedV a la lc ga gx, RepV r, .pointer (some ⟨gS, 0, none⟩), .pointer (some ⟨gW, 0, none⟩), .pointer (some ⟨gC, 0, none⟩)] W fun e W' => e = .returned (.bool true) ∧
   ∃ D', Clus w0 [gS, gC, gW] [(gS, 51, iv (ss')), (gC, 51, iv (bumpK cs ev 16)), (gW, 50, iv (mailsN C'))] (fun _ => False) W' D' gc kg C' W' := by
 have hokC' := P.okC
 have HY := Lib.hid (fun (h t : Nat) (hh : h < 4) (ht : t < 4) => (show (C'.thr h t).ok from by
  obtain ⟨k, ek, e2, hk, hkh⟩ := hokC'.kerAt hh
  unfold Clu.thr; rw [e2]; exact hk.at t))
 have HP := Lib.hid P
 have st := P.st.rebase
 simp only [List.map_cons, List.map_nil] at st
 clear P hokC'
 have HSe := Lib.hid hA.sent
 have HEL := Lib.hid hA.evL
 have HCa := Lib.hid hA.came
 have HM6 := Lib.hid hm6
 clear hA hm6
 obtain ⟨ak, ah, at', an, ck, ch, ct, cn, cc, cl, cg, cx⟩ := a
 obtain ⟨rc, rn, rt⟩ := r
 unfold deedV RepV
 dsimp only
 go_enter Try.func11, Try.ntmps11
 go_upto_region 1 with (first | go_skip | (with_reducible refine mB 38 st ?_; clear st; intro g7 w7 hg7 st) | (with_reducible refine mB 41 st ?_; clear st; intro g8 w8 hg8 st))
 try simp only [kP, kA, kS, kZ]
 obtain ⟨q, hq⟩ : ∃ q : Bool, q = true ↔ (ak = 1 ∧ ck = 6 ∧ rc = 0) := ⟨decide (ak = 1 ∧ ck = 6 ∧ rc = 0), by simp⟩
 have HQ := Lib.hid hq
 clear hq
 have st0 := st
 go_cut [28] (fun s28 wx => s28 = .bool q ∧ wx = w8)
 case first =>
  by_cases k1 : ak = 1
  ·by_cases k6 : ck = 6
   ·by_cases k0 : rc = 0
    ·have e1 : (ak == 1) = true := by simp [k1]
     have e2 : (ck == 6) = true := by simp [k6]
     have e3 : (rc == 0) = true := by simp [k0]
     have eq : q = true := HQ.out.2 ⟨k1, k6, k0⟩
     clear k1 k6 k0
     go_wp2_with (first | go_skip | (with_reducible refine mX st Try.isAgg3 ?_) | (with_reducible refine mX st Try.isAgg39 ?_))
     go_meet
     exact ⟨by rw [eq], rfl⟩
    ·have e1 : (ak == 1) = true := by simp [k1]
     have e2 : (ck == 6) = true := by simp [k6]
     have e3 : (rc == 0) = false := by simp [k0]
     have eq : q = false := by cases q; rfl; exact absurd (HQ.out.1 rfl).2.2 k0
     clear k1 k6 k0
     go_wp2_with (first | go_skip | (with_reducible refine mX st Try.isAgg3 ?_) | (with_reducible refine mX st Try.isAgg39 ?_))
     go_meet
     exact ⟨by rw [eq], rfl⟩
   ·have e1 : (ak == 1) = true := by simp [k1]
    have e2 : (ck == 6) = false := by simp [k6]
    have eq : q = false := by cases q; rfl; exact absurd (HQ.out.1 rfl).2.1 k6
    clear k1 k6
    go_wp2_with (first | go_skip | (with_reducible refine mX st Try.isAgg3 ?_) | (with_reducible refine mX st Try.isAgg39 ?_))
    go_meet
    exact ⟨by rw [eq], rfl⟩
  ·have e1 : (ak == 1) = false := by simp [k1]
   have eq : q = false := by cases q; rfl; exact absurd (HQ.out.1 rfl).1 k1
   clear k1
   go_wp2_with (first | go_skip | (with_reducible refine mX st Try.isAgg3 ?_) | (with_reducible refine mX st Try.isAgg39 ?_))
   go_meet
   exact ⟨by rw [eq], rfl⟩
 case rest =>
  obtain ⟨rfl, rfl⟩ := hcut
  clear st0
  go_upto_if 28 with (first | go_skip | fail)
  try simp only [kP, kA, kS, kZ]
  go_cut [] (fun wx => St [gS, gC, gW] W wx [(gS, 51, iv (ss')), (gC, 51, iv (cs)), (gW, 50, iv (mailsN C)), (g7, 38, [.int .i64 ak, .int .i64 ah, .int .i64 at', .int .i64 an, .int .i64 ck, .int .i64 ch, .int .i64 ct, .int .i64 cn, .int .i64 cc, .slice la cl.length lc, .slice ga cg.length gx, .string cx]), (g8, 41, [.int .i64 rc, .int .i64 rn, .string rt])])
  case first =>
   cases q with
   | false =>
    have hss : ss' = ss := by
     rcases HSe.out with h | h
     ·have := HQ.out.2 ⟨h.1.1, h.1.2.1, h.1.2.2⟩; cases this
     ·exact h.2
    subst hss
    go_wp2_with (first | go_skip | fail)
    go_meet
    exact st
   | true =>
    rcases HSe.out with ⟨-, p, h, t, s, hp, hh, ht, e1, e2, e3, hs120, hs, hss⟩ | h
    case inr => exact absurd (show Sent1 _ _ from ⟨(HQ.out.1 rfl).1, (HQ.out.1 rfl).2.1, (HQ.out.1 rfl).2.2⟩) h.1
    dsimp only at e1 e2 e3
    subst e1 e2 e3
    have HV := Lib.hid (iv_at hs)
    have HS2 := Lib.hid hss
    clear hs hss
    go_upto_region 2 with (first | go_skip | fail)
    try simp only [kP, kA, kS, kZ]
    have hI := st.drew
    clear st
    have st := hI
    refine lex_tail (by kernel_rfl) 16 1 [16] rfl (by decide +kernel) (fun U => St [gS, gC, gW] W U [(gS, 51, iv (ss)), (gC, 51, iv (cs)), (gW, 50, iv (mailsN C)), (g7, 38, [.int .i64 ak, .int .i64 p, .int .i64 at', .int .i64 an, .int .i64 ck, .int .i64 h, .int .i64 t, .int .i64 cn, .int .i64 cc, .slice la cl.length lc, .slice ga cg.length gx, .string cx]), (g8, 41, [.int .i64 rc, .int .i64 rn, .string rt])]) ?_
    refine lexS 0 rfl hI ?_
    refine lexT 1 rfl hI (fun W hW => St.run_load hW 3 3 _ rfl Try.isAgg3 rfl rfl rfl) ?_
    refine lexS 2 rfl hI ?_
    refine lexS 3 rfl hI ?_
    refine lexT 4 rfl hI (fun W hW => St.run_load hW 3 3 _ rfl Try.isAgg3 rfl rfl rfl) ?_
    refine lexS 5 rfl hI ?_
    refine lexS 6 rfl hI ?_
    refine lexT 7 rfl hI (fun W hW => St.run_load hW 3 3 _ rfl Try.isAgg3 rfl rfl rfl) ?_
    refine lexT (v := .pointer (some ⟨gS, p * 16, none⟩)) 8 rfl hI (fun W hW => by (first | (go_simp; done) | (go_simp; omega) | (go_simp; intro h; omega))) ?_
    refine lexT (v := .pointer (some ⟨gS, p * 16 + h * 4, none⟩)) 9 rfl hI (fun W hW => by (first | (go_simp; done) | (go_simp; omega) | (go_simp; intro h; omega))) ?_
    refine lexT (v := .pointer (some ⟨gS, p * 16 + h * 4 + t, none⟩)) 10 rfl hI (fun W hW => by (first | (go_simp; done) | (go_simp; omega) | (go_simp; intro h; omega))) ?_
    refine lexT 11 rfl hI (fun U hU => St.run_load hU 0 3 _ rfl Try.isAgg3 rfl rfl HV.out) ?_
    refine lexT (v := .int .i64 ((s : Int) + 1)) 12 rfl hI (fun W hW => by (go_simp; exact IntWalk.i64_in _ (by omega))) ?_
    refine lexT (v := .pointer (some ⟨gS, p * 16, none⟩)) 13 rfl hI (fun W hW => by (first | (go_simp; done) | (go_simp; omega) | (go_simp; intro h; omega))) ?_
    refine lexT (v := .pointer (some ⟨gS, p * 16 + h * 4, none⟩)) 14 rfl hI (fun W hW => by (first | (go_simp; done) | (go_simp; omega) | (go_simp; intro h; omega))) ?_
    refine lexT (v := .pointer (some ⟨gS, p * 16 + h * 4 + t, none⟩)) 15 rfl hI (fun W hW => by (first | (go_simp; done) | (go_simp; omega) | (go_simp; intro h; omega))) ?_
    clear hI
    refine lex_done (by decide +kernel) ?_
    refine tail_last 16 rfl (by first | exact wanted_none rfl | exact wanted_some rfl rfl) (by decide +kernel) (by decide +kernel) fun K hK => ?_
    refine wp_store st 3 _ _ rfl gS (p * 16 + h * 4 + t) rfl (.int .i64 ((s : Int) + 1)) rfl [.int .i64 ((s : Int) + 1)] rfl Try.sizeOf3 (by simp [Value.oneCell']) 0 _ _ rfl (by rw [iv_len]; simp only [List.length_cons, List.length_nil]; omega) ?_
    clear st
    intro w19 st hw19m hw19z
    rw [iv_put, ← HS2.out] at st
    refine hK _ _ ?_; clear hK
    simp only [List.set_cons_zero] at st
    go_wp2_with (first | go_skip | fail)
    go_meet
    exact st
  case rest =>
   clear st HSe HQ
   have st := hcut
   clear hcut
   go_wp2_with (first | go_skip | fail)
   go_loopw [45] (fun v45 wr => ∃ h : Nat, h ≤ 4 ∧ v45 = .int .i64 h ∧ St [gS, gC, gW] W wr [(gS, 51, iv (ss')), (gC, 51, iv (bumpK cs ev (h * 4))), (gW, 50, iv (mixL (mailsN C) (mailsN C') (h * 4))), (g7, 38, [.int .i64 ak, .int .i64 ah, .int .i64 at', .int .i64 an, .int .i64 ck, .int .i64 ch, .int .i64 ct, .int .i64 cn, .int .i64 cc, .slice la cl.length lc, .slice ga cg.length gx, .string cx]), (g8, 41, [.int .i64 rc, .int .i64 rn, .string rt])]) (fun v45 _ => 4 - (intOf v45).toNat)
   case atStart => exact ⟨0, by omega, rfl, by rw [Nat.zero_mul, bumpK_zero, mixL_zero]; exact st⟩
   case round =>
    clear st
    obtain ⟨V9, rfl⟩ : ∃ V, V = wr := ⟨_, rfl⟩
    obtain ⟨h, hh, rfl, st⟩ := hrel
    by_cases hh4 : h < 4
    case neg =>
     have d1 : decide ((h : Int) < 4) = false := by simp; omega
     obtain rfl : h = 4 := by omega
     have st3 := st.take 3
     simp only [List.take_succ_cons, List.take_zero] at st3
     rw [show 4 * 4 = 16 from rfl, show mixL (mailsN C) (mailsN C') 16 = mailsN C' from by have q := mixL_all (l := mailsN C) (l' := mailsN C') (by rw [mailsN_len, mailsN_len]); rw [mailsN_len] at q; exact q] at st3
     have PE := Lib.hid (HP.out.told st3)
     clear st st3
     go_wp2_with (first | go_skip | fail)
     go_ret
     exact ⟨rfl, _, PE.out⟩
    have d1 : decide ((h : Int) < 4) = true := by simp; omega
    go_wp2_with (first | go_skip | fail)
    go_loopw [48] (fun v48 wr => ∃ t : Nat, t ≤ 4 ∧ v48 = .int .i64 t ∧ St [gS, gC, gW] W wr [(gS, 51, iv (ss')), (gC, 51, iv (bumpK cs ev (h * 4 + t))), (gW, 50, iv (mixL (mailsN C) (mailsN C') (h * 4 + t))), (g7, 38, [.int .i64 ak, .int .i64 ah, .int .i64 at', .int .i64 an, .int .i64 ck, .int .i64 ch, .int .i64 ct, .int .i64 cn, .int .i64 cc, .slice la cl.length lc, .slice ga cg.length gx, .string cx]), (g8, 41, [.int .i64 rc, .int .i64 rn, .string rt])]) (fun v48 _ => 4 - (intOf v48).toNat)
    case atStart => exact ⟨0, by omega, rfl, st⟩
    case round =>
     clear st
     obtain ⟨V0, rfl⟩ : ∃ V, V = wr := ⟨_, rfl⟩
     obtain ⟨t, ht, rfl, st⟩ := hrel
     by_cases ht4 : t < 4
     case neg =>
      have d2 : decide ((t : Int) < 4) = false := by simp; omega
      obtain rfl : t = 4 := by omega
      go_wp2_with (first | go_skip | fail)
      go_roundw
      case rel => exact ⟨h + 1, by omega, by go_num, by rw [show (h + 1) * 4 = h * 4 + 4 by omega]; exact st⟩
      case measure => simp [intOf]; omega
     have d2 : decide ((t : Int) < 4) = true := by simp; omega
     have hyo := (HY.out h t hh4 ht4).mailN
     have hxo := HM6.out h t hh4 ht4
     have hca := HCa.out h t hh4 ht4
     have hlw : (mailsN C).length = (mailsN C').length := by rw [mailsN_len, mailsN_len]
     have HW0 := Lib.hid (iv_at ((mixL_at hlw (k := h * 4 + t) (by rw [mailsN_len]; omega)).trans (mailsN_at C hh4 ht4)))
     have HMX := Lib.hid (mixL_set hlw (k := h * 4 + t) (by rw [mailsN_len]; omega) (mailsN_at C' hh4 ht4))
     have HTh := Lib.hid (fun (V : World) (own2 : Blks) (hV : St [gS, gC, gW] W V own2) => (show ThreadPost V (thrC2 C' h t) = ThreadPost V (C'.thr h t) by rw [thrC2_at C' hh4 ht4]) ▸ cluster_Thread (HP.out.walk hV) h t)
     generalize C'.thr h t = y at hyo hca HMX HTh
     generalize C.thr h t = x at hxo hca HW0
     clear hlw
     go_upto_region 11 with (first
      | go_skip
      | (go_at_call 8; go_must (refine (HTh.out _ _ st).mono ?_; rintro e v3 ⟨ta, tc, oa, oc, ba, bc, ma, mc, rfl, hb3, hT⟩; have hz := And.intro (And.intro (st.ltAt (i := 0) rfl) (st.ltAt (i := 1) rfl)) (And.intro (st.ltAt (i := 2) rfl) (And.intro (st.ltAt (i := 3) rfl) (st.ltAt (i := 4) rfl))); have hst := st.call hb3; clear st; have st := hst.rebase; simp only [List.map_cons, List.map_nil] at st; unfold thrV))
      | (with_reducible refine mA st Try.zeroValue29 ?_; clear st; intro g12 w12 hg12 st) | (with_reducible refine mS 5 st Try.sizeOf29 ?_; clear st; intro w13 st hw13m hw13z) | (with_reducible refine mX st Try.isAgg27 ?_))
     have hT2 : ThrS (fun _ => True) w13 y ta tc oa oc ba bc ma mc := hT.move st.size fun b hb ho => ⟨trivial, st.frame b hb (by simp; omega)⟩
     have st2 := St.back hst st
     clear st hst
     have st := st2
     clear st2
     rcases hca with ⟨p, m, c, s, hev, hp, hmh, hms, hc, hs, hcs, hs121⟩ | ⟨hnev, hle⟩
     ·cases hev
      obtain ⟨mh, mt, ml, mg, mx⟩ := m
      dsimp only at hmh hms
      subst hmh
      obtain ⟨hb0, hb1⟩ := bumpK_hit hc
      rw [hb0] at st
      have HB1 := Lib.hid hb1
      have hyl : y.mails.length = x.mails.length + 1 := by rw [hms]; simp
      have hlt : x.mails.length < y.mails.length := by omega
      have hget : y.mails[x.mails.length] = ⟨p, mt, ml, mg, mx⟩ := by simp [hms]
      obtain ⟨b2, o2, la2, lc2, ga2, gc2, hna, -, hb2, -, -, hC2⟩ := hT2.mails.mail_at x.mails.length hlt
      rw [hget] at hC2
      have d3 : decide ((x.mails.length : Int) < (y.mails.length : Int)) = true := by simp; omega
      have d4 : IntKind.i64.wrap ((y.mails.length : Int) - (x.mails.length : Int)) = 1 := by rw [hyl]; push_cast; rw [show ((x.mails.length : Int) + 1 - x.mails.length) = 1 by omega]; rfl
      have d5 : IntKind.i64.wrap ((y.mails.length : Int) - 1) = (x.mails.length : Int) := by rw [hyl]; push_cast; rw [show ((x.mails.length : Int) + 1 - 1) = x.mails.length by omega]; exact IntWalk.i64_in _ (by omega)
      have d6 : decide ((s : Int) < (c : Int) + 1) = false := by simp; omega
      have HVc := Lib.hid (iv_at hc)
      have HVs := Lib.hid (iv_at hs)
      have HC2 := Lib.hid hC2
      have HMS := Lib.hid hyl
      have hcl : c ≤ 121 := by omega
      clear hms hget hb0 hb1 hT hT2 hb3 hc hs hcs hs121 hC2 hyl
      subst hna
      go_upto_region 15 with (first
       | go_skip | ((with_reducible refine at_load 3 ?_); refine mem_load' st 3 _ rfl (wanted_none rfl) Try.isAgg3 ?_; refine ⟨2, _, _, _, _, _, rfl, rfl, HW0.out, ?_⟩) | (with_reducible refine mX st Try.isAgg27 ?_)
       | ((with_reducible refine at_load 45 ?_); refine wpList_load_cells (wanted_none rfl) 45 _ rfl Try.isAgg45 _ Try.sizeOf45 b2 (o2 + x.mails.length * 5) rfl [.int .i64 p, .int .i64 mt, .slice la2 ml.length lc2, .slice ga2 mg.length gc2, .string mx] rfl HC2.out ?_)
       | (with_reducible refine mA st Try.zeroValue45 ?_; clear st; intro g14 w14 hg14 st) | (with_reducible refine mS 6 st Try.sizeOf45 ?_; clear st; intro w15 st hw15m hw15z))
      try simp only [kP, kA, kS, kZ]
      have hI := st.drew
      clear st
      have st := hI
      refine lex_tail (by kernel_rfl) 12 1 [12] rfl (by decide +kernel) (fun U => St [gS, gC, gW] W U [(gS, 51, iv (ss')), (gC, 51, iv (cs)), (gW, 50, iv (mixL (mailsN C) (mailsN C') (h * 4 + t))), (g7, 38, [.int .i64 ak, .int .i64 ah, .int .i64 at', .int .i64 an, .int .i64 ck, .int .i64 ch, .int .i64 ct, .int .i64 cn, .int .i64 cc, .slice la cl.length lc, .slice ga cg.length gx, .string cx]), (g8, 41, [.int .i64 rc, .int .i64 rn, .string rt]), (g12, 29, [.slice ta y.label.length tc, .slice oa y.own.length oc, .string y.text, .slice ba y.objects.length bc, .slice (some ⟨b2, o2, none⟩) y.mails.length mc]), (g14, 45, [.int .i64 p, .int .i64 mt, .slice la2 ml.length lc2, .slice ga2 mg.length gc2, .string mx])]) ?_
      refine lexS 0 rfl hI ?_
      refine lexT 1 rfl hI (fun W hW => St.run_load hW 6 3 _ rfl Try.isAgg3 rfl rfl rfl) ?_
      refine lexS 2 rfl hI ?_
      refine lexS 3 rfl hI ?_
      refine lexT (v := .pointer (some ⟨gC, p * 16, none⟩)) 4 rfl hI (fun W hW => by (first | (go_simp; done) | (go_simp; omega) | (go_simp; intro h; omega))) ?_
      refine lexT (v := .pointer (some ⟨gC, p * 16 + h * 4, none⟩)) 5 rfl hI (fun W hW => by (first | (go_simp; done) | (go_simp; omega) | (go_simp; intro h; omega))) ?_
      refine lexT (v := .pointer (some ⟨gC, p * 16 + h * 4 + t, none⟩)) 6 rfl hI (fun W hW => by (first | (go_simp; done) | (go_simp; omega) | (go_simp; intro h; omega))) ?_
      refine lexT 7 rfl hI (fun U hU => St.run_load hU 1 3 _ rfl Try.isAgg3 rfl rfl HVc.out) ?_
      refine lexT (v := .int .i64 ((c : Int) + 1)) 8 rfl hI (fun W hW => by (go_simp; exact IntWalk.i64_in _ (by omega))) ?_
      refine lexT (v := .pointer (some ⟨gC, p * 16, none⟩)) 9 rfl hI (fun W hW => by (first | (go_simp; done) | (go_simp; omega) | (go_simp; intro h; omega))) ?_
      refine lexT (v := .pointer (some ⟨gC, p * 16 + h * 4, none⟩)) 10 rfl hI (fun W hW => by (first | (go_simp; done) | (go_simp; omega) | (go_simp; intro h; omega))) ?_
      refine lexT (v := .pointer (some ⟨gC, p * 16 + h * 4 + t, none⟩)) 11 rfl hI (fun W hW => by (first | (go_simp; done) | (go_simp; omega) | (go_simp; intro h; omega))) ?_
      clear hI
      refine lex_done (by decide +kernel) ?_
      refine tail_last 12 rfl (by first | exact wanted_none rfl | exact wanted_some rfl rfl) (by decide +kernel) (by decide +kernel) fun K hK => ?_
      refine wp_store st 3 _ _ rfl gC (p * 16 + h * 4 + t) rfl (.int .i64 ((c : Int) + 1)) rfl [.int .i64 ((c : Int) + 1)] rfl Try.sizeOf3 (by simp [Value.oneCell']) 1 _ _ rfl (by rw [iv_len]; simp only [List.length_cons, List.length_nil]; omega) ?_
      clear st
      intro w18 st hw18m hw18z
      rw [iv_put] at st
      refine hK _ _ ?_; clear hK
      simp only [List.set_cons_succ, List.set_cons_zero] at st
      have HVn := Lib.hid (iv_at (show (cs.set (p * 16 + h * 4 + t) ((c : Int) + 1))[p * 16 + h * 4 + t]? = some ((c : Int) + 1) by rw [List.getElem?_set_self (by omega)]))
      go_upto_region 16 with (first | go_skip | fail)
      try simp only [kP, kA, kS, kZ]
      refine det_region (by kernel_rfl) 17 rfl (fun U => St [gS, gC, gW] W U [(gS, 51, iv (ss')), (gC, 51, iv (cs.set (p * 16 + h * 4 + t) ((c : Int) + 1))), (gW, 50, iv (mixL (mailsN C) (mailsN C') (h * 4 + t))), (g7, 38, [.int .i64 ak, .int .i64 ah, .int .i64 at', .int .i64 an, .int .i64 ck, .int .i64 ch, .int .i64 ct, .int .i64 cn, .int .i64 cc, .slice la cl.length lc, .slice ga cg.length gx, .string cx]), (g8, 41, [.int .i64 rc, .int .i64 rn, .string rt]), (g12, 29, [.slice ta y.label.length tc, .slice oa y.own.length oc, .string y.text, .slice ba y.objects.length bc, .slice (some ⟨b2, o2, none⟩) y.mails.length mc]), (g14, 45, [.int .i64 p, .int .i64 mt, .slice la2 ml.length lc2, .slice ga2 mg.length gc2, .string mx])]) (st.drew) (by decide +kernel) ?_
      refine detS 0 rfl ?_
      refine detT 1 rfl (fun W hW => St.run_load hW 6 3 _ rfl Try.isAgg3 rfl rfl rfl) ?_
      refine detS 2 rfl ?_; refine detS 3 rfl ?_
      refine detT (v := .pointer (some ⟨gC, p * 16, none⟩)) 4 rfl (fun W hW => by (first | (go_simp; done) | (go_simp; omega) | (go_simp; intro h; omega))) ?_
      refine detT (v := .pointer (some ⟨gC, p * 16 + h * 4, none⟩)) 5 rfl (fun W hW => by (first | (go_simp; done) | (go_simp; omega) | (go_simp; intro h; omega))) ?_
      refine detT (v := .pointer (some ⟨gC, p * 16 + h * 4 + t, none⟩)) 6 rfl (fun W hW => by (first | (go_simp; done) | (go_simp; omega) | (go_simp; intro h; omega))) ?_
      refine detT 7 rfl (fun U hU => St.run_load hU 1 3 _ rfl Try.isAgg3 rfl rfl HVn.out) ?_
      refine detS 8 rfl ?_
      refine detT 9 rfl (fun W hW => St.run_load hW 6 3 _ rfl Try.isAgg3 rfl rfl rfl) ?_
      refine detS 10 rfl ?_; refine detS 11 rfl ?_
      refine detT (v := .pointer (some ⟨gS, p * 16, none⟩)) 12 rfl (fun W hW => by (first | (go_simp; done) | (go_simp; omega) | (go_simp; intro h; omega))) ?_
      refine detT (v := .pointer (some ⟨gS, p * 16 + h * 4, none⟩)) 13 rfl (fun W hW => by (first | (go_simp; done) | (go_simp; omega) | (go_simp; intro h; omega))) ?_
      refine detT (v := .pointer (some ⟨gS, p * 16 + h * 4 + t, none⟩)) 14 rfl (fun W hW => by (first | (go_simp; done) | (go_simp; omega) | (go_simp; intro h; omega))) ?_
      refine detT 15 rfl (fun U hU => St.run_load hU 0 3 _ rfl Try.isAgg3 rfl rfl HVs.out) ?_
      refine detT (v := .bool false) 16 rfl (fun W hW => by (go_simp; done)) ?_
      refine det_done (by decide +kernel) ?_
      clear st
      intro U9 st
      go_upto_region 18 with (first | go_skip | fail)
      try simp only [kP, kA, kS, kZ]
      have hI := st.drew
      clear st
      have st := hI
      refine lex_tail (by kernel_rfl) 7 1 [7] rfl (by decide +kernel) (fun U => St [gS, gC, gW] W U [(gS, 51, iv (ss')), (gC, 51, iv (cs.set (p * 16 + h * 4 + t) ((c : Int) + 1))), (gW, 50, iv (mixL (mailsN C) (mailsN C') (h * 4 + t))), (g7, 38, [.int .i64 ak, .int .i64 ah, .int .i64 at', .int .i64 an, .int .i64 ck, .int .i64 ch, .int .i64 ct, .int .i64 cn, .int .i64 cc, .slice la cl.length lc, .slice ga cg.length gx, .string cx]), (g8, 41, [.int .i64 rc, .int .i64 rn, .string rt]), (g12, 29, [.slice ta y.label.length tc, .slice oa y.own.length oc, .string y.text, .slice ba y.objects.length bc, .slice (some ⟨b2, o2, none⟩) y.mails.length mc]), (g14, 45, [.int .i64 p, .int .i64 mt, .slice la2 ml.length lc2, .slice ga2 mg.length gc2, .string mx])]) ?_
      refine lexS 0 rfl hI ?_
      refine lexS 1 rfl hI ?_
      refine lexS 2 rfl hI ?_
      refine lexT 3 rfl hI (fun W hW => St.run_load hW 5 27 _ rfl Try.isAgg27 rfl rfl rfl) ?_
      refine lexS 4 rfl hI ?_
      refine lexT (v := .pointer (some ⟨gW, h * 4, none⟩)) 5 rfl hI (fun W hW => by (first | (go_simp; done) | (go_simp; omega) | (go_simp; intro h; omega))) ?_
      refine lexT (v := .pointer (some ⟨gW, h * 4 + t, none⟩)) 6 rfl hI (fun W hW => by (first | (go_simp; done) | (go_simp; omega) | (go_simp; intro h; omega))) ?_
      clear hI
      refine lex_done (by decide +kernel) ?_
      refine tail_last 7 rfl (by first | exact wanted_none rfl | exact wanted_some rfl rfl) (by decide +kernel) (by decide +kernel) fun K hK => ?_
      refine wp_store st 3 _ _ rfl gW (h * 4 + t) rfl (.int .i64 (y.mails.length : Int)) rfl [.int .i64 (y.mails.length : Int)] rfl Try.sizeOf3 (by simp [Value.oneCell']) 2 _ _ rfl (by rw [iv_len, mixL_len (by rw [mailsN_len, mailsN_len]), mailsN_len]; simp only [List.length_cons, List.length_nil]; omega) ?_
      clear st
      intro w20 st hw20m hw20z
      rw [iv_put, HMX.out] at st
      refine hK _ _ ?_; clear hK
      simp only [List.set_cons_succ, List.set_cons_zero] at st
      have st3 := st.take 5
      simp only [List.take_succ_cons, List.take_zero] at st3
      clear st
      go_wp2_with (first | go_skip | fail)
      go_roundw
      case rel => exact ⟨t + 1, by omega, by go_num, by rw [← Nat.add_assoc, HB1.out]; exact st3⟩
      case measure => simp [intOf]; omega
     ·have d3 : decide ((x.mails.length : Int) < (y.mails.length : Int)) = false := by simp; omega
      have d3n : decide (x.mails.length < y.mails.length) = false := by simp; omega
      have HBP := Lib.hid (bumpK_pass (cs := cs) ht4 HEL.out hnev)
      have d3p : ¬ x.mails.length < y.mails.length := by omega
      clear hle hnev hT hT2 hb3
      go_wp2_with (first | go_skip | ((with_reducible refine at_load 3 ?_); refine mem_load' st 3 _ rfl (wanted_none rfl) Try.isAgg3 ?_; refine ⟨2, _, _, _, _, _, rfl, rfl, HW0.out, ?_⟩))
      try simp only [kP, kA, kS, kZ]
      have hI := st.drew
      clear st
      have st := hI
      refine lex_tail (by kernel_rfl) 7 1 [7] rfl (by decide +kernel) (fun U => St [gS, gC, gW] W U [(gS, 51, iv (ss')), (gC, 51, iv (bumpK cs ev (h * 4 + t))), (gW, 50, iv (mixL (mailsN C) (mailsN C') (h * 4 + t))), (g7, 38, [.int .i64 ak, .int .i64 ah, .int .i64 at', .int .i64 an, .int .i64 ck, .int .i64 ch, .int .i64 ct, .int .i64 cn, .int .i64 cc, .slice la cl.length lc, .slice ga cg.length gx, .string cx]), (g8, 41, [.int .i64 rc, .int .i64 rn, .string rt]), (g12, 29, [.slice ta y.label.length tc, .slice oa y.own.length oc, .string y.text, .slice ba y.objects.length bc, .slice ma y.mails.length mc])]) ?_
      refine lexS 0 rfl hI ?_
      refine lexS 1 rfl hI ?_
      refine lexS 2 rfl hI ?_
      refine lexT 3 rfl hI (fun W hW => St.run_load hW 5 27 _ rfl Try.isAgg27 rfl rfl rfl) ?_
      refine lexS 4 rfl hI ?_
      refine lexT (v := .pointer (some ⟨gW, h * 4, none⟩)) 5 rfl hI (fun W hW => by (first | (go_simp; done) | (go_simp; omega) | (go_simp; intro h; omega))) ?_
      refine lexT (v := .pointer (some ⟨gW, h * 4 + t, none⟩)) 6 rfl hI (fun W hW => by (first | (go_simp; done) | (go_simp; omega) | (go_simp; intro h; omega))) ?_
      clear hI
      refine lex_done (by decide +kernel) ?_
      refine tail_last 7 rfl (by first | exact wanted_none rfl | exact wanted_some rfl rfl) (by decide +kernel) (by decide +kernel) fun K hK => ?_
      refine wp_store st 3 _ _ rfl gW (h * 4 + t) rfl (.int .i64 (y.mails.length : Int)) rfl [.int .i64 (y.mails.length : Int)] rfl Try.sizeOf3 (by simp [Value.oneCell']) 2 _ _ rfl (by rw [iv_len, mixL_len (by rw [mailsN_len, mailsN_len]), mailsN_len]; simp only [List.length_cons, List.length_nil]; omega) ?_
      clear st
      intro w20 st hw20m hw20z
      rw [iv_put, HMX.out] at st
      refine hK _ _ ?_; clear hK
      simp only [List.set_cons_succ, List.set_cons_zero] at st
      have st3 := st.take 5
      simp only [List.take_succ_cons, List.take_zero] at st3
      clear st
      go_wp2_with (first | go_skip | fail)
      go_roundw
      case rel => exact ⟨t + 1, by omega, by go_num, by rw [← Nat.add_assoc, HBP.out]; exact st3⟩
      case measure => simp [intOf]; omega
end Go.Proofs.Ytflfjpopfapogaa
