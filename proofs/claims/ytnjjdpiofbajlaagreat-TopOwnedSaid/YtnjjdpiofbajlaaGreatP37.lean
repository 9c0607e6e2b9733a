/- Walks and plain laws that the claim rests on, part 37. -/
import Derived.Test.YtnjjdpiofbajlaaGreatP33
import Derived.Test.YtnjjdpiofbajlaaGreatP29
import Derived.Test.YtnjjdpiofbajlaaGreatP35
import Derived.Test.YtnjjdpiofbajlaaGreatP34
set_option linter.unusedSimpArgs false
set_option linter.unusedVariables false
namespace Go.Proofs.YtnjjdpiofbajlaaGreat
structure FramesI (Φ : Frame → Prop) (C : Clu) : Prop where
 sent : ∀ L ∈ C.lines, ∀ s ∈ L.sent, Φ s.frame
 net : ∀ s ∈ C.net, ∀ f, decR s.data.toList = (f, 0) → Φ f
def outF (C : Clu) (a : Deed) (seq : Int) : Frame := { mailF a.h a.call.h a.call.t (letterM (C.ker a.h) a.t a.call) (showL (C.cert a.h) (letterM (C.ker a.h) a.t a.call)) with seq := seq }
section
variable {C : Clu} {Φ : Frame → Prop}
theorem FramesI.same (h : FramesI Φ C) {C' : Clu} (hl : C'.lines = C.lines) (hn : ∀ s ∈ C'.net, s ∈ C.net) : FramesI Φ C' := ⟨fun L hL => h.sent L (hl ▸ hL), fun s hs => h.net s (hn s hs)⟩
theorem FramesI.push (h : FramesI Φ C) {f : Frame} (hf : Φ f) : FramesI Φ (pushC C f) := by
 refine ⟨fun L hL => h.sent L (by rw [(pushC_same C f).2.2.2.1] at hL; exact hL), fun s hs => ?_⟩
 unfold pushC at hs
 split at hs
 ·rename_i hc
  obtain ⟨hg, he⟩ := encR_good hc.1
  rcases List.mem_append.1 hs with hs | hs
  ·exact h.net s hs
  ·simp only [List.mem_singleton] at hs
   intro f' hf'
   rw [hs, he] at hf'
   rw [show (⟨(encL f).toArray⟩ : ByteArray).data.toList = encL f from by simp, dec_enc hg] at hf'
   cases hf'
   exact hf
 ·exact h.net s hs
theorem FramesI.pushAll (fs : List Frame) : ∀ {C : Clu}, FramesI Φ C → (∀ f ∈ fs, Φ f) → FramesI Φ (Proofs.YtnjjdpiofbajlaaGreat.pushAll C fs) := by
 induction fs with
 | nil => exact fun h _ => h
 | cons f fs ih => exact fun h hf => ih (h.push (hf f (by simp))) fun g hg => hf g (by simp [hg])
theorem FramesI.setLineN (h : FramesI Φ C) {i : Nat} {L : Line} (hL : ∀ s ∈ L.sent, Φ s.frame) : FramesI Φ { C with lines := C.lines.set i L } :=
 ⟨fun L' hL' => by
  rcases List.mem_or_eq_of_mem_set hL' with hL' | rfl
  ·exact h.sent L' hL'
  ·exact hL, h.net⟩
theorem FramesI.line (h : FramesI Φ C) (hok : C.ok) {u v : Int} (hu : four u = true) (hv : four v = true) : lineOk (C.line u v) = true ∧ ∀ s ∈ (C.line u v).sent, Φ s.frame := by
 obtain ⟨n, rfl, hn⟩ := four_nat hu
 obtain ⟨m, rfl, hm⟩ := four_nat hv
 obtain ⟨L, eL, e3, hL, -⟩ := hok.lineAt hn hm
 rw [e3]
 exact ⟨hL, h.sent L (List.mem_of_getElem? eL)⟩
theorem FramesI.tick : ∀ (n i : Nat) {C : Clu}, C.ok → i + n ≤ 16 → FramesI Φ C → FramesI Φ (tickAll n i C).1
 | 0, _, _, _, _, h => h
 | n + 1, i, C, hok, hi, h => by
  obtain ⟨L, e⟩ : ∃ L, C.lines[i]? = some L := ⟨_, List.getElem?_eq_getElem (by rw [hok.lineN]; omega)⟩
  have hl := hok.line _ (List.mem_of_getElem? e)
  unfold tickAll
  dsimp only
  rw [getD_at e]
  obtain ⟨q1, q2, q3, q4⟩ := againLn_ok hl.1 hok.now.1 hok.now.2
  have hok1 := hok.setLineN (i := i) q1 fun s hs => by
   obtain ⟨s', hs', e'⟩ := q2 s hs
   rw [e']; exact hl.2 s' hs'
  have hsent := h.sent L (List.mem_of_getElem? e)
  have hN := h.setLineN (i := i) (L := (againLn L C.now).1) fun s hs => by
   obtain ⟨s', hs', e'⟩ := q2 s hs
   rw [e']; exact hsent s' hs'
  exact FramesI.tick n (i + 1) (Clu.ok.pushAll _ hok1) (by omega) (hN.pushAll _ fun f hf => by
   obtain ⟨s, hs, e'⟩ := q3 f hf
   rw [e']; exact hsent s hs)
theorem FramesI.come (h : FramesI Φ C) (hok : C.ok) (hA : ∀ f, Φ (ackOf f)) {f : Frame} (hg : goodFrameC f = 0) : FramesI Φ (comeF C f) := by
 obtain ⟨g1, g2, -, -, -, -⟩ := goodF_facts hg
 unfold comeF
 split
 ·obtain ⟨q1, q2⟩ := h.line hok g2 g1
  exact h.setLineN fun s hs => q2 s ((answLn_ok q1 f.seq).2 s hs)
 ·obtain ⟨q1, q2⟩ := h.line hok g1 g2
  have h1 : FramesI Φ (C.setLine f.src f.dst (tookLn (C.line f.src f.dst) f.seq).1) := h.setLineN fun s hs => q2 s hs
  split
  ·have h2 := h1.push (hA f)
   unfold tookC
   split
   ·exact h2.same rfl fun _ h => h
   ·exact h2.same rfl fun _ h => h
  ·split
   ·exact h1.push (hA f)
   ·exact h1
theorem doC_frames (hok : C.ok) (h : FramesI Φ C) (hA : ∀ f, Φ (ackOf f)) (a : Deed) (hs : ∀ seq, four a.h = true → four a.t = true → (letterK (C.ker a.h) a.t a.call).2 = 0 → Φ (outF C a seq)) : FramesI Φ (doC C a).1 := by
 have hok1 : ({ C with acts := C.acts + 1 } : Clu).ok ∨ 300 ≤ C.acts := by
  by_cases h3 : 300 ≤ C.acts
  ·exact .inr h3
  ·exact .inl ⟨hok.now, hok.kerN, hok.ker, hok.certN, hok.cert, hok.lineN, hok.line, hok.netN, hok.net, by have := hok.acts; simp only; omega⟩
 unfold doC
 split
 ·exact h
 rename_i c0
 have hok1 := hok1.resolve_right c0
 have h1 : FramesI Φ { C with acts := C.acts + 1 } := h.same rfl fun _ h => h
 unfold actC
 split
 ·split
  ·exact h1
  rename_i hf
  have a4 : four a.h = true := by simpa using (not_or.1 hf).1
  have b4 : four a.t = true := by simpa using (not_or.1 hf).2
  unfold callC
  split
  ·split
   ·exact h1
   split
   ·exact h1
   rename_i hx4
   have c4 : four a.call.h = true := by simpa using (not_or.1 hx4).1
   split
   ·exact h1
   rename_i hl
   have hl : (letterK (C.ker a.h) a.t a.call).2 = 0 := by
    have h0 : ¬ (letterK (C.ker a.h) a.t a.call).2 ≠ 0 := hl
    simpa using h0
   obtain ⟨-, q2, -, -, -⟩ := letterK_ok hl
   have hs' := fun seq => hs seq a4 b4 hl
   show FramesI Φ (sendC { C with acts := C.acts + 1 } a.h a.call.h a.call.t (letterK (C.ker a.h) a.t a.call).1).1
   rw [q2]
   unfold sendC
   split
   ·exact h1.same rfl fun _ h => h
   ·split
    ·exact h1
    ·split
     ·exact h1
     ·rename_i hk
      obtain ⟨q1, q3⟩ := h1.line hok1 a4 c4
      have hk' : (sentLn (Clu.line { C with acts := C.acts + 1 } a.h a.call.h) (mailF a.h a.call.h a.call.t (letterM (C.ker a.h) a.t a.call) (showL (Clu.cert { C with acts := C.acts + 1 } a.h) (letterM (C.ker a.h) a.t a.call))) C.now).2.2 = 0 := by
       have h0 : ¬ (sentLn (Clu.line { C with acts := C.acts + 1 } a.h a.call.h) (mailF a.h a.call.h a.call.t (letterM (C.ker a.h) a.t a.call) (showL (Clu.cert { C with acts := C.acts + 1 } a.h) (letterM (C.ker a.h) a.t a.call))) C.now).2.2 ≠ 0 := hk
       simpa using h0
      obtain ⟨r1, r2, r3⟩ := sentLn_ok (f := mailF a.h a.call.h a.call.t (letterM (C.ker a.h) a.t a.call) (showL (Clu.cert { C with acts := C.acts + 1 } a.h) (letterM (C.ker a.h) a.t a.call))) q1 hok.now.1 hok.now.2
      obtain ⟨r4, -⟩ := r3 hk'
      have hF : Φ (sentLn (Clu.line { C with acts := C.acts + 1 } a.h a.call.h) (mailF a.h a.call.h a.call.t (letterM (C.ker a.h) a.t a.call) (showL (Clu.cert { C with acts := C.acts + 1 } a.h) (letterM (C.ker a.h) a.t a.call))) C.now).2.1 := by
       rw [r4]; exact hs' _
      refine FramesI.push (h1.setLineN fun s hs => ?_) hF
      rcases r2 s hs with h2 | ⟨h2, -⟩
      ·exact q3 s h2
      ·rw [h2]; exact hF
  ·split
   ·split
    ·exact h1
    split
    ·exact h1
    split
    ·exact h1
    ·exact h1.same rfl fun _ h => h
   ·exact h1.same rfl fun _ h => h
 split
 ·split
  ·exact h1
  dsimp only
  have h2 : FramesI Φ (if a.kind = 3 then ({ C with acts := C.acts + 1 } : Clu) else { C with acts := C.acts + 1, net := C.net.eraseIdx a.n.toNat }) := by
   split
   ·exact h1
   ·exact h1.same rfl fun s hs => List.mem_of_mem_eraseIdx hs
  have hok2 : (if a.kind = 3 then ({ C with acts := C.acts + 1 } : Clu) else { C with acts := C.acts + 1, net := C.net.eraseIdx a.n.toNat }).ok := by
   split
   ·exact hok1
   ·exact ⟨hok1.now, hok1.kerN, hok1.ker, hok1.certN, hok1.cert, hok1.lineN, hok1.line, Nat.le_trans (List.length_eraseIdx_le _ _) hok1.netN, fun s hs => hok1.net s (List.mem_of_mem_eraseIdx hs), hok1.acts⟩
  split
  ·exact h2
  ·show FramesI Φ (comeC (if a.kind = 3 then ({ C with acts := C.acts + 1 } : Clu) else { C with acts := C.acts + 1, net := C.net.eraseIdx a.n.toNat }) (C.net.getD a.n.toNat ⟨#[]⟩))
   generalize (if a.kind = 3 then ({ C with acts := C.acts + 1 } : Clu) else { C with acts := C.acts + 1, net := C.net.eraseIdx a.n.toNat }) = D at h2 hok2
   unfold comeC
   split
   ·exact h2
   ·rename_i hd
    exact h2.come hok2 hA (decR_good (by simpa using hd))
 split
 ·generalize ({ C with acts := C.acts + 1 } : Clu) = C1 at hok1 h1
  unfold tickC
  split
  ·exact h1
  ·rename_i hn
   have hok2 : ({ C1 with now := C1.now + a.n } : Clu).ok := ⟨⟨by have := hok1.now; simp only; omega, by have := hok1.now; simp only; omega⟩, hok1.kerN, hok1.ker, hok1.certN, hok1.cert, hok1.lineN, hok1.line, hok1.netN, hok1.net, hok1.acts⟩
   have h2 : FramesI Φ { C1 with now := C1.now + a.n } := h1.same rfl fun _ h => h
   generalize ({ C1 with now := C1.now + a.n } : Clu) = D at hok2 h2
   have hT := FramesI.tick 16 0 hok2 (by omega) h2
   generalize tickAll 16 0 D = T at hT
   exact hT
 ·exact h1
theorem frames_new : FramesI Φ newC := ⟨fun L hL s hs => by
 simp only [newC] at hL
 rw [List.eq_of_mem_replicate hL] at hs
 simp [zeroL] at hs, fun s hs => by simp [newC] at hs⟩
end
def MailO (C : Clu) (m : Mail) : Prop := four m.host = true ∧ four m.thread = true ∧ ∀ g ∈ m.grants, g ∈ (C.thr m.host m.thread).own
def CertO (C : Clu) (x : Cert) : Prop := four x.by_ = true ∧ ∃ t : Nat, t < 4 ∧ x.c ∈ (C.thr x.by_ t).own
def FrO (C : Clu) (f : Frame) : Prop := f.ack = false → MailO C f.mail ∧ ∀ x ∈ f.certs, CertO C x
structure OwnI (C : Clu) : Prop where
 mail : ∀ h t : Nat, h < 4 → t < 4 → ∀ m ∈ (C.thr h t).mails, MailO C m
 cert : ∀ h : Nat, h < 4 → ∀ x ∈ C.cert h, CertO C x
 frames : FramesI (FrO C) C
theorem addAll_mem (cs : List Cert) : ∀ {l : List Cert} {x : Cert}, x ∈ addAll l cs → x ∈ l ∨ x ∈ cs := by
 induction cs with
 | nil => exact fun h => .inl h
 | cons c cs ih =>
  intro l x h
  rcases ih h with h | h
  ·unfold addOne at h
   split at h
   ·rename_i h0
    rcases (addC_ok h0).2.2.2.1 x h with h | rfl
    ·exact .inl h
    ·exact .inr (by simp)
   ·exact .inl h
  ·exact .inr (by simp [h])
section
variable {C : Clu}
theorem cert_set (hok : C.ok) {n : Int} (hn : four n = true) (l : List Cert) {h : Int} (h4 : four h = true) {x : Cert} (hx : x ∈ (C.setCert n l).cert h) : x ∈ C.cert h ∨ (x ∈ l ∧ h = n) := by
 obtain ⟨i, rfl, hi⟩ := four_nat hn
 obtain ⟨j, rfl, hj⟩ := four_nat h4
 unfold Clu.setCert Clu.cert at *
 simp only [Int.toNat_natCast, List.getD_eq_getElem?_getD] at *
 rw [List.getElem?_set] at hx
 by_cases e : i = j
 ·subst e
  rw [if_pos rfl, if_pos (by rw [hok.certN]; exact hi)] at hx
  exact .inr ⟨hx, rfl⟩
 ·rw [if_neg e] at hx; exact .inl hx
theorem doC_cert (hok : C.ok) (a : Deed) {h : Int} (h4 : four h = true) {x : Cert} (hx : x ∈ (doC C a).1.cert h) : x ∈ C.cert h ∨ (four a.h = true ∧ four a.t = true ∧ a.call.c ∈ (C.thr a.h a.t).own ∧ x.c = a.call.c ∧ x.by_ = a.h) ∨
  ∃ s f, s ∈ C.net ∧ decR s.data.toList = (f, 0) ∧ f.ack = false ∧ x ∈ f.certs := by
 have hok1 : ({ C with acts := C.acts + 1 } : Clu).ok ∨ 300 ≤ C.acts := by
  by_cases h3 : 300 ≤ C.acts
  ·exact .inr h3
  ·exact .inl ⟨hok.now, hok.kerN, hok.ker, hok.certN, hok.cert, hok.lineN, hok.line, hok.netN, hok.net, by have := hok.acts; simp only; omega⟩
 unfold doC at hx
 split at hx
 ·exact .inl hx
 rename_i c0
 have hok1 := hok1.resolve_right c0
 unfold actC at hx
 split at hx
 ·split at hx
  ·exact .inl hx
  rename_i hf
  have a4 : four a.h = true := by simpa using (not_or.1 hf).1
  have b4 : four a.t = true := by simpa using (not_or.1 hf).2
  unfold callC at hx
  split at hx
  ·split at hx
   ·exact .inl hx
   split at hx
   ·exact .inl hx
   split at hx
   ·exact .inl hx
   ·have hx' : x ∈ (sendC { C with acts := C.acts + 1 } a.h a.call.h a.call.t (letterK (C.ker a.h) a.t a.call).1).1.cert h := hx
    unfold sendC at hx'
    split at hx'
    ·exact .inl hx'
    ·split at hx'
     ·exact .inl hx'
     ·split at hx'
      ·exact .inl hx'
      ·rw [pushC_cert] at hx'; exact .inl hx'
  ·split at hx
   ·split at hx
    ·exact .inl hx
    split at hx
    ·exact .inl hx
    rename_i ho
    split at hx
    ·exact .inl hx
    ·rename_i hadd
     have hadd : (addC (C.cert a.h) ⟨a.call.c, a.h, a.call.h, a.call.n⟩).2 = 0 := by
      have h0 : ¬ (addC (C.cert a.h) ⟨a.call.c, a.h, a.call.h, a.call.n⟩).2 ≠ 0 := hadd
      simpa using h0
     rcases cert_set hok1 a4 _ h4 hx with h1 | ⟨h1, h2⟩
     ·exact .inl h1
     ·rcases (addC_ok hadd).2.2.2.1 x h1 with h3 | rfl
      ·rw [h2]; exact .inl h3
      ·have h0 : ¬ a.call.c ∉ (C.thr a.h a.t).own := ho
       exact .inr (.inl ⟨a4, b4, by simpa using h0, rfl, rfl⟩)
   ·exact .inl hx
 split at hx
 ·split at hx
  ·exact .inl hx
  rename_i hn
  dsimp only at hx
  obtain ⟨i, ei⟩ := Int.eq_ofNat_of_zero_le (show 0 ≤ a.n by omega)
  have hi : i < C.net.length := by simp only at hn; omega
  have hsm : C.net.getD a.n.toNat ⟨#[]⟩ ∈ C.net := by
   rw [ei, Int.toNat_natCast, List.getD_eq_getElem?_getD, List.getElem?_eq_getElem hi]
   exact List.getElem_mem _
  have hC4 : ∀ v, (if a.kind = 3 then ({ C with acts := C.acts + 1 } : Clu) else { C with acts := C.acts + 1, net := C.net.eraseIdx a.n.toNat }).cert v = C.cert v := fun v => by split <;> rfl
  have hok2 : (if a.kind = 3 then ({ C with acts := C.acts + 1 } : Clu) else { C with acts := C.acts + 1, net := C.net.eraseIdx a.n.toNat }).certs.length = 4 := by split <;> exact hok.certN
  split at hx
  ·rw [hC4] at hx; exact .inl hx
  ·have hx' : x ∈ (comeC (if a.kind = 3 then ({ C with acts := C.acts + 1 } : Clu) else { C with acts := C.acts + 1, net := C.net.eraseIdx a.n.toNat }) (C.net.getD a.n.toNat ⟨#[]⟩)).cert h := hx
   clear hx
   generalize C.net.getD a.n.toNat ⟨#[]⟩ = s at hsm hx'
   generalize (if a.kind = 3 then ({ C with acts := C.acts + 1 } : Clu) else { C with acts := C.acts + 1, net := C.net.eraseIdx a.n.toNat }) = D at hC4 hok2 hx'
   unfold comeC at hx'
   split at hx'
   ·rw [hC4] at hx'; exact .inl hx'
   rename_i hd
   have hd0 : decR s.data.toList = ((decR s.data.toList).1, 0) := by
    have : (decR s.data.toList).2 = 0 := by simpa using hd
    rw [← this]
   generalize (decR s.data.toList).1 = f at hd0 hx'
   obtain ⟨g1, g2, -, -, -, -⟩ := goodF_facts (dec_only hd0).2
   unfold comeF at hx'
   split at hx'
   ·have hx2 : x ∈ D.cert h := hx'
    rw [hC4] at hx2; exact .inl hx2
   rename_i hack
   have hack : f.ack = false := by simpa using hack
   split at hx'
   ·have hE2 : ∀ v, (pushC (D.setLine f.src f.dst (tookLn (D.line f.src f.dst) f.seq).1) (ackOf f)).cert v = C.cert v := fun v => by rw [← hC4 v, pushC_cert]; rfl
    have hE4 : (pushC (D.setLine f.src f.dst (tookLn (D.line f.src f.dst) f.seq).1) (ackOf f)).certs.length = 4 := by rw [(pushC_same _ _).2.2.1]; exact hok2
    generalize (pushC (D.setLine f.src f.dst (tookLn (D.line f.src f.dst) f.seq).1) (ackOf f)) = G at hE2 hE4 hx'
    have hx3 : x ∈ (G.setCert f.dst (addAll (C.cert f.dst) f.certs)).cert h := by
     unfold tookC at hx'
     rw [hE2] at hx'
     split at hx' <;> exact hx'
    have hq : x ∈ C.cert h ∨ (x ∈ addAll (C.cert f.dst) f.certs ∧ h = f.dst) := by
     obtain ⟨i, ei, hi⟩ := four_nat g2
     obtain ⟨j, ej, hj⟩ := four_nat h4
     rw [← hE2 h]
     subst ej
     rw [ei] at hx3 ⊢
     unfold Clu.setCert Clu.cert at hx3
     unfold Clu.cert
     simp only [Int.toNat_natCast, List.getD_eq_getElem?_getD] at hx3 ⊢
     rw [List.getElem?_set] at hx3
     by_cases e : i = j
     ·subst e
      rw [if_pos rfl, if_pos (by rw [hE4]; exact hi)] at hx3
      exact .inr ⟨hx3, rfl⟩
     ·rw [if_neg e] at hx3; exact .inl hx3
    rcases hq with h1 | ⟨h1, h2⟩
    ·exact .inl h1
    ·rcases addAll_mem _ h1 with h3 | h3
     ·rw [h2]; exact .inl h3
     ·exact .inr (.inr ⟨s, f, hsm, hd0, hack, h3⟩)
   ·split at hx'
    ·rw [pushC_cert] at hx'
     have hx2 : x ∈ D.cert h := hx'
     rw [hC4] at hx2; exact .inl hx2
    ·have hx2 : x ∈ D.cert h := hx'
     rw [hC4] at hx2; exact .inl hx2
 split at hx
 ·have : (tickC { C with acts := C.acts + 1 } a.n).1.cert h = C.cert h := by
   unfold Clu.cert; rw [(tickC_same (C := { C with acts := C.acts + 1 }) a.n).2.1]
  rw [this] at hx
  exact .inl hx
 ·exact .inl hx
theorem own_step (hok : C.ok) (h : OwnI C) (a : Deed) : OwnI (doC C a).1 := by
 have hle : ∀ u v, four u = true → four v = true → ∀ g ∈ (C.thr u v).own, g ∈ ((doC C a).1.thr u v).own := fun u v hu hv => (doC_grant hok a hu hv).old
 have hM : ∀ m, MailO C m → MailO (doC C a).1 m := fun m hm => ⟨hm.1, hm.2.1, fun g hg => hle _ _ hm.1 hm.2.1 g (hm.2.2 g hg)⟩
 have hCe : ∀ x, CertO C x → CertO (doC C a).1 x := fun x ⟨h1, t, h2, h3⟩ => ⟨h1, t, h2, hle _ _ h1 (four_n h2) _ h3⟩
 have hF : ∀ f, FrO C f → FrO (doC C a).1 f := fun f hf ha => ⟨hM _ (hf ha).1, fun x hx => hCe x ((hf ha).2 x hx)⟩
 have hlet : ∀ m, four a.h = true → four a.t = true → letterK (C.ker a.h) a.t a.call = (m, 0) → m = letterM (C.ker a.h) a.t a.call ∧ MailO C m := fun m a4 b4 hl => by
  have hl2 : (letterK (C.ker a.h) a.t a.call).2 = 0 := by rw [hl]
  obtain ⟨-, q2, -, q4, -⟩ := letterK_ok hl2
  rw [hl] at q2
  have hq : m = letterM (C.ker a.h) a.t a.call := q2
  obtain ⟨n, en, hn⟩ := four_nat a4
  obtain ⟨k, ek, e2, hk, hkh⟩ := hok.kerAt hn
  have hh : (C.ker a.h).host = a.h := by rw [en, e2, hkh]
  refine ⟨hq, ?_⟩
  rw [hq]
  unfold letterM MailO
  rw [hh]
  exact ⟨a4, b4, fun g hg => q4 g hg⟩
 refine ⟨fun u v hu hv m hm => ?_, fun u hu x hx => ?_, ?_⟩
 ·cases doC_thr hok a (four_n hu) (four_n hv) with
  | same e => rw [e] at hm; exact hM m (h.mail u v hu hv m hm)
  | call k1 ha q4 k6 k8 e hr =>
   obtain ⟨k, ek, e2, hk, hkh⟩ := hok.kerAt hu
   rw [e] at hm
   exact hM m (h.mail u v hu hv m ((stepC_eff (C.ker u) a.t (by rw [e2]; exact hk.four) a.call v (four_n hv)).mails m hm))
  | mail m' e hf hl hg hm' =>
   rw [e] at hm
   rcases List.mem_append.1 hm with hm | hm
   ·exact hM m (h.mail u v hu hv m hm)
   ·simp only [List.mem_singleton] at hm
    subst hm
    cases hm' with
    | here k1 k6 ha hh ht h4 hr hl =>
     rw [← ha] at hl
     exact hM m (hlet m (by rw [ha]; exact four_n hu) h4 hl).2
    | came s f k23 hs hd hack hh ht hm2 htk hmay hr =>
     rw [← hm2]
     exact hM _ (h.frames.net s (List.mem_of_getElem? hs) f hd hack).1
 ·rcases doC_cert hok a (four_n hu) hx with h1 | ⟨a4, b4, h1, h2, h3⟩ | ⟨s, f, hs, hd, hack, h1⟩
  ·exact hCe x (h.cert u hu x h1)
  ·refine hCe x ⟨by rw [h3]; exact a4, ?_⟩
   obtain ⟨n, en, hn⟩ := four_nat b4
   exact ⟨n, hn, by rw [h2, h3, ← en]; exact h1⟩
  ·exact hCe x ((h.frames.net s hs f hd hack).2 x h1)
 ·refine doC_frames hok ⟨fun L hL s hs => hF _ (h.frames.sent L hL s hs), fun s hs f hf => hF _ (h.frames.net s hs f hf)⟩ (fun f hf => by simp [ackOf] at hf) a fun seq a4 b4 hl _ => ?_
  obtain ⟨h1, h2⟩ := hlet (letterM (C.ker a.h) a.t a.call) a4 b4 (by rw [← (letterK_ok hl).2.1, ← hl])
  refine ⟨hM _ h2, fun x hx => hCe x ?_⟩
  obtain ⟨n, en, hn⟩ := four_nat a4
  have hx2 : x ∈ C.cert a.h := (List.mem_filter.1 (show x ∈ showL (C.cert a.h) (letterM (C.ker a.h) a.t a.call) from hx)).1
  rw [en] at hx2
  exact h.cert n hn x hx2
theorem own_new : OwnI newC := by
 refine ⟨fun u v hu hv m hm => ?_, fun u hu x hx => ?_, frames_new⟩
 ·have : newC.thr u v = zeroT := by
   unfold Clu.thr Clu.ker newC Ker.thr
   simp only [Int.toNat_natCast, List.getD_eq_getElem?_getD]
   match u, hu, v, hv with
   | 0, _, 0, _ => rfl
   | 0, _, 1, _ => rfl
   | 0, _, 2, _ => rfl
   | 0, _, 3, _ => rfl
   | 1, _, 0, _ => rfl
   | 1, _, 1, _ => rfl
   | 1, _, 2, _ => rfl
   | 1, _, 3, _ => rfl
   | 2, _, 0, _ => rfl
   | 2, _, 1, _ => rfl
   | 2, _, 2, _ => rfl
   | 2, _, 3, _ => rfl
   | 3, _, 0, _ => rfl
   | 3, _, 1, _ => rfl
   | 3, _, 2, _ => rfl
   | 3, _, 3, _ => rfl
  rw [this] at hm
  simp [zeroT] at hm
 ·have : newC.cert u = [] := by
   unfold Clu.cert newC
   simp only [Int.toNat_natCast, List.getD_eq_getElem?_getD]
   match u, hu with
   | 0, _ => rfl
   | 1, _ => rfl
   | 2, _ => rfl
   | 3, _ => rfl
  rw [this] at hx
  simp at hx
end
open Go.RowKit
theorem thrC2_at (C : Clu) {h t : Nat} (hh : h < 4) (ht : t < 4) : thrC2 C h t = C.thr h t := by
 unfold thrC2 thrOf
 rw [if_pos (four_n hh), if_pos (four_n ht)]
 rfl
theorem SlR.cert_cells {ok : Nat → Prop} {w : World} {a : Option Addr} {c : Nat} {xs : List Cert} (h : SlR ok w 4 RCert a c xs) (i : Nat) (hi : i < xs.length) :
  ∃ b o, a = some ⟨b, o, none⟩ ∧ b < w.heap.size ∧ ∀ (j : Nat) (v : Value), [Value.int .i64 xs[i].c, .int .i64 xs[i].by_, .int .i64 xs[i].host, .int .i64 xs[i].till][j]? = some v → w.cell? ⟨b, o + i * 4 + j, none⟩ = some v := by
 obtain ⟨b, o, cs, ha, _, hb, rfl, _, _, hc⟩ := h.2.2.2 i xs[i] (by simp [hi])
 exact ⟨b, o, ha, hb, hc⟩
def ownedBy (C : Clu) (by_ : Int) (c : Int) (t : Nat) : Bool := (List.range t).any fun i => inL (C.thr by_ i).own c
theorem ownedBy_succ (C : Clu) (b c : Int) (t : Nat) : ownedBy C b c (t + 1) = (ownedBy C b c t || inL (C.thr b t).own c) := by
 unfold ownedBy; rw [List.range_succ, List.any_append]; simp
theorem ownedBy_four {C : Clu} {x : Cert} (h : CertO C x) : ownedBy C x.by_ x.c 4 = true := by
 obtain ⟨-, t, ht, hx⟩ := h
 unfold ownedBy
 exact List.any_eq_true.2 ⟨t, List.mem_range.2 ht, (inL_iff _ _).2 hx⟩
set_option maxRecDepth 100000 in
set_option maxHeartbeats 8000000 in
theorem look_owned {w0 : World} {C' : Clu} (hO : OwnI C') (a : Deed) (r : Rep) (gc : Nat) (kg : List Nat) (W Wd : World) (D : Nat → Prop) (la : Option Addr) (lc : Nat) (ga : Option Addr) (gx : Nat)
  (P : Clus w0 [] [] (fun _ => False) Wd D gc kg C' W) :
  Calls Tryz.prog 10 #[.pointer (some ⟨gc, 0, none⟩), deedV a la lc ga gx, RepV r] W fun e W' => e = .returned (.bool true) ∧ Clus w0 [] [] (fun _ => False) W' (fun _ => False) gc kg C' W' := by
 have hokC' := P.okC
 have HY := Lib.hid (fun (h t : Nat) (hh : h < 4) (ht : t < 4) => (show (C'.thr h t).ok from by
  obtain ⟨k, ek, e2, hk, hkh⟩ := hokC'.kerAt hh
  unfold Clu.thr; rw [e2]; exact hk.at t))
 have HM := Lib.hid hO.mail
 have HC := Lib.hid hO.cert
 have st := St.start W
 unfold deedV RepV
 go_enter Tryz.func10, Tryz.ntmps10
 go_upto_region 1 with (first | go_skip | (with_reducible refine mB 32 st ?_; clear st; intro g4 w4 hg4 st) | (with_reducible refine mB 35 st ?_; clear st; intro g5 w5 hg5 st))
 try simp only [kP, kA, kS, kZ]
 have P0 := Lib.hid (P.below st.below).anyD
 clear st P hokC' hO
 generalize w5 = V0 at P0
 have HTA := Lib.hid (fun (V : World) (hV : Below V0.heap.size V0 V) (h t : Nat) (hh : h < 4) (ht : t < 4) => ((show ThreadPost V (thrC2 C' h t) = ThreadPost V (C'.thr h t) by rw [thrC2_at C' hh ht]) ▸ cluster_Thread (P0.out.below hV) h t))
 go_wp2_with (first | go_skip | fail)
 go_loopw [7] (fun v7 wr => ∃ h : Nat, h ≤ 4 ∧ v7 = .int .i64 h ∧ Below V0.heap.size V0 wr) (fun v7 _ => 4 - (intOf v7).toNat)
 case atStart => exact ⟨0, by omega, rfl, Below.refl _ _⟩
 case round =>
  obtain ⟨V9, rfl⟩ : ∃ V, V = wr := ⟨_, rfl⟩
  obtain ⟨h, hh, rfl, hB⟩ := hrel
  by_cases hh4 : h < 4
  case neg =>
   have d1 : decide ((h : Int) < 4) = false := by simp; omega
   have P1 := Lib.hid (P0.out.below hB)
   go_wp2_with (first | go_skip | fail)
   go_ret
   exact ⟨rfl, P1.out.anyD⟩
  have d1 : decide ((h : Int) < 4) = true := by simp; omega
  go_wp2_with (first | go_skip | fail)
  go_loopw [8] (fun v8 wr => ∃ t : Nat, t ≤ 4 ∧ v8 = .int .i64 t ∧ Below V0.heap.size V0 wr) (fun v8 _ => 4 - (intOf v8).toNat)
  case atStart => exact ⟨0, by omega, rfl, hB⟩
  case round =>
   clear hB
   obtain ⟨V8, rfl⟩ : ∃ V, V = wr := ⟨_, rfl⟩
   obtain ⟨t, ht, rfl, hB⟩ := hrel
   by_cases ht4 : t < 4
   case neg =>
    have d2 : decide ((t : Int) < 4) = false := by simp; omega
    have hce : certOf C' h = C'.cert h := by unfold certOf; rw [if_pos (four_n hh4)]
    have HCe := Lib.hid (show _ from hce ▸ cluster_Certs (P0.out.below hB) h)
    have hgc := Lib.hid (HC.out h hh4)
    generalize C'.cert h = ce at HCe hgc
    go_wp2_with (first
     | go_skip
     | (go_at_call 13; go_must (refine HCe.out.mono ?_; rintro e v1 ⟨ca, cc, rfl, hb1, hO⟩)))
    have HS := Lib.hid (hO.slr (ok := fun _ => True) fun _ _ => trivial)
    have hcl : ce.length ≤ 9223372036854775807 := by have h1 := HS.out.1; have h2 := HS.out.2.1; unfold maxLen at h2; omega
    have hB1 := hB.keep hb1
    clear hB hb1 hO HCe hce
    go_loopw [60] (fun v60 wr => ∃ k : Nat, k ≤ ce.length ∧ v60 = .int .i64 k ∧ Below v1.heap.size v1 wr) (fun v60 _ => ce.length - (intOf v60).toNat)
    case atStart => exact ⟨0, Nat.zero_le _, rfl, Below.refl _ _⟩
    case round =>
     obtain ⟨V7, rfl⟩ : ∃ V, V = wr := ⟨_, rfl⟩
     obtain ⟨k, hk, rfl, hB7⟩ := hrel
     by_cases hkl : k < ce.length
     case neg =>
      have d3 : decide ((k : Int) < (ce.length : Int)) = false := by simp; omega
      go_wp2_with (first | go_skip | fail)
      go_roundw
      case rel => exact ⟨h + 1, by omega, by go_num, hB1.keep hB7⟩
      case measure => simp [intOf] <;> omega
     have d3 : decide ((k : Int) < (ce.length : Int)) = true := by simp; omega
     obtain ⟨b2, o2, hna, hb2, hC2⟩ := (HS.out.below hB7).cert_cells k hkl
     have hcx := hgc.out _ (List.getElem_mem hkl)
     generalize ce[k] = x at hC2 hcx
     have h4x := ownedBy_four hcx
     obtain ⟨n, en, hn⟩ := four_nat hcx.1
     obtain ⟨xc, xb, xh, xt⟩ := x
     dsimp only at hC2 h4x en
     subst en
     have HC2 := Lib.hid hC2
     have H4 := Lib.hid h4x
     have st := St.start V7
     clear hC2 hcx h4x
     subst hna
     go_wp2_with (first
      | go_skip
      | ((with_reducible refine at_load 47 ?_); refine wpList_load_cells (wanted_none rfl) 47 _ rfl Tryz.isAgg47 _ Tryz.sizeOf47 b2 (o2 + k * 4) rfl [.int .i64 xc, .int .i64 n, .int .i64 xh, .int .i64 xt] rfl HC2.out ?_)
      | (with_reducible refine mA st Tryz.zeroValue47 ?_; clear st; intro g15 w11 hg15 st) | (with_reducible refine mS 0 st Tryz.sizeOf47 ?_; clear st; intro w12 st hw12m hw12z))
     go_loopw [16, 17] (fun v16 v17 wr => ∃ i : Nat, i ≤ 4 ∧ v17 = .int .i64 i ∧ v16 = .bool (ownedBy C' n xc i) ∧ St [] V7 wr [(g15, 47, [.int .i64 xc, .int .i64 n, .int .i64 xh, .int .i64 xt])]) (fun _ v17 _ => 4 - (intOf v17).toNat)
     case atStart => exact ⟨0, by omega, rfl, rfl, st⟩
     case round =>
      clear st
      obtain ⟨V6, rfl⟩ : ∃ V, V = wr := ⟨_, rfl⟩
      obtain ⟨i, hi, rfl, rfl, st⟩ := hrel
      by_cases hi4 : i < 4
      case neg =>
       have d4 : decide ((i : Int) < 4) = false := by simp; omega
       obtain rfl : i = 4 := by omega
       have h4 := H4.out
       rw [h4]
       go_wp2_with (first | go_skip | fail)
       go_roundw
       case rel => exact ⟨k + 1, hkl, by go_num, hB7.keep st.below⟩
       case measure => simp [intOf] <;> omega
      have d4 : decide ((i : Int) < 4) = true := by simp; omega
      have HSu := Lib.hid (ownedBy_succ C' n xc i)
      have hx := HY.out n i hn hi4
      have HTh := Lib.hid (fun (V : World) (hV : Below V7.heap.size V7 V) => HTA.out V (hB1.keep (hB7.keep hV)) n i hn hi4)
      generalize C'.thr n i = x at HSu hx HTh
      have hxl := hx.ownL
      generalize ownedBy C' n xc i = q at HSu
      go_upto_region 25 with (first | go_skip | fail)
      try simp only [kP, kA, kS, kZ]
      have hI := st.drew
      clear hx
      cases q with
      | true =>
       refine lex_region (by kernel_rfl) 13 rfl (fun U => St [] V7 U [(g15, 47, [.int .i64 xc, .int .i64 n, .int .i64 xh, .int .i64 xt])]) ?_
       refine lexS 0 rfl hI ?_
       refine lexS 1 rfl hI ?_
       refine lex_skip 2 rfl (by decide +kernel) (by simp [Region.wanted, yielded]) hI ?_; simp only [kP, kA, kS, kZ]
       refine lex_skip 3 rfl (by decide +kernel) (by simp [Region.wanted, yielded]) hI ?_; simp only [kP, kA, kS, kZ]
       refine lex_skip 4 rfl (by decide +kernel) (by simp [Region.wanted, yielded]) hI ?_; simp only [kP, kA, kS, kZ]
       refine lex_skip 5 rfl (by decide +kernel) (by simp [Region.wanted, yielded]) hI ?_; simp only [kP, kA, kS, kZ]
       refine lex_skip 6 rfl (by decide +kernel) (by simp [Region.wanted, yielded]) hI ?_; simp only [kP, kA, kS, kZ]
       refine lex_skip 7 rfl (by decide +kernel) (by simp [Region.wanted, yielded]) hI ?_; simp only [kP, kA, kS, kZ]
       refine lex_skip 8 rfl (by decide +kernel) (by simp [Region.wanted, yielded]) hI ?_; simp only [kP, kA, kS, kZ]
       refine lex_skip 9 rfl (by decide +kernel) (by simp [Region.wanted, yielded]) hI ?_; simp only [kP, kA, kS, kZ]
       refine lex_skip 10 rfl (by decide +kernel) (by simp [Region.wanted, yielded]) hI ?_; simp only [kP, kA, kS, kZ]
       refine lexS 11 rfl hI ?_
       refine lexS 12 rfl hI ?_
       clear st
       have st := hI
       clear hI
       refine lex_done (by decide +kernel) ?_
       go_wp2_with (first | go_skip | fail)
       go_roundw
       case rel => exact ⟨i + 1, by omega, by go_num, by rw [HSu.out]; rfl, st⟩
       case measure => simp [intOf] <;> omega
      | false =>
       refine lex_region (by kernel_rfl) 13 rfl (fun U => St [] V7 U [(g15, 47, [.int .i64 xc, .int .i64 n, .int .i64 xh, .int .i64 xt])]) ?_
       refine lexS 0 rfl hI ?_
       refine lexS 1 rfl hI ?_
       refine lexS 2 rfl hI ?_
       refine lexS 3 rfl hI ?_
       refine lexT 4 rfl hI (fun W hW => St.run_load hW 0 3 _ rfl Tryz.isAgg3 rfl rfl rfl) ?_
       refine lexS 5 rfl hI ?_
       refine lexS 8 rfl hI ?_
       refine lexT 9 rfl hI (fun W hW => St.run_load hW 0 3 _ rfl Tryz.isAgg3 rfl rfl rfl) ?_
       refine lexO 6 rfl fun K hK => ?_
       refine wp_callee (f := 11) (by first | (go_simp; done) | (go_simp; rfl)) ?_
       refine (HTh.out _ hI.below).mono ?_
       rintro e V5 ⟨ta, tc, oa, oc, ba, bc, ma, mc, rfl, hb5, hT⟩
       refine ⟨_, rfl, ?_⟩
       replace hI := hI.call hb5
       unfold thrV
       refine hK _ _ (hI) ?_; clear hK; simp only [kP, kA, kS, kZ]
       refine lexT 7 rfl hI (fun W hW => by rfl) ?_
       refine lexO 10 rfl fun K hK => ?_
       refine wp_callee (f := 12) (by first | (go_simp; done) | (go_simp; rfl)) ?_
       refine (top_in (fun _ => True) _ oa oc x.own xc (by omega) (hT.own.okay fun _ _ => trivial)).mono ?_
       rintro e V4 ⟨rfl, rfl⟩
       refine ⟨_, rfl, ?_⟩
       refine hK _ _ (hI) ?_; clear hK; simp only [kP, kA, kS, kZ]
       refine lexS 11 rfl hI ?_
       refine lexS 12 rfl hI ?_
       clear st
       have st := hI
       clear hI
       refine lex_done (by decide +kernel) ?_
       go_wp2_with (first | go_skip | fail)
       go_roundw
       case rel => exact ⟨i + 1, by omega, by go_num, by rw [HSu.out, Bool.false_or], st⟩
       case measure => simp [intOf] <;> omega
   have d2 : decide ((t : Int) < 4) = true := by simp; omega
   have HTh := Lib.hid (HTA.out V8 hB h t hh4 ht4)
   have hx := HY.out h t hh4 ht4
   have HMx := Lib.hid (HM.out h t hh4 ht4)
   generalize C'.thr h t = x at HTh hx HMx
   have e3 := hx.mailN
   have HMg := Lib.hid hx.mail
   have st := St.start V8
   clear hx
   go_wp2_with (first
    | go_skip
    | (go_at_call 11; go_must (refine HTh.out.mono ?_; rintro e v3 ⟨ta, tc, oa, oc, ba, bc, ma, mc, rfl, hb3, hT⟩; have hst := st.call hb3; clear st; have st := hst.rebase; simp only [List.map_nil] at st; unfold thrV))
    | (with_reducible refine mA st Tryz.zeroValue39 ?_; clear st; intro g9 w9 hg9 st) | (with_reducible refine mS 0 st Tryz.sizeOf39 ?_; clear st; intro w10 st hw10m hw10z) | (with_reducible refine mX st Tryz.isAgg37 ?_))
   have hB9 := hB.keep (hb3.keep st.below)
   have HT := Lib.hid (hT.below st.below)
   clear st hst hT HTh hb3
   go_loopw [33] (fun v33 wr => ∃ k : Nat, k ≤ x.mails.length ∧ v33 = .int .i64 k ∧ Below w10.heap.size w10 wr) (fun v33 _ => x.mails.length - (intOf v33).toNat)
   case atStart => exact ⟨0, Nat.zero_le _, rfl, Below.refl _ _⟩
   case round =>
    obtain ⟨V7, rfl⟩ : ∃ V, V = wr := ⟨_, rfl⟩
    obtain ⟨k, hk, rfl, hB7⟩ := hrel
    by_cases hkl : k < x.mails.length
    case neg =>
     have d3 : decide ((k : Int) < (x.mails.length : Int)) = false := by simp; omega
     go_wp2_with (first | go_skip | fail)
     go_roundw
     case rel => exact ⟨t + 1, by omega, by go_num, hB9.keep hB7⟩
     case measure => simp [intOf] <;> omega
    have d3 : decide ((k : Int) < (x.mails.length : Int)) = true := by simp; omega
    obtain ⟨b2, o2, la2, lc2, ga2, gc2, hna, -, hb2, hL2, hG2, hC2⟩ := (HT.out.below hB7).mails.mail_at k hkl
    have hgm := HMg.out _ (List.getElem_mem hkl)
    have hmo := HMx.out _ (List.getElem_mem hkl)
    generalize x.mails[k] = m at hL2 hG2 hC2 hgm hmo
    obtain ⟨mh, mt, ml, mg, mx⟩ := m
    obtain ⟨hgl1, hgl2, -⟩ := goodM_len hgm
    obtain ⟨m4, t4, hmo⟩ := hmo
    dsimp only at hgl1 hgl2 m4 t4 hmo hL2 hG2 hC2
    obtain ⟨n, rfl, hn⟩ := four_nat m4
    obtain ⟨s, rfl, hs⟩ := four_nat t4
    have HMo := Lib.hid hmo
    have HC2 := Lib.hid hC2
    have HG2 := Lib.hid (hG2.okay (ok' := fun _ => True) fun _ _ => trivial)
    have st := St.start V7
    clear hL2 hG2 hC2 hgm hmo m4 t4
    subst hna
    go_wp2_with (first
     | go_skip
     | ((with_reducible refine at_load 42 ?_); refine wpList_load_cells (wanted_none rfl) 42 _ rfl Tryz.isAgg42 _ Tryz.sizeOf42 b2 (o2 + k * 5) rfl [.int .i64 n, .int .i64 s, .slice la2 ml.length lc2, .slice ga2 mg.length gc2, .string mx] rfl HC2.out ?_)
     | (with_reducible refine mA st Tryz.zeroValue42 ?_; clear st; intro g11 w11 hg11 st) | (with_reducible refine mS 0 st Tryz.sizeOf42 ?_; clear st; intro w12 st hw12m hw12z) | (with_reducible refine mX st Tryz.isAgg28 ?_))
    go_loopw [40] (fun v40 wr => ∃ j : Nat, j ≤ mg.length ∧ v40 = .int .i64 j ∧ St [] V7 wr [(g11, 42, [.int .i64 n, .int .i64 s, .slice la2 ml.length lc2, .slice ga2 mg.length gc2, .string mx])]) (fun v40 _ => mg.length - (intOf v40).toNat)
    case atStart => exact ⟨0, Nat.zero_le _, rfl, st⟩
    case round =>
     clear st
     obtain ⟨V6, rfl⟩ : ∃ V, V = wr := ⟨_, rfl⟩
     obtain ⟨j, hj, rfl, st⟩ := hrel
     by_cases hjl : j < mg.length
     case neg =>
      have d4 : decide ((j : Int) < (mg.length : Int)) = false := by simp; omega
      go_wp2_with (first | go_skip | fail)
      go_roundw
      case rel => exact ⟨k + 1, hkl, by go_num, hB7.keep st.below⟩
      case measure => simp [intOf] <;> omega
     have d4 : decide ((j : Int) < (mg.length : Int)) = true := by simp; omega
     obtain ⟨b3, o3, e3', hb3', hc3⟩ := (HG2.out.below st.below).int_at j hjl
     have hin := (inL_iff _ _).2 (HMo.out _ (List.getElem_mem hjl))
     generalize mg[j] = g at hc3 hin
     have hy := (HY.out n s hn hs).ownL
     have HTh := Lib.hid (HTA.out V6 (hB9.keep (hB7.keep st.below)) n s hn hs)
     generalize C'.thr n s = y at hin hy HTh
     subst e3'
     go_wp2_with (first
      | go_skip | (with_reducible refine mX st Tryz.isAgg3 ?_)
      | (go_at_call 11; go_must (refine HTh.out.mono ?_; rintro e v4 ⟨ta4, tc4, oa4, oc4, ba4, bc4, ma4, mc4, rfl, hb4, hT4⟩; have HIn := top_in (fun _ => True) v4 oa4 oc4 y.own g (by omega) (hT4.own.okay fun _ _ => trivial); rw [hin] at HIn; replace st := st.call hb4; unfold thrV)))
     refine wp_value (v := .slice oa4 y.own.length oc4) (w' := v4) rfl ?_
     go_wp2_with (first | go_skip | (go_at_call 12; go_must (refine HIn.mono ?_; rintro e v5 ⟨rfl, rfl⟩)))
     go_roundw
     case rel => exact ⟨j + 1, hjl, by go_num, st⟩
     case measure => simp [intOf] <;> omega
end Go.Proofs.YtnjjdpiofbajlaaGreat
