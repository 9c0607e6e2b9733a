/- Walks and plain laws, part 26. -/
import Derived.Test.YtnjjdpiofbajlaaGreatP25
set_option linter.unusedSimpArgs false
set_option linter.unusedVariables false
set_option maxHeartbeats 16000000
set_option maxRecDepth 100000
namespace Go.Proofs.YtnjjdpiofbajlaaGreat
theorem getD_at {α : Type} {l : List α} {i : Nat} {d x : α} (h : l[i]? = some x) : l.getD i d = x := by
 rw [List.getD_eq_getElem?_getD, h]; rfl
theorem encR_good {f : Frame} (h : (encR f).2 = 0) : goodFrameC f = 0 ∧ (encR f).1 = ⟨(encL f).toArray⟩ := by
 unfold encR at h ⊢
 by_cases hg : goodFrameC f = 0
 ·rw [if_pos hg]; exact ⟨hg, rfl⟩
 ·rw [if_neg hg] at h; exact absurd h hg
section
variable {C : Clu}
theorem Clu.ok.kerAt (h : C.ok) {n : Nat} (hn : n < 4) : ∃ k, C.kers[n]? = some k ∧ C.ker n = k ∧ k.ok ∧ k.host = n := by
 have e : C.kers[n]? = some (C.kers[n]'(by rw [h.kerN]; exact hn)) := gEg _
 exact ⟨_, e, by unfold Clu.ker; rw [Int.toNat_natCast]; exact getD_at e, (h.ker n _ e).1, (h.ker n _ e).2⟩
theorem Clu.ok.certAt (h : C.ok) {n : Nat} (hn : n < 4) : ∃ l, C.certs[n]? = some l ∧ C.cert n = l ∧ goodCerts l = true := by
 have e : C.certs[n]? = some (C.certs[n]'(by rw [h.certN]; exact hn)) := gEg _
 exact ⟨_, e, by unfold Clu.cert; rw [Int.toNat_natCast]; exact getD_at e, h.cert _ (mgE e)⟩
theorem Clu.ok.lineAt (h : C.ok) {n m : Nat} (hn : n < 4) (hm : m < 4) : ∃ L, C.lines[n * 4 + m]? = some L ∧ C.line n m = L ∧ lineOk L = true ∧ ∀ s ∈ L.sent, goodFrameC s.frame = 0 := by
 have e : C.lines[n * 4 + m]? = some (C.lines[n * 4 + m]'(by rw [h.lineN]; omega)) := gEg _
 exact ⟨_, e, by unfold Clu.line Proofs.YtnjjdpiofbajlaaGreat.lineAt; rw [Int.toNat_natCast, Int.toNat_natCast]; exact getD_at e, h.line _ (mgE e)⟩
theorem Clu.ok.setKer (h : C.ok) {n : Nat} {k : Ker} (hk : k.ok) (hh : k.host = n) : (C.setKer n k).ok :=
 ⟨h.now, by simp [Clu.setKer, h.kerN], fun i k' e => by
  unfold Clu.setKer at e
  simp only [Int.toNat_natCast] at e
  rw [List.getElem?_set] at e
  split at e
  ·rename_i hi
   subst hi
   split at e
   ·cases e; exact ⟨hk, hh⟩
   ·cases e
  ·exact h.ker i k' e, h.certN, h.cert, h.lineN, h.line, h.netN, h.net, h.acts⟩
theorem Clu.ok.setCert (h : C.ok) {n : Int} {l : List Cert} (hl : goodCerts l = true) : (C.setCert n l).ok :=
 ⟨h.now, h.kerN, h.ker, by simp [Clu.setCert, h.certN], fun l' hm => by
  rcases List.mem_or_eq_of_mem_set hm with hm | rfl
  ·exact h.cert l' hm
  ·exact hl, h.lineN, h.line, h.netN, h.net, h.acts⟩
theorem Clu.ok.setLineN (h : C.ok) {i : Nat} {L : Line} (hL : lineOk L = true) (hs : ∀ s ∈ L.sent, goodFrameC s.frame = 0) : ({ C with lines := C.lines.set i L } : Clu).ok :=
 ⟨h.now, h.kerN, h.ker, h.certN, h.cert, by simp [h.lineN], fun L' hm => by
  rcases List.mem_or_eq_of_mem_set hm with hm | rfl
  ·exact h.line L' hm
  ·exact ⟨hL, hs⟩, h.netN, h.net, h.acts⟩
theorem Clu.ok.setLine (h : C.ok) {n m : Int} {L : Line} (hL : lineOk L = true) (hs : ∀ s ∈ L.sent, goodFrameC s.frame = 0) : (C.setLine n m L).ok := h.setLineN hL hs
theorem Clu.ok.push (h : C.ok) (f : Frame) : (pushC C f).ok := by
 unfold pushC
 split
 ·rename_i h1
  obtain ⟨hg, he⟩ := encR_good h1.1
  refine ⟨h.now, h.kerN, h.ker, h.certN, h.cert, h.lineN, h.line, by simp; omega, fun s hs => ?_, h.acts⟩
  rcases List.mem_append.1 hs with hs | hs
  ·exact h.net s hs
  ·simp only [List.mem_singleton] at hs
   subst hs
   exact ⟨f, hg, he⟩
 ·exact h
theorem pushC_same (C : Clu) (f : Frame) : (pushC C f).now = C.now ∧ (pushC C f).kers = C.kers ∧ (pushC C f).certs = C.certs ∧ (pushC C f).lines = C.lines ∧ (pushC C f).acts = C.acts := by
 unfold pushC; split <;> exact ⟨rfl, rfl, rfl, rfl, rfl⟩
theorem pushAll_same (fs : List Frame) : ∀ C : Clu, (pushAll C fs).now = C.now ∧ (pushAll C fs).kers = C.kers ∧ (pushAll C fs).certs = C.certs ∧ (pushAll C fs).lines = C.lines ∧ (pushAll C fs).acts = C.acts := by
 induction fs with
 | nil => exact fun C => ⟨rfl, rfl, rfl, rfl, rfl⟩
 | cons f fs ih =>
  intro C
  obtain ⟨a1, a2, a3, a4, a5⟩ := ih (pushC C f)
  obtain ⟨b1, b2, b3, b4, b5⟩ := pushC_same C f
  exact ⟨a1.trans b1, a2.trans b2, a3.trans b3, a4.trans b4, a5.trans b5⟩
theorem Clu.ok.pushAll (fs : List Frame) : ∀ {C : Clu}, C.ok → (Proofs.YtnjjdpiofbajlaaGreat.pushAll C fs).ok := by
 induction fs with
 | nil => exact fun h => h
 | cons f fs ih => exact fun h => ih (h.push f)
theorem deliverK_host (k : Ker) (t : Int) (m : Mail) : (deliverK k t m).host = k.host := by
 unfold deliverK
 split
 ·rfl
 ·split
  ·rfl
  ·split <;> rfl
theorem stepC_host (k : Ker) (t : Int) (c : Req) : (stepC k t c).1.host = k.host := by
 unfold stepC
 split
 ·rfl
 ·split
  ·rfl
  ·unfold callK
   dsimp only
   repeat' split
   all_goals rfl
theorem letterK_ok {k : Ker} {t : Int} {x : Req} (h : (letterK k t x).2 = 0) : four t = true ∧ (letterK k t x).1 = letterM k t x ∧ goodMailC (letterM k t x) = 0 ∧ (∀ g ∈ x.grants, g ∈ (k.thr t).own) ∧ flowsL (k.thr t).label x.label (k.thr t).own = true := by
 unfold letterK at h ⊢
 split at h
 ·simp at h
 ·rename_i h4
  rw [if_neg h4]
  split at h
  ·rename_i hg; exact absurd h hg
  ·rename_i hg
   rw [if_neg hg]
   split at h
   ·simp at h
   ·rename_i ho
    rw [if_neg ho]
    split at h
    ·simp at h
    ·rename_i hf
     rw [if_neg hf]
     exact ⟨by simpa using h4, rfl, by simpa using hg, by simpa using ho, by simpa using hf⟩
theorem showL_good {l : List Cert} (h : goodCerts l = true) (m : Mail) : (showL l m).all goodCertB = true ∧ (showL l m).length ≤ 24 := by
 obtain ⟨h1, h2, h3⟩ := (goodCerts_iff l).1 h
 refine ⟨List.all_eq_true.2 fun x hx => h1 x (List.mem_filter.1 hx).1, Nat.le_trans (List.length_filter_le _ _) h3⟩
theorem mailF_good {h v t n : Int} {m : Mail} {cs : List Cert} (hh : four h = true) (hv : four v = true) (hne : h ≠ v) (ht : four t = true) (hn : 1 ≤ n ∧ n ≤ 1099511627776) (hm : goodMailC m = 0) (hmh : m.host = h) (hc : cs.all goodCertB = true) (hl : cs.length ≤ 24) : goodFrameC { mailF h v t m cs with seq := n } = 0 := by
 unfold goodFrameC mailF frameRange certsC
 simp only [hh, hv, ht, Bool.true_and, Bool.and_true]
 rw [if_pos (by simp [hne]; omega)]
 simp [hm, hmh, hc]
 omega
theorem sendC_ok (h : C.ok) {n : Nat} (hn : n < 4) {v t : Int} (hv : four v = true) (ht : four t = true) {m : Mail} (hm : goodMailC m = 0) (hmh : m.host = n) : (sendC C n v t m).1.ok := by
 unfold sendC
 obtain ⟨k, ek, e2, hk, hkh⟩ := h.kerAt hn
 split
 ·rw [e2]; exact h.setKer (deliverK_ok hk t m) (by rw [deliverK_host, hkh])
 ·rename_i hne
  split
  ·exact h
  ·split
   ·exact h
   ·rename_i h0
    obtain ⟨q, rfl, hq⟩ := four_nat hv
    obtain ⟨L, eL, e3, hL, hs⟩ := h.lineAt hn hq
    obtain ⟨l, el, e4, hl⟩ := h.certAt hn
    rw [e3, e4] at h0 ⊢
    obtain ⟨a1, a2, a3⟩ := sentLn_ok (f := mailF n q t m (showL l m)) hL h.now.1 h.now.2
    have h0' : (sentLn L (mailF n q t m (showL l m)) C.now).2.2 = 0 := by simpa using h0
    obtain ⟨b1, b2⟩ := a3 h0'
    have hg := showL_good hl m
    have hnx := ((lineOk_iff L).1 hL).1.1
    have hgood : goodFrameC (sentLn L (mailF n q t m (showL l m)) C.now).2.1 = 0 := by
     rw [b1]
     exact mailF_good ((four_iff _).2 ⟨by omega, by omega⟩) hv hne ht ⟨by omega, by omega⟩ hm hmh hg.1 hg.2
    refine (h.setLine a1 fun s hs' => ?_).push _
    rcases a2 s hs' with h1 | ⟨h1, _⟩
    ·exact hs s h1
    ·rw [h1]; exact hgood
theorem goodF_facts {f : Frame} (h : goodFrameC f = 0) : four f.src = true ∧ four f.dst = true ∧ f.src ≠ f.dst ∧ (1 ≤ f.seq ∧ f.seq ≤ 1099511627776) ∧ four f.thread = true ∧ (f.ack = false → goodMailC f.mail = 0 ∧ f.mail.host = f.src ∧ f.certs.length ≤ 24 ∧ f.certs.all goodCertB = true) := by
 unfold goodFrameC at h
 split at h
 ·rename_i hr
  unfold frameRange at hr
  simp only [Bool.and_eq_true, bne_iff_ne, ne_eq, decide_eq_true_eq] at hr
  refine ⟨hr.1.1.1.1.1, hr.1.1.1.1.2, hr.1.1.1.2, ⟨hr.1.1.2, hr.1.2⟩, hr.2, fun ha => ?_⟩
  rw [if_neg (by simp [ha])] at h
  split at h
  ·rename_i hm; exact absurd h hm
  ·rename_i hm
   split at h
   ·simp at h
   ·rename_i hh
    split at h
    ·simp at h
    ·rename_i hl
     unfold certsC at h
     split at h
     ·rename_i hc; exact ⟨by simpa using hm, by simpa using hh, by omega, hc⟩
     ·simp at h
 ·simp at h
theorem tookC_ok (h : C.ok) {f : Frame} (hd : four f.dst = true) : (tookC C f).ok := by
 unfold tookC
 obtain ⟨n, e, hn⟩ := four_nat hd
 rw [e]
 obtain ⟨l, el, e4, hl⟩ := h.certAt hn
 obtain ⟨k, ek, e2, hk, hkh⟩ := h.kerAt hn
 have h1 := h.setCert (n := n) (addAll_ok f.certs (by rw [e4]; exact hl : goodCerts (C.cert n) = true))
 split
 ·rw [e2]
  exact h1.setKer (deliverK_ok hk _ _) (by rw [deliverK_host, hkh])
 ·exact h1
theorem comeF_ok (h : C.ok) {f : Frame} (hg : goodFrameC f = 0) : (comeF C f).ok := by
 obtain ⟨g1, g2, -, -, -, -⟩ := goodF_facts hg
 obtain ⟨n, en, hn⟩ := four_nat g1
 obtain ⟨m, em, hm⟩ := four_nat g2
 unfold comeF
 split
 ·obtain ⟨L, eL, e3, hL, hs⟩ := h.lineAt hm hn
  rw [en, em, e3]
  obtain ⟨q1, q2⟩ := answLn_ok hL f.seq
  exact h.setLine q1 fun s hs' => hs s (q2 s hs')
 ·obtain ⟨L, eL, e3, hL, hs⟩ := h.lineAt hn hm
  obtain ⟨q1, q2, _⟩ := tookLn_ok hL f.seq
  have h1 : (C.setLine f.src f.dst (tookLn (C.line f.src f.dst) f.seq).1).ok := by
   rw [en, em, e3]
   exact h.setLine q1 fun s hs' => hs s (by rw [q2] at hs'; exact hs')
  split
  ·exact tookC_ok (h1.push _) g2
  ·split
   ·exact h1.push _
   ·exact h1
theorem decR_good {s : List UInt8} (h : (decR s).2 = 0) : goodFrameC (decR s).1 = 0 := (dec_only (s := s) (f := (decR s).1) (by rw [← h])).2
theorem comeC_ok (h : C.ok) (s : ByteArray) : (comeC C s).ok := by
 unfold comeC
 split
 ·exact h
 ·rename_i h0
  exact comeF_ok h (decR_good (by simpa using h0))
theorem tickAll_ok : ∀ (n i : Nat) {C : Clu}, C.ok → i + n ≤ 16 → (tickAll n i C).1.ok ∧ (tickAll n i C).1.now = C.now ∧ (tickAll n i C).2 ≤ n * 8
 | 0, i, C, h, _ => ⟨h, rfl, Nat.le_refl _⟩
 | n + 1, i, C, h, hi => by
  obtain ⟨L, e⟩ : ∃ L, C.lines[i]? = some L := ⟨_, gEg (by rw [h.lineN]; omega)⟩
  have hl := h.line _ (mgE e)
  unfold tickAll
  rw [getD_at e]
  obtain ⟨q1, q2, q3, q4⟩ := againLn_ok hl.1 h.now.1 h.now.2
  have h1 := h.setLineN (i := i) q1 fun s hs => by
   obtain ⟨s', hs', e'⟩ := q2 s hs
   rw [e']; exact hl.2 s' hs'
  obtain ⟨r1, r2, r3⟩ := tickAll_ok n (i + 1) (Clu.ok.pushAll (againLn L C.now).2 h1) (by omega)
  refine ⟨r1, r2.trans (pushAll_same _ _).1, ?_⟩
  simp only
  omega
theorem tickC_ok (h : C.ok) (n : Int) : (tickC C n).1.ok := by
 unfold tickC
 split
 ·exact h
 ·rename_i hn
  have h2 : ({ C with now := C.now + n } : Clu).ok := ⟨⟨by have := h.now; simp only; omega, by have := h.now; simp only; omega⟩, h.kerN, h.ker, h.certN, h.cert, h.lineN, h.line, h.netN, h.net, h.acts⟩
  generalize ({ C with now := C.now + n } : Clu) = D at h2
  have h3 := tickAll_ok 16 0 h2 (Nat.le_refl _)
  generalize tickAll 16 0 D = r at h3
  exact h3.1
theorem callC_ok (h : C.ok) {n : Nat} (hn : n < 4) (t : Int) (x : Req) : (callC C n t x).1.ok := by
 obtain ⟨k, ek, e2, hk, hkh⟩ := h.kerAt hn
 unfold callC
 split
 ·split
  ·exact h
  ·split
   ·exact h
   ·rename_i h4
    split
    ·exact h
    ·rename_i h0
     obtain ⟨q1, q2, q3, _⟩ := letterK_ok (k := C.ker n) (t := t) (x := x) (by simpa using h0)
     rw [q2]
     exact sendC_ok h hn (by simpa using (not_or.1 h4).1) (by simpa using (not_or.1 h4).2) q3 (by rw [e2]; exact hkh)
 ·split
  ·split
   ·exact h
   ·split
    ·exact h
    ·split
     ·exact h
     ·rename_i h0
      exact h.setCert (addC_ok (by simpa using h0)).2.1
  ·rw [e2]
   exact h.setKer (stepC_ok hk t x) (by rw [stepC_host, hkh])
theorem actC_ok (h : C.ok) (a : Deed) : (actC C a).1.ok := by
 unfold actC
 split
 ·split
  ·exact h
  ·rename_i h4
   obtain ⟨n, e, hn⟩ := four_nat (by simpa using (not_or.1 h4).1 : four a.h = true)
   rw [e]
   exact callC_ok h hn a.t a.call
 ·split
  ·split
   ·exact h
   ·dsimp only
    have h1 : (if a.kind = 3 then C else { C with net := C.net.eraseIdx a.n.toNat } : Clu).ok := by
     split
     ·exact h
     ·exact ⟨h.now, h.kerN, h.ker, h.certN, h.cert, h.lineN, h.line, Nat.le_trans (List.length_eraseIdx_le _ _) h.netN, fun s hs => h.net s (List.mem_of_mem_eraseIdx hs), h.acts⟩
    split
    ·exact h1
    ·exact comeC_ok h1 _
  ·split
   ·exact tickC_ok h a.n
   ·exact h
theorem doC_ok (h : C.ok) (a : Deed) : (doC C a).1.ok := by
 unfold doC
 split
 ·exact h
 ·exact actC_ok (C := { C with acts := C.acts + 1 }) ⟨h.now, h.kerN, h.ker, h.certN, h.cert, h.lineN, h.line, h.netN, h.net, by have := h.acts; simp only; omega⟩ a
theorem zeroL_ok : lineOk zeroL = true := by decide +kernel
theorem newC_ok : newC.ok := by
 refine ⟨by decide, rfl, fun i k e => ?_, rfl, fun l hl => ?_, by simp [newC], fun L hL => ?_, by decide, by simp [newC], by decide⟩
 ·have hi := (gEs e).1
  match i, e with
  | 0, e => cases e; exact ⟨newK_ok (by decide) (by decide), rfl⟩
  | 1, e => cases e; exact ⟨newK_ok (by decide) (by decide), rfl⟩
  | 2, e => cases e; exact ⟨newK_ok (by decide) (by decide), rfl⟩
  | 3, e => cases e; exact ⟨newK_ok (by decide) (by decide), rfl⟩
  | i + 4, _ => simp [newC] at hi; omega
 ·simp [newC] at hl
  subst hl
  decide +kernel
 ·simp only [newC] at hL
  rw [List.eq_of_mem_replicate hL]
  exact ⟨zeroL_ok, by simp [zeroL]⟩
end
open Go.RowKit
theorem RowAt.window {e : TypeId} {w : World} {α : Type} {sz : Nat} {R : List Value → α → Prop} {g off c : Nat} {xs : List α} (h : RowAt e w sz R (some ⟨g, off, none⟩) c xs) {i : Nat} {x : α} (hx : xs[i]? = some x) :
  ∃ pre cs post, w.heap[g]? = some (.cells (winC pre cs post).toArray e (0, 0)) ∧ pre.length = off + i * sz ∧ R cs x ∧ cs.length = sz ∧ ∀ v ∈ cs, v.oneCell' = true := by
 rcases h.2.2 with ⟨h, _⟩ | ⟨g', off', cells, ha, hg, hle, hx2⟩
 ·cases h
 ·simp only [Option.some.injEq, Addr.mk.injEq, and_true] at ha
  obtain ⟨rfl, rfl⟩ := ha
  obtain ⟨cs, h3, h4, h5, h6⟩ := hx2 i x hx
  have hi := (gEs hx).1
  have hin : i * sz + sz ≤ c * sz := by
   have : (i + 1) * sz ≤ c * sz := Nat.mul_le_mul_right _ (by have := h.1; omega)
   rwa [Nat.succ_mul] at this
  have e : cells = winC (cells.take (off + i * sz)) cs (cells.drop (off + i * sz + sz)) := by
   refine List.ext_getElem? fun j => ?_
   unfold winC
   have hl : (cells.take (off + i * sz)).length = off + i * sz := by rw [List.length_take]; omega
   by_cases h1 : j < off + i * sz
   ·rw [List.getElem?_append_left (by omega), List.getElem?_take_of_lt h1]
   ·rw [List.getElem?_append_right (by omega), hl]
    by_cases h2 : j < off + i * sz + sz
    ·rw [List.getElem?_append_left (by omega)]
     have hj : j - (off + i * sz) < cs.length := by omega
     rw [gEg hj, ← h6 _ _ (gEg hj)]
     congr 1
     omega
    ·rw [List.getElem?_append_right (by omega), List.getElem?_drop, h4]
     congr 1
     omega
  exact ⟨_, cs, _, by rw [← e]; exact hg, by rw [List.length_take]; omega, h3, h4, h5⟩
theorem St.hand2 {w : World} {g gb : Nat} {T T2 : TypeId} {cs cs2 : List Value} (h : w.heap[g]? = some (.cells cs.toArray T (0, 0))) (h2 : w.heap[gb]? = some (.cells cs2.toArray T2 (0, 0))) (hne : g ≠ gb) : St [g, gb] w w [(g, T, cs), (gb, T2, cs2)] :=
 ⟨rfl, rfl, rfl, Nat.le_refl _, fun _ _ _ => rfl, fun x hx => by
  simp at hx
  rcases hx with rfl | rfl
  ·exact h
  ·exact h2, fun x hx => .inl (by
  simp at hx
  rcases hx with rfl | rfl <;> simp), by simp [hne]⟩
theorem St.drop2 {w0 w : World} {g gb : Nat} {own own' : Blks} {T2 : TypeId} {cs2 : List Value} (h : St [g, gb] w0 w own) (hm : (gb, T2, cs2) ∈ own) (h0 : w0.heap[gb]? = some (.cells cs2.toArray T2 (0, 0))) (hs : ∀ x ∈ own', x ∈ own ∧ x.1 ≠ gb) (hn : own'.Pairwise fun x y => x.1 ≠ y.1) : St [g] w0 w own' :=
 ⟨h.os, h.tape, h.output, h.size, fun b hb hmm => by
  by_cases e : b = gb
  ·subst e; rw [h.blk _ hm, h0]
  ·exact h.frame b hb (by simp at hmm ⊢; exact ⟨hmm, e⟩), fun x hx => h.blk x (hs x hx).1, fun x hx => (h.mine x (hs x hx).1).imp (fun hm => by
   have := (hs x hx).2
   simp at hm ⊢
   rcases hm with hm | hm
   ·exact hm
   ·exact absurd hm this) id, hn⟩
theorem KerAt.object {ok : Nat → Prop} {w : World} {g : Nat} {k : Ker} {css : List (List Value)} {Bs : List (List Nat)} (h : KerAt ok w g k css Bs) (t i : Int) :
  (k.obj t i = none ∧ ∀ W, Below w.heap.size w W → Calls Tryz.prog 71 #[.pointer (some ⟨g, 0, none⟩), .int .i64 t, .int .i64 i] W fun e w' => e = .returned (.pointer none) ∧ W = w') ∨
  ∃ (m j : Nat) (y : Thr) (ya : Option Addr) (yc : Nat) (oa : Option Addr) (oc gb off bc : Nat) (ma : Option Addr) (mc : Nat) (o : KObj), m < 4 ∧ t = m ∧ i = j ∧ k.threads[m]? = some y ∧ css[m]? = some (thrC y ya yc oa oc (some ⟨gb, off, none⟩) bc ma mc) ∧ Bs[m]? = some (rows2 (some ⟨gb, off, none⟩) ma) ∧ ThrR ok w y ya yc oa oc (some ⟨gb, off, none⟩) bc ma mc ∧ y.objects[j]? = some o ∧ k.obj t i = some o ∧
   ∀ W, Below w.heap.size w W → Calls Tryz.prog 71 #[.pointer (some ⟨g, 0, none⟩), .int .i64 t, .int .i64 i] W fun e w' => e = .returned (.pointer (some ⟨gb, off + j * 2, none⟩)) ∧ W = w' := by
 by_cases h4 : four t = true ∧ 0 ≤ i
 case neg =>
  refine .inl ⟨by unfold Ker.obj; rw [if_neg h4], fun W _ => kernel_object_far W g t i ?_⟩
  by_cases hf : four t = true
  ·by_cases hi : 0 ≤ i
   ·exact absurd ⟨hf, hi⟩ h4
   ·exact .inr (.inr (by omega))
  ·rcases four_no (by simpa using hf) with h | h
   ·exact .inl h
   ·exact .inr (.inl h.2)
 obtain ⟨m, rfl, hm⟩ := four_nat h4.1
 obtain ⟨j, rfl⟩ := Int.eq_ofNat_of_zero_le h4.2
 obtain ⟨y, ya, yc, oa, oc, ba, bc, ma, mc, ex, ec, eB, hT, hb⟩ := h.open hm
 have hpre := h.preLen hm
 have hgw := h.lt g (by simp)
 have hob : k.obj (m : Int) (j : Int) = y.objects[j]? := by
  unfold Ker.obj
  rw [if_pos h4, Ker.thr_at ex, Int.toNat_natCast]
 unfold thrC at hb
 cases hy : y.objects[j]? with
 | none =>
  refine .inl ⟨by rw [hob, hy], fun W hW => kernel_object_none W g m hm _ _ _ _ _ _ ba bc y.objects.length j hpre ?_ (by rw [hW.block g hgw]; exact hb)⟩
  exact List.getElem?_eq_none_iff.1 hy
 | some o =>
  have hj := (gEs hy).1
  rcases hT.objs.2.2 with ⟨_, h0⟩ | ⟨gb, off, cells, rfl, _⟩
  ·have := hT.objs.1; omega
  ·exact .inr ⟨m, j, y, ya, yc, oa, oc, gb, off, bc, ma, mc, o, hm, rfl, rfl, ex, ec, eB, hT, hy, by rw [hob, hy], fun W hW => kernel_object_some W g m hm _ _ _ _ _ _ gb off bc y.objects.length j hpre hj hT.objs.1 hT.objs.2.1 (by rw [hW.block g hgw]; exact hb)⟩
def zeroC : List Value := [.slice none 0 0, .slice none 0 0, .string ⟨#[]⟩, .slice none 0 0, .slice none 0 0]
theorem kernel_New (w : World) (h : Int) (h0 : 0 ≤ h) (h4 : h < 4) : Calls Tryz.prog 33 #[.int .i64 h] w fun e w' => ∃ g, e = .returned (.tuple #[.pointer (some ⟨g, 0, none⟩), .int .i64 0]) ∧ w.heap.size ≤ g ∧
  St [] w w' [(g, 98, .int .i64 h :: (([zeroC, zeroC, zeroC, zeroC] : List (List Value)).flatten ++ [.int .i64 0]))] := by
 have d1 : decide (h < 0) = false := by simp; omega
 have d2 : decide ((4 : Int) ≤ h) = false := by simp; omega
 have st := St.start w
 go_enter Tryz.func33, Tryz.ntmps33
 go_wp2_with (first | go_skip | (with_reducible refine mB 98 st ?_; clear st; intro g1 w1 hg1 st))
 go_ret2
 exact ⟨g1, rfl, hg1, st⟩
theorem KerAt.new {w0 w : World} {g : Nat} {h : Int} {own : Blks} {M : List Nat} (st : St M w0 w own) (hm : (g, 98, .int .i64 h :: (([zeroC, zeroC, zeroC, zeroC] : List (List Value)).flatten ++ [.int .i64 0])) ∈ own) (ok : Nat → Prop) (hg : ¬ ok g) : KerAt ok w g (newK h) [zeroC, zeroC, zeroC, zeroC] [[], [], [], []] := by
 have hz : ∀ i : Nat, ([zeroT, zeroT, zeroT, zeroT] : List Thr)[i]? = if i < 4 then some zeroT else none := fun i => by
  match i with | 0 => rfl | 1 => rfl | 2 => rfl | 3 => rfl | i + 4 => simp
 have hc : ∀ i : Nat, ([zeroC, zeroC, zeroC, zeroC] : List (List Value))[i]? = if i < 4 then some zeroC else none := fun i => by
  match i with | 0 => rfl | 1 => rfl | 2 => rfl | 3 => rfl | i + 4 => simp
 have hB : ∀ i : Nat, ([[], [], [], []] : List (List Nat))[i]? = if i < 4 then some [] else none := fun i => by
  match i with | 0 => rfl | 1 => rfl | 2 => rfl | 3 => rfl | i + 4 => simp
 refine ⟨rfl, rfl, rfl, fun i x cs B e1 e2 e3 => ?_, st.blk _ hm, by simp, by simpa using hg⟩
 unfold newK at e1
 simp only at e1
 rw [hz] at e1
 rw [hc] at e2
 rw [hB] at e3
 split at e1
 ·rename_i hi
  rw [if_pos hi] at e2 e3
  cases e1; cases e2; cases e3
  exact ⟨none, 0, none, 0, none, 0, none, 0, rfl, ⟨SlR.nil _ _ _ _, SlR.nil _ _ _ _, RowAt.nil _ _ _ _, RowAt.nil _ _ _ _⟩, rfl⟩
 ·cases e1
theorem St.callK {M M' : List Nat} {w0 w w' : World} {own : Blks} (h : St M w0 w own) (h' : St M' w w' []) (hn : ∀ x ∈ own, x.1 ∉ M') (hM : ∀ b ∈ M', b ∈ M ∨ w0.heap.size ≤ b) : St M w0 w' own :=
 ⟨h'.os.trans h.os, h'.tape.trans h.tape, h'.output.trans h.output, Nat.le_trans h.size h'.size, fun b hb hm => by
  rw [h'.frame b (Nat.lt_of_lt_of_le hb h.size) fun hm' => ?_, h.frame b hb hm]
  rcases hM b hm' with h1 | h1
  ·exact hm h1
  ·omega, fun x hx => by
  have := h.blk x hx
  rw [h'.frame x.1 (Array.getElem?_eq_some_iff.1 this).1 (hn x hx), this], h.mine, h.ne⟩
def RCerts (ok : Nat → Prop) (W : World) (v : Value) (l : List Cert) : Prop := ∃ a c, v = .slice a l.length c ∧ SlR ok W 4 RCert a c l
theorem RLine.move {ok ok' : Nat → Prop} {w w' : World} {cs : List Value} {L : Line} (h : RLine ok w cs L) (hs : w.heap.size ≤ w'.heap.size) (hk : ∀ b, b < w.heap.size → ok b → ok' b ∧ w'.heap[b]? = w.heap[b]?) : RLine ok' w' cs L := by
 obtain ⟨sa, sc, e, h1⟩ := h
 exact ⟨sa, sc, e, SlR.move h1 hs hk fun _ _ r => r.move hs hk⟩
structure CluL (ok : Nat → Prop) (W : World) (C : Clu) (kg : List Nat) (na : Option Addr) (nc : Nat) (L : List Value) : Prop where
 len : L.length = 187
 now : L[0]? = some (.int .i64 C.now)
 ptr : ∀ (i g : Nat), kg[i]? = some g → L[1 + i]? = some (.pointer (some ⟨g, 0, none⟩))
 cert : ∀ (i : Nat) (l : List Cert), C.certs[i]? = some l → ∃ v, L[5 + i]? = some v ∧ RCerts ok W v l
 line : ∀ (i : Nat) (ln : Line), C.lines[i]? = some ln → ∃ cs, RLine ok W cs ln ∧ ∀ (j : Nat) (v : Value), cs[j]? = some v → L[9 + i * 11 + j]? = some v
 net : L[185]? = some (.slice na C.net.length nc)
 acts : L[186]? = some (.int .i64 C.acts)
 kgN : kg.length = 4
 certN : C.certs.length = 4
 lineN : C.lines.length = 16
section
variable {ok ok' : Nat → Prop} {W W' : World} {C : Clu} {kg : List Nat} {na : Option Addr} {nc : Nat} {L : List Value}
theorem CluL.move (h : CluL ok W C kg na nc L) (hs : W.heap.size ≤ W'.heap.size) (hk : ∀ b, b < W.heap.size → ok b → ok' b ∧ W'.heap[b]? = W.heap[b]?) : CluL ok' W' C kg na nc L :=
 ⟨h.len, h.now, h.ptr, fun i l hl => by
  obtain ⟨v, e, a, c, rfl, hc⟩ := h.cert i l hl
  exact ⟨_, e, a, c, rfl, hc.move hs hk fun _ _ r => r⟩, fun i ln hl => by
  obtain ⟨cs, hr, hc⟩ := h.line i ln hl
  exact ⟨cs, hr.move hs hk, hc⟩, h.net, h.acts, h.kgN, h.certN, h.lineN⟩
theorem putL_one {L : List Value} {o p : Nat} {v : Value} (h : o < L.length) : (putL L o [v])[p]? = if p = o then some v else L[p]? := by
 split
 ·rename_i e
  subst e
  have := putL_at (vs := [v]) (cs := L) (o := p) (j := 0) (v := v) (by simp; omega) rfl
  simpa using this
 ·rename_i e
  rcases Nat.lt_or_gt_of_ne e with h1 | h1
  ·exact putL_ahead h1
  ·exact putL_after (by simp; omega)
theorem CluL.setNow (h : CluL ok W C kg na nc L) (n : Int) : CluL ok W { C with now := n } kg na nc (putL L 0 [.int .i64 n]) := by
 have hp := fun p => putL_one (L := L) (o := 0) (p := p) (v := .int .i64 n) (by have := h.len; omega)
 refine ⟨by rw [putL_length]; exact h.len, by rw [hp]; rfl, fun i g hg => ?_, fun i l hl => ?_, fun i ln hl => ?_, ?_, ?_, h.kgN, h.certN, h.lineN⟩
 ·rw [hp, if_neg (by omega)]; exact h.ptr i g hg
 ·rw [hp, if_neg (by omega)]; exact h.cert i l hl
 ·obtain ⟨cs, hr, hc⟩ := h.line i ln hl
  exact ⟨cs, hr, fun j v hv => by rw [hp, if_neg (by omega)]; exact hc j v hv⟩
 ·rw [hp, if_neg (by omega)]; exact h.net
 ·rw [hp, if_neg (by omega)]; exact h.acts
theorem RLine.len {ok : Nat → Prop} {W : World} {cs : List Value} {ln : Line} (h : RLine ok W cs ln) : cs.length = 11 := by
 obtain ⟨sa, sc, rfl, _⟩ := h; rfl
theorem CluL.setActs (h : CluL ok W C kg na nc L) (n : Int) : CluL ok W { C with acts := n } kg na nc (putL L 186 [.int .i64 n]) := by
 have hp := fun p => putL_one (L := L) (o := 186) (p := p) (v := .int .i64 n) (by have := h.len; omega)
 have hl2 := h.kgN
 refine ⟨by rw [putL_length]; exact h.len, by rw [hp, if_neg (by omega)]; exact h.now, fun i g hg => ?_, fun i l hl => ?_, fun i ln hl => ?_, ?_, ?_, h.kgN, h.certN, h.lineN⟩
 ·have := (gEs hg).1
  rw [hp, if_neg (by omega)]; exact h.ptr i g hg
 ·have hq : i < C.certs.length := (gEs hl).1
  have := h.certN
  rw [hp, if_neg (by omega)]; exact h.cert i l hl
 ·obtain ⟨cs, hr, hc⟩ := h.line i ln hl
  have hq : i < C.lines.length := (gEs hl).1
  have := h.lineN
  have := hr.len
  exact ⟨cs, hr, fun j v hv => by
   have := (gEs hv).1
   rw [hp, if_neg (by omega)]; exact hc j v hv⟩
 ·rw [hp, if_neg (by omega)]; exact h.net
 ·rw [hp]; rfl
theorem CluL.setNet (h : CluL ok W C kg na nc L) (xs : List ByteArray) (na' : Option Addr) (nc' : Nat) : CluL ok W { C with net := xs } kg na' nc' (putL L 185 [.slice na' xs.length nc']) := by
 have hp := fun p => putL_one (L := L) (o := 185) (p := p) (v := .slice na' xs.length nc') (by have := h.len; omega)
 have hl2 := h.kgN
 refine ⟨by rw [putL_length]; exact h.len, by rw [hp, if_neg (by omega)]; exact h.now, fun i g hg => ?_, fun i l hl => ?_, fun i ln hl => ?_, ?_, ?_, h.kgN, h.certN, h.lineN⟩
 ·have := (gEs hg).1
  rw [hp, if_neg (by omega)]; exact h.ptr i g hg
 ·have hq : i < C.certs.length := (gEs hl).1
  have := h.certN
  rw [hp, if_neg (by omega)]; exact h.cert i l hl
 ·obtain ⟨cs, hr, hc⟩ := h.line i ln hl
  have hq : i < C.lines.length := (gEs hl).1
  have := h.lineN
  have := hr.len
  exact ⟨cs, hr, fun j v hv => by
   have := (gEs hv).1
   rw [hp, if_neg (by omega)]; exact hc j v hv⟩
 ·rw [hp]; rfl
 ·rw [hp, if_neg (by omega)]; exact h.acts
theorem CluL.setCert (h : CluL ok W C kg na nc L) {n : Nat} (hn : n < 4) {l : List Cert} {v : Value} (hv : RCerts ok W v l) : CluL ok W (C.setCert n l) kg na nc (putL L (5 + n) [v]) := by
 have hp := fun p => putL_one (L := L) (o := 5 + n) (p := p) (v := v) (by have := h.len; omega)
 have hl2 := h.kgN
 refine ⟨by rw [putL_length]; exact h.len, by rw [hp, if_neg (by omega)]; exact h.now, fun i g hg => ?_, fun i l' hl => ?_, fun i ln hl => ?_, ?_, ?_, h.kgN, by simp [Clu.setCert, h.certN], h.lineN⟩
 ·have := (gEs hg).1
  rw [hp, if_neg (by omega)]; exact h.ptr i g hg
 ·unfold Clu.setCert at hl
  simp only [Int.toNat_natCast] at hl
  rw [List.getElem?_set] at hl
  rw [hp]
  split at hl
  ·rename_i e
   subst e
   rw [if_pos (by rw [h.certN]; exact hn)] at hl
   cases hl
   exact ⟨v, by rw [if_pos rfl], hv⟩
  ·rename_i e
   rw [if_neg (by omega)]; exact h.cert i l' hl
 ·obtain ⟨cs, hr, hc⟩ := h.line i ln hl
  exact ⟨cs, hr, fun j v hv => by rw [hp, if_neg (by omega)]; exact hc j v hv⟩
 ·rw [hp, if_neg (by omega)]; exact h.net
 ·rw [hp, if_neg (by omega)]; exact h.acts
theorem CluL.setLineN (h : CluL ok W C kg na nc L) {n : Nat} (hn : n < 16) {ln : Line} {cs : List Value} (hv : RLine ok W cs ln) : CluL ok W { C with lines := C.lines.set n ln } kg na nc (putL L (9 + n * 11) cs) := by
 have hl := hv.len
 have hlen := h.len
 have ha := fun p (hp : p < 9 + n * 11) => putL_ahead (cs := L) (vs := cs) hp
 have hb := fun p (hp : 9 + n * 11 + cs.length ≤ p) => putL_after (cs := L) (vs := cs) hp
 have hl2 := h.kgN
 refine ⟨by rw [putL_length]; exact h.len, by rw [ha _ (by omega)]; exact h.now, fun i g hg => ?_, fun i l' hl => ?_, fun i ln' hl' => ?_, ?_, ?_, h.kgN, h.certN, by simp [h.lineN]⟩
 ·have := (gEs hg).1
  rw [ha _ (by omega)]; exact h.ptr i g hg
 ·have hq : i < C.certs.length := (gEs hl).1
  have := h.certN
  rw [ha _ (by omega)]; exact h.cert i l' hl
 ·simp only at hl'
  rw [List.getElem?_set] at hl'
  split at hl'
  ·rename_i e
   subst e
   rw [if_pos (by rw [h.lineN]; exact hn)] at hl'
   cases hl'
   exact ⟨cs, hv, fun j v hj => putL_at (by omega) hj⟩
  ·rename_i e
   obtain ⟨cs', hr, hc⟩ := h.line i ln' hl'
   have hr' := hr.len
   refine ⟨cs', hr, fun j v hj => ?_⟩
   have hj' := (gEs hj).1
   rcases Nat.lt_or_gt_of_ne e with h1 | h1
   ·rw [hb _ (by omega)]; exact hc j v hj
   ·rw [ha _ (by omega)]; exact hc j v hj
 ·rw [hb _ (by omega)]; exact h.net
 ·rw [hb _ (by omega)]; exact h.acts
theorem CluL.kers (h : CluL ok W C kg na nc L) (ks : List Ker) : CluL ok W { C with kers := ks } kg na nc L :=
 ⟨h.len, h.now, h.ptr, h.cert, h.line, h.net, h.acts, h.kgN, h.certN, h.lineN⟩
end
def cluB (gc : Nat) (na : Option Addr) (BB : List (List Nat)) : List Nat := gc :: ((na.map (·.block)).toList ++ BB.flatten)
structure CluAt (ok : Nat → Prop) (W : World) (gc : Nat) (C : Clu) (kg : List Nat) (BB : List (List Nat)) (na : Option Addr) (nc : Nat) (L : List Value) : Prop where
 blk : W.heap[gc]? = some (.cells L.toArray 84 (0, 0))
 cells : CluL ok W C kg na nc L
 kerN : C.kers.length = 4
 BBn : BB.length = 4
 ker : ∀ (i : Nat) (k : Ker) (g : Nat) (B : List Nat), C.kers[i]? = some k → kg[i]? = some g → BB[i]? = some B → ∃ css Bs, KerAt ok W g k css Bs ∧ B = g :: Bs.flatten
 net : RowAt 9 W 1 RStr na nc C.net
 nodup : (cluB gc na BB).Nodup
 apart : ∀ b ∈ cluB gc na BB, ¬ ok b
section
variable {ok ok' : Nat → Prop} {W W' : World} {gc : Nat} {C C' : Clu} {kg : List Nat} {BB : List (List Nat)} {na : Option Addr} {nc : Nat} {L : List Value}
theorem mem_cluB {b : Nat} : b ∈ cluB gc na BB ↔ b = gc ∨ na.map (·.block) = some b ∨ ∃ B ∈ BB, b ∈ B := by
 unfold cluB
 simp only [List.mem_cons, List.mem_append, Option.mem_toList, List.mem_flatten]
theorem CluAt.kerAt (h : CluAt ok W gc C kg BB na nc L) {i : Nat} (hi : i < 4) : ∃ k g css Bs, C.kers[i]? = some k ∧ kg[i]? = some g ∧ BB[i]? = some (g :: Bs.flatten) ∧ KerAt ok W g k css Bs ∧ L[1 + i]? = some (.pointer (some ⟨g, 0, none⟩)) := by
 have e1 : C.kers[i]? = some (C.kers[i]'(by rw [h.kerN]; exact hi)) := gEg _
 have e2 : kg[i]? = some (kg[i]'(by rw [h.cells.kgN]; exact hi)) := gEg _
 have e3 : BB[i]? = some (BB[i]'(by rw [h.BBn]; exact hi)) := gEg _
 obtain ⟨css, Bs, hk, hB⟩ := h.ker i _ _ _ e1 e2 e3
 exact ⟨_, _, css, Bs, e1, e2, by rw [e3, hB], hk, h.cells.ptr i _ e2⟩
theorem CluAt.lt (h : CluAt ok W gc C kg BB na nc L) : ∀ b ∈ cluB gc na BB, b < W.heap.size := by
 intro b hb
 rcases mem_cluB.1 hb with rfl | hb | ⟨B, hB, hb⟩
 ·exact (Array.getElem?_eq_some_iff.1 h.blk).1
 ·exact h.net.lt hb
 ·obtain ⟨i, hi⟩ := List.mem_iff_getElem?.1 hB
  have hil : i < 4 := by have := (gEs hi).1; rw [h.BBn] at this; exact this
  obtain ⟨k, g, css, Bs, e1, e2, e3, hk, _⟩ := h.kerAt hil
  rw [e3] at hi
  cases hi
  exact hk.lt b hb
theorem CluAt.move (h : CluAt ok W gc C kg BB na nc L) (hs : W.heap.size ≤ W'.heap.size) (hk : ∀ b, b < W.heap.size → ok b → ok' b ∧ W'.heap[b]? = W.heap[b]?) (hB : ∀ b ∈ cluB gc na BB, W'.heap[b]? = W.heap[b]? ∧ ¬ ok' b) : CluAt ok' W' gc C kg BB na nc L :=
 ⟨by rw [(hB gc (mem_cluB.2 (.inl rfl))).1]; exact h.blk, h.cells.move hs hk, h.kerN, h.BBn, fun i k g B e1 e2 e3 => by
  obtain ⟨css, Bs, hK, rfl⟩ := h.ker i k g B e1 e2 e3
  exact ⟨css, Bs, hK.move hs hk fun b hb => hB b (mem_cluB.2 (.inr (.inr ⟨_, mgE e3, hb⟩))), rfl⟩,
  h.net.kept (fun b hb => (hB b (mem_cluB.2 (.inr (.inl hb)))).1) fun _ _ r => r, h.nodup, fun b hb => (hB b hb).2⟩
def CluTo (ok : Nat → Prop) (W : World) (gc : Nat) (kg : List Nat) (B0 : List Nat) (W' : World) (C' : Clu) : Prop :=
 ∃ ok' BB' na' nc' L', CluAt ok' W' gc C' kg BB' na' nc' L' ∧ St B0 W W' [] ∧ (∀ b ∈ cluB gc na' BB', b ∈ B0 ∨ W.heap.size ≤ b) ∧ ∀ b, ok' b → ok b ∨ W.heap.size ≤ b
theorem CluAt.kernel (h : CluAt ok W gc C kg BB na nc L) {n : Nat} (hn : n < 4) {k k' : Ker} {g : Nat} {css : List (List Value)} {Bs : List (List Nat)} (ek : C.kers[n]? = some k) (eg : kg[n]? = some g) (eB : BB[n]? = some (g :: Bs.flatten))
  (hK : KerAt ok W g k css Bs) (hT : KerTo ok W g Bs W' k') : CluTo ok W gc kg (cluB gc na BB) W' (C.setKer n k') := by
 obtain ⟨css', Bs', hK', hs, hin⟩ := hT
 have hBm := mgE eB
 have hsub : ∀ b ∈ g :: Bs.flatten, b ∈ cluB gc na BB := fun b hb => mem_cluB.2 (.inr (.inr ⟨_, hBm, hb⟩))
 have hin2 : ∀ b ∈ g :: Bs'.flatten, b ∈ g :: Bs.flatten ∨ W.heap.size ≤ b := fun b hb => by
  rcases List.mem_cons.1 hb with rfl | hb
  ·exact .inl (by simp)
  ·exact (hin b hb).imp (List.mem_cons_of_mem _) id
 have hnd := h.nodup
 unfold cluB at hnd
 obtain ⟨hn1, hn2⟩ := List.nodup_cons.1 hnd
 obtain ⟨hn3, hn4, hn5⟩ := List.nodup_append.1 hn2
 have hgc : gc ∉ g :: Bs.flatten := fun hm => hn1 (List.mem_append.2 (.inr (List.mem_flatten.2 ⟨_, hBm, hm⟩)))
 have hnat : ∀ b, na.map (·.block) = some b → b ∉ g :: Bs.flatten := fun b hb hm => hn5 b (by simpa using hb) b (List.mem_flatten.2 ⟨_, hBm, hm⟩) rfl
 have hsame : ∀ b, b < W.heap.size → b ∉ g :: Bs.flatten → W'.heap[b]? = W.heap[b]? := hs.frame
 have hgl := h.lt
 have hall : ∀ b ∈ cluB gc na (BB.set n (g :: Bs'.flatten)), b ∈ cluB gc na BB ∨ W.heap.size ≤ b := fun b hb => by
  rcases mem_cluB.1 hb with h1 | h1 | ⟨B, hB, h1⟩
  ·exact .inl (mem_cluB.2 (.inl h1))
  ·exact .inl (mem_cluB.2 (.inr (.inl h1)))
  ·rcases List.mem_or_eq_of_mem_set hB with hB | rfl
   ·exact .inl (mem_cluB.2 (.inr (.inr ⟨B, hB, h1⟩)))
   ·exact (hin2 b h1).imp (hsub b) id
 have hokk : ∀ b, b < W.heap.size → ok b → ((ok b ∨ W.heap.size ≤ b) ∧ b ∉ cluB gc na (BB.set n (g :: Bs'.flatten))) ∧ W'.heap[b]? = W.heap[b]? := fun b hb ho => ⟨⟨.inl ho, fun hm => by
  rcases hall b hm with h1 | h1
  ·exact h.apart b h1 ho
  ·omega⟩, hsame b hb fun hm => h.apart b (hsub b hm) ho⟩
 refine ⟨fun b => (ok b ∨ W.heap.size ≤ b) ∧ b ∉ cluB gc na (BB.set n (g :: Bs'.flatten)), BB.set n (g :: Bs'.flatten), na, nc, L, ⟨?_, ?_, by simp [Clu.setKer, h.kerN], by simp [h.BBn], fun i k2 g2 B2 e1 e2 e3 => ?_, ?_, ?_, fun b hb hh => hh.2 hb⟩, ⟨hs.os, hs.tape, hs.output, hs.size, fun b hb hm => hsame b hb fun h1 => hm (hsub b h1), by simp, by simp, by simp⟩, hall, fun b hb => hb.1⟩
 ·rw [hsame gc (hgl gc (mem_cluB.2 (.inl rfl))) hgc]; exact h.blk
 ·exact (h.cells.move hs.size hokk).kers _
 ·unfold Clu.setKer at e1
  simp only [Int.toNat_natCast] at e1
  rw [List.getElem?_set] at e1 e3
  by_cases hni : n = i
  ·subst hni
   rw [if_pos rfl, if_pos (by rw [h.kerN]; exact hn)] at e1
   rw [if_pos rfl, if_pos (by rw [h.BBn]; exact hn)] at e3
   cases e1; cases e3
   rw [eg] at e2
   cases e2
   refine ⟨css', Bs', hK'.move (Nat.le_refl _) (fun b hb ho => ⟨⟨ho.1, fun hm => ?_⟩, rfl⟩) fun b hb => ⟨rfl, fun hh => hh.2 (mem_cluB.2 (.inr (.inr ⟨_, mgE (List.getElem?_set_self (by rw [h.BBn]; exact hn)), hb⟩)))⟩, rfl⟩
   rcases mem_cluB.1 hm with h1 | h1 | ⟨B, hB, h1⟩
   ·rcases ho.1 with h2 | h2
    ·exact h.apart _ (mem_cluB.2 (.inl h1)) h2
    ·have := hgl _ (mem_cluB.2 (.inl h1)); omega
   ·rcases ho.1 with h2 | h2
    ·exact h.apart _ (mem_cluB.2 (.inr (.inl h1))) h2
    ·have := hgl _ (mem_cluB.2 (.inr (.inl h1)) : b ∈ cluB gc na BB); omega
   ·rcases List.mem_or_eq_of_mem_set hB with hB | rfl
    ·have hbm : b ∈ cluB gc na BB := mem_cluB.2 (.inr (.inr ⟨B, hB, h1⟩))
     rcases ho.1 with h2 | h2
     ·exact h.apart _ hbm h2
     ·have := hgl _ hbm; omega
    ·exact ho.2 h1
  ·rw [if_neg hni] at e1 e3
   obtain ⟨css2, Bs2, hK2, rfl⟩ := h.ker i k2 g2 B2 e1 e2 e3
   have hap := nodup_apart hn4 e3 eB (Ne.symm hni)
   exact ⟨css2, Bs2, hK2.move hs.size hokk fun b hb => ⟨hsame b (hK2.lt b hb) (hap b hb), fun hh => hh.2 (mem_cluB.2 (.inr (.inr ⟨_, mgE (by rw [List.getElem?_set_ne hni]; exact e3), hb⟩)))⟩, rfl⟩
 ·exact h.net.kept (fun b hb => hsame b (h.net.lt hb) (hnat b hb)) fun _ _ r => r
 ·unfold cluB
  refine List.nodup_cons.2 ⟨fun hm => ?_, List.nodup_append.2 ⟨hn3, nodup_set hn4 eB hK'.nodup fun b hb => ?_, fun a ha b hb e => ?_⟩⟩
  ·rcases List.mem_append.1 hm with h1 | h1
   ·exact hn1 (List.mem_append.2 (.inl h1))
   ·obtain ⟨B, hB, h1⟩ := List.mem_flatten.1 h1
    rcases List.mem_or_eq_of_mem_set hB with hB | rfl
    ·exact hn1 (List.mem_append.2 (.inr (List.mem_flatten.2 ⟨B, hB, h1⟩)))
    ·rcases hin2 gc h1 with h2 | h2
     ·exact hgc h2
     ·have := hgl _ (mem_cluB.2 (.inl rfl) : gc ∈ cluB gc na BB); omega
  ·refine (hin2 b hb).imp id fun h1 hm => ?_
   have := hgl b (by unfold cluB; simp only [List.mem_cons, List.mem_append]; exact .inr (.inr hm)); omega
  ·subst e
   obtain ⟨B, hB, h1⟩ := List.mem_flatten.1 hb
   rcases List.mem_or_eq_of_mem_set hB with hB | rfl
   ·exact hn5 a ha a (List.mem_flatten.2 ⟨B, hB, h1⟩) rfl
   ·rcases hin2 a h1 with h2 | h2
    ·exact hnat a (by simpa using ha) h2
    ·have := hgl a (mem_cluB.2 (.inr (.inl (by simpa using ha)))); omega
end
section
variable {ok ok' : Nat → Prop} {W W' : World} {gc : Nat} {C C' : Clu} {kg : List Nat} {BB : List (List Nat)} {na na' : Option Addr} {nc nc' : Nat} {L L' : List Value}
theorem CluAt.close (h : CluAt ok W gc C kg BB na nc L) (st : St (gc :: (na.map (·.block)).toList) W W' []) (hb : W'.heap[gc]? = some (.cells L'.toArray 84 (0, 0)))
  (hL : CluL (fun b => (ok b ∨ W.heap.size ≤ b) ∧ b ∉ cluB gc na' BB) W' C' kg na' nc' L') (hk : C'.kers = C.kers) (hR : RowAt 9 W' 1 RStr na' nc' C'.net) (hna : ∀ b, na'.map (·.block) = some b → na.map (·.block) = some b ∨ W.heap.size ≤ b) : CluTo ok W gc kg (cluB gc na BB) W' C' := by
 have hgl := h.lt
 have hnd := h.nodup
 unfold cluB at hnd
 obtain ⟨hn1, hn2⟩ := List.nodup_cons.1 hnd
 obtain ⟨hn3, hn4, hn5⟩ := List.nodup_append.1 hn2
 have hall : ∀ b ∈ cluB gc na' BB, b ∈ cluB gc na BB ∨ W.heap.size ≤ b := fun b hb => by
  rcases mem_cluB.1 hb with h1 | h1 | h1
  ·exact .inl (mem_cluB.2 (.inl h1))
  ·exact (hna b h1).imp (fun h2 => mem_cluB.2 (.inr (.inl h2))) id
  ·exact .inl (mem_cluB.2 (.inr (.inr h1)))
 have hkb : ∀ B ∈ BB, ∀ b ∈ B, b ∉ gc :: (na.map (·.block)).toList := fun B hB b hbb hm => by
  rcases List.mem_cons.1 hm with rfl | hm
  ·exact hn1 (List.mem_append.2 (.inr (List.mem_flatten.2 ⟨B, hB, hbb⟩)))
  ·exact hn5 b hm b (List.mem_flatten.2 ⟨B, hB, hbb⟩) rfl
 refine ⟨fun b => (ok b ∨ W.heap.size ≤ b) ∧ b ∉ cluB gc na' BB, BB, na', nc', L', ⟨hb, hL, by rw [hk]; exact h.kerN, h.BBn, fun i k g B e1 e2 e3 => ?_, hR, ?_, fun b hb hh => hh.2 hb⟩, ⟨st.os, st.tape, st.output, st.size, fun b hb' hm => st.frame b hb' fun h1 => hm ?_, by simp, by simp, by simp⟩, hall, fun b hb => hb.1⟩
 ·rw [hk] at e1
  obtain ⟨css, Bs, hK, rfl⟩ := h.ker i k g B e1 e2 e3
  have hBm := mgE e3
  refine ⟨css, Bs, hK.move st.size (fun b hb' ho => ⟨⟨.inl ho, fun hm => ?_⟩, st.frame b hb' fun hm => ?_⟩) fun b hb' => ⟨st.frame b (hK.lt b hb') (hkb _ hBm b hb'), fun hh => hh.2 (mem_cluB.2 (.inr (.inr ⟨_, hBm, hb'⟩)))⟩, rfl⟩
  ·rcases hall b hm with h1 | h1
   ·exact h.apart b h1 ho
   ·omega
  ·refine h.apart b ?_ ho
   rcases List.mem_cons.1 hm with rfl | hm
   ·exact mem_cluB.2 (.inl rfl)
   ·exact mem_cluB.2 (.inr (.inl (by simpa using hm)))
 ·unfold cluB
  refine List.nodup_cons.2 ⟨fun hm => ?_, List.nodup_append.2 ⟨?_, hn4, fun a ha b hb e => ?_⟩⟩
  ·rcases List.mem_append.1 hm with h1 | h1
   ·rcases hna gc (by simpa using h1) with h2 | h2
    ·exact hn1 (List.mem_append.2 (.inl (by simpa using h2)))
    ·have := hgl gc (mem_cluB.2 (.inl rfl)); omega
   ·exact hn1 (List.mem_append.2 (.inr h1))
  ·cases na' <;> simp
  ·subst e
   rcases hna a (by simpa using ha) with h2 | h2
   ·exact hn5 a (by simpa using h2) a hb rfl
   ·obtain ⟨B, hB, h1⟩ := List.mem_flatten.1 hb
    have := hgl a (mem_cluB.2 (.inr (.inr ⟨B, hB, h1⟩))); omega
 ·rcases List.mem_cons.1 h1 with rfl | h1
  ·exact mem_cluB.2 (.inl rfl)
  ·exact mem_cluB.2 (.inr (.inl (by simpa using h1)))
def okB (ok : Nat → Prop) (W : World) (gc : Nat) (na : Option Addr) (BB : List (List Nat)) (b : Nat) : Prop := (ok b ∨ W.heap.size ≤ b) ∧ b ∉ cluB gc na BB
theorem CluAt.old (h : CluAt ok W gc C kg BB na nc L) {own : Blks} (st : St [gc] W W' own) : CluL (okB ok W gc na BB) W' C kg na nc L :=
 h.cells.move st.size fun b hb ho => ⟨⟨.inl ho, fun hm => h.apart b hm ho⟩, st.frame b hb (by simp; rintro rfl; exact h.apart _ (mem_cluB.2 (.inl rfl)) ho)⟩
theorem okB.new (h : CluAt ok W gc C kg BB na nc L) {b : Nat} (hb : W.heap.size ≤ b) : okB ok W gc na BB b := ⟨.inr hb, fun hm => by have := h.lt b hm; omega⟩
theorem CluAt.closeCells (h : CluAt ok W gc C kg BB na nc L) {own : Blks} (st : St [gc] W W' own) (hb : (gc, 84, L') ∈ own) (hL : CluL (okB ok W gc na BB) W' C' kg na nc L') (hk : C'.kers = C.kers) (hn : C'.net = C.net) : CluTo ok W gc kg (cluB gc na BB) W' C' := by
 have hne : ∀ b, na.map (·.block) = some b → b ≠ gc := fun b e e2 => by
  have := h.nodup
  unfold cluB at this
  subst e2
  exact (List.nodup_cons.1 this).1 (List.mem_append.2 (.inl (by simpa using e)))
 refine h.close (st.wider2 (by simp) |>.sub (own' := []) (by simp) List.Pairwise.nil) (st.blk _ hb) hL hk ?_ fun b e => .inl e
 rw [hn]
 exact h.net.kept (fun b e => st.frame b (h.net.lt e) (by simpa using hne b e)) fun _ _ r => r
end
def Clus (w0 : World) (M0 : List Nat) (own : Blks) (X : Nat → Prop) (Wd : World) (D : Nat → Prop) (gc : Nat) (kg : List Nat) (C : Clu) (W : World) : Prop :=
 St M0 w0 W own ∧ C.ok ∧ Keeps D Wd W ∧ (∀ x ∈ own, ¬ (D x.1 ∧ x.1 < Wd.heap.size)) ∧ (∀ b, X b → b < w0.heap.size) ∧
 ∃ ok BB na nc L, CluAt ok W gc C kg BB na nc L ∧ (∀ b ∈ cluB gc na BB, (b ∈ M0 ∨ w0.heap.size ≤ b) ∧ (∀ x ∈ own, x.1 ≠ b) ∧ ¬ (D b ∧ b < Wd.heap.size)) ∧ ∀ b, ok b → b < W.heap.size ∧ (∀ x ∈ own, x.1 ≠ b) ∧ ¬ X b
section
variable {w0 Wd W : World} {M0 : List Nat} {own : Blks} {X D : Nat → Prop} {gc : Nat} {kg : List Nat} {C : Clu}
theorem Clus.open (h : Clus w0 M0 own X Wd D gc kg C W) : ∃ ok BB na nc L, CluAt ok W gc C kg BB na nc L ∧ (∀ x ∈ own, x.1 ∉ cluB gc na BB) ∧ (∀ b ∈ cluB gc na BB, ¬ (D b ∧ b < Wd.heap.size)) ∧
  ∀ V C', C'.ok → CluTo ok W gc kg (cluB gc na BB) V C' → Clus w0 M0 own X Wd D gc kg C' V := by
 obtain ⟨st, hok, hD, hDo, hX, ok, BB, na, nc, L, hA, hB, hO⟩ := h
 refine ⟨ok, BB, na, nc, L, hA, fun x hx hm => (hB _ hm).2.1 x hx rfl, fun b hb => (hB b hb).2.2, fun V C' hok' hT => ?_⟩
 obtain ⟨ok', BB', na', nc', L', hA', hs, hin, hoo⟩ := hT
 refine ⟨st.callK hs (fun x hx hm => (hB _ hm).2.1 x hx rfl) fun b hb => (hB b hb).1, hok', ⟨Nat.le_trans hD.size hs.size, fun b hb hd => (hs.frame b (Nat.lt_of_lt_of_le hb hD.size) fun hm => (hB b hm).2.2 ⟨hd, hb⟩).trans (hD.block b hb hd)⟩, hDo, hX, fun b => ok' b ∧ b < V.heap.size, BB', na', nc', L', ?_, fun b hb => ?_, fun b hb => ⟨hb.2, fun x hx e => ?_, fun hx => ?_⟩⟩
 ·exact hA'.move (Nat.le_refl _) (fun b hb ho => ⟨⟨ho, hb⟩, rfl⟩) fun b hb => ⟨rfl, fun hh => hA'.apart b hb hh.1⟩
 ·rcases hin b hb with h1 | h1
  ·exact hB b h1
  ·refine ⟨.inr (Nat.le_trans st.size h1), fun x hx e => ?_, fun hd => ?_⟩
   ·have := st.lt hx; omega
   ·have := hD.size; omega
 ·rcases hoo b hb.1 with h1 | h1
  ·exact (hO b h1).2.1 x hx e
  ·have := st.lt hx; omega
 ·rcases hoo b hb.1 with h1 | h1
  ·exact (hO b h1).2.2 hx
  ·have := hX b hx; have := st.size; omega
theorem Clus.walk (h : Clus w0 M0 own X Wd D gc kg C W) {V : World} {own2 : Blks} (st : St (own.map (·.1)) W V own2) : Clus w0 M0 own2 X Wd D gc kg C V := by
 obtain ⟨st0, hok, hD, hDo, hX, ok, BB, na, nc, L, hA, hB, hO⟩ := h
 have hmine : ∀ x ∈ own2, x.1 ∈ own.map (·.1) ∨ W.heap.size ≤ x.1 := st.mine
 have hno : ∀ b ∈ cluB gc na BB, b ∉ own.map (·.1) := fun b hb hm => by
  obtain ⟨x, hx, e⟩ := List.mem_map.1 hm
  exact (hB b hb).2.1 x hx e
 refine ⟨St.back st0 st, hok, ⟨Nat.le_trans hD.size st.size, fun b hb hd => (st.frame b (Nat.lt_of_lt_of_le hb hD.size) fun hm => ?_).trans (hD.block b hb hd)⟩, fun x hx hd => ?_, hX, ok, BB, na, nc, L, ?_, fun b hb => ⟨(hB b hb).1, fun x hx e => ?_, (hB b hb).2.2⟩, fun b hb => ⟨Nat.lt_of_lt_of_le (hO b hb).1 st.size, fun x hx e => ?_, (hO b hb).2.2⟩⟩
 ·obtain ⟨x, hx, e⟩ := List.mem_map.1 hm
  subst e
  exact hDo x hx ⟨hd, hb⟩
 ·rcases hmine x hx with h1 | h1
  ·obtain ⟨y, hy, e⟩ := List.mem_map.1 h1
   rw [← e] at hd
   exact hDo y hy hd
  ·have := hD.size; omega
 ·exact hA.move st.size (fun b hb ho => ⟨ho, st.frame b hb fun hm => by
   obtain ⟨x, hx, e⟩ := List.mem_map.1 hm
   exact (hO b ho).2.1 x hx e⟩) fun b hb => ⟨st.frame b (hA.lt b hb) (hno b hb), hA.apart b hb⟩
 ·rcases hmine x hx with h1 | h1
  ·exact hno b hb (e ▸ h1)
  ·have := hA.lt b hb; omega
 ·rcases hmine x hx with h1 | h1
  ·obtain ⟨y, hy, e2⟩ := List.mem_map.1 h1
   exact (hO b hb).2.1 y hy (e2.trans e)
  ·have := (hO b hb).1; omega
theorem Clus.st (h : Clus w0 M0 own X Wd D gc kg C W) : St M0 w0 W own := h.1
theorem Clus.okC (h : Clus w0 M0 own X Wd D gc kg C W) : C.ok := h.2.1
theorem Clus.kept (h : Clus w0 M0 own X Wd D gc kg C W) : Keeps D Wd W := h.2.2.1
theorem Clus.sub (h : Clus w0 M0 own X Wd D gc kg C W) {own2 : Blks} (hs : ∀ x ∈ own2, x ∈ own) (hn : own2.Pairwise fun x y => x.1 ≠ y.1) : Clus w0 M0 own2 X Wd D gc kg C W := by
 obtain ⟨st0, hok, hD, hDo, hX, ok, BB, na, nc, L, hA, hB, hO⟩ := h
 exact ⟨st0.sub hs hn, hok, hD, fun x hx => hDo x (hs x hx), hX, ok, BB, na, nc, L, hA, fun b hb => ⟨(hB b hb).1, fun x hx => (hB b hb).2.1 x (hs x hx), (hB b hb).2.2⟩, fun b hb => ⟨(hO b hb).1, fun x hx => (hO b hb).2.1 x (hs x hx), (hO b hb).2.2⟩⟩
theorem Clus.below (h : Clus w0 M0 own X Wd D gc kg C W) {V : World} (hb : Below W.heap.size W V) : Clus w0 M0 own X Wd D gc kg C V :=
 h.walk (h.1.rebase.call hb)
theorem Clus.enter (h : Clus w0 M0 own X Wd D gc kg C W) : ∃ B0 Y, Clus W B0 [] Y W (fun b => b ∉ B0) gc kg C W ∧ (∀ b ∈ B0, b < W.heap.size ∧ ∀ x ∈ own, x.1 ≠ b) ∧ ∀ (C' : Clu) (V : World) (own' : Blks), Clus W B0 own' Y W (fun b => b ∉ B0) gc kg C' V → Clus w0 M0 own X Wd D gc kg C' V := by
 obtain ⟨st, hok, hD, hDo, hX, ok, BB, na, nc, L, hA, hB, hO⟩ := h
 refine ⟨cluB gc na BB, fun b => X b ∨ ∃ x ∈ own, x.1 = b, ⟨⟨rfl, rfl, rfl, Nat.le_refl _, fun _ _ _ => rfl, by simp, by simp, List.Pairwise.nil⟩, hok, ⟨Nat.le_refl _, fun _ _ _ => rfl⟩, by simp, fun b hb => ?_, ok, BB, na, nc, L, hA, fun b hb => ⟨.inl hb, by simp, fun hh => hh.1 hb⟩, fun b hb => ⟨(hO b hb).1, by simp, fun hh => ?_⟩⟩, fun b hb => ⟨hA.lt b hb, (hB b hb).2.1⟩, fun C' V own' hP => ?_⟩
 ·rcases hb with hb | ⟨x, hx, rfl⟩
  ·have := hX b hb; have := st.size; omega
  ·exact st.lt hx
 ·rcases hh with hh | ⟨x, hx, e⟩
  ·exact (hO b hb).2.2 hh
  ·exact (hO b hb).2.1 x hx e
 obtain ⟨st', hok', hD', hDo', hX', ok', BB', na', nc', L', hA', hB', hO'⟩ := hP
 have stE : St (cluB gc na BB) W V [] := st'.sub (own' := []) (by simp) List.Pairwise.nil
 refine ⟨st.callK stE (fun x hx hm => (hB _ hm).2.1 x hx rfl) fun b hb => (hB b hb).1, hok', ⟨Nat.le_trans hD.size hD'.size, fun b hb hd => (hD'.block b (Nat.lt_of_lt_of_le hb hD.size) fun hm => (hB b hm).2.2 ⟨hd, hb⟩).trans (hD.block b hb hd)⟩, hDo, hX, ok', BB', na', nc', L', hA', fun b hb => ?_, fun b hb => ⟨(hO' b hb).1, fun x hx e => (hO' b hb).2.2 (.inr ⟨x, hx, e⟩), fun hx => (hO' b hb).2.2 (.inl hx)⟩⟩
 rcases (hB' b hb).1 with h1 | h1
 ·exact hB b h1
 ·refine ⟨.inr (Nat.le_trans st.size h1), fun x hx e => ?_, fun hd => ?_⟩
  ·have := st.lt hx; omega
  ·have := hD.size; omega
theorem CluAt.cellAt {ok : Nat → Prop} {V : World} {bl : Blks} {BB : List (List Nat)} {na : Option Addr} {nc : Nat} {L : List Value} (hA : CluAt ok W gc C kg BB na nc L) (hn : ∀ x ∈ own, x.1 ∉ cluB gc na BB) (st : St (own.map (·.1)) W V bl) {j : Nat} {v : Value} (hv : L[j]? = some v) : V.cell? ⟨gc, j, none⟩ = some v := by
 have hb : V.heap[gc]? = some (.cells L.toArray 84 (0, 0)) := by
  rw [st.frame gc (hA.lt gc (mem_cluB.2 (.inl rfl))) fun hm => by
   obtain ⟨x, hx, e⟩ := List.mem_map.1 hm
   exact hn x hx (e ▸ mem_cluB.2 (.inl rfl))]
  exact hA.blk
 rw [cell_of_row V gc _ L.toArray _ (0, 0) hb]
 simpa using hv
end
end Go.Proofs.YtnjjdpiofbajlaaGreat
