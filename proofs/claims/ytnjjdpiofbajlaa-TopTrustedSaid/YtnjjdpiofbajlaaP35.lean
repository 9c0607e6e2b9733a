/- Walks and plain laws that the claim rests on, part 35. -/
import Derived.Test.YtnjjdpiofbajlaaP1
import Derived.Test.YtnjjdpiofbajlaaP2
import Derived.Test.YtnjjdpiofbajlaaP3
import Derived.Test.YtnjjdpiofbajlaaP4
import Derived.Test.YtnjjdpiofbajlaaP5
import Derived.Test.YtnjjdpiofbajlaaP6
import Derived.Test.YtnjjdpiofbajlaaP7
import Derived.Test.YtnjjdpiofbajlaaP8
import Derived.Test.YtnjjdpiofbajlaaP9
import Derived.Test.YtnjjdpiofbajlaaP10
import Derived.Test.YtnjjdpiofbajlaaP11
import Derived.Test.YtnjjdpiofbajlaaP12
import Derived.Test.YtnjjdpiofbajlaaP13
import Derived.Test.YtnjjdpiofbajlaaP14
import Derived.Test.YtnjjdpiofbajlaaP15
import Derived.Test.YtnjjdpiofbajlaaP16
import Derived.Test.YtnjjdpiofbajlaaP17
import Derived.Test.YtnjjdpiofbajlaaP18
import Derived.Test.YtnjjdpiofbajlaaP19
import Derived.Test.YtnjjdpiofbajlaaP20
import Derived.Test.YtnjjdpiofbajlaaP21
import Derived.Test.YtnjjdpiofbajlaaP22
import Derived.Test.YtnjjdpiofbajlaaP23
import Derived.Test.YtnjjdpiofbajlaaP24
import Derived.Test.YtnjjdpiofbajlaaP25
import Derived.Test.YtnjjdpiofbajlaaP26
import Derived.Test.YtnjjdpiofbajlaaP27
import Derived.Test.YtnjjdpiofbajlaaP28
import Derived.Test.YtnjjdpiofbajlaaP29
import Derived.Test.YtnjjdpiofbajlaaP30
import Derived.Test.YtnjjdpiofbajlaaP31
import Derived.Test.YtnjjdpiofbajlaaP32
import Derived.Test.YtnjjdpiofbajlaaP33
import Derived.Test.YtnjjdpiofbajlaaP34
set_option linter.unusedSimpArgs false
set_option linter.unusedVariables false
/- Plain laws of Decode, third part: the whole frame. No program is in sight. -/
namespace Go.Proofs.Ytnjjdpiofbajlaa
theorem risesL_mem {l : List Lev} {p : Int} (h : risesL p l = true) : ∀ x ∈ l, lvOk x = true := by
 induction l generalizing p with
 | nil => simp
 | cons y l ih =>
  unfold risesL at h
  split at h
  ·rename_i hh
   intro x hx
   rcases List.mem_cons.1 hx with rfl | hx
   ·exact hh.2
   ·exact ih h x hx
  ·simp at h
theorem ba_nil {s : ByteArray} (h : s.size = 0) : s = ⟨#[]⟩ := by
 apply ByteArray.ext
 exact Array.size_eq_zero_iff.1 h
theorem pFrame_par {f : Frame} (h : goodFrameC f = 0) (r : List UInt8) : pFrame (encL f ++ r) = some (f, r) := by
 obtain ⟨⟨s1, s2⟩, ⟨s3, s4⟩, _, ⟨s5, s6⟩, ⟨s7, s8⟩, hA, hM⟩ := good_facts h
 clear h
 obtain ⟨src, dst, seq, ack, thread, ⟨host, mthread, label, grants, text⟩, certs⟩ := f
 simp only at s1 s2 s3 s4 s5 s6 s7 s8 hA hM
 have hp : ∀ k : Int, byteOk k → HeadOk (k, src, dst, seq) := fun k hk => ⟨hk, ⟨s1, show src < 256 by omega⟩, ⟨s3, show dst < 256 by omega⟩, show 0 ≤ seq by omega, show seq < 256 ^ 6 by omega⟩
 cases ack with
 | true =>
  have h2 := hA rfl
  unfold ackPlain at h2
  simp only [Bool.and_eq_true, beq_iff_eq, decide_eq_true_eq] at h2
  obtain ⟨⟨⟨rfl, rfl⟩, rfl⟩, h3⟩ := h2
  have e1 : label = [] := List.length_eq_zero_iff.1 (by omega)
  have e2 : grants = [] := List.length_eq_zero_iff.1 (by omega)
  have e3 : certs = [] := List.length_eq_zero_iff.1 (by omega)
  have e4 : text = ⟨#[]⟩ := ba_nil (by omega)
  subst e1 e2 e3 e4
  have hh := code_head.par (1, src, dst, seq) r (hp 1 ⟨by omega, by omega⟩)
  have e : encL ⟨src, dst, seq, true, 0, ⟨0, 0, [], [], ⟨#[]⟩⟩, []⟩ ++ r = [b1 1, b1 src, b1 dst] ++ be seq 6 ++ r := by
   unfold encL; rw [if_pos rfl]; simp [headBytes, b1, byteAt]
  rw [e]
  unfold pFrame
  simp only at hh
  rw [hh]
  simp [ackFrame]
 | false =>
  obtain ⟨m1, m2, m3, m4⟩ := hM rfl
  obtain ⟨⟨q1, q2⟩, ⟨q3, q4⟩, q5, q6, q7⟩ := mail_facts m1
  simp only at q1 q2 q3 q4 q5 q6 q7
  subst m2
  obtain ⟨q8, q9⟩ := grants_facts q6
  unfold goodL at q5
  by_cases hl8 : label.length ≤ 8
  ·rw [if_pos hl8] at q5
   have hlev := risesL_mem q5
   have etx : (⟨text.data.toList.toArray⟩ : ByteArray) = text := by apply ByteArray.ext; simp
   have ets : text.data.toList.length = text.size := by rw [Array.length_toList]; rfl
   have hbo : BodyOk ⟨thread, mthread, label, grants, text.data.toList, certs⟩ := by
    refine ⟨⟨s7, by simp only; omega⟩, ⟨q3, by simp only; omega⟩, ⟨by simp only; omega, fun x hx => ?_⟩, ⟨by simp only; omega, fun x hx => ?_⟩, by simp only; omega, by simp only; omega, fun x hx => ?_⟩
    ·have := hlev x hx
     unfold lvOk at this
     simp only [decide_eq_true_eq] at this
     exact ⟨⟨by omega, by omega⟩, ⟨by omega, by omega⟩⟩
    ·have := q9 x hx
     exact ⟨by omega, by omega⟩
    ·obtain ⟨c1, c2, c3, _, c5⟩ := cert_facts (m4 x hx)
     exact ⟨⟨by omega, by omega⟩, ⟨by omega, by omega⟩, ⟨by omega, by omega⟩, by omega, by omega⟩
   have hh := code_head.par (0, host, dst, seq) (bodyBytes ⟨thread, mthread, label, grants, text.data.toList, certs⟩ ++ r) (hp 0 ⟨by omega, by omega⟩)
   have hb := code_body.par ⟨thread, mthread, label, grants, text.data.toList, certs⟩ r hbo
   have e : encL ⟨host, dst, seq, false, thread, ⟨host, mthread, label, grants, text⟩, certs⟩ ++ r = [b1 0, b1 host, b1 dst] ++ be seq 6 ++ (bodyBytes ⟨thread, mthread, label, grants, text.data.toList, certs⟩ ++ r) := by
    unfold encL; rw [if_neg (by simp)]; simp [headBytes, mailBytes, bodyBytes, b1, byteAt, ets]
   rw [e]
   unfold pFrame
   simp only at hh
   rw [hh]
   simp only [Option.bind_some, if_true]
   rw [hb]
   simp [mailFrame, etx]
  ·rw [if_neg hl8] at q5; simp at q5
/-! ### The laws -/
theorem dec_enc {f : Frame} (h : goodFrameC f = 0) : decR (encL f) = (f, 0) := by
 have hp := pFrame_par h []
 rw [List.append_nil] at hp
 rw [decR_some hp, if_pos h]
end Go.Proofs.Ytnjjdpiofbajlaa

/- What a step does to each thread: plain laws. No program, no memory. -/
namespace Go.Proofs.Ytnjjdpiofbajlaa
theorem Ker.thr_put_same {k : Ker} {t : Int} (ht : four t = true) (h4 : k.threads.length = 4) (x : Thr) : (k.put t x).thr t = x := by
 obtain ⟨n, rfl, hn⟩ := four_nat ht
 unfold Ker.put Ker.thr
 simp only [Int.toNat_natCast, List.getD_eq_getElem?_getD]
 rw [List.getElem?_set_self (by omega)]
 rfl
theorem Ker.thr_put_other {k : Ker} {t u : Int} (ht : four t = true) (hu : four u = true) (hne : u ≠ t) (x : Thr) : (k.put t x).thr u = k.thr u := by
 obtain ⟨n, rfl, hn⟩ := four_nat ht
 obtain ⟨m, rfl, hm⟩ := four_nat hu
 unfold Ker.put Ker.thr
 simp only [Int.toNat_natCast, List.getD_eq_getElem?_getD]
 rw [List.getElem?_set_ne (by omega)]
theorem ownC_mem {l : List Int} {c d : Int} (h : d ∈ l) : d ∈ (ownC l c).1 := by
 unfold ownC
 split
 ·exact h
 ·split
  ·exact h
  ·exact insI_mem.2 (.inr h)
theorem ownC_new {l : List Int} {c d : Int} (h : d ∈ (ownC l c).1) : d ∈ l ∨ (d = c ∧ (ownC l c).2 = 0) := by
 unfold ownC at h ⊢
 split
 ·rw [if_pos (by assumption)] at h; exact .inl h
 ·rw [if_neg (by assumption)] at h
  split
  ·rw [if_pos (by assumption)] at h; exact .inl h
  ·rw [if_neg (by assumption)] at h
   rcases insI_mem.1 h with rfl | h
   ·exact .inr ⟨rfl, rfl⟩
   ·exact .inl h
theorem ownAll_mem (gs : List Int) : ∀ {l : List Int} {d : Int}, d ∈ l → d ∈ ownAll l gs := by
 induction gs with
 | nil => exact fun h => h
 | cons g gs ih =>
  intro l d h
  unfold ownAll
  split
  ·exact ih (ownC_mem h)
  ·exact h
theorem ownAll_new (gs : List Int) : ∀ {l : List Int} {d : Int}, d ∈ ownAll l gs → d ∈ l ∨ d ∈ gs := by
 induction gs with
 | nil => exact fun h => .inl h
 | cons g gs ih =>
  intro l d h
  unfold ownAll at h
  split at h
  ·rcases ih h with h | h
   ·rcases ownC_new h with h | ⟨rfl, _⟩
    ·exact .inl h
    ·exact .inr (by simp)
   ·exact .inr (by simp [h])
  ·exact .inl h
theorem eff_put {k : Ker} {t : Int} {c : Req} {r : Rep} {v : Int} (hv : four v = true) (h4 : k.threads.length = 4) {y : Thr} (hy : Eff k t c r v (k.thr v) y) {u : Int} (hu : four u = true) : Eff k t c r u (k.thr u) ((k.put v y).thr u) := by
 by_cases e : u = v
 ·subst e; rw [Ker.thr_put_same hu h4]; exact hy
 ·rw [Ker.thr_put_other hv hu e]; exact Eff.refl ..
theorem callK_eff (k : Ker) (t : Int) (ht : four t = true) (h4 : k.threads.length = 4) (c : Req) (u : Int) (hu : four u = true) : Eff k t c (callK k t c).2 u (k.thr u) ((callK k t c).1.thr u) := by
 unfold callK
 dsimp only
 split
 ·rename_i hk
  split
  ·exact Eff.refl ..
  ·split
   ·exact Eff.refl ..
   ·rename_i ho
    show Eff k t c _ u (k.thr u) ((k.put t { k.thr t with own := (ownC (k.thr t).own (k.host * 20 + k.made)).1 }).thr u)
    refine eff_put ht h4 ?_ hu
    refine ⟨fun h => absurd rfl h, .inl rfl, fun d hd => ownC_mem hd, fun d hd => ?_, Nat.le_refl _, fun n o o' h h' => ?_, .inl rfl, fun _ h => h, Nat.le_refl _⟩
    ·rcases ownC_new hd with h | ⟨rfl, _⟩
     ·exact .inl h
     ·exact .inr ⟨rfl, rfl, .inl ⟨hk, rfl⟩⟩
    ·rw [h] at h'; cases h'; exact ⟨rfl, .inl rfl⟩
 split
 ·split
  ·exact Eff.refl ..
  ·split
   ·exact Eff.refl ..
   ·split
    ·exact Eff.refl ..
    ·refine eff_put ht h4 ?_ hu
     refine ⟨fun h => absurd rfl h, .inl rfl, fun _ h => h, fun _ h => .inl h, by simp, fun n o o' h h' => ?_, .inl rfl, fun _ h => h, Nat.le_refl _⟩
     have hn := (List.getElem?_eq_some_iff.1 h).1
     simp only at h'
     rw [List.getElem?_append_left hn, h] at h'
     cases h'
     exact ⟨rfl, .inl rfl⟩
 split
 ·rename_i hk
  cases e : k.obj c.t c.n with
  | none => exact Eff.refl ..
  | some o =>
   dsimp only
   split
   ·rename_i hf
    have hobj := e
    unfold Ker.obj at hobj
    split at hobj
    ·rename_i hg
     refine eff_put hg.1 h4 ?_ hu
     refine ⟨fun _ => ⟨rfl, rfl, rfl, rfl⟩, .inl rfl, fun _ h => h, fun _ h => .inl h, by simp [Thr.putObj], fun n p p' h h' => ?_, .inl rfl, fun _ h => h, Nat.le_refl _⟩
     unfold Thr.putObj at h'
     simp only at h'
     rw [List.getElem?_set] at h'
     split at h'
     ·rename_i hn
      subst hn
      rw [if_pos (List.getElem?_eq_some_iff.1 h).1] at h'
      cases h'
      rw [hobj] at h
      cases h
      exact ⟨rfl, .inr ⟨hk, hf⟩⟩
     ·rw [h] at h'; cases h'; exact ⟨rfl, .inl rfl⟩
    ·cases hobj
   ·exact Eff.refl ..
 split
 ·rename_i hk
  cases e : k.obj c.t c.n with
  | none => exact Eff.refl ..
  | some o =>
   dsimp only
   split
   ·rename_i hf
    refine eff_put ht h4 ?_ hu
    refine ⟨fun h => absurd rfl h, .inl rfl, fun _ h => h, fun _ h => .inl h, Nat.le_refl _, fun n o o' h h' => ?_, .inr ⟨rfl, .inr (.inr ⟨hk, rfl, o, e, hf⟩)⟩, fun _ h => h, Nat.le_refl _⟩
    rw [h] at h'; cases h'; exact ⟨rfl, .inl rfl⟩
   ·exact Eff.refl ..
 split
 ·rename_i hk
  split
  ·exact Eff.refl ..
  ·rename_i he
   split
   ·exact Eff.refl ..
   ·rename_i hf
    refine eff_put ht h4 ?_ hu
    refine ⟨fun h => absurd rfl h, .inr ⟨rfl, hk, rfl, by simpa using hf, rfl, by simpa using he⟩, fun _ h => h, fun _ h => .inl h, Nat.le_refl _, fun n o o' h h' => ?_, .inl rfl, fun _ h => h, Nat.le_refl _⟩
    rw [h] at h'; cases h'; exact ⟨rfl, .inl rfl⟩
 split
 ·rename_i hk
  unfold takeK
  obtain ⟨h1, h2, h3⟩ := takeM_sub (k.thr t).label (k.thr t).own (k.thr t).mails
  refine eff_put ht h4 ?_ hu
  unfold takeX
  generalize takeM (k.thr t).label (k.thr t).own (k.thr t).mails = q at *
  obtain ⟨o, l⟩ := q
  cases o with
  | none =>
   refine ⟨fun h => absurd rfl h, .inl rfl, fun _ h => h, fun _ h => .inl h, Nat.le_refl _, fun n o o' h h' => ?_, .inl rfl, fun m h => h1 m h, h2⟩
   rw [h] at h'; cases h'; exact ⟨rfl, .inl rfl⟩
  | some m =>
   refine ⟨fun h => absurd rfl h, .inl rfl, fun _ h => ownAll_mem _ h, fun d hd => ?_, Nat.le_refl _, fun n o o' h h' => ?_, .inr ⟨rfl, .inr (.inl ⟨hk, rfl⟩)⟩, fun m h => h1 m h, h2⟩
   ·rcases ownAll_new _ hd with h | h
    ·exact .inl h
    ·exact .inr ⟨rfl, rfl, .inr ⟨hk, m, (h3 m rfl).1, h⟩⟩
   ·rw [h] at h'; cases h'; exact ⟨rfl, .inl rfl⟩
 split
 ·rename_i hk
  refine eff_put ht h4 ?_ hu
  refine ⟨fun h => absurd rfl h, .inl rfl, fun _ h => h, fun _ h => .inl h, Nat.le_refl _, fun n o o' h h' => ?_, .inr ⟨rfl, .inl hk⟩, fun _ h => h, Nat.le_refl _⟩
  rw [h] at h'; cases h'; exact ⟨rfl, .inl rfl⟩
 split
 ·exact Eff.refl ..
 ·exact Eff.refl ..
theorem stepC_eff (k : Ker) (t : Int) (h4 : k.threads.length = 4) (c : Req) (u : Int) (hu : four u = true) : Eff k t c (stepC k t c).2 u (k.thr u) ((stepC k t c).1.thr u) := by
 unfold stepC
 split
 ·exact Eff.refl ..
 ·rename_i ht
  split
  ·exact Eff.refl ..
  ·exact callK_eff k t (by simpa using ht) h4 c u hu
end Go.Proofs.Ytnjjdpiofbajlaa

/- The walk through play: acts in a new cluster, and what is looked at behind each. -/
namespace Go.Proofs.Ytnjjdpiofbajlaa
open Go.RowKit
section
variable {w0 Wd W : World} {M0 : List Nat} {own : Blks} {X D : Nat → Prop} {gc : Nat} {kg : List Nat} {C : Clu}
theorem Clus.told (P : Clus w0 M0 own X Wd D gc kg C W) {V : World} {own2 : Blks} (st : St (own.map (·.1)) W V own2) : Clus w0 M0 own2 X V (fun b => W.heap.size ≤ b ∧ ∀ x ∈ own2, x.1 ≠ b) gc kg C V := by
 obtain ⟨st1, hok1, -, -, hX, ok, BB, na, nc, L, hA, hB, hO⟩ := P
 have hmine : ∀ x ∈ own2, x.1 ∈ own.map (·.1) ∨ W.heap.size ≤ x.1 := st.mine
 have hno : ∀ b ∈ cluB gc na BB, b ∉ own.map (·.1) := fun b hb hm => by
  obtain ⟨x, hx, e⟩ := List.mem_map.1 hm
  exact (hB b hb).2.1 x hx e
 refine ⟨St.back st1 st, hok1, ⟨Nat.le_refl _, fun _ _ _ => rfl⟩, fun x hx hd => hd.1.2 x hx rfl, hX, ok, BB, na, nc, L, ?_, fun b hb => ⟨(hB b hb).1, fun x hx e => ?_, fun hd => ?_⟩, fun b hb => ⟨Nat.lt_of_lt_of_le (hO b hb).1 st.size, fun x hx e => ?_, (hO b hb).2.2⟩⟩
 ·exact hA.move st.size (fun b hb ho => ⟨ho, st.frame b hb fun hm => by
   obtain ⟨x, hx, e⟩ := List.mem_map.1 hm
   exact (hO b ho).2.1 x hx e⟩) fun b hb => ⟨st.frame b (hA.lt b hb) (hno b hb), hA.apart b hb⟩
 ·rcases hmine x hx with h1 | h1
  ·exact hno b hb (e ▸ h1)
  ·have := hA.lt b hb; omega
 ·have := hA.lt b hb; have := hd.1.1; omega
 ·rcases hmine x hx with h1 | h1
  ·obtain ⟨y, hy, e2⟩ := List.mem_map.1 h1
   exact (hO b hb).2.1 y hy (e2.trans e)
  ·have := (hO b hb).1; omega
end
end Go.Proofs.Ytnjjdpiofbajlaa

/- What an act does to each thread of a cluster: plain laws. No program, no memory. -/
namespace Go.Proofs.Ytnjjdpiofbajlaa
theorem deliverK_thr (k : Ker) (t : Int) (h4 : k.threads.length = 4) (m : Mail) (u : Int) (hu : four u = true) : (deliverK k t m).thr u = k.thr u ∨
  (u = t ∧ (deliverK k t m).thr u = { k.thr u with mails := (k.thr u).mails ++ [m] } ∧ flowsL m.label (k.thr u).label (k.thr u).own = true ∧ (k.thr u).mails.length < 6 ∧ goodMailC m = 0) := by
 unfold deliverK
 split
 ·exact .inl rfl
 ·rename_i ht
  have ht : four t = true := by simpa using ht
  split
  ·exact .inl rfl
  ·rename_i hg
   split
   ·rename_i hf
    by_cases e : u = t
    ·subst e
     rw [Ker.thr_put_same hu h4]
     exact .inr ⟨rfl, rfl, hf.1, hf.2, by simpa using hg⟩
    ·rw [Ker.thr_put_other ht hu e]
     exact .inl rfl
   ·exact .inl rfl
section
variable {C : Clu}
theorem Clu.ker_setKer_same (h : C.ok) {n : Nat} (hn : n < 4) (k : Ker) : (C.setKer n k).ker n = k := by
 unfold Clu.setKer Clu.ker
 simp only [Int.toNat_natCast, List.getD_eq_getElem?_getD]
 rw [List.getElem?_set_self (by rw [h.kerN]; exact hn)]
 rfl
theorem Clu.ker_setKer_other {n m : Nat} (hne : m ≠ n) (k : Ker) : (C.setKer n k).ker m = C.ker m := by
 unfold Clu.setKer Clu.ker
 simp only [Int.toNat_natCast, List.getD_eq_getElem?_getD]
 rw [List.getElem?_set_ne (by omega)]
theorem pushC_line (f : Frame) (h v : Int) : (pushC C f).line h v = C.line h v := by unfold Clu.line; rw [(pushC_same C f).2.2.2.1]
theorem tickAll_same : ∀ (n i : Nat) (C : Clu), (tickAll n i C).1.now = C.now ∧ (tickAll n i C).1.kers = C.kers ∧ (tickAll n i C).1.certs = C.certs ∧ (tickAll n i C).1.acts = C.acts
 | 0, _, _ => ⟨rfl, rfl, rfl, rfl⟩
 | n + 1, i, C => by
  unfold tickAll
  dsimp only
  obtain ⟨h1, h2, h3, h4⟩ := tickAll_same n (i + 1) (pushAll { C with lines := C.lines.set i (againLn (C.lines.getD i zeroL) C.now).1 } (againLn (C.lines.getD i zeroL) C.now).2)
  obtain ⟨g1, g2, g3, g4, g5⟩ := pushAll_same (againLn (C.lines.getD i zeroL) C.now).2 { C with lines := C.lines.set i (againLn (C.lines.getD i zeroL) C.now).1 }
  exact ⟨h1.trans g1, h2.trans g2, h3.trans g3, h4.trans g5⟩
theorem tickC_same (n : Int) : (tickC C n).1.kers = C.kers ∧ (tickC C n).1.certs = C.certs ∧ (tickC C n).1.acts = C.acts := by
 unfold tickC
 split
 ·exact ⟨rfl, rfl, rfl⟩
 ·obtain ⟨h1, h2, h3, h4⟩ := tickAll_same 16 0 { C with now := C.now + n }
  exact ⟨h2, h3, h4⟩
theorem deliver_thr (hok : C.ok) {n : Nat} (hn : n < 4) {t' : Int} {m : Mail} {h t : Int} (h4 : four h = true) (t4 : four t = true) : (C.setKer n (deliverK (C.ker n) t' m)).thr h t = C.thr h t ∨
  (h = n ∧ t = t' ∧ (C.setKer n (deliverK (C.ker n) t' m)).thr h t = { C.thr h t with mails := (C.thr h t).mails ++ [m] } ∧ flowsL m.label (C.thr h t).label (C.thr h t).own = true ∧ (C.thr h t).mails.length < 6 ∧ goodMailC m = 0) := by
 obtain ⟨i, rfl, hi⟩ := four_nat h4
 obtain ⟨k, ek, e2, hk, hkh⟩ := hok.kerAt hn
 unfold Clu.thr
 by_cases e : i = n
 ·subst e
  rw [Clu.ker_setKer_same hok hi]
  rcases deliverK_thr (C.ker i) t' (by rw [e2]; exact hk.four) m t t4 with h | ⟨h1, h2, h3, h5, h6⟩
  ·exact .inl h
  ·exact .inr ⟨rfl, h1, h2, h3, h5, h6⟩
 ·rw [Clu.ker_setKer_other e]
  exact .inl rfl
theorem comeF_line (h : C.ok) {f : Frame} (hg : goodFrameC f = 0) (hack : f.ack = false) : (C.setLine f.src f.dst (tookLn (C.line f.src f.dst) f.seq).1).ok := by
 obtain ⟨g1, g2, -, -, -, -⟩ := goodF_facts hg
 obtain ⟨n, en, hn⟩ := four_nat g1
 obtain ⟨m, em, hm⟩ := four_nat g2
 obtain ⟨L, eL, e3, hL, hs⟩ := h.lineAt hn hm
 obtain ⟨q1, q2, _⟩ := tookLn_ok hL f.seq
 rw [en, em, e3]
 exact h.setLine q1 fun s hs' => hs s (by rw [q2] at hs'; exact hs')
theorem doC_thr (hok : C.ok) (a : Deed) {h t : Int} (h4 : four h = true) (t4 : four t = true) : ThrEff C a (doC C a).2 h t (C.thr h t) ((doC C a).1.thr h t) := by
 unfold doC
 split
 ·exact .same rfl
 have hok1 : ({ C with acts := C.acts + 1 } : Clu).ok := ⟨hok.now, hok.kerN, hok.ker, hok.certN, hok.cert, hok.lineN, hok.line, hok.netN, hok.net, by have := hok.acts; simp only; omega⟩
 unfold actC
 split
 ·rename_i k1
  split
  ·exact .same rfl
  rename_i hf
  have a4 : four a.h = true := by simpa using (not_or.1 hf).1
  have b4 : four a.t = true := by simpa using (not_or.1 hf).2
  obtain ⟨n, e, hn⟩ := four_nat a4
  unfold callC
  split
  ·rename_i k6
   split
   ·exact .same rfl
   split
   ·exact .same rfl
   split
   ·exact .same rfl
   rename_i hx4 hl
   have hl : (letterK (C.ker a.h) a.t a.call).2 = 0 := by
    have h0 : ¬ (letterK (C.ker a.h) a.t a.call).2 ≠ 0 := hl
    simpa using h0
   have hl2 : letterK (C.ker a.h) a.t a.call = ((letterK (C.ker a.h) a.t a.call).1, 0) := by rw [← hl]
   show ThrEff C a (errR (sendC _ a.h a.call.h a.call.t (letterK (C.ker a.h) a.t a.call).1).2) h t (C.thr h t) ((sendC _ a.h a.call.h a.call.t (letterK (C.ker a.h) a.t a.call).1).1.thr h t)
   generalize (letterK (C.ker a.h) a.t a.call).1 = m at hl2
   unfold sendC
   split
   ·rename_i hv
    rw [e] at hv hl2 ⊢
    rcases deliver_thr hok1 hn (t' := a.call.t) (m := m) h4 t4 with h1 | ⟨q1, q2, q3, q4, q5, q6⟩
    ·exact .same h1
    ·exact .mail m q3 q4 q5 q6 (.here k1 k6 (e.trans q1.symm) (hv.symm.trans q1.symm) q2.symm b4 rfl (by rw [q1]; exact hl2))
   ·split
    ·exact .same rfl
    ·split
     ·exact .same rfl
     ·refine .same ?_
      unfold Clu.thr
      rw [pushC_ker]
      rfl
  ·rename_i k6
   split
   ·rename_i k8
    split
    ·exact .same rfl
    split
    ·exact .same rfl
    split
    ·exact .same rfl
    ·exact .same rfl
   ·rename_i k8
    rw [e]
    obtain ⟨i, rfl, hi⟩ := four_nat h4
    by_cases q : i = n
    ·subst q
     refine .call k1 e b4 k6 k8 ?_ rfl
     show ((Clu.setKer _ _ _).ker i).thr t = _
     rw [Clu.ker_setKer_same hok1 hi]
     rfl
    ·refine .same ?_
     show ((Clu.setKer _ _ _).ker i).thr t = _
     rw [Clu.ker_setKer_other q]
     rfl
 rename_i k1
 split
 ·rename_i k234
  split
  ·exact .same rfl
  rename_i hn
  obtain ⟨i, ei⟩ := Int.eq_ofNat_of_zero_le (show 0 ≤ a.n by omega)
  have hi : i < C.net.length := by simp only at hn; omega
  dsimp only
  by_cases k4 : a.kind = 4
  ·rw [if_pos k4]
   refine .same ?_
   split <;> rfl
  rw [if_neg k4]
  have hs : C.net[a.n.toNat]? = some (C.net.getD a.n.toNat ⟨#[]⟩) := by rw [ei, Int.toNat_natCast, List.getD_eq_getElem?_getD, List.getElem?_eq_getElem hi]; rfl
  generalize C.net.getD a.n.toNat ⟨#[]⟩ = s at hs
  have hok2 : (if a.kind = 3 then ({ C with acts := C.acts + 1 } : Clu) else { C with acts := C.acts + 1, net := C.net.eraseIdx a.n.toNat }).ok := by
   split
   ·exact hok1
   ·exact ⟨hok1.now, hok1.kerN, hok1.ker, hok1.certN, hok1.cert, hok1.lineN, hok1.line, Nat.le_trans (List.length_eraseIdx_le _ _) hok1.netN, fun s hs => hok1.net s (List.mem_of_mem_eraseIdx hs), hok1.acts⟩
  have hC2 : ∀ v w, (if a.kind = 3 then ({ C with acts := C.acts + 1 } : Clu) else { C with acts := C.acts + 1, net := C.net.eraseIdx a.n.toNat }).thr v w = C.thr v w := fun v w => by split <;> rfl
  have hC3 : ∀ v w, (if a.kind = 3 then ({ C with acts := C.acts + 1 } : Clu) else { C with acts := C.acts + 1, net := C.net.eraseIdx a.n.toNat }).line v w = C.line v w := fun v w => by split <;> rfl
  have hC4 : ∀ v, (if a.kind = 3 then ({ C with acts := C.acts + 1 } : Clu) else { C with acts := C.acts + 1, net := C.net.eraseIdx a.n.toNat }).cert v = C.cert v := fun v => by split <;> rfl
  have hC5 : (if a.kind = 3 then ({ C with acts := C.acts + 1 } : Clu) else { C with acts := C.acts + 1, net := C.net.eraseIdx a.n.toNat }).now = C.now := by split <;> rfl
  show ThrEff C a ⟨0, s.size, ⟨#[]⟩⟩ h t (C.thr h t) ((comeC (if a.kind = 3 then ({ C with acts := C.acts + 1 } : Clu) else { C with acts := C.acts + 1, net := C.net.eraseIdx a.n.toNat }) s).thr h t)
  generalize (if a.kind = 3 then ({ C with acts := C.acts + 1 } : Clu) else { C with acts := C.acts + 1, net := C.net.eraseIdx a.n.toNat }) = E at hok2 hC2 hC3 hC4 hC5
  unfold comeC
  split
  ·exact .same (hC2 h t)
  rename_i hd
  have hd : decR s.data.toList = ((decR s.data.toList).1, 0) := by
   have : (decR s.data.toList).2 = 0 := by simpa using hd
   rw [← this]
  generalize (decR s.data.toList).1 = f at hd
  have hg := (dec_only hd).2
  obtain ⟨g1, g2, g3, g4, g5, g6⟩ := goodF_facts hg
  unfold comeF
  split
  ·exact .same (hC2 h t)
  rename_i hack
  have hack : f.ack = false := by simpa using hack
  split
  ·rename_i htk
   rw [hC3] at htk
   have hok3 := (Clu.ok.push (comeF_line hok2 hg hack) (ackOf f))
   have hE : ∀ v w, (pushC (E.setLine f.src f.dst (tookLn (E.line f.src f.dst) f.seq).1) (ackOf f)).thr v w = C.thr v w := fun v w => by
    rw [← hC2 v w]; unfold Clu.thr; rw [pushC_ker]; rfl
   have hE2 : ∀ v, (pushC (E.setLine f.src f.dst (tookLn (E.line f.src f.dst) f.seq).1) (ackOf f)).cert v = C.cert v := fun v => by
    rw [← hC4 v, pushC_cert]; rfl
   have hE3 : (pushC (E.setLine f.src f.dst (tookLn (E.line f.src f.dst) f.seq).1) (ackOf f)).now = C.now := by
    rw [← hC5, (pushC_same _ _).1]; rfl
   generalize (pushC (E.setLine f.src f.dst (tookLn (E.line f.src f.dst) f.seq).1) (ackOf f)) = G at hok3 hE hE2 hE3
   unfold tookC
   split
   ·rename_i hmay
    rw [hE2, hE3] at hmay
    obtain ⟨n, en, hn⟩ := four_nat g2
    obtain ⟨l, el, e4, hl⟩ := hok3.certAt hn
    have hok4 := hok3.setCert (n := f.dst) (addAll_ok f.certs (by rw [en, e4]; exact hl : goodCerts (G.cert f.dst) = true))
    have hF := deliver_thr hok4 hn (t' := f.thread) (m := f.mail) h4 t4
    rw [← en] at hF
    have hx : (G.setCert f.dst (addAll (G.cert f.dst) f.certs)).thr h t = C.thr h t := hE h t
    rw [hx] at hF
    rcases hF with h1 | ⟨q1, q2, q3, q4, q5, q6⟩
    ·exact .same h1
    ·exact .mail f.mail q3 q4 q5 q6 (.came s f (by omega) hs hd hack q1.symm q2.symm rfl htk hmay rfl)
   ·exact .same (hE h t)
  ·split
   ·refine .same ?_
    rw [← hC2 h t]; unfold Clu.thr; rw [pushC_ker]; rfl
   ·exact .same (hC2 h t)
 split
 ·refine .same ?_
  unfold Clu.thr Clu.ker
  rw [(tickC_same (C := { C with acts := C.acts + 1 }) a.n).1]
 ·exact .same rfl
end
end Go.Proofs.Ytnjjdpiofbajlaa

/- What an act does to what threads own, and to their labels; the threads of a cluster as a row. No program, no memory. -/
namespace Go.Proofs.Ytnjjdpiofbajlaa
theorem thrsOf_len (C : Clu) : (thrsOf C).length = 16 := by simp [thrsOf]
theorem thrsOf_at (C : Clu) {h t : Nat} (hh : h < 4) (ht : t < 4) : (thrsOf C)[h * 4 + t]? = some (C.thr h t) := by
 unfold thrsOf
 rw [List.getElem?_map, List.getElem?_range (by omega)]
 simp only [Option.map_some]
 rw [show (h * 4 + t) / 4 = h by omega, show (h * 4 + t) % 4 = t by omega]
theorem thrsOf_new : thrsOf newC = List.replicate 16 zeroT := by rfl
theorem mixL_zero {α : Type} (l l' : List α) : mixL l l' 0 = l := rfl
theorem mixL_all {α : Type} {l l' : List α} (h : l.length = l'.length) : mixL l l' l.length = l' := by
 unfold mixL
 rw [List.take_of_length_le (by omega), List.drop_of_length_le (by omega), List.append_nil]
theorem mixL_len {α : Type} {l l' : List α} (h : l.length = l'.length) (k : Nat) : (mixL l l' k).length = l.length := by
 simp [mixL]; omega
theorem mixL_at {α : Type} {l l' : List α} (h : l.length = l'.length) {k : Nat} (hk : k < l.length) : (mixL l l' k)[k]? = l[k]? := by
 unfold mixL
 rw [List.getElem?_append_right (by rw [List.length_take]; omega), List.getElem?_drop, List.length_take]
 congr 1
 omega
theorem mixL_set {α : Type} {l l' : List α} (h : l.length = l'.length) {k : Nat} (hk : k < l.length) {x : α} (hx : l'[k]? = some x) : (mixL l l' k).set k x = mixL l l' (k + 1) := by
 unfold mixL
 refine List.ext_getElem? fun i => ?_
 rw [List.getElem?_set]
 have t1 : (l'.take k).length = k := by rw [List.length_take]; omega
 have t2 : (l'.take (k + 1)).length = k + 1 := by rw [List.length_take]; omega
 by_cases e : k = i
 ·subst e
  rw [if_pos rfl, if_pos (by rw [List.length_append, t1, List.length_drop]; omega), List.getElem?_append_left (by omega), List.getElem?_take_of_lt (by omega), hx]
 ·rw [if_neg e]
  by_cases e2 : i < k
  ·rw [List.getElem?_append_left (by omega), List.getElem?_append_left (by omega), List.getElem?_take_of_lt (by omega), List.getElem?_take_of_lt (by omega)]
  ·rw [List.getElem?_append_right (by omega), List.getElem?_append_right (by omega), List.getElem?_drop, List.getElem?_drop, t1, t2]
   congr 1
   omega
end Go.Proofs.Ytnjjdpiofbajlaa

/- What a refused act leaves, how many acts were done, what leaves a host, what comes: plain laws of an act. No program, no memory. -/
namespace Go.Proofs.Ytnjjdpiofbajlaa
section
variable {C : Clu}
theorem doC_may (hok : C.ok) (a : Deed) {h t : Int} {m : Mail} (hm : MailFrom C a (doC C a).2 h t m) : m.host = h ∨ mayB ((doC C a).1.cert h) m.host m (doC C a).1.now = true := by
 cases hm with
 | here k1 k6 ha hh ht h4 hr hl =>
  left
  have hl2 : (letterK (C.ker h) a.t a.call).2 = 0 := by rw [hl]
  obtain ⟨-, q2, -, -, -⟩ := letterK_ok hl2
  rw [hl] at q2
  have h4' : four a.h = true := by
   unfold doC at hr
   split at hr
   ·simp [errR] at hr
   ·unfold actC at hr
    rw [if_pos k1] at hr
    split at hr
    ·simp [errR] at hr
    ·rename_i c1; simpa using (not_or.1 c1).1
  obtain ⟨n, en, hn⟩ := four_nat h4'
  obtain ⟨k, ek, e2, hk, hkh⟩ := hok.kerAt hn
  have hq : m = letterM (C.ker h) a.t a.call := q2
  rw [hq]
  show (C.ker h).host = h
  rw [← ha, en, e2, hkh]
 | came s f k23 hs hd hack hh ht hm htk hmay hr =>
  right
  have hg := (dec_only hd).2
  obtain ⟨g1, g2, g3, g4, g5, g6⟩ := goodF_facts hg
  unfold doC at hr ⊢
  split at hr
  ·simp [errR] at hr
  rename_i c0
  rw [if_neg c0]
  unfold actC at hr ⊢
  rw [if_neg (by omega)] at hr ⊢
  rw [if_pos (by omega)] at hr ⊢
  split at hr
  ·simp [errR] at hr
  rename_i c1
  rw [if_neg c1]
  dsimp only
  rw [if_neg (by omega)]
  have hs2 : C.net.getD a.n.toNat ⟨#[]⟩ = s := by rw [List.getD_eq_getElem?_getD, hs]; rfl
  rw [hs2]
  have hC3 : ∀ v w, (if a.kind = 3 then ({ C with acts := C.acts + 1 } : Clu) else { C with acts := C.acts + 1, net := C.net.eraseIdx a.n.toNat }).line v w = C.line v w := fun v w => by split <;> rfl
  have hC4 : ∀ v, (if a.kind = 3 then ({ C with acts := C.acts + 1 } : Clu) else { C with acts := C.acts + 1, net := C.net.eraseIdx a.n.toNat }).cert v = C.cert v := fun v => by split <;> rfl
  have hC5 : (if a.kind = 3 then ({ C with acts := C.acts + 1 } : Clu) else { C with acts := C.acts + 1, net := C.net.eraseIdx a.n.toNat }).now = C.now := by split <;> rfl
  have hC6 : (if a.kind = 3 then ({ C with acts := C.acts + 1 } : Clu) else { C with acts := C.acts + 1, net := C.net.eraseIdx a.n.toNat }).certs.length = 4 := by split <;> exact hok.certN
  generalize (if a.kind = 3 then ({ C with acts := C.acts + 1 } : Clu) else { C with acts := C.acts + 1, net := C.net.eraseIdx a.n.toNat }) = E at hC3 hC4 hC5 hC6
  unfold comeC
  rw [if_neg (by rw [hd]; simp), hd]
  unfold comeF
  rw [if_neg (by rw [hack]; simp), hC3, if_pos htk]
  have hE2 : ∀ v, (pushC (E.setLine f.src f.dst (tookLn (C.line f.src f.dst) f.seq).1) (ackOf f)).cert v = C.cert v := fun v => by
   rw [← hC4 v, pushC_cert]; rfl
  have hE3 : (pushC (E.setLine f.src f.dst (tookLn (C.line f.src f.dst) f.seq).1) (ackOf f)).now = C.now := by
   rw [← hC5, (pushC_same _ _).1]; rfl
  have hE4 : (pushC (E.setLine f.src f.dst (tookLn (C.line f.src f.dst) f.seq).1) (ackOf f)).certs.length = 4 := by
   rw [(pushC_same _ _).2.2.1]; exact hC6
  generalize (pushC (E.setLine f.src f.dst (tookLn (C.line f.src f.dst) f.seq).1) (ackOf f)) = G at hE2 hE3 hE4
  unfold tookC
  rw [hE2, hE3, if_pos hmay]
  have hset : ((G.setCert f.dst (addAll (C.cert f.dst) f.certs)).setKer f.dst (deliverK (G.ker f.dst) f.thread f.mail)).cert h = addAll (C.cert f.dst) f.certs := by
   obtain ⟨v, ev, hv⟩ := four_nat g2
   rw [← hh]
   show (G.setCert f.dst (addAll (C.cert f.dst) f.certs)).cert f.dst = _
   unfold Clu.setCert Clu.cert
   simp only [List.getD_eq_getElem?_getD]
   rw [List.getElem?_set_self (by rw [hE4, ev]; omega)]
   rfl
  show mayB (((G.setCert f.dst (addAll (C.cert f.dst) f.certs)).setKer f.dst (deliverK (G.ker f.dst) f.thread f.mail)).cert h) m.host m G.now = true
  rw [hset, hE3, ← hm, (g6 hack).2.1]
  exact hmay
theorem doC_comes (hok : C.ok) (a : Deed) {h t : Int} (h4 : four h = true) (t4 : four t = true) : ((doC C a).1.thr h t).mails.length ≤ (C.thr h t).mails.length ∨
  ∃ m, ((doC C a).1.thr h t).mails = (C.thr h t).mails ++ [m] ∧ flowsL m.label ((doC C a).1.thr h t).label ((doC C a).1.thr h t).own = true ∧ goodMailC m = 0 ∧ (m.host = h ∨ mayB ((doC C a).1.cert h) m.host m (doC C a).1.now = true) := by
 cases doC_thr hok a h4 t4 with
 | same e => left; rw [e]; exact Nat.le_refl _
 | call k1 ha q4 k6 k8 e hr =>
  left
  obtain ⟨n, en, hn⟩ := four_nat h4
  obtain ⟨k, ek, e2, hk, hkh⟩ := hok.kerAt hn
  rw [e]
  exact (stepC_eff (C.ker h) a.t (by rw [en, e2]; exact hk.four) a.call t t4).mailsL
 | mail m e hf hl hg hm => exact .inr ⟨m, by rw [e], by rw [e]; exact hf, hg, doC_may hok a hm⟩
end
end Go.Proofs.Ytnjjdpiofbajlaa

/- No more mail comes than was sent: what stands behind each act. No program, no memory. -/
namespace Go.Proofs.Ytnjjdpiofbajlaa
abbrev Sends := Nat → Nat → List (Int × Bool)
def cntS (E : Sends) (p h : Nat) (t : Int) : Nat := (E p h).countP fun x => x.1 == t
def cntT (E : Sends) (p h : Nat) (t : Int) : Nat := (E p h).countP fun x => x.1 == t && x.2
def FrE (E : Sends) (f : Frame) : Prop := f.ack = false → ∃ (i : Nat) (b : Bool), f.seq = i + 1 ∧ (E f.src.toNat f.dst.toNat)[i]? = some (f.thread, b)
structure OnceN (C : Clu) (E : Sends) : Prop where
 next : ∀ p h : Nat, p < 4 → h < 4 → p ≠ h → (C.line p h).next = (E p h).length
 sent : ∀ L ∈ C.lines, ∀ s ∈ L.sent, FrE E s.frame
 net : ∀ s ∈ C.net, ∀ f, decR s.data.toList = (f, 0) → FrE E f
 took : ∀ p h : Nat, p < 4 → h < 4 → p ≠ h → ∀ (i : Nat) (t : Int), (E p h)[i]? = some (t, true) → (i : Int) + 1 ≤ (C.line p h).high ∧ ((C.line p h).high - 8 < (i : Int) + 1 → (C.line p h).seen.get ((C.line p h).high - ((i : Int) + 1)).toNat = true)
def Sends.sub (E E' : Sends) : Prop := ∀ p h (i : Nat) t b, (E p h)[i]? = some (t, b) → ∃ b', (E' p h)[i]? = some (t, b')
def Sends.put (E : Sends) (p h : Nat) (l : List (Int × Bool)) : Sends := fun p' h' => if p' = p ∧ h' = h then l else E p' h'
section
variable {C : Clu} {E : Sends}
theorem OnceN.push (h : OnceN C E) {f : Frame} (hf : FrE E f) : OnceN (pushC C f) E := by
 obtain ⟨-, -, -, hl, -⟩ := pushC_same C f
 refine ⟨fun p q hp hq hne => by rw [pushC_line]; exact h.next p q hp hq hne, fun L hL => h.sent L (by rw [hl] at hL; exact hL), fun s hs => ?_, fun p q hp hq hne => by rw [pushC_line]; exact h.took p q hp hq hne⟩
 unfold pushC at hs
 split at hs
 ·rename_i hc
  obtain ⟨hg, he⟩ := encR_good hc.1
  rcases List.mem_append.1 hs with hs | hs
  ·exact h.net s hs
  ·simp only [List.mem_singleton] at hs
   intro f' hf'
   rw [hs, he] at hf'
   rw [show (⟨(encL f).toArray⟩ : ByteArray).data.toList = encL f from by simp, dec_enc hg] at hf'
   cases hf'
   exact hf
 ·exact h.net s hs
theorem OnceN.pushAll (fs : List Frame) : ∀ {C : Clu}, OnceN C E → (∀ f ∈ fs, FrE E f) → OnceN (Proofs.Ytnjjdpiofbajlaa.pushAll C fs) E := by
 induction fs with
 | nil => exact fun h _ => h
 | cons f fs ih => exact fun h hf => ih (h.push (hf f (by simp))) fun g hg => hf g (by simp [hg])
theorem line_set_same (hok : C.ok) {n m : Nat} (hn : n < 4) (hm : m < 4) (L : Line) : (C.setLine n m L).line n m = L := by
 unfold Clu.setLine Clu.line Proofs.Ytnjjdpiofbajlaa.lineAt
 simp only [Int.toNat_natCast, List.getD_eq_getElem?_getD]
 rw [List.getElem?_set_self (by rw [hok.lineN]; omega)]
 rfl
theorem line_set_other {n m p q : Nat} (hq : q < 4) (hm : m < 4) (hne : ¬ (p = n ∧ q = m)) (L : Line) : (C.setLine n m L).line p q = C.line p q := by
 unfold Clu.setLine Clu.line Proofs.Ytnjjdpiofbajlaa.lineAt
 simp only [Int.toNat_natCast, List.getD_eq_getElem?_getD]
 rw [List.getElem?_set_ne (by omega)]
theorem OnceN.setLine (h : OnceN C E) (hok : C.ok) {n m : Nat} (hn : n < 4) (hm : m < 4) {L : Line} (h1 : L.next = (C.line n m).next) (h2 : L.high = (C.line n m).high) (h3 : L.seen = (C.line n m).seen) (h4 : ∀ s ∈ L.sent, FrE E s.frame) : OnceN (C.setLine n m L) E := by
 refine ⟨fun p q hp hq hne => ?_, fun L' hL' => ?_, h.net, fun p q hp hq hne => ?_⟩
 ·by_cases e : p = n ∧ q = m
  ·obtain ⟨rfl, rfl⟩ := e
   rw [line_set_same hok hp hq, h1]; exact h.next p q hp hq hne
  ·rw [line_set_other hq hm e]; exact h.next p q hp hq hne
 ·rcases List.mem_or_eq_of_mem_set hL' with hL' | rfl
  ·exact h.sent L' hL'
  ·exact h4
 ·by_cases e : p = n ∧ q = m
  ·obtain ⟨rfl, rfl⟩ := e
   rw [line_set_same hok hp hq, h2, h3]; exact h.took p q hp hq hne
  ·rw [line_set_other hq hm e]; exact h.took p q hp hq hne
theorem OnceN.same (h : OnceN C E) {C' : Clu} (hl : C'.lines = C.lines) (hn : ∀ s ∈ C'.net, s ∈ C.net) : OnceN C' E := by
 have e : ∀ p q, C'.line p q = C.line p q := fun p q => by unfold Clu.line; rw [hl]
 exact ⟨fun p q hp hq hne => by rw [e]; exact h.next p q hp hq hne, fun L hL => h.sent L (hl ▸ hL), fun s hs => h.net s (hn s hs), fun p q hp hq hne => by rw [e]; exact h.took p q hp hq hne⟩
end
end Go.Proofs.Ytnjjdpiofbajlaa

/- No more mail comes than was sent: each act keeps what stands. No program, no memory. -/
namespace Go.Proofs.Ytnjjdpiofbajlaa
section
variable {C : Clu} {E : Sends}
def Sent1 (a : Deed) (r : Rep) : Prop := a.kind = 1 ∧ a.call.kind = 6 ∧ r.code = 0
def OnceL (C : Clu) (E : Sends) (a : Deed) (C' : Clu) (r : Rep) (E' : Sends) : Prop :=
 OnceN C' E' ∧ (∀ (p h : Nat) (t : Int), (Sent1 a r → a.h = p ∧ a.call.h = h ∧ a.call.t = t → cntS E' p h t = cntS E p h t + 1) ∧ (¬ (Sent1 a r ∧ a.h = p ∧ a.call.h = h ∧ a.call.t = t) → cntS E' p h t = cntS E p h t)) ∧
 (∀ (p h : Nat) (t : Int), cntT E p h t ≤ cntT E' p h t) ∧ (∀ (h t : Int) (m : Mail), MailFrom C a r h t m → ∃ p h' : Nat, p < 4 ∧ h = h' ∧ m.host = p ∧ cntT E p h' t + 1 ≤ cntT E' p h' t) ∧
 (Sent1 a r → four a.h = true ∧ four a.call.h = true ∧ four a.call.t = true)
theorem OnceN.acting (h : OnceN C E) : OnceN { C with acts := C.acts + 1 } E := h.same rfl fun _ h => h
end
end Go.Proofs.Ytnjjdpiofbajlaa

/- No more mail comes than was sent: the counters of the law. No program, no memory. -/
namespace Go.Proofs.Ytnjjdpiofbajlaa
structure OnceJ (C : Clu) (n : Nat) (ss cs ws : List Int) (E : Sends) : Prop where
 lines : OnceN C E
 ls : ss.length = 64
 lc : cs.length = 64
 s : ∀ p h t : Nat, p < 4 → h < 4 → t < 4 → ss[p * 16 + h * 4 + t]? = some (cntS E p h t : Int)
 c : ∀ p h t : Nat, p < 4 → h < 4 → t < 4 → ∃ c : Nat, cs[p * 16 + h * 4 + t]? = some (c : Int) ∧ c ≤ cntT E p h t
 w : ws = (thrsOf C).map fun x => (x.mails.length : Int)
 le : ∀ (p h : Nat) (t : Int), cntS E p h t ≤ n
def bumpK (cs : List Int) (ev : Option (Nat × Nat × Nat)) (k : Nat) : List Int := match ev with
 | none => cs
 | some (p, h, t) => if h * 4 + t < k then cs.set (p * 16 + h * 4 + t) (cs.getD (p * 16 + h * 4 + t) 0 + 1) else cs
structure OnceA (a : Deed) (r : Rep) (C C' : Clu) (ss ss' cs : List Int) (ev : Option (Nat × Nat × Nat)) : Prop where
 sent : (Sent1 a r ∧ ∃ p h t : Nat, ∃ s : Nat, p < 4 ∧ h < 4 ∧ t < 4 ∧ a.h = p ∧ a.call.h = h ∧ a.call.t = t ∧ s ≤ 120 ∧ ss[p * 16 + h * 4 + t]? = some (s : Int) ∧ ss' = ss.set (p * 16 + h * 4 + t) ((s : Int) + 1)) ∨ (¬ Sent1 a r ∧ ss' = ss)
 evL : ∀ p h t, ev = some (p, h, t) → p < 4 ∧ h < 4 ∧ t < 4
 came : ∀ h t : Nat, h < 4 → t < 4 → (∃ (p : Nat) (m : Mail) (c s : Nat), ev = some (p, h, t) ∧ p < 4 ∧ m.host = p ∧ (C'.thr h t).mails = (C.thr h t).mails ++ [m] ∧ cs[p * 16 + h * 4 + t]? = some (c : Int) ∧ ss'[p * 16 + h * 4 + t]? = some (s : Int) ∧ c + 1 ≤ s ∧ s ≤ 121) ∨
  ((∀ p, ev ≠ some (p, h, t)) ∧ (C'.thr h t).mails.length ≤ (C.thr h t).mails.length)
end Go.Proofs.Ytnjjdpiofbajlaa

/- What is looked at behind an act of a cluster: the walk through TopOnce's closure. -/
namespace Go.Proofs.Ytnjjdpiofbajlaa
open Go.RowKit
def iv (l : List Int) : List Value := l.map (Value.int .i64)
theorem iv_len (l : List Int) : (iv l).length = l.length := List.length_map ..
theorem iv_at {l : List Int} {i : Nat} {x : Int} (h : l[i]? = some x) : (iv l)[i]? = some (.int .i64 x) := by unfold iv; rw [List.getElem?_map, h]; rfl
theorem iv_put (l : List Int) (i : Nat) (x : Int) : putL (iv l) i [.int .i64 x] = iv (l.set i x) := by unfold iv; rw [putL_cons, putL_nil, List.map_set]
def mailsN (C : Clu) : List Int := (thrsOf C).map fun x => (x.mails.length : Int)
theorem mailsN_len (C : Clu) : (mailsN C).length = 16 := by simp [mailsN, thrsOf_len]
theorem mailsN_at (C : Clu) {h t : Nat} (hh : h < 4) (ht : t < 4) : (mailsN C)[h * 4 + t]? = some ((C.thr h t).mails.length : Int) := by
 unfold mailsN; rw [List.getElem?_map, thrsOf_at C hh ht]; rfl
end Go.Proofs.Ytnjjdpiofbajlaa

/- What is looked at behind an act of a cluster: the walk through TopTrusted's closure. -/
namespace Go.Proofs.Ytnjjdpiofbajlaa
open Go.RowKit
def Comes (C C' : Clu) (h t : Int) : Prop :=
 (C'.thr h t).mails.length ≤ (C.thr h t).mails.length ∨
  ∃ m, (C'.thr h t).mails = (C.thr h t).mails ++ [m] ∧ flowsL m.label (C'.thr h t).label (C'.thr h t).own = true ∧ goodMailC m = 0 ∧ (m.host = h ∨ mayB (C'.cert h) m.host m C'.now = true)
set_option maxRecDepth 100000 in
set_option maxHeartbeats 8000000 in
theorem look_trusted {w0 : World} {gW : Nat} {C C' : Clu} {a : Deed} {r : Rep} (hA : ∀ h t : Nat, h < 4 → t < 4 → Comes C C' h t)
  (hm6 : ∀ h t : Nat, h < 4 → t < 4 → (C.thr h t).mails.length ≤ 6) (gc : Nat) (kg : List Nat) (W Wd : World) (D : Nat → Prop) (la : Option Addr) (lc : Nat) (ga : Option Addr) (gx : Nat)
  (P : Clus w0 [gW] [(gW, 58, iv (mailsN C))] (fun _ => False) Wd D gc kg C' W) :
  Calls Try.prog 16 #[.pointer (some ⟨gc, 0, none⟩), deedV a la lc ga gx, RepV r, .pointer (some ⟨gW, 0, none⟩)] W fun e W' => e = .returned (.bool true) ∧
   ∃ D', Clus w0 [gW] [(gW, 58, iv (mailsN C'))] (fun _ => False) W' D' gc kg C' W' := by
 have hokC' := P.okC
 have HY := Lib.hid (fun (h t : Nat) (hh : h < 4) (ht : t < 4) => (show (C'.thr h t).ok from by
  obtain ⟨k, ek, e2, hk, hkh⟩ := hokC'.kerAt hh
  unfold Clu.thr; rw [e2]; exact hk.at t))
 have HP := Lib.hid P
 have st := P.st.rebase
 simp only [List.map_cons, List.map_nil] at st
 clear P hokC'
 have HCa := Lib.hid hA
 have HM6 := Lib.hid hm6
 clear hA hm6
 obtain ⟨ak, ah, at', an, ck, ch, ct, cn, cc, cl, cg, cx⟩ := a
 obtain ⟨rc, rn, rt⟩ := r
 unfold deedV RepV
 dsimp only
 go_enter Try.func16, Try.ntmps16
 go_upto_region 1 with (first | go_skip | (with_reducible refine mB 32 st ?_; clear st; intro g5 w5 hg5 st) | (with_reducible refine mB 35 st ?_; clear st; intro g6 w6 hg6 st))
 try simp only [kP, kA, kS, kZ]
 have st0 := st
 clear st
 have st := st0
 clear st0
 go_wp2_with (first | go_skip | fail)
 go_loopw [12] (fun v12 wr => ∃ h : Nat, h ≤ 4 ∧ v12 = .int .i64 h ∧ St [gW] W wr [(gW, 58, iv (mixL (mailsN C) (mailsN C') (h * 4))), (g5, 32, [.int .i64 ak, .int .i64 ah, .int .i64 at', .int .i64 an, .int .i64 ck, .int .i64 ch, .int .i64 ct, .int .i64 cn, .int .i64 cc, .slice la cl.length lc, .slice ga cg.length gx, .string cx]), (g6, 35, [.int .i64 rc, .int .i64 rn, .string rt])]) (fun v12 _ => 4 - (intOf v12).toNat)
 case atStart => exact ⟨0, by omega, rfl, by rw [Nat.zero_mul, mixL_zero]; exact st⟩
 case round =>
  clear st
  obtain ⟨V9, rfl⟩ : ∃ V, V = wr := ⟨_, rfl⟩
  obtain ⟨h, hh, rfl, st⟩ := hrel
  by_cases hh4 : h < 4
  case neg =>
   have d1 : decide ((h : Int) < 4) = false := by simp; omega
   obtain rfl : h = 4 := by omega
   have st3 := st.take 1
   simp only [List.take_succ_cons, List.take_zero] at st3
   rw [show 4 * 4 = 16 from rfl, show mixL (mailsN C) (mailsN C') 16 = mailsN C' from by have q := mixL_all (l := mailsN C) (l' := mailsN C') (by rw [mailsN_len, mailsN_len]); rw [mailsN_len] at q; exact q] at st3
   have PE := Lib.hid (HP.out.told st3)
   clear st st3
   go_wp2_with (first | go_skip | fail)
   go_ret
   exact ⟨rfl, _, PE.out⟩
  have d1 : decide ((h : Int) < 4) = true := by simp; omega
  go_wp2_with (first | go_skip | fail)
  go_loopw [15] (fun v15 wr => ∃ t : Nat, t ≤ 4 ∧ v15 = .int .i64 t ∧ St [gW] W wr [(gW, 58, iv (mixL (mailsN C) (mailsN C') (h * 4 + t))), (g5, 32, [.int .i64 ak, .int .i64 ah, .int .i64 at', .int .i64 an, .int .i64 ck, .int .i64 ch, .int .i64 ct, .int .i64 cn, .int .i64 cc, .slice la cl.length lc, .slice ga cg.length gx, .string cx]), (g6, 35, [.int .i64 rc, .int .i64 rn, .string rt])]) (fun v15 _ => 4 - (intOf v15).toNat)
  case atStart => exact ⟨0, by omega, rfl, st⟩
  case round =>
   clear st
   obtain ⟨V0, rfl⟩ : ∃ V, V = wr := ⟨_, rfl⟩
   obtain ⟨t, ht, rfl, st⟩ := hrel
   by_cases ht4 : t < 4
   case neg =>
    have d2 : decide ((t : Int) < 4) = false := by simp; omega
    obtain rfl : t = 4 := by omega
    go_wp2_with (first | go_skip | fail)
    go_roundw
    case rel => exact ⟨h + 1, by omega, by go_num, by rw [show (h + 1) * 4 = h * 4 + 4 by omega]; exact st⟩
    case measure => simp [intOf]; omega
   have d2 : decide ((t : Int) < 4) = true := by simp; omega
   have hyo := HY.out h t hh4 ht4
   have hyn := hyo.mailN
   have hxo := HM6.out h t hh4 ht4
   have hca := HCa.out h t hh4 ht4
   have hlw : (mailsN C).length = (mailsN C').length := by rw [mailsN_len, mailsN_len]
   have HW0 := Lib.hid (iv_at ((mixL_at hlw (k := h * 4 + t) (by rw [mailsN_len]; omega)).trans (mailsN_at C hh4 ht4)))
   have HMX := Lib.hid (mixL_set hlw (k := h * 4 + t) (by rw [mailsN_len]; omega) (mailsN_at C' hh4 ht4))
   have HTh := Lib.hid (fun (V : World) (own2 : Blks) (hV : St [gW] W V own2) => (show ThreadPost V (thrC2 C' h t) = ThreadPost V (C'.thr h t) by rw [thrC2_at C' hh4 ht4]) ▸ cluster_Thread (HP.out.walk hV) h t)
   have hce : certOf C' h = C'.cert h := by unfold certOf; rw [if_pos (four_n hh4)]
   have HCe := Lib.hid (fun (V : World) (own2 : Blks) (hV : St [gW] W V own2) => (show _ from hce ▸ cluster_Certs (HP.out.walk hV) h))
   have HNo := Lib.hid (fun (V : World) (own2 : Blks) (hV : St [gW] W V own2) => cluster_Now (HP.out.walk hV))
   unfold Comes at hca
   generalize C'.thr h t = y at hyo hyn hca HMX HTh
   generalize C.thr h t = x at hxo hca HW0
   obtain ⟨ce, hce2⟩ : ∃ ce, C'.cert h = ce := ⟨_, rfl⟩
   rw [hce2] at HCe hca
   clear hlw hce hce2
   go_upto_region 8 with (first
    | go_skip
    | (go_at_call 10; go_must (refine (HTh.out _ _ st).mono ?_; rintro e v3 ⟨ta, tc, oa, oc, ba, bc, ma, mc, rfl, hb3, hT⟩; have hz := And.intro (st.ltAt (i := 0) rfl) (And.intro (st.ltAt (i := 1) rfl) (st.ltAt (i := 2) rfl)); have hst := st.call hb3; clear st; have st := hst.rebase; simp only [List.map_cons, List.map_nil] at st; unfold thrV))
    | (with_reducible refine mA st Try.zeroValue42 ?_; clear st; intro g10 w12 hg10 st) | (with_reducible refine mS 3 st Try.sizeOf42 ?_; clear st; intro w13 st hw13m hw13z) | (with_reducible refine mX st Try.isAgg40 ?_))
   have hT2 : ThrS (fun _ => True) w13 y ta tc oa oc ba bc ma mc := hT.move st.size fun b hb ho => ⟨trivial, st.frame b hb (by simp; omega)⟩
   have st2 := St.back hst st
   clear st hst
   have st := st2
   clear st2
   rcases hca with hle | ⟨m, hms, hfl, hgm, hmy⟩
   ·have d3 : decide ((x.mails.length : Int) < (y.mails.length : Int)) = false := by simp; omega
    have d3n : decide (x.mails.length < y.mails.length) = false := by simp; omega
    have d3p : ¬ x.mails.length < y.mails.length := by omega
    clear hle hT hT2 hb3
    try simp only [kP, kA, kS, kZ]
    have hI := st.drew
    clear st
    refine lex_region (by kernel_rfl) 9 rfl (fun U => St [gW] W U [(gW, 58, iv (mixL (mailsN C) (mailsN C') (h * 4 + t))), (g5, 32, [.int .i64 ak, .int .i64 ah, .int .i64 at', .int .i64 an, .int .i64 ck, .int .i64 ch, .int .i64 ct, .int .i64 cn, .int .i64 cc, .slice la cl.length lc, .slice ga cg.length gx, .string cx]), (g6, 35, [.int .i64 rc, .int .i64 rn, .string rt]), (g10, 42, [.slice ta y.label.length tc, .slice oa y.own.length oc, .string y.text, .slice ba y.objects.length bc, .slice ma y.mails.length mc])]) ?_
    refine lexS 0 rfl hI ?_
    refine lexT 1 rfl hI (fun W hW => St.run_load hW 3 40 _ rfl Try.isAgg40 rfl rfl rfl) ?_
    refine lexS 2 rfl hI ?_
    refine lexS 3 rfl hI ?_
    refine lexS 4 rfl hI ?_
    refine lexT (v := .pointer (some ⟨gW, h * 4, none⟩)) 5 rfl hI (fun W hW => by (first | (go_simp; done) | (go_simp; omega) | (go_simp; intro h; omega))) ?_
    refine lexT (v := .pointer (some ⟨gW, h * 4 + t, none⟩)) 6 rfl hI (fun W hW => by (first | (go_simp; done) | (go_simp; omega) | (go_simp; intro h; omega))) ?_
    refine lexT 7 rfl hI (fun U hU => St.run_load hU 0 3 _ rfl Try.isAgg3 rfl rfl HW0.out) ?_
    refine lexT (v := .bool false) 8 rfl hI (fun W hW => by (first | (go_simp; done) | (go_simp; omega) | (go_simp; exact d3))) ?_
    have st := hI
    clear hI
    refine lex_done (by decide +kernel) ?_
    go_wp2_with (first | go_skip | fail)
    try simp only [kP, kA, kS, kZ]
    have hI := st.drew
    clear st
    have st := hI
    refine lex_tail (by kernel_rfl) 7 1 [7] rfl (by decide +kernel) (fun U => St [gW] W U [(gW, 58, iv (mixL (mailsN C) (mailsN C') (h * 4 + t))), (g5, 32, [.int .i64 ak, .int .i64 ah, .int .i64 at', .int .i64 an, .int .i64 ck, .int .i64 ch, .int .i64 ct, .int .i64 cn, .int .i64 cc, .slice la cl.length lc, .slice ga cg.length gx, .string cx]), (g6, 35, [.int .i64 rc, .int .i64 rn, .string rt]), (g10, 42, [.slice ta y.label.length tc, .slice oa y.own.length oc, .string y.text, .slice ba y.objects.length bc, .slice ma y.mails.length mc])]) ?_
    refine lexS 0 rfl hI ?_
    refine lexS 1 rfl hI ?_
    refine lexS 2 rfl hI ?_
    refine lexT 3 rfl hI (fun W hW => St.run_load hW 3 40 _ rfl Try.isAgg40 rfl rfl rfl) ?_
    refine lexS 4 rfl hI ?_
    refine lexT (v := .pointer (some ⟨gW, h * 4, none⟩)) 5 rfl hI (fun W hW => by (first | (go_simp; done) | (go_simp; omega) | (go_simp; intro h; omega))) ?_
    refine lexT (v := .pointer (some ⟨gW, h * 4 + t, none⟩)) 6 rfl hI (fun W hW => by (first | (go_simp; done) | (go_simp; omega) | (go_simp; intro h; omega))) ?_
    clear hI
    refine lex_done (by decide +kernel) ?_
    refine tail_last 7 rfl (by first | exact wanted_none rfl | exact wanted_some rfl rfl) (by decide +kernel) (by decide +kernel) fun K hK => ?_
    refine wp_store st 3 _ _ rfl gW (h * 4 + t) rfl (.int .i64 (y.mails.length : Int)) rfl [.int .i64 (y.mails.length : Int)] rfl Try.sizeOf3 (by simp [Value.oneCell']) 0 _ _ rfl (by rw [iv_len, mixL_len (by rw [mailsN_len, mailsN_len]), mailsN_len]; simp only [List.length_cons, List.length_nil]; omega) ?_
    clear st
    intro w20 st hw20m hw20z
    rw [iv_put, HMX.out] at st
    refine hK _ _ ?_; clear hK
    simp only [List.set_cons_succ, List.set_cons_zero] at st
    have st3 := st.take 3
    simp only [List.take_succ_cons, List.take_zero] at st3
    clear st
    go_wp2_with (first | go_skip | fail)
    go_roundw
    case rel => exact ⟨t + 1, by omega, by go_num, by rw [← Nat.add_assoc]; exact st3⟩
    case measure => simp [intOf]; omega
   ·obtain ⟨mh, mt, ml, mg, mx⟩ := m
    have hyl : y.mails.length = x.mails.length + 1 := by rw [hms]; simp
    have hlt : x.mails.length < y.mails.length := by omega
    have hget : y.mails[x.mails.length] = ⟨mh, mt, ml, mg, mx⟩ := by simp [hms]
    obtain ⟨b2, o2, la2, lc2, ga2, gc2, hna, -, hb2, hL2, hG2, hC2⟩ := hT2.mails.mail_at x.mails.length hlt
    rw [hget] at hC2 hL2 hG2
    have d3 : decide ((x.mails.length : Int) < (y.mails.length : Int)) = true := by simp; omega
    have d5 : IntKind.i64.wrap ((y.mails.length : Int) - 1) = (x.mails.length : Int) := by rw [hyl]; push_cast; rw [show ((x.mails.length : Int) + 1 - 1) = x.mails.length by omega]; exact IntWalk.i64_in _ (by omega)
    obtain ⟨hgl1, hgl2, -⟩ := goodM_len hgm
    dsimp only at hgl1 hgl2
    have hflow := Lib.hid hfl
    have HMY := Lib.hid hmy
    have HC2 := Lib.hid hC2
    have HL2a := Lib.hid hL2
    have HG2a := Lib.hid hG2
    have HT2 := Lib.hid (hT2.below (Below.refl _ _).drew)
    have HDr := Lib.hid (Below.refl w13.heap.size w13).drew
    dsimp only at hflow HMY HL2a HG2a
    clear hms hget hT hT2 hb3 hC2 hL2 hG2 hfl hmy hyl
    subst hna
    try simp only [kP, kA, kS, kZ]
    have hI := st.drew
    clear st
    refine lex_region (by kernel_rfl) 9 rfl (fun U => St [gW] W U [(gW, 58, iv (mixL (mailsN C) (mailsN C') (h * 4 + t))), (g5, 32, [.int .i64 ak, .int .i64 ah, .int .i64 at', .int .i64 an, .int .i64 ck, .int .i64 ch, .int .i64 ct, .int .i64 cn, .int .i64 cc, .slice la cl.length lc, .slice ga cg.length gx, .string cx]), (g6, 35, [.int .i64 rc, .int .i64 rn, .string rt]), (g10, 42, [.slice ta y.label.length tc, .slice oa y.own.length oc, .string y.text, .slice ba y.objects.length bc, .slice (some ⟨b2, o2, none⟩) y.mails.length mc])]) ?_
    refine lexS 0 rfl hI ?_
    refine lexT 1 rfl hI (fun W hW => St.run_load hW 3 40 _ rfl Try.isAgg40 rfl rfl rfl) ?_
    refine lexS 2 rfl hI ?_
    refine lexS 3 rfl hI ?_
    refine lexS 4 rfl hI ?_
    refine lexT (v := .pointer (some ⟨gW, h * 4, none⟩)) 5 rfl hI (fun W hW => by (first | (go_simp; done) | (go_simp; omega) | (go_simp; intro h; omega))) ?_
    refine lexT (v := .pointer (some ⟨gW, h * 4 + t, none⟩)) 6 rfl hI (fun W hW => by (first | (go_simp; done) | (go_simp; omega) | (go_simp; intro h; omega))) ?_
    refine lexT 7 rfl hI (fun U hU => St.run_load hU 0 3 _ rfl Try.isAgg3 rfl rfl HW0.out) ?_
    refine lexT (v := .bool true) 8 rfl hI (fun W hW => by (first | (go_simp; done) | (go_simp; omega) | (go_simp; exact d3))) ?_
    have st := hI
    clear hI
    refine lex_done (by decide +kernel) ?_
    have stR := st
    clear st
    have st := stR.rebase
    simp only [List.map_cons, List.map_nil] at st
    go_upto_region 10 with (first
     | go_skip | (with_reducible refine mX st Try.isAgg40 ?_)
     | ((with_reducible refine at_load 46 ?_); refine wpList_load_cells (wanted_none rfl) 46 _ rfl Try.isAgg46 _ Try.sizeOf46 b2 (o2 + x.mails.length * 5) rfl [.int .i64 mh, .int .i64 mt, .slice la2 ml.length lc2, .slice ga2 mg.length gc2, .string mx] rfl (fun j v hv => (HDr.out.cell (p := ⟨b2, o2 + x.mails.length * 5 + j, none⟩) hb2).trans (HC2.out j v hv)) ?_)
     | (with_reducible refine mA st Try.zeroValue46 ?_; clear st; intro g11 w14 hg11 st) | (with_reducible refine mS 4 st Try.sizeOf46 ?_; clear st; intro w15 st hw15m hw15z))
    try simp only [kP, kA, kS, kZ]
    have hB15 := stR.below2 st (by simp)
    have stW := St.back stR st
    have HT := Lib.hid (HT2.out.below hB15)
    have HL2 := Lib.hid (HL2a.out.below (HDr.out.keep hB15))
    have HG2 := Lib.hid (HG2a.out.below (HDr.out.keep hB15))
    have HPB := Lib.hid stW
    have hI := stW.rebase.drew
    simp only [List.map_cons, List.map_nil] at hI
    have HB := Lib.hid (fun (U : World) (hU : St [gW, g5, g6, g10, g11] w15 U [(gW, 58, iv (mixL (mailsN C) (mailsN C') (h * 4 + t))), (g5, 32, [.int .i64 ak, .int .i64 ah, .int .i64 at', .int .i64 an, .int .i64 ck, .int .i64 ch, .int .i64 ct, .int .i64 cn, .int .i64 cc, .slice la cl.length lc, .slice ga cg.length gx, .string cx]), (g6, 35, [.int .i64 rc, .int .i64 rn, .string rt]), (g10, 42, [.slice ta y.label.length tc, .slice oa y.own.length oc, .string y.text, .slice ba y.objects.length bc, .slice (some ⟨b2, o2, none⟩) y.mails.length mc]), (g11, 46, [.int .i64 mh, .int .i64 mt, .slice la2 ml.length lc2, .slice ga2 mg.length gc2, .string mx])]) => stW.below2 hU (by simp))
    clear st stR stW hB15 HT2 HL2a HG2a HDr HC2 HTh
    by_cases e6 : mh = (h : Int)
    ·have d6 : (mh != (h : Int)) = false := by simp [e6]
     clear HMY e6
     refine lex_region (by kernel_rfl) 26 rfl (fun U => St [gW, g5, g6, g10, g11] w15 U [(gW, 58, iv (mixL (mailsN C) (mailsN C') (h * 4 + t))), (g5, 32, [.int .i64 ak, .int .i64 ah, .int .i64 at', .int .i64 an, .int .i64 ck, .int .i64 ch, .int .i64 ct, .int .i64 cn, .int .i64 cc, .slice la cl.length lc, .slice ga cg.length gx, .string cx]), (g6, 35, [.int .i64 rc, .int .i64 rn, .string rt]), (g10, 42, [.slice ta y.label.length tc, .slice oa y.own.length oc, .string y.text, .slice ba y.objects.length bc, .slice (some ⟨b2, o2, none⟩) y.mails.length mc]), (g11, 46, [.int .i64 mh, .int .i64 mt, .slice la2 ml.length lc2, .slice ga2 mg.length gc2, .string mx])]) ?_
     refine lexS 0 rfl hI ?_
     refine lexT 1 rfl hI (fun W hW => St.run_load hW 4 27 _ rfl Try.isAgg27 rfl rfl rfl) ?_
     refine lexS 2 rfl hI ?_
     refine lexT 3 rfl hI (fun W hW => St.run_load hW 3 27 _ rfl Try.isAgg27 rfl rfl rfl) ?_
     refine lexS 4 rfl hI ?_
     refine lexT 5 rfl hI (fun W hW => St.run_load hW 3 28 _ rfl Try.isAgg28 rfl rfl rfl) ?_
     refine lexO 6 rfl fun K hK => ?_
     refine wp_callee (f := 17) (by first | (go_simp; done) | (go_simp; rfl)) ?_
     have hFl := label_Flows (fun _ => True) _ la2 ta oa lc2 tc oc ml y.label y.own (by have := goodL_len hyo.good; omega) (by have := hyo.ownL; omega) (HL2.out.below (HB.out _ hI)) (HT.out.below (HB.out _ hI)).label (HT.out.below (HB.out _ hI)).own
     rw [hflow.out] at hFl
     refine hFl.mono ?_
     rintro e V5 ⟨rfl, hb5⟩
     refine ⟨_, rfl, ?_⟩
     replace hI := hI.call hb5
     clear hb5 hFl
     refine hK _ _ (hI) ?_; clear hK; simp only [kP, kA, kS, kZ]
     refine lexS 7 rfl hI ?_
     refine lexS 8 rfl hI ?_
     refine lexS 9 rfl hI ?_
     refine lexT 10 rfl hI (fun W hW => St.run_load hW 4 3 _ rfl Try.isAgg3 rfl rfl rfl) ?_
     refine lexS 11 rfl hI ?_
     refine lexT (v := .bool false) 12 rfl hI (fun W hW => by (first | (go_simp; done) | (go_simp; exact d6))) ?_
     refine lexS 13 rfl hI ?_
     refine lex_skip 14 rfl (by decide +kernel) (by simp [Region.wanted, yielded]) hI ?_; simp only [kP, kA, kS, kZ]
     refine lex_skip 15 rfl (by decide +kernel) (by simp [Region.wanted, yielded]) hI ?_; simp only [kP, kA, kS, kZ]
     refine lex_skip 16 rfl (by decide +kernel) (by simp [Region.wanted, yielded]) hI ?_; simp only [kP, kA, kS, kZ]
     refine lex_skip 17 rfl (by decide +kernel) (by simp [Region.wanted, yielded]) hI ?_; simp only [kP, kA, kS, kZ]
     refine lex_skip 18 rfl (by decide +kernel) (by simp [Region.wanted, yielded]) hI ?_; simp only [kP, kA, kS, kZ]
     refine lex_skip 19 rfl (by decide +kernel) (by simp [Region.wanted, yielded]) hI ?_; simp only [kP, kA, kS, kZ]
     refine lex_skip 20 rfl (by decide +kernel) (by simp [Region.wanted, yielded]) hI ?_; simp only [kP, kA, kS, kZ]
     refine lex_skip 21 rfl (by decide +kernel) (by simp [Region.wanted, yielded]) hI ?_; simp only [kP, kA, kS, kZ]
     refine lex_skip 22 rfl (by decide +kernel) (by simp [Region.wanted, yielded]) hI ?_; simp only [kP, kA, kS, kZ]
     refine lex_skip 23 rfl (by decide +kernel) (by simp [Region.wanted, yielded]) hI ?_; simp only [kP, kA, kS, kZ]
     refine lexS 24 rfl hI ?_
     refine lexS 25 rfl hI ?_
     have st := St.back HPB.out hI
     clear hI
     refine lex_done (by decide +kernel) ?_
     go_upto_region 12 with (first | go_skip | fail)
     try simp only [kP, kA, kS, kZ]
     have hI := st.drew
     clear st
     have st := hI
     refine lex_tail (by kernel_rfl) 7 1 [7] rfl (by decide +kernel) (fun U => St [gW] W U [(gW, 58, iv (mixL (mailsN C) (mailsN C') (h * 4 + t))), (g5, 32, [.int .i64 ak, .int .i64 ah, .int .i64 at', .int .i64 an, .int .i64 ck, .int .i64 ch, .int .i64 ct, .int .i64 cn, .int .i64 cc, .slice la cl.length lc, .slice ga cg.length gx, .string cx]), (g6, 35, [.int .i64 rc, .int .i64 rn, .string rt]), (g10, 42, [.slice ta y.label.length tc, .slice oa y.own.length oc, .string y.text, .slice ba y.objects.length bc, .slice (some ⟨b2, o2, none⟩) y.mails.length mc]), (g11, 46, [.int .i64 mh, .int .i64 mt, .slice la2 ml.length lc2, .slice ga2 mg.length gc2, .string mx])]) ?_
     refine lexS 0 rfl hI ?_
     refine lexS 1 rfl hI ?_
     refine lexS 2 rfl hI ?_
     refine lexT 3 rfl hI (fun W hW => St.run_load hW 3 40 _ rfl Try.isAgg40 rfl rfl rfl) ?_
     refine lexS 4 rfl hI ?_
     refine lexT (v := .pointer (some ⟨gW, h * 4, none⟩)) 5 rfl hI (fun W hW => by (first | (go_simp; done) | (go_simp; omega) | (go_simp; intro h; omega))) ?_
     refine lexT (v := .pointer (some ⟨gW, h * 4 + t, none⟩)) 6 rfl hI (fun W hW => by (first | (go_simp; done) | (go_simp; omega) | (go_simp; intro h; omega))) ?_
     clear hI
     refine lex_done (by decide +kernel) ?_
     refine tail_last 7 rfl (by first | exact wanted_none rfl | exact wanted_some rfl rfl) (by decide +kernel) (by decide +kernel) fun K hK => ?_
     refine wp_store st 3 _ _ rfl gW (h * 4 + t) rfl (.int .i64 (y.mails.length : Int)) rfl [.int .i64 (y.mails.length : Int)] rfl Try.sizeOf3 (by simp [Value.oneCell']) 0 _ _ rfl (by rw [iv_len, mixL_len (by rw [mailsN_len, mailsN_len]), mailsN_len]; simp only [List.length_cons, List.length_nil]; omega) ?_
     clear st
     intro w20 st hw20m hw20z
     rw [iv_put, HMX.out] at st
     refine hK _ _ ?_; clear hK
     simp only [List.set_cons_succ, List.set_cons_zero] at st
     have st3 := st.take 3
     simp only [List.take_succ_cons, List.take_zero] at st3
     clear st
     go_wp2_with (first | go_skip | fail)
     go_roundw
     case rel => exact ⟨t + 1, by omega, by go_num, by rw [← Nat.add_assoc]; exact st3⟩
     case measure => simp [intOf]; omega
    ·have d6 : (mh != (h : Int)) = true := by simp [e6]
     have hmay := Lib.hid (HMY.out.resolve_left e6)
     clear HMY e6
     refine lex_region (by kernel_rfl) 26 rfl (fun U => St [gW, g5, g6, g10, g11] w15 U [(gW, 58, iv (mixL (mailsN C) (mailsN C') (h * 4 + t))), (g5, 32, [.int .i64 ak, .int .i64 ah, .int .i64 at', .int .i64 an, .int .i64 ck, .int .i64 ch, .int .i64 ct, .int .i64 cn, .int .i64 cc, .slice la cl.length lc, .slice ga cg.length gx, .string cx]), (g6, 35, [.int .i64 rc, .int .i64 rn, .string rt]), (g10, 42, [.slice ta y.label.length tc, .slice oa y.own.length oc, .string y.text, .slice ba y.objects.length bc, .slice (some ⟨b2, o2, none⟩) y.mails.length mc]), (g11, 46, [.int .i64 mh, .int .i64 mt, .slice la2 ml.length lc2, .slice ga2 mg.length gc2, .string mx])]) ?_
     refine lexS 0 rfl hI ?_
     refine lexT 1 rfl hI (fun W hW => St.run_load hW 4 27 _ rfl Try.isAgg27 rfl rfl rfl) ?_
     refine lexS 2 rfl hI ?_
     refine lexT 3 rfl hI (fun W hW => St.run_load hW 3 27 _ rfl Try.isAgg27 rfl rfl rfl) ?_
     refine lexS 4 rfl hI ?_
     refine lexT 5 rfl hI (fun W hW => St.run_load hW 3 28 _ rfl Try.isAgg28 rfl rfl rfl) ?_
     refine lexO 6 rfl fun K hK => ?_
     refine wp_callee (f := 17) (by first | (go_simp; done) | (go_simp; rfl)) ?_
     have hFl := label_Flows (fun _ => True) _ la2 ta oa lc2 tc oc ml y.label y.own (by have := goodL_len hyo.good; omega) (by have := hyo.ownL; omega) (HL2.out.below (HB.out _ hI)) (HT.out.below (HB.out _ hI)).label (HT.out.below (HB.out _ hI)).own
     rw [hflow.out] at hFl
     refine hFl.mono ?_
     rintro e V5 ⟨rfl, hb5⟩
     refine ⟨_, rfl, ?_⟩
     replace hI := hI.call hb5
     clear hb5 hFl
     refine hK _ _ (hI) ?_; clear hK; simp only [kP, kA, kS, kZ]
     refine lexS 7 rfl hI ?_
     refine lexS 8 rfl hI ?_
     refine lexS 9 rfl hI ?_
     refine lexT 10 rfl hI (fun W hW => St.run_load hW 4 3 _ rfl Try.isAgg3 rfl rfl rfl) ?_
     refine lexS 11 rfl hI ?_
     refine lexT (v := .bool true) 12 rfl hI (fun W hW => by (first | (go_simp; done) | (go_simp; exact d6))) ?_
     refine lexS 13 rfl hI ?_
     refine lexS 14 rfl hI ?_
     refine lexS 15 rfl hI ?_
     refine lexS 17 rfl hI ?_
     refine lexT 18 rfl hI (fun W hW => St.run_load hW 4 3 _ rfl Try.isAgg3 rfl rfl rfl) ?_
     refine lexT 19 rfl hI (fun W hW => St.run_load_agg hW 4 46 _ rfl Try.isAgg46 _ Try.sizeOf46 rfl rfl rfl rfl) ?_
     refine lexS 20 rfl hI ?_
     refine lexO 16 rfl fun K hK => ?_
     refine wp_callee (f := 9) (by first | (go_simp; done) | (go_simp; rfl)) ?_
     refine (HCe.out _ _ (St.back HPB.out hI)).mono ?_
     rintro e V2 ⟨ca, cc', rfl, hb2', hO⟩
     refine ⟨_, rfl, ?_⟩
     replace hI := hI.call hb2'
     clear hb2'
     refine hK _ _ (hI) ?_; clear hK; simp only [kP, kA, kS, kZ]
     refine lexO 21 rfl fun K hK => ?_
     refine wp_callee (f := 19) (by first | (go_simp; done) | (go_simp; rfl)) ?_
     refine (HNo.out _ _ (St.back HPB.out hI)).mono ?_
     rintro e V3 ⟨rfl, rfl⟩
     refine ⟨_, rfl, ?_⟩
     refine hK _ _ (hI) ?_; clear hK; simp only [kP, kA, kS, kZ]
     refine lexO 22 rfl fun K hK => ?_
     refine wp_callee (f := 18) (by first | (go_simp; done) | (go_simp; rfl)) ?_
     have hMa := trust_May (fun _ => True) _ ce ca cc' mh ⟨mh, mt, ml, mg, mx⟩ la2 lc2 ga2 gc2 C'.now ⟨by dsimp only; omega, by dsimp only; omega⟩ (hO.slr fun _ _ => trivial) ⟨HL2.out.below (HB.out _ hI), HG2.out.below (HB.out _ hI)⟩
     unfold mailV at hMa
     rw [hmay.out] at hMa
     refine hMa.mono ?_
     rintro e V4 ⟨rfl, hb4⟩
     refine ⟨_, rfl, ?_⟩
     replace hI := hI.call hb4
     clear hb4 hMa hO
     refine hK _ _ (hI) ?_; clear hK; simp only [kP, kA, kS, kZ]
     refine lexS 23 rfl hI ?_
     refine lexS 24 rfl hI ?_
     refine lexS 25 rfl hI ?_
     have st := St.back HPB.out hI
     clear hI
     refine lex_done (by decide +kernel) ?_
     go_upto_region 12 with (first | go_skip | fail)
     try simp only [kP, kA, kS, kZ]
     have hI := st.drew
     clear st
     have st := hI
     refine lex_tail (by kernel_rfl) 7 1 [7] rfl (by decide +kernel) (fun U => St [gW] W U [(gW, 58, iv (mixL (mailsN C) (mailsN C') (h * 4 + t))), (g5, 32, [.int .i64 ak, .int .i64 ah, .int .i64 at', .int .i64 an, .int .i64 ck, .int .i64 ch, .int .i64 ct, .int .i64 cn, .int .i64 cc, .slice la cl.length lc, .slice ga cg.length gx, .string cx]), (g6, 35, [.int .i64 rc, .int .i64 rn, .string rt]), (g10, 42, [.slice ta y.label.length tc, .slice oa y.own.length oc, .string y.text, .slice ba y.objects.length bc, .slice (some ⟨b2, o2, none⟩) y.mails.length mc]), (g11, 46, [.int .i64 mh, .int .i64 mt, .slice la2 ml.length lc2, .slice ga2 mg.length gc2, .string mx])]) ?_
     refine lexS 0 rfl hI ?_
     refine lexS 1 rfl hI ?_
     refine lexS 2 rfl hI ?_
     refine lexT 3 rfl hI (fun W hW => St.run_load hW 3 40 _ rfl Try.isAgg40 rfl rfl rfl) ?_
     refine lexS 4 rfl hI ?_
     refine lexT (v := .pointer (some ⟨gW, h * 4, none⟩)) 5 rfl hI (fun W hW => by (first | (go_simp; done) | (go_simp; omega) | (go_simp; intro h; omega))) ?_
     refine lexT (v := .pointer (some ⟨gW, h * 4 + t, none⟩)) 6 rfl hI (fun W hW => by (first | (go_simp; done) | (go_simp; omega) | (go_simp; intro h; omega))) ?_
     clear hI
     refine lex_done (by decide +kernel) ?_
     refine tail_last 7 rfl (by first | exact wanted_none rfl | exact wanted_some rfl rfl) (by decide +kernel) (by decide +kernel) fun K hK => ?_
     refine wp_store st 3 _ _ rfl gW (h * 4 + t) rfl (.int .i64 (y.mails.length : Int)) rfl [.int .i64 (y.mails.length : Int)] rfl Try.sizeOf3 (by simp [Value.oneCell']) 0 _ _ rfl (by rw [iv_len, mixL_len (by rw [mailsN_len, mailsN_len]), mailsN_len]; simp only [List.length_cons, List.length_nil]; omega) ?_
     clear st
     intro w20 st hw20m hw20z
     rw [iv_put, HMX.out] at st
     refine hK _ _ ?_; clear hK
     simp only [List.set_cons_succ, List.set_cons_zero] at st
     have st3 := st.take 3
     simp only [List.take_succ_cons, List.take_zero] at st3
     clear st
     go_wp2_with (first | go_skip | fail)
     go_roundw
     case rel => exact ⟨t + 1, by omega, by go_num, by rw [← Nat.add_assoc]; exact st3⟩
     case measure => simp [intOf]; omega
end Go.Proofs.Ytnjjdpiofbajlaa

/- What a list of acts leaves: a cluster that is well; acts moved to a later world. -/
namespace Go.Proofs.Ytnjjdpiofbajlaa
open Go.RowKit
theorem RDeed.mv {ok ok' : Nat → Prop} {w w' : World} {cs : List Value} {x : Deed} (h : RDeed ok w cs x) (hs : w.heap.size ≤ w'.heap.size) (hk : ∀ b, b < w.heap.size → ok b → ok' b ∧ w'.heap[b]? = w.heap[b]?) : RDeed ok' w' cs x := by
 obtain ⟨la, lc, ga, gc, e, h1, h2⟩ := h
 exact ⟨la, lc, ga, gc, e, h1.move hs hk fun _ _ r => r, h2.move hs hk fun _ _ r => r⟩
theorem acts_later {w w' : World} {la : Option Addr} {lc : Nat} {l : List Deed} (h : SlR (fun _ => True) w 12 (RDeed (fun _ => True) w) la lc l) (hb : Below w.heap.size w w') : SlR (fun b => b < w.heap.size) w' 12 (RDeed (fun b => b < w.heap.size) w') la lc l :=
 h.move hb.size (fun b hb' _ => ⟨hb', hb.block b hb'⟩) fun cs x r => r.mv hb.size fun b hb' _ => ⟨hb', hb.block b hb'⟩
end Go.Proofs.Ytnjjdpiofbajlaa
