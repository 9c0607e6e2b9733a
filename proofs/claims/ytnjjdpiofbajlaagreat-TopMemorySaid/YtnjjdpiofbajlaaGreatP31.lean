/- Walks and plain laws, part 31. -/
import Derived.Test.YtnjjdpiofbajlaaGreatP26
set_option linter.unusedSimpArgs false
set_option linter.unusedVariables false
set_option maxHeartbeats 16000000
set_option maxRecDepth 100000
namespace Go.Proofs.YtnjjdpiofbajlaaGreat
def Clu.thr (C : Clu) (h t : Int) : Thr := (C.ker h).thr t
inductive MailFrom (C : Clu) (a : Deed) (r : Rep) (h t : Int) (m : Mail) : Prop
 | here (k1 : a.kind = 1) (k6 : a.call.kind = 6) (ha : a.h = h) (hh : a.call.h = h) (ht : a.call.t = t) (h4 : four a.t = true) (hr : r = errR 0) (hl : letterK (C.ker h) a.t a.call = (m, 0))
 | came (s : ByteArray) (f : Frame) (k23 : a.kind = 2 ∨ a.kind = 3) (hs : C.net[a.n.toNat]? = some s) (hd : decR s.data.toList = (f, 0)) (hack : f.ack = false) (hh : f.dst = h) (ht : f.thread = t) (hm : f.mail = m)
   (htk : (tookLn (C.line f.src f.dst) f.seq).2 = 0) (hmay : mayB (addAll (C.cert f.dst) f.certs) f.src f.mail C.now = true) (hr : r.code = 0)
inductive ThrEff (C : Clu) (a : Deed) (r : Rep) (h t : Int) (x y : Thr) : Prop
 | same (e : y = x)
 | call (k1 : a.kind = 1) (ha : a.h = h) (h4 : four a.t = true) (k6 : a.call.kind ≠ 6) (k8 : a.call.kind ≠ 8) (e : y = ((stepC (C.ker h) a.t a.call).1).thr t) (hr : r = (stepC (C.ker h) a.t a.call).2)
 | mail (m : Mail) (e : y = { x with mails := x.mails ++ [m] }) (hf : flowsL m.label x.label x.own = true) (hl : x.mails.length < 6) (hg : goodMailC m = 0) (hm : MailFrom C a r h t m)
section
variable {C : Clu}
theorem Clu.ker_setKer_same (h : C.ok) {n : Nat} (hn : n < 4) (k : Ker) : (C.setKer n k).ker n = k := by
 unfold Clu.setKer Clu.ker
 simp only [Int.toNat_natCast, List.getD_eq_getElem?_getD]
 rw [List.getElem?_set_self (by rw [h.kerN]; exact hn)]
 rfl
theorem pushC_ker (f : Frame) (h : Int) : (pushC C f).ker h = C.ker h := by unfold Clu.ker; rw [(pushC_same C f).2.1]
theorem pushC_line (f : Frame) (h v : Int) : (pushC C f).line h v = C.line h v := by unfold Clu.line; rw [(pushC_same C f).2.2.2.1]
theorem tickAll_same : ∀ (n i : Nat) (C : Clu), (tickAll n i C).1.now = C.now ∧ (tickAll n i C).1.kers = C.kers ∧ (tickAll n i C).1.certs = C.certs ∧ (tickAll n i C).1.acts = C.acts
 | 0, _, _ => ⟨rfl, rfl, rfl, rfl⟩
 | n + 1, i, C => by
  unfold tickAll
  dsimp only
  obtain ⟨h1, h2, h3, h4⟩ := tickAll_same n (i + 1) (pushAll { C with lines := C.lines.set i (againLn (C.lines.getD i zeroL) C.now).1 } (againLn (C.lines.getD i zeroL) C.now).2)
  obtain ⟨g1, g2, g3, g4, g5⟩ := pushAll_same (againLn (C.lines.getD i zeroL) C.now).2 { C with lines := C.lines.set i (againLn (C.lines.getD i zeroL) C.now).1 }
  exact ⟨h1.trans g1, h2.trans g2, h3.trans g3, h4.trans g5⟩
theorem comeF_line (h : C.ok) {f : Frame} (hg : goodFrameC f = 0) (hack : f.ack = false) : (C.setLine f.src f.dst (tookLn (C.line f.src f.dst) f.seq).1).ok := by
 obtain ⟨g1, g2, -, -, -, -⟩ := goodF_facts hg
 obtain ⟨n, en, hn⟩ := four_nat g1
 obtain ⟨m, em, hm⟩ := four_nat g2
 obtain ⟨L, eL, e3, hL, hs⟩ := h.lineAt hn hm
 obtain ⟨q1, q2, _⟩ := tookLn_ok hL f.seq
 rw [en, em, e3]
 exact h.setLine q1 fun s hs' => hs s (by rw [q2] at hs'; exact hs')
end
end Go.Proofs.YtnjjdpiofbajlaaGreat
