/- Walks and plain laws that the claim rests on, part 36. -/
import Derived.Test.YtnjjdpiofbajlaaP1
import Derived.Test.YtnjjdpiofbajlaaP2
import Derived.Test.YtnjjdpiofbajlaaP3
import Derived.Test.YtnjjdpiofbajlaaP4
import Derived.Test.YtnjjdpiofbajlaaP5
import Derived.Test.YtnjjdpiofbajlaaP6
import Derived.Test.YtnjjdpiofbajlaaP7
import Derived.Test.YtnjjdpiofbajlaaP8
import Derived.Test.YtnjjdpiofbajlaaP9
import Derived.Test.YtnjjdpiofbajlaaP10
import Derived.Test.YtnjjdpiofbajlaaP11
import Derived.Test.YtnjjdpiofbajlaaP12
import Derived.Test.YtnjjdpiofbajlaaP13
import Derived.Test.YtnjjdpiofbajlaaP14
import Derived.Test.YtnjjdpiofbajlaaP15
import Derived.Test.YtnjjdpiofbajlaaP16
import Derived.Test.YtnjjdpiofbajlaaP17
import Derived.Test.YtnjjdpiofbajlaaP18
import Derived.Test.YtnjjdpiofbajlaaP19
import Derived.Test.YtnjjdpiofbajlaaP20
import Derived.Test.YtnjjdpiofbajlaaP21
import Derived.Test.YtnjjdpiofbajlaaP22
import Derived.Test.YtnjjdpiofbajlaaP23
import Derived.Test.YtnjjdpiofbajlaaP24
import Derived.Test.YtnjjdpiofbajlaaP25
import Derived.Test.YtnjjdpiofbajlaaP26
import Derived.Test.YtnjjdpiofbajlaaP27
import Derived.Test.YtnjjdpiofbajlaaP28
import Derived.Test.YtnjjdpiofbajlaaP29
import Derived.Test.YtnjjdpiofbajlaaP30
import Derived.Test.YtnjjdpiofbajlaaP31
import Derived.Test.YtnjjdpiofbajlaaP32
import Derived.Test.YtnjjdpiofbajlaaP33
set_option linter.unusedSimpArgs false
set_option linter.unusedVariables false
/- Plain laws of Decode, third part: the whole frame. No program is in sight. -/
namespace Go.Proofs.Ytnjjdpiofbajlaa
theorem risesL_mem {l : List Lev} {p : Int} (h : risesL p l = true) : ∀ x ∈ l, lvOk x = true := by
 induction l generalizing p with
 | nil => simp
 | cons y l ih =>
  unfold risesL at h
  split at h
  ·rename_i hh
   intro x hx
   rcases List.mem_cons.1 hx with rfl | hx
   ·exact hh.2
   ·exact ih h x hx
  ·simp at h
theorem ba_nil {s : ByteArray} (h : s.size = 0) : s = ⟨#[]⟩ := by
 apply ByteArray.ext
 exact Array.size_eq_zero_iff.1 h
theorem pFrame_par {f : Frame} (h : goodFrameC f = 0) (r : List UInt8) : pFrame (encL f ++ r) = some (f, r) := by
 obtain ⟨⟨s1, s2⟩, ⟨s3, s4⟩, _, ⟨s5, s6⟩, ⟨s7, s8⟩, hA, hM⟩ := good_facts h
 clear h
 obtain ⟨src, dst, seq, ack, thread, ⟨host, mthread, label, grants, text⟩, certs⟩ := f
 simp only at s1 s2 s3 s4 s5 s6 s7 s8 hA hM
 have hp : ∀ k : Int, byteOk k → HeadOk (k, src, dst, seq) := fun k hk => ⟨hk, ⟨s1, show src < 256 by omega⟩, ⟨s3, show dst < 256 by omega⟩, show 0 ≤ seq by omega, show seq < 256 ^ 6 by omega⟩
 cases ack with
 | true =>
  have h2 := hA rfl
  unfold ackPlain at h2
  simp only [Bool.and_eq_true, beq_iff_eq, decide_eq_true_eq] at h2
  obtain ⟨⟨⟨rfl, rfl⟩, rfl⟩, h3⟩ := h2
  have e1 : label = [] := List.length_eq_zero_iff.1 (by omega)
  have e2 : grants = [] := List.length_eq_zero_iff.1 (by omega)
  have e3 : certs = [] := List.length_eq_zero_iff.1 (by omega)
  have e4 : text = ⟨#[]⟩ := ba_nil (by omega)
  subst e1 e2 e3 e4
  have hh := code_head.par (1, src, dst, seq) r (hp 1 ⟨by omega, by omega⟩)
  have e : encL ⟨src, dst, seq, true, 0, ⟨0, 0, [], [], ⟨#[]⟩⟩, []⟩ ++ r = [b1 1, b1 src, b1 dst] ++ be seq 6 ++ r := by
   unfold encL; rw [if_pos rfl]; simp [headBytes, b1, byteAt]
  rw [e]
  unfold pFrame
  simp only at hh
  rw [hh]
  simp [ackFrame]
 | false =>
  obtain ⟨m1, m2, m3, m4⟩ := hM rfl
  obtain ⟨⟨q1, q2⟩, ⟨q3, q4⟩, q5, q6, q7⟩ := mail_facts m1
  simp only at q1 q2 q3 q4 q5 q6 q7
  subst m2
  obtain ⟨q8, q9⟩ := grants_facts q6
  unfold goodL at q5
  by_cases hl8 : label.length ≤ 8
  ·rw [if_pos hl8] at q5
   have hlev := risesL_mem q5
   have etx : (⟨text.data.toList.toArray⟩ : ByteArray) = text := by apply ByteArray.ext; simp
   have ets : text.data.toList.length = text.size := by rw [Array.length_toList]; rfl
   have hbo : BodyOk ⟨thread, mthread, label, grants, text.data.toList, certs⟩ := by
    refine ⟨⟨s7, by simp only; omega⟩, ⟨q3, by simp only; omega⟩, ⟨by simp only; omega, fun x hx => ?_⟩, ⟨by simp only; omega, fun x hx => ?_⟩, by simp only; omega, by simp only; omega, fun x hx => ?_⟩
    ·have := hlev x hx
     unfold lvOk at this
     simp only [decide_eq_true_eq] at this
     exact ⟨⟨by omega, by omega⟩, ⟨by omega, by omega⟩⟩
    ·have := q9 x hx
     exact ⟨by omega, by omega⟩
    ·obtain ⟨c1, c2, c3, _, c5⟩ := cert_facts (m4 x hx)
     exact ⟨⟨by omega, by omega⟩, ⟨by omega, by omega⟩, ⟨by omega, by omega⟩, by omega, by omega⟩
   have hh := code_head.par (0, host, dst, seq) (bodyBytes ⟨thread, mthread, label, grants, text.data.toList, certs⟩ ++ r) (hp 0 ⟨by omega, by omega⟩)
   have hb := code_body.par ⟨thread, mthread, label, grants, text.data.toList, certs⟩ r hbo
   have e : encL ⟨host, dst, seq, false, thread, ⟨host, mthread, label, grants, text⟩, certs⟩ ++ r = [b1 0, b1 host, b1 dst] ++ be seq 6 ++ (bodyBytes ⟨thread, mthread, label, grants, text.data.toList, certs⟩ ++ r) := by
    unfold encL; rw [if_neg (by simp)]; simp [headBytes, mailBytes, bodyBytes, b1, byteAt, ets]
   rw [e]
   unfold pFrame
   simp only at hh
   rw [hh]
   simp only [Option.bind_some, if_true]
   rw [hb]
   simp [mailFrame, etx]
  ·rw [if_neg hl8] at q5; simp at q5
/-! ### The laws -/
theorem dec_enc {f : Frame} (h : goodFrameC f = 0) : decR (encL f) = (f, 0) := by
 have hp := pFrame_par h []
 rw [List.append_nil] at hp
 rw [decR_some hp, if_pos h]
end Go.Proofs.Ytnjjdpiofbajlaa

/- What the keeper's laws of wire lean on: contracts in their words. -/
namespace Go.Proofs.Ytnjjdpiofbajlaa
open Go.RowKit
theorem ba_list (s : ByteArray) : (⟨s.data.toList.toArray⟩ : ByteArray) = s := by
 apply ByteArray.ext
 simp
theorem wire_DecodeB (w : World) (s : ByteArray) (hl : s.size ≤ 9223372036854775807) : Calls Try.prog 14 #[.string s] w (DecPost w s.data.toList) := by
 have h := wire_Decode w s.data.toList (by rw [Array.length_toList]; exact hl)
 rw [ba_list] at h
 exact h
end Go.Proofs.Ytnjjdpiofbajlaa

/- What is looked at behind an act of a cluster: the walk through TopGood's closure. -/
namespace Go.Proofs.Ytnjjdpiofbajlaa
open Go.RowKit
theorem SlR.text_at {ok : Nat → Prop} {w : World} {a : Option Addr} {c : Nat} {xs : List ByteArray} (h : SlR ok w 1 RStr a c xs) (i : Nat) (hi : i < xs.length) :
  ∃ b o, a = some ⟨b, o, none⟩ ∧ b < w.heap.size ∧ w.cell? ⟨b, o + i, none⟩ = some (.string xs[i]) := by
 obtain ⟨b, o, cs, ha, _, hb, rfl, _, _, hc⟩ := h.2.2.2 i xs[i] (by simp [hi])
 exact ⟨b, o, ha, hb, by simpa using hc 0 _ rfl⟩
set_option maxRecDepth 100000 in
set_option maxHeartbeats 8000000 in
theorem look_good {w0 : World} {C' : Clu} (a : Deed) (r : Rep) (gc : Nat) (kg : List Nat) (W Wd : World) (D : Nat → Prop) (la : Option Addr) (lc : Nat) (ga : Option Addr) (gx : Nat)
  (P : Clus w0 [] [] (fun _ => False) Wd D gc kg C' W) :
  Calls Try.prog 7 #[.pointer (some ⟨gc, 0, none⟩), deedV a la lc ga gx, RepV r] W fun e W' => e = .returned (.bool true) ∧ Clus w0 [] [] (fun _ => False) W' (fun _ => False) gc kg C' W' := by
 have hokC' := P.okC
 have HY := Lib.hid (fun (h t : Nat) (hh : h < 4) (ht : t < 4) => (show (C'.thr h t).ok from by
  obtain ⟨k, ek, e2, hk, hkh⟩ := hokC'.kerAt hh
  unfold Clu.thr; rw [e2]; exact hk.at t))
 have HC := Lib.hid (fun (h : Nat) (hh : h < 4) => (show goodCerts (C'.cert h) = true from by
  obtain ⟨l, -, e, hg⟩ := hokC'.certAt hh
  rw [e]; exact hg))
 have HN := Lib.hid hokC'.net
 have hn60 := hokC'.netN
 have st := St.start W
 unfold deedV RepV
 go_enter Try.func7, Try.ntmps7
 go_upto_region 1 with (first | go_skip | (with_reducible refine mB 32 st ?_; clear st; intro g4 w4 hg4 st) | (with_reducible refine mB 35 st ?_; clear st; intro g5 w5 hg5 st))
 try simp only [kP, kA, kS, kZ]
 have P0 := Lib.hid (P.below st.below).anyD
 clear st P hokC'
 generalize w5 = V0 at P0
 go_wp2_with (first | go_skip | fail)
 go_loopw [7] (fun v7 wr => ∃ h : Nat, h ≤ 4 ∧ v7 = .int .i64 h ∧ Below V0.heap.size V0 wr) (fun v7 _ => 4 - (intOf v7).toNat)
 case atStart => exact ⟨0, by omega, rfl, Below.refl _ _⟩
 case round =>
  obtain ⟨V9, rfl⟩ : ∃ V, V = wr := ⟨_, rfl⟩
  obtain ⟨h, hh, rfl, hB⟩ := hrel
  by_cases hh4 : h < 4
  case neg =>
   have d1 : decide ((h : Int) < 4) = false := by simp; omega
   have P1 := Lib.hid (P0.out.below hB)
   go_wp2_with (first | go_skip | (go_at_call 13; go_must (refine (cluster_Net P1.out).mono ?_; rintro e v1 ⟨na, nc, rfl, hb1, hN⟩)))
   have P2 := Lib.hid (P1.out.below hb1)
   have HS := Lib.hid (hN.slr (ok := fun _ => True) fun _ _ => trivial)
   clear hb1 hN hB P0 P1
   go_loopw [75] (fun v75 wr => ∃ k : Nat, k ≤ C'.net.length ∧ v75 = .int .i64 k ∧ Below v1.heap.size v1 wr) (fun v75 _ => C'.net.length - (intOf v75).toNat)
   case atStart => exact ⟨0, Nat.zero_le _, rfl, Below.refl _ _⟩
   case round =>
    obtain ⟨V8, rfl⟩ : ∃ V, V = wr := ⟨_, rfl⟩
    obtain ⟨k, hk, rfl, hB⟩ := hrel
    by_cases hkl : k < C'.net.length
    case pos =>
     have d2 : decide ((k : Int) < (C'.net.length : Int)) = true := by simp; omega
     obtain ⟨b, o, e1, hb, hc⟩ := (HS.out.below hB).text_at k hkl
     obtain ⟨f, hf, hs⟩ := HN.out _ (List.getElem_mem hkl)
     rw [hs] at hc
     have hde := dec_enc hf
     have HF := Lib.hid (good_fitsW hf)
     have HF0 := Lib.hid hf
     have HD := Lib.hid (wire_DecodeB V8 ⟨(encL f).toArray⟩ (by have := encL_len hf; show (encL f).toArray.size ≤ _; simp; omega))
     unfold DecPost at HD
     simp only [List.toList_toArray, hde] at HD
     have st := St.start V8
     clear hs hf hde
     subst e1
     go_wp2_with (first
      | go_skip
      | (go_at_call 14; go_must (refine HD.out.mono ?_; rintro e v2 ⟨la1, lc1, ga1, gc1, ca1, cc1, rfl, hR, hb2⟩; have HG := Lib.hid (fun (V : World) (hV : Below v2.heap.size v2 V) => wire_Good _ V f la1 lc1 ga1 gc1 ca1 cc1 HF.out (hR.below hV)); rw [HF0.out] at HG; have hst := st.call hb2; clear st; have st := hst.rebase; simp only [List.map_nil] at st; unfold frameV at HG ⊢))
      | (with_reducible refine mA st Try.zeroValue51 ?_; clear st; intro g14 w14 hg14 st) | (with_reducible refine mS 0 st Try.sizeOf51 ?_; clear st; intro w15 st hw15m hw15z) | (with_reducible refine mXA st Try.isAgg51 Try.sizeOf51 ?_)
      | (go_at_call 15; go_must (refine (HG.out _ st.below).mono ?_; rintro e v3 ⟨rfl, hb3⟩; replace st := st.call hb3)))
     go_roundw
     case rel => exact ⟨k + 1, hkl, by go_num, hB.keep (hb2.keep st.below)⟩
     case measure => simp [intOf] <;> omega
    case neg =>
     have d2 : decide ((k : Int) < (C'.net.length : Int)) = false := by simp; omega
     have d3 : decide ((C'.net.length : Int) ≤ 60) = true := by simp; omega
     have P3 := Lib.hid (P2.out.below hB)
     go_wp2_with (first | go_skip | (go_at_call 13; go_must (refine (cluster_Net P3.out).mono ?_; rintro e v4 ⟨na2, nc2, rfl, hb4, -⟩)))
     go_ret
     exact ⟨rfl, (P3.out.below hb4).anyD⟩
  have d1 : decide ((h : Int) < 4) = true := by simp; omega
  have hce : certOf C' h = C'.cert h := by unfold certOf; rw [if_pos (four_n hh4)]
  have HCe := Lib.hid (show _ from hce ▸ cluster_Certs (P0.out.below hB) h)
  have hgc := HC.out h hh4
  generalize C'.cert h = ce at HCe hgc
  go_wp2_with (first
   | go_skip
   | (go_at_call 9; go_must (refine HCe.out.mono ?_; rintro e v1 ⟨ca, cc, rfl, hb1, hO⟩; have HTG := trust_Good (fun _ => True) v1 ca cc ce (hO.slr fun _ _ => trivial); rw [hgc] at HTG))
   | (go_at_call 8; go_must (refine HTG.mono ?_; rintro e v2 ⟨rfl, hb2⟩)))
  have hB2 := hB.keep (hb1.keep hb2)
  clear hB hb1 hb2 hO HTG HCe hgc hce
  go_loopw [8] (fun v8 wr => ∃ t : Nat, t ≤ 4 ∧ v8 = .int .i64 t ∧ Below V0.heap.size V0 wr) (fun v8 _ => 4 - (intOf v8).toNat)
  case atStart => exact ⟨0, by omega, rfl, hB2⟩
  case round =>
   clear hB2
   obtain ⟨V8, rfl⟩ : ∃ V, V = wr := ⟨_, rfl⟩
   obtain ⟨t, ht, rfl, hB⟩ := hrel
   by_cases ht4 : t < 4
   case neg =>
    have d2 : decide ((t : Int) < 4) = false := by simp; omega
    go_wp2_with (first | go_skip | fail)
    go_roundw
    case rel => exact ⟨h + 1, by omega, by go_num, hB⟩
    case measure => simp [intOf] <;> omega
   have d2 : decide ((t : Int) < 4) = true := by simp; omega
   have HTh := Lib.hid ((show ThreadPost V8 (thrC2 C' h t) = ThreadPost V8 (C'.thr h t) by rw [thrC2_at C' hh4 ht4]) ▸ cluster_Thread (P0.out.below hB) h t)
   have hx := HY.out h t hh4 ht4
   generalize C'.thr h t = x at HTh hx
   have e1 := hx.ownL
   have e2 := hx.objs
   have e3 := hx.mailN
   have e4 := hx.text
   have d3 : decide ((8 : Int) < (x.own.length : Int)) = false := by simp; omega
   have d4 : decide ((4 : Int) < (x.objects.length : Int)) = false := by simp; omega
   have d5 : decide ((6 : Int) < (x.mails.length : Int)) = false := by simp; omega
   have d6 : decide ((64 : Int) < (x.text.size : Int)) = false := by simp; omega
   have hgl := hx.good
   have hgn := goodL_len hgl
   have HM := Lib.hid hx.mail
   have st := St.start V8
   clear hx e1 e2 e4
   go_wp2_with (first
    | go_skip
    | (go_at_call 10; go_must (refine HTh.out.mono ?_; rintro e v3 ⟨ta, tc, oa, oc, ba, bc, ma, mc, rfl, hb3, hT⟩; have hst := st.call hb3; clear st; have st := hst.rebase; simp only [List.map_nil] at st; have HLG := Lib.hid (fun (V : World) (hV : Below v3.heap.size v3 V) => label_Good _ V ta tc x.label (by omega) (hT.below hV).label); rw [hgl] at HLG; unfold thrV))
    | (with_reducible refine mA st Try.zeroValue42 ?_; clear st; intro g9 w9 hg9 st) | (with_reducible refine mS 0 st Try.sizeOf42 ?_; clear st; intro w10 st hw10m hw10z) | (with_reducible refine mX st Try.isAgg27 ?_) | (with_reducible refine mX st Try.isAgg28 ?_) | (with_reducible refine mX st Try.isAgg39 ?_) | (with_reducible refine mX st Try.isAgg40 ?_) | (with_reducible refine mX st Try.isAgg9 ?_)
    | (go_at_call 11; go_must (refine (HLG.out _ st.below).mono ?_; rintro e v4 ⟨rfl, hb4⟩; replace st := st.call hb4; clear hb4)))
   have hB9 := hB.keep (hb3.keep st.below)
   have HT := Lib.hid (hT.below st.below)
   clear st hst hT HLG HTh hb3 d3 d4 d5 d6
   go_loopw [64] (fun v64 wr => ∃ k : Nat, k ≤ x.mails.length ∧ v64 = .int .i64 k ∧ Below v4.heap.size v4 wr) (fun v64 _ => x.mails.length - (intOf v64).toNat)
   case atStart => exact ⟨0, Nat.zero_le _, rfl, Below.refl _ _⟩
   case round =>
    obtain ⟨V7, rfl⟩ : ∃ V, V = wr := ⟨_, rfl⟩
    obtain ⟨k, hk, rfl, hB7⟩ := hrel
    by_cases hkl : k < x.mails.length
    case neg =>
     have d3 : decide ((k : Int) < (x.mails.length : Int)) = false := by simp; omega
     go_wp2_with (first | go_skip | fail)
     go_roundw
     case rel => exact ⟨t + 1, by omega, by go_num, hB9.keep hB7⟩
     case measure => simp [intOf] <;> omega
    have d3 : decide ((k : Int) < (x.mails.length : Int)) = true := by simp; omega
    obtain ⟨b2, o2, la2, lc2, ga2, gc2, hna, -, hb2, hL2, hG2, hC2⟩ := (HT.out.below hB7).mails.mail_at k hkl
    have hgm := HM.out _ (List.getElem_mem hkl)
    generalize x.mails[k] = m at hL2 hG2 hC2 hgm
    obtain ⟨hgl1, hgl2, -⟩ := goodM_len hgm
    have HG := Lib.hid (fun (V : World) (hV : Below V7.heap.size V7 V) => wire_GoodMail (fun _ => True) V m la2 lc2 ga2 gc2 (by omega) (by omega) ⟨(hL2.below hV).okay fun _ _ => trivial, (hG2.below hV).okay fun _ _ => trivial⟩)
    rw [hgm] at HG
    unfold mailV at HG
    have HC2 := Lib.hid hC2
    have st := St.start V7
    clear hL2 hG2 hC2 hgm
    subst hna
    go_wp2_with (first
     | go_skip
     | ((with_reducible refine at_load 46 ?_); refine wpList_load_cells (wanted_none rfl) 46 _ rfl Try.isAgg46 _ Try.sizeOf46 b2 (o2 + k * 5) rfl [.int .i64 m.host, .int .i64 m.thread, .slice la2 m.label.length lc2, .slice ga2 m.grants.length gc2, .string m.text] rfl HC2.out ?_)
     | (with_reducible refine mA st Try.zeroValue46 ?_; clear st; intro g11 w11 hg11 st) | (with_reducible refine mS 0 st Try.sizeOf46 ?_; clear st; intro w12 st hw12m hw12z) | (with_reducible refine mXA st Try.isAgg46 Try.sizeOf46 ?_)
     | (go_at_call 12; go_must (refine (HG.out _ st.below).mono ?_; rintro e v5 ⟨rfl, hb5⟩; replace st := st.call hb5; clear hb5)))
    go_roundw
    case rel => exact ⟨k + 1, hkl, by go_num, hB7.keep st.below⟩
    case measure => simp [intOf] <;> omega
end Go.Proofs.Ytnjjdpiofbajlaa
