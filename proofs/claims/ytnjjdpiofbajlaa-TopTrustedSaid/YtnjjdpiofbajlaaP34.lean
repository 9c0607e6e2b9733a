/- Walks and plain laws that the claim rests on, part 34. -/
import Derived.Test.YtnjjdpiofbajlaaP33
import Derived.Test.YtnjjdpiofbajlaaP29
import Derived.Test.YtnjjdpiofbajlaaP23
import Derived.Test.YtnjjdpiofbajlaaP22
set_option linter.unusedSimpArgs false
set_option linter.unusedVariables false
namespace Go.Proofs.Ytnjjdpiofbajlaa
open Go.RowKit
set_option maxRecDepth 100000 in
set_option maxHeartbeats 8000000 in
theorem look_sent {w0 : World} {C' : Clu} {a : Deed} {r : Rep} (hS : a.kind = 1 → a.call.kind = 6 → r.code = 0 → SentOut C' a)
  (hll : a.call.label.length * 16 ≤ 140737488351232) (hgl : a.call.grants.length * 8 ≤ 140737488351232)
  (gc : Nat) (kg : List Nat) (W Wd : World) (D : Nat → Prop) (la : Option Addr) (lc : Nat) (ga : Option Addr) (gx : Nat)
  (P : Clus w0 [] [] (fun _ => False) Wd D gc kg C' W) (hA1 : SlR (fun _ => True) W 2 RLev la lc a.call.label) (hA2 : SlR (fun _ => True) W 1 RInt ga gx a.call.grants) :
  Calls Try.prog 20 #[.pointer (some ⟨gc, 0, none⟩), deedV a la lc ga gx, RepV r] W fun e W' => e = .returned (.bool true) ∧ Clus w0 [] [] (fun _ => False) W' (fun _ => False) gc kg C' W' := by
 have hokC' := P.okC
 have HY := Lib.hid (fun (h t : Nat) (hh : h < 4) (ht : t < 4) => (show (C'.thr h t).ok from by
  obtain ⟨k, ek, e2, hk, hkh⟩ := hokC'.kerAt hh
  unfold Clu.thr; rw [e2]; exact hk.at t))
 have HP := Lib.hid P
 have HS := Lib.hid hS
 clear P hokC' hS
 have st := St.start W
 obtain ⟨ak, ah, at', an, ck, ch, ct, cn, cc, cl, cg, cx⟩ := a
 obtain ⟨rc, rn, rt⟩ := r
 unfold deedV RepV
 dsimp only at *
 go_enter Try.func20, Try.ntmps20
 go_upto_region 1 with (first | go_skip | (with_reducible refine mB 32 st ?_; clear st; intro g4 w4 hg4 st) | (with_reducible refine mB 35 st ?_; clear st; intro g5 w5 hg5 st))
 try simp only [kP, kA, kS, kZ]
 obtain ⟨q, hq⟩ : ∃ q : Bool, q = false ↔ (ak = 1 ∧ ck = 6 ∧ rc = 0 ∧ ch ≠ ah) := ⟨!decide (ak = 1 ∧ ck = 6 ∧ rc = 0 ∧ ch ≠ ah), by simp⟩
 have HQ := Lib.hid hq
 clear hq
 go_cut [30] (fun s30 wx => s30 = .bool q ∧ wx = w5)
 case first =>
  by_cases k1 : ak = 1
  ·by_cases k6 : ck = 6
   ·by_cases k0 : rc = 0
    ·by_cases kh : ch = ah
     ·have e1 : (ak != 1) = false := by simp [k1]
      have e2 : (ck != 6) = false := by simp [k6]
      have e3 : (rc != 0) = false := by simp [k0]
      have e4 : (ch == ah) = true := by simp [kh]
      have eq : q = true := by cases q; exact absurd kh (HQ.out.1 rfl).2.2.2; rfl
      clear k1 k6 k0 kh
      go_wp2_with (first | go_skip | (with_reducible refine mX st Try.isAgg3 ?_) | (with_reducible refine mX st Try.isAgg33 ?_))
      go_meet
      exact ⟨by rw [eq], rfl⟩
     ·have e1 : (ak != 1) = false := by simp [k1]
      have e2 : (ck != 6) = false := by simp [k6]
      have e3 : (rc != 0) = false := by simp [k0]
      have e4 : (ch == ah) = false := by simp [kh]
      have eq : q = false := HQ.out.2 ⟨k1, k6, k0, kh⟩
      clear k1 k6 k0 kh
      go_wp2_with (first | go_skip | (with_reducible refine mX st Try.isAgg3 ?_) | (with_reducible refine mX st Try.isAgg33 ?_))
      go_meet
      exact ⟨by rw [eq], rfl⟩
    ·have e1 : (ak != 1) = false := by simp [k1]
     have e2 : (ck != 6) = false := by simp [k6]
     have e3 : (rc != 0) = true := by simp [k0]
     have eq : q = true := by cases q; exact absurd (HQ.out.1 rfl).2.2.1 k0; rfl
     clear k1 k6 k0
     go_wp2_with (first | go_skip | (with_reducible refine mX st Try.isAgg3 ?_) | (with_reducible refine mX st Try.isAgg33 ?_))
     go_meet
     exact ⟨by rw [eq], rfl⟩
   ·have e1 : (ak != 1) = false := by simp [k1]
    have e2 : (ck != 6) = true := by simp [k6]
    have eq : q = true := by cases q; exact absurd (HQ.out.1 rfl).2.1 k6; rfl
    clear k1 k6
    go_wp2_with (first | go_skip | (with_reducible refine mX st Try.isAgg3 ?_) | (with_reducible refine mX st Try.isAgg33 ?_))
    go_meet
    exact ⟨by rw [eq], rfl⟩
  ·have e1 : (ak != 1) = true := by simp [k1]
   have eq : q = true := by cases q; exact absurd (HQ.out.1 rfl).1 k1; rfl
   clear k1
   go_wp2_with (first | go_skip | (with_reducible refine mX st Try.isAgg3 ?_) | (with_reducible refine mX st Try.isAgg33 ?_))
   go_meet
   exact ⟨by rw [eq], rfl⟩
 case rest =>
  obtain ⟨rfl, rfl⟩ := hcut
  go_upto_if 30 with (first | go_skip | fail)
  try simp only [kP, kA, kS, kZ]
  cases q with
  | true =>
   go_wp2_with (first | go_skip | fail)
   go_ret
   exact ⟨rfl, (HP.out.below st.below).anyD⟩
  | false =>
   have hSo := HS.out (HQ.out.1 rfl).1 (HQ.out.1 rfl).2.1 (HQ.out.1 rfl).2.2.1
   have hne := (HQ.out.1 rfl).2.2.2
   have hmay := Lib.hid (hSo.may hne)
   have hflow := Lib.hid (hSo.flow hne)
   have h4 := hSo.h
   have t4 := hSo.t
   dsimp only at hmay hflow h4 t4
   clear hSo hne HQ HS
   obtain ⟨h, rfl, hh⟩ := four_nat h4
   obtain ⟨t, rfl, ht⟩ := four_nat t4
   have hxo := HY.out h t hh ht
   have HTh := Lib.hid (fun (V : World) (own2 : Blks) (hV : St [] W V own2) => (show ThreadPost V (thrC2 C' h t) = ThreadPost V (C'.thr h t) by rw [thrC2_at C' hh ht]) ▸ cluster_Thread (HP.out.walk hV) h t)
   have hce : certOf C' h = C'.cert h := by unfold certOf; rw [if_pos h4]
   have HCe := Lib.hid (fun (V : World) (own2 : Blks) (hV : St [] W V own2) => (show _ from hce ▸ cluster_Certs (HP.out.walk hV) h))
   have HNo := Lib.hid (fun (V : World) (own2 : Blks) (hV : St [] W V own2) => cluster_Now (HP.out.walk hV))
   obtain ⟨x, hx⟩ : ∃ x, C'.thr h t = x := ⟨_, rfl⟩
   rw [hx] at hxo HTh hflow
   obtain ⟨ce, hce2⟩ : ∃ ce, C'.cert h = ce := ⟨_, rfl⟩
   rw [hce2] at HCe hmay
   clear HY h4 t4 hx hce hce2
   have hg4 := st.mine _ (List.mem_of_getElem? (i := 0) rfl)
   have hg5 := st.mine _ (List.mem_of_getElem? (i := 1) rfl)
   have hg4l := st.ltAt (i := 0) rfl
   have hg5l := st.ltAt (i := 1) rfl
   simp only [List.not_mem_nil, false_or] at hg4 hg5
   have HA1 := Lib.hid (fun (V : World) (hV : Below W.heap.size W V) => hA1.below hV)
   have HA2 := Lib.hid (fun (V : World) (hV : Below W.heap.size W V) => hA2.below hV)
   clear hA1 hA2
   go_upto_region 5 with (first
    | go_skip | (with_reducible refine mX st Try.isAgg3 ?_) | (with_reducible refine mX st Try.isAgg27 ?_) | (with_reducible refine mX st Try.isAgg28 ?_)
    | (go_at_call 10; go_must (refine (HTh.out _ _ st).mono ?_; rintro e v3 ⟨ta, tc, oa, oc, ba, bc, ma, mc, rfl, hb3, hT⟩; have hst := st.call hb3; clear st; have st := hst.rebase; simp only [List.map_cons, List.map_nil] at st; unfold thrV))
    | (with_reducible refine mA st Try.zeroValue42 ?_; clear st; intro g7 w7 hg7 st) | (with_reducible refine mS 2 st Try.sizeOf42 ?_; clear st; intro w8 st hw8m hw8z) | (with_reducible refine mA st Try.zeroValue46 ?_; clear st; intro g8 w9 hg8 st) | (with_reducible refine mS 3 st Try.sizeOf46 ?_; clear st; intro w10 st hw10m hw10z))
   try simp only [kP, kA, kS, kZ]
   have hT10 := hT.move (ok' := fun _ => True) st.size fun b hb ho => ⟨trivial, st.frame b hb (by simp; omega)⟩
   have stB := St.back hst st
   have HT := Lib.hid hT10
   have HPB := Lib.hid stB
   clear hT hT10 hst HTh hb3
   have hI := stB.rebase.drew
   simp only [List.map_cons, List.map_nil] at hI
   have HB := Lib.hid (fun (U : World) (hU : St [g4, g5, g7, g8] w10 U [(g4, 32, [.int .i64 ak, .int .i64 h, .int .i64 t, .int .i64 an, .int .i64 ck, .int .i64 ch, .int .i64 ct, .int .i64 cn, .int .i64 cc, .slice la cl.length lc, .slice ga cg.length gx, .string cx]), (g5, 35, [.int .i64 rc, .int .i64 rn, .string rt]), (g7, 42, [.slice ta x.label.length tc, .slice oa x.own.length oc, .string x.text, .slice ba x.objects.length bc, .slice ma x.mails.length mc]), (g8, 46, [.int .i64 h, .int .i64 t, .slice la cl.length lc, .slice ga cg.length gx, .string ⟨#[]⟩])]) => stB.below2 hU (by simp))
   clear st stB
   have HTh := Lib.hid (fun (U : World) (hU : St [g4, g5, g7, g8] w10 U [(g4, 32, [.int .i64 ak, .int .i64 h, .int .i64 t, .int .i64 an, .int .i64 ck, .int .i64 ch, .int .i64 ct, .int .i64 cn, .int .i64 cc, .slice la cl.length lc, .slice ga cg.length gx, .string cx]), (g5, 35, [.int .i64 rc, .int .i64 rn, .string rt]), (g7, 42, [.slice ta x.label.length tc, .slice oa x.own.length oc, .string x.text, .slice ba x.objects.length bc, .slice ma x.mails.length mc]), (g8, 46, [.int .i64 h, .int .i64 t, .slice la cl.length lc, .slice ga cg.length gx, .string ⟨#[]⟩])]) => HT.out.below (HB.out U hU))
   refine lex_region (by kernel_rfl) 22 rfl (fun U => St [g4, g5, g7, g8] w10 U [(g4, 32, [.int .i64 ak, .int .i64 h, .int .i64 t, .int .i64 an, .int .i64 ck, .int .i64 ch, .int .i64 ct, .int .i64 cn, .int .i64 cc, .slice la cl.length lc, .slice ga cg.length gx, .string cx]), (g5, 35, [.int .i64 rc, .int .i64 rn, .string rt]), (g7, 42, [.slice ta x.label.length tc, .slice oa x.own.length oc, .string x.text, .slice ba x.objects.length bc, .slice ma x.mails.length mc]), (g8, 46, [.int .i64 h, .int .i64 t, .slice la cl.length lc, .slice ga cg.length gx, .string ⟨#[]⟩])]) ?_
   refine lexS 0 rfl hI ?_
   refine lexS 1 rfl hI ?_
   refine lexT 2 rfl hI (fun W hW => St.run_load hW 0 3 _ rfl Try.isAgg3 rfl rfl rfl) ?_
   refine lexS 4 rfl hI ?_
   refine lexS 5 rfl hI ?_
   refine lexT 6 rfl hI (fun W hW => St.run_load hW 0 3 _ rfl Try.isAgg3 rfl rfl rfl) ?_
   refine lexT 7 rfl hI (fun W hW => St.run_load_agg hW 3 46 _ rfl Try.isAgg46 _ Try.sizeOf46 rfl rfl rfl rfl) ?_
   refine lexS 8 rfl hI ?_
   refine lexO 3 rfl fun K hK => ?_
   refine wp_callee (f := 9) (by first | (go_simp; done) | (go_simp; rfl)) ?_
   refine (HCe.out _ _ (St.back HPB.out hI)).mono ?_
   rintro e V2 ⟨ca, cc, rfl, hb2, hO⟩
   refine ⟨_, rfl, ?_⟩
   replace hI := hI.call hb2
   clear hb2
   refine hK _ _ (hI) ?_; clear hK; simp only [kP, kA, kS, kZ]
   refine lexO 9 rfl fun K hK => ?_
   refine wp_callee (f := 19) (by first | (go_simp; done) | (go_simp; rfl)) ?_
   refine (HNo.out _ _ (St.back HPB.out hI)).mono ?_
   rintro e V3 ⟨rfl, rfl⟩
   refine ⟨_, rfl, ?_⟩
   refine hK _ _ (hI) ?_; clear hK; simp only [kP, kA, kS, kZ]
   refine lexO 10 rfl fun K hK => ?_
   refine wp_callee (f := 18) (by first | (go_simp; done) | (go_simp; rfl)) ?_
   have hbW := HPB.out.below.keep (HB.out _ hI)
   have hMa := trust_May (fun _ => True) _ ce ca cc ch ⟨h, t, cl, cg, ⟨#[]⟩⟩ la lc ga gx C'.now ⟨by dsimp only; omega, by dsimp only; omega⟩ (hO.slr fun _ _ => trivial) ⟨HA1.out _ hbW, HA2.out _ hbW⟩
   unfold mailV at hMa
   rw [hmay.out] at hMa
   refine hMa.mono ?_
   rintro e V4 ⟨rfl, hb4⟩
   refine ⟨_, rfl, ?_⟩
   replace hI := hI.call hb4
   clear hb4 hbW hMa hO
   refine hK _ _ (hI) ?_; clear hK; simp only [kP, kA, kS, kZ]
   refine lexS 11 rfl hI ?_
   refine lexS 12 rfl hI ?_
   refine lexT 13 rfl hI (fun W hW => St.run_load hW 2 27 _ rfl Try.isAgg27 rfl rfl rfl) ?_
   refine lexS 14 rfl hI ?_
   refine lexS 15 rfl hI ?_
   refine lexT 16 rfl hI (fun W hW => St.run_load hW 0 27 _ rfl Try.isAgg27 rfl rfl rfl) ?_
   refine lexS 17 rfl hI ?_
   refine lexT 18 rfl hI (fun W hW => St.run_load hW 2 28 _ rfl Try.isAgg28 rfl rfl rfl) ?_
   refine lexO 19 rfl fun K hK => ?_
   refine wp_callee (f := 17) (by first | (go_simp; done) | (go_simp; rfl)) ?_
   have hbW := HPB.out.below.keep (HB.out _ hI)
   have hFl := label_Flows (fun _ => True) _ ta la oa tc lc oc x.label cl x.own (by have := goodL_len hxo.good; omega) (by have := hxo.ownL; omega) (HTh.out _ hI).label (HA1.out _ hbW) (HTh.out _ hI).own
   rw [hflow.out] at hFl
   refine hFl.mono ?_
   rintro e V5 ⟨rfl, hb5⟩
   refine ⟨_, rfl, ?_⟩
   replace hI := hI.call hb5
   clear hb5 hbW hFl
   refine hK _ _ (hI) ?_; clear hK; simp only [kP, kA, kS, kZ]
   refine lexS 20 rfl hI ?_
   refine lexS 21 rfl hI ?_
   have HE := Lib.hid ((HP.out.walk (St.back HPB.out hI)).sub (own2 := []) (by simp) (by simp)).anyD
   clear hI
   refine lex_done (by decide +kernel) ?_
   go_wp2_with (first | go_skip | fail)
   go_ret
   exact ⟨rfl, HE.out⟩
theorem doAll_ok : ∀ (l : List Deed) {C : Clu}, C.ok → (doAll C l).ok
 | [], _, h => h
 | a :: l, _, h => doAll_ok l (doC_ok h a)
end Go.Proofs.Ytnjjdpiofbajlaa
