/- Walks and plain laws that the claim rests on, part 43. -/
import Derived.Test.YtflfjpopfapogaaP42
import Derived.Test.YtflfjpopfapogaaP20
import Derived.Test.YtflfjpopfapogaaP10
import Derived.Test.YtflfjpopfapogaaP23
set_option linter.unusedSimpArgs false
set_option linter.unusedVariables false
/- The walk through the cluster's come: what is no frame, and acks. -/
namespace Go.Proofs.Ytflfjpopfapogaa
open Go.RowKit
section
variable {w0 Wd W : World} {M0 : List Nat} {own : Blks} {X D : Nat → Prop} {gc : Nat} {kg : List Nat} {C : Clu}
theorem Clus.enterV (h : Clus w0 M0 own X Wd D gc kg C W) {V : World} (hb : Below W.heap.size W V) : ∃ B0 Y, Clus V B0 [] Y V (fun b => b ∉ B0) gc kg C V ∧ gc ∈ B0 ∧ (∀ b ∈ B0, b < W.heap.size) ∧
  ∀ (C' : Clu) (U : World) (own' : Blks), Clus V B0 own' Y V (fun b => b ∉ B0) gc kg C' U → Clus w0 M0 own X Wd D gc kg C' U := by
 have hlt : ∃ B1 : List Nat, True := ⟨[], trivial⟩
 obtain ⟨st, hok, hD, hDo, hX, ok, BB, na, nc, L, hA, hB, hO⟩ := h
 have hA' : CluAt ok V gc C kg BB na nc L := hA.move hb.size (fun b hb' ho => ⟨ho, hb.block b hb'⟩) fun b hb' => ⟨hb.block b (hA.lt b hb'), hA.apart b hb'⟩
 have stV := st.call hb
 refine ⟨cluB gc na BB, fun b => X b ∨ ∃ x ∈ own, x.1 = b, ⟨⟨rfl, rfl, rfl, Nat.le_refl _, fun _ _ _ => rfl, by simp, by simp, List.Pairwise.nil⟩, hok, ⟨Nat.le_refl _, fun _ _ _ => rfl⟩, by simp, fun b hb' => ?_, ok, BB, na, nc, L, hA', fun b hb' => ⟨.inl hb', by simp, fun hh => hh.1 hb'⟩, fun b hb' => ⟨Nat.lt_of_lt_of_le (hO b hb').1 hb.size, by simp, fun hh => ?_⟩⟩, mem_cluB.2 (.inl rfl), fun b hb' => hA.lt b hb', fun C' U own' hP => ?_⟩
 ·rcases hb' with hb' | ⟨x, hx, rfl⟩
  ·have := hX b hb'; have := stV.size; omega
  ·exact stV.lt hx
 ·rcases hh with hh | ⟨x, hx, e⟩
  ·exact (hO b hb').2.2 hh
  ·exact (hO b hb').2.1 x hx e
 obtain ⟨st', hok', hD', hDo', hX', ok', BB', na', nc', L', hA2, hB', hO'⟩ := hP
 have stE : St (cluB gc na BB) V U [] := st'.sub (own' := []) (by simp) List.Pairwise.nil
 refine ⟨stV.callK stE (fun x hx hm => (hB _ hm).2.1 x hx rfl) fun b hb' => (hB b hb').1, hok', ⟨Nat.le_trans hD.size (Nat.le_trans hb.size hD'.size), fun b hb' hd => ?_⟩, hDo, hX, ok', BB', na', nc', L', hA2, fun b hb' => ?_, fun b hb' => ⟨(hO' b hb').1, fun x hx e => (hO' b hb').2.2 (.inr ⟨x, hx, e⟩), fun hx => (hO' b hb').2.2 (.inl hx)⟩⟩
 ·have hbW : b < W.heap.size := Nat.lt_of_lt_of_le hb' hD.size
  exact (hD'.block b (Nat.lt_of_lt_of_le hbW hb.size) fun hm => (hB b hm).2.2 ⟨hd, hb'⟩).trans ((hb.block b hbW).trans (hD.block b hb' hd))
 ·rcases (hB' b hb').1 with h1 | h1
  ·exact hB b h1
  ·refine ⟨.inr (Nat.le_trans stV.size h1), fun x hx e => ?_, fun hd => ?_⟩
   ·have := stV.lt hx; omega
   ·have := hD.size; have := hb.size; omega
set_option maxRecDepth 100000 in
set_option maxHeartbeats 2000000 in
theorem cluster_come_bad (P : Clus w0 M0 own X Wd D gc kg C W) (s : List UInt8) (hl : s.length ≤ 9223372036854775807) (hd : (decR s).2 ≠ 0) :
  Calls Try.prog 25 #[.pointer (some ⟨gc, 0, none⟩), .string ⟨s.toArray⟩] W fun e W' => (∃ u, e = .returned u) ∧ Clus w0 M0 own X Wd D gc kg C W' := by
 have HD := Lib.hid (wire_Decode W s hl)
 unfold DecPost frameV at HD
 have hqb : ((decR s).2 != 0) = true := by simpa using hd
 generalize decR s = r at *
 obtain ⟨f, q⟩ := r
 simp only at HD hqb
 clear hd
 have st := St.start W
 go_enter Try.func25, Try.ntmps25
 go_wp2_with (first
  | go_skip
  | (go_at_call 40; go_must (refine HD.out.mono ?_; rintro e v1 ⟨la, lc, ga, gx, ca, cc, rfl, hF, hb1⟩; replace st := st.call hb1)) | (with_reducible refine at_alloc 105 ?_; refine mem_alloc st (wanted_none rfl) 105 rfl _ Try.zeroValue105 _ rfl ?_; clear st; intro g4 w4 hg4 st hg4b; clear hg4b; simp [Act.eval, Act.put, Value.cells, putL] at st) | (with_reducible refine at_store 105 ?_; refine memS st 105 _ _ rfl _ Try.sizeOf105 ⟨0, _, _, _, _, _, rfl, rfl, rfl, rfl, rfl, rfl, ?_⟩; clear st; intro w5 st hw5m hw5z; simp [Act.eval, Act.put, Value.cells, putL] at st))
 (try simp only [Exit.inBlock, Exit.then]); refine bodyPost_ret (results_none rfl _ _ _) rfl ?_
 exact ⟨⟨_, rfl⟩, P.below st.below⟩
set_option maxRecDepth 100000 in
set_option maxHeartbeats 4000000 in
theorem cluster_come_ack (P : Clus w0 M0 own X Wd D gc kg C W) (s : List UInt8) (hl : s.length ≤ 9223372036854775807) (n v : Nat) (hn : n < 4) (hv : v < 4) (seq thread : Int) (mail : Mail) (certs : List Cert) (hd : decR s = (⟨n, v, seq, true, thread, mail, certs⟩, 0))
  (hok : (C.setLine v n (answLn (C.line v n) seq)).ok) :
  Calls Try.prog 25 #[.pointer (some ⟨gc, 0, none⟩), .string ⟨s.toArray⟩] W fun e W' => (∃ u, e = .returned u) ∧ Clus w0 M0 own X Wd D gc kg (C.setLine v n (answLn (C.line v n) seq)) W' := by
 have HD := Lib.hid (wire_Decode W s hl)
 unfold DecPost frameV at HD
 rw [hd] at HD
 simp only at HD
 clear hd hl
 obtain ⟨r, hr⟩ : ∃ r, answX (lineOk (C.line v n)) (C.line v n).sent seq = r := ⟨_, rfl⟩
 have es : answLn (C.line v n) seq = { C.line v n with sent := r.2 } := by unfold answLn; rw [hr]
 have hsl : (C.line v n).sent.length ≤ 8 := by
  obtain ⟨l, el, e1, hl, hs⟩ := P.okC.lineAt hv hn
  rw [e1]
  exact ((lineOk_iff l).1 hl).1.2.2.2.2
 rw [es] at hok ⊢
 clear es
 have st := St.start W
 go_enter Try.func25, Try.ntmps25
 go_upto_region 3 with (first
  | go_skip
  | (go_at_call 40; go_must (refine HD.out.mono ?_; rintro e v1 ⟨la, lc, ga, gx, ca, cc, rfl, hF, hb1⟩; replace st := st.call hb1; clear hb1)) | (with_reducible refine at_alloc 105 ?_; refine mem_alloc st (wanted_none rfl) 105 rfl _ Try.zeroValue105 _ rfl ?_; clear st; intro g4 w4 hg4 st hg4b; clear hg4b; simp [Act.eval, Act.put, Value.cells, putL] at st) | (with_reducible refine at_store 105 ?_; refine memS st 105 _ _ rfl _ Try.sizeOf105 ⟨0, _, _, _, _, _, rfl, rfl, rfl, rfl, rfl, rfl, ?_⟩; clear st; intro w5 st hw5m hw5z; simp [Act.eval, Act.put, Value.cells, putL] at st) | (with_reducible refine at_load 4 ?_; refine memX st 4 _ rfl Try.isAgg4 rfl ?_))
 clear hw5m hw5z hF HD
 obtain ⟨B0, Y, Q, hgc, hB0, back⟩ := P.enterV st.below
 have hg4 : W.heap.size ≤ g4 := by have := st.mine _ (List.mem_of_getElem? (i := 0) rfl); simpa using this
 have hg4c : g4 ≠ gc := by have := hB0 gc hgc; omega
 have hg4l := st.ltAt (i := 0) rfl
 obtain ⟨ok, BB, na, nc, L, hA, -, -, hTo⟩ := Q.open
 obtain ⟨sa, sc, hs, hlc⟩ := hA.lineB hv hn
 have HF := Lib.hid (show ∀ (U : World) (bl : Blks), St [gc] w5 U bl → ∀ (j : Nat) (x : Value), [Value.int .i64 n, .int .i64 v, .int .i64 seq][j]? = some x → U.cell? ⟨g4, j, none⟩ = some x from fun U bl hU j x hx => by
  rw [World.cell?_of_block (w := w5) (a := ⟨g4, j, none⟩) (hU.frame g4 hg4l (by simp; omega)), st.cell (i := 0) rfl j]
  match j, hx with
  | 0, hx => exact hx
  | 1, hx => exact hx
  | 2, hx => exact hx
  | j + 3, hx => simp at hx)
 have HAn := Lib.hid (fun (U : World) (okS : Nat → Prop) (h1 : ∀ b, U.heap.size ≤ b → okS b) (h2 : SentR okS U sa sc (C.line v n).sent) => line_Answered okS U h1 (C.line v n).next (C.line v n).high sa sc (C.line v n).sent (C.line v n).seen seq h2 (by omega) _ rfl r hr)
 have HSV := Lib.hid hs
 have HLC := Lib.hid hlc
 clear hs hlc hr hsl st P Q
 unfold lineV at HAn
 have hlen := hA.cells.len
 have stc := (St.hand hA.blk).drew
 have hI := stc.take 0
 refine lex_region (by kernel_rfl) 26 rfl (fun U => St [gc] w5 U []) ?_
 refine lexS 0 rfl hI ?_; simp only [kP, kA, kS, kZ]
 refine lexS 1 rfl hI ?_; simp only [kP, kA, kS, kZ]
 refine lexT 2 rfl hI (fun U hU => run_cell_one 3 _ rfl Try.isAgg3 g4 1 rfl _ (HF.out U _ hU 1 _ rfl)) ?_; simp only [kP, kA, kS, kZ]
 refine lexS 3 rfl hI ?_; simp only [kP, kA, kS, kZ]
 refine lexT 4 rfl hI (fun U hU => run_cell_one 3 _ rfl Try.isAgg3 g4 0 rfl _ (HF.out U _ hU 0 _ rfl)) ?_; simp only [kP, kA, kS, kZ]
 refine lexS 5 rfl hI ?_; simp only [kP, kA, kS, kZ]
 refine lexS 6 rfl hI ?_; simp only [kP, kA, kS, kZ]
 refine lexT 7 rfl hI (fun U hU => run_cell_one 3 _ rfl Try.isAgg3 g4 1 rfl _ (HF.out U _ hU 1 _ rfl)) ?_; simp only [kP, kA, kS, kZ]
 refine lexS 8 rfl hI ?_; simp only [kP, kA, kS, kZ]
 refine lexT 9 rfl hI (fun U hU => run_cell_one 3 _ rfl Try.isAgg3 g4 0 rfl _ (HF.out U _ hU 0 _ rfl)) ?_; simp only [kP, kA, kS, kZ]
 refine lexS 10 rfl hI ?_; simp only [kP, kA, kS, kZ]
 refine lexS 11 rfl hI ?_; simp only [kP, kA, kS, kZ]
 refine lexT (v := .pointer (some ⟨gc, 9 + v * 44, none⟩)) 12 rfl hI (fun W hW => by (first | (go_simp; done) | (go_simp; omega) | (go_simp; intro h; omega))) ?_; simp only [kP, kA, kS, kZ]
 refine lexT (v := .pointer (some ⟨gc, 9 + v * 44 + n * 11, none⟩)) 13 rfl hI (fun W hW => by (first | (go_simp; done) | (go_simp; omega) | (go_simp; intro h; omega))) ?_; simp only [kP, kA, kS, kZ]
 refine lexS 15 rfl hI ?_; simp only [kP, kA, kS, kZ]
 refine lexT 16 rfl hI (fun U hU => run_cell_one 3 _ rfl Try.isAgg3 g4 2 rfl _ (HF.out U _ hU 2 _ rfl)) ?_; simp only [kP, kA, kS, kZ]
 refine lexS 21 rfl hI ?_; simp only [kP, kA, kS, kZ]
 refine lexS 22 rfl hI ?_; simp only [kP, kA, kS, kZ]
 refine lexT (v := .pointer (some ⟨gc, 9 + v * 44, none⟩)) 23 rfl hI (fun W hW => by (first | (go_simp; done) | (go_simp; omega) | (go_simp; intro h; omega))) ?_; simp only [kP, kA, kS, kZ]
 clear hI
 refine lexO 14 rfl fun K hK => ?_
 refine wp_value (run_load_at 67 _ rfl Try.isAgg67 _ Try.sizeOf67 gc (9 + v * 44 + n * 11) rfl (lineC (C.line v n) sa sc) rfl (HLC.out _ (Below.refl _ _).drew)) ?_
 refine hK _ _ (stc.take 0) ?_; clear hK; simp only [kP, kA, kS, kZ]
 refine lexO 17 rfl fun K hK => ?_
 refine wp_callee (f := 41) (by first | (go_simp; done) | (go_simp; rfl)) ?_
 refine (HAn.out _ (fun b => ok b ∨ w5.heap.size ≤ b) (fun b hb => .inr (Nat.le_trans stc.size hb)) ((HSV.out.below (Below.refl _ _).drew).move (Nat.le_refl _) fun b _ ho => ⟨.inl ho, rfl⟩)).mono ?_
 rintro e v6 ⟨sa2, sc2, rfl, hb6, hS6⟩
 refine ⟨_, rfl, ?_⟩
 replace stc := stc.call hb6
 clear hb6
 have hI := stc.take 0
 refine hK _ _ (hI) ?_; clear hK; simp only [kP, kA, kS, kZ]
 refine lexS 18 rfl hI ?_; simp only [kP, kA, kS, kZ]
 refine lexS 19 rfl hI ?_; simp only [kP, kA, kS, kZ]
 refine lexS 20 rfl hI ?_; simp only [kP, kA, kS, kZ]
 refine lexT (v := .pointer (some ⟨gc, 9 + v * 44 + n * 11, none⟩)) 24 rfl hI (fun W hW => by (first | (go_simp; done) | (go_simp; omega) | (go_simp; intro h; omega))) ?_; simp only [kP, kA, kS, kZ]
 clear hI
 refine lexO 25 rfl fun K hK => ?_
 refine wp_store stc 67 _ _ rfl gc (9 + v * 44 + n * 11) rfl _ rfl (lineC { C.line v n with sent := r.2 } sa2 sc2) rfl Try.sizeOf67 (by simp [lineC, Value.oneCell']) 0 _ _ rfl (by simp only [lineC, List.length_cons, List.length_nil]; omega) ?_
 intro U stu hm8 hz8
 refine hK _ _ (stu.take 0) ?_; clear hK; simp only [kP, kA, kS, kZ]
 refine lex_done (by decide +kernel) ?_
 have hS7 : SentR (okB ok w5 gc na BB) U sa2 sc2 r.2 := hS6.move (by omega) (fun b hb ho => by
  have hnb : b ∉ cluB gc na BB := fun hm => by
   rcases ho with h1 | h1
   ·exact hA.apart b hm h1
   ·have := hA.lt b hm; omega
  exact ⟨⟨ho, hnb⟩, hm8 b fun e => hnb (mem_cluB.2 (.inl e))⟩)
 have P3 := back _ _ _ (hTo U _ hok (hA.lineIn hv hn stu (List.mem_of_getElem? (i := 0) rfl) hS7))
 clear stc stu hA hTo hS6 hS7 back
 go_wp2_with (first | go_skip | fail)
 (try simp only [Exit.inBlock, Exit.then]); refine bodyPost_ret (results_none rfl _ _ _) rfl ?_
 exact ⟨⟨_, rfl⟩, P3⟩
end
open Go.RowKit
theorem St.keepsB {V U : World} {gc : Nat} {bl : Blks} {B0 : List Nat} (st : St [gc] V U bl) (hgc : gc ∈ B0) : Keeps (fun b => b ∉ B0) V U :=
 ⟨st.size, fun b hb ho => st.frame b hb (by simp; rintro rfl; exact ho hgc)⟩
theorem Clu.setCert_twice (C : Clu) (n : Int) (a b : List Cert) : (C.setCert n a).setCert n b = C.setCert n b := by unfold Clu.setCert; simp
theorem Clu.setCert_same {C : Clu} {n : Nat} (h : n < C.certs.length) : C.setCert n (C.cert n) = C := by
 unfold Clu.setCert Clu.cert
 rw [Int.toNat_natCast, List.getD_eq_getElem?_getD, List.getElem?_eq_getElem h]
 simp
theorem Clu.cert_set {C : Clu} {n : Nat} (h : n < C.certs.length) (l : List Cert) : (C.setCert n l).cert n = l := by
 unfold Clu.setCert Clu.cert
 rw [Int.toNat_natCast, List.getD_eq_getElem?_getD]
 simp [h]
theorem addAll_snoc (l : List Cert) (cs : List Cert) (k : Nat) (h : k < cs.length) : addAll l (cs.take (k + 1)) = addOne (addAll l (cs.take k)) cs[k] := by
 unfold addAll
 rw [List.take_succ_eq_append_getElem h, List.foldl_append]
 rfl
theorem mail_cells {a0 a1 a2 a3 a4 m0 m1 m2 m3 m4 c x : Value} {j : Nat} (h : [m0, m1, m2, m3, m4][j]? = some x) : [a0, a1, a2, a3, a4, m0, m1, m2, m3, m4, c][5 + j]? = some x := by
 match j, h with
 | 0, h => exact h
 | 1, h => exact h
 | 2, h => exact h
 | 3, h => exact h
 | 4, h => exact h
 | j + 5, h => simp at h
section
variable {w0 Wd W : World} {M0 : List Nat} {own : Blks} {X D : Nat → Prop} {gc : Nat} {kg : List Nat} {C : Clu}
set_option maxRecDepth 100000 in
set_option maxHeartbeats 8000000 in
theorem cluster_come_mail (P : Clus w0 M0 own X Wd D gc kg C W) (s : List UInt8) (hl : s.length ≤ 9223372036854775807) (n v : Nat) (hn : n < 4) (hv : v < 4) (seq thread : Int) (mail : Mail) (certs : List Cert) (hd : decR s = (⟨n, v, seq, false, thread, mail, certs⟩, 0))
  (hgood : goodFrameC ⟨n, v, seq, false, thread, mail, certs⟩ = 0) (r : Int × Eight × Int) (hr : takeC (lineOk (C.line n v)) (C.line n v).high seq (C.line n v).seen = r) (C1 : Clu) (hC1 : C1 = C.setLine n v { C.line n v with high := r.1, seen := r.2.1 }) (hok1 : C1.ok) :
  Calls Try.prog 25 #[.pointer (some ⟨gc, 0, none⟩), .string ⟨s.toArray⟩] W fun e W' => (∃ u, e = .returned u) ∧ Clus w0 M0 own X Wd D gc kg (comeF C ⟨n, v, seq, false, thread, mail, certs⟩) W' := by
 have HD := Lib.hid (wire_Decode W s hl)
 unfold DecPost frameV at HD
 rw [hd] at HD
 simp only at HD
 clear hd hl
 have hfit := good_fitsW hgood
 obtain ⟨q0, q1, q2, q3, q4, q5⟩ := goodF_facts hgood
 obtain ⟨q6, q7, q8, q9⟩ := q5 rfl
 obtain ⟨m1, m2, m3⟩ := goodM_len q6
 simp only at q2 q3 q4 q7 q8 q9 m1 m2 m3
 have eC : comeF C ⟨n, v, seq, false, thread, mail, certs⟩ = if r.2.2 = 0 then tookC (pushC C1 (ackOf ⟨n, v, seq, false, thread, mail, certs⟩)) ⟨n, v, seq, false, thread, mail, certs⟩ else if r.2.2 = 10 then pushC C1 (ackOf ⟨n, v, seq, false, thread, mail, certs⟩) else C1 := by
  unfold comeF tookLn
  simp only
  rw [hr, ← hC1]
  simp
 have HEC := Lib.hid eC
 have Q7 := Lib.hid q7
 clear eC hgood q0 q1 q5 q7
 have st := St.start W
 go_enter Try.func25, Try.ntmps25
 go_upto_region 4 with (first
  | go_skip
  | (go_at_call 40; go_must (refine HD.out.mono ?_; rintro e v1 ⟨la, lc, ga, gx, ca, cc, rfl, hF, hb1⟩; replace st := St.start v1; have hz1 := hb1.size)) | (with_reducible refine at_alloc 105 ?_; refine mem_alloc st (wanted_none rfl) 105 rfl _ Try.zeroValue105 _ rfl ?_; clear st; intro g4 w4 hg4 st hg4b; clear hg4b; simp [Act.eval, Act.put, Value.cells, putL] at st) | (with_reducible refine at_store 105 ?_; refine memS st 105 _ _ rfl _ Try.sizeOf105 ⟨0, _, _, _, _, _, rfl, rfl, rfl, rfl, rfl, rfl, ?_⟩; clear st; intro w5 st hw5m hw5z; simp [Act.eval, Act.put, Value.cells, putL] at st) | (with_reducible refine at_load 4 ?_; refine memX st 4 _ rfl Try.isAgg4 rfl ?_))
 obtain ⟨B0, Y, Q, hgc, hB0, back⟩ := P.enterV (hb1.keep st.below)
 have hg4 : W.heap.size ≤ g4 := by
  have h2 : v1.heap.size ≤ g4 := by have := st.mine _ (List.mem_of_getElem? (i := 0) rfl); simpa using this
  omega
 have hg4B : g4 ∉ B0 := fun hm => by have := hB0 g4 hm; omega
 have hg4l := st.ltAt (i := 0) rfl
 have hF5 : FrameR (fun b => W.heap.size ≤ b) w5 ⟨n, v, seq, false, thread, mail, certs⟩ la lc ga gx ca cc := hF.move st.size (fun b hb ho => ⟨ho, st.frame b hb (by simp)⟩)
 clear hw5m hw5z hF HD hb1
 obtain ⟨ok, BB, na, nc, L, hA, -, -, hTo⟩ := Q.open
 obtain ⟨sa, sc, hs, hlc⟩ := hA.lineB hn hv
 have HF := Lib.hid (show ∀ (U : World), Keeps (fun b => b ∉ B0) w5 U → ∀ (j : Nat) (x : Value), [Value.int .i64 n, .int .i64 v, .int .i64 seq, .bool false, .int .i64 thread, .int .i64 mail.host, .int .i64 mail.thread, .slice la mail.label.length lc, .slice ga mail.grants.length gx, .string mail.text, .slice ca certs.length cc][j]? = some x → U.cell? ⟨g4, j, none⟩ = some x from fun U hU j x hx =>
  (hU.cell (p := ⟨g4, j, none⟩) hg4l hg4B).trans ((st.cell (i := 0) rfl j).trans hx))
 have HT := Lib.hid (fun (U : World) (hb : Below w5.heap.size w5 U) => line_Take ok U (C.line n v).next (C.line n v).high sa sc (C.line n v).sent (C.line n v).seen seq (hs.below hb) _ rfl r hr)
 have HLC := Lib.hid hlc
 have HSV := Lib.hid hs
 have HFR := Lib.hid hF5
 have HFit := Lib.hid hfit
 clear hs hlc hr st P Q hF5 hfit
 unfold lineV at HT
 have hlen := hA.cells.len
 have st := St.start w5
 try simp only [kP, kA, kS, kZ]
 go_cut [5, 6] (fun s5 s6 wx => ∃ (g6 : Nat), s5 = .int .i64 r.2.2 ∧ s6 = .pointer (some ⟨g6, 0, none⟩) ∧ St [] w5 wx [(g6, 67, [.int .i64 (C.line n v).next, .slice sa (C.line n v).sent.length sc, .int .i64 r.1, .bool r.2.1.s0, .bool r.2.1.s1, .bool r.2.1.s2, .bool r.2.1.s3, .bool r.2.1.s4, .bool r.2.1.s5, .bool r.2.1.s6, .bool r.2.1.s7])])
 case first =>
  replace st := st.drew
  have hI := st
  refine lex_region (by kernel_rfl) 19 rfl (fun U => St [] w5 U []) ?_
  refine lexS 0 rfl hI ?_; simp only [kP, kA, kS, kZ]
  refine lexS 1 rfl hI ?_; simp only [kP, kA, kS, kZ]
  refine lexT 2 rfl hI (fun U hU => run_cell_one 3 _ rfl Try.isAgg3 g4 0 rfl _ (HF.out U (.of_below hU.below) 0 _ rfl)) ?_; simp only [kP, kA, kS, kZ]
  refine lexS 3 rfl hI ?_; simp only [kP, kA, kS, kZ]
  refine lexT 4 rfl hI (fun U hU => run_cell_one 3 _ rfl Try.isAgg3 g4 1 rfl _ (HF.out U (.of_below hU.below) 1 _ rfl)) ?_; simp only [kP, kA, kS, kZ]
  refine lexS 5 rfl hI ?_; simp only [kP, kA, kS, kZ]
  refine lexS 6 rfl hI ?_; simp only [kP, kA, kS, kZ]
  refine lexT (v := .pointer (some ⟨gc, 9 + n * 44, none⟩)) 7 rfl hI (fun W hW => by (first | (go_simp; done) | (go_simp; omega) | (go_simp; intro h; omega))) ?_; simp only [kP, kA, kS, kZ]
  refine lexT (v := .pointer (some ⟨gc, 9 + n * 44 + v * 11, none⟩)) 8 rfl hI (fun W hW => by (first | (go_simp; done) | (go_simp; omega) | (go_simp; intro h; omega))) ?_; simp only [kP, kA, kS, kZ]
  refine lexT 9 rfl hI (fun U hU => run_load_at 67 _ rfl Try.isAgg67 _ Try.sizeOf67 gc (9 + n * 44 + v * 11) rfl (lineC (C.line n v) sa sc) rfl (HLC.out U hU.below)) ?_; simp only [kP, kA, kS, kZ]
  refine lexS 10 rfl hI ?_; simp only [kP, kA, kS, kZ]
  refine lexT 11 rfl hI (fun U hU => run_cell_one 3 _ rfl Try.isAgg3 g4 2 rfl _ (HF.out U (.of_below hU.below) 2 _ rfl)) ?_; simp only [kP, kA, kS, kZ]
  clear hI
  refine lex_each [12, 16] (by decide +kernel) (by decide) ?_; intro i hi K hK; simp only [List.mem_cons, List.not_mem_nil, or_false] at hi; rcases hi with rfl | rfl <;> refine ⟨_, rfl, (by first | exact wanted_none rfl | exact wanted_some rfl rfl), ?_⟩
  ·refine wp_callee (f := 42) (by first | (go_simp; done) | (go_simp; rfl)) ?_
   refine (HT.out _ st.below).mono ?_
   rintro e v6 ⟨rfl, hb6⟩
   refine ⟨_, rfl, ?_⟩
   replace st := st.call hb6
   have hI := st
   refine hK _ _ (hI) ?_; clear hK; simp only [kP, kA, kS, kZ]
   refine lexS 13 rfl hI ?_; simp only [kP, kA, kS, kZ]
   refine lexS 14 rfl hI ?_; simp only [kP, kA, kS, kZ]
   refine lexS 15 rfl hI ?_; simp only [kP, kA, kS, kZ]
   clear hI
   refine lexO 16 rfl fun K hK => ?_
   refine wp_alloc st 67 rfl _ Try.zeroValue67 _ rfl ?_; clear st; intro g6 w6 hg6 st hg6b; simp [Act.eval, Act.put, Value.cells, putL] at st
   refine hK _ _ (st.take 0) ?_; clear hK; simp only [kP, kA, kS, kZ]
   refine lexO 17 rfl fun K hK => ?_
   refine wp_store' st 67 _ _ rfl _ Try.sizeOf67 ⟨0, _, _, _, _, _, rfl, rfl, rfl, rfl, rfl, rfl, ?_⟩; clear st; intro w7 st hw7m hw7z; simp [Act.eval, Act.put, Value.cells, putL] at st
   have hI := st.take 0
   refine hK _ _ (hI) ?_; clear hK; simp only [kP, kA, kS, kZ]
   refine lexS 18 rfl hI ?_; simp only [kP, kA, kS, kZ]
   clear hI
   refine lex_done (by decide +kernel) ?_
   go_wp2_with fail
   go_meet
   exact ⟨g6, rfl, rfl, st⟩
  ·refine wp_alloc st 67 rfl _ Try.zeroValue67 _ rfl ?_; clear st; intro g6 w6 hg6 st hg6b; simp [Act.eval, Act.put, Value.cells, putL] at st
   refine hK _ _ (st.take 0) ?_; clear hK; simp only [kP, kA, kS, kZ]
   refine lexO 12 rfl fun K hK => ?_
   refine wp_callee (f := 42) (by first | (go_simp; done) | (go_simp; rfl)) ?_
   refine (HT.out _ st.below).mono ?_
   rintro e v6 ⟨rfl, hb6⟩
   refine ⟨_, rfl, ?_⟩
   replace st := st.call hb6
   have hI := st.take 0
   refine hK _ _ (hI) ?_; clear hK; simp only [kP, kA, kS, kZ]
   refine lexS 13 rfl hI ?_; simp only [kP, kA, kS, kZ]
   refine lexS 14 rfl hI ?_; simp only [kP, kA, kS, kZ]
   refine lexS 15 rfl hI ?_; simp only [kP, kA, kS, kZ]
   clear hI
   refine lexO 17 rfl fun K hK => ?_
   refine wp_store' st 67 _ _ rfl _ Try.sizeOf67 ⟨0, _, _, _, _, _, rfl, rfl, rfl, rfl, rfl, rfl, ?_⟩; clear st; intro w7 st hw7m hw7z; simp [Act.eval, Act.put, Value.cells, putL] at st
   have hI := st.take 0
   refine hK _ _ (hI) ?_; clear hK; simp only [kP, kA, kS, kZ]
   refine lexS 18 rfl hI ?_; simp only [kP, kA, kS, kZ]
   clear hI
   refine lex_done (by decide +kernel) ?_
   go_wp2_with fail
   go_meet
   exact ⟨g6, rfl, rfl, st⟩
 case rest =>
  clear st
  obtain ⟨g6, rfl, rfl, st⟩ := hcut
  go_upto_region 5 with (first | go_skip | fail)
  try simp only [kP, kA, kS, kZ]
  replace st := st.drew
  have hg6 : w5.heap.size ≤ g6 := by have := st.mine _ (List.mem_of_getElem? (i := 0) rfl); simpa using this
  have hgb := hA.blkB st.below
  have hgcl := hA.gcLt
  have stc := st.holding hgb (by intro x hx; simp only [List.mem_cons, List.not_mem_nil, or_false] at hx; subst hx; simp only; omega)
  simp only [List.cons_append, List.nil_append] at stc
  have hI := stc.take 1
  refine lex_region (by kernel_rfl) 11 rfl (fun U => St [gc] w5 U [(g6, 67, [.int .i64 (C.line n v).next, .slice sa (C.line n v).sent.length sc, .int .i64 r.1, .bool r.2.1.s0, .bool r.2.1.s1, .bool r.2.1.s2, .bool r.2.1.s3, .bool r.2.1.s4, .bool r.2.1.s5, .bool r.2.1.s6, .bool r.2.1.s7])]) ?_
  refine lexS 0 rfl hI ?_; simp only [kP, kA, kS, kZ]
  refine lexS 1 rfl hI ?_; simp only [kP, kA, kS, kZ]
  refine lexT 2 rfl hI (fun U hU => run_cell_one 3 _ rfl Try.isAgg3 g4 0 rfl _ (HF.out U (hU.keepsB hgc) 0 _ rfl)) ?_; simp only [kP, kA, kS, kZ]
  refine lexS 3 rfl hI ?_; simp only [kP, kA, kS, kZ]
  refine lexT 4 rfl hI (fun U hU => run_cell_one 3 _ rfl Try.isAgg3 g4 1 rfl _ (HF.out U (hU.keepsB hgc) 1 _ rfl)) ?_; simp only [kP, kA, kS, kZ]
  refine lexT 5 rfl hI (fun W hW => St.run_load_agg hW 0 67 _ rfl Try.isAgg67 _ Try.sizeOf67 rfl rfl rfl rfl) ?_; simp only [kP, kA, kS, kZ]
  refine lexS 6 rfl hI ?_; simp only [kP, kA, kS, kZ]
  refine lexS 7 rfl hI ?_; simp only [kP, kA, kS, kZ]
  refine lexT (v := .pointer (some ⟨gc, 9 + n * 44, none⟩)) 8 rfl hI (fun W hW => by (first | (go_simp; done) | (go_simp; omega) | (go_simp; intro h; omega))) ?_; simp only [kP, kA, kS, kZ]
  refine lexT (v := .pointer (some ⟨gc, 9 + n * 44 + v * 11, none⟩)) 9 rfl hI (fun W hW => by (first | (go_simp; done) | (go_simp; omega) | (go_simp; intro h; omega))) ?_; simp only [kP, kA, kS, kZ]
  clear hI
  refine lexO 10 rfl fun K hK => ?_
  refine wp_store stc 67 _ _ rfl gc (9 + n * 44 + v * 11) rfl _ rfl (lineC { C.line n v with high := r.1, seen := r.2.1 } sa sc) rfl Try.sizeOf67 (by simp [lineC, Value.oneCell']) 1 _ _ rfl (by simp only [lineC, List.length_cons, List.length_nil]; omega) ?_
  intro U1 stu hm8 hz8
  refine hK _ _ (stu.take 1) ?_; clear hK; simp only [kP, kA, kS, kZ]
  refine lex_done (by decide +kernel) ?_
  have hS7 : SentR (okB ok w5 gc na BB) U1 sa sc (C.line n v).sent := (HSV.out.below st.below).move (by omega) (fun b hb ho => by
   have hnb : b ∉ cluB gc na BB := fun hm => hA.apart b hm ho
   exact ⟨⟨.inl ho, hnb⟩, hm8 b fun e => hnb (mem_cluB.2 (.inl e))⟩)
  have P1 := hTo U1 _ (by rw [← hC1]; exact hok1) (hA.lineIn hn hv stu (List.mem_of_getElem? (i := 1) rfl) hS7)
  rw [← hC1] at P1
  clear stc stu st hA hTo hS7 hgb hm8 hz8 hC1
  by_cases e0 : r.2.2 = 0
  case neg =>
   have d0 : (r.2.2 == 0) = false := by simpa using e0
   have dn : (r.2.2 != 0) = true := by simpa using e0
   by_cases e10 : r.2.2 = 10
   case neg =>
    have d10 : (r.2.2 == 10) = false := by simpa using e10
    have HE := Lib.hid (HEC.out.trans (by rw [if_neg e0, if_neg e10]))
    clear e0 e10
    go_wp2_with (first | go_skip | fail)
    (try simp only [Exit.inBlock, Exit.then]); refine bodyPost_ret (results_none rfl _ _ _) rfl ?_
    rw [HE.out]
    exact ⟨⟨_, rfl⟩, back _ _ _ P1⟩
   have d10 : (r.2.2 == 10) = true := by simpa using e10
   have HE := Lib.hid (HEC.out.trans (by rw [if_neg e0, if_pos e10]))
   clear e0 e10
   have f0 := HF.out U1 P1.kept 0 _ rfl
   have f1 := HF.out U1 P1.kept 1 _ rfl
   have f2 := HF.out U1 P1.kept 2 _ rfl
   have HPU := Lib.hid (cluster_push P1 (ackOf ⟨n, v, seq, false, thread, mail, certs⟩) (fun _ => True) none 0 none 0 none 0 ⟨by simp [ackOf, zeroM], by simp [ackOf, zeroM], by simp [ackOf, zeroM], by show (0 : Nat) ≤ _; omega⟩ ⟨⟨SlR.nil _ _ _ _, SlR.nil _ _ _ _⟩, SlR.nil _ _ _ _⟩)
   generalize pushC C1 (ackOf ⟨n, v, seq, false, thread, mail, certs⟩) = C2 at HPU HE HEC
   unfold frameV ackOf zeroM at HPU
   go_wp2_with (first
    | go_skip
    | (go_at_call 43; go_must (refine HPU.out.mono ?_; rintro e U2 ⟨⟨u, rfl⟩, P2⟩)))
   (try simp only [Exit.inBlock, Exit.then]); refine bodyPost_ret (results_none rfl _ _ _) rfl ?_
   rw [HE.out]
   exact ⟨⟨_, rfl⟩, back _ _ _ P2⟩
  have d0 : (r.2.2 == 0) = true := by simpa using e0
  have dn : (r.2.2 != 0) = false := by simpa using e0
  have HE := Lib.hid (HEC.out.trans (by rw [if_pos e0]))
  clear e0 HEC
  have f0 := HF.out U1 P1.kept 0 _ rfl
  have f1 := HF.out U1 P1.kept 1 _ rfl
  have f2 := HF.out U1 P1.kept 2 _ rfl
  have HPU := Lib.hid (cluster_push P1 (ackOf ⟨n, v, seq, false, thread, mail, certs⟩) (fun _ => True) none 0 none 0 none 0 ⟨by simp [ackOf, zeroM], by simp [ackOf, zeroM], by simp [ackOf, zeroM], by show (0 : Nat) ≤ _; omega⟩ ⟨⟨SlR.nil _ _ _ _, SlR.nil _ _ _ _⟩, SlR.nil _ _ _ _⟩)
  generalize pushC C1 (ackOf ⟨n, v, seq, false, thread, mail, certs⟩) = C2 at HPU HE
  unfold frameV ackOf zeroM at HPU
  go_upto_region 8 with (first
   | go_skip
   | (go_at_call 43; go_must (refine HPU.out.mono ?_; rintro e U2 ⟨⟨u, rfl⟩, P2⟩)))
  clear f0 f1 f2 P1 HPU
  have f10 := HF.out U2 P2.kept 10 _ rfl
  go_wp2_with (first | go_skip | fail)
  have hN4 := P2.okC.certN
  go_loopw [91] (fun j wr => ∃ k : Nat, k ≤ certs.length ∧ j = .int .i64 k ∧ Clus w5 B0 [] Y w5 (fun b => b ∉ B0) gc kg (C2.setCert v (addAll (C2.cert v) (certs.take k))) wr) (fun j _ => certs.length - (intOf j).toNat)
  case atStart =>
   refine ⟨0, Nat.zero_le _, rfl, ?_⟩
   rw [List.take_zero]
   show Clus _ _ _ _ _ _ _ _ (C2.setCert v (C2.cert v)) U2
   rw [Clu.setCert_same (by omega)]
   exact P2
  case round =>
   clear P2 f10
   obtain ⟨k, hk, rfl, Pk⟩ := hrel
   have hkp := Pk.kept
   have HKP := Lib.hid hkp
   have hmr : FrameR (fun b => W.heap.size ≤ b) wr ⟨n, v, seq, false, thread, mail, certs⟩ la lc ga gx ca cc := HFR.out.move hkp.size (fun b hb ho => ⟨ho, hkp.block b hb fun hm => by have := hB0 b hm; omega⟩)
   obtain ⟨X0, hX0⟩ : ∃ X0, addAll (C2.cert v) (certs.take k) = X0 := ⟨_, rfl⟩
   rw [hX0] at Pk
   have hcX : (C2.setCert v X0).cert v = X0 := Clu.cert_set (by omega) X0
   obtain ⟨CC, hCC⟩ : ∃ CC, C2.setCert v X0 = CC := ⟨_, rfl⟩
   rw [hCC] at Pk hcX
   have hokk := Pk.okC
   obtain ⟨ok2, BB2, na2, nc2, L2, hA2, -, -, hTo2⟩ := Pk.open
   obtain ⟨ra, rc, e5, hcs⟩ := hA2.certsOf hv
   have hlen2 := hA2.cells.len
   have HC5 := Lib.hid (fun (U : World) (hb : Below wr.heap.size wr U) => hA2.cellB hb e5)
   have HC0 := Lib.hid (fun (U : World) (hb : Below wr.heap.size wr U) => hA2.cellB hb hA2.cells.now)
   have st := St.start wr
   by_cases hlt : k < certs.length
   ·obtain ⟨c, hc⟩ : ∃ c, certs[k] = c := ⟨_, rfl⟩
    obtain ⟨bb, oo, hre, hbl, h1, -⟩ := hmr.certs.cert_at k hlt
    have hrow := hmr.certs
    rw [hre] at hrow
    replace hrow := hrow.cert_row k hlt
    simp only [hc] at hrow h1
    obtain ⟨r3, hr3⟩ : ∃ r3, addC (CC.cert v) c = r3 := ⟨_, rfl⟩
    have HADD := Lib.hid (fun (U : World) (hb : Below wr.heap.size wr U) => trust_Add ok2 U ra rc (CC.cert v) c (hcs.below hb) r3 hr3)
    have HNX := Lib.hid (show C2.setCert v (addAll (C2.cert v) (certs.take (k + 1))) = if r3.2 = 0 then CC.setCert v r3.1 else CC by
     rw [addAll_snoc _ _ _ hlt, hX0, hc]
     unfold addOne
     rw [hcX] at hr3
     rw [hr3]
     split
     ·rw [← hCC, Clu.setCert_twice]
     ·exact hCC)
    have hok3 : r3.2 = 0 → (CC.setCert v r3.1).ok := fun h0 => hokk.setCert (by
     rw [← hr3] at h0 ⊢
     exact (addC_ok h0).2.1)
    clear hc hr3 hCC hX0 hcX hmr hcs e5 hkp hokk HE HFR
    subst hre
    go_upto_region 12 with (first | go_skip | (with_reducible refine at_load 102 ?_; refine wpList_load_cells (wanted_none rfl) 102 _ rfl Try.isAgg102 _ Try.sizeOf102 bb (oo + k * 4) rfl [.int .i64 c.c, .int .i64 c.by_, .int .i64 c.host, .int .i64 c.till] rfl hrow ?_) | (with_reducible refine at_alloc 102 ?_; refine mem_alloc st (wanted_none rfl) 102 rfl _ Try.zeroValue102 _ rfl ?_; clear st; intro g8 w8 hg8 st hg8b; clear hg8b; simp [Act.eval, Act.put, Value.cells, putL] at st) | (with_reducible refine at_store 102 ?_; refine memS st 102 _ _ rfl _ Try.sizeOf102 ⟨0, _, _, _, _, _, rfl, rfl, rfl, rfl, rfl, rfl, ?_⟩; clear st; intro w9 st hw9m hw9z; simp [Act.eval, Act.put, Value.cells, putL] at st))
    clear hw9m hw9z hrow h1 hbl
    try simp only [kP, kA, kS, kZ]
    replace st := st.drew
    have hI := st
    refine lex_region (by kernel_rfl) 14 rfl (fun U => St [] wr U [(g8, 102, [.int .i64 c.c, .int .i64 c.by_, .int .i64 c.host, .int .i64 c.till])]) ?_
    refine lexS 0 rfl hI ?_; simp only [kP, kA, kS, kZ]
    refine lexS 1 rfl hI ?_; simp only [kP, kA, kS, kZ]
    refine lexT 2 rfl hI (fun U hU => run_cell_one 3 _ rfl Try.isAgg3 g4 1 rfl _ (HF.out U (HKP.out.trans (.of_below hU.below)) 1 _ rfl)) ?_; simp only [kP, kA, kS, kZ]
    refine lexS 3 rfl hI ?_; simp only [kP, kA, kS, kZ]
    refine lexS 4 rfl hI ?_; simp only [kP, kA, kS, kZ]
    refine lexT (v := .pointer (some ⟨gc, 5 + v, none⟩)) 5 rfl hI (fun W hW => by (first | (go_simp; done) | (go_simp; omega) | (go_simp; intro h; omega))) ?_; simp only [kP, kA, kS, kZ]
    refine lexT 6 rfl hI (fun U hU => run_cell_one 62 _ rfl Try.isAgg62 gc (5 + v) rfl _ (HC5.out U hU.below)) ?_; simp only [kP, kA, kS, kZ]
    refine lexT 7 rfl hI (fun W hW => St.run_load_agg hW 0 102 _ rfl Try.isAgg102 _ Try.sizeOf102 rfl rfl rfl rfl) ?_; simp only [kP, kA, kS, kZ]
    clear hI
    refine lexO 8 rfl fun K hK => ?_
    refine wp_callee (f := 38) (by first | (go_simp; done) | (go_simp; rfl)) ?_
    have hz9 := st.size
    have h8c := st.ltAt (i := 0) rfl
    refine (HADD.out _ st.below).mono ?_
    rintro e v9 ⟨a9, k9, rfl, hb9, hO9⟩
    refine ⟨_, rfl, ?_⟩
    replace st := st.call hb9
    have hI := st
    refine hK _ _ (hI) ?_; clear hK; simp only [kP, kA, kS, kZ]
    refine lexS 9 rfl hI ?_; simp only [kP, kA, kS, kZ]
    refine lexS 10 rfl hI ?_; simp only [kP, kA, kS, kZ]
    refine lexS 11 rfl hI ?_; simp only [kP, kA, kS, kZ]
    refine lexS 12 rfl hI ?_; simp only [kP, kA, kS, kZ]
    refine lexS 13 rfl hI ?_; simp only [kP, kA, kS, kZ]
    clear hI
    refine lex_done (by decide +kernel) ?_
    by_cases e3 : r3.2 = 0
    case neg =>
     have d3 : (r3.2 == 0) = false := by simpa using e3
     have HS := Lib.hid (HNX.out.trans (if_neg e3))
     clear e3 HNX
     go_wp2_with (first | go_skip | fail)
     go_roundw
     case rel => exact ⟨k + 1, hlt, by go_num, by rw [HS.out]; exact Pk.below st.below⟩
     case measure => simp [intOf] <;> omega
    have d3 : (r3.2 == 0) = true := by simpa using e3
    have HS := Lib.hid (HNX.out.trans (if_pos e3))
    have hok3 := hok3 e3
    clear e3 HNX
    go_upto_region 14 with (first | go_skip | fail)
    try simp only [kP, kA, kS, kZ]
    replace st := st.drew
    have hO9 := hO9.below (Below.refl _ _).drew
    have hgb := hA2.blkB st.below
    have hgcl2 := hA2.gcLt
    have hg8 : wr.heap.size ≤ g8 := by have := st.mine _ (List.mem_of_getElem? (i := 0) rfl); simpa using this
    have stc := st.holding hgb (by intro x hx; simp only [List.mem_cons, List.not_mem_nil, or_false] at hx; subst hx; simp only; omega)
    simp only [List.cons_append, List.nil_append] at stc
    have hI := stc.take 1
    refine lex_region (by kernel_rfl) 8 rfl (fun U => St [gc] wr U [(g8, 102, [.int .i64 c.c, .int .i64 c.by_, .int .i64 c.host, .int .i64 c.till])]) ?_
    refine lexS 0 rfl hI ?_; simp only [kP, kA, kS, kZ]
    refine lexS 1 rfl hI ?_; simp only [kP, kA, kS, kZ]
    refine lexT 2 rfl hI (fun U hU => run_cell_one 3 _ rfl Try.isAgg3 g4 1 rfl _ (HF.out U (HKP.out.trans (hU.keepsB hgc)) 1 _ rfl)) ?_; simp only [kP, kA, kS, kZ]
    refine lexS 3 rfl hI ?_; simp only [kP, kA, kS, kZ]
    refine lexS 4 rfl hI ?_; simp only [kP, kA, kS, kZ]
    refine lexS 5 rfl hI ?_; simp only [kP, kA, kS, kZ]
    refine lexT (v := .pointer (some ⟨gc, 5 + v, none⟩)) 6 rfl hI (fun W hW => by (first | (go_simp; done) | (go_simp; omega) | (go_simp; intro h; omega))) ?_; simp only [kP, kA, kS, kZ]
    clear hI
    refine lexO 7 rfl fun K hK => ?_
    refine wp_store stc 62 _ _ rfl gc (5 + v) rfl _ rfl [.slice a9 r3.1.length k9] rfl Try.sizeOf62 (by simp [Value.oneCell']) 1 _ _ rfl (by simp only [List.length_cons, List.length_nil]; omega) ?_
    intro U3 stu hm3 hz3
    refine hK _ _ (stu.take 1) ?_; clear hK; simp only [kP, kA, kS, kZ]
    refine lex_done (by decide +kernel) ?_
    have hS7 : SlR (okB ok2 wr gc na2 BB2) U3 4 RCert a9 k9 r3.1 := hO9.move (by omega) (fun b hb ho => by
     have hnb : b ∉ cluB gc na2 BB2 := fun hm => by have := hA2.lt b hm; omega
     exact ⟨⟨.inr (by omega), hnb⟩, hm3 b fun e => hnb (mem_cluB.2 (.inl e))⟩) fun _ _ r => r
    have P3 := hTo2 U3 _ hok3 (hA2.certIn hv stu (List.mem_of_getElem? (i := 1) rfl) hS7)
    clear stc stu st hA2 hTo2 hS7 hO9 hgb
    go_wp2_with (first | go_skip | fail)
    go_roundw
    case rel => exact ⟨k + 1, hlt, by go_num, by rw [HS.out]; exact P3⟩
    case measure => simp [intOf] <;> omega
   ·obtain rfl : k = certs.length := by omega
    rw [List.take_of_length_le (Nat.le_refl _)] at hX0
    have HTK := Lib.hid (show tookC C2 ⟨n, v, seq, false, thread, mail, certs⟩ = if mayB (CC.cert v) n mail CC.now = true then CC.setKer v (deliverK (CC.ker v) thread mail) else CC by
     unfold tookC
     simp only
     rw [hX0, hcX, hCC]
     have e1 : CC.now = C2.now := by rw [← hCC]; rfl
     have e2 : CC.ker v = C2.ker v := by rw [← hCC]; rfl
     rw [e1, e2])
    rw [HTK.out] at HE
    have HMAY := Lib.hid (fun (U : World) (hb : Below wr.heap.size wr U) => trust_May (fun _ => True) U (CC.cert v) ra rc n mail la lc ga gx CC.now ⟨by omega, by omega⟩ ((hcs.below hb).okay fun _ _ => trivial) ⟨((hmr.mail.label).below hb).okay fun _ _ => trivial, ((hmr.mail.grants).below hb).okay fun _ _ => trivial⟩)
    have HMR := Lib.hid hmr.mail
    have hokD : (CC.setKer v (deliverK (CC.ker v) thread mail)).ok ∧ ∀ x ∈ (CC.ker v).threads, x.ok := by
     obtain ⟨kk, ek, e2, hkk, hkh⟩ := hokk.kerAt hv
     rw [e2]
     exact ⟨hokk.setKer (deliverK_ok hkk _ _) (by rw [deliverK_host, hkh]), hkk.thr⟩
    obtain ⟨hokD, hthr⟩ := hokD
    clear hX0 hcX hCC hmr hcs e5 hkp hokk HTK HFR hA2 hTo2 hk hlt
    unfold mailV at HMAY
    obtain ⟨bm, hbm⟩ : ∃ bm, mayB (CC.cert v) n mail CC.now = bm := ⟨_, rfl⟩
    rw [hbm] at HMAY HE
    clear hbm
    go_upto_region 16 with (first | go_skip | fail)
    try simp only [kP, kA, kS, kZ]
    refine det_region (by kernel_rfl) 16 rfl (fun U => St [] wr U []) (st.drew) (by decide +kernel) ?_
    refine detS 0 rfl ?_; simp only [kP, kA, kS, kZ]; refine detS 1 rfl ?_; simp only [kP, kA, kS, kZ]
    refine detT 2 rfl (fun U hU => run_cell_one 3 _ rfl Try.isAgg3 g4 1 rfl _ (HF.out U (HKP.out.trans (.of_below hU.below)) 1 _ rfl)) ?_; simp only [kP, kA, kS, kZ]
    refine detS 3 rfl ?_; simp only [kP, kA, kS, kZ]; refine detS 4 rfl ?_; simp only [kP, kA, kS, kZ]
    refine detT (v := .pointer (some ⟨gc, 5 + v, none⟩)) 5 rfl (fun W hW => by (first | (go_simp; done) | (go_simp; omega) | (go_simp; intro h; omega))) ?_; simp only [kP, kA, kS, kZ]
    refine detT 6 rfl (fun U hU => run_cell_one 62 _ rfl Try.isAgg62 gc (5 + v) rfl _ (HC5.out U hU.below)) ?_; simp only [kP, kA, kS, kZ]
    refine detS 7 rfl ?_; simp only [kP, kA, kS, kZ]
    refine detT 8 rfl (fun U hU => run_cell_one 3 _ rfl Try.isAgg3 g4 0 rfl _ (HF.out U (HKP.out.trans (.of_below hU.below)) 0 _ rfl)) ?_; simp only [kP, kA, kS, kZ]
    refine detS 9 rfl ?_; simp only [kP, kA, kS, kZ]
    refine detT 10 rfl (fun U hU => run_load_at 45 _ rfl Try.isAgg45 _ Try.sizeOf45 g4 5 rfl [.int .i64 mail.host, .int .i64 mail.thread, .slice la mail.label.length lc, .slice ga mail.grants.length gx, .string mail.text] rfl (fun j x hx => HF.out U (HKP.out.trans (.of_below hU.below)) (5 + j) x (mail_cells hx))) ?_; simp only [kP, kA, kS, kZ]
    refine detS 11 rfl ?_; simp only [kP, kA, kS, kZ]; refine detS 12 rfl ?_; simp only [kP, kA, kS, kZ]; refine detS 13 rfl ?_; simp only [kP, kA, kS, kZ]
    refine detT 14 rfl (fun U hU => run_cell_one 3 _ rfl Try.isAgg3 gc 0 rfl _ (HC0.out U hU.below)) ?_; simp only [kP, kA, kS, kZ]
    refine det_call (fn := 44) 15 rfl (by decide +kernel) (by first | exact wanted_none rfl | exact wanted_some rfl rfl) (fun W => by first | (go_simp; done) | (go_simp; rfl)) (fun W hW => (HMAY.out W hW.below).mono fun e w' h => ⟨h.1, hW.call h.2⟩) ?_; simp only [kP, kA, kS, kZ]
    refine det_done (by decide +kernel) ?_
    clear st HMAY
    intro U5 st
    cases bm with
    | false =>
     go_wp2_with (first | go_skip | fail)
     go_end0
     rw [HE.out]
     exact ⟨⟨_, rfl⟩, back _ _ _ (Pk.below st.below)⟩
    | true =>
     go_upto_region 17 with (first | go_skip | fail)
     try simp only [kP, kA, kS, kZ]
     have Pd := Pk.below st.drew.below
     have hb5 := st.drew.below
     obtain ⟨ok5, BB5, na5, nc5, L5, hA5, -, -, hTo5⟩ := Pd.open
     obtain ⟨g, css, Bs, ek, eg, eB, hK0, e6⟩ := hA5.kerOf hv
     have HDv := Lib.hid (kernel_Deliver ok5 _ U5.drew g (CC.ker v) css Bs hK0 hthr thread mail la lc ga gx (by omega) (by omega) (HMR.out.below hb5))
     have HCK := Lib.hid (fun (U : World) (hb : Below U5.drew.heap.size U5.drew U) => hA5.cellB hb e6)
     have HKP5 := Lib.hid Pd.kept
     have HTo5 := Lib.hid (fun (V6 : World) hT => hTo5 V6 _ hokD (hA5.kernel hv ek eg eB hK0 hT))
     clear st hA5 hTo5 hK0 ek eg eB e6 Pk Pd hb5
     unfold mailV at HDv
     have hI := St.start U5.drew
     refine lex_tail (by kernel_rfl) 11 1 [11] rfl (by decide +kernel) (fun U => St [] U5.drew U []) ?_
     refine lexS 0 rfl hI ?_; simp only [kP, kA, kS, kZ]
     refine lexS 1 rfl hI ?_; simp only [kP, kA, kS, kZ]
     refine lexT 2 rfl hI (fun U hU => run_cell_one 3 _ rfl Try.isAgg3 g4 1 rfl _ (HF.out U (HKP5.out.trans (.of_below hU.below)) 1 _ rfl)) ?_; simp only [kP, kA, kS, kZ]
     refine lexS 3 rfl hI ?_; simp only [kP, kA, kS, kZ]
     refine lexS 4 rfl hI ?_; simp only [kP, kA, kS, kZ]
     refine lexT (v := .pointer (some ⟨gc, 1 + v, none⟩)) 5 rfl hI (fun W hW => by (first | (go_simp; done) | (go_simp; omega) | (go_simp; intro h; omega))) ?_; simp only [kP, kA, kS, kZ]
     refine lexT 6 rfl hI (fun U hU => run_cell_one 60 _ rfl Try.isAgg60 gc (1 + v) rfl _ (HCK.out U hU.below)) ?_; simp only [kP, kA, kS, kZ]
     refine lexS 7 rfl hI ?_; simp only [kP, kA, kS, kZ]
     refine lexT 8 rfl hI (fun U hU => run_cell_one 3 _ rfl Try.isAgg3 g4 4 rfl _ (HF.out U (HKP5.out.trans (.of_below hU.below)) 4 _ rfl)) ?_; simp only [kP, kA, kS, kZ]
     refine lexS 9 rfl hI ?_; simp only [kP, kA, kS, kZ]
     refine lexT 10 rfl hI (fun U hU => run_load_at 45 _ rfl Try.isAgg45 _ Try.sizeOf45 g4 5 rfl [.int .i64 mail.host, .int .i64 mail.thread, .slice la mail.label.length lc, .slice ga mail.grants.length gx, .string mail.text] rfl (fun j x hx => HF.out U (HKP5.out.trans (.of_below hU.below)) (5 + j) x (mail_cells hx))) ?_; simp only [kP, kA, kS, kZ]
     clear hI
     refine lex_done (by decide +kernel) ?_
     refine tail_last 11 rfl (by first | exact wanted_none rfl | exact wanted_some rfl rfl) (by decide +kernel) (by decide +kernel) fun K hK => ?_
     refine wp_callee (f := 45) (by first | (go_simp; done) | (go_simp; rfl)) ?_
     refine HDv.out.mono ?_
     rintro e V6 ⟨⟨u, rfl⟩, hT⟩
     have P6 := HTo5.out _ hT
     refine ⟨_, rfl, ?_⟩
     refine hK _ _ ?_; clear hK
     clear hT
     go_wp2_with (first | go_skip | fail)
     go_end0
     rw [HE.out]
     exact ⟨⟨_, rfl⟩, back _ _ _ P6⟩
end
open Go.RowKit
section
variable {w0 Wd W : World} {M0 : List Nat} {own : Blks} {X D : Nat → Prop} {gc : Nat} {kg : List Nat} {C : Clu}
theorem cluster_come (P : Clus w0 M0 own X Wd D gc kg C W) (s : List UInt8) (hl : s.length ≤ 9223372036854775807) :
  Calls Try.prog 25 #[.pointer (some ⟨gc, 0, none⟩), .string ⟨s.toArray⟩] W fun e W' => (∃ u, e = .returned u) ∧ Clus w0 M0 own X Wd D gc kg (comeC C ⟨s.toArray⟩) W' := by
 have ed : (⟨s.toArray⟩ : ByteArray).data.toList = s := by simp
 unfold comeC
 rw [ed]
 by_cases h0 : (decR s).2 = 0
 case neg =>
  rw [if_pos h0]
  exact cluster_come_bad P s hl h0
 rw [if_neg (by simpa using h0)]
 have hg := decR_good h0
 have hd : decR s = ((decR s).1, 0) := by rw [← h0]
 generalize (decR s).1 = f at *
 obtain ⟨src, dst, seq, ack, thread, mail, certs⟩ := f
 have hg2 := hg
 obtain ⟨q0, q1, -, -, -, -⟩ := goodF_facts hg
 simp only at q0 q1
 obtain ⟨n, rfl, hn⟩ := four_nat q0
 obtain ⟨v, rfl, hv⟩ := four_nat q1
 cases ack with
 | true =>
  have e : comeF C ⟨n, v, seq, true, thread, mail, certs⟩ = C.setLine v n (answLn (C.line v n) seq) := by unfold comeF; rw [if_pos rfl]
  have hok := comeF_ok P.okC hg
  rw [e] at hok ⊢
  exact cluster_come_ack P s hl n v hn hv seq thread mail certs hd hok
 | false =>
  obtain ⟨L, eL, e3, hL, hs⟩ := P.okC.lineAt hn hv
  obtain ⟨q1, q2, _⟩ := tookLn_ok hL seq
  refine cluster_come_mail P s hl n v hn hv seq thread mail certs hd hg _ rfl _ rfl ?_
  have h1 : (C.setLine n v (tookLn (C.line n v) seq).1).ok := by
   rw [e3]
   exact P.okC.setLine q1 fun s hs' => hs s (by rw [q2] at hs'; exact hs')
  exact h1
end
end Go.Proofs.Ytflfjpopfapogaa
