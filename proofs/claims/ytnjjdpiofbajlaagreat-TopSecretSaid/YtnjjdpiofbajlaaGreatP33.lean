/- Walks and plain laws, part 33. -/
import Derived.Test.YtnjjdpiofbajlaaGreatP32
import Derived.Test.YtnjjdpiofbajlaaGreatP30
set_option linter.unusedSimpArgs false
set_option linter.unusedVariables false
set_option maxHeartbeats 16000000
set_option maxRecDepth 100000
namespace Go.Proofs.YtnjjdpiofbajlaaGreat
open Go.RowKit
theorem St.keepsB {V U : World} {gc : Nat} {bl : Blks} {B0 : List Nat} (st : St [gc] V U bl) (hgc : gc ∈ B0) : Keeps (fun b => b ∉ B0) V U :=
 ⟨st.size, fun b hb ho => st.frame b hb (by simp; rintro rfl; exact ho hgc)⟩
theorem Clu.setCert_twice (C : Clu) (n : Int) (a b : List Cert) : (C.setCert n a).setCert n b = C.setCert n b := by unfold Clu.setCert; simp
theorem Clu.setCert_same {C : Clu} {n : Nat} (h : n < C.certs.length) : C.setCert n (C.cert n) = C := by
 unfold Clu.setCert Clu.cert
 rw [Int.toNat_natCast, List.getD_eq_getElem?_getD, gEg h]
 simp
theorem Clu.cert_set {C : Clu} {n : Nat} (h : n < C.certs.length) (l : List Cert) : (C.setCert n l).cert n = l := by
 unfold Clu.setCert Clu.cert
 rw [Int.toNat_natCast, List.getD_eq_getElem?_getD]
 simp [h]
theorem addAll_snoc (l : List Cert) (cs : List Cert) (k : Nat) (h : k < cs.length) : addAll l (cs.take (k + 1)) = addOne (addAll l (cs.take k)) cs[k] := by
 unfold addAll
 rw [List.take_succ_eq_append_getElem h, List.foldl_append]
 rfl
theorem mail_cells {a0 a1 a2 a3 a4 m0 m1 m2 m3 m4 c x : Value} {j : Nat} (h : [m0, m1, m2, m3, m4][j]? = some x) : [a0, a1, a2, a3, a4, m0, m1, m2, m3, m4, c][5 + j]? = some x := by
 match j, h with
 | 0, h => exact h
 | 1, h => exact h
 | 2, h => exact h
 | 3, h => exact h
 | 4, h => exact h
 | j + 5, h => simp at h
section
variable {w0 Wd W : World} {M0 : List Nat} {own : Blks} {X D : Nat → Prop} {gc : Nat} {kg : List Nat} {C : Clu}
theorem cluster_come_mail (P : Clus w0 M0 own X Wd D gc kg C W) (s : List UInt8) (hl : s.length ≤ 9223372036854775807) (n v : Nat) (hn : n < 4) (hv : v < 4) (seq thread : Int) (mail : Mail) (certs : List Cert) (hd : decR s = (⟨n, v, seq, false, thread, mail, certs⟩, 0))
  (hgood : goodFrameC ⟨n, v, seq, false, thread, mail, certs⟩ = 0) (r : Int × Eight × Int) (hr : takeC (lineOk (C.line n v)) (C.line n v).high seq (C.line n v).seen = r) (C1 : Clu) (hC1 : C1 = C.setLine n v { C.line n v with high := r.1, seen := r.2.1 }) (hok1 : C1.ok) :
  Calls Tryz.prog 36 #[.pointer (some ⟨gc, 0, none⟩), .string ⟨s.toArray⟩] W fun e W' => (∃ u, e = .returned u) ∧ Clus w0 M0 own X Wd D gc kg (comeF C ⟨n, v, seq, false, thread, mail, certs⟩) W' := by
 have HD := qh (wire_Decode W s hl)
 unfold DecPost frameV at HD
 rw [hd] at HD
 simp only at HD
 clear hd hl
 have hfit := good_fitsW hgood
 obtain ⟨q0, q1, q2, q3, q4, q5⟩ := goodF_facts hgood
 obtain ⟨q6, q7, q8, q9⟩ := q5 rfl
 obtain ⟨m1, m2, m3⟩ := goodM_len q6
 simp only at q2 q3 q4 q7 q8 q9 m1 m2 m3
 have eC : comeF C ⟨n, v, seq, false, thread, mail, certs⟩ = if r.2.2 = 0 then tookC (pushC C1 (ackOf ⟨n, v, seq, false, thread, mail, certs⟩)) ⟨n, v, seq, false, thread, mail, certs⟩ else if r.2.2 = 10 then pushC C1 (ackOf ⟨n, v, seq, false, thread, mail, certs⟩) else C1 := by
  unfold comeF tookLn
  simp only
  rw [hr, ← hC1]
  simp
 have HEC := qh eC
 have Q7 := qh q7
 clear eC hgood q0 q1 q5 q7
 have st := St.start W
 go_enter Tryz.func36, Tryz.ntmps36
 go_upto_region 4 with (first
  | go_skip
  | (go_at_call 51; go_must (refine HD.out.mono ?_; rintro e v1 ⟨la, lc, ga, gx, ca, cc, rfl, hF, hb1⟩; replace st := St.start v1; have hz1 := hb1.size)) | (with_reducible refine mA st Tryz.zeroValue110 ?_; clear st; intro g4 w4 hg4 st) | (with_reducible refine mS 0 st Tryz.sizeOf110 ?_; clear st; intro w5 st hw5m hw5z) | (with_reducible refine mX st Tryz.isAgg4 ?_))
 obtain ⟨B0, Y, Q, hgc, hB0, back⟩ := P.enterV (hb1.keep st.below)
 have hg4 : W.heap.size ≤ g4 := by
  have h2 : v1.heap.size ≤ g4 := by have := st.mine _ (mgE (i := 0) rfl); simpa using this
  omega
 have hg4B : g4 ∉ B0 := fun hm => by have := hB0 g4 hm; omega
 have hg4l := st.ltAt (i := 0) rfl
 have hF5 : FrameR (fun b => W.heap.size ≤ b) w5 ⟨n, v, seq, false, thread, mail, certs⟩ la lc ga gx ca cc := hF.move st.size (fun b hb ho => ⟨ho, st.frame b hb (by simp)⟩)
 clear hw5m hw5z hF HD hb1
 obtain ⟨ok, BB, na, nc, L, hA, -, -, hTo⟩ := Q.open
 obtain ⟨sa, sc, hs, hlc⟩ := hA.lineB hn hv
 have HF := qh (show ∀ (U : World), Keeps (fun b => b ∉ B0) w5 U → ∀ (j : Nat) (x : Value), [Value.int .i64 n, .int .i64 v, .int .i64 seq, .bool false, .int .i64 thread, .int .i64 mail.host, .int .i64 mail.thread, .slice la mail.label.length lc, .slice ga mail.grants.length gx, .string mail.text, .slice ca certs.length cc][j]? = some x → U.cell? ⟨g4, j, none⟩ = some x from fun U hU j x hx =>
  (hU.cell (p := ⟨g4, j, none⟩) hg4l hg4B).trans ((st.cell (i := 0) rfl j).trans hx))
 have HT := qh (fun (U : World) (hb : Below w5.heap.size w5 U) => line_Take ok U (C.line n v).next (C.line n v).high sa sc (C.line n v).sent (C.line n v).seen seq (hs.below hb) _ rfl r hr)
 have HLC := qh hlc
 have HSV := qh hs
 have HFR := qh hF5
 have HFit := qh hfit
 clear hs hlc hr st P Q hF5 hfit
 unfold lineV at HT
 have hlen := hA.cells.len
 have st := St.start w5
 try simp only [kP, kA, kS, kZ]
 go_cut [5, 6] (fun s5 s6 wx => ∃ (g6 : Nat), s5 = .int .i64 r.2.2 ∧ s6 = .pointer (some ⟨g6, 0, none⟩) ∧ St [] w5 wx [(g6, 80, [.int .i64 (C.line n v).next, .slice sa (C.line n v).sent.length sc, .int .i64 r.1, .bool r.2.1.s0, .bool r.2.1.s1, .bool r.2.1.s2, .bool r.2.1.s3, .bool r.2.1.s4, .bool r.2.1.s5, .bool r.2.1.s6, .bool r.2.1.s7])])
 case first =>
  replace st := st.drew
  have hI := st
  refine lex_region (by kernel_rfl) 19 rfl (fun U => St [] w5 U []) ?_
  refine lexS 0 rfl hI ?_
  refine lexS 1 rfl hI ?_
  refine lexT 2 rfl hI (fun U hU => run_cell_one 3 _ rfl Tryz.isAgg3 g4 0 rfl _ (HF.out U (.of_below hU.below) 0 _ rfl)) ?_
  refine lexS 3 rfl hI ?_
  refine lexT 4 rfl hI (fun U hU => run_cell_one 3 _ rfl Tryz.isAgg3 g4 1 rfl _ (HF.out U (.of_below hU.below) 1 _ rfl)) ?_
  refine lexS 5 rfl hI ?_
  refine lexS 6 rfl hI ?_
  refine lexT (v := .pointer (some ⟨gc, 9 + n * 44, none⟩)) 7 rfl hI (fun W hW => by (first | (go_simp; done) | (go_simp; omega) | (go_simp; intro h; omega))) ?_
  refine lexT (v := .pointer (some ⟨gc, 9 + n * 44 + v * 11, none⟩)) 8 rfl hI (fun W hW => by (first | (go_simp; done) | (go_simp; omega) | (go_simp; intro h; omega))) ?_
  refine lexT 9 rfl hI (fun U hU => run_load_at 80 _ rfl Tryz.isAgg80 _ Tryz.sizeOf80 gc (9 + n * 44 + v * 11) rfl (lineC (C.line n v) sa sc) rfl (HLC.out U hU.below)) ?_
  refine lexS 10 rfl hI ?_
  refine lexT 11 rfl hI (fun U hU => run_cell_one 3 _ rfl Tryz.isAgg3 g4 2 rfl _ (HF.out U (.of_below hU.below) 2 _ rfl)) ?_
  clear hI
  refine lex_each [12, 16] (by decide +kernel) (by decide) ?_; intro i hi K hK; simp only [List.mem_cons, List.not_mem_nil, or_false] at hi; rcases hi with rfl | rfl <;> refine ⟨_, rfl, (by first | exact wanted_none rfl | exact wanted_some rfl rfl), ?_⟩
  ·refine wp_callee (f := 53) (by first | (go_simp; done) | (go_simp; rfl)) ?_
   refine (HT.out _ st.below).mono ?_
   rintro e v6 ⟨rfl, hb6⟩
   refine ⟨_, rfl, ?_⟩
   replace st := st.call hb6
   have hI := st
   refine hK _ _ (hI) ?_; clear hK; simp only [kP, kA, kS, kZ]
   refine lexS 13 rfl hI ?_
   refine lexS 14 rfl hI ?_
   refine lexS 15 rfl hI ?_
   clear hI
   refine lexO 16 rfl fun K hK => ?_
   refine wp_alloc st 80 rfl _ Tryz.zeroValue80 _ rfl ?_; clear st; intro g6 w6 hg6 st hg6b; simp [Act.eval, Act.put, Value.cells, putL] at st
   refine hK _ _ (st.take 0) ?_; clear hK; simp only [kP, kA, kS, kZ]
   refine lexO 17 rfl fun K hK => ?_
   refine wp_store' st 80 _ _ rfl _ Tryz.sizeOf80 ⟨0, _, _, _, _, _, rfl, rfl, rfl, rfl, rfl, rfl, ?_⟩; clear st; intro w7 st hw7m hw7z; simp [Act.eval, Act.put, Value.cells, putL] at st
   have hI := st.take 0
   refine hK _ _ (hI) ?_; clear hK; simp only [kP, kA, kS, kZ]
   refine lexS 18 rfl hI ?_
   clear hI
   refine lex_done (by decide +kernel) ?_
   go_wp2_with fail
   go_meet
   exact ⟨g6, rfl, rfl, st⟩
  ·refine wp_alloc st 80 rfl _ Tryz.zeroValue80 _ rfl ?_; clear st; intro g6 w6 hg6 st hg6b; simp [Act.eval, Act.put, Value.cells, putL] at st
   refine hK _ _ (st.take 0) ?_; clear hK; simp only [kP, kA, kS, kZ]
   refine lexO 12 rfl fun K hK => ?_
   refine wp_callee (f := 53) (by first | (go_simp; done) | (go_simp; rfl)) ?_
   refine (HT.out _ st.below).mono ?_
   rintro e v6 ⟨rfl, hb6⟩
   refine ⟨_, rfl, ?_⟩
   replace st := st.call hb6
   have hI := st.take 0
   refine hK _ _ (hI) ?_; clear hK; simp only [kP, kA, kS, kZ]
   refine lexS 13 rfl hI ?_
   refine lexS 14 rfl hI ?_
   refine lexS 15 rfl hI ?_
   clear hI
   refine lexO 17 rfl fun K hK => ?_
   refine wp_store' st 80 _ _ rfl _ Tryz.sizeOf80 ⟨0, _, _, _, _, _, rfl, rfl, rfl, rfl, rfl, rfl, ?_⟩; clear st; intro w7 st hw7m hw7z; simp [Act.eval, Act.put, Value.cells, putL] at st
   have hI := st.take 0
   refine hK _ _ (hI) ?_; clear hK; simp only [kP, kA, kS, kZ]
   refine lexS 18 rfl hI ?_
   clear hI
   refine lex_done (by decide +kernel) ?_
   go_wp2_with fail
   go_meet
   exact ⟨g6, rfl, rfl, st⟩
 case rest =>
  clear st
  obtain ⟨g6, rfl, rfl, st⟩ := hcut
  go_upto_region 5 with (first | go_skip | fail)
  try simp only [kP, kA, kS, kZ]
  replace st := st.drew
  have hg6 : w5.heap.size ≤ g6 := by have := st.mine _ (mgE (i := 0) rfl); simpa using this
  have hgb := hA.blkB st.below
  have hgcl := hA.gcLt
  have stc := st.holding hgb (by intro x hx; simp only [List.mem_cons, List.not_mem_nil, or_false] at hx; subst hx; simp only; omega)
  simp only [List.cons_append, List.nil_append] at stc
  have hI := stc.take 1
  refine lex_region (by kernel_rfl) 11 rfl (fun U => St [gc] w5 U [(g6, 80, [.int .i64 (C.line n v).next, .slice sa (C.line n v).sent.length sc, .int .i64 r.1, .bool r.2.1.s0, .bool r.2.1.s1, .bool r.2.1.s2, .bool r.2.1.s3, .bool r.2.1.s4, .bool r.2.1.s5, .bool r.2.1.s6, .bool r.2.1.s7])]) ?_
  refine lexS 0 rfl hI ?_
  refine lexS 1 rfl hI ?_
  refine lexT 2 rfl hI (fun U hU => run_cell_one 3 _ rfl Tryz.isAgg3 g4 0 rfl _ (HF.out U (hU.keepsB hgc) 0 _ rfl)) ?_
  refine lexS 3 rfl hI ?_
  refine lexT 4 rfl hI (fun U hU => run_cell_one 3 _ rfl Tryz.isAgg3 g4 1 rfl _ (HF.out U (hU.keepsB hgc) 1 _ rfl)) ?_
  refine lexT 5 rfl hI (fun W hW => St.run_load_agg hW 0 80 _ rfl Tryz.isAgg80 _ Tryz.sizeOf80 rfl rfl rfl rfl) ?_
  refine lexS 6 rfl hI ?_
  refine lexS 7 rfl hI ?_
  refine lexT (v := .pointer (some ⟨gc, 9 + n * 44, none⟩)) 8 rfl hI (fun W hW => by (first | (go_simp; done) | (go_simp; omega) | (go_simp; intro h; omega))) ?_
  refine lexT (v := .pointer (some ⟨gc, 9 + n * 44 + v * 11, none⟩)) 9 rfl hI (fun W hW => by (first | (go_simp; done) | (go_simp; omega) | (go_simp; intro h; omega))) ?_
  clear hI
  refine lexO 10 rfl fun K hK => ?_
  refine wp_store stc 80 _ _ rfl gc (9 + n * 44 + v * 11) rfl _ rfl (lineC { C.line n v with high := r.1, seen := r.2.1 } sa sc) rfl Tryz.sizeOf80 (by simp [lineC, Value.oneCell']) 1 _ _ rfl (by simp only [lineC, List.length_cons, List.length_nil]; omega) ?_
  intro U1 stu hm8 hz8
  refine hK _ _ (stu.take 1) ?_; clear hK; simp only [kP, kA, kS, kZ]
  refine lex_done (by decide +kernel) ?_
  have hS7 : SentR (okB ok w5 gc na BB) U1 sa sc (C.line n v).sent := (HSV.out.below st.below).move (by omega) (fun b hb ho => by
   have hnb : b ∉ cluB gc na BB := fun hm => hA.apart b hm ho
   exact ⟨⟨.inl ho, hnb⟩, hm8 b fun e => hnb (mem_cluB.2 (.inl e))⟩)
  have P1 := hTo U1 _ (by rw [← hC1]; exact hok1) (hA.lineIn hn hv stu (mgE (i := 1) rfl) hS7)
  rw [← hC1] at P1
  clear stc stu st hA hTo hS7 hgb hm8 hz8 hC1
  by_cases e0 : r.2.2 = 0
  case neg =>
   have d0 : (r.2.2 == 0) = false := by simpa using e0
   have dn : (r.2.2 != 0) = true := by simpa using e0
   by_cases e10 : r.2.2 = 10
   case neg =>
    have d10 : (r.2.2 == 10) = false := by simpa using e10
    have HE := qh (HEC.out.trans (by rw [if_neg e0, if_neg e10]))
    clear e0 e10
    go_wp2_with (first | go_skip | fail)
    (try simp only [Exit.inBlock, Exit.then]); refine bodyPost_ret (results_none rfl _ _ _) rfl ?_
    rw [HE.out]
    exact ⟨⟨_, rfl⟩, back _ _ _ P1⟩
   have d10 : (r.2.2 == 10) = true := by simpa using e10
   have HE := qh (HEC.out.trans (by rw [if_neg e0, if_pos e10]))
   clear e0 e10
   have f0 := HF.out U1 P1.kept 0 _ rfl
   have f1 := HF.out U1 P1.kept 1 _ rfl
   have f2 := HF.out U1 P1.kept 2 _ rfl
   have HPU := qh (cluster_push P1 (ackOf ⟨n, v, seq, false, thread, mail, certs⟩) (fun _ => True) none 0 none 0 none 0 ⟨by simp [ackOf, zeroM], by simp [ackOf, zeroM], by simp [ackOf, zeroM], by show (0 : Nat) ≤ _; omega⟩ ⟨⟨SlR.nil _ _ _ _, SlR.nil _ _ _ _⟩, SlR.nil _ _ _ _⟩)
   generalize pushC C1 (ackOf ⟨n, v, seq, false, thread, mail, certs⟩) = C2 at HPU HE HEC
   unfold frameV ackOf zeroM at HPU
   go_wp2_with (first
    | go_skip
    | (go_at_call 54; go_must (refine HPU.out.mono ?_; rintro e U2 ⟨⟨u, rfl⟩, P2⟩)))
   (try simp only [Exit.inBlock, Exit.then]); refine bodyPost_ret (results_none rfl _ _ _) rfl ?_
   rw [HE.out]
   exact ⟨⟨_, rfl⟩, back _ _ _ P2⟩
  have d0 : (r.2.2 == 0) = true := by simpa using e0
  have dn : (r.2.2 != 0) = false := by simpa using e0
  have HE := qh (HEC.out.trans (by rw [if_pos e0]))
  clear e0 HEC
  have f0 := HF.out U1 P1.kept 0 _ rfl
  have f1 := HF.out U1 P1.kept 1 _ rfl
  have f2 := HF.out U1 P1.kept 2 _ rfl
  have HPU := qh (cluster_push P1 (ackOf ⟨n, v, seq, false, thread, mail, certs⟩) (fun _ => True) none 0 none 0 none 0 ⟨by simp [ackOf, zeroM], by simp [ackOf, zeroM], by simp [ackOf, zeroM], by show (0 : Nat) ≤ _; omega⟩ ⟨⟨SlR.nil _ _ _ _, SlR.nil _ _ _ _⟩, SlR.nil _ _ _ _⟩)
  generalize pushC C1 (ackOf ⟨n, v, seq, false, thread, mail, certs⟩) = C2 at HPU HE
  unfold frameV ackOf zeroM at HPU
  go_upto_region 8 with (first
   | go_skip
   | (go_at_call 54; go_must (refine HPU.out.mono ?_; rintro e U2 ⟨⟨u, rfl⟩, P2⟩)))
  clear f0 f1 f2 P1 HPU
  have f10 := HF.out U2 P2.kept 10 _ rfl
  go_wp2_with (first | go_skip | fail)
  have hN4 := P2.okC.certN
  go_loopw [91] (fun j wr => ∃ k : Nat, k ≤ certs.length ∧ j = .int .i64 k ∧ Clus w5 B0 [] Y w5 (fun b => b ∉ B0) gc kg (C2.setCert v (addAll (C2.cert v) (certs.take k))) wr) (fun j _ => certs.length - (intOf j).toNat)
  case atStart =>
   refine ⟨0, Nat.zero_le _, rfl, ?_⟩
   rw [List.take_zero]
   show Clus _ _ _ _ _ _ _ _ (C2.setCert v (C2.cert v)) U2
   rw [Clu.setCert_same (by omega)]
   exact P2
  case round =>
   clear P2 f10
   obtain ⟨k, hk, rfl, Pk⟩ := hrel
   have hkp := Pk.kept
   have HKP := qh hkp
   have hmr : FrameR (fun b => W.heap.size ≤ b) wr ⟨n, v, seq, false, thread, mail, certs⟩ la lc ga gx ca cc := HFR.out.move hkp.size (fun b hb ho => ⟨ho, hkp.block b hb fun hm => by have := hB0 b hm; omega⟩)
   obtain ⟨X0, hX0⟩ : ∃ X0, addAll (C2.cert v) (certs.take k) = X0 := ⟨_, rfl⟩
   rw [hX0] at Pk
   have hcX : (C2.setCert v X0).cert v = X0 := Clu.cert_set (by omega) X0
   obtain ⟨CC, hCC⟩ : ∃ CC, C2.setCert v X0 = CC := ⟨_, rfl⟩
   rw [hCC] at Pk hcX
   have hokk := Pk.okC
   obtain ⟨ok2, BB2, na2, nc2, L2, hA2, -, -, hTo2⟩ := Pk.open
   obtain ⟨ra, rc, e5, hcs⟩ := hA2.certsOf hv
   have hlen2 := hA2.cells.len
   have HC5 := qh (fun (U : World) (hb : Below wr.heap.size wr U) => hA2.cellB hb e5)
   have HC0 := qh (fun (U : World) (hb : Below wr.heap.size wr U) => hA2.cellB hb hA2.cells.now)
   have st := St.start wr
   by_cases hlt : k < certs.length
   ·obtain ⟨c, hc⟩ : ∃ c, certs[k] = c := ⟨_, rfl⟩
    obtain ⟨bb, oo, hre, hbl, h1, -⟩ := hmr.certs.cert_at k hlt
    have hrow := hmr.certs
    rw [hre] at hrow
    replace hrow := hrow.cert_row k hlt
    simp only [hc] at hrow h1
    obtain ⟨r3, hr3⟩ : ∃ r3, addC (CC.cert v) c = r3 := ⟨_, rfl⟩
    have HADD := qh (fun (U : World) (hb : Below wr.heap.size wr U) => trust_Add ok2 U ra rc (CC.cert v) c (hcs.below hb) r3 hr3)
    have HNX := qh (show C2.setCert v (addAll (C2.cert v) (certs.take (k + 1))) = if r3.2 = 0 then CC.setCert v r3.1 else CC by
     rw [addAll_snoc _ _ _ hlt, hX0, hc]
     unfold addOne
     rw [hcX] at hr3
     rw [hr3]
     split
     ·rw [← hCC, Clu.setCert_twice]
     ·exact hCC)
    have hok3 : r3.2 = 0 → (CC.setCert v r3.1).ok := fun h0 => hokk.setCert (by
     rw [← hr3] at h0 ⊢
     exact (addC_ok h0).2.1)
    clear hc hr3 hCC hX0 hcX hmr hcs e5 hkp hokk HE HFR
    subst hre
    go_upto_region 12 with (first | go_skip | (with_reducible refine at_load 47 ?_; refine wpList_load_cells (wanted_none rfl) 47 _ rfl Tryz.isAgg47 _ Tryz.sizeOf47 bb (oo + k * 4) rfl [.int .i64 c.c, .int .i64 c.by_, .int .i64 c.host, .int .i64 c.till] rfl hrow ?_) | (with_reducible refine mA st Tryz.zeroValue47 ?_; clear st; intro g8 w8 hg8 st) | (with_reducible refine mS 0 st Tryz.sizeOf47 ?_; clear st; intro w9 st hw9m hw9z))
    clear hw9m hw9z hrow h1 hbl
    try simp only [kP, kA, kS, kZ]
    replace st := st.drew
    have hI := st
    refine lex_region (by kernel_rfl) 14 rfl (fun U => St [] wr U [(g8, 47, [.int .i64 c.c, .int .i64 c.by_, .int .i64 c.host, .int .i64 c.till])]) ?_
    refine lexS 0 rfl hI ?_
    refine lexS 1 rfl hI ?_
    refine lexT 2 rfl hI (fun U hU => run_cell_one 3 _ rfl Tryz.isAgg3 g4 1 rfl _ (HF.out U (HKP.out.trans (.of_below hU.below)) 1 _ rfl)) ?_
    refine lexS 3 rfl hI ?_
    refine lexS 4 rfl hI ?_
    refine lexT (v := .pointer (some ⟨gc, 5 + v, none⟩)) 5 rfl hI (fun W hW => by (first | (go_simp; done) | (go_simp; omega) | (go_simp; intro h; omega))) ?_
    refine lexT 6 rfl hI (fun U hU => run_cell_one 44 _ rfl Tryz.isAgg44 gc (5 + v) rfl _ (HC5.out U hU.below)) ?_
    refine lexT 7 rfl hI (fun W hW => St.run_load_agg hW 0 47 _ rfl Tryz.isAgg47 _ Tryz.sizeOf47 rfl rfl rfl rfl) ?_
    clear hI
    refine lexO 8 rfl fun K hK => ?_
    refine wp_callee (f := 49) (by first | (go_simp; done) | (go_simp; rfl)) ?_
    have hz9 := st.size
    have h8c := st.ltAt (i := 0) rfl
    refine (HADD.out _ st.below).mono ?_
    rintro e v9 ⟨a9, k9, rfl, hb9, hO9⟩
    refine ⟨_, rfl, ?_⟩
    replace st := st.call hb9
    have hI := st
    refine hK _ _ (hI) ?_; clear hK; simp only [kP, kA, kS, kZ]
    refine lexS 9 rfl hI ?_
    refine lexS 10 rfl hI ?_
    refine lexS 11 rfl hI ?_
    refine lexS 12 rfl hI ?_
    refine lexS 13 rfl hI ?_
    clear hI
    refine lex_done (by decide +kernel) ?_
    by_cases e3 : r3.2 = 0
    case neg =>
     have d3 : (r3.2 == 0) = false := by simpa using e3
     have HS := qh (HNX.out.trans (if_neg e3))
     clear e3 HNX
     go_wp2_with (first | go_skip | fail)
     go_roundw
     case rel => exact ⟨k + 1, hlt, by go_num, by rw [HS.out]; exact Pk.below st.below⟩
     case measure => simp [intOf] <;> omega
    have d3 : (r3.2 == 0) = true := by simpa using e3
    have HS := qh (HNX.out.trans (if_pos e3))
    have hok3 := hok3 e3
    clear e3 HNX
    go_upto_region 14 with (first | go_skip | fail)
    try simp only [kP, kA, kS, kZ]
    replace st := st.drew
    have hO9 := hO9.below (Below.refl _ _).drew
    have hgb := hA2.blkB st.below
    have hgcl2 := hA2.gcLt
    have hg8 : wr.heap.size ≤ g8 := by have := st.mine _ (mgE (i := 0) rfl); simpa using this
    have stc := st.holding hgb (by intro x hx; simp only [List.mem_cons, List.not_mem_nil, or_false] at hx; subst hx; simp only; omega)
    simp only [List.cons_append, List.nil_append] at stc
    have hI := stc.take 1
    refine lex_region (by kernel_rfl) 8 rfl (fun U => St [gc] wr U [(g8, 47, [.int .i64 c.c, .int .i64 c.by_, .int .i64 c.host, .int .i64 c.till])]) ?_
    refine lexS 0 rfl hI ?_
    refine lexS 1 rfl hI ?_
    refine lexT 2 rfl hI (fun U hU => run_cell_one 3 _ rfl Tryz.isAgg3 g4 1 rfl _ (HF.out U (HKP.out.trans (hU.keepsB hgc)) 1 _ rfl)) ?_
    refine lexS 3 rfl hI ?_
    refine lexS 4 rfl hI ?_
    refine lexS 5 rfl hI ?_
    refine lexT (v := .pointer (some ⟨gc, 5 + v, none⟩)) 6 rfl hI (fun W hW => by (first | (go_simp; done) | (go_simp; omega) | (go_simp; intro h; omega))) ?_
    clear hI
    refine lexO 7 rfl fun K hK => ?_
    refine wp_store stc 44 _ _ rfl gc (5 + v) rfl _ rfl [.slice a9 r3.1.length k9] rfl Tryz.sizeOf44 (by simp [Value.oneCell']) 1 _ _ rfl (by simp only [List.length_cons, List.length_nil]; omega) ?_
    intro U3 stu hm3 hz3
    refine hK _ _ (stu.take 1) ?_; clear hK; simp only [kP, kA, kS, kZ]
    refine lex_done (by decide +kernel) ?_
    have hS7 : SlR (okB ok2 wr gc na2 BB2) U3 4 RCert a9 k9 r3.1 := hO9.move (by omega) (fun b hb ho => by
     have hnb : b ∉ cluB gc na2 BB2 := fun hm => by have := hA2.lt b hm; omega
     exact ⟨⟨.inr (by omega), hnb⟩, hm3 b fun e => hnb (mem_cluB.2 (.inl e))⟩) fun _ _ r => r
    have P3 := hTo2 U3 _ hok3 (hA2.certIn hv stu (mgE (i := 1) rfl) hS7)
    clear stc stu st hA2 hTo2 hS7 hO9 hgb
    go_wp2_with (first | go_skip | fail)
    go_roundw
    case rel => exact ⟨k + 1, hlt, by go_num, by rw [HS.out]; exact P3⟩
    case measure => simp [intOf] <;> omega
   ·obtain rfl : k = certs.length := by omega
    rw [List.take_of_length_le (Nat.le_refl _)] at hX0
    have HTK := qh (show tookC C2 ⟨n, v, seq, false, thread, mail, certs⟩ = if mayB (CC.cert v) n mail CC.now = true then CC.setKer v (deliverK (CC.ker v) thread mail) else CC by
     unfold tookC
     simp only
     rw [hX0, hcX, hCC]
     have e1 : CC.now = C2.now := by rw [← hCC]; rfl
     have e2 : CC.ker v = C2.ker v := by rw [← hCC]; rfl
     rw [e1, e2])
    rw [HTK.out] at HE
    have HMAY := qh (fun (U : World) (hb : Below wr.heap.size wr U) => trust_May (fun _ => True) U (CC.cert v) ra rc n mail la lc ga gx CC.now ⟨by omega, by omega⟩ ((hcs.below hb).okay fun _ _ => trivial) ⟨((hmr.mail.label).below hb).okay fun _ _ => trivial, ((hmr.mail.grants).below hb).okay fun _ _ => trivial⟩)
    have HMR := qh hmr.mail
    have hokD : (CC.setKer v (deliverK (CC.ker v) thread mail)).ok ∧ ∀ x ∈ (CC.ker v).threads, x.ok := by
     obtain ⟨kk, ek, e2, hkk, hkh⟩ := hokk.kerAt hv
     rw [e2]
     exact ⟨hokk.setKer (deliverK_ok hkk _ _) (by rw [deliverK_host, hkh]), hkk.thr⟩
    obtain ⟨hokD, hthr⟩ := hokD
    clear hX0 hcX hCC hmr hcs e5 hkp hokk HTK HFR hA2 hTo2 hk hlt
    unfold mailV at HMAY
    obtain ⟨bm, hbm⟩ : ∃ bm, mayB (CC.cert v) n mail CC.now = bm := ⟨_, rfl⟩
    rw [hbm] at HMAY HE
    clear hbm
    go_upto_region 16 with (first | go_skip | fail)
    try simp only [kP, kA, kS, kZ]
    refine det_region (by kernel_rfl) 16 rfl (fun U => St [] wr U []) (st.drew) (by decide +kernel) ?_
    refine detS 0 rfl ?_; refine detS 1 rfl ?_
    refine detT 2 rfl (fun U hU => run_cell_one 3 _ rfl Tryz.isAgg3 g4 1 rfl _ (HF.out U (HKP.out.trans (.of_below hU.below)) 1 _ rfl)) ?_
    refine detS 3 rfl ?_; refine detS 4 rfl ?_
    refine detT (v := .pointer (some ⟨gc, 5 + v, none⟩)) 5 rfl (fun W hW => by (first | (go_simp; done) | (go_simp; omega) | (go_simp; intro h; omega))) ?_
    refine detT 6 rfl (fun U hU => run_cell_one 44 _ rfl Tryz.isAgg44 gc (5 + v) rfl _ (HC5.out U hU.below)) ?_
    refine detS 7 rfl ?_
    refine detT 8 rfl (fun U hU => run_cell_one 3 _ rfl Tryz.isAgg3 g4 0 rfl _ (HF.out U (HKP.out.trans (.of_below hU.below)) 0 _ rfl)) ?_
    refine detS 9 rfl ?_
    refine detT 10 rfl (fun U hU => run_load_at 42 _ rfl Tryz.isAgg42 _ Tryz.sizeOf42 g4 5 rfl [.int .i64 mail.host, .int .i64 mail.thread, .slice la mail.label.length lc, .slice ga mail.grants.length gx, .string mail.text] rfl (fun j x hx => HF.out U (HKP.out.trans (.of_below hU.below)) (5 + j) x (mail_cells hx))) ?_
    refine detS 11 rfl ?_; refine detS 12 rfl ?_; refine detS 13 rfl ?_
    refine detT 14 rfl (fun U hU => run_cell_one 3 _ rfl Tryz.isAgg3 gc 0 rfl _ (HC0.out U hU.below)) ?_
    refine det_call (fn := 55) 15 rfl (by decide +kernel) (by first | exact wanted_none rfl | exact wanted_some rfl rfl) (fun W => by first | (go_simp; done) | (go_simp; rfl)) (fun W hW => (HMAY.out W hW.below).mono fun e w' h => ⟨h.1, hW.call h.2⟩) ?_; simp only [kP, kA, kS, kZ]
    refine det_done (by decide +kernel) ?_
    clear st HMAY
    intro U5 st
    cases bm with
    | false =>
     go_wp2_with (first | go_skip | fail)
     go_end0
     rw [HE.out]
     exact ⟨⟨_, rfl⟩, back _ _ _ (Pk.below st.below)⟩
    | true =>
     go_upto_region 17 with (first | go_skip | fail)
     try simp only [kP, kA, kS, kZ]
     have Pd := Pk.below st.drew.below
     have hb5 := st.drew.below
     obtain ⟨ok5, BB5, na5, nc5, L5, hA5, -, -, hTo5⟩ := Pd.open
     obtain ⟨g, css, Bs, ek, eg, eB, hK0, e6⟩ := hA5.kerOf hv
     have HDv := qh (kernel_Deliver ok5 _ U5.drew g (CC.ker v) css Bs hK0 hthr thread mail la lc ga gx (by omega) (by omega) (HMR.out.below hb5))
     have HCK := qh (fun (U : World) (hb : Below U5.drew.heap.size U5.drew U) => hA5.cellB hb e6)
     have HKP5 := qh Pd.kept
     have HTo5 := qh (fun (V6 : World) hT => hTo5 V6 _ hokD (hA5.kernel hv ek eg eB hK0 hT))
     clear st hA5 hTo5 hK0 ek eg eB e6 Pk Pd hb5
     unfold mailV at HDv
     have hI := St.start U5.drew
     refine lex_tail (by kernel_rfl) 11 1 [11] rfl (by decide +kernel) (fun U => St [] U5.drew U []) ?_
     refine lexS 0 rfl hI ?_
     refine lexS 1 rfl hI ?_
     refine lexT 2 rfl hI (fun U hU => run_cell_one 3 _ rfl Tryz.isAgg3 g4 1 rfl _ (HF.out U (HKP5.out.trans (.of_below hU.below)) 1 _ rfl)) ?_
     refine lexS 3 rfl hI ?_
     refine lexS 4 rfl hI ?_
     refine lexT (v := .pointer (some ⟨gc, 1 + v, none⟩)) 5 rfl hI (fun W hW => by (first | (go_simp; done) | (go_simp; omega) | (go_simp; intro h; omega))) ?_
     refine lexT 6 rfl hI (fun U hU => run_cell_one 74 _ rfl Tryz.isAgg74 gc (1 + v) rfl _ (HCK.out U hU.below)) ?_
     refine lexS 7 rfl hI ?_
     refine lexT 8 rfl hI (fun U hU => run_cell_one 3 _ rfl Tryz.isAgg3 g4 4 rfl _ (HF.out U (HKP5.out.trans (.of_below hU.below)) 4 _ rfl)) ?_
     refine lexS 9 rfl hI ?_
     refine lexT 10 rfl hI (fun U hU => run_load_at 42 _ rfl Tryz.isAgg42 _ Tryz.sizeOf42 g4 5 rfl [.int .i64 mail.host, .int .i64 mail.thread, .slice la mail.label.length lc, .slice ga mail.grants.length gx, .string mail.text] rfl (fun j x hx => HF.out U (HKP5.out.trans (.of_below hU.below)) (5 + j) x (mail_cells hx))) ?_
     clear hI
     refine lex_done (by decide +kernel) ?_
     refine tail_last 11 rfl (by first | exact wanted_none rfl | exact wanted_some rfl rfl) (by decide +kernel) (by decide +kernel) fun K hK => ?_
     refine wp_callee (f := 56) (by first | (go_simp; done) | (go_simp; rfl)) ?_
     refine HDv.out.mono ?_
     rintro e V6 ⟨⟨u, rfl⟩, hT⟩
     have P6 := HTo5.out _ hT
     refine ⟨_, rfl, ?_⟩
     refine hK _ _ ?_; clear hK
     clear hT
     go_wp2_with (first | go_skip | fail)
     go_end0
     rw [HE.out]
     exact ⟨⟨_, rfl⟩, back _ _ _ P6⟩
end
section
variable {w0 Wd W : World} {M0 : List Nat} {own : Blks} {X D : Nat → Prop} {gc : Nat} {kg : List Nat} {C : Clu}
theorem cluster_come (P : Clus w0 M0 own X Wd D gc kg C W) (s : List UInt8) (hl : s.length ≤ 9223372036854775807) :
  Calls Tryz.prog 36 #[.pointer (some ⟨gc, 0, none⟩), .string ⟨s.toArray⟩] W fun e W' => (∃ u, e = .returned u) ∧ Clus w0 M0 own X Wd D gc kg (comeC C ⟨s.toArray⟩) W' := by
 have ed : (⟨s.toArray⟩ : ByteArray).data.toList = s := by simp
 unfold comeC
 rw [ed]
 by_cases h0 : (decR s).2 = 0
 case neg =>
  rw [if_pos h0]
  exact cluster_come_bad P s hl h0
 rw [if_neg (by simpa using h0)]
 have hg := decR_good h0
 have hd : decR s = ((decR s).1, 0) := by rw [← h0]
 generalize (decR s).1 = f at *
 obtain ⟨src, dst, seq, ack, thread, mail, certs⟩ := f
 have hg2 := hg
 obtain ⟨q0, q1, -, -, -, -⟩ := goodF_facts hg
 simp only at q0 q1
 obtain ⟨n, rfl, hn⟩ := four_nat q0
 obtain ⟨v, rfl, hv⟩ := four_nat q1
 cases ack with
 | true =>
  have e : comeF C ⟨n, v, seq, true, thread, mail, certs⟩ = C.setLine v n (answLn (C.line v n) seq) := by unfold comeF; rw [if_pos rfl]
  have hok := comeF_ok P.okC hg
  rw [e] at hok ⊢
  exact cluster_come_ack P s hl n v hn hv seq thread mail certs hd hok
 | false =>
  obtain ⟨L, eL, e3, hL, hs⟩ := P.okC.lineAt hn hv
  obtain ⟨q1, q2, _⟩ := tookLn_ok hL seq
  refine cluster_come_mail P s hl n v hn hv seq thread mail certs hd hg _ rfl _ rfl ?_
  have h1 : (C.setLine n v (tookLn (C.line n v) seq).1).ok := by
   rw [e3]
   exact P.okC.setLine q1 fun s hs' => hs s (by rw [q2] at hs'; exact hs')
  exact h1
end
structure ClusA (w0 : World) (M0 : List Nat) (own : Blks) (X : Nat → Prop) (Wd : World) (D : Nat → Prop) (gc : Nat) (kg : List Nat) (C : Clu) (W : World) (ok : Nat → Prop) (BB : List (List Nat)) (na : Option Addr) (nc : Nat) (L : List Value) : Prop where
 st : St M0 w0 W own
 okC : C.ok
 kept : Keeps D Wd W
 ownD : ∀ x ∈ own, ¬ (D x.1 ∧ x.1 < Wd.heap.size)
 old : ∀ b, X b → b < w0.heap.size
 at_ : CluAt ok W gc C kg BB na nc L
 mine : ∀ b ∈ cluB gc na BB, (b ∈ M0 ∨ w0.heap.size ≤ b) ∧ (∀ x ∈ own, x.1 ≠ b) ∧ ¬ (D b ∧ b < Wd.heap.size)
 data : ∀ b, ok b → b < W.heap.size ∧ (∀ x ∈ own, x.1 ≠ b) ∧ ¬ X b
section
variable {w0 Wd W : World} {M0 : List Nat} {own : Blks} {X D : Nat → Prop} {gc : Nat} {kg : List Nat} {C : Clu} {ok : Nat → Prop} {BB : List (List Nat)} {na : Option Addr} {nc : Nat} {L : List Value}
theorem Clus.raw (h : Clus w0 M0 own X Wd D gc kg C W) : ∃ ok BB na nc L, ClusA w0 M0 own X Wd D gc kg C W ok BB na nc L := by
 obtain ⟨st, hok, hD, hDo, hX, ok, BB, na, nc, L, hA, hB, hO⟩ := h
 exact ⟨ok, BB, na, nc, L, st, hok, hD, hDo, hX, hA, hB, hO⟩
theorem ClusA.clus (h : ClusA w0 M0 own X Wd D gc kg C W ok BB na nc L) : Clus w0 M0 own X Wd D gc kg C W := ⟨h.st, h.okC, h.kept, h.ownD, h.old, ok, BB, na, nc, L, h.at_, h.mine, h.data⟩
theorem ClusA.cells (h : ClusA w0 M0 own X Wd D gc kg C W ok BB na nc L) {V : World} {C' : Clu} {L' : List Value} {bl : Blks} (hok' : C'.ok) (st : St [gc] W V bl) (hb : (gc, 84, L') ∈ bl) (hL : CluL (okB ok W gc na BB) V C' kg na nc L') (hk : C'.kers = C.kers) (hn : C'.net = C.net) :
  ∃ ok', ClusA w0 M0 own X Wd D gc kg C' V ok' BB na nc L' := by
 have hA := h.at_
 have hnd := hA.nodup
 unfold cluB at hnd
 obtain ⟨hn1, hn2⟩ := List.nodup_cons.1 hnd
 have hgl := hA.lt
 have hnat : ∀ b, na.map (·.block) = some b → b ≠ gc := fun b e e2 => hn1 (List.mem_append.2 (.inl (by subst e2; simpa using e)))
 have hkb : ∀ B ∈ BB, ∀ b ∈ B, b ≠ gc := fun B hB b hbb e => hn1 (List.mem_append.2 (.inr (List.mem_flatten.2 ⟨B, hB, e ▸ hbb⟩)))
 have hfr : ∀ b, b < W.heap.size → b ≠ gc → V.heap[b]? = W.heap[b]? := fun b hb' hne => st.frame b hb' (by simpa using hne)
 have hA' : CluAt (okB ok W gc na BB) V gc C' kg BB na nc L' := by
  refine ⟨st.blk _ hb, hL, by rw [hk]; exact hA.kerN, hA.BBn, fun i k g B e1 e2 e3 => ?_, by rw [hn]; exact hA.net.kept (fun b e => hfr b (hA.net.lt e) (hnat b e)) fun _ _ r => r, hA.nodup, fun b hb hh => hh.2 hb⟩
  rw [hk] at e1
  obtain ⟨css, Bs, hK, rfl⟩ := hA.ker i k g B e1 e2 e3
  have hBm := mgE e3
  exact ⟨css, Bs, hK.move st.size (fun b hb' ho => ⟨⟨.inl ho, fun hm => hA.apart b hm ho⟩, hfr b hb' fun e => hA.apart b (mem_cluB.2 (.inl e)) ho⟩) fun b hb' => ⟨hfr b (hK.lt b hb') (hkb _ hBm b hb'), fun hh => hh.2 (mem_cluB.2 (.inr (.inr ⟨_, hBm, hb'⟩)))⟩, rfl⟩
 have hgm := h.mine gc (mem_cluB.2 (.inl rfl))
 have stE : St [gc] W V [] := st.sub (own' := []) (by simp) List.Pairwise.nil
 refine ⟨fun b => okB ok W gc na BB b ∧ b < V.heap.size, ⟨h.st.callK stE (fun x hx hm => hgm.2.1 x hx (by simpa using hm)) (fun b hb => by simp only [List.mem_singleton] at hb; subst hb; exact hgm.1), hok', ⟨Nat.le_trans h.kept.size st.size, fun b hbw hd => (hfr b (Nat.lt_of_lt_of_le hbw h.kept.size) fun e => hgm.2.2 (by subst e; exact ⟨hd, hbw⟩)).trans (h.kept.block b hbw hd)⟩, h.ownD, h.old,
  hA'.move (Nat.le_refl _) (fun b hb ho => ⟨⟨ho, hb⟩, rfl⟩) (fun b hb => ⟨rfl, fun hh => hA'.apart b hb hh.1⟩), h.mine, fun b hb => ⟨hb.2, fun x hx e => ?_, fun hx => ?_⟩⟩⟩
 ·rcases hb.1.1 with h1 | h1
  ·exact (h.data b h1).2.1 x hx e
  ·have := h.st.lt hx; omega
 ·rcases hb.1.1 with h1 | h1
  ·exact (h.data b h1).2.2 hx
  ·have := h.old b hx; have := h.st.size; omega
theorem ClusA.enter (h : ClusA w0 M0 own X Wd D gc kg C W ok BB na nc L) : ∃ Y, Clus W (cluB gc na BB) [] Y W (fun b => b ∉ cluB gc na BB) gc kg C W ∧ ∀ (C' : Clu) (V : World) (own' : Blks), Clus W (cluB gc na BB) own' Y W (fun b => b ∉ cluB gc na BB) gc kg C' V → Clus w0 M0 own X Wd D gc kg C' V := by
 obtain ⟨st, hok, hD, hDo, hX, hA, hB, hO⟩ := h
 refine ⟨fun b => X b ∨ ∃ x ∈ own, x.1 = b, ⟨⟨rfl, rfl, rfl, Nat.le_refl _, fun _ _ _ => rfl, by simp, by simp, List.Pairwise.nil⟩, hok, ⟨Nat.le_refl _, fun _ _ _ => rfl⟩, by simp, fun b hb => ?_, ok, BB, na, nc, L, hA, fun b hb => ⟨.inl hb, by simp, fun hh => hh.1 hb⟩, fun b hb => ⟨(hO b hb).1, by simp, fun hh => ?_⟩⟩, fun C' V own' hP => ?_⟩
 ·rcases hb with hb | ⟨x, hx, rfl⟩
  ·have := hX b hb; have := st.size; omega
  ·exact st.lt hx
 ·rcases hh with hh | ⟨x, hx, e⟩
  ·exact (hO b hb).2.2 hh
  ·exact (hO b hb).2.1 x hx e
 obtain ⟨st', hok', hD', hDo', hX', ok', BB', na', nc', L', hA', hB', hO'⟩ := hP
 have stE : St (cluB gc na BB) W V [] := st'.sub (own' := []) (by simp) List.Pairwise.nil
 refine ⟨st.callK stE (fun x hx hm => (hB _ hm).2.1 x hx rfl) fun b hb => (hB b hb).1, hok', ⟨Nat.le_trans hD.size hD'.size, fun b hb hd => (hD'.block b (Nat.lt_of_lt_of_le hb hD.size) fun hm => (hB b hm).2.2 ⟨hd, hb⟩).trans (hD.block b hb hd)⟩, hDo, hX, ok', BB', na', nc', L', hA', fun b hb => ?_, fun b hb => ⟨(hO' b hb).1, fun x hx e => (hO' b hb).2.2 (.inr ⟨x, hx, e⟩), fun hx => (hO' b hb).2.2 (.inl hx)⟩⟩
 rcases (hB' b hb).1 with h1 | h1
 ·exact hB b h1
 ·refine ⟨.inr (Nat.le_trans st.size h1), fun x hx e => ?_, fun hd => ?_⟩
  ·have := st.lt hx; omega
  ·have := hD.size; omega
end
theorem againLn_eq {L : Line} {now : Int} (h : lineOk L = true) (h0 : 0 ≤ now) (h1 : now ≤ 1099511627776) : againLn L now = ({ L with sent := L.sent.filterMap (keepS now) }, L.sent.filterMap (outS now)) := by
 unfold againLn againX
 rw [if_neg (by simp [h]; omega)]
theorem tickAll_succ (n i : Nat) (C : Clu) (L' : Line) (out : List Frame) (h : againLn (C.lines.getD i zeroL) C.now = (L', out)) : tickAll (n + 1) i C = ((tickAll n (i + 1) (pushAll { C with lines := C.lines.set i L' } out)).1, out.length + (tickAll n (i + 1) (pushAll { C with lines := C.lines.set i L' } out)).2) := by
 conv => lhs; unfold tickAll
 rw [h]
def TickInv (T : Clu × Nat) (i mm : Nat) (Ci : Clu) : Prop := T.1 = (tickAll (16 - i) i Ci).1 ∧ T.2 = mm + (tickAll (16 - i) i Ci).2
theorem TickInv.start {T : Clu × Nat} {C : Clu} (h : tickAll 16 0 C = T) : TickInv T 0 0 C := by
 unfold TickInv
 rw [Nat.sub_zero, h]
 exact ⟨rfl, by omega⟩
theorem TickInv.step {T : Clu × Nat} {i mm : Nat} {C : Clu} (h : TickInv T i mm C) (hi : i < 16) {L' : Line} {out : List Frame} (ha : againLn (C.lines.getD i zeroL) C.now = (L', out)) : TickInv T (i + 1) (mm + out.length) (pushAll { C with lines := C.lines.set i L' } out) := by
 obtain ⟨k, hk⟩ : ∃ k, 16 - i = k + 1 := ⟨16 - i - 1, by omega⟩
 have hk2 : 16 - (i + 1) = k := by omega
 unfold TickInv at h ⊢
 rw [hk, tickAll_succ k i C L' out ha] at h
 rw [hk2]
 exact ⟨h.1, by rw [h.2]; simp only; omega⟩
theorem TickInv.done {T : Clu × Nat} {mm : Nat} {C : Clu} (h : TickInv T 16 mm C) : T = (C, mm) := by
 obtain ⟨h1, h2⟩ := h
 have e : tickAll (16 - 16) 16 C = (C, 0) := rfl
 rw [e] at h1 h2
 exact Prod.ext h1 h2
theorem pushAll_snoc (C : Clu) (fs : List Frame) (k : Nat) (h : k < fs.length) : pushAll C (fs.take (k + 1)) = pushC (pushAll C (fs.take k)) fs[k] := by
 unfold pushAll
 rw [List.take_succ_eq_append_getElem h, List.foldl_append]
 rfl
theorem RFrame.moveB {ok ok' : Nat → Prop} {w w' : World} {cs : List Value} {f : Frame} (h : RFrame ok w cs f) (hs : w.heap.size ≤ w'.heap.size) (hk : ∀ b, b < w.heap.size → ok b → ok' b ∧ w'.heap[b]? = w.heap[b]?) : RFrame ok' w' cs f := by
 obtain ⟨la, lc, ga, gc, ca, cc, e, h1, h2, h3⟩ := h
 exact ⟨la, lc, ga, gc, ca, cc, e, h1.move hs hk fun _ _ r => r, h2.move hs hk fun _ _ r => r, h3.move hs hk fun _ _ r => r⟩
abbrev FramesR (ok : Nat → Prop) (w : World) (a : Option Addr) (c : Nat) (l : List Frame) : Prop := SlR ok w 11 (RFrame ok w) a c l
theorem FramesR.move {ok ok' : Nat → Prop} {w w' : World} {a : Option Addr} {c : Nat} {l : List Frame} (h : FramesR ok w a c l) (hs : w.heap.size ≤ w'.heap.size) (hk : ∀ b, b < w.heap.size → ok b → ok' b ∧ w'.heap[b]? = w.heap[b]?) : FramesR ok' w' a c l := SlR.move h hs hk fun _ _ r => r.moveB hs hk
section
variable {w0 Wd W : World} {M0 : List Nat} {own : Blks} {X D : Nat → Prop} {gc : Nat} {kg : List Nat} {C : Clu}
theorem cluster_tick (P : Clus w0 M0 own X Wd D gc kg C W) (n : Int) :
  Calls Tryz.prog 37 #[.pointer (some ⟨gc, 0, none⟩), .int .i64 n] W fun e W' => e = .returned (RepV (tickC C n).2) ∧ Clus w0 M0 own X Wd D gc kg (tickC C n).1 W' := by
 have hnow := P.okC.now
 obtain ⟨ok0, BB0, na0, nc0, L0, hA0, -, -, -⟩ := P.open
 have HC0 := qh (fun (U : World) (hb : Below W.heap.size W U) => hA0.cellB hb hA0.cells.now)
 have hgcW := hA0.gcLt
 clear hA0
 have st := St.start W
 by_cases hn : n < 1 ∨ 1099511627776 - C.now < n
 case pos =>
  have e : tickC C n = (C, errR 2) := by unfold tickC; rw [if_pos hn]
  rw [e]
  clear e
  obtain d | ⟨d0, d1⟩ : decide (n < 1) = true ∨ (decide (n < 1) = false ∧ decide (1099511627776 - C.now < n) = true) := by
   by_cases h1 : n < 1
   ·exact .inl (by simpa using h1)
   ·exact .inr ⟨by simpa using h1, by simpa using hn.resolve_left h1⟩
  all_goals
   clear hn
   go_enter Tryz.func37, Tryz.ntmps37
   go_upto_region 1 with (first | go_skip | (with_reducible refine mA st Tryz.zeroValue35 ?_; clear st; intro g4 w1 hg4 st))
   have f0 := HC0.out _ st.below
   go_wp2_with (first | go_skip | (with_reducible refine mS 0 st Tryz.sizeOf35 ?_; clear st; intro w2 st hw2m hw2z))
   have hc := fun j => st.cell (i := 0) rfl j
   refine bodyPost_ret (v := RepV (errR 2)) ?hr rfl ⟨?_, ?_⟩
   case hr => simp [results, Tryz.results37, go_sem, hc, RepV, errR]; try rfl
   ·rfl
   ·exact P.below st.below
 have hn1 : ¬ n < 1 := fun h => hn (.inl h)
 have hn2 : ¬ 1099511627776 - C.now < n := fun h => hn (.inr h)
 obtain ⟨C2, hC2⟩ : ∃ C2 : Clu, C2 = { C with now := C.now + n } := ⟨_, rfl⟩
 have e : tickC C n = ((tickAll 16 0 C2).1, ⟨0, (tickAll 16 0 C2).2, ⟨#[]⟩⟩) := by unfold tickC; rw [if_neg hn, hC2]
 rw [e]
 have hok2 : C2.ok := by
  have h := P.okC
  rw [hC2]
  exact ⟨⟨by simp only; omega, by simp only; omega⟩, h.kerN, h.ker, h.certN, h.cert, h.lineN, h.line, h.netN, h.net, h.acts⟩
 obtain ⟨T, hT⟩ : ∃ T, tickAll 16 0 C2 = T := ⟨_, rfl⟩
 rw [hT]
 have HT0 := qh (TickInv.start hT)
 clear hT
 have d0 : decide (n < 1) = false := by simpa using hn1
 have d1 : decide (1099511627776 - C.now < n) = false := by simpa using hn2
 clear e hn
 obtain ⟨B0, Y, Q, hB0, back⟩ := P.enter
 go_enter Tryz.func37, Tryz.ntmps37
 go_upto_region 1 with (first | go_skip | (with_reducible refine mA st Tryz.zeroValue35 ?_; clear st; intro g4 w1 hg4 st))
 have Q1 := Q.walk st
 have hg4 : W.heap.size ≤ g4 := by have := st.mine _ (mgE (i := 0) rfl); simpa using this
 have f0 := HC0.out _ st.below
 obtain ⟨ok, BB, na, nc, L, hQ⟩ := Q1.raw
 have hA := hQ.at_
 have hlen := hA.cells.len
 have stc := St.hand hA.blk
 clear Q Q1 st HC0
 go_wp2_with (first
  | go_skip
  | ((with_reducible refine at_store 3 ?_); go_must (refine mem_store stc (wanted_none rfl) 3 _ _ rfl gc 0 rfl (.int .i64 (C.now + n)) rfl [.int .i64 (C.now + n)] rfl Tryz.sizeOf3 (by simp [Value.oneCell']) 0 _ _ rfl (by simp only [List.length_cons, List.length_nil]; omega) ?_; intro w2 st2 hm2 hz2)))
 obtain ⟨ok2, hQ2⟩ := hQ.cells (C' := C2) hok2 st2 (mgE (i := 0) rfl) (by rw [hC2]; exact (hA.old st2).setNow (C.now + n)) (by rw [hC2]) (by rw [hC2])
 have P2 := hQ2.clus
 clear hQ hQ2 hA stc st2 hm2 hz2 hlen f0 d0 d1 hn1 hn2 hok2 hC2 P
 go_loopw [5, 33] (fun m hh wr => ∃ (i mm : Nat) (Ci : Clu), i ≤ 4 ∧ hh = .int .i64 i ∧ m = .int .i64 mm ∧ mm ≤ i * 32 ∧ Clus W B0 [(g4, 35, [.int .i64 0, .int .i64 0, .string ⟨#[]⟩])] Y W (fun b => b ∉ B0) gc kg Ci wr ∧ Hid (TickInv T (i * 4) mm Ci)) (fun _ hh _ => 4 - (intOf hh).toNat)
 case atStart => exact ⟨0, 0, C2, Nat.zero_le _, rfl, rfl, Nat.zero_le _, P2, HT0⟩
 case round =>
  clear P2
  obtain ⟨i, m0, Ci, hi, rfl, rfl, hmm, Pi, HI⟩ := hrel
  by_cases hi4 : i < 4
  case neg =>
   obtain rfl : i = 4 := by omega
   have HE := qh (show T = (Ci, m0) from HI.out.done)
   have st := Pi.st.rebase
   have hgl := Pi.st.size
   go_wp2_with (first | go_skip | (with_reducible refine mS 0 st Tryz.sizeOf35 ?_; clear st; intro w9 st hw9m hw9z))
   have hc := fun j => st.cell (i := 0) rfl j
   refine bodyPost_ret (v := RepV (⟨0, m0, ⟨#[]⟩⟩)) ?hr rfl ⟨?_, ?_⟩
   case hr => simp [results, Tryz.results37, go_sem, hc, RepV, errR]; try rfl
   ·rw [HE.out]
   ·rw [HE.out]
    exact back _ _ _ (Pi.walk st)
  have di : decide ((i : Int) < 4) = true := by simp; omega
  obtain ⟨wq, rfl⟩ : ∃ V, V = wr := ⟨_, rfl⟩
  go_wp2_with (first | go_skip | fail)
  go_loopw [5, 36] (fun m tt wr => ∃ (j mm : Nat) (Cj : Clu), j ≤ 4 ∧ tt = .int .i64 j ∧ m = .int .i64 mm ∧ mm ≤ (i * 4 + j) * 8 ∧ Clus W B0 [(g4, 35, [.int .i64 0, .int .i64 0, .string ⟨#[]⟩])] Y W (fun b => b ∉ B0) gc kg Cj wr ∧ Hid (TickInv T (i * 4 + j) mm Cj)) (fun _ tt _ => 4 - (intOf tt).toNat)
  case atStart => exact ⟨0, m0, Ci, Nat.zero_le _, rfl, rfl, by omega, Pi, HI⟩
  case round =>
   clear Pi HI hmm
   obtain ⟨j, mm, Cj, hj, rfl, rfl, hmm, Pj, HJ⟩ := hrel
   by_cases hj4 : j < 4
   case neg =>
    obtain rfl : j = 4 := by omega
    go_wp2_with (first | go_skip | fail)
    go_roundw
    case rel => exact ⟨i + 1, mm, Cj, hi4, by go_num, rfl, by omega, Pj, by have h := HJ.out; rw [show i * 4 + 4 = (i + 1) * 4 by omega] at h; exact qh h⟩
    case measure => simp [intOf] <;> omega
   have dj : decide ((j : Int) < 4) = true := by simp; omega
   obtain ⟨ok, BB, na, nc, L, hQ⟩ := Pj.raw
   have hA := hQ.at_
   have hlen := hA.cells.len
   have hokj := Pj.okC
   have hnow2 := hokj.now
   obtain ⟨sa, sc, hs, hlc⟩ := hA.lineB hi4 hj4
   obtain ⟨ln, eL, e3, hL, hsg⟩ := hokj.lineAt hi4 hj4
   rw [← e3] at hL hsg
   have HAG := qh (fun (U : World) (okS : Nat → Prop) (h1 : ∀ b, U.heap.size ≤ b → okS b) (h2 : SentR okS U sa sc (Cj.line i j).sent) => line_Again_ok okS U h1 (Cj.line i j).next (Cj.line i j).high sa sc (Cj.line i j).sent (Cj.line i j).seen Cj.now h2 hL hnow2.1 hnow2.2)
   have HLC := qh hlc
   have HSV := qh hs
   have HCN := qh (fun (U : World) (hb : Below wr.heap.size wr U) => hA.cellB hb hA.cells.now)
   have hagl := againLn_eq hL hnow2.1 hnow2.2
   have hag := againLn_ok hL hnow2.1 hnow2.2
   rw [hagl] at hag
   have HST := qh (TickInv.step HJ.out (by omega) hagl)
   have hokn := hokj.setLineN (i := i * 4 + j) hag.1 (fun x hx => by
    obtain ⟨x', hx', e'⟩ := hag.2.1 x hx
    rw [e']; exact hsg x' hx')
   have hfit : ∀ f ∈ (Cj.line i j).sent.filterMap (outS Cj.now), f.FitsW := fun f hf => by
    obtain ⟨x, hx, e'⟩ := hag.2.2.1 f hf
    rw [e']; exact good_fitsW (hsg x hx)
   have hol := hag.2.2.2
   clear hs hlc hagl hag eL e3 hL hsg HJ hokj
   unfold lineV at HAG
   have st := St.start wr
   go_upto_region 11 with (first | go_skip | fail)
   try simp only [kP, kA, kS, kZ]
   go_cut [8, 9, 10] (fun s8 s9 s10 wx => ∃ (g8 : Nat) (sa2 : Option Addr) (sc2 : Nat) (a2 : Option Addr) (c2 : Nat), s8 = .pointer (some ⟨g8, 0, none⟩) ∧ s9 = .slice a2 ((Cj.line i j).sent.filterMap (outS Cj.now)).length c2 ∧ s10 = .int .i64 0 ∧ St [] wr wx [(g8, 80, lineC { Cj.line i j with sent := (Cj.line i j).sent.filterMap (keepS Cj.now) } sa2 sc2)] ∧
    SentR (fun b => (ok b ∨ wr.heap.size ≤ b) ∧ b ∉ [g8]) wx sa2 sc2 ((Cj.line i j).sent.filterMap (keepS Cj.now)) ∧ FramesR (fun b => (ok b ∨ wr.heap.size ≤ b) ∧ b ∉ [g8]) wx a2 c2 ((Cj.line i j).sent.filterMap (outS Cj.now)))
   case first =>
    replace st := st.drew
    have hI := st
    refine lex_region (by kernel_rfl) 21 rfl (fun U => St [] wr U []) ?_
    refine lexS 0 rfl hI ?_
    refine lexS 1 rfl hI ?_
    refine lexS 2 rfl hI ?_
    refine lexS 3 rfl hI ?_
    refine lexS 4 rfl hI ?_
    refine lexT (v := .pointer (some ⟨gc, 9 + i * 44, none⟩)) 5 rfl hI (fun W hW => by (first | (go_simp; done) | (go_simp; omega) | (go_simp; intro h; omega))) ?_
    refine lexT (v := .pointer (some ⟨gc, 9 + i * 44 + j * 11, none⟩)) 6 rfl hI (fun W hW => by (first | (go_simp; done) | (go_simp; omega) | (go_simp; intro h; omega))) ?_
    refine lexT 7 rfl hI (fun U hU => run_load_at 80 _ rfl Tryz.isAgg80 _ Tryz.sizeOf80 gc (9 + i * 44 + j * 11) rfl (lineC (Cj.line i j) sa sc) rfl (HLC.out U hU.below)) ?_
    refine lexS 8 rfl hI ?_
    refine lexS 9 rfl hI ?_
    refine lexS 10 rfl hI ?_
    refine lexT 11 rfl hI (fun U hU => run_cell_one 3 _ rfl Tryz.isAgg3 gc 0 rfl _ (HCN.out U hU.below)) ?_
    clear hI
    refine lex_each [12, 17] (by decide +kernel) (by decide) ?_; intro i hi K hK; simp only [List.mem_cons, List.not_mem_nil, or_false] at hi; rcases hi with rfl | rfl <;> refine ⟨_, rfl, (by first | exact wanted_none rfl | exact wanted_some rfl rfl), ?_⟩
    ·refine wp_callee (f := 57) (by first | (go_simp; done) | (go_simp; rfl)) ?_
     have hzc := st.size
     refine (HAG.out _ (fun b => ok b ∨ wr.heap.size ≤ b) (fun b hb => .inr (Nat.le_trans hzc hb)) ((HSV.out.below st.below).move (Nat.le_refl _) fun b _ ho => ⟨.inl ho, rfl⟩)).mono ?_
     rintro e v6 ⟨sa2, sc2, a2, c2, rfl, hb6, hS8, hO8⟩
     refine ⟨_, rfl, ?_⟩
     replace st := st.call hb6
     refine hK _ _ (st.take 0) ?_; clear hK; simp only [kP, kA, kS, kZ]
     have hI := st.take 0
     refine lexS 13 rfl hI ?_
     refine lexS 14 rfl hI ?_
     refine lexS 15 rfl hI ?_
     refine lexS 16 rfl hI ?_
     clear hI
     refine lexO 17 rfl fun K hK => ?_
     have stB := st
     replace st := st.rebase
     simp only [List.map_cons, List.map_nil] at st
     refine wp_alloc st 80 rfl _ Tryz.zeroValue80 _ rfl ?_; clear st; intro g8 w8 hg8 st hg8b; simp [Act.eval, Act.put, Value.cells, putL] at st
     replace st := St.back stB st
     replace hS8 := hS8.move (ok' := (fun b => (ok b ∨ wr.heap.size ≤ b) ∧ b ∉ [g8])) hg8b.size (fun b hb ho => ⟨⟨ho, by simp; omega⟩, hg8b.block b hb⟩)
     replace hO8 := FramesR.move hO8 (ok' := (fun b => (ok b ∨ wr.heap.size ≤ b) ∧ b ∉ [g8])) hg8b.size (fun b hb ho => ⟨⟨ho, by simp; omega⟩, hg8b.block b hb⟩)
     refine hK _ _ (st.take 0) ?_; clear hK; simp only [kP, kA, kS, kZ]
     refine lexO 18 rfl fun K hK => ?_
     refine wp_store' st 80 _ _ rfl _ Tryz.sizeOf80 ⟨0, _, _, _, _, _, rfl, rfl, rfl, rfl, rfl, rfl, ?_⟩; clear st; intro w7 st hw7m hw7z; simp [Act.eval, Act.put, Value.cells, putL] at st
     replace hS8 := hS8.move (by omega) (fun b hb ho => ⟨ho, hw7m b (by have := ho.2; simp at this; exact this)⟩)
     replace hO8 := FramesR.move hO8 (by omega) (fun b hb ho => ⟨ho, hw7m b (by have := ho.2; simp at this; exact this)⟩)
     have hI := st.take 0
     refine hK _ _ (hI) ?_; clear hK; simp only [kP, kA, kS, kZ]
     refine lexS 19 rfl hI ?_
     refine lexS 20 rfl hI ?_
     clear hI
     refine lex_done (by decide +kernel) ?_
     go_wp2_with fail
     go_meet
     exact ⟨g8, sa2, sc2, a2, c2, rfl, rfl, rfl, st, hS8, hO8⟩
    ·refine wp_alloc st 80 rfl _ Tryz.zeroValue80 _ rfl ?_; clear st; intro g8 w8 hg8 st hg8b; simp [Act.eval, Act.put, Value.cells, putL] at st
     have h8c := st.ltAt (i := 0) rfl
     have hb8 := st.below
     refine hK _ _ (st.take 0) ?_; clear hK; simp only [kP, kA, kS, kZ]
     refine lexO 12 rfl fun K hK => ?_
     refine wp_callee (f := 57) (by first | (go_simp; done) | (go_simp; rfl)) ?_
     have hzc := st.size
     refine (HAG.out _ (fun b => (ok b ∨ wr.heap.size ≤ b) ∧ b ∉ [g8]) (fun b hb => ⟨.inr (Nat.le_trans hzc hb), by simp; omega⟩) ((HSV.out.below hb8).move (Nat.le_refl _) fun b hbb ho => ⟨⟨.inl ho, by simp; rintro rfl; exact absurd (hQ.data _ ho).1 (by omega)⟩, rfl⟩)).mono ?_
     rintro e v6 ⟨sa2, sc2, a2, c2, rfl, hb6, hS8, hO8⟩
     refine ⟨_, rfl, ?_⟩
     replace st := st.call hb6
     refine hK _ _ (st.take 0) ?_; clear hK; simp only [kP, kA, kS, kZ]
     have hI := st.take 0
     refine lexS 13 rfl hI ?_
     refine lexS 14 rfl hI ?_
     refine lexS 15 rfl hI ?_
     refine lexS 16 rfl hI ?_
     clear hI
     refine lexO 18 rfl fun K hK => ?_
     refine wp_store' st 80 _ _ rfl _ Tryz.sizeOf80 ⟨0, _, _, _, _, _, rfl, rfl, rfl, rfl, rfl, rfl, ?_⟩; clear st; intro w7 st hw7m hw7z; simp [Act.eval, Act.put, Value.cells, putL] at st
     replace hS8 := hS8.move (by omega) (fun b hb ho => ⟨ho, hw7m b (by have := ho.2; simp at this; exact this)⟩)
     replace hO8 := FramesR.move hO8 (by omega) (fun b hb ho => ⟨ho, hw7m b (by have := ho.2; simp at this; exact this)⟩)
     have hI := st.take 0
     refine hK _ _ (hI) ?_; clear hK; simp only [kP, kA, kS, kZ]
     refine lexS 19 rfl hI ?_
     refine lexS 20 rfl hI ?_
     clear hI
     refine lex_done (by decide +kernel) ?_
     go_wp2_with fail
     go_meet
     exact ⟨g8, sa2, sc2, a2, c2, rfl, rfl, rfl, st, hS8, hO8⟩
   case rest =>
    clear st
    obtain ⟨g8, sa2, sc2, a2, c2, rfl, rfl, rfl, st, hS8, hO8⟩ := hcut
    go_upto_region 12 with (first | go_skip | fail)
    try simp only [kP, kA, kS, kZ]
    replace st := st.drew
    have hS8 := hS8.move (Nat.le_refl _) (w' := World.drew _) (fun b hb ho => ⟨ho, rfl⟩)
    have hO8 := FramesR.move hO8 (Nat.le_refl _) (w' := World.drew _) (fun b hb ho => ⟨ho, rfl⟩)
    have hg8 : wr.heap.size ≤ g8 := by have := st.mine _ (mgE (i := 0) rfl); simpa using this
    have hgb := hA.blkB st.below
    have hgcl := hA.gcLt
    have stc := st.holding hgb (by intro x hx; simp only [List.mem_cons, List.not_mem_nil, or_false] at hx; subst hx; simp only; omega)
    simp only [List.cons_append, List.nil_append] at stc
    have hI := stc.take 1
    refine lex_region (by kernel_rfl) 9 rfl (fun U => St [gc] wr U [(g8, 80, lineC { Cj.line i j with sent := (Cj.line i j).sent.filterMap (keepS Cj.now) } sa2 sc2)]) ?_
    refine lexS 0 rfl hI ?_
    refine lexS 1 rfl hI ?_
    refine lexS 2 rfl hI ?_
    refine lexT 3 rfl hI (fun W hW => St.run_load_agg hW 0 80 _ rfl Tryz.isAgg80 _ Tryz.sizeOf80 rfl rfl rfl rfl) ?_
    refine lexS 4 rfl hI ?_
    refine lexS 5 rfl hI ?_
    refine lexT (v := .pointer (some ⟨gc, 9 + i * 44, none⟩)) 6 rfl hI (fun W hW => by (first | (go_simp; done) | (go_simp; omega) | (go_simp; intro h; omega))) ?_
    refine lexT (v := .pointer (some ⟨gc, 9 + i * 44 + j * 11, none⟩)) 7 rfl hI (fun W hW => by (first | (go_simp; done) | (go_simp; omega) | (go_simp; intro h; omega))) ?_
    clear hI
    refine lexO 8 rfl fun K hK => ?_
    refine wp_store stc 80 _ _ rfl gc (9 + i * 44 + j * 11) rfl _ rfl (lineC { Cj.line i j with sent := (Cj.line i j).sent.filterMap (keepS Cj.now) } sa2 sc2) rfl Tryz.sizeOf80 (by simp [lineC, Value.oneCell']) 1 _ _ rfl (by simp only [lineC, List.length_cons, List.length_nil]; omega) ?_
    intro U1 stu hm8 hz8
    refine hK _ _ (stu.take 1) ?_; clear hK; simp only [kP, kA, kS, kZ]
    refine lex_done (by decide +kernel) ?_
    have hnb : ∀ b, (ok b ∨ wr.heap.size ≤ b) → b ∉ cluB gc na BB := fun b ho hm => by
     rcases ho with h1 | h1
     ·exact hA.apart b hm h1
     ·have := hA.lt b hm; omega
    have hS9 : SentR (okB ok wr gc na BB) U1 sa2 sc2 ((Cj.line i j).sent.filterMap (keepS Cj.now)) := hS8.move (by omega) (fun b hb ho => ⟨⟨ho.1, hnb b ho.1⟩, hm8 b fun e => hnb b ho.1 (mem_cluB.2 (.inl e))⟩)
    have hO9 : FramesR (fun b => b ∉ cluB gc na BB) U1 a2 c2 ((Cj.line i j).sent.filterMap (outS Cj.now)) := FramesR.move hO8 (by omega) (fun b hb ho => ⟨hnb b ho.1, hm8 b fun e => hnb b ho.1 (mem_cluB.2 (.inl e))⟩)
    obtain ⟨ok1, hQ1⟩ := hQ.cells (C' := { Cj with lines := Cj.lines.set (i * 4 + j) { Cj.line i j with sent := (Cj.line i j).sent.filterMap (keepS Cj.now) } }) hokn stu (mgE (i := 1) rfl) (by
     have h := (hA.old stu).setLineN (n := i * 4 + j) (by omega) (ln := { Cj.line i j with sent := (Cj.line i j).sent.filterMap (keepS Cj.now) }) (cs := lineC { Cj.line i j with sent := (Cj.line i j).sent.filterMap (keepS Cj.now) } sa2 sc2) ⟨sa2, sc2, rfl, hS9⟩
     rw [show 9 + (i * 4 + j) * 11 = 9 + i * 44 + j * 11 by omega] at h
     exact h) rfl rfl
    obtain ⟨Y1, Q1, back1⟩ := hQ1.enter
    clear hQ1 hQ hA stc stu st hS8 hO8 hS9 hgb hm8 hz8 Pj HAG HLC HSV HCN hokn hnb
    generalize ({ Cj with lines := Cj.lines.set (i * 4 + j) { Cj.line i j with sent := (Cj.line i j).sent.filterMap (keepS Cj.now) } } : Clu) = C1 at HST Q1
    generalize (Cj.line i j).sent.filterMap (outS Cj.now) = out at HST hfit hol hO9 ⊢
    obtain ⟨wq2, rfl⟩ : ∃ V, V = wr := ⟨_, rfl⟩
    go_wp2_with (first | go_skip | fail)
    go_loopw [5, 66] (fun m q wr => ∃ k, k ≤ out.length ∧ q = .int .i64 k ∧ m = .int .i64 ((mm + k : Nat) : Int) ∧ Clus U1 (cluB gc na BB) [] Y1 U1 (fun b => b ∉ cluB gc na BB) gc kg (pushAll C1 (out.take k)) wr) (fun _ q _ => out.length - (intOf q).toNat)
    case atStart => exact ⟨0, Nat.zero_le _, rfl, rfl, by rw [List.take_zero]; exact Q1⟩
    case round =>
     clear Q1
     obtain ⟨k, hk, rfl, rfl, Pk⟩ := hrel
     by_cases hkl : k < out.length
     ·have hkp := Pk.kept
      have hOw : FramesR (fun b => b ∉ cluB gc na BB) wr a2 c2 out := hO9.move hkp.size (fun b hb ho => ⟨ho, hkp.block b hb ho⟩)
      obtain ⟨bb, oo, cs, hre, -, hbl, hrf, -, -, hcc⟩ := hOw.2.2.2 k out[k] (by simp [hkl])
      obtain ⟨la, lc, ga, gx, ca, cc, rfl, f1, f2, f3⟩ := hrf
      have hff := hfit out[k] (List.getElem_mem _)
      have SN := qh (pushAll_snoc C1 out k hkl)
      generalize out[k] = f at f1 f2 f3 hff SN hcc
      have HPU := qh (fun (V : World) (hb : Below wr.heap.size wr V) => cluster_push (Pk.below hb) f (fun b => b ∉ cluB gc na BB) la lc ga gx ca cc hff ⟨⟨f1.below hb, f2.below hb⟩, f3.below hb⟩)
      unfold frameV at HPU
      have st := St.start wr
      clear f1 f2 f3 hff hOw hkp
      subst hre
      go_wp2_with (first
       | go_skip
       | (with_reducible refine at_load 110 ?_; refine wpList_load_cells (wanted_none rfl) 110 _ rfl Tryz.isAgg110 _ Tryz.sizeOf110 bb (oo + k * 11) rfl [.int .i64 f.src, .int .i64 f.dst, .int .i64 f.seq, .bool f.ack, .int .i64 f.thread, .int .i64 f.mail.host, .int .i64 f.mail.thread, .slice la f.mail.label.length lc, .slice ga f.mail.grants.length gx, .string f.mail.text, .slice ca f.certs.length cc] rfl hcc ?_)
       | (with_reducible refine mA st Tryz.zeroValue110 ?_; clear st; intro g12 w12 hg12 st) | (with_reducible refine mS 0 st Tryz.sizeOf110 ?_; clear st; intro w13 st hw13m hw13z) | (with_reducible refine mXA st Tryz.isAgg110 Tryz.sizeOf110 ?_)
       | (go_at_call 54; go_must (refine (HPU.out _ st.below).mono ?_; rintro e w14 ⟨⟨u, rfl⟩, P14⟩)))
      go_roundw
      case rel => exact ⟨k + 1, hkl, by go_num, congrArg (Value.int .i64) (by push_cast; omega), by rw [SN.out]; exact P14⟩
      case measure => simp [intOf] <;> omega
     ·obtain rfl : k = out.length := by omega
      rw [List.take_of_length_le (Nat.le_refl _)] at Pk
      have P5 := back1 _ _ _ Pk
      clear Pk
      go_wp2_with (first | go_skip | fail)
      go_roundw
      case rel => exact ⟨j + 1, mm + out.length, _, hj4, by go_num, rfl, by omega, P5, HST⟩
      case measure => simp [intOf] <;> omega
end
theorem cluster_no (W : World) (e : Int) : Calls Tryz.prog 46 #[.int .i64 e] W fun r W' => r = .returned (.agg #[.int .i64 e, .int .i64 0, .string ⟨#[]⟩]) ∧ Below W.heap.size W W' := by
 have st := St.start W
 go_enter Tryz.func46, Tryz.ntmps46
 go_wp2_with (first | go_skip | (with_reducible refine mA st Tryz.zeroValue35 ?_; clear st; intro g2 w2 hg2 st) | (with_reducible refine mS 0 st Tryz.sizeOf35 ?_; clear st; intro w3 st hw3m hw3z))
 have hc := fun j => st.cell (i := 0) rfl j
 refine bodyPost_ret (v := .agg #[.int .i64 e, .int .i64 0, .string ⟨#[]⟩]) ?hr rfl ⟨rfl, st.below⟩
 case hr => simp [results, Tryz.results46, go_sem, hc]; try rfl
section
variable {w0 Wd W : World} {M0 : List Nat} {own : Blks} {X D : Nat → Prop} {gc : Nat} {kg : List Nat} {C : Clu}
theorem cluster_call_long (P : Clus w0 M0 own X Wd D gc kg C W) (h t : Int) (x : Req) (la : Option Addr) (lc : Nat) (ga : Option Addr) (gx : Nat) (hk : x.kind = 6) (hl : 64 < x.text.size) :
  Calls Tryz.prog 34 #[.pointer (some ⟨gc, 0, none⟩), .int .i64 h, .int .i64 t, reqV x la lc ga gx] W fun e W' => e = .returned (RepV (errR 9)) ∧ Clus w0 M0 own X Wd D gc kg C W' := by
 have st := St.start W
 have dk : (x.kind == 6) = true := by simpa using hk
 have dl : decide ((64 : Int) < (x.text.size : Int)) = true := by simp; omega
 clear hk hl
 unfold reqV
 go_enter Tryz.func34, Tryz.ntmps34
 go_wp2_with (first | go_skip | (with_reducible refine mB 30 st ?_; clear st; intro g7 w7 hg7 st) | (with_reducible refine mA st Tryz.zeroValue35 ?_; clear st; intro g8 w8 hg8 st) | (with_reducible refine mX st Tryz.isAgg3 ?_) | (with_reducible refine mX st Tryz.isAgg9 ?_) | (go_at_call 46; go_must (refine (cluster_no _ _).mono ?_; rintro e w20 ⟨rfl, hb20⟩; replace st := st.call hb20; clear hb20)) | (with_reducible refine mS 1 st Tryz.sizeOf35 ?_; clear st; intro w9 st hw9m hw9z))
 have hc := fun j => st.cell (i := 1) rfl j
 refine bodyPost_ret (v := RepV (errR 9)) ?hr rfl ⟨rfl, P.below st.below⟩
 case hr => simp [results, Tryz.results34, go_sem, hc, RepV, errR]; try rfl
theorem cluster_call_nowhere (P : Clus w0 M0 own X Wd D gc kg C W) (h t : Int) (x : Req) (la : Option Addr) (lc : Nat) (ga : Option Addr) (gx : Nat) (hk : x.kind = 6) (hl : ¬ 64 < x.text.size) (h4 : four x.h = false ∨ four x.t = false) :
  Calls Tryz.prog 34 #[.pointer (some ⟨gc, 0, none⟩), .int .i64 h, .int .i64 t, reqV x la lc ga gx] W fun e W' => e = .returned (RepV (errR 4)) ∧ Clus w0 M0 own X Wd D gc kg C W' := by
 have st := St.start W
 have dk : (x.kind == 6) = true := by simpa using hk
 have dl : decide ((64 : Int) < (x.text.size : Int)) = false := by simp; omega
 have hd : decide (x.h < 0) = true ∨ (decide (x.h < 0) = false ∧ decide ((4 : Int) ≤ x.h) = true) ∨ (decide (x.h < 0) = false ∧ decide ((4 : Int) ≤ x.h) = false ∧ decide (x.t < 0) = true) ∨ (decide (x.h < 0) = false ∧ decide ((4 : Int) ≤ x.h) = false ∧ decide (x.t < 0) = false ∧ decide ((4 : Int) ≤ x.t) = true) := by
  simp only [decide_eq_true_eq, decide_eq_false_iff_not]
  have e1 := four_iff x.h
  have e2 := four_iff x.t
  rcases h4 with h4 | h4
  ·rw [h4] at e1; simp at e1; omega
  ·rw [h4] at e2; simp at e2; omega
 clear hk hl h4
 unfold reqV
 rcases hd with d1 | ⟨d1, d2⟩ | ⟨d1, d2, d3⟩ | ⟨d1, d2, d3, d4⟩
 all_goals
  go_enter Tryz.func34, Tryz.ntmps34
  go_wp2_with (first | go_skip | (with_reducible refine mB 30 st ?_; clear st; intro g7 w7 hg7 st) | (with_reducible refine mA st Tryz.zeroValue35 ?_; clear st; intro g8 w8 hg8 st) | (with_reducible refine mX st Tryz.isAgg3 ?_) | (with_reducible refine mX st Tryz.isAgg9 ?_) | (go_at_call 46; go_must (refine (cluster_no _ _).mono ?_; rintro e w20 ⟨rfl, hb20⟩; replace st := st.call hb20; clear hb20)) | (with_reducible refine mS 1 st Tryz.sizeOf35 ?_; clear st; intro w9 st hw9m hw9z))
  have hc := fun j => st.cell (i := 1) rfl j
  refine bodyPost_ret (v := RepV (errR 4)) ?hr rfl ⟨rfl, P.below st.below⟩
  case hr => simp [results, Tryz.results34, go_sem, hc, RepV, errR]; try rfl
theorem cluster_call_range (P : Clus w0 M0 own X Wd D gc kg C W) (h t : Int) (x : Req) (la : Option Addr) (lc : Nat) (ga : Option Addr) (gx : Nat) (hk : x.kind = 8) (hb : four x.h = false ∨ x.h = h ∨ x.n < 0 ∨ 1099511627776 < x.n) :
  Calls Tryz.prog 34 #[.pointer (some ⟨gc, 0, none⟩), .int .i64 h, .int .i64 t, reqV x la lc ga gx] W fun e W' => e = .returned (RepV (errR 2)) ∧ Clus w0 M0 own X Wd D gc kg C W' := by
 have st := St.start W
 have dk0 : (x.kind == 6) = false := by rw [hk]; rfl
 have dk : (x.kind == 8) = true := by simpa using hk
 have hd : decide (x.h < 0) = true ∨ (decide (x.h < 0) = false ∧ decide ((4 : Int) ≤ x.h) = true) ∨ (decide (x.h < 0) = false ∧ decide ((4 : Int) ≤ x.h) = false ∧ (x.h == h) = true) ∨ (decide (x.h < 0) = false ∧ decide ((4 : Int) ≤ x.h) = false ∧ (x.h == h) = false ∧ decide (x.n < 0) = true) ∨ (decide (x.h < 0) = false ∧ decide ((4 : Int) ≤ x.h) = false ∧ (x.h == h) = false ∧ decide (x.n < 0) = false ∧ decide (1099511627776 < x.n) = true) := by
  simp only [decide_eq_true_eq, decide_eq_false_iff_not, beq_iff_eq, beq_eq_false_iff_ne, ne_eq]
  have e1 := four_iff x.h
  rcases hb with h4 | h4
  ·rw [h4] at e1; simp at e1; omega
  ·omega
 clear hk hb
 unfold reqV
 rcases hd with d1 | ⟨d1, d2⟩ | ⟨d1, d2, d3⟩ | ⟨d1, d2, d3, d4⟩ | ⟨d1, d2, d3, d4, d5⟩
 all_goals
  go_enter Tryz.func34, Tryz.ntmps34
  go_wp2_with (first | go_skip | (with_reducible refine mB 30 st ?_; clear st; intro g7 w7 hg7 st) | (with_reducible refine mA st Tryz.zeroValue35 ?_; clear st; intro g8 w8 hg8 st) | (with_reducible refine mX st Tryz.isAgg3 ?_) | (with_reducible refine mX st Tryz.isAgg9 ?_) | (go_at_call 46; go_must (refine (cluster_no _ _).mono ?_; rintro e w20 ⟨rfl, hb20⟩; replace st := st.call hb20; clear hb20)) | (with_reducible refine mS 1 st Tryz.sizeOf35 ?_; clear st; intro w9 st hw9m hw9z))
  have hc := fun j => st.cell (i := 1) rfl j
  refine bodyPost_ret (v := RepV (errR 2)) ?hr rfl ⟨rfl, P.below st.below⟩
  case hr => simp [results, Tryz.results34, go_sem, hc, RepV, errR]; try rfl
end
end Go.Proofs.YtnjjdpiofbajlaaGreat
