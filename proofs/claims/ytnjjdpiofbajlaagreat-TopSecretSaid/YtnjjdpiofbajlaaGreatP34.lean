/- Walks and plain laws, part 34. -/
import Derived.Test.YtnjjdpiofbajlaaGreatP33
import Derived.Test.YtnjjdpiofbajlaaGreatP20
set_option linter.unusedSimpArgs false
set_option linter.unusedVariables false
set_option maxHeartbeats 16000000
set_option maxRecDepth 100000
namespace Go.Proofs.YtnjjdpiofbajlaaGreat
open Go.RowKit
section
variable {w0 Wd W : World} {M0 : List Nat} {own : Blks} {X D : Nat → Prop} {gc : Nat} {kg : List Nat} {C : Clu}
theorem cluster_call_letter (P : Clus w0 M0 own X Wd D gc kg C W) (n : Nat) (hn : n < 4) (t : Int) (x : Req) (okc : Nat → Prop) (la : Option Addr) (lc : Nat) (ga : Option Addr) (gx : Nat) (hll : x.label.length * 16 ≤ 140737488351232) (hgl : x.grants.length * 8 ≤ 140737488351232) (hcl : SlR okc W 2 RLev la lc x.label) (hcg : SlR okc W 1 RInt ga gx x.grants)
  (hk : x.kind = 6) (hl : ¬ 64 < x.text.size) (h4 : four x.h = true) (h5 : four x.t = true) (r : Mail × Int) (hr : letterK (C.ker n) t x = r) :
  Calls Tryz.prog 34 #[.pointer (some ⟨gc, 0, none⟩), .int .i64 n, .int .i64 t, reqV x la lc ga gx] W fun e W' => (r.2 ≠ 0 → e = .returned (RepV (errR r.2)) ∧ Clus w0 M0 own X Wd D gc kg C W') ∧ (r.2 = 0 → e = .returned (RepV (errR (sendC C n x.h x.t r.1).2)) ∧ Clus w0 M0 own X Wd D gc kg (sendC C n x.h x.t r.1).1 W') := by
 obtain ⟨s2, hs2⟩ : ∃ s2, sendC C n x.h x.t r.1 = s2 := ⟨_, rfl⟩
 rw [hs2]
 have HS2 := qh hs2
 clear hs2
 have dk : (x.kind == 6) = true := by simpa using hk
 have dl : decide ((64 : Int) < (x.text.size : Int)) = false := by simp; omega
 have e1 := (four_iff x.h).1 h4
 have e2 := (four_iff x.t).1 h5
 have d1 : decide (x.h < 0) = false := by simp; omega
 have d2 : decide ((4 : Int) ≤ x.h) = false := by simp; omega
 have d3 : decide (x.t < 0) = false := by simp; omega
 have d4 : decide ((4 : Int) ≤ x.t) = false := by simp; omega
 obtain ⟨kk, ek0, ek1, hkk, hkh⟩ := P.okC.kerAt hn
 have hthr : ∀ y ∈ (C.ker n).threads, y.ok := by rw [ek1]; exact hkk.thr
 have hkh2 : (C.ker n).host = n := by rw [ek1]; exact hkh
 obtain ⟨B0, Y, Q, hB0, back⟩ := P.enter
 obtain ⟨ok, BB, na, nc, L, hA, -, -, -⟩ := Q.open
 obtain ⟨g, css, Bs, ek, eg, eB, hK0, f1⟩ := hA.kerOf hn
 have HLt := qh (fun (U : World) (hb : Below W.heap.size W U) => kernel_Letter ok okc U g (C.ker n) css Bs (hK0.below hb) hthr t x la lc ga gx hll hgl (by omega) (hcl.below hb) (hcg.below hb))
 rw [hr] at HLt
 have HCK := qh (fun (U : World) (hb : Below W.heap.size W U) => hA.cellB hb f1)
 have HH := qh h4
 have HT := qh h5
 have HGM := qh (show r.2 = 0 → goodMailC r.1 = 0 ∧ r.1.host = n from fun h0 => by
  rw [← hr] at h0 ⊢
  obtain ⟨q1, q2, q3, _⟩ := letterK_ok h0
  rw [q2]
  exact ⟨q3, hkh2⟩)
 clear hA hK0 f1 ek eg eB hr hkh2 hkh ek0 ek1 hkk hthr hcl hcg hk hl h4 h5 e1 e2
 have st := St.start W
 unfold reqV at *
 unfold LetPost mailV at HLt
 go_enter Tryz.func34, Tryz.ntmps34
 go_upto_region 8 with (first | go_skip | (with_reducible refine mB 30 st ?_; clear st; intro g7 w7 hg7 st) | (with_reducible refine mA st Tryz.zeroValue35 ?_; clear st; intro g8 w8 hg8 st) | (with_reducible refine mX st Tryz.isAgg3 ?_) | (with_reducible refine mX st Tryz.isAgg9 ?_))
 try simp only [kP, kA, kS, kZ]
 have Q8 := Q.walk st
 have st8 := st
 have hg7 : W.heap.size ≤ g7 := by have := st.mine _ (mgE (i := 0) rfl); simpa using this
 have hg8 : W.heap.size ≤ g8 := by have := st.mine _ (mgE (i := 1) rfl); simpa using this
 replace st := st.rebase
 simp only [List.map_cons, List.map_nil] at st
 go_cut [10, 11] (fun s10 s11 wx => ∃ (g10 : Nat) (la2 : Option Addr) (lc2 : Nat) (ga2 : Option Addr) (gx2 : Nat), s10 = .pointer (some ⟨g10, 0, none⟩) ∧ s11 = .int .i64 r.2 ∧ St [g7, g8] w8 wx [(g7, 30, [.int .i64 x.kind, .int .i64 x.h, .int .i64 x.t, .int .i64 x.n, .int .i64 x.c, .slice la x.label.length lc, .slice ga x.grants.length gx, .string x.text]), (g8, 35, [.int .i64 0, .int .i64 0, .string ⟨#[]⟩]), (g10, 42, [.int .i64 r.1.host, .int .i64 r.1.thread, .slice la2 r.1.label.length lc2, .slice ga2 r.1.grants.length gx2, .string r.1.text])] ∧ MailR (fun b => w8.heap.size ≤ b ∧ b ≠ g10) wx r.1 la2 lc2 ga2 gx2)
 case first =>
  replace st := st.drew
  have hI := st
  refine lex_region (by kernel_rfl) 15 rfl (fun U => St [g7, g8] w8 U [(g7, 30, [.int .i64 x.kind, .int .i64 x.h, .int .i64 x.t, .int .i64 x.n, .int .i64 x.c, .slice la x.label.length lc, .slice ga x.grants.length gx, .string x.text]), (g8, 35, [.int .i64 0, .int .i64 0, .string ⟨#[]⟩])]) ?_
  refine lexS 0 rfl hI ?_
  refine lexS 1 rfl hI ?_
  refine lexS 2 rfl hI ?_
  refine lexS 3 rfl hI ?_
  refine lexT (v := .pointer (some ⟨gc, 1 + n, none⟩)) 4 rfl hI (fun W hW => by (first | (go_simp; done) | (go_simp; omega) | (go_simp; intro h; omega))) ?_
  refine lexT 5 rfl hI (fun U hU => run_cell_one 74 _ rfl Tryz.isAgg74 gc (1 + n) rfl _ (HCK.out U (st8.below.keep (st8.below2 hU (by simp))))) ?_
  refine lexS 6 rfl hI ?_
  refine lexT 7 rfl hI (fun W hW => St.run_load_agg hW 0 30 _ rfl Tryz.isAgg30 _ Tryz.sizeOf30 rfl rfl rfl rfl) ?_
  clear hI
  refine lex_each [8, 12] (by decide +kernel) (by decide) ?_; intro i hi K hK; simp only [List.mem_cons, List.not_mem_nil, or_false] at hi; rcases hi with rfl | rfl <;> refine ⟨_, rfl, (by first | exact wanted_none rfl | exact wanted_some rfl rfl), ?_⟩
  ·refine wp_callee (f := 47) (by first | (go_simp; done) | (go_simp; rfl)) ?_
   have hzc := st.size
   refine (HLt.out _ (st8.below.keep (st8.below2 st (by simp)))).mono ?_
   rintro e v4 ⟨la2, lc2, ga2, gx2, rfl, hb4, hM4⟩
   refine ⟨_, rfl, ?_⟩
   replace st := st.call hb4
   refine hK _ _ (st.take 2) ?_; clear hK; simp only [kP, kA, kS, kZ]
   have hI := st.take 2
   refine lexS 9 rfl hI ?_
   refine lexS 10 rfl hI ?_
   refine lexS 11 rfl hI ?_
   clear hI
   refine lexO 12 rfl fun K hK => ?_
   have stB := st
   replace st := st.rebase
   simp only [List.map_cons, List.map_nil] at st
   refine wp_alloc st 42 rfl _ Tryz.zeroValue42 _ rfl ?_; clear st; intro g10 w10 hg10 st hg10b; simp [Act.eval, Act.put, Value.cells, putL] at st
   replace st := St.back stB st
   replace hM4 := hM4.move (ok' := fun b => w8.heap.size ≤ b ∧ b ≠ g10) hg10b.size (fun b hb ho => ⟨⟨Nat.le_trans hzc ho, by omega⟩, hg10b.block b hb⟩)
   refine hK _ _ (st.take 2) ?_; clear hK; simp only [kP, kA, kS, kZ]
   refine lexO 13 rfl fun K hK => ?_
   refine wp_store' st 42 _ _ rfl _ Tryz.sizeOf42 ⟨2, _, _, _, _, _, rfl, rfl, rfl, rfl, rfl, rfl, ?_⟩; clear st; intro w6 st hw6m hw6z; simp [Act.eval, Act.put, Value.cells, putL] at st
   replace hM4 := hM4.move (by omega) (fun b hb ho => ⟨ho, hw6m b ho.2⟩)
   have hI := st.take 2
   refine hK _ _ (hI) ?_; clear hK; simp only [kP, kA, kS, kZ]
   refine lexS 14 rfl hI ?_
   clear hI
   refine lex_done (by decide +kernel) ?_
   go_wp2_with fail
   go_meet
   exact ⟨g10, la2, lc2, ga2, gx2, rfl, rfl, st, hM4⟩
  ·refine wp_alloc st 42 rfl _ Tryz.zeroValue42 _ rfl ?_; clear st; intro g10 w10 hg10 st hg10b; simp [Act.eval, Act.put, Value.cells, putL] at st
   have h10c := st.ltAt (i := 2) rfl
   refine hK _ _ (st.take 2) ?_; clear hK; simp only [kP, kA, kS, kZ]
   refine lexO 8 rfl fun K hK => ?_
   refine wp_callee (f := 47) (by first | (go_simp; done) | (go_simp; rfl)) ?_
   have hzc := st.size
   refine (HLt.out _ (st8.below.keep (st8.below2 st (by simp)))).mono ?_
   rintro e v4 ⟨la2, lc2, ga2, gx2, rfl, hb4, hM4⟩
   refine ⟨_, rfl, ?_⟩
   replace st := st.call hb4
   refine hK _ _ (st.take 2) ?_; clear hK; simp only [kP, kA, kS, kZ]
   have hI := st.take 2
   refine lexS 9 rfl hI ?_
   refine lexS 10 rfl hI ?_
   refine lexS 11 rfl hI ?_
   clear hI
   replace hM4 := hM4.move (ok' := fun b => w8.heap.size ≤ b ∧ b ≠ g10) (Nat.le_refl _) (fun b hb ho => ⟨⟨Nat.le_trans hzc ho, by omega⟩, rfl⟩)
   refine lexO 13 rfl fun K hK => ?_
   refine wp_store' st 42 _ _ rfl _ Tryz.sizeOf42 ⟨2, _, _, _, _, _, rfl, rfl, rfl, rfl, rfl, rfl, ?_⟩; clear st; intro w6 st hw6m hw6z; simp [Act.eval, Act.put, Value.cells, putL] at st
   replace hM4 := hM4.move (by omega) (fun b hb ho => ⟨ho, hw6m b ho.2⟩)
   have hI := st.take 2
   refine hK _ _ (hI) ?_; clear hK; simp only [kP, kA, kS, kZ]
   refine lexS 14 rfl hI ?_
   clear hI
   refine lex_done (by decide +kernel) ?_
   go_wp2_with fail
   go_meet
   exact ⟨g10, la2, lc2, ga2, gx2, rfl, rfl, st, hM4⟩
 case rest =>
  clear st
  obtain ⟨g10, la2, lc2, ga2, gx2, rfl, rfl, st, hM⟩ := hcut
  by_cases h0 : r.2 = 0
  case neg =>
   have d0 : (r.2 != 0) = true := by simpa using h0
   have H0 := qh h0
   clear h0 hM
   go_wp2_with (first | go_skip | (go_at_call 46; go_must (refine (cluster_no _ _).mono ?_; rintro e w20 ⟨rfl, hb20⟩; replace st := st.call hb20; clear hb20)) | (with_reducible refine mS 1 st Tryz.sizeOf35 ?_; clear st; intro w9 st hw9m hw9z))
   have hc := fun j => st.cell (i := 1) rfl j
   have hW9 : Below W.heap.size W w9 := by
    have h := (St.back st8 (st.take 2)).below
    exact h
   refine bodyPost_ret (v := RepV (errR r.2)) ?hr rfl ⟨fun _ => ⟨rfl, P.below hW9⟩, fun h => absurd h H0.out⟩
   case hr => simp [results, Tryz.results34, go_sem, hc, RepV, errR]; try rfl
  have d0 : (r.2 != 0) = false := by simpa using h0
  obtain ⟨hgm, hgh⟩ := HGM.out h0
  have H0 := qh h0
  have HSN := qh (cluster_send Q8 (st8.below2 st (by simp)) n hn x.h x.t HH.out HT.out r.1 la2 lc2 ga2 gx2 ⟨hM.label.okay fun _ h => h.1, hM.grants.okay fun _ h => h.1⟩ hgm hgh)
  clear h0 hM hgm hgh
  unfold mailV at HSN
  rw [HS2.out] at HSN
  go_wp2_with (first
   | go_skip | (with_reducible refine mX st Tryz.isAgg3 ?_) | (with_reducible refine mXA st Tryz.isAgg42 Tryz.sizeOf42 ?_)
   | (go_at_call 48; go_must (refine HSN.out.mono ?_; rintro e V2 ⟨rfl, P2⟩; have stP := P2.st.rebase; clear st; have st := stP; clear stP))
   | (go_at_call 46; go_must (refine (cluster_no _ _).mono ?_; rintro e w20 ⟨rfl, hb20⟩; replace st := st.call hb20; clear hb20)) | (with_reducible refine mS 1 st Tryz.sizeOf35 ?_; clear st; intro w9 st hw9m hw9z))
  have hc := fun j => st.cell (i := 1) rfl j
  refine bodyPost_ret (v := RepV (errR s2.2)) ?hr rfl ⟨fun h => absurd H0.out h, fun _ => ⟨rfl, back _ _ _ (P2.walk st)⟩⟩
  case hr => simp [results, Tryz.results34, go_sem, hc, RepV, errR]; try rfl
end
section
variable {w0 Wd W : World} {M0 : List Nat} {own : Blks} {X D : Nat → Prop} {gc : Nat} {kg : List Nat} {C : Clu}
theorem cluster_call_cert (P : Clus w0 M0 own X Wd D gc kg C W) (n : Nat) (hn : n < 4) (t : Int) (h4t : four t = true) (x : Req) (la : Option Addr) (lc : Nat) (ga : Option Addr) (gx : Nat)
  (hk : x.kind = 8) (h4 : four x.h = true) (hne : x.h ≠ n) (hx0 : ¬ x.n < 0) (hx1 : ¬ 1099511627776 < x.n) (r : List Cert × Int) (hr : addC (C.cert n) ⟨x.c, n, x.h, x.n⟩ = r) :
  Calls Tryz.prog 34 #[.pointer (some ⟨gc, 0, none⟩), .int .i64 n, .int .i64 t, reqV x la lc ga gx] W fun e W' => (inL ((C.ker n).thr t).own x.c = false → e = .returned (RepV (errR 7)) ∧ Clus w0 M0 own X Wd D gc kg C W') ∧ (inL ((C.ker n).thr t).own x.c = true → r.2 ≠ 0 → e = .returned (RepV (errR r.2)) ∧ Clus w0 M0 own X Wd D gc kg C W') ∧
   (inL ((C.ker n).thr t).own x.c = true → r.2 = 0 → e = .returned (RepV (errR 0)) ∧ Clus w0 M0 own X Wd D gc kg (C.setCert n r.1) W') := by
 have dk0 : (x.kind == 6) = false := by rw [hk]; rfl
 have dk : (x.kind == 8) = true := by simpa using hk
 have e1 := (four_iff x.h).1 h4
 have d1 : decide (x.h < 0) = false := by simp; omega
 have d2 : decide ((4 : Int) ≤ x.h) = false := by simp; omega
 have d3 : (x.h == (n : Int)) = false := by simpa using hne
 have d4 : decide (x.n < 0) = false := by simpa using hx0
 have d5 : decide (1099511627776 < x.n) = false := by simpa using hx1
 obtain ⟨kk, ek0, ek1, hkk, hkh⟩ := P.okC.kerAt hn
 have hthr : ∀ y ∈ (C.ker n).threads, y.ok := by rw [ek1]; exact hkk.thr
 have hoks := P.okC
 have hokt : ((C.ker n).thr t).ok := by
  obtain ⟨m, rfl, hm⟩ := four_nat h4t
  unfold Ker.thr
  rw [Int.toNat_natCast, List.getD_eq_getElem?_getD, gEg (by rw [ek1]; have := hkk.four; omega)]
  exact hthr _ (List.getElem_mem _)
 have hol : ((C.ker n).thr t).own.length ≤ 8 := hokt.ownL
 obtain ⟨B0, Y, Q, hB0, back⟩ := P.enter
 obtain ⟨ok, BB, na, nc, L, hA, -, -, -⟩ := Q.open
 obtain ⟨g, css, Bs, ek, eg, eB, hK0, f1⟩ := hA.kerOf hn
 obtain ⟨ra, rc, e5, hcs⟩ := hA.certsOf hn
 have HTh := qh (fun (U : World) (hb : Below W.heap.size W U) => kernel_Thread ok U g (C.ker n) css Bs (hK0.below hb) hthr t)
 have eth : thrOf (C.ker n) t = (C.ker n).thr t := by unfold thrOf; rw [if_pos h4t]
 rw [eth] at HTh
 have HCK := qh (fun (U : World) (hb : Below W.heap.size W U) => hA.cellB hb f1)
 have HC5 := qh (fun (U : World) (hb : Below W.heap.size W U) => hA.cellB hb e5)
 have HADD := qh (fun (U : World) (hb : Below W.heap.size W U) => trust_Add ok U ra rc (C.cert n) ⟨x.c, n, x.h, x.n⟩ (hcs.below hb) r hr)
 have hokr : r.2 = 0 → (C.setCert n r.1).ok := fun h0 => hoks.setCert (by
  rw [← hr] at h0 ⊢
  exact (addC_ok h0).2.1)
 generalize (C.ker n).thr t = th at HTh hol ⊢
 clear hA hK0 f1 ek eg eB ek0 ek1 hkk hkh hthr hoks hokt eth hcs e5 hk h4 hne hx0 hx1 h4t e1 hr
 have st := St.start W
 unfold reqV
 unfold ThreadPost thrV at HTh
 simp only at HADD
 go_enter Tryz.func34, Tryz.ntmps34
 go_upto_region 15 with (first | go_skip | (with_reducible refine mB 30 st ?_; clear st; intro g7 w7 hg7 st) | (with_reducible refine mA st Tryz.zeroValue35 ?_; clear st; intro g8 w8 hg8 st) | (with_reducible refine mX st Tryz.isAgg3 ?_) | (with_reducible refine mX st Tryz.isAgg9 ?_))
 try simp only [kP, kA, kS, kZ]
 have Q8 := Q.walk st
 have st8 := st
 have hg7 : W.heap.size ≤ g7 := by have := st.mine _ (mgE (i := 0) rfl); simpa using this
 have hg8 : W.heap.size ≤ g8 := by have := st.mine _ (mgE (i := 1) rfl); simpa using this
 replace st := st.rebase
 simp only [List.map_cons, List.map_nil] at st
 replace st := st.drew
 have hI := st
 refine lex_region (by kernel_rfl) 14 rfl (fun U => St [g7, g8] w8 U [(g7, 30, [.int .i64 x.kind, .int .i64 x.h, .int .i64 x.t, .int .i64 x.n, .int .i64 x.c, .slice la x.label.length lc, .slice ga x.grants.length gx, .string x.text]), (g8, 35, [.int .i64 0, .int .i64 0, .string ⟨#[]⟩])]) ?_
 refine lexS 0 rfl hI ?_
 refine lexS 1 rfl hI ?_
 refine lexS 2 rfl hI ?_
 refine lexS 3 rfl hI ?_
 refine lexT (v := .pointer (some ⟨gc, 1 + n, none⟩)) 4 rfl hI (fun W hW => by (first | (go_simp; done) | (go_simp; omega) | (go_simp; intro h; omega))) ?_
 refine lexT 5 rfl hI (fun U hU => run_cell_one 74 _ rfl Tryz.isAgg74 gc (1 + n) rfl _ (HCK.out U (st8.below.keep (st8.below2 hU (by simp))))) ?_
 refine lexS 6 rfl hI ?_
 refine lexS 9 rfl hI ?_
 refine lexT 10 rfl hI (fun W hW => St.run_load hW 0 3 _ rfl Tryz.isAgg3 rfl rfl rfl) ?_
 clear hI
 refine lexO 7 rfl fun K hK => ?_
 refine wp_callee (f := 31) (by first | (go_simp; done) | (go_simp; rfl)) ?_
 refine (HTh.out _ (st8.below.keep (st8.below2 st (by simp)))).mono ?_
 rintro e v4 ⟨la2, lc2, oa2, oc2, ba2, bc2, ma2, mc2, rfl, hb4, hT4⟩
 refine ⟨_, rfl, ?_⟩
 replace st := st.call hb4
 have hI := st
 refine hK _ _ (hI) ?_; clear hK; simp only [kP, kA, kS, kZ]
 refine lexS 8 rfl hI ?_
 clear hI
 refine lexO 11 rfl fun K hK => ?_
 refine wp_callee (f := 41) (by first | (go_simp; done) | (go_simp; rfl)) ?_
 refine (slices_Contains_int _ _ oa2 oc2 th.own x.c (by omega) hT4.own).mono ?_
 rintro e v5 ⟨rfl, rfl⟩
 refine ⟨_, rfl, ?_⟩
 have hI := st
 refine hK _ _ (hI) ?_; clear hK; simp only [kP, kA, kS, kZ]
 refine lexS 12 rfl hI ?_
 refine lexS 13 rfl hI ?_
 clear hI hT4 hb4
 refine lex_done (by decide +kernel) ?_
 cases hin : inL th.own x.c with
 | false =>
  go_wp2_with (first | go_skip | (go_at_call 46; go_must (refine (cluster_no _ _).mono ?_; rintro e w20 ⟨rfl, hb20⟩; replace st := st.call hb20; clear hb20)) | (with_reducible refine mS 1 st Tryz.sizeOf35 ?_; clear st; intro w9 st hw9m hw9z))
  have hc := fun j => st.cell (i := 1) rfl j
  refine bodyPost_ret (v := RepV (errR 7)) ?hr rfl ⟨fun _ => ⟨rfl, P.below (St.back st8 st).below⟩, fun h => absurd (hin.symm.trans h) (by simp), fun h => absurd (hin.symm.trans h) (by simp)⟩
  case hr => simp [results, Tryz.results34, go_sem, hc, RepV, errR]; try rfl
 | true =>
  go_upto_region 17 with (first | go_skip | fail)
  try simp only [kP, kA, kS, kZ]
  replace st := st.drew
  have hI := st
  refine lex_region (by kernel_rfl) 20 rfl (fun U => St [g7, g8] w8 U [(g7, 30, [.int .i64 x.kind, .int .i64 x.h, .int .i64 x.t, .int .i64 x.n, .int .i64 x.c, .slice la x.label.length lc, .slice ga x.grants.length gx, .string x.text]), (g8, 35, [.int .i64 0, .int .i64 0, .string ⟨#[]⟩])]) ?_
  refine lexS 0 rfl hI ?_
  refine lexS 1 rfl hI ?_
  refine lexS 2 rfl hI ?_
  refine lexS 3 rfl hI ?_
  refine lexT (v := .pointer (some ⟨gc, 5 + n, none⟩)) 4 rfl hI (fun W hW => by (first | (go_simp; done) | (go_simp; omega) | (go_simp; intro h; omega))) ?_
  refine lexT 5 rfl hI (fun U hU => run_cell_one 44 _ rfl Tryz.isAgg44 gc (5 + n) rfl _ (HC5.out U (st8.below.keep (st8.below2 hU (by simp))))) ?_
  refine lexS 6 rfl hI ?_
  refine lexT 7 rfl hI (fun W hW => St.run_load hW 0 3 _ rfl Tryz.isAgg3 rfl rfl rfl) ?_
  refine lexS 8 rfl hI ?_
  refine lexS 9 rfl hI ?_
  refine lexT 10 rfl hI (fun W hW => St.run_load hW 0 3 _ rfl Tryz.isAgg3 rfl rfl rfl) ?_
  refine lexS 11 rfl hI ?_
  refine lexT 12 rfl hI (fun W hW => St.run_load hW 0 3 _ rfl Tryz.isAgg3 rfl rfl rfl) ?_
  refine lexS 13 rfl hI ?_
  clear hI
  refine lexO 14 rfl fun K hK => ?_
  refine wp_callee (f := 49) (by first | (go_simp; done) | (go_simp; rfl)) ?_
  have hzA := (st8.below2 st (by simp)).size
  refine (HADD.out _ (st8.below.keep (st8.below2 st (by simp)))).mono ?_
  rintro e v9 ⟨a9, k9, rfl, hb9, hO9⟩
  refine ⟨_, rfl, ?_⟩
  replace st := st.call hb9
  have hI := st
  refine hK _ _ (hI) ?_; clear hK; simp only [kP, kA, kS, kZ]
  refine lexS 15 rfl hI ?_
  refine lexS 16 rfl hI ?_
  refine lexS 17 rfl hI ?_
  refine lexS 18 rfl hI ?_
  refine lexS 19 rfl hI ?_
  clear hI
  refine lex_done (by decide +kernel) ?_
  by_cases h0 : r.2 = 0
  case neg =>
   have d0 : (r.2 != 0) = true := by simpa using h0
   have H0 := qh h0
   clear h0
   go_wp2_with (first | go_skip | (go_at_call 46; go_must (refine (cluster_no _ _).mono ?_; rintro e w20 ⟨rfl, hb20⟩; replace st := st.call hb20; clear hb20)) | (with_reducible refine mS 1 st Tryz.sizeOf35 ?_; clear st; intro w10 st hw10m hw10z))
   have hc := fun j => st.cell (i := 1) rfl j
   refine bodyPost_ret (v := RepV (errR r.2)) ?hr rfl ⟨fun h => absurd (hin.symm.trans h) (by simp), fun _ _ => ⟨rfl, P.below (St.back st8 st).below⟩, fun _ h => absurd h H0.out⟩
   case hr => simp [results, Tryz.results34, go_sem, hc, RepV, errR]; try rfl
  have d0 : (r.2 != 0) = false := by simpa using h0
  have hokr := hokr h0
  have H0 := qh h0
  clear h0
  obtain ⟨ok8, BB8, na8, nc8, L8, hA8, hno8, -, hTo8⟩ := Q8.open
  have hlen8 := hA8.cells.len
  have stc := (St.ofBelow (st8.below2 st (by simp))).holding (hA8.blkB (st8.below2 st (by simp))) (by simp)
  simp only [List.nil_append] at stc
  go_upto_region 21 with (first
   | go_skip
   | ((with_reducible refine at_store 44 ?_); go_must (refine mem_store stc (wanted_none rfl) 44 _ _ rfl gc (5 + n) rfl (.slice a9 r.1.length k9) rfl [.slice a9 r.1.length k9] rfl Tryz.sizeOf44 (by simp [Value.oneCell']) 0 _ _ rfl (by simp only [List.length_cons, List.length_nil]; omega) ?_; intro w11 stu hm11 hz11)))
  have hS7 : SlR (okB ok8 w8 gc na8 BB8) w11 4 RCert a9 k9 r.1 := hO9.move (by omega) (fun b hb ho => by
   have hnb : b ∉ cluB gc na8 BB8 := fun hm => by have := hA8.lt b hm; omega
   exact ⟨⟨.inr (by omega), hnb⟩, hm11 b fun e => hnb (mem_cluB.2 (.inl e))⟩) fun _ _ r => r
  have P3 := hTo8 w11 _ hokr (hA8.certIn hn stu (mgE (i := 0) rfl) hS7)
  have stP := P3.st.rebase
  clear stc stu st hA8 hTo8 hS7 hO9 hm11 hz11 hno8
  have st := stP
  clear stP
  go_wp2_with (first | go_skip | (go_at_call 46; go_must (refine (cluster_no _ _).mono ?_; rintro e w20 ⟨rfl, hb20⟩; replace st := st.call hb20; clear hb20)) | (with_reducible refine mS 1 st Tryz.sizeOf35 ?_; clear st; intro w10 st hw10m hw10z))
  have hc := fun j => st.cell (i := 1) rfl j
  refine bodyPost_ret (v := RepV (errR 0)) ?hr rfl ⟨fun h => absurd (hin.symm.trans h) (by simp), fun _ h => absurd H0.out h, fun _ _ => ⟨rfl, back _ _ _ (P3.walk st)⟩⟩
  case hr => simp [results, Tryz.results34, go_sem, hc, RepV, errR]; try rfl
end
section
variable {w0 Wd W : World} {M0 : List Nat} {own : Blks} {X D : Nat → Prop} {gc : Nat} {kg : List Nat} {C : Clu}
theorem cluster_call_kernel (P : Clus w0 M0 own X Wd D gc kg C W) (n : Nat) (hn : n < 4) (t : Int) (x : Req) (okc : Nat → Prop) (la : Option Addr) (lc : Nat) (ga : Option Addr) (gx : Nat) (hll : x.label.length * 16 ≤ 140737488351232) (hcl : SlR okc W 2 RLev la lc x.label)
  (hk6 : x.kind ≠ 6) (hk8 : x.kind ≠ 8) (r : Ker × Rep) (hr : stepC (C.ker n) t x = r) (hokr : (C.setKer n r.1).ok) :
  Calls Tryz.prog 34 #[.pointer (some ⟨gc, 0, none⟩), .int .i64 n, .int .i64 t, reqV x la lc ga gx] W fun e W' => e = .returned (RepV r.2) ∧ Clus w0 M0 own X Wd D gc kg (C.setKer n r.1) W' := by
 have dk0 : (x.kind == 6) = false := by simpa using hk6
 have dk : (x.kind == 8) = false := by simpa using hk8
 obtain ⟨kk, ek0, ek1, hkk, hkh⟩ := P.okC.kerAt hn
 have hkok : (C.ker n).ok := by rw [ek1]; exact hkk
 obtain ⟨B0, Y, Q, hB0, back⟩ := P.enter
 have HR := qh hr
 have HCL := qh hcl
 clear ek0 ek1 hkk hkh hcl hk6 hk8 hr
 have st := St.start W
 unfold reqV
 go_enter Tryz.func34, Tryz.ntmps34
 go_upto_region 22 with (first | go_skip | (with_reducible refine mB 30 st ?_; clear st; intro g7 w7 hg7 st) | (with_reducible refine mA st Tryz.zeroValue35 ?_; clear st; intro g8 w8 hg8 st) | (with_reducible refine mX st Tryz.isAgg3 ?_) | (with_reducible refine mX st Tryz.isAgg9 ?_))
 try simp only [kP, kA, kS, kZ]
 replace st := st.drew
 have Q8 := Q.walk st
 obtain ⟨ok, BB, na, nc, L, hA, hno, -, hTo⟩ := Q8.open
 obtain ⟨g, css, Bs, ek, eg, eB, hK0, f1⟩ := hA.kerOf hn
 have HKC := qh (kernel_Call ok okc w8.drew g (C.ker n) css Bs x la lc ga gx hK0 hkok t hll (HCL.out.below st.below))
 rw [HR.out] at HKC
 have HTo := qh (fun (V : World) hT => hTo V _ hokr (hA.kernel hn ek eg eB hK0 hT))
 have HCK := qh (fun (U : World) (hU : St [g7, g8] w8.drew U [(g7, 30, [.int .i64 x.kind, .int .i64 x.h, .int .i64 x.t, .int .i64 x.n, .int .i64 x.c, .slice la x.label.length lc, .slice ga x.grants.length gx, .string x.text]), (g8, 35, [.int .i64 0, .int .i64 0, .string ⟨#[]⟩])]) => hA.cellAt (own := [(g7, 30, [.int .i64 x.kind, .int .i64 x.h, .int .i64 x.t, .int .i64 x.n, .int .i64 x.c, .slice la x.label.length lc, .slice ga x.grants.length gx, .string x.text]), (g8, 35, [.int .i64 0, .int .i64 0, .string ⟨#[]⟩])]) hno hU f1)
 clear hA hTo hK0 ek eg eB f1 HR HCL Q
 unfold CallPost reqV RepV at HKC
 have hI := st.rebase
 simp only [List.map_cons, List.map_nil] at hI
 clear st
 refine lex_tail (by kernel_rfl) 8 2 [8, 9] rfl (by decide +kernel) (fun U => St [g7, g8] w8.drew U [(g7, 30, [.int .i64 x.kind, .int .i64 x.h, .int .i64 x.t, .int .i64 x.n, .int .i64 x.c, .slice la x.label.length lc, .slice ga x.grants.length gx, .string x.text]), (g8, 35, [.int .i64 0, .int .i64 0, .string ⟨#[]⟩])]) ?_
 refine lexS 0 rfl hI ?_
 refine lexS 1 rfl hI ?_
 refine lexS 2 rfl hI ?_
 refine lexS 3 rfl hI ?_
 refine lexT (v := .pointer (some ⟨gc, 1 + n, none⟩)) 4 rfl hI (fun W hW => by (first | (go_simp; done) | (go_simp; omega) | (go_simp; intro h; omega))) ?_
 refine lexT 5 rfl hI (fun U hU => run_cell_one 74 _ rfl Tryz.isAgg74 gc (1 + n) rfl _ (HCK.out U hU)) ?_
 refine lexS 6 rfl hI ?_
 refine lexT 7 rfl hI (fun W hW => St.run_load_agg hW 0 30 _ rfl Tryz.isAgg30 _ Tryz.sizeOf30 rfl rfl rfl rfl) ?_
 clear hI
 refine lex_done (by decide +kernel) ?_
 refine tail_next 8 rfl (by first | exact wanted_none rfl | exact wanted_some rfl rfl) (by decide +kernel) fun K hK => ?_
 refine wp_callee (f := 50) (by first | (go_simp; done) | (go_simp; rfl)) ?_
 refine HKC.out.mono ?_
 rintro e V2 ⟨rfl, hT⟩
 have P2 := HTo.out _ hT
 refine ⟨_, rfl, ?_⟩
 refine hK _ _ ?_; clear hK hT
 have st := P2.st.rebase
 refine tail_last 9 rfl (by first | exact wanted_none rfl | exact wanted_some rfl rfl) (by decide +kernel) (by decide +kernel) fun K hK => ?_
 refine wp_store' st 35 _ _ rfl _ Tryz.sizeOf35 ⟨1, _, _, _, _, _, rfl, rfl, rfl, rfl, rfl, rfl, ?_⟩; clear st; intro w9 st hw9m hw9z; simp [Act.eval, Act.put, Value.cells, putL] at st
 refine hK _ _ ?_; clear hK
 go_wp2_with (first | go_skip | fail)
 have hc := fun j => st.cell (i := 1) rfl j
 refine bodyPost_ret (v := RepV r.2) ?hr rfl ⟨rfl, back _ _ _ (P2.walk st)⟩
 case hr => simp [results, Tryz.results34, go_sem, hc, RepV]; try rfl
end
section
variable {w0 Wd W : World} {M0 : List Nat} {own : Blks} {X D : Nat → Prop} {gc : Nat} {kg : List Nat} {C : Clu}
theorem cluster_call (P : Clus w0 M0 own X Wd D gc kg C W) (n : Nat) (hn : n < 4) (t : Int) (h4t : four t = true) (x : Req) (okc : Nat → Prop) (la : Option Addr) (lc : Nat) (ga : Option Addr) (gx : Nat) (hll : x.label.length * 16 ≤ 140737488351232) (hgl : x.grants.length * 8 ≤ 140737488351232) (hcl : SlR okc W 2 RLev la lc x.label) (hcg : SlR okc W 1 RInt ga gx x.grants) :
  Calls Tryz.prog 34 #[.pointer (some ⟨gc, 0, none⟩), .int .i64 n, .int .i64 t, reqV x la lc ga gx] W fun e W' => e = .returned (RepV (callC C n t x).2) ∧ Clus w0 M0 own X Wd D gc kg (callC C n t x).1 W' := by
 have hok := callC_ok P.okC hn t x
 unfold callC at hok ⊢
 by_cases hk6 : x.kind = 6
 ·rw [if_pos hk6]
  by_cases hl : 64 < x.text.size
  ·rw [if_pos hl]
   exact cluster_call_long P n t x la lc ga gx hk6 hl
  rw [if_neg hl]
  by_cases h4 : four x.h = false ∨ four x.t = false
  ·rw [if_pos h4]
   exact cluster_call_nowhere P n t x la lc ga gx hk6 hl h4
  rw [if_neg h4]
  have h1 : four x.h = true := by simpa using (not_or.1 h4).1
  have h2 : four x.t = true := by simpa using (not_or.1 h4).2
  refine (cluster_call_letter P n hn t x okc la lc ga gx hll hgl hcl hcg hk6 hl h1 h2 _ rfl).mono ?_
  rintro e W' ⟨g1, g2⟩
  by_cases h0 : (letterK (C.ker n) t x).2 ≠ 0
  ·rw [if_pos h0]; exact g1 h0
  ·rw [if_neg h0]; exact g2 (by simpa using h0)
 rw [if_neg hk6] at hok ⊢
 by_cases hk8 : x.kind = 8
 ·rw [if_pos hk8]
  by_cases hb : four x.h = false ∨ x.h = n ∨ x.n < 0 ∨ 1099511627776 < x.n
  ·rw [if_pos hb]
   exact cluster_call_range P n t x la lc ga gx hk8 hb
  rw [if_neg hb]
  obtain ⟨b1, b2⟩ := not_or.1 hb
  obtain ⟨b2, b3⟩ := not_or.1 b2
  obtain ⟨b3, b4⟩ := not_or.1 b3
  refine (cluster_call_cert P n hn t h4t x la lc ga gx hk8 (by simpa using b1) b2 b3 b4 _ rfl).mono ?_
  rintro e W' ⟨g1, g2, g3⟩
  by_cases hin : x.c ∉ ((C.ker n).thr t).own
  ·rw [if_pos hin]
   exact g1 ((inL_not _ _).2 hin)
  rw [if_neg hin]
  have hin2 : inL ((C.ker n).thr t).own x.c = true := (inL_iff _ _).2 (by simpa using hin)
  by_cases h0 : (addC (C.cert n) ⟨x.c, n, x.h, x.n⟩).2 ≠ 0
  ·rw [if_pos h0]; exact g2 hin2 h0
  ·rw [if_neg h0]; exact g3 hin2 (by simpa using h0)
 ·rw [if_neg hk8] at hok ⊢
  exact cluster_call_kernel P n hn t x okc la lc ga gx hll hcl hk6 hk8 _ rfl hok
end
def deedV (a : Deed) (la : Option Addr) (lc : Nat) (ga : Option Addr) (gx : Nat) : Value := .agg #[.int .i64 a.kind, .int .i64 a.h, .int .i64 a.t, .int .i64 a.n, .int .i64 a.call.kind, .int .i64 a.call.h, .int .i64 a.call.t, .int .i64 a.call.n, .int .i64 a.call.c, .slice la a.call.label.length lc, .slice ga a.call.grants.length gx, .string a.call.text]
section
variable {w0 Wd W : World} {M0 : List Nat} {own : Blks} {X D : Nat → Prop} {gc : Nat} {kg : List Nat} {C : Clu}
theorem Clu.ok.acting {C : Clu} (h : C.ok) (ha : ¬ 300 ≤ C.acts) : ({ C with acts := C.acts + 1 } : Clu).ok := ⟨h.now, h.kerN, h.ker, h.certN, h.cert, h.lineN, h.line, h.netN, h.net, by have := h.acts; simp only; omega⟩
theorem cluster_do_full (P : Clus w0 M0 own X Wd D gc kg C W) (a : Deed) (la : Option Addr) (lc : Nat) (ga : Option Addr) (gx : Nat) (ha : 300 ≤ C.acts) :
  Calls Tryz.prog 18 #[.pointer (some ⟨gc, 0, none⟩), deedV a la lc ga gx] W fun e W' => e = .returned (RepV (errR 5)) ∧ Clus w0 M0 own X Wd D gc kg C W' := by
 obtain ⟨ok0, BB0, na0, nc0, L0, hA0, -, -, -⟩ := P.open
 have HCA := qh (fun (U : World) (hb : Below W.heap.size W U) => hA0.cellB hb hA0.cells.acts)
 clear hA0
 have da : decide ((300 : Int) ≤ C.acts) = true := by simpa using ha
 have st := St.start W
 unfold deedV
 go_enter Tryz.func18, Tryz.ntmps18
 go_upto_region 3 with (first | go_skip | (with_reducible refine mB 32 st ?_; clear st; intro g3 w3 hg3 st) | (with_reducible refine mA st Tryz.zeroValue35 ?_; clear st; intro g4 w4 hg4 st))
 have f0 := HCA.out _ st.below
 go_wp2_with (first | go_skip | (with_reducible refine mS 1 st Tryz.sizeOf35 ?_; clear st; intro w5 st hw5m hw5z))
 have hc := fun j => st.cell (i := 1) rfl j
 refine bodyPost_ret (v := RepV (errR 5)) ?hr rfl ⟨rfl, P.below st.below⟩
 case hr => simp [results, Tryz.results18, go_sem, hc, RepV, errR]; try rfl
theorem cluster_do_kind (P : Clus w0 M0 own X Wd D gc kg C W) (ha : ¬ 300 ≤ C.acts) (a : Deed) (la : Option Addr) (lc : Nat) (ga : Option Addr) (gx : Nat) (h1 : a.kind ≠ 1) (h2 : a.kind ≠ 2) (h3 : a.kind ≠ 3) (h4 : a.kind ≠ 4) (h5 : a.kind ≠ 5) :
  Calls Tryz.prog 18 #[.pointer (some ⟨gc, 0, none⟩), deedV a la lc ga gx] W fun e W' => e = .returned (RepV (errR 3)) ∧ Clus w0 M0 own X Wd D gc kg { C with acts := C.acts + 1 } W' := by
 unfold deedV
 have k1 : (a.kind == 1) = false := by simpa using h1
 have k2 : (a.kind == 2) = false := by simpa using h2
 have k3 : (a.kind == 3) = false := by simpa using h3
 have k4 : (a.kind == 4) = false := by simpa using h4
 have k5 : (a.kind == 5) = false := by simpa using h5
 clear h1 h2 h3 h4 h5
 obtain ⟨C6, hC6⟩ : ∃ C6 : Clu, ({ C with acts := C.acts + 1 } : Clu) = C6 := ⟨_, rfl⟩
 rw [hC6]
 have HC6 := qh hC6
 clear hC6
 have hact := P.okC.acts
 have hok5 := P.okC.acting ha
 obtain ⟨ok0, BB0, na0, nc0, L0, hA0, -, -, -⟩ := P.open
 have HCA := qh (fun (U : World) (hb : Below W.heap.size W U) => hA0.cellB hb hA0.cells.acts)
 have hgcW := hA0.gcLt
 clear hA0
 have da : decide ((300 : Int) ≤ C.acts) = false := by simpa using ha
 obtain ⟨B0, Y, Q, hB0, back⟩ := P.enter
 have st := St.start W
 go_enter Tryz.func18, Tryz.ntmps18
 go_upto_region 3 with (first | go_skip | (with_reducible refine mB 32 st ?_; clear st; intro g3 w3 hg3 st) | (with_reducible refine mA st Tryz.zeroValue35 ?_; clear st; intro g4 w4 hg4 st))
 have Q1 := Q.walk st
 have f0 := HCA.out _ st.below
 obtain ⟨ok, BB, na, nc, L, hQ⟩ := Q1.raw
 have hA := hQ.at_
 have hlen := hA.cells.len
 have stc := St.hand hA.blk
 have HST4 := qh st
 clear Q Q1 st HCA
 go_upto_region 6 with (first | go_skip | ((with_reducible refine at_store 3 ?_); go_must (refine mem_store stc (wanted_none rfl) 3 _ _ rfl gc 186 rfl (.int .i64 (C.acts + 1)) rfl [.int .i64 (C.acts + 1)] rfl Tryz.sizeOf3 (by simp [Value.oneCell']) 0 _ _ rfl (by simp only [List.length_cons, List.length_nil]; omega) ?_; intro w5 st5 hm5 hz5)))
 obtain ⟨ok2, hQ2⟩ := hQ.cells (C' := { C with acts := C.acts + 1 }) hok5 st5 (mgE (i := 0) rfl) ((hA.old st5).setActs (C.acts + 1)) rfl rfl
 have P2 := hQ2.clus
 have HOLD := qh (show W.heap.size ≤ w5.heap.size ∧ ∀ b, b < W.heap.size → b ≠ gc → w5.heap[b]? = W.heap[b]? from ⟨by have := HST4.out.size; omega, fun b hb hne => (hm5 b hne).trans (HST4.out.frame b hb (by simp))⟩)
 clear HST4 hQ hQ2 hA stc st5 hm5 hz5 hlen f0 da hact hok5 ha P
 rw [HC6.out] at P2
 have st := P2.st.rebase
 simp only [List.map_cons, List.map_nil] at st
 go_wp2_with (first | go_skip | (with_reducible refine mX st Tryz.isAgg3 ?_) | (with_reducible refine mS 1 st Tryz.sizeOf35 ?_; clear st; intro w9 st hw9m hw9z))
 have hc := fun j => st.cell (i := 1) rfl j
 refine bodyPost_ret (v := RepV (errR 3)) ?hr rfl ⟨rfl, back _ _ _ (P2.walk st)⟩
 case hr => simp [results, Tryz.results18, go_sem, hc, RepV, errR]; try rfl
theorem cluster_do_nowhere (P : Clus w0 M0 own X Wd D gc kg C W) (ha : ¬ 300 ≤ C.acts) (a : Deed) (la : Option Addr) (lc : Nat) (ga : Option Addr) (gx : Nat) (h1 : a.kind = 1) (h4 : four a.h = false ∨ four a.t = false) :
  Calls Tryz.prog 18 #[.pointer (some ⟨gc, 0, none⟩), deedV a la lc ga gx] W fun e W' => e = .returned (RepV (errR 4)) ∧ Clus w0 M0 own X Wd D gc kg { C with acts := C.acts + 1 } W' := by
 unfold deedV
 have k1 : (a.kind == 1) = true := by simpa using h1
 have hd : decide (a.h < 0) = true ∨ (decide (a.h < 0) = false ∧ decide ((4 : Int) ≤ a.h) = true) ∨ (decide (a.h < 0) = false ∧ decide ((4 : Int) ≤ a.h) = false ∧ decide (a.t < 0) = true) ∨ (decide (a.h < 0) = false ∧ decide ((4 : Int) ≤ a.h) = false ∧ decide (a.t < 0) = false ∧ decide ((4 : Int) ≤ a.t) = true) := by
  simp only [decide_eq_true_eq, decide_eq_false_iff_not]
  have e1 := four_iff a.h
  have e2 := four_iff a.t
  rcases h4 with h4 | h4
  ·rw [h4] at e1; simp at e1; omega
  ·rw [h4] at e2; simp at e2; omega
 clear h1 h4
 obtain ⟨C6, hC6⟩ : ∃ C6 : Clu, ({ C with acts := C.acts + 1 } : Clu) = C6 := ⟨_, rfl⟩
 rw [hC6]
 have HC6 := qh hC6
 clear hC6
 have hact := P.okC.acts
 have hok5 := P.okC.acting ha
 obtain ⟨ok0, BB0, na0, nc0, L0, hA0, -, -, -⟩ := P.open
 have HCA := qh (fun (U : World) (hb : Below W.heap.size W U) => hA0.cellB hb hA0.cells.acts)
 have hgcW := hA0.gcLt
 clear hA0
 have da : decide ((300 : Int) ≤ C.acts) = false := by simpa using ha
 obtain ⟨B0, Y, Q, hB0, back⟩ := P.enter
 have st := St.start W
 go_enter Tryz.func18, Tryz.ntmps18
 go_upto_region 3 with (first | go_skip | (with_reducible refine mB 32 st ?_; clear st; intro g3 w3 hg3 st) | (with_reducible refine mA st Tryz.zeroValue35 ?_; clear st; intro g4 w4 hg4 st))
 have Q1 := Q.walk st
 have f0 := HCA.out _ st.below
 obtain ⟨ok, BB, na, nc, L, hQ⟩ := Q1.raw
 have hA := hQ.at_
 have hlen := hA.cells.len
 have stc := St.hand hA.blk
 have HST4 := qh st
 clear Q Q1 st HCA
 go_upto_region 6 with (first | go_skip | ((with_reducible refine at_store 3 ?_); go_must (refine mem_store stc (wanted_none rfl) 3 _ _ rfl gc 186 rfl (.int .i64 (C.acts + 1)) rfl [.int .i64 (C.acts + 1)] rfl Tryz.sizeOf3 (by simp [Value.oneCell']) 0 _ _ rfl (by simp only [List.length_cons, List.length_nil]; omega) ?_; intro w5 st5 hm5 hz5)))
 obtain ⟨ok2, hQ2⟩ := hQ.cells (C' := { C with acts := C.acts + 1 }) hok5 st5 (mgE (i := 0) rfl) ((hA.old st5).setActs (C.acts + 1)) rfl rfl
 have P2 := hQ2.clus
 have HOLD := qh (show W.heap.size ≤ w5.heap.size ∧ ∀ b, b < W.heap.size → b ≠ gc → w5.heap[b]? = W.heap[b]? from ⟨by have := HST4.out.size; omega, fun b hb hne => (hm5 b hne).trans (HST4.out.frame b hb (by simp))⟩)
 clear HST4 hQ hQ2 hA stc st5 hm5 hz5 hlen f0 da hact hok5 ha P
 rw [HC6.out] at P2
 have st := P2.st.rebase
 simp only [List.map_cons, List.map_nil] at st
 rcases hd with d1 | ⟨d1, d2⟩ | ⟨d1, d2, d3⟩ | ⟨d1, d2, d3, d4⟩
 all_goals
  go_wp2_with (first | go_skip | (with_reducible refine mX st Tryz.isAgg3 ?_) | (with_reducible refine mS 1 st Tryz.sizeOf35 ?_; clear st; intro w9 st hw9m hw9z))
  have hc := fun j => st.cell (i := 1) rfl j
  refine bodyPost_ret (v := RepV (errR 4)) ?hr rfl ⟨rfl, back _ _ _ (P2.walk st)⟩
  case hr => simp [results, Tryz.results18, go_sem, hc, RepV, errR]; try rfl
theorem cluster_do_call (P : Clus w0 M0 own X Wd D gc kg C W) (ha : ¬ 300 ≤ C.acts) (n : Nat) (hn : n < 4) (t an : Int) (ht : four t = true) (x : Req) (okc : Nat → Prop) (hgo : ∀ b, okc b → b ≠ gc) (la : Option Addr) (lc : Nat) (ga : Option Addr) (gx : Nat) (hll : x.label.length * 16 ≤ 140737488351232) (hgl : x.grants.length * 8 ≤ 140737488351232) (hcl : SlR okc W 2 RLev la lc x.label) (hcg : SlR okc W 1 RInt ga gx x.grants) :
  Calls Tryz.prog 18 #[.pointer (some ⟨gc, 0, none⟩), deedV ⟨1, n, t, an, x⟩ la lc ga gx] W fun e W' => e = .returned (RepV (callC { C with acts := C.acts + 1 } n t x).2) ∧ Clus w0 M0 own X Wd D gc kg (callC { C with acts := C.acts + 1 } n t x).1 W' := by
 unfold deedV
 have d1 : decide ((n : Int) < 0) = false := by simp
 have d2 : decide ((4 : Int) ≤ n) = false := by simp; omega
 have et := (four_iff t).1 ht
 have d3 : decide (t < 0) = false := by simp; omega
 have d4 : decide ((4 : Int) ≤ t) = false := by simp; omega
 clear et
 obtain ⟨C6, hC6⟩ : ∃ C6 : Clu, ({ C with acts := C.acts + 1 } : Clu) = C6 := ⟨_, rfl⟩
 rw [hC6]
 have HC6 := qh hC6
 clear hC6
 obtain ⟨s2, hs2⟩ : ∃ s2, callC C6 n t x = s2 := ⟨_, rfl⟩
 rw [hs2]
 have HS2 := qh hs2
 have HT := qh ht
 have HD := qh (And.intro hcl hcg)
 clear hs2 ht hcl hcg
 have hact := P.okC.acts
 have hok5 := P.okC.acting ha
 obtain ⟨ok0, BB0, na0, nc0, L0, hA0, -, -, -⟩ := P.open
 have HCA := qh (fun (U : World) (hb : Below W.heap.size W U) => hA0.cellB hb hA0.cells.acts)
 have hgcW := hA0.gcLt
 clear hA0
 have da : decide ((300 : Int) ≤ C.acts) = false := by simpa using ha
 obtain ⟨B0, Y, Q, hB0, back⟩ := P.enter
 have st := St.start W
 go_enter Tryz.func18, Tryz.ntmps18
 go_upto_region 3 with (first | go_skip | (with_reducible refine mB 32 st ?_; clear st; intro g3 w3 hg3 st) | (with_reducible refine mA st Tryz.zeroValue35 ?_; clear st; intro g4 w4 hg4 st))
 have Q1 := Q.walk st
 have f0 := HCA.out _ st.below
 obtain ⟨ok, BB, na, nc, L, hQ⟩ := Q1.raw
 have hA := hQ.at_
 have hlen := hA.cells.len
 have stc := St.hand hA.blk
 have HST4 := qh st
 clear Q Q1 st HCA
 go_upto_region 6 with (first | go_skip | ((with_reducible refine at_store 3 ?_); go_must (refine mem_store stc (wanted_none rfl) 3 _ _ rfl gc 186 rfl (.int .i64 (C.acts + 1)) rfl [.int .i64 (C.acts + 1)] rfl Tryz.sizeOf3 (by simp [Value.oneCell']) 0 _ _ rfl (by simp only [List.length_cons, List.length_nil]; omega) ?_; intro w5 st5 hm5 hz5)))
 obtain ⟨ok2, hQ2⟩ := hQ.cells (C' := { C with acts := C.acts + 1 }) hok5 st5 (mgE (i := 0) rfl) ((hA.old st5).setActs (C.acts + 1)) rfl rfl
 have P2 := hQ2.clus
 have HOLD := qh (show W.heap.size ≤ w5.heap.size ∧ ∀ b, b < W.heap.size → b ≠ gc → w5.heap[b]? = W.heap[b]? from ⟨by have := HST4.out.size; omega, fun b hb hne => (hm5 b hne).trans (HST4.out.frame b hb (by simp))⟩)
 clear HST4 hQ hQ2 hA stc st5 hm5 hz5 hlen f0 da hact hok5 ha P
 rw [HC6.out] at P2
 have st := P2.st.rebase
 simp only [List.map_cons, List.map_nil] at st
 have HCL := qh (cluster_call P2 n hn t HT.out x okc la lc ga gx hll hgl (HD.out.1.move HOLD.out.1 (fun b hb ho => ⟨ho, HOLD.out.2 b hb (hgo b ho)⟩) fun _ _ r => r) (HD.out.2.move HOLD.out.1 (fun b hb ho => ⟨ho, HOLD.out.2 b hb (hgo b ho)⟩) fun _ _ r => r))
 rw [HS2.out] at HCL
 unfold RepV reqV at HCL
 go_wp2_with (first
  | go_skip | (with_reducible refine mX st Tryz.isAgg3 ?_) | (with_reducible refine mXA st Tryz.isAgg30 Tryz.sizeOf30 ?_)
  | (go_at_call 34; go_must (refine HCL.out.mono ?_; rintro e V2 ⟨rfl, P3⟩; have stP := P3.st.rebase; clear st; have st := stP; clear stP))
  | (with_reducible refine mS 1 st Tryz.sizeOf35 ?_; clear st; intro w9 st hw9m hw9z))
 have hc := fun j => st.cell (i := 1) rfl j
 refine bodyPost_ret (v := RepV (s2.2)) ?hr rfl ⟨rfl, back _ _ _ (P3.walk st)⟩
 case hr => simp [results, Tryz.results18, go_sem, hc, RepV, errR]; try rfl
theorem cluster_do_tick (P : Clus w0 M0 own X Wd D gc kg C W) (ha : ¬ 300 ≤ C.acts) (a : Deed) (la : Option Addr) (lc : Nat) (ga : Option Addr) (gx : Nat) (h5 : a.kind = 5) :
  Calls Tryz.prog 18 #[.pointer (some ⟨gc, 0, none⟩), deedV a la lc ga gx] W fun e W' => e = .returned (RepV (tickC { C with acts := C.acts + 1 } a.n).2) ∧ Clus w0 M0 own X Wd D gc kg (tickC { C with acts := C.acts + 1 } a.n).1 W' := by
 unfold deedV
 have k1 : (a.kind == 1) = false := by rw [h5]; rfl
 have k2 : (a.kind == 2) = false := by rw [h5]; rfl
 have k3 : (a.kind == 3) = false := by rw [h5]; rfl
 have k4 : (a.kind == 4) = false := by rw [h5]; rfl
 have k5 : (a.kind == 5) = true := by simpa using h5
 clear h5
 obtain ⟨C6, hC6⟩ : ∃ C6 : Clu, ({ C with acts := C.acts + 1 } : Clu) = C6 := ⟨_, rfl⟩
 rw [hC6]
 have HC6 := qh hC6
 clear hC6
 obtain ⟨s2, hs2⟩ : ∃ s2, tickC C6 a.n = s2 := ⟨_, rfl⟩
 rw [hs2]
 have HS2 := qh hs2
 clear hs2
 have hact := P.okC.acts
 have hok5 := P.okC.acting ha
 obtain ⟨ok0, BB0, na0, nc0, L0, hA0, -, -, -⟩ := P.open
 have HCA := qh (fun (U : World) (hb : Below W.heap.size W U) => hA0.cellB hb hA0.cells.acts)
 have hgcW := hA0.gcLt
 clear hA0
 have da : decide ((300 : Int) ≤ C.acts) = false := by simpa using ha
 obtain ⟨B0, Y, Q, hB0, back⟩ := P.enter
 have st := St.start W
 go_enter Tryz.func18, Tryz.ntmps18
 go_upto_region 3 with (first | go_skip | (with_reducible refine mB 32 st ?_; clear st; intro g3 w3 hg3 st) | (with_reducible refine mA st Tryz.zeroValue35 ?_; clear st; intro g4 w4 hg4 st))
 have Q1 := Q.walk st
 have f0 := HCA.out _ st.below
 obtain ⟨ok, BB, na, nc, L, hQ⟩ := Q1.raw
 have hA := hQ.at_
 have hlen := hA.cells.len
 have stc := St.hand hA.blk
 have HST4 := qh st
 clear Q Q1 st HCA
 go_upto_region 6 with (first | go_skip | ((with_reducible refine at_store 3 ?_); go_must (refine mem_store stc (wanted_none rfl) 3 _ _ rfl gc 186 rfl (.int .i64 (C.acts + 1)) rfl [.int .i64 (C.acts + 1)] rfl Tryz.sizeOf3 (by simp [Value.oneCell']) 0 _ _ rfl (by simp only [List.length_cons, List.length_nil]; omega) ?_; intro w5 st5 hm5 hz5)))
 obtain ⟨ok2, hQ2⟩ := hQ.cells (C' := { C with acts := C.acts + 1 }) hok5 st5 (mgE (i := 0) rfl) ((hA.old st5).setActs (C.acts + 1)) rfl rfl
 have P2 := hQ2.clus
 have HOLD := qh (show W.heap.size ≤ w5.heap.size ∧ ∀ b, b < W.heap.size → b ≠ gc → w5.heap[b]? = W.heap[b]? from ⟨by have := HST4.out.size; omega, fun b hb hne => (hm5 b hne).trans (HST4.out.frame b hb (by simp))⟩)
 clear HST4 hQ hQ2 hA stc st5 hm5 hz5 hlen f0 da hact hok5 ha P
 rw [HC6.out] at P2
 have st := P2.st.rebase
 simp only [List.map_cons, List.map_nil] at st
 have HTI := qh (cluster_tick P2 a.n)
 rw [HS2.out] at HTI
 unfold RepV at HTI
 go_wp2_with (first
  | go_skip | (with_reducible refine mX st Tryz.isAgg3 ?_)
  | (go_at_call 37; go_must (refine HTI.out.mono ?_; rintro e V2 ⟨rfl, P3⟩; have stP := P3.st.rebase; clear st; have st := stP; clear stP))
  | (with_reducible refine mS 1 st Tryz.sizeOf35 ?_; clear st; intro w9 st hw9m hw9z))
 have hc := fun j => st.cell (i := 1) rfl j
 refine bodyPost_ret (v := RepV (s2.2)) ?hr rfl ⟨rfl, back _ _ _ (P3.walk st)⟩
 case hr => simp [results, Tryz.results18, go_sem, hc, RepV, errR]; try rfl
end
section
variable {w0 Wd W : World} {M0 : List Nat} {own : Blks} {X D : Nat → Prop} {gc : Nat} {kg : List Nat} {C : Clu}
theorem Clu.ok.erase {C : Clu} (h : C.ok) (i : Nat) : ({ C with net := C.net.eraseIdx i } : Clu).ok := ⟨h.now, h.kerN, h.ker, h.certN, h.cert, h.lineN, h.line, Nat.le_trans (List.length_eraseIdx_le _ _) h.netN, fun s hs => h.net s (List.mem_of_mem_eraseIdx hs), h.acts⟩
theorem cluster_do_none (P : Clus w0 M0 own X Wd D gc kg C W) (ha : ¬ 300 ≤ C.acts) (kind h t an : Int) (x : Req) (la : Option Addr) (lc : Nat) (ga : Option Addr) (gx : Nat) (hk : kind = 2 ∨ kind = 3 ∨ kind = 4) (hb : an < 0 ∨ (C.net.length : Int) ≤ an) :
  Calls Tryz.prog 18 #[.pointer (some ⟨gc, 0, none⟩), deedV ⟨kind, h, t, an, x⟩ la lc ga gx] W fun e W' => e = .returned (RepV (errR 4)) ∧ Clus w0 M0 own X Wd D gc kg { C with acts := C.acts + 1 } W' := by
 unfold deedV
 have hb2 : decide (an < 0) = true ∨ (decide (an < 0) = false ∧ decide ((C.net.length : Int) ≤ an) = true) := by
  simp only [decide_eq_true_eq, decide_eq_false_iff_not]
  omega
 have en : C.net = ({ C with acts := C.acts + 1 } : Clu).net := rfl
 rw [en] at hb2
 clear en hb
 obtain ⟨C6, hC6⟩ : ∃ C6 : Clu, ({ C with acts := C.acts + 1 } : Clu) = C6 := ⟨_, rfl⟩
 rw [hC6]
 have HC6 := qh hC6
 clear hC6
 rw [HC6.out] at hb2
 rcases hk with rfl | rfl | rfl
 ·have hact := P.okC.acts
  have hok5 := P.okC.acting ha
  obtain ⟨ok0, BB0, na0, nc0, L0, hA0, -, -, -⟩ := P.open
  have HCA := qh (fun (U : World) (hb : Below W.heap.size W U) => hA0.cellB hb hA0.cells.acts)
  have hgcW := hA0.gcLt
  clear hA0
  have da : decide ((300 : Int) ≤ C.acts) = false := by simpa using ha
  obtain ⟨B0, Y, Q, hB0, back⟩ := P.enter
  have st := St.start W
  go_enter Tryz.func18, Tryz.ntmps18
  go_upto_region 3 with (first | go_skip | (with_reducible refine mB 32 st ?_; clear st; intro g3 w3 hg3 st) | (with_reducible refine mA st Tryz.zeroValue35 ?_; clear st; intro g4 w4 hg4 st))
  have Q1 := Q.walk st
  have f0 := HCA.out _ st.below
  obtain ⟨ok, BB, na, nc, L, hQ⟩ := Q1.raw
  have hA := hQ.at_
  have hlen := hA.cells.len
  have stc := St.hand hA.blk
  have HST4 := qh st
  clear Q Q1 st HCA
  go_upto_region 6 with (first | go_skip | ((with_reducible refine at_store 3 ?_); go_must (refine mem_store stc (wanted_none rfl) 3 _ _ rfl gc 186 rfl (.int .i64 (C.acts + 1)) rfl [.int .i64 (C.acts + 1)] rfl Tryz.sizeOf3 (by simp [Value.oneCell']) 0 _ _ rfl (by simp only [List.length_cons, List.length_nil]; omega) ?_; intro w5 st5 hm5 hz5)))
  obtain ⟨ok2, hQ2⟩ := hQ.cells (C' := { C with acts := C.acts + 1 }) hok5 st5 (mgE (i := 0) rfl) ((hA.old st5).setActs (C.acts + 1)) rfl rfl
  have P2 := hQ2.clus
  have HOLD := qh (show W.heap.size ≤ w5.heap.size ∧ ∀ b, b < W.heap.size → b ≠ gc → w5.heap[b]? = W.heap[b]? from ⟨by have := HST4.out.size; omega, fun b hb hne => (hm5 b hne).trans (HST4.out.frame b hb (by simp))⟩)
  clear HST4 hQ hQ2 hA stc st5 hm5 hz5 hlen f0 da hact hok5 ha P
  rw [HC6.out] at P2
  have st := P2.st.rebase
  simp only [List.map_cons, List.map_nil] at st
  rcases hb2 with d0 | ⟨d0, d1⟩
  ·go_upto_region 14 with (first | go_skip | (with_reducible refine mX st Tryz.isAgg3 ?_))
   try simp only [kP, kA, kS, kZ]
   have P2d := P2.walk st.drew
   obtain ⟨ok6, BB6, na6, nc6, L6, hA6, hno6, -, hTo6⟩ := P2d.open
   have HNT := qh (show ∀ (U : World) (bl : Blks), St [g3, g4] w5.drew U bl → U.cell? ⟨gc, 185, none⟩ = some (.slice na6 C6.net.length nc6) from fun U bl hU => hA6.cellAt (own := [(g3, 32, [.int .i64 2, .int .i64 h, .int .i64 t, .int .i64 an, .int .i64 x.kind, .int .i64 x.h, .int .i64 x.t, .int .i64 x.n, .int .i64 x.c, .slice la x.label.length lc, .slice ga x.grants.length gx, .string x.text]), (g4, 35, [.int .i64 0, .int .i64 0, .string ⟨#[]⟩])]) hno6 hU hA6.cells.net)
   have hnr := hA6.net
   clear hA6 hTo6 hno6 P2d
   refine det_region (by kernel_rfl) 13 rfl (fun U => St [g3, g4] w5.drew U [(g3, 32, [.int .i64 2, .int .i64 h, .int .i64 t, .int .i64 an, .int .i64 x.kind, .int .i64 x.h, .int .i64 x.t, .int .i64 x.n, .int .i64 x.c, .slice la x.label.length lc, .slice ga x.grants.length gx, .string x.text]), (g4, 35, [.int .i64 0, .int .i64 0, .string ⟨#[]⟩])]) (st.drew.rebase) (by decide +kernel) ?_
   refine detS 0 rfl ?_
   refine detT 1 rfl (fun W hW => St.run_load hW 0 3 _ rfl Tryz.isAgg3 rfl rfl rfl) ?_
   refine detS 2 rfl ?_; refine detS 3 rfl ?_
   refine detK 4 rfl ?_; refine detK 5 rfl ?_; refine detK 6 rfl ?_; refine detK 7 rfl ?_; refine detK 8 rfl ?_; refine detK 9 rfl ?_; refine detK 10 rfl ?_; refine detK 11 rfl ?_
   refine detS 12 rfl ?_
   refine det_done (by decide +kernel) ?_
   clear st hnr
   intro U st
   have st := St.back (P2.st.rebase.drew) st
   go_wp2_with (first | go_skip | (with_reducible refine mS 1 st Tryz.sizeOf35 ?_; clear st; intro w9 st hw9m hw9z))
   have hc := fun j => st.cell (i := 1) rfl j
   refine bodyPost_ret (v := RepV (errR 4)) ?hr rfl ⟨rfl, back _ _ _ (P2.walk st)⟩
   case hr => simp [results, Tryz.results18, go_sem, hc, RepV, errR]; try rfl
  ·go_upto_region 14 with (first | go_skip | (with_reducible refine mX st Tryz.isAgg3 ?_))
   try simp only [kP, kA, kS, kZ]
   have P2d := P2.walk st.drew
   obtain ⟨ok6, BB6, na6, nc6, L6, hA6, hno6, -, hTo6⟩ := P2d.open
   have HNT := qh (show ∀ (U : World) (bl : Blks), St [g3, g4] w5.drew U bl → U.cell? ⟨gc, 185, none⟩ = some (.slice na6 C6.net.length nc6) from fun U bl hU => hA6.cellAt (own := [(g3, 32, [.int .i64 2, .int .i64 h, .int .i64 t, .int .i64 an, .int .i64 x.kind, .int .i64 x.h, .int .i64 x.t, .int .i64 x.n, .int .i64 x.c, .slice la x.label.length lc, .slice ga x.grants.length gx, .string x.text]), (g4, 35, [.int .i64 0, .int .i64 0, .string ⟨#[]⟩])]) hno6 hU hA6.cells.net)
   have hnr := hA6.net
   clear hA6 hTo6 hno6 P2d
   refine det_region (by kernel_rfl) 13 rfl (fun U => St [g3, g4] w5.drew U [(g3, 32, [.int .i64 2, .int .i64 h, .int .i64 t, .int .i64 an, .int .i64 x.kind, .int .i64 x.h, .int .i64 x.t, .int .i64 x.n, .int .i64 x.c, .slice la x.label.length lc, .slice ga x.grants.length gx, .string x.text]), (g4, 35, [.int .i64 0, .int .i64 0, .string ⟨#[]⟩])]) (st.drew.rebase) (by decide +kernel) ?_
   refine detS 0 rfl ?_
   refine detT 1 rfl (fun W hW => St.run_load hW 0 3 _ rfl Tryz.isAgg3 rfl rfl rfl) ?_
   refine detS 2 rfl ?_; refine detS 3 rfl ?_; refine detS 4 rfl ?_
   refine detT 5 rfl (fun W hW => St.run_load hW 0 3 _ rfl Tryz.isAgg3 rfl rfl rfl) ?_
   refine detS 6 rfl ?_; refine detS 7 rfl ?_; refine detS 8 rfl ?_
   refine detT 9 rfl (fun U hU => run_cell_one 63 _ rfl Tryz.isAgg63 gc 185 rfl _ (HNT.out U _ hU)) ?_
   refine detS 10 rfl ?_; refine detS 11 rfl ?_; refine detS 12 rfl ?_
   refine det_done (by decide +kernel) ?_
   clear st hnr
   intro U st
   have st := St.back (P2.st.rebase.drew) st
   go_wp2_with (first | go_skip | (with_reducible refine mS 1 st Tryz.sizeOf35 ?_; clear st; intro w9 st hw9m hw9z))
   have hc := fun j => st.cell (i := 1) rfl j
   refine bodyPost_ret (v := RepV (errR 4)) ?hr rfl ⟨rfl, back _ _ _ (P2.walk st)⟩
   case hr => simp [results, Tryz.results18, go_sem, hc, RepV, errR]; try rfl
 ·have hact := P.okC.acts
  have hok5 := P.okC.acting ha
  obtain ⟨ok0, BB0, na0, nc0, L0, hA0, -, -, -⟩ := P.open
  have HCA := qh (fun (U : World) (hb : Below W.heap.size W U) => hA0.cellB hb hA0.cells.acts)
  have hgcW := hA0.gcLt
  clear hA0
  have da : decide ((300 : Int) ≤ C.acts) = false := by simpa using ha
  obtain ⟨B0, Y, Q, hB0, back⟩ := P.enter
  have st := St.start W
  go_enter Tryz.func18, Tryz.ntmps18
  go_upto_region 3 with (first | go_skip | (with_reducible refine mB 32 st ?_; clear st; intro g3 w3 hg3 st) | (with_reducible refine mA st Tryz.zeroValue35 ?_; clear st; intro g4 w4 hg4 st))
  have Q1 := Q.walk st
  have f0 := HCA.out _ st.below
  obtain ⟨ok, BB, na, nc, L, hQ⟩ := Q1.raw
  have hA := hQ.at_
  have hlen := hA.cells.len
  have stc := St.hand hA.blk
  have HST4 := qh st
  clear Q Q1 st HCA
  go_upto_region 6 with (first | go_skip | ((with_reducible refine at_store 3 ?_); go_must (refine mem_store stc (wanted_none rfl) 3 _ _ rfl gc 186 rfl (.int .i64 (C.acts + 1)) rfl [.int .i64 (C.acts + 1)] rfl Tryz.sizeOf3 (by simp [Value.oneCell']) 0 _ _ rfl (by simp only [List.length_cons, List.length_nil]; omega) ?_; intro w5 st5 hm5 hz5)))
  obtain ⟨ok2, hQ2⟩ := hQ.cells (C' := { C with acts := C.acts + 1 }) hok5 st5 (mgE (i := 0) rfl) ((hA.old st5).setActs (C.acts + 1)) rfl rfl
  have P2 := hQ2.clus
  have HOLD := qh (show W.heap.size ≤ w5.heap.size ∧ ∀ b, b < W.heap.size → b ≠ gc → w5.heap[b]? = W.heap[b]? from ⟨by have := HST4.out.size; omega, fun b hb hne => (hm5 b hne).trans (HST4.out.frame b hb (by simp))⟩)
  clear HST4 hQ hQ2 hA stc st5 hm5 hz5 hlen f0 da hact hok5 ha P
  rw [HC6.out] at P2
  have st := P2.st.rebase
  simp only [List.map_cons, List.map_nil] at st
  rcases hb2 with d0 | ⟨d0, d1⟩
  ·go_upto_region 14 with (first | go_skip | (with_reducible refine mX st Tryz.isAgg3 ?_))
   try simp only [kP, kA, kS, kZ]
   have P2d := P2.walk st.drew
   obtain ⟨ok6, BB6, na6, nc6, L6, hA6, hno6, -, hTo6⟩ := P2d.open
   have HNT := qh (show ∀ (U : World) (bl : Blks), St [g3, g4] w5.drew U bl → U.cell? ⟨gc, 185, none⟩ = some (.slice na6 C6.net.length nc6) from fun U bl hU => hA6.cellAt (own := [(g3, 32, [.int .i64 3, .int .i64 h, .int .i64 t, .int .i64 an, .int .i64 x.kind, .int .i64 x.h, .int .i64 x.t, .int .i64 x.n, .int .i64 x.c, .slice la x.label.length lc, .slice ga x.grants.length gx, .string x.text]), (g4, 35, [.int .i64 0, .int .i64 0, .string ⟨#[]⟩])]) hno6 hU hA6.cells.net)
   have hnr := hA6.net
   clear hA6 hTo6 hno6 P2d
   refine det_region (by kernel_rfl) 13 rfl (fun U => St [g3, g4] w5.drew U [(g3, 32, [.int .i64 3, .int .i64 h, .int .i64 t, .int .i64 an, .int .i64 x.kind, .int .i64 x.h, .int .i64 x.t, .int .i64 x.n, .int .i64 x.c, .slice la x.label.length lc, .slice ga x.grants.length gx, .string x.text]), (g4, 35, [.int .i64 0, .int .i64 0, .string ⟨#[]⟩])]) (st.drew.rebase) (by decide +kernel) ?_
   refine detS 0 rfl ?_
   refine detT 1 rfl (fun W hW => St.run_load hW 0 3 _ rfl Tryz.isAgg3 rfl rfl rfl) ?_
   refine detS 2 rfl ?_; refine detS 3 rfl ?_
   refine detK 4 rfl ?_; refine detK 5 rfl ?_; refine detK 6 rfl ?_; refine detK 7 rfl ?_; refine detK 8 rfl ?_; refine detK 9 rfl ?_; refine detK 10 rfl ?_; refine detK 11 rfl ?_
   refine detS 12 rfl ?_
   refine det_done (by decide +kernel) ?_
   clear st hnr
   intro U st
   have st := St.back (P2.st.rebase.drew) st
   go_wp2_with (first | go_skip | (with_reducible refine mS 1 st Tryz.sizeOf35 ?_; clear st; intro w9 st hw9m hw9z))
   have hc := fun j => st.cell (i := 1) rfl j
   refine bodyPost_ret (v := RepV (errR 4)) ?hr rfl ⟨rfl, back _ _ _ (P2.walk st)⟩
   case hr => simp [results, Tryz.results18, go_sem, hc, RepV, errR]; try rfl
  ·go_upto_region 14 with (first | go_skip | (with_reducible refine mX st Tryz.isAgg3 ?_))
   try simp only [kP, kA, kS, kZ]
   have P2d := P2.walk st.drew
   obtain ⟨ok6, BB6, na6, nc6, L6, hA6, hno6, -, hTo6⟩ := P2d.open
   have HNT := qh (show ∀ (U : World) (bl : Blks), St [g3, g4] w5.drew U bl → U.cell? ⟨gc, 185, none⟩ = some (.slice na6 C6.net.length nc6) from fun U bl hU => hA6.cellAt (own := [(g3, 32, [.int .i64 3, .int .i64 h, .int .i64 t, .int .i64 an, .int .i64 x.kind, .int .i64 x.h, .int .i64 x.t, .int .i64 x.n, .int .i64 x.c, .slice la x.label.length lc, .slice ga x.grants.length gx, .string x.text]), (g4, 35, [.int .i64 0, .int .i64 0, .string ⟨#[]⟩])]) hno6 hU hA6.cells.net)
   have hnr := hA6.net
   clear hA6 hTo6 hno6 P2d
   refine det_region (by kernel_rfl) 13 rfl (fun U => St [g3, g4] w5.drew U [(g3, 32, [.int .i64 3, .int .i64 h, .int .i64 t, .int .i64 an, .int .i64 x.kind, .int .i64 x.h, .int .i64 x.t, .int .i64 x.n, .int .i64 x.c, .slice la x.label.length lc, .slice ga x.grants.length gx, .string x.text]), (g4, 35, [.int .i64 0, .int .i64 0, .string ⟨#[]⟩])]) (st.drew.rebase) (by decide +kernel) ?_
   refine detS 0 rfl ?_
   refine detT 1 rfl (fun W hW => St.run_load hW 0 3 _ rfl Tryz.isAgg3 rfl rfl rfl) ?_
   refine detS 2 rfl ?_; refine detS 3 rfl ?_; refine detS 4 rfl ?_
   refine detT 5 rfl (fun W hW => St.run_load hW 0 3 _ rfl Tryz.isAgg3 rfl rfl rfl) ?_
   refine detS 6 rfl ?_; refine detS 7 rfl ?_; refine detS 8 rfl ?_
   refine detT 9 rfl (fun U hU => run_cell_one 63 _ rfl Tryz.isAgg63 gc 185 rfl _ (HNT.out U _ hU)) ?_
   refine detS 10 rfl ?_; refine detS 11 rfl ?_; refine detS 12 rfl ?_
   refine det_done (by decide +kernel) ?_
   clear st hnr
   intro U st
   have st := St.back (P2.st.rebase.drew) st
   go_wp2_with (first | go_skip | (with_reducible refine mS 1 st Tryz.sizeOf35 ?_; clear st; intro w9 st hw9m hw9z))
   have hc := fun j => st.cell (i := 1) rfl j
   refine bodyPost_ret (v := RepV (errR 4)) ?hr rfl ⟨rfl, back _ _ _ (P2.walk st)⟩
   case hr => simp [results, Tryz.results18, go_sem, hc, RepV, errR]; try rfl
 ·have hact := P.okC.acts
  have hok5 := P.okC.acting ha
  obtain ⟨ok0, BB0, na0, nc0, L0, hA0, -, -, -⟩ := P.open
  have HCA := qh (fun (U : World) (hb : Below W.heap.size W U) => hA0.cellB hb hA0.cells.acts)
  have hgcW := hA0.gcLt
  clear hA0
  have da : decide ((300 : Int) ≤ C.acts) = false := by simpa using ha
  obtain ⟨B0, Y, Q, hB0, back⟩ := P.enter
  have st := St.start W
  go_enter Tryz.func18, Tryz.ntmps18
  go_upto_region 3 with (first | go_skip | (with_reducible refine mB 32 st ?_; clear st; intro g3 w3 hg3 st) | (with_reducible refine mA st Tryz.zeroValue35 ?_; clear st; intro g4 w4 hg4 st))
  have Q1 := Q.walk st
  have f0 := HCA.out _ st.below
  obtain ⟨ok, BB, na, nc, L, hQ⟩ := Q1.raw
  have hA := hQ.at_
  have hlen := hA.cells.len
  have stc := St.hand hA.blk
  have HST4 := qh st
  clear Q Q1 st HCA
  go_upto_region 6 with (first | go_skip | ((with_reducible refine at_store 3 ?_); go_must (refine mem_store stc (wanted_none rfl) 3 _ _ rfl gc 186 rfl (.int .i64 (C.acts + 1)) rfl [.int .i64 (C.acts + 1)] rfl Tryz.sizeOf3 (by simp [Value.oneCell']) 0 _ _ rfl (by simp only [List.length_cons, List.length_nil]; omega) ?_; intro w5 st5 hm5 hz5)))
  obtain ⟨ok2, hQ2⟩ := hQ.cells (C' := { C with acts := C.acts + 1 }) hok5 st5 (mgE (i := 0) rfl) ((hA.old st5).setActs (C.acts + 1)) rfl rfl
  have P2 := hQ2.clus
  have HOLD := qh (show W.heap.size ≤ w5.heap.size ∧ ∀ b, b < W.heap.size → b ≠ gc → w5.heap[b]? = W.heap[b]? from ⟨by have := HST4.out.size; omega, fun b hb hne => (hm5 b hne).trans (HST4.out.frame b hb (by simp))⟩)
  clear HST4 hQ hQ2 hA stc st5 hm5 hz5 hlen f0 da hact hok5 ha P
  rw [HC6.out] at P2
  have st := P2.st.rebase
  simp only [List.map_cons, List.map_nil] at st
  rcases hb2 with d0 | ⟨d0, d1⟩
  ·go_upto_region 14 with (first | go_skip | (with_reducible refine mX st Tryz.isAgg3 ?_))
   try simp only [kP, kA, kS, kZ]
   have P2d := P2.walk st.drew
   obtain ⟨ok6, BB6, na6, nc6, L6, hA6, hno6, -, hTo6⟩ := P2d.open
   have HNT := qh (show ∀ (U : World) (bl : Blks), St [g3, g4] w5.drew U bl → U.cell? ⟨gc, 185, none⟩ = some (.slice na6 C6.net.length nc6) from fun U bl hU => hA6.cellAt (own := [(g3, 32, [.int .i64 4, .int .i64 h, .int .i64 t, .int .i64 an, .int .i64 x.kind, .int .i64 x.h, .int .i64 x.t, .int .i64 x.n, .int .i64 x.c, .slice la x.label.length lc, .slice ga x.grants.length gx, .string x.text]), (g4, 35, [.int .i64 0, .int .i64 0, .string ⟨#[]⟩])]) hno6 hU hA6.cells.net)
   have hnr := hA6.net
   clear hA6 hTo6 hno6 P2d
   refine det_region (by kernel_rfl) 13 rfl (fun U => St [g3, g4] w5.drew U [(g3, 32, [.int .i64 4, .int .i64 h, .int .i64 t, .int .i64 an, .int .i64 x.kind, .int .i64 x.h, .int .i64 x.t, .int .i64 x.n, .int .i64 x.c, .slice la x.label.length lc, .slice ga x.grants.length gx, .string x.text]), (g4, 35, [.int .i64 0, .int .i64 0, .string ⟨#[]⟩])]) (st.drew.rebase) (by decide +kernel) ?_
   refine detS 0 rfl ?_
   refine detT 1 rfl (fun W hW => St.run_load hW 0 3 _ rfl Tryz.isAgg3 rfl rfl rfl) ?_
   refine detS 2 rfl ?_; refine detS 3 rfl ?_
   refine detK 4 rfl ?_; refine detK 5 rfl ?_; refine detK 6 rfl ?_; refine detK 7 rfl ?_; refine detK 8 rfl ?_; refine detK 9 rfl ?_; refine detK 10 rfl ?_; refine detK 11 rfl ?_
   refine detS 12 rfl ?_
   refine det_done (by decide +kernel) ?_
   clear st hnr
   intro U st
   have st := St.back (P2.st.rebase.drew) st
   go_wp2_with (first | go_skip | (with_reducible refine mS 1 st Tryz.sizeOf35 ?_; clear st; intro w9 st hw9m hw9z))
   have hc := fun j => st.cell (i := 1) rfl j
   refine bodyPost_ret (v := RepV (errR 4)) ?hr rfl ⟨rfl, back _ _ _ (P2.walk st)⟩
   case hr => simp [results, Tryz.results18, go_sem, hc, RepV, errR]; try rfl
  ·go_upto_region 14 with (first | go_skip | (with_reducible refine mX st Tryz.isAgg3 ?_))
   try simp only [kP, kA, kS, kZ]
   have P2d := P2.walk st.drew
   obtain ⟨ok6, BB6, na6, nc6, L6, hA6, hno6, -, hTo6⟩ := P2d.open
   have HNT := qh (show ∀ (U : World) (bl : Blks), St [g3, g4] w5.drew U bl → U.cell? ⟨gc, 185, none⟩ = some (.slice na6 C6.net.length nc6) from fun U bl hU => hA6.cellAt (own := [(g3, 32, [.int .i64 4, .int .i64 h, .int .i64 t, .int .i64 an, .int .i64 x.kind, .int .i64 x.h, .int .i64 x.t, .int .i64 x.n, .int .i64 x.c, .slice la x.label.length lc, .slice ga x.grants.length gx, .string x.text]), (g4, 35, [.int .i64 0, .int .i64 0, .string ⟨#[]⟩])]) hno6 hU hA6.cells.net)
   have hnr := hA6.net
   clear hA6 hTo6 hno6 P2d
   refine det_region (by kernel_rfl) 13 rfl (fun U => St [g3, g4] w5.drew U [(g3, 32, [.int .i64 4, .int .i64 h, .int .i64 t, .int .i64 an, .int .i64 x.kind, .int .i64 x.h, .int .i64 x.t, .int .i64 x.n, .int .i64 x.c, .slice la x.label.length lc, .slice ga x.grants.length gx, .string x.text]), (g4, 35, [.int .i64 0, .int .i64 0, .string ⟨#[]⟩])]) (st.drew.rebase) (by decide +kernel) ?_
   refine detS 0 rfl ?_
   refine detT 1 rfl (fun W hW => St.run_load hW 0 3 _ rfl Tryz.isAgg3 rfl rfl rfl) ?_
   refine detS 2 rfl ?_; refine detS 3 rfl ?_; refine detS 4 rfl ?_
   refine detT 5 rfl (fun W hW => St.run_load hW 0 3 _ rfl Tryz.isAgg3 rfl rfl rfl) ?_
   refine detS 6 rfl ?_; refine detS 7 rfl ?_; refine detS 8 rfl ?_
   refine detT 9 rfl (fun U hU => run_cell_one 63 _ rfl Tryz.isAgg63 gc 185 rfl _ (HNT.out U _ hU)) ?_
   refine detS 10 rfl ?_; refine detS 11 rfl ?_; refine detS 12 rfl ?_
   refine det_done (by decide +kernel) ?_
   clear st hnr
   intro U st
   have st := St.back (P2.st.rebase.drew) st
   go_wp2_with (first | go_skip | (with_reducible refine mS 1 st Tryz.sizeOf35 ?_; clear st; intro w9 st hw9m hw9z))
   have hc := fun j => st.cell (i := 1) rfl j
   refine bodyPost_ret (v := RepV (errR 4)) ?hr rfl ⟨rfl, back _ _ _ (P2.walk st)⟩
   case hr => simp [results, Tryz.results18, go_sem, hc, RepV, errR]; try rfl
end
end Go.Proofs.YtnjjdpiofbajlaaGreat
