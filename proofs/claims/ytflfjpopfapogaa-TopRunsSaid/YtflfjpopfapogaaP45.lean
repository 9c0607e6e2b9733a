/- Walks and plain laws that the claim rests on, part 45. -/
import Derived.Test.YtflfjpopfapogaaP44
import Derived.Test.YtflfjpopfapogaaP9
set_option linter.unusedSimpArgs false
set_option linter.unusedVariables false
/- The walk through the cluster's call: letters. -/
namespace Go.Proofs.Ytflfjpopfapogaa
open Go.RowKit
section
variable {w0 Wd W : World} {M0 : List Nat} {own : Blks} {X D : Nat → Prop} {gc : Nat} {kg : List Nat} {C : Clu}
set_option maxRecDepth 100000 in
set_option maxHeartbeats 4000000 in
theorem cluster_call_letter (P : Clus w0 M0 own X Wd D gc kg C W) (n : Nat) (hn : n < 4) (t : Int) (x : Req) (okc : Nat → Prop) (la : Option Addr) (lc : Nat) (ga : Option Addr) (gx : Nat) (hll : x.label.length * 16 ≤ 140737488351232) (hgl : x.grants.length * 8 ≤ 140737488351232) (hcl : SlR okc W 2 RLev la lc x.label) (hcg : SlR okc W 1 RInt ga gx x.grants)
  (hk : x.kind = 6) (hl : ¬ 64 < x.text.size) (h4 : four x.h = true) (h5 : four x.t = true) (r : Mail × Int) (hr : letterK (C.ker n) t x = r) :
  Calls Try.prog 23 #[.pointer (some ⟨gc, 0, none⟩), .int .i64 n, .int .i64 t, reqV x la lc ga gx] W fun e W' => (r.2 ≠ 0 → e = .returned (RepV (errR r.2)) ∧ Clus w0 M0 own X Wd D gc kg C W') ∧ (r.2 = 0 → e = .returned (RepV (errR (sendC C n x.h x.t r.1).2)) ∧ Clus w0 M0 own X Wd D gc kg (sendC C n x.h x.t r.1).1 W') := by
 obtain ⟨s2, hs2⟩ : ∃ s2, sendC C n x.h x.t r.1 = s2 := ⟨_, rfl⟩
 rw [hs2]
 have HS2 := Lib.hid hs2
 clear hs2
 have dk : (x.kind == 6) = true := by simpa using hk
 have dl : decide ((64 : Int) < (x.text.size : Int)) = false := by simp; omega
 have e1 := (four_iff x.h).1 h4
 have e2 := (four_iff x.t).1 h5
 have d1 : decide (x.h < 0) = false := by simp; omega
 have d2 : decide ((4 : Int) ≤ x.h) = false := by simp; omega
 have d3 : decide (x.t < 0) = false := by simp; omega
 have d4 : decide ((4 : Int) ≤ x.t) = false := by simp; omega
 obtain ⟨kk, ek0, ek1, hkk, hkh⟩ := P.okC.kerAt hn
 have hthr : ∀ y ∈ (C.ker n).threads, y.ok := by rw [ek1]; exact hkk.thr
 have hkh2 : (C.ker n).host = n := by rw [ek1]; exact hkh
 obtain ⟨B0, Y, Q, hB0, back⟩ := P.enter
 obtain ⟨ok, BB, na, nc, L, hA, -, -, -⟩ := Q.open
 obtain ⟨g, css, Bs, ek, eg, eB, hK0, f1⟩ := hA.kerOf hn
 have HLt := Lib.hid (fun (U : World) (hb : Below W.heap.size W U) => kernel_Letter ok okc U g (C.ker n) css Bs (hK0.below hb) hthr t x la lc ga gx hll hgl (by omega) (hcl.below hb) (hcg.below hb))
 rw [hr] at HLt
 have HCK := Lib.hid (fun (U : World) (hb : Below W.heap.size W U) => hA.cellB hb f1)
 have HH := Lib.hid h4
 have HT := Lib.hid h5
 have HGM := Lib.hid (show r.2 = 0 → goodMailC r.1 = 0 ∧ r.1.host = n from fun h0 => by
  rw [← hr] at h0 ⊢
  obtain ⟨q1, q2, q3, _⟩ := letterK_ok h0
  rw [q2]
  exact ⟨q3, hkh2⟩)
 clear hA hK0 f1 ek eg eB hr hkh2 hkh ek0 ek1 hkk hthr hcl hcg hk hl h4 h5 e1 e2
 have st := St.start W
 unfold reqV at *
 unfold LetPost mailV at HLt
 go_enter Try.func23, Try.ntmps23
 go_upto_region 8 with (first | go_skip | (with_reducible refine at_box 36 ?_; refine mem_box st (wanted_none rfl) 36 _ rfl _ rfl _ rfl ?_; clear st; intro g7 w7 hg7 st hg7b; clear hg7b; simp [Act.eval, Act.put, Value.cells, putL] at st) | (with_reducible refine at_alloc 41 ?_; refine mem_alloc st (wanted_none rfl) 41 rfl _ Try.zeroValue41 _ rfl ?_; clear st; intro g8 w8 hg8 st hg8b; clear hg8b; simp [Act.eval, Act.put, Value.cells, putL] at st) | (with_reducible refine at_load 3 ?_; refine memX st 3 _ rfl Try.isAgg3 rfl ?_) | (with_reducible refine at_load 9 ?_; refine memX st 9 _ rfl Try.isAgg9 rfl ?_))
 try simp only [kP, kA, kS, kZ]
 have Q8 := Q.walk st
 have st8 := st
 have hg7 : W.heap.size ≤ g7 := by have := st.mine _ (List.mem_of_getElem? (i := 0) rfl); simpa using this
 have hg8 : W.heap.size ≤ g8 := by have := st.mine _ (List.mem_of_getElem? (i := 1) rfl); simpa using this
 replace st := st.rebase
 simp only [List.map_cons, List.map_nil] at st
 go_cut [10, 11] (fun s10 s11 wx => ∃ (g10 : Nat) (la2 : Option Addr) (lc2 : Nat) (ga2 : Option Addr) (gx2 : Nat), s10 = .pointer (some ⟨g10, 0, none⟩) ∧ s11 = .int .i64 r.2 ∧ St [g7, g8] w8 wx [(g7, 36, [.int .i64 x.kind, .int .i64 x.h, .int .i64 x.t, .int .i64 x.n, .int .i64 x.c, .slice la x.label.length lc, .slice ga x.grants.length gx, .string x.text]), (g8, 41, [.int .i64 0, .int .i64 0, .string ⟨#[]⟩]), (g10, 45, [.int .i64 r.1.host, .int .i64 r.1.thread, .slice la2 r.1.label.length lc2, .slice ga2 r.1.grants.length gx2, .string r.1.text])] ∧ MailR (fun b => w8.heap.size ≤ b ∧ b ≠ g10) wx r.1 la2 lc2 ga2 gx2)
 case first =>
  replace st := st.drew
  have hI := st
  refine lex_region (by kernel_rfl) 15 rfl (fun U => St [g7, g8] w8 U [(g7, 36, [.int .i64 x.kind, .int .i64 x.h, .int .i64 x.t, .int .i64 x.n, .int .i64 x.c, .slice la x.label.length lc, .slice ga x.grants.length gx, .string x.text]), (g8, 41, [.int .i64 0, .int .i64 0, .string ⟨#[]⟩])]) ?_
  refine lexS 0 rfl hI ?_; simp only [kP, kA, kS, kZ]
  refine lexS 1 rfl hI ?_; simp only [kP, kA, kS, kZ]
  refine lexS 2 rfl hI ?_; simp only [kP, kA, kS, kZ]
  refine lexS 3 rfl hI ?_; simp only [kP, kA, kS, kZ]
  refine lexT (v := .pointer (some ⟨gc, 1 + n, none⟩)) 4 rfl hI (fun W hW => by (first | (go_simp; done) | (go_simp; omega) | (go_simp; intro h; omega))) ?_; simp only [kP, kA, kS, kZ]
  refine lexT 5 rfl hI (fun U hU => run_cell_one 60 _ rfl Try.isAgg60 gc (1 + n) rfl _ (HCK.out U (st8.below.keep (st8.below2 hU (by simp))))) ?_; simp only [kP, kA, kS, kZ]
  refine lexS 6 rfl hI ?_; simp only [kP, kA, kS, kZ]
  refine lexT 7 rfl hI (fun W hW => St.run_load_agg hW 0 36 _ rfl Try.isAgg36 _ Try.sizeOf36 rfl rfl rfl rfl) ?_; simp only [kP, kA, kS, kZ]
  clear hI
  refine lex_each [8, 12] (by decide +kernel) (by decide) ?_; intro i hi K hK; simp only [List.mem_cons, List.not_mem_nil, or_false] at hi; rcases hi with rfl | rfl <;> refine ⟨_, rfl, (by first | exact wanted_none rfl | exact wanted_some rfl rfl), ?_⟩
  ·refine wp_callee (f := 36) (by first | (go_simp; done) | (go_simp; rfl)) ?_
   have hzc := st.size
   refine (HLt.out _ (st8.below.keep (st8.below2 st (by simp)))).mono ?_
   rintro e v4 ⟨la2, lc2, ga2, gx2, rfl, hb4, hM4⟩
   refine ⟨_, rfl, ?_⟩
   replace st := st.call hb4
   refine hK _ _ (st.take 2) ?_; clear hK; simp only [kP, kA, kS, kZ]
   have hI := st.take 2
   refine lexS 9 rfl hI ?_; simp only [kP, kA, kS, kZ]
   refine lexS 10 rfl hI ?_; simp only [kP, kA, kS, kZ]
   refine lexS 11 rfl hI ?_; simp only [kP, kA, kS, kZ]
   clear hI
   refine lexO 12 rfl fun K hK => ?_
   have stB := st
   replace st := st.rebase
   simp only [List.map_cons, List.map_nil] at st
   refine wp_alloc st 45 rfl _ Try.zeroValue45 _ rfl ?_; clear st; intro g10 w10 hg10 st hg10b; simp [Act.eval, Act.put, Value.cells, putL] at st
   replace st := St.back stB st
   replace hM4 := hM4.move (ok' := fun b => w8.heap.size ≤ b ∧ b ≠ g10) hg10b.size (fun b hb ho => ⟨⟨Nat.le_trans hzc ho, by omega⟩, hg10b.block b hb⟩)
   refine hK _ _ (st.take 2) ?_; clear hK; simp only [kP, kA, kS, kZ]
   refine lexO 13 rfl fun K hK => ?_
   refine wp_store' st 45 _ _ rfl _ Try.sizeOf45 ⟨2, _, _, _, _, _, rfl, rfl, rfl, rfl, rfl, rfl, ?_⟩; clear st; intro w6 st hw6m hw6z; simp [Act.eval, Act.put, Value.cells, putL] at st
   replace hM4 := hM4.move (by omega) (fun b hb ho => ⟨ho, hw6m b ho.2⟩)
   have hI := st.take 2
   refine hK _ _ (hI) ?_; clear hK; simp only [kP, kA, kS, kZ]
   refine lexS 14 rfl hI ?_; simp only [kP, kA, kS, kZ]
   clear hI
   refine lex_done (by decide +kernel) ?_
   go_wp2_with fail
   go_meet
   exact ⟨g10, la2, lc2, ga2, gx2, rfl, rfl, st, hM4⟩
  ·refine wp_alloc st 45 rfl _ Try.zeroValue45 _ rfl ?_; clear st; intro g10 w10 hg10 st hg10b; simp [Act.eval, Act.put, Value.cells, putL] at st
   have h10c := st.ltAt (i := 2) rfl
   refine hK _ _ (st.take 2) ?_; clear hK; simp only [kP, kA, kS, kZ]
   refine lexO 8 rfl fun K hK => ?_
   refine wp_callee (f := 36) (by first | (go_simp; done) | (go_simp; rfl)) ?_
   have hzc := st.size
   refine (HLt.out _ (st8.below.keep (st8.below2 st (by simp)))).mono ?_
   rintro e v4 ⟨la2, lc2, ga2, gx2, rfl, hb4, hM4⟩
   refine ⟨_, rfl, ?_⟩
   replace st := st.call hb4
   refine hK _ _ (st.take 2) ?_; clear hK; simp only [kP, kA, kS, kZ]
   have hI := st.take 2
   refine lexS 9 rfl hI ?_; simp only [kP, kA, kS, kZ]
   refine lexS 10 rfl hI ?_; simp only [kP, kA, kS, kZ]
   refine lexS 11 rfl hI ?_; simp only [kP, kA, kS, kZ]
   clear hI
   replace hM4 := hM4.move (ok' := fun b => w8.heap.size ≤ b ∧ b ≠ g10) (Nat.le_refl _) (fun b hb ho => ⟨⟨Nat.le_trans hzc ho, by omega⟩, rfl⟩)
   refine lexO 13 rfl fun K hK => ?_
   refine wp_store' st 45 _ _ rfl _ Try.sizeOf45 ⟨2, _, _, _, _, _, rfl, rfl, rfl, rfl, rfl, rfl, ?_⟩; clear st; intro w6 st hw6m hw6z; simp [Act.eval, Act.put, Value.cells, putL] at st
   replace hM4 := hM4.move (by omega) (fun b hb ho => ⟨ho, hw6m b ho.2⟩)
   have hI := st.take 2
   refine hK _ _ (hI) ?_; clear hK; simp only [kP, kA, kS, kZ]
   refine lexS 14 rfl hI ?_; simp only [kP, kA, kS, kZ]
   clear hI
   refine lex_done (by decide +kernel) ?_
   go_wp2_with fail
   go_meet
   exact ⟨g10, la2, lc2, ga2, gx2, rfl, rfl, st, hM4⟩
 case rest =>
  clear st
  obtain ⟨g10, la2, lc2, ga2, gx2, rfl, rfl, st, hM⟩ := hcut
  by_cases h0 : r.2 = 0
  case neg =>
   have d0 : (r.2 != 0) = true := by simpa using h0
   have H0 := Lib.hid h0
   clear h0 hM
   go_wp2_with (first | go_skip | (go_at_call 35; go_must (refine (cluster_no _ _).mono ?_; rintro e w20 ⟨rfl, hb20⟩; replace st := st.call hb20; clear hb20)) | (with_reducible refine at_store 41 ?_; refine memS st 41 _ _ rfl _ Try.sizeOf41 ⟨1, _, _, _, _, _, rfl, rfl, rfl, rfl, rfl, rfl, ?_⟩; clear st; intro w9 st hw9m hw9z; simp [Act.eval, Act.put, Value.cells, putL] at st))
   have hc := fun j => st.cell (i := 1) rfl j
   have hW9 : Below W.heap.size W w9 := by
    have h := (St.back st8 (st.take 2)).below
    exact h
   refine bodyPost_ret (v := RepV (errR r.2)) ?hr rfl ⟨fun _ => ⟨rfl, P.below hW9⟩, fun h => absurd h H0.out⟩
   case hr => simp [results, Try.results23, go_sem, hc, RepV, errR]; try rfl
  have d0 : (r.2 != 0) = false := by simpa using h0
  obtain ⟨hgm, hgh⟩ := HGM.out h0
  have H0 := Lib.hid h0
  have HSN := Lib.hid (cluster_send Q8 (st8.below2 st (by simp)) n hn x.h x.t HH.out HT.out r.1 la2 lc2 ga2 gx2 ⟨hM.label.okay fun _ h => h.1, hM.grants.okay fun _ h => h.1⟩ hgm hgh)
  clear h0 hM hgm hgh
  unfold mailV at HSN
  rw [HS2.out] at HSN
  go_wp2_with (first
   | go_skip | (with_reducible refine at_load 3 ?_; refine memX st 3 _ rfl Try.isAgg3 rfl ?_) | (with_reducible refine at_load 45 ?_; refine memXA st 45 _ rfl Try.isAgg45 _ Try.sizeOf45 rfl ?_)
   | (go_at_call 37; go_must (refine HSN.out.mono ?_; rintro e V2 ⟨rfl, P2⟩; have stP := P2.st.rebase; clear st; have st := stP; clear stP))
   | (go_at_call 35; go_must (refine (cluster_no _ _).mono ?_; rintro e w20 ⟨rfl, hb20⟩; replace st := st.call hb20; clear hb20)) | (with_reducible refine at_store 41 ?_; refine memS st 41 _ _ rfl _ Try.sizeOf41 ⟨1, _, _, _, _, _, rfl, rfl, rfl, rfl, rfl, rfl, ?_⟩; clear st; intro w9 st hw9m hw9z; simp [Act.eval, Act.put, Value.cells, putL] at st))
  have hc := fun j => st.cell (i := 1) rfl j
  refine bodyPost_ret (v := RepV (errR s2.2)) ?hr rfl ⟨fun h => absurd H0.out h, fun _ => ⟨rfl, back _ _ _ (P2.walk st)⟩⟩
  case hr => simp [results, Try.results23, go_sem, hc, RepV, errR]; try rfl
end
open Go.RowKit
section
variable {w0 Wd W : World} {M0 : List Nat} {own : Blks} {X D : Nat → Prop} {gc : Nat} {kg : List Nat} {C : Clu}
set_option maxRecDepth 100000 in
set_option maxHeartbeats 4000000 in
theorem cluster_call_cert (P : Clus w0 M0 own X Wd D gc kg C W) (n : Nat) (hn : n < 4) (t : Int) (h4t : four t = true) (x : Req) (la : Option Addr) (lc : Nat) (ga : Option Addr) (gx : Nat)
  (hk : x.kind = 8) (h4 : four x.h = true) (hne : x.h ≠ n) (hx0 : ¬ x.n < 0) (hx1 : ¬ 1099511627776 < x.n) (r : List Cert × Int) (hr : addC (C.cert n) ⟨x.c, n, x.h, x.n⟩ = r) :
  Calls Try.prog 23 #[.pointer (some ⟨gc, 0, none⟩), .int .i64 n, .int .i64 t, reqV x la lc ga gx] W fun e W' => (inL ((C.ker n).thr t).own x.c = false → e = .returned (RepV (errR 7)) ∧ Clus w0 M0 own X Wd D gc kg C W') ∧ (inL ((C.ker n).thr t).own x.c = true → r.2 ≠ 0 → e = .returned (RepV (errR r.2)) ∧ Clus w0 M0 own X Wd D gc kg C W') ∧
   (inL ((C.ker n).thr t).own x.c = true → r.2 = 0 → e = .returned (RepV (errR 0)) ∧ Clus w0 M0 own X Wd D gc kg (C.setCert n r.1) W') := by
 have dk0 : (x.kind == 6) = false := by rw [hk]; rfl
 have dk : (x.kind == 8) = true := by simpa using hk
 have e1 := (four_iff x.h).1 h4
 have d1 : decide (x.h < 0) = false := by simp; omega
 have d2 : decide ((4 : Int) ≤ x.h) = false := by simp; omega
 have d3 : (x.h == (n : Int)) = false := by simpa using hne
 have d4 : decide (x.n < 0) = false := by simpa using hx0
 have d5 : decide (1099511627776 < x.n) = false := by simpa using hx1
 obtain ⟨kk, ek0, ek1, hkk, hkh⟩ := P.okC.kerAt hn
 have hthr : ∀ y ∈ (C.ker n).threads, y.ok := by rw [ek1]; exact hkk.thr
 have hoks := P.okC
 have hokt : ((C.ker n).thr t).ok := by
  obtain ⟨m, rfl, hm⟩ := four_nat h4t
  unfold Ker.thr
  rw [Int.toNat_natCast, List.getD_eq_getElem?_getD, List.getElem?_eq_getElem (by rw [ek1]; have := hkk.four; omega)]
  exact hthr _ (List.getElem_mem _)
 have hol : ((C.ker n).thr t).own.length ≤ 8 := hokt.ownL
 obtain ⟨B0, Y, Q, hB0, back⟩ := P.enter
 obtain ⟨ok, BB, na, nc, L, hA, -, -, -⟩ := Q.open
 obtain ⟨g, css, Bs, ek, eg, eB, hK0, f1⟩ := hA.kerOf hn
 obtain ⟨ra, rc, e5, hcs⟩ := hA.certsOf hn
 have HTh := Lib.hid (fun (U : World) (hb : Below W.heap.size W U) => kernel_Thread ok U g (C.ker n) css Bs (hK0.below hb) hthr t)
 have eth : thrOf (C.ker n) t = (C.ker n).thr t := by unfold thrOf; rw [if_pos h4t]
 rw [eth] at HTh
 have HCK := Lib.hid (fun (U : World) (hb : Below W.heap.size W U) => hA.cellB hb f1)
 have HC5 := Lib.hid (fun (U : World) (hb : Below W.heap.size W U) => hA.cellB hb e5)
 have HADD := Lib.hid (fun (U : World) (hb : Below W.heap.size W U) => trust_Add ok U ra rc (C.cert n) ⟨x.c, n, x.h, x.n⟩ (hcs.below hb) r hr)
 have hokr : r.2 = 0 → (C.setCert n r.1).ok := fun h0 => hoks.setCert (by
  rw [← hr] at h0 ⊢
  exact (addC_ok h0).2.1)
 generalize (C.ker n).thr t = th at HTh hol ⊢
 clear hA hK0 f1 ek eg eB ek0 ek1 hkk hkh hthr hoks hokt eth hcs e5 hk h4 hne hx0 hx1 h4t e1 hr
 have st := St.start W
 unfold reqV
 unfold ThreadPost thrV at HTh
 simp only at HADD
 go_enter Try.func23, Try.ntmps23
 go_upto_region 15 with (first | go_skip | (with_reducible refine at_box 36 ?_; refine mem_box st (wanted_none rfl) 36 _ rfl _ rfl _ rfl ?_; clear st; intro g7 w7 hg7 st hg7b; clear hg7b; simp [Act.eval, Act.put, Value.cells, putL] at st) | (with_reducible refine at_alloc 41 ?_; refine mem_alloc st (wanted_none rfl) 41 rfl _ Try.zeroValue41 _ rfl ?_; clear st; intro g8 w8 hg8 st hg8b; clear hg8b; simp [Act.eval, Act.put, Value.cells, putL] at st) | (with_reducible refine at_load 3 ?_; refine memX st 3 _ rfl Try.isAgg3 rfl ?_) | (with_reducible refine at_load 9 ?_; refine memX st 9 _ rfl Try.isAgg9 rfl ?_))
 try simp only [kP, kA, kS, kZ]
 have Q8 := Q.walk st
 have st8 := st
 have hg7 : W.heap.size ≤ g7 := by have := st.mine _ (List.mem_of_getElem? (i := 0) rfl); simpa using this
 have hg8 : W.heap.size ≤ g8 := by have := st.mine _ (List.mem_of_getElem? (i := 1) rfl); simpa using this
 replace st := st.rebase
 simp only [List.map_cons, List.map_nil] at st
 replace st := st.drew
 have hI := st
 refine lex_region (by kernel_rfl) 14 rfl (fun U => St [g7, g8] w8 U [(g7, 36, [.int .i64 x.kind, .int .i64 x.h, .int .i64 x.t, .int .i64 x.n, .int .i64 x.c, .slice la x.label.length lc, .slice ga x.grants.length gx, .string x.text]), (g8, 41, [.int .i64 0, .int .i64 0, .string ⟨#[]⟩])]) ?_
 refine lexS 0 rfl hI ?_; simp only [kP, kA, kS, kZ]
 refine lexS 1 rfl hI ?_; simp only [kP, kA, kS, kZ]
 refine lexS 2 rfl hI ?_; simp only [kP, kA, kS, kZ]
 refine lexS 3 rfl hI ?_; simp only [kP, kA, kS, kZ]
 refine lexT (v := .pointer (some ⟨gc, 1 + n, none⟩)) 4 rfl hI (fun W hW => by (first | (go_simp; done) | (go_simp; omega) | (go_simp; intro h; omega))) ?_; simp only [kP, kA, kS, kZ]
 refine lexT 5 rfl hI (fun U hU => run_cell_one 60 _ rfl Try.isAgg60 gc (1 + n) rfl _ (HCK.out U (st8.below.keep (st8.below2 hU (by simp))))) ?_; simp only [kP, kA, kS, kZ]
 refine lexS 6 rfl hI ?_; simp only [kP, kA, kS, kZ]
 refine lexS 9 rfl hI ?_; simp only [kP, kA, kS, kZ]
 refine lexT 10 rfl hI (fun W hW => St.run_load hW 0 3 _ rfl Try.isAgg3 rfl rfl rfl) ?_; simp only [kP, kA, kS, kZ]
 clear hI
 refine lexO 7 rfl fun K hK => ?_
 refine wp_callee (f := 17) (by first | (go_simp; done) | (go_simp; rfl)) ?_
 refine (HTh.out _ (st8.below.keep (st8.below2 st (by simp)))).mono ?_
 rintro e v4 ⟨la2, lc2, oa2, oc2, ba2, bc2, ma2, mc2, rfl, hb4, hT4⟩
 refine ⟨_, rfl, ?_⟩
 replace st := st.call hb4
 have hI := st
 refine hK _ _ (hI) ?_; clear hK; simp only [kP, kA, kS, kZ]
 refine lexS 8 rfl hI ?_; simp only [kP, kA, kS, kZ]
 clear hI
 refine lexO 11 rfl fun K hK => ?_
 refine wp_callee (f := 20) (by first | (go_simp; done) | (go_simp; rfl)) ?_
 refine (slices_Contains_int _ _ oa2 oc2 th.own x.c (by omega) hT4.own).mono ?_
 rintro e v5 ⟨rfl, rfl⟩
 refine ⟨_, rfl, ?_⟩
 have hI := st
 refine hK _ _ (hI) ?_; clear hK; simp only [kP, kA, kS, kZ]
 refine lexS 12 rfl hI ?_; simp only [kP, kA, kS, kZ]
 refine lexS 13 rfl hI ?_; simp only [kP, kA, kS, kZ]
 clear hI hT4 hb4
 refine lex_done (by decide +kernel) ?_
 cases hin : inL th.own x.c with
 | false =>
  go_wp2_with (first | go_skip | (go_at_call 35; go_must (refine (cluster_no _ _).mono ?_; rintro e w20 ⟨rfl, hb20⟩; replace st := st.call hb20; clear hb20)) | (with_reducible refine at_store 41 ?_; refine memS st 41 _ _ rfl _ Try.sizeOf41 ⟨1, _, _, _, _, _, rfl, rfl, rfl, rfl, rfl, rfl, ?_⟩; clear st; intro w9 st hw9m hw9z; simp [Act.eval, Act.put, Value.cells, putL] at st))
  have hc := fun j => st.cell (i := 1) rfl j
  refine bodyPost_ret (v := RepV (errR 7)) ?hr rfl ⟨fun _ => ⟨rfl, P.below (St.back st8 st).below⟩, fun h => absurd (hin.symm.trans h) (by simp), fun h => absurd (hin.symm.trans h) (by simp)⟩
  case hr => simp [results, Try.results23, go_sem, hc, RepV, errR]; try rfl
 | true =>
  go_upto_region 17 with (first | go_skip | fail)
  try simp only [kP, kA, kS, kZ]
  replace st := st.drew
  have hI := st
  refine lex_region (by kernel_rfl) 20 rfl (fun U => St [g7, g8] w8 U [(g7, 36, [.int .i64 x.kind, .int .i64 x.h, .int .i64 x.t, .int .i64 x.n, .int .i64 x.c, .slice la x.label.length lc, .slice ga x.grants.length gx, .string x.text]), (g8, 41, [.int .i64 0, .int .i64 0, .string ⟨#[]⟩])]) ?_
  refine lexS 0 rfl hI ?_; simp only [kP, kA, kS, kZ]
  refine lexS 1 rfl hI ?_; simp only [kP, kA, kS, kZ]
  refine lexS 2 rfl hI ?_; simp only [kP, kA, kS, kZ]
  refine lexS 3 rfl hI ?_; simp only [kP, kA, kS, kZ]
  refine lexT (v := .pointer (some ⟨gc, 5 + n, none⟩)) 4 rfl hI (fun W hW => by (first | (go_simp; done) | (go_simp; omega) | (go_simp; intro h; omega))) ?_; simp only [kP, kA, kS, kZ]
  refine lexT 5 rfl hI (fun U hU => run_cell_one 62 _ rfl Try.isAgg62 gc (5 + n) rfl _ (HC5.out U (st8.below.keep (st8.below2 hU (by simp))))) ?_; simp only [kP, kA, kS, kZ]
  refine lexS 6 rfl hI ?_; simp only [kP, kA, kS, kZ]
  refine lexT 7 rfl hI (fun W hW => St.run_load hW 0 3 _ rfl Try.isAgg3 rfl rfl rfl) ?_; simp only [kP, kA, kS, kZ]
  refine lexS 8 rfl hI ?_; simp only [kP, kA, kS, kZ]
  refine lexS 9 rfl hI ?_; simp only [kP, kA, kS, kZ]
  refine lexT 10 rfl hI (fun W hW => St.run_load hW 0 3 _ rfl Try.isAgg3 rfl rfl rfl) ?_; simp only [kP, kA, kS, kZ]
  refine lexS 11 rfl hI ?_; simp only [kP, kA, kS, kZ]
  refine lexT 12 rfl hI (fun W hW => St.run_load hW 0 3 _ rfl Try.isAgg3 rfl rfl rfl) ?_; simp only [kP, kA, kS, kZ]
  refine lexS 13 rfl hI ?_; simp only [kP, kA, kS, kZ]
  clear hI
  refine lexO 14 rfl fun K hK => ?_
  refine wp_callee (f := 38) (by first | (go_simp; done) | (go_simp; rfl)) ?_
  have hzA := (st8.below2 st (by simp)).size
  refine (HADD.out _ (st8.below.keep (st8.below2 st (by simp)))).mono ?_
  rintro e v9 ⟨a9, k9, rfl, hb9, hO9⟩
  refine ⟨_, rfl, ?_⟩
  replace st := st.call hb9
  have hI := st
  refine hK _ _ (hI) ?_; clear hK; simp only [kP, kA, kS, kZ]
  refine lexS 15 rfl hI ?_; simp only [kP, kA, kS, kZ]
  refine lexS 16 rfl hI ?_; simp only [kP, kA, kS, kZ]
  refine lexS 17 rfl hI ?_; simp only [kP, kA, kS, kZ]
  refine lexS 18 rfl hI ?_; simp only [kP, kA, kS, kZ]
  refine lexS 19 rfl hI ?_; simp only [kP, kA, kS, kZ]
  clear hI
  refine lex_done (by decide +kernel) ?_
  by_cases h0 : r.2 = 0
  case neg =>
   have d0 : (r.2 != 0) = true := by simpa using h0
   have H0 := Lib.hid h0
   clear h0
   go_wp2_with (first | go_skip | (go_at_call 35; go_must (refine (cluster_no _ _).mono ?_; rintro e w20 ⟨rfl, hb20⟩; replace st := st.call hb20; clear hb20)) | (with_reducible refine at_store 41 ?_; refine memS st 41 _ _ rfl _ Try.sizeOf41 ⟨1, _, _, _, _, _, rfl, rfl, rfl, rfl, rfl, rfl, ?_⟩; clear st; intro w10 st hw10m hw10z; simp [Act.eval, Act.put, Value.cells, putL] at st))
   have hc := fun j => st.cell (i := 1) rfl j
   refine bodyPost_ret (v := RepV (errR r.2)) ?hr rfl ⟨fun h => absurd (hin.symm.trans h) (by simp), fun _ _ => ⟨rfl, P.below (St.back st8 st).below⟩, fun _ h => absurd h H0.out⟩
   case hr => simp [results, Try.results23, go_sem, hc, RepV, errR]; try rfl
  have d0 : (r.2 != 0) = false := by simpa using h0
  have hokr := hokr h0
  have H0 := Lib.hid h0
  clear h0
  obtain ⟨ok8, BB8, na8, nc8, L8, hA8, hno8, -, hTo8⟩ := Q8.open
  have hlen8 := hA8.cells.len
  have stc := (St.ofBelow (st8.below2 st (by simp))).holding (hA8.blkB (st8.below2 st (by simp))) (by simp)
  simp only [List.nil_append] at stc
  go_upto_region 21 with (first
   | go_skip
   | ((with_reducible refine at_store 62 ?_); go_must (refine mem_store stc (wanted_none rfl) 62 _ _ rfl gc (5 + n) rfl (.slice a9 r.1.length k9) rfl [.slice a9 r.1.length k9] rfl Try.sizeOf62 (by simp [Value.oneCell']) 0 _ _ rfl (by simp only [List.length_cons, List.length_nil]; omega) ?_; intro w11 stu hm11 hz11)))
  have hS7 : SlR (okB ok8 w8 gc na8 BB8) w11 4 RCert a9 k9 r.1 := hO9.move (by omega) (fun b hb ho => by
   have hnb : b ∉ cluB gc na8 BB8 := fun hm => by have := hA8.lt b hm; omega
   exact ⟨⟨.inr (by omega), hnb⟩, hm11 b fun e => hnb (mem_cluB.2 (.inl e))⟩) fun _ _ r => r
  have P3 := hTo8 w11 _ hokr (hA8.certIn hn stu (List.mem_of_getElem? (i := 0) rfl) hS7)
  have stP := P3.st.rebase
  clear stc stu st hA8 hTo8 hS7 hO9 hm11 hz11 hno8
  have st := stP
  clear stP
  go_wp2_with (first | go_skip | (go_at_call 35; go_must (refine (cluster_no _ _).mono ?_; rintro e w20 ⟨rfl, hb20⟩; replace st := st.call hb20; clear hb20)) | (with_reducible refine at_store 41 ?_; refine memS st 41 _ _ rfl _ Try.sizeOf41 ⟨1, _, _, _, _, _, rfl, rfl, rfl, rfl, rfl, rfl, ?_⟩; clear st; intro w10 st hw10m hw10z; simp [Act.eval, Act.put, Value.cells, putL] at st))
  have hc := fun j => st.cell (i := 1) rfl j
  refine bodyPost_ret (v := RepV (errR 0)) ?hr rfl ⟨fun h => absurd (hin.symm.trans h) (by simp), fun _ h => absurd H0.out h, fun _ _ => ⟨rfl, back _ _ _ (P3.walk st)⟩⟩
  case hr => simp [results, Try.results23, go_sem, hc, RepV, errR]; try rfl
end
open Go.RowKit
section
variable {w0 Wd W : World} {M0 : List Nat} {own : Blks} {X D : Nat → Prop} {gc : Nat} {kg : List Nat} {C : Clu}
set_option maxRecDepth 100000 in
set_option maxHeartbeats 4000000 in
theorem cluster_call_kernel (P : Clus w0 M0 own X Wd D gc kg C W) (n : Nat) (hn : n < 4) (t : Int) (x : Req) (okc : Nat → Prop) (la : Option Addr) (lc : Nat) (ga : Option Addr) (gx : Nat) (hll : x.label.length * 16 ≤ 140737488351232) (hcl : SlR okc W 2 RLev la lc x.label)
  (hk6 : x.kind ≠ 6) (hk8 : x.kind ≠ 8) (r : Ker × Rep) (hr : stepC (C.ker n) t x = r) (hokr : (C.setKer n r.1).ok) :
  Calls Try.prog 23 #[.pointer (some ⟨gc, 0, none⟩), .int .i64 n, .int .i64 t, reqV x la lc ga gx] W fun e W' => e = .returned (RepV r.2) ∧ Clus w0 M0 own X Wd D gc kg (C.setKer n r.1) W' := by
 have dk0 : (x.kind == 6) = false := by simpa using hk6
 have dk : (x.kind == 8) = false := by simpa using hk8
 obtain ⟨kk, ek0, ek1, hkk, hkh⟩ := P.okC.kerAt hn
 have hkok : (C.ker n).ok := by rw [ek1]; exact hkk
 obtain ⟨B0, Y, Q, hB0, back⟩ := P.enter
 have HR := Lib.hid hr
 have HCL := Lib.hid hcl
 clear ek0 ek1 hkk hkh hcl hk6 hk8 hr
 have st := St.start W
 unfold reqV
 go_enter Try.func23, Try.ntmps23
 go_upto_region 22 with (first | go_skip | (with_reducible refine at_box 36 ?_; refine mem_box st (wanted_none rfl) 36 _ rfl _ rfl _ rfl ?_; clear st; intro g7 w7 hg7 st hg7b; clear hg7b; simp [Act.eval, Act.put, Value.cells, putL] at st) | (with_reducible refine at_alloc 41 ?_; refine mem_alloc st (wanted_none rfl) 41 rfl _ Try.zeroValue41 _ rfl ?_; clear st; intro g8 w8 hg8 st hg8b; clear hg8b; simp [Act.eval, Act.put, Value.cells, putL] at st) | (with_reducible refine at_load 3 ?_; refine memX st 3 _ rfl Try.isAgg3 rfl ?_) | (with_reducible refine at_load 9 ?_; refine memX st 9 _ rfl Try.isAgg9 rfl ?_))
 try simp only [kP, kA, kS, kZ]
 replace st := st.drew
 have Q8 := Q.walk st
 obtain ⟨ok, BB, na, nc, L, hA, hno, -, hTo⟩ := Q8.open
 obtain ⟨g, css, Bs, ek, eg, eB, hK0, f1⟩ := hA.kerOf hn
 have HKC := Lib.hid (kernel_Call ok okc w8.drew g (C.ker n) css Bs x la lc ga gx hK0 hkok t hll (HCL.out.below st.below))
 rw [HR.out] at HKC
 have HTo := Lib.hid (fun (V : World) hT => hTo V _ hokr (hA.kernel hn ek eg eB hK0 hT))
 have HCK := Lib.hid (fun (U : World) (hU : St [g7, g8] w8.drew U [(g7, 36, [.int .i64 x.kind, .int .i64 x.h, .int .i64 x.t, .int .i64 x.n, .int .i64 x.c, .slice la x.label.length lc, .slice ga x.grants.length gx, .string x.text]), (g8, 41, [.int .i64 0, .int .i64 0, .string ⟨#[]⟩])]) => hA.cellAt (own := [(g7, 36, [.int .i64 x.kind, .int .i64 x.h, .int .i64 x.t, .int .i64 x.n, .int .i64 x.c, .slice la x.label.length lc, .slice ga x.grants.length gx, .string x.text]), (g8, 41, [.int .i64 0, .int .i64 0, .string ⟨#[]⟩])]) hno hU f1)
 clear hA hTo hK0 ek eg eB f1 HR HCL Q
 unfold CallPost reqV RepV at HKC
 have hI := st.rebase
 simp only [List.map_cons, List.map_nil] at hI
 clear st
 refine lex_tail (by kernel_rfl) 8 2 [8, 9] rfl (by decide +kernel) (fun U => St [g7, g8] w8.drew U [(g7, 36, [.int .i64 x.kind, .int .i64 x.h, .int .i64 x.t, .int .i64 x.n, .int .i64 x.c, .slice la x.label.length lc, .slice ga x.grants.length gx, .string x.text]), (g8, 41, [.int .i64 0, .int .i64 0, .string ⟨#[]⟩])]) ?_
 refine lexS 0 rfl hI ?_; simp only [kP, kA, kS, kZ]
 refine lexS 1 rfl hI ?_; simp only [kP, kA, kS, kZ]
 refine lexS 2 rfl hI ?_; simp only [kP, kA, kS, kZ]
 refine lexS 3 rfl hI ?_; simp only [kP, kA, kS, kZ]
 refine lexT (v := .pointer (some ⟨gc, 1 + n, none⟩)) 4 rfl hI (fun W hW => by (first | (go_simp; done) | (go_simp; omega) | (go_simp; intro h; omega))) ?_; simp only [kP, kA, kS, kZ]
 refine lexT 5 rfl hI (fun U hU => run_cell_one 60 _ rfl Try.isAgg60 gc (1 + n) rfl _ (HCK.out U hU)) ?_; simp only [kP, kA, kS, kZ]
 refine lexS 6 rfl hI ?_; simp only [kP, kA, kS, kZ]
 refine lexT 7 rfl hI (fun W hW => St.run_load_agg hW 0 36 _ rfl Try.isAgg36 _ Try.sizeOf36 rfl rfl rfl rfl) ?_; simp only [kP, kA, kS, kZ]
 clear hI
 refine lex_done (by decide +kernel) ?_
 refine tail_next 8 rfl (by first | exact wanted_none rfl | exact wanted_some rfl rfl) (by decide +kernel) fun K hK => ?_
 refine wp_callee (f := 39) (by first | (go_simp; done) | (go_simp; rfl)) ?_
 refine HKC.out.mono ?_
 rintro e V2 ⟨rfl, hT⟩
 have P2 := HTo.out _ hT
 refine ⟨_, rfl, ?_⟩
 refine hK _ _ ?_; clear hK hT
 have st := P2.st.rebase
 refine tail_last 9 rfl (by first | exact wanted_none rfl | exact wanted_some rfl rfl) (by decide +kernel) (by decide +kernel) fun K hK => ?_
 refine wp_store' st 41 _ _ rfl _ Try.sizeOf41 ⟨1, _, _, _, _, _, rfl, rfl, rfl, rfl, rfl, rfl, ?_⟩; clear st; intro w9 st hw9m hw9z; simp [Act.eval, Act.put, Value.cells, putL] at st
 refine hK _ _ ?_; clear hK
 go_wp2_with (first | go_skip | fail)
 have hc := fun j => st.cell (i := 1) rfl j
 refine bodyPost_ret (v := RepV r.2) ?hr rfl ⟨rfl, back _ _ _ (P2.walk st)⟩
 case hr => simp [results, Try.results23, go_sem, hc, RepV]; try rfl
end
open Go.RowKit
section
variable {w0 Wd W : World} {M0 : List Nat} {own : Blks} {X D : Nat → Prop} {gc : Nat} {kg : List Nat} {C : Clu}
theorem cluster_call (P : Clus w0 M0 own X Wd D gc kg C W) (n : Nat) (hn : n < 4) (t : Int) (h4t : four t = true) (x : Req) (okc : Nat → Prop) (la : Option Addr) (lc : Nat) (ga : Option Addr) (gx : Nat) (hll : x.label.length * 16 ≤ 140737488351232) (hgl : x.grants.length * 8 ≤ 140737488351232) (hcl : SlR okc W 2 RLev la lc x.label) (hcg : SlR okc W 1 RInt ga gx x.grants) :
  Calls Try.prog 23 #[.pointer (some ⟨gc, 0, none⟩), .int .i64 n, .int .i64 t, reqV x la lc ga gx] W fun e W' => e = .returned (RepV (callC C n t x).2) ∧ Clus w0 M0 own X Wd D gc kg (callC C n t x).1 W' := by
 have hok := callC_ok P.okC hn t x
 unfold callC at hok ⊢
 by_cases hk6 : x.kind = 6
 ·rw [if_pos hk6]
  by_cases hl : 64 < x.text.size
  ·rw [if_pos hl]
   exact cluster_call_long P n t x la lc ga gx hk6 hl
  rw [if_neg hl]
  by_cases h4 : four x.h = false ∨ four x.t = false
  ·rw [if_pos h4]
   exact cluster_call_nowhere P n t x la lc ga gx hk6 hl h4
  rw [if_neg h4]
  have h1 : four x.h = true := by simpa using (not_or.1 h4).1
  have h2 : four x.t = true := by simpa using (not_or.1 h4).2
  refine (cluster_call_letter P n hn t x okc la lc ga gx hll hgl hcl hcg hk6 hl h1 h2 _ rfl).mono ?_
  rintro e W' ⟨g1, g2⟩
  by_cases h0 : (letterK (C.ker n) t x).2 ≠ 0
  ·rw [if_pos h0]; exact g1 h0
  ·rw [if_neg h0]; exact g2 (by simpa using h0)
 rw [if_neg hk6] at hok ⊢
 by_cases hk8 : x.kind = 8
 ·rw [if_pos hk8]
  by_cases hb : four x.h = false ∨ x.h = n ∨ x.n < 0 ∨ 1099511627776 < x.n
  ·rw [if_pos hb]
   exact cluster_call_range P n t x la lc ga gx hk8 hb
  rw [if_neg hb]
  obtain ⟨b1, b2⟩ := not_or.1 hb
  obtain ⟨b2, b3⟩ := not_or.1 b2
  obtain ⟨b3, b4⟩ := not_or.1 b3
  refine (cluster_call_cert P n hn t h4t x la lc ga gx hk8 (by simpa using b1) b2 b3 b4 _ rfl).mono ?_
  rintro e W' ⟨g1, g2, g3⟩
  by_cases hin : x.c ∉ ((C.ker n).thr t).own
  ·rw [if_pos hin]
   exact g1 ((inL_not _ _).2 hin)
  rw [if_neg hin]
  have hin2 : inL ((C.ker n).thr t).own x.c = true := (inL_iff _ _).2 (by simpa using hin)
  by_cases h0 : (addC (C.cert n) ⟨x.c, n, x.h, x.n⟩).2 ≠ 0
  ·rw [if_pos h0]; exact g2 hin2 h0
  ·rw [if_neg h0]; exact g3 hin2 (by simpa using h0)
 ·rw [if_neg hk8] at hok ⊢
  exact cluster_call_kernel P n hn t x okc la lc ga gx hll hcl hk6 hk8 _ rfl hok
end
end Go.Proofs.Ytflfjpopfapogaa
