/- Walks and plain laws, part 32. -/
import Derived.Test.YtnjjdpiofbajlaaGreatP28
import Derived.Test.YtnjjdpiofbajlaaGreatP21
set_option linter.unusedSimpArgs false
set_option linter.unusedVariables false
set_option maxHeartbeats 16000000
set_option maxRecDepth 100000
namespace Go.Proofs.YtnjjdpiofbajlaaGreat
open Go.RowKit
theorem St.holding {M : List Nat} {w0 w : World} {own : Blks} (st : St M w0 w own) {g : Nat} {T : TypeId} {cs : List Value} (h : w.heap[g]? = some (.cells cs.toArray T (0, 0))) (hn : ∀ x ∈ own, x.1 ≠ g) : St (g :: M) w0 w (own ++ [(g, T, cs)]) := by
 refine ⟨st.os, st.tape, st.output, st.size, fun b hb hm => st.frame b hb fun h => hm (by simp [h]), fun x hx => ?_, fun x hx => ?_, ?_⟩
 ·rcases List.mem_append.1 hx with hx | hx
  ·exact st.blk x hx
  ·simp only [List.mem_singleton] at hx; subst hx; exact h
 ·rcases List.mem_append.1 hx with hx | hx
  ·exact (st.mine x hx).imp (fun h => by simp [h]) id
  ·simp only [List.mem_singleton] at hx; subst hx; exact .inl (by simp)
 ·refine List.pairwise_append.2 ⟨st.ne, by simp, fun x hx y hy => ?_⟩
  simp only [List.mem_singleton] at hy; subst hy; exact hn x hx
theorem St.widen {M : List Nat} {w0 w1 w : World} {own : Blks} (st : St M w1 w own) (hb : Below w0.heap.size w0 w1) : St M w0 w own :=
 ⟨st.os.trans hb.os, st.tape.trans hb.tape, st.output.trans hb.output, Nat.le_trans hb.size st.size, fun b hb' hm => (st.frame b (Nat.lt_of_lt_of_le hb' hb.size) hm).trans (hb.block b hb'), st.blk,
  fun x hx => (st.mine x hx).imp id fun h => Nat.le_trans hb.size h, st.ne⟩
section
variable {W : World} {gc : Nat} {kg : List Nat} {C : Clu} {ok : Nat → Prop} {BB : List (List Nat)} {na : Option Addr} {nc : Nat} {L : List Value}
theorem CluAt.gcLt (hA : CluAt ok W gc C kg BB na nc L) : gc < W.heap.size := hA.lt gc (mem_cluB.2 (.inl rfl))
theorem CluAt.blkB (hA : CluAt ok W gc C kg BB na nc L) {V : World} (hb : Below W.heap.size W V) : V.heap[gc]? = some (.cells L.toArray 84 (0, 0)) := (hb.block gc hA.gcLt).trans hA.blk
theorem CluAt.cellB (hA : CluAt ok W gc C kg BB na nc L) {V : World} (hb : Below W.heap.size W V) {j : Nat} {v : Value} (hv : L[j]? = some v) : V.cell? ⟨gc, j, none⟩ = some v := by
 rw [cell_of_row V gc _ L.toArray _ (0, 0) (hA.blkB hb)]
 simpa using hv
def lineC (l : Line) (sa : Option Addr) (sc : Nat) : List Value := [.int .i64 l.next, .slice sa l.sent.length sc, .int .i64 l.high, .bool l.seen.s0, .bool l.seen.s1, .bool l.seen.s2, .bool l.seen.s3, .bool l.seen.s4, .bool l.seen.s5, .bool l.seen.s6, .bool l.seen.s7]
theorem CluAt.lineB (hA : CluAt ok W gc C kg BB na nc L) {n v : Nat} (hn : n < 4) (hv : v < 4) :
  ∃ sa sc, SentR ok W sa sc (C.line n v).sent ∧ ∀ V, Below W.heap.size W V → ∀ (j : Nat) (x : Value), (lineC (C.line n v) sa sc)[j]? = some x → V.cell? ⟨gc, 9 + n * 44 + v * 11 + j, none⟩ = some x := by
 obtain ⟨sa, sc, hs, hc⟩ := hA.lineOf hn hv
 exact ⟨sa, sc, hs, fun V hb j x hx => hA.cellB hb (hc j x hx)⟩
theorem CluAt.lineIn (hA : CluAt ok W gc C kg BB na nc L) {V : World} {own : Blks} {n v : Nat} (hn : n < 4) (hv : v < 4) {l : Line} {sa : Option Addr} {sc : Nat} (st : St [gc] W V own) (hm : (gc, 84, putL L (9 + n * 44 + v * 11) (lineC l sa sc)) ∈ own)
  (hs : SentR (okB ok W gc na BB) V sa sc l.sent) : CluTo ok W gc kg (cluB gc na BB) V (C.setLine n v l) := by
 have h := (hA.old st).setLineN (n := n * 4 + v) (by omega) (ln := l) (cs := lineC l sa sc) ⟨sa, sc, rfl, hs⟩
 have e : 9 + (n * 4 + v) * 11 = 9 + n * 44 + v * 11 := by omega
 rw [e] at h
 exact hA.closeCells st hm h rfl rfl
theorem CluAt.certIn (hA : CluAt ok W gc C kg BB na nc L) {V : World} {own : Blks} {n : Nat} (hn : n < 4) {l : List Cert} {a : Option Addr} {c : Nat} (st : St [gc] W V own) (hm : (gc, 84, putL L (5 + n) [.slice a l.length c]) ∈ own)
  (hs : SlR (okB ok W gc na BB) V 4 RCert a c l) : CluTo ok W gc kg (cluB gc na BB) V (C.setCert n l) :=
 hA.closeCells st hm ((hA.old st).setCert hn (l := l) (v := .slice a l.length c) ⟨a, c, rfl, hs⟩) rfl rfl
end
theorem MailR.move {ok ok' : Nat → Prop} {w w' : World} {m : Mail} {la : Option Addr} {lc : Nat} {ga : Option Addr} {gc : Nat} (h : MailR ok w m la lc ga gc) (hs : w.heap.size ≤ w'.heap.size) (hk : ∀ b, b < w.heap.size → ok b → ok' b ∧ w'.heap[b]? = w.heap[b]?) : MailR ok' w' m la lc ga gc := ⟨h.label.move hs hk fun _ _ r => r, h.grants.move hs hk fun _ _ r => r⟩
theorem good_fitsW {f : Frame} (h : goodFrameC f = 0) : f.FitsW := by
 obtain ⟨_, _, _, _, _, hA, hM⟩ := good_facts h
 cases hk : f.ack
 ·obtain ⟨m1, _, m3, _⟩ := hM hk
  obtain ⟨_, _, q5, q6, q7⟩ := mail_facts m1
  obtain ⟨q8, _⟩ := grants_facts q6
  unfold goodL at q5
  by_cases hl : f.mail.label.length ≤ 8
  ·exact ⟨by omega, by omega, by omega, by omega⟩
  ·rw [if_neg hl] at q5; simp at q5
 ·have h2 := hA hk
  unfold ackPlain at h2
  simp only [Bool.and_eq_true, beq_iff_eq, decide_eq_true_eq] at h2
  obtain ⟨_, h3⟩ := h2
  exact ⟨by omega, by omega, by omega, by omega⟩
theorem FitsW.fits {f : Frame} (h : f.FitsW) : f.Fits := ⟨h.label, h.grants, h.certs⟩
theorem goodM_len {m : Mail} (h : goodMailC m = 0) : m.label.length ≤ 8 ∧ m.grants.length ≤ 8 ∧ m.text.size ≤ 64 := by
 obtain ⟨_, _, q5, q6, q7⟩ := mail_facts h
 obtain ⟨q8, _⟩ := grants_facts q6
 unfold goodL at q5
 by_cases hl : m.label.length ≤ 8
 ·exact ⟨hl, by omega, by omega⟩
 ·rw [if_neg hl] at q5; simp at q5
section
variable {w0 Wd W : World} {M0 : List Nat} {own : Blks} {X D : Nat → Prop} {gc : Nat} {kg : List Nat} {C : Clu}
theorem cluster_send_yes (P : Clus w0 M0 own X Wd D gc kg C W) {V : World} (hbV : Below W.heap.size W V) (n v : Nat) (hn : n < 4) (hv : v < 4) (hne : n ≠ v) (t : Int) (m : Mail) (la : Option Addr) (lc : Nat) (ga : Option Addr) (gc' : Nat) (hR : MailR (fun b => W.heap.size ≤ b) V m la lc ga gc')
  (hm : mayB (C.cert n) v m C.now = true) (hg : m.label.length ≤ 8 ∧ m.grants.length ≤ 8 ∧ m.text.size ≤ 64) (r : SendX) (hr : sendX (lineOk (C.line n v)) (C.line n v).next (C.line n v).sent (mailF n v t m (showL (C.cert n) m)) C.now = r)
  (hrf : r.k = 0 → r.f.FitsW) (hok : r.k = 0 → (C.setLine n v { C.line n v with next := r.next, sent := r.sent }).ok) :
  Calls Tryz.prog 48 #[.pointer (some ⟨gc, 0, none⟩), .int .i64 n, .int .i64 v, .int .i64 t, mailV m la lc ga gc'] V fun e W' => e = .returned (.int .i64 r.k) ∧ (r.k ≠ 0 → Clus w0 M0 own X Wd D gc kg C W') ∧ (r.k = 0 → Clus w0 M0 own X Wd D gc kg (pushC (C.setLine n v { C.line n v with next := r.next, sent := r.sent }) r.f) W') := by
 have dne : ((n : Int) == (v : Int)) = false := by simp; omega
 have hcl : (C.cert n).length ≤ 24 := by
  obtain ⟨l, el, e1, hl⟩ := P.okC.certAt hn
  rw [e1]
  exact ((goodCerts_iff l).1 hl).2.2
 obtain ⟨sfit, slok⟩ : (∀ s ∈ (C.line n v).sent, s.frame.Fits) ∧ True := by
  obtain ⟨l, el, e1, hl, hs⟩ := P.okC.lineAt hn hv
  rw [e1]
  exact ⟨fun s h => FitsW.fits (good_fitsW (hs s h)), trivial⟩
 obtain ⟨ok, BB, na, nc, L, hA, hno, -, hTo⟩ := P.open
 obtain ⟨ca, cc, f1, hcs⟩ := hA.certsOf hn
 obtain ⟨sa, sc, hs, hlc⟩ := hA.lineB hn hv
 have hgW := hA.gcLt
 have HM := qh (fun (U : World) (hb : Below V.heap.size V U) => trust_May (fun _ => True) U (C.cert n) ca cc v m la lc ga gc' C.now ⟨by omega, by omega⟩ ((hcs.below (hbV.keep hb)).okay fun _ _ => trivial) ⟨((hR.below hb).label).okay fun _ _ => trivial, ((hR.below hb).grants).okay fun _ _ => trivial⟩)
 have HS := qh (fun (U : World) (hb : Below V.heap.size V U) => trust_Show (fun _ => True) U (C.cert n) ca cc m la lc ga gc' ⟨by omega, by omega⟩ (by omega) ((hcs.below (hbV.keep hb)).okay fun _ _ => trivial) ⟨((hR.below hb).label).okay fun _ _ => trivial, ((hR.below hb).grants).okay fun _ _ => trivial⟩)
 rw [hm] at HM
 have HC := qh (show ∀ (U : World) (bl : Blks), St [] V U bl → U.cell? ⟨gc, 5 + n, none⟩ = some (.slice ca (C.cert n).length cc) ∧ U.cell? ⟨gc, 0, none⟩ = some (.int .i64 C.now) ∧ ∀ (j : Nat) (x : Value), (lineC (C.line n v) sa sc)[j]? = some x → U.cell? ⟨gc, 9 + n * 44 + v * 11 + j, none⟩ = some x from fun U bl s =>
  ⟨hA.cellB (hbV.keep s.below) f1, hA.cellB (hbV.keep s.below) hA.cells.now, hlc U (hbV.keep s.below)⟩)
 have hfl : (mailF n v t m (showL (C.cert n) m)).Fits := by
  have : (showL (C.cert n) m).length ≤ 24 := Nat.le_trans (List.length_filter_le _ _) hcl
  exact ⟨by show m.label.length * 16 ≤ _; omega, by show m.grants.length * 8 ≤ _; omega, by show (showL (C.cert n) m).length * 32 ≤ _; omega⟩
 have HL := qh (fun (U : World) (okS : Nat → Prop) (h1 : ∀ b, U.heap.size ≤ b → okS b) (a4 : Option Addr) (k4 : Nat) (h2 : SentR okS U sa sc (C.line n v).sent) (h3 : FrameR okS U (mailF n v t m (showL (C.cert n) m)) la lc ga gc' a4 k4) => line_Send okS U h1 (C.line n v).next (C.line n v).high sa sc (C.line n v).sent (C.line n v).seen (mailF n v t m (showL (C.cert n) m)) la lc ga gc' a4 k4 C.now h2 h3 sfit hfl _ rfl r hr)
 have HW := qh hbV
 have hWV := hbV.size
 have HSV := qh (show SentR (fun b => ok b ∨ W.heap.size ≤ b) V sa sc (C.line n v).sent from hs.move hbV.size fun b hb ho => ⟨.inl ho, hbV.block b hb⟩)
 have HRV := qh hR
 have st := St.start V
 clear f1 hcs hno hm hlc sfit hfl hr hg hcl
 unfold mailV at *
 unfold lineV frameV at HL
 go_enter Tryz.func48, Tryz.ntmps48
 go_upto_region 4 with (first | go_skip | (with_reducible refine mB 42 st ?_; clear st; intro g9 w9 hg9 st))
 refine det_region (by kernel_rfl) 14 rfl (fun U => St [] V U [(g9, 42, [.int .i64 m.host, .int .i64 m.thread, .slice la m.label.length lc, .slice ga m.grants.length gc', .string m.text])]) (st.drew) (by decide +kernel) ?_
 refine detS 0 rfl ?_; refine detS 1 rfl ?_; refine detS 2 rfl ?_; refine detS 3 rfl ?_
 refine detT (v := .pointer (some ⟨gc, 5 + n, none⟩)) 4 rfl (fun W hW => by (first | (go_simp; done) | (go_simp; omega) | (go_simp; intro h; omega))) ?_
 refine detT 5 rfl (fun W hW => run_cell_one 44 _ rfl Tryz.isAgg44 gc (5 + n) rfl _ (HC.out W _ hW).1) ?_
 refine detS 6 rfl ?_
 refine detT 7 rfl (fun W hW => St.run_load_agg hW 0 42 _ rfl Tryz.isAgg42 _ Tryz.sizeOf42 rfl rfl rfl rfl) ?_
 refine detS 8 rfl ?_; refine detS 9 rfl ?_; refine detS 10 rfl ?_
 refine detT 11 rfl (fun W hW => run_cell_one 3 _ rfl Tryz.isAgg3 gc 0 rfl _ (HC.out W _ hW).2.1) ?_
 refine det_call (fn := 55) 12 rfl (by decide +kernel) (by first | exact wanted_none rfl | exact wanted_some rfl rfl) (fun W => by first | (go_simp; done) | (go_simp; rfl)) (fun W hW => (HM.out W hW.below).mono fun e w' h => ⟨h.1, hW.call h.2⟩) ?_; simp only [kP, kA, kS, kZ]
 refine detS 13 rfl ?_
 refine det_done (by decide +kernel) ?_
 clear st HM
 intro V9 st
 go_upto_region 6 with fail
 try simp only [kP, kA, kS, kZ]
 go_cut [11] (fun s11 wx => ∃ (g11 : Nat) (a4 : Option Addr) (k4 : Nat), s11 = .pointer (some ⟨g11, 0, none⟩) ∧ St [] V wx [(g9, 42, [.int .i64 m.host, .int .i64 m.thread, .slice la m.label.length lc, .slice ga m.grants.length gc', .string m.text]), (g11, 110, [.int .i64 n, .int .i64 v, .int .i64 0, .bool false, .int .i64 t, .int .i64 m.host, .int .i64 m.thread, .slice la m.label.length lc, .slice ga m.grants.length gc', .string m.text, .slice a4 (showL (C.cert n) m).length k4])] ∧ SlR (fun b => V.heap.size ≤ b ∧ b < wx.heap.size ∧ b ∉ [g9, g11]) wx 4 RCert a4 k4 (showL (C.cert n) m))
 case first =>
  have st := st.drew
  have hI := st
  refine lex_region (by kernel_rfl) 15 rfl (fun U => St [] V U [(g9, 42, [.int .i64 m.host, .int .i64 m.thread, .slice la m.label.length lc, .slice ga m.grants.length gc', .string m.text])]) ?_
  refine lexS 0 rfl hI ?_
  refine lexS 1 rfl hI ?_
  refine lexS 2 rfl hI ?_
  refine lexT 3 rfl hI (fun W hW => St.run_load_agg hW 0 42 _ rfl Tryz.isAgg42 _ Tryz.sizeOf42 rfl rfl rfl rfl) ?_
  refine lexS 4 rfl hI ?_
  refine lexS 5 rfl hI ?_
  refine lexS 6 rfl hI ?_
  refine lexS 7 rfl hI ?_
  refine lexT (v := .pointer (some ⟨gc, 5 + n, none⟩)) 8 rfl hI (fun W hW => by (first | (go_simp; done) | (go_simp; omega) | (go_simp; intro h; omega))) ?_
  refine lexT 9 rfl hI (fun W hW => run_cell_one 44 _ rfl Tryz.isAgg44 gc (5 + n) rfl _ (HC.out W _ hW).1) ?_
  refine lexT 10 rfl hI (fun W hW => St.run_load_agg hW 0 42 _ rfl Tryz.isAgg42 _ Tryz.sizeOf42 rfl rfl rfl rfl) ?_
  clear hI
  refine lex_each [11, 13] (by decide +kernel) (by decide) ?_; intro i hi K hK; simp only [List.mem_cons, List.not_mem_nil, or_false] at hi; rcases hi with rfl | rfl <;> refine ⟨_, rfl, (by first | exact wanted_none rfl | exact wanted_some rfl rfl), ?_⟩
  ·refine wp_callee (f := 63) (by first | (go_simp; done) | (go_simp; rfl)) ?_
   have hzc := st.size
   have h9c := st.ltAt (i := 0) rfl
   refine (HS.out _ st.below).mono ?_
   rintro e v4 ⟨a4, k4, rfl, hb4, hO4⟩
   refine ⟨_, rfl, ?_⟩
   replace st := st.call hb4
   have hI := st
   refine hK _ _ (hI) ?_; clear hK; simp only [kP, kA, kS, kZ]
   refine lexS 12 rfl hI ?_
   clear hI
   refine lexO 13 rfl fun K hK => ?_
   have h4z := st.size
   have h9b := st.ltAt (i := 0) rfl
   have hz4 := hb4.size
   have stB := st
   replace st := st.rebase
   simp only [List.map_cons, List.map_nil] at st
   refine wp_alloc st 110 rfl _ Tryz.zeroValue110 _ rfl ?_; clear st; intro g11 w11 hg11 st hg11b; simp [Act.eval, Act.put, Value.cells, putL] at st
   replace st := St.back stB st
   replace hO4 := hO4.move (ok' := fun b => V.heap.size ≤ b ∧ b ≠ g9 ∧ b ≠ g11) hg11b.size (fun b hb ho => ⟨⟨Nat.le_trans hzc ho, fun e => by subst e; exact absurd (Nat.lt_of_lt_of_le h9c ho) (Nat.lt_irrefl _), fun e => by subst e; exact absurd (Nat.lt_of_lt_of_le hb hg11) (Nat.lt_irrefl _)⟩, hg11b.block b hb⟩) fun _ _ r => r
   refine hK _ _ (st.take 1) ?_; clear hK; simp only [kP, kA, kS, kZ]
   refine lexO 14 rfl fun K hK => ?_
   refine wp_store' st 110 _ _ rfl _ Tryz.sizeOf110 ⟨1, _, _, _, _, _, rfl, rfl, rfl, rfl, rfl, rfl, ?_⟩; clear st; intro w7 st hw7m hw7z; simp [Act.eval, Act.put, Value.cells, putL] at st
   replace hO4 := hO4.move (ok' := fun b => V.heap.size ≤ b ∧ b < w7.heap.size ∧ b ∉ [g9, g11]) (by omega) (fun b hb ho => ⟨⟨ho.1, by omega, by simp; exact ho.2⟩, hw7m b ho.2.2⟩) fun _ _ r => r
   clear hw7m hw7z
   refine hK _ _ (st.take 1) ?_; clear hK; simp only [kP, kA, kS, kZ]
   refine lex_done (by decide +kernel) ?_
   go_wp2_with fail
   go_meet
   exact ⟨g11, a4, k4, rfl, st, hO4⟩
  ·refine wp_alloc st 110 rfl _ Tryz.zeroValue110 _ rfl ?_; clear st; intro g11 w11 hg11 st hg11b; simp [Act.eval, Act.put, Value.cells, putL] at st
   clear hg11b
   refine hK _ _ (st.take 1) ?_; clear hK; simp only [kP, kA, kS, kZ]
   refine lexO 11 rfl fun K hK => ?_
   have h11c := st.ltAt (i := 1) rfl
   refine wp_callee (f := 63) (by first | (go_simp; done) | (go_simp; rfl)) ?_
   have hzc := st.size
   have h9c := st.ltAt (i := 0) rfl
   refine (HS.out _ st.below).mono ?_
   rintro e v4 ⟨a4, k4, rfl, hb4, hO4⟩
   refine ⟨_, rfl, ?_⟩
   replace st := st.call hb4
   have hI := st.take 1
   refine hK _ _ (hI) ?_; clear hK; simp only [kP, kA, kS, kZ]
   refine lexS 12 rfl hI ?_
   clear hI
   replace hO4 := hO4.move (ok' := fun b => V.heap.size ≤ b ∧ b ≠ g9 ∧ b ≠ g11) (Nat.le_refl _) (fun b hb ho => ⟨⟨by omega, by omega, by omega⟩, rfl⟩) fun _ _ r => r
   refine lexO 14 rfl fun K hK => ?_
   refine wp_store' st 110 _ _ rfl _ Tryz.sizeOf110 ⟨1, _, _, _, _, _, rfl, rfl, rfl, rfl, rfl, rfl, ?_⟩; clear st; intro w7 st hw7m hw7z; simp [Act.eval, Act.put, Value.cells, putL] at st
   replace hO4 := hO4.move (ok' := fun b => V.heap.size ≤ b ∧ b < w7.heap.size ∧ b ∉ [g9, g11]) (by omega) (fun b hb ho => ⟨⟨ho.1, by omega, by simp; exact ho.2⟩, hw7m b ho.2.2⟩) fun _ _ r => r
   clear hw7m hw7z
   refine hK _ _ (st.take 1) ?_; clear hK; simp only [kP, kA, kS, kZ]
   refine lex_done (by decide +kernel) ?_
   go_wp2_with fail
   go_meet
   exact ⟨g11, a4, k4, rfl, st, hO4⟩
 case rest =>
  clear st
  obtain ⟨g11, a4, k4, rfl, st, hO4⟩ := hcut
  have hg9 : V.heap.size ≤ g9 := by have := st.mine _ (mgE (i := 0) rfl); simpa using this
  have hg11 : V.heap.size ≤ g11 := by have := st.mine _ (mgE (i := 1) rfl); simpa using this
  go_upto_region 7 with fail
  try simp only [kP, kA, kS, kZ]
  go_cut [12, 13] (fun s12 s13 wx => ∃ (g12 : Nat) (sa2 : Option Addr) (sc2 : Nat) (la2 : Option Addr) (lc2 : Nat) (ga2 : Option Addr) (gc2 : Nat) (ca2 : Option Addr) (cc2 : Nat), s12 = .pointer (some ⟨g12, 0, none⟩) ∧ s13 = .int .i64 r.k ∧ St [] V wx [(g9, 42, [.int .i64 m.host, .int .i64 m.thread, .slice la m.label.length lc, .slice ga m.grants.length gc', .string m.text]), (g11, 110, frameC r.f la2 lc2 ga2 gc2 ca2 cc2), (g12, 80, [.int .i64 r.next, .slice sa2 r.sent.length sc2, .int .i64 (C.line n v).high, .bool (C.line n v).seen.s0, .bool (C.line n v).seen.s1, .bool (C.line n v).seen.s2, .bool (C.line n v).seen.s3, .bool (C.line n v).seen.s4, .bool (C.line n v).seen.s5, .bool (C.line n v).seen.s6, .bool (C.line n v).seen.s7])] ∧
   SentR (fun b => (ok b ∨ W.heap.size ≤ b) ∧ b ∉ [g9, g11, g12]) wx sa2 sc2 r.sent ∧ FrameR (fun b => (ok b ∨ W.heap.size ≤ b) ∧ b ∉ [g9, g11, g12]) wx r.f la2 lc2 ga2 gc2 ca2 cc2)
  case first =>
   have hV9 := st.size
   have hdz : wc.drew.heap.size = wc.heap.size := rfl
   replace st := st.drew
   have hO4 := hO4.below (Below.refl _ _).drew
   have hI := st.take 1
   refine lex_region (by kernel_rfl) 22 rfl (fun U => St [] V U [(g9, 42, [.int .i64 m.host, .int .i64 m.thread, .slice la m.label.length lc, .slice ga m.grants.length gc', .string m.text])]) ?_
   refine lexS 0 rfl hI ?_
   refine lexS 1 rfl hI ?_
   refine lexS 2 rfl hI ?_
   refine lexS 3 rfl hI ?_
   refine lexS 4 rfl hI ?_
   refine lexT (v := .pointer (some ⟨gc, 9 + n * 44, none⟩)) 5 rfl hI (fun W hW => by (first | (go_simp; done) | (go_simp; omega) | (go_simp; intro h; omega))) ?_
   refine lexT (v := .pointer (some ⟨gc, 9 + n * 44 + v * 11, none⟩)) 6 rfl hI (fun W hW => by (first | (go_simp; done) | (go_simp; omega) | (go_simp; intro h; omega))) ?_
   refine lexT 7 rfl hI (fun U hU => run_load_at 80 _ rfl Tryz.isAgg80 _ Tryz.sizeOf80 gc (9 + n * 44 + v * 11) rfl (lineC (C.line n v) sa sc) rfl (HC.out U _ hU).2.2) ?_
   refine lexS 9 rfl hI ?_
   refine lexS 10 rfl hI ?_
   refine lexS 11 rfl hI ?_
   refine lexT 12 rfl hI (fun W hW => run_cell_one 3 _ rfl Tryz.isAgg3 gc 0 rfl _ (HC.out W _ hW).2.1) ?_
   clear hI
   refine lex_each [8, 18] (by decide +kernel) (by decide) ?_; intro i hi K hK; simp only [List.mem_cons, List.not_mem_nil, or_false] at hi; rcases hi with rfl | rfl <;> refine ⟨_, rfl, (by first | exact wanted_none rfl | exact wanted_some rfl rfl), ?_⟩
   ·refine wp_load_agg st 110 _ rfl g11 0 rfl Tryz.isAgg110 _ Tryz.sizeOf110 1 _ _ rfl _ rfl rfl ?_
    refine hK _ _ (st.take 1) ?_; clear hK; simp only [kP, kA, kS, kZ]
    refine lex_each [13, 18] (by decide +kernel) (by decide) ?_; intro i hi K hK; simp only [List.mem_cons, List.not_mem_nil, or_false] at hi; rcases hi with rfl | rfl <;> refine ⟨_, rfl, (by first | exact wanted_none rfl | exact wanted_some rfl rfl), ?_⟩
    ·refine wp_callee (f := 64) (by first | (go_simp; done) | (go_simp; rfl)) ?_
     have hzc := st.size
     have h9c := st.ltAt (i := 0) rfl
     have h11c := st.ltAt (i := 1) rfl
     try have h12c := st.ltAt (i := 2) rfl
     have hS0 : SentR (fun b => (ok b ∨ W.heap.size ≤ b) ∧ b ∉ [g9, g11]) _ sa sc (C.line n v).sent := HSV.out.move st.size (fun b hb ho => ⟨⟨ho, fun hm => by simp at hm; omega⟩, st.frame b hb (by simp)⟩)
     have hF0 : FrameR (fun b => (ok b ∨ W.heap.size ≤ b) ∧ b ∉ [g9, g11]) _ (mailF n v t m (showL (C.cert n) m)) la lc ga gc' a4 k4 := ⟨HRV.out.move st.size (fun b hb ho => ⟨⟨.inr ho, fun hm => by simp at hm; omega⟩, st.frame b hb (by simp)⟩), hO4.move (Nat.le_refl _) (fun b hb ho => ⟨⟨.inr (by omega), fun hm => by simp at hm ho; omega⟩, rfl⟩) fun _ _ r => r⟩
     refine (HL.out _ _ (fun b hb => ⟨.inr (by omega), fun hm => by simp at hm; omega⟩) a4 k4 hS0 hF0).mono ?_
     rintro e v5 ⟨sa2, sc2, la2, lc2, ga2, gc2, ca2, cc2, rfl, hb5, hS5, hF5⟩
     refine ⟨_, rfl, ?_⟩
     replace st := st.call hb5
     clear hS0 hF0
     refine hK _ _ (st.take 1) ?_; clear hK; simp only [kP, kA, kS, kZ]
     have hI := st.take 1
     refine lexS 14 rfl hI ?_
     refine lexS 15 rfl hI ?_
     refine lexS 16 rfl hI ?_
     refine lexS 17 rfl hI ?_
     clear hI
     refine lexO 18 rfl fun K hK => ?_
     have hzA := st.size
     have stB := st
     replace st := st.rebase
     simp only [List.map_cons, List.map_nil] at st
     refine wp_alloc st 80 rfl _ Tryz.zeroValue80 _ rfl ?_; clear st; intro g12 w12 hg12 st hg12b; simp [Act.eval, Act.put, Value.cells, putL] at st
     replace st := St.back stB st
     refine hK _ _ (st.take 1) ?_; clear hK; simp only [kP, kA, kS, kZ]
     replace hS5 := hS5.move (ok' := fun b => (ok b ∨ W.heap.size ≤ b) ∧ b ∉ [g9, g11, g12]) hg12b.size (fun b hb ho => ⟨⟨ho.1, fun hm => by simp at hm ho; omega⟩, hg12b.block b hb⟩)
     replace hF5 := hF5.move (ok' := fun b => (ok b ∨ W.heap.size ≤ b) ∧ b ∉ [g9, g11, g12]) hg12b.size (fun b hb ho => ⟨⟨ho.1, fun hm => by simp at hm ho; omega⟩, hg12b.block b hb⟩)
     refine lexO 19 rfl fun K hK => ?_
     refine wp_store' st 80 _ _ rfl _ Tryz.sizeOf80 ⟨2, _, _, _, _, _, rfl, rfl, rfl, rfl, rfl, rfl, ?_⟩; clear st; intro w19 st hw19m hw19z; simp [Act.eval, Act.put, Value.cells, putL] at st
     replace hS5 := hS5.move (by omega) (fun b hb ho => ⟨ho, hw19m b (by have := ho.2; simp at this; omega)⟩)
     replace hF5 := hF5.move (by omega) (fun b hb ho => ⟨ho, hw19m b (by have := ho.2; simp at this; omega)⟩)
     refine hK _ _ (st.take 1) ?_; clear hK; simp only [kP, kA, kS, kZ]
     refine lexO 20 rfl fun K hK => ?_
     refine wp_store' st 110 _ _ rfl _ Tryz.sizeOf110 ⟨1, _, _, _, _, _, rfl, rfl, rfl, rfl, rfl, rfl, ?_⟩; clear st; intro w20 st hw20m hw20z; simp [Act.eval, Act.put, Value.cells, putL] at st
     replace hS5 := hS5.move (by omega) (fun b hb ho => ⟨ho, hw20m b (by have := ho.2; simp at this; omega)⟩)
     replace hF5 := hF5.move (by omega) (fun b hb ho => ⟨ho, hw20m b (by have := ho.2; simp at this; omega)⟩)
     have hI := st.take 1
     refine hK _ _ (hI) ?_; clear hK; simp only [kP, kA, kS, kZ]
     refine lexS 21 rfl hI ?_
     clear hI
     refine lex_done (by decide +kernel) ?_
     go_wp2_with fail
     go_meet
     exact ⟨g12, sa2, sc2, la2, lc2, ga2, gc2, ca2, cc2, rfl, rfl, st, hS5, hF5⟩
    ·have hzA := st.size
     have stB := st
     replace st := st.rebase
     simp only [List.map_cons, List.map_nil] at st
     refine wp_alloc st 80 rfl _ Tryz.zeroValue80 _ rfl ?_; clear st; intro g12 w12 hg12 st hg12b; simp [Act.eval, Act.put, Value.cells, putL] at st
     replace st := St.back stB st
     refine hK _ _ (st.take 1) ?_; clear hK; simp only [kP, kA, kS, kZ]
     replace hO4 := hO4.below hg12b
     refine lexO 13 rfl fun K hK => ?_
     refine wp_callee (f := 64) (by first | (go_simp; done) | (go_simp; rfl)) ?_
     have hzc := st.size
     have h9c := st.ltAt (i := 0) rfl
     have h11c := st.ltAt (i := 1) rfl
     try have h12c := st.ltAt (i := 2) rfl
     have hS0 : SentR (fun b => (ok b ∨ W.heap.size ≤ b) ∧ b ∉ [g9, g11, g12]) _ sa sc (C.line n v).sent := HSV.out.move st.size (fun b hb ho => ⟨⟨ho, fun hm => by simp at hm; omega⟩, st.frame b hb (by simp)⟩)
     have hF0 : FrameR (fun b => (ok b ∨ W.heap.size ≤ b) ∧ b ∉ [g9, g11, g12]) _ (mailF n v t m (showL (C.cert n) m)) la lc ga gc' a4 k4 := ⟨HRV.out.move st.size (fun b hb ho => ⟨⟨.inr ho, fun hm => by simp at hm; omega⟩, st.frame b hb (by simp)⟩), hO4.move (Nat.le_refl _) (fun b hb ho => ⟨⟨.inr (by omega), fun hm => by simp at hm ho; omega⟩, rfl⟩) fun _ _ r => r⟩
     refine (HL.out _ _ (fun b hb => ⟨.inr (by omega), fun hm => by simp at hm; omega⟩) a4 k4 hS0 hF0).mono ?_
     rintro e v5 ⟨sa2, sc2, la2, lc2, ga2, gc2, ca2, cc2, rfl, hb5, hS5, hF5⟩
     refine ⟨_, rfl, ?_⟩
     replace st := st.call hb5
     clear hS0 hF0
     refine hK _ _ (st.take 1) ?_; clear hK; simp only [kP, kA, kS, kZ]
     have hI := st.take 1
     refine lexS 14 rfl hI ?_
     refine lexS 15 rfl hI ?_
     refine lexS 16 rfl hI ?_
     refine lexS 17 rfl hI ?_
     clear hI
     refine lexO 19 rfl fun K hK => ?_
     refine wp_store' st 80 _ _ rfl _ Tryz.sizeOf80 ⟨2, _, _, _, _, _, rfl, rfl, rfl, rfl, rfl, rfl, ?_⟩; clear st; intro w19 st hw19m hw19z; simp [Act.eval, Act.put, Value.cells, putL] at st
     replace hS5 := hS5.move (by omega) (fun b hb ho => ⟨ho, hw19m b (by have := ho.2; simp at this; omega)⟩)
     replace hF5 := hF5.move (by omega) (fun b hb ho => ⟨ho, hw19m b (by have := ho.2; simp at this; omega)⟩)
     refine hK _ _ (st.take 1) ?_; clear hK; simp only [kP, kA, kS, kZ]
     refine lexO 20 rfl fun K hK => ?_
     refine wp_store' st 110 _ _ rfl _ Tryz.sizeOf110 ⟨1, _, _, _, _, _, rfl, rfl, rfl, rfl, rfl, rfl, ?_⟩; clear st; intro w20 st hw20m hw20z; simp [Act.eval, Act.put, Value.cells, putL] at st
     replace hS5 := hS5.move (by omega) (fun b hb ho => ⟨ho, hw20m b (by have := ho.2; simp at this; omega)⟩)
     replace hF5 := hF5.move (by omega) (fun b hb ho => ⟨ho, hw20m b (by have := ho.2; simp at this; omega)⟩)
     have hI := st.take 1
     refine hK _ _ (hI) ?_; clear hK; simp only [kP, kA, kS, kZ]
     refine lexS 21 rfl hI ?_
     clear hI
     refine lex_done (by decide +kernel) ?_
     go_wp2_with fail
     go_meet
     exact ⟨g12, sa2, sc2, la2, lc2, ga2, gc2, ca2, cc2, rfl, rfl, st, hS5, hF5⟩
   ·have hzA := st.size
    have stB := st
    replace st := st.rebase
    simp only [List.map_cons, List.map_nil] at st
    refine wp_alloc st 80 rfl _ Tryz.zeroValue80 _ rfl ?_; clear st; intro g12 w12 hg12 st hg12b; simp [Act.eval, Act.put, Value.cells, putL] at st
    replace st := St.back stB st
    refine hK _ _ (st.take 1) ?_; clear hK; simp only [kP, kA, kS, kZ]
    replace hO4 := hO4.below hg12b
    refine lexO 8 rfl fun K hK => ?_
    refine wp_load_agg st 110 _ rfl g11 0 rfl Tryz.isAgg110 _ Tryz.sizeOf110 1 _ _ rfl _ rfl rfl ?_
    refine hK _ _ (st.take 1) ?_; clear hK; simp only [kP, kA, kS, kZ]
    refine lexO 13 rfl fun K hK => ?_
    refine wp_callee (f := 64) (by first | (go_simp; done) | (go_simp; rfl)) ?_
    have hzc := st.size
    have h9c := st.ltAt (i := 0) rfl
    have h11c := st.ltAt (i := 1) rfl
    try have h12c := st.ltAt (i := 2) rfl
    have hS0 : SentR (fun b => (ok b ∨ W.heap.size ≤ b) ∧ b ∉ [g9, g11, g12]) _ sa sc (C.line n v).sent := HSV.out.move st.size (fun b hb ho => ⟨⟨ho, fun hm => by simp at hm; omega⟩, st.frame b hb (by simp)⟩)
    have hF0 : FrameR (fun b => (ok b ∨ W.heap.size ≤ b) ∧ b ∉ [g9, g11, g12]) _ (mailF n v t m (showL (C.cert n) m)) la lc ga gc' a4 k4 := ⟨HRV.out.move st.size (fun b hb ho => ⟨⟨.inr ho, fun hm => by simp at hm; omega⟩, st.frame b hb (by simp)⟩), hO4.move (Nat.le_refl _) (fun b hb ho => ⟨⟨.inr (by omega), fun hm => by simp at hm ho; omega⟩, rfl⟩) fun _ _ r => r⟩
    refine (HL.out _ _ (fun b hb => ⟨.inr (by omega), fun hm => by simp at hm; omega⟩) a4 k4 hS0 hF0).mono ?_
    rintro e v5 ⟨sa2, sc2, la2, lc2, ga2, gc2, ca2, cc2, rfl, hb5, hS5, hF5⟩
    refine ⟨_, rfl, ?_⟩
    replace st := st.call hb5
    clear hS0 hF0
    refine hK _ _ (st.take 1) ?_; clear hK; simp only [kP, kA, kS, kZ]
    have hI := st.take 1
    refine lexS 14 rfl hI ?_
    refine lexS 15 rfl hI ?_
    refine lexS 16 rfl hI ?_
    refine lexS 17 rfl hI ?_
    clear hI
    refine lexO 19 rfl fun K hK => ?_
    refine wp_store' st 80 _ _ rfl _ Tryz.sizeOf80 ⟨2, _, _, _, _, _, rfl, rfl, rfl, rfl, rfl, rfl, ?_⟩; clear st; intro w19 st hw19m hw19z; simp [Act.eval, Act.put, Value.cells, putL] at st
    replace hS5 := hS5.move (by omega) (fun b hb ho => ⟨ho, hw19m b (by have := ho.2; simp at this; omega)⟩)
    replace hF5 := hF5.move (by omega) (fun b hb ho => ⟨ho, hw19m b (by have := ho.2; simp at this; omega)⟩)
    refine hK _ _ (st.take 1) ?_; clear hK; simp only [kP, kA, kS, kZ]
    refine lexO 20 rfl fun K hK => ?_
    refine wp_store' st 110 _ _ rfl _ Tryz.sizeOf110 ⟨1, _, _, _, _, _, rfl, rfl, rfl, rfl, rfl, rfl, ?_⟩; clear st; intro w20 st hw20m hw20z; simp [Act.eval, Act.put, Value.cells, putL] at st
    replace hS5 := hS5.move (by omega) (fun b hb ho => ⟨ho, hw20m b (by have := ho.2; simp at this; omega)⟩)
    replace hF5 := hF5.move (by omega) (fun b hb ho => ⟨ho, hw20m b (by have := ho.2; simp at this; omega)⟩)
    have hI := st.take 1
    refine hK _ _ (hI) ?_; clear hK; simp only [kP, kA, kS, kZ]
    refine lexS 21 rfl hI ?_
    clear hI
    refine lex_done (by decide +kernel) ?_
    go_wp2_with fail
    go_meet
    exact ⟨g12, sa2, sc2, la2, lc2, ga2, gc2, ca2, cc2, rfl, rfl, st, hS5, hF5⟩
  case rest =>
   clear st hO4
   obtain ⟨g12, sa2, sc2, la2, lc2, ga2, gc2, ca2, cc2, rfl, rfl, st, hS5, hF5⟩ := hcut
   have hg12 : V.heap.size ≤ g12 := by have := st.mine _ (mgE (i := 2) rfl); simpa using this
   by_cases hk : r.k = 0
   case neg =>
    have dk : (r.k != 0) = true := by simpa using hk
    have HK := qh hk
    clear hk hS5 hF5
    go_wp2_with (first | go_skip | fail)
    go_ret
    exact ⟨rfl, fun _ => P.below (HW.out.keep st.below), fun h => absurd h HK.out⟩
   have dk : (r.k != 0) = false := by simpa using hk
   have HK := qh hk
   have hrf := hrf hk
   have hok := hok hk
   clear hk
   go_upto_region 10 with (first | go_skip | fail)
   replace st := st.drew
   have hS5 := hS5.below (Below.refl _ _).drew
   have hF5 := hF5.below (Below.refl _ _).drew
   have hgb := hA.blkB (HW.out.keep st.below)
   have stc := (st.widen HW.out).holding hgb (by intro x hx; simp only [List.mem_cons, List.not_mem_nil, or_false] at hx; rcases hx with rfl | rfl | rfl <;> (simp only; omega))
   simp only [List.cons_append, List.nil_append] at stc
   have hlen := hA.cells.len
   have hI := stc.take 3
   refine lex_region (by kernel_rfl) 9 rfl (fun U => St [gc] W U [(g9, 42, [.int .i64 m.host, .int .i64 m.thread, .slice la m.label.length lc, .slice ga m.grants.length gc', .string m.text]), (g11, 110, frameC r.f la2 lc2 ga2 gc2 ca2 cc2), (g12, 80, [.int .i64 r.next, .slice sa2 r.sent.length sc2, .int .i64 (C.line n v).high, .bool (C.line n v).seen.s0, .bool (C.line n v).seen.s1, .bool (C.line n v).seen.s2, .bool (C.line n v).seen.s3, .bool (C.line n v).seen.s4, .bool (C.line n v).seen.s5, .bool (C.line n v).seen.s6, .bool (C.line n v).seen.s7])]) ?_
   refine lexS 0 rfl hI ?_
   refine lexS 1 rfl hI ?_
   refine lexS 2 rfl hI ?_
   refine lexT 3 rfl hI (fun W hW => St.run_load_agg hW 2 80 _ rfl Tryz.isAgg80 _ Tryz.sizeOf80 rfl rfl rfl rfl) ?_
   refine lexS 4 rfl hI ?_
   refine lexS 5 rfl hI ?_
   refine lexT (v := .pointer (some ⟨gc, 9 + n * 44, none⟩)) 6 rfl hI (fun W hW => by (first | (go_simp; done) | (go_simp; omega) | (go_simp; intro h; omega))) ?_
   refine lexT (v := .pointer (some ⟨gc, 9 + n * 44 + v * 11, none⟩)) 7 rfl hI (fun W hW => by (first | (go_simp; done) | (go_simp; omega) | (go_simp; intro h; omega))) ?_
   clear hI
   refine lexO 8 rfl fun K hK => ?_
   refine wp_store stc 80 _ _ rfl gc (9 + n * 44 + v * 11) rfl _ rfl (lineC { C.line n v with next := r.next, sent := r.sent } sa2 sc2) rfl Tryz.sizeOf80 (by simp [lineC, Value.oneCell']) 3 _ _ rfl (by simp only [lineC, List.length_cons, List.length_nil]; omega) ?_
   intro U stu hm8 hz8
   refine hK _ _ (stu.take 3) ?_; clear hK; simp only [kP, kA, kS, kZ]
   refine lex_done (by decide +kernel) ?_
   have hS6 : SentR (okB ok W gc na BB) U sa2 sc2 r.sent := hS5.move (by omega) (fun b hb ho => by
    have hnb : b ∉ cluB gc na BB := fun hm => by
     rcases ho.1 with h1 | h1
     ·exact hA.apart b hm h1
     ·have := hA.lt b hm; omega
    exact ⟨⟨ho.1, hnb⟩, hm8 b fun e => hnb (mem_cluB.2 (.inl e))⟩)
   have hF6 : FrameR (okB ok W gc na BB) U r.f la2 lc2 ga2 gc2 ca2 cc2 := hF5.move (by omega) (fun b hb ho => by
    have hnb : b ∉ cluB gc na BB := fun hm => by
     rcases ho.1 with h1 | h1
     ·exact hA.apart b hm h1
     ·have := hA.lt b hm; omega
    exact ⟨⟨ho.1, hnb⟩, hm8 b fun e => hnb (mem_cluB.2 (.inl e))⟩)
   have P3 := hTo U _ hok (hA.lineIn hn hv stu (mgE (i := 3) rfl) hS6)
   have HPU := qh (cluster_push P3 r.f _ la2 lc2 ga2 gc2 ca2 cc2 hrf hF6)
   have st6 := stu.take 3
   unfold frameC at st6
   unfold frameV at HPU
   clear stc stu st hA hTo hS5 hF5 hS6 hF6 hgb P P3
   have st := st6
   clear st6
   go_wp2_with (first
    | go_skip | (with_reducible refine mXA st Tryz.isAgg110 Tryz.sizeOf110 ?_)
    | (go_at_call 54; go_must (refine HPU.out.mono ?_; rintro e w30 ⟨⟨u, rfl⟩, P4⟩)))
   go_ret
   exact ⟨by rw [HK.out]; rfl, fun h => absurd HK.out h, fun _ => P4⟩
end
section
variable {w0 Wd W : World} {M0 : List Nat} {own : Blks} {X D : Nat → Prop} {gc : Nat} {kg : List Nat} {C : Clu}
theorem cluster_send (P : Clus w0 M0 own X Wd D gc kg C W) {V : World} (hbV : Below W.heap.size W V) (n : Nat) (hn : n < 4) (v t : Int) (hv : four v = true) (ht : four t = true) (m : Mail) (la : Option Addr) (lc : Nat) (ga : Option Addr) (gc' : Nat) (hR : MailR (fun b => W.heap.size ≤ b) V m la lc ga gc')
  (hm : goodMailC m = 0) (hmh : m.host = n) :
  Calls Tryz.prog 48 #[.pointer (some ⟨gc, 0, none⟩), .int .i64 n, .int .i64 v, .int .i64 t, mailV m la lc ga gc'] V fun e W' => e = .returned (.int .i64 (sendC C n v t m).2) ∧ Clus w0 M0 own X Wd D gc kg (sendC C n v t m).1 W' := by
 obtain ⟨g1, g2, g3⟩ := goodM_len hm
 have hok := sendC_ok P.okC hn hv ht hm hmh
 obtain ⟨k, ek, e2, hk, hkh⟩ := P.okC.kerAt hn
 by_cases hnv : (n : Int) = v
 ·subst hnv
  have e : sendC C n n t m = (C.setKer n (deliverK (C.ker n) t m), 0) := by unfold sendC; rw [if_pos rfl]
  rw [e] at hok ⊢
  exact cluster_send_self (P.below hbV) _ n t m la lc ga gc' ((four_iff _).2 ⟨by omega, by omega⟩) (by omega) (by omega) hR hok (by rw [e2]; exact hk.thr)
 obtain ⟨v, rfl, hv4⟩ := four_nat hv
 cases hmay : mayB (C.cert n) v m C.now with
 | false =>
  have e : sendC C n v t m = (C, 8) := by unfold sendC; rw [if_neg hnv, if_pos hmay]
  rw [e]
  exact cluster_send_not (P.below hbV) _ n v t m la lc ga gc' ((four_iff _).2 ⟨by omega, by omega⟩) hnv (by omega) (by omega) hR hmay
 | true =>
  obtain ⟨L, eL, e3, hL, hs⟩ := P.okC.lineAt hn hv4
  obtain ⟨l, el, e4, hl⟩ := P.okC.certAt hn
  obtain ⟨r, hr⟩ : ∃ r, sendX (lineOk (C.line n v)) (C.line n v).next (C.line n v).sent (mailF n v t m (showL (C.cert n) m)) C.now = r := ⟨_, rfl⟩
  have es : sentLn (C.line n v) (mailF n v t m (showL (C.cert n) m)) C.now = ({ C.line n v with next := r.next, sent := r.sent }, r.f, r.k) := by unfold sentLn; rw [hr]
  have e : sendC C n v t m = if r.k ≠ 0 then (C, r.k) else (pushC (C.setLine n v { C.line n v with next := r.next, sent := r.sent }) r.f, 0) := by
   unfold sendC
   rw [if_neg hnv, if_neg (by rw [hmay]; simp), es]
  obtain ⟨a1, a2, a3⟩ := sentLn_ok (f := mailF n v t m (showL (C.cert n) m)) (L := C.line n v) (now := C.now) (by rw [e3]; exact hL) P.okC.now.1 P.okC.now.2
  rw [es] at a1 a2 a3
  simp only at a1 a2 a3
  have hnx := ((lineOk_iff L).1 hL).1.1
  have hg := showL_good (l := C.cert n) (by rw [e4]; exact hl) m
  have hgood : r.k = 0 → goodFrameC r.f = 0 := fun h0 => by
   obtain ⟨b1, b2⟩ := a3 h0
   rw [b1]
   refine mailF_good ((four_iff _).2 ⟨by omega, by omega⟩) hv hnv ht ⟨?_, ?_⟩ hm hmh hg.1 hg.2
   ·rw [e3]; omega
   ·omega
  refine (cluster_send_yes P hbV n v hn hv4 (by omega) t m la lc ga gc' hR hmay ⟨g1, g2, g3⟩ r hr (fun h0 => good_fitsW (hgood h0)) fun h0 => P.okC.setLine a1 fun s hs' => ?_).mono ?_
  ·rcases a2 s hs' with h1 | ⟨h1, _⟩
   ·rw [e3] at h1; exact hs s h1
   ·rw [h1]; exact hgood h0
  ·rintro x W' ⟨rfl, h1, h2⟩
   by_cases h0 : r.k = 0
   ·rw [e, if_neg (by simp [h0])]
    exact ⟨by rw [h0], h2 h0⟩
   ·rw [e, if_pos h0]
    exact ⟨rfl, h1 h0⟩
end
section
variable {w0 Wd W : World} {M0 : List Nat} {own : Blks} {X D : Nat → Prop} {gc : Nat} {kg : List Nat} {C : Clu}
theorem Clus.enterV (h : Clus w0 M0 own X Wd D gc kg C W) {V : World} (hb : Below W.heap.size W V) : ∃ B0 Y, Clus V B0 [] Y V (fun b => b ∉ B0) gc kg C V ∧ gc ∈ B0 ∧ (∀ b ∈ B0, b < W.heap.size) ∧
  ∀ (C' : Clu) (U : World) (own' : Blks), Clus V B0 own' Y V (fun b => b ∉ B0) gc kg C' U → Clus w0 M0 own X Wd D gc kg C' U := by
 have hlt : ∃ B1 : List Nat, True := ⟨[], trivial⟩
 obtain ⟨st, hok, hD, hDo, hX, ok, BB, na, nc, L, hA, hB, hO⟩ := h
 have hA' : CluAt ok V gc C kg BB na nc L := hA.move hb.size (fun b hb' ho => ⟨ho, hb.block b hb'⟩) fun b hb' => ⟨hb.block b (hA.lt b hb'), hA.apart b hb'⟩
 have stV := st.call hb
 refine ⟨cluB gc na BB, fun b => X b ∨ ∃ x ∈ own, x.1 = b, ⟨⟨rfl, rfl, rfl, Nat.le_refl _, fun _ _ _ => rfl, by simp, by simp, List.Pairwise.nil⟩, hok, ⟨Nat.le_refl _, fun _ _ _ => rfl⟩, by simp, fun b hb' => ?_, ok, BB, na, nc, L, hA', fun b hb' => ⟨.inl hb', by simp, fun hh => hh.1 hb'⟩, fun b hb' => ⟨Nat.lt_of_lt_of_le (hO b hb').1 hb.size, by simp, fun hh => ?_⟩⟩, mem_cluB.2 (.inl rfl), fun b hb' => hA.lt b hb', fun C' U own' hP => ?_⟩
 ·rcases hb' with hb' | ⟨x, hx, rfl⟩
  ·have := hX b hb'; have := stV.size; omega
  ·exact stV.lt hx
 ·rcases hh with hh | ⟨x, hx, e⟩
  ·exact (hO b hb').2.2 hh
  ·exact (hO b hb').2.1 x hx e
 obtain ⟨st', hok', hD', hDo', hX', ok', BB', na', nc', L', hA2, hB', hO'⟩ := hP
 have stE : St (cluB gc na BB) V U [] := st'.sub (own' := []) (by simp) List.Pairwise.nil
 refine ⟨stV.callK stE (fun x hx hm => (hB _ hm).2.1 x hx rfl) fun b hb' => (hB b hb').1, hok', ⟨Nat.le_trans hD.size (Nat.le_trans hb.size hD'.size), fun b hb' hd => ?_⟩, hDo, hX, ok', BB', na', nc', L', hA2, fun b hb' => ?_, fun b hb' => ⟨(hO' b hb').1, fun x hx e => (hO' b hb').2.2 (.inr ⟨x, hx, e⟩), fun hx => (hO' b hb').2.2 (.inl hx)⟩⟩
 ·have hbW : b < W.heap.size := Nat.lt_of_lt_of_le hb' hD.size
  exact (hD'.block b (Nat.lt_of_lt_of_le hbW hb.size) fun hm => (hB b hm).2.2 ⟨hd, hb'⟩).trans ((hb.block b hbW).trans (hD.block b hb' hd))
 ·rcases (hB' b hb').1 with h1 | h1
  ·exact hB b h1
  ·refine ⟨.inr (Nat.le_trans stV.size h1), fun x hx e => ?_, fun hd => ?_⟩
   ·have := stV.lt hx; omega
   ·have := hD.size; have := hb.size; omega
theorem cluster_come_bad (P : Clus w0 M0 own X Wd D gc kg C W) (s : List UInt8) (hl : s.length ≤ 9223372036854775807) (hd : (decR s).2 ≠ 0) :
  Calls Tryz.prog 36 #[.pointer (some ⟨gc, 0, none⟩), .string ⟨s.toArray⟩] W fun e W' => (∃ u, e = .returned u) ∧ Clus w0 M0 own X Wd D gc kg C W' := by
 have HD := qh (wire_Decode W s hl)
 unfold DecPost frameV at HD
 have hqb : ((decR s).2 != 0) = true := by simpa using hd
 generalize decR s = r at *
 obtain ⟨f, q⟩ := r
 simp only at HD hqb
 clear hd
 have st := St.start W
 go_enter Tryz.func36, Tryz.ntmps36
 go_wp2_with (first
  | go_skip
  | (go_at_call 51; go_must (refine HD.out.mono ?_; rintro e v1 ⟨la, lc, ga, gx, ca, cc, rfl, hF, hb1⟩; replace st := st.call hb1)) | (with_reducible refine mA st Tryz.zeroValue110 ?_; clear st; intro g4 w4 hg4 st) | (with_reducible refine mS 0 st Tryz.sizeOf110 ?_; clear st; intro w5 st hw5m hw5z))
 (try simp only [Exit.inBlock, Exit.then]); refine bodyPost_ret (results_none rfl _ _ _) rfl ?_
 exact ⟨⟨_, rfl⟩, P.below st.below⟩
theorem cluster_come_ack (P : Clus w0 M0 own X Wd D gc kg C W) (s : List UInt8) (hl : s.length ≤ 9223372036854775807) (n v : Nat) (hn : n < 4) (hv : v < 4) (seq thread : Int) (mail : Mail) (certs : List Cert) (hd : decR s = (⟨n, v, seq, true, thread, mail, certs⟩, 0))
  (hok : (C.setLine v n (answLn (C.line v n) seq)).ok) :
  Calls Tryz.prog 36 #[.pointer (some ⟨gc, 0, none⟩), .string ⟨s.toArray⟩] W fun e W' => (∃ u, e = .returned u) ∧ Clus w0 M0 own X Wd D gc kg (C.setLine v n (answLn (C.line v n) seq)) W' := by
 have HD := qh (wire_Decode W s hl)
 unfold DecPost frameV at HD
 rw [hd] at HD
 simp only at HD
 clear hd hl
 obtain ⟨r, hr⟩ : ∃ r, answX (lineOk (C.line v n)) (C.line v n).sent seq = r := ⟨_, rfl⟩
 have es : answLn (C.line v n) seq = { C.line v n with sent := r.2 } := by unfold answLn; rw [hr]
 have hsl : (C.line v n).sent.length ≤ 8 := by
  obtain ⟨l, el, e1, hl, hs⟩ := P.okC.lineAt hv hn
  rw [e1]
  exact ((lineOk_iff l).1 hl).1.2.2.2.2
 rw [es] at hok ⊢
 clear es
 have st := St.start W
 go_enter Tryz.func36, Tryz.ntmps36
 go_upto_region 3 with (first
  | go_skip
  | (go_at_call 51; go_must (refine HD.out.mono ?_; rintro e v1 ⟨la, lc, ga, gx, ca, cc, rfl, hF, hb1⟩; replace st := st.call hb1; clear hb1)) | (with_reducible refine mA st Tryz.zeroValue110 ?_; clear st; intro g4 w4 hg4 st) | (with_reducible refine mS 0 st Tryz.sizeOf110 ?_; clear st; intro w5 st hw5m hw5z) | (with_reducible refine mX st Tryz.isAgg4 ?_))
 clear hw5m hw5z hF HD
 obtain ⟨B0, Y, Q, hgc, hB0, back⟩ := P.enterV st.below
 have hg4 : W.heap.size ≤ g4 := by have := st.mine _ (mgE (i := 0) rfl); simpa using this
 have hg4c : g4 ≠ gc := by have := hB0 gc hgc; omega
 have hg4l := st.ltAt (i := 0) rfl
 obtain ⟨ok, BB, na, nc, L, hA, -, -, hTo⟩ := Q.open
 obtain ⟨sa, sc, hs, hlc⟩ := hA.lineB hv hn
 have HF := qh (show ∀ (U : World) (bl : Blks), St [gc] w5 U bl → ∀ (j : Nat) (x : Value), [Value.int .i64 n, .int .i64 v, .int .i64 seq][j]? = some x → U.cell? ⟨g4, j, none⟩ = some x from fun U bl hU j x hx => by
  rw [World.cell?_of_block (w := w5) (a := ⟨g4, j, none⟩) (hU.frame g4 hg4l (by simp; omega)), st.cell (i := 0) rfl j]
  match j, hx with
  | 0, hx => exact hx
  | 1, hx => exact hx
  | 2, hx => exact hx
  | j + 3, hx => simp at hx)
 have HAn := qh (fun (U : World) (okS : Nat → Prop) (h1 : ∀ b, U.heap.size ≤ b → okS b) (h2 : SentR okS U sa sc (C.line v n).sent) => line_Answered okS U h1 (C.line v n).next (C.line v n).high sa sc (C.line v n).sent (C.line v n).seen seq h2 (by omega) _ rfl r hr)
 have HSV := qh hs
 have HLC := qh hlc
 clear hs hlc hr hsl st P Q
 unfold lineV at HAn
 have hlen := hA.cells.len
 have stc := (St.hand hA.blk).drew
 have hI := stc.take 0
 refine lex_region (by kernel_rfl) 26 rfl (fun U => St [gc] w5 U []) ?_
 refine lexS 0 rfl hI ?_
 refine lexS 1 rfl hI ?_
 refine lexT 2 rfl hI (fun U hU => run_cell_one 3 _ rfl Tryz.isAgg3 g4 1 rfl _ (HF.out U _ hU 1 _ rfl)) ?_
 refine lexS 3 rfl hI ?_
 refine lexT 4 rfl hI (fun U hU => run_cell_one 3 _ rfl Tryz.isAgg3 g4 0 rfl _ (HF.out U _ hU 0 _ rfl)) ?_
 refine lexS 5 rfl hI ?_
 refine lexS 6 rfl hI ?_
 refine lexT 7 rfl hI (fun U hU => run_cell_one 3 _ rfl Tryz.isAgg3 g4 1 rfl _ (HF.out U _ hU 1 _ rfl)) ?_
 refine lexS 8 rfl hI ?_
 refine lexT 9 rfl hI (fun U hU => run_cell_one 3 _ rfl Tryz.isAgg3 g4 0 rfl _ (HF.out U _ hU 0 _ rfl)) ?_
 refine lexS 10 rfl hI ?_
 refine lexS 11 rfl hI ?_
 refine lexT (v := .pointer (some ⟨gc, 9 + v * 44, none⟩)) 12 rfl hI (fun W hW => by (first | (go_simp; done) | (go_simp; omega) | (go_simp; intro h; omega))) ?_
 refine lexT (v := .pointer (some ⟨gc, 9 + v * 44 + n * 11, none⟩)) 13 rfl hI (fun W hW => by (first | (go_simp; done) | (go_simp; omega) | (go_simp; intro h; omega))) ?_
 refine lexS 15 rfl hI ?_
 refine lexT 16 rfl hI (fun U hU => run_cell_one 3 _ rfl Tryz.isAgg3 g4 2 rfl _ (HF.out U _ hU 2 _ rfl)) ?_
 refine lexS 21 rfl hI ?_
 refine lexS 22 rfl hI ?_
 refine lexT (v := .pointer (some ⟨gc, 9 + v * 44, none⟩)) 23 rfl hI (fun W hW => by (first | (go_simp; done) | (go_simp; omega) | (go_simp; intro h; omega))) ?_
 clear hI
 refine lexO 14 rfl fun K hK => ?_
 refine wp_value (run_load_at 80 _ rfl Tryz.isAgg80 _ Tryz.sizeOf80 gc (9 + v * 44 + n * 11) rfl (lineC (C.line v n) sa sc) rfl (HLC.out _ (Below.refl _ _).drew)) ?_
 refine hK _ _ (stc.take 0) ?_; clear hK; simp only [kP, kA, kS, kZ]
 refine lexO 17 rfl fun K hK => ?_
 refine wp_callee (f := 52) (by first | (go_simp; done) | (go_simp; rfl)) ?_
 refine (HAn.out _ (fun b => ok b ∨ w5.heap.size ≤ b) (fun b hb => .inr (Nat.le_trans stc.size hb)) ((HSV.out.below (Below.refl _ _).drew).move (Nat.le_refl _) fun b _ ho => ⟨.inl ho, rfl⟩)).mono ?_
 rintro e v6 ⟨sa2, sc2, rfl, hb6, hS6⟩
 refine ⟨_, rfl, ?_⟩
 replace stc := stc.call hb6
 clear hb6
 have hI := stc.take 0
 refine hK _ _ (hI) ?_; clear hK; simp only [kP, kA, kS, kZ]
 refine lexS 18 rfl hI ?_
 refine lexS 19 rfl hI ?_
 refine lexS 20 rfl hI ?_
 refine lexT (v := .pointer (some ⟨gc, 9 + v * 44 + n * 11, none⟩)) 24 rfl hI (fun W hW => by (first | (go_simp; done) | (go_simp; omega) | (go_simp; intro h; omega))) ?_
 clear hI
 refine lexO 25 rfl fun K hK => ?_
 refine wp_store stc 80 _ _ rfl gc (9 + v * 44 + n * 11) rfl _ rfl (lineC { C.line v n with sent := r.2 } sa2 sc2) rfl Tryz.sizeOf80 (by simp [lineC, Value.oneCell']) 0 _ _ rfl (by simp only [lineC, List.length_cons, List.length_nil]; omega) ?_
 intro U stu hm8 hz8
 refine hK _ _ (stu.take 0) ?_; clear hK; simp only [kP, kA, kS, kZ]
 refine lex_done (by decide +kernel) ?_
 have hS7 : SentR (okB ok w5 gc na BB) U sa2 sc2 r.2 := hS6.move (by omega) (fun b hb ho => by
  have hnb : b ∉ cluB gc na BB := fun hm => by
   rcases ho with h1 | h1
   ·exact hA.apart b hm h1
   ·have := hA.lt b hm; omega
  exact ⟨⟨ho, hnb⟩, hm8 b fun e => hnb (mem_cluB.2 (.inl e))⟩)
 have P3 := back _ _ _ (hTo U _ hok (hA.lineIn hv hn stu (mgE (i := 0) rfl) hS7))
 clear stc stu hA hTo hS6 hS7 back
 go_wp2_with (first | go_skip | fail)
 (try simp only [Exit.inBlock, Exit.then]); refine bodyPost_ret (results_none rfl _ _ _) rfl ?_
 exact ⟨⟨_, rfl⟩, P3⟩
end
end Go.Proofs.YtnjjdpiofbajlaaGreat
