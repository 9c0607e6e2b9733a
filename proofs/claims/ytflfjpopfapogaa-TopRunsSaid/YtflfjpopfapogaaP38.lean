/- Walks and plain laws that the claim rests on, part 38. -/
import Derived.Test.YtflfjpopfapogaaP37
import Derived.Test.YtflfjpopfapogaaP24
import Derived.Test.YtflfjpopfapogaaP7
import Derived.Test.YtflfjpopfapogaaP33
import Derived.Test.YtflfjpopfapogaaP31
import Derived.Test.YtflfjpopfapogaaP35
set_option linter.unusedSimpArgs false
set_option linter.unusedVariables false
/- The walk through the cluster's push. -/
namespace Go.Proofs.Ytflfjpopfapogaa
open Go.RowKit
section
variable {w0 Wd W : World} {M0 : List Nat} {own : Blks} {X D : Nat → Prop} {gc : Nat} {kg : List Nat} {C : Clu}
set_option maxRecDepth 100000 in
set_option maxHeartbeats 2000000 in
theorem cluster_push (P : Clus w0 M0 own X Wd D gc kg C W) (f : Frame) (okf : Nat → Prop) (la : Option Addr) (lc : Nat) (ga : Option Addr) (gc' : Nat) (ca : Option Addr) (cc : Nat) (hf : f.FitsW) (hR : FrameR okf W f la lc ga gc' ca cc) :
  Calls Try.prog 43 #[.pointer (some ⟨gc, 0, none⟩), frameV f la lc ga gc' ca cc] W fun e W' => (∃ u, e = .returned u) ∧ Clus w0 M0 own X Wd D gc kg (pushC C f) W' := by
 have HE := Lib.hid (fun (V : World) (h : Below W.heap.size W V) => wire_Encode okf V f la lc ga gc' ca cc hf (hR.below h))
 have HP := Lib.hid (show pushC C f = if (encR f).2 = 0 ∧ C.net.length < 60 then { C with net := C.net ++ [(encR f).1] } else C from rfl)
 have hok := P.okC.push f
 have hn60 := P.okC.netN
 generalize encR f = r at HE HP
 obtain ⟨s, q⟩ := r
 have st := St.start W
 unfold frameV at *
 by_cases hq : q = 0
 case neg =>
  have HP2 := Lib.hid (show pushC C f = C by rw [HP.out, if_neg (fun h => hq h.1)])
  have d1 : (q == 0) = false := by simpa using hq
  clear hq HP
  go_enter Try.func43, Try.ntmps43
  go_wp2_with (first
   | go_skip | (with_reducible refine at_box 105 ?_; refine mem_box st (wanted_none rfl) 105 _ rfl _ rfl _ rfl ?_; clear st; intro g3 w3 hg3 st hg3b; clear hg3b; simp [Act.eval, Act.put, Value.cells, putL] at st) | (with_reducible refine at_load 105 ?_; refine memXA st 105 _ rfl Try.isAgg105 _ Try.sizeOf105 rfl ?_)
   | (go_at_call 70; go_must (refine (HE.out _ st.below).mono ?_; rintro e v1 ⟨rfl, hb1⟩; replace st := st.call hb1; clear hb1)))
  go_end0
  rw [HP2.out]
  exact ⟨⟨_, rfl⟩, P.below st.below⟩
 subst hq
 by_cases h60 : C.net.length < 60
 case neg =>
  have HP2 := Lib.hid (show pushC C f = C by rw [HP.out, if_neg (fun h => h60 h.2)])
  have d2 : decide ((C.net.length : Int) < 60) = false := by simp; omega
  clear HP
  go_enter Try.func43, Try.ntmps43
  go_upto_region 2 with (first
   | go_skip | (with_reducible refine at_box 105 ?_; refine mem_box st (wanted_none rfl) 105 _ rfl _ rfl _ rfl ?_; clear st; intro g3 w3 hg3 st hg3b; clear hg3b; simp [Act.eval, Act.put, Value.cells, putL] at st) | (with_reducible refine at_load 105 ?_; refine memXA st 105 _ rfl Try.isAgg105 _ Try.sizeOf105 rfl ?_)
   | (go_at_call 70; go_must (refine (HE.out _ st.below).mono ?_; rintro e v1 ⟨rfl, hb1⟩; replace st := st.call hb1; clear hb1)))
  have P2 := P.below st.below
  obtain ⟨ok, BB, na, nc, L, hA, -, -, -⟩ := P2.open
  have f0 := hA.cell hA.cells.net
  clear hA st
  go_wp2_with (first | go_skip | fail)
  go_end0
  rw [HP2.out]
  exact ⟨⟨_, rfl⟩, P2⟩
 have HP2 := Lib.hid (show pushC C f = { C with net := C.net ++ [s] } by rw [HP.out, if_pos ⟨rfl, h60⟩])
 rw [HP2.out] at hok
 have d2 : decide ((C.net.length : Int) < 60) = true := by simp; omega
 clear HP
 go_enter Try.func43, Try.ntmps43
 go_upto_region 2 with (first
  | go_skip | (with_reducible refine at_box 105 ?_; refine mem_box st (wanted_none rfl) 105 _ rfl _ rfl _ rfl ?_; clear st; intro g3 w3 hg3 st hg3b; clear hg3b; simp [Act.eval, Act.put, Value.cells, putL] at st) | (with_reducible refine at_load 105 ?_; refine memXA st 105 _ rfl Try.isAgg105 _ Try.sizeOf105 rfl ?_)
  | (go_at_call 70; go_must (refine (HE.out _ st.below).mono ?_; rintro e v1 ⟨rfl, hb1⟩; replace st := st.call hb1; clear hb1)))
 have P2 := P.below st.below
 clear st P
 obtain ⟨ok, BB, na, nc, L, hA, hn, -, hTo⟩ := P2.open
 have f0 := hA.cell hA.cells.net
 obtain ⟨i0, hi, hz0, hz1, hz2⟩ := info_parts info_string
 have hgw := hA.lt gc (mem_cluB.2 (.inl rfl))
 have hnal : ∀ b, na.map (·.block) = some b → b < v1.heap.size ∧ b ≠ gc := fun b e => ⟨hA.net.lt e, fun e2 => by
  have := hA.nodup
  unfold cluB at this
  subst e2
  exact (List.nodup_cons.1 this).1 (List.mem_append.2 (.inl (by simpa using e)))⟩
 have st := St.start v1
 go_wp2_with (first
  | go_skip | (with_reducible refine at_build1 70 ?_; refine wpList_build1 st (wanted_none rfl) 70 9 _ rfl Try.underlying70 1 Try.sizeOf9 (by decide) (by decide) _ Try.zeroValue9 _ rfl rfl ?_; have stw4 := st; clear st; intro g4 w4 hg4 hg4e st hw4b hw4z; simp [Act.eval, Act.put, Value.cells, putL] at st)
  | (at_builtin; go_must (refine wpList_wanted (wanted_none rfl) fun K' hK' => ?_; refine wp_rowApp _ _ 70 rfl i0 _ 16 Try.underlying70 hi hz0 hz1 hz2 rfl (by decide) (y := s) rfl rfl (hA.net.below (R' := RStr) hw4b fun _ _ r => r) rfl (SlR.ofBlk (ok := fun _ => True) (R := RStr) (sz := 1) (x := s) (st.blk _ (List.mem_of_getElem? (i := 0) rfl)) rfl rfl rfl trivial) (by omega) (by unfold maxLen; omega) ?_; intro g5 off5 c5 w5 hO5 hgr hat; refine hK' _ _ ?_; clear hK'; refine RowKit.Hid.out ?_)))
 refine Lib.hid ?_
 have hb5 : w5.heap[gc]? = some (.cells L.toArray 72 (0, 0)) := (hgr.block gc (by omega) fun e => (hnal gc e.symm).2 rfl).trans ((hw4b.block gc hgw).trans hA.blk)
 have st5 := St.hand hb5
 go_wp2_with (first
  | go_skip
  | ((with_reducible refine at_store 70 ?_); go_must (refine mem_store st5 (wanted_none rfl) 70 _ _ rfl gc 185 rfl (.slice (some ⟨g5, off5, none⟩) (C.net.length + 1) c5) rfl [.slice (some ⟨g5, off5, none⟩) (C.net.length + 1) c5] rfl Try.sizeOf70 (by simp [Value.oneCell']) 0 _ _ rfl (by have := hA.cells.len; show 185 + 1 ≤ L.length; omega) ?_; intro w6 st6 h6m h6z)))
 go_end0
 refine ⟨⟨_, rfl⟩, ?_⟩
 rw [HP2.out]
 have hs5 := hgr.size
 have hs4 := hw4b.size
 have hch : ∀ b, b < v1.heap.size → b ≠ gc → na.map (·.block) ≠ some b → w6.heap[b]? = v1.heap[b]? := fun b hb h1 h2 => (h6m b h1).trans ((hgr.block b (by omega) fun e => h2 e.symm).trans (hw4b.block b hb))
 have hall : ∀ b, ok b → b < v1.heap.size → b ∉ cluB gc (some ⟨g5, off5, none⟩) BB := fun b ho hb hm => by
  rcases mem_cluB.1 hm with h1 | h1 | h1
  ·exact hA.apart b (mem_cluB.2 (.inl h1)) ho
  ·obtain rfl : g5 = b := Option.some.inj h1
   rcases hat with hat | hat
   ·exact hA.apart _ (mem_cluB.2 (.inr (.inl hat))) ho
   ·omega
  ·exact hA.apart b (mem_cluB.2 (.inr (.inr h1))) ho
 have hcells : CluL (fun b => (ok b ∨ v1.heap.size ≤ b) ∧ b ∉ cluB gc (some ⟨g5, off5, none⟩) BB) w6 C kg na nc L := hA.cells.move (by omega) fun b hb ho => ⟨⟨.inl ho, hall b ho hb⟩, hch b hb (fun e => hA.apart b (mem_cluB.2 (.inl e)) ho) fun e => hA.apart b (mem_cluB.2 (.inr (.inl e))) ho⟩
 have hlen : (C.net ++ [s]).length = C.net.length + 1 := by simp
 have hL := hcells.setNet (C.net ++ [s]) (some ⟨g5, off5, none⟩) c5
 rw [hlen] at hL
 refine hTo w6 _ hok (hA.close (L' := putL L 185 [.slice (some ⟨g5, off5, none⟩) (C.net.length + 1) c5]) ⟨?_, ?_, ?_, ?_, fun b hb hm => hch b hb (fun e => hm (by simp [e])) fun e => hm (by simp [e]), by simp, by simp, by simp⟩ (st6.blk _ (List.mem_of_getElem? (i := 0) rfl)) hL rfl (hO5.kept (fun b e => h6m b ?_) fun _ _ r => r) fun b e => ?_)
 ·exact st6.os.trans (hgr.os.trans hw4b.os)
 ·exact st6.tape.trans (hgr.tape.trans hw4b.tape)
 ·exact st6.output.trans (hgr.output.trans hw4b.output)
 ·omega
 ·obtain rfl : g5 = b := Option.some.inj e
  rcases hat with hat | hat
  ·exact (hnal _ hat).2
  ·omega
 ·obtain rfl : g5 = b := Option.some.inj e
  exact hat.imp id fun h => by omega
end
open Go.RowKit
section
variable {w0 Wd W : World} {M0 : List Nat} {own : Blks} {X D : Nat → Prop} {gc : Nat} {kg : List Nat} {C : Clu}
theorem CluAt.kerOf {ok : Nat → Prop} {BB : List (List Nat)} {na : Option Addr} {nc : Nat} {L : List Value} (hA : CluAt ok W gc C kg BB na nc L) {n : Nat} (hn : n < 4) : ∃ g css Bs, C.kers[n]? = some (C.ker n) ∧ kg[n]? = some g ∧ BB[n]? = some (g :: Bs.flatten) ∧ KerAt ok W g (C.ker n) css Bs ∧ L[1 + n]? = some (.pointer (some ⟨g, 0, none⟩)) := by
 have h1 := hA.kerN; have h2 := hA.BBn; have h3 := hA.cells.kgN
 have ek : C.kers[n]? = some (C.ker n) := by unfold Clu.ker; simp only [Int.toNat_natCast]; rw [List.getD_eq_getElem?_getD, List.getElem?_eq_getElem (by omega)]; rfl
 obtain ⟨g, eg⟩ : ∃ g, kg[n]? = some g := ⟨_, List.getElem?_eq_getElem (by omega)⟩
 obtain ⟨B, eB⟩ : ∃ B, BB[n]? = some B := ⟨_, List.getElem?_eq_getElem (by omega)⟩
 obtain ⟨css, Bs, hK, rfl⟩ := hA.ker n _ g B ek eg eB
 exact ⟨g, css, Bs, ek, eg, eB, hK, hA.cells.ptr n g eg⟩
set_option maxRecDepth 100000 in
set_option maxHeartbeats 2000000 in
theorem cluster_send_self (P : Clus w0 M0 own X Wd D gc kg C W) (okf : Nat → Prop) (h t : Int) (m : Mail) (la : Option Addr) (lc : Nat) (ga : Option Addr) (gc' : Nat) (hh : four h = true) (hl : m.label.length * 16 ≤ 140737488351232) (hg : m.grants.length * 8 ≤ 140737488351232) (hR : MailR okf W m la lc ga gc')
  (hok' : (C.setKer h (deliverK (C.ker h) t m)).ok) (hks : ∀ x ∈ (C.ker h).threads, x.ok) :
  Calls Try.prog 37 #[.pointer (some ⟨gc, 0, none⟩), .int .i64 h, .int .i64 h, .int .i64 t, mailV m la lc ga gc'] W fun e W' => e = .returned (.int .i64 0) ∧ Clus w0 M0 own X Wd D gc kg (C.setKer h (deliverK (C.ker h) t m)) W' := by
 obtain ⟨n, rfl, hn⟩ := four_nat hh
 clear hh
 have HD := Lib.hid (fun (V : World) (g : Nat) (ok : Nat → Prop) css Bs (hb : Below W.heap.size W V) (hK : KerAt ok V g (C.ker n) css Bs) => kernel_Deliver ok okf V g (C.ker n) css Bs hK hks t m la lc ga gc' hl (by omega) (hR.below hb))
 have st := St.start W
 unfold mailV at *
 go_enter Try.func37, Try.ntmps37
 go_upto_region 2 with (first | go_skip | (with_reducible refine at_box 45 ?_; refine mem_box st (wanted_none rfl) 45 _ rfl _ rfl _ rfl ?_; clear st; intro g9 w9 hg9 st hg9b; clear hg9b; simp [Act.eval, Act.put, Value.cells, putL] at st))
 have st := st.drew
 have HBl := Lib.hid st.below
 have P2 := P.below st.below
 have hgW : gc < W.heap.size := by
  obtain ⟨_, _, _, _, _, hA, _⟩ := P.open
  exact hA.lt gc (mem_cluB.2 (.inl rfl))
 clear P
 obtain ⟨ok, BB, na, nc, L, hA, hno, -, hTo⟩ := P2.open
 obtain ⟨g, css, Bs, ek, eg, eB, hK0, f1⟩ := hA.kerOf hn
 have hg9 : W.heap.size ≤ g9 := by have := st.mine _ (List.mem_of_getElem? (i := 0) rfl); simpa using this
 have HC := Lib.hid (show ∀ (V : World) (bl : Blks), St [g9] w9.drew V bl → V.cell? ⟨gc, 1 + n, none⟩ = some (.pointer (some ⟨g, 0, none⟩)) from fun V bl s => by
  have hb : V.heap[gc]? = some (.cells L.toArray 72 (0, 0)) := (s.frame gc (hA.lt gc (mem_cluB.2 (.inl rfl))) (by simp; omega)).trans hA.blk
  rw [cell_of_row V gc _ L.toArray _ (0, 0) hb]
  simpa using f1)
 have HT := Lib.hid (fun V k' (hT : KerTo ok w9.drew g Bs V k') (h : (C.setKer n k').ok) => hTo V _ h (hA.kernel hn ek eg eB hK0 hT))
 have hI := st.rebase
 simp only [List.map_cons, List.map_nil] at hI
 clear f1
 refine lex_tail (by kernel_rfl) 8 1 [8] rfl (by decide +kernel) (fun V => St [g9] w9.drew V [(g9, 45, [.int .i64 m.host, .int .i64 m.thread, .slice la m.label.length lc, .slice ga m.grants.length gc', .string m.text])]) ?_
 refine lexS 0 rfl hI ?_; simp only [kP, kA, kS, kZ]
 refine lexS 1 rfl hI ?_; simp only [kP, kA, kS, kZ]
 refine lexS 2 rfl hI ?_; simp only [kP, kA, kS, kZ]
 refine lexS 3 rfl hI ?_; simp only [kP, kA, kS, kZ]
 refine lexT (v := .pointer (some ⟨gc, 1 + n, none⟩)) 4 rfl hI (fun W hW => by (first | (go_simp; done) | (go_simp; omega) | (go_simp; intro h; omega))) ?_; simp only [kP, kA, kS, kZ]
 refine lexT 5 rfl hI (fun W hW => run_cell_one 60 _ rfl Try.isAgg60 gc (1 + n) rfl _ (HC.out W _ hW)) ?_; simp only [kP, kA, kS, kZ]
 refine lexS 6 rfl hI ?_; simp only [kP, kA, kS, kZ]
 refine lexT 7 rfl hI (fun W hW => St.run_load_agg hW 0 45 _ rfl Try.isAgg45 _ Try.sizeOf45 rfl rfl rfl rfl) ?_; simp only [kP, kA, kS, kZ]
 refine lex_done (by decide +kernel) ?_
 refine tail_last 8 rfl (by first | exact wanted_none rfl | exact wanted_some rfl rfl) (by decide +kernel) (by decide +kernel) fun K hK => ?_
 refine wp_callee (f := 45) (by first | (go_simp; done) | (go_simp; rfl)) ?_
 refine (HD.out _ g ok css Bs HBl.out hK0).mono ?_
 rintro e V ⟨⟨u, rfl⟩, hT⟩
 have P3 := HT.out _ _ hT hok'
 refine ⟨_, rfl, ?_⟩
 refine hK _ _ ?_; clear hK
 clear hT st hI hA hK0 ek eg eB
 go_wp2_with fail
 go_ret
 exact ⟨rfl, P3⟩
theorem CluAt.certsOf {ok : Nat → Prop} {BB : List (List Nat)} {na : Option Addr} {nc : Nat} {L : List Value} (hA : CluAt ok W gc C kg BB na nc L) {n : Nat} (hn : n < 4) : ∃ a c, L[5 + n]? = some (.slice a (C.cert n).length c) ∧ SlR ok W 4 RCert a c (C.cert n) := by
 have h1 := hA.cells.certN
 have ek : C.certs[n]? = some (C.cert n) := by unfold Clu.cert; simp only [Int.toNat_natCast]; rw [List.getD_eq_getElem?_getD, List.getElem?_eq_getElem (by omega)]; rfl
 obtain ⟨v, e, a, c, rfl, hc⟩ := hA.cells.cert n _ ek
 exact ⟨a, c, e, hc⟩
set_option maxRecDepth 100000 in
set_option maxHeartbeats 2000000 in
theorem cluster_send_not (P : Clus w0 M0 own X Wd D gc kg C W) (okf : Nat → Prop) (h v t : Int) (m : Mail) (la : Option Addr) (lc : Nat) (ga : Option Addr) (gc' : Nat) (hh : four h = true) (hne : h ≠ v) (hl : m.label.length * 16 ≤ 140737488351232) (hg : m.grants.length * 8 ≤ 140737488351232) (hR : MailR okf W m la lc ga gc')
  (hm : mayB (C.cert h) v m C.now = false) :
  Calls Try.prog 37 #[.pointer (some ⟨gc, 0, none⟩), .int .i64 h, .int .i64 v, .int .i64 t, mailV m la lc ga gc'] W fun e W' => e = .returned (.int .i64 8) ∧ Clus w0 M0 own X Wd D gc kg C W' := by
 obtain ⟨n, rfl, hn⟩ := four_nat hh
 clear hh
 have dne : ((n : Int) == v) = false := by simpa using hne
 clear hne
 obtain ⟨ok, BB, na, nc, L, hA, hno, -, -⟩ := P.open
 obtain ⟨ca, cc, f1, hcs⟩ := hA.certsOf hn
 have hgW := hA.lt gc (mem_cluB.2 (.inl rfl))
 have HM := Lib.hid (fun (V : World) (hb : Below W.heap.size W V) => trust_May (fun _ => True) V (C.cert n) ca cc v m la lc ga gc' C.now ⟨hg, hl⟩ ((hcs.below hb).okay fun _ _ => trivial) ⟨((hR.below hb).label).okay fun _ _ => trivial, ((hR.below hb).grants).okay fun _ _ => trivial⟩)
 rw [hm] at HM
 have HC := Lib.hid (show ∀ (V : World) (bl : Blks), St [] W V bl → V.cell? ⟨gc, 5 + n, none⟩ = some (.slice ca (C.cert n).length cc) ∧ V.cell? ⟨gc, 0, none⟩ = some (.int .i64 C.now) from fun V bl s => by
  have hb : V.heap[gc]? = some (.cells L.toArray 72 (0, 0)) := (s.frame gc hgW (by simp)).trans hA.blk
  rw [cell_of_row V gc _ L.toArray _ (0, 0) hb, cell_of_row V gc _ L.toArray _ (0, 0) hb]
  exact ⟨by simpa using f1, by simpa using hA.cells.now⟩)
 clear f1 hA hcs hno hm hR
 have st := St.start W
 unfold mailV at *
 go_enter Try.func37, Try.ntmps37
 go_upto_region 4 with (first | go_skip | (with_reducible refine at_box 45 ?_; refine mem_box st (wanted_none rfl) 45 _ rfl _ rfl _ rfl ?_; clear st; intro g9 w9 hg9 st hg9b; clear hg9b; simp [Act.eval, Act.put, Value.cells, putL] at st))
 refine det_region (by kernel_rfl) 14 rfl (fun V => St [] W V [(g9, 45, [.int .i64 m.host, .int .i64 m.thread, .slice la m.label.length lc, .slice ga m.grants.length gc', .string m.text])]) (st.drew) (by decide +kernel) ?_
 refine detS 0 rfl ?_; simp only [kP, kA, kS, kZ]; refine detS 1 rfl ?_; simp only [kP, kA, kS, kZ]; refine detS 2 rfl ?_; simp only [kP, kA, kS, kZ]; refine detS 3 rfl ?_; simp only [kP, kA, kS, kZ]
 refine detT (v := .pointer (some ⟨gc, 5 + n, none⟩)) 4 rfl (fun W hW => by (first | (go_simp; done) | (go_simp; omega) | (go_simp; intro h; omega))) ?_; simp only [kP, kA, kS, kZ]
 refine detT 5 rfl (fun W hW => run_cell_one 62 _ rfl Try.isAgg62 gc (5 + n) rfl _ (HC.out W _ hW).1) ?_; simp only [kP, kA, kS, kZ]
 refine detS 6 rfl ?_; simp only [kP, kA, kS, kZ]
 refine detT 7 rfl (fun W hW => St.run_load_agg hW 0 45 _ rfl Try.isAgg45 _ Try.sizeOf45 rfl rfl rfl rfl) ?_; simp only [kP, kA, kS, kZ]
 refine detS 8 rfl ?_; simp only [kP, kA, kS, kZ]; refine detS 9 rfl ?_; simp only [kP, kA, kS, kZ]; refine detS 10 rfl ?_; simp only [kP, kA, kS, kZ]
 refine detT 11 rfl (fun W hW => run_cell_one 3 _ rfl Try.isAgg3 gc 0 rfl _ (HC.out W _ hW).2) ?_; simp only [kP, kA, kS, kZ]
 refine det_call (fn := 44) 12 rfl (by decide +kernel) (by first | exact wanted_none rfl | exact wanted_some rfl rfl) (fun W => by first | (go_simp; done) | (go_simp; rfl)) (fun W hW => (HM.out W hW.below).mono fun e w' h => ⟨h.1, hW.call h.2⟩) ?_; simp only [kP, kA, kS, kZ]
 refine detS 13 rfl ?_; simp only [kP, kA, kS, kZ]
 refine det_done (by decide +kernel) ?_
 clear st
 intro V st
 go_wp2_with fail
 go_ret
 exact ⟨rfl, P.below st.below⟩
theorem CluAt.lineOf {ok : Nat → Prop} {BB : List (List Nat)} {na : Option Addr} {nc : Nat} {L : List Value} (hA : CluAt ok W gc C kg BB na nc L) {n v : Nat} (hn : n < 4) (hv : v < 4) :
  ∃ sa sc, SentR ok W sa sc (C.line n v).sent ∧ ∀ (j : Nat) (x : Value), [Value.int .i64 (C.line n v).next, .slice sa (C.line n v).sent.length sc, .int .i64 (C.line n v).high, .bool (C.line n v).seen.s0, .bool (C.line n v).seen.s1, .bool (C.line n v).seen.s2, .bool (C.line n v).seen.s3, .bool (C.line n v).seen.s4, .bool (C.line n v).seen.s5, .bool (C.line n v).seen.s6, .bool (C.line n v).seen.s7][j]? = some x → L[9 + n * 44 + v * 11 + j]? = some x := by
 have h1 := hA.cells.lineN
 have ek : C.lines[n * 4 + v]? = some (C.line n v) := by
  unfold Clu.line lineAt
  simp only [Int.toNat_natCast]
  rw [List.getD_eq_getElem?_getD, List.getElem?_eq_getElem (by omega)]; rfl
 obtain ⟨cs, ⟨sa, sc, rfl, hs⟩, hc⟩ := hA.cells.line _ _ ek
 exact ⟨sa, sc, hs, fun j x hx => by
  have := hc j x hx
  rwa [show 9 + (n * 4 + v) * 11 + j = 9 + n * 44 + v * 11 + j by omega] at this⟩
end
open Go.RowKit
def LetPost (w : World) (r : Mail × Int) (e : Ending) (w' : World) : Prop :=
 ∃ la lc ga gc, e = .returned (.tuple #[mailV r.1 la lc ga gc, .int .i64 r.2]) ∧ Below w.heap.size w w' ∧ MailR (fun b => w.heap.size ≤ b) w' r.1 la lc ga gc
set_option maxRecDepth 100000 in
set_option maxHeartbeats 4000000 in
theorem kernel_Letter_out (w : World) (g : Nat) (t : Int) (c : Req) (la : Option Addr) (lc : Nat) (ga : Option Addr) (gc : Nat) (h4 : four t = false) :
  Calls Try.prog 36 #[.pointer (some ⟨g, 0, none⟩), .int .i64 t, reqV c la lc ga gc] w (LetPost w (zeroM, 4)) := by
 have st := St.start w
 unfold reqV
 rcases four_no h4 with d | ⟨d0, d⟩
 all_goals
  clear h4
  go_enter Try.func36, Try.ntmps36
  go_wp2_with (first | go_skip | (with_reducible refine at_box 36 ?_; refine mem_box st (wanted_none rfl) 36 _ rfl _ rfl _ rfl ?_; clear st; intro g5 w5 hg5 st hg5b; clear hg5b; simp [Act.eval, Act.put, Value.cells, putL] at st) | (with_reducible refine at_alloc 45 ?_; refine mem_alloc st (wanted_none rfl) 45 rfl _ Try.zeroValue45 _ rfl ?_; clear st; intro g6 w6 hg6 st hg6b; clear hg6b; simp [Act.eval, Act.put, Value.cells, putL] at st) | (with_reducible refine at_store 45 ?_; refine memS st 45 _ _ rfl _ Try.sizeOf45 ⟨1, _, _, _, _, _, rfl, rfl, rfl, rfl, rfl, rfl, ?_⟩; clear st; intro w7 st hw7m hw7z; simp [Act.eval, Act.put, Value.cells, putL] at st))
  have hc := fun j => st.cell (i := 1) rfl j
  refine bodyPost_ret (v := .tuple #[mailV zeroM none 0 none 0, .int .i64 4]) ?hr rfl ⟨none, 0, none, 0, rfl, st.below, ⟨SlR.nil .., SlR.nil ..⟩⟩
  case hr => simp [results, Try.results36, go_sem, hc, mailV, zeroM]; try rfl
set_option maxRecDepth 100000 in
set_option maxHeartbeats 8000000 in
theorem kernel_Letter (ok okc : Nat → Prop) (w : World) (g : Nat) (k : Ker) (css : List (List Value)) (Bs : List (List Nat)) (h : KerAt ok w g k css Bs) (hk : ∀ x ∈ k.threads, x.ok) (t : Int) (c : Req) (la : Option Addr) (lc : Nat) (ga : Option Addr) (gc : Nat)
  (hll : c.label.length * 16 ≤ 140737488351232) (hgl : c.grants.length * 8 ≤ 140737488351232) (hct : c.text.size ≤ 140737488351232) (hcl : SlR okc w 2 RLev la lc c.label) (hcg : SlR okc w 1 RInt ga gc c.grants) :
  Calls Try.prog 36 #[.pointer (some ⟨g, 0, none⟩), .int .i64 t, reqV c la lc ga gc] w (LetPost w (letterK k t c)) := by
 by_cases h4 : four t = true
 case neg =>
  have h4 : four t = false := by simpa using h4
  unfold letterK
  rw [if_pos h4]
  exact kernel_Letter_out w g t c la lc ga gc h4
 have HE := Lib.hid (show letterK k t c = if goodMailC (letterM k t c) ≠ 0 then (zeroM, goodMailC (letterM k t c)) else if ¬ (∀ g ∈ c.grants, g ∈ (k.thr t).own) then (zeroM, 7) else if flowsL (k.thr t).label c.label (k.thr t).own = false then (zeroM, 6) else (letterM k t c, 0) by unfold letterK; rw [if_neg (by simp [h4])])
 obtain ⟨n, rfl, hn⟩ := four_nat h4
 obtain ⟨x, xa, xc, oa, oc, ba, bc, ma, mc, ex, ec, eB, hT, hb⟩ := h.open hn
 have hx := hk x (List.mem_of_getElem? ex)
 have hpre := h.preLen hn
 have HX := Lib.hid (show (k.thr n) = x from Ker.thr_at ex)
 rw [HX.out] at HE
 replace HE := HE.out
 have st0 := St.hand hb
 unfold thrC at st0 hb
 have d1 : decide ((n : Int) < 0) = false := by simp
 have d2 : decide ((4 : Int) ≤ n) = false := by simp; omega
 have hgw := h.lt g (by simp)
 have hxl := goodL_len hx.good; have hxo := hx.ownL; have hxt := hx.text
 have HB := Lib.hid (show ∀ (W : World) (bl : Blks), St [g] w W bl → (g, 84, winC (preC k css n) [.slice xa x.label.length xc, .slice oa x.own.length oc, .string x.text, .slice ba x.objects.length bc, .slice ma x.mails.length mc] (postC k css n)) ∈ bl → Below w.heap.size w W from fun W bl s hm => st0.below2 s (by simpa using hm))
 have HL := Lib.hid (fun (W : World) (bl : Blks) (hW : St [g] w W bl) (hm : (g, 84, winC (preC k css n) [.slice xa x.label.length xc, .slice oa x.own.length oc, .string x.text, .slice ba x.objects.length bc, .slice ma x.mails.length mc] (postC k css n)) ∈ bl) => kernel_levels okc W la lc c.label (by omega) (hcl.below (HB.out W _ hW hm)))
 have HN := Lib.hid (fun (W : World) (bl : Blks) (hW : St [g] w W bl) (hm : (g, 84, winC (preC k css n) [.slice xa x.label.length xc, .slice oa x.own.length oc, .string x.text, .slice ba x.objects.length bc, .slice ma x.mails.length mc] (postC k css n)) ∈ bl) => kernel_numbers okc W ga gc c.grants (by omega) (hcg.below (HB.out W _ hW hm)))
 have HF := Lib.hid (fun (W : World) (bl : Blks) (hW : St [g] w W bl) (hm : (g, 84, winC (preC k css n) [.slice xa x.label.length xc, .slice oa x.own.length oc, .string x.text, .slice ba x.objects.length bc, .slice ma x.mails.length mc] (postC k css n)) ∈ bl) => And.intro (hT.label.below (HB.out W _ hW hm)) (hT.own.below (HB.out W _ hW hm)))
 have st := st0
 have HS0 := Lib.hid st0
 clear st0 hb hT h ex ec eB hx hk h4
 unfold reqV
 go_enter Try.func36, Try.ntmps36
 go_upto_region 4 with (first | go_skip | (with_reducible refine at_box 36 ?_; refine mem_box st (wanted_none rfl) 36 _ rfl _ rfl _ rfl ?_; clear st; intro g5 w5 hg5 st hg5b; clear hg5b; simp [Act.eval, Act.put, Value.cells, putL] at st) | (with_reducible refine at_alloc 45 ?_; refine mem_alloc st (wanted_none rfl) 45 rfl _ Try.zeroValue45 _ rfl ?_; clear st; intro g6 w6 hg6 st hg6b; clear hg6b; simp [Act.eval, Act.put, Value.cells, putL] at st))
 try simp only [kP, kA, kS, kZ]
 go_cut [9] (fun s9 wx => ∃ (g9 : Nat) (a4 : Option Addr) (k4 : Nat) (a5 : Option Addr) (k5 : Nat), s9 = .pointer (some ⟨g9, 0, none⟩) ∧ St [g] w wx [(g, 84, winC (preC k css n) [.slice xa x.label.length xc, .slice oa x.own.length oc, .string x.text, .slice ba x.objects.length bc, .slice ma x.mails.length mc] (postC k css n)), (g5, 36, [.int .i64 c.kind, .int .i64 c.h, .int .i64 c.t, .int .i64 c.n, .int .i64 c.c, .slice la c.label.length lc, .slice ga c.grants.length gc, .string c.text]), (g6, 45, [.int .i64 0, .int .i64 0, .slice none 0 0, .slice none 0 0, .string ⟨#[]⟩]), (g9, 45, [.int .i64 k.host, .int .i64 n, .slice a4 c.label.length k4, .slice a5 c.grants.length k5, .string (x.text ++ c.text)])] ∧ SlR (fun b => w.heap.size ≤ b ∧ b < wx.heap.size ∧ b ∉ [g, g5, g6, g9]) wx 2 RLev a4 k4 c.label ∧ SlR (fun b => w.heap.size ≤ b ∧ b < wx.heap.size ∧ b ∉ [g, g5, g6, g9]) wx 1 RInt a5 k5 c.grants)
 case first =>
  have st := st.drew
  have hI := st
  refine lex_region (by kernel_rfl) 21 rfl (fun W => St [g] w W [(g, 84, winC (preC k css n) [.slice xa x.label.length xc, .slice oa x.own.length oc, .string x.text, .slice ba x.objects.length bc, .slice ma x.mails.length mc] (postC k css n)), (g5, 36, [.int .i64 c.kind, .int .i64 c.h, .int .i64 c.t, .int .i64 c.n, .int .i64 c.c, .slice la c.label.length lc, .slice ga c.grants.length gc, .string c.text]), (g6, 45, [.int .i64 0, .int .i64 0, .slice none 0 0, .slice none 0 0, .string ⟨#[]⟩])]) ?_
  refine lexS 0 rfl hI ?_; simp only [kP, kA, kS, kZ]
  refine lexS 1 rfl hI ?_; simp only [kP, kA, kS, kZ]
  refine lexS 2 rfl hI ?_; simp only [kP, kA, kS, kZ]
  refine lexT 3 rfl hI (fun W hW => St.run_load hW 0 3 _ rfl Try.isAgg3 rfl rfl rfl) ?_; simp only [kP, kA, kS, kZ]
  refine lexS 4 rfl hI ?_; simp only [kP, kA, kS, kZ]
  refine lexS 5 rfl hI ?_; simp only [kP, kA, kS, kZ]
  refine lexT 6 rfl hI (fun W hW => St.run_load hW 1 24 _ rfl Try.isAgg24 rfl rfl rfl) ?_; simp only [kP, kA, kS, kZ]
  refine lexS 8 rfl hI ?_; simp only [kP, kA, kS, kZ]
  refine lexT 9 rfl hI (fun W hW => St.run_load hW 1 25 _ rfl Try.isAgg25 rfl rfl rfl) ?_; simp only [kP, kA, kS, kZ]
  refine lexS 11 rfl hI ?_; simp only [kP, kA, kS, kZ]
  refine lexS 12 rfl hI ?_; simp only [kP, kA, kS, kZ]
  refine lexS 13 rfl hI ?_; simp only [kP, kA, kS, kZ]
  refine lexT 14 rfl hI (fun W hW => St.run_loadW hW 0 9 _ rfl Try.isAgg9 2 hpre rfl rfl rfl) ?_; simp only [kP, kA, kS, kZ]
  refine lexS 15 rfl hI ?_; simp only [kP, kA, kS, kZ]
  refine lexT 16 rfl hI (fun W hW => St.run_load hW 1 9 _ rfl Try.isAgg9 rfl rfl rfl) ?_; simp only [kP, kA, kS, kZ]
  refine lexT (v := .string (x.text ++ c.text)) 17 rfl hI (fun W hW => by (go_simp; first | done | omega)) ?_; simp only [kP, kA, kS, kZ]
  clear hI
  refine lex_each [7, 19] (by decide +kernel) (by decide) ?_; intro i hi K hK; simp only [List.mem_cons, List.not_mem_nil, or_false] at hi; rcases hi with rfl | rfl <;> refine ⟨_, rfl, (by first | exact wanted_none rfl | exact wanted_some rfl rfl), ?_⟩
  ·refine wp_callee (f := 27) (by first | (go_simp; done) | (go_simp; rfl)) ?_
   refine (HL.out _ _ st (by simp)).mono ?_
   rintro e v4 ⟨a4, k4, rfl, hb4, hO4⟩
   have hz4 := st.size
   refine ⟨_, rfl, ?_⟩
   replace st := st.call hb4
   clear hb4
   refine hK _ _ (st) ?_; clear hK; simp only [kP, kA, kS, kZ]
   refine lex_each [10, 19] (by decide +kernel) (by decide) ?_; intro i hi K hK; simp only [List.mem_cons, List.not_mem_nil, or_false] at hi; rcases hi with rfl | rfl <;> refine ⟨_, rfl, (by first | exact wanted_none rfl | exact wanted_some rfl rfl), ?_⟩
   ·refine wp_callee (f := 28) (by first | (go_simp; done) | (go_simp; rfl)) ?_
    refine (HN.out _ _ st (by simp)).mono ?_
    rintro e v5 ⟨a5, k5, rfl, hb5, hO5⟩
    have hz5 := st.size
    refine ⟨_, rfl, ?_⟩
    replace st := st.call hb5
    replace hO4 := hO4.below hb5
    clear hb5
    have hI := st
    refine hK _ _ (hI) ?_; clear hK; simp only [kP, kA, kS, kZ]
    refine lexS 18 rfl hI ?_; simp only [kP, kA, kS, kZ]
    clear hI
    refine lexO 19 rfl fun K hK => ?_
    refine wp_alloc st 45 rfl _ Try.zeroValue45 _ rfl ?_; clear st; intro g9 w9 hg9 st hg9b; simp [Act.eval, Act.put, Value.cells, putL] at st
    replace hO4 := hO4.below hg9b
    replace hO5 := hO5.below hg9b
    clear hg9b
    refine hK _ _ (st.take 3) ?_; clear hK; simp only [kP, kA, kS, kZ]
    refine lexO 20 rfl fun K hK => ?_
    have h9b := st.blk _ (List.mem_of_getElem? (i := 3) rfl)
    refine wp_store' st 45 _ _ rfl _ Try.sizeOf45 ⟨3, _, _, _, _, _, rfl, rfl, rfl, rfl, rfl, rfl, ?_⟩; clear st; intro w7 st hw7m hw7z; simp [Act.eval, Act.put, Value.cells, putL] at st
    replace hO4 := hO4.stored h9b (by simp) hw7m
    replace hO5 := hO5.stored h9b (by simp) hw7m
    clear h9b hw7m hw7z
    refine hK _ _ (st.take 3) ?_; clear hK; simp only [kP, kA, kS, kZ]
    refine lex_done (by decide +kernel) ?_
    go_wp2_with fail
    go_meet
    exact ⟨g9, a4, k4, a5, k5, rfl, st, (hO4.slrS st (by simp)).okay fun b hb => ⟨by omega, hb.2.1, by simpa using hb.2.2⟩, (hO5.slrS st (by simp)).okay fun b hb => ⟨by omega, hb.2.1, by simpa using hb.2.2⟩⟩
   ·refine wp_alloc st 45 rfl _ Try.zeroValue45 _ rfl ?_; clear st; intro g9 w9 hg9 st hg9b; simp [Act.eval, Act.put, Value.cells, putL] at st
    replace hO4 := hO4.below hg9b
    clear hg9b
    refine hK _ _ (st.take 3) ?_; clear hK; simp only [kP, kA, kS, kZ]
    refine lexO 10 rfl fun K hK => ?_
    refine wp_callee (f := 28) (by first | (go_simp; done) | (go_simp; rfl)) ?_
    refine (HN.out _ _ st (by simp)).mono ?_
    rintro e v5 ⟨a5, k5, rfl, hb5, hO5⟩
    have hz5 := st.size
    refine ⟨_, rfl, ?_⟩
    replace st := st.call hb5
    replace hO4 := hO4.below hb5
    clear hb5
    have hI := st.take 3
    refine hK _ _ (hI) ?_; clear hK; simp only [kP, kA, kS, kZ]
    refine lexS 18 rfl hI ?_; simp only [kP, kA, kS, kZ]
    clear hI
    refine lexO 20 rfl fun K hK => ?_
    have h9b := st.blk _ (List.mem_of_getElem? (i := 3) rfl)
    refine wp_store' st 45 _ _ rfl _ Try.sizeOf45 ⟨3, _, _, _, _, _, rfl, rfl, rfl, rfl, rfl, rfl, ?_⟩; clear st; intro w7 st hw7m hw7z; simp [Act.eval, Act.put, Value.cells, putL] at st
    replace hO4 := hO4.stored h9b (by simp) hw7m
    replace hO5 := hO5.stored h9b (by simp) hw7m
    clear h9b hw7m hw7z
    refine hK _ _ (st.take 3) ?_; clear hK; simp only [kP, kA, kS, kZ]
    refine lex_done (by decide +kernel) ?_
    go_wp2_with fail
    go_meet
    exact ⟨g9, a4, k4, a5, k5, rfl, st, (hO4.slrS st (by simp)).okay fun b hb => ⟨by omega, hb.2.1, by simpa using hb.2.2⟩, (hO5.slrS st (by simp)).okay fun b hb => ⟨by omega, hb.2.1, by simpa using hb.2.2⟩⟩
  ·refine wp_alloc st 45 rfl _ Try.zeroValue45 _ rfl ?_; clear st; intro g9 w9 hg9 st hg9b; simp [Act.eval, Act.put, Value.cells, putL] at st
   clear hg9b
   refine hK _ _ (st.take 3) ?_; clear hK; simp only [kP, kA, kS, kZ]
   refine lexO 7 rfl fun K hK => ?_
   refine wp_callee (f := 27) (by first | (go_simp; done) | (go_simp; rfl)) ?_
   refine (HL.out _ _ st (by simp)).mono ?_
   rintro e v4 ⟨a4, k4, rfl, hb4, hO4⟩
   have hz4 := st.size
   refine ⟨_, rfl, ?_⟩
   replace st := st.call hb4
   clear hb4
   refine hK _ _ (st.take 3) ?_; clear hK; simp only [kP, kA, kS, kZ]
   refine lexO 10 rfl fun K hK => ?_
   refine wp_callee (f := 28) (by first | (go_simp; done) | (go_simp; rfl)) ?_
   refine (HN.out _ _ st (by simp)).mono ?_
   rintro e v5 ⟨a5, k5, rfl, hb5, hO5⟩
   have hz5 := st.size
   refine ⟨_, rfl, ?_⟩
   replace st := st.call hb5
   replace hO4 := hO4.below hb5
   clear hb5
   have hI := st.take 3
   refine hK _ _ (hI) ?_; clear hK; simp only [kP, kA, kS, kZ]
   refine lexS 18 rfl hI ?_; simp only [kP, kA, kS, kZ]
   clear hI
   refine lexO 20 rfl fun K hK => ?_
   have h9b := st.blk _ (List.mem_of_getElem? (i := 3) rfl)
   refine wp_store' st 45 _ _ rfl _ Try.sizeOf45 ⟨3, _, _, _, _, _, rfl, rfl, rfl, rfl, rfl, rfl, ?_⟩; clear st; intro w7 st hw7m hw7z; simp [Act.eval, Act.put, Value.cells, putL] at st
   replace hO4 := hO4.stored h9b (by simp) hw7m
   replace hO5 := hO5.stored h9b (by simp) hw7m
   clear h9b hw7m hw7z
   refine hK _ _ (st.take 3) ?_; clear hK; simp only [kP, kA, kS, kZ]
   refine lex_done (by decide +kernel) ?_
   go_wp2_with fail
   go_meet
   exact ⟨g9, a4, k4, a5, k5, rfl, st, (hO4.slrS st (by simp)).okay fun b hb => ⟨by omega, hb.2.1, by simpa using hb.2.2⟩, (hO5.slrS st (by simp)).okay fun b hb => ⟨by omega, hb.2.1, by simpa using hb.2.2⟩⟩
 case rest =>
  obtain ⟨g9, a4, k4, a5, k5, rfl, st, hRl, hRn⟩ := hcut
  have hwz := st.size
  have hwg : g < wc.heap.size ∧ g5 < wc.heap.size ∧ g6 < wc.heap.size ∧ g9 < wc.heap.size := ⟨st.ltAt (i := 0) rfl, st.ltAt (i := 1) rfl, st.ltAt (i := 2) rfl, st.ltAt (i := 3) rfl⟩
  have stK := st
  have hsz : (x.text ++ c.text).size = x.text.size + c.text.size := ByteArray.size_append
  have HKt := Lib.hid (show knowT x.text c.text = (x.text ++ c.text).extract ((x.text ++ c.text).size - 64) (x.text ++ c.text).size from rfl)
  generalize hS : x.text ++ c.text = S at *
  replace hS := Lib.hid hS
  obtain ⟨m, hm⟩ : ∃ m, m = S.size - 64 := ⟨_, rfl⟩
  have hw1 : IntKind.i64.wrap ((S.size : Int) - 64) = (S.size : Int) - 64 := IntWalk.i64_in _ (by omega)
  have hml : m ≤ S.size := by omega
  have HM := Lib.hid hm
  have h64 : ((if 64 < (S.size : Int) then (S.size : Int) - 64 else 0) : Int) = (m : Int) := by split <;> omega
  clear hm
  go_upto_region 6 with (first | go_skip | (with_reducible refine at_load 9 ?_; refine memX st 9 _ rfl Try.isAgg9 rfl ?_) | (with_reducible refine at_store 9 ?_; refine memS st 9 _ _ rfl _ Try.sizeOf9 ⟨3, _, _, _, _, _, rfl, rfl, rfl, rfl, rfl, rfl, ?_⟩; clear st; intro w7 st hw7m hw7z; simp [Act.eval, Act.put, Value.cells, putL] at st))
  have hT0 : S.extract (max 0 ((x.text.size : Int) + c.text.size - 64)).toNat (x.text.size + c.text.size) = knowT x.text c.text := by rw [HKt.out, hsz]; congr 1; omega
  rw [hT0] at st
  clear hT0
  generalize hT : knowT x.text c.text = T at *
  have hMe : letterM k n c = ⟨k.host, n, c.label, c.grants, T⟩ := by unfold letterM; rw [HX.out, hT]
  rw [hMe] at HE
  clear hMe hT HX
  have st7 := st
  have hz7 := st7.size
  have HR := Lib.hid (show ∀ (W : World) (bl : Blks), St [g, g5, g6, g9] w7 W bl → MailR (fun b => w.heap.size ≤ b) W ⟨k.host, n, c.label, c.grants, T⟩ a4 k4 a5 k5 from fun W bl s =>
   ⟨hRl.move (by have := s.size; omega) (fun b hb ho => ⟨ho.1, (s.frame b (by omega) ho.2.2).trans (hw7m b (fun e => ho.2.2 (by simp [e])))⟩) fun _ _ r => r,
   hRn.move (by have := s.size; omega) (fun b hb ho => ⟨ho.1, (s.frame b (by omega) ho.2.2).trans (hw7m b (fun e => ho.2.2 (by simp [e])))⟩) fun _ _ r => r⟩)
  have HBw := Lib.hid (show ∀ (W : World) (bl : Blks), St [g, g5, g6, g9] w7 W bl → (g, 84, winC (preC k css n) [.slice xa x.label.length xc, .slice oa x.own.length oc, .string x.text, .slice ba x.objects.length bc, .slice ma x.mails.length mc] (postC k css n)) ∈ bl → St [g] w W bl ∧ Below w.heap.size w W from fun W bl s hm => ⟨St.back st7 s, HB.out W _ (St.back st7 s) hm⟩)
  have HG := Lib.hid (show ∀ (W : World) (bl : Blks), St [g, g5, g6, g9] w7 W bl → Calls Try.prog 49 #[.agg #[.int .i64 k.host, .int .i64 n, .slice a4 c.label.length k4, .slice a5 c.grants.length k5, .string T]] W fun e w' => e = .returned (.int .i64 (goodMailC ⟨k.host, n, c.label, c.grants, T⟩)) ∧ Below W.heap.size W w' from fun W bl s => wire_GoodMail _ W ⟨k.host, n, c.label, c.grants, T⟩ a4 k4 a5 k5 (by simp only; omega) (by simp only; omega) (HR.out W bl s))
  generalize hq : goodMailC ⟨k.host, n, c.label, c.grants, T⟩ = q at HG HE
  clear hq hRl hRn hw7m hw7z HM
  have st := st7.rebase
  simp only [List.map_cons, List.map_nil] at st
  by_cases hq0 : q = 0
  case neg =>
   have hqn : (q == 0) = false := by simpa using hq0
   rw [if_pos hq0] at HE
   replace HE := Lib.hid HE
   clear hq0
   go_wp2_with (first | go_skip | (with_reducible refine at_load 45 ?_; refine memXA st 45 _ rfl Try.isAgg45 _ Try.sizeOf45 rfl ?_) | (go_at_call 49; go_must (refine (HG.out _ _ st).mono ?_; rintro e v8 ⟨rfl, hb8⟩; replace st := st.call hb8; clear hb8)) | (with_reducible refine at_store 45 ?_; refine memS st 45 _ _ rfl _ Try.sizeOf45 ⟨2, _, _, _, _, _, rfl, rfl, rfl, rfl, rfl, rfl, ?_⟩; clear st; intro w8 st hw8m hw8z; simp [Act.eval, Act.put, Value.cells, putL] at st))
   have hc := fun j => st.cell (i := 2) rfl j
   refine bodyPost_ret (v := .tuple #[mailV zeroM none 0 none 0, .int .i64 q]) ?hr rfl (by rw [HE.out]; exact ⟨none, 0, none, 0, rfl, (HBw.out _ _ st (by simp)).2, ⟨SlR.nil .., SlR.nil ..⟩⟩)
   case hr => simp [results, Try.results36, go_sem, hc, mailV, zeroM]; try rfl
  subst hq0
  rw [if_neg (by simp)] at HE
  go_wp2_with (first | go_skip | (with_reducible refine at_load 45 ?_; refine memXA st 45 _ rfl Try.isAgg45 _ Try.sizeOf45 rfl ?_) | (with_reducible refine at_load 25 ?_; refine memX st 25 _ rfl Try.isAgg25 rfl ?_) | (go_at_call 49; go_must (refine (HG.out _ _ st).mono ?_; rintro e v8 ⟨rfl, hb8⟩; replace st := st.call hb8; clear hb8)))
  obtain ⟨wq, rfl⟩ : ∃ V, V = w7 := ⟨_, rfl⟩
  go_loopw [66] (fun v66 wr => ∃ (j : Nat), j ≤ c.grants.length ∧ v66 = .int .i64 j ∧ St [g, g5, g6, g9] wq wr [(g, 84, winC (preC k css n) [.slice xa x.label.length xc, .slice oa x.own.length oc, .string x.text, .slice ba x.objects.length bc, .slice ma x.mails.length mc] (postC k css n)), (g5, 36, [.int .i64 c.kind, .int .i64 c.h, .int .i64 c.t, .int .i64 c.n, .int .i64 c.c, .slice la c.label.length lc, .slice ga c.grants.length gc, .string c.text]), (g6, 45, [.int .i64 0, .int .i64 0, .slice none 0 0, .slice none 0 0, .string ⟨#[]⟩]), (g9, 45, [.int .i64 k.host, .int .i64 n, .slice a4 c.label.length k4, .slice a5 c.grants.length k5, .string (T)])] ∧ Hid (∀ v ∈ c.grants.take j, v ∈ x.own)) (fun v66 _ => c.grants.length - (intOf v66).toNat)
  case atStart => exact ⟨0, Nat.zero_le _, rfl, st, Lib.hid (by simp)⟩
  case round =>
   clear st
   obtain ⟨j, hj, rfl, st, HJ⟩ := hrel
   by_cases hlt : j < c.grants.length
   ·have hd : decide ((j : Int) < c.grants.length) = true := by simp; omega
    obtain ⟨b, o, rfl, hbw, hcell⟩ := (HR.out _ _ st).grants.int_at j hlt
    have HO := Lib.hid ((HF.out _ _ (HBw.out _ _ st (by simp)).1 (by simp)).2)
    have HI := Lib.hid (inL_iff x.own c.grants[j])
    have HI2 := Lib.hid (slices_Contains_int _ wr oa oc x.own c.grants[j] (by omega) HO.out)
    generalize hi : inL x.own c.grants[j] = q at HI HI2
    clear hi HO
    cases q
    ·have HE2 := Lib.hid (show letterK k n c = (zeroM, 7) by rw [HE, if_pos (fun hh => by have := HI.out.2 (hh _ (List.getElem_mem hlt)); simp at this)])
     clear HE
     go_wp2_with (first | go_skip | (with_reducible refine at_load 25 ?_; (first | refine mem_loadW st 25 _ rfl (wanted_none rfl) Try.isAgg25 1 ?_ | (refine mem_loadW st 25 _ rfl (wanted_some rfl ?_) Try.isAgg25 1 ?_; focus (simp [yielded, Act.put]; done))); refine ⟨0, _, _, _, _, _, _, _, hpre, rfl, rfl, rfl, ?_⟩) | (go_at_call 20; go_must (refine (HI2.out).mono ?_; rintro e v8 ⟨rfl, rfl⟩)) | (with_reducible refine at_store 45 ?_; refine memS st 45 _ _ rfl _ Try.sizeOf45 ⟨2, _, _, _, _, _, rfl, rfl, rfl, rfl, rfl, rfl, ?_⟩; clear st; intro w8 st hw8m hw8z; simp [Act.eval, Act.put, Value.cells, putL] at st))
     have hc := fun j => st.cell (i := 2) rfl j
     refine bodyPost_ret (v := .tuple #[mailV zeroM none 0 none 0, .int .i64 7]) ?hr rfl (by rw [HE2.out]; exact ⟨none, 0, none, 0, rfl, (HBw.out _ _ st (by simp)).2, ⟨SlR.nil .., SlR.nil ..⟩⟩)
     case hr => simp [results, Try.results36, go_sem, hc, mailV, zeroM]; try rfl
    ·have HJ2 := Lib.hid (show ∀ v ∈ c.grants.take (j + 1), v ∈ x.own from fun v hv => by
      rw [List.take_add_one, List.getElem?_eq_getElem hlt] at hv
      rcases List.mem_append.1 hv with hv | hv
      ·exact HJ.out v hv
      ·obtain rfl : v = c.grants[j] := by simpa using hv
       exact HI.out.1 rfl)
     replace HE := Lib.hid HE
     go_wp2_with (first | go_skip | (with_reducible refine at_load 25 ?_; (first | refine mem_loadW st 25 _ rfl (wanted_none rfl) Try.isAgg25 1 ?_ | (refine mem_loadW st 25 _ rfl (wanted_some rfl ?_) Try.isAgg25 1 ?_; focus (simp [yielded, Act.put]; done))); refine ⟨0, _, _, _, _, _, _, _, hpre, rfl, rfl, rfl, ?_⟩) | (go_at_call 20; go_must (refine (HI2.out).mono ?_; rintro e v8 ⟨rfl, rfl⟩)))
     go_roundw
     case rel => exact ⟨j + 1, hlt, by go_num, st, HJ2⟩
     case measure => simp [intOf]; omega
   ·have hd : decide ((j : Int) < c.grants.length) = false := by simp; omega
    have hall : ¬ ¬ (∀ g ∈ c.grants, g ∈ x.own) := fun hh => hh (by have := HJ.out; rwa [List.take_of_length_le (by omega)] at this)
    rw [if_neg hall] at HE
    clear hall HJ
    have HF2 := Lib.hid (fun (W : World) (bl : Blks) (hW : St [g, g5, g6, g9] wq W bl) (hm : (g, 84, winC (preC k css n) [.slice xa x.label.length xc, .slice oa x.own.length oc, .string x.text, .slice ba x.objects.length bc, .slice ma x.mails.length mc] (postC k css n)) ∈ bl) => label_Flows (fun _ => True) W xa a4 oa xc k4 oc x.label c.label x.own (by omega) (by omega) ((HF.out _ _ (HBw.out _ _ hW hm).1 hm).1.okay fun _ _ => trivial) ((HR.out _ _ hW).label.okay fun _ _ => trivial) ((HF.out _ _ (HBw.out _ _ hW hm).1 hm).2.okay fun _ _ => trivial))
    generalize hf : flowsL x.label c.label x.own = q at HF2 HE
    clear hf
    replace HE := Lib.hid HE
    go_wp2_with fail
    refine det_region (by kernel_rfl) 12 rfl (fun W => St [g, g5, g6, g9] wq W [(g, 84, winC (preC k css n) [.slice xa x.label.length xc, .slice oa x.own.length oc, .string x.text, .slice ba x.objects.length bc, .slice ma x.mails.length mc] (postC k css n)), (g5, 36, [.int .i64 c.kind, .int .i64 c.h, .int .i64 c.t, .int .i64 c.n, .int .i64 c.c, .slice la c.label.length lc, .slice ga c.grants.length gc, .string c.text]), (g6, 45, [.int .i64 0, .int .i64 0, .slice none 0 0, .slice none 0 0, .string ⟨#[]⟩]), (g9, 45, [.int .i64 k.host, .int .i64 n, .slice a4 c.label.length k4, .slice a5 c.grants.length k5, .string (T)])]) (st.drew) (by decide +kernel) ?_
    refine detS 0 rfl ?_; simp only [kP, kA, kS, kZ]; refine detS 1 rfl ?_; simp only [kP, kA, kS, kZ]; refine detS 2 rfl ?_; simp only [kP, kA, kS, kZ]
    refine detT 3 rfl (fun W hW => St.run_loadW hW 0 24 _ rfl Try.isAgg24 0 hpre rfl rfl rfl) ?_; simp only [kP, kA, kS, kZ]
    refine detS 4 rfl ?_; simp only [kP, kA, kS, kZ]
    refine detT 5 rfl (fun W hW => St.run_load hW 3 24 _ rfl Try.isAgg24 rfl rfl rfl) ?_; simp only [kP, kA, kS, kZ]
    refine detS 6 rfl ?_; simp only [kP, kA, kS, kZ]; refine detS 7 rfl ?_; simp only [kP, kA, kS, kZ]; refine detS 8 rfl ?_; simp only [kP, kA, kS, kZ]
    refine detT 9 rfl (fun W hW => St.run_loadW hW 0 25 _ rfl Try.isAgg25 1 hpre rfl rfl rfl) ?_; simp only [kP, kA, kS, kZ]
    refine det_call (fn := 10) 10 rfl (by decide +kernel) (by first | exact wanted_none rfl | exact wanted_some rfl rfl) (fun W => by first | (go_simp; done) | (go_simp; rfl)) (fun W hW => (HF2.out W _ hW (by simp)).mono fun e w' h => ⟨h.1, hW.call h.2⟩) ?_; simp only [kP, kA, kS, kZ]
    refine detS 11 rfl ?_; simp only [kP, kA, kS, kZ]
    refine det_done (by decide +kernel) ?_
    clear st
    intro W st
    cases q
    ·go_wp2_with (first | go_skip | (with_reducible refine at_store 45 ?_; refine memS st 45 _ _ rfl _ Try.sizeOf45 ⟨2, _, _, _, _, _, rfl, rfl, rfl, rfl, rfl, rfl, ?_⟩; clear st; intro w8 st hw8m hw8z; simp [Act.eval, Act.put, Value.cells, putL] at st))
     have hc := fun j => st.cell (i := 2) rfl j
     refine bodyPost_ret (v := .tuple #[mailV zeroM none 0 none 0, .int .i64 6]) ?hr rfl (by rw [HE.out, if_pos (by simp)]; exact ⟨none, 0, none, 0, rfl, (HBw.out _ _ st (by simp)).2, ⟨SlR.nil .., SlR.nil ..⟩⟩)
     case hr => simp [results, Try.results36, go_sem, hc, mailV, zeroM]; try rfl
    ·go_wp2_with (first | go_skip | (with_reducible refine at_load 45 ?_; refine memXA st 45 _ rfl Try.isAgg45 _ Try.sizeOf45 rfl ?_) | (with_reducible refine at_store 45 ?_; refine memS st 45 _ _ rfl _ Try.sizeOf45 ⟨2, _, _, _, _, _, rfl, rfl, rfl, rfl, rfl, rfl, ?_⟩; clear st; intro w8 st hw8m hw8z; simp [Act.eval, Act.put, Value.cells, putL] at st))
     have hc := fun j => st.cell (i := 2) rfl j
     refine bodyPost_ret (v := .tuple #[mailV ⟨k.host, n, c.label, c.grants, T⟩ a4 k4 a5 k5, .int .i64 0]) ?hr rfl (by rw [HE.out, if_neg (by simp)]; exact ⟨_, _, _, _, rfl, (HBw.out _ _ st (by simp)).2, HR.out _ _ st⟩)
     case hr => simp [results, Try.results36, go_sem, hc, mailV]; try rfl
end Go.Proofs.Ytflfjpopfapogaa
