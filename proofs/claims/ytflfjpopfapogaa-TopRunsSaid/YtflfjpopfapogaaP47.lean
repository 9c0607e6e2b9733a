/- Walks and plain laws that the claim rests on, part 47. -/
import Derived.Test.YtflfjpopfapogaaP46
import Derived.Test.YtflfjpopfapogaaP28
set_option linter.unusedSimpArgs false
set_option linter.unusedVariables false
/- The walk through the cluster's Do: frames delivered, copied, dropped. -/
namespace Go.Proofs.Ytflfjpopfapogaa
open Go.RowKit
theorem wrap_succ (i : Nat) (h : i < 1000000) : IntKind.i64.wrap ((i : Int) + 1) = (i : Int) + 1 := by
 simp [IntKind.wrap, IntKind.bits, IntKind.signed]
 omega
section
variable {w0 Wd W : World} {M0 : List Nat} {own : Blks} {X D : Nat → Prop} {gc : Nat} {kg : List Nat} {C : Clu}
set_option maxRecDepth 100000 in
set_option maxHeartbeats 8000000 in
theorem cluster_do_drop (P : Clus w0 M0 own X Wd D gc kg C W) (ha : ¬ 300 ≤ C.acts) (ah tt : Int) (i : Nat) (x : Req) (la : Option Addr) (lc : Nat) (ga : Option Addr) (gx : Nat) (hi : i < C.net.length) (l : List UInt8) (hs : C.net[i]? = some ⟨l.toArray⟩) (hl : l.length ≤ 100000) :
  Calls Try.prog 16 #[.pointer (some ⟨gc, 0, none⟩), deedV ⟨4, ah, tt, i, x⟩ la lc ga gx] W fun e W' => e = .returned (RepV ⟨0, (⟨l.toArray⟩ : ByteArray).size, ⟨#[]⟩⟩) ∧ Clus w0 M0 own X Wd D gc kg ({ ({ C with acts := C.acts + 1 } : Clu) with net := ({ C with acts := C.acts + 1 } : Clu).net.eraseIdx i }) W' := by
 unfold deedV
 have hi60 := P.okC.netN
 have en : C.net = ({ C with acts := C.acts + 1 } : Clu).net := rfl
 have hlz : (⟨l.toArray⟩ : ByteArray).size = l.length := by show l.toArray.size = _; simp
 rw [en] at hi hs hi60
 clear en
 obtain ⟨C6, hC6⟩ : ∃ C6 : Clu, ({ C with acts := C.acts + 1 } : Clu) = C6 := ⟨_, rfl⟩
 rw [hC6]
 have HC6 := Lib.hid hC6
 clear hC6
 rw [HC6.out] at hi hs hi60
 have d0 : decide ((i : Int) < 0) = false := by simp
 have d1 : decide ((C6.net.length : Int) ≤ i) = false := by simp; omega
 have d8 : ¬ C6.net.length ≤ i := by omega
 have hact := P.okC.acts
 have hok5 := P.okC.acting ha
 obtain ⟨ok0, BB0, na0, nc0, L0, hA0, -, -, -⟩ := P.open
 have HCA := Lib.hid (fun (U : World) (hb : Below W.heap.size W U) => hA0.cellB hb hA0.cells.acts)
 have hgcW := hA0.gcLt
 clear hA0
 have da : decide ((300 : Int) ≤ C.acts) = false := by simpa using ha
 obtain ⟨B0, Y, Q, hB0, back⟩ := P.enter
 have st := St.start W
 go_enter Try.func16, Try.ntmps16
 go_upto_region 3 with (first | go_skip | (with_reducible refine at_box 38 ?_; refine mem_box st (wanted_none rfl) 38 _ rfl _ rfl _ rfl ?_; clear st; intro g3 w3 hg3 st hg3b; clear hg3b; simp [Act.eval, Act.put, Value.cells, putL] at st) | (with_reducible refine at_alloc 41 ?_; refine mem_alloc st (wanted_none rfl) 41 rfl _ Try.zeroValue41 _ rfl ?_; clear st; intro g4 w4 hg4 st hg4b; clear hg4b; simp [Act.eval, Act.put, Value.cells, putL] at st))
 have Q1 := Q.walk st
 have f0 := HCA.out _ st.below
 obtain ⟨ok, BB, na, nc, L, hQ⟩ := Q1.raw
 have hA := hQ.at_
 have hlen := hA.cells.len
 have stc := St.hand hA.blk
 have HST4 := Lib.hid st
 clear Q Q1 st HCA
 go_upto_region 6 with (first | go_skip | ((with_reducible refine at_store 3 ?_); go_must (refine mem_store stc (wanted_none rfl) 3 _ _ rfl gc 186 rfl (.int .i64 (C.acts + 1)) rfl [.int .i64 (C.acts + 1)] rfl Try.sizeOf3 (by simp [Value.oneCell']) 0 _ _ rfl (by simp only [List.length_cons, List.length_nil]; omega) ?_; intro w5 st5 hm5 hz5)))
 obtain ⟨ok2, hQ2⟩ := hQ.cells (C' := { C with acts := C.acts + 1 }) hok5 st5 (List.mem_of_getElem? (i := 0) rfl) ((hA.old st5).setActs (C.acts + 1)) rfl rfl
 have P2 := hQ2.clus
 have HOLD := Lib.hid (show W.heap.size ≤ w5.heap.size ∧ ∀ b, b < W.heap.size → b ≠ gc → w5.heap[b]? = W.heap[b]? from ⟨by have := HST4.out.size; omega, fun b hb hne => (hm5 b hne).trans (HST4.out.frame b hb (by simp))⟩)
 clear HST4 hQ hQ2 hA stc st5 hm5 hz5 hlen f0 da hact hok5 ha P
 rw [HC6.out] at P2
 have st := P2.st.rebase
 simp only [List.map_cons, List.map_nil] at st
 go_upto_region 14 with (first | go_skip | (with_reducible refine at_load 3 ?_; refine memX st 3 _ rfl Try.isAgg3 rfl ?_))
 try simp only [kP, kA, kS, kZ]
 have P2d := P2.walk st.drew
 obtain ⟨ok6, BB6, na6, nc6, L6, hA6, hno6, -, hTo6⟩ := P2d.open
 have HNT := Lib.hid (show ∀ (U : World) (bl : Blks), St [g3, g4] w5.drew U bl → U.cell? ⟨gc, 185, none⟩ = some (.slice na6 C6.net.length nc6) from fun U bl hU => hA6.cellAt (own := [(g3, 38, [.int .i64 4, .int .i64 ah, .int .i64 tt, .int .i64 i, .int .i64 x.kind, .int .i64 x.h, .int .i64 x.t, .int .i64 x.n, .int .i64 x.c, .slice la x.label.length lc, .slice ga x.grants.length gx, .string x.text]), (g4, 41, [.int .i64 0, .int .i64 0, .string ⟨#[]⟩])]) hno6 hU hA6.cells.net)
 have hnr := hA6.net
 clear hA6 hTo6 hno6 P2d
 refine det_region (by kernel_rfl) 13 rfl (fun U => St [g3, g4] w5.drew U [(g3, 38, [.int .i64 4, .int .i64 ah, .int .i64 tt, .int .i64 i, .int .i64 x.kind, .int .i64 x.h, .int .i64 x.t, .int .i64 x.n, .int .i64 x.c, .slice la x.label.length lc, .slice ga x.grants.length gx, .string x.text]), (g4, 41, [.int .i64 0, .int .i64 0, .string ⟨#[]⟩])]) (st.drew.rebase) (by decide +kernel) ?_
 refine detS 0 rfl ?_; simp only [kP, kA, kS, kZ]
 refine detT 1 rfl (fun W hW => St.run_load hW 0 3 _ rfl Try.isAgg3 rfl rfl rfl) ?_; simp only [kP, kA, kS, kZ]
 refine detS 2 rfl ?_; simp only [kP, kA, kS, kZ]; refine detS 3 rfl ?_; simp only [kP, kA, kS, kZ]; refine detS 4 rfl ?_; simp only [kP, kA, kS, kZ]
 refine detT 5 rfl (fun W hW => St.run_load hW 0 3 _ rfl Try.isAgg3 rfl rfl rfl) ?_; simp only [kP, kA, kS, kZ]
 refine detS 6 rfl ?_; simp only [kP, kA, kS, kZ]; refine detS 7 rfl ?_; simp only [kP, kA, kS, kZ]; refine detS 8 rfl ?_; simp only [kP, kA, kS, kZ]
 refine detT 9 rfl (fun U hU => run_cell_one 70 _ rfl Try.isAgg70 gc 185 rfl _ (HNT.out U _ hU)) ?_; simp only [kP, kA, kS, kZ]
 refine detS 10 rfl ?_; simp only [kP, kA, kS, kZ]; refine detS 11 rfl ?_; simp only [kP, kA, kS, kZ]; refine detS 12 rfl ?_; simp only [kP, kA, kS, kZ]
 refine det_done (by decide +kernel) ?_
 clear st hnr HNT
 intro U st
 replace st := St.back (P2.st.rebase.drew) st
 go_upto_region 16 with (first | go_skip | fail)
 try simp only [kP, kA, kS, kZ]
 have P2e := P2.walk st.drew
 obtain ⟨ok7, BB7, na7, nc7, L7, hA7, hno7, -, -⟩ := P2e.open
 obtain ⟨gn, on, cs, hna, -, hgl, hcs, -, -, hcc⟩ := (hA7.net.slr (ok := fun _ => True) fun _ _ => trivial).2.2.2 i _ hs
 unfold RStr at hcs
 subst hcs
 have hgn7 : gn ∈ cluB gc na7 BB7 := mem_cluB.2 (.inr (.inl (by rw [hna]; rfl)))
 have HNT7 := Lib.hid (show ∀ (V : World) (bl : Blks), St [g3, g4] U.drew V bl → V.cell? ⟨gc, 185, none⟩ = some (.slice (some ⟨gn, on, none⟩) C6.net.length nc7) from fun V bl hV => hA7.cellAt (own := [(g3, 38, [.int .i64 4, .int .i64 ah, .int .i64 tt, .int .i64 i, .int .i64 x.kind, .int .i64 x.h, .int .i64 x.t, .int .i64 x.n, .int .i64 x.c, .slice la x.label.length lc, .slice ga x.grants.length gx, .string x.text]), (g4, 41, [.int .i64 0, .int .i64 0, .string ⟨#[]⟩])]) hno7 hV (by rw [← hna]; exact hA7.cells.net))
 have hg3n : gn ≠ g3 ∧ gn ≠ g4 := ⟨fun e => hno7 ((g3, 38, [.int .i64 4, .int .i64 ah, .int .i64 tt, .int .i64 i, .int .i64 x.kind, .int .i64 x.h, .int .i64 x.t, .int .i64 x.n, .int .i64 x.c, .slice la x.label.length lc, .slice ga x.grants.length gx, .string x.text])) (by simp) (by simp only; rw [← e]; exact hgn7), fun e => hno7 ((g4, 41, [.int .i64 0, .int .i64 0, .string ⟨#[]⟩])) (by simp) (by simp only; rw [← e]; exact hgn7)⟩
 have HSC := Lib.hid (show ∀ (V : World) (bl : Blks), St [g3, g4] U.drew V bl → V.cell? ⟨gn, on + i, none⟩ = some (.string ⟨l.toArray⟩) from fun V bl hV => by
  rw [World.cell?_of_block (w := U.drew) (a := ⟨gn, on + i, none⟩) (hV.frame gn hgl (by simp; exact hg3n))]
  simpa using hcc 0 _ rfl)
 clear hA7 hno7 P2e hcc hgn7 hg3n hna
 have hi7 : (i : Int) < C6.net.length := by omega
 have stR := st.drew
 refine det_region (by kernel_rfl) 9 rfl (fun V => St [g3, g4] U.drew V [(g3, 38, [.int .i64 4, .int .i64 ah, .int .i64 tt, .int .i64 i, .int .i64 x.kind, .int .i64 x.h, .int .i64 x.t, .int .i64 x.n, .int .i64 x.c, .slice la x.label.length lc, .slice ga x.grants.length gx, .string x.text]), (g4, 41, [.int .i64 0, .int .i64 0, .string ⟨#[]⟩])]) (stR.rebase) (by decide +kernel) ?_
 refine detS 0 rfl ?_; simp only [kP, kA, kS, kZ]; refine detS 1 rfl ?_; simp only [kP, kA, kS, kZ]; refine detS 2 rfl ?_; simp only [kP, kA, kS, kZ]
 refine detT 3 rfl (fun V hV => run_cell_one 70 _ rfl Try.isAgg70 gc 185 rfl _ (HNT7.out V _ hV)) ?_; simp only [kP, kA, kS, kZ]
 refine detS 4 rfl ?_; simp only [kP, kA, kS, kZ]
 refine detT 5 rfl (fun W hW => St.run_load hW 0 3 _ rfl Try.isAgg3 rfl rfl rfl) ?_; simp only [kP, kA, kS, kZ]
 refine detT (v := .pointer (some ⟨gn, on + i, none⟩)) 6 rfl (fun W hW => by (first | (go_simp; done) | (go_simp; omega) | (go_simp; intro h; omega) | (go_simp; simp [add_plain]; done))) ?_; simp only [kP, kA, kS, kZ]
 refine detT 7 rfl (fun V hV => run_cell_one 9 _ rfl Try.isAgg9 gn (on + i) rfl _ (HSC.out V _ hV)) ?_; simp only [kP, kA, kS, kZ]
 refine detS 8 rfl ?_; simp only [kP, kA, kS, kZ]
 refine det_done (by decide +kernel) ?_
 clear st HNT7 HSC
 intro U2 st
 replace st := St.back stR st
 clear stR
 go_upto_region 18 with (first | go_skip | (with_reducible refine at_load 3 ?_; refine memX st 3 _ rfl Try.isAgg3 rfl ?_))
 try simp only [kP, kA, kS, kZ]
 replace st := st.drew
 have P2f := P2.walk st
 obtain ⟨ok8, BB8, na8, nc8, L8, hA8, hno8, -, hTo8⟩ := P2f.open
 have hok7 := P2f.okC.erase i
 have HDel := Lib.hid (slices_Delete_string U2.drew na8 nc8 C6.net hA8.net i (by omega) (by omega))
 have hlen8 := hA8.cells.len
 have hI : (World.drew U2).cell? ⟨gc, 185, none⟩ = some (.slice na8 C6.net.length nc8) ∧ (World.drew U2).cell? ⟨g3, 3, none⟩ = some (.int .i64 i) := ⟨hA8.cell hA8.cells.net, st.cell (i := 0) rfl 3⟩
 have HI0 := Lib.hid hI
 have h3l := st.ltAt (i := 0) rfl
 clear st P2f
 refine lex_tail (by kernel_rfl) 13 1 [13] rfl (by decide +kernel) (fun V => V.cell? ⟨gc, 185, none⟩ = some (.slice na8 C6.net.length nc8) ∧ V.cell? ⟨g3, 3, none⟩ = some (.int .i64 i)) ?_
 refine lexS 0 rfl hI ?_; simp only [kP, kA, kS, kZ]
 refine lexS 1 rfl hI ?_; simp only [kP, kA, kS, kZ]
 refine lexS 2 rfl hI ?_; simp only [kP, kA, kS, kZ]
 refine lexS 3 rfl hI ?_; simp only [kP, kA, kS, kZ]
 refine lexT 4 rfl hI (fun V hV => run_cell_one 70 _ rfl Try.isAgg70 gc 185 rfl _ hV.1) ?_; simp only [kP, kA, kS, kZ]
 refine lexS 5 rfl hI ?_; simp only [kP, kA, kS, kZ]
 refine lexT 6 rfl hI (fun V hV => run_cell_one 3 _ rfl Try.isAgg3 g3 3 rfl _ hV.2) ?_; simp only [kP, kA, kS, kZ]
 refine lexS 7 rfl hI ?_; simp only [kP, kA, kS, kZ]
 refine lexT 8 rfl hI (fun V hV => run_cell_one 3 _ rfl Try.isAgg3 g3 3 rfl _ hV.2) ?_; simp only [kP, kA, kS, kZ]
 refine lexT (v := .int .i64 ((i : Int) + 1)) 9 rfl hI (fun W hW => by (first | (go_simp; done) | (go_simp; omega) | (go_simp; rw [wrap_succ i (by omega)]) | (simp [execOp]; done))) ?_; simp only [kP, kA, kS, kZ]
 clear hI
 refine lexO 10 rfl fun K hK => ?_
 refine wp_callee (f := 24) (by first | (go_simp; done) | (go_simp; rfl)) ?_
 refine HDel.out.mono ?_
 rintro e V6 ⟨gn8, egn, rfl, hRow, stD6⟩
 refine ⟨_, rfl, ?_⟩
 have hgnB : gn8 ∈ cluB gc na8 BB8 := mem_cluB.2 (.inr (.inl egn))
 have hgng : gn8 ≠ gc := fun e => by
  have := hA8.nodup
  unfold cluB at this
  rw [egn] at this
  exact (List.nodup_cons.1 this).1 (List.mem_append.2 (.inl (by simp [e])))
 have hgn3 : gn8 ≠ g3 := fun e => hno8 ((g3, 38, [.int .i64 4, .int .i64 ah, .int .i64 tt, .int .i64 i, .int .i64 x.kind, .int .i64 x.h, .int .i64 x.t, .int .i64 x.n, .int .i64 x.c, .slice la x.label.length lc, .slice ga x.grants.length gx, .string x.text])) (by simp) (by simp only; rw [← e]; exact hgnB)
 have hgb6 : V6.heap[gc]? = some (.cells L8.toArray 72 (0, 0)) := (stD6.frame gc hA8.gcLt (by simp; exact fun e => hgng e.symm)).trans hA8.blk
 have hI : V6.cell? ⟨gc, 185, none⟩ = some (.slice na8 C6.net.length nc8) ∧ V6.cell? ⟨g3, 3, none⟩ = some (.int .i64 i) :=
  ⟨(World.cell?_of_block (w := U2.drew) (a := ⟨gc, 185, none⟩) (stD6.frame gc hA8.gcLt (by simp; exact fun e => hgng e.symm))).trans HI0.out.1, (World.cell?_of_block (w := U2.drew) (a := ⟨g3, 3, none⟩) (stD6.frame g3 h3l (by simp; exact fun e => hgn3 e.symm))).trans HI0.out.2⟩
 refine hK _ _ (hI) ?_; clear hK; simp only [kP, kA, kS, kZ]
 refine lexS 11 rfl hI ?_; simp only [kP, kA, kS, kZ]
 refine lexS 12 rfl hI ?_; simp only [kP, kA, kS, kZ]
 clear hI
 refine lex_done (by decide +kernel) ?_
 refine tail_last 13 rfl (by first | exact wanted_none rfl | exact wanted_some rfl rfl) (by decide +kernel) (by decide +kernel) fun K hK => ?_
 have stc := stD6.holding hgb6 (by simp)
 simp only [List.nil_append] at stc
 refine wp_store stc 70 _ _ rfl gc 185 rfl (.slice na8 (C6.net.length - 1) nc8) rfl [.slice na8 (C6.net.length - 1) nc8] rfl Try.sizeOf70 (by simp [Value.oneCell']) 0 _ _ rfl (by simp only [List.length_cons, List.length_nil]; omega) ?_
 intro V7 stu hm7 hz7
 refine hK _ _ ?_; clear hK
 have hle : (C6.net.eraseIdx i).length = C6.net.length - 1 := by rw [List.length_eraseIdx, if_pos (by omega)]
 have hL7 := (hA8.cells.move (ok' := fun b => (ok8 b ∨ U2.drew.heap.size ≤ b) ∧ b ∉ cluB gc na8 BB8) (W' := V7) (by have := stD6.size; omega) (fun b hb ho => ⟨⟨.inl ho, fun hm => hA8.apart b hm ho⟩, (hm7 b fun e => hA8.apart b (mem_cluB.2 (.inl e)) ho).trans (stD6.frame b hb (by simp; rintro rfl; exact hA8.apart _ hgnB ho))⟩)).setNet (C6.net.eraseIdx i) na8 nc8
 rw [hle] at hL7
 have P3 := hTo8 V7 _ hok7 (hA8.close (by rw [egn]; exact stu.sub (own' := []) (by simp) List.Pairwise.nil) (stu.blk _ (List.mem_of_getElem? (i := 0) rfl)) hL7 rfl (hRow.kept (fun b e => hm7 b (by rw [egn] at e; cases e; exact hgng)) fun _ _ r => r) fun b e => .inl e)
 have st := P3.st.rebase
 clear stc stu stD6 hA8 hTo8 hRow hL7 hm7 hz7 hgb6 egn hgnB hgng hgn3 hno8 h3l hle HI0 HDel hok7 hlen8
 simp only [List.map_cons, List.map_nil] at st
 go_wp2_with (first | go_skip | (with_reducible refine at_load 3 ?_; refine memX st 3 _ rfl Try.isAgg3 rfl ?_) | (with_reducible refine at_store 41 ?_; refine memS st 41 _ _ rfl _ Try.sizeOf41 ⟨1, _, _, _, _, _, rfl, rfl, rfl, rfl, rfl, rfl, ?_⟩; clear st; intro w9 st hw9m hw9z; simp [Act.eval, Act.put, Value.cells, putL] at st))
 have hc := fun j => st.cell (i := 1) rfl j
 refine bodyPost_ret (v := RepV (⟨0, (⟨l.toArray⟩ : ByteArray).size, ⟨#[]⟩⟩)) ?hr rfl ⟨rfl, back _ _ _ (P3.walk st)⟩
 case hr => simp [results, Try.results16, go_sem, hc, RepV, errR]; try rfl
set_option maxRecDepth 100000 in
set_option maxHeartbeats 8000000 in
theorem cluster_do_copy (P : Clus w0 M0 own X Wd D gc kg C W) (ha : ¬ 300 ≤ C.acts) (ah tt : Int) (i : Nat) (x : Req) (la : Option Addr) (lc : Nat) (ga : Option Addr) (gx : Nat) (hi : i < C.net.length) (l : List UInt8) (hs : C.net[i]? = some ⟨l.toArray⟩) (hl : l.length ≤ 100000) :
  Calls Try.prog 16 #[.pointer (some ⟨gc, 0, none⟩), deedV ⟨3, ah, tt, i, x⟩ la lc ga gx] W fun e W' => e = .returned (RepV ⟨0, (⟨l.toArray⟩ : ByteArray).size, ⟨#[]⟩⟩) ∧ Clus w0 M0 own X Wd D gc kg (comeC { C with acts := C.acts + 1 } ⟨l.toArray⟩) W' := by
 unfold deedV
 have hi60 := P.okC.netN
 have en : C.net = ({ C with acts := C.acts + 1 } : Clu).net := rfl
 have hlz : (⟨l.toArray⟩ : ByteArray).size = l.length := by show l.toArray.size = _; simp
 rw [en] at hi hs hi60
 clear en
 obtain ⟨C6, hC6⟩ : ∃ C6 : Clu, ({ C with acts := C.acts + 1 } : Clu) = C6 := ⟨_, rfl⟩
 rw [hC6]
 have HC6 := Lib.hid hC6
 clear hC6
 rw [HC6.out] at hi hs hi60
 have d0 : decide ((i : Int) < 0) = false := by simp
 have d1 : decide ((C6.net.length : Int) ≤ i) = false := by simp; omega
 have d8 : ¬ C6.net.length ≤ i := by omega
 obtain ⟨s2, hs2⟩ : ∃ s2, comeC (C6) ⟨l.toArray⟩ = s2 := ⟨_, rfl⟩
 rw [hs2]
 have HS2 := Lib.hid hs2
 clear hs2
 have hact := P.okC.acts
 have hok5 := P.okC.acting ha
 obtain ⟨ok0, BB0, na0, nc0, L0, hA0, -, -, -⟩ := P.open
 have HCA := Lib.hid (fun (U : World) (hb : Below W.heap.size W U) => hA0.cellB hb hA0.cells.acts)
 have hgcW := hA0.gcLt
 clear hA0
 have da : decide ((300 : Int) ≤ C.acts) = false := by simpa using ha
 obtain ⟨B0, Y, Q, hB0, back⟩ := P.enter
 have st := St.start W
 go_enter Try.func16, Try.ntmps16
 go_upto_region 3 with (first | go_skip | (with_reducible refine at_box 38 ?_; refine mem_box st (wanted_none rfl) 38 _ rfl _ rfl _ rfl ?_; clear st; intro g3 w3 hg3 st hg3b; clear hg3b; simp [Act.eval, Act.put, Value.cells, putL] at st) | (with_reducible refine at_alloc 41 ?_; refine mem_alloc st (wanted_none rfl) 41 rfl _ Try.zeroValue41 _ rfl ?_; clear st; intro g4 w4 hg4 st hg4b; clear hg4b; simp [Act.eval, Act.put, Value.cells, putL] at st))
 have Q1 := Q.walk st
 have f0 := HCA.out _ st.below
 obtain ⟨ok, BB, na, nc, L, hQ⟩ := Q1.raw
 have hA := hQ.at_
 have hlen := hA.cells.len
 have stc := St.hand hA.blk
 have HST4 := Lib.hid st
 clear Q Q1 st HCA
 go_upto_region 6 with (first | go_skip | ((with_reducible refine at_store 3 ?_); go_must (refine mem_store stc (wanted_none rfl) 3 _ _ rfl gc 186 rfl (.int .i64 (C.acts + 1)) rfl [.int .i64 (C.acts + 1)] rfl Try.sizeOf3 (by simp [Value.oneCell']) 0 _ _ rfl (by simp only [List.length_cons, List.length_nil]; omega) ?_; intro w5 st5 hm5 hz5)))
 obtain ⟨ok2, hQ2⟩ := hQ.cells (C' := { C with acts := C.acts + 1 }) hok5 st5 (List.mem_of_getElem? (i := 0) rfl) ((hA.old st5).setActs (C.acts + 1)) rfl rfl
 have P2 := hQ2.clus
 have HOLD := Lib.hid (show W.heap.size ≤ w5.heap.size ∧ ∀ b, b < W.heap.size → b ≠ gc → w5.heap[b]? = W.heap[b]? from ⟨by have := HST4.out.size; omega, fun b hb hne => (hm5 b hne).trans (HST4.out.frame b hb (by simp))⟩)
 clear HST4 hQ hQ2 hA stc st5 hm5 hz5 hlen f0 da hact hok5 ha P
 rw [HC6.out] at P2
 have st := P2.st.rebase
 simp only [List.map_cons, List.map_nil] at st
 go_upto_region 14 with (first | go_skip | (with_reducible refine at_load 3 ?_; refine memX st 3 _ rfl Try.isAgg3 rfl ?_))
 try simp only [kP, kA, kS, kZ]
 have P2d := P2.walk st.drew
 obtain ⟨ok6, BB6, na6, nc6, L6, hA6, hno6, -, hTo6⟩ := P2d.open
 have HNT := Lib.hid (show ∀ (U : World) (bl : Blks), St [g3, g4] w5.drew U bl → U.cell? ⟨gc, 185, none⟩ = some (.slice na6 C6.net.length nc6) from fun U bl hU => hA6.cellAt (own := [(g3, 38, [.int .i64 3, .int .i64 ah, .int .i64 tt, .int .i64 i, .int .i64 x.kind, .int .i64 x.h, .int .i64 x.t, .int .i64 x.n, .int .i64 x.c, .slice la x.label.length lc, .slice ga x.grants.length gx, .string x.text]), (g4, 41, [.int .i64 0, .int .i64 0, .string ⟨#[]⟩])]) hno6 hU hA6.cells.net)
 have hnr := hA6.net
 clear hA6 hTo6 hno6 P2d
 refine det_region (by kernel_rfl) 13 rfl (fun U => St [g3, g4] w5.drew U [(g3, 38, [.int .i64 3, .int .i64 ah, .int .i64 tt, .int .i64 i, .int .i64 x.kind, .int .i64 x.h, .int .i64 x.t, .int .i64 x.n, .int .i64 x.c, .slice la x.label.length lc, .slice ga x.grants.length gx, .string x.text]), (g4, 41, [.int .i64 0, .int .i64 0, .string ⟨#[]⟩])]) (st.drew.rebase) (by decide +kernel) ?_
 refine detS 0 rfl ?_; simp only [kP, kA, kS, kZ]
 refine detT 1 rfl (fun W hW => St.run_load hW 0 3 _ rfl Try.isAgg3 rfl rfl rfl) ?_; simp only [kP, kA, kS, kZ]
 refine detS 2 rfl ?_; simp only [kP, kA, kS, kZ]; refine detS 3 rfl ?_; simp only [kP, kA, kS, kZ]; refine detS 4 rfl ?_; simp only [kP, kA, kS, kZ]
 refine detT 5 rfl (fun W hW => St.run_load hW 0 3 _ rfl Try.isAgg3 rfl rfl rfl) ?_; simp only [kP, kA, kS, kZ]
 refine detS 6 rfl ?_; simp only [kP, kA, kS, kZ]; refine detS 7 rfl ?_; simp only [kP, kA, kS, kZ]; refine detS 8 rfl ?_; simp only [kP, kA, kS, kZ]
 refine detT 9 rfl (fun U hU => run_cell_one 70 _ rfl Try.isAgg70 gc 185 rfl _ (HNT.out U _ hU)) ?_; simp only [kP, kA, kS, kZ]
 refine detS 10 rfl ?_; simp only [kP, kA, kS, kZ]; refine detS 11 rfl ?_; simp only [kP, kA, kS, kZ]; refine detS 12 rfl ?_; simp only [kP, kA, kS, kZ]
 refine det_done (by decide +kernel) ?_
 clear st hnr HNT
 intro U st
 replace st := St.back (P2.st.rebase.drew) st
 go_upto_region 16 with (first | go_skip | fail)
 try simp only [kP, kA, kS, kZ]
 have P2e := P2.walk st.drew
 obtain ⟨ok7, BB7, na7, nc7, L7, hA7, hno7, -, -⟩ := P2e.open
 obtain ⟨gn, on, cs, hna, -, hgl, hcs, -, -, hcc⟩ := (hA7.net.slr (ok := fun _ => True) fun _ _ => trivial).2.2.2 i _ hs
 unfold RStr at hcs
 subst hcs
 have hgn7 : gn ∈ cluB gc na7 BB7 := mem_cluB.2 (.inr (.inl (by rw [hna]; rfl)))
 have HNT7 := Lib.hid (show ∀ (V : World) (bl : Blks), St [g3, g4] U.drew V bl → V.cell? ⟨gc, 185, none⟩ = some (.slice (some ⟨gn, on, none⟩) C6.net.length nc7) from fun V bl hV => hA7.cellAt (own := [(g3, 38, [.int .i64 3, .int .i64 ah, .int .i64 tt, .int .i64 i, .int .i64 x.kind, .int .i64 x.h, .int .i64 x.t, .int .i64 x.n, .int .i64 x.c, .slice la x.label.length lc, .slice ga x.grants.length gx, .string x.text]), (g4, 41, [.int .i64 0, .int .i64 0, .string ⟨#[]⟩])]) hno7 hV (by rw [← hna]; exact hA7.cells.net))
 have hg3n : gn ≠ g3 ∧ gn ≠ g4 := ⟨fun e => hno7 ((g3, 38, [.int .i64 3, .int .i64 ah, .int .i64 tt, .int .i64 i, .int .i64 x.kind, .int .i64 x.h, .int .i64 x.t, .int .i64 x.n, .int .i64 x.c, .slice la x.label.length lc, .slice ga x.grants.length gx, .string x.text])) (by simp) (by simp only; rw [← e]; exact hgn7), fun e => hno7 ((g4, 41, [.int .i64 0, .int .i64 0, .string ⟨#[]⟩])) (by simp) (by simp only; rw [← e]; exact hgn7)⟩
 have HSC := Lib.hid (show ∀ (V : World) (bl : Blks), St [g3, g4] U.drew V bl → V.cell? ⟨gn, on + i, none⟩ = some (.string ⟨l.toArray⟩) from fun V bl hV => by
  rw [World.cell?_of_block (w := U.drew) (a := ⟨gn, on + i, none⟩) (hV.frame gn hgl (by simp; exact hg3n))]
  simpa using hcc 0 _ rfl)
 clear hA7 hno7 P2e hcc hgn7 hg3n hna
 have hi7 : (i : Int) < C6.net.length := by omega
 have stR := st.drew
 refine det_region (by kernel_rfl) 9 rfl (fun V => St [g3, g4] U.drew V [(g3, 38, [.int .i64 3, .int .i64 ah, .int .i64 tt, .int .i64 i, .int .i64 x.kind, .int .i64 x.h, .int .i64 x.t, .int .i64 x.n, .int .i64 x.c, .slice la x.label.length lc, .slice ga x.grants.length gx, .string x.text]), (g4, 41, [.int .i64 0, .int .i64 0, .string ⟨#[]⟩])]) (stR.rebase) (by decide +kernel) ?_
 refine detS 0 rfl ?_; simp only [kP, kA, kS, kZ]; refine detS 1 rfl ?_; simp only [kP, kA, kS, kZ]; refine detS 2 rfl ?_; simp only [kP, kA, kS, kZ]
 refine detT 3 rfl (fun V hV => run_cell_one 70 _ rfl Try.isAgg70 gc 185 rfl _ (HNT7.out V _ hV)) ?_; simp only [kP, kA, kS, kZ]
 refine detS 4 rfl ?_; simp only [kP, kA, kS, kZ]
 refine detT 5 rfl (fun W hW => St.run_load hW 0 3 _ rfl Try.isAgg3 rfl rfl rfl) ?_; simp only [kP, kA, kS, kZ]
 refine detT (v := .pointer (some ⟨gn, on + i, none⟩)) 6 rfl (fun W hW => by (first | (go_simp; done) | (go_simp; omega) | (go_simp; intro h; omega) | (go_simp; simp [add_plain]; done))) ?_; simp only [kP, kA, kS, kZ]
 refine detT 7 rfl (fun V hV => run_cell_one 9 _ rfl Try.isAgg9 gn (on + i) rfl _ (HSC.out V _ hV)) ?_; simp only [kP, kA, kS, kZ]
 refine detS 8 rfl ?_; simp only [kP, kA, kS, kZ]
 refine det_done (by decide +kernel) ?_
 clear st HNT7 HSC
 intro U2 st
 replace st := St.back stR st
 clear stR
 have HCM := Lib.hid (cluster_come (P2.walk st) l (by omega))
 rw [HS2.out] at HCM
 go_wp2_with (first
  | go_skip | (with_reducible refine at_load 3 ?_; refine memX st 3 _ rfl Try.isAgg3 rfl ?_)
  | (go_at_call 25; go_must (refine HCM.out.mono ?_; rintro e V9 ⟨⟨u, rfl⟩, P4⟩; have stP := P4.st.rebase; clear st; have st := stP; clear stP))
  | (with_reducible refine at_store 41 ?_; refine memS st 41 _ _ rfl _ Try.sizeOf41 ⟨1, _, _, _, _, _, rfl, rfl, rfl, rfl, rfl, rfl, ?_⟩; clear st; intro w9 st hw9m hw9z; simp [Act.eval, Act.put, Value.cells, putL] at st))
 have hc := fun j => st.cell (i := 1) rfl j
 refine bodyPost_ret (v := RepV (⟨0, (⟨l.toArray⟩ : ByteArray).size, ⟨#[]⟩⟩)) ?hr rfl ⟨rfl, back _ _ _ (P4.walk st)⟩
 case hr => simp [results, Try.results16, go_sem, hc, RepV, errR]; try rfl
set_option maxRecDepth 100000 in
set_option maxHeartbeats 8000000 in
theorem cluster_do_deliver (P : Clus w0 M0 own X Wd D gc kg C W) (ha : ¬ 300 ≤ C.acts) (ah tt : Int) (i : Nat) (x : Req) (la : Option Addr) (lc : Nat) (ga : Option Addr) (gx : Nat) (hi : i < C.net.length) (l : List UInt8) (hs : C.net[i]? = some ⟨l.toArray⟩) (hl : l.length ≤ 100000) :
  Calls Try.prog 16 #[.pointer (some ⟨gc, 0, none⟩), deedV ⟨2, ah, tt, i, x⟩ la lc ga gx] W fun e W' => e = .returned (RepV ⟨0, (⟨l.toArray⟩ : ByteArray).size, ⟨#[]⟩⟩) ∧ Clus w0 M0 own X Wd D gc kg (comeC { ({ C with acts := C.acts + 1 } : Clu) with net := ({ C with acts := C.acts + 1 } : Clu).net.eraseIdx i } ⟨l.toArray⟩) W' := by
 unfold deedV
 have hi60 := P.okC.netN
 have en : C.net = ({ C with acts := C.acts + 1 } : Clu).net := rfl
 have hlz : (⟨l.toArray⟩ : ByteArray).size = l.length := by show l.toArray.size = _; simp
 rw [en] at hi hs hi60
 clear en
 obtain ⟨C6, hC6⟩ : ∃ C6 : Clu, ({ C with acts := C.acts + 1 } : Clu) = C6 := ⟨_, rfl⟩
 rw [hC6]
 have HC6 := Lib.hid hC6
 clear hC6
 rw [HC6.out] at hi hs hi60
 have d0 : decide ((i : Int) < 0) = false := by simp
 have d1 : decide ((C6.net.length : Int) ≤ i) = false := by simp; omega
 have d8 : ¬ C6.net.length ≤ i := by omega
 obtain ⟨s2, hs2⟩ : ∃ s2, comeC ({ C6 with net := C6.net.eraseIdx i }) ⟨l.toArray⟩ = s2 := ⟨_, rfl⟩
 rw [hs2]
 have HS2 := Lib.hid hs2
 clear hs2
 have hact := P.okC.acts
 have hok5 := P.okC.acting ha
 obtain ⟨ok0, BB0, na0, nc0, L0, hA0, -, -, -⟩ := P.open
 have HCA := Lib.hid (fun (U : World) (hb : Below W.heap.size W U) => hA0.cellB hb hA0.cells.acts)
 have hgcW := hA0.gcLt
 clear hA0
 have da : decide ((300 : Int) ≤ C.acts) = false := by simpa using ha
 obtain ⟨B0, Y, Q, hB0, back⟩ := P.enter
 have st := St.start W
 go_enter Try.func16, Try.ntmps16
 go_upto_region 3 with (first | go_skip | (with_reducible refine at_box 38 ?_; refine mem_box st (wanted_none rfl) 38 _ rfl _ rfl _ rfl ?_; clear st; intro g3 w3 hg3 st hg3b; clear hg3b; simp [Act.eval, Act.put, Value.cells, putL] at st) | (with_reducible refine at_alloc 41 ?_; refine mem_alloc st (wanted_none rfl) 41 rfl _ Try.zeroValue41 _ rfl ?_; clear st; intro g4 w4 hg4 st hg4b; clear hg4b; simp [Act.eval, Act.put, Value.cells, putL] at st))
 have Q1 := Q.walk st
 have f0 := HCA.out _ st.below
 obtain ⟨ok, BB, na, nc, L, hQ⟩ := Q1.raw
 have hA := hQ.at_
 have hlen := hA.cells.len
 have stc := St.hand hA.blk
 have HST4 := Lib.hid st
 clear Q Q1 st HCA
 go_upto_region 6 with (first | go_skip | ((with_reducible refine at_store 3 ?_); go_must (refine mem_store stc (wanted_none rfl) 3 _ _ rfl gc 186 rfl (.int .i64 (C.acts + 1)) rfl [.int .i64 (C.acts + 1)] rfl Try.sizeOf3 (by simp [Value.oneCell']) 0 _ _ rfl (by simp only [List.length_cons, List.length_nil]; omega) ?_; intro w5 st5 hm5 hz5)))
 obtain ⟨ok2, hQ2⟩ := hQ.cells (C' := { C with acts := C.acts + 1 }) hok5 st5 (List.mem_of_getElem? (i := 0) rfl) ((hA.old st5).setActs (C.acts + 1)) rfl rfl
 have P2 := hQ2.clus
 have HOLD := Lib.hid (show W.heap.size ≤ w5.heap.size ∧ ∀ b, b < W.heap.size → b ≠ gc → w5.heap[b]? = W.heap[b]? from ⟨by have := HST4.out.size; omega, fun b hb hne => (hm5 b hne).trans (HST4.out.frame b hb (by simp))⟩)
 clear HST4 hQ hQ2 hA stc st5 hm5 hz5 hlen f0 da hact hok5 ha P
 rw [HC6.out] at P2
 have st := P2.st.rebase
 simp only [List.map_cons, List.map_nil] at st
 go_upto_region 14 with (first | go_skip | (with_reducible refine at_load 3 ?_; refine memX st 3 _ rfl Try.isAgg3 rfl ?_))
 try simp only [kP, kA, kS, kZ]
 have P2d := P2.walk st.drew
 obtain ⟨ok6, BB6, na6, nc6, L6, hA6, hno6, -, hTo6⟩ := P2d.open
 have HNT := Lib.hid (show ∀ (U : World) (bl : Blks), St [g3, g4] w5.drew U bl → U.cell? ⟨gc, 185, none⟩ = some (.slice na6 C6.net.length nc6) from fun U bl hU => hA6.cellAt (own := [(g3, 38, [.int .i64 2, .int .i64 ah, .int .i64 tt, .int .i64 i, .int .i64 x.kind, .int .i64 x.h, .int .i64 x.t, .int .i64 x.n, .int .i64 x.c, .slice la x.label.length lc, .slice ga x.grants.length gx, .string x.text]), (g4, 41, [.int .i64 0, .int .i64 0, .string ⟨#[]⟩])]) hno6 hU hA6.cells.net)
 have hnr := hA6.net
 clear hA6 hTo6 hno6 P2d
 refine det_region (by kernel_rfl) 13 rfl (fun U => St [g3, g4] w5.drew U [(g3, 38, [.int .i64 2, .int .i64 ah, .int .i64 tt, .int .i64 i, .int .i64 x.kind, .int .i64 x.h, .int .i64 x.t, .int .i64 x.n, .int .i64 x.c, .slice la x.label.length lc, .slice ga x.grants.length gx, .string x.text]), (g4, 41, [.int .i64 0, .int .i64 0, .string ⟨#[]⟩])]) (st.drew.rebase) (by decide +kernel) ?_
 refine detS 0 rfl ?_; simp only [kP, kA, kS, kZ]
 refine detT 1 rfl (fun W hW => St.run_load hW 0 3 _ rfl Try.isAgg3 rfl rfl rfl) ?_; simp only [kP, kA, kS, kZ]
 refine detS 2 rfl ?_; simp only [kP, kA, kS, kZ]; refine detS 3 rfl ?_; simp only [kP, kA, kS, kZ]; refine detS 4 rfl ?_; simp only [kP, kA, kS, kZ]
 refine detT 5 rfl (fun W hW => St.run_load hW 0 3 _ rfl Try.isAgg3 rfl rfl rfl) ?_; simp only [kP, kA, kS, kZ]
 refine detS 6 rfl ?_; simp only [kP, kA, kS, kZ]; refine detS 7 rfl ?_; simp only [kP, kA, kS, kZ]; refine detS 8 rfl ?_; simp only [kP, kA, kS, kZ]
 refine detT 9 rfl (fun U hU => run_cell_one 70 _ rfl Try.isAgg70 gc 185 rfl _ (HNT.out U _ hU)) ?_; simp only [kP, kA, kS, kZ]
 refine detS 10 rfl ?_; simp only [kP, kA, kS, kZ]; refine detS 11 rfl ?_; simp only [kP, kA, kS, kZ]; refine detS 12 rfl ?_; simp only [kP, kA, kS, kZ]
 refine det_done (by decide +kernel) ?_
 clear st hnr HNT
 intro U st
 replace st := St.back (P2.st.rebase.drew) st
 go_upto_region 16 with (first | go_skip | fail)
 try simp only [kP, kA, kS, kZ]
 have P2e := P2.walk st.drew
 obtain ⟨ok7, BB7, na7, nc7, L7, hA7, hno7, -, -⟩ := P2e.open
 obtain ⟨gn, on, cs, hna, -, hgl, hcs, -, -, hcc⟩ := (hA7.net.slr (ok := fun _ => True) fun _ _ => trivial).2.2.2 i _ hs
 unfold RStr at hcs
 subst hcs
 have hgn7 : gn ∈ cluB gc na7 BB7 := mem_cluB.2 (.inr (.inl (by rw [hna]; rfl)))
 have HNT7 := Lib.hid (show ∀ (V : World) (bl : Blks), St [g3, g4] U.drew V bl → V.cell? ⟨gc, 185, none⟩ = some (.slice (some ⟨gn, on, none⟩) C6.net.length nc7) from fun V bl hV => hA7.cellAt (own := [(g3, 38, [.int .i64 2, .int .i64 ah, .int .i64 tt, .int .i64 i, .int .i64 x.kind, .int .i64 x.h, .int .i64 x.t, .int .i64 x.n, .int .i64 x.c, .slice la x.label.length lc, .slice ga x.grants.length gx, .string x.text]), (g4, 41, [.int .i64 0, .int .i64 0, .string ⟨#[]⟩])]) hno7 hV (by rw [← hna]; exact hA7.cells.net))
 have hg3n : gn ≠ g3 ∧ gn ≠ g4 := ⟨fun e => hno7 ((g3, 38, [.int .i64 2, .int .i64 ah, .int .i64 tt, .int .i64 i, .int .i64 x.kind, .int .i64 x.h, .int .i64 x.t, .int .i64 x.n, .int .i64 x.c, .slice la x.label.length lc, .slice ga x.grants.length gx, .string x.text])) (by simp) (by simp only; rw [← e]; exact hgn7), fun e => hno7 ((g4, 41, [.int .i64 0, .int .i64 0, .string ⟨#[]⟩])) (by simp) (by simp only; rw [← e]; exact hgn7)⟩
 have HSC := Lib.hid (show ∀ (V : World) (bl : Blks), St [g3, g4] U.drew V bl → V.cell? ⟨gn, on + i, none⟩ = some (.string ⟨l.toArray⟩) from fun V bl hV => by
  rw [World.cell?_of_block (w := U.drew) (a := ⟨gn, on + i, none⟩) (hV.frame gn hgl (by simp; exact hg3n))]
  simpa using hcc 0 _ rfl)
 clear hA7 hno7 P2e hcc hgn7 hg3n hna
 have hi7 : (i : Int) < C6.net.length := by omega
 have stR := st.drew
 refine det_region (by kernel_rfl) 9 rfl (fun V => St [g3, g4] U.drew V [(g3, 38, [.int .i64 2, .int .i64 ah, .int .i64 tt, .int .i64 i, .int .i64 x.kind, .int .i64 x.h, .int .i64 x.t, .int .i64 x.n, .int .i64 x.c, .slice la x.label.length lc, .slice ga x.grants.length gx, .string x.text]), (g4, 41, [.int .i64 0, .int .i64 0, .string ⟨#[]⟩])]) (stR.rebase) (by decide +kernel) ?_
 refine detS 0 rfl ?_; simp only [kP, kA, kS, kZ]; refine detS 1 rfl ?_; simp only [kP, kA, kS, kZ]; refine detS 2 rfl ?_; simp only [kP, kA, kS, kZ]
 refine detT 3 rfl (fun V hV => run_cell_one 70 _ rfl Try.isAgg70 gc 185 rfl _ (HNT7.out V _ hV)) ?_; simp only [kP, kA, kS, kZ]
 refine detS 4 rfl ?_; simp only [kP, kA, kS, kZ]
 refine detT 5 rfl (fun W hW => St.run_load hW 0 3 _ rfl Try.isAgg3 rfl rfl rfl) ?_; simp only [kP, kA, kS, kZ]
 refine detT (v := .pointer (some ⟨gn, on + i, none⟩)) 6 rfl (fun W hW => by (first | (go_simp; done) | (go_simp; omega) | (go_simp; intro h; omega) | (go_simp; simp [add_plain]; done))) ?_; simp only [kP, kA, kS, kZ]
 refine detT 7 rfl (fun V hV => run_cell_one 9 _ rfl Try.isAgg9 gn (on + i) rfl _ (HSC.out V _ hV)) ?_; simp only [kP, kA, kS, kZ]
 refine detS 8 rfl ?_; simp only [kP, kA, kS, kZ]
 refine det_done (by decide +kernel) ?_
 clear st HNT7 HSC
 intro U2 st
 replace st := St.back stR st
 clear stR
 go_upto_region 18 with (first | go_skip | (with_reducible refine at_load 3 ?_; refine memX st 3 _ rfl Try.isAgg3 rfl ?_))
 try simp only [kP, kA, kS, kZ]
 replace st := st.drew
 have P2f := P2.walk st
 obtain ⟨ok8, BB8, na8, nc8, L8, hA8, hno8, -, hTo8⟩ := P2f.open
 have hok7 := P2f.okC.erase i
 have HDel := Lib.hid (slices_Delete_string U2.drew na8 nc8 C6.net hA8.net i (by omega) (by omega))
 have hlen8 := hA8.cells.len
 have hI : (World.drew U2).cell? ⟨gc, 185, none⟩ = some (.slice na8 C6.net.length nc8) ∧ (World.drew U2).cell? ⟨g3, 3, none⟩ = some (.int .i64 i) := ⟨hA8.cell hA8.cells.net, st.cell (i := 0) rfl 3⟩
 have HI0 := Lib.hid hI
 have h3l := st.ltAt (i := 0) rfl
 clear st P2f
 refine lex_tail (by kernel_rfl) 13 1 [13] rfl (by decide +kernel) (fun V => V.cell? ⟨gc, 185, none⟩ = some (.slice na8 C6.net.length nc8) ∧ V.cell? ⟨g3, 3, none⟩ = some (.int .i64 i)) ?_
 refine lexS 0 rfl hI ?_; simp only [kP, kA, kS, kZ]
 refine lexS 1 rfl hI ?_; simp only [kP, kA, kS, kZ]
 refine lexS 2 rfl hI ?_; simp only [kP, kA, kS, kZ]
 refine lexS 3 rfl hI ?_; simp only [kP, kA, kS, kZ]
 refine lexT 4 rfl hI (fun V hV => run_cell_one 70 _ rfl Try.isAgg70 gc 185 rfl _ hV.1) ?_; simp only [kP, kA, kS, kZ]
 refine lexS 5 rfl hI ?_; simp only [kP, kA, kS, kZ]
 refine lexT 6 rfl hI (fun V hV => run_cell_one 3 _ rfl Try.isAgg3 g3 3 rfl _ hV.2) ?_; simp only [kP, kA, kS, kZ]
 refine lexS 7 rfl hI ?_; simp only [kP, kA, kS, kZ]
 refine lexT 8 rfl hI (fun V hV => run_cell_one 3 _ rfl Try.isAgg3 g3 3 rfl _ hV.2) ?_; simp only [kP, kA, kS, kZ]
 refine lexT (v := .int .i64 ((i : Int) + 1)) 9 rfl hI (fun W hW => by (first | (go_simp; done) | (go_simp; omega) | (go_simp; rw [wrap_succ i (by omega)]) | (simp [execOp]; done))) ?_; simp only [kP, kA, kS, kZ]
 clear hI
 refine lexO 10 rfl fun K hK => ?_
 refine wp_callee (f := 24) (by first | (go_simp; done) | (go_simp; rfl)) ?_
 refine HDel.out.mono ?_
 rintro e V6 ⟨gn8, egn, rfl, hRow, stD6⟩
 refine ⟨_, rfl, ?_⟩
 have hgnB : gn8 ∈ cluB gc na8 BB8 := mem_cluB.2 (.inr (.inl egn))
 have hgng : gn8 ≠ gc := fun e => by
  have := hA8.nodup
  unfold cluB at this
  rw [egn] at this
  exact (List.nodup_cons.1 this).1 (List.mem_append.2 (.inl (by simp [e])))
 have hgn3 : gn8 ≠ g3 := fun e => hno8 ((g3, 38, [.int .i64 2, .int .i64 ah, .int .i64 tt, .int .i64 i, .int .i64 x.kind, .int .i64 x.h, .int .i64 x.t, .int .i64 x.n, .int .i64 x.c, .slice la x.label.length lc, .slice ga x.grants.length gx, .string x.text])) (by simp) (by simp only; rw [← e]; exact hgnB)
 have hgb6 : V6.heap[gc]? = some (.cells L8.toArray 72 (0, 0)) := (stD6.frame gc hA8.gcLt (by simp; exact fun e => hgng e.symm)).trans hA8.blk
 have hI : V6.cell? ⟨gc, 185, none⟩ = some (.slice na8 C6.net.length nc8) ∧ V6.cell? ⟨g3, 3, none⟩ = some (.int .i64 i) :=
  ⟨(World.cell?_of_block (w := U2.drew) (a := ⟨gc, 185, none⟩) (stD6.frame gc hA8.gcLt (by simp; exact fun e => hgng e.symm))).trans HI0.out.1, (World.cell?_of_block (w := U2.drew) (a := ⟨g3, 3, none⟩) (stD6.frame g3 h3l (by simp; exact fun e => hgn3 e.symm))).trans HI0.out.2⟩
 refine hK _ _ (hI) ?_; clear hK; simp only [kP, kA, kS, kZ]
 refine lexS 11 rfl hI ?_; simp only [kP, kA, kS, kZ]
 refine lexS 12 rfl hI ?_; simp only [kP, kA, kS, kZ]
 clear hI
 refine lex_done (by decide +kernel) ?_
 refine tail_last 13 rfl (by first | exact wanted_none rfl | exact wanted_some rfl rfl) (by decide +kernel) (by decide +kernel) fun K hK => ?_
 have stc := stD6.holding hgb6 (by simp)
 simp only [List.nil_append] at stc
 refine wp_store stc 70 _ _ rfl gc 185 rfl (.slice na8 (C6.net.length - 1) nc8) rfl [.slice na8 (C6.net.length - 1) nc8] rfl Try.sizeOf70 (by simp [Value.oneCell']) 0 _ _ rfl (by simp only [List.length_cons, List.length_nil]; omega) ?_
 intro V7 stu hm7 hz7
 refine hK _ _ ?_; clear hK
 have hle : (C6.net.eraseIdx i).length = C6.net.length - 1 := by rw [List.length_eraseIdx, if_pos (by omega)]
 have hL7 := (hA8.cells.move (ok' := fun b => (ok8 b ∨ U2.drew.heap.size ≤ b) ∧ b ∉ cluB gc na8 BB8) (W' := V7) (by have := stD6.size; omega) (fun b hb ho => ⟨⟨.inl ho, fun hm => hA8.apart b hm ho⟩, (hm7 b fun e => hA8.apart b (mem_cluB.2 (.inl e)) ho).trans (stD6.frame b hb (by simp; rintro rfl; exact hA8.apart _ hgnB ho))⟩)).setNet (C6.net.eraseIdx i) na8 nc8
 rw [hle] at hL7
 have P3 := hTo8 V7 _ hok7 (hA8.close (by rw [egn]; exact stu.sub (own' := []) (by simp) List.Pairwise.nil) (stu.blk _ (List.mem_of_getElem? (i := 0) rfl)) hL7 rfl (hRow.kept (fun b e => hm7 b (by rw [egn] at e; cases e; exact hgng)) fun _ _ r => r) fun b e => .inl e)
 have st := P3.st.rebase
 clear stc stu stD6 hA8 hTo8 hRow hL7 hm7 hz7 hgb6 egn hgnB hgng hgn3 hno8 h3l hle HI0 HDel hok7 hlen8
 simp only [List.map_cons, List.map_nil] at st
 have HCM := Lib.hid (cluster_come P3 l (by omega))
 rw [HS2.out] at HCM
 go_wp2_with (first
  | go_skip | (with_reducible refine at_load 3 ?_; refine memX st 3 _ rfl Try.isAgg3 rfl ?_)
  | (go_at_call 25; go_must (refine HCM.out.mono ?_; rintro e V9 ⟨⟨u, rfl⟩, P4⟩; have stP := P4.st.rebase; clear st; have st := stP; clear stP))
  | (with_reducible refine at_store 41 ?_; refine memS st 41 _ _ rfl _ Try.sizeOf41 ⟨1, _, _, _, _, _, rfl, rfl, rfl, rfl, rfl, rfl, ?_⟩; clear st; intro w9 st hw9m hw9z; simp [Act.eval, Act.put, Value.cells, putL] at st))
 have hc := fun j => st.cell (i := 1) rfl j
 refine bodyPost_ret (v := RepV (⟨0, (⟨l.toArray⟩ : ByteArray).size, ⟨#[]⟩⟩)) ?hr rfl ⟨rfl, back _ _ _ (P4.walk st)⟩
 case hr => simp [results, Try.results16, go_sem, hc, RepV, errR]; try rfl
end
open Go.RowKit
section
variable {w0 Wd W : World} {M0 : List Nat} {own : Blks} {X D : Nat → Prop} {gc : Nat} {kg : List Nat} {C : Clu}
theorem cluster_Do (P : Clus w0 M0 own X Wd D gc kg C W) (a : Deed) (okc : Nat → Prop) (hgo : ∀ b, okc b → b ≠ gc) (la : Option Addr) (lc : Nat) (ga : Option Addr) (gx : Nat) (hll : a.call.label.length * 16 ≤ 140737488351232) (hgl : a.call.grants.length * 8 ≤ 140737488351232) (hcl : SlR okc W 2 RLev la lc a.call.label) (hcg : SlR okc W 1 RInt ga gx a.call.grants) :
  Calls Try.prog 16 #[.pointer (some ⟨gc, 0, none⟩), deedV a la lc ga gx] W fun e W' => e = .returned (RepV (doC C a).2) ∧ Clus w0 M0 own X Wd D gc kg (doC C a).1 W' := by
 unfold doC
 by_cases ha : 300 ≤ C.acts
 ·rw [if_pos ha]
  exact cluster_do_full P a la lc ga gx ha
 rw [if_neg ha]
 obtain ⟨kind, h, t, an, x⟩ := a
 unfold actC
 simp only at hll hgl hcl hcg ⊢
 by_cases h1 : kind = 1
 ·subst h1
  rw [if_pos rfl]
  by_cases h4 : four h = false ∨ four t = false
  ·rw [if_pos h4]
   exact cluster_do_nowhere P ha ⟨1, h, t, an, x⟩ la lc ga gx rfl h4
  rw [if_neg h4]
  have e1 : four h = true := by simpa using (not_or.1 h4).1
  have e2 : four t = true := by simpa using (not_or.1 h4).2
  obtain ⟨n, rfl, hn⟩ := four_nat e1
  exact cluster_do_call P ha n hn t an e2 x okc hgo la lc ga gx hll hgl hcl hcg
 rw [if_neg h1]
 by_cases h234 : kind = 2 ∨ kind = 3 ∨ kind = 4
 ·rw [if_pos h234]
  by_cases hb : an < 0 ∨ (C.net.length : Int) ≤ an
  ·rw [if_pos hb]
   exact cluster_do_none P ha kind h t an x la lc ga gx h234 hb
  rw [if_neg hb]
  obtain ⟨i, rfl⟩ := Int.eq_ofNat_of_zero_le (show 0 ≤ an by omega)
  have hi : i < C.net.length := by omega
  obtain ⟨f, hf, hs⟩ := P.okC.net C.net[i] (List.getElem_mem _)
  have hl := encL_len hf
  have hs2 : C.net[i]? = some ⟨(encL f).toArray⟩ := by rw [List.getElem?_eq_getElem hi, hs]
  have hg : C.net.getD i ⟨#[]⟩ = ⟨(encL f).toArray⟩ := by rw [List.getD_eq_getElem?_getD, hs2]; rfl
  simp only [Int.toNat_natCast, hg]
  rcases h234 with rfl | rfl | rfl
  ·simp only [show ¬ (2 : Int) = 3 by decide, show ¬ (2 : Int) = 4 by decide, show ¬ (3 : Int) = 4 by decide, show ¬ (4 : Int) = 3 by decide, if_true, if_false]
   exact cluster_do_deliver P ha h t i x la lc ga gx hi (encL f) hs2 (by omega)
  ·simp only [show ¬ (2 : Int) = 3 by decide, show ¬ (2 : Int) = 4 by decide, show ¬ (3 : Int) = 4 by decide, show ¬ (4 : Int) = 3 by decide, if_true, if_false]
   exact cluster_do_copy P ha h t i x la lc ga gx hi (encL f) hs2 (by omega)
  ·simp only [show ¬ (2 : Int) = 3 by decide, show ¬ (2 : Int) = 4 by decide, show ¬ (3 : Int) = 4 by decide, show ¬ (4 : Int) = 3 by decide, if_true, if_false]
   exact cluster_do_drop P ha h t i x la lc ga gx hi (encL f) hs2 (by omega)
 rw [if_neg h234]
 by_cases h5 : kind = 5
 ·rw [if_pos h5]
  exact cluster_do_tick P ha ⟨kind, h, t, an, x⟩ la lc ga gx h5
 ·rw [if_neg h5]
  exact cluster_do_kind P ha ⟨kind, h, t, an, x⟩ la lc ga gx h1 (fun e => h234 (.inl e)) (fun e => h234 (.inr (.inl e))) (fun e => h234 (.inr (.inr e))) h5
end
end Go.Proofs.Ytflfjpopfapogaa
