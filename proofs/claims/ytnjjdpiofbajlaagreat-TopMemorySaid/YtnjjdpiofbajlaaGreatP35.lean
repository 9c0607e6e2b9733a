/- Walks and plain laws, part 35. -/
import Derived.Test.YtnjjdpiofbajlaaGreatP34
import Derived.Test.YtnjjdpiofbajlaaGreatP31
set_option linter.unusedSimpArgs false
set_option linter.unusedVariables false
set_option maxHeartbeats 16000000
set_option maxRecDepth 100000
namespace Go.Proofs.YtnjjdpiofbajlaaGreat
open Go.RowKit
theorem wrap_succ (i : Nat) (h : i < 1000000) : IntKind.i64.wrap ((i : Int) + 1) = (i : Int) + 1 := by
 simp [IntKind.wrap, IntKind.bits, IntKind.signed]
 omega
section
variable {w0 Wd W : World} {M0 : List Nat} {own : Blks} {X D : Nat → Prop} {gc : Nat} {kg : List Nat} {C : Clu}
theorem cluster_do_drop (P : Clus w0 M0 own X Wd D gc kg C W) (ha : ¬ 300 ≤ C.acts) (ah tt : Int) (i : Nat) (x : Req) (la : Option Addr) (lc : Nat) (ga : Option Addr) (gx : Nat) (hi : i < C.net.length) (l : List UInt8) (hs : C.net[i]? = some ⟨l.toArray⟩) (hl : l.length ≤ 100000) :
  Calls Tryz.prog 18 #[.pointer (some ⟨gc, 0, none⟩), deedV ⟨4, ah, tt, i, x⟩ la lc ga gx] W fun e W' => e = .returned (RepV ⟨0, (⟨l.toArray⟩ : ByteArray).size, ⟨#[]⟩⟩) ∧ Clus w0 M0 own X Wd D gc kg ({ ({ C with acts := C.acts + 1 } : Clu) with net := ({ C with acts := C.acts + 1 } : Clu).net.eraseIdx i }) W' := by
 unfold deedV
 have hi60 := P.okC.netN
 have en : C.net = ({ C with acts := C.acts + 1 } : Clu).net := rfl
 have hlz : (⟨l.toArray⟩ : ByteArray).size = l.length := by show l.toArray.size = _; simp
 rw [en] at hi hs hi60
 clear en
 obtain ⟨C6, hC6⟩ : ∃ C6 : Clu, ({ C with acts := C.acts + 1 } : Clu) = C6 := ⟨_, rfl⟩
 rw [hC6]
 have HC6 := qh hC6
 clear hC6
 rw [HC6.out] at hi hs hi60
 have d0 : decide ((i : Int) < 0) = false := by simp
 have d1 : decide ((C6.net.length : Int) ≤ i) = false := by simp; omega
 have d8 : ¬ C6.net.length ≤ i := by omega
 have hact := P.okC.acts
 have hok5 := P.okC.acting ha
 obtain ⟨ok0, BB0, na0, nc0, L0, hA0, -, -, -⟩ := P.open
 have HCA := qh (fun (U : World) (hb : Below W.heap.size W U) => hA0.cellB hb hA0.cells.acts)
 have hgcW := hA0.gcLt
 clear hA0
 have da : decide ((300 : Int) ≤ C.acts) = false := by simpa using ha
 obtain ⟨B0, Y, Q, hB0, back⟩ := P.enter
 have st := St.start W
 go_enter Tryz.func18, Tryz.ntmps18
 go_upto_region 3 with (first | go_skip | (with_reducible refine mB 32 st ?_; clear st; intro g3 w3 hg3 st) | (with_reducible refine mA st Tryz.zeroValue35 ?_; clear st; intro g4 w4 hg4 st))
 have Q1 := Q.walk st
 have f0 := HCA.out _ st.below
 obtain ⟨ok, BB, na, nc, L, hQ⟩ := Q1.raw
 have hA := hQ.at_
 have hlen := hA.cells.len
 have stc := St.hand hA.blk
 have HST4 := qh st
 clear Q Q1 st HCA
 go_upto_region 6 with (first | go_skip | ((with_reducible refine at_store 3 ?_); go_must (refine mem_store stc (wanted_none rfl) 3 _ _ rfl gc 186 rfl (.int .i64 (C.acts + 1)) rfl [.int .i64 (C.acts + 1)] rfl Tryz.sizeOf3 (by simp [Value.oneCell']) 0 _ _ rfl (by simp only [List.length_cons, List.length_nil]; omega) ?_; intro w5 st5 hm5 hz5)))
 obtain ⟨ok2, hQ2⟩ := hQ.cells (C' := { C with acts := C.acts + 1 }) hok5 st5 (mgE (i := 0) rfl) ((hA.old st5).setActs (C.acts + 1)) rfl rfl
 have P2 := hQ2.clus
 have HOLD := qh (show W.heap.size ≤ w5.heap.size ∧ ∀ b, b < W.heap.size → b ≠ gc → w5.heap[b]? = W.heap[b]? from ⟨by have := HST4.out.size; omega, fun b hb hne => (hm5 b hne).trans (HST4.out.frame b hb (by simp))⟩)
 clear HST4 hQ hQ2 hA stc st5 hm5 hz5 hlen f0 da hact hok5 ha P
 rw [HC6.out] at P2
 have st := P2.st.rebase
 simp only [List.map_cons, List.map_nil] at st
 go_upto_region 14 with (first | go_skip | (with_reducible refine mX st Tryz.isAgg3 ?_))
 try simp only [kP, kA, kS, kZ]
 have P2d := P2.walk st.drew
 obtain ⟨ok6, BB6, na6, nc6, L6, hA6, hno6, -, hTo6⟩ := P2d.open
 have HNT := qh (show ∀ (U : World) (bl : Blks), St [g3, g4] w5.drew U bl → U.cell? ⟨gc, 185, none⟩ = some (.slice na6 C6.net.length nc6) from fun U bl hU => hA6.cellAt (own := [(g3, 32, [.int .i64 4, .int .i64 ah, .int .i64 tt, .int .i64 i, .int .i64 x.kind, .int .i64 x.h, .int .i64 x.t, .int .i64 x.n, .int .i64 x.c, .slice la x.label.length lc, .slice ga x.grants.length gx, .string x.text]), (g4, 35, [.int .i64 0, .int .i64 0, .string ⟨#[]⟩])]) hno6 hU hA6.cells.net)
 have hnr := hA6.net
 clear hA6 hTo6 hno6 P2d
 refine det_region (by kernel_rfl) 13 rfl (fun U => St [g3, g4] w5.drew U [(g3, 32, [.int .i64 4, .int .i64 ah, .int .i64 tt, .int .i64 i, .int .i64 x.kind, .int .i64 x.h, .int .i64 x.t, .int .i64 x.n, .int .i64 x.c, .slice la x.label.length lc, .slice ga x.grants.length gx, .string x.text]), (g4, 35, [.int .i64 0, .int .i64 0, .string ⟨#[]⟩])]) (st.drew.rebase) (by decide +kernel) ?_
 refine detS 0 rfl ?_
 refine detT 1 rfl (fun W hW => St.run_load hW 0 3 _ rfl Tryz.isAgg3 rfl rfl rfl) ?_
 refine detS 2 rfl ?_; refine detS 3 rfl ?_; refine detS 4 rfl ?_
 refine detT 5 rfl (fun W hW => St.run_load hW 0 3 _ rfl Tryz.isAgg3 rfl rfl rfl) ?_
 refine detS 6 rfl ?_; refine detS 7 rfl ?_; refine detS 8 rfl ?_
 refine detT 9 rfl (fun U hU => run_cell_one 63 _ rfl Tryz.isAgg63 gc 185 rfl _ (HNT.out U _ hU)) ?_
 refine detS 10 rfl ?_; refine detS 11 rfl ?_; refine detS 12 rfl ?_
 refine det_done (by decide +kernel) ?_
 clear st hnr HNT
 intro U st
 replace st := St.back (P2.st.rebase.drew) st
 go_upto_region 16 with (first | go_skip | fail)
 try simp only [kP, kA, kS, kZ]
 have P2e := P2.walk st.drew
 obtain ⟨ok7, BB7, na7, nc7, L7, hA7, hno7, -, -⟩ := P2e.open
 obtain ⟨gn, on, cs, hna, -, hgl, hcs, -, -, hcc⟩ := (hA7.net.slr (ok := fun _ => True) fun _ _ => trivial).2.2.2 i _ hs
 unfold RStr at hcs
 subst hcs
 have hgn7 : gn ∈ cluB gc na7 BB7 := mem_cluB.2 (.inr (.inl (by rw [hna]; rfl)))
 have HNT7 := qh (show ∀ (V : World) (bl : Blks), St [g3, g4] U.drew V bl → V.cell? ⟨gc, 185, none⟩ = some (.slice (some ⟨gn, on, none⟩) C6.net.length nc7) from fun V bl hV => hA7.cellAt (own := [(g3, 32, [.int .i64 4, .int .i64 ah, .int .i64 tt, .int .i64 i, .int .i64 x.kind, .int .i64 x.h, .int .i64 x.t, .int .i64 x.n, .int .i64 x.c, .slice la x.label.length lc, .slice ga x.grants.length gx, .string x.text]), (g4, 35, [.int .i64 0, .int .i64 0, .string ⟨#[]⟩])]) hno7 hV (by rw [← hna]; exact hA7.cells.net))
 have hg3n : gn ≠ g3 ∧ gn ≠ g4 := ⟨fun e => hno7 ((g3, 32, [.int .i64 4, .int .i64 ah, .int .i64 tt, .int .i64 i, .int .i64 x.kind, .int .i64 x.h, .int .i64 x.t, .int .i64 x.n, .int .i64 x.c, .slice la x.label.length lc, .slice ga x.grants.length gx, .string x.text])) (by simp) (by simp only; rw [← e]; exact hgn7), fun e => hno7 ((g4, 35, [.int .i64 0, .int .i64 0, .string ⟨#[]⟩])) (by simp) (by simp only; rw [← e]; exact hgn7)⟩
 have HSC := qh (show ∀ (V : World) (bl : Blks), St [g3, g4] U.drew V bl → V.cell? ⟨gn, on + i, none⟩ = some (.string ⟨l.toArray⟩) from fun V bl hV => by
  rw [World.cell?_of_block (w := U.drew) (a := ⟨gn, on + i, none⟩) (hV.frame gn hgl (by simp; exact hg3n))]
  simpa using hcc 0 _ rfl)
 clear hA7 hno7 P2e hcc hgn7 hg3n hna
 have hi7 : (i : Int) < C6.net.length := by omega
 have stR := st.drew
 refine det_region (by kernel_rfl) 9 rfl (fun V => St [g3, g4] U.drew V [(g3, 32, [.int .i64 4, .int .i64 ah, .int .i64 tt, .int .i64 i, .int .i64 x.kind, .int .i64 x.h, .int .i64 x.t, .int .i64 x.n, .int .i64 x.c, .slice la x.label.length lc, .slice ga x.grants.length gx, .string x.text]), (g4, 35, [.int .i64 0, .int .i64 0, .string ⟨#[]⟩])]) (stR.rebase) (by decide +kernel) ?_
 refine detS 0 rfl ?_; refine detS 1 rfl ?_; refine detS 2 rfl ?_
 refine detT 3 rfl (fun V hV => run_cell_one 63 _ rfl Tryz.isAgg63 gc 185 rfl _ (HNT7.out V _ hV)) ?_
 refine detS 4 rfl ?_
 refine detT 5 rfl (fun W hW => St.run_load hW 0 3 _ rfl Tryz.isAgg3 rfl rfl rfl) ?_
 refine detT (v := .pointer (some ⟨gn, on + i, none⟩)) 6 rfl (fun W hW => by (first | (go_simp; done) | (go_simp; omega) | (go_simp; intro h; omega) | (go_simp; simp [add_plain]; done))) ?_
 refine detT 7 rfl (fun V hV => run_cell_one 9 _ rfl Tryz.isAgg9 gn (on + i) rfl _ (HSC.out V _ hV)) ?_
 refine detS 8 rfl ?_
 refine det_done (by decide +kernel) ?_
 clear st HNT7 HSC
 intro U2 st
 replace st := St.back stR st
 clear stR
 go_upto_region 18 with (first | go_skip | (with_reducible refine mX st Tryz.isAgg3 ?_))
 try simp only [kP, kA, kS, kZ]
 replace st := st.drew
 have P2f := P2.walk st
 obtain ⟨ok8, BB8, na8, nc8, L8, hA8, hno8, -, hTo8⟩ := P2f.open
 have hok7 := P2f.okC.erase i
 have HDel := qh (slices_Delete_string U2.drew na8 nc8 C6.net hA8.net i (by omega) (by omega))
 have hlen8 := hA8.cells.len
 have hI : (World.drew U2).cell? ⟨gc, 185, none⟩ = some (.slice na8 C6.net.length nc8) ∧ (World.drew U2).cell? ⟨g3, 3, none⟩ = some (.int .i64 i) := ⟨hA8.cell hA8.cells.net, st.cell (i := 0) rfl 3⟩
 have HI0 := qh hI
 have h3l := st.ltAt (i := 0) rfl
 clear st P2f
 refine lex_tail (by kernel_rfl) 13 1 [13] rfl (by decide +kernel) (fun V => V.cell? ⟨gc, 185, none⟩ = some (.slice na8 C6.net.length nc8) ∧ V.cell? ⟨g3, 3, none⟩ = some (.int .i64 i)) ?_
 refine lexS 0 rfl hI ?_
 refine lexS 1 rfl hI ?_
 refine lexS 2 rfl hI ?_
 refine lexS 3 rfl hI ?_
 refine lexT 4 rfl hI (fun V hV => run_cell_one 63 _ rfl Tryz.isAgg63 gc 185 rfl _ hV.1) ?_
 refine lexS 5 rfl hI ?_
 refine lexT 6 rfl hI (fun V hV => run_cell_one 3 _ rfl Tryz.isAgg3 g3 3 rfl _ hV.2) ?_
 refine lexS 7 rfl hI ?_
 refine lexT 8 rfl hI (fun V hV => run_cell_one 3 _ rfl Tryz.isAgg3 g3 3 rfl _ hV.2) ?_
 refine lexT (v := .int .i64 ((i : Int) + 1)) 9 rfl hI (fun W hW => by (first | (go_simp; done) | (go_simp; omega) | (go_simp; rw [wrap_succ i (by omega)]) | (simp [execOp]; done))) ?_
 clear hI
 refine lexO 10 rfl fun K hK => ?_
 refine wp_callee (f := 35) (by first | (go_simp; done) | (go_simp; rfl)) ?_
 refine HDel.out.mono ?_
 rintro e V6 ⟨gn8, egn, rfl, hRow, stD6⟩
 refine ⟨_, rfl, ?_⟩
 have hgnB : gn8 ∈ cluB gc na8 BB8 := mem_cluB.2 (.inr (.inl egn))
 have hgng : gn8 ≠ gc := fun e => by
  have := hA8.nodup
  unfold cluB at this
  rw [egn] at this
  exact (List.nodup_cons.1 this).1 (List.mem_append.2 (.inl (by simp [e])))
 have hgn3 : gn8 ≠ g3 := fun e => hno8 ((g3, 32, [.int .i64 4, .int .i64 ah, .int .i64 tt, .int .i64 i, .int .i64 x.kind, .int .i64 x.h, .int .i64 x.t, .int .i64 x.n, .int .i64 x.c, .slice la x.label.length lc, .slice ga x.grants.length gx, .string x.text])) (by simp) (by simp only; rw [← e]; exact hgnB)
 have hgb6 : V6.heap[gc]? = some (.cells L8.toArray 84 (0, 0)) := (stD6.frame gc hA8.gcLt (by simp; exact fun e => hgng e.symm)).trans hA8.blk
 have hI : V6.cell? ⟨gc, 185, none⟩ = some (.slice na8 C6.net.length nc8) ∧ V6.cell? ⟨g3, 3, none⟩ = some (.int .i64 i) :=
  ⟨(World.cell?_of_block (w := U2.drew) (a := ⟨gc, 185, none⟩) (stD6.frame gc hA8.gcLt (by simp; exact fun e => hgng e.symm))).trans HI0.out.1, (World.cell?_of_block (w := U2.drew) (a := ⟨g3, 3, none⟩) (stD6.frame g3 h3l (by simp; exact fun e => hgn3 e.symm))).trans HI0.out.2⟩
 refine hK _ _ (hI) ?_; clear hK; simp only [kP, kA, kS, kZ]
 refine lexS 11 rfl hI ?_
 refine lexS 12 rfl hI ?_
 clear hI
 refine lex_done (by decide +kernel) ?_
 refine tail_last 13 rfl (by first | exact wanted_none rfl | exact wanted_some rfl rfl) (by decide +kernel) (by decide +kernel) fun K hK => ?_
 have stc := stD6.holding hgb6 (by simp)
 simp only [List.nil_append] at stc
 refine wp_store stc 63 _ _ rfl gc 185 rfl (.slice na8 (C6.net.length - 1) nc8) rfl [.slice na8 (C6.net.length - 1) nc8] rfl Tryz.sizeOf63 (by simp [Value.oneCell']) 0 _ _ rfl (by simp only [List.length_cons, List.length_nil]; omega) ?_
 intro V7 stu hm7 hz7
 refine hK _ _ ?_; clear hK
 have hle : (C6.net.eraseIdx i).length = C6.net.length - 1 := by rw [List.length_eraseIdx, if_pos (by omega)]
 have hL7 := (hA8.cells.move (ok' := fun b => (ok8 b ∨ U2.drew.heap.size ≤ b) ∧ b ∉ cluB gc na8 BB8) (W' := V7) (by have := stD6.size; omega) (fun b hb ho => ⟨⟨.inl ho, fun hm => hA8.apart b hm ho⟩, (hm7 b fun e => hA8.apart b (mem_cluB.2 (.inl e)) ho).trans (stD6.frame b hb (by simp; rintro rfl; exact hA8.apart _ hgnB ho))⟩)).setNet (C6.net.eraseIdx i) na8 nc8
 rw [hle] at hL7
 have P3 := hTo8 V7 _ hok7 (hA8.close (by rw [egn]; exact stu.sub (own' := []) (by simp) List.Pairwise.nil) (stu.blk _ (mgE (i := 0) rfl)) hL7 rfl (hRow.kept (fun b e => hm7 b (by rw [egn] at e; cases e; exact hgng)) fun _ _ r => r) fun b e => .inl e)
 have st := P3.st.rebase
 clear stc stu stD6 hA8 hTo8 hRow hL7 hm7 hz7 hgb6 egn hgnB hgng hgn3 hno8 h3l hle HI0 HDel hok7 hlen8
 simp only [List.map_cons, List.map_nil] at st
 go_wp2_with (first | go_skip | (with_reducible refine mX st Tryz.isAgg3 ?_) | (with_reducible refine mS 1 st Tryz.sizeOf35 ?_; clear st; intro w9 st hw9m hw9z))
 have hc := fun j => st.cell (i := 1) rfl j
 refine bodyPost_ret (v := RepV (⟨0, (⟨l.toArray⟩ : ByteArray).size, ⟨#[]⟩⟩)) ?hr rfl ⟨rfl, back _ _ _ (P3.walk st)⟩
 case hr => simp [results, Tryz.results18, go_sem, hc, RepV, errR]; try rfl
theorem cluster_do_copy (P : Clus w0 M0 own X Wd D gc kg C W) (ha : ¬ 300 ≤ C.acts) (ah tt : Int) (i : Nat) (x : Req) (la : Option Addr) (lc : Nat) (ga : Option Addr) (gx : Nat) (hi : i < C.net.length) (l : List UInt8) (hs : C.net[i]? = some ⟨l.toArray⟩) (hl : l.length ≤ 100000) :
  Calls Tryz.prog 18 #[.pointer (some ⟨gc, 0, none⟩), deedV ⟨3, ah, tt, i, x⟩ la lc ga gx] W fun e W' => e = .returned (RepV ⟨0, (⟨l.toArray⟩ : ByteArray).size, ⟨#[]⟩⟩) ∧ Clus w0 M0 own X Wd D gc kg (comeC { C with acts := C.acts + 1 } ⟨l.toArray⟩) W' := by
 unfold deedV
 have hi60 := P.okC.netN
 have en : C.net = ({ C with acts := C.acts + 1 } : Clu).net := rfl
 have hlz : (⟨l.toArray⟩ : ByteArray).size = l.length := by show l.toArray.size = _; simp
 rw [en] at hi hs hi60
 clear en
 obtain ⟨C6, hC6⟩ : ∃ C6 : Clu, ({ C with acts := C.acts + 1 } : Clu) = C6 := ⟨_, rfl⟩
 rw [hC6]
 have HC6 := qh hC6
 clear hC6
 rw [HC6.out] at hi hs hi60
 have d0 : decide ((i : Int) < 0) = false := by simp
 have d1 : decide ((C6.net.length : Int) ≤ i) = false := by simp; omega
 have d8 : ¬ C6.net.length ≤ i := by omega
 obtain ⟨s2, hs2⟩ : ∃ s2, comeC (C6) ⟨l.toArray⟩ = s2 := ⟨_, rfl⟩
 rw [hs2]
 have HS2 := qh hs2
 clear hs2
 have hact := P.okC.acts
 have hok5 := P.okC.acting ha
 obtain ⟨ok0, BB0, na0, nc0, L0, hA0, -, -, -⟩ := P.open
 have HCA := qh (fun (U : World) (hb : Below W.heap.size W U) => hA0.cellB hb hA0.cells.acts)
 have hgcW := hA0.gcLt
 clear hA0
 have da : decide ((300 : Int) ≤ C.acts) = false := by simpa using ha
 obtain ⟨B0, Y, Q, hB0, back⟩ := P.enter
 have st := St.start W
 go_enter Tryz.func18, Tryz.ntmps18
 go_upto_region 3 with (first | go_skip | (with_reducible refine mB 32 st ?_; clear st; intro g3 w3 hg3 st) | (with_reducible refine mA st Tryz.zeroValue35 ?_; clear st; intro g4 w4 hg4 st))
 have Q1 := Q.walk st
 have f0 := HCA.out _ st.below
 obtain ⟨ok, BB, na, nc, L, hQ⟩ := Q1.raw
 have hA := hQ.at_
 have hlen := hA.cells.len
 have stc := St.hand hA.blk
 have HST4 := qh st
 clear Q Q1 st HCA
 go_upto_region 6 with (first | go_skip | ((with_reducible refine at_store 3 ?_); go_must (refine mem_store stc (wanted_none rfl) 3 _ _ rfl gc 186 rfl (.int .i64 (C.acts + 1)) rfl [.int .i64 (C.acts + 1)] rfl Tryz.sizeOf3 (by simp [Value.oneCell']) 0 _ _ rfl (by simp only [List.length_cons, List.length_nil]; omega) ?_; intro w5 st5 hm5 hz5)))
 obtain ⟨ok2, hQ2⟩ := hQ.cells (C' := { C with acts := C.acts + 1 }) hok5 st5 (mgE (i := 0) rfl) ((hA.old st5).setActs (C.acts + 1)) rfl rfl
 have P2 := hQ2.clus
 have HOLD := qh (show W.heap.size ≤ w5.heap.size ∧ ∀ b, b < W.heap.size → b ≠ gc → w5.heap[b]? = W.heap[b]? from ⟨by have := HST4.out.size; omega, fun b hb hne => (hm5 b hne).trans (HST4.out.frame b hb (by simp))⟩)
 clear HST4 hQ hQ2 hA stc st5 hm5 hz5 hlen f0 da hact hok5 ha P
 rw [HC6.out] at P2
 have st := P2.st.rebase
 simp only [List.map_cons, List.map_nil] at st
 go_upto_region 14 with (first | go_skip | (with_reducible refine mX st Tryz.isAgg3 ?_))
 try simp only [kP, kA, kS, kZ]
 have P2d := P2.walk st.drew
 obtain ⟨ok6, BB6, na6, nc6, L6, hA6, hno6, -, hTo6⟩ := P2d.open
 have HNT := qh (show ∀ (U : World) (bl : Blks), St [g3, g4] w5.drew U bl → U.cell? ⟨gc, 185, none⟩ = some (.slice na6 C6.net.length nc6) from fun U bl hU => hA6.cellAt (own := [(g3, 32, [.int .i64 3, .int .i64 ah, .int .i64 tt, .int .i64 i, .int .i64 x.kind, .int .i64 x.h, .int .i64 x.t, .int .i64 x.n, .int .i64 x.c, .slice la x.label.length lc, .slice ga x.grants.length gx, .string x.text]), (g4, 35, [.int .i64 0, .int .i64 0, .string ⟨#[]⟩])]) hno6 hU hA6.cells.net)
 have hnr := hA6.net
 clear hA6 hTo6 hno6 P2d
 refine det_region (by kernel_rfl) 13 rfl (fun U => St [g3, g4] w5.drew U [(g3, 32, [.int .i64 3, .int .i64 ah, .int .i64 tt, .int .i64 i, .int .i64 x.kind, .int .i64 x.h, .int .i64 x.t, .int .i64 x.n, .int .i64 x.c, .slice la x.label.length lc, .slice ga x.grants.length gx, .string x.text]), (g4, 35, [.int .i64 0, .int .i64 0, .string ⟨#[]⟩])]) (st.drew.rebase) (by decide +kernel) ?_
 refine detS 0 rfl ?_
 refine detT 1 rfl (fun W hW => St.run_load hW 0 3 _ rfl Tryz.isAgg3 rfl rfl rfl) ?_
 refine detS 2 rfl ?_; refine detS 3 rfl ?_; refine detS 4 rfl ?_
 refine detT 5 rfl (fun W hW => St.run_load hW 0 3 _ rfl Tryz.isAgg3 rfl rfl rfl) ?_
 refine detS 6 rfl ?_; refine detS 7 rfl ?_; refine detS 8 rfl ?_
 refine detT 9 rfl (fun U hU => run_cell_one 63 _ rfl Tryz.isAgg63 gc 185 rfl _ (HNT.out U _ hU)) ?_
 refine detS 10 rfl ?_; refine detS 11 rfl ?_; refine detS 12 rfl ?_
 refine det_done (by decide +kernel) ?_
 clear st hnr HNT
 intro U st
 replace st := St.back (P2.st.rebase.drew) st
 go_upto_region 16 with (first | go_skip | fail)
 try simp only [kP, kA, kS, kZ]
 have P2e := P2.walk st.drew
 obtain ⟨ok7, BB7, na7, nc7, L7, hA7, hno7, -, -⟩ := P2e.open
 obtain ⟨gn, on, cs, hna, -, hgl, hcs, -, -, hcc⟩ := (hA7.net.slr (ok := fun _ => True) fun _ _ => trivial).2.2.2 i _ hs
 unfold RStr at hcs
 subst hcs
 have hgn7 : gn ∈ cluB gc na7 BB7 := mem_cluB.2 (.inr (.inl (by rw [hna]; rfl)))
 have HNT7 := qh (show ∀ (V : World) (bl : Blks), St [g3, g4] U.drew V bl → V.cell? ⟨gc, 185, none⟩ = some (.slice (some ⟨gn, on, none⟩) C6.net.length nc7) from fun V bl hV => hA7.cellAt (own := [(g3, 32, [.int .i64 3, .int .i64 ah, .int .i64 tt, .int .i64 i, .int .i64 x.kind, .int .i64 x.h, .int .i64 x.t, .int .i64 x.n, .int .i64 x.c, .slice la x.label.length lc, .slice ga x.grants.length gx, .string x.text]), (g4, 35, [.int .i64 0, .int .i64 0, .string ⟨#[]⟩])]) hno7 hV (by rw [← hna]; exact hA7.cells.net))
 have hg3n : gn ≠ g3 ∧ gn ≠ g4 := ⟨fun e => hno7 ((g3, 32, [.int .i64 3, .int .i64 ah, .int .i64 tt, .int .i64 i, .int .i64 x.kind, .int .i64 x.h, .int .i64 x.t, .int .i64 x.n, .int .i64 x.c, .slice la x.label.length lc, .slice ga x.grants.length gx, .string x.text])) (by simp) (by simp only; rw [← e]; exact hgn7), fun e => hno7 ((g4, 35, [.int .i64 0, .int .i64 0, .string ⟨#[]⟩])) (by simp) (by simp only; rw [← e]; exact hgn7)⟩
 have HSC := qh (show ∀ (V : World) (bl : Blks), St [g3, g4] U.drew V bl → V.cell? ⟨gn, on + i, none⟩ = some (.string ⟨l.toArray⟩) from fun V bl hV => by
  rw [World.cell?_of_block (w := U.drew) (a := ⟨gn, on + i, none⟩) (hV.frame gn hgl (by simp; exact hg3n))]
  simpa using hcc 0 _ rfl)
 clear hA7 hno7 P2e hcc hgn7 hg3n hna
 have hi7 : (i : Int) < C6.net.length := by omega
 have stR := st.drew
 refine det_region (by kernel_rfl) 9 rfl (fun V => St [g3, g4] U.drew V [(g3, 32, [.int .i64 3, .int .i64 ah, .int .i64 tt, .int .i64 i, .int .i64 x.kind, .int .i64 x.h, .int .i64 x.t, .int .i64 x.n, .int .i64 x.c, .slice la x.label.length lc, .slice ga x.grants.length gx, .string x.text]), (g4, 35, [.int .i64 0, .int .i64 0, .string ⟨#[]⟩])]) (stR.rebase) (by decide +kernel) ?_
 refine detS 0 rfl ?_; refine detS 1 rfl ?_; refine detS 2 rfl ?_
 refine detT 3 rfl (fun V hV => run_cell_one 63 _ rfl Tryz.isAgg63 gc 185 rfl _ (HNT7.out V _ hV)) ?_
 refine detS 4 rfl ?_
 refine detT 5 rfl (fun W hW => St.run_load hW 0 3 _ rfl Tryz.isAgg3 rfl rfl rfl) ?_
 refine detT (v := .pointer (some ⟨gn, on + i, none⟩)) 6 rfl (fun W hW => by (first | (go_simp; done) | (go_simp; omega) | (go_simp; intro h; omega) | (go_simp; simp [add_plain]; done))) ?_
 refine detT 7 rfl (fun V hV => run_cell_one 9 _ rfl Tryz.isAgg9 gn (on + i) rfl _ (HSC.out V _ hV)) ?_
 refine detS 8 rfl ?_
 refine det_done (by decide +kernel) ?_
 clear st HNT7 HSC
 intro U2 st
 replace st := St.back stR st
 clear stR
 have HCM := qh (cluster_come (P2.walk st) l (by omega))
 rw [HS2.out] at HCM
 go_wp2_with (first
  | go_skip | (with_reducible refine mX st Tryz.isAgg3 ?_)
  | (go_at_call 36; go_must (refine HCM.out.mono ?_; rintro e V9 ⟨⟨u, rfl⟩, P4⟩; have stP := P4.st.rebase; clear st; have st := stP; clear stP))
  | (with_reducible refine mS 1 st Tryz.sizeOf35 ?_; clear st; intro w9 st hw9m hw9z))
 have hc := fun j => st.cell (i := 1) rfl j
 refine bodyPost_ret (v := RepV (⟨0, (⟨l.toArray⟩ : ByteArray).size, ⟨#[]⟩⟩)) ?hr rfl ⟨rfl, back _ _ _ (P4.walk st)⟩
 case hr => simp [results, Tryz.results18, go_sem, hc, RepV, errR]; try rfl
theorem cluster_do_deliver (P : Clus w0 M0 own X Wd D gc kg C W) (ha : ¬ 300 ≤ C.acts) (ah tt : Int) (i : Nat) (x : Req) (la : Option Addr) (lc : Nat) (ga : Option Addr) (gx : Nat) (hi : i < C.net.length) (l : List UInt8) (hs : C.net[i]? = some ⟨l.toArray⟩) (hl : l.length ≤ 100000) :
  Calls Tryz.prog 18 #[.pointer (some ⟨gc, 0, none⟩), deedV ⟨2, ah, tt, i, x⟩ la lc ga gx] W fun e W' => e = .returned (RepV ⟨0, (⟨l.toArray⟩ : ByteArray).size, ⟨#[]⟩⟩) ∧ Clus w0 M0 own X Wd D gc kg (comeC { ({ C with acts := C.acts + 1 } : Clu) with net := ({ C with acts := C.acts + 1 } : Clu).net.eraseIdx i } ⟨l.toArray⟩) W' := by
 unfold deedV
 have hi60 := P.okC.netN
 have en : C.net = ({ C with acts := C.acts + 1 } : Clu).net := rfl
 have hlz : (⟨l.toArray⟩ : ByteArray).size = l.length := by show l.toArray.size = _; simp
 rw [en] at hi hs hi60
 clear en
 obtain ⟨C6, hC6⟩ : ∃ C6 : Clu, ({ C with acts := C.acts + 1 } : Clu) = C6 := ⟨_, rfl⟩
 rw [hC6]
 have HC6 := qh hC6
 clear hC6
 rw [HC6.out] at hi hs hi60
 have d0 : decide ((i : Int) < 0) = false := by simp
 have d1 : decide ((C6.net.length : Int) ≤ i) = false := by simp; omega
 have d8 : ¬ C6.net.length ≤ i := by omega
 obtain ⟨s2, hs2⟩ : ∃ s2, comeC ({ C6 with net := C6.net.eraseIdx i }) ⟨l.toArray⟩ = s2 := ⟨_, rfl⟩
 rw [hs2]
 have HS2 := qh hs2
 clear hs2
 have hact := P.okC.acts
 have hok5 := P.okC.acting ha
 obtain ⟨ok0, BB0, na0, nc0, L0, hA0, -, -, -⟩ := P.open
 have HCA := qh (fun (U : World) (hb : Below W.heap.size W U) => hA0.cellB hb hA0.cells.acts)
 have hgcW := hA0.gcLt
 clear hA0
 have da : decide ((300 : Int) ≤ C.acts) = false := by simpa using ha
 obtain ⟨B0, Y, Q, hB0, back⟩ := P.enter
 have st := St.start W
 go_enter Tryz.func18, Tryz.ntmps18
 go_upto_region 3 with (first | go_skip | (with_reducible refine mB 32 st ?_; clear st; intro g3 w3 hg3 st) | (with_reducible refine mA st Tryz.zeroValue35 ?_; clear st; intro g4 w4 hg4 st))
 have Q1 := Q.walk st
 have f0 := HCA.out _ st.below
 obtain ⟨ok, BB, na, nc, L, hQ⟩ := Q1.raw
 have hA := hQ.at_
 have hlen := hA.cells.len
 have stc := St.hand hA.blk
 have HST4 := qh st
 clear Q Q1 st HCA
 go_upto_region 6 with (first | go_skip | ((with_reducible refine at_store 3 ?_); go_must (refine mem_store stc (wanted_none rfl) 3 _ _ rfl gc 186 rfl (.int .i64 (C.acts + 1)) rfl [.int .i64 (C.acts + 1)] rfl Tryz.sizeOf3 (by simp [Value.oneCell']) 0 _ _ rfl (by simp only [List.length_cons, List.length_nil]; omega) ?_; intro w5 st5 hm5 hz5)))
 obtain ⟨ok2, hQ2⟩ := hQ.cells (C' := { C with acts := C.acts + 1 }) hok5 st5 (mgE (i := 0) rfl) ((hA.old st5).setActs (C.acts + 1)) rfl rfl
 have P2 := hQ2.clus
 have HOLD := qh (show W.heap.size ≤ w5.heap.size ∧ ∀ b, b < W.heap.size → b ≠ gc → w5.heap[b]? = W.heap[b]? from ⟨by have := HST4.out.size; omega, fun b hb hne => (hm5 b hne).trans (HST4.out.frame b hb (by simp))⟩)
 clear HST4 hQ hQ2 hA stc st5 hm5 hz5 hlen f0 da hact hok5 ha P
 rw [HC6.out] at P2
 have st := P2.st.rebase
 simp only [List.map_cons, List.map_nil] at st
 go_upto_region 14 with (first | go_skip | (with_reducible refine mX st Tryz.isAgg3 ?_))
 try simp only [kP, kA, kS, kZ]
 have P2d := P2.walk st.drew
 obtain ⟨ok6, BB6, na6, nc6, L6, hA6, hno6, -, hTo6⟩ := P2d.open
 have HNT := qh (show ∀ (U : World) (bl : Blks), St [g3, g4] w5.drew U bl → U.cell? ⟨gc, 185, none⟩ = some (.slice na6 C6.net.length nc6) from fun U bl hU => hA6.cellAt (own := [(g3, 32, [.int .i64 2, .int .i64 ah, .int .i64 tt, .int .i64 i, .int .i64 x.kind, .int .i64 x.h, .int .i64 x.t, .int .i64 x.n, .int .i64 x.c, .slice la x.label.length lc, .slice ga x.grants.length gx, .string x.text]), (g4, 35, [.int .i64 0, .int .i64 0, .string ⟨#[]⟩])]) hno6 hU hA6.cells.net)
 have hnr := hA6.net
 clear hA6 hTo6 hno6 P2d
 refine det_region (by kernel_rfl) 13 rfl (fun U => St [g3, g4] w5.drew U [(g3, 32, [.int .i64 2, .int .i64 ah, .int .i64 tt, .int .i64 i, .int .i64 x.kind, .int .i64 x.h, .int .i64 x.t, .int .i64 x.n, .int .i64 x.c, .slice la x.label.length lc, .slice ga x.grants.length gx, .string x.text]), (g4, 35, [.int .i64 0, .int .i64 0, .string ⟨#[]⟩])]) (st.drew.rebase) (by decide +kernel) ?_
 refine detS 0 rfl ?_
 refine detT 1 rfl (fun W hW => St.run_load hW 0 3 _ rfl Tryz.isAgg3 rfl rfl rfl) ?_
 refine detS 2 rfl ?_; refine detS 3 rfl ?_; refine detS 4 rfl ?_
 refine detT 5 rfl (fun W hW => St.run_load hW 0 3 _ rfl Tryz.isAgg3 rfl rfl rfl) ?_
 refine detS 6 rfl ?_; refine detS 7 rfl ?_; refine detS 8 rfl ?_
 refine detT 9 rfl (fun U hU => run_cell_one 63 _ rfl Tryz.isAgg63 gc 185 rfl _ (HNT.out U _ hU)) ?_
 refine detS 10 rfl ?_; refine detS 11 rfl ?_; refine detS 12 rfl ?_
 refine det_done (by decide +kernel) ?_
 clear st hnr HNT
 intro U st
 replace st := St.back (P2.st.rebase.drew) st
 go_upto_region 16 with (first | go_skip | fail)
 try simp only [kP, kA, kS, kZ]
 have P2e := P2.walk st.drew
 obtain ⟨ok7, BB7, na7, nc7, L7, hA7, hno7, -, -⟩ := P2e.open
 obtain ⟨gn, on, cs, hna, -, hgl, hcs, -, -, hcc⟩ := (hA7.net.slr (ok := fun _ => True) fun _ _ => trivial).2.2.2 i _ hs
 unfold RStr at hcs
 subst hcs
 have hgn7 : gn ∈ cluB gc na7 BB7 := mem_cluB.2 (.inr (.inl (by rw [hna]; rfl)))
 have HNT7 := qh (show ∀ (V : World) (bl : Blks), St [g3, g4] U.drew V bl → V.cell? ⟨gc, 185, none⟩ = some (.slice (some ⟨gn, on, none⟩) C6.net.length nc7) from fun V bl hV => hA7.cellAt (own := [(g3, 32, [.int .i64 2, .int .i64 ah, .int .i64 tt, .int .i64 i, .int .i64 x.kind, .int .i64 x.h, .int .i64 x.t, .int .i64 x.n, .int .i64 x.c, .slice la x.label.length lc, .slice ga x.grants.length gx, .string x.text]), (g4, 35, [.int .i64 0, .int .i64 0, .string ⟨#[]⟩])]) hno7 hV (by rw [← hna]; exact hA7.cells.net))
 have hg3n : gn ≠ g3 ∧ gn ≠ g4 := ⟨fun e => hno7 ((g3, 32, [.int .i64 2, .int .i64 ah, .int .i64 tt, .int .i64 i, .int .i64 x.kind, .int .i64 x.h, .int .i64 x.t, .int .i64 x.n, .int .i64 x.c, .slice la x.label.length lc, .slice ga x.grants.length gx, .string x.text])) (by simp) (by simp only; rw [← e]; exact hgn7), fun e => hno7 ((g4, 35, [.int .i64 0, .int .i64 0, .string ⟨#[]⟩])) (by simp) (by simp only; rw [← e]; exact hgn7)⟩
 have HSC := qh (show ∀ (V : World) (bl : Blks), St [g3, g4] U.drew V bl → V.cell? ⟨gn, on + i, none⟩ = some (.string ⟨l.toArray⟩) from fun V bl hV => by
  rw [World.cell?_of_block (w := U.drew) (a := ⟨gn, on + i, none⟩) (hV.frame gn hgl (by simp; exact hg3n))]
  simpa using hcc 0 _ rfl)
 clear hA7 hno7 P2e hcc hgn7 hg3n hna
 have hi7 : (i : Int) < C6.net.length := by omega
 have stR := st.drew
 refine det_region (by kernel_rfl) 9 rfl (fun V => St [g3, g4] U.drew V [(g3, 32, [.int .i64 2, .int .i64 ah, .int .i64 tt, .int .i64 i, .int .i64 x.kind, .int .i64 x.h, .int .i64 x.t, .int .i64 x.n, .int .i64 x.c, .slice la x.label.length lc, .slice ga x.grants.length gx, .string x.text]), (g4, 35, [.int .i64 0, .int .i64 0, .string ⟨#[]⟩])]) (stR.rebase) (by decide +kernel) ?_
 refine detS 0 rfl ?_; refine detS 1 rfl ?_; refine detS 2 rfl ?_
 refine detT 3 rfl (fun V hV => run_cell_one 63 _ rfl Tryz.isAgg63 gc 185 rfl _ (HNT7.out V _ hV)) ?_
 refine detS 4 rfl ?_
 refine detT 5 rfl (fun W hW => St.run_load hW 0 3 _ rfl Tryz.isAgg3 rfl rfl rfl) ?_
 refine detT (v := .pointer (some ⟨gn, on + i, none⟩)) 6 rfl (fun W hW => by (first | (go_simp; done) | (go_simp; omega) | (go_simp; intro h; omega) | (go_simp; simp [add_plain]; done))) ?_
 refine detT 7 rfl (fun V hV => run_cell_one 9 _ rfl Tryz.isAgg9 gn (on + i) rfl _ (HSC.out V _ hV)) ?_
 refine detS 8 rfl ?_
 refine det_done (by decide +kernel) ?_
 clear st HNT7 HSC
 intro U2 st
 replace st := St.back stR st
 clear stR
 go_upto_region 18 with (first | go_skip | (with_reducible refine mX st Tryz.isAgg3 ?_))
 try simp only [kP, kA, kS, kZ]
 replace st := st.drew
 have P2f := P2.walk st
 obtain ⟨ok8, BB8, na8, nc8, L8, hA8, hno8, -, hTo8⟩ := P2f.open
 have hok7 := P2f.okC.erase i
 have HDel := qh (slices_Delete_string U2.drew na8 nc8 C6.net hA8.net i (by omega) (by omega))
 have hlen8 := hA8.cells.len
 have hI : (World.drew U2).cell? ⟨gc, 185, none⟩ = some (.slice na8 C6.net.length nc8) ∧ (World.drew U2).cell? ⟨g3, 3, none⟩ = some (.int .i64 i) := ⟨hA8.cell hA8.cells.net, st.cell (i := 0) rfl 3⟩
 have HI0 := qh hI
 have h3l := st.ltAt (i := 0) rfl
 clear st P2f
 refine lex_tail (by kernel_rfl) 13 1 [13] rfl (by decide +kernel) (fun V => V.cell? ⟨gc, 185, none⟩ = some (.slice na8 C6.net.length nc8) ∧ V.cell? ⟨g3, 3, none⟩ = some (.int .i64 i)) ?_
 refine lexS 0 rfl hI ?_
 refine lexS 1 rfl hI ?_
 refine lexS 2 rfl hI ?_
 refine lexS 3 rfl hI ?_
 refine lexT 4 rfl hI (fun V hV => run_cell_one 63 _ rfl Tryz.isAgg63 gc 185 rfl _ hV.1) ?_
 refine lexS 5 rfl hI ?_
 refine lexT 6 rfl hI (fun V hV => run_cell_one 3 _ rfl Tryz.isAgg3 g3 3 rfl _ hV.2) ?_
 refine lexS 7 rfl hI ?_
 refine lexT 8 rfl hI (fun V hV => run_cell_one 3 _ rfl Tryz.isAgg3 g3 3 rfl _ hV.2) ?_
 refine lexT (v := .int .i64 ((i : Int) + 1)) 9 rfl hI (fun W hW => by (first | (go_simp; done) | (go_simp; omega) | (go_simp; rw [wrap_succ i (by omega)]) | (simp [execOp]; done))) ?_
 clear hI
 refine lexO 10 rfl fun K hK => ?_
 refine wp_callee (f := 35) (by first | (go_simp; done) | (go_simp; rfl)) ?_
 refine HDel.out.mono ?_
 rintro e V6 ⟨gn8, egn, rfl, hRow, stD6⟩
 refine ⟨_, rfl, ?_⟩
 have hgnB : gn8 ∈ cluB gc na8 BB8 := mem_cluB.2 (.inr (.inl egn))
 have hgng : gn8 ≠ gc := fun e => by
  have := hA8.nodup
  unfold cluB at this
  rw [egn] at this
  exact (List.nodup_cons.1 this).1 (List.mem_append.2 (.inl (by simp [e])))
 have hgn3 : gn8 ≠ g3 := fun e => hno8 ((g3, 32, [.int .i64 2, .int .i64 ah, .int .i64 tt, .int .i64 i, .int .i64 x.kind, .int .i64 x.h, .int .i64 x.t, .int .i64 x.n, .int .i64 x.c, .slice la x.label.length lc, .slice ga x.grants.length gx, .string x.text])) (by simp) (by simp only; rw [← e]; exact hgnB)
 have hgb6 : V6.heap[gc]? = some (.cells L8.toArray 84 (0, 0)) := (stD6.frame gc hA8.gcLt (by simp; exact fun e => hgng e.symm)).trans hA8.blk
 have hI : V6.cell? ⟨gc, 185, none⟩ = some (.slice na8 C6.net.length nc8) ∧ V6.cell? ⟨g3, 3, none⟩ = some (.int .i64 i) :=
  ⟨(World.cell?_of_block (w := U2.drew) (a := ⟨gc, 185, none⟩) (stD6.frame gc hA8.gcLt (by simp; exact fun e => hgng e.symm))).trans HI0.out.1, (World.cell?_of_block (w := U2.drew) (a := ⟨g3, 3, none⟩) (stD6.frame g3 h3l (by simp; exact fun e => hgn3 e.symm))).trans HI0.out.2⟩
 refine hK _ _ (hI) ?_; clear hK; simp only [kP, kA, kS, kZ]
 refine lexS 11 rfl hI ?_
 refine lexS 12 rfl hI ?_
 clear hI
 refine lex_done (by decide +kernel) ?_
 refine tail_last 13 rfl (by first | exact wanted_none rfl | exact wanted_some rfl rfl) (by decide +kernel) (by decide +kernel) fun K hK => ?_
 have stc := stD6.holding hgb6 (by simp)
 simp only [List.nil_append] at stc
 refine wp_store stc 63 _ _ rfl gc 185 rfl (.slice na8 (C6.net.length - 1) nc8) rfl [.slice na8 (C6.net.length - 1) nc8] rfl Tryz.sizeOf63 (by simp [Value.oneCell']) 0 _ _ rfl (by simp only [List.length_cons, List.length_nil]; omega) ?_
 intro V7 stu hm7 hz7
 refine hK _ _ ?_; clear hK
 have hle : (C6.net.eraseIdx i).length = C6.net.length - 1 := by rw [List.length_eraseIdx, if_pos (by omega)]
 have hL7 := (hA8.cells.move (ok' := fun b => (ok8 b ∨ U2.drew.heap.size ≤ b) ∧ b ∉ cluB gc na8 BB8) (W' := V7) (by have := stD6.size; omega) (fun b hb ho => ⟨⟨.inl ho, fun hm => hA8.apart b hm ho⟩, (hm7 b fun e => hA8.apart b (mem_cluB.2 (.inl e)) ho).trans (stD6.frame b hb (by simp; rintro rfl; exact hA8.apart _ hgnB ho))⟩)).setNet (C6.net.eraseIdx i) na8 nc8
 rw [hle] at hL7
 have P3 := hTo8 V7 _ hok7 (hA8.close (by rw [egn]; exact stu.sub (own' := []) (by simp) List.Pairwise.nil) (stu.blk _ (mgE (i := 0) rfl)) hL7 rfl (hRow.kept (fun b e => hm7 b (by rw [egn] at e; cases e; exact hgng)) fun _ _ r => r) fun b e => .inl e)
 have st := P3.st.rebase
 clear stc stu stD6 hA8 hTo8 hRow hL7 hm7 hz7 hgb6 egn hgnB hgng hgn3 hno8 h3l hle HI0 HDel hok7 hlen8
 simp only [List.map_cons, List.map_nil] at st
 have HCM := qh (cluster_come P3 l (by omega))
 rw [HS2.out] at HCM
 go_wp2_with (first
  | go_skip | (with_reducible refine mX st Tryz.isAgg3 ?_)
  | (go_at_call 36; go_must (refine HCM.out.mono ?_; rintro e V9 ⟨⟨u, rfl⟩, P4⟩; have stP := P4.st.rebase; clear st; have st := stP; clear stP))
  | (with_reducible refine mS 1 st Tryz.sizeOf35 ?_; clear st; intro w9 st hw9m hw9z))
 have hc := fun j => st.cell (i := 1) rfl j
 refine bodyPost_ret (v := RepV (⟨0, (⟨l.toArray⟩ : ByteArray).size, ⟨#[]⟩⟩)) ?hr rfl ⟨rfl, back _ _ _ (P4.walk st)⟩
 case hr => simp [results, Tryz.results18, go_sem, hc, RepV, errR]; try rfl
end
section
variable {w0 Wd W : World} {M0 : List Nat} {own : Blks} {X D : Nat → Prop} {gc : Nat} {kg : List Nat} {C : Clu}
theorem cluster_Do (P : Clus w0 M0 own X Wd D gc kg C W) (a : Deed) (okc : Nat → Prop) (hgo : ∀ b, okc b → b ≠ gc) (la : Option Addr) (lc : Nat) (ga : Option Addr) (gx : Nat) (hll : a.call.label.length * 16 ≤ 140737488351232) (hgl : a.call.grants.length * 8 ≤ 140737488351232) (hcl : SlR okc W 2 RLev la lc a.call.label) (hcg : SlR okc W 1 RInt ga gx a.call.grants) :
  Calls Tryz.prog 18 #[.pointer (some ⟨gc, 0, none⟩), deedV a la lc ga gx] W fun e W' => e = .returned (RepV (doC C a).2) ∧ Clus w0 M0 own X Wd D gc kg (doC C a).1 W' := by
 unfold doC
 by_cases ha : 300 ≤ C.acts
 ·rw [if_pos ha]
  exact cluster_do_full P a la lc ga gx ha
 rw [if_neg ha]
 obtain ⟨kind, h, t, an, x⟩ := a
 unfold actC
 simp only at hll hgl hcl hcg ⊢
 by_cases h1 : kind = 1
 ·subst h1
  rw [if_pos rfl]
  by_cases h4 : four h = false ∨ four t = false
  ·rw [if_pos h4]
   exact cluster_do_nowhere P ha ⟨1, h, t, an, x⟩ la lc ga gx rfl h4
  rw [if_neg h4]
  have e1 : four h = true := by simpa using (not_or.1 h4).1
  have e2 : four t = true := by simpa using (not_or.1 h4).2
  obtain ⟨n, rfl, hn⟩ := four_nat e1
  exact cluster_do_call P ha n hn t an e2 x okc hgo la lc ga gx hll hgl hcl hcg
 rw [if_neg h1]
 by_cases h234 : kind = 2 ∨ kind = 3 ∨ kind = 4
 ·rw [if_pos h234]
  by_cases hb : an < 0 ∨ (C.net.length : Int) ≤ an
  ·rw [if_pos hb]
   exact cluster_do_none P ha kind h t an x la lc ga gx h234 hb
  rw [if_neg hb]
  obtain ⟨i, rfl⟩ := Int.eq_ofNat_of_zero_le (show 0 ≤ an by omega)
  have hi : i < C.net.length := by omega
  obtain ⟨f, hf, hs⟩ := P.okC.net C.net[i] (List.getElem_mem _)
  have hl := encL_len hf
  have hs2 : C.net[i]? = some ⟨(encL f).toArray⟩ := by rw [gEg hi, hs]
  have hg : C.net.getD i ⟨#[]⟩ = ⟨(encL f).toArray⟩ := by rw [List.getD_eq_getElem?_getD, hs2]; rfl
  simp only [Int.toNat_natCast, hg]
  rcases h234 with rfl | rfl | rfl
  ·simp only [show ¬ (2 : Int) = 3 by decide, show ¬ (2 : Int) = 4 by decide, show ¬ (3 : Int) = 4 by decide, show ¬ (4 : Int) = 3 by decide, if_true, if_false]
   exact cluster_do_deliver P ha h t i x la lc ga gx hi (encL f) hs2 (by omega)
  ·simp only [show ¬ (2 : Int) = 3 by decide, show ¬ (2 : Int) = 4 by decide, show ¬ (3 : Int) = 4 by decide, show ¬ (4 : Int) = 3 by decide, if_true, if_false]
   exact cluster_do_copy P ha h t i x la lc ga gx hi (encL f) hs2 (by omega)
  ·simp only [show ¬ (2 : Int) = 3 by decide, show ¬ (2 : Int) = 4 by decide, show ¬ (3 : Int) = 4 by decide, show ¬ (4 : Int) = 3 by decide, if_true, if_false]
   exact cluster_do_drop P ha h t i x la lc ga gx hi (encL f) hs2 (by omega)
 rw [if_neg h234]
 by_cases h5 : kind = 5
 ·rw [if_pos h5]
  exact cluster_do_tick P ha ⟨kind, h, t, an, x⟩ la lc ga gx h5
 ·rw [if_neg h5]
  exact cluster_do_kind P ha ⟨kind, h, t, an, x⟩ la lc ga gx h1 (fun e => h234 (.inl e)) (fun e => h234 (.inr (.inl e))) (fun e => h234 (.inr (.inr e))) h5
end
noncomputable def doAll (C : Clu) : List Deed → Clu
 | [] => C
 | a :: l => doAll (doC C a).1 l
noncomputable def repsOf (C : Clu) : List Deed → List Rep
 | [] => []
 | a :: l => (doC C a).2 :: repsOf (doC C a).1 l
theorem doAll_snoc (a : Deed) : ∀ (l : List Deed) (C : Clu), doAll C (l ++ [a]) = (doC (doAll C l) a).1 ∧ repsOf C (l ++ [a]) = repsOf C l ++ [(doC (doAll C l) a).2]
 | [], C => ⟨rfl, rfl⟩
 | b :: l, C => by
  obtain ⟨h1, h2⟩ := doAll_snoc a l (doC C b).1
  exact ⟨h1, by simp only [List.cons_append, repsOf, h2, doAll]⟩
theorem doAll_take {l : List Deed} {k : Nat} (h : k < l.length) (C : Clu) : doAll C (l.take (k + 1)) = (doC (doAll C (l.take k)) l[k]).1 ∧ repsOf C (l.take (k + 1)) = repsOf C (l.take k) ++ [(doC (doAll C (l.take k)) l[k]).2] := by
 rw [List.take_succ_eq_append_getElem h]
 exact doAll_snoc _ _ _
def RRep (cs : List Value) (r : Rep) : Prop := cs = [.int .i64 r.code, .int .i64 r.n, .string r.text]
theorem Own.cellsOf {base : Nat} {e : TypeId} {w : World} {α : Type} {sz : Nat} {R : List Value → α → Prop} {g o c : Nat} {xs : List α} (h : Own base e w sz R (some ⟨g, o, none⟩) c xs) : ∃ cells : List Value, w.heap[g]? = some (.cells cells.toArray e (0, 0)) := by
 obtain ⟨css, h1, h2, h3, h4⟩ := h
 rcases h4.2 with ⟨hv, _⟩ | ⟨k, cap, cur, hv, hk, hh, r⟩
 ·simp at hv
 ·simp only [Value.slice.injEq, Option.some.injEq, Addr.mk.injEq, and_true] at hv
  obtain ⟨⟨rfl, rfl⟩, -, rfl⟩ := hv
  exact ⟨cur.toList, by rw [hh, Array.toArray_toList]⟩
theorem Clus.gcNew {w0 Wd W : World} {own : Blks} {X D : Nat → Prop} {gc : Nat} {kg : List Nat} {C : Clu} (P : Clus w0 [] own X Wd D gc kg C W) : w0.heap.size ≤ gc := by
 obtain ⟨ok, BB, na, nc, L, h⟩ := P.raw
 rcases (h.mine gc (mem_cluB.2 (.inl rfl))).1 with h1 | h1
 ·simp at h1
 ·exact h1
def deed1 : Deed := ⟨1, 2, 0, 0, ⟨1, 0, 0, 0, 0, [], [], ⟨#[]⟩⟩⟩
def deed2 : Deed := ⟨1, 2, 0, 0, ⟨6, 1, 3, 0, 0, [], [], ⟨#[104, 105]⟩⟩⟩
theorem alive_one : (doC newC deed1).2 = ⟨0, 40, ⟨#[]⟩⟩ := by rfl
theorem alive_two : (doC (doC newC deed1).1 deed2).2.code = 0 ∧ (doC (doC newC deed1).1 deed2).1.net.length = 1 := ⟨by rfl, by rfl⟩
theorem top_alive (w : World) : Calls Tryz.prog 14 #[] w fun e w' => e = .returned (.bool true) ∧ Below w.heap.size w w' := by
 obtain ⟨C1, hC1⟩ : ∃ C1, doC newC deed1 = C1 := ⟨_, rfl⟩
 obtain ⟨C2, hC2⟩ : ∃ C2, doC C1.1 deed2 = C2 := ⟨_, rfl⟩
 have h1 := alive_one
 have h2 := alive_two
 rw [hC1] at h1 h2
 rw [hC2] at h2
 obtain ⟨h2, h3⟩ := h2
 have HD1 := qh (fun (gc : Nat) (kg : List Nat) (V : World) (bl : Blks) (P : Clus w [] bl (fun _ => False) w (fun _ => True) gc kg newC V) => cluster_Do P deed1 (fun _ => False) (fun _ h => h.elim) none 0 none 0 (by decide) (by decide) (SlR.nil _ _ _ _) (SlR.nil _ _ _ _))
 have HD2 := qh (fun (gc : Nat) (kg : List Nat) (V : World) (bl : Blks) (P : Clus w [] bl (fun _ => False) w (fun _ => True) gc kg C1.1 V) => cluster_Do P deed2 (fun _ => False) (fun _ h => h.elim) none 0 none 0 (by decide) (by decide) (SlR.nil _ _ _ _) (SlR.nil _ _ _ _))
 rw [hC1, h1] at HD1
 rw [hC2] at HD2
 unfold deedV RepV deed1 at HD1
 unfold deedV RepV deed2 at HD2
 have dn : ((C2.1.net.length : Int) == 1) = true := by rw [h3]; rfl
 rw [h2] at HD2
 clear hC1 hC2 h1 h2 h3
 go_enter Tryz.func14, Tryz.ntmps14
 go_upto_region 4 with (first | go_skip | (go_at_call 15; go_must (refine (cluster_New _).mono ?_; rintro e w1 ⟨gc, kg, rfl, P1⟩)))
 go_upto_region 5 with (first | go_skip | (go_at_call 18; go_must (refine (HD1.out gc kg _ _ P1).mono ?_; rintro e V2 ⟨rfl, P2⟩; have st := P2.st.rebase)) | (with_reducible refine mA st Tryz.zeroValue35 ?_; clear st; intro g2 w2 hg2 st) | (with_reducible refine mS 0 st Tryz.sizeOf35 ?_; clear st; intro w3 st hw3m hw3z))
 have P3 := P2.walk st
 go_upto_region 6 with (first | go_skip | (go_at_call 18; go_must (refine (HD2.out gc kg _ _ P3).mono ?_; rintro e V4 ⟨rfl, P4⟩; have stP := P4.st.rebase; clear st; have st := stP; clear stP)) | (with_reducible refine mA st Tryz.zeroValue35 ?_; clear st; intro g4 w5 hg4 st) | (with_reducible refine mS 1 st Tryz.sizeOf35 ?_; clear st; intro w6 st hw6m hw6z))
 have P5 := P4.walk st
 go_wp2_with (first | go_skip | (with_reducible refine mX st Tryz.isAgg3 ?_) | (with_reducible refine mX st Tryz.isAgg33 ?_) | (go_at_call 26; go_must (refine (cluster_Net P5).mono ?_; rintro e V7 ⟨a, c, rfl, hb7, -⟩)))
 go_ret
 exact ⟨rfl, ((P5.below hb7).st.sub (own' := []) (by simp) List.Pairwise.nil).below⟩
section
variable {w0 Wd W : World} {M0 : List Nat} {own : Blks} {X D : Nat → Prop} {gc : Nat} {kg : List Nat} {C : Clu}
theorem Clus.adopt {v : World} (P : Clus v [] [] (fun b => b < v.heap.size) Wd D gc kg C W) {w : World} {M : List Nat} {bl : Blks} (st : St M w v bl) : Clus w M bl (fun _ => False) W (fun _ => False) gc kg C W := by
 obtain ⟨st0, hok, hD, hDo, hX, ok, BB, na, nc, L, hA, hB, hO⟩ := P
 refine ⟨st.call st0.below, hok, ⟨Nat.le_refl _, fun _ _ _ => rfl⟩, fun _ _ h => h.1.elim, fun _ h => h.elim, ok, BB, na, nc, L, hA, fun b hb => ?_, fun b hb => ⟨(hO b hb).1, fun x hx e => (hO b hb).2.2 (e ▸ st.lt hx), fun h => h⟩⟩
 have hv : v.heap.size ≤ b := by
  rcases (hB b hb).1 with h | h
  ·simp at h
  ·exact h
 exact ⟨.inr (Nat.le_trans st.size hv), fun x hx e => (by have := st.lt hx; omega), fun h => h.1.elim⟩
theorem Clus.told (P : Clus w0 M0 own X Wd D gc kg C W) {V : World} {own2 : Blks} (st : St (own.map (·.1)) W V own2) : Clus w0 M0 own2 X V (fun b => W.heap.size ≤ b ∧ ∀ x ∈ own2, x.1 ≠ b) gc kg C V := by
 obtain ⟨st1, hok1, -, -, hX, ok, BB, na, nc, L, hA, hB, hO⟩ := P
 have hmine : ∀ x ∈ own2, x.1 ∈ own.map (·.1) ∨ W.heap.size ≤ x.1 := st.mine
 have hno : ∀ b ∈ cluB gc na BB, b ∉ own.map (·.1) := fun b hb hm => by
  obtain ⟨x, hx, e⟩ := List.mem_map.1 hm
  exact (hB b hb).2.1 x hx e
 refine ⟨St.back st1 st, hok1, ⟨Nat.le_refl _, fun _ _ _ => rfl⟩, fun x hx hd => hd.1.2 x hx rfl, hX, ok, BB, na, nc, L, ?_, fun b hb => ⟨(hB b hb).1, fun x hx e => ?_, fun hd => ?_⟩, fun b hb => ⟨Nat.lt_of_lt_of_le (hO b hb).1 st.size, fun x hx e => ?_, (hO b hb).2.2⟩⟩
 ·exact hA.move st.size (fun b hb ho => ⟨ho, st.frame b hb fun hm => by
   obtain ⟨x, hx, e⟩ := List.mem_map.1 hm
   exact (hO b ho).2.1 x hx e⟩) fun b hb => ⟨st.frame b (hA.lt b hb) (hno b hb), hA.apart b hb⟩
 ·rcases hmine x hx with h1 | h1
  ·exact hno b hb (e ▸ h1)
  ·have := hA.lt b hb; omega
 ·have := hA.lt b hb; have := hd.1.1; omega
 ·rcases hmine x hx with h1 | h1
  ·obtain ⟨y, hy, e2⟩ := List.mem_map.1 h1
   exact (hO b hb).2.1 y hy (e2.trans e)
  ·have := (hO b hb).1; omega
end
def LookAt (f : Nat) (caps : Array Value) (w : World) (M : List Nat) (l : List Deed) (J : Nat → Blks → World → (Nat → Prop) → Prop) : Prop :=
 ∀ (n : Nat) (a : Deed), l[n]? = some a → n < 120 → ∀ (gc : Nat) (kg : List Nat) (W Wd : World) (bl : Blks) (D : Nat → Prop) (la : Option Addr) (lc : Nat) (ga : Option Addr) (gx : Nat),
  w.heap.size ≤ gc → Clus w M bl (fun _ => False) Wd D gc kg (doAll newC (l.take (n + 1))) W → J n bl W D → SlR (fun _ => True) W 2 RLev la lc a.call.label → SlR (fun _ => True) W 1 RInt ga gx a.call.grants →
  Calls Tryz.prog f (#[.pointer (some ⟨gc, 0, none⟩), deedV a la lc ga gx, RepV (doC (doAll newC (l.take n)) a).2] ++ caps) W fun e W' => e = .returned (.bool true) ∧ ∃ bl' D', Clus w M bl' (fun _ => False) W' D' gc kg (doAll newC (l.take (n + 1))) W' ∧ J (n + 1) bl' W' D'
theorem top_play (f : Nat) (caps : Array Value) (eg : ∀ args w, (callFunc f args).run Tryz.prog w = .ok (.enter f args) w) (w : World) (M : List Nat) (bl0 : Blks) (okl : Nat → Prop) (l : List Deed) (la : Option Addr) (lc : Nat)
  (hR : SlR okl w 12 (RDeed okl w) la lc l) (hM : ∀ g ∈ M, ¬ okl g) (hlen : l.length ≤ 4611686018427387904) (hB : ∀ a ∈ l, a.call.label.length * 16 ≤ 140737488351232 ∧ a.call.grants.length * 8 ≤ 140737488351232)
  (st0 : St M w w bl0) (J : Nat → Blks → World → (Nat → Prop) → Prop) (hJ0 : ∀ V, St M w V bl0 → J 0 bl0 V (fun _ => False)) (hJm : ∀ n bl V V' D, Keeps D V V' → J n bl V D → J n bl V' D) (HL : LookAt f caps w M l J) :
  Calls Tryz.prog 9 #[.slice la l.length lc, .func (.func f) #[] caps] w fun e w' => ∃ gc kg bl D, e = .returned (.tuple #[.pointer (some ⟨gc, 0, none⟩), .bool true]) ∧ w.heap.size ≤ gc ∧ Clus w M bl (fun _ => False) w' D gc kg (doAll newC (l.take 120)) w' ∧ J (min l.length 120) bl w' D := by
 have HA := qh (fun V : World => top_alive V)
 have st := St.start w
 have HS0 := qh st0
 have HJ0 := qh hJ0
 have HLo := qh HL
 have HM := qh hM
 have HRl := qh hR
 have HBl := qh hB
 have HJm := qh hJm
 clear hR hM hB st0 hJ0 hJm HL
 go_enter Tryz.func9, Tryz.ntmps9
 go_wp2_with (first
  | go_skip
  | (go_at_call 14; go_must (refine (HA.out _).mono ?_; rintro e v1 ⟨rfl, hb1⟩))
  | (go_at_call 15; go_must (refine (cluster_NewX _).mono ?_; rintro e v2 ⟨gc, kg, rfl, P1⟩)))
 have hst : St M w v1 bl0 := HS0.out.call hb1
 have hgc : w.heap.size ≤ gc := Nat.le_trans hb1.size P1.gcNew
 have P2 := qh (P1.adopt hst)
 have J2 := qh (HJ0.out _ (P1.adopt hst).st)
 clear hst P1 hb1 st
 go_loopw [7] (fun j wr => ∃ (k : Nat) (bl : Blks) (D : Nat → Prop), k ≤ l.length ∧ k ≤ 120 ∧ j = .int .i64 k ∧ Clus w M bl (fun _ => False) wr D gc kg (doAll newC (l.take k)) wr ∧ J k bl wr D) (fun j _ => 120 - (intOf j).toNat)
 case atStart => exact ⟨0, bl0, fun _ => False, Nat.zero_le _, by omega, rfl, P2.out, J2.out⟩
 case round =>
  clear P2 J2 HS0
  obtain ⟨k, bl, D, hk, hk120, rfl, Pk, Jk⟩ := hrel
  have PK := qh Pk
  have JK := qh Jk
  clear Pk Jk
  by_cases hkl : k < l.length
  case neg =>
   have d1 : decide ((k : Int) < (l.length : Int)) = false := by simp; omega
   obtain rfl : k = l.length := by omega
   go_wp2_with (first | go_skip | fail)
   go_ret2
   have P := PK.out
   have J := JK.out
   rw [List.take_of_length_le (Nat.le_refl _)] at P
   exact ⟨gc, kg, bl, D, rfl, hgc, by rw [List.take_of_length_le (by omega)]; exact P, by rw [show min l.length 120 = l.length by omega]; exact J⟩
  by_cases h120 : k < 120
  case neg =>
   have d1 : decide ((k : Int) < (l.length : Int)) = true := by simp; omega
   have d2 : decide ((k : Int) < 120) = false := by simp; omega
   obtain rfl : k = 120 := by omega
   go_wp2_with (first | go_skip | fail)
   go_ret2
   exact ⟨gc, kg, bl, D, rfl, hgc, PK.out, by rw [show min l.length 120 = 120 by omega]; exact JK.out⟩
  have d1 : decide ((k : Int) < (l.length : Int)) = true := by simp; omega
  have d2 : decide ((k : Int) < 120) = true := by simp; omega
  obtain ⟨bb, oo, cs, hre, hok, hbb, hrd, -, -, hcc⟩ := HRl.out.2.2.2 k l[k] (by simp [hkl])
  obtain ⟨la1, lc1, ga1, gx1, rfl, h1, h2⟩ := hrd
  obtain ⟨hll, hgl⟩ := HBl.out l[k] (List.getElem_mem _)
  have HLk := qh (HLo.out k l[k] (by simp [hkl]) h120)
  have hst := (doAll_take hkl newC).1
  rw [hst] at HLk
  have HST := qh hst
  clear hst
  obtain ⟨Ck, hCk⟩ : ∃ Ck, doAll newC (l.take k) = Ck := ⟨_, rfl⟩
  rw [hCk] at PK HLk HST
  clear hCk
  generalize l[k] = a at h1 h2 hcc hll hgl HST HLk
  obtain ⟨s2, hs2⟩ : ∃ s2, doC Ck a = s2 := ⟨_, rfl⟩
  rw [hs2] at HST HLk
  have HS2 := qh hs2
  clear hs2
  have hkp : Keeps okl w wr := PK.out.st.keeps HM.out
  have hcw : ∀ (j : Nat) (v : Value), ([.int .i64 a.kind, .int .i64 a.h, .int .i64 a.t, .int .i64 a.n, .int .i64 a.call.kind, .int .i64 a.call.h, .int .i64 a.call.t, .int .i64 a.call.n, .int .i64 a.call.c, .slice la1 a.call.label.length lc1, .slice ga1 a.call.grants.length gx1, .string a.call.text])[j]? = some v → wr.cell? ⟨bb, oo + k * 12 + j, none⟩ = some v := fun j v hv => (hkp.cell (p := ⟨bb, oo + k * 12 + j, none⟩) hbb hok).trans (hcc j v hv)
  have hkb : okl bb ∧ bb < w.heap.size := ⟨hok, hbb⟩
  have HD1 := qh (h1.fit (ok' := fun b => okl b ∧ b < w.heap.size) (fun b hb ho => ⟨ho, hb⟩))
  have HD2 := qh (h2.fit (ok' := fun b => okl b ∧ b < w.heap.size) (fun b hb ho => ⟨ho, hb⟩))
  have HDo := qh (cluster_Do PK.out a (fun b => okl b ∧ b < w.heap.size) (fun b hb => by omega) la1 lc1 ga1 gx1 hll hgl (HD1.out.move hkp.size (fun b hb ho => ⟨ho, hkp.block b hb ho.1⟩) fun _ _ r => r) (HD2.out.move hkp.size (fun b hb ho => ⟨ho, hkp.block b hb ho.1⟩) fun _ _ r => r))
  rw [HS2.out] at HDo
  unfold deedV RepV at HDo
  have HCW := qh hcw
  have HC0 := qh hcc
  clear h1 h2 hkp hok hbb hcc hcw hll hgl
  subst hre
  go_upto_region 8 with (first
   | go_skip
   | (with_reducible refine at_load 32 ?_; refine wpList_load_cells (wanted_none rfl) 32 _ rfl Tryz.isAgg32 _ Tryz.sizeOf32 bb (oo + k * 12) rfl [.int .i64 a.kind, .int .i64 a.h, .int .i64 a.t, .int .i64 a.n, .int .i64 a.call.kind, .int .i64 a.call.h, .int .i64 a.call.t, .int .i64 a.call.n, .int .i64 a.call.c, .slice la1 a.call.label.length lc1, .slice ga1 a.call.grants.length gx1, .string a.call.text] rfl HCW.out ?_)
   | (go_at_call 18; go_must (refine HDo.out.mono ?_; rintro e V ⟨rfl, P9⟩; have st := St.start V))
   | (with_reducible refine mA st Tryz.zeroValue35 ?_; clear st; intro g8 w8 hg8 st) | (with_reducible refine mS 0 st Tryz.sizeOf35 ?_; clear st; intro w9 st hw9m hw9z))
  try simp only [kP, kA, kS, kZ]
  have hkp9 : Keeps okl w V := P9.st.keeps HM.out
  have HP9 := qh P9
  have hJ9 := HJm.out k bl _ _ D P9.kept JK.out
  clear P9
  replace st := st.drew
  have hJ10 := qh (HJm.out k bl _ _ D ⟨st.below.size, fun b hb _ => st.below.block b hb⟩ hJ9)
  have P10 := qh (HP9.out.below st.below)
  have hk10 : Keeps okl w w9.drew := ⟨Nat.le_trans hkp9.size st.below.size, fun b hb ho => (st.below.block b (Nat.lt_of_lt_of_le hb hkp9.size)).trans (hkp9.block b hb ho)⟩
  have HLL := qh (HLk.out gc kg _ _ bl D la1 lc1 ga1 gx1 hgc P10.out hJ10.out ((HD1.out.move hk10.size (ok' := fun _ => True) (fun b hb ho => ⟨trivial, hk10.block b hb ho.1⟩) fun _ _ r => r)) ((HD2.out.move hk10.size (ok' := fun _ => True) (fun b hb ho => ⟨trivial, hk10.block b hb ho.1⟩) fun _ _ r => r)))
  unfold deedV RepV at HLL
  have HCU := qh (show ∀ U, St [g8] w9.drew U [(g8, 35, [.int .i64 s2.2.code, .int .i64 s2.2.n, .string s2.2.text])] → ∀ (j : Nat) (v : Value), ([.int .i64 a.kind, .int .i64 a.h, .int .i64 a.t, .int .i64 a.n, .int .i64 a.call.kind, .int .i64 a.call.h, .int .i64 a.call.t, .int .i64 a.call.n, .int .i64 a.call.c, .slice la1 a.call.label.length lc1, .slice ga1 a.call.grants.length gx1, .string a.call.text])[j]? = some v → U.cell? ⟨bb, oo + k * 12 + j, none⟩ = some v from fun U hU j v hv => by
   have hz9 : w.heap.size ≤ V.heap.size := hkp9.size
   have hg8 : V.heap.size ≤ g8 := by simpa using st.mine _ (mgE (i := 0) rfl)
   exact (World.cell?_of_block (w := w9.drew) (a := ⟨bb, oo + k * 12 + j, none⟩) (hU.frame bb (Nat.lt_of_lt_of_le hkb.2 hk10.size) (by simp; omega))).trans ((hk10.cell (p := ⟨bb, oo + k * 12 + j, none⟩) hkb.2 hkb.1).trans (HC0.out j v hv)))
  have hI := st.rebase
  simp only [List.map_cons, List.map_nil] at hI
  clear st hJ9 hkp9 hk10
  refine lex_tail (by kernel_rfl) 7 2 [7, 8] rfl (by decide +kernel) (fun U => St [g8] w9.drew U [(g8, 35, [.int .i64 s2.2.code, .int .i64 s2.2.n, .string s2.2.text])]) ?_
  refine lexS 0 rfl hI ?_
  refine lexS 1 rfl hI ?_
  refine lexS 2 rfl hI ?_
  refine lexS 3 rfl hI ?_
  refine lexT (v := .pointer (some ⟨bb, oo + k * 12, none⟩)) 4 rfl hI (fun W hW => by (first | (go_simp; done) | (go_simp; omega) | (go_simp; intro h; omega))) ?_
  refine lexT 5 rfl hI (fun U hU => run_load_at 32 _ rfl Tryz.isAgg32 _ Tryz.sizeOf32 bb (oo + k * 12) rfl [.int .i64 a.kind, .int .i64 a.h, .int .i64 a.t, .int .i64 a.n, .int .i64 a.call.kind, .int .i64 a.call.h, .int .i64 a.call.t, .int .i64 a.call.n, .int .i64 a.call.c, .slice la1 a.call.label.length lc1, .slice ga1 a.call.grants.length gx1, .string a.call.text] rfl (HCU.out U hU)) ?_
  refine lexT 6 rfl hI (fun W hW => St.run_load_agg hW 0 35 _ rfl Tryz.isAgg35 _ Tryz.sizeOf35 rfl rfl rfl rfl) ?_
  clear hI
  refine lex_done (by decide +kernel) ?_
  refine tail_next 7 rfl (by first | exact wanted_none rfl | exact wanted_some rfl rfl) (by decide +kernel) fun K hK => ?_
  refine wp_callee (f := f) (by first | (go_simp; done) | (go_simp; rfl)) ?_
  refine HLL.out.mono ?_
  rintro e V2 ⟨rfl, bl2, D2, PN, JN⟩
  refine ⟨_, rfl, ?_⟩
  refine hK _ _ ?_; clear hK
  refine tail_last 8 rfl (by first | exact wanted_none rfl | exact wanted_some rfl rfl) (by decide +kernel) (by decide +kernel) fun K hK => ?_
  refine wp_value (v := .bool false) (w' := V2) (by first | (go_simp; done) | (go_simp; rfl)) ?_
  refine hK _ _ ?_; clear hK
  have PN2 := qh PN
  have JN2 := qh JN
  have HST2 := qh HST.out
  clear PN JN HLL HCU P10 hJ10 HP9 HDo HD1 HD2 HCW HC0
  go_wp2_with (first | go_skip | fail)
  go_roundw
  case rel => exact ⟨k + 1, bl2, D2, hkl, by omega, by go_num, by rw [HST2.out]; exact PN2.out, JN2.out⟩
  case measure => simp [intOf] <;> omega

theorem four_n {n : Nat} (h : n < 4) : four (n : Int) = true := (four_iff _).2 ⟨by omega, by omega⟩
structure Grant (C : Clu) (a : Deed) (r : Rep) (h t : Int) (x y : Thr) : Prop where
 new : ∀ g ∈ y.own, g ∈ x.own ∨ (a.kind = 1 ∧ a.h = h ∧ a.t = t ∧ r.code = 0 ∧ ((a.call.kind = 1 ∧ r.n = g) ∨ (a.call.kind = 7 ∧ ∃ m ∈ x.mails, g ∈ m.grants)))
 old : ∀ g ∈ x.own, g ∈ y.own
 flow : flowsL x.label y.label x.own = true
def thrsOf (C : Clu) : List Thr := (List.range 16).map fun i => C.thr ((i / 4 : Nat) : Int) ((i % 4 : Nat) : Int)
theorem thrsOf_new : thrsOf newC = List.replicate 16 zeroT := by rfl
def mixL {α : Type} (l l' : List α) (k : Nat) : List α := l'.take k ++ l.drop k
def thrsMix (C C' : Clu) (k : Nat) : List (Bool × Thr) := mixL ((thrsOf C).map (Prod.mk false)) ((thrsOf C').map (Prod.mk true)) k
theorem thrC2_at (C : Clu) {h t : Nat} (hh : h < 4) (ht : t < 4) : thrC2 C h t = C.thr h t := by
 unfold thrC2 thrOf
 rw [if_pos (four_n hh), if_pos (four_n ht)]
 rfl
end Go.Proofs.YtnjjdpiofbajlaaGreat
