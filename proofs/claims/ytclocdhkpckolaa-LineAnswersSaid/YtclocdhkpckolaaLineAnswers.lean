/- For every line, Answered and Again answer exactly what the document's reference says, errors too. No condition. -/
import Derived.Test.YtclocdhkpckolaaRows
import Derived.Test.YtclocdhkpckolaaAgainB
import Derived.Test.YtclocdhkpckolaaSameL
import Derived.Test.YtclocdhkpckolaaLines
import Derived.Test.YtclocdhkpckolaaOpens
import Derived.SizedLaws
namespace Go.Proofs.Ytclocdhkpckolaa.lineAnswers
open Go.ChangeShapes Go.WideShapes Go.ChangeAt Go.RowKit

theorem wp_load_cells {P : Program} {w : World} {o : Oper} {A : Act} {Q : Exit → Act → World → Prop} {K : Act → World → Prop} (T : TypeId) (x : Operand) (ho : o.op = .load T x) (hagg : ∀ w, (isAgg T).run P w = .ok true w) (n : Nat) (hsz : ∀ w, (sizeOf T).run P w = .ok n w)
    (g off : Nat) (hx : A.eval x = .pointer (some ⟨g, off, none⟩)) (vs : List Value) (hl : vs.length = n) (hc : ∀ (j : Nat) (v : Value), vs[j]? = some v → w.cell? ⟨g, off + j, none⟩ = some v) (h : K (A.put o.dst (.agg vs.toArray)) w) : Oper.wp P o A w K Q := by
  have hl' : (loadCells ⟨g, off, none⟩ vs.length).run P w = .ok vs.toArray w := run_loadCells_list (P := P) w ⟨g, off, none⟩ vs (fun j v hj => by rw [add_plain]; exact hc j v hj)
  rw [hl] at hl'
  unfold Oper.wp
  simp only [execOp, ho, hx, Instr.loadAt, Instr.sureAddr, loadVar, Sem.run_bind, Sem.run_pure, Result.andThen_ok, hagg, hsz, if_true, hl']
  exact h

theorem RFrame.move {ok ok' : Nat → Prop} {w w' : World} {cs : List Value} {s : Frame} (h : RFrame ok w cs s) (hs : w.heap.size ≤ w'.heap.size) (hk : ∀ b, b < w.heap.size → ok b → ok' b ∧ w'.heap[b]? = w.heap[b]?) : RFrame ok' w' cs s := by
  obtain ⟨la, lc, ga, gc, ca, cc, e, h1, h2, h3⟩ := h
  exact ⟨la, lc, ga, gc, ca, cc, e, h1.move hs hk fun _ _ h => h, h2.move hs hk fun _ _ h => h, h3.move hs hk fun _ _ h => h⟩
abbrev FramesR (ok : Nat → Prop) (w : World) (a : Option Addr) (c : Nat) (l : List Frame) : Prop := SlR ok w 11 (RFrame ok w) a c l
theorem FramesR.move {ok ok' : Nat → Prop} {w w' : World} {a : Option Addr} {c : Nat} {xs : List Frame} (h : FramesR ok w a c xs) (hs : w.heap.size ≤ w'.heap.size) (hk : ∀ b, b < w.heap.size → ok b → ok' b ∧ w'.heap[b]? = w.heap[b]?) : FramesR ok' w' a c xs :=
  SlR.move h hs hk fun _ _ h => RFrame.move h hs hk
theorem FramesR.below {ok : Nat → Prop} {w w' : World} {a : Option Addr} {c : Nat} {xs : List Frame} (h : FramesR ok w a c xs) (hb : Below w.heap.size w w') : FramesR ok w' a c xs := FramesR.move h hb.size fun b hb' ho => ⟨ho, hb.block b hb'⟩

set_option maxRecDepth 20000 in
set_option maxHeartbeats 4000000 in
theorem walk (w : World) (L : Line) (sa : Option Addr) (sc : Nat) (seq now : Int) (hR : SentR (fun _ => True) w sa sc L.sent) (hf : L.fit) :
    Calls Try.prog 7 #[lineV L.next L.high sa L.sent.length sc L.seen, .int .i64 seq, .int .i64 now] w fun r w' => r = .returned (.bool true) ∧ Below w.heap.size w w' := by
  obtain ⟨hl, hfits⟩ := fitsL hf
  obtain ⟨next, sent, high, e⟩ := L
  simp only at hl hfits hR ⊢
  generalize hg : lineOk ⟨next, sent, high, e⟩ = good
  generalize hr : answX good sent seq = r
  generalize hq : againX good sent now = q
  obtain ⟨rk, rs⟩ := r
  obtain ⟨qk, qs, qo⟩ := q
  have HCL := Lib.hid (fun (W : World) (h : SentR (fun _ => True) W sa sc sent) => ref_CopyLine (fun _ => True) W next high sa sc sent e h hl hfits)
  have HA := Lib.hid (fun (ok : Nat → Prop) (W : World) hok a c hS => line_Answered ok W hok next high a c sent e seq hS hl good hg _ hr)
  have HB := Lib.hid (fun (ok : Nat → Prop) (W : World) hok a c hS => ref_AnsweredOn ok W hok next high a c sent e seq hS hl hfits good hg _ hr)
  have HC := Lib.hid (fun (ok : Nat → Prop) (W : World) hok a c hS => line_Again ok W hok next high a c sent e now hS hfits good hg _ hq)
  have HD := Lib.hid (fun (ok : Nat → Prop) (W : World) hok a c hS => ref_AgainOn ok W hok next high a c sent e now hS hfits good hg _ hq)
  clear hg hr hq hfits hf
  unfold lineV at *
  have st := St.start w
  have tk := trivial
  have tk4 := trivial
  have tk5 := trivial
  have dk : (rk != rk) = false := by simp
  have dq : (qk != qk) = false := by simp
  have do1 : ((qo.length : Int) != qo.length) = false := by simp
  go_enter Try.func7, Try.ntmps7
  go_wp2_with (first
    | go_skip | (refine mem_box st (wanted_none rfl) 25 _ rfl _ rfl _ rfl ?_; clear st; intro g1 w1 hg1 st hg1b; clear hg1b; simp [Act.eval, Act.put, Value.cells, putL] at st) | ((first | refine mem_load_agg' st 25 _ rfl (wanted_none rfl) Try.isAgg25 _ Try.sizeOf25 ?_ | (refine mem_load_agg' st 25 _ rfl (wanted_some rfl ?_) Try.isAgg25 _ Try.sizeOf25 ?_; focus (simp [yielded, Act.put]; done))); refine ⟨0, _, _, _, _, _, rfl, rfl, rfl, rfl, ?_⟩) | ((first | refine mem_load_agg' st 25 _ rfl (wanted_none rfl) Try.isAgg25 _ Try.sizeOf25 ?_ | (refine mem_load_agg' st 25 _ rfl (wanted_some rfl ?_) Try.isAgg25 _ Try.sizeOf25 ?_; focus (simp [yielded, Act.put]; done))); refine ⟨1, _, _, _, _, _, rfl, rfl, rfl, rfl, ?_⟩) | ((first | refine mem_load_agg' st 25 _ rfl (wanted_none rfl) Try.isAgg25 _ Try.sizeOf25 ?_ | (refine mem_load_agg' st 25 _ rfl (wanted_some rfl ?_) Try.isAgg25 _ Try.sizeOf25 ?_; focus (simp [yielded, Act.put]; done))); refine ⟨2, _, _, _, _, _, rfl, rfl, rfl, rfl, ?_⟩) | ((first | refine mem_load_agg' st 25 _ rfl (wanted_none rfl) Try.isAgg25 _ Try.sizeOf25 ?_ | (refine mem_load_agg' st 25 _ rfl (wanted_some rfl ?_) Try.isAgg25 _ Try.sizeOf25 ?_; focus (simp [yielded, Act.put]; done))); refine ⟨3, _, _, _, _, _, rfl, rfl, rfl, rfl, ?_⟩)
    | (clear tk; (refine mem_alloc st (wanted_none rfl) 25 rfl _ Try.zeroValue25 _ rfl ?_; clear st; intro g2 w2 hg2 st hg2b; clear hg2b; simp [Act.eval, Act.put, Value.cells, putL] at st)) | (clear tk2; (refine mem_alloc st (wanted_none rfl) 25 rfl _ Try.zeroValue25 _ rfl ?_; clear st; intro g3 w3 hg3 st hg3b; clear hg3b; simp [Act.eval, Act.put, Value.cells, putL] at st)) | (refine mem_alloc st (wanted_none rfl) 25 rfl _ Try.zeroValue25 _ rfl ?_; clear st; intro g4 w4 hg4 st hg4b; clear hg4b; simp [Act.eval, Act.put, Value.cells, putL] at st) | ((first | refine mem_store' st 25 _ _ rfl (wanted_none rfl) _ Try.sizeOf25 ?_ | (refine mem_store' st 25 _ _ rfl (wanted_some rfl ?_) _ Try.sizeOf25 ?_; focus (simp [yielded, Act.put]; done))); refine ⟨1, _, _, _, _, _, rfl, rfl, rfl, rfl, rfl, rfl, ?_⟩; clear st; intro w5 st hw5m hw5z; simp [Act.eval, Act.put, Value.cells, putL] at st) | ((first | refine mem_store' st 25 _ _ rfl (wanted_none rfl) _ Try.sizeOf25 ?_ | (refine mem_store' st 25 _ _ rfl (wanted_some rfl ?_) _ Try.sizeOf25 ?_; focus (simp [yielded, Act.put]; done))); refine ⟨2, _, _, _, _, _, rfl, rfl, rfl, rfl, rfl, rfl, ?_⟩; clear st; intro w6 st hw6m hw6z; simp [Act.eval, Act.put, Value.cells, putL] at st) | ((first | refine mem_store' st 25 _ _ rfl (wanted_none rfl) _ Try.sizeOf25 ?_ | (refine mem_store' st 25 _ _ rfl (wanted_some rfl ?_) _ Try.sizeOf25 ?_; focus (simp [yielded, Act.put]; done))); refine ⟨3, _, _, _, _, _, rfl, rfl, rfl, rfl, rfl, rfl, ?_⟩; clear st; intro w7 st hw7m hw7z; simp [Act.eval, Act.put, Value.cells, putL] at st)
    | (go_at_call 9; refine (HCL.out _ (SentR.below hR st.below)).mono ?_; rintro r v1 ⟨a1, k1, rfl, hb1, hC⟩; have hw1 := st.below.keep hb1; have hz1 := hw1.size
       have hR0 : SentR (fun b => b < v1.heap.size) v1 sa sc sent := SentR.move hR hw1.size fun b hb _ => ⟨Nat.lt_of_lt_of_le hb hw1.size, hw1.block b hb⟩
       have hR1 : SentR (fun b => b < v1.heap.size) v1 a1 k1 sent := SentR.move hC (Nat.le_refl _) fun b hb _ => ⟨hb, rfl⟩
       clear hC; replace st := st.call hb1; clear hb1; have stb := st; replace st := st.rebase)
    | (go_at_call 22; have hB := stb.below2 st (by simp); refine (HA.out (fun _ => True) _ (fun _ _ => trivial) _ _ (SentR.move (SentR.below hR1 hB) (Nat.le_refl _) fun b _ _ => (⟨trivial, rfl⟩ : True ∧ _))).mono ?_; rintro r v2 ⟨a2, k2, rfl, hb2, hS2⟩; replace hB := hB.keep hb2; have hz2 := hB.size; have hw2 := hw1.keep hB
       replace hR0 := SentR.below hR0 hB; replace hR1 := SentR.below hR1 hB; clear hB; replace st := st.call hb2; clear hb2; clear stb; have stb := st; replace st := st.rebase; have tk2 := trivial)
    | (go_at_call 23; have hB := stb.below2 st (by simp); refine (HB.out (fun _ => True) _ (fun _ _ => trivial) _ _ (SentR.move (SentR.below hR0 hB) (Nat.le_refl _) fun b _ _ => (⟨trivial, rfl⟩ : True ∧ _))).mono ?_; rintro r v3 ⟨a3, k3, rfl, hb3, hS3⟩; replace hB := hB.keep hb3; have hz3 := hB.size; have hw3 := hw2.keep hB
       replace hR0 := SentR.below hR0 hB; replace hR1 := SentR.below hR1 hB; replace hS2 := SentR.below hS2 hB; clear hB; replace st := st.call hb3; clear hb3; clear stb; have stb := st; replace st := st.rebase)
    | (go_at_call 13; clear tk4; refine (ref_SameLine (fun _ => True) (fun _ => True) _ next high rs e a2 k2 a3 k3 (SentR.below hS2 (stb.below2 st (by simp))) (SentR.below hS3 (stb.below2 st (by simp)))).mono ?_; rintro x v4 ⟨rfl, hb4⟩; replace st := st.call hb4; clear hb4)
    | (go_at_call 13; refine (ref_SameLine _ _ _ next high sent e a1 k1 sa sc (SentR.below hR1 (stb.below2 st (by simp))) (SentR.below hR0 (stb.below2 st (by simp)))).mono ?_; rintro x v4 ⟨rfl, hb4⟩; replace st := st.call hb4; clear hb4)
    | (go_at_call 24; have hB := stb.below2 st (by simp); have hw4 := hw3.keep hB; replace hR0 := SentR.below hR0 hB; replace hR1 := SentR.below hR1 hB; have l3 := st.ltAt (i := 2) rfl; have l4 := st.ltAt (i := 3) rfl
       refine (HC.out (fun b => b ≠ g3 ∧ b ≠ g4) _ (fun b hb => ⟨by omega, by omega⟩) _ _ (SentR.move hR1 (Nat.le_refl _) fun b _ (ho : b < v1.heap.size) => ⟨⟨by omega, by omega⟩, rfl⟩)).mono ?_; rintro r v5 ⟨a4, k4, a5, k5, rfl, hb5, hS4, hF4⟩
       replace hR0 := SentR.below hR0 hb5; replace hR1 := SentR.below hR1 hb5; replace hw4 := hw4.keep hb5; replace st := st.call hb5; clear hb5 hB stb hS2 hS3 hw3 hw2; replace st := st.rebase; refine RowKit.Hid.out ?_))
  refine Lib.hid ?_
  clear HA HB HC HCL hw1
  go_wp2_with (first
    | go_skip | ((first | refine mem_load_agg' st 25 _ rfl (wanted_none rfl) Try.isAgg25 _ Try.sizeOf25 ?_ | (refine mem_load_agg' st 25 _ rfl (wanted_some rfl ?_) Try.isAgg25 _ Try.sizeOf25 ?_; focus (simp [yielded, Act.put]; done))); refine ⟨0, _, _, _, _, _, rfl, rfl, rfl, rfl, ?_⟩) | ((first | refine mem_load_agg' st 25 _ rfl (wanted_none rfl) Try.isAgg25 _ Try.sizeOf25 ?_ | (refine mem_load_agg' st 25 _ rfl (wanted_some rfl ?_) Try.isAgg25 _ Try.sizeOf25 ?_; focus (simp [yielded, Act.put]; done))); refine ⟨1, _, _, _, _, _, rfl, rfl, rfl, rfl, ?_⟩) | ((first | refine mem_load_agg' st 25 _ rfl (wanted_none rfl) Try.isAgg25 _ Try.sizeOf25 ?_ | (refine mem_load_agg' st 25 _ rfl (wanted_some rfl ?_) Try.isAgg25 _ Try.sizeOf25 ?_; focus (simp [yielded, Act.put]; done))); refine ⟨2, _, _, _, _, _, rfl, rfl, rfl, rfl, ?_⟩) | ((first | refine mem_load_agg' st 25 _ rfl (wanted_none rfl) Try.isAgg25 _ Try.sizeOf25 ?_ | (refine mem_load_agg' st 25 _ rfl (wanted_some rfl ?_) Try.isAgg25 _ Try.sizeOf25 ?_; focus (simp [yielded, Act.put]; done))); refine ⟨3, _, _, _, _, _, rfl, rfl, rfl, rfl, ?_⟩)
    | (((first | refine mem_store' st 25 _ _ rfl (wanted_none rfl) _ Try.sizeOf25 ?_ | (refine mem_store' st 25 _ _ rfl (wanted_some rfl ?_) _ Try.sizeOf25 ?_; focus (simp [yielded, Act.put]; done))); refine ⟨2, _, _, _, _, _, rfl, rfl, rfl, rfl, rfl, rfl, ?_⟩; clear st; intro w8 st hw8m hw8z; simp [Act.eval, Act.put, Value.cells, putL] at st); replace hR0 := SentR.move hR0 (Nat.le_of_eq hw8z.symm) fun b _ (ho : b < v1.heap.size) => ⟨ho, hw8m b (by omega)⟩; replace hR1 := SentR.move hR1 (Nat.le_of_eq hw8z.symm) fun b _ (ho : b < v1.heap.size) => ⟨ho, hw8m b (by omega)⟩
       replace hS4 := SentR.move hS4 (Nat.le_of_eq hw8z.symm) fun b _ (ho : b ≠ g3 ∧ b ≠ g4) => ⟨ho, hw8m b ho.1⟩; replace hF4 := FramesR.move hF4 (Nat.le_of_eq hw8z.symm) fun b _ (ho : b ≠ g3 ∧ b ≠ g4) => ⟨ho, hw8m b ho.1⟩
       have hw8 := hw4.trans (st.belowB hw4.size (by simp; omega)); clear hw4 hw8m hw8z; have stb := st; replace st := st.rebase)
    | (go_at_call 25; have l3 := st.ltAt (i := 2) rfl; have l4 := st.ltAt (i := 3) rfl
       refine (HD.out (fun b => b ≠ g3 ∧ b ≠ g4) _ (fun b hb => ⟨by omega, by omega⟩) _ _ (SentR.move hR0 (Nat.le_refl _) fun b _ (ho : b < v1.heap.size) => ⟨⟨by omega, by omega⟩, rfl⟩)).mono ?_; rintro r v6 ⟨a6, k6, a7, k7, rfl, hb6, hS6, hF6⟩
       replace hR0 := SentR.below hR0 hb6; replace hR1 := SentR.below hR1 hb6; replace hS4 := SentR.below hS4 hb6; replace hF4 := FramesR.below hF4 hb6; replace hw8 := hw8.keep hb6; replace st := st.call hb6; clear hb6 stb; replace st := st.rebase)
    | (((first | refine mem_store' st 25 _ _ rfl (wanted_none rfl) _ Try.sizeOf25 ?_ | (refine mem_store' st 25 _ _ rfl (wanted_some rfl ?_) _ Try.sizeOf25 ?_; focus (simp [yielded, Act.put]; done))); refine ⟨3, _, _, _, _, _, rfl, rfl, rfl, rfl, rfl, rfl, ?_⟩; clear st; intro w9 st hw9m hw9z; simp [Act.eval, Act.put, Value.cells, putL] at st); replace hR0 := SentR.move hR0 (Nat.le_of_eq hw9z.symm) fun b _ (ho : b < v1.heap.size) => ⟨ho, hw9m b (by omega)⟩; replace hR1 := SentR.move hR1 (Nat.le_of_eq hw9z.symm) fun b _ (ho : b < v1.heap.size) => ⟨ho, hw9m b (by omega)⟩
       replace hS4 := SentR.move hS4 (Nat.le_of_eq hw9z.symm) fun b _ (ho : b ≠ g3 ∧ b ≠ g4) => ⟨ho, hw9m b ho.2⟩; replace hF4 := FramesR.move hF4 (Nat.le_of_eq hw9z.symm) fun b _ (ho : b ≠ g3 ∧ b ≠ g4) => ⟨ho, hw9m b ho.2⟩
       replace hS6 := SentR.move hS6 (Nat.le_of_eq hw9z.symm) fun b _ (ho : b ≠ g3 ∧ b ≠ g4) => ⟨ho, hw9m b ho.2⟩; replace hF6 := FramesR.move hF6 (Nat.le_of_eq hw9z.symm) fun b _ (ho : b ≠ g3 ∧ b ≠ g4) => ⟨ho, hw9m b ho.2⟩
       have hw9 := hw8.trans (st.belowB hw8.size (by simp; omega)); clear hw8 hw9m hw9z; have stb := st; replace st := st.rebase)
    | (go_at_call 13; clear tk5; refine (ref_SameLine _ _ _ next high qs e a4 k4 a6 k6 (SentR.below hS4 (stb.below2 st (by simp))) (SentR.below hS6 (stb.below2 st (by simp)))).mono ?_; rintro x v4 ⟨rfl, hb4⟩; replace st := st.call hb4; clear hb4)
    | (go_at_call 13; refine (ref_SameLine _ _ _ next high sent e a1 k1 sa sc (SentR.below hR1 (stb.below2 st (by simp))) (SentR.below hR0 (stb.below2 st (by simp)))).mono ?_; rintro x v4 ⟨rfl, hb4⟩; replace st := st.call hb4; clear hb4))
  have hBl := stb.below2 st (by simp)
  replace hF4 := FramesR.below hF4 hBl
  replace hF6 := FramesR.below hF6 hBl
  have hwl := hw9.keep hBl
  have hsl : qo.length ≤ 9223372036854775807 := by have h1 := hF4.1; have h2 := hF4.2.1; unfold maxLen at h2; omega
  clear stb st hR0 hR1 hS4 hS6 hR HD hBl hw9 l3 l4 hg2 hg3 hg4 hz1 hz2 hz3
  go_loopw [82] (fun i wr => ∃ k : Nat, k ≤ qo.length ∧ i = .int .i64 k ∧ Below v4.heap.size v4 wr) (fun i _ => qo.length - (intOf i).toNat)
  case atStart => exact ⟨0, Nat.zero_le _, rfl, Below.refl _ _⟩
  case round =>
    obtain ⟨k, hk, rfl, hB⟩ := hrel
    by_cases hlt : k < qo.length
    · obtain ⟨b4, p4, _, rfl, _, _, ⟨l1, m1, l2, m2, l3, m3, rfl, hx1, hx2, hx3⟩, _, _, hc4⟩ := (FramesR.below hF4 hB).2.2.2 k qo[k] (List.getElem?_eq_getElem hlt)
      obtain ⟨b6, p6, _, rfl, _, _, ⟨n1, o1, n2, o2, n3, o3, rfl, hy1, hy2, hy3⟩, _, _, hc6⟩ := (FramesR.below hF6 hB).2.2.2 k qo[k] (List.getElem?_eq_getElem hlt)
      go_wp2_with fail
      try simp only [Act.put, List.setIfInBounds_toArray, List.set_cons_succ, List.set_cons_zero]
      refine wp_region_ahead (by kernel_rfl) [(0, some 85), (1, some 86), (2, some 87), (3, some 88), (4, some 89), (5, some 90), (6, some 91), (7, some 92), (8, some 93), (9, some 94)] [0, 1, 2, 3, 4, 5, 6, 7, 8, 9] rfl 0 (by decide +kernel) rfl (fun w w' => Below w.heap.size w w') (fun i v W => match i with
        | 0 => v = .slice (some ⟨b4, p4, none⟩) qo.length k5
        | 1 => v = .int .i64 k
        | 2 => v = .pointer (some ⟨b4, p4 + k * 11, none⟩)
        | 3 => v = .agg #[.int .i64 qo[k].src, .int .i64 qo[k].dst, .int .i64 qo[k].seq, .bool qo[k].ack, .int .i64 qo[k].thread, .int .i64 qo[k].mail.host, .int .i64 qo[k].mail.thread, .slice l1 qo[k].mail.label.length m1, .slice l2 qo[k].mail.grants.length m2, .string qo[k].mail.text, .slice l3 qo[k].certs.length m3]
        | 4 => v = .slice (some ⟨b6, p6, none⟩) qo.length k7
        | 5 => v = .int .i64 k
        | 6 => v = .pointer (some ⟨b6, p6 + k * 11, none⟩)
        | 7 => v = .agg #[.int .i64 qo[k].src, .int .i64 qo[k].dst, .int .i64 qo[k].seq, .bool qo[k].ack, .int .i64 qo[k].thread, .int .i64 qo[k].mail.host, .int .i64 qo[k].mail.thread, .slice n1 qo[k].mail.label.length o1, .slice n2 qo[k].mail.grants.length o2, .string qo[k].mail.text, .slice n3 qo[k].certs.length o3]
        | 8 => v = .bool true
        | _ => v = .bool false)
        (fun W => Below wr.heap.size wr W) (Below.refl _ _).drew ?mono ?step ?fin
      case mono =>
        intro i v U U' hi hb _ _ h
        simp only [List.mem_cons, List.not_mem_nil, or_false] at hi
        rcases hi with rfl | rfl | rfl | rfl | rfl | rfl | rfl | rfl | rfl | rfl
        all_goals exact h
      case step =>
        intro i t hi x W hI hp K hK
        simp only [List.mem_cons, List.not_mem_nil, or_false, Prod.mk.injEq] at hi
        rcases hi with ⟨rfl, rfl⟩ | ⟨rfl, rfl⟩ | ⟨rfl, rfl⟩ | ⟨rfl, rfl⟩ | ⟨rfl, rfl⟩ | ⟨rfl, rfl⟩ | ⟨rfl, rfl⟩ | ⟨rfl, rfl⟩ | ⟨rfl, rfl⟩ | ⟨rfl, rfl⟩
        all_goals simp only [putAll, Act.put, List.setIfInBounds_toArray, List.set_cons_succ, List.set_cons_zero] at hK ⊢
        all_goals refine wpOp_at rfl rfl ?_
        · exact wp_value (v := .slice (some ⟨b4, p4, none⟩) qo.length k5) (by go_simp) (hK _ _ (Below.refl _ _) hI rfl)
        · exact wp_value (v := .int .i64 k) (by go_simp) (hK _ _ (Below.refl _ _) hI rfl)
        · have p0 : x 0 = _ := hp 0 (by decide +kernel)
          have p1 : x 1 = _ := hp 1 (by decide +kernel)
          simp only [p0, p1] at hK ⊢
          exact wp_value (v := .pointer (some ⟨b4, p4 + k * 11, none⟩)) (by go_simp) (hK _ _ (Below.refl _ _) hI rfl)
        · have p2 : x 2 = _ := hp 2 (by decide +kernel)
          exact wp_load_cells 33 _ rfl Try.isAgg33 _ Try.sizeOf33 b4 (p4 + k * 11) p2 [.int .i64 qo[k].src, .int .i64 qo[k].dst, .int .i64 qo[k].seq, .bool qo[k].ack, .int .i64 qo[k].thread, .int .i64 qo[k].mail.host, .int .i64 qo[k].mail.thread, .slice l1 qo[k].mail.label.length m1, .slice l2 qo[k].mail.grants.length m2, .string qo[k].mail.text, .slice l3 qo[k].certs.length m3] rfl (fun j v hj => (hI.cell (p := ⟨b4, _, none⟩) (by assumption)).trans (hc4 j v hj)) (hK _ _ (Below.refl _ _) hI rfl)
        · exact wp_value (v := .slice (some ⟨b6, p6, none⟩) qo.length k7) (by go_simp) (hK _ _ (Below.refl _ _) hI rfl)
        · exact wp_value (v := .int .i64 k) (by go_simp) (hK _ _ (Below.refl _ _) hI rfl)
        · have p4 : x 4 = _ := hp 4 (by decide +kernel)
          have p5 : x 5 = _ := hp 5 (by decide +kernel)
          simp only [p4, p5] at hK ⊢
          exact wp_value (v := .pointer (some ⟨b6, p6 + k * 11, none⟩)) (by go_simp) (hK _ _ (Below.refl _ _) hI rfl)
        · have p6 : x 6 = _ := hp 6 (by decide +kernel)
          exact wp_load_cells 33 _ rfl Try.isAgg33 _ Try.sizeOf33 b6 _ p6 [.int .i64 qo[k].src, .int .i64 qo[k].dst, .int .i64 qo[k].seq, .bool qo[k].ack, .int .i64 qo[k].thread, .int .i64 qo[k].mail.host, .int .i64 qo[k].mail.thread, .slice n1 qo[k].mail.label.length o1, .slice n2 qo[k].mail.grants.length o2, .string qo[k].mail.text, .slice n3 qo[k].certs.length o3] rfl (fun j v hj => (hI.cell (p := ⟨b6, _, none⟩) (by assumption)).trans (hc6 j v hj)) (hK _ _ (Below.refl _ _) hI rfl)
        · have p3 : x 3 = _ := hp 3 (by decide +kernel)
          have p7 : x 7 = _ := hp 7 (by decide +kernel)
          simp only [p3, p7] at hK ⊢
          go_simp
          refine (ref_SameFrame _ _ W qo[k] l1 m1 l2 m2 l3 m3 n1 o1 n2 o2 n3 o3 ⟨⟨hx1.below hI, hx2.below hI⟩, hx3.below hI⟩ ⟨⟨hy1.below hI, hy2.below hI⟩, hy3.below hI⟩).mono ?_
          rintro r u1 ⟨rfl, hb1⟩
          exact hK _ _ hb1 (hI.keep hb1) rfl
        · have p8 : x 8 = _ := hp 8 (by decide +kernel)
          simp only [p8] at hK ⊢
          exact wp_value (v := .bool false) (by go_simp) (hK _ _ (Below.refl _ _) hI rfl)
      case fin =>
        intro x W hI hG
        have p9 : x 9 = .bool false := hG 9 (by simp)
        simp only [putAll, Act.put, List.setIfInBounds_toArray, List.set_cons_succ, List.set_cons_zero, p9]
        refine wpAny_done (by decide +kernel) ?_ 0
        go_wp2
        go_roundw
        case rel => exact ⟨k + 1, hlt, by go_num, hB.keep hI⟩
        case measure => simp [intOf]; omega
    · go_wp2_with (first | (go_at_call 17; refine (lines_yes _).mono ?_; rintro x v9 ⟨rfl, hb9⟩))
      go_ret
      exact ⟨rfl, (hwl.keep hB).keep hb9⟩

theorem own : ownKnob Try.prog.godebug = none := by kernel_rfl
theorem laid : laidOutB Try.prog = true := by kernel_rfl

set_option maxRecDepth 100000 in
theorem contract (H : Type) (enc : TypeId × Value → H) (W : World) (base : Nat) (args : Array Value) (ds gs : List (DataW H)) (before : List MemPlace)
    (hval : ∀ (j : Nat) t v, Try.f7.params[j]? = some t → args[j]? = some v → Value.okWide Try.prog W .any base t v)
    (hW : DataW.Whole enc Try.prog Try.f7.params.toList Rows.lineAnswersSpec.vars false W args.toList ds gs before)
    (hsz : (DataW.weightsEach Try.prog (Try.f7.params.toList ++ Rows.lineAnswersSpec.plain.varTypes Try.prog) (ds ++ gs)).all (· ≤ reachBytes) = true) :
    Calls Try.prog 7 args W fun e W' => ∃ v, e = .returned v ∧ Rows.lineAnswersSpec.post enc Try.prog Try.f7 false true false false W args v W' := by
  have hW' := hW
  obtain ⟨p, q, hA0, hV, rfl, hfz, hnd⟩ := hW
  have hA : DataW.TrodAll enc Try.prog W 0 (fun _ => true) true Try.f7.params.toList args.toList ds p := hA0
  have hpar := Try.params7
  rw [hpar] at hA hval hsz
  obtain ⟨v0, vs0, d0, ds0, p0, q0, hargs0, rfl, rfl, h0, r0⟩ := trodAll_cons hA
  obtain ⟨v1, vs1, d1, ds1, p1, q1, hargs1, rfl, rfl, h1, r1⟩ := trodAll_cons r0
  obtain ⟨v2, vs2, d2, ds2, p2, q2, hargs2, rfl, rfl, h2, r2⟩ := trodAll_cons r1
  obtain ⟨hnil, rfl, rfl⟩ := trodAll_nil r2
  obtain rfl : args = #[v0, v1, v2] := by cases args; simp_all
  obtain ⟨rfl, rfl⟩ := trodVars_none hV
  have w0 : ∀ n ∈ d0.weights Try.prog 25, n ≤ reachBytes := fun n hn => by simpa using List.all_eq_true.1 hsz n (DataW.weights_mem_each (j := 0) (t := 25) (d := d0) rfl rfl n hn)
  obtain ⟨x0, cs0, rfl, ⟨a0, c0, rfl, hR0⟩, hx0, hm0⟩ := arg_struct reads_Line Try.underlying25 (hval 0 _ v0 rfl rfl) h0 w0
  have w1 : ∀ n ∈ d1.weights Try.prog 3, n ≤ reachBytes := fun n hn => by simpa using List.all_eq_true.1 hsz n (DataW.weights_mem_each (j := 1) (t := 3) (d := d1) rfl rfl n hn)
  obtain ⟨x1, rfl, hx1⟩ := arg_int Try.underlying3 (hval 1 _ v1 rfl rfl) h1
  have w2 : ∀ n ∈ d2.weights Try.prog 3, n ≤ reachBytes := fun n hn => by simpa using List.all_eq_true.1 hsz n (DataW.weights_mem_each (j := 2) (t := 3) (d := d2) rfl rfl n hn)
  obtain ⟨x2, rfl, hx2⟩ := arg_int Try.underlying3 (hval 2 _ v2 rfl rfl) h2
  refine (walk W x0 a0 c0 x1 x2 hR0 hx0).mono fun e W' ⟨he, hb⟩ => ?_
  exact ⟨_, he, law_post laid (by kernel_rfl) hW' rfl rfl (by kernel_rfl) Try.underlying4 hb⟩

set_option maxRecDepth 100000 in
theorem lifted (os : Os) (started : os.Started) (H : Type) (enc : TypeId × Value → H) :
    ReturnsInHanded {} Try.checked os 7 .any (Rows.lineAnswersSpec.pre6 enc Try.prog Try.f7 Rows.lineAnswersRow.domain false) (Rows.lineAnswersSpec.post enc Try.prog Try.f7 false true false false) := by
  refine returnsInHanded_of_change_sized (C := Try.checked) own started (by kernel_rfl) Try.func7
    (ChangeSpec.witness6 (enc := enc) (C := Try.checked) false ⟨#[], #[.agg #[.int .i64 0, .slice none 0 0, .int .i64 0, .bool false, .bool false, .bool false, .bool false, .bool false, .bool false, .bool false, .bool false], .int .i64 0, .int .i64 0], []⟩ 12 (by kernel_rfl) (by kernel_rfl) (by kernel_rfl) (by kernel_rfl)) ?_
  intro W base args ds gs before hval hW _ hsz _
  exact contract H enc W base args ds gs before hval hW hsz

theorem proved : Rows.LineAnswersSaid :=
  OpenClaim.holds_of_wide 7 Try.f7 rfl rfl rfl rfl rfl rfl rfl ⟨rfl, rfl, rfl, rfl, rfl⟩ rfl rfl rfl rfl rfl (by kernel_rfl) Try.func7 (by kernel_rfl)
    (of_decide_eq_true (by kernel_rfl)) (by unfold Func.isWrapper; first | (rw [if_pos (by decide +kernel)]; kernel_rfl) | (rw [if_neg (by decide +kernel)]; exact ⟨rfl, rfl⟩))
    (fun os started H enc _ => lifted os started H enc)

end Go.Proofs.Ytclocdhkpckolaa.lineAnswers
