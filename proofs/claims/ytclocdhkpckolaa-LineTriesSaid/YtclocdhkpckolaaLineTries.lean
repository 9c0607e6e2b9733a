/- For every line and frame, it is sent five times at most, as it was, is given up then, and is not sent again once it is answered. No condition. -/
import Derived.Test.YtclocdhkpckolaaRows
import Derived.Test.YtclocdhkpckolaaTries
import Derived.Test.YtclocdhkpckolaaKeepSame
import Derived.Test.YtclocdhkpckolaaOnce
import Derived.Test.YtclocdhkpckolaaPick
import Derived.Test.YtclocdhkpckolaaLines
import Derived.Test.YtclocdhkpckolaaOpens
import Derived.SizedLaws
import Derived.Deep.DeepCutAuto
set_option linter.unusedSimpArgs false
set_option linter.unusedVariables false
namespace Go.Proofs.Ytclocdhkpckolaa.lineTries
open Go.ChangeShapes Go.WideShapes Go.ChangeAt Go.RowKit

theorem wpList_load_cells {P : Program} {w : World} {ops : Array Oper} {rest : List Oper} {o : Oper} {A : Act} {Q : Exit → Act → World → Prop} (hgd : Region.wanted o (yielded ops A.tmps) = true) (T : TypeId) (x : Operand) (ho : o.op = .load T x) (hagg : ∀ w, (isAgg T).run P w = .ok true w) (n : Nat) (hsz : ∀ w, (sizeOf T).run P w = .ok n w)
    (g off : Nat) (hx : A.eval x = .pointer (some ⟨g, off, none⟩)) (vs : List Value) (hl : vs.length = n) (hc : ∀ (j : Nat) (v : Value), vs[j]? = some v → w.cell? ⟨g, off + j, none⟩ = some v) (h : wpList P ops Q rest (A.put o.dst (.agg vs.toArray)) w) : wpList P ops Q (o :: rest) A w := by
  refine wpList_wanted hgd fun K hK => ?_
  have hl' : (loadCells ⟨g, off, none⟩ vs.length).run P w = .ok vs.toArray w := run_loadCells_list (P := P) w ⟨g, off, none⟩ vs (fun j v hj => by rw [add_plain]; exact hc j v hj)
  rw [hl] at hl'
  unfold Oper.wp
  simp only [execOp, ho, hx, Instr.loadAt, Instr.sureAddr, loadVar, Sem.run_bind, Sem.run_pure, Result.andThen_ok, hagg, hsz, if_true, hl']
  exact hK _ _ h

theorem RFrame.move {ok ok' : Nat → Prop} {w w' : World} {cs : List Value} {s : Frame} (h : RFrame ok w cs s) (hs : w.heap.size ≤ w'.heap.size) (hk : ∀ b, b < w.heap.size → ok b → ok' b ∧ w'.heap[b]? = w.heap[b]?) : RFrame ok' w' cs s := by
  obtain ⟨la, lc, ga, gc, ca, cc, e, h1, h2, h3⟩ := h
  exact ⟨la, lc, ga, gc, ca, cc, e, h1.move hs hk fun _ _ h => h, h2.move hs hk fun _ _ h => h, h3.move hs hk fun _ _ h => h⟩
abbrev FramesR (ok : Nat → Prop) (w : World) (a : Option Addr) (c : Nat) (l : List Frame) : Prop := SlR ok w 11 (RFrame ok w) a c l
theorem FramesR.move {ok ok' : Nat → Prop} {w w' : World} {a : Option Addr} {c : Nat} {xs : List Frame} (h : FramesR ok w a c xs) (hs : w.heap.size ≤ w'.heap.size) (hk : ∀ b, b < w.heap.size → ok b → ok' b ∧ w'.heap[b]? = w.heap[b]?) : FramesR ok' w' a c xs :=
  SlR.move h hs hk fun _ _ h => RFrame.move h hs hk
theorem FramesR.below {ok : Nat → Prop} {w w' : World} {a : Option Addr} {c : Nat} {xs : List Frame} (h : FramesR ok w a c xs) (hb : Below w.heap.size w w') : FramesR ok w' a c xs := FramesR.move h hb.size fun b hb' ho => ⟨ho, hb.block b hb'⟩

theorem hits_step {gs : Int} {l : List Frame} {j : Nat} (h : j < l.length) : hits gs (l.take (j + 1)) = hits gs (l.take j) + (if l[j].seq == gs then 1 else 0) := by
  unfold hits
  rw [List.take_succ_eq_append_getElem h, List.filter_append]
  by_cases hs : (l[j].seq == gs) = true
  · simp [List.filter_cons, hs]
  · simp [List.filter_cons, hs]

theorem hits_le (gs : Int) (l : List Frame) : hits gs l ≤ l.length := List.length_filter_le ..

theorem any_step {gs : Int} {l : List Sent} {j : Nat} (h : j < l.length) : (l.take (j + 1)).any (fun s => s.frame.seq == gs) = ((l.take j).any (fun s => s.frame.seq == gs) || (l[j].frame.seq == gs)) := by
  rw [List.take_succ_eq_append_getElem h, List.any_append]
  simp

set_option maxRecDepth 20000 in
set_option maxHeartbeats 4000000 in
/-- Behind a frame that was sent: the steps. -/
theorem walk (w : World) (L : Line) (sa : Option Addr) (sc : Nat) (f : Frame) (la : Option Addr) (lc : Nat) (ga : Option Addr) (gc : Nat) (ca : Option Addr) (cc : Nat) (now : Int) (steps : List Int) (qa : Option Addr) (qc : Nat) (hR : SentR (fun _ => True) w sa sc L.sent) (hF : FrameR (fun _ => True) w f la lc ga gc ca cc) (hf : L.fit) (hff : f.fit) (hnow : fitI now)
    (hQ : SlR (fun _ => True) w 1 RInt qa qc steps) (hql : steps.length * 8 ≤ 140737488351232) (hqf : ∀ x ∈ steps, fitI x) :
    Calls Try.prog 8 #[lineV L.next L.high sa L.sent.length sc L.seen, frameV f la lc ga gc ca cc, .int .i64 now, .slice qa steps.length qc] w fun r w' => r = .returned (.bool true) ∧ Below w.heap.size w w' := by
  obtain ⟨hl, hfits⟩ := fitsL hf
  have hfit := fitsF hff
  obtain ⟨next, sent, high, e⟩ := L
  simp only at hl hfits hR ⊢
  have hsl : steps.length ≤ 9223372036854775807 := by omega
  unfold lineV frameV at *
  have st := St.start w
  have tk := trivial
  go_enter Try.func8, Try.ntmps8
  go_wp2_with (first | go_skip | (refine mem_box st (wanted_none rfl) 25 _ rfl _ rfl _ rfl ?_; clear st; intro g1 w1 hg1 st hg1b; clear hg1b; simp [Act.eval, Act.put, Value.cells, putL] at st) | (refine mem_box st (wanted_none rfl) 33 _ rfl _ rfl _ rfl ?_; clear st; intro g2 w2 hg2 st hg2b; clear hg2b; simp [Act.eval, Act.put, Value.cells, putL] at st) | (go_at_call 20; refine (keep_pick _ _ 1073741824 (by omega) (by omega) hnow).mono ?_; rintro x v2 ⟨⟨p, rfl, hp1, hp2⟩, rfl⟩; refine RowKit.Hid.out ?_))
  refine Lib.hid ?_
  generalize hg : lineOk ⟨next, sent, high, e⟩ = good
  obtain ⟨⟨rk, nx, rs, g⟩, hr⟩ : ∃ r, sendX good next sent f p = r := ⟨_, rfl⟩
  have l1 := st.ltAt (i := 0) rfl
  have z1 := st.mine _ (List.mem_of_getElem? (i := 0) rfl)
  simp at z1
  have z2 := st.mine _ (List.mem_of_getElem? (i := 1) rfl)
  simp at z2
  have HS := Lib.hid (fun (W : World) (hW : g1 < W.heap.size ∧ g2 < W.heap.size) hS hF => line_Send (fun b => b ≠ g1 ∧ b ≠ g2) W (fun b hb => ⟨by omega, by omega⟩) next high sa sc sent e f la lc ga gc ca cc p hS hF hfits hfit good hg _ hr)
  unfold lineV frameV at HS
  have hcase : rk ≠ 0 ∨ rk = 0 ∧ lineOk ⟨nx, rs, high, e⟩ = true ∧ TriesInv rs g 1 true := by
    unfold sendX at hr
    split at hr
    · cases hr; exact .inl (by decide)
    · rename_i c0
      split at hr
      · cases hr; exact .inl (by decide)
      · rename_i c1
        cases hr
        have hgt : good = true := by
          cases good
          · exact absurd (Or.inl rfl) c0
          · rfl
        subst hgt
        refine .inr ⟨rfl, send_good hg (by omega) (by omega) (by omega) (by omega), by omega, by omega, fun _ => ⟨_, List.mem_append_right _ (List.mem_singleton.2 rfl), rfl, rfl⟩, fun h => by simp at h⟩
  have hR1 : SentR (fun b => b ≠ g1 ∧ b ≠ g2) w sa sc sent := SentR.move hR (Nat.le_refl _) fun b hb _ => ⟨⟨by omega, by omega⟩, rfl⟩
  have hF1 : FrameR (fun b => b ≠ g1 ∧ b ≠ g2) w f la lc ga gc ca cc := FrameR.move hF (Nat.le_refl _) fun b hb _ => ⟨⟨by omega, by omega⟩, rfl⟩
  clear hr hg hfits hfit hR hF hf hff
  rcases hcase with hk | ⟨rfl, hgood, hT⟩
  · have dk : (rk != 0) = true := by simpa using hk
    go_wp2_with (first
      | go_skip | ((first | refine mem_load_agg' st 25 _ rfl (wanted_none rfl) Try.isAgg25 _ Try.sizeOf25 ?_ | (refine mem_load_agg' st 25 _ rfl (wanted_some rfl ?_) Try.isAgg25 _ Try.sizeOf25 ?_; focus (simp [yielded, Act.put]; done))); refine ⟨0, _, _, _, _, _, rfl, rfl, rfl, rfl, ?_⟩) | ((first | refine mem_load_agg' st 33 _ rfl (wanted_none rfl) Try.isAgg33 _ Try.sizeOf33 ?_ | (refine mem_load_agg' st 33 _ rfl (wanted_some rfl ?_) Try.isAgg33 _ Try.sizeOf33 ?_; focus (simp [yielded, Act.put]; done))); refine ⟨1, _, _, _, _, _, rfl, rfl, rfl, rfl, ?_⟩) | (refine mem_alloc st (wanted_none rfl) 33 rfl _ Try.zeroValue33 _ rfl ?_; clear st; intro g9 w9 hg9 st hg9b; clear hg9b; simp [Act.eval, Act.put, Value.cells, putL] at st) | ((first | refine mem_store' st 25 _ _ rfl (wanted_none rfl) _ Try.sizeOf25 ?_ | (refine mem_store' st 25 _ _ rfl (wanted_some rfl ?_) _ Try.sizeOf25 ?_; focus (simp [yielded, Act.put]; done))); refine ⟨0, _, _, _, _, _, rfl, rfl, rfl, rfl, rfl, rfl, ?_⟩; clear st; intro w10 st hw10m hw10z; simp [Act.eval, Act.put, Value.cells, putL] at st) | ((first | refine mem_store' st 33 _ _ rfl (wanted_none rfl) _ Try.sizeOf33 ?_ | (refine mem_store' st 33 _ _ rfl (wanted_some rfl ?_) _ Try.sizeOf33 ?_; focus (simp [yielded, Act.put]; done))); refine ⟨2, _, _, _, _, _, rfl, rfl, rfl, rfl, rfl, rfl, ?_⟩; clear st; intro w11 st hw11m hw11z; simp [Act.eval, Act.put, Value.cells, putL] at st)
      | (go_at_call 10; refine (HS.out _ ⟨st.ltAt (i := 0) rfl, st.ltAt (i := 1) rfl⟩ (SentR.below hR1 st.below) (hF1.below st.below)).mono ?_; rintro x v3 ⟨a, c, l1, m1, l2, m2, l3, m3, rfl, hb3, hS, hFg⟩; replace st := st.call hb3; clear hb3)
      | (go_at_call 21; refine (keep_lines_yes _).mono ?_; rintro x v9 ⟨rfl, hb9⟩))
    go_ret
    exact ⟨rfl, st.below.keep hb9⟩
  · have dk : ((0 : Int) != 0) = false := by decide
    go_wp2_with (first
      | go_skip | ((first | refine mem_load_agg' st 25 _ rfl (wanted_none rfl) Try.isAgg25 _ Try.sizeOf25 ?_ | (refine mem_load_agg' st 25 _ rfl (wanted_some rfl ?_) Try.isAgg25 _ Try.sizeOf25 ?_; focus (simp [yielded, Act.put]; done))); refine ⟨0, _, _, _, _, _, rfl, rfl, rfl, rfl, ?_⟩) | ((first | refine mem_load_agg' st 33 _ rfl (wanted_none rfl) Try.isAgg33 _ Try.sizeOf33 ?_ | (refine mem_load_agg' st 33 _ rfl (wanted_some rfl ?_) Try.isAgg33 _ Try.sizeOf33 ?_; focus (simp [yielded, Act.put]; done))); refine ⟨1, _, _, _, _, _, rfl, rfl, rfl, rfl, ?_⟩) | (refine mem_alloc st (wanted_none rfl) 33 rfl _ Try.zeroValue33 _ rfl ?_; clear st; intro g9 w9 hg9 st hg9b; clear hg9b; simp [Act.eval, Act.put, Value.cells, putL] at st)
      | (go_at_call 10; refine (HS.out _ ⟨st.ltAt (i := 0) rfl, st.ltAt (i := 1) rfl⟩ (SentR.below hR1 st.below) (hF1.below st.below)).mono ?_; rintro x v3 ⟨a, c, l1, m1, l2, m2, l3, m3, rfl, hb3, hS, hFg⟩; replace st := st.call hb3; clear hb3; have stb := st; replace st := st.rebase)
      | ((first | refine mem_store' st 25 _ _ rfl (wanted_none rfl) _ Try.sizeOf25 ?_ | (refine mem_store' st 25 _ _ rfl (wanted_some rfl ?_) _ Try.sizeOf25 ?_; focus (simp [yielded, Act.put]; done))); refine ⟨0, _, _, _, _, _, rfl, rfl, rfl, rfl, rfl, rfl, ?_⟩; clear st; intro w10 st hw10m hw10z; simp [Act.eval, Act.put, Value.cells, putL] at st) | ((first | refine mem_store' st 33 _ _ rfl (wanted_none rfl) _ Try.sizeOf33 ?_ | (refine mem_store' st 33 _ _ rfl (wanted_some rfl ?_) _ Try.sizeOf33 ?_; focus (simp [yielded, Act.put]; done))); refine ⟨2, _, _, _, _, _, rfl, rfl, rfl, rfl, rfl, rfl, ?_⟩; clear st; intro w11 st hw11m hw11z; simp [Act.eval, Act.put, Value.cells, putL] at st)
      | (go_at_call 21; refine (keep_lines_yes _).mono ?_; rintro x v9 ⟨rfl, hb9⟩; replace st := st.call hb9; clear hb9))
    have hmv : ∀ b, b < v3.heap.size → b ≠ g1 ∧ b ≠ g2 → (b ≠ g1 ∧ b ≠ g2) ∧ v9.heap[b]? = v3.heap[b]? := fun b hb ho => ⟨ho, st.frame b hb (by simp [ho.1, ho.2])⟩
    replace hS := SentR.move hS st.size hmv
    replace hFg := FrameR.move hFg st.size hmv
    have k9 : g9 ≠ g1 ∧ g9 ≠ g2 := by have := st.ne; simp at this; exact ⟨fun e => this.1.2 e.symm, fun e => this.2 e.symm⟩
    replace st := (St.back stb st).sub (own' := [(g1, 25, [.int .i64 nx, .slice a rs.length c, .int .i64 high, .bool e.s0, .bool e.s1, .bool e.s2, .bool e.s3, .bool e.s4, .bool e.s5, .bool e.s6, .bool e.s7]), (g9, 33, [.int .i64 g.src, .int .i64 g.dst, .int .i64 g.seq, .bool g.ack, .int .i64 g.thread, .int .i64 g.mail.host, .int .i64 g.mail.thread, .slice l1 g.mail.label.length m1, .slice l2 g.mail.grants.length m2, .string g.mail.text, .slice l3 g.certs.length m3])]) (by simp) (by simp; exact fun e => k9.1 e.symm)
    have k92 : g2 < g9 := by have h1 := stb.ltAt (i := 1) rfl; have h2 := hg9; omega
    clear stb hmv HS hR1 hF1 hw10m hw10z hw11m hw11z dk
    go_loopw [2, 11, 12, 13] (fun vn vc vt vi wr => ∃ (i : Nat) (nw cnt : Int) (there : Bool) (l : List Sent) (a : Option Addr) (c : Nat), i ≤ steps.length ∧ i ≤ 40 ∧ vi = .int .i64 i ∧ vn = .int .i64 nw ∧ 0 ≤ nw ∧ nw ≤ 1073741824 + 50 * i ∧ vc = .int .i64 cnt ∧ vt = .bool there ∧ lineOk ⟨nx, l, high, e⟩ = true ∧ TriesInv l g cnt there ∧ SentR (fun b => b ≠ g1 ∧ b ≠ g2) wr a c l ∧ FrameR (fun b => b ≠ g1 ∧ b ≠ g2) wr g l1 m1 l2 m2 l3 m3 ∧ St [] w wr [(g1, 25, [.int .i64 nx, .slice a l.length c, .int .i64 high, .bool e.s0, .bool e.s1, .bool e.s2, .bool e.s3, .bool e.s4, .bool e.s5, .bool e.s6, .bool e.s7]), (g9, 33, [.int .i64 g.src, .int .i64 g.dst, .int .i64 g.seq, .bool g.ack, .int .i64 g.thread, .int .i64 g.mail.host, .int .i64 g.mail.thread, .slice l1 g.mail.label.length m1, .slice l2 g.mail.grants.length m2, .string g.mail.text, .slice l3 g.certs.length m3])]) (fun _ _ _ vi _ => steps.length - (intOf vi).toNat)
    case atStart => exact ⟨0, p, 1, true, rs, a, c, Nat.zero_le _, by omega, rfl, rfl, hp1, by omega, rfl, rfl, hgood, hT, hS, hFg, st⟩
    case round =>
      clear st hS hFg hgood hT
      obtain ⟨i, nw, cnt, there, l, a, c, hi, hi40, rfl, rfl, hn1, hn2, rfl, rfl, hgood, hT, hS, hFg, st⟩ := hrel
      have hTc := hT.c5
      have hTd := hT.c1
      by_cases hii : i < steps.length ∧ i < 40
      · obtain ⟨hlt, h40⟩ := hii
        have d1 : decide ((i : Int) < steps.length) = true := by simp; omega
        have d2 : decide ((i : Int) < 40) = true := by simp; omega
        obtain ⟨qb, qo, rfl, hqb, hqc⟩ := (hQ.below st.below).int_at i hlt
        have hqfit := hqf _ (List.getElem_mem hlt)
        go_wp2_with (first | go_skip | (go_at_call 20; refine (keep_pick _ _ 50 (by omega) (by omega) hqfit).mono ?_; rintro x v2 ⟨⟨q, rfl, hq1, hq2⟩, rfl⟩; refine RowKit.Hid.out ?_))
        refine Lib.hid ?_
        have hwr : IntKind.i64.wrap (nw + q) = nw + q := IntWalk.i64_in _ (by omega)
        obtain ⟨ht1, ht2⟩ := tries_step (now := nw + q) hgood hT
        have hgood' := again_good (now := nw + q) hgood (by omega) (by omega)
        have hll := List.length_filterMap_le (keepS (nw + q)) l
        have hlo := List.length_filterMap_le (outS (nw + q)) l
        obtain ⟨_, _, _, _, hl8⟩ := lineOk_high hgood
        have HA := Lib.hid (fun (W : World) (hW : g1 < W.heap.size ∧ g2 < W.heap.size) hS => line_Again_ok (fun b => b ≠ g1 ∧ b ≠ g2) W (fun b hb => ⟨by omega, by omega⟩) nx high a c l e (nw + q) hS hgood (by omega) (by omega))
        generalize hl' : l.filterMap (keepS (nw + q)) = l' at HA ht2 hgood' hll
        generalize hout : l.filterMap (outS (nw + q)) = out at HA ht1 ht2 hlo
        unfold lineV at HA
        clear hl' hout hqc hqfit
        have dll : decide ((l.length : Int) < l'.length) = false := by simp; omega
        have dll2 : decide (l.length < l'.length) = false := by simp; omega
        have dk : ((0 : Int) != 0) = false := by decide
        go_wp2_with (first
          | go_skip | ((first | refine mem_load_agg' st 25 _ rfl (wanted_none rfl) Try.isAgg25 _ Try.sizeOf25 ?_ | (refine mem_load_agg' st 25 _ rfl (wanted_some rfl ?_) Try.isAgg25 _ Try.sizeOf25 ?_; focus (simp [yielded, Act.put]; done))); refine ⟨0, _, _, _, _, _, rfl, rfl, rfl, rfl, ?_⟩) | (refine mem_alloc st (wanted_none rfl) 25 rfl _ Try.zeroValue25 _ rfl ?_; clear st; intro g14 w14 hg14 st hg14b; clear hg14b; simp [Act.eval, Act.put, Value.cells, putL] at st) | ((first | refine mem_store' st 25 _ _ rfl (wanted_none rfl) _ Try.sizeOf25 ?_ | (refine mem_store' st 25 _ _ rfl (wanted_some rfl ?_) _ Try.sizeOf25 ?_; focus (simp [yielded, Act.put]; done))); refine ⟨2, _, _, _, _, _, rfl, rfl, rfl, rfl, rfl, rfl, ?_⟩; clear st; intro w15 st hw15m hw15z; simp [Act.eval, Act.put, Value.cells, putL] at st) | ((first | refine mem_load' st 22 _ rfl (wanted_none rfl) Try.isAgg22 ?_ | (refine mem_load' st 22 _ rfl (wanted_some rfl ?_) Try.isAgg22 ?_; focus (simp [yielded, Act.put]; done))); refine ⟨2, _, _, _, _, _, rfl, rfl, rfl, ?_⟩) | ((first | refine mem_load' st 22 _ rfl (wanted_none rfl) Try.isAgg22 ?_ | (refine mem_load' st 22 _ rfl (wanted_some rfl ?_) Try.isAgg22 ?_; focus (simp [yielded, Act.put]; done))); refine ⟨0, _, _, _, _, _, rfl, rfl, rfl, ?_⟩)
          | (go_at_call 24; refine (HA.out _ ⟨st.ltAt (i := 0) rfl, by have := st.ltAt (i := 1) rfl; omega⟩ hS).mono ?_; rintro x v4 ⟨a', c', a2, c2, rfl, hb4, hS', hO'⟩; replace hFg := hFg.below hb4; replace st := st.call hb4; clear hb4; have stb := st; replace st := st.rebase))
        have hB15 := stb.below2 st (by simp)
        replace hS' := SentR.below hS' hB15
        replace hO' := FramesR.below hO' hB15
        replace hFg := hFg.below hB15
        replace st := St.back stb st
        clear stb hB15 HA hS dll dll2 hgood hT hw15m hw15z
        have st0 := st
        clear st
        go_loopw [11, 79] (fun vc vj wi => ∃ j : Nat, j ≤ out.length ∧ vj = .int .i64 j ∧ vc = .int .i64 (cnt + hits g.seq (out.take j)) ∧ Below w15.heap.size w15 wi) (fun _ vj _ => out.length - (intOf vj).toNat)
        case atStart => exact ⟨0, Nat.zero_le _, rfl, by simp [hits], Below.refl _ _⟩
        case round =>
          obtain ⟨j, hj, rfl, rfl, hBi⟩ := hrel
          have st := st0.call hBi
          by_cases hjl : j < out.length
          · obtain ⟨b4, p4, _, rfl, _, _, ⟨n1, o1, n2, o2, n3, o3, rfl, hx1, hx2, hx3⟩, _, _, hc4⟩ := (FramesR.below hO' hBi).2.2.2 j out[j] (List.getElem?_eq_getElem hjl)
            have hst := hits_step (gs := g.seq) hjl
            have hle := hits_le g.seq (out.take j)
            have hle2 : (out.take j).length ≤ j := by simp; omega
            have hmem := ht1 _ (List.getElem_mem hjl)
            have hF1 := hFg.below hBi
            generalize hits g.seq (out.take j) = ho at hst hle
            have HST := Lib.hid hst
            clear hst
            have str := st
            replace st := st.rebase
            by_cases hseq : out[j].seq = g.seq
            · obtain ⟨rfl, hxg⟩ := hmem hseq
              rw [hxg] at hx1 hx2 hx3 hc4 HST
              have dq : (g.seq == g.seq) = true := by simp
              rw [if_pos dq] at HST
              have hwr2 : IntKind.i64.wrap (cnt + (ho : Int) + 1) = cnt + ho + 1 := IntWalk.i64_in _ (by omega)
              clear hseq hmem hxg st0 ht1
              go_wp2_with (first
                | go_skip | (refine mem_alloc st (wanted_none rfl) 33 rfl _ Try.zeroValue33 _ rfl ?_; clear st; intro g18 w18 hg18 st hg18b; clear hg18b; simp [Act.eval, Act.put, Value.cells, putL] at st) | ((first | refine mem_store' st 33 _ _ rfl (wanted_none rfl) _ Try.sizeOf33 ?_ | (refine mem_store' st 33 _ _ rfl (wanted_some rfl ?_) _ Try.sizeOf33 ?_; focus (simp [yielded, Act.put]; done))); refine ⟨3, _, _, _, _, _, rfl, rfl, rfl, rfl, rfl, rfl, ?_⟩; clear st; intro w19 st hw19m hw19z; simp [Act.eval, Act.put, Value.cells, putL] at st) | ((first | refine mem_load' st 3 _ rfl (wanted_none rfl) Try.isAgg3 ?_ | (refine mem_load' st 3 _ rfl (wanted_some rfl ?_) Try.isAgg3 ?_; focus (simp [yielded, Act.put]; done))); refine ⟨3, _, _, _, _, _, rfl, rfl, rfl, ?_⟩) | ((first | refine mem_load' st 3 _ rfl (wanted_none rfl) Try.isAgg3 ?_ | (refine mem_load' st 3 _ rfl (wanted_some rfl ?_) Try.isAgg3 ?_; focus (simp [yielded, Act.put]; done))); refine ⟨1, _, _, _, _, _, rfl, rfl, rfl, ?_⟩) | ((first | refine mem_load_agg' st 33 _ rfl (wanted_none rfl) Try.isAgg33 _ Try.sizeOf33 ?_ | (refine mem_load_agg' st 33 _ rfl (wanted_some rfl ?_) Try.isAgg33 _ Try.sizeOf33 ?_; focus (simp [yielded, Act.put]; done))); refine ⟨3, _, _, _, _, _, rfl, rfl, rfl, rfl, ?_⟩) | ((first | refine mem_load_agg' st 33 _ rfl (wanted_none rfl) Try.isAgg33 _ Try.sizeOf33 ?_ | (refine mem_load_agg' st 33 _ rfl (wanted_some rfl ?_) Try.isAgg33 _ Try.sizeOf33 ?_; focus (simp [yielded, Act.put]; done))); refine ⟨1, _, _, _, _, _, rfl, rfl, rfl, rfl, ?_⟩)
                | (refine wpList_load_cells (wanted_none rfl) 33 _ rfl Try.isAgg33 _ Try.sizeOf33 b4 (p4 + j * 11) rfl [.int .i64 g.src, .int .i64 g.dst, .int .i64 g.seq, .bool g.ack, .int .i64 g.thread, .int .i64 g.mail.host, .int .i64 g.mail.thread, .slice n1 g.mail.label.length o1, .slice n2 g.mail.grants.length o2, .string g.mail.text, .slice n3 g.certs.length o3] rfl hc4 ?_)
                | (go_at_call 26; refine (keep_sameFrame _ _ _ g n1 o1 n2 o2 n3 o3 l1 m1 l2 m2 l3 m3 ⟨⟨hx1.below (str.below2 st (by simp)), hx2.below (str.below2 st (by simp))⟩, hx3.below (str.below2 st (by simp))⟩ (hF1.below (str.below2 st (by simp)))).mono ?_; rintro x v5 ⟨rfl, hb5⟩; replace st := st.call hb5))
              go_roundw
              case rel => exact ⟨j + 1, hjl, by go_num, by rw [HST.out]; simp [Int.add_assoc], hBi.keep (str.below2 st (by simp))⟩
              case measure => simp [intOf]; omega
            · have dq : (out[j].seq == g.seq) = false := by simpa using hseq
              rw [if_neg (by rw [dq]; simp)] at HST
              clear hseq hmem st0 ht1
              go_wp2_with (first
                | go_skip | (refine mem_alloc st (wanted_none rfl) 33 rfl _ Try.zeroValue33 _ rfl ?_; clear st; intro g18 w18 hg18 st hg18b; clear hg18b; simp [Act.eval, Act.put, Value.cells, putL] at st) | ((first | refine mem_store' st 33 _ _ rfl (wanted_none rfl) _ Try.sizeOf33 ?_ | (refine mem_store' st 33 _ _ rfl (wanted_some rfl ?_) _ Try.sizeOf33 ?_; focus (simp [yielded, Act.put]; done))); refine ⟨3, _, _, _, _, _, rfl, rfl, rfl, rfl, rfl, rfl, ?_⟩; clear st; intro w19 st hw19m hw19z; simp [Act.eval, Act.put, Value.cells, putL] at st) | ((first | refine mem_load' st 3 _ rfl (wanted_none rfl) Try.isAgg3 ?_ | (refine mem_load' st 3 _ rfl (wanted_some rfl ?_) Try.isAgg3 ?_; focus (simp [yielded, Act.put]; done))); refine ⟨3, _, _, _, _, _, rfl, rfl, rfl, ?_⟩) | ((first | refine mem_load' st 3 _ rfl (wanted_none rfl) Try.isAgg3 ?_ | (refine mem_load' st 3 _ rfl (wanted_some rfl ?_) Try.isAgg3 ?_; focus (simp [yielded, Act.put]; done))); refine ⟨1, _, _, _, _, _, rfl, rfl, rfl, ?_⟩)
                | (refine wpList_load_cells (wanted_none rfl) 33 _ rfl Try.isAgg33 _ Try.sizeOf33 b4 (p4 + j * 11) rfl [.int .i64 out[j].src, .int .i64 out[j].dst, .int .i64 out[j].seq, .bool out[j].ack, .int .i64 out[j].thread, .int .i64 out[j].mail.host, .int .i64 out[j].mail.thread, .slice n1 out[j].mail.label.length o1, .slice n2 out[j].mail.grants.length o2, .string out[j].mail.text, .slice n3 out[j].certs.length o3] rfl hc4 ?_))
              go_roundw
              case rel => exact ⟨j + 1, hjl, by go_num, by rw [HST.out]; simp, hBi.keep (str.below2 st (by simp))⟩
              case measure => simp [intOf]; omega
          · obtain rfl : j = out.length := by omega
            rw [List.take_length]
            replace hS' := SentR.below hS' hBi
            replace hFg := hFg.below hBi
            clear hO' ht1 st0
            generalize hits g.seq out = hh at ht2 ⊢
            go_wp2_with (first | go_skip | ((first | refine mem_load' st 22 _ rfl (wanted_none rfl) Try.isAgg22 ?_ | (refine mem_load' st 22 _ rfl (wanted_some rfl ?_) Try.isAgg22 ?_; focus (simp [yielded, Act.put]; done))); refine ⟨2, _, _, _, _, _, rfl, rfl, rfl, ?_⟩))
            have hlen8 : l'.length ≤ 9223372036854775807 := by omega
            have st0 := st
            clear st
            go_loopw [12, 102] (fun vt vj wj => ∃ j : Nat, j ≤ l'.length ∧ vj = .int .i64 j ∧ vt = .bool ((l'.take j).any fun s => s.frame.seq == g.seq) ∧ Below wr.heap.size wr wj) (fun _ vj _ => l'.length - (intOf vj).toNat)
            case atStart => exact ⟨0, Nat.zero_le _, rfl, rfl, Below.refl _ _⟩
            case round =>
              obtain ⟨j, hj, rfl, rfl, hBj⟩ := hrel
              have st := st0.call hBj
              by_cases hjl : j < l'.length
              · obtain ⟨b4, p4, _, rfl, _, _, ⟨n1, o1, n2, o2, n3, o3, rfl, hx⟩, _, _, hc4⟩ := (SentR.below hS' hBj).2.2.2 j l'[j] (List.getElem?_eq_getElem hjl)
                have HST := Lib.hid (any_step (gs := g.seq) hjl)
                generalize ((l'.take j).any fun s => s.frame.seq == g.seq) = had at HST ⊢
                have str := st
                replace st := st.rebase
                clear st0
                cases had
                · go_wp2_with (first
                    | go_skip | (refine mem_alloc st (wanted_none rfl) 56 rfl _ Try.zeroValue56 _ rfl ?_; clear st; intro g20 w20 hg20 st hg20b; clear hg20b; simp [Act.eval, Act.put, Value.cells, putL] at st) | ((first | refine mem_store' st 56 _ _ rfl (wanted_none rfl) _ Try.sizeOf56 ?_ | (refine mem_store' st 56 _ _ rfl (wanted_some rfl ?_) _ Try.sizeOf56 ?_; focus (simp [yielded, Act.put]; done))); refine ⟨3, _, _, _, _, _, rfl, rfl, rfl, rfl, rfl, rfl, ?_⟩; clear st; intro w21 st hw21m hw21z; simp [Act.eval, Act.put, Value.cells, putL] at st)
                    | (refine mem_load' st 3 _ rfl (wanted_some rfl rfl) Try.isAgg3 ?_; first | refine ⟨3, _, _, _, _, _, rfl, rfl, rfl, ?_⟩ | refine ⟨1, _, _, _, _, _, rfl, rfl, rfl, ?_⟩)
                    | (refine wpList_load_cells (wanted_none rfl) 56 _ rfl Try.isAgg56 _ Try.sizeOf56 b4 (p4 + j * 13) rfl [.int .i64 l'[j].frame.src, .int .i64 l'[j].frame.dst, .int .i64 l'[j].frame.seq, .bool l'[j].frame.ack, .int .i64 l'[j].frame.thread, .int .i64 l'[j].frame.mail.host, .int .i64 l'[j].frame.mail.thread, .slice n1 l'[j].frame.mail.label.length o1, .slice n2 l'[j].frame.mail.grants.length o2, .string l'[j].frame.mail.text, .slice n3 l'[j].frame.certs.length o3, .int .i64 l'[j].tries, .int .i64 l'[j].due] rfl hc4 ?_))
                  go_roundw
                  case rel => exact ⟨j + 1, hjl, by go_num, by rw [HST.out]; simp, hBj.keep (str.below2 st (by simp))⟩
                  case measure => simp [intOf]; omega
                · go_wp2_with (first
                    | go_skip | (refine mem_alloc st (wanted_none rfl) 56 rfl _ Try.zeroValue56 _ rfl ?_; clear st; intro g20 w20 hg20 st hg20b; clear hg20b; simp [Act.eval, Act.put, Value.cells, putL] at st) | (((first | refine mem_store' st 56 _ _ rfl (wanted_none rfl) _ Try.sizeOf56 ?_ | (refine mem_store' st 56 _ _ rfl (wanted_some rfl ?_) _ Try.sizeOf56 ?_; focus (simp [yielded, Act.put]; done))); refine ⟨3, _, _, _, _, _, rfl, rfl, rfl, rfl, rfl, rfl, ?_⟩; clear st; intro w21 st hw21m hw21z; simp [Act.eval, Act.put, Value.cells, putL] at st); refine RowKit.Hid.out ?_)
                    | (refine wpList_load_cells (wanted_none rfl) 56 _ rfl Try.isAgg56 _ Try.sizeOf56 b4 (p4 + j * 13) rfl [.int .i64 l'[j].frame.src, .int .i64 l'[j].frame.dst, .int .i64 l'[j].frame.seq, .bool l'[j].frame.ack, .int .i64 l'[j].frame.thread, .int .i64 l'[j].frame.mail.host, .int .i64 l'[j].frame.mail.thread, .slice n1 l'[j].frame.mail.label.length o1, .slice n2 l'[j].frame.mail.grants.length o2, .string l'[j].frame.mail.text, .slice n3 l'[j].frame.certs.length o3, .int .i64 l'[j].tries, .int .i64 l'[j].due] rfl hc4 ?_))
                  refine Lib.hid ?_
                  go_wp2_with fail
                  go_roundw
                  case rel => exact ⟨j + 1, hjl, by go_num, by rw [HST.out]; simp, hBj.keep (str.below2 st (by simp))⟩
                  case measure => simp [intOf]; omega
              · obtain rfl : j = l'.length := by omega
                rw [List.take_length]
                replace hS' := SentR.below hS' hBj
                replace hFg := hFg.below hBj
                generalize (l'.any fun s => s.frame.seq == g.seq) = had at ht2 ⊢
                clear st0
                go_wp2_with (first | go_skip | ((first | refine mem_load_agg' st 25 _ rfl (wanted_none rfl) Try.isAgg25 _ Try.sizeOf25 ?_ | (refine mem_load_agg' st 25 _ rfl (wanted_some rfl ?_) Try.isAgg25 _ Try.sizeOf25 ?_; focus (simp [yielded, Act.put]; done))); refine ⟨2, _, _, _, _, _, rfl, rfl, rfl, rfl, ?_⟩) | ((first | refine mem_store' st 25 _ _ rfl (wanted_none rfl) _ Try.sizeOf25 ?_ | (refine mem_store' st 25 _ _ rfl (wanted_some rfl ?_) _ Try.sizeOf25 ?_; focus (simp [yielded, Act.put]; done))); refine ⟨0, _, _, _, _, _, rfl, rfl, rfl, rfl, rfl, rfl, ?_⟩; clear st; intro w22 st hw22m hw22z; simp [Act.eval, Act.put, Value.cells, putL] at st))
                have hmv : ∀ b, b < wr.heap.size → b ≠ g1 ∧ b ≠ g2 → (b ≠ g1 ∧ b ≠ g2) ∧ w22.heap[b]? = wr.heap[b]? := fun b hb ho => ⟨ho, hw22m b ho.1⟩
                replace hS' := SentR.move hS' (Nat.le_of_eq hw22z.symm) hmv
                replace hFg := FrameR.move hFg (Nat.le_of_eq hw22z.symm) hmv
                go_roundw
                case rel => exact ⟨i + 1, nw + q, cnt + hh, had, l', a', c', hlt, by omega, by go_num, rfl, by omega, by omega, rfl, rfl, hgood', ht2, hS', hFg, st.sub (by simp) (by simp; exact fun e => k9.1 e.symm)⟩
                case measure => simp [intOf]; omega
      · obtain ⟨_, _, _, _, hl8⟩ := lineOk_high hgood
        obtain ⟨⟨kk, sl⟩, hr⟩ : ∃ r, answX true l g.seq = r := ⟨_, rfl⟩
        obtain ⟨te1, te2⟩ := tries_end hT hr
        have hs8 : sl.length ≤ 8 := by
          unfold answX at hr
          rw [if_neg (by simp)] at hr
          have := List.length_filter_le (offSeq g.seq) l
          split at hr <;> (cases hr; omega)
        have HA := Lib.hid (fun (W : World) (hW : g1 < W.heap.size ∧ g2 < W.heap.size) hS => line_Answered (fun b => b ≠ g1 ∧ b ≠ g2) W (fun b hb => ⟨by omega, by omega⟩) nx high a c l e g.seq hS (by omega) true hgood _ hr)
        unfold lineV at HA
        simp only at te1 te2
        clear hr hgood hT
        have tl := st.ltAt (i := 1) rfl
        have hdd : ¬ i < steps.length ∨ (i < steps.length ∧ ¬ i < 40) := by omega
        clear hii
        rcases hdd with h1 | ⟨h1, h2⟩
        all_goals
          have d1 : (decide ((i : Int) < steps.length) = false ∧ True) ∨ (decide ((i : Int) < steps.length) = true ∧ decide ((i : Int) < 40) = false) := by first | exact .inl ⟨by simp; omega, trivial⟩ | exact .inr ⟨by simp; omega, by simp; omega⟩
          go_upto_region 28 with fail
          go_cut [21, 22] (fun s21 s22 wx => ∃ (g3 : Nat) (a' : Option Addr) (c' : Nat), s21 = .pointer (some ⟨g3, 0, none⟩) ∧ s22 = .int .i64 kk ∧ SentR (fun b => b ≠ g1 ∧ b ≠ g2) wx a' c' sl ∧ St [] w wx [(g1, 25, [.int .i64 nx, .slice a l.length c, .int .i64 high, .bool e.s0, .bool e.s1, .bool e.s2, .bool e.s3, .bool e.s4, .bool e.s5, .bool e.s6, .bool e.s7]), (g9, 33, [.int .i64 g.src, .int .i64 g.dst, .int .i64 g.seq, .bool g.ack, .int .i64 g.thread, .int .i64 g.mail.host, .int .i64 g.mail.thread, .slice l1 g.mail.label.length m1, .slice l2 g.mail.grants.length m2, .string g.mail.text, .slice l3 g.certs.length m3]), (g3, 25, [.int .i64 nx, .slice a' sl.length c', .int .i64 high, .bool e.s0, .bool e.s1, .bool e.s2, .bool e.s3, .bool e.s4, .bool e.s5, .bool e.s6, .bool e.s7])])
          case first =>
            go_wp2_with (first
              | go_skip | ((first | refine mem_load_agg' st 25 _ rfl (wanted_none rfl) Try.isAgg25 _ Try.sizeOf25 ?_ | (refine mem_load_agg' st 25 _ rfl (wanted_some rfl ?_) Try.isAgg25 _ Try.sizeOf25 ?_; focus (simp [yielded, Act.put]; done))); refine ⟨0, _, _, _, _, _, rfl, rfl, rfl, rfl, ?_⟩) | ((first | refine mem_load' st 3 _ rfl (wanted_none rfl) Try.isAgg3 ?_ | (refine mem_load' st 3 _ rfl (wanted_some rfl ?_) Try.isAgg3 ?_; focus (simp [yielded, Act.put]; done))); refine ⟨1, _, _, _, _, _, rfl, rfl, rfl, ?_⟩) | (refine mem_alloc st (wanted_none rfl) 25 rfl _ Try.zeroValue25 _ rfl ?_; clear st; intro g22 w22 hg22 st hg22b; clear hg22b; simp [Act.eval, Act.put, Value.cells, putL] at st) | ((first | refine mem_store' st 25 _ _ rfl (wanted_none rfl) _ Try.sizeOf25 ?_ | (refine mem_store' st 25 _ _ rfl (wanted_some rfl ?_) _ Try.sizeOf25 ?_; focus (simp [yielded, Act.put]; done))); refine ⟨2, _, _, _, _, _, rfl, rfl, rfl, rfl, rfl, rfl, ?_⟩; clear st; intro w23 st hw23m hw23z; simp [Act.eval, Act.put, Value.cells, putL] at st)
              | (go_at_call 22; refine (HA.out _ ⟨st.ltAt (i := 0) rfl, by have := st.ltAt (i := 1) rfl; omega⟩ hS).mono ?_; rintro x v4 ⟨a', c', rfl, hb4, hS'⟩; replace st := st.call hb4; clear hb4; have stb := st; replace st := st.rebase))
            have hB := stb.below2 st (by simp)
            replace hS' := SentR.below hS' hB
            replace st := St.back stb st
            go_meet
            exact ⟨g22, a', c', rfl, rfl, hS', st⟩
          case rest =>
            obtain ⟨g3, a', c', rfl, rfl, hS', st⟩ := hcut
            have hsn : sl.length ≤ 9223372036854775807 := by omega
            have hsz := st.below.size
            have hTc : cnt ≤ 5 := hTc
            clear HA hS hFg tl d1
            go_wp2_with (first | go_skip | ((first | refine mem_load' st 22 _ rfl (wanted_none rfl) Try.isAgg22 ?_ | (refine mem_load' st 22 _ rfl (wanted_some rfl ?_) Try.isAgg22 ?_; focus (simp [yielded, Act.put]; done))); refine ⟨2, _, _, _, _, _, rfl, rfl, rfl, ?_⟩))
            have d9 : decide (cnt ≤ 5) = true := by simpa using hTc
            have st0 := st
            clear st
            go_loopw [131] (fun vj wi => ∃ j : Nat, j ≤ sl.length ∧ vj = .int .i64 j ∧ Below wc.heap.size wc wi) (fun vj _ => sl.length - (intOf vj).toNat)
            case atStart => exact ⟨0, Nat.zero_le _, rfl, Below.refl _ _⟩
            case round =>
              obtain ⟨j, hj, rfl, hBi⟩ := hrel
              have st := st0.call hBi
              by_cases hjl : j < sl.length
              · obtain ⟨b4, p4, _, rfl, _, _, ⟨n1, o1, n2, o2, n3, o3, rfl, hx⟩, _, _, hc4⟩ := (SentR.below hS' hBi).2.2.2 j sl[j] (List.getElem?_eq_getElem hjl)
                have dq : (sl[j].frame.seq == g.seq) = false := by simpa using te2 _ (List.getElem_mem hjl)
                have str := st
                replace st := st.rebase
                clear te2 st0
                go_wp2_with (first
                  | go_skip | (refine mem_alloc st (wanted_none rfl) 56 rfl _ Try.zeroValue56 _ rfl ?_; clear st; intro g24 w24 hg24 st hg24b; clear hg24b; simp [Act.eval, Act.put, Value.cells, putL] at st) | ((first | refine mem_store' st 56 _ _ rfl (wanted_none rfl) _ Try.sizeOf56 ?_ | (refine mem_store' st 56 _ _ rfl (wanted_some rfl ?_) _ Try.sizeOf56 ?_; focus (simp [yielded, Act.put]; done))); refine ⟨3, _, _, _, _, _, rfl, rfl, rfl, rfl, rfl, rfl, ?_⟩; clear st; intro w25 st hw25m hw25z; simp [Act.eval, Act.put, Value.cells, putL] at st) | ((first | refine mem_load' st 3 _ rfl (wanted_none rfl) Try.isAgg3 ?_ | (refine mem_load' st 3 _ rfl (wanted_some rfl ?_) Try.isAgg3 ?_; focus (simp [yielded, Act.put]; done))); refine ⟨3, _, _, _, _, _, rfl, rfl, rfl, ?_⟩) | ((first | refine mem_load' st 3 _ rfl (wanted_none rfl) Try.isAgg3 ?_ | (refine mem_load' st 3 _ rfl (wanted_some rfl ?_) Try.isAgg3 ?_; focus (simp [yielded, Act.put]; done))); refine ⟨1, _, _, _, _, _, rfl, rfl, rfl, ?_⟩)
                  | (refine wpList_load_cells (wanted_none rfl) 56 _ rfl Try.isAgg56 _ Try.sizeOf56 b4 (p4 + j * 13) rfl [.int .i64 sl[j].frame.src, .int .i64 sl[j].frame.dst, .int .i64 sl[j].frame.seq, .bool sl[j].frame.ack, .int .i64 sl[j].frame.thread, .int .i64 sl[j].frame.mail.host, .int .i64 sl[j].frame.mail.thread, .slice n1 sl[j].frame.mail.label.length o1, .slice n2 sl[j].frame.mail.grants.length o2, .string sl[j].frame.mail.text, .slice n3 sl[j].frame.certs.length o3, .int .i64 sl[j].tries, .int .i64 sl[j].due] rfl hc4 ?_))
                go_roundw
                case rel => exact ⟨j + 1, hjl, by go_num, hBi.keep (str.below2 st (by simp))⟩
                case measure => simp [intOf]; omega
              · go_wp2_with fail
                go_ret
                exact ⟨rfl, st.below⟩

theorem own : ownKnob Try.prog.godebug = none := by kernel_rfl
theorem laid : laidOutB Try.prog = true := by kernel_rfl

set_option maxRecDepth 100000 in
theorem contract (H : Type) (enc : TypeId × Value → H) (W : World) (base : Nat) (args : Array Value) (ds gs : List (DataW H)) (before : List MemPlace)
    (hval : ∀ (j : Nat) t v, Try.f8.params[j]? = some t → args[j]? = some v → Value.okWide Try.prog W .any base t v)
    (hW : DataW.Whole enc Try.prog Try.f8.params.toList Rows.lineTriesSpec.vars false W args.toList ds gs before)
    (hsz : (DataW.weightsEach Try.prog (Try.f8.params.toList ++ Rows.lineTriesSpec.plain.varTypes Try.prog) (ds ++ gs)).all (· ≤ reachBytes) = true) :
    Calls Try.prog 8 args W fun e W' => ∃ v, e = .returned v ∧ Rows.lineTriesSpec.post enc Try.prog Try.f8 false true false false W args v W' := by
  have hW' := hW
  obtain ⟨p, q, hA0, hV, rfl, hfz, hnd⟩ := hW
  have hA : DataW.TrodAll enc Try.prog W 0 (fun _ => true) true Try.f8.params.toList args.toList ds p := hA0
  have hpar := Try.params8
  rw [hpar] at hA hval hsz
  obtain ⟨v0, vs0, d0, ds0, p0, q0, hargs0, rfl, rfl, h0, r0⟩ := trodAll_cons hA
  obtain ⟨v1, vs1, d1, ds1, p1, q1, hargs1, rfl, rfl, h1, r1⟩ := trodAll_cons r0
  obtain ⟨v2, vs2, d2, ds2, p2, q2, hargs2, rfl, rfl, h2, r2⟩ := trodAll_cons r1
  obtain ⟨v3, vs3, d3, ds3, p3, q3, hargs3, rfl, rfl, h3, r3⟩ := trodAll_cons r2
  obtain ⟨hnil, rfl, rfl⟩ := trodAll_nil r3
  obtain rfl : args = #[v0, v1, v2, v3] := by cases args; simp_all
  obtain ⟨rfl, rfl⟩ := trodVars_none hV
  have w0 : ∀ n ∈ d0.weights Try.prog 25, n ≤ reachBytes := fun n hn => by simpa using List.all_eq_true.1 hsz n (DataW.weights_mem_each (j := 0) (t := 25) (d := d0) rfl rfl n hn)
  obtain ⟨x0, cs0, rfl, ⟨a0, c0, rfl, hR0⟩, hx0, hm0⟩ := arg_struct reads_Line Try.underlying25 (hval 0 _ v0 rfl rfl) h0 w0
  have w1 : ∀ n ∈ d1.weights Try.prog 33, n ≤ reachBytes := fun n hn => by simpa using List.all_eq_true.1 hsz n (DataW.weights_mem_each (j := 1) (t := 33) (d := d1) rfl rfl n hn)
  obtain ⟨x1, cs1, rfl, ⟨la1, lc1, ga1, gc1, ca1, cc1, rfl, hA1, hB1, hC1⟩, hx1, hm1⟩ := arg_struct reads_Frame Try.underlying33 (hval 1 _ v1 rfl rfl) h1 w1
  have w2 : ∀ n ∈ d2.weights Try.prog 3, n ≤ reachBytes := fun n hn => by simpa using List.all_eq_true.1 hsz n (DataW.weights_mem_each (j := 2) (t := 3) (d := d2) rfl rfl n hn)
  obtain ⟨x2, rfl, hx2⟩ := arg_int Try.underlying3 (hval 2 _ v2 rfl rfl) h2
  have w3 : ∀ n ∈ d3.weights Try.prog 28, n ≤ reachBytes := fun n hn => by simpa using List.all_eq_true.1 hsz n (DataW.weights_mem_each (j := 3) (t := 28) (d := d3) rfl rfl n hn)
  obtain ⟨x3, a3, c3, rfl, hR3, hl3, hx3, hm3⟩ := arg_slice (fit := fitI) (mass := fun _ => 1) reads_Int Try.underlying28 (by kernel_rfl : Try.prog.cellsOf _ = 1) (by decide) (by kernel_rfl : Try.prog.bytesOf _ = 8) (hval 3 _ v3 rfl rfl) h3 w3
  refine (walk W x0 a0 c0 x1 la1 lc1 ga1 gc1 ca1 cc1 x2 x3 a3 c3 hR0 ⟨⟨hA1, hB1⟩, hC1⟩ hx0 hx1 hx2 hR3 hl3 hx3).mono fun e W' ⟨he, hb⟩ => ?_
  exact ⟨_, he, law_post laid (by kernel_rfl) hW' rfl rfl (by kernel_rfl) Try.underlying4 hb⟩

set_option maxRecDepth 100000 in
theorem lifted (os : Os) (started : os.Started) (H : Type) (enc : TypeId × Value → H) :
    ReturnsInHanded {} Try.checked os 8 .any (Rows.lineTriesSpec.pre6 enc Try.prog Try.f8 Rows.lineTriesRow.domain false) (Rows.lineTriesSpec.post enc Try.prog Try.f8 false true false false) := by
  refine returnsInHanded_of_change_sized (C := Try.checked) own started (by kernel_rfl) Try.func8
    (ChangeSpec.witness6 (enc := enc) (C := Try.checked) false ⟨#[], #[.agg #[.int .i64 0, .slice none 0 0, .int .i64 0, .bool false, .bool false, .bool false, .bool false, .bool false, .bool false, .bool false, .bool false], .agg #[.int .i64 0, .int .i64 0, .int .i64 0, .bool false, .int .i64 0, .int .i64 0, .int .i64 0, .slice none 0 0, .slice none 0 0, .string .empty, .slice none 0 0], .int .i64 0, .slice none 0 0], []⟩ 12 (by kernel_rfl) (by kernel_rfl) (by kernel_rfl) (by kernel_rfl)) ?_
  intro W base args ds gs before hval hW _ hsz _
  exact contract H enc W base args ds gs before hval hW hsz

theorem proved : Rows.LineTriesSaid :=
  OpenClaim.holds_of_wide 8 Try.f8 rfl rfl rfl rfl rfl rfl rfl ⟨rfl, rfl, rfl, rfl, rfl⟩ rfl rfl rfl rfl rfl (by kernel_rfl) Try.func8 (by kernel_rfl)
    (of_decide_eq_true (by kernel_rfl)) (by unfold Func.isWrapper; first | (rw [if_pos (by decide +kernel)]; kernel_rfl) | (rw [if_neg (by decide +kernel)]; exact ⟨rfl, rfl⟩))
    (fun os started H enc _ => lifted os started H enc)

end Go.Proofs.Ytclocdhkpckolaa.lineTries
