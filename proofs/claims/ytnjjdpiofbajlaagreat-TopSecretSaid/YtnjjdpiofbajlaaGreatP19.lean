/- Walks and plain laws, part 19. -/
import Derived.Test.YtnjjdpiofbajlaaGreatP17
import Derived.Deep.LoopGhost
set_option linter.unusedSimpArgs false
set_option linter.unusedVariables false
set_option maxHeartbeats 16000000
set_option maxRecDepth 100000
namespace Go.Proofs.YtnjjdpiofbajlaaGreat
open Go.RowKit
theorem trust_Home (c : Int) (w : World) (hc : 0 ≤ c) (hm : c ≤ 9223372036854775807) : Calls Tryz.prog 98 #[.int .i64 c] w fun e w' => e = .returned (.int .i64 (c / 20)) ∧ w = w' := by
 have hw : wrap64 (c.tdiv 20) = c / 20 := by
  rw [Int.tdiv_eq_ediv_of_nonneg hc]
  unfold wrap64; omega
 go_enter Tryz.func98, Tryz.ntmps98
 go_wp2
 go_ret
 exact ⟨rfl, rfl⟩
noncomputable def trustV (l : List Cert) (c now : Int) : Value := .agg #[.bool (trustB l c now 0), .bool (trustB l c now 1), .bool (trustB l c now 2), .bool (trustB l c now 3)]
theorem trustV_no {l : List Cert} {c now : Int} (h : catOk c = false ∨ goodCerts l = false) : trustV l c now = .agg #[.bool false, .bool false, .bool false, .bool false] := by
 have : ∀ n, trustB l c now n = false := fun n => by
  cases hb : trustB l c now n
  ·rfl
  ·have := trustB_iff.1 hb
   rcases h with h | h
   ·rw [h] at this; simp at this
   ·rw [h] at this; simp at this
 simp [trustV, this]
theorem trust_Trusted (ok : Nat → Prop) (w : World) (a : Option Addr) (k : Nat) (l : List Cert) (c now : Int) (hR : SlR ok w 4 RCert a k l) :
  Calls Tryz.prog 84 #[.slice a l.length k, .int .i64 c, .int .i64 now] w fun e w' => e = .returned (trustV l c now) ∧ Below w.heap.size w w' := by
 have HG := qh (fun (W : World) (h : Below w.heap.size w W) => trust_Good ok W a k l (hR.below h))
 have st := St.start w
 cases h1 : catOk c
 ·have H1 := qh h1
  have HV := qh (trustV_no (l := l) (now := now) (.inl h1))
  clear h1
  go_enter Tryz.func84, Tryz.ntmps84
  go_wp2_with (first | go_skip | (with_reducible refine mA st Tryz.zeroValue154 ?_; clear st; intro g1 w1 hg1 st) | (go_at_call 91; go_must (refine (cat_Category c _).mono ?_; rintro e v1 ⟨rfl, rfl⟩; rw [H1.out])) | (with_reducible refine mXA st Tryz.isAgg154 Tryz.sizeOf154 ?_) | (with_reducible refine mS 0 st Tryz.sizeOf154 ?_; clear st; intro w3 st hw3m hw3z))
  have hc := fun j => st.cell (i := 0) rfl j
  rw [HV.out]
  refine bodyPost_ret (v := .agg #[.bool false, .bool false, .bool false, .bool false]) (by simp [results, Tryz.results84, go_sem, hc]) rfl ⟨rfl, st.below⟩
 ·have H1 := qh h1
  cases h2 : goodCerts l
  ·have H2 := qh h2
   have HV := qh (trustV_no (c := c) (now := now) (.inr h2))
   clear h1 h2
   go_enter Tryz.func84, Tryz.ntmps84
   go_wp2_with (first | go_skip | (with_reducible refine mA st Tryz.zeroValue154 ?_; clear st; intro g1 w1 hg1 st) | (go_at_call 91; go_must (refine (cat_Category c _).mono ?_; rintro e v1 ⟨rfl, rfl⟩; rw [H1.out])) | (go_at_call 65; go_must (refine (HG.out _ st.below).mono ?_; rintro e v2 ⟨rfl, hb2⟩; rw [H2.out]; replace st := st.call hb2; clear hb2)) | (with_reducible refine mXA st Tryz.isAgg154 Tryz.sizeOf154 ?_) | (with_reducible refine mS 0 st Tryz.sizeOf154 ?_; clear st; intro w3 st hw3m hw3z))
   have hc := fun j => st.cell (i := 0) rfl j
   rw [HV.out]
   refine bodyPost_ret (v := .agg #[.bool false, .bool false, .bool false, .bool false]) (by simp [results, Tryz.results84, go_sem, hc]) rfl ⟨rfl, st.below⟩
  ·have H2 := qh h2
   have hc0 := home_range h1
   have hc1 := (catOk_iff c).1 h1
   have hgl := qh (((goodCerts_iff l).1 h2).1)
   have hlen : l.length ≤ 24 := ((goodCerts_iff l).1 h2).2.2
   have HS := qh (TrInv.start (l := l) (now := now) h1)
   clear h1 h2
   obtain ⟨i0, hi, hz0, hz1, hz2⟩ := info_parts info_int
   go_enter Tryz.func84, Tryz.ntmps84
   go_wp2_with (first
    | go_skip | (with_reducible refine mA st Tryz.zeroValue154 ?_; clear st; intro g1 w1 hg1 st) | (go_at_call 91; go_must (refine (cat_Category c _).mono ?_; rintro e v1 ⟨rfl, rfl⟩; rw [H1.out])) | (go_at_call 65; go_must (refine (HG.out _ st.below).mono ?_; rintro e v2 ⟨rfl, hb2⟩; rw [H2.out]; replace st := st.call hb2; clear hb2))
    | (go_at_call 98; go_must (refine (trust_Home c _ hc1.1 (by omega)).mono ?_; rintro e v3 ⟨rfl, rfl⟩; have st3 := st)) | ((with_reducible refine at_build1 28 ?_; refine wpList_build1 st (wanted_none rfl) 28 3 _ rfl Tryz.underlying28 1 Tryz.sizeOf3 (by decide) (by decide) _ Tryz.zeroValue3 _ rfl rfl ?_; have stw4 := st; clear st; intro g4 w4 hg4 hg4e st hw4b hw4z; simp [Act.eval, Act.put, Value.cells, putL] at st); have HG4 := qh hg4e; clear hg4e))
   rename_i g0 w0x hg0 K0 hK0
   have q0 : Queue v2.heap.size 3 w4 1 RInt (some ⟨g4, 0, none⟩) 1 [c / 20] := Queue.ofBlk (st.blk _ (mgE (i := 2) rfl)) rfl rfl rfl (Nat.le_of_eq HG4.out.symm)
   have l0 := stw4.ltAt (i := 0) rfl
   have l1 := stw4.ltAt (i := 1) rfl
   have hwB := stw4.size
   have hB0 : v2.heap.size ≤ w4.heap.size := by omega
   have st0 : St [] w w4 [(g0, 154, [.bool false, .bool false, .bool false, .bool false]), (g1, 154, fourL four0)] := st.take 2
   clear st stw4 st3 hw4b hw4z HG4 hg4 hg0 hg1 hc0 hc1
   generalize hBe : v2.heap.size = B at *
   clear hBe
   go_loopg [8] 200 (fun m p wr => ∃ e work qa qc, p = .slice qa work.length qc ∧ St [] w wr [(g0, 154, [.bool false, .bool false, .bool false, .bool false]), (g1, 154, fourL e)] ∧ Queue B 3 wr 1 RInt qa qc work ∧ B ≤ wr.heap.size ∧ Hid (TrInv l c now e work (-1) 0) ∧ work.length + 24 * e.no ≤ 97 ∧ work.length + 25 * e.no ≤ m)
   case atStart => exact ⟨four0, [c / 20], _, _, rfl, st0, q0, hB0, HS, by simp [Four.no, four0], by simp [Four.no, four0]⟩
   case round =>
    clear st0 q0 hB0 HS
    obtain ⟨e, work, qa, qc, rfl, st, hq, hB, hT, hm1, hm2⟩ := hrel
    cases work with
    | nil =>
     have HD := qh (fun n : Nat => hT.out.done H1.out H2.out n)
     simp only [List.length_nil]
     go_wp2_with (first | go_skip | (with_reducible refine mXA st Tryz.isAgg154 Tryz.sizeOf154 ?_) | (with_reducible refine mS 0 st Tryz.sizeOf154 ?_; clear st; intro w3 st hw3m hw3z))
     simp [fourL, putL] at st
     have hc := fun j => st.cell (i := 0) rfl j
     have hv : trustV l c now = .agg #[.bool e.b0, .bool e.b1, .bool e.b2, .bool e.b3] := by
      have h0 := HD.out 0; have h1 := HD.out 1; have h2 := HD.out 2; have h3 := HD.out 3
      simp [Four.get] at h0 h1 h2 h3
      simp [trustV, h0, h1, h2, h3]
     rw [hv]
     refine bodyPost_ret (v := .agg #[.bool e.b0, .bool e.b1, .bool e.b2, .bool e.b3]) (by simp [results, Tryz.results84, go_sem, hc, fourL]) rfl ⟨rfl, st.below⟩
    | cons x ws =>
     obtain ⟨n, rfl⟩ := Int.eq_ofNat_of_zero_le (hT.out.wait x (by simp)).2.1
     have hn4 : n < 4 := by have := (hT.out.wait n (by simp)).2.2; omega
     obtain ⟨b, o, rfl, hb, hx0⟩ := hq.slr.int_at 0 (by simp)
     simp only [Nat.add_zero, List.getElem_cons_zero] at hx0
     have hq1 := hq.slr.1
     have hqm := hq.slr.2.1
     unfold maxLen at hqm
     simp only [List.length_cons] at hq1 hm1 hm2 ⊢
     have hqt : ∃ a', (∀ W, (Instr.slice 28 (.slice (some ⟨b, o, none⟩) (ws.length + 1) qc) (some (.int .i64 1)) none none).run Tryz.prog W = .ok (.slice a' ws.length (qc - 1)) W) ∧ Queue B 3 wr 1 RInt a' (qc - 1) ws := by
      by_cases h1 : qc = 1
      ·subst h1
       obtain rfl : ws = [] := List.eq_nil_of_length_eq_zero (by omega)
       exact ⟨some ⟨b, o, none⟩, fun W => by go_simp, Queue.none_left _⟩
      ·have h2 : 1 < qc := by omega
       exact ⟨some ⟨b, o + 1, none⟩, fun W => by go_simp; intro h; omega, hq.tail⟩
     obtain ⟨a1, hsl, hq'⟩ := hqt
     cases he : e.get n
     ·have hv : (fourL e)[n]? = some (.bool false) := by rw [fourL_get e hn4, he]
      have HP := qh (fourL_put e hn4)
      have HE := qh (hT.out.enter (fun x hx => ⟨(goodCert_range (hgl.out x hx)).1.1, (goodCert_range (hgl.out x hx)).2.1⟩) (home_range H1.out).1 hn4)
      have hno := e.no_set hn4 he
      have HGN := qh (show (e.set n).get n = true by rw [Four.get_set e hn4]; simp)
      clear he
      have hble : Nat.ble (n + 1) 4 = true := Nat.ble_eq_true_of_le (by omega)
      go_wp2_with (first
       | go_skip | (refine mem_load' st 4 _ rfl (wanted_none rfl) Tryz.isAgg4 ?_; refine ⟨1, _, _, _, _, _, rfl, rfl, hv, ?_⟩)
       | (refine mem_store' st 4 _ _ rfl (wanted_none rfl) _ Tryz.sizeOf4 ?_; refine ⟨1, _, _, _, _, _, rfl, rfl, rfl, rfl, rfl, hble, ?_⟩; clear st; intro w3 st hw3m hw3z; simp [Act.eval, Value.cells] at st; rw [HP.out] at st))
      have hq3 := hq'.move (Nat.le_of_eq hw3z.symm) fun q hq1 _ => hw3m q (by omega)
      have hB3 : B ≤ w3.heap.size := by omega
      clear hv hq' hq hx0 hsl
      go_loopw [39, 8] (fun i p wj => ∃ (j : Nat) (work' : List Int) (a' : Option Addr) (c' : Nat), j ≤ l.length ∧ i = .int .i64 j ∧ p = .slice a' work'.length c' ∧ St [] w wj [(g0, 154, [.bool false, .bool false, .bool false, .bool false]), (g1, 154, fourL (e.set n))] ∧ Queue B 3 wj 1 RInt a' c' work' ∧ B ≤ wj.heap.size ∧ Hid (TrInv l c now (e.set n) work' n j) ∧ work'.length ≤ ws.length + j) (fun i _ _ => l.length - (intOf i).toNat)
      case atStart => exact ⟨0, ws, a1, qc - 1, Nat.zero_le _, rfl, rfl, st, hq3, hB3, HE, by omega⟩
      case round =>
       clear st hq3 hB3 HE
       obtain ⟨j, work', a', c', hj, rfl, rfl, st, hq2, hB2, hT2, hm3⟩ := hrel
       by_cases hj' : j < l.length
       ·obtain ⟨b2, o2, rfl, hb2, _⟩ := hR.cert_at j hj'
        have hrow := (hR.below st.below).cert_row j hj'
        have hrange := (goodCert_range (hgl.out l[j] (List.getElem_mem hj'))).2
        have stj := st
        replace st := st.rebase
        by_cases e1 : l[j].c = c
        ·by_cases e2 : l[j].by_ = n
         ·by_cases e3 : now ≤ l[j].till
          ·have HN := qh (show l[j].c = c ∧ l[j].by_ = n ∧ now ≤ l[j].till from ⟨e1, e2, e3⟩)
           have d1 : (l[j].c == c) = true := by simpa using e1
           have d2 : (l[j].by_ == (n : Int)) = true := by simpa using e2
           have d3 : decide (now ≤ l[j].till) = true := by simpa using e3
           clear e1 e2 e3
           go_wp2_with (first
            | go_skip | (with_reducible refine at_load 47 ?_; refine wpList_load_cells (wanted_none rfl) 47 _ rfl Tryz.isAgg47 _ Tryz.sizeOf47 b2 (o2 + j * 4) rfl [.int .i64 l[j].c, .int .i64 l[j].by_, .int .i64 l[j].host, .int .i64 l[j].till] rfl hrow ?_) | (with_reducible refine mA st Tryz.zeroValue47 ?_; clear st; intro g5 w5 hg5 st) | (with_reducible refine mS 2 st Tryz.sizeOf47 ?_; clear st; intro w6 st hw6m hw6z) | (with_reducible refine mX st Tryz.isAgg3 ?_) | ((with_reducible refine at_build1 28 ?_; refine wpList_build1 st (wanted_none rfl) 28 3 _ rfl Tryz.underlying28 1 Tryz.sizeOf3 (by decide) (by decide) _ Tryz.zeroValue3 _ rfl rfl ?_; have stw7 := st; clear st; intro g7 w7 hg7 hg7e st hw7b hw7z; simp [Act.eval, Act.put, Value.cells, putL] at st); clear hg7e)
            | (at_builtin; go_must (refine wpList_appQ (wanted_none rfl) _ _ 28 rfl 3 i0 _ 1 8 Tryz.underlying28 hi hz0 hz1 hz2 rfl (by decide) (base := B) rfl rfl (hq2.below (stj.below2 st (by simp))) rfl (SlR.ofBlk (ok := fun _ => True) (R := RInt) (sz := 1) (x := l[j].host) (st.blk _ (mgE (i := 3) rfl)) rfl rfl rfl trivial) (by omega) (by unfold maxLen; omega) (Nat.le_trans hB2 (stj.below2 st (by simp)).size) ?_; intro a8 c8 w8 row8 hq8 hg8 hr8)))
           go_roundw
           case rel =>
            have hz := (stj.below2 st (by simp)).size
            have hstk := St.back stj (st.take 2)
            refine ⟨j + 1, work' ++ [l[j].host], a8, c8, hj', by go_num, by simp, hstk.grownNew hg8 (fun q hq => Nat.le_trans hwB (hr8 q hq)) (fun x hx => ?_), hq8, Nat.le_trans hB2 (Nat.le_trans hz hg8.size), hT2.out.push hj' hrange HGN.out HN.out.1 HN.out.2.1 HN.out.2.2, by simp; omega⟩
            simp at hx
            rcases hx with rfl | rfl
            ·intro he; have := hr8 _ he; simp at this; omega
            ·intro he; have := hr8 _ he; simp at this; omega
           case measure => simp [intOf]; omega
          ·have HN := qh (show ¬ (l[j].c = c ∧ l[j].by_ = n ∧ now ≤ l[j].till) from fun h => e3 h.2.2)
           have d1 : (l[j].c == c) = true := by simpa using e1
           have d2 : (l[j].by_ == (n : Int)) = true := by simpa using e2
           have d3 : decide (now ≤ l[j].till) = false := by simpa using e3
           clear e1 e2 e3
           go_wp2_with (first | go_skip | (with_reducible refine at_load 47 ?_; refine wpList_load_cells (wanted_none rfl) 47 _ rfl Tryz.isAgg47 _ Tryz.sizeOf47 b2 (o2 + j * 4) rfl [.int .i64 l[j].c, .int .i64 l[j].by_, .int .i64 l[j].host, .int .i64 l[j].till] rfl hrow ?_) | (with_reducible refine mA st Tryz.zeroValue47 ?_; clear st; intro g5 w5 hg5 st) | (with_reducible refine mS 2 st Tryz.sizeOf47 ?_; clear st; intro w6 st hw6m hw6z) | (with_reducible refine mX st Tryz.isAgg3 ?_))
           go_roundw
           case rel => exact ⟨j + 1, work', a', c', hj', by go_num, rfl, St.back stj (st.take 2), hq2.below (stj.below2 st (by simp)), Nat.le_trans hB2 (stj.below2 st (by simp)).size, hT2.out.pass hj' (HN.out), by omega⟩
           case measure => simp [intOf]; omega
         ·have HN := qh (show ¬ (l[j].c = c ∧ l[j].by_ = n ∧ now ≤ l[j].till) from fun h => e2 h.2.1)
          have d1 : (l[j].c == c) = true := by simpa using e1
          have d2 : (l[j].by_ == (n : Int)) = false := by simpa using e2
          clear e1 e2
          go_wp2_with (first | go_skip | (with_reducible refine at_load 47 ?_; refine wpList_load_cells (wanted_none rfl) 47 _ rfl Tryz.isAgg47 _ Tryz.sizeOf47 b2 (o2 + j * 4) rfl [.int .i64 l[j].c, .int .i64 l[j].by_, .int .i64 l[j].host, .int .i64 l[j].till] rfl hrow ?_) | (with_reducible refine mA st Tryz.zeroValue47 ?_; clear st; intro g5 w5 hg5 st) | (with_reducible refine mS 2 st Tryz.sizeOf47 ?_; clear st; intro w6 st hw6m hw6z) | (with_reducible refine mX st Tryz.isAgg3 ?_))
          go_roundw
          case rel => exact ⟨j + 1, work', a', c', hj', by go_num, rfl, St.back stj (st.take 2), hq2.below (stj.below2 st (by simp)), Nat.le_trans hB2 (stj.below2 st (by simp)).size, hT2.out.pass hj' (HN.out), by omega⟩
          case measure => simp [intOf]; omega
        ·have HN := qh (show ¬ (l[j].c = c ∧ l[j].by_ = n ∧ now ≤ l[j].till) from fun h => e1 h.1)
         have d1 : (l[j].c == c) = false := by simpa using e1
         clear e1
         go_wp2_with (first | go_skip | (with_reducible refine at_load 47 ?_; refine wpList_load_cells (wanted_none rfl) 47 _ rfl Tryz.isAgg47 _ Tryz.sizeOf47 b2 (o2 + j * 4) rfl [.int .i64 l[j].c, .int .i64 l[j].by_, .int .i64 l[j].host, .int .i64 l[j].till] rfl hrow ?_) | (with_reducible refine mA st Tryz.zeroValue47 ?_; clear st; intro g5 w5 hg5 st) | (with_reducible refine mS 2 st Tryz.sizeOf47 ?_; clear st; intro w6 st hw6m hw6z) | (with_reducible refine mX st Tryz.isAgg3 ?_))
         go_roundw
         case rel => exact ⟨j + 1, work', a', c', hj', by go_num, rfl, St.back stj (st.take 2), hq2.below (stj.below2 st (by simp)), Nat.le_trans hB2 (stj.below2 st (by simp)).size, hT2.out.pass hj' (HN.out), by omega⟩
         case measure => simp [intOf]; omega
       ·go_wp2
        go_roundg (gk - 1)
        case measure => omega
        case rel => exact ⟨e.set n, work', a', c', rfl, st, hq2, hB2, hT2.out.leave hj', by omega, by omega⟩
     ·have hv : (fourL e)[n]? = some (.bool true) := by rw [fourL_get e hn4, he]
      have HE := qh (hT.out.pop he)
      clear he
      go_wp2_with (first | go_skip | (refine mem_load' st 4 _ rfl (wanted_none rfl) Tryz.isAgg4 ?_; refine ⟨1, _, _, _, _, _, rfl, rfl, hv, ?_⟩))
      go_roundg (gk - 1)
      case measure => omega
      case rel => exact ⟨e, ws, a1, qc - 1, rfl, st, hq', hB, HE, by omega, by omega⟩
end Go.Proofs.YtnjjdpiofbajlaaGreat
