/- For every line and numbers that come in any order, none is taken twice. No condition. -/
import Derived.Test.YtclocdhkpckolaaRows
import Derived.Test.YtclocdhkpckolaaOnce
import Derived.Test.YtclocdhkpckolaaPick
import Derived.Test.YtclocdhkpckolaaTakeM
import Derived.Test.YtclocdhkpckolaaLines
import Derived.Test.YtclocdhkpckolaaOpens
import Derived.SizedLaws
namespace Go.Proofs.Ytclocdhkpckolaa.lineOnce
open Go.ChangeShapes Go.WideShapes Go.ChangeAt Go.RowKit
open Go.Maps

set_option maxRecDepth 20000 in
set_option maxHeartbeats 4000000 in
theorem walk (w : World) (L : Line) (sa : Option Addr) (sc : Nat) (seqs : List Int) (qa : Option Addr) (qc : Nat) (hR : SentR (fun _ => True) w sa sc L.sent) (hQ : SlR (fun _ => True) w 1 RInt qa qc seqs) (hql : seqs.length * 8 ≤ 140737488351232) (hqf : ∀ x ∈ seqs, fitI x) :
    Calls Try.prog 5 #[lineV L.next L.high sa L.sent.length sc L.seen, .slice qa seqs.length qc] w fun r w' => r = .returned (.bool true) ∧ Below w.heap.size w w' := by
  obtain ⟨next, sent, high0, e0⟩ := L
  simp only at hR ⊢
  generalize hg0 : lineOk ⟨next, sent, high0, e0⟩ = good
  have hsl : seqs.length ≤ 9223372036854775807 := by omega
  unfold lineV at *
  have st := St.start w
  go_enter Try.func5, Try.ntmps5
  go_wp2_with (first
    | go_skip | (refine mem_box st (wanted_none rfl) 25 _ rfl _ rfl _ rfl ?_; clear st; intro g1 w1 hg1 st hg1b; clear hg1b; simp [Act.eval, Act.put, Value.cells, putL] at st)
    | (refine wpList_makeMap 3 4 (wanted_none rfl) _ rfl ?_; intro bm w2 hbm hM hb2; have hbw := Nat.le_trans st.size hbm; have z1 := st.ltAt (i := 0) rfl; replace st := st.call hb2; clear hb2))
  go_loopw [6] (fun i wr => ∃ (k : Nat) (high : Int) (e : Eight) (n : Nat) (f : Lit → Bool), k ≤ seqs.length ∧ k ≤ 100 ∧ i = .int .i64 k ∧ lineOk ⟨next, sent, high, e⟩ = good ∧ OnceInv good high e f ∧ MapB Try.prog 3 4 wr bm n f ∧ n ≤ k ∧ St [] w wr [(g1, 25, [.int .i64 next, .slice sa sent.length sc, .int .i64 high, .bool e.s0, .bool e.s1, .bool e.s2, .bool e.s3, .bool e.s4, .bool e.s5, .bool e.s6, .bool e.s7])]) (fun i _ => seqs.length - (intOf i).toNat)
  case atStart => exact ⟨0, high0, e0, 0, _, Nat.zero_le _, by omega, rfl, hg0, fun x h => by simp at h, hM, Nat.le_refl _, st⟩
  case round =>
    clear st hM hg0
    obtain ⟨k, high, e, n, f, hk, hk100, rfl, hg, hI, hM, hn, st⟩ := hrel
    by_cases hlt : k < seqs.length
    · by_cases h100 : k < 100
      · have d1 : decide ((k : Int) < seqs.length) = true := by simp; omega
        have d2 : decide ((k : Int) < 100) = true := by simp; omega
        obtain ⟨b, o, rfl, hb, hc⟩ := (hQ.below st.below).int_at k hlt
        have hfit := hqf _ (List.getElem_mem hlt)
        go_wp2_with (first | go_skip | (go_at_call 20; refine (keep_pick _ _ 60 (by omega) (by omega) hfit).mono ?_; rintro x v2 ⟨⟨p, rfl, hp1, hp2⟩, rfl⟩; refine RowKit.Hid.out ?_))
        refine Lib.hid ?_
        obtain ⟨⟨h', e', kv⟩, hr⟩ : ∃ r, takeC good high (p + 1) e = r := ⟨_, rfl⟩
        obtain ⟨hg', hcases⟩ := once_step hg hI (s := p + 1) (by omega) (by omega) hr
        simp only at hg' hcases
        have HT := Lib.hid (fun (W : World) (h : SentR (fun _ => True) W sa sc sent) => line_Take (fun _ => True) W next high sa sc sent e (p + 1) h good hg _ hr)
        have HG1 := Lib.hid (fun (W : World) (h : SentR (fun _ => True) W sa sc sent) => line_Good (fun _ => True) W next high sa sc sent e h)
        have HG2 := Lib.hid (fun (W : World) (h : SentR (fun _ => True) W sa sc sent) => line_Good (fun _ => True) W next h' sa sc sent e' h)
        rw [hg] at HG1
        rw [hg'] at HG2
        unfold lineV at HT HG1 HG2
        have hwf : (Lit.int .i64 (p + 1)).wf = true := by
          simp only [Lit.wf, Bool.and_eq_true, decide_eq_true_eq]
          exact ⟨by show -9223372036854775808 ≤ p + 1; omega, by show p + 1 ≤ 9223372036854775807; omega⟩
        have hwr : IntKind.i64.wrap (p + 1) = p + 1 := IntWalk.i64_in _ (by omega)
        clear hc hfit hqf
        rcases hcases with ⟨rfl, hfs, hsh, hI'⟩ | ⟨rfl, rfl, hcases⟩
        · clear hr hI
          have dh : decide (h' < p + 1) = false := by simp; omega
          go_wp2_with (first
            | go_skip | ((first | refine mem_load_agg' st 25 _ rfl (wanted_none rfl) Try.isAgg25 _ Try.sizeOf25 ?_ | (refine mem_load_agg' st 25 _ rfl (wanted_some rfl ?_) Try.isAgg25 _ Try.sizeOf25 ?_; focus (simp [yielded, Act.put]; done))); refine ⟨0, _, _, _, _, _, rfl, rfl, rfl, rfl, ?_⟩) | (refine mem_alloc st (wanted_none rfl) 25 rfl _ Try.zeroValue25 _ rfl ?_; clear st; intro g8 w8 hg8 st hg8b; clear hg8b; simp [Act.eval, Act.put, Value.cells, putL] at st) | ((first | refine mem_store' st 25 _ _ rfl (wanted_none rfl) _ Try.sizeOf25 ?_ | (refine mem_store' st 25 _ _ rfl (wanted_some rfl ?_) _ Try.sizeOf25 ?_; focus (simp [yielded, Act.put]; done))); refine ⟨1, _, _, _, _, _, rfl, rfl, rfl, rfl, rfl, rfl, ?_⟩; clear st; intro w7 st hw7m hw7z; simp [Act.eval, Act.put, Value.cells, putL] at st)
            | (go_at_call 18; refine (HT.out _ (SentR.below hR st.below)).mono ?_; rintro x v3 ⟨rfl, hb3⟩; replace hM := hM.below hb3; replace st := st.call hb3; clear hb3; have st3 := st; replace st := st.rebase))
          have l1 := st3.ltAt (i := 0) rfl
          have nb8 : g8 ≠ bm := by have h1 := hM.lt; have h2 := st.mine _ (List.mem_of_getElem? (i := 1) rfl); simp at h2; omega
          replace hM := hM.below (st3.below2 st (by simp))
          replace st := st3.back st
          clear st3
          have hRb := SentR.below hR st.below
          try simp only [Act.put, List.setIfInBounds_toArray, List.set_cons_succ, List.set_cons_zero]
          refine wp_region_ahead (by kernel_rfl) [(0, some 33), (1, some 34), (2, some 35), (3, some 36), (4, some 37), (5, some 38), (6, some 39), (7, some 40), (8, some 41), (9, some 42), (10, some 43), (11, some 44), (12, some 45), (13, some 46)] [0, 1, 2, 3, 4, 5, 6, 7, 8, 9, 10, 11, 12, 13] rfl 0 (by decide +kernel) rfl (fun w w' => Below w.heap.size w w') (fun i v W => match i with
            | 0 => v = .int .i64 0
            | 1 => v = .bool true
            | 2 => v = .bool true
            | 3 => v = .map (some bm)
            | 4 => v = .int .i64 (p + 1)
            | 5 => v = .bool false
            | 6 => v = .bool false
            | 7 => v = .bool false
            | 8 => v = .agg #[.int .i64 next, .slice sa sent.length sc, .int .i64 high, .bool e.s0, .bool e.s1, .bool e.s2, .bool e.s3, .bool e.s4, .bool e.s5, .bool e.s6, .bool e.s7]
            | 9 => v = .bool good
            | 10 => v = .agg #[.int .i64 next, .slice sa sent.length sc, .int .i64 h', .bool e'.s0, .bool e'.s1, .bool e'.s2, .bool e'.s3, .bool e'.s4, .bool e'.s5, .bool e'.s6, .bool e'.s7]
            | 11 => v = .bool good
            | 12 => v = .bool false
            | _ => v = .bool false)
            (fun W => Below w7.heap.size w7 W) (Below.refl _ _).drew ?mono ?step ?fin
          case mono =>
            intro i v U U' hi hb _ _ h
            simp only [List.mem_cons, List.not_mem_nil, or_false] at hi
            rcases hi with rfl | rfl | rfl | rfl | rfl | rfl | rfl | rfl | rfl | rfl | rfl | rfl | rfl | rfl
            all_goals exact h
          case step =>
            intro i t hi x W hI hp K hK
            have stW := st.call hI
            simp only [List.mem_cons, List.not_mem_nil, or_false, Prod.mk.injEq] at hi
            rcases hi with ⟨rfl, rfl⟩ | ⟨rfl, rfl⟩ | ⟨rfl, rfl⟩ | ⟨rfl, rfl⟩ | ⟨rfl, rfl⟩ | ⟨rfl, rfl⟩ | ⟨rfl, rfl⟩ | ⟨rfl, rfl⟩ | ⟨rfl, rfl⟩ | ⟨rfl, rfl⟩ | ⟨rfl, rfl⟩ | ⟨rfl, rfl⟩ | ⟨rfl, rfl⟩ | ⟨rfl, rfl⟩
            all_goals simp only [putAll, Act.put, List.setIfInBounds_toArray, List.set_cons_succ, List.set_cons_zero] at hK ⊢
            · refine wpOp_at rfl rfl ?_
              exact wp_value (v := .int .i64 0) (by go_simp) (hK _ _ (Below.refl _ _) hI rfl)
            · have p0 : x 0 = _ := hp 0 (by decide +kernel)
              simp only [p0] at hK ⊢
              refine wpOp_at rfl rfl ?_
              exact wp_value (v := .bool true) (by go_simp) (hK _ _ (Below.refl _ _) hI rfl)
            · have p1 : x 1 = _ := hp 1 (by decide +kernel)
              simp only [p1] at hK ⊢
              refine wpOp_at rfl rfl ?_
              exact wp_value (v := .bool true) (by go_simp) (hK _ _ (Below.refl _ _) hI rfl)
            · have p2 : x 2 = _ := hp 2 (by decide +kernel)
              simp only [p2] at hK ⊢
              refine wpOp_plain (i := 3) rfl (wanted_some rfl (by simp [yielded, Act.put])) ?_
              exact wp_value (v := .map (some bm)) (by go_simp) (hK _ _ (Below.refl _ _) hI rfl)
            · have p2 : x 2 = _ := hp 2 (by decide +kernel)
              simp only [p2] at hK ⊢
              refine wpOp_plain (i := 4) rfl (wanted_some rfl (by simp [yielded, Act.put])) ?_
              exact wp_value (v := .int .i64 (p + 1)) (by go_simp) (hK _ _ (Below.refl _ _) hI rfl)
            · have p2 : x 2 = _ := hp 2 (by decide +kernel)
              have p3 : x 3 = _ := hp 3 (by decide +kernel)
              have p4 : x 4 = _ := hp 4 (by decide +kernel)
              simp only [p2, p3, p4] at hK ⊢
              refine wpOp_plain (i := 5) rfl (wanted_some rfl (by simp [yielded, Act.put])) ?_
              exact wp_mapLookup (hM.below hI) (int_keyed Try.underlying3) _ _ _ rfl Try.underlying47 Try.underlying4 Try.zeroValue4 rfl (keyOf_int_mk Try.underlying3 hwf) (by rw [hfs]; exact hK _ _ (Below.refl _ _) hI rfl)
            · have p2 : x 2 = _ := hp 2 (by decide +kernel)
              have p5 : x 5 = _ := hp 5 (by decide +kernel)
              simp only [p2, p5] at hK ⊢
              refine wpOp_at rfl rfl ?_
              exact wp_value (v := .bool false) (by go_simp) (hK _ _ (Below.refl _ _) hI rfl)
            · have p6 : x 6 = _ := hp 6 (by decide +kernel)
              simp only [p6] at hK ⊢
              refine wpOp_at rfl rfl ?_
              exact wp_value (v := .bool false) (by go_simp) (hK _ _ (Below.refl _ _) hI rfl)
            · have p7 : x 7 = _ := hp 7 (by decide +kernel)
              simp only [p7] at hK ⊢
              refine wpOp_plain (i := 8) rfl (wanted_some rfl (by simp [yielded, Act.put])) ?_
              exact wp_load_agg' stW 25 _ rfl Try.isAgg25 _ Try.sizeOf25 ⟨0, g1, 0, _, _, _, rfl, rfl, rfl, rfl, hK _ _ (Below.refl _ _) hI rfl⟩
            · have p7 : x 7 = _ := hp 7 (by decide +kernel)
              have p8 : x 8 = _ := hp 8 (by decide +kernel)
              simp only [p7, p8] at hK ⊢
              refine wpOp_plain (i := 9) rfl (wanted_some rfl (by simp [yielded, Act.put])) ?_
              go_simp
              refine (HG1.out W (SentR.below hRb hI)).mono ?_
              rintro r u1 ⟨rfl, hb1⟩
              exact hK _ _ hb1 (hI.keep hb1) rfl
            · have p7 : x 7 = _ := hp 7 (by decide +kernel)
              simp only [p7] at hK ⊢
              refine wpOp_plain (i := 10) rfl (wanted_some rfl (by simp [yielded, Act.put])) ?_
              exact wp_load_agg' stW 25 _ rfl Try.isAgg25 _ Try.sizeOf25 ⟨1, g8, 0, _, _, _, rfl, rfl, rfl, rfl, hK _ _ (Below.refl _ _) hI rfl⟩
            · have p7 : x 7 = _ := hp 7 (by decide +kernel)
              have p10 : x 10 = _ := hp 10 (by decide +kernel)
              simp only [p7, p10] at hK ⊢
              refine wpOp_plain (i := 11) rfl (wanted_some rfl (by simp [yielded, Act.put])) ?_
              go_simp
              refine (HG2.out W (SentR.below hRb hI)).mono ?_
              rintro r u1 ⟨rfl, hb1⟩
              exact hK _ _ hb1 (hI.keep hb1) rfl
            · have p7 : x 7 = _ := hp 7 (by decide +kernel)
              have p9 : x 9 = _ := hp 9 (by decide +kernel)
              have p11 : x 11 = _ := hp 11 (by decide +kernel)
              simp only [p7, p9, p11] at hK ⊢
              refine wpOp_plain (i := 12) rfl (wanted_some rfl (by simp [yielded, Act.put])) ?_
              exact wp_value (v := .bool false) (by go_simp) (hK _ _ (Below.refl _ _) hI rfl)
            · have p7 : x 7 = _ := hp 7 (by decide +kernel)
              have p12 : x 12 = _ := hp 12 (by decide +kernel)
              simp only [p7, p12] at hK ⊢
              refine wpOp_at rfl rfl ?_
              exact wp_value (v := .bool false) (by go_simp) (hK _ _ (Below.refl _ _) hI rfl)
          case fin =>
            intro x W hI hG
            have p7 : x 7 = .bool false := hG 7 (by simp)
            have p13 : x 13 = .bool false := hG 13 (by simp)
            simp only [putAll, Act.put, List.setIfInBounds_toArray, List.set_cons_succ, List.set_cons_zero, p7, p13]
            refine wpAny_done (by decide +kernel) ?_ 0
            replace st := st.call hI
            replace hM := hM.below hI
            go_wp2_with (first
              | go_skip | ((first | refine mem_load' st 3 _ rfl (wanted_none rfl) Try.isAgg3 ?_ | (refine mem_load' st 3 _ rfl (wanted_some rfl ?_) Try.isAgg3 ?_; focus (simp [yielded, Act.put]; done))); refine ⟨1, _, _, _, _, _, rfl, rfl, rfl, ?_⟩) | ((first | refine mem_load_agg' st 25 _ rfl (wanted_none rfl) Try.isAgg25 _ Try.sizeOf25 ?_ | (refine mem_load_agg' st 25 _ rfl (wanted_some rfl ?_) Try.isAgg25 _ Try.sizeOf25 ?_; focus (simp [yielded, Act.put]; done))); refine ⟨1, _, _, _, _, _, rfl, rfl, rfl, rfl, ?_⟩) | ((first | refine mem_store' st 25 _ _ rfl (wanted_none rfl) _ Try.sizeOf25 ?_ | (refine mem_store' st 25 _ _ rfl (wanted_some rfl ?_) _ Try.sizeOf25 ?_; focus (simp [yielded, Act.put]; done))); refine ⟨0, _, _, _, _, _, rfl, rfl, rfl, rfl, rfl, rfl, ?_⟩; clear st; intro w9 st hw9m hw9z; simp [Act.eval, Act.put, Value.cells, putL] at st)
              | (at_mapUpdate; refine wpList_mapUpdate hM (int_keyed Try.underlying3) (wanted_none rfl) _ _ _ _ rfl Try.underlying47 Try.underlying4 (by unfold maxLen; omega) rfl (keyOf_int_mk Try.underlying3 hwf) true rfl ?_; intro wm hMm hgm; clear hM; have hM := hMm; replace st := st.map hgm hbw (by simp; omega)))
            go_roundw
            case rel => exact ⟨k + 1, h', e', n + 1, _, hlt, by omega, by go_num, hg', hI', hM.block (Nat.le_of_eq hw9z.symm) (hw9m bm (by omega)), by omega, st.sub (by simp) (by simp)⟩
            case measure => simp [intOf]; omega
        · have dk0 : (kv == 0) = false ∧ (f (.int .i64 (p + 1)) = false ∨ f (.int .i64 (p + 1)) = true ∧ (kv != 10) = false ∨ f (.int .i64 (p + 1)) = true ∧ (kv != 10) = true ∧ (kv != 11) = false) := by
            rcases hcases with ⟨h1, h2⟩ | ⟨h1, h2⟩ | ⟨h1, h2⟩
            · exact ⟨by simpa using h2, .inl h1⟩
            · subst h2; exact ⟨rfl, .inr (.inl ⟨h1, rfl⟩)⟩
            · subst h2; exact ⟨rfl, .inr (.inr ⟨h1, rfl, rfl⟩)⟩
          clear hcases hr
          obtain ⟨dk0, hcases⟩ := dk0
          have hOI := hI
          go_wp2_with (first
            | go_skip | ((first | refine mem_load_agg' st 25 _ rfl (wanted_none rfl) Try.isAgg25 _ Try.sizeOf25 ?_ | (refine mem_load_agg' st 25 _ rfl (wanted_some rfl ?_) Try.isAgg25 _ Try.sizeOf25 ?_; focus (simp [yielded, Act.put]; done))); refine ⟨0, _, _, _, _, _, rfl, rfl, rfl, rfl, ?_⟩) | (refine mem_alloc st (wanted_none rfl) 25 rfl _ Try.zeroValue25 _ rfl ?_; clear st; intro g8 w8 hg8 st hg8b; clear hg8b; simp [Act.eval, Act.put, Value.cells, putL] at st) | ((first | refine mem_store' st 25 _ _ rfl (wanted_none rfl) _ Try.sizeOf25 ?_ | (refine mem_store' st 25 _ _ rfl (wanted_some rfl ?_) _ Try.sizeOf25 ?_; focus (simp [yielded, Act.put]; done))); refine ⟨1, _, _, _, _, _, rfl, rfl, rfl, rfl, rfl, rfl, ?_⟩; clear st; intro w7 st hw7m hw7z; simp [Act.eval, Act.put, Value.cells, putL] at st)
            | (go_at_call 18; refine (HT.out _ (SentR.below hR st.below)).mono ?_; rintro x v3 ⟨rfl, hb3⟩; replace hM := hM.below hb3; replace st := st.call hb3; clear hb3; have st3 := st; replace st := st.rebase))
          have l1 := st3.ltAt (i := 0) rfl
          have nb8 : g8 ≠ bm := by have h1 := hM.lt; have h2 := st.mine _ (List.mem_of_getElem? (i := 1) rfl); simp at h2; omega
          replace hM := hM.below (st3.below2 st (by simp))
          replace st := St.back st3 st
          clear st3
          have hRb := SentR.below hR st.below
          try simp only [Act.put, List.setIfInBounds_toArray, List.set_cons_succ, List.set_cons_zero]
          refine wp_region_ahead (by kernel_rfl) [(0, some 33), (1, some 34), (2, some 35), (3, some 36), (4, some 37), (5, some 38), (6, some 39), (7, some 40), (8, some 41), (9, some 42), (10, some 43), (11, some 44), (12, some 45), (13, some 46)] [0, 1, 2, 3, 4, 5, 6, 7, 8, 9, 10, 11, 12, 13] rfl 0 (by decide +kernel) rfl (fun w w' => Below w.heap.size w w') (fun i v W => match i with
            | 0 => v = .int .i64 kv
            | 1 => v = .bool false
            | 2 => v = .bool false
            | 3 => True
            | 4 => True
            | 5 => True
            | 6 => v = .bool false
            | 7 => v = .bool false
            | 8 => v = .agg #[.int .i64 next, .slice sa sent.length sc, .int .i64 h', .bool e'.s0, .bool e'.s1, .bool e'.s2, .bool e'.s3, .bool e'.s4, .bool e'.s5, .bool e'.s6, .bool e'.s7]
            | 9 => v = .bool good
            | 10 => v = .agg #[.int .i64 next, .slice sa sent.length sc, .int .i64 h', .bool e'.s0, .bool e'.s1, .bool e'.s2, .bool e'.s3, .bool e'.s4, .bool e'.s5, .bool e'.s6, .bool e'.s7]
            | 11 => v = .bool good
            | 12 => v = .bool false
            | _ => v = .bool false)
            (fun W => Below w7.heap.size w7 W) (Below.refl _ _).drew ?mono ?step ?fin
          case mono =>
            intro i v U U' hi hb _ _ h
            simp only [List.mem_cons, List.not_mem_nil, or_false] at hi
            rcases hi with rfl | rfl | rfl | rfl | rfl | rfl | rfl | rfl | rfl | rfl | rfl | rfl | rfl | rfl
            all_goals exact h
          case step =>
            intro i t hi x W hI hp K hK
            have stW := st.call hI
            simp only [List.mem_cons, List.not_mem_nil, or_false, Prod.mk.injEq] at hi
            rcases hi with ⟨rfl, rfl⟩ | ⟨rfl, rfl⟩ | ⟨rfl, rfl⟩ | ⟨rfl, rfl⟩ | ⟨rfl, rfl⟩ | ⟨rfl, rfl⟩ | ⟨rfl, rfl⟩ | ⟨rfl, rfl⟩ | ⟨rfl, rfl⟩ | ⟨rfl, rfl⟩ | ⟨rfl, rfl⟩ | ⟨rfl, rfl⟩ | ⟨rfl, rfl⟩ | ⟨rfl, rfl⟩
            all_goals simp only [putAll, Act.put, List.setIfInBounds_toArray, List.set_cons_succ, List.set_cons_zero] at hK ⊢
            · refine wpOp_at rfl rfl ?_
              exact wp_value (v := .int .i64 kv) (by go_simp) (hK _ _ (Below.refl _ _) hI rfl)
            · have p0 : x 0 = _ := hp 0 (by decide +kernel)
              simp only [p0] at hK ⊢
              refine wpOp_at rfl rfl ?_
              exact wp_value (v := .bool false) (by go_simp) (hK _ _ (Below.refl _ _) hI rfl)
            · have p1 : x 1 = _ := hp 1 (by decide +kernel)
              simp only [p1] at hK ⊢
              refine wpOp_at rfl rfl ?_
              exact wp_value (v := .bool false) (by go_simp) (hK _ _ (Below.refl _ _) hI rfl)
            · have p2 : x 2 = _ := hp 2 (by decide +kernel)
              simp only [p2] at hK ⊢
              exact wpOp_skip (i := 3) rfl (by simp [Region.wanted, yielded]) (hK undef _ (Below.refl _ _) hI trivial)
            · have p2 : x 2 = _ := hp 2 (by decide +kernel)
              simp only [p2] at hK ⊢
              exact wpOp_skip (i := 4) rfl (by simp [Region.wanted, yielded]) (hK undef _ (Below.refl _ _) hI trivial)
            · have p2 : x 2 = _ := hp 2 (by decide +kernel)
              simp only [p2] at hK ⊢
              exact wpOp_skip (i := 5) rfl (by simp [Region.wanted, yielded]) (hK undef _ (Below.refl _ _) hI trivial)
            · have p2 : x 2 = _ := hp 2 (by decide +kernel)
              simp only [p2] at hK ⊢
              refine wpOp_at rfl rfl ?_
              exact wp_value (v := .bool false) (by go_simp) (hK _ _ (Below.refl _ _) hI rfl)
            · have p6 : x 6 = _ := hp 6 (by decide +kernel)
              simp only [p6] at hK ⊢
              refine wpOp_at rfl rfl ?_
              exact wp_value (v := .bool false) (by go_simp) (hK _ _ (Below.refl _ _) hI rfl)
            · have p7 : x 7 = _ := hp 7 (by decide +kernel)
              simp only [p7] at hK ⊢
              refine wpOp_plain (i := 8) rfl (wanted_some rfl (by simp [yielded, Act.put])) ?_
              exact wp_load_agg' stW 25 _ rfl Try.isAgg25 _ Try.sizeOf25 ⟨0, g1, 0, _, _, _, rfl, rfl, rfl, rfl, hK _ _ (Below.refl _ _) hI rfl⟩
            · have p7 : x 7 = _ := hp 7 (by decide +kernel)
              have p8 : x 8 = _ := hp 8 (by decide +kernel)
              simp only [p7, p8] at hK ⊢
              refine wpOp_plain (i := 9) rfl (wanted_some rfl (by simp [yielded, Act.put])) ?_
              go_simp
              refine (HG1.out W (SentR.below hRb hI)).mono ?_
              rintro r u1 ⟨rfl, hb1⟩
              exact hK _ _ hb1 (hI.keep hb1) rfl
            · have p7 : x 7 = _ := hp 7 (by decide +kernel)
              simp only [p7] at hK ⊢
              refine wpOp_plain (i := 10) rfl (wanted_some rfl (by simp [yielded, Act.put])) ?_
              exact wp_load_agg' stW 25 _ rfl Try.isAgg25 _ Try.sizeOf25 ⟨1, g8, 0, _, _, _, rfl, rfl, rfl, rfl, hK _ _ (Below.refl _ _) hI rfl⟩
            · have p7 : x 7 = _ := hp 7 (by decide +kernel)
              have p10 : x 10 = _ := hp 10 (by decide +kernel)
              simp only [p7, p10] at hK ⊢
              refine wpOp_plain (i := 11) rfl (wanted_some rfl (by simp [yielded, Act.put])) ?_
              go_simp
              refine (HG1.out W (SentR.below hRb hI)).mono ?_
              rintro r u1 ⟨rfl, hb1⟩
              exact hK _ _ hb1 (hI.keep hb1) rfl
            · have p7 : x 7 = _ := hp 7 (by decide +kernel)
              have p9 : x 9 = _ := hp 9 (by decide +kernel)
              have p11 : x 11 = _ := hp 11 (by decide +kernel)
              simp only [p7, p9, p11] at hK ⊢
              refine wpOp_plain (i := 12) rfl (wanted_some rfl (by simp [yielded, Act.put])) ?_
              exact wp_value (v := .bool false) (by go_simp) (hK _ _ (Below.refl _ _) hI rfl)
            · have p7 : x 7 = _ := hp 7 (by decide +kernel)
              have p12 : x 12 = _ := hp 12 (by decide +kernel)
              simp only [p7, p12] at hK ⊢
              refine wpOp_at rfl rfl ?_
              exact wp_value (v := .bool false) (by go_simp) (hK _ _ (Below.refl _ _) hI rfl)
          case fin =>
            intro x W hI hG
            have p7 : x 7 = .bool false := hG 7 (by simp)
            have p13 : x 13 = .bool false := hG 13 (by simp)
            simp only [putAll, Act.put, List.setIfInBounds_toArray, List.set_cons_succ, List.set_cons_zero, p7, p13]
            refine wpAny_done (by decide +kernel) ?_ 0
            replace st := st.call hI
            replace hM := hM.below hI
            rcases hcases with hfs | ⟨hfs, d10⟩ | ⟨hfs, d10, d11⟩
            all_goals
              go_wp2_with (first
                | go_skip | ((first | refine mem_load_agg' st 25 _ rfl (wanted_none rfl) Try.isAgg25 _ Try.sizeOf25 ?_ | (refine mem_load_agg' st 25 _ rfl (wanted_some rfl ?_) Try.isAgg25 _ Try.sizeOf25 ?_; focus (simp [yielded, Act.put]; done))); refine ⟨1, _, _, _, _, _, rfl, rfl, rfl, rfl, ?_⟩) | ((first | refine mem_store' st 25 _ _ rfl (wanted_none rfl) _ Try.sizeOf25 ?_ | (refine mem_store' st 25 _ _ rfl (wanted_some rfl ?_) _ Try.sizeOf25 ?_; focus (simp [yielded, Act.put]; done))); refine ⟨0, _, _, _, _, _, rfl, rfl, rfl, rfl, rfl, rfl, ?_⟩; clear st; intro w9 st hw9m hw9z; simp [Act.eval, Act.put, Value.cells, putL] at st)
                | (at_lookup; refine wpList_mapLookup hM (int_keyed Try.underlying3) (wanted_none rfl) _ _ _ rfl Try.underlying47 Try.underlying4 Try.zeroValue4 rfl (keyOf_int_mk Try.underlying3 hwf) ?_; rw [hfs]))
              go_roundw
              case rel => exact ⟨k + 1, _, _, n, f, hlt, by omega, by go_num, hg, hOI, hM.block (Nat.le_of_eq hw9z.symm) (hw9m bm (by omega)), by omega, st.sub (by simp) (by simp)⟩
              case measure => simp [intOf]; omega
      · have d1 : decide ((k : Int) < seqs.length) = true := by simp; omega
        have d2 : decide ((k : Int) < 100) = false := by simp; omega
        go_wp2_with (first | go_skip | (go_at_call 21; refine (keep_lines_yes _).mono ?_; rintro x v9 ⟨rfl, hb9⟩))
        go_ret
        exact ⟨rfl, st.below.keep hb9⟩
    · have d1 : decide ((k : Int) < seqs.length) = false := by simp; omega
      go_wp2_with (first | go_skip | (go_at_call 21; refine (keep_lines_yes _).mono ?_; rintro x v9 ⟨rfl, hb9⟩))
      go_ret
      exact ⟨rfl, st.below.keep hb9⟩

theorem own : ownKnob Try.prog.godebug = none := by kernel_rfl
theorem laid : laidOutB Try.prog = true := by kernel_rfl

set_option maxRecDepth 100000 in
theorem contract (H : Type) (enc : TypeId × Value → H) (W : World) (base : Nat) (args : Array Value) (ds gs : List (DataW H)) (before : List MemPlace)
    (hval : ∀ (j : Nat) t v, Try.f5.params[j]? = some t → args[j]? = some v → Value.okWide Try.prog W .any base t v)
    (hW : DataW.Whole enc Try.prog Try.f5.params.toList Rows.lineOnceSpec.vars false W args.toList ds gs before)
    (hsz : (DataW.weightsEach Try.prog (Try.f5.params.toList ++ Rows.lineOnceSpec.plain.varTypes Try.prog) (ds ++ gs)).all (· ≤ reachBytes) = true) :
    Calls Try.prog 5 args W fun e W' => ∃ v, e = .returned v ∧ Rows.lineOnceSpec.post enc Try.prog Try.f5 false true false false W args v W' := by
  have hW' := hW
  obtain ⟨p, q, hA0, hV, rfl, hfz, hnd⟩ := hW
  have hA : DataW.TrodAll enc Try.prog W 0 (fun _ => true) true Try.f5.params.toList args.toList ds p := hA0
  have hpar := Try.params5
  rw [hpar] at hA hval hsz
  obtain ⟨v0, vs0, d0, ds0, p0, q0, hargs0, rfl, rfl, h0, r0⟩ := trodAll_cons hA
  obtain ⟨v1, vs1, d1, ds1, p1, q1, hargs1, rfl, rfl, h1, r1⟩ := trodAll_cons r0
  obtain ⟨hnil, rfl, rfl⟩ := trodAll_nil r1
  obtain rfl : args = #[v0, v1] := by cases args; simp_all
  obtain ⟨rfl, rfl⟩ := trodVars_none hV
  have w0 : ∀ n ∈ d0.weights Try.prog 25, n ≤ reachBytes := fun n hn => by simpa using List.all_eq_true.1 hsz n (DataW.weights_mem_each (j := 0) (t := 25) (d := d0) rfl rfl n hn)
  obtain ⟨x0, cs0, rfl, ⟨a0, c0, rfl, hR0⟩, hx0, hm0⟩ := arg_struct reads_Line Try.underlying25 (hval 0 _ v0 rfl rfl) h0 w0
  have w1 : ∀ n ∈ d1.weights Try.prog 28, n ≤ reachBytes := fun n hn => by simpa using List.all_eq_true.1 hsz n (DataW.weights_mem_each (j := 1) (t := 28) (d := d1) rfl rfl n hn)
  obtain ⟨x1, a1, c1, rfl, hR1, hl1, hx1, hm1⟩ := arg_slice (fit := fitI) (mass := fun _ => 1) reads_Int Try.underlying28 (by kernel_rfl : Try.prog.cellsOf _ = 1) (by decide) (by kernel_rfl : Try.prog.bytesOf _ = 8) (hval 1 _ v1 rfl rfl) h1 w1
  refine (walk W x0 a0 c0 x1 a1 c1 hR0 hR1 hl1 hx1).mono fun e W' ⟨he, hb⟩ => ?_
  exact ⟨_, he, law_post laid (by kernel_rfl) hW' rfl rfl (by kernel_rfl) Try.underlying4 hb⟩

set_option maxRecDepth 100000 in
theorem lifted (os : Os) (started : os.Started) (H : Type) (enc : TypeId × Value → H) :
    ReturnsInHanded {} Try.checked os 5 .any (Rows.lineOnceSpec.pre6 enc Try.prog Try.f5 Rows.lineOnceRow.domain false) (Rows.lineOnceSpec.post enc Try.prog Try.f5 false true false false) := by
  refine returnsInHanded_of_change_sized (C := Try.checked) own started (by kernel_rfl) Try.func5
    (ChangeSpec.witness6 (enc := enc) (C := Try.checked) false ⟨#[], #[.agg #[.int .i64 0, .slice none 0 0, .int .i64 0, .bool false, .bool false, .bool false, .bool false, .bool false, .bool false, .bool false, .bool false], .slice none 0 0], []⟩ 12 (by kernel_rfl) (by kernel_rfl) (by kernel_rfl) (by kernel_rfl)) ?_
  intro W base args ds gs before hval hW _ hsz _
  exact contract H enc W base args ds gs before hval hW hsz

theorem proved : Rows.LineOnceSaid :=
  OpenClaim.holds_of_wide 5 Try.f5 rfl rfl rfl rfl rfl rfl rfl ⟨rfl, rfl, rfl, rfl, rfl⟩ rfl rfl rfl rfl rfl (by kernel_rfl) Try.func5 (by kernel_rfl)
    (of_decide_eq_true (by kernel_rfl)) (by unfold Func.isWrapper; first | (rw [if_pos (by decide +kernel)]; kernel_rfl) | (rw [if_neg (by decide +kernel)]; exact ⟨rfl, rfl⟩))
    (fun os started H enc _ => lifted os started H enc)

end Go.Proofs.Ytclocdhkpckolaa.lineOnce
