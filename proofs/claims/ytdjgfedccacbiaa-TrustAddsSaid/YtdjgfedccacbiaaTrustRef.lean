/- The document's own trust: the walks through parcloseref.GoodCert, GoodCerts, AddCert. (printed by gen_trustref.py) -/
import Derived.Test.YtdjgfedccacbiaaTrust
import Derived.Test.YtdjgfedccacbiaaCertKey
set_option linter.unusedSimpArgs false
set_option linter.unusedVariables false
namespace Go.Proofs.Ytdjgfedccacbiaa
open Go.RowKit
open Go.Maps (Keyed)

theorem ref_IsCategory (c : Int) (w : World) : Calls Try.prog 22 #[.int .i64 c] w fun e w' => e = .returned (.bool (catOk c)) ∧ w = w' := by
  by_cases h1 : 0 ≤ c <;> by_cases h2 : c ≤ 79
  all_goals
    go_enter Try.func22, Try.ntmps22
    go_wp2
    go_ret
    exact ⟨ret_bool (by rw [Bool.eq_iff_iff, catOk_iff]; simp; omega), rfl⟩

theorem ref_four (h : Int) (w : World) : Calls Try.prog 23 #[.int .i64 h] w fun e w' => e = .returned (.bool (four h)) ∧ w = w' := by
  by_cases h1 : 0 ≤ h <;> by_cases h2 : h < 4
  all_goals
    go_enter Try.func23, Try.ntmps23
    go_wp2
    go_ret
    exact ⟨ret_bool (by simp [four, h1, h2]), rfl⟩

set_option maxHeartbeats 1600000 in
theorem ref_GoodCert (c : Cert) (w : World) : Calls Try.prog 19 #[.agg #[.int .i64 c.c, .int .i64 c.by_, .int .i64 c.host, .int .i64 c.till]] w fun e w' => e = .returned (.bool (goodCertB c)) ∧ Below w.heap.size w w' := by
  rcases chain6 (catOk c.c) (four c.by_) (four c.host) ((c.by_ != c.host)) (decide (0 ≤ c.till)) (decide (c.till ≤ 1099511627776)) with h1 | ⟨h1, h2⟩ | ⟨h1, h2, h3⟩ | ⟨h1, h2, h3, h4⟩ | ⟨h1, h2, h3, h4, h5⟩ | ⟨h1, h2, h3, h4, h5, h6⟩ | ⟨h1, h2, h3, h4, h5, h6⟩
  · have HE := Lib.hid (show goodCertB c = false by simp [goodCertB, h1])
    have H1 := Lib.hid h1; clear h1
    have st := St.start w
    go_enter Try.func19, Try.ntmps19
    go_wp2_with (first | go_skip | (refine mem_box st (wanted_none rfl) 24 _ rfl _ rfl _ rfl ?_; clear st; intro g1 w1 hg1 st hg1b; clear hg1b; simp [Act.eval, Act.put, Value.cells, putL] at st) | ((first | refine mem_load' st 3 _ rfl (wanted_none rfl) Try.isAgg3 ?_ | (refine mem_load' st 3 _ rfl (wanted_some rfl ?_) Try.isAgg3 ?_; focus (simp [yielded, Act.put]; done))); refine ⟨0, _, _, _, _, _, rfl, rfl, rfl, ?_⟩) | (go_at_call 22; refine (ref_IsCategory _ _).mono ?_; rintro e v ⟨rfl, rfl⟩; first | rw [H1.out]))
    go_ret
    exact ⟨by rw [HE.out]; rfl, st.below⟩
  · have HE := Lib.hid (show goodCertB c = false by simp [goodCertB, h1, h2])
    have H1 := Lib.hid h1; clear h1
    have H2 := Lib.hid h2; clear h2
    have st := St.start w
    go_enter Try.func19, Try.ntmps19
    go_wp2_with (first | go_skip | (refine mem_box st (wanted_none rfl) 24 _ rfl _ rfl _ rfl ?_; clear st; intro g1 w1 hg1 st hg1b; clear hg1b; simp [Act.eval, Act.put, Value.cells, putL] at st) | ((first | refine mem_load' st 3 _ rfl (wanted_none rfl) Try.isAgg3 ?_ | (refine mem_load' st 3 _ rfl (wanted_some rfl ?_) Try.isAgg3 ?_; focus (simp [yielded, Act.put]; done))); refine ⟨0, _, _, _, _, _, rfl, rfl, rfl, ?_⟩) | (go_at_call 22; refine (ref_IsCategory _ _).mono ?_; rintro e v ⟨rfl, rfl⟩; first | rw [H1.out]) | (go_at_call 23; refine (ref_four _ _).mono ?_; rintro e v ⟨rfl, rfl⟩; first | rw [H2.out]))
    go_ret
    exact ⟨by rw [HE.out]; rfl, st.below⟩
  · have HE := Lib.hid (show goodCertB c = false by simp [goodCertB, h1, h2, h3])
    have H1 := Lib.hid h1; clear h1
    have H2 := Lib.hid h2; clear h2
    have H3 := Lib.hid h3; clear h3
    have st := St.start w
    go_enter Try.func19, Try.ntmps19
    go_wp2_with (first | go_skip | (refine mem_box st (wanted_none rfl) 24 _ rfl _ rfl _ rfl ?_; clear st; intro g1 w1 hg1 st hg1b; clear hg1b; simp [Act.eval, Act.put, Value.cells, putL] at st) | ((first | refine mem_load' st 3 _ rfl (wanted_none rfl) Try.isAgg3 ?_ | (refine mem_load' st 3 _ rfl (wanted_some rfl ?_) Try.isAgg3 ?_; focus (simp [yielded, Act.put]; done))); refine ⟨0, _, _, _, _, _, rfl, rfl, rfl, ?_⟩) | (go_at_call 22; refine (ref_IsCategory _ _).mono ?_; rintro e v ⟨rfl, rfl⟩; first | rw [H1.out]) | (go_at_call 23; refine (ref_four _ _).mono ?_; rintro e v ⟨rfl, rfl⟩; first | rw [H2.out] | rw [H3.out]))
    go_ret
    exact ⟨by rw [HE.out]; rfl, st.below⟩
  · have HE := Lib.hid (show goodCertB c = false by simp [goodCertB, h1, h2, h3, h4])
    have H1 := Lib.hid h1; clear h1
    have H2 := Lib.hid h2; clear h2
    have H3 := Lib.hid h3; clear h3
    have st := St.start w
    go_enter Try.func19, Try.ntmps19
    go_wp2_with (first | go_skip | (refine mem_box st (wanted_none rfl) 24 _ rfl _ rfl _ rfl ?_; clear st; intro g1 w1 hg1 st hg1b; clear hg1b; simp [Act.eval, Act.put, Value.cells, putL] at st) | ((first | refine mem_load' st 3 _ rfl (wanted_none rfl) Try.isAgg3 ?_ | (refine mem_load' st 3 _ rfl (wanted_some rfl ?_) Try.isAgg3 ?_; focus (simp [yielded, Act.put]; done))); refine ⟨0, _, _, _, _, _, rfl, rfl, rfl, ?_⟩) | (go_at_call 22; refine (ref_IsCategory _ _).mono ?_; rintro e v ⟨rfl, rfl⟩; first | rw [H1.out]) | (go_at_call 23; refine (ref_four _ _).mono ?_; rintro e v ⟨rfl, rfl⟩; first | rw [H2.out] | rw [H3.out]))
    go_ret
    exact ⟨by rw [HE.out]; rfl, st.below⟩
  · have HE := Lib.hid (show goodCertB c = false by simp [goodCertB, h1, h2, h3, h4, h5])
    have H1 := Lib.hid h1; clear h1
    have H2 := Lib.hid h2; clear h2
    have H3 := Lib.hid h3; clear h3
    have st := St.start w
    go_enter Try.func19, Try.ntmps19
    go_wp2_with (first | go_skip | (refine mem_box st (wanted_none rfl) 24 _ rfl _ rfl _ rfl ?_; clear st; intro g1 w1 hg1 st hg1b; clear hg1b; simp [Act.eval, Act.put, Value.cells, putL] at st) | ((first | refine mem_load' st 3 _ rfl (wanted_none rfl) Try.isAgg3 ?_ | (refine mem_load' st 3 _ rfl (wanted_some rfl ?_) Try.isAgg3 ?_; focus (simp [yielded, Act.put]; done))); refine ⟨0, _, _, _, _, _, rfl, rfl, rfl, ?_⟩) | (go_at_call 22; refine (ref_IsCategory _ _).mono ?_; rintro e v ⟨rfl, rfl⟩; first | rw [H1.out]) | (go_at_call 23; refine (ref_four _ _).mono ?_; rintro e v ⟨rfl, rfl⟩; first | rw [H2.out] | rw [H3.out]))
    go_ret
    exact ⟨by rw [HE.out]; rfl, st.below⟩
  · have HE := Lib.hid (show goodCertB c = false by simp [goodCertB, h1, h2, h3, h4, h5, h6])
    have H1 := Lib.hid h1; clear h1
    have H2 := Lib.hid h2; clear h2
    have H3 := Lib.hid h3; clear h3
    have st := St.start w
    go_enter Try.func19, Try.ntmps19
    go_wp2_with (first | go_skip | (refine mem_box st (wanted_none rfl) 24 _ rfl _ rfl _ rfl ?_; clear st; intro g1 w1 hg1 st hg1b; clear hg1b; simp [Act.eval, Act.put, Value.cells, putL] at st) | ((first | refine mem_load' st 3 _ rfl (wanted_none rfl) Try.isAgg3 ?_ | (refine mem_load' st 3 _ rfl (wanted_some rfl ?_) Try.isAgg3 ?_; focus (simp [yielded, Act.put]; done))); refine ⟨0, _, _, _, _, _, rfl, rfl, rfl, ?_⟩) | (go_at_call 22; refine (ref_IsCategory _ _).mono ?_; rintro e v ⟨rfl, rfl⟩; first | rw [H1.out]) | (go_at_call 23; refine (ref_four _ _).mono ?_; rintro e v ⟨rfl, rfl⟩; first | rw [H2.out] | rw [H3.out]))
    go_ret
    exact ⟨by rw [HE.out]; rfl, st.below⟩
  · have HE := Lib.hid (show goodCertB c = true by simp [goodCertB, h1, h2, h3, h4, h5, h6])
    have H1 := Lib.hid h1; clear h1
    have H2 := Lib.hid h2; clear h2
    have H3 := Lib.hid h3; clear h3
    have st := St.start w
    go_enter Try.func19, Try.ntmps19
    go_wp2_with (first | go_skip | (refine mem_box st (wanted_none rfl) 24 _ rfl _ rfl _ rfl ?_; clear st; intro g1 w1 hg1 st hg1b; clear hg1b; simp [Act.eval, Act.put, Value.cells, putL] at st) | ((first | refine mem_load' st 3 _ rfl (wanted_none rfl) Try.isAgg3 ?_ | (refine mem_load' st 3 _ rfl (wanted_some rfl ?_) Try.isAgg3 ?_; focus (simp [yielded, Act.put]; done))); refine ⟨0, _, _, _, _, _, rfl, rfl, rfl, ?_⟩) | (go_at_call 22; refine (ref_IsCategory _ _).mono ?_; rintro e v ⟨rfl, rfl⟩; first | rw [H1.out]) | (go_at_call 23; refine (ref_four _ _).mono ?_; rintro e v ⟨rfl, rfl⟩; first | rw [H2.out] | rw [H3.out]))
    go_ret
    exact ⟨by rw [HE.out]; rfl, st.below⟩

set_option maxRecDepth 100000 in
set_option maxHeartbeats 3000000 in
theorem ref_GoodCerts (ok : Nat → Prop) (w : World) (a : Option Addr) (c : Nat) (l : List Cert) (hfit : ∀ x ∈ l, x.fit) (hR : SlR ok w 4 RCert a c l) :
    Calls Try.prog 10 #[.slice a l.length c] w fun e w' => e = .returned (.bool (goodCerts l)) ∧ Below w.heap.size w w' := by
  have hl : l.length ≤ 9223372036854775807 := by have h1 := hR.1; have h2 := hR.2.1; unfold maxLen at h2; omega
  have HF := Lib.hid hfit
  clear hfit
  go_enter Try.func10, Try.ntmps10
  go_wp2_with (first | go_skip | (refine wpList_makeMap 24 4 (wanted_none rfl) _ rfl ?_; intro bm w1 hbm hM hb1))
  have hlm := hM.lt
  go_loopw [9] (fun i wr => ∃ (k : Nat) (f : Lit → Bool), k ≤ l.length ∧ i = .int .i64 k ∧ Below w.heap.size w wr ∧ MapB Try.prog 24 4 wr bm k f ∧ Hid ((∀ x : Cert, x.fit → f (certLit x) = inL (l.take k) x) ∧ certsOk [] l = certsOk (l.take k) (l.drop k))) (fun i _ => l.length - (intOf i).toNat)
  case atStart => exact ⟨0, _, Nat.zero_le _, rfl, hb1, hM, ⟨fun _ _ => rfl, rfl⟩⟩
  case round =>
    clear hM hlm
    obtain ⟨k, f, hk, rfl, hB, hM, hN⟩ := hrel
    by_cases hlt : k < l.length
    · obtain ⟨b, o, rfl, hb, _⟩ := hR.cert_at k hlt
      have hrow := ((hR.below hB).cert_row k hlt)
      have hkey := cert_key l[k] (HF.out _ (List.getElem_mem hlt))
      have hfk := hN.out.1 l[k] (HF.out _ (List.getElem_mem hlt))
      have HS := Lib.hid (certsOk_at hlt)
      have hkm : k < maxLen := by unfold maxLen; omega
      have st := St.start wr
      cases hi : inL (l.take k) l[k]
      · rw [hi] at hfk
        cases hg : goodCertB l[k]
        · have HG := Lib.hid hg
          have HE := Lib.hid (show goodCerts l = false by unfold goodCerts; rw [hN.out.2, HS.out, hg]; rfl)
          clear hg hi
          go_wp2_with (first
            | go_skip | (refine wpList_load_cells (wanted_none rfl) 24 _ rfl Try.isAgg24 _ Try.sizeOf24 b (o + k * 4) rfl [.int .i64 l[k].c, .int .i64 l[k].by_, .int .i64 l[k].host, .int .i64 l[k].till] rfl hrow ?_) | (refine mem_alloc st (wanted_none rfl) 24 rfl _ Try.zeroValue24 _ rfl ?_; clear st; intro g1 w1 hg1 st hg1b; clear hg1b; simp [Act.eval, Act.put, Value.cells, putL] at st) | ((first | refine mem_store' st 24 _ _ rfl (wanted_none rfl) _ Try.sizeOf24 ?_ | (refine mem_store' st 24 _ _ rfl (wanted_some rfl ?_) _ Try.sizeOf24 ?_; focus (simp [yielded, Act.put]; done))); refine ⟨0, _, _, _, _, _, rfl, rfl, rfl, rfl, rfl, rfl, ?_⟩; clear st; intro w2 st hw2m hw2z; simp [Act.eval, Act.put, Value.cells, putL] at st) | ((first | refine mem_load_agg' st 24 _ rfl (wanted_none rfl) Try.isAgg24 _ Try.sizeOf24 ?_ | (refine mem_load_agg' st 24 _ rfl (wanted_some rfl ?_) Try.isAgg24 _ Try.sizeOf24 ?_; focus (simp [yielded, Act.put]; done))); refine ⟨0, _, _, _, _, _, rfl, rfl, rfl, rfl, ?_⟩)
            | (at_lookup; go_must (refine wpList_mapLookup (hM.below st.below) cert_keyed (wanted_none rfl) _ _ 39 rfl Try.underlying39 Try.underlying4 Try.zeroValue4 rfl hkey ?_; rw [hfk]))
            | (go_at_call 19; go_must (refine (ref_GoodCert l[k] _).mono ?_; rintro e v3 ⟨rfl, hb3⟩; rw [HG.out]; replace st := st.call hb3; clear hb3)))
          go_ret
          exact ⟨ret_bool HE.out.symm, hB.keep st.below⟩
        · have HG := Lib.hid hg
          have HE := Lib.hid (show certsOk [] l = certsOk (l.take (k + 1)) (l.drop (k + 1)) by rw [hN.out.2, HS.out, hg, hi]; rfl)
          have hself := WideAt.sameKey_self (cert_keyed.key hkey)
          clear hg hi
          have tk1 := trivial
          go_wp2_with (first
            | go_skip | (refine wpList_load_cells (wanted_none rfl) 24 _ rfl Try.isAgg24 _ Try.sizeOf24 b (o + k * 4) rfl [.int .i64 l[k].c, .int .i64 l[k].by_, .int .i64 l[k].host, .int .i64 l[k].till] rfl hrow ?_) | (refine mem_alloc st (wanted_none rfl) 24 rfl _ Try.zeroValue24 _ rfl ?_; clear st; intro g1 w1 hg1 st hg1b; clear hg1b; simp [Act.eval, Act.put, Value.cells, putL] at st) | ((first | refine mem_store' st 24 _ _ rfl (wanted_none rfl) _ Try.sizeOf24 ?_ | (refine mem_store' st 24 _ _ rfl (wanted_some rfl ?_) _ Try.sizeOf24 ?_; focus (simp [yielded, Act.put]; done))); refine ⟨0, _, _, _, _, _, rfl, rfl, rfl, rfl, rfl, rfl, ?_⟩; clear st; intro w2 st hw2m hw2z; simp [Act.eval, Act.put, Value.cells, putL] at st) | ((first | refine mem_load_agg' st 24 _ rfl (wanted_none rfl) Try.isAgg24 _ Try.sizeOf24 ?_ | (refine mem_load_agg' st 24 _ rfl (wanted_some rfl ?_) Try.isAgg24 _ Try.sizeOf24 ?_; focus (simp [yielded, Act.put]; done))); refine ⟨0, _, _, _, _, _, rfl, rfl, rfl, rfl, ?_⟩)
            | (at_lookup; go_must (refine wpList_mapLookup (hM.below st.below) cert_keyed (wanted_none rfl) _ _ 39 rfl Try.underlying39 Try.underlying4 Try.zeroValue4 rfl hkey ?_; rw [hfk]))
            | (go_at_call 19; go_must (refine (ref_GoodCert l[k] _).mono ?_; rintro e v3 ⟨rfl, hb3⟩; rw [HG.out]; replace st := st.call hb3; clear hb3))
            | (at_mapUpdate; go_must (refine wpList_mapUpdate (hM.below st.below) cert_keyed (wanted_none rfl) _ _ _ 39 rfl Try.underlying39 Try.underlying4 hkm rfl hkey true rfl ?_; intro w4 hM4 hg4)))
          go_roundw
          case rel =>
            refine ⟨k + 1, _, hlt, by go_num, ?_, hM4, ⟨fun x hx => ?_, HE.out⟩⟩
            · exact (hB.keep st.below).grown hg4 (Nat.le_trans hB.size st.size) fun q hq => by simp at hq; omega
            · have htk : inL (l.take (k + 1)) x = (decide (x = l[k]) || inL (l.take k) x) := by
                rw [Bool.eq_iff_iff, Bool.or_eq_true, decide_eq_true_eq, inL_iff, inL_iff, List.take_succ_eq_append_getElem hlt, List.mem_append, List.mem_singleton, or_comm]
              rw [htk]
              by_cases hxe : x = l[k]
              · subst hxe
                rw [if_pos hself]
                simp
              · have hne : (certLit x).sameKey (certLit l[k]) = false := Maps.sameKey_ne fun he => hxe (certLit_inj hx (HF.out _ (List.getElem_mem hlt)) he)
                rw [if_neg (by rw [hne]; simp), hN.out.1 x hx]
                simp [hxe]
          case measure => simp [intOf]; omega
      · rw [hi] at hfk
        have HE := Lib.hid (show goodCerts l = false by unfold goodCerts; rw [hN.out.2, HS.out, hi]; simp)
        clear hi
        go_wp2_with (first
          | go_skip | (refine wpList_load_cells (wanted_none rfl) 24 _ rfl Try.isAgg24 _ Try.sizeOf24 b (o + k * 4) rfl [.int .i64 l[k].c, .int .i64 l[k].by_, .int .i64 l[k].host, .int .i64 l[k].till] rfl hrow ?_) | (refine mem_alloc st (wanted_none rfl) 24 rfl _ Try.zeroValue24 _ rfl ?_; clear st; intro g1 w1 hg1 st hg1b; clear hg1b; simp [Act.eval, Act.put, Value.cells, putL] at st) | ((first | refine mem_store' st 24 _ _ rfl (wanted_none rfl) _ Try.sizeOf24 ?_ | (refine mem_store' st 24 _ _ rfl (wanted_some rfl ?_) _ Try.sizeOf24 ?_; focus (simp [yielded, Act.put]; done))); refine ⟨0, _, _, _, _, _, rfl, rfl, rfl, rfl, rfl, rfl, ?_⟩; clear st; intro w2 st hw2m hw2z; simp [Act.eval, Act.put, Value.cells, putL] at st) | ((first | refine mem_load_agg' st 24 _ rfl (wanted_none rfl) Try.isAgg24 _ Try.sizeOf24 ?_ | (refine mem_load_agg' st 24 _ rfl (wanted_some rfl ?_) Try.isAgg24 _ Try.sizeOf24 ?_; focus (simp [yielded, Act.put]; done))); refine ⟨0, _, _, _, _, _, rfl, rfl, rfl, rfl, ?_⟩)
          | (at_lookup; go_must (refine wpList_mapLookup (hM.below st.below) cert_keyed (wanted_none rfl) _ _ 39 rfl Try.underlying39 Try.underlying4 Try.zeroValue4 rfl hkey ?_; rw [hfk])))
        go_ret
        exact ⟨ret_bool HE.out.symm, hB.keep st.below⟩
    · go_wp2
      go_ret
      have e : certsOk [] l = true := by rw [hN.out.2, List.drop_of_length_le (by omega)]; simp [certsOk]
      exact ⟨ret_bool (by unfold goodCerts; rw [e]; simp; omega), hB⟩

set_option maxRecDepth 100000 in
set_option maxHeartbeats 3000000 in
theorem ref_AddCert (ok : Nat → Prop) (w : World) (a : Option Addr) (kc : Nat) (l : List Cert) (c : Cert) (hfit : ∀ x ∈ l, x.fit) (hl32 : l.length * 32 ≤ 140737488355328) (hR : SlR ok w 4 RCert a kc l) (r : List Cert × Int) (hr : addC l c = r) :
    Calls Try.prog 7 #[.slice a l.length kc, .agg #[.int .i64 c.c, .int .i64 c.by_, .int .i64 c.host, .int .i64 c.till]] w fun e w' => ∃ a' k', e = .returned (.tuple #[.slice a' r.1.length k', .int .i64 r.2]) ∧ Below w.heap.size w w' ∧ SlR (fun b => w.heap.size ≤ b) w' 4 RCert a' k' r.1 := by
  have HG := Lib.hid (fun (W : World) (h : Below w.heap.size w W) => ref_GoodCerts ok W a kc l hfit (hR.below h))
  have st := St.start w
  cases h1 : goodCerts l
  · have H1 := Lib.hid h1
    have HR := Lib.hid (show r = ([], 2) by rw [← hr]; unfold addC; rw [h1]; rfl)
    clear h1 hr hfit
    go_enter Try.func7, Try.ntmps7
    go_wp2_with (first | go_skip | (refine mem_box st (wanted_none rfl) 24 _ rfl _ rfl _ rfl ?_; clear st; intro g1 w1 hg1 st hg1b; clear hg1b; simp [Act.eval, Act.put, Value.cells, putL] at st) | (go_at_call 10; go_must (refine (HG.out _ st.below).mono ?_; rintro e v2 ⟨rfl, hb2⟩; rw [H1.out]; replace st := st.call hb2; clear hb2)))
    go_ret2
    rw [HR.out]
    exact ⟨none, 0, rfl, st.below, SlR.nil _ _ _ _⟩
  · have H1 := Lib.hid h1
    cases h2 : goodCertB c
    · have H2 := Lib.hid h2
      have HR := Lib.hid (show r = ([], 2) by rw [← hr]; unfold addC; rw [h1, h2]; rfl)
      clear h1 h2 hr hfit
      go_enter Try.func7, Try.ntmps7
      go_wp2_with (first
        | go_skip | (refine mem_box st (wanted_none rfl) 24 _ rfl _ rfl _ rfl ?_; clear st; intro g1 w1 hg1 st hg1b; clear hg1b; simp [Act.eval, Act.put, Value.cells, putL] at st) | ((first | refine mem_load_agg' st 24 _ rfl (wanted_none rfl) Try.isAgg24 _ Try.sizeOf24 ?_ | (refine mem_load_agg' st 24 _ rfl (wanted_some rfl ?_) Try.isAgg24 _ Try.sizeOf24 ?_; focus (simp [yielded, Act.put]; done))); refine ⟨0, _, _, _, _, _, rfl, rfl, rfl, rfl, ?_⟩) | (go_at_call 10; go_must (refine (HG.out _ st.below).mono ?_; rintro e v2 ⟨rfl, hb2⟩; rw [H1.out]; replace st := st.call hb2; clear hb2))
        | (go_at_call 19; go_must (refine (ref_GoodCert c _).mono ?_; rintro e v2 ⟨rfl, hb2⟩; rw [H2.out]; replace st := st.call hb2; clear hb2)))
      go_ret2
      rw [HR.out]
      exact ⟨none, 0, rfl, st.below, SlR.nil _ _ _ _⟩
    · have H2 := Lib.hid h2
      have hlen : l.length ≤ 24 := ((goodCerts_iff l).1 h1).2.2
      have HR := Lib.hid (show addC l c = if inL l c = true then (l, 0) else if 24 ≤ l.length then ([], 5) else (l ++ [c], 0) by unfold addC; rw [h1, h2, if_neg (by simp)])
      have HRr := Lib.hid hr
      obtain ⟨i0, hi, hz0, hz1, hz2⟩ := info_parts info_Cert
      clear h1 h2 hr hfit
      go_enter Try.func7, Try.ntmps7
      go_wp2_with (first
        | go_skip | (refine mem_box st (wanted_none rfl) 24 _ rfl _ rfl _ rfl ?_; clear st; intro g1 w1 hg1 st hg1b; clear hg1b; simp [Act.eval, Act.put, Value.cells, putL] at st) | ((first | refine mem_load_agg' st 24 _ rfl (wanted_none rfl) Try.isAgg24 _ Try.sizeOf24 ?_ | (refine mem_load_agg' st 24 _ rfl (wanted_some rfl ?_) Try.isAgg24 _ Try.sizeOf24 ?_; focus (simp [yielded, Act.put]; done))); refine ⟨0, _, _, _, _, _, rfl, rfl, rfl, rfl, ?_⟩) | (go_at_call 10; go_must (refine (HG.out _ st.below).mono ?_; rintro e v2 ⟨rfl, hb2⟩; rw [H1.out]; replace st := st.call hb2; clear hb2))
        | (go_at_call 19; go_must (refine (ref_GoodCert c _).mono ?_; rintro e v2 ⟨rfl, hb2⟩; rw [H2.out]; replace st := st.call hb2; clear hb2))
        | (at_builtin; refine wpList_copy (wanted_none rfl) _ _ 22 rfl 24 i0 _ 4 32 Try.underlying22 hi hz0 hz1 hz2 rfl (by decide) rfl rfl rfl (hR.below st.below) hl32 ?_; intro a4 k4 w4 hO hb4; have hs4 := st.size; replace st := st.call hb4; have hz4 := hb4.size; clear hb4))
      generalize hBe : v2.heap.size = B at hO hs4 hz4
      have lg := st.ltAt (i := 0) rfl
      go_loopw [21] (fun i wr => ∃ k : Nat, k ≤ l.length ∧ i = .int .i64 k ∧ St [] w wr [(g1, 24, [.int .i64 c.c, .int .i64 c.by_, .int .i64 c.host, .int .i64 c.till])] ∧ Own B 24 wr 4 RCert a4 k4 l ∧ w4.heap.size ≤ wr.heap.size ∧ Hid (inL l c = inL (l.drop k) c)) (fun i _ => l.length - (intOf i).toNat)
      case atStart => exact ⟨0, Nat.zero_le _, rfl, st, hO, Nat.le_refl _, rfl⟩
      case round =>
        clear st hO
        obtain ⟨k, hk, rfl, st, hO, hsz, hN⟩ := hrel
        by_cases hlt : k < l.length
        · obtain ⟨b, o, rfl, hb, _⟩ := hR.cert_at k hlt
          have hrow := ((hR.below st.below).cert_row k hlt)
          generalize hd : decide (l[k] = c) = d
          have hne := eql_Cert l[k] c d hd
          have hgu := guard_Cert
          have HD := Lib.hid hd
          clear hd
          have st0 := st
          replace st := st.rebase
          cases d
          · go_wp2_with (first | go_skip | (refine wpList_load_cells (wanted_none rfl) 24 _ rfl Try.isAgg24 _ Try.sizeOf24 b (o + k * 4) rfl [.int .i64 l[k].c, .int .i64 l[k].by_, .int .i64 l[k].host, .int .i64 l[k].till] rfl hrow ?_) | (refine mem_alloc st (wanted_none rfl) 24 rfl _ Try.zeroValue24 _ rfl ?_; clear st; intro g5 w5 hg5 st hg5b; clear hg5b; simp [Act.eval, Act.put, Value.cells, putL] at st) | ((first | refine mem_store' st 24 _ _ rfl (wanted_none rfl) _ Try.sizeOf24 ?_ | (refine mem_store' st 24 _ _ rfl (wanted_some rfl ?_) _ Try.sizeOf24 ?_; focus (simp [yielded, Act.put]; done))); refine ⟨1, _, _, _, _, _, rfl, rfl, rfl, rfl, rfl, rfl, ?_⟩; clear st; intro w6 st hw6m hw6z; simp [Act.eval, Act.put, Value.cells, putL] at st) | ((first | refine mem_load_agg' st 24 _ rfl (wanted_none rfl) Try.isAgg24 _ Try.sizeOf24 ?_ | (refine mem_load_agg' st 24 _ rfl (wanted_some rfl ?_) Try.isAgg24 _ Try.sizeOf24 ?_; focus (simp [yielded, Act.put]; done))); refine ⟨1, _, _, _, _, _, rfl, rfl, rfl, rfl, ?_⟩) | ((first | refine mem_load_agg' st 24 _ rfl (wanted_none rfl) Try.isAgg24 _ Try.sizeOf24 ?_ | (refine mem_load_agg' st 24 _ rfl (wanted_some rfl ?_) Try.isAgg24 _ Try.sizeOf24 ?_; focus (simp [yielded, Act.put]; done))); refine ⟨0, _, _, _, _, _, rfl, rfl, rfl, rfl, ?_⟩))
            go_roundw
            case rel => exact ⟨k + 1, hlt, by go_num, St.back st0 (st.take 1), hO.below (st0.below2 st (by simp)), Nat.le_trans hsz st.size, by rw [hN.out, inL_pass hlt (by have := HD.out; simp at this; exact fun h => this h.symm)]; rfl⟩
            case measure => simp [intOf]; omega
          · go_wp2_with (first | go_skip | (refine wpList_load_cells (wanted_none rfl) 24 _ rfl Try.isAgg24 _ Try.sizeOf24 b (o + k * 4) rfl [.int .i64 l[k].c, .int .i64 l[k].by_, .int .i64 l[k].host, .int .i64 l[k].till] rfl hrow ?_) | (refine mem_alloc st (wanted_none rfl) 24 rfl _ Try.zeroValue24 _ rfl ?_; clear st; intro g5 w5 hg5 st hg5b; clear hg5b; simp [Act.eval, Act.put, Value.cells, putL] at st) | ((first | refine mem_store' st 24 _ _ rfl (wanted_none rfl) _ Try.sizeOf24 ?_ | (refine mem_store' st 24 _ _ rfl (wanted_some rfl ?_) _ Try.sizeOf24 ?_; focus (simp [yielded, Act.put]; done))); refine ⟨1, _, _, _, _, _, rfl, rfl, rfl, rfl, rfl, rfl, ?_⟩; clear st; intro w6 st hw6m hw6z; simp [Act.eval, Act.put, Value.cells, putL] at st) | ((first | refine mem_load_agg' st 24 _ rfl (wanted_none rfl) Try.isAgg24 _ Try.sizeOf24 ?_ | (refine mem_load_agg' st 24 _ rfl (wanted_some rfl ?_) Try.isAgg24 _ Try.sizeOf24 ?_; focus (simp [yielded, Act.put]; done))); refine ⟨1, _, _, _, _, _, rfl, rfl, rfl, rfl, ?_⟩) | ((first | refine mem_load_agg' st 24 _ rfl (wanted_none rfl) Try.isAgg24 _ Try.sizeOf24 ?_ | (refine mem_load_agg' st 24 _ rfl (wanted_some rfl ?_) Try.isAgg24 _ Try.sizeOf24 ?_; focus (simp [yielded, Act.put]; done))); refine ⟨0, _, _, _, _, _, rfl, rfl, rfl, rfl, ?_⟩))
            go_ret2
            have hin : inL l c = true := by rw [hN.out, inL_hit hlt (by have := HD.out; simp at this; exact this.symm)]
            have hrr := HRr.out
            rw [HR.out, if_pos hin] at hrr
            rw [← hrr]
            exact ⟨_, _, rfl, (St.back st0 st).below, ((hO.below (st0.below2 st (by simp))).le hs4).slr fun _ h => h⟩
        · have hin : inL l c = false := by rw [hN.out, inL_end hlt]
          have hrr := HRr.out
          rw [HR.out, if_neg (by rw [hin]; simp)] at hrr
          by_cases h24 : l.length = 24
          · rw [if_pos (by omega)] at hrr
            subst hrr
            have d1 : ((l.length : Int) == 24) = true := by simp; omega
            clear hN hin
            go_wp2
            go_ret2
            exact ⟨none, 0, rfl, st.below, SlR.nil _ _ _ _⟩
          · rw [if_neg (by omega)] at hrr
            subst hrr
            have d1 : ((l.length : Int) == 24) = false := by simp; omega
            have hll : (l ++ [c]).length = l.length + 1 := by simp
            clear hN hin
            have st0 := st
            go_wp2_with (first
              | go_skip | ((first | refine mem_load_agg' st 24 _ rfl (wanted_none rfl) Try.isAgg24 _ Try.sizeOf24 ?_ | (refine mem_load_agg' st 24 _ rfl (wanted_some rfl ?_) Try.isAgg24 _ Try.sizeOf24 ?_; focus (simp [yielded, Act.put]; done))); refine ⟨0, _, _, _, _, _, rfl, rfl, rfl, rfl, ?_⟩) | ((refine wpList_build1 st (wanted_none rfl) 22 24 _ rfl Try.underlying22 4 Try.sizeOf24 (by decide) (by decide) _ Try.zeroValue24 _ rfl rfl ?_; have stw7 := st; clear st; intro g7 w7 hg7 hg7e st hw7b hw7z; simp [Act.eval, Act.put, Value.cells, putL] at st); clear hg7e)
              | (at_builtin; refine wpList_app1 (wanted_none rfl) _ _ 22 rfl 24 i0 _ 4 32 Try.underlying22 hi hz0 hz1 hz2 rfl (by decide) rfl rfl (hO.below hw7b) rfl (SlR.ofBlk (ok := fun _ => True) (R := RCert) (x := c) (st.blk _ (List.mem_of_getElem? (i := 1) rfl)) rfl rfl rfl trivial) (by omega) (by unfold maxLen; omega) (Nat.le_trans hz4 (Nat.le_trans hsz hw7b.size)) ?_; intro g8 c8 w8 hO8 hg8 _ _))
            go_ret2
            simp only [hll]
            exact ⟨_, _, rfl, Own.grown (hO.below hw7b) st.below hg8 hs4 st.size, (hO8.le hs4).slr fun _ h => h⟩

end Go.Proofs.Ytdjgfedccacbiaa
