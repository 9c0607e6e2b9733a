/- The walks through wire.host, thread, rising, GoodCert, GoodMail and Good. -/
import Derived.Test.YtbngblmdcggfdaaWireP
import Derived.Test.YtbngblmdcggfdaaLabelG
import Derived.Test.YtbngblmdcggfdaaSameF
import Derived.Test.YtbngblmdcggfdaaMemB
set_option linter.unusedSimpArgs false
set_option linter.unusedVariables false
namespace Go.Proofs.Ytbngblmdcggfdaa
open Go.RowKit

theorem wire_host (h : Int) (w : World) : Calls Try.prog 35 #[.int .i64 h] w fun e w' => e = .returned (.bool (four h)) ∧ w = w' := by
  by_cases h1 : 0 ≤ h <;> by_cases h2 : h < 4
  all_goals
    go_enter Try.func35, Try.ntmps35
    go_wp2
    go_ret
    exact ⟨ret_bool (by simp [four, h1, h2]), rfl⟩

theorem cat_Category (c : Int) (w : World) : Calls Try.prog 20 #[.int .i64 c] w fun e w' => e = .returned (.bool (catOk c)) ∧ w = w' := label_Category c w

theorem risesI_bad {l : List Int} {k : Nat} (h : k < l.length) (hI : Hid (risesI (-1) l = risesI (prevI l k) (l.drop k))) (hb : ¬ (prevI l k < l[k] ∧ catOk l[k] = true)) (m : Int) : risingB l m = false := by
  unfold risingB
  rw [hI.out, risesI_step l k h, if_neg hb]
  rfl
theorem risesI_go {l : List Int} {k : Nat} (h : k < l.length) (hI : Hid (risesI (-1) l = risesI (prevI l k) (l.drop k))) (hb : prevI l k < l[k] ∧ catOk l[k] = true) : Hid (risesI (-1) l = risesI (prevI l (k + 1)) (l.drop (k + 1))) := by
  show _ = _
  rw [hI.out, risesI_step l k h, if_pos hb]

set_option maxHeartbeats 1600000 in
theorem wire_GoodCert (c : Cert) (w : World) : Calls Try.prog 27 #[.agg #[.int .i64 c.c, .int .i64 c.by_, .int .i64 c.host, .int .i64 c.till]] w fun e w' => e = .returned (.bool (goodCertB c)) ∧ Below w.heap.size w w' := by
  rcases chain6 (catOk c.c) (four c.by_) (four c.host) ((c.by_ != c.host)) (decide (0 ≤ c.till)) (decide (c.till ≤ 1099511627776)) with h1 | ⟨h1, h2⟩ | ⟨h1, h2, h3⟩ | ⟨h1, h2, h3, h4⟩ | ⟨h1, h2, h3, h4, h5⟩ | ⟨h1, h2, h3, h4, h5, h6⟩ | ⟨h1, h2, h3, h4, h5, h6⟩
  · have HE := Lib.hid (show goodCertB c = false by simp [goodCertB, h1])
    have H1 := Lib.hid h1; clear h1
    have st := St.start w
    go_enter Try.func27, Try.ntmps27
    go_wp2_with (first | go_skip | (refine mem_box st (wanted_none rfl) 43 _ rfl _ rfl _ rfl ?_; clear st; intro g1 w1 hg1 st hg1b; clear hg1b; simp [Act.eval, Act.put, Value.cells, putL] at st) | ((first | refine mem_load' st 3 _ rfl (wanted_none rfl) Try.isAgg3 ?_ | (refine mem_load' st 3 _ rfl (wanted_some rfl ?_) Try.isAgg3 ?_; focus (simp [yielded, Act.put]; done))); refine ⟨0, _, _, _, _, _, rfl, rfl, rfl, ?_⟩) | (go_at_call 20; refine (cat_Category _ _).mono ?_; rintro e v ⟨rfl, rfl⟩; first | rw [H1.out]))
    go_ret
    exact ⟨by rw [HE.out]; rfl, st.below⟩
  · have HE := Lib.hid (show goodCertB c = false by simp [goodCertB, h1, h2])
    have H1 := Lib.hid h1; clear h1
    have H2 := Lib.hid h2; clear h2
    have st := St.start w
    go_enter Try.func27, Try.ntmps27
    go_wp2_with (first | go_skip | (refine mem_box st (wanted_none rfl) 43 _ rfl _ rfl _ rfl ?_; clear st; intro g1 w1 hg1 st hg1b; clear hg1b; simp [Act.eval, Act.put, Value.cells, putL] at st) | ((first | refine mem_load' st 3 _ rfl (wanted_none rfl) Try.isAgg3 ?_ | (refine mem_load' st 3 _ rfl (wanted_some rfl ?_) Try.isAgg3 ?_; focus (simp [yielded, Act.put]; done))); refine ⟨0, _, _, _, _, _, rfl, rfl, rfl, ?_⟩) | (go_at_call 20; refine (cat_Category _ _).mono ?_; rintro e v ⟨rfl, rfl⟩; first | rw [H1.out]) | (go_at_call 35; refine (wire_host _ _).mono ?_; rintro e v ⟨rfl, rfl⟩; first | rw [H2.out]))
    go_ret
    exact ⟨by rw [HE.out]; rfl, st.below⟩
  · have HE := Lib.hid (show goodCertB c = false by simp [goodCertB, h1, h2, h3])
    have H1 := Lib.hid h1; clear h1
    have H2 := Lib.hid h2; clear h2
    have H3 := Lib.hid h3; clear h3
    have st := St.start w
    go_enter Try.func27, Try.ntmps27
    go_wp2_with (first | go_skip | (refine mem_box st (wanted_none rfl) 43 _ rfl _ rfl _ rfl ?_; clear st; intro g1 w1 hg1 st hg1b; clear hg1b; simp [Act.eval, Act.put, Value.cells, putL] at st) | ((first | refine mem_load' st 3 _ rfl (wanted_none rfl) Try.isAgg3 ?_ | (refine mem_load' st 3 _ rfl (wanted_some rfl ?_) Try.isAgg3 ?_; focus (simp [yielded, Act.put]; done))); refine ⟨0, _, _, _, _, _, rfl, rfl, rfl, ?_⟩) | (go_at_call 20; refine (cat_Category _ _).mono ?_; rintro e v ⟨rfl, rfl⟩; first | rw [H1.out]) | (go_at_call 35; refine (wire_host _ _).mono ?_; rintro e v ⟨rfl, rfl⟩; first | rw [H2.out] | rw [H3.out]))
    go_ret
    exact ⟨by rw [HE.out]; rfl, st.below⟩
  · have HE := Lib.hid (show goodCertB c = false by simp [goodCertB, h1, h2, h3, h4])
    have H1 := Lib.hid h1; clear h1
    have H2 := Lib.hid h2; clear h2
    have H3 := Lib.hid h3; clear h3
    have st := St.start w
    go_enter Try.func27, Try.ntmps27
    go_wp2_with (first | go_skip | (refine mem_box st (wanted_none rfl) 43 _ rfl _ rfl _ rfl ?_; clear st; intro g1 w1 hg1 st hg1b; clear hg1b; simp [Act.eval, Act.put, Value.cells, putL] at st) | ((first | refine mem_load' st 3 _ rfl (wanted_none rfl) Try.isAgg3 ?_ | (refine mem_load' st 3 _ rfl (wanted_some rfl ?_) Try.isAgg3 ?_; focus (simp [yielded, Act.put]; done))); refine ⟨0, _, _, _, _, _, rfl, rfl, rfl, ?_⟩) | (go_at_call 20; refine (cat_Category _ _).mono ?_; rintro e v ⟨rfl, rfl⟩; first | rw [H1.out]) | (go_at_call 35; refine (wire_host _ _).mono ?_; rintro e v ⟨rfl, rfl⟩; first | rw [H2.out] | rw [H3.out]))
    go_ret
    exact ⟨by rw [HE.out]; rfl, st.below⟩
  · have HE := Lib.hid (show goodCertB c = false by simp [goodCertB, h1, h2, h3, h4, h5])
    have H1 := Lib.hid h1; clear h1
    have H2 := Lib.hid h2; clear h2
    have H3 := Lib.hid h3; clear h3
    have st := St.start w
    go_enter Try.func27, Try.ntmps27
    go_wp2_with (first | go_skip | (refine mem_box st (wanted_none rfl) 43 _ rfl _ rfl _ rfl ?_; clear st; intro g1 w1 hg1 st hg1b; clear hg1b; simp [Act.eval, Act.put, Value.cells, putL] at st) | ((first | refine mem_load' st 3 _ rfl (wanted_none rfl) Try.isAgg3 ?_ | (refine mem_load' st 3 _ rfl (wanted_some rfl ?_) Try.isAgg3 ?_; focus (simp [yielded, Act.put]; done))); refine ⟨0, _, _, _, _, _, rfl, rfl, rfl, ?_⟩) | (go_at_call 20; refine (cat_Category _ _).mono ?_; rintro e v ⟨rfl, rfl⟩; first | rw [H1.out]) | (go_at_call 35; refine (wire_host _ _).mono ?_; rintro e v ⟨rfl, rfl⟩; first | rw [H2.out] | rw [H3.out]))
    go_ret
    exact ⟨by rw [HE.out]; rfl, st.below⟩
  · have HE := Lib.hid (show goodCertB c = false by simp [goodCertB, h1, h2, h3, h4, h5, h6])
    have H1 := Lib.hid h1; clear h1
    have H2 := Lib.hid h2; clear h2
    have H3 := Lib.hid h3; clear h3
    have st := St.start w
    go_enter Try.func27, Try.ntmps27
    go_wp2_with (first | go_skip | (refine mem_box st (wanted_none rfl) 43 _ rfl _ rfl _ rfl ?_; clear st; intro g1 w1 hg1 st hg1b; clear hg1b; simp [Act.eval, Act.put, Value.cells, putL] at st) | ((first | refine mem_load' st 3 _ rfl (wanted_none rfl) Try.isAgg3 ?_ | (refine mem_load' st 3 _ rfl (wanted_some rfl ?_) Try.isAgg3 ?_; focus (simp [yielded, Act.put]; done))); refine ⟨0, _, _, _, _, _, rfl, rfl, rfl, ?_⟩) | (go_at_call 20; refine (cat_Category _ _).mono ?_; rintro e v ⟨rfl, rfl⟩; first | rw [H1.out]) | (go_at_call 35; refine (wire_host _ _).mono ?_; rintro e v ⟨rfl, rfl⟩; first | rw [H2.out] | rw [H3.out]))
    go_ret
    exact ⟨by rw [HE.out]; rfl, st.below⟩
  · have HE := Lib.hid (show goodCertB c = true by simp [goodCertB, h1, h2, h3, h4, h5, h6])
    have H1 := Lib.hid h1; clear h1
    have H2 := Lib.hid h2; clear h2
    have H3 := Lib.hid h3; clear h3
    have st := St.start w
    go_enter Try.func27, Try.ntmps27
    go_wp2_with (first | go_skip | (refine mem_box st (wanted_none rfl) 43 _ rfl _ rfl _ rfl ?_; clear st; intro g1 w1 hg1 st hg1b; clear hg1b; simp [Act.eval, Act.put, Value.cells, putL] at st) | ((first | refine mem_load' st 3 _ rfl (wanted_none rfl) Try.isAgg3 ?_ | (refine mem_load' st 3 _ rfl (wanted_some rfl ?_) Try.isAgg3 ?_; focus (simp [yielded, Act.put]; done))); refine ⟨0, _, _, _, _, _, rfl, rfl, rfl, ?_⟩) | (go_at_call 20; refine (cat_Category _ _).mono ?_; rintro e v ⟨rfl, rfl⟩; first | rw [H1.out]) | (go_at_call 35; refine (wire_host _ _).mono ?_; rintro e v ⟨rfl, rfl⟩; first | rw [H2.out] | rw [H3.out]))
    go_ret
    exact ⟨by rw [HE.out]; rfl, st.below⟩

end Go.Proofs.Ytbngblmdcggfdaa
