/- Walks and plain laws that the claim rests on, part 23. -/
import Derived.Test.YtflfjpopfapogaaP4
import Derived.Test.YtflfjpopfapogaaP15
import Derived.Test.YtflfjpopfapogaaP20
import Derived.Test.YtflfjpopfapogaaP6
set_option linter.unusedSimpArgs false
set_option linter.unusedVariables false
/- The walks through trust.Good and trust.Add. -/
namespace Go.Proofs.Ytflfjpopfapogaa
open Go.RowKit
abbrev certV (x : Cert) : Value := .agg #[.int .i64 x.c, .int .i64 x.by_, .int .i64 x.host, .int .i64 x.till]
set_option maxRecDepth 100000 in
set_option maxHeartbeats 1600000 in
theorem slices_Index_Cert (ok : Nat → Prop) (w : World) (a : Option Addr) (c : Nat) (l : List Cert) (v : Cert) (hR : SlR ok w 4 RCert a c l) :
  Calls Try.prog 89 #[.slice a l.length c, .agg #[.int .i64 v.c, .int .i64 v.by_, .int .i64 v.host, .int .i64 v.till]] w fun e w' => Says e (inL l v) ∧ Below w.heap.size w w' := by
 have hl : l.length ≤ 9223372036854775807 := by have h1 := hR.1; have h2 := hR.2.1; unfold maxLen at h2; omega
 have st := St.start w
 go_enter Try.func89, Try.ntmps89
 go_wp2_with (first | go_skip | (with_reducible refine at_box 102 ?_; refine mem_box st (wanted_none rfl) 102 _ rfl _ rfl _ rfl ?_; clear st; intro g1 w1 hg1 st hg1b; clear hg1b; simp [Act.eval, Act.put, Value.cells, putL] at st))
 go_loopw [8] (fun i wr => ∃ k : Nat, k ≤ l.length ∧ i = .int .i64 k ∧ St [] w wr [(g1, 102, [.int .i64 v.c, .int .i64 v.by_, .int .i64 v.host, .int .i64 v.till])] ∧ Hid (inL l v = inL (l.drop k) v)) (fun i _ => l.length - (intOf i).toNat)
 case atStart => exact ⟨0, Nat.zero_le _, rfl, st, rfl⟩
 case round =>
  clear st
  obtain ⟨k, hk, rfl, st, hN⟩ := hrel
  by_cases hlt : k < l.length
  ·obtain ⟨b, o, rfl, hb, _⟩ := hR.cert_at k hlt
   have hrow := fun (W : World) (h : St [] w W [(g1, 102, [.int .i64 v.c, .int .i64 v.by_, .int .i64 v.host, .int .i64 v.till])]) => (hR.below h.below).cert_row k hlt
   generalize hd : decide (v = l[k]) = d
   have hne := eql_Cert v l[k] d hd
   have hgu := guard_Cert
   have HD := Lib.hid hd
   clear hd
   go_wp2
   refine lex_still st (by kernel_rfl) 6 rfl ?_; clear st; intro hI
   refine lexT 0 rfl hI (fun W hW => St.run_load_agg hW 0 102 _ rfl Try.isAgg102 _ Try.sizeOf102 rfl rfl rfl rfl) ?_; simp only [kP, kA, kS, kZ]
   refine lexS 1 rfl hI ?_; simp only [kP, kA, kS, kZ]
   refine lexS 2 rfl hI ?_; simp only [kP, kA, kS, kZ]
   refine lexS 3 rfl hI ?_; simp only [kP, kA, kS, kZ]
   refine lexT 4 rfl hI (fun W hW => run_load_at 102 _ rfl Try.isAgg102 _ Try.sizeOf102 _ _ rfl [.int .i64 l[k].c, .int .i64 l[k].by_, .int .i64 l[k].host, .int .i64 l[k].till] rfl (hrow W hW)) ?_; simp only [kP, kA, kS, kZ]
   refine lexS 5 rfl hI ?_; simp only [kP, kA, kS, kZ]
   refine lex_done (by decide +kernel) ?_
   replace st := hI
   clear hI hrow hne hgu
   cases d
   ·go_wp2
    go_roundw
    case rel => exact ⟨k + 1, hlt, by go_num, st, by rw [hN.out, inL_pass hlt (by simpa using HD.out)]; rfl⟩
    case measure => simp [intOf]; omega
   ·go_wp2
    go_ret
    have e : inL l v = true := by rw [hN.out, inL_hit hlt (by simpa using HD.out)]
    exact ⟨⟨k, rfl, by simp, by simp [e]⟩, st.below⟩
  ·go_wp2
   go_ret
   have e : inL l v = false := by rw [hN.out, inL_end hlt]
   exact ⟨⟨-1, rfl, by simp [e], by simp⟩, st.below⟩
set_option maxRecDepth 100000 in
set_option maxHeartbeats 400000 in
theorem slices_Contains_Cert (ok : Nat → Prop) (w : World) (a : Option Addr) (c : Nat) (l : List Cert) (v : Cert) (hR : SlR ok w 4 RCert a c l) :
  Calls Try.prog 54 #[.slice a l.length c, .agg #[.int .i64 v.c, .int .i64 v.by_, .int .i64 v.host, .int .i64 v.till]] w fun e w' => e = .returned (.bool (inL l v)) ∧ Below w.heap.size w w' := by
 cases hb : inL l v
 all_goals
  have HB := Lib.hid hb
  clear hb
  have st := St.start w
  go_enter Try.func54, Try.ntmps54
  go_wp2_with (first
   | go_skip | (with_reducible refine at_box 102 ?_; refine mem_box st (wanted_none rfl) 102 _ rfl _ rfl _ rfl ?_; clear st; intro g1 w1 hg1 st hg1b; clear hg1b; simp [Act.eval, Act.put, Value.cells, putL] at st) | (with_reducible refine at_load 102 ?_; refine memXA st 102 _ rfl Try.isAgg102 _ Try.sizeOf102 rfl ?_)
   | (go_at_call 89; go_must (refine (slices_Index_Cert ok _ _ _ _ v (hR.below st.below)).mono ?_; rintro e w' ⟨⟨n, rfl, h1, h2⟩, hb2⟩; replace st := st.call hb2; rw [HB.out] at h1 h2; simp only [forall_const, reduceCtorEq, false_implies] at h1 h2; clear hb2)))
  go_ret
  exact ⟨by first | rfl | (apply ret_bool; simp; omega), st.below⟩
set_option maxRecDepth 100000 in
set_option maxHeartbeats 3000000 in
theorem trust_Good (ok : Nat → Prop) (w : World) (a : Option Addr) (c : Nat) (l : List Cert) (hR : SlR ok w 4 RCert a c l) :
  Calls Try.prog 52 #[.slice a l.length c] w fun e w' => e = .returned (.bool (goodCerts l)) ∧ Below w.heap.size w w' := by
 have hl : l.length ≤ 9223372036854775807 := by have h1 := hR.1; have h2 := hR.2.1; unfold maxLen at h2; omega
 have hcap := hR.1
 go_enter Try.func52, Try.ntmps52
 go_wp2
 go_loopw [7] (fun i wr => ∃ k : Nat, k ≤ l.length ∧ i = .int .i64 k ∧ Below w.heap.size w wr ∧ Hid (certsOk [] l = certsOk (l.take k) (l.drop k))) (fun i _ => l.length - (intOf i).toNat)
 case atStart => exact ⟨0, Nat.zero_le _, rfl, Below.refl _ _, rfl⟩
 case round =>
  obtain ⟨k, hk, rfl, hB, hN⟩ := hrel
  by_cases hlt : k < l.length
  ·obtain ⟨b, o, rfl, hb, _⟩ := hR.cert_at k hlt
   have hrow := ((hR.below hB).cert_row k hlt)
   have hRk := fun (W : World) (h : Below wr.heap.size wr W) => ((hR.below hB).below h).take k
   have hkl : (l.take k).length = k := by simp; omega
   have hkc : k ≤ c := by omega
   have HS := Lib.hid (certsOk_at hlt)
   have st := St.start wr
   have HCt := Lib.hid (fun (W : World) (h : Below wr.heap.size wr W) => (hkl ▸ slices_Contains_Cert ok W (some ⟨b, o, none⟩) c (l.take k) l[k] (hRk W h) : Calls Try.prog 54 #[.slice (some ⟨b, o, none⟩) k c, .agg #[.int .i64 l[k].c, .int .i64 l[k].by_, .int .i64 l[k].host, .int .i64 l[k].till]] W fun e w' => e = .returned (.bool (inL (l.take k) l[k])) ∧ Below W.heap.size W w'))
   clear hRk hkl
   cases hg : goodCertB l[k]
   ·have HG := Lib.hid hg
    have HE := Lib.hid (show goodCerts l = false by unfold goodCerts; rw [hN.out, HS.out, hg]; rfl)
    clear hg
    go_wp2_with (first | go_skip | (with_reducible refine at_load 102 ?_; refine wpList_load_cells (wanted_none rfl) 102 _ rfl Try.isAgg102 _ Try.sizeOf102 b (o + k * 4) rfl [.int .i64 l[k].c, .int .i64 l[k].by_, .int .i64 l[k].host, .int .i64 l[k].till] rfl hrow ?_) | (with_reducible refine at_alloc 102 ?_; refine mem_alloc st (wanted_none rfl) 102 rfl _ Try.zeroValue102 _ rfl ?_; clear st; intro g1 w1 hg1 st hg1b; clear hg1b; simp [Act.eval, Act.put, Value.cells, putL] at st) | (with_reducible refine at_store 102 ?_; refine memS st 102 _ _ rfl _ Try.sizeOf102 ⟨0, _, _, _, _, _, rfl, rfl, rfl, rfl, rfl, rfl, ?_⟩; clear st; intro w2 st hw2m hw2z; simp [Act.eval, Act.put, Value.cells, putL] at st))
    refine lex_still st (by kernel_rfl) 10 rfl ?_; clear st; intro hI
    refine lexT 0 rfl hI (fun W hW => St.run_load_agg hW 0 102 _ rfl Try.isAgg102 _ Try.sizeOf102 rfl rfl rfl rfl) ?_; simp only [kP, kA, kS, kZ]
    have st := hI
    refine lexO 1 rfl fun K hK => ?_
    refine wp_callee (f := 53) (by first | (go_simp; done) | (go_simp; rfl)) ?_
    refine (wire_GoodCert l[k] _).mono ?_
    rintro e v3 ⟨rfl, hb3⟩
    rw [HG.out]
    refine ⟨_, rfl, ?_⟩
    replace st := st.call hb3
    clear hb3
    refine hK _ _ (st) ?_; clear hK; simp only [kP, kA, kS, kZ]
    have hI := st
    refine lexS 2 rfl hI ?_; simp only [kP, kA, kS, kZ]
    refine lexS 3 rfl hI ?_; simp only [kP, kA, kS, kZ]
    refine lex_skip 4 rfl (by decide +kernel) (by simp [Region.wanted, yielded]) hI ?_; simp only [kP, kA, kS, kZ]
    refine lex_skip 5 rfl (by decide +kernel) (by simp [Region.wanted, yielded]) hI ?_; simp only [kP, kA, kS, kZ]
    refine lex_skip 6 rfl (by decide +kernel) (by simp [Region.wanted, yielded]) hI ?_; simp only [kP, kA, kS, kZ]
    refine lex_skip 7 rfl (by decide +kernel) (by simp [Region.wanted, yielded]) hI ?_; simp only [kP, kA, kS, kZ]
    refine lex_skip 8 rfl (by decide +kernel) (by simp [Region.wanted, yielded]) hI ?_; simp only [kP, kA, kS, kZ]
    refine lexS 9 rfl hI ?_; simp only [kP, kA, kS, kZ]
    refine lex_done (by decide +kernel) ?_
    go_wp2
    go_ret
    exact ⟨ret_bool HE.out.symm, hB.keep st.below⟩
   ·have HG := Lib.hid hg
    cases hi : inL (l.take k) l[k]
    ·have HI := Lib.hid hi
     have HE := Lib.hid (show certsOk [] l = certsOk (l.take (k + 1)) (l.drop (k + 1)) by rw [hN.out, HS.out, hg, hi]; rfl)
     clear hg hi
     go_wp2_with (first | go_skip | (with_reducible refine at_load 102 ?_; refine wpList_load_cells (wanted_none rfl) 102 _ rfl Try.isAgg102 _ Try.sizeOf102 b (o + k * 4) rfl [.int .i64 l[k].c, .int .i64 l[k].by_, .int .i64 l[k].host, .int .i64 l[k].till] rfl hrow ?_) | (with_reducible refine at_alloc 102 ?_; refine mem_alloc st (wanted_none rfl) 102 rfl _ Try.zeroValue102 _ rfl ?_; clear st; intro g1 w1 hg1 st hg1b; clear hg1b; simp [Act.eval, Act.put, Value.cells, putL] at st) | (with_reducible refine at_store 102 ?_; refine memS st 102 _ _ rfl _ Try.sizeOf102 ⟨0, _, _, _, _, _, rfl, rfl, rfl, rfl, rfl, rfl, ?_⟩; clear st; intro w2 st hw2m hw2z; simp [Act.eval, Act.put, Value.cells, putL] at st))
     refine lex_still st (by kernel_rfl) 10 rfl ?_; clear st; intro hI
     refine lexT 0 rfl hI (fun W hW => St.run_load_agg hW 0 102 _ rfl Try.isAgg102 _ Try.sizeOf102 rfl rfl rfl rfl) ?_; simp only [kP, kA, kS, kZ]
     have st := hI
     refine lexO 1 rfl fun K hK => ?_
     refine wp_callee (f := 53) (by first | (go_simp; done) | (go_simp; rfl)) ?_
     refine (wire_GoodCert l[k] _).mono ?_
     rintro e v3 ⟨rfl, hb3⟩
     rw [HG.out]
     refine ⟨_, rfl, ?_⟩
     replace st := st.call hb3
     clear hb3
     refine hK _ _ (st) ?_; clear hK; simp only [kP, kA, kS, kZ]
     have hI := st
     refine lexS 2 rfl hI ?_; simp only [kP, kA, kS, kZ]
     refine lexS 3 rfl hI ?_; simp only [kP, kA, kS, kZ]
     refine lexS 4 rfl hI ?_; simp only [kP, kA, kS, kZ]
     refine lexS 5 rfl hI ?_; simp only [kP, kA, kS, kZ]
     refine lexS 6 rfl hI ?_; simp only [kP, kA, kS, kZ]
     refine lexT 7 rfl hI (fun W hW => St.run_load_agg hW 0 102 _ rfl Try.isAgg102 _ Try.sizeOf102 rfl rfl rfl rfl) ?_; simp only [kP, kA, kS, kZ]
     refine lexO 8 rfl fun K hK => ?_
     refine wp_callee (f := 54) (by first | (go_simp; done) | (go_simp; rfl)) ?_
     refine (HCt.out _ st.below).mono ?_
     rintro e v4 ⟨rfl, hb4⟩
     rw [HI.out]
     refine ⟨_, rfl, ?_⟩
     replace st := st.call hb4
     clear hb4
     refine hK _ _ (st) ?_; clear hK; simp only [kP, kA, kS, kZ]
     have hI := st
     refine lexS 9 rfl hI ?_; simp only [kP, kA, kS, kZ]
     refine lex_done (by decide +kernel) ?_
     go_wp2
     go_roundw
     case rel => exact ⟨k + 1, hlt, by go_num, hB.keep st.below, HE.out⟩
     case measure => simp [intOf]; omega
    ·have HI := Lib.hid hi
     have HE := Lib.hid (show goodCerts l = false by unfold goodCerts; rw [hN.out, HS.out, hg, hi]; rfl)
     clear hg hi
     go_wp2_with (first | go_skip | (with_reducible refine at_load 102 ?_; refine wpList_load_cells (wanted_none rfl) 102 _ rfl Try.isAgg102 _ Try.sizeOf102 b (o + k * 4) rfl [.int .i64 l[k].c, .int .i64 l[k].by_, .int .i64 l[k].host, .int .i64 l[k].till] rfl hrow ?_) | (with_reducible refine at_alloc 102 ?_; refine mem_alloc st (wanted_none rfl) 102 rfl _ Try.zeroValue102 _ rfl ?_; clear st; intro g1 w1 hg1 st hg1b; clear hg1b; simp [Act.eval, Act.put, Value.cells, putL] at st) | (with_reducible refine at_store 102 ?_; refine memS st 102 _ _ rfl _ Try.sizeOf102 ⟨0, _, _, _, _, _, rfl, rfl, rfl, rfl, rfl, rfl, ?_⟩; clear st; intro w2 st hw2m hw2z; simp [Act.eval, Act.put, Value.cells, putL] at st))
     refine lex_still st (by kernel_rfl) 10 rfl ?_; clear st; intro hI
     refine lexT 0 rfl hI (fun W hW => St.run_load_agg hW 0 102 _ rfl Try.isAgg102 _ Try.sizeOf102 rfl rfl rfl rfl) ?_; simp only [kP, kA, kS, kZ]
     have st := hI
     refine lexO 1 rfl fun K hK => ?_
     refine wp_callee (f := 53) (by first | (go_simp; done) | (go_simp; rfl)) ?_
     refine (wire_GoodCert l[k] _).mono ?_
     rintro e v3 ⟨rfl, hb3⟩
     rw [HG.out]
     refine ⟨_, rfl, ?_⟩
     replace st := st.call hb3
     clear hb3
     refine hK _ _ (st) ?_; clear hK; simp only [kP, kA, kS, kZ]
     have hI := st
     refine lexS 2 rfl hI ?_; simp only [kP, kA, kS, kZ]
     refine lexS 3 rfl hI ?_; simp only [kP, kA, kS, kZ]
     refine lexS 4 rfl hI ?_; simp only [kP, kA, kS, kZ]
     refine lexS 5 rfl hI ?_; simp only [kP, kA, kS, kZ]
     refine lexS 6 rfl hI ?_; simp only [kP, kA, kS, kZ]
     refine lexT 7 rfl hI (fun W hW => St.run_load_agg hW 0 102 _ rfl Try.isAgg102 _ Try.sizeOf102 rfl rfl rfl rfl) ?_; simp only [kP, kA, kS, kZ]
     refine lexO 8 rfl fun K hK => ?_
     refine wp_callee (f := 54) (by first | (go_simp; done) | (go_simp; rfl)) ?_
     refine (HCt.out _ st.below).mono ?_
     rintro e v4 ⟨rfl, hb4⟩
     rw [HI.out]
     refine ⟨_, rfl, ?_⟩
     replace st := st.call hb4
     clear hb4
     refine hK _ _ (st) ?_; clear hK; simp only [kP, kA, kS, kZ]
     have hI := st
     refine lexS 9 rfl hI ?_; simp only [kP, kA, kS, kZ]
     refine lex_done (by decide +kernel) ?_
     go_wp2
     go_ret
     exact ⟨ret_bool HE.out.symm, hB.keep st.below⟩
  ·go_wp2
   go_ret
   have e : certsOk [] l = true := by rw [hN.out, List.drop_of_length_le (by omega)]; simp [certsOk]
   exact ⟨ret_bool (by unfold goodCerts; rw [e]; simp; omega), hB⟩
set_option maxRecDepth 100000 in
set_option maxHeartbeats 3000000 in
theorem trust_Add (ok : Nat → Prop) (w : World) (a : Option Addr) (k : Nat) (l : List Cert) (c : Cert) (hR : SlR ok w 4 RCert a k l) (r : List Cert × Int) (hr : addC l c = r) :
  Calls Try.prog 38 #[.slice a l.length k, .agg #[.int .i64 c.c, .int .i64 c.by_, .int .i64 c.host, .int .i64 c.till]] w fun e w' => ∃ a' k', e = .returned (.tuple #[.slice a' r.1.length k', .int .i64 r.2]) ∧ Below w.heap.size w w' ∧ SlR (fun b => w.heap.size ≤ b) w' 4 RCert a' k' r.1 := by
 have HG := Lib.hid (fun (W : World) (h : Below w.heap.size w W) => trust_Good ok W a k l (hR.below h))
 have HI := Lib.hid (fun (W : World) (h : Below w.heap.size w W) => slices_Contains_Cert ok W a k l c (hR.below h))
 have st := St.start w
 cases h1 : goodCerts l
 ·have H1 := Lib.hid h1
  have HR := Lib.hid (show r = ([], 2) by rw [← hr]; unfold addC; rw [h1]; rfl)
  clear h1 hr
  go_enter Try.func38, Try.ntmps38
  go_wp2_with (first | go_skip | (with_reducible refine at_box 102 ?_; refine mem_box st (wanted_none rfl) 102 _ rfl _ rfl _ rfl ?_; clear st; intro g1 w1 hg1 st hg1b; clear hg1b; simp [Act.eval, Act.put, Value.cells, putL] at st) | (go_at_call 52; go_must (refine (HG.out _ st.below).mono ?_; rintro e v2 ⟨rfl, hb2⟩; rw [H1.out]; replace st := st.call hb2; clear hb2)))
  go_ret2
  rw [HR.out]
  exact ⟨none, 0, rfl, st.below, SlR.nil _ _ _ _⟩
 ·have H1 := Lib.hid h1
  cases h2 : goodCertB c
  ·have H2 := Lib.hid h2
   have HR := Lib.hid (show r = ([], 2) by rw [← hr]; unfold addC; rw [h1, h2]; rfl)
   clear h1 h2 hr
   go_enter Try.func38, Try.ntmps38
   go_wp2_with (first
    | go_skip | (with_reducible refine at_box 102 ?_; refine mem_box st (wanted_none rfl) 102 _ rfl _ rfl _ rfl ?_; clear st; intro g1 w1 hg1 st hg1b; clear hg1b; simp [Act.eval, Act.put, Value.cells, putL] at st) | (with_reducible refine at_load 102 ?_; refine memXA st 102 _ rfl Try.isAgg102 _ Try.sizeOf102 rfl ?_) | (go_at_call 52; go_must (refine (HG.out _ st.below).mono ?_; rintro e v2 ⟨rfl, hb2⟩; rw [H1.out]; replace st := st.call hb2; clear hb2))
    | (go_at_call 53; go_must (refine (wire_GoodCert c _).mono ?_; rintro e v2 ⟨rfl, hb2⟩; rw [H2.out]; replace st := st.call hb2; clear hb2)))
   go_ret2
   rw [HR.out]
   exact ⟨none, 0, rfl, st.below, SlR.nil _ _ _ _⟩
  ·have H2 := Lib.hid h2
   have hlen : l.length ≤ 24 := ((goodCerts_iff l).1 h1).2.2
   have HC := Lib.hid (fun (W : World) (h : Below w.heap.size w W) => slices_Clone_Cert ok W a k l (by omega) (hR.below h))
   cases h3 : inL l c
   ·have H3 := Lib.hid h3
    by_cases h4 : l.length = 24
    ·have HR := Lib.hid (show r = ([], 5) by rw [← hr]; unfold addC; rw [h1, h2, h3, if_neg (by simp), if_neg (by simp), if_pos (by omega)])
     clear h1 h2 h3 hr hlen
     rw [h4] at HG HI HC ⊢
     clear h4
     go_enter Try.func38, Try.ntmps38
     go_wp2_with (first
      | go_skip | (with_reducible refine at_box 102 ?_; refine mem_box st (wanted_none rfl) 102 _ rfl _ rfl _ rfl ?_; clear st; intro g1 w1 hg1 st hg1b; clear hg1b; simp [Act.eval, Act.put, Value.cells, putL] at st) | (with_reducible refine at_load 102 ?_; refine memXA st 102 _ rfl Try.isAgg102 _ Try.sizeOf102 rfl ?_) | (go_at_call 52; go_must (refine (HG.out _ st.below).mono ?_; rintro e v2 ⟨rfl, hb2⟩; rw [H1.out]; replace st := st.call hb2; clear hb2))
      | (go_at_call 53; go_must (refine (wire_GoodCert c _).mono ?_; rintro e v2 ⟨rfl, hb2⟩; rw [H2.out]; replace st := st.call hb2; clear hb2))
      | (go_at_call 54; go_must (refine (HI.out _ st.below).mono ?_; rintro e v2 ⟨rfl, hb2⟩; rw [H3.out]; replace st := st.call hb2; clear hb2)))
     go_ret2
     rw [HR.out]
     exact ⟨none, 0, rfl, st.below, SlR.nil _ _ _ _⟩
    ·obtain ⟨i0, hi, hz0, hz1, hz2⟩ := info_parts info_Cert
     have HR := Lib.hid (show r = (l ++ [c], 0) by rw [← hr]; unfold addC; rw [h1, h2, h3, if_neg (by simp), if_neg (by simp), if_neg (by omega)])
     have d1 : decide ((24 : Int) ≤ (l.length : Int)) = false := by simp; omega
     clear h1 h2 h3 hr
     rw [HR.out]
     have hll : (l ++ [c]).length = l.length + 1 := by simp
     rw [hll]
     clear hll
     go_enter Try.func38, Try.ntmps38
     go_wp2_with (first
      | go_skip | (with_reducible refine at_box 102 ?_; refine mem_box st (wanted_none rfl) 102 _ rfl _ rfl _ rfl ?_; clear st; intro g1 w1 hg1 st hg1b; clear hg1b; simp [Act.eval, Act.put, Value.cells, putL] at st) | (with_reducible refine at_load 102 ?_; refine memXA st 102 _ rfl Try.isAgg102 _ Try.sizeOf102 rfl ?_) | (go_at_call 52; go_must (refine (HG.out _ st.below).mono ?_; rintro e v2 ⟨rfl, hb2⟩; rw [H1.out]; replace st := st.call hb2; clear hb2))
      | (go_at_call 53; go_must (refine (wire_GoodCert c _).mono ?_; rintro e v2 ⟨rfl, hb2⟩; rw [H2.out]; replace st := st.call hb2; clear hb2))
      | (go_at_call 54; go_must (refine (HI.out _ st.below).mono ?_; rintro e v2 ⟨rfl, hb2⟩; rw [H3.out]; replace st := st.call hb2; clear hb2)))
     refine lex_still st (by kernel_rfl) 7 rfl ?_; clear st; intro hI
     refine lexS 0 rfl hI ?_; simp only [kP, kA, kS, kZ]
     refine lexT 2 rfl hI (fun W hW => St.run_load_agg hW 0 102 _ rfl Try.isAgg102 _ Try.sizeOf102 rfl rfl rfl rfl) ?_; simp only [kP, kA, kS, kZ]
     have st := hI
     have st1 := hI
     refine lex_each [1, 3] (by decide +kernel) (by decide) ?_; intro i hi K hK; simp only [List.mem_cons, List.not_mem_nil, or_false] at hi; rcases hi with rfl | rfl <;> refine ⟨_, rfl, (by first | exact wanted_none rfl | exact wanted_some rfl rfl), ?_⟩
     ·refine wp_callee (f := 55) (by first | (go_simp; done) | (go_simp; rfl)) ?_
      refine (HC.out _ st.below).mono ?_
      rintro e v4 ⟨a4, k4, rfl, hb4, hO4⟩
      refine ⟨_, rfl, ?_⟩
      have hz4 := st.size
      replace st := st.call hb4
      refine hK _ _ (st.take 1) ?_; clear hK; simp only [kP, kA, kS, kZ]
      have hI := st.take 1
      refine lexO 3 rfl fun K hK => ?_
      refine wp_build1 st 62 102 _ rfl Try.underlying62 4 Try.sizeOf102 (by decide) (by decide) _ Try.zeroValue102 _ rfl rfl ?_; clear st; intro g2 w2 hg2 hg2e st hg2b hw2z; clear hg2e; simp [Act.eval, Act.put, Value.cells, putL] at st
      refine hK _ _ (st.take 1) ?_; clear hK; simp only [kP, kA, kS, kZ]
      have hI := st.take 1
      refine lexO 4 rfl fun K hK => ?_
      refine wp_app1 _ _ 62 rfl 102 i0 _ 4 32 Try.underlying62 hi hz0 hz1 hz2 rfl (by decide) rfl rfl (hO4.below hg2b) rfl (SlR.ofBlk (ok := fun _ => True) (R := RCert) (x := c) (st.blk _ (List.mem_of_getElem? (i := 1) rfl)) rfl rfl rfl trivial) (by omega) (by unfold maxLen; omega) (by first | exact Nat.le_refl _ | (have := hb4.size; have := hg2b.size; omega)) ?_
      intro g5 c5 w5 hO5 hg5 _ _
      have hbb := hb4.keep hg2b
      have hB5 := Own.grown (hO4.below hg2b) hbb hg5 (Nat.le_refl _) hbb.size
      have st5 := st1.call hB5
      refine hK _ _ (st5) ?_; clear hK; simp only [kP, kA, kS, kZ]
      have hI := st5
      refine lexS 5 rfl hI ?_; simp only [kP, kA, kS, kZ]
      refine lexS 6 rfl hI ?_; simp only [kP, kA, kS, kZ]
      refine lex_done (by decide +kernel) ?_
      go_wp2
      go_ret2
      exact ⟨_, _, rfl, st5.below, (hO5.le hz4).slr fun _ h => h⟩
     ·refine wp_build1 st 62 102 _ rfl Try.underlying62 4 Try.sizeOf102 (by decide) (by decide) _ Try.zeroValue102 _ rfl rfl ?_; clear st; intro g2 w2 hg2 hg2e st hg2b hw2z; clear hg2e; simp [Act.eval, Act.put, Value.cells, putL] at st
      refine hK _ _ (st.take 1) ?_; clear hK; simp only [kP, kA, kS, kZ]
      have hI := st.take 1
      refine lexO 1 rfl fun K hK => ?_
      refine wp_callee (f := 55) (by first | (go_simp; done) | (go_simp; rfl)) ?_
      refine (HC.out _ st.below).mono ?_
      rintro e v4 ⟨a4, k4, rfl, hb4, hO4⟩
      refine ⟨_, rfl, ?_⟩
      have hz4 := st.size
      replace st := st.call hb4
      refine hK _ _ (st.take 1) ?_; clear hK; simp only [kP, kA, kS, kZ]
      have hI := st.take 1
      refine lexO 4 rfl fun K hK => ?_
      refine wp_app1 _ _ 62 rfl 102 i0 _ 4 32 Try.underlying62 hi hz0 hz1 hz2 rfl (by decide) rfl rfl (hO4) rfl (SlR.ofBlk (ok := fun _ => True) (R := RCert) (x := c) (st.blk _ (List.mem_of_getElem? (i := 1) rfl)) rfl rfl rfl trivial) (by omega) (by unfold maxLen; omega) (by first | exact Nat.le_refl _ | (have := hb4.size; have := hg2b.size; omega)) ?_
      intro g5 c5 w5 hO5 hg5 _ _
      have hbb := hg2b.keep hb4
      have hB5 := Own.grown hO4 hbb hg5 hg2b.size hbb.size
      have st5 := st1.call hB5
      refine hK _ _ (st5) ?_; clear hK; simp only [kP, kA, kS, kZ]
      have hI := st5
      refine lexS 5 rfl hI ?_; simp only [kP, kA, kS, kZ]
      refine lexS 6 rfl hI ?_; simp only [kP, kA, kS, kZ]
      refine lex_done (by decide +kernel) ?_
      go_wp2
      go_ret2
      exact ⟨_, _, rfl, st5.below, (hO5.le hz4).slr fun _ h => h⟩
   ·have H3 := Lib.hid h3
    have HR := Lib.hid (show r = (l, 0) by rw [← hr]; unfold addC; rw [h1, h2, h3]; rfl)
    clear h1 h2 h3 hr hlen
    go_enter Try.func38, Try.ntmps38
    go_wp2_with (first
     | go_skip | (with_reducible refine at_box 102 ?_; refine mem_box st (wanted_none rfl) 102 _ rfl _ rfl _ rfl ?_; clear st; intro g1 w1 hg1 st hg1b; clear hg1b; simp [Act.eval, Act.put, Value.cells, putL] at st) | (with_reducible refine at_load 102 ?_; refine memXA st 102 _ rfl Try.isAgg102 _ Try.sizeOf102 rfl ?_) | (go_at_call 52; go_must (refine (HG.out _ st.below).mono ?_; rintro e v2 ⟨rfl, hb2⟩; rw [H1.out]; replace st := st.call hb2; clear hb2))
     | (go_at_call 53; go_must (refine (wire_GoodCert c _).mono ?_; rintro e v2 ⟨rfl, hb2⟩; rw [H2.out]; replace st := st.call hb2; clear hb2))
     | (go_at_call 54; go_must (refine (HI.out _ st.below).mono ?_; rintro e v2 ⟨rfl, hb2⟩; rw [H3.out]; replace st := st.call hb2; clear hb2))
     | (go_at_call 55; go_must (refine (HC.out _ st.below).mono ?_; rintro e v4 ⟨a4, k4, rfl, hb4, hO4⟩; have hz4 := st.size; replace st := st.call hb4)))
    go_ret2
    rw [HR.out]
    exact ⟨a4, k4, rfl, st.below, (hO4.le hz4).slr fun _ h => h⟩
end Go.Proofs.Ytflfjpopfapogaa
