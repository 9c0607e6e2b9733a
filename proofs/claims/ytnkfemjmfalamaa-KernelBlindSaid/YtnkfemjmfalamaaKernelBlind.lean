/- For every row of calls of others, who writes is told the same as if nobody had done anything. No condition. -/
import Derived.Test.YtnkfemjmfalamaaRows
import Derived.Test.YtnkfemjmfalamaaP15
import Derived.Test.YtnkfemjmfalamaaP5
import Derived.Test.YtnkfemjmfalamaaP7
import Derived.Test.YtnkfemjmfalamaaP2
import Derived.SizedLaws
set_option linter.unusedSimpArgs false
set_option linter.unusedVariables false
namespace Go.Proofs.Ytnkfemjmfalamaa.kernelBlind
open Go.ChangeShapes Go.WideShapes Go.ChangeAt Go.RowKit

set_option maxRecDepth 100000 in
set_option maxHeartbeats 4000000 in
theorem walk (w : World) (host : Int) (l : List Step) (sa : Option Addr) (sc : Nat) (t : Int) (c : Req) (la : Option Addr) (lc : Nat) (ga : Option Addr) (gc : Nat) (hh : fitI host) (ht : fitI t) (hS : SlR (fun _ => True) w 15 (RStep (fun _ => True) w) sa sc l) (hsl : l.length * 200 ≤ 140737488351232) (hsf : ∀ x ∈ l, x.fit)
    (hR : SlR (fun _ => True) w 2 RLev la lc c.label) (hl : c.label.length * 16 ≤ 140737488351232) :
    Calls Try.prog 3 #[.int .i64 host, .slice sa l.length sc, .int .i64 t, reqV c la lc ga gc] w fun r w' => r = .returned (.bool true) ∧ Below w.heap.size w w' := by
  have st := St.start w
  have hS' := Lib.hid hS
  have HR := Lib.hid hR
  have HF := Lib.hid hsf
  have HP := Lib.hid (fun (W : World) (k : Int) (hk : fitI k) => keep_pick W k 4 (by omega) (by omega) hk)
  have hh' := Lib.hid hh
  have ht' := Lib.hid ht
  clear hS hsf hR hh ht
  unfold reqV
  go_enter Try.func3, Try.ntmps3
  go_wp2_with (first
    | go_skip | (with_reducible refine at_box 27 ?_; refine mem_box st (wanted_none rfl) 27 _ rfl _ rfl _ rfl ?_; clear st; intro g1 w1 hg1 st hg1b; clear hg1b; simp [Act.eval, Act.put, Value.cells, putL] at st)
    | (go_at_call 7; refine (HP.out _ _ ht'.out).mono ?_; rintro x v2 ⟨⟨tp, rfl, htp1, htp2⟩, rfl⟩; refine RowKit.Hid.out ?_))
  refine Lib.hid ?_
  go_wp2_with (first
    | go_skip | (with_reducible refine at_store 3 ?_; (first | refine mem_store' st 3 _ _ rfl (wanted_none rfl) _ Try.sizeOf3 ?_ | (refine mem_store' st 3 _ _ rfl (wanted_some rfl ?_) _ Try.sizeOf3 ?_; focus (simp [yielded, Act.put]; done))); refine ⟨0, _, _, _, _, _, rfl, rfl, rfl, rfl, rfl, rfl, ?_⟩; clear st; intro w2 st hw2m hw2z; simp [Act.eval, Act.put, Value.cells, putL] at st)
    | (go_at_call 7; refine (HP.out _ _ hh'.out).mono ?_; rintro x v2 ⟨⟨p, rfl, hp1, hp2⟩, rfl⟩)
    | (go_at_call 8; refine (kernel_New _ _ (by omega) (by omega)).mono ?_; rintro e v1 ⟨gk, rfl, hgk, st1⟩; replace st := st.join st1; clear st1; simp only [List.cons_append, List.nil_append] at st)
    | (go_at_call 9; refine (calls_yes_keep _).mono ?_; rintro e v1 ⟨rfl, hbc⟩; replace st := st.call hbc; clear hbc))
  rename_i pa hpa1 hpa2 va kga hga vb K0 hK0
  have hne := st.ne
  simp only [List.pairwise_cons, List.mem_cons, List.not_mem_nil, or_false, forall_eq_or_imp, forall_eq] at hne
  obtain ⟨⟨n1, n2⟩, n3, -⟩ := hne
  have m1 := st.mine _ (List.mem_of_getElem? (i := 1) rfl)
  have m2 := st.mine _ (List.mem_of_getElem? (i := 2) rfl)
  simp only [List.not_mem_nil, false_or] at m1 m2
  have hP0 : Pair w [(g1, 27, [.int .i64 3, .int .i64 c.h, .int .i64 c.t, .int .i64 c.n, .int .i64 c.c, .slice la c.label.length lc, .slice ga c.grants.length gc, .string c.text])] kga gk w2 := by
    refine ⟨st.sub (by simp) (by simp), fun _ => False, newK pa, _, [[], [], [], []], fun _ => False, newK p, _, [[], [], [], []], KerAt.new st (by simp) _ (by simp), newK_ok hpa1 hpa2, KerAt.new st (by simp) _ (by simp), newK_ok hp1 hp2, ?_, ?_, fun _ h => h.elim, fun _ h => h.elim⟩
    · intro b hb
      simp at hb
      subst hb
      exact ⟨m1, by simpa using n1, by simpa using n3, fun h => h⟩
    · intro b hb
      simp at hb
      subst hb
      exact ⟨m2, by simpa using n2, by simpa using Ne.symm n3, fun h => h⟩
  clear st hw2m hw2z n1 n2 n3 m1 m2 hga hgk hg1 hpa1 hpa2 hp1 hp2
  have hsl2 : l.length ≤ 9223372036854775807 := by omega
  have ft : four tp = true := (four_iff tp).2 ⟨htp1, htp2⟩
  have HC := Lib.hid (fun (W : World) (hW : Pair w [(g1, 27, [.int .i64 3, .int .i64 c.h, .int .i64 c.t, .int .i64 c.n, .int .i64 c.c, .slice la c.label.length lc, .slice ga c.grants.length gc, .string c.text])] kga gk W) (u : Int) (q : Req) (qa : Option Addr) (qc : Nat) (ra : Option Addr) (rc : Nat) (h1 : q.label.length * 16 ≤ 140737488351232) (h2 : SlR (fun _ => True) w 2 RLev qa qc q.label) => pair_Call hW u q qa qc ra rc h1 (h2.below hW.1.below))
  obtain ⟨R, hRR⟩ : ∃ R : Rep, ∀ k : Ker, (stepC k tp { c with kind := 3 }).2 = R := ⟨_, fun k => put_told k tp { c with kind := 3 } rfl ft⟩
  have HCA := Lib.hid (fun (W : World) (hW : Pair w [(g1, 27, [.int .i64 3, .int .i64 c.h, .int .i64 c.t, .int .i64 c.n, .int .i64 c.c, .slice la c.label.length lc, .slice ga c.grants.length gc, .string c.text])] kga gk W) => (pair_Call hW tp { c with kind := 3 } la lc ga gc hl (HR.out.below hW.1.below)).mono (R' := fun e W' => e = .returned (RepV R) ∧ Pair w [(g1, 27, [.int .i64 3, .int .i64 c.h, .int .i64 c.t, .int .i64 c.n, .int .i64 c.c, .slice la c.label.length lc, .slice ga c.grants.length gc, .string c.text])] kga gk W') (by rintro e W' ⟨⟨k, rfl⟩, h⟩; exact ⟨by rw [hRR k], h⟩))
  have HCB := Lib.hid (fun (W : World) (hW : Pair w [(g1, 27, [.int .i64 3, .int .i64 c.h, .int .i64 c.t, .int .i64 c.n, .int .i64 c.c, .slice la c.label.length lc, .slice ga c.grants.length gc, .string c.text])] kga gk W) => (pair_Call hW.swap tp { c with kind := 3 } la lc ga gc hl (HR.out.below hW.1.below)).mono (R' := fun e W' => e = .returned (RepV R) ∧ Pair w [(g1, 27, [.int .i64 3, .int .i64 c.h, .int .i64 c.t, .int .i64 c.n, .int .i64 c.c, .slice la c.label.length lc, .slice ga c.grants.length gc, .string c.text])] kga gk W') (by rintro e W' ⟨⟨k, rfl⟩, h⟩; exact ⟨by rw [hRR k], h.swap⟩))
  clear hRR ft HR ht'
  unfold reqV at HC HCA HCB
  unfold RepV at HCA HCB
  go_loopw [13] (fun i wr => ∃ k : Nat, k ≤ l.length ∧ k ≤ 60 ∧ i = .int .i64 k ∧ Pair w [(g1, 27, [.int .i64 3, .int .i64 c.h, .int .i64 c.t, .int .i64 c.n, .int .i64 c.c, .slice la c.label.length lc, .slice ga c.grants.length gc, .string c.text])] kga gk wr) (fun i _ => 60 - (intOf i).toNat)
  case atStart => exact ⟨0, Nat.zero_le _, by omega, rfl, hP0⟩
  case round =>
    clear hP0
    obtain ⟨k, hk, hk60, rfl, hP⟩ := hrel
    by_cases hlt : k < l.length
    · by_cases h60 : k < 60
      · have d1 : decide ((k : Int) < l.length) = true := by simp; omega
        have d2 : decide ((k : Int) < 60) = true := by simp; omega
        obtain ⟨b, o, sla, slc, sga, sgc, sma, smc, sna, snc, hsa, hb, ⟨hA, -, -, -⟩, f0, f1, f2, f3, f4, f5, f6, f7, f8, f9, f10, f11, f12, f13, f14⟩ := hS'.out.step_at k hlt
        have hfit := HF.out _ (List.getElem_mem hlt)
        have hBw := hP.1.below
        have tr := fun (p : Nat) (v : Option Value) (h : w.cell? ⟨b, p, none⟩ = v) => (hBw.cell (p := ⟨b, p, none⟩) hb).trans h
        replace f0 := tr _ _ f0; replace f1 := tr _ _ f1; replace f2 := tr _ _ f2; replace f3 := tr _ _ f3; replace f4 := tr _ _ f4; replace f5 := tr _ _ f5; replace f6 := tr _ _ f6
        replace f7 := tr _ _ f7; replace f8 := tr _ _ f8; replace f9 := tr _ _ f9; replace f10 := tr _ _ f10; replace f11 := tr _ _ f11; replace f12 := tr _ _ f12; replace f13 := tr _ _ f13; replace f14 := tr _ _ f14
        clear tr hBw
        have HS2 := Lib.hid hS'
        subst hsa
        have hql : l[k].call.label.length * 16 ≤ 140737488351232 := hfit.2.2.1.2.2.2.2.2.1.1
        have hqt : fitI l[k].t := hfit.1
        replace hqt := Lib.hid hqt
        clear hfit
        have str := hP.1
        have st := str.rebase
        have HG := Lib.hid (fun (W : World) (own2 : Blks) (h : St [g1] wr W own2) (hm : (g1, 27, [.int .i64 3, .int .i64 c.h, .int .i64 c.t, .int .i64 c.n, .int .i64 c.c, .slice la c.label.length lc, .slice ga c.grants.length gc, .string c.text]) ∈ own2) => (hP.grow (str.below2 h (by simpa using hm)) (str.call (str.below2 h (by simpa using hm))) (fun x hx => .inl ⟨x, hx, rfl⟩)))
        go_wp2_with (first
          | go_skip | (with_reducible refine at_alloc 37 ?_; refine mem_alloc st (wanted_none rfl) 37 rfl _ Try.zeroValue37 _ rfl ?_; clear st; intro g8 w8 hg8 st hg8b; clear hg8b; simp [Act.eval, Act.put, Value.cells, putL] at st) | (with_reducible refine at_store 37 ?_; (first | refine mem_store' st 37 _ _ rfl (wanted_none rfl) _ Try.sizeOf37 ?_ | (refine mem_store' st 37 _ _ rfl (wanted_some rfl ?_) _ Try.sizeOf37 ?_; focus (simp [yielded, Act.put]; done))); refine ⟨1, _, _, _, _, _, rfl, rfl, rfl, rfl, rfl, rfl, ?_⟩; clear st; intro w9 st hw9m hw9z; simp [Act.eval, Act.put, Value.cells, putL] at st) | (with_reducible refine at_load 3 ?_; (first | refine mem_load' st 3 _ rfl (wanted_none rfl) Try.isAgg3 ?_ | (refine mem_load' st 3 _ rfl (wanted_some rfl ?_) Try.isAgg3 ?_; focus (simp [yielded, Act.put]; done))); refine ⟨1, _, _, _, _, _, rfl, rfl, rfl, ?_⟩)
          | (go_at_call 7; refine (HP.out _ _ hqt.out).mono ?_; rintro x v2 ⟨⟨u, rfl, hu1, hu2⟩, rfl⟩; refine RowKit.Hid.out ?_))
        refine Lib.hid ?_
        by_cases hpt : u = tp
        · have e1 : (u == tp) = true := by simpa using hpt
          clear hpt
          go_wp2_with (first | go_skip | fail)
          go_roundw
          case rel => exact ⟨k + 1, hlt, by omega, by go_num, HG.out _ _ st (by simp)⟩
          case measure => simp [intOf]; omega
        · have e1 : (u == tp) = false := by simpa using hpt
          clear hpt
          cases hcm : l[k].come with
          | true =>
            go_wp2_with (first | go_skip | (with_reducible refine at_load 4 ?_; (first | refine mem_load' st 4 _ rfl (wanted_none rfl) Try.isAgg4 ?_ | (refine mem_load' st 4 _ rfl (wanted_some rfl ?_) Try.isAgg4 ?_; focus (simp [yielded, Act.put]; done))); refine ⟨1, _, _, _, _, _, rfl, rfl, rfl, ?_⟩))
            go_roundw
            case rel => exact ⟨k + 1, hlt, by omega, by go_num, HG.out _ _ st (by simp)⟩
            case measure => simp [intOf]; omega
          | false =>
            go_wp2_with (first
              | go_skip | (with_reducible refine at_load 4 ?_; (first | refine mem_load' st 4 _ rfl (wanted_none rfl) Try.isAgg4 ?_ | (refine mem_load' st 4 _ rfl (wanted_some rfl ?_) Try.isAgg4 ?_; focus (simp [yielded, Act.put]; done))); refine ⟨1, _, _, _, _, _, rfl, rfl, rfl, ?_⟩) | (with_reducible refine at_load 27 ?_; (first | refine mem_load_agg' st 27 _ rfl (wanted_none rfl) Try.isAgg27 _ Try.sizeOf27 ?_ | (refine mem_load_agg' st 27 _ rfl (wanted_some rfl ?_) Try.isAgg27 _ Try.sizeOf27 ?_; focus (simp [yielded, Act.put]; done))); refine ⟨1, _, _, _, _, _, rfl, rfl, rfl, rfl, ?_⟩)
              | (go_at_call 10; refine (HC.out _ (HG.out _ _ st (by simp)) u l[k].call sla slc sga sgc hql hA).mono ?_; rintro e W' ⟨⟨kk, rfl⟩, hP'⟩))
            go_roundw
            case rel => exact ⟨k + 1, hlt, by omega, by go_num, hP'⟩
            case measure => simp [intOf]; omega
      · have d1 : decide ((k : Int) < l.length) = true := by simp; omega
        have d2 : decide ((k : Int) < 60) = false := by simp; omega
        go_wp2_with (first | go_skip | fail)
        have hPd : Pair w [(g1, 27, [.int .i64 3, .int .i64 c.h, .int .i64 c.t, .int .i64 c.n, .int .i64 c.c, .slice la c.label.length lc, .slice ga c.grants.length gc, .string c.text])] kga gk wr.drew := hP.grow (Below.refl _ _).drew (hP.1.drew) (fun x hx => .inl ⟨x, hx, rfl⟩)
        refine det_region (by kernel_rfl) 10 rfl (fun W => Pair w [(g1, 27, [.int .i64 3, .int .i64 c.h, .int .i64 c.t, .int .i64 c.n, .int .i64 c.c, .slice la c.label.length lc, .slice ga c.grants.length gc, .string c.text])] kga gk W) (hPd) (by decide +kernel) ?_
        refine det_take 0 rfl (by decide +kernel) (by first | exact wanted_none rfl | exact wanted_some rfl rfl) (fun W hW => by first | (go_simp; done) | (go_simp; rfl)) ?_; simp only [Act.put, List.setIfInBounds_toArray, List.set_cons_succ, List.set_cons_zero]; refine det_take 1 rfl (by decide +kernel) (by first | exact wanted_none rfl | exact wanted_some rfl rfl) (fun W hW => by first | (go_simp; done) | (go_simp; rfl)) ?_; simp only [Act.put, List.setIfInBounds_toArray, List.set_cons_succ, List.set_cons_zero]
        refine det_take 2 rfl (by decide +kernel) (by first | exact wanted_none rfl | exact wanted_some rfl rfl) (fun W hW => St.run_load_agg hW.1 0 27 _ rfl Try.isAgg27 _ Try.sizeOf27 rfl rfl rfl rfl) ?_; simp only [Act.put, List.setIfInBounds_toArray, List.set_cons_succ, List.set_cons_zero]
        refine det_call (fn := 10) 3 rfl (by decide +kernel) (by first | exact wanted_none rfl | exact wanted_some rfl rfl) (fun W => by first | (go_simp; done) | (go_simp; rfl)) (fun W hW => HCA.out W hW) ?_; simp only [Act.put, List.setIfInBounds_toArray, List.set_cons_succ, List.set_cons_zero]
        refine det_take 4 rfl (by decide +kernel) (by first | exact wanted_none rfl | exact wanted_some rfl rfl) (fun W hW => by first | (go_simp; done) | (go_simp; rfl)) ?_; simp only [Act.put, List.setIfInBounds_toArray, List.set_cons_succ, List.set_cons_zero]; refine det_take 5 rfl (by decide +kernel) (by first | exact wanted_none rfl | exact wanted_some rfl rfl) (fun W hW => by first | (go_simp; done) | (go_simp; rfl)) ?_; simp only [Act.put, List.setIfInBounds_toArray, List.set_cons_succ, List.set_cons_zero]
        refine det_take 6 rfl (by decide +kernel) (by first | exact wanted_none rfl | exact wanted_some rfl rfl) (fun W hW => St.run_load_agg hW.1 0 27 _ rfl Try.isAgg27 _ Try.sizeOf27 rfl rfl rfl rfl) ?_; simp only [Act.put, List.setIfInBounds_toArray, List.set_cons_succ, List.set_cons_zero]
        refine det_call (fn := 10) 7 rfl (by decide +kernel) (by first | exact wanted_none rfl | exact wanted_some rfl rfl) (fun W => by first | (go_simp; done) | (go_simp; rfl)) (fun W hW => HCB.out W hW) ?_; simp only [Act.put, List.setIfInBounds_toArray, List.set_cons_succ, List.set_cons_zero]
        refine det_take (v := .bool true) 8 rfl (by decide +kernel) (by first | exact wanted_none rfl | exact wanted_some rfl rfl) (fun W hW => by (go_simp; done)) ?_; simp only [Act.put, List.setIfInBounds_toArray, List.set_cons_succ, List.set_cons_zero]
        refine det_take 9 rfl (by decide +kernel) (by first | exact wanted_none rfl | exact wanted_some rfl rfl) (fun W hW => by first | (go_simp; done) | (go_simp; rfl)) ?_; simp only [Act.put, List.setIfInBounds_toArray, List.set_cons_succ, List.set_cons_zero]
        refine det_done (by decide +kernel) ?_
        intro W hW
        go_wp2
        go_ret
        exact ⟨rfl, hW.1.below⟩
    · have d1 : decide ((k : Int) < l.length) = false := by simp; omega
      go_wp2_with (first | go_skip | fail)
      have hPd : Pair w [(g1, 27, [.int .i64 3, .int .i64 c.h, .int .i64 c.t, .int .i64 c.n, .int .i64 c.c, .slice la c.label.length lc, .slice ga c.grants.length gc, .string c.text])] kga gk wr.drew := hP.grow (Below.refl _ _).drew (hP.1.drew) (fun x hx => .inl ⟨x, hx, rfl⟩)
      refine det_region (by kernel_rfl) 10 rfl (fun W => Pair w [(g1, 27, [.int .i64 3, .int .i64 c.h, .int .i64 c.t, .int .i64 c.n, .int .i64 c.c, .slice la c.label.length lc, .slice ga c.grants.length gc, .string c.text])] kga gk W) (hPd) (by decide +kernel) ?_
      refine det_take 0 rfl (by decide +kernel) (by first | exact wanted_none rfl | exact wanted_some rfl rfl) (fun W hW => by first | (go_simp; done) | (go_simp; rfl)) ?_; simp only [Act.put, List.setIfInBounds_toArray, List.set_cons_succ, List.set_cons_zero]; refine det_take 1 rfl (by decide +kernel) (by first | exact wanted_none rfl | exact wanted_some rfl rfl) (fun W hW => by first | (go_simp; done) | (go_simp; rfl)) ?_; simp only [Act.put, List.setIfInBounds_toArray, List.set_cons_succ, List.set_cons_zero]
      refine det_take 2 rfl (by decide +kernel) (by first | exact wanted_none rfl | exact wanted_some rfl rfl) (fun W hW => St.run_load_agg hW.1 0 27 _ rfl Try.isAgg27 _ Try.sizeOf27 rfl rfl rfl rfl) ?_; simp only [Act.put, List.setIfInBounds_toArray, List.set_cons_succ, List.set_cons_zero]
      refine det_call (fn := 10) 3 rfl (by decide +kernel) (by first | exact wanted_none rfl | exact wanted_some rfl rfl) (fun W => by first | (go_simp; done) | (go_simp; rfl)) (fun W hW => HCA.out W hW) ?_; simp only [Act.put, List.setIfInBounds_toArray, List.set_cons_succ, List.set_cons_zero]
      refine det_take 4 rfl (by decide +kernel) (by first | exact wanted_none rfl | exact wanted_some rfl rfl) (fun W hW => by first | (go_simp; done) | (go_simp; rfl)) ?_; simp only [Act.put, List.setIfInBounds_toArray, List.set_cons_succ, List.set_cons_zero]; refine det_take 5 rfl (by decide +kernel) (by first | exact wanted_none rfl | exact wanted_some rfl rfl) (fun W hW => by first | (go_simp; done) | (go_simp; rfl)) ?_; simp only [Act.put, List.setIfInBounds_toArray, List.set_cons_succ, List.set_cons_zero]
      refine det_take 6 rfl (by decide +kernel) (by first | exact wanted_none rfl | exact wanted_some rfl rfl) (fun W hW => St.run_load_agg hW.1 0 27 _ rfl Try.isAgg27 _ Try.sizeOf27 rfl rfl rfl rfl) ?_; simp only [Act.put, List.setIfInBounds_toArray, List.set_cons_succ, List.set_cons_zero]
      refine det_call (fn := 10) 7 rfl (by decide +kernel) (by first | exact wanted_none rfl | exact wanted_some rfl rfl) (fun W => by first | (go_simp; done) | (go_simp; rfl)) (fun W hW => HCB.out W hW) ?_; simp only [Act.put, List.setIfInBounds_toArray, List.set_cons_succ, List.set_cons_zero]
      refine det_take (v := .bool true) 8 rfl (by decide +kernel) (by first | exact wanted_none rfl | exact wanted_some rfl rfl) (fun W hW => by (go_simp; done)) ?_; simp only [Act.put, List.setIfInBounds_toArray, List.set_cons_succ, List.set_cons_zero]
      refine det_take 9 rfl (by decide +kernel) (by first | exact wanted_none rfl | exact wanted_some rfl rfl) (fun W hW => by first | (go_simp; done) | (go_simp; rfl)) ?_; simp only [Act.put, List.setIfInBounds_toArray, List.set_cons_succ, List.set_cons_zero]
      refine det_done (by decide +kernel) ?_
      intro W hW
      go_wp2
      go_ret
      exact ⟨rfl, hW.1.below⟩

theorem own : ownKnob Try.prog.godebug = none := by kernel_rfl
theorem laid : laidOutB Try.prog = true := by kernel_rfl

set_option maxRecDepth 100000 in
theorem contract (H : Type) (enc : TypeId × Value → H) (W : World) (base : Nat) (args : Array Value) (ds gs : List (DataW H)) (before : List MemPlace)
    (hval : ∀ (j : Nat) t v, Try.f3.params[j]? = some t → args[j]? = some v → Value.okWide Try.prog W .any base t v)
    (hW : DataW.Whole enc Try.prog Try.f3.params.toList Rows.kernelBlindSpec.vars false W args.toList ds gs before)
    (hsz : (DataW.weightsEach Try.prog (Try.f3.params.toList ++ Rows.kernelBlindSpec.plain.varTypes Try.prog) (ds ++ gs)).all (· ≤ reachBytes) = true) :
    Calls Try.prog 3 args W fun e W' => ∃ v, e = .returned v ∧ Rows.kernelBlindSpec.post enc Try.prog Try.f3 false true false false W args v W' := by
  have hW' := hW
  obtain ⟨p, q, hTrd, hV, rfl, hfz, hnd⟩ := hW
  have hA : DataW.TrodAll enc Try.prog W 0 (fun _ => true) true Try.f3.params.toList args.toList ds p := hTrd
  have hpar := Try.params3
  rw [hpar] at hA hval hsz
  obtain ⟨v0, vs0, d0, ds0, p0, q0, hargs0, rfl, rfl, h0, r0⟩ := trodAll_cons hA
  obtain ⟨v1, vs1, d1, ds1, p1, q1, hargs1, rfl, rfl, h1, r1⟩ := trodAll_cons r0
  obtain ⟨v2, vs2, d2, ds2, p2, q2, hargs2, rfl, rfl, h2, r2⟩ := trodAll_cons r1
  obtain ⟨v3, vs3, d3, ds3, p3, q3, hargs3, rfl, rfl, h3, r3⟩ := trodAll_cons r2
  obtain ⟨hnil, rfl, rfl⟩ := trodAll_nil r3
  obtain rfl : args = #[v0, v1, v2, v3] := by cases args; simp_all
  obtain ⟨rfl, rfl⟩ := trodVars_none hV
  have w0 : ∀ n ∈ d0.weights Try.prog 3, n ≤ reachBytes := fun n hn => by simpa using List.all_eq_true.1 hsz n (DataW.weights_mem_each (j := 0) (t := 3) (d := d0) rfl rfl n hn)
  obtain ⟨x0, rfl, hx0⟩ := arg_int Try.underlying3 (hval 0 _ v0 rfl rfl) h0
  have w1 : ∀ n ∈ d1.weights Try.prog 22, n ≤ reachBytes := fun n hn => by simpa using List.all_eq_true.1 hsz n (DataW.weights_mem_each (j := 1) (t := 22) (d := d1) rfl rfl n hn)
  obtain ⟨x1, a1, c1, rfl, hR1, hl1, hx1, hm1⟩ := arg_slice (fit := Step.fit) (mass := Step.mass) reads_Step Try.underlying22 (by kernel_rfl : Try.prog.cellsOf _ = 15) (by decide) (by kernel_rfl : Try.prog.bytesOf _ = 200) (hval 1 _ v1 rfl rfl) h1 w1
  have w2 : ∀ n ∈ d2.weights Try.prog 3, n ≤ reachBytes := fun n hn => by simpa using List.all_eq_true.1 hsz n (DataW.weights_mem_each (j := 2) (t := 3) (d := d2) rfl rfl n hn)
  obtain ⟨x2, rfl, hx2⟩ := arg_int Try.underlying3 (hval 2 _ v2 rfl rfl) h2
  have w3 : ∀ n ∈ d3.weights Try.prog 27, n ≤ reachBytes := fun n hn => by simpa using List.all_eq_true.1 hsz n (DataW.weights_mem_each (j := 3) (t := 27) (d := d3) rfl rfl n hn)
  obtain ⟨x3, cs3, rfl, ⟨la3, lc3, ga3, gc3, rfl, hA3, hB3⟩, hx3, hm3⟩ := arg_struct reads_Req Try.underlying27 (hval 3 _ v3 rfl rfl) h3 w3
  refine (walk W x0 x1 a1 c1 x2 x3 la3 lc3 ga3 gc3 hx0 hx2 hR1 hl1 hx1 hA3 (by have := hx3.2.2.2.2.2.1.1; omega)).mono fun e W' ⟨he, hb⟩ => ?_
  exact ⟨_, he, law_post laid (by kernel_rfl) hW' rfl rfl (by kernel_rfl) Try.underlying4 hb⟩

set_option maxRecDepth 100000 in
theorem lifted (os : Os) (started : os.Started) (H : Type) (enc : TypeId × Value → H) :
    ReturnsInHanded {} Try.checked os 3 .any (Rows.kernelBlindSpec.pre6 enc Try.prog Try.f3 Rows.kernelBlindRow.domain false) (Rows.kernelBlindSpec.post enc Try.prog Try.f3 false true false false) := by
  refine returnsInHanded_of_change_sized (C := Try.checked) own started (by kernel_rfl) Try.func3
    (ChangeSpec.witness6 (enc := enc) (C := Try.checked) false ⟨#[], #[.int .i64 0, .slice none 0 0, .int .i64 0, .agg #[.int .i64 0, .int .i64 0, .int .i64 0, .int .i64 0, .int .i64 0, .slice none 0 0, .slice none 0 0, .string .empty]], []⟩ 12 (by kernel_rfl) (by kernel_rfl) (by kernel_rfl) (by kernel_rfl)) ?_
  intro W base args ds gs before hval hW _ hsz _
  exact contract H enc W base args ds gs before hval hW hsz

theorem proved : Rows.KernelBlindSaid :=
  OpenClaim.holds_of_wide 3 Try.f3 rfl rfl rfl rfl rfl rfl rfl ⟨rfl, rfl, rfl, rfl, rfl⟩ rfl rfl rfl rfl rfl (by kernel_rfl) Try.func3 (by kernel_rfl)
    (of_decide_eq_true (by kernel_rfl)) (by unfold Func.isWrapper; first | (rw [if_pos (by decide +kernel)]; kernel_rfl) | (rw [if_neg (by decide +kernel)]; exact ⟨rfl, rfl⟩))
    (fun os started H enc _ => lifted os started H enc)

end Go.Proofs.Ytnkfemjmfalamaa.kernelBlind
