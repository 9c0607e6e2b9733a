/- For every row of calls, letters and mail, each answer of a kernel, and at the end each thread, are exactly the document's. No condition. -/
import Derived.Test.YtealbofmlieicaaRows
import Derived.WalkKit
import Derived.ProofKit
import Derived.OpenShut
import Derived.SizedLaws
import Derived.Test.YtealbofmlieicaaP28
import Derived.Deep.CutRange
set_option linter.unusedSimpArgs false
set_option linter.unusedVariables false
set_option maxHeartbeats 16000000
set_option maxRecDepth 100000
namespace Go.Proofs.Ytealbofmlieicaa.kernelPlays
open Go.ChangeShapes Go.WideShapes Go.ChangeAt Go.RowKit

theorem MailR.bound {ok : Nat → Prop} {w : World} {m : Mail} {la : Option Addr} {lc : Nat} {ga : Option Addr} {gc : Nat} (h : MailR ok w m la lc ga gc) : MailR (fun b => b < w.heap.size) w m la lc ga gc :=
  ⟨h.label.fit fun _ hb _ => hb, h.grants.fit fun _ hb _ => hb⟩

theorem run_neqRep {w : World} {o : Oper} {A : Act} (T' : TypeId) (x y : Operand) (ho : o.op = .binOp .neq 52 x y T') (r : Rep) (hx : A.eval x = RepV r) (hy : A.eval y = RepV r) : (execOp A.eval o).run Try.prog w = .ok (.value (.bool false)) w := by
  have h := neq_Reply r r true (by simp) w
  unfold RepV at h hx hy
  simp only [execOp, ho, hx, hy, Sem.run_bind, guard_Reply, Result.andThen_ok, h, Sem.run_pure]
  rfl



theorem walk (w : World) (host : Int) (l : List Order) (sa : Option Addr) (sc : Nat) (hh : fitI host) (hS : SlR (fun _ => True) w 15 (ROrder (fun _ => True) w) sa sc l) (hsl : l.length * 200 ≤ 140737488351232) (hsf : ∀ x ∈ l, x.fit) :
    Calls Try.prog 3 #[.int .i64 host, .slice sa l.length sc] w fun r w' => r = .returned (.bool true) ∧ Below w.heap.size w w' := by
  have st := St.start w
  by_cases hout : host < 0 ∨ 4 ≤ host
  · have HNew := qh (fun (W : World) => kernel_New_out W host hout)
    have hq : decide (host < 0) = true ∨ (decide (host < 0) = false ∧ decide ((4 : Int) ≤ host) = true) := by
      by_cases h0 : host < 0
      · exact .inl (by simpa using h0)
      · exact .inr ⟨by simpa using h0, by simp; omega⟩
    clear hS hsf hh hout hsl
    rcases hq with d1 | ⟨d1, d2⟩
    all_goals
      go_enter Try.func3, Try.ntmps3
      go_wp2_with (first
        | go_skip
        | (go_at_call 4; refine (HNew.out _).mono ?_; rintro e v1 ⟨rfl, rfl⟩)
        | (go_at_call 5; refine (calls_yes _).mono ?_; rintro e v1 ⟨rfl, hbc⟩; replace st := st.call hbc; clear hbc))
      go_ret
      exact ⟨rfl, st.below⟩
  have h0 : 0 ≤ host := by omega
  have h4 : host < 4 := by omega
  have d1 : decide (host < 0) = false := by simp; omega
  have d2 : decide ((4 : Int) ≤ host) = false := by simp; omega
  have HNew := qh (fun (W : World) => kernel_New W host h0 h4)
  have hS' := qh hS
  have HF := qh hsf
  clear hS hsf hh hout
  go_enter Try.func3, Try.ntmps3
  go_wp2_with (first
    | go_skip
    | (go_at_call 4; refine (HNew.out _).mono ?_; rintro e v1 ⟨ga, rfl, hga, st1⟩; replace st := st.join st1; clear st1; simp only [List.cons_append, List.nil_append] at st)
    | (with_reducible refine mB 38 st ?_; clear st; intro gb w2 hgb st))
  have hP0 : ∃ k, PairR w [] ga gb k k w2 := by
    have hne := st.ne
    simp only [List.pairwise_cons, List.mem_cons, List.not_mem_nil, or_false, forall_eq_or_imp, forall_eq] at hne
    obtain ⟨n1, -⟩ := hne
    have m1 := st.mine _ (mgE (i := 0) rfl)
    have m2 := st.mine _ (mgE (i := 1) rfl)
    simp only [List.not_mem_nil, false_or] at m1 m2
    refine ⟨newK host, st.sub (by simp) List.Pairwise.nil, newK_ok h0 h4, newK_ok h0 h4, fun _ => False, _, [[], [], [], []], fun _ => False, _, [[], [], [], []], KerAt.new st (mgE (i := 0) rfl) _ (by simp), RkAt.new st (mgE (i := 1) rfl) _ (by simp), ?_, ?_, fun _ h => h.elim, fun _ h => h.elim⟩
    · intro b hb
      simp at hb
      subst hb
      exact ⟨m1, by simp, by simpa using n1, fun h => h⟩
    · intro b hb
      simp at hb
      subst hb
      exact ⟨m2, by simp, by simpa using Ne.symm n1, fun h => h⟩
  clear st hga
  have hsl2 : l.length ≤ 9223372036854775807 := by omega
  go_loopw [8] (fun i wr => ∃ j : Nat, j ≤ l.length ∧ j ≤ 120 ∧ i = .int .i64 j ∧ ∃ k, PairR w [] ga gb k k wr) (fun i _ => 120 - (intOf i).toNat)
  case atStart => exact ⟨0, Nat.zero_le _, by omega, rfl, hP0⟩
  case round =>
    clear hP0
    obtain ⟨j, hj, hj120, rfl, k, hP⟩ := hrel
    by_cases hgo : j < l.length ∧ j < 120
    · obtain ⟨hlt, h120⟩ := hgo
      have d1 : decide ((j : Int) < l.length) = true := by simp; omega
      have d2 : decide ((j : Int) < 120) = true := by simp; omega
      have hBw := hP.1.below
      have hst := hS'.out.order_at j hlt
      have hfit := HF.out _ (List.getElem_mem hlt)
      generalize l[j] = x at hst hfit
      obtain ⟨xk, xt, cl, ml⟩ := x
      dsimp only at hst
      obtain ⟨b, o, sla, slc, sga, sgc, sma, smc, sna, snc, hsa, hb, ⟨hA, hA2, hM, hM2⟩, f0, f1, f2, f3, f4, f5, f6, f7, f8, f9, f10, f11, f12, f13, f14⟩ := hst
      have tr := fun (p : Nat) (v : Option Value) (h : w.cell? ⟨b, p, none⟩ = v) => (hBw.cell (p := ⟨b, p, none⟩) hb).trans h
      replace f0 := tr _ _ f0; replace f1 := tr _ _ f1; replace f2 := tr _ _ f2; replace f3 := tr _ _ f3; replace f4 := tr _ _ f4; replace f5 := tr _ _ f5; replace f6 := tr _ _ f6
      replace f7 := tr _ _ f7; replace f8 := tr _ _ f8; replace f9 := tr _ _ f9; replace f10 := tr _ _ f10; replace f11 := tr _ _ f11; replace f12 := tr _ _ f12; replace f13 := tr _ _ f13; replace f14 := tr _ _ f14
      clear tr
      have HS2 := qh hS'
      subst hsa
      have hql : cl.label.length * 16 ≤ 140737488351232 := hfit.2.2.1.2.2.2.2.2.1.1
      have hqg2 : cl.grants.length * 8 ≤ 140737488351232 := hfit.2.2.1.2.2.2.2.2.2.1.1
      have hqx : cl.text.size ≤ 140737488351232 := hfit.2.2.1.2.2.2.2.2.2.2
      have hqm : ml.label.length * 16 ≤ 140737488351232 := hfit.2.2.2.2.2.1.1
      have hqg : ml.grants.length * 8 ≤ 140737488351232 := hfit.2.2.2.2.2.2.1.1
      have hqmx : ml.text.size ≤ 140737488351232 := hfit.2.2.2.2.2.2.2
      clear hfit
      have HRc := qh (fun (V : World) (own : Blks) (kk : Ker) (kb : Ker) (h : PairR w own ga gb kk kb V) => pairR_rCall h xt cl sla slc sga sgc hql (hA.below h.1.below))
      have HMl := qh (show ∀ (V : World) (bl : Blks), St [] w V bl → MailR (fun _ => True) V ml sma smc sna snc from fun V bl h => ⟨hM.below h.below, hM2.below h.below⟩)
      have st := hP.1.rebase
      simp only [List.map_nil] at st
      go_upto_region 14 with (first | go_skip | (with_reducible refine mA st Try.zeroValue44 ?_; clear st; intro g9 w9 hg9 st) | (with_reducible refine mS 0 st Try.sizeOf44 ?_; clear st; intro w10 st hw10m hw10z) | (with_reducible refine mX st Try.isAgg3 ?_))
      have P := hP.enter st
      clear st hP hw10m hw10z
      have HCa := qh (fun (V : World) (h : St [] w V [(g9, 44, [.int .i64 xk, .int .i64 xt, .int .i64 cl.kind, .int .i64 cl.h, .int .i64 cl.t, .int .i64 cl.n, .int .i64 cl.c, .slice sla cl.label.length slc, .slice sga cl.grants.length sgc, .string cl.text, .int .i64 ml.host, .int .i64 ml.thread, .slice sma ml.label.length smc, .slice sna ml.grants.length snc, .string ml.text])]) => law_call (fun _ => True) V cl sla slc sga sgc (by omega) (by omega) (hA.below h.below) (hA2.below h.below))
      generalize hr : Int.tmod xk 3 = r
      clear hr
      by_cases r1 : r = 1
      · subst r1
        go_wp2_with fail
        replace P := P.drew
        have hst := P.1
        have st := hst.rebase
        simp only [List.map_cons, List.map_nil] at st
        have HCa := qh (fun (V : World) (bl : Blks) (h : St [g9] w10.drew V bl) (hm : (g9, 44, [.int .i64 xk, .int .i64 xt, .int .i64 cl.kind, .int .i64 cl.h, .int .i64 cl.t, .int .i64 cl.n, .int .i64 cl.c, .slice sla cl.label.length slc, .slice sga cl.grants.length sgc, .string cl.text, .int .i64 ml.host, .int .i64 ml.thread, .slice sma ml.label.length smc, .slice sna ml.grants.length snc, .string ml.text]) ∈ bl) => law_call (fun _ => True) V cl sla slc sga sgc (by omega) (by omega) (hA.below (St.back hst h).below) (hA2.below (St.back hst h).below))
        go_cut [10, 11] from 79 to 87 (fun s10 s11 wx => ∃ (g10 : Nat) (b1 : Option Addr) (l1 : Nat) (b2 : Option Addr) (l2 : Nat), s10 = .pointer (some ⟨g10, 0, none⟩) ∧ s11 = .int .i64 (letterK k xt cl).2 ∧ PairR w [(g9, 44, [.int .i64 xk, .int .i64 xt, .int .i64 cl.kind, .int .i64 cl.h, .int .i64 cl.t, .int .i64 cl.n, .int .i64 cl.c, .slice sla cl.label.length slc, .slice sga cl.grants.length sgc, .string cl.text, .int .i64 ml.host, .int .i64 ml.thread, .slice sma ml.label.length smc, .slice sna ml.grants.length snc, .string ml.text]), (g10, 42, [.int .i64 (letterK k xt cl).1.host, .int .i64 (letterK k xt cl).1.thread, .slice b1 (letterK k xt cl).1.label.length l1, .slice b2 (letterK k xt cl).1.grants.length l2, .string (letterK k xt cl).1.text])] ga gb k k wx ∧ MailR (fun _ => True) wx (letterK k xt cl).1 b1 l1 b2 l2)
        case first =>
          have hI := st
          refine lex_region (by kernel_rfl) 13 rfl (fun W => St [g9] w10.drew W [(g9, 44, [.int .i64 xk, .int .i64 xt, .int .i64 cl.kind, .int .i64 cl.h, .int .i64 cl.t, .int .i64 cl.n, .int .i64 cl.c, .slice sla cl.label.length slc, .slice sga cl.grants.length sgc, .string cl.text, .int .i64 ml.host, .int .i64 ml.thread, .slice sma ml.label.length smc, .slice sna ml.grants.length snc, .string ml.text])]) ?_
          refine lexS 0 rfl hI ?_
          refine lexS 1 rfl hI ?_
          refine lexT 2 rfl hI (fun W hW => St.run_load hW 0 3 _ rfl Try.isAgg3 rfl rfl rfl) ?_
          refine lexS 3 rfl hI ?_
          refine lexT 4 rfl hI (fun W hW => St.run_load_agg hW 0 40 _ rfl Try.isAgg40 _ Try.sizeOf40 rfl rfl rfl rfl) ?_
          clear hI
          refine lex_each [5, 10] (by decide +kernel) (by decide) ?_; intro i hi K hK; simp only [List.mem_cons, List.not_mem_nil, or_false] at hi; rcases hi with rfl | rfl <;> refine ⟨_, rfl, (by first | exact wanted_none rfl | exact wanted_some rfl rfl), ?_⟩
          · refine wp_callee (f := 7) (by first | (go_simp; done) | (go_simp; rfl)) ?_
            refine (HCa.out _ _ st (by simp)).mono ?_
            rintro e v1 ⟨a1, k1, a2, k2, rfl, hb1, hL, hG⟩
            refine ⟨_, rfl, ?_⟩
            replace st := st.call hb1
            have hI := st
            refine hK _ _ (hI) ?_; clear hK; simp only [kP, kA, kS, kZ]
            clear hI
            refine lex_each [6, 10] (by decide +kernel) (by decide) ?_; intro i hi K hK; simp only [List.mem_cons, List.not_mem_nil, or_false] at hi; rcases hi with rfl | rfl <;> refine ⟨_, rfl, (by first | exact wanted_none rfl | exact wanted_some rfl rfl), ?_⟩
            · refine wp_callee (f := 6) (by first | (go_simp; done) | (go_simp; rfl)) ?_
              have l10 := st.size
              refine (pairR_Letter (P.call (hst.below2 st (by simp))) xt cl a1 k1 a2 k2 hql hqg2 hqx (hL.okay fun _ _ => trivial) (hG.okay fun _ _ => trivial)).mono ?_
              rintro e v2 ⟨b1, l1, b2, l2, rfl, hb2, hM1⟩
              have hz2 := hb2.size
              unfold mailV
              refine ⟨_, rfl, ?_⟩
              replace st := st.call hb2
              have hI := st
              refine hK _ _ (hI) ?_; clear hK; simp only [kP, kA, kS, kZ]
              refine lexS 7 rfl hI ?_
              refine lexS 8 rfl hI ?_
              refine lexS 9 rfl hI ?_
              clear hI
              have hst2 := st
              replace st := hst2.rebase
              simp only [List.map_cons, List.map_nil] at st
              refine lexO 10 rfl fun K hK => ?_
              refine wp_alloc st 42 rfl _ Try.zeroValue42 _ rfl ?_; clear st; intro g10 w12 hg10 st hg10b; simp [Act.eval, Act.put, Value.cells, putL] at st
              have hg10v : v2.heap.size ≤ g10 := hg10
              have hg10 : w10.drew.heap.size ≤ g10 := by have := hst2.size; omega
              replace st := St.back hst2 st
              have hM1 := MailR.bound hM1
              replace hM1 := hM1.below hg10b
              have hz12 := hg10b.size
              refine hK _ _ (st.take 1) ?_; clear hK; simp only [kP, kA, kS, kZ]
              refine lexO 11 rfl fun K hK => ?_
              refine wp_store' st 42 _ _ rfl _ Try.sizeOf42 ⟨1, _, _, _, _, _, rfl, rfl, rfl, rfl, rfl, rfl, ?_⟩; clear st; intro w13 st hw13m hw13z; simp [Act.eval, Act.put, Value.cells, putL] at st
              have hM2 : MailR (fun _ => True) w13 (letterK k xt cl).1 b1 l1 b2 l2 := ⟨hM1.label.move (by omega) (fun b hb ho => ⟨trivial, hw13m b (by omega)⟩) fun _ _ r => r, hM1.grants.move (by omega) (fun b hb ho => ⟨trivial, hw13m b (by omega)⟩) fun _ _ r => r⟩
              clear hw13m hw13z
              have hI := st.take 1
              refine hK _ _ (hI) ?_; clear hK; simp only [kP, kA, kS, kZ]
              refine lexS 12 rfl hI ?_
              clear hI
              refine lex_done (by decide +kernel) ?_
              go_wp2_with fail
              go_meet
              exact ⟨g10, b1, l1, b2, l2, rfl, rfl, P.more (hst.below2 st (by simp)) (St.back hst st) (by simp only [List.mem_cons, List.not_mem_nil, or_false]; rintro x (rfl | rfl); exact .inl (by simp); exact .inr hg10), hM2⟩
            · refine wp_alloc st 42 rfl _ Try.zeroValue42 _ rfl ?_; clear st; intro g10 w12 hg10 st hg10b; simp [Act.eval, Act.put, Value.cells, putL] at st
              replace hL := hL.below hg10b
              replace hG := hG.below hg10b
              refine hK _ _ (st.take 1) ?_; clear hK; simp only [kP, kA, kS, kZ]
              refine lexO 6 rfl fun K hK => ?_
              have l11 := st.ltAt (i := 1) rfl
              refine wp_callee (f := 6) (by first | (go_simp; done) | (go_simp; rfl)) ?_
              have l10 := st.size
              refine (pairR_Letter (P.call (hst.below2 st (by simp))) xt cl a1 k1 a2 k2 hql hqg2 hqx (hL.okay fun _ _ => trivial) (hG.okay fun _ _ => trivial)).mono ?_
              rintro e v2 ⟨b1, l1, b2, l2, rfl, hb2, hM1⟩
              have hz2 := hb2.size
              unfold mailV
              refine ⟨_, rfl, ?_⟩
              replace st := st.call hb2
              have hI := st.take 1
              refine hK _ _ (hI) ?_; clear hK; simp only [kP, kA, kS, kZ]
              refine lexS 7 rfl hI ?_
              refine lexS 8 rfl hI ?_
              refine lexS 9 rfl hI ?_
              clear hI
              refine lexO 11 rfl fun K hK => ?_
              refine wp_store' st 42 _ _ rfl _ Try.sizeOf42 ⟨1, _, _, _, _, _, rfl, rfl, rfl, rfl, rfl, rfl, ?_⟩; clear st; intro w13 st hw13m hw13z; simp [Act.eval, Act.put, Value.cells, putL] at st
              have hM2 : MailR (fun _ => True) w13 (letterK k xt cl).1 b1 l1 b2 l2 := ⟨hM1.label.move (by omega) (fun b hb ho => ⟨trivial, hw13m b (by omega)⟩) fun _ _ r => r, hM1.grants.move (by omega) (fun b hb ho => ⟨trivial, hw13m b (by omega)⟩) fun _ _ r => r⟩
              clear hw13m hw13z
              have hI := st.take 1
              refine hK _ _ (hI) ?_; clear hK; simp only [kP, kA, kS, kZ]
              refine lexS 12 rfl hI ?_
              clear hI
              refine lex_done (by decide +kernel) ?_
              go_wp2_with fail
              go_meet
              exact ⟨g10, b1, l1, b2, l2, rfl, rfl, P.more (hst.below2 st (by simp)) (St.back hst st) (by simp only [List.mem_cons, List.not_mem_nil, or_false]; rintro x (rfl | rfl); exact .inl (by simp); exact .inr hg10), hM2⟩
          · refine wp_alloc st 42 rfl _ Try.zeroValue42 _ rfl ?_; clear st; intro g10 w12 hg10 st hg10b; simp [Act.eval, Act.put, Value.cells, putL] at st
            refine hK _ _ (st.take 1) ?_; clear hK; simp only [kP, kA, kS, kZ]
            refine lexO 5 rfl fun K hK => ?_
            refine wp_callee (f := 7) (by first | (go_simp; done) | (go_simp; rfl)) ?_
            refine (HCa.out _ _ st (by simp)).mono ?_
            rintro e v1 ⟨a1, k1, a2, k2, rfl, hb1, hL, hG⟩
            refine ⟨_, rfl, ?_⟩
            replace st := st.call hb1
            refine hK _ _ (st.take 1) ?_; clear hK; simp only [kP, kA, kS, kZ]
            refine lexO 6 rfl fun K hK => ?_
            have l11 := st.ltAt (i := 1) rfl
            refine wp_callee (f := 6) (by first | (go_simp; done) | (go_simp; rfl)) ?_
            have l10 := st.size
            refine (pairR_Letter (P.call (hst.below2 st (by simp))) xt cl a1 k1 a2 k2 hql hqg2 hqx (hL.okay fun _ _ => trivial) (hG.okay fun _ _ => trivial)).mono ?_
            rintro e v2 ⟨b1, l1, b2, l2, rfl, hb2, hM1⟩
            have hz2 := hb2.size
            unfold mailV
            refine ⟨_, rfl, ?_⟩
            replace st := st.call hb2
            have hI := st.take 1
            refine hK _ _ (hI) ?_; clear hK; simp only [kP, kA, kS, kZ]
            refine lexS 7 rfl hI ?_
            refine lexS 8 rfl hI ?_
            refine lexS 9 rfl hI ?_
            clear hI
            refine lexO 11 rfl fun K hK => ?_
            refine wp_store' st 42 _ _ rfl _ Try.sizeOf42 ⟨1, _, _, _, _, _, rfl, rfl, rfl, rfl, rfl, rfl, ?_⟩; clear st; intro w13 st hw13m hw13z; simp [Act.eval, Act.put, Value.cells, putL] at st
            have hM2 : MailR (fun _ => True) w13 (letterK k xt cl).1 b1 l1 b2 l2 := ⟨hM1.label.move (by omega) (fun b hb ho => ⟨trivial, hw13m b (by omega)⟩) fun _ _ r => r, hM1.grants.move (by omega) (fun b hb ho => ⟨trivial, hw13m b (by omega)⟩) fun _ _ r => r⟩
            clear hw13m hw13z
            have hI := st.take 1
            refine hK _ _ (hI) ?_; clear hK; simp only [kP, kA, kS, kZ]
            refine lexS 12 rfl hI ?_
            clear hI
            refine lex_done (by decide +kernel) ?_
            go_wp2_with fail
            go_meet
            exact ⟨g10, b1, l1, b2, l2, rfl, rfl, P.more (hst.below2 st (by simp)) (St.back hst st) (by simp only [List.mem_cons, List.not_mem_nil, or_false]; rintro x (rfl | rfl); exact .inl (by simp); exact .inr hg10), hM2⟩
        case rest =>
          obtain ⟨g10, b1, l1, b2, l2, rfl, rfl, P, hM1⟩ := hcut
          have HRl := qh (pairR_rLetter P xt cl sla slc sga sgc hql hqg2 hqx (hA.below P.1.below) (hA2.below P.1.below))
          clear HCa hst st
          unfold reqV LetPost at HRl
          generalize letterK k xt cl = lk at *
          obtain ⟨mm, er⟩ := lk
          dsimp only at HRl hM1 P ⊢
          unfold mailV at HRl
          have hst := P.1
          have st := hst.rebase
          simp only [List.map_cons, List.map_nil] at st
          have l9 := hst.ltAt (i := 0) rfl
          have l10 := hst.ltAt (i := 1) rfl
          obtain ⟨wy, rfl⟩ : ∃ V, V = wc := ⟨_, rfl⟩
          have HM1 := qh hM1
          clear hM1
          go_wp2_with (first
            | go_skip | (with_reducible refine mX st Try.isAgg3 ?_) | (with_reducible refine mXA st Try.isAgg40 Try.sizeOf40 ?_)
            | (go_at_call 8; go_must (refine HRl.out.mono ?_; rintro e v3 ⟨nl, nlc, ng, ngc, rfl, hb3, hM3⟩; have hst2 := st.call hb3; clear st; have st := hst2.rebase; simp only [List.map_cons, List.map_nil] at st; have HM3 := qh (show ∀ (V : World) (bl : Blks), St [g9, g10] v3 V bl → MailR (fun _ => True) V mm nl nlc ng ngc from fun V bl s => ⟨hM3.label.move s.size (fun b hb ho => ⟨trivial, s.frame b hb (by simp; omega)⟩) fun _ _ r => r, hM3.grants.move s.size (fun b hb ho => ⟨trivial, s.frame b hb (by simp; omega)⟩) fun _ _ r => r⟩); clear hM3))
            | (with_reducible refine mA st Try.zeroValue42 ?_; clear st; intro g12 w12 hg12 st) | (with_reducible refine mS 2 st Try.sizeOf42 ?_; clear st; intro w13 st hw13m hw13z) | (with_reducible refine mXA st Try.isAgg42 Try.sizeOf42 ?_) | (with_reducible refine mXA st Try.isAgg42 Try.sizeOf42 ?_)
            | (go_at_call 9; go_must (refine (ref_SameMail (fun _ => True) (fun _ => True) _ mm b1 l1 b2 l2 nl nlc ng ngc (HM1.out.below (hst.below2 (St.back hst2 st) (by simp))) (HM3.out _ _ st)).mono ?_; rintro e v4 ⟨rfl, hb4⟩; replace st := st.call hb4; clear hb4)))
          have hB := hst.below2 (St.back hst2 st) (by simp)
          go_roundw
          case rel => exact ⟨j + 1, hlt, by omega, by go_num, k, (P.call hB).plain⟩
          case measure => simp [intOf]; omega
      by_cases r2 : r = 2
      · subst r2
        go_wp2_with fail
        replace P := P.drew
        have hI := P.1
        refine lex_region (by kernel_rfl) 7 rfl (fun W => St [] w W [(g9, 44, [.int .i64 xk, .int .i64 xt, .int .i64 cl.kind, .int .i64 cl.h, .int .i64 cl.t, .int .i64 cl.n, .int .i64 cl.c, .slice sla cl.label.length slc, .slice sga cl.grants.length sgc, .string cl.text, .int .i64 ml.host, .int .i64 ml.thread, .slice sma ml.label.length smc, .slice sna ml.grants.length snc, .string ml.text])]) ?_
        refine lexS 0 rfl hI ?_
        refine lexS 1 rfl hI ?_
        refine lexT 2 rfl hI (fun W hW => St.run_load hW 0 3 _ rfl Try.isAgg3 rfl rfl rfl) ?_
        refine lexS 3 rfl hI ?_
        refine lexT 4 rfl hI (fun W hW => St.run_load_agg hW 0 42 _ rfl Try.isAgg42 _ Try.sizeOf42 rfl rfl rfl rfl) ?_
        clear hI
        refine lexO 5 rfl fun K hK => ?_
        refine wp_callee (f := 11) (by first | (go_simp; done) | (go_simp; rfl)) ?_
        refine (ref_CopyMail (fun _ => True) _ ml sma smc sna snc (HMl.out _ _ P.1).label (HMl.out _ _ P.1).grants (by omega) (by omega)).mono ?_
        rintro e v1 ⟨a1, k1, a2, k2, rfl, hb1, hL, hG⟩
        refine ⟨_, rfl, ?_⟩
        replace P := P.call hb1
        clear hb1
        refine hK _ _ (P.1) ?_; clear hK; simp only [kP, kA, kS, kZ]
        refine lexO 6 rfl fun K hK => ?_
        refine wp_callee (f := 10) (by first | (go_simp; done) | (go_simp; rfl)) ?_
        refine (pairR_Deliver P xt ml a1 k1 a2 k2 hqm (by omega) ⟨hL.okay fun _ _ => trivial, hG.okay fun _ _ => trivial⟩).mono ?_
        rintro e v2 ⟨⟨u, rfl⟩, P2⟩
        refine ⟨_, rfl, ?_⟩
        refine hK _ _ (P2.1) ?_; clear hK; simp only [kP, kA, kS, kZ]
        refine lex_done (by decide +kernel) ?_
        have HRd := qh (pairR_rDeliver P2 xt ml sma smc sna snc hqm (by omega) (by omega) (HMl.out _ _ P2.1))
        unfold mailV at HRd
        have st := P2.1
        go_wp2_with (first
          | go_skip | (with_reducible refine mX st Try.isAgg3 ?_) | (with_reducible refine mXA st Try.isAgg42 Try.sizeOf42 ?_)
          | (go_at_call 12; go_must (refine HRd.out.mono ?_; rintro e v3 ⟨⟨u2, rfl⟩, P3⟩)))
        go_roundw
        case rel => exact ⟨j + 1, hlt, by omega, by go_num, _, P3.plain⟩
        case measure => simp [intOf]; omega
      have e1 : (r == 1) = false := by simpa using r1
      have e2 : (r == 2) = false := by simpa using r2
      clear r1 r2
      go_wp2_with fail
      replace P := P.drew
      have hI := P.1
      refine lex_region (by kernel_rfl) 14 rfl (fun W => St [] w W [(g9, 44, [.int .i64 xk, .int .i64 xt, .int .i64 cl.kind, .int .i64 cl.h, .int .i64 cl.t, .int .i64 cl.n, .int .i64 cl.c, .slice sla cl.label.length slc, .slice sga cl.grants.length sgc, .string cl.text, .int .i64 ml.host, .int .i64 ml.thread, .slice sma ml.label.length smc, .slice sna ml.grants.length snc, .string ml.text])]) ?_
      refine lexS 0 rfl hI ?_
      refine lexS 1 rfl hI ?_
      refine lexT 2 rfl hI (fun W hW => St.run_load hW 0 3 _ rfl Try.isAgg3 rfl rfl rfl) ?_
      refine lexS 3 rfl hI ?_
      refine lexT 4 rfl hI (fun W hW => St.run_load_agg hW 0 40 _ rfl Try.isAgg40 _ Try.sizeOf40 rfl rfl rfl rfl) ?_
      refine lexS 7 rfl hI ?_
      refine lexS 8 rfl hI ?_
      refine lexT 9 rfl hI (fun W hW => St.run_load hW 0 3 _ rfl Try.isAgg3 rfl rfl rfl) ?_
      refine lexS 10 rfl hI ?_
      refine lexT 11 rfl hI (fun W hW => St.run_load_agg hW 0 40 _ rfl Try.isAgg40 _ Try.sizeOf40 rfl rfl rfl rfl) ?_
      clear hI
      refine lexO 5 rfl fun K hK => ?_
      refine wp_callee (f := 7) (by first | (go_simp; done) | (go_simp; rfl)) ?_
      refine (HCa.out _ P.1).mono ?_
      rintro e v1 ⟨a1, k1, a2, k2, rfl, hb1, hL, hG⟩
      refine ⟨_, rfl, ?_⟩
      have PV := P
      replace P := P.call hb1
      refine hK _ _ (P.1) ?_; clear hK; simp only [kP, kA, kS, kZ]
      refine lexO 6 rfl fun K hK => ?_
      refine wp_callee (f := 13) (by first | (go_simp; done) | (go_simp; rfl)) ?_
      refine (pairR_Call P xt cl a1 k1 a2 k2 hql (hL.okay fun _ _ => trivial)).mono ?_
      rintro e v2 ⟨rfl, P2⟩
      refine ⟨_, rfl, ?_⟩
      replace P := P2
      clear P2
      refine hK _ _ (P.1) ?_; clear hK; simp only [kP, kA, kS, kZ]
      refine lexO 12 rfl fun K hK => ?_
      refine wp_callee (f := 14) (by first | (go_simp; done) | (go_simp; rfl)) ?_
      refine (HRc.out _ _ _ _ P).mono ?_
      rintro e v3 ⟨rfl, P3⟩
      refine ⟨_, rfl, ?_⟩
      replace P := P3
      clear P3
      have hI := P.1
      refine hK _ _ (hI) ?_; clear hK; simp only [kP, kA, kS, kZ]
      refine lexT (v := .bool false) 13 rfl hI (fun W hW => run_neqRep _ _ _ rfl _ rfl rfl) ?_
      clear hI
      refine lex_done (by decide +kernel) ?_
      go_wp2_with fail
      go_roundw
      case rel => exact ⟨j + 1, hlt, by omega, by go_num, _, P.plain⟩
      case measure => simp [intOf]; omega
    · clear hS' HF
      by_cases hlt : j < l.length
      · have c1 : decide ((j : Int) < l.length) = true := by simp; omega
        have c2 : decide ((j : Int) < 120) = false := by simp; omega
        go_wp2_with fail
        go_loopw [14] (fun i wr2 => ∃ t : Int, -1 ≤ t ∧ t ≤ 5 ∧ i = .int .i64 t ∧ PairR w [] ga gb k k wr2) (fun i _ => (5 - intOf i).toNat)
        case atStart => exact ⟨-1, by omega, by omega, rfl, hP⟩
        case round =>
          clear hP
          obtain ⟨t, ht1, ht5, rfl, hP⟩ := hrel
          by_cases hlt : t < 5
          case neg =>
            have d5 : decide (t < 5) = false := by simpa using hlt
            have st := hP.1
            go_wp2_with (first | go_skip | (go_at_call 5; refine (calls_yes _).mono ?_; rintro e v1 ⟨rfl, hbc⟩; replace st := st.call hbc; clear hbc))
            go_ret
            exact ⟨rfl, st.below⟩
          have d5 : decide (t < 5) = true := by simpa using hlt
          have st := hP.1.rebase
          simp only [List.map_nil] at st
          by_cases hf : four t = true
          · obtain ⟨u, rfl, hu⟩ := four_nat hf
            have d6 : decide ((0 : Int) ≤ (u : Int)) = true := by simp
            have d7 : decide ((u : Int) < 4) = true := by simp; omega
            have d8 : decide ((u : Int) < 0) = false := by simp
            have d9 : decide ((4 : Int) ≤ u) = false := by simp; omega
            obtain ⟨pre, post, la, lc, oa, oc, ba, bc, ma, mc, hpre, hcells, hTS⟩ := hP.told hu
            have HTo := qh (show thrOf k (u : Int) = k.thr u by unfold thrOf; rw [if_pos hf])
            have HTS := qh (show ∀ (V : World), Below wr.heap.size wr V → ThrS (fun _ => True) V (k.thr u) la lc oa oc ba bc ma mc from fun V h => hTS.below h)
            have HC := qh (show ∀ V, Below wr.heap.size wr V → ∀ (i : Nat) (v : Value), [Value.slice la (k.thr u).label.length lc, .slice oa (k.thr u).own.length oc, .string (k.thr u).text, .slice ba (k.thr u).objects.length bc, .slice ma (k.thr u).mails.length mc][i]? = some v → V.cell? ⟨gb, 1 + u * 5 + i, none⟩ = some v from fun V hV i v hv => by
              rw [cell_of_row V gb _ _ _ (0, 0) (hcells V hV)]
              unfold winC
              rw [List.getElem?_toArray, List.getElem?_append_right (by omega), show 1 + u * 5 + i - pre.length = i by omega, List.getElem?_append_left (gEs hv).1]
              exact hv)
            generalize k.thr u = x at *
            clear hcells hf hlt
            go_upto_region 28 with (first | go_skip | (with_reducible refine mA st Try.zeroValue35 ?_; clear st; intro g15 w15 hg15 st) | (with_reducible refine mS 0 st Try.sizeOf35 ?_; clear st; intro w16 st hw16m hw16z) | (with_reducible refine at_load 35 ?_; refine wpList_load_cells (wanted_none rfl) 35 _ rfl Try.isAgg35 _ Try.sizeOf35 gb (1 + u * 5) rfl [.slice la x.label.length lc, .slice oa x.own.length oc, .string x.text, .slice ba x.objects.length bc, .slice ma x.mails.length mc] rfl (HC.out _ st.below) ?_))
            have hbA := st.below.drew
            have P := hP.enter st
            clear st
            replace P := P.drew
            have hI := P.1
            refine lex_region (by kernel_rfl) 6 rfl (fun W => St [] w W [(g15, 35, [.slice la x.label.length lc, .slice oa x.own.length oc, .string x.text, .slice ba x.objects.length bc, .slice ma x.mails.length mc])]) ?_
            refine lexS 0 rfl hI ?_
            refine lexS 1 rfl hI ?_
            refine lexT 3 rfl hI (fun W hW => St.run_load_agg hW 0 35 _ rfl Try.isAgg35 _ Try.sizeOf35 rfl rfl rfl rfl) ?_
            clear hI
            refine lexO 2 rfl fun K hK => ?_
            refine wp_callee (f := 16) (by first | (go_simp; done) | (go_simp; rfl)) ?_
            refine (pairR_Thread P (u : Int)).mono ?_
            rw [HTo.out]
            rintro e v2 ⟨tla, tlc, toa, toc, tba, tbc, tma, tmc, rfl, hb2, hT2⟩
            refine ⟨_, rfl, ?_⟩
            have PT := P.call hb2
            refine hK _ _ (PT.1) ?_; clear hK; simp only [kP, kA, kS, kZ]
            refine lexO 4 rfl fun K hK => ?_
            refine wp_callee (f := 15) (by first | (go_simp; done) | (go_simp; rfl)) ?_
            refine (ref_SameThread _ (fun _ => True) _ x tla tlc toa toc tba tbc tma tmc la lc oa oc ba bc ma mc hT2 (HTS.out _ (hbA.keep hb2))).mono ?_
            rintro e v3 ⟨rfl, hb3⟩
            refine ⟨_, rfl, ?_⟩
            replace PT := PT.call hb3
            have hI := PT.1
            refine hK _ _ (hI) ?_; clear hK; simp only [kP, kA, kS, kZ]
            refine lexS 5 rfl hI ?_
            clear hI
            refine lex_done (by decide +kernel) ?_
            go_wp2_with fail
            go_roundw
            case rel => exact ⟨(u : Int) + 1, by omega, by omega, by go_num, PT.plain⟩
            case measure => simp [intOf]; omega
          · have hf2 : four t = false := by simpa using hf
            have HTo := qh (show thrOf k t = zeroT by unfold thrOf; rw [if_neg hf])
            have HTS := qh (fun (V : World) (_ : Below wr.heap.size wr V) => ThrS.zero (fun _ => True) V)
            have hf3 : decide ((0 : Int) ≤ t) = false ∨ (decide ((0 : Int) ≤ t) = true ∧ decide (t < 4) = false) := by
              rcases four_no hf2 with h | h
              · exact .inl (by simp; omega)
              · exact .inr ⟨by simp; omega, by simp; omega⟩
            clear hf hf2
            rcases hf3 with d6 | ⟨d6, d7⟩
            all_goals
              go_upto_region 28 with (first | go_skip | (with_reducible refine mA st Try.zeroValue35 ?_; clear st; intro g15 w15 hg15 st) | (with_reducible refine mS 0 st Try.sizeOf35 ?_; clear st; intro w16 st hw16m hw16z)  )
              have hbA := st.below.drew
              have P := hP.enter st
              clear st
              replace P := P.drew
              have hI := P.1
              refine lex_region (by kernel_rfl) 6 rfl (fun W => St [] w W [(g15, 35, [.slice none 0 0, .slice none 0 0, .string .empty, .slice none 0 0, .slice none 0 0])]) ?_
              refine lexS 0 rfl hI ?_
              refine lexS 1 rfl hI ?_
              refine lexT 3 rfl hI (fun W hW => St.run_load_agg hW 0 35 _ rfl Try.isAgg35 _ Try.sizeOf35 rfl rfl rfl rfl) ?_
              clear hI
              refine lexO 2 rfl fun K hK => ?_
              refine wp_callee (f := 16) (by first | (go_simp; done) | (go_simp; rfl)) ?_
              refine (pairR_Thread P t).mono ?_
              rw [HTo.out]
              rintro e v2 ⟨tla, tlc, toa, toc, tba, tbc, tma, tmc, rfl, hb2, hT2⟩
              refine ⟨_, rfl, ?_⟩
              have PT := P.call hb2
              refine hK _ _ (PT.1) ?_; clear hK; simp only [kP, kA, kS, kZ]
              refine lexO 4 rfl fun K hK => ?_
              refine wp_callee (f := 15) (by first | (go_simp; done) | (go_simp; rfl)) ?_
              refine (ref_SameThread _ (fun _ => True) _ zeroT tla tlc toa toc tba tbc tma tmc none 0 none 0 none 0 none 0 hT2 (HTS.out _ (hbA.keep hb2))).mono ?_
              rintro e v3 ⟨rfl, hb3⟩
              refine ⟨_, rfl, ?_⟩
              replace PT := PT.call hb3
              have hI := PT.1
              refine hK _ _ (hI) ?_; clear hK; simp only [kP, kA, kS, kZ]
              refine lexS 5 rfl hI ?_
              clear hI
              refine lex_done (by decide +kernel) ?_
              go_wp2_with fail
              go_roundw
              case rel => exact ⟨t + 1, by omega, by omega, by go_num, PT.plain⟩
              case measure => simp [intOf]; omega
      · have c1 : decide ((j : Int) < l.length) = false := by simp; omega
        clear hgo
        go_wp2_with fail
        go_loopw [14] (fun i wr2 => ∃ t : Int, -1 ≤ t ∧ t ≤ 5 ∧ i = .int .i64 t ∧ PairR w [] ga gb k k wr2) (fun i _ => (5 - intOf i).toNat)
        case atStart => exact ⟨-1, by omega, by omega, rfl, hP⟩
        case round =>
          clear hP
          obtain ⟨t, ht1, ht5, rfl, hP⟩ := hrel
          by_cases hlt : t < 5
          case neg =>
            have d5 : decide (t < 5) = false := by simpa using hlt
            have st := hP.1
            go_wp2_with (first | go_skip | (go_at_call 5; refine (calls_yes _).mono ?_; rintro e v1 ⟨rfl, hbc⟩; replace st := st.call hbc; clear hbc))
            go_ret
            exact ⟨rfl, st.below⟩
          have d5 : decide (t < 5) = true := by simpa using hlt
          have st := hP.1.rebase
          simp only [List.map_nil] at st
          by_cases hf : four t = true
          · obtain ⟨u, rfl, hu⟩ := four_nat hf
            have d6 : decide ((0 : Int) ≤ (u : Int)) = true := by simp
            have d7 : decide ((u : Int) < 4) = true := by simp; omega
            have d8 : decide ((u : Int) < 0) = false := by simp
            have d9 : decide ((4 : Int) ≤ u) = false := by simp; omega
            obtain ⟨pre, post, la, lc, oa, oc, ba, bc, ma, mc, hpre, hcells, hTS⟩ := hP.told hu
            have HTo := qh (show thrOf k (u : Int) = k.thr u by unfold thrOf; rw [if_pos hf])
            have HTS := qh (show ∀ (V : World), Below wr.heap.size wr V → ThrS (fun _ => True) V (k.thr u) la lc oa oc ba bc ma mc from fun V h => hTS.below h)
            have HC := qh (show ∀ V, Below wr.heap.size wr V → ∀ (i : Nat) (v : Value), [Value.slice la (k.thr u).label.length lc, .slice oa (k.thr u).own.length oc, .string (k.thr u).text, .slice ba (k.thr u).objects.length bc, .slice ma (k.thr u).mails.length mc][i]? = some v → V.cell? ⟨gb, 1 + u * 5 + i, none⟩ = some v from fun V hV i v hv => by
              rw [cell_of_row V gb _ _ _ (0, 0) (hcells V hV)]
              unfold winC
              rw [List.getElem?_toArray, List.getElem?_append_right (by omega), show 1 + u * 5 + i - pre.length = i by omega, List.getElem?_append_left (gEs hv).1]
              exact hv)
            generalize k.thr u = x at *
            clear hcells hf hlt
            go_upto_region 28 with (first | go_skip | (with_reducible refine mA st Try.zeroValue35 ?_; clear st; intro g15 w15 hg15 st) | (with_reducible refine mS 0 st Try.sizeOf35 ?_; clear st; intro w16 st hw16m hw16z) | (with_reducible refine at_load 35 ?_; refine wpList_load_cells (wanted_none rfl) 35 _ rfl Try.isAgg35 _ Try.sizeOf35 gb (1 + u * 5) rfl [.slice la x.label.length lc, .slice oa x.own.length oc, .string x.text, .slice ba x.objects.length bc, .slice ma x.mails.length mc] rfl (HC.out _ st.below) ?_))
            have hbA := st.below.drew
            have P := hP.enter st
            clear st
            replace P := P.drew
            have hI := P.1
            refine lex_region (by kernel_rfl) 6 rfl (fun W => St [] w W [(g15, 35, [.slice la x.label.length lc, .slice oa x.own.length oc, .string x.text, .slice ba x.objects.length bc, .slice ma x.mails.length mc])]) ?_
            refine lexS 0 rfl hI ?_
            refine lexS 1 rfl hI ?_
            refine lexT 3 rfl hI (fun W hW => St.run_load_agg hW 0 35 _ rfl Try.isAgg35 _ Try.sizeOf35 rfl rfl rfl rfl) ?_
            clear hI
            refine lexO 2 rfl fun K hK => ?_
            refine wp_callee (f := 16) (by first | (go_simp; done) | (go_simp; rfl)) ?_
            refine (pairR_Thread P (u : Int)).mono ?_
            rw [HTo.out]
            rintro e v2 ⟨tla, tlc, toa, toc, tba, tbc, tma, tmc, rfl, hb2, hT2⟩
            refine ⟨_, rfl, ?_⟩
            have PT := P.call hb2
            refine hK _ _ (PT.1) ?_; clear hK; simp only [kP, kA, kS, kZ]
            refine lexO 4 rfl fun K hK => ?_
            refine wp_callee (f := 15) (by first | (go_simp; done) | (go_simp; rfl)) ?_
            refine (ref_SameThread _ (fun _ => True) _ x tla tlc toa toc tba tbc tma tmc la lc oa oc ba bc ma mc hT2 (HTS.out _ (hbA.keep hb2))).mono ?_
            rintro e v3 ⟨rfl, hb3⟩
            refine ⟨_, rfl, ?_⟩
            replace PT := PT.call hb3
            have hI := PT.1
            refine hK _ _ (hI) ?_; clear hK; simp only [kP, kA, kS, kZ]
            refine lexS 5 rfl hI ?_
            clear hI
            refine lex_done (by decide +kernel) ?_
            go_wp2_with fail
            go_roundw
            case rel => exact ⟨(u : Int) + 1, by omega, by omega, by go_num, PT.plain⟩
            case measure => simp [intOf]; omega
          · have hf2 : four t = false := by simpa using hf
            have HTo := qh (show thrOf k t = zeroT by unfold thrOf; rw [if_neg hf])
            have HTS := qh (fun (V : World) (_ : Below wr.heap.size wr V) => ThrS.zero (fun _ => True) V)
            have hf3 : decide ((0 : Int) ≤ t) = false ∨ (decide ((0 : Int) ≤ t) = true ∧ decide (t < 4) = false) := by
              rcases four_no hf2 with h | h
              · exact .inl (by simp; omega)
              · exact .inr ⟨by simp; omega, by simp; omega⟩
            clear hf hf2
            rcases hf3 with d6 | ⟨d6, d7⟩
            all_goals
              go_upto_region 28 with (first | go_skip | (with_reducible refine mA st Try.zeroValue35 ?_; clear st; intro g15 w15 hg15 st) | (with_reducible refine mS 0 st Try.sizeOf35 ?_; clear st; intro w16 st hw16m hw16z)  )
              have hbA := st.below.drew
              have P := hP.enter st
              clear st
              replace P := P.drew
              have hI := P.1
              refine lex_region (by kernel_rfl) 6 rfl (fun W => St [] w W [(g15, 35, [.slice none 0 0, .slice none 0 0, .string .empty, .slice none 0 0, .slice none 0 0])]) ?_
              refine lexS 0 rfl hI ?_
              refine lexS 1 rfl hI ?_
              refine lexT 3 rfl hI (fun W hW => St.run_load_agg hW 0 35 _ rfl Try.isAgg35 _ Try.sizeOf35 rfl rfl rfl rfl) ?_
              clear hI
              refine lexO 2 rfl fun K hK => ?_
              refine wp_callee (f := 16) (by first | (go_simp; done) | (go_simp; rfl)) ?_
              refine (pairR_Thread P t).mono ?_
              rw [HTo.out]
              rintro e v2 ⟨tla, tlc, toa, toc, tba, tbc, tma, tmc, rfl, hb2, hT2⟩
              refine ⟨_, rfl, ?_⟩
              have PT := P.call hb2
              refine hK _ _ (PT.1) ?_; clear hK; simp only [kP, kA, kS, kZ]
              refine lexO 4 rfl fun K hK => ?_
              refine wp_callee (f := 15) (by first | (go_simp; done) | (go_simp; rfl)) ?_
              refine (ref_SameThread _ (fun _ => True) _ zeroT tla tlc toa toc tba tbc tma tmc none 0 none 0 none 0 none 0 hT2 (HTS.out _ (hbA.keep hb2))).mono ?_
              rintro e v3 ⟨rfl, hb3⟩
              refine ⟨_, rfl, ?_⟩
              replace PT := PT.call hb3
              have hI := PT.1
              refine hK _ _ (hI) ?_; clear hK; simp only [kP, kA, kS, kZ]
              refine lexS 5 rfl hI ?_
              clear hI
              refine lex_done (by decide +kernel) ?_
              go_wp2_with fail
              go_roundw
              case rel => exact ⟨t + 1, by omega, by omega, by go_num, PT.plain⟩
              case measure => simp [intOf]; omega

theorem own : ownKnob Try.prog.godebug = none := by kernel_rfl
theorem laid : laidOutB Try.prog = true := by kernel_rfl

theorem contract (H : Type) (enc : TypeId × Value → H) (W : World) (base : Nat) (args : Array Value) (ds gs : List (DataW H)) (before : List MemPlace)
    (hval : ∀ (j : Nat) t v, Try.f3.params[j]? = some t → args[j]? = some v → Value.okWide Try.prog W .any base t v)
    (hW : DataW.Whole enc Try.prog Try.f3.params.toList Rows.kernelPlaysSpec.vars false W args.toList ds gs before)
    (hsz : (DataW.weightsEach Try.prog (Try.f3.params.toList ++ Rows.kernelPlaysSpec.plain.varTypes Try.prog) (ds ++ gs)).all (· ≤ reachBytes) = true) :
    Calls Try.prog 3 args W fun e W' => ∃ v, e = .returned v ∧ Rows.kernelPlaysSpec.post enc Try.prog Try.f3 false true false false W args v W' := by
  have hW' := hW
  obtain ⟨p, q, hTrd, hV, rfl, hfz, hnd⟩ := hW
  have hA : DataW.TrodAll enc Try.prog W 0 (fun _ => true) true Try.f3.params.toList args.toList ds p := hTrd
  have hpar := Try.params3
  rw [hpar] at hA hval hsz
  obtain ⟨v0, vs0, d0, ds0, p0, q0, hargs0, rfl, rfl, h0, r0⟩ := trodAll_cons hA
  obtain ⟨v1, vs1, d1, ds1, p1, q1, hargs1, rfl, rfl, h1, r1⟩ := trodAll_cons r0
  obtain ⟨hnil, rfl, rfl⟩ := trodAll_nil r1
  obtain rfl : args = #[v0, v1] := by cases args; simp_all
  obtain ⟨rfl, rfl⟩ := trodVars_none hV
  have w0 : ∀ n ∈ d0.weights Try.prog 3, n ≤ reachBytes := fun n hn => by simpa using List.all_eq_true.1 hsz n (DataW.weights_mem_each (j := 0) (t := 3) (d := d0) rfl rfl n hn)
  obtain ⟨x0, rfl, hx0⟩ := arg_int Try.underlying3 (hval 0 _ v0 rfl rfl) h0
  have w1 : ∀ n ∈ d1.weights Try.prog 22, n ≤ reachBytes := fun n hn => by simpa using List.all_eq_true.1 hsz n (DataW.weights_mem_each (j := 1) (t := 22) (d := d1) rfl rfl n hn)
  obtain ⟨x1, a1, c1, rfl, hR1, hl1, hx1, hm1⟩ := arg_slice (fit := Order.fit) (mass := Order.mass) reads_Order Try.underlying22 (by kernel_rfl : Try.prog.cellsOf _ = 15) (by decide) (by kernel_rfl : Try.prog.bytesOf _ = 200) (hval 1 _ v1 rfl rfl) h1 w1
  refine (walk W x0 x1 a1 c1 hx0 hR1 hl1 hx1).mono fun e W' ⟨he, hb⟩ => ?_
  exact ⟨_, he, law_post laid (by kernel_rfl) hW' rfl rfl (by kernel_rfl) Try.underlying4 hb⟩

theorem lifted (os : Os) (started : os.Started) (H : Type) (enc : TypeId × Value → H) :
    ReturnsInHanded {} Try.checked os 3 .any (Rows.kernelPlaysSpec.pre6 enc Try.prog Try.f3 Rows.kernelPlaysRow.domain false) (Rows.kernelPlaysSpec.post enc Try.prog Try.f3 false true false false) := by
  refine returnsInHanded_of_change_sized (C := Try.checked) own started (by kernel_rfl) Try.func3
    (ChangeSpec.witness6 (enc := enc) (C := Try.checked) false ⟨#[], #[.int .i64 0, .slice none 0 0], []⟩ 12 (by kernel_rfl) (by kernel_rfl) (by kernel_rfl) (by kernel_rfl)) ?_
  intro W base args ds gs before hval hW _ hsz _
  exact contract H enc W base args ds gs before hval hW hsz

theorem proved : Rows.KernelPlaysSaid :=
  OpenClaim.holds_of_wide 3 Try.f3 rfl rfl rfl rfl rfl rfl rfl ⟨rfl, rfl, rfl, rfl, rfl⟩ rfl rfl rfl rfl rfl (by kernel_rfl) Try.func3 (by kernel_rfl)
    (of_decide_eq_true (by kernel_rfl)) (by unfold Func.isWrapper; first | (rw [if_pos (by decide +kernel)]; kernel_rfl) | (rw [if_neg (by decide +kernel)]; exact ⟨rfl, rfl⟩))
    (fun os started H enc _ => lifted os started H enc)

end Go.Proofs.Ytealbofmlieicaa.kernelPlays
