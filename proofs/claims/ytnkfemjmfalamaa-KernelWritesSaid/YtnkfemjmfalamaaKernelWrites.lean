/- For every row of calls and mail, an object keeps its label, is written only by who stands no higher than it or owns where it does, and no call of one thread moves another one. No condition. -/
import Derived.Test.YtnkfemjmfalamaaRows
import Derived.Test.YtnkfemjmfalamaaP16
import Derived.Test.YtnkfemjmfalamaaP5
import Derived.Test.YtnkfemjmfalamaaP7
import Derived.Test.YtnkfemjmfalamaaP15
import Derived.SizedLaws
import Derived.Deep.DeepCutAuto
set_option linter.unusedSimpArgs false
set_option linter.unusedVariables false
namespace Go.Proofs.Ytnkfemjmfalamaa.kernelWrites
open Go.ChangeShapes Go.WideShapes Go.ChangeAt Go.RowKit

set_option maxRecDepth 100000 in
set_option maxHeartbeats 8000000 in
theorem walk (w : World) (host : Int) (l : List Step) (sa : Option Addr) (sc : Nat) (hh : fitI host) (hS : SlR (fun _ => True) w 15 (RStep (fun _ => True) w) sa sc l) (hsl : l.length * 200 ≤ 140737488351232) (hsf : ∀ x ∈ l, x.fit) :
    Calls Try.prog 5 #[.int .i64 host, .slice sa l.length sc] w fun r w' => r = .returned (.bool true) ∧ Below w.heap.size w w' := by
  have st := St.start w
  have hS' := Lib.hid hS
  have HF := Lib.hid hsf
  have HP := Lib.hid (fun (W : World) (k : Int) (hk : fitI k) => keep_pick W k 4 (by omega) (by omega) hk)
  have hh' := Lib.hid hh
  clear hS hsf hh
  go_enter Try.func5, Try.ntmps5
  go_wp2_with (first
    | go_skip
    | (go_at_call 7; refine (HP.out _ _ hh'.out).mono ?_; rintro x v2 ⟨⟨p, rfl, hp1, hp2⟩, rfl⟩)
    | (go_at_call 8; refine (kernel_New _ _ (by omega) (by omega)).mono ?_; rintro e v1 ⟨gk, rfl, hgk, st1⟩; replace st := st.join st1; clear st1; simp only [List.cons_append, List.nil_append] at st)
    | (go_at_call 9; refine (calls_yes_keep _).mono ?_; rintro e v1 ⟨rfl, hbc⟩; replace st := st.call hbc; clear hbc))
  have hP0 : ∃ k, Solo w [] gk k v1 := ⟨newK p, Solo.new (own' := []) st (by simp) ⟨hp1, hp2⟩ (by simp) List.Pairwise.nil⟩
  clear st hp1 hp2
  have hsl2 : l.length ≤ 9223372036854775807 := by omega
  go_loopw [7] (fun i wr => ∃ j : Nat, j ≤ l.length ∧ j ≤ 80 ∧ i = .int .i64 j ∧ ∃ k, Solo w [] gk k wr) (fun i _ => 80 - (intOf i).toNat)
  case atStart => exact ⟨0, Nat.zero_le _, by omega, rfl, hP0⟩
  case round =>
    clear hP0
    obtain ⟨wq, rfl⟩ : ∃ V, V = wr := ⟨_, rfl⟩
    obtain ⟨j, hj, hj120, rfl, k, str, hk, ok, css, Bs, hK, h5, h7⟩ := hrel
    by_cases hlt : j < l.length
    · by_cases h120 : j < 80
      · have d1 : decide ((j : Int) < l.length) = true := by simp; omega
        have d2 : decide ((j : Int) < 80) = true := by simp; omega
        have hBw := str.below
        have hst := hS'.out.step_at j hlt
        have hfit := HF.out _ (List.getElem_mem hlt)
        generalize l[j] = x at hst hfit
        obtain ⟨xt, cm, cl, ml⟩ := x
        dsimp only at hst
        obtain ⟨b, o, sla, slc, sga, sgc, sma, smc, sna, snc, hsa, hb, ⟨hA, hA2, hM, hM2⟩, f0, f1, f2, f3, f4, f5, f6, f7, f8, f9, f10, f11, f12, f13, f14⟩ := hst
        have tr := fun (p : Nat) (v : Option Value) (h : w.cell? ⟨b, p, none⟩ = v) => (hBw.cell (p := ⟨b, p, none⟩) hb).trans h
        replace f0 := tr _ _ f0; replace f1 := tr _ _ f1; replace f2 := tr _ _ f2; replace f3 := tr _ _ f3; replace f4 := tr _ _ f4; replace f5 := tr _ _ f5; replace f6 := tr _ _ f6
        replace f7 := tr _ _ f7; replace f8 := tr _ _ f8; replace f9 := tr _ _ f9; replace f10 := tr _ _ f10; replace f11 := tr _ _ f11; replace f12 := tr _ _ f12; replace f13 := tr _ _ f13; replace f14 := tr _ _ f14
        clear tr
        have HS2 := Lib.hid hS'
        subst hsa
        have hql : cl.label.length * 16 ≤ 140737488351232 := hfit.2.2.1.2.2.2.2.2.1.1
        have hqm : ml.label.length * 16 ≤ 140737488351232 := hfit.2.2.2.2.2.1.1
        have hqg : ml.grants.length * 8 ≤ 140737488351232 := hfit.2.2.2.2.2.2.1.1
        have hqt := Lib.hid (hfit.1 : fitI xt)
        clear hfit
        have st := str.rebase
        simp only [List.map_nil] at st
        have HK := Lib.hid hK
        have HTh := Lib.hid (fun (V : World) (bl : Blks) (h : St [] wq V bl) (u : Int) (hu : four u = true) => (show ThreadPost V (thrOf k u) = ThreadPost V (k.thr u) by unfold thrOf; rw [if_pos hu]) ▸ kernel_Thread ok V gk k css Bs (hK.below h.below) hk.thr u)
        have HCa := Lib.hid (fun (V : World) (bl : Blks) (h : St [] wq V bl) (u : Int) => kernel_Call ok (fun _ => True) V gk k css Bs cl sla slc sga sgc (hK.below h.below) hk u hql (hA.below (hBw.keep h.below)))
        have HDe := Lib.hid (fun (V : World) (bl : Blks) (h : St [] wq V bl) (u : Int) => kernel_Deliver ok (fun _ => True) V gk k css Bs (hK.below h.below) hk.thr u ml sma smc sna snc hqm (by omega) ⟨hM.below (hBw.keep h.below), hM2.below (hBw.keep h.below)⟩)
        go_wp2_with (first
          | go_skip | (with_reducible refine at_alloc 37 ?_; refine mem_alloc st (wanted_none rfl) 37 rfl _ Try.zeroValue37 _ rfl ?_; clear st; intro g8 w8 hg8 st hg8b; clear hg8b; simp [Act.eval, Act.put, Value.cells, putL] at st) | (with_reducible refine at_store 37 ?_; (first | refine mem_store' st 37 _ _ rfl (wanted_none rfl) _ Try.sizeOf37 ?_ | (refine mem_store' st 37 _ _ rfl (wanted_some rfl ?_) _ Try.sizeOf37 ?_; focus (simp [yielded, Act.put]; done))); refine ⟨0, _, _, _, _, _, rfl, rfl, rfl, rfl, rfl, rfl, ?_⟩; clear st; intro w9 st hw9m hw9z; simp [Act.eval, Act.put, Value.cells, putL] at st) | (with_reducible refine at_load 3 ?_; (first | refine mem_load' st 3 _ rfl (wanted_none rfl) Try.isAgg3 ?_ | (refine mem_load' st 3 _ rfl (wanted_some rfl ?_) Try.isAgg3 ?_; focus (simp [yielded, Act.put]; done))); refine ⟨0, _, _, _, _, _, rfl, rfl, rfl, ?_⟩)
          | (go_at_call 7; refine (HP.out _ _ hqt.out).mono ?_; rintro x v2 ⟨⟨t, rfl, ht1, ht2⟩, rfl⟩; obtain ⟨t, rfl⟩ := Int.eq_ofNat_of_zero_le ht1)
          | (with_reducible refine at_alloc 53 ?_; refine mem_alloc st (wanted_none rfl) 53 rfl _ Try.zeroValue53 _ rfl ?_; clear st; intro g10 w10 hg10 st hg10b; clear hg10b; simp [Act.eval, Act.put, Value.cells, putL] at st))
        clear f0 f1 f2 f3 f4 f5 f6 f7 f8 f9 f10 f11 f12 f13 f14
        have stR := st
        have hl8 : g8 < w10.heap.size ∧ g10 < w10.heap.size := ⟨st.ltAt (i := 0) rfl, st.ltAt (i := 1) rfl⟩
        have hl10 : wq.heap.size ≤ g8 ∧ wq.heap.size ≤ g10 := ⟨by simpa using st.mine _ (List.mem_of_getElem? (i := 0) rfl), by simpa using st.mine _ (List.mem_of_getElem? (i := 1) rfl)⟩
        have hR0 : Rec 5 (ThrC (fun b => w10.heap.size ≤ b) w10) [.slice none 0 0, .slice none 0 0, .string ⟨#[]⟩, .slice none 0 0, .slice none 0 0, .slice none 0 0, .slice none 0 0, .string ⟨#[]⟩, .slice none 0 0, .slice none 0 0, .slice none 0 0, .slice none 0 0, .string ⟨#[]⟩, .slice none 0 0, .slice none 0 0, .slice none 0 0, .slice none 0 0, .string ⟨#[]⟩, .slice none 0 0, .slice none 0 0] (List.replicate 4 zeroT) := Rec.same 4 rfl (ThrC.zero _ _)
        have st := stR.rebase
        simp only [List.map_cons, List.map_nil] at st
        have h4k := hk.four
        go_loopw [50] (fun v50 wl => ∃ (u : Nat) (C : List Value) (xs : List Thr), u ≤ 4 ∧ v50 = .int .i64 u ∧ xs.length = 4 ∧ Hid (∀ i, i < u → xs[i]? = k.threads[i]?) ∧ St [g8, g10] w10 wl [(g8, 37, [.int .i64 xt, .bool (cm), .int .i64 cl.kind, .int .i64 cl.h, .int .i64 cl.t, .int .i64 cl.n, .int .i64 cl.c, .slice sla cl.label.length slc, .slice sga cl.grants.length sgc, .string cl.text, .int .i64 ml.host, .int .i64 ml.thread, .slice sma ml.label.length smc, .slice sna ml.grants.length snc, .string ml.text]), (g10, 53, C)] ∧ Rec 5 (ThrC (fun b => w10.heap.size ≤ b) wl) C xs) (fun v50 _ => 4 - (intOf v50).toNat)
        case atStart => exact ⟨0, _, _, by omega, rfl, by simp, fun i h => by omega, st, hR0⟩
        case round =>
          clear st hR0
          obtain ⟨u, C, xs, hu, rfl, hxl, HX, st, hRec⟩ := hrel
          by_cases hu4 : u < 4
          · have d3 : decide ((u : Int) < 4) = true := by simp; omega
            obtain ⟨pre, cs, post, rfl, hpre, hcl, ⟨a1, c1, a2, c2, a3, c3, a4, c4, rfl, -⟩, hset⟩ := hRec.win (i := u) (by omega)
            have hf4 : four (u : Int) = true := (four_iff _).2 ⟨by omega, by omega⟩
            have hz0 := st.size
            go_wp2_with (first
              | go_skip
              | (go_at_call 13; go_must (refine (HTh.out _ _ (St.back stR st) _ hf4).mono ?_; rintro e v3 ⟨tla, tlc, toa, toc, tba, tbc, tma, tmc, rfl, hb3, hT⟩; replace st := st.call hb3; unfold thrV))
              | (with_reducible refine at_store 46 ?_; refine mem_storeW st 46 _ _ rfl (wanted_none rfl) _ Try.sizeOf46 0 ?_; refine ⟨1, _, _, _, _, _, _, _, hpre, rfl, rfl, rfl, rfl, rfl, rfl, ?_⟩; clear st; intro w4 st hw4m hw4z; simp [Act.eval, Act.put, Value.cells, putL] at st))
            have hzz := hb3.size
            have hmv : ∀ b, b < wr.heap.size → w10.heap.size ≤ b → w10.heap.size ≤ b ∧ w4.heap[b]? = wr.heap[b]? := fun b hb ho => ⟨ho, (hw4m b (by omega)).trans (hb3.block b hb)⟩
            have hT4 : ThrS (fun b => w10.heap.size ≤ b) w4 (k.thr u) tla tlc toa toc tba tbc tma tmc := hT.move (by omega) fun b hb ho => ⟨by omega, hw4m b (by omega)⟩
            have hRec2 := hset (ThrC (fun b => w10.heap.size ≤ b) w4) _ (k.thr u) (fun c x h => h.move (by omega) hmv) ⟨tla, tlc, toa, toc, tba, tbc, tma, tmc, rfl, hT4⟩ rfl
            have HX2 : Hid (∀ i, i < u + 1 → (xs.set u (k.thr u))[i]? = k.threads[i]?) := Lib.hid fun i hi => by
              rw [List.getElem?_set]
              by_cases e : u = i
              · subst e
                rw [if_pos rfl, if_pos (by omega)]
                obtain ⟨y, hy⟩ : ∃ y, k.threads[u]? = some y := ⟨_, List.getElem?_eq_getElem (by omega)⟩
                rw [hy, Ker.thr_at hy]
              · rw [if_neg e]; exact HX.out i (by omega)
            clear hset hRec HX hT hT4 hb3 hw4m hw4z hmv hcl
            go_wp2
            go_roundw
            case rel => exact ⟨u + 1, _, _, by omega, by go_num, by simp [hxl], HX2, st, hRec2⟩
            case measure => simp [intOf]; omega
          · have d3 : decide ((u : Int) < 4) = false := by simp; omega
            obtain rfl : u = 4 := by omega
            have hxk : xs = k.threads := List.ext_getElem? fun i => by
              by_cases hi : i < 4
              · exact HX.out i hi
              · rw [List.getElem?_eq_none (by omega), List.getElem?_eq_none (by omega)]
            subst hxk
            clear HX hu hxl
            have hz0 := st.size
            have hu4 : four (t : Int) = true := (four_iff _).2 ⟨ht1, ht2⟩
            go_upto_if 60 with (first | go_skip | (with_reducible refine at_load 4 ?_; (first | refine mem_load' st 4 _ rfl (wanted_none rfl) Try.isAgg4 ?_ | (refine mem_load' st 4 _ rfl (wanted_some rfl ?_) Try.isAgg4 ?_; focus (simp [yielded, Act.put]; done))); refine ⟨0, _, _, _, _, _, rfl, rfl, rfl, ?_⟩))
            simp only [Act.put, List.setIfInBounds_toArray, List.set_cons_succ, List.set_cons_zero]
            go_cut [] (fun wx => ∃ okK css2 Bs2, St [] w wx [(g8, 37, [.int .i64 xt, .bool (cm), .int .i64 cl.kind, .int .i64 cl.h, .int .i64 cl.t, .int .i64 cl.n, .int .i64 cl.c, .slice sla cl.label.length slc, .slice sga cl.grants.length sgc, .string cl.text, .int .i64 ml.host, .int .i64 ml.thread, .slice sma ml.label.length smc, .slice sna ml.grants.length snc, .string ml.text]), (g10, 53, C)] ∧ Hid (∀ V bl, St [g8, g10] wx V bl → KerAt okK V gk (stepK k t ⟨xt, cm, cl, ml⟩).1 css2 Bs2 ∧ ∀ V', Below V.heap.size V V' → Solo w [] gk (stepK k t ⟨xt, cm, cl, ml⟩).1 V') ∧ Rec 5 (ThrC (fun b => w10.heap.size ≤ b) wx) C k.threads ∧ w10.heap.size ≤ wx.heap.size)
            case first =>
              cases cm with
              | true =>
                go_wp2_with (first
                  | go_skip | (with_reducible refine at_load 4 ?_; (first | refine mem_load' st 4 _ rfl (wanted_none rfl) Try.isAgg4 ?_ | (refine mem_load' st 4 _ rfl (wanted_some rfl ?_) Try.isAgg4 ?_; focus (simp [yielded, Act.put]; done))); refine ⟨0, _, _, _, _, _, rfl, rfl, rfl, ?_⟩) | (with_reducible refine at_load 35 ?_; (first | refine mem_load_agg' st 35 _ rfl (wanted_none rfl) Try.isAgg35 _ Try.sizeOf35 ?_ | (refine mem_load_agg' st 35 _ rfl (wanted_some rfl ?_) Try.isAgg35 _ Try.sizeOf35 ?_; focus (simp [yielded, Act.put]; done))); refine ⟨0, _, _, _, _, _, rfl, rfl, rfl, rfl, ?_⟩)
                  | (go_at_call 17; go_must (refine (HDe.out _ _ (St.back stR st) _).mono ?_; rintro e W2 ⟨⟨uu, rfl⟩, hTo⟩)))
                go_meet
                obtain ⟨okK, css2, Bs2, stW, hAft, hSame⟩ := step_after str HK.out (fun b hb => (h5 b hb).1) h7 (St.back stR st) hTo (deliverK_ok hk t ml)
                refine ⟨okK, css2, Bs2, stW, Lib.hid hAft, hRec.mono fun c x h => h.move (by have := hTo.choose_spec.choose_spec.2.1.size; omega) fun b hb ho => ⟨ho, hSame b (by have := stR.size; omega) hb⟩, by have := hTo.choose_spec.choose_spec.2.1.size; omega⟩
              | false =>
                go_wp2_with (first
                  | go_skip | (with_reducible refine at_load 4 ?_; (first | refine mem_load' st 4 _ rfl (wanted_none rfl) Try.isAgg4 ?_ | (refine mem_load' st 4 _ rfl (wanted_some rfl ?_) Try.isAgg4 ?_; focus (simp [yielded, Act.put]; done))); refine ⟨0, _, _, _, _, _, rfl, rfl, rfl, ?_⟩) | (with_reducible refine at_load 27 ?_; (first | refine mem_load_agg' st 27 _ rfl (wanted_none rfl) Try.isAgg27 _ Try.sizeOf27 ?_ | (refine mem_load_agg' st 27 _ rfl (wanted_some rfl ?_) Try.isAgg27 _ Try.sizeOf27 ?_; focus (simp [yielded, Act.put]; done))); refine ⟨0, _, _, _, _, _, rfl, rfl, rfl, rfl, ?_⟩)
                  | (go_at_call 10; go_must (refine (HCa.out _ _ (St.back stR st) _).mono ?_; rintro e W2 ⟨rfl, hTo⟩)))
                go_meet
                obtain ⟨okK, css2, Bs2, stW, hAft, hSame⟩ := step_after str HK.out (fun b hb => (h5 b hb).1) h7 (St.back stR st) hTo (stepC_ok hk t cl)
                refine ⟨okK, css2, Bs2, stW, Lib.hid hAft, hRec.mono fun c x h => h.move (by have := hTo.choose_spec.choose_spec.2.1.size; omega) fun b hb ho => ⟨ho, hSame b (by have := stR.size; omega) hb⟩, by have := hTo.choose_spec.choose_spec.2.1.size; omega⟩
            case rest =>
              obtain ⟨okK, css2, Bs2, stW, HA, hRec, hzx⟩ := hcut
              have hl := Lib.hid (fun (u : Int) (hu : four u = true) => stepK_left hk ⟨xt, cm, cl, ml⟩ (t := t) hu)
              have hko := stepK_ok hk t ⟨xt, cm, cl, ml⟩
              generalize (stepK k t ⟨xt, cm, cl, ml⟩).1 = k' at HA hl hko
              have HThK := Lib.hid (fun (V : World) (bl : Blks) (h : St [g8, g10] wc V bl) (u : Int) (hu : four u = true) => (show ThreadPost V (thrOf k' u) = ThreadPost V (k'.thr u) by unfold thrOf; rw [if_pos hu]) ▸ kernel_Thread okK V gk k' css2 Bs2 (HA.out V bl h).1 hko.thr u)
              have HSo := Lib.hid (fun (V : World) (bl : Blks) (h : St [g8, g10] wc V bl) => (HA.out V bl h).2)
              clear HA HCa HDe HTh HK hK str stR h5 h7 st
              have HRc := Lib.hid hRec
              have stA := stW
              have st := stW.rebase
              simp only [List.map_cons, List.map_nil] at st
              clear stW hRec
              go_wp2_with fail
              go_loopw [71] (fun v71 wl => ∃ u : Nat, u ≤ 4 ∧ v71 = .int .i64 u ∧ St [g8, g10] wc wl [(g8, 37, [.int .i64 xt, .bool (cm), .int .i64 cl.kind, .int .i64 cl.h, .int .i64 cl.t, .int .i64 cl.n, .int .i64 cl.c, .slice sla cl.label.length slc, .slice sga cl.grants.length sgc, .string cl.text, .int .i64 ml.host, .int .i64 ml.thread, .slice sma ml.label.length smc, .slice sna ml.grants.length snc, .string ml.text]), (g10, 53, C)]) (fun v71 _ => 4 - (intOf v71).toNat)
              case atStart => exact ⟨0, by omega, rfl, st⟩
              case round =>
                clear st
                obtain ⟨wr3, rfl⟩ : ∃ V, V = wr := ⟨_, rfl⟩
                obtain ⟨u, hu, rfl, st⟩ := hrel
                by_cases hu4 : u < 4
                · have d3 : decide ((u : Int) < 4) = true := by simp; omega
                  have hf4 : four (u : Int) = true := (four_iff _).2 ⟨by omega, by omega⟩
                  obtain ⟨z, hz⟩ : ∃ z, k.threads[u]? = some z := ⟨_, List.getElem?_eq_getElem (by omega)⟩
                  obtain ⟨pre, cs, post, hCe, hpre, hcl, a1, c1, a2, c2, a3, c3, a4, c4, rfl, hTz⟩ := HRc.out.win' hz
                  subst hCe
                  have hL := hl.out u hf4
                  rw [Ker.thr_at hz] at hL
                  go_upto_region 22 with (first
                    | go_skip
                    | (go_at_call 13; go_must (refine (HThK.out _ _ st _ hf4).mono ?_; rintro e v3 ⟨tla, tlc, toa, toc, tba, tbc, tma, tmc, rfl, hb3, hT⟩; have hst := st.call hb3; clear st; have st := hst.rebase; simp only [List.map_cons, List.map_nil] at st; unfold thrV))
                    | (with_reducible refine at_alloc 46 ?_; refine mem_alloc st (wanted_none rfl) 46 rfl _ Try.zeroValue46 _ rfl ?_; clear st; intro g13 w11 hg13 st hg13b; clear hg13b; simp [Act.eval, Act.put, Value.cells, putL] at st) | (with_reducible refine at_store 46 ?_; (first | refine mem_store' st 46 _ _ rfl (wanted_none rfl) _ Try.sizeOf46 ?_ | (refine mem_store' st 46 _ _ rfl (wanted_some rfl ?_) _ Try.sizeOf46 ?_; focus (simp [yielded, Act.put]; done))); refine ⟨2, _, _, _, _, _, rfl, rfl, rfl, rfl, rfl, rfl, ?_⟩; clear st; intro w12 st hw12m hw12z; simp [Act.eval, Act.put, Value.cells, putL] at st))
                  clear hw12m hw12z
                  obtain ⟨x0, hx0⟩ : ∃ x0, k.threads[t]? = some x0 := ⟨_, List.getElem?_eq_getElem (by omega)⟩
                  obtain ⟨pre2, cs2, post2, hC2, hpre2, -, d1', e1', d2', e2', d3', e3', d4', e4', rfl, hTt⟩ := HRc.out.win' hx0
                  have hx := hk.at (t : Int)
                  rw [Ker.thr_at hx0] at hx
                  have hz1 := hk.at (u : Int)
                  rw [Ker.thr_at hz] at hz1
                  have hy1 := hko.at (u : Int)
                  generalize k'.thr (u : Int) = y at hL hT st hy1
                  have hmv : ∀ b, b < wc.heap.size → w10.heap.size ≤ b → True ∧ v3.heap[b]? = wc.heap[b]? := fun b hb ho => ⟨trivial, hst.frame b hb (by simp; omega)⟩
                  have hTz3 : ThrS (fun _ => True) v3 z a1 c1 a2 c2 a3 c3 a4 c4 := hTz.move hst.size hmv
                  have hTt3 : ThrS (fun _ => True) v3 x0 d1' e1' d2' e2' d3' e3' d4' e4' := hTt.move hst.size hmv
                  have hTy : ThrS (fun _ => True) v3 y tla tlc toa toc tba tbc tma tmc := hT.move (Nat.le_refl _) fun _ _ _ => ⟨trivial, rfl⟩
                  clear hTz hTt hT hmv
                  obtain ⟨yl, yo, yt, yb, ym⟩ := y
                  obtain ⟨zl, zo, zt, zb, zm⟩ := z
                  unfold thrC at st hst hC2
                  dsimp only at st hst hL hC2
                  have HB := Lib.hid (show ∀ (V : World) (bl : Blks), St [g8, g10] v3 V bl → (∀ x ∈ [(g8, 37, [.int .i64 xt, .bool (cm), .int .i64 cl.kind, .int .i64 cl.h, .int .i64 cl.t, .int .i64 cl.n, .int .i64 cl.c, .slice sla cl.label.length slc, .slice sga cl.grants.length sgc, .string cl.text, .int .i64 ml.host, .int .i64 ml.thread, .slice sma ml.label.length smc, .slice sna ml.grants.length snc, .string ml.text]), (g10, 53, winC pre [.slice a1 zl.length c1, .slice a2 zo.length c2, .string zt, .slice (a3) zb.length c3, .slice a4 zm.length c4] post)], x ∈ bl) → Below v3.heap.size v3 V from fun V bl h hm => hst.below2 h hm)
                  have HBk := Lib.hid (show ∀ (V : World) (bl : Blks), St [g8, g10] v3 V bl → St [g8, g10] wc V bl from fun V bl h => (by have := St.back hst h; exact this))
                  have HCt := Lib.hid (show ∀ (V : World) (bl : Blks), St [g8, g10] v3 V bl → (g10, 53, winC pre [.slice a1 zl.length c1, .slice a2 zo.length c2, .string zt, .slice a3 zb.length c3, .slice a4 zm.length c4] post) ∈ bl → ∀ (i : Nat) (v : Value), [Value.slice d1' x0.label.length e1', .slice d2' x0.own.length e2'][i]? = some v → V.cell? ⟨g10, t * 5 + i, none⟩ = some v from fun V bl h hm i v hv => by
                    obtain ⟨q, hq⟩ := List.mem_iff_getElem?.1 hm
                    rw [h.cell hq, hC2]
                    refine winC_get hpre2 ?_
                    match i, hv with
                    | 0, hv => exact hv
                    | 1, hv => exact hv)
                  have hsx := hx.ownL; have hsl := goodL_len hx.good
                  have hzo : ∀ o ∈ zb, o.label.length ≤ 8 := fun o ho => goodL_len (hz1.obj o ho).1
                  have hzb : zb.length ≤ 4 := hz1.objs
                  have hyb : yb.length ≤ 4 := hy1.objs
                  have hobl : zb.length ≤ yb.length := hL.objL
                  have hLo := hL.obj
                  rw [Ker.thr_at hx0] at hLo
                  replace hLo := Lib.hid hLo
                  have hLn := Lib.hid hL.other
                  clear hx hz1 hy1 hL hC2
                  have d4 : decide ((yb.length : Int) < zb.length) = false := by simp; omega
                  refine det_region (by kernel_rfl) 9 rfl (fun V => St [g8, g10] v3 V [(g8, 37, [.int .i64 xt, .bool (cm), .int .i64 cl.kind, .int .i64 cl.h, .int .i64 cl.t, .int .i64 cl.n, .int .i64 cl.c, .slice sla cl.label.length slc, .slice sga cl.grants.length sgc, .string cl.text, .int .i64 ml.host, .int .i64 ml.thread, .slice sma ml.label.length smc, .slice sna ml.grants.length snc, .string ml.text]), (g10, 53, winC pre [.slice a1 zl.length c1, .slice a2 zo.length c2, .string zt, .slice (a3) zb.length c3, .slice a4 zm.length c4] post), (g13, 46, [.slice tla yl.length tlc, .slice toa yo.length toc, .string yt, .slice (tba) yb.length tbc, .slice tma ym.length tmc])]) (st.drew) (by decide +kernel) ?_
                  refine det_take 0 rfl (by decide +kernel) (by first | exact wanted_none rfl | exact wanted_some rfl rfl) (fun W hW => by first | (go_simp; done) | (go_simp; rfl)) ?_; simp only [Act.put, List.setIfInBounds_toArray, List.set_cons_succ, List.set_cons_zero]
                  refine det_take 1 rfl (by decide +kernel) (by first | exact wanted_none rfl | exact wanted_some rfl rfl) (fun W hW => St.run_load hW 2 43 _ rfl Try.isAgg43 rfl rfl rfl) ?_; simp only [Act.put, List.setIfInBounds_toArray, List.set_cons_succ, List.set_cons_zero]
                  refine det_take 2 rfl (by decide +kernel) (by first | exact wanted_none rfl | exact wanted_some rfl rfl) (fun W hW => by first | (go_simp; done) | (go_simp; rfl)) ?_; simp only [Act.put, List.setIfInBounds_toArray, List.set_cons_succ, List.set_cons_zero]; refine det_take 3 rfl (by decide +kernel) (by first | exact wanted_none rfl | exact wanted_some rfl rfl) (fun W hW => by first | (go_simp; done) | (go_simp; rfl)) ?_; simp only [Act.put, List.setIfInBounds_toArray, List.set_cons_succ, List.set_cons_zero]
                  refine det_take (v := .pointer (some ⟨g10, u * 5, none⟩)) 4 rfl (by decide +kernel) (by first | exact wanted_none rfl | exact wanted_some rfl rfl) (fun W hW => by (first | (go_simp; done) | (go_simp; intro h; omega))) ?_; simp only [Act.put, List.setIfInBounds_toArray, List.set_cons_succ, List.set_cons_zero]
                  refine det_take 5 rfl (by decide +kernel) (by first | exact wanted_none rfl | exact wanted_some rfl rfl) (fun W hW => by first | (go_simp; done) | (go_simp; rfl)) ?_; simp only [Act.put, List.setIfInBounds_toArray, List.set_cons_succ, List.set_cons_zero]
                  refine det_take 6 rfl (by decide +kernel) (by first | exact wanted_none rfl | exact wanted_some rfl rfl) (fun W hW => St.run_loadW hW 1 43 _ rfl Try.isAgg43 3 hpre rfl rfl rfl) ?_; simp only [Act.put, List.setIfInBounds_toArray, List.set_cons_succ, List.set_cons_zero]
                  refine det_take 7 rfl (by decide +kernel) (by first | exact wanted_none rfl | exact wanted_some rfl rfl) (fun W hW => by first | (go_simp; done) | (go_simp; rfl)) ?_; simp only [Act.put, List.setIfInBounds_toArray, List.set_cons_succ, List.set_cons_zero]
                  refine det_take (v := .bool false) 8 rfl (by decide +kernel) (by first | exact wanted_none rfl | exact wanted_some rfl rfl) (fun W hW => by (go_simp; done)) ?_; simp only [Act.put, List.setIfInBounds_toArray, List.set_cons_succ, List.set_cons_zero]
                  refine det_done (by decide +kernel) ?_
                  clear st
                  intro V1 st
                  go_wp2_with (first | go_skip | (with_reducible refine at_load 43 ?_; (first | refine mem_loadW st 43 _ rfl (wanted_none rfl) Try.isAgg43 3 ?_ | (refine mem_loadW st 43 _ rfl (wanted_some rfl ?_) Try.isAgg43 3 ?_; focus (simp [yielded, Act.put]; done))); refine ⟨1, _, _, _, _, _, _, _, hpre, rfl, rfl, rfl, ?_⟩))
                  go_loopw [91] (fun v91 wl => ∃ n : Nat, n ≤ zb.length ∧ v91 = .int .i64 n ∧ St [g8, g10] v3 wl [(g8, 37, [.int .i64 xt, .bool (cm), .int .i64 cl.kind, .int .i64 cl.h, .int .i64 cl.t, .int .i64 cl.n, .int .i64 cl.c, .slice sla cl.label.length slc, .slice sga cl.grants.length sgc, .string cl.text, .int .i64 ml.host, .int .i64 ml.thread, .slice sma ml.label.length smc, .slice sna ml.grants.length snc, .string ml.text]), (g10, 53, winC pre [.slice a1 zl.length c1, .slice a2 zo.length c2, .string zt, .slice (a3) zb.length c3, .slice a4 zm.length c4] post), (g13, 46, [.slice tla yl.length tlc, .slice toa yo.length toc, .string yt, .slice (tba) yb.length tbc, .slice tma ym.length tmc])]) (fun v91 _ => zb.length - (intOf v91).toNat)
                  case atStart => exact ⟨0, by omega, rfl, st⟩
                  case round =>
                    clear st
                    obtain ⟨wr4, rfl⟩ : ∃ V, V = wr := ⟨_, rfl⟩
                    obtain ⟨n, hn, rfl, st⟩ := hrel
                    by_cases hnl : n < zb.length
                    · have d5 : decide ((n : Int) < zb.length) = true := by simp; omega
                      obtain ⟨b1, o1, l1, k1, e1, -, hb1, hA1, hC1⟩ := hTz3.objs.obj_at n hnl
                      obtain ⟨b2, o2, l2, k2, e2, -, hb2, hA2, hC2⟩ := hTy.objs.obj_at n (show n < yb.length by omega)
                      have hc1 := hTz3.objs.1; have hc2 := hTz3.objs.2.1; have hc3 := hTy.objs.1; have hc4 := hTy.objs.2.1
                      have hoz := hzo _ (List.getElem_mem hnl)
                      have hny : n < yb.length := by omega
                      obtain ⟨hq1, hq2⟩ := hLo.out n _ _ (List.getElem?_eq_getElem hnl) (List.getElem?_eq_getElem (show n < yb.length by omega))
                      dsimp only at e1 e2 hA1 hA2 hC1 hC2 hc1 hc2 hc3 hc4
                      subst e1 e2
                      generalize zb[n] = p1 at hA1 hC1 hoz hq1 hq2
                      generalize yb[n] = p2 at hA2 hC2 hq1 hq2
                      obtain ⟨pl, pt⟩ := p1
                      obtain ⟨ql, qt⟩ := p2
                      dsimp only at hA1 hA2 hC1 hC2 hq1 hq2 hoz
                      subst hq1
                      have HC1 := Lib.hid (show ∀ V, Below v3.heap.size v3 V → ∀ (i : Nat) (v : Value), [Value.slice l1 ql.length k1, .string pt][i]? = some v → V.cell? ⟨b1, o1 + n * 2 + i, none⟩ = some v from fun V h i v hv => (h.cell (p := ⟨b1, o1 + n * 2 + i, none⟩) hb1).trans (hC1 i v hv))
                      have HC2 := Lib.hid (show ∀ V, Below v3.heap.size v3 V → ∀ (i : Nat) (v : Value), [Value.slice l2 ql.length k2, .string qt][i]? = some v → V.cell? ⟨b2, o2 + n * 2 + i, none⟩ = some v from fun V h i v hv => (h.cell (p := ⟨b2, o2 + n * 2 + i, none⟩) hb2).trans (hC2 i v hv))
                      have HSm := Lib.hid (fun V (h : Below v3.heap.size v3 V) => (label_Same (fun _ => True) (fun _ => True) V l1 k1 l2 k2 ql ql ((hA1.below h).okay fun _ _ => trivial) ((hA2.below h).okay fun _ _ => trivial)).mono (R' := fun e w' => e = .returned (.bool true) ∧ Below V.heap.size V w') (by rintro e w' ⟨rfl, h⟩; simp [h]))
                      have HFl := Lib.hid (fun V (h : Below v3.heap.size v3 V) => label_Flows (fun _ => True) V d1' l1 d2' e1' k1 e2' x0.label ql x0.own (by omega) (by omega) (hTt3.label.below h) ((hA1.below h).okay fun _ _ => trivial) (hTt3.own.below h))
                      have HQ := Lib.hid hq2
                      clear hA1 hA2 hC1 hC2 hq2
                      unfold maxLen at hc2 hc4
                      go_upto_region 27 with fail
                      try simp only [Act.put, List.setIfInBounds_toArray, List.set_cons_succ, List.set_cons_zero]
                      go_cut [15, 16] (fun s15 s16 wx => ∃ g15 g16 : Nat, s15 = .pointer (some ⟨g15, 0, none⟩) ∧ s16 = .pointer (some ⟨g16, 0, none⟩) ∧ St [g8, g10] v3 wx [(g8, 37, [.int .i64 xt, .bool (cm), .int .i64 cl.kind, .int .i64 cl.h, .int .i64 cl.t, .int .i64 cl.n, .int .i64 cl.c, .slice sla cl.label.length slc, .slice sga cl.grants.length sgc, .string cl.text, .int .i64 ml.host, .int .i64 ml.thread, .slice sma ml.label.length smc, .slice sna ml.grants.length snc, .string ml.text]), (g10, 53, winC pre [.slice a1 zl.length c1, .slice a2 zo.length c2, .string zt, .slice (some ⟨b1, o1, none⟩) zb.length c3, .slice a4 zm.length c4] post), (g13, 46, [.slice tla yl.length tlc, .slice toa yo.length toc, .string yt, .slice (some ⟨b2, o2, none⟩) yb.length tbc, .slice tma ym.length tmc]), (g15, 56, [.slice l1 ql.length k1, .string (pt)]), (g16, 56, [.slice l2 ql.length k2, .string qt])])
                      case first =>
                        have st := st.drew
                        have hI := st
                        refine lex_tail (by kernel_rfl) 15 1 [15] rfl (by decide +kernel) (fun V => St [g8, g10] v3 V [(g8, 37, [.int .i64 xt, .bool (cm), .int .i64 cl.kind, .int .i64 cl.h, .int .i64 cl.t, .int .i64 cl.n, .int .i64 cl.c, .slice sla cl.label.length slc, .slice sga cl.grants.length sgc, .string cl.text, .int .i64 ml.host, .int .i64 ml.thread, .slice sma ml.label.length smc, .slice sna ml.grants.length snc, .string ml.text]), (g10, 53, winC pre [.slice a1 zl.length c1, .slice a2 zo.length c2, .string zt, .slice (some ⟨b1, o1, none⟩) zb.length c3, .slice a4 zm.length c4] post), (g13, 46, [.slice tla yl.length tlc, .slice toa yo.length toc, .string yt, .slice (some ⟨b2, o2, none⟩) yb.length tbc, .slice tma ym.length tmc])]) ?_
                        refine lex_take 0 rfl (by decide +kernel) (by first | exact wanted_none rfl | exact wanted_some rfl rfl) hI (fun W hW => by first | (go_simp; done) | (go_simp; rfl)) ?_; simp only [Act.put, List.setIfInBounds_toArray, List.set_cons_succ, List.set_cons_zero]
                        refine lex_take (v := .pointer (some ⟨g10, u * 5, none⟩)) 1 rfl (by decide +kernel) (by first | exact wanted_none rfl | exact wanted_some rfl rfl) hI (fun W hW => by (first | (go_simp; done) | (go_simp; intro h; omega))) ?_; simp only [Act.put, List.setIfInBounds_toArray, List.set_cons_succ, List.set_cons_zero]
                        refine lex_take 2 rfl (by decide +kernel) (by first | exact wanted_none rfl | exact wanted_some rfl rfl) hI (fun W hW => by first | (go_simp; done) | (go_simp; rfl)) ?_; simp only [Act.put, List.setIfInBounds_toArray, List.set_cons_succ, List.set_cons_zero]
                        refine lex_take 3 rfl (by decide +kernel) (by first | exact wanted_none rfl | exact wanted_some rfl rfl) hI (fun W hW => St.run_loadW hW 1 43 _ rfl Try.isAgg43 3 hpre rfl rfl rfl) ?_; simp only [Act.put, List.setIfInBounds_toArray, List.set_cons_succ, List.set_cons_zero]
                        refine lex_take 4 rfl (by decide +kernel) (by first | exact wanted_none rfl | exact wanted_some rfl rfl) hI (fun W hW => by first | (go_simp; done) | (go_simp; rfl)) ?_; simp only [Act.put, List.setIfInBounds_toArray, List.set_cons_succ, List.set_cons_zero]
                        refine lex_take 5 rfl (by decide +kernel) (by first | exact wanted_none rfl | exact wanted_some rfl rfl) hI (fun W hW => by first | (go_simp; done) | (go_simp; rfl)) ?_; simp only [Act.put, List.setIfInBounds_toArray, List.set_cons_succ, List.set_cons_zero]
                        refine lex_take 6 rfl (by decide +kernel) (by first | exact wanted_none rfl | exact wanted_some rfl rfl) hI (fun V hV => run_load_at 56 _ rfl Try.isAgg56 _ Try.sizeOf56 b1 (o1 + n * 2) rfl [.slice l1 ql.length k1, .string pt] rfl (HC1.out V (HB.out _ _ hV (by simp)))) ?_; simp only [Act.put, List.setIfInBounds_toArray, List.set_cons_succ, List.set_cons_zero]
                        refine lex_take 7 rfl (by decide +kernel) (by first | exact wanted_none rfl | exact wanted_some rfl rfl) hI (fun W hW => by first | (go_simp; done) | (go_simp; rfl)) ?_; simp only [Act.put, List.setIfInBounds_toArray, List.set_cons_succ, List.set_cons_zero]
                        refine lex_take 8 rfl (by decide +kernel) (by first | exact wanted_none rfl | exact wanted_some rfl rfl) hI (fun W hW => St.run_load hW 2 43 _ rfl Try.isAgg43 rfl rfl rfl) ?_; simp only [Act.put, List.setIfInBounds_toArray, List.set_cons_succ, List.set_cons_zero]
                        refine lex_take 9 rfl (by decide +kernel) (by first | exact wanted_none rfl | exact wanted_some rfl rfl) hI (fun W hW => by first | (go_simp; done) | (go_simp; rfl)) ?_; simp only [Act.put, List.setIfInBounds_toArray, List.set_cons_succ, List.set_cons_zero]
                        refine lex_take 10 rfl (by decide +kernel) (by first | exact wanted_none rfl | exact wanted_some rfl rfl) hI (fun W hW => by first | (go_simp; done) | (go_simp; rfl)) ?_; simp only [Act.put, List.setIfInBounds_toArray, List.set_cons_succ, List.set_cons_zero]
                        refine lex_take 11 rfl (by decide +kernel) (by first | exact wanted_none rfl | exact wanted_some rfl rfl) hI (fun V hV => run_load_at 56 _ rfl Try.isAgg56 _ Try.sizeOf56 b2 (o2 + n * 2) rfl [.slice l2 ql.length k2, .string qt] rfl (HC2.out V (HB.out _ _ hV (by simp)))) ?_; simp only [Act.put, List.setIfInBounds_toArray, List.set_cons_succ, List.set_cons_zero]
                        clear hI
                        refine lex_each [12, 13] (by decide +kernel) (by decide) ?_; intro i hi K hK; simp only [List.mem_cons, List.not_mem_nil, or_false] at hi; rcases hi with rfl | rfl <;> refine ⟨_, rfl, (by first | exact wanted_none rfl | exact wanted_some rfl rfl), ?_⟩
                        · refine wp_alloc st 56 rfl _ Try.zeroValue56 _ rfl ?_; clear st; intro g15 w15 hg15 st hg15b; simp [Act.eval, Act.put, Value.cells, putL] at st
                          clear hg15b
                          refine hK _ _ (st.take 3) ?_; clear hK; simp only [Act.put, List.setIfInBounds_toArray, List.set_cons_succ, List.set_cons_zero]
                          refine lex_only 13 rfl (by decide +kernel) (by first | exact wanted_none rfl | exact wanted_some rfl rfl) fun K hK => ?_
                          refine wp_alloc st 56 rfl _ Try.zeroValue56 _ rfl ?_; clear st; intro g16 w16 hg16 st hg16b; simp [Act.eval, Act.put, Value.cells, putL] at st
                          clear hg16b
                          refine hK _ _ (st.take 3) ?_; clear hK; simp only [Act.put, List.setIfInBounds_toArray, List.set_cons_succ, List.set_cons_zero]
                          refine lex_only 14 rfl (by decide +kernel) (by first | exact wanted_none rfl | exact wanted_some rfl rfl) fun K hK => ?_
                          refine wp_store' st 56 _ _ rfl _ Try.sizeOf56 ⟨3, _, _, _, _, _, rfl, rfl, rfl, rfl, rfl, rfl, ?_⟩; clear st; intro w17 st hw17m hw17z; simp [Act.eval, Act.put, Value.cells, putL] at st
                          refine hK _ _ (st.take 3) ?_; clear hK; simp only [Act.put, List.setIfInBounds_toArray, List.set_cons_succ, List.set_cons_zero]
                          refine lex_done (by decide +kernel) ?_
                          refine tail_last 15 rfl (by first | exact wanted_none rfl | exact wanted_some rfl rfl) (by decide +kernel) (by decide +kernel) fun K hK => ?_
                          refine wp_store' st 56 _ _ rfl _ Try.sizeOf56 ⟨4, _, _, _, _, _, rfl, rfl, rfl, rfl, rfl, rfl, ?_⟩; clear st; intro w18 st hw18m hw18z; simp [Act.eval, Act.put, Value.cells, putL] at st
                          refine hK _ _ ?_; clear hK
                          go_wp2_with fail
                          go_meet
                          exact ⟨g15, g16, rfl, rfl, st⟩
                        · refine wp_alloc st 56 rfl _ Try.zeroValue56 _ rfl ?_; clear st; intro g16 w16 hg16 st hg16b; simp [Act.eval, Act.put, Value.cells, putL] at st
                          clear hg16b
                          refine hK _ _ (st.take 3) ?_; clear hK; simp only [Act.put, List.setIfInBounds_toArray, List.set_cons_succ, List.set_cons_zero]
                          refine lex_only 12 rfl (by decide +kernel) (by first | exact wanted_none rfl | exact wanted_some rfl rfl) fun K hK => ?_
                          refine wp_alloc st 56 rfl _ Try.zeroValue56 _ rfl ?_; clear st; intro g15 w15 hg15 st hg15b; simp [Act.eval, Act.put, Value.cells, putL] at st
                          clear hg15b
                          refine hK _ _ (st.take 3) ?_; clear hK; simp only [Act.put, List.setIfInBounds_toArray, List.set_cons_succ, List.set_cons_zero]
                          refine lex_only 14 rfl (by decide +kernel) (by first | exact wanted_none rfl | exact wanted_some rfl rfl) fun K hK => ?_
                          refine wp_store' st 56 _ _ rfl _ Try.sizeOf56 ⟨4, _, _, _, _, _, rfl, rfl, rfl, rfl, rfl, rfl, ?_⟩; clear st; intro w17 st hw17m hw17z; simp [Act.eval, Act.put, Value.cells, putL] at st
                          refine hK _ _ (st.take 3) ?_; clear hK; simp only [Act.put, List.setIfInBounds_toArray, List.set_cons_succ, List.set_cons_zero]
                          refine lex_done (by decide +kernel) ?_
                          refine tail_last 15 rfl (by first | exact wanted_none rfl | exact wanted_some rfl rfl) (by decide +kernel) (by decide +kernel) fun K hK => ?_
                          refine wp_store' st 56 _ _ rfl _ Try.sizeOf56 ⟨3, _, _, _, _, _, rfl, rfl, rfl, rfl, rfl, rfl, ?_⟩; clear st; intro w18 st hw18m hw18z; simp [Act.eval, Act.put, Value.cells, putL] at st
                          refine hK _ _ ?_; clear hK
                          go_wp2_with fail
                          go_meet
                          exact ⟨g15, g16, rfl, rfl, st.perm (((List.Perm.swap _ _ _).cons _).cons _ |>.cons _)⟩
                      case rest =>
                        clear st HC1 HC2
                        obtain ⟨g15, g16, rfl, rfl, st⟩ := hcut
                        by_cases hte : qt = pt
                        · subst hte
                          clear HQ
                          go_wp2_with fail
                          refine det_region (by kernel_rfl) 37 rfl (fun V => St [g8, g10] v3 V [(g8, 37, [.int .i64 xt, .bool (cm), .int .i64 cl.kind, .int .i64 cl.h, .int .i64 cl.t, .int .i64 cl.n, .int .i64 cl.c, .slice sla cl.label.length slc, .slice sga cl.grants.length sgc, .string cl.text, .int .i64 ml.host, .int .i64 ml.thread, .slice sma ml.label.length smc, .slice sna ml.grants.length snc, .string ml.text]), (g10, 53, winC pre [.slice a1 zl.length c1, .slice a2 zo.length c2, .string zt, .slice (some ⟨b1, o1, none⟩) zb.length c3, .slice a4 zm.length c4] post), (g13, 46, [.slice tla yl.length tlc, .slice toa yo.length toc, .string yt, .slice (some ⟨b2, o2, none⟩) yb.length tbc, .slice tma ym.length tmc]), (g15, 56, [.slice l1 ql.length k1, .string (qt)]), (g16, 56, [.slice l2 ql.length k2, .string qt])]) (st.drew) (by decide +kernel) ?_
                          refine det_take 0 rfl (by decide +kernel) (by first | exact wanted_none rfl | exact wanted_some rfl rfl) (fun W hW => by first | (go_simp; done) | (go_simp; rfl)) ?_; simp only [Act.put, List.setIfInBounds_toArray, List.set_cons_succ, List.set_cons_zero]
                          refine det_take 1 rfl (by decide +kernel) (by first | exact wanted_none rfl | exact wanted_some rfl rfl) (fun W hW => St.run_load hW 3 24 _ rfl Try.isAgg24 rfl rfl rfl) ?_; simp only [Act.put, List.setIfInBounds_toArray, List.set_cons_succ, List.set_cons_zero]
                          refine det_take 2 rfl (by decide +kernel) (by first | exact wanted_none rfl | exact wanted_some rfl rfl) (fun W hW => by first | (go_simp; done) | (go_simp; rfl)) ?_; simp only [Act.put, List.setIfInBounds_toArray, List.set_cons_succ, List.set_cons_zero]
                          refine det_take 3 rfl (by decide +kernel) (by first | exact wanted_none rfl | exact wanted_some rfl rfl) (fun W hW => St.run_load hW 4 24 _ rfl Try.isAgg24 rfl rfl rfl) ?_; simp only [Act.put, List.setIfInBounds_toArray, List.set_cons_succ, List.set_cons_zero]
                          refine det_call (fn := 16) 4 rfl (by decide +kernel) (by first | exact wanted_none rfl | exact wanted_some rfl rfl) (fun W => by first | (go_simp; done) | (go_simp; rfl)) (fun W hW => (HSm.out W (HB.out W _ hW (by simp))).mono fun e w' h => ⟨h.1, hW.call h.2⟩) ?_; simp only [Act.put, List.setIfInBounds_toArray, List.set_cons_succ, List.set_cons_zero]
                          refine det_take 5 rfl (by decide +kernel) (by first | exact wanted_none rfl | exact wanted_some rfl rfl) (fun W hW => by first | (go_simp; done) | (go_simp; rfl)) ?_; simp only [Act.put, List.setIfInBounds_toArray, List.set_cons_succ, List.set_cons_zero]; refine det_take 6 rfl (by decide +kernel) (by first | exact wanted_none rfl | exact wanted_some rfl rfl) (fun W hW => by first | (go_simp; done) | (go_simp; rfl)) ?_; simp only [Act.put, List.setIfInBounds_toArray, List.set_cons_succ, List.set_cons_zero]; refine det_take 7 rfl (by decide +kernel) (by first | exact wanted_none rfl | exact wanted_some rfl rfl) (fun W hW => by first | (go_simp; done) | (go_simp; rfl)) ?_; simp only [Act.put, List.setIfInBounds_toArray, List.set_cons_succ, List.set_cons_zero]
                          refine det_take 8 rfl (by decide +kernel) (by first | exact wanted_none rfl | exact wanted_some rfl rfl) (fun W hW => St.run_load hW 3 9 _ rfl Try.isAgg9 rfl rfl rfl) ?_; simp only [Act.put, List.setIfInBounds_toArray, List.set_cons_succ, List.set_cons_zero]
                          refine det_take 9 rfl (by decide +kernel) (by first | exact wanted_none rfl | exact wanted_some rfl rfl) (fun W hW => by first | (go_simp; done) | (go_simp; rfl)) ?_; simp only [Act.put, List.setIfInBounds_toArray, List.set_cons_succ, List.set_cons_zero]
                          refine det_take 10 rfl (by decide +kernel) (by first | exact wanted_none rfl | exact wanted_some rfl rfl) (fun W hW => St.run_load hW 4 9 _ rfl Try.isAgg9 rfl rfl rfl) ?_; simp only [Act.put, List.setIfInBounds_toArray, List.set_cons_succ, List.set_cons_zero]
                          refine det_take (v := .bool false) 11 rfl (by decide +kernel) (by first | exact wanted_none rfl | exact wanted_some rfl rfl) (fun W hW => by (go_simp; done)) ?_; simp only [Act.put, List.setIfInBounds_toArray, List.set_cons_succ, List.set_cons_zero]
                          refine det_take 12 rfl (by decide +kernel) (by first | exact wanted_none rfl | exact wanted_some rfl rfl) (fun W hW => by first | (go_simp; done) | (go_simp; rfl)) ?_; simp only [Act.put, List.setIfInBounds_toArray, List.set_cons_succ, List.set_cons_zero]
                          refine det_skip 13 rfl (by decide +kernel) (by first | (simp [Region.wanted, yielded]; done) | (simp [Region.wanted, yielded, undef]; done)) ?_; simp only [Act.put, List.setIfInBounds_toArray, List.set_cons_succ, List.set_cons_zero]; refine det_skip 14 rfl (by decide +kernel) (by first | (simp [Region.wanted, yielded]; done) | (simp [Region.wanted, yielded, undef]; done)) ?_; simp only [Act.put, List.setIfInBounds_toArray, List.set_cons_succ, List.set_cons_zero]; refine det_skip 15 rfl (by decide +kernel) (by first | (simp [Region.wanted, yielded]; done) | (simp [Region.wanted, yielded, undef]; done)) ?_; simp only [Act.put, List.setIfInBounds_toArray, List.set_cons_succ, List.set_cons_zero]; refine det_skip 16 rfl (by decide +kernel) (by first | (simp [Region.wanted, yielded]; done) | (simp [Region.wanted, yielded, undef]; done)) ?_; simp only [Act.put, List.setIfInBounds_toArray, List.set_cons_succ, List.set_cons_zero]; refine det_skip 17 rfl (by decide +kernel) (by first | (simp [Region.wanted, yielded]; done) | (simp [Region.wanted, yielded, undef]; done)) ?_; simp only [Act.put, List.setIfInBounds_toArray, List.set_cons_succ, List.set_cons_zero]; refine det_skip 18 rfl (by decide +kernel) (by first | (simp [Region.wanted, yielded]; done) | (simp [Region.wanted, yielded, undef]; done)) ?_; simp only [Act.put, List.setIfInBounds_toArray, List.set_cons_succ, List.set_cons_zero]; refine det_skip 19 rfl (by decide +kernel) (by first | (simp [Region.wanted, yielded]; done) | (simp [Region.wanted, yielded, undef]; done)) ?_; simp only [Act.put, List.setIfInBounds_toArray, List.set_cons_succ, List.set_cons_zero]; refine det_skip 20 rfl (by decide +kernel) (by first | (simp [Region.wanted, yielded]; done) | (simp [Region.wanted, yielded, undef]; done)) ?_; simp only [Act.put, List.setIfInBounds_toArray, List.set_cons_succ, List.set_cons_zero]; refine det_skip 21 rfl (by decide +kernel) (by first | (simp [Region.wanted, yielded]; done) | (simp [Region.wanted, yielded, undef]; done)) ?_; simp only [Act.put, List.setIfInBounds_toArray, List.set_cons_succ, List.set_cons_zero]; refine det_skip 22 rfl (by decide +kernel) (by first | (simp [Region.wanted, yielded]; done) | (simp [Region.wanted, yielded, undef]; done)) ?_; simp only [Act.put, List.setIfInBounds_toArray, List.set_cons_succ, List.set_cons_zero]; refine det_skip 23 rfl (by decide +kernel) (by first | (simp [Region.wanted, yielded]; done) | (simp [Region.wanted, yielded, undef]; done)) ?_; simp only [Act.put, List.setIfInBounds_toArray, List.set_cons_succ, List.set_cons_zero]; refine det_skip 24 rfl (by decide +kernel) (by first | (simp [Region.wanted, yielded]; done) | (simp [Region.wanted, yielded, undef]; done)) ?_; simp only [Act.put, List.setIfInBounds_toArray, List.set_cons_succ, List.set_cons_zero]; refine det_skip 25 rfl (by decide +kernel) (by first | (simp [Region.wanted, yielded]; done) | (simp [Region.wanted, yielded, undef]; done)) ?_; simp only [Act.put, List.setIfInBounds_toArray, List.set_cons_succ, List.set_cons_zero]; refine det_skip 26 rfl (by decide +kernel) (by first | (simp [Region.wanted, yielded]; done) | (simp [Region.wanted, yielded, undef]; done)) ?_; simp only [Act.put, List.setIfInBounds_toArray, List.set_cons_succ, List.set_cons_zero]; refine det_skip 27 rfl (by decide +kernel) (by first | (simp [Region.wanted, yielded]; done) | (simp [Region.wanted, yielded, undef]; done)) ?_; simp only [Act.put, List.setIfInBounds_toArray, List.set_cons_succ, List.set_cons_zero]; refine det_skip 28 rfl (by decide +kernel) (by first | (simp [Region.wanted, yielded]; done) | (simp [Region.wanted, yielded, undef]; done)) ?_; simp only [Act.put, List.setIfInBounds_toArray, List.set_cons_succ, List.set_cons_zero]; refine det_skip 29 rfl (by decide +kernel) (by first | (simp [Region.wanted, yielded]; done) | (simp [Region.wanted, yielded, undef]; done)) ?_; simp only [Act.put, List.setIfInBounds_toArray, List.set_cons_succ, List.set_cons_zero]; refine det_skip 30 rfl (by decide +kernel) (by first | (simp [Region.wanted, yielded]; done) | (simp [Region.wanted, yielded, undef]; done)) ?_; simp only [Act.put, List.setIfInBounds_toArray, List.set_cons_succ, List.set_cons_zero]; refine det_skip 31 rfl (by decide +kernel) (by first | (simp [Region.wanted, yielded]; done) | (simp [Region.wanted, yielded, undef]; done)) ?_; simp only [Act.put, List.setIfInBounds_toArray, List.set_cons_succ, List.set_cons_zero]; refine det_skip 32 rfl (by decide +kernel) (by first | (simp [Region.wanted, yielded]; done) | (simp [Region.wanted, yielded, undef]; done)) ?_; simp only [Act.put, List.setIfInBounds_toArray, List.set_cons_succ, List.set_cons_zero]; refine det_skip 33 rfl (by decide +kernel) (by first | (simp [Region.wanted, yielded]; done) | (simp [Region.wanted, yielded, undef]; done)) ?_; simp only [Act.put, List.setIfInBounds_toArray, List.set_cons_succ, List.set_cons_zero]; refine det_skip 34 rfl (by decide +kernel) (by first | (simp [Region.wanted, yielded]; done) | (simp [Region.wanted, yielded, undef]; done)) ?_; simp only [Act.put, List.setIfInBounds_toArray, List.set_cons_succ, List.set_cons_zero]
                          refine det_take 35 rfl (by decide +kernel) (by first | exact wanted_none rfl | exact wanted_some rfl rfl) (fun W hW => by first | (go_simp; done) | (go_simp; rfl)) ?_; simp only [Act.put, List.setIfInBounds_toArray, List.set_cons_succ, List.set_cons_zero]; refine det_take 36 rfl (by decide +kernel) (by first | exact wanted_none rfl | exact wanted_some rfl rfl) (fun W hW => by first | (go_simp; done) | (go_simp; rfl)) ?_; simp only [Act.put, List.setIfInBounds_toArray, List.set_cons_succ, List.set_cons_zero]
                          refine det_done (by decide +kernel) ?_
                          clear st
                          intro V2 st
                          go_wp2_with fail
                          have stn := st.sub (own' := [(g8, 37, [.int .i64 xt, .bool (cm), .int .i64 cl.kind, .int .i64 cl.h, .int .i64 cl.t, .int .i64 cl.n, .int .i64 cl.c, .slice sla cl.label.length slc, .slice sga cl.grants.length sgc, .string cl.text, .int .i64 ml.host, .int .i64 ml.thread, .slice sma ml.label.length smc, .slice sna ml.grants.length snc, .string ml.text]), (g10, 53, winC pre [.slice a1 zl.length c1, .slice a2 zo.length c2, .string zt, .slice (some ⟨b1, o1, none⟩) zb.length c3, .slice a4 zm.length c4] post), (g13, 46, [.slice tla yl.length tlc, .slice toa yo.length toc, .string yt, .slice (some ⟨b2, o2, none⟩) yb.length tbc, .slice tma ym.length tmc])]) (by simp) (by have := st.ne; simp only [List.pairwise_cons, List.mem_cons, List.not_mem_nil, or_false, forall_eq_or_imp, forall_eq] at this ⊢; simp [this])
                          go_roundw
                          case rel => first | exact ⟨n + 1, hnl, by go_num, stn⟩ | ((repeat apply Exists.intro); exact ⟨⟨n + 1, hnl, by go_num, stn⟩, rfl⟩)
                          case measure => simp [intOf]; omega
                        · obtain ⟨rfl, hkd, hfl⟩ := HQ.out.resolve_left hte
                          clear HQ
                          have HF2 := Lib.hid (fun V (h : Below v3.heap.size v3 V) => (HFl.out V h).mono (R' := fun e w' => e = .returned (.bool true) ∧ Below V.heap.size V w') (by rintro e w' ⟨rfl, h⟩; rw [hfl]; exact ⟨rfl, h⟩))
                          have dt : (pt.toList == qt.toList) = false := by
                            simpa using (show ¬ pt.toList = qt.toList from fun h => hte (by rw [ByteArray.toList_eq, ByteArray.toList_eq] at h; exact (ByteArray.ext (Array.toList_inj.1 h)).symm))
                          have HK3 := Lib.hid hkd
                          clear hte hfl hkd HFl
                          go_wp2_with fail
                          refine det_region (by kernel_rfl) 37 rfl (fun V => St [g8, g10] v3 V [(g8, 37, [.int .i64 xt, .bool (false), .int .i64 cl.kind, .int .i64 cl.h, .int .i64 cl.t, .int .i64 cl.n, .int .i64 cl.c, .slice sla cl.label.length slc, .slice sga cl.grants.length sgc, .string cl.text, .int .i64 ml.host, .int .i64 ml.thread, .slice sma ml.label.length smc, .slice sna ml.grants.length snc, .string ml.text]), (g10, 53, winC pre [.slice a1 zl.length c1, .slice a2 zo.length c2, .string zt, .slice (some ⟨b1, o1, none⟩) zb.length c3, .slice a4 zm.length c4] post), (g13, 46, [.slice tla yl.length tlc, .slice toa yo.length toc, .string yt, .slice (some ⟨b2, o2, none⟩) yb.length tbc, .slice tma ym.length tmc]), (g15, 56, [.slice l1 ql.length k1, .string (pt)]), (g16, 56, [.slice l2 ql.length k2, .string qt])]) (st.drew) (by decide +kernel) ?_
                          refine det_take 0 rfl (by decide +kernel) (by first | exact wanted_none rfl | exact wanted_some rfl rfl) (fun W hW => by first | (go_simp; done) | (go_simp; rfl)) ?_; simp only [Act.put, List.setIfInBounds_toArray, List.set_cons_succ, List.set_cons_zero]
                          refine det_take 1 rfl (by decide +kernel) (by first | exact wanted_none rfl | exact wanted_some rfl rfl) (fun W hW => St.run_load hW 3 24 _ rfl Try.isAgg24 rfl rfl rfl) ?_; simp only [Act.put, List.setIfInBounds_toArray, List.set_cons_succ, List.set_cons_zero]
                          refine det_take 2 rfl (by decide +kernel) (by first | exact wanted_none rfl | exact wanted_some rfl rfl) (fun W hW => by first | (go_simp; done) | (go_simp; rfl)) ?_; simp only [Act.put, List.setIfInBounds_toArray, List.set_cons_succ, List.set_cons_zero]
                          refine det_take 3 rfl (by decide +kernel) (by first | exact wanted_none rfl | exact wanted_some rfl rfl) (fun W hW => St.run_load hW 4 24 _ rfl Try.isAgg24 rfl rfl rfl) ?_; simp only [Act.put, List.setIfInBounds_toArray, List.set_cons_succ, List.set_cons_zero]
                          refine det_call (fn := 16) 4 rfl (by decide +kernel) (by first | exact wanted_none rfl | exact wanted_some rfl rfl) (fun W => by first | (go_simp; done) | (go_simp; rfl)) (fun W hW => (HSm.out W (HB.out W _ hW (by simp))).mono fun e w' h => ⟨h.1, hW.call h.2⟩) ?_; simp only [Act.put, List.setIfInBounds_toArray, List.set_cons_succ, List.set_cons_zero]
                          refine det_take 5 rfl (by decide +kernel) (by first | exact wanted_none rfl | exact wanted_some rfl rfl) (fun W hW => by first | (go_simp; done) | (go_simp; rfl)) ?_; simp only [Act.put, List.setIfInBounds_toArray, List.set_cons_succ, List.set_cons_zero]; refine det_take 6 rfl (by decide +kernel) (by first | exact wanted_none rfl | exact wanted_some rfl rfl) (fun W hW => by first | (go_simp; done) | (go_simp; rfl)) ?_; simp only [Act.put, List.setIfInBounds_toArray, List.set_cons_succ, List.set_cons_zero]; refine det_take 7 rfl (by decide +kernel) (by first | exact wanted_none rfl | exact wanted_some rfl rfl) (fun W hW => by first | (go_simp; done) | (go_simp; rfl)) ?_; simp only [Act.put, List.setIfInBounds_toArray, List.set_cons_succ, List.set_cons_zero]
                          refine det_take 8 rfl (by decide +kernel) (by first | exact wanted_none rfl | exact wanted_some rfl rfl) (fun W hW => St.run_load hW 3 9 _ rfl Try.isAgg9 rfl rfl rfl) ?_; simp only [Act.put, List.setIfInBounds_toArray, List.set_cons_succ, List.set_cons_zero]
                          refine det_take 9 rfl (by decide +kernel) (by first | exact wanted_none rfl | exact wanted_some rfl rfl) (fun W hW => by first | (go_simp; done) | (go_simp; rfl)) ?_; simp only [Act.put, List.setIfInBounds_toArray, List.set_cons_succ, List.set_cons_zero]
                          refine det_take 10 rfl (by decide +kernel) (by first | exact wanted_none rfl | exact wanted_some rfl rfl) (fun W hW => St.run_load hW 4 9 _ rfl Try.isAgg9 rfl rfl rfl) ?_; simp only [Act.put, List.setIfInBounds_toArray, List.set_cons_succ, List.set_cons_zero]
                          refine det_take (v := .bool true) 11 rfl (by decide +kernel) (by first | exact wanted_none rfl | exact wanted_some rfl rfl) (fun W hW => by (first | (go_simp; done) | (go_simp; simp [dt]))) ?_; simp only [Act.put, List.setIfInBounds_toArray, List.set_cons_succ, List.set_cons_zero]
                          refine det_take 12 rfl (by decide +kernel) (by first | exact wanted_none rfl | exact wanted_some rfl rfl) (fun W hW => by first | (go_simp; done) | (go_simp; rfl)) ?_; simp only [Act.put, List.setIfInBounds_toArray, List.set_cons_succ, List.set_cons_zero]; refine det_take 13 rfl (by decide +kernel) (by first | exact wanted_none rfl | exact wanted_some rfl rfl) (fun W hW => by first | (go_simp; done) | (go_simp; rfl)) ?_; simp only [Act.put, List.setIfInBounds_toArray, List.set_cons_succ, List.set_cons_zero]
                          refine det_take 14 rfl (by decide +kernel) (by first | exact wanted_none rfl | exact wanted_some rfl rfl) (fun W hW => St.run_load hW 0 4 _ rfl Try.isAgg4 rfl rfl rfl) ?_; simp only [Act.put, List.setIfInBounds_toArray, List.set_cons_succ, List.set_cons_zero]
                          refine det_take 15 rfl (by decide +kernel) (by first | exact wanted_none rfl | exact wanted_some rfl rfl) (fun W hW => by first | (go_simp; done) | (go_simp; rfl)) ?_; simp only [Act.put, List.setIfInBounds_toArray, List.set_cons_succ, List.set_cons_zero]; refine det_take 16 rfl (by decide +kernel) (by first | exact wanted_none rfl | exact wanted_some rfl rfl) (fun W hW => by first | (go_simp; done) | (go_simp; rfl)) ?_; simp only [Act.put, List.setIfInBounds_toArray, List.set_cons_succ, List.set_cons_zero]; refine det_take 17 rfl (by decide +kernel) (by first | exact wanted_none rfl | exact wanted_some rfl rfl) (fun W hW => by first | (go_simp; done) | (go_simp; rfl)) ?_; simp only [Act.put, List.setIfInBounds_toArray, List.set_cons_succ, List.set_cons_zero]
                          refine det_take 18 rfl (by decide +kernel) (by first | exact wanted_none rfl | exact wanted_some rfl rfl) (fun W hW => St.run_load hW 0 3 _ rfl Try.isAgg3 rfl rfl rfl) ?_; simp only [Act.put, List.setIfInBounds_toArray, List.set_cons_succ, List.set_cons_zero]
                          refine det_take (v := .bool false) 19 rfl (by decide +kernel) (by first | exact wanted_none rfl | exact wanted_some rfl rfl) (fun W hW => by (have h3 := HK3.out; first | (go_simp; done) | (go_simp; simp [h3]))) ?_; simp only [Act.put, List.setIfInBounds_toArray, List.set_cons_succ, List.set_cons_zero]
                          refine det_take 20 rfl (by decide +kernel) (by first | exact wanted_none rfl | exact wanted_some rfl rfl) (fun W hW => by first | (go_simp; done) | (go_simp; rfl)) ?_; simp only [Act.put, List.setIfInBounds_toArray, List.set_cons_succ, List.set_cons_zero]; refine det_take 21 rfl (by decide +kernel) (by first | exact wanted_none rfl | exact wanted_some rfl rfl) (fun W hW => by first | (go_simp; done) | (go_simp; rfl)) ?_; simp only [Act.put, List.setIfInBounds_toArray, List.set_cons_succ, List.set_cons_zero]; refine det_take 22 rfl (by decide +kernel) (by first | exact wanted_none rfl | exact wanted_some rfl rfl) (fun W hW => by first | (go_simp; done) | (go_simp; rfl)) ?_; simp only [Act.put, List.setIfInBounds_toArray, List.set_cons_succ, List.set_cons_zero]
                          refine det_take (v := .pointer (some ⟨g10, t * 5, none⟩)) 23 rfl (by decide +kernel) (by first | exact wanted_none rfl | exact wanted_some rfl rfl) (fun W hW => by (first | (go_simp; done) | (go_simp; intro h; omega))) ?_; simp only [Act.put, List.setIfInBounds_toArray, List.set_cons_succ, List.set_cons_zero]
                          refine det_take 24 rfl (by decide +kernel) (by first | exact wanted_none rfl | exact wanted_some rfl rfl) (fun W hW => by first | (go_simp; done) | (go_simp; rfl)) ?_; simp only [Act.put, List.setIfInBounds_toArray, List.set_cons_succ, List.set_cons_zero]
                          refine det_take (v := .slice d1' x0.label.length e1') 25 rfl (by decide +kernel) (by first | exact wanted_none rfl | exact wanted_some rfl rfl) (fun W hW => run_load_one 24 _ rfl Try.isAgg24 g10 (t * 5) rfl _ (HCt.out W _ hW (by simp) 0 _ rfl)) ?_; simp only [Act.put, List.setIfInBounds_toArray, List.set_cons_succ, List.set_cons_zero]
                          refine det_take 26 rfl (by decide +kernel) (by first | exact wanted_none rfl | exact wanted_some rfl rfl) (fun W hW => by first | (go_simp; done) | (go_simp; rfl)) ?_; simp only [Act.put, List.setIfInBounds_toArray, List.set_cons_succ, List.set_cons_zero]
                          refine det_take 27 rfl (by decide +kernel) (by first | exact wanted_none rfl | exact wanted_some rfl rfl) (fun W hW => St.run_load hW 3 24 _ rfl Try.isAgg24 rfl rfl rfl) ?_; simp only [Act.put, List.setIfInBounds_toArray, List.set_cons_succ, List.set_cons_zero]
                          refine det_take 28 rfl (by decide +kernel) (by first | exact wanted_none rfl | exact wanted_some rfl rfl) (fun W hW => by first | (go_simp; done) | (go_simp; rfl)) ?_; simp only [Act.put, List.setIfInBounds_toArray, List.set_cons_succ, List.set_cons_zero]
                          refine det_take (v := .pointer (some ⟨g10, t * 5, none⟩)) 29 rfl (by decide +kernel) (by first | exact wanted_none rfl | exact wanted_some rfl rfl) (fun W hW => by (first | (go_simp; done) | (go_simp; intro h; omega))) ?_; simp only [Act.put, List.setIfInBounds_toArray, List.set_cons_succ, List.set_cons_zero]
                          refine det_take 30 rfl (by decide +kernel) (by first | exact wanted_none rfl | exact wanted_some rfl rfl) (fun W hW => by first | (go_simp; done) | (go_simp; rfl)) ?_; simp only [Act.put, List.setIfInBounds_toArray, List.set_cons_succ, List.set_cons_zero]
                          refine det_take (v := .slice d2' x0.own.length e2') 31 rfl (by decide +kernel) (by first | exact wanted_none rfl | exact wanted_some rfl rfl) (fun W hW => run_load_one 25 _ rfl Try.isAgg25 g10 (t * 5 + 1) rfl _ (HCt.out W _ hW (by simp) 1 _ rfl)) ?_; simp only [Act.put, List.setIfInBounds_toArray, List.set_cons_succ, List.set_cons_zero]
                          refine det_call (fn := 15) 32 rfl (by decide +kernel) (by first | exact wanted_none rfl | exact wanted_some rfl rfl) (fun W => by first | (go_simp; done) | (go_simp; rfl)) (fun W hW => (HF2.out W (HB.out W _ hW (by simp))).mono fun e w' h => ⟨h.1, hW.call h.2⟩) ?_; simp only [Act.put, List.setIfInBounds_toArray, List.set_cons_succ, List.set_cons_zero]
                          refine det_take 33 rfl (by decide +kernel) (by first | exact wanted_none rfl | exact wanted_some rfl rfl) (fun W hW => by first | (go_simp; done) | (go_simp; rfl)) ?_; simp only [Act.put, List.setIfInBounds_toArray, List.set_cons_succ, List.set_cons_zero]; refine det_take 34 rfl (by decide +kernel) (by first | exact wanted_none rfl | exact wanted_some rfl rfl) (fun W hW => by first | (go_simp; done) | (go_simp; rfl)) ?_; simp only [Act.put, List.setIfInBounds_toArray, List.set_cons_succ, List.set_cons_zero]; refine det_take 35 rfl (by decide +kernel) (by first | exact wanted_none rfl | exact wanted_some rfl rfl) (fun W hW => by first | (go_simp; done) | (go_simp; rfl)) ?_; simp only [Act.put, List.setIfInBounds_toArray, List.set_cons_succ, List.set_cons_zero]; refine det_take 36 rfl (by decide +kernel) (by first | exact wanted_none rfl | exact wanted_some rfl rfl) (fun W hW => by first | (go_simp; done) | (go_simp; rfl)) ?_; simp only [Act.put, List.setIfInBounds_toArray, List.set_cons_succ, List.set_cons_zero]
                          refine det_done (by decide +kernel) ?_
                          clear st
                          intro V2 st
                          go_wp2_with fail
                          have stn := st.sub (own' := [(g8, 37, [.int .i64 xt, .bool (false), .int .i64 cl.kind, .int .i64 cl.h, .int .i64 cl.t, .int .i64 cl.n, .int .i64 cl.c, .slice sla cl.label.length slc, .slice sga cl.grants.length sgc, .string cl.text, .int .i64 ml.host, .int .i64 ml.thread, .slice sma ml.label.length smc, .slice sna ml.grants.length snc, .string ml.text]), (g10, 53, winC pre [.slice a1 zl.length c1, .slice a2 zo.length c2, .string zt, .slice (some ⟨b1, o1, none⟩) zb.length c3, .slice a4 zm.length c4] post), (g13, 46, [.slice tla yl.length tlc, .slice toa yo.length toc, .string yt, .slice (some ⟨b2, o2, none⟩) yb.length tbc, .slice tma ym.length tmc])]) (by simp) (by have := st.ne; simp only [List.pairwise_cons, List.mem_cons, List.not_mem_nil, or_false, forall_eq_or_imp, forall_eq] at this ⊢; simp [this])
                          go_roundw
                          case rel => first | exact ⟨n + 1, hnl, by go_num, stn⟩ | ((repeat apply Exists.intro); exact ⟨⟨n + 1, hnl, by go_num, stn⟩, rfl⟩)
                          case measure => simp [intOf]; omega
                    · have d5 : decide ((n : Int) < zb.length) = false := by simp; omega
                      clear hLo HCt
                      by_cases hut : u = t
                      · have d6 : ((u : Int) != (t : Int)) = false := by simp [hut]
                        clear hut hLn
                        go_wp2_with fail
                        refine det_region (by kernel_rfl) 43 rfl (fun V => St [g8, g10] v3 V [(g8, 37, [.int .i64 xt, .bool (cm), .int .i64 cl.kind, .int .i64 cl.h, .int .i64 cl.t, .int .i64 cl.n, .int .i64 cl.c, .slice sla cl.label.length slc, .slice sga cl.grants.length sgc, .string cl.text, .int .i64 ml.host, .int .i64 ml.thread, .slice sma ml.label.length smc, .slice sna ml.grants.length snc, .string ml.text]), (g10, 53, winC pre [.slice a1 zl.length c1, .slice a2 zo.length c2, .string zt, .slice (a3) zb.length c3, .slice a4 zm.length c4] post), (g13, 46, [.slice tla yl.length tlc, .slice toa yo.length toc, .string yt, .slice (tba) yb.length tbc, .slice tma ym.length tmc])]) (st.drew) (by decide +kernel) ?_
                        refine det_take 0 rfl (by decide +kernel) (by first | exact wanted_none rfl | exact wanted_some rfl rfl) (fun W hW => by first | (go_simp; done) | (go_simp; rfl)) ?_; simp only [Act.put, List.setIfInBounds_toArray, List.set_cons_succ, List.set_cons_zero]; refine det_take 1 rfl (by decide +kernel) (by first | exact wanted_none rfl | exact wanted_some rfl rfl) (fun W hW => by first | (go_simp; done) | (go_simp; rfl)) ?_; simp only [Act.put, List.setIfInBounds_toArray, List.set_cons_succ, List.set_cons_zero]; refine det_take 2 rfl (by decide +kernel) (by first | exact wanted_none rfl | exact wanted_some rfl rfl) (fun W hW => by first | (go_simp; done) | (go_simp; rfl)) ?_; simp only [Act.put, List.setIfInBounds_toArray, List.set_cons_succ, List.set_cons_zero]; refine det_take 3 rfl (by decide +kernel) (by first | exact wanted_none rfl | exact wanted_some rfl rfl) (fun W hW => by first | (go_simp; done) | (go_simp; rfl)) ?_; simp only [Act.put, List.setIfInBounds_toArray, List.set_cons_succ, List.set_cons_zero]
                        refine det_skip 4 rfl (by decide +kernel) (by first | (simp [Region.wanted, yielded]; done) | (simp [Region.wanted, yielded, undef]; done)) ?_; simp only [Act.put, List.setIfInBounds_toArray, List.set_cons_succ, List.set_cons_zero]; refine det_skip 5 rfl (by decide +kernel) (by first | (simp [Region.wanted, yielded]; done) | (simp [Region.wanted, yielded, undef]; done)) ?_; simp only [Act.put, List.setIfInBounds_toArray, List.set_cons_succ, List.set_cons_zero]; refine det_skip 6 rfl (by decide +kernel) (by first | (simp [Region.wanted, yielded]; done) | (simp [Region.wanted, yielded, undef]; done)) ?_; simp only [Act.put, List.setIfInBounds_toArray, List.set_cons_succ, List.set_cons_zero]; refine det_skip 7 rfl (by decide +kernel) (by first | (simp [Region.wanted, yielded]; done) | (simp [Region.wanted, yielded, undef]; done)) ?_; simp only [Act.put, List.setIfInBounds_toArray, List.set_cons_succ, List.set_cons_zero]; refine det_skip 8 rfl (by decide +kernel) (by first | (simp [Region.wanted, yielded]; done) | (simp [Region.wanted, yielded, undef]; done)) ?_; simp only [Act.put, List.setIfInBounds_toArray, List.set_cons_succ, List.set_cons_zero]; refine det_skip 9 rfl (by decide +kernel) (by first | (simp [Region.wanted, yielded]; done) | (simp [Region.wanted, yielded, undef]; done)) ?_; simp only [Act.put, List.setIfInBounds_toArray, List.set_cons_succ, List.set_cons_zero]; refine det_skip 10 rfl (by decide +kernel) (by first | (simp [Region.wanted, yielded]; done) | (simp [Region.wanted, yielded, undef]; done)) ?_; simp only [Act.put, List.setIfInBounds_toArray, List.set_cons_succ, List.set_cons_zero]; refine det_skip 11 rfl (by decide +kernel) (by first | (simp [Region.wanted, yielded]; done) | (simp [Region.wanted, yielded, undef]; done)) ?_; simp only [Act.put, List.setIfInBounds_toArray, List.set_cons_succ, List.set_cons_zero]; refine det_skip 12 rfl (by decide +kernel) (by first | (simp [Region.wanted, yielded]; done) | (simp [Region.wanted, yielded, undef]; done)) ?_; simp only [Act.put, List.setIfInBounds_toArray, List.set_cons_succ, List.set_cons_zero]; refine det_skip 13 rfl (by decide +kernel) (by first | (simp [Region.wanted, yielded]; done) | (simp [Region.wanted, yielded, undef]; done)) ?_; simp only [Act.put, List.setIfInBounds_toArray, List.set_cons_succ, List.set_cons_zero]; refine det_skip 14 rfl (by decide +kernel) (by first | (simp [Region.wanted, yielded]; done) | (simp [Region.wanted, yielded, undef]; done)) ?_; simp only [Act.put, List.setIfInBounds_toArray, List.set_cons_succ, List.set_cons_zero]; refine det_skip 15 rfl (by decide +kernel) (by first | (simp [Region.wanted, yielded]; done) | (simp [Region.wanted, yielded, undef]; done)) ?_; simp only [Act.put, List.setIfInBounds_toArray, List.set_cons_succ, List.set_cons_zero]; refine det_skip 16 rfl (by decide +kernel) (by first | (simp [Region.wanted, yielded]; done) | (simp [Region.wanted, yielded, undef]; done)) ?_; simp only [Act.put, List.setIfInBounds_toArray, List.set_cons_succ, List.set_cons_zero]; refine det_skip 17 rfl (by decide +kernel) (by first | (simp [Region.wanted, yielded]; done) | (simp [Region.wanted, yielded, undef]; done)) ?_; simp only [Act.put, List.setIfInBounds_toArray, List.set_cons_succ, List.set_cons_zero]; refine det_skip 18 rfl (by decide +kernel) (by first | (simp [Region.wanted, yielded]; done) | (simp [Region.wanted, yielded, undef]; done)) ?_; simp only [Act.put, List.setIfInBounds_toArray, List.set_cons_succ, List.set_cons_zero]; refine det_skip 19 rfl (by decide +kernel) (by first | (simp [Region.wanted, yielded]; done) | (simp [Region.wanted, yielded, undef]; done)) ?_; simp only [Act.put, List.setIfInBounds_toArray, List.set_cons_succ, List.set_cons_zero]; refine det_skip 20 rfl (by decide +kernel) (by first | (simp [Region.wanted, yielded]; done) | (simp [Region.wanted, yielded, undef]; done)) ?_; simp only [Act.put, List.setIfInBounds_toArray, List.set_cons_succ, List.set_cons_zero]; refine det_skip 21 rfl (by decide +kernel) (by first | (simp [Region.wanted, yielded]; done) | (simp [Region.wanted, yielded, undef]; done)) ?_; simp only [Act.put, List.setIfInBounds_toArray, List.set_cons_succ, List.set_cons_zero]; refine det_skip 22 rfl (by decide +kernel) (by first | (simp [Region.wanted, yielded]; done) | (simp [Region.wanted, yielded, undef]; done)) ?_; simp only [Act.put, List.setIfInBounds_toArray, List.set_cons_succ, List.set_cons_zero]; refine det_skip 23 rfl (by decide +kernel) (by first | (simp [Region.wanted, yielded]; done) | (simp [Region.wanted, yielded, undef]; done)) ?_; simp only [Act.put, List.setIfInBounds_toArray, List.set_cons_succ, List.set_cons_zero]; refine det_skip 24 rfl (by decide +kernel) (by first | (simp [Region.wanted, yielded]; done) | (simp [Region.wanted, yielded, undef]; done)) ?_; simp only [Act.put, List.setIfInBounds_toArray, List.set_cons_succ, List.set_cons_zero]; refine det_skip 25 rfl (by decide +kernel) (by first | (simp [Region.wanted, yielded]; done) | (simp [Region.wanted, yielded, undef]; done)) ?_; simp only [Act.put, List.setIfInBounds_toArray, List.set_cons_succ, List.set_cons_zero]; refine det_skip 26 rfl (by decide +kernel) (by first | (simp [Region.wanted, yielded]; done) | (simp [Region.wanted, yielded, undef]; done)) ?_; simp only [Act.put, List.setIfInBounds_toArray, List.set_cons_succ, List.set_cons_zero]; refine det_skip 27 rfl (by decide +kernel) (by first | (simp [Region.wanted, yielded]; done) | (simp [Region.wanted, yielded, undef]; done)) ?_; simp only [Act.put, List.setIfInBounds_toArray, List.set_cons_succ, List.set_cons_zero]; refine det_skip 28 rfl (by decide +kernel) (by first | (simp [Region.wanted, yielded]; done) | (simp [Region.wanted, yielded, undef]; done)) ?_; simp only [Act.put, List.setIfInBounds_toArray, List.set_cons_succ, List.set_cons_zero]; refine det_skip 29 rfl (by decide +kernel) (by first | (simp [Region.wanted, yielded]; done) | (simp [Region.wanted, yielded, undef]; done)) ?_; simp only [Act.put, List.setIfInBounds_toArray, List.set_cons_succ, List.set_cons_zero]; refine det_skip 30 rfl (by decide +kernel) (by first | (simp [Region.wanted, yielded]; done) | (simp [Region.wanted, yielded, undef]; done)) ?_; simp only [Act.put, List.setIfInBounds_toArray, List.set_cons_succ, List.set_cons_zero]; refine det_skip 31 rfl (by decide +kernel) (by first | (simp [Region.wanted, yielded]; done) | (simp [Region.wanted, yielded, undef]; done)) ?_; simp only [Act.put, List.setIfInBounds_toArray, List.set_cons_succ, List.set_cons_zero]; refine det_skip 32 rfl (by decide +kernel) (by first | (simp [Region.wanted, yielded]; done) | (simp [Region.wanted, yielded, undef]; done)) ?_; simp only [Act.put, List.setIfInBounds_toArray, List.set_cons_succ, List.set_cons_zero]; refine det_skip 33 rfl (by decide +kernel) (by first | (simp [Region.wanted, yielded]; done) | (simp [Region.wanted, yielded, undef]; done)) ?_; simp only [Act.put, List.setIfInBounds_toArray, List.set_cons_succ, List.set_cons_zero]; refine det_skip 34 rfl (by decide +kernel) (by first | (simp [Region.wanted, yielded]; done) | (simp [Region.wanted, yielded, undef]; done)) ?_; simp only [Act.put, List.setIfInBounds_toArray, List.set_cons_succ, List.set_cons_zero]; refine det_skip 35 rfl (by decide +kernel) (by first | (simp [Region.wanted, yielded]; done) | (simp [Region.wanted, yielded, undef]; done)) ?_; simp only [Act.put, List.setIfInBounds_toArray, List.set_cons_succ, List.set_cons_zero]; refine det_skip 36 rfl (by decide +kernel) (by first | (simp [Region.wanted, yielded]; done) | (simp [Region.wanted, yielded, undef]; done)) ?_; simp only [Act.put, List.setIfInBounds_toArray, List.set_cons_succ, List.set_cons_zero]; refine det_skip 37 rfl (by decide +kernel) (by first | (simp [Region.wanted, yielded]; done) | (simp [Region.wanted, yielded, undef]; done)) ?_; simp only [Act.put, List.setIfInBounds_toArray, List.set_cons_succ, List.set_cons_zero]; refine det_skip 38 rfl (by decide +kernel) (by first | (simp [Region.wanted, yielded]; done) | (simp [Region.wanted, yielded, undef]; done)) ?_; simp only [Act.put, List.setIfInBounds_toArray, List.set_cons_succ, List.set_cons_zero]; refine det_skip 39 rfl (by decide +kernel) (by first | (simp [Region.wanted, yielded]; done) | (simp [Region.wanted, yielded, undef]; done)) ?_; simp only [Act.put, List.setIfInBounds_toArray, List.set_cons_succ, List.set_cons_zero]; refine det_skip 40 rfl (by decide +kernel) (by first | (simp [Region.wanted, yielded]; done) | (simp [Region.wanted, yielded, undef]; done)) ?_; simp only [Act.put, List.setIfInBounds_toArray, List.set_cons_succ, List.set_cons_zero]; refine det_skip 41 rfl (by decide +kernel) (by first | (simp [Region.wanted, yielded]; done) | (simp [Region.wanted, yielded, undef]; done)) ?_; simp only [Act.put, List.setIfInBounds_toArray, List.set_cons_succ, List.set_cons_zero]
                        refine det_take 42 rfl (by decide +kernel) (by first | exact wanted_none rfl | exact wanted_some rfl rfl) (fun W hW => by first | (go_simp; done) | (go_simp; rfl)) ?_; simp only [Act.put, List.setIfInBounds_toArray, List.set_cons_succ, List.set_cons_zero]
                        refine det_done (by decide +kernel) ?_
                        clear st
                        intro V2 st
                        have stn := (HBk.out _ _ st).sub (own' := [(g8, 37, [.int .i64 xt, .bool (cm), .int .i64 cl.kind, .int .i64 cl.h, .int .i64 cl.t, .int .i64 cl.n, .int .i64 cl.c, .slice sla cl.label.length slc, .slice sga cl.grants.length sgc, .string cl.text, .int .i64 ml.host, .int .i64 ml.thread, .slice sma ml.label.length smc, .slice sna ml.grants.length snc, .string ml.text]), (g10, 53, winC pre [.slice a1 zl.length c1, .slice a2 zo.length c2, .string zt, .slice (a3) zb.length c3, .slice a4 zm.length c4] post)]) (by simp) (by have := st.ne; simp only [List.pairwise_cons, List.mem_cons, List.not_mem_nil, or_false, forall_eq_or_imp, forall_eq] at this ⊢; simp [this])
                        go_wp2_with fail
                        go_roundw
                        case rel => first | exact ⟨u + 1, by omega, by go_num, stn⟩ | ((repeat apply Exists.intro); exact ⟨⟨u + 1, by omega, by go_num, stn⟩, rfl⟩)
                        case measure => simp [intOf]; omega
                      · have d6 : ((u : Int) != (t : Int)) = true := by simpa using (show ¬ (u : Int) = t by omega)
                        obtain ⟨q1, q2, q3, q4⟩ := hLn.out (by simpa using (show ¬ (u : Int) = t by omega))
                        try dsimp only at q1 q2 q3 q4
                        have Q4 := Lib.hid q3
                        have Q3 := Lib.hid (show (yt.toList != zt.toList) = false by simp [q3])
                        have d7 : ((ym.length : Int) != (zm.length : Int)) = false := by simp [q4]
                        have HSm := Lib.hid (fun V (h : Below v3.heap.size v3 V) => (label_Same (fun _ => True) (fun _ => True) V tla tlc a1 c1 yl zl (hTy.label.below h) (hTz3.label.below h)).mono (R' := fun e w' => e = .returned (.bool true) ∧ Below V.heap.size V w') (by rintro e w' ⟨rfl, h⟩; simp [h, q1]))
                        have HSn := Lib.hid (fun V (h : Below v3.heap.size v3 V) => (keep_sameNumbers (fun _ => True) (fun _ => True) V toa toc a2 c2 yo zo (hTy.own.below h) (hTz3.own.below h)).mono (R' := fun e w' => e = .returned (.bool true) ∧ Below V.heap.size V w') (by rintro e w' ⟨rfl, h⟩; simp [h, q2]))
                        clear hut hLn q4 q1 q2 q3
                        go_wp2_with fail
                        refine det_region (by kernel_rfl) 43 rfl (fun V => St [g8, g10] v3 V [(g8, 37, [.int .i64 xt, .bool (cm), .int .i64 cl.kind, .int .i64 cl.h, .int .i64 cl.t, .int .i64 cl.n, .int .i64 cl.c, .slice sla cl.label.length slc, .slice sga cl.grants.length sgc, .string cl.text, .int .i64 ml.host, .int .i64 ml.thread, .slice sma ml.label.length smc, .slice sna ml.grants.length snc, .string ml.text]), (g10, 53, winC pre [.slice a1 zl.length c1, .slice a2 zo.length c2, .string zt, .slice (a3) zb.length c3, .slice a4 zm.length c4] post), (g13, 46, [.slice tla yl.length tlc, .slice toa yo.length toc, .string yt, .slice (tba) yb.length tbc, .slice tma ym.length tmc])]) (st.drew) (by decide +kernel) ?_
                        refine det_take 0 rfl (by decide +kernel) (by first | exact wanted_none rfl | exact wanted_some rfl rfl) (fun W hW => by first | (go_simp; done) | (go_simp; rfl)) ?_; simp only [Act.put, List.setIfInBounds_toArray, List.set_cons_succ, List.set_cons_zero]; refine det_take 1 rfl (by decide +kernel) (by first | exact wanted_none rfl | exact wanted_some rfl rfl) (fun W hW => by first | (go_simp; done) | (go_simp; rfl)) ?_; simp only [Act.put, List.setIfInBounds_toArray, List.set_cons_succ, List.set_cons_zero]; refine det_take 2 rfl (by decide +kernel) (by first | exact wanted_none rfl | exact wanted_some rfl rfl) (fun W hW => by first | (go_simp; done) | (go_simp; rfl)) ?_; simp only [Act.put, List.setIfInBounds_toArray, List.set_cons_succ, List.set_cons_zero]; refine det_take 3 rfl (by decide +kernel) (by first | exact wanted_none rfl | exact wanted_some rfl rfl) (fun W hW => by first | (go_simp; done) | (go_simp; rfl)) ?_; simp only [Act.put, List.setIfInBounds_toArray, List.set_cons_succ, List.set_cons_zero]; refine det_take 4 rfl (by decide +kernel) (by first | exact wanted_none rfl | exact wanted_some rfl rfl) (fun W hW => by first | (go_simp; done) | (go_simp; rfl)) ?_; simp only [Act.put, List.setIfInBounds_toArray, List.set_cons_succ, List.set_cons_zero]
                        refine det_take 5 rfl (by decide +kernel) (by first | exact wanted_none rfl | exact wanted_some rfl rfl) (fun W hW => St.run_load hW 2 9 _ rfl Try.isAgg9 rfl rfl rfl) ?_; simp only [Act.put, List.setIfInBounds_toArray, List.set_cons_succ, List.set_cons_zero]
                        refine det_take 6 rfl (by decide +kernel) (by first | exact wanted_none rfl | exact wanted_some rfl rfl) (fun W hW => by first | (go_simp; done) | (go_simp; rfl)) ?_; simp only [Act.put, List.setIfInBounds_toArray, List.set_cons_succ, List.set_cons_zero]
                        refine det_take (v := .pointer (some ⟨g10, u * 5, none⟩)) 7 rfl (by decide +kernel) (by first | exact wanted_none rfl | exact wanted_some rfl rfl) (fun W hW => by (first | (go_simp; done) | (go_simp; intro h; omega))) ?_; simp only [Act.put, List.setIfInBounds_toArray, List.set_cons_succ, List.set_cons_zero]
                        refine det_take 8 rfl (by decide +kernel) (by first | exact wanted_none rfl | exact wanted_some rfl rfl) (fun W hW => by first | (go_simp; done) | (go_simp; rfl)) ?_; simp only [Act.put, List.setIfInBounds_toArray, List.set_cons_succ, List.set_cons_zero]
                        refine det_take 9 rfl (by decide +kernel) (by first | exact wanted_none rfl | exact wanted_some rfl rfl) (fun W hW => St.run_loadW hW 1 9 _ rfl Try.isAgg9 2 hpre rfl rfl rfl) ?_; simp only [Act.put, List.setIfInBounds_toArray, List.set_cons_succ, List.set_cons_zero]
                        refine det_take (v := .bool false) 10 rfl (by decide +kernel) (by first | exact wanted_none rfl | exact wanted_some rfl rfl) (fun W hW => by (have h3 := Q3.out; have h4 := Q4.out; first | (go_simp; done) | (go_simp; simp [h4]) | (go_simp; simp [h3]))) ?_; simp only [Act.put, List.setIfInBounds_toArray, List.set_cons_succ, List.set_cons_zero]
                        refine det_take 11 rfl (by decide +kernel) (by first | exact wanted_none rfl | exact wanted_some rfl rfl) (fun W hW => by first | (go_simp; done) | (go_simp; rfl)) ?_; simp only [Act.put, List.setIfInBounds_toArray, List.set_cons_succ, List.set_cons_zero]; refine det_take 12 rfl (by decide +kernel) (by first | exact wanted_none rfl | exact wanted_some rfl rfl) (fun W hW => by first | (go_simp; done) | (go_simp; rfl)) ?_; simp only [Act.put, List.setIfInBounds_toArray, List.set_cons_succ, List.set_cons_zero]
                        refine det_take 13 rfl (by decide +kernel) (by first | exact wanted_none rfl | exact wanted_some rfl rfl) (fun W hW => St.run_load hW 2 24 _ rfl Try.isAgg24 rfl rfl rfl) ?_; simp only [Act.put, List.setIfInBounds_toArray, List.set_cons_succ, List.set_cons_zero]
                        refine det_take 14 rfl (by decide +kernel) (by first | exact wanted_none rfl | exact wanted_some rfl rfl) (fun W hW => by first | (go_simp; done) | (go_simp; rfl)) ?_; simp only [Act.put, List.setIfInBounds_toArray, List.set_cons_succ, List.set_cons_zero]
                        refine det_take (v := .pointer (some ⟨g10, u * 5, none⟩)) 15 rfl (by decide +kernel) (by first | exact wanted_none rfl | exact wanted_some rfl rfl) (fun W hW => by (first | (go_simp; done) | (go_simp; intro h; omega))) ?_; simp only [Act.put, List.setIfInBounds_toArray, List.set_cons_succ, List.set_cons_zero]
                        refine det_take 16 rfl (by decide +kernel) (by first | exact wanted_none rfl | exact wanted_some rfl rfl) (fun W hW => by first | (go_simp; done) | (go_simp; rfl)) ?_; simp only [Act.put, List.setIfInBounds_toArray, List.set_cons_succ, List.set_cons_zero]
                        refine det_take 17 rfl (by decide +kernel) (by first | exact wanted_none rfl | exact wanted_some rfl rfl) (fun W hW => St.run_loadW hW 1 24 _ rfl Try.isAgg24 0 hpre rfl rfl rfl) ?_; simp only [Act.put, List.setIfInBounds_toArray, List.set_cons_succ, List.set_cons_zero]
                        refine det_call (fn := 16) 18 rfl (by decide +kernel) (by first | exact wanted_none rfl | exact wanted_some rfl rfl) (fun W => by first | (go_simp; done) | (go_simp; rfl)) (fun W hW => (HSm.out W (HB.out W _ hW (by simp))).mono fun e w' h => ⟨h.1, hW.call h.2⟩) ?_; simp only [Act.put, List.setIfInBounds_toArray, List.set_cons_succ, List.set_cons_zero]
                        refine det_take 19 rfl (by decide +kernel) (by first | exact wanted_none rfl | exact wanted_some rfl rfl) (fun W hW => by first | (go_simp; done) | (go_simp; rfl)) ?_; simp only [Act.put, List.setIfInBounds_toArray, List.set_cons_succ, List.set_cons_zero]; refine det_take 20 rfl (by decide +kernel) (by first | exact wanted_none rfl | exact wanted_some rfl rfl) (fun W hW => by first | (go_simp; done) | (go_simp; rfl)) ?_; simp only [Act.put, List.setIfInBounds_toArray, List.set_cons_succ, List.set_cons_zero]; refine det_take 21 rfl (by decide +kernel) (by first | exact wanted_none rfl | exact wanted_some rfl rfl) (fun W hW => by first | (go_simp; done) | (go_simp; rfl)) ?_; simp only [Act.put, List.setIfInBounds_toArray, List.set_cons_succ, List.set_cons_zero]; refine det_take 22 rfl (by decide +kernel) (by first | exact wanted_none rfl | exact wanted_some rfl rfl) (fun W hW => by first | (go_simp; done) | (go_simp; rfl)) ?_; simp only [Act.put, List.setIfInBounds_toArray, List.set_cons_succ, List.set_cons_zero]
                        refine det_take 23 rfl (by decide +kernel) (by first | exact wanted_none rfl | exact wanted_some rfl rfl) (fun W hW => St.run_load hW 2 44 _ rfl Try.isAgg44 rfl rfl rfl) ?_; simp only [Act.put, List.setIfInBounds_toArray, List.set_cons_succ, List.set_cons_zero]
                        refine det_take 24 rfl (by decide +kernel) (by first | exact wanted_none rfl | exact wanted_some rfl rfl) (fun W hW => by first | (go_simp; done) | (go_simp; rfl)) ?_; simp only [Act.put, List.setIfInBounds_toArray, List.set_cons_succ, List.set_cons_zero]; refine det_take 25 rfl (by decide +kernel) (by first | exact wanted_none rfl | exact wanted_some rfl rfl) (fun W hW => by first | (go_simp; done) | (go_simp; rfl)) ?_; simp only [Act.put, List.setIfInBounds_toArray, List.set_cons_succ, List.set_cons_zero]
                        refine det_take (v := .pointer (some ⟨g10, u * 5, none⟩)) 26 rfl (by decide +kernel) (by first | exact wanted_none rfl | exact wanted_some rfl rfl) (fun W hW => by (first | (go_simp; done) | (go_simp; intro h; omega))) ?_; simp only [Act.put, List.setIfInBounds_toArray, List.set_cons_succ, List.set_cons_zero]
                        refine det_take 27 rfl (by decide +kernel) (by first | exact wanted_none rfl | exact wanted_some rfl rfl) (fun W hW => by first | (go_simp; done) | (go_simp; rfl)) ?_; simp only [Act.put, List.setIfInBounds_toArray, List.set_cons_succ, List.set_cons_zero]
                        refine det_take 28 rfl (by decide +kernel) (by first | exact wanted_none rfl | exact wanted_some rfl rfl) (fun W hW => St.run_loadW hW 1 44 _ rfl Try.isAgg44 4 hpre rfl rfl rfl) ?_; simp only [Act.put, List.setIfInBounds_toArray, List.set_cons_succ, List.set_cons_zero]
                        refine det_take 29 rfl (by decide +kernel) (by first | exact wanted_none rfl | exact wanted_some rfl rfl) (fun W hW => by first | (go_simp; done) | (go_simp; rfl)) ?_; simp only [Act.put, List.setIfInBounds_toArray, List.set_cons_succ, List.set_cons_zero]
                        refine det_take (v := .bool false) 30 rfl (by decide +kernel) (by first | exact wanted_none rfl | exact wanted_some rfl rfl) (fun W hW => by (go_simp; done)) ?_; simp only [Act.put, List.setIfInBounds_toArray, List.set_cons_succ, List.set_cons_zero]
                        refine det_take 31 rfl (by decide +kernel) (by first | exact wanted_none rfl | exact wanted_some rfl rfl) (fun W hW => by first | (go_simp; done) | (go_simp; rfl)) ?_; simp only [Act.put, List.setIfInBounds_toArray, List.set_cons_succ, List.set_cons_zero]; refine det_take 32 rfl (by decide +kernel) (by first | exact wanted_none rfl | exact wanted_some rfl rfl) (fun W hW => by first | (go_simp; done) | (go_simp; rfl)) ?_; simp only [Act.put, List.setIfInBounds_toArray, List.set_cons_succ, List.set_cons_zero]; refine det_take 33 rfl (by decide +kernel) (by first | exact wanted_none rfl | exact wanted_some rfl rfl) (fun W hW => by first | (go_simp; done) | (go_simp; rfl)) ?_; simp only [Act.put, List.setIfInBounds_toArray, List.set_cons_succ, List.set_cons_zero]
                        refine det_take 34 rfl (by decide +kernel) (by first | exact wanted_none rfl | exact wanted_some rfl rfl) (fun W hW => St.run_load hW 2 25 _ rfl Try.isAgg25 rfl rfl rfl) ?_; simp only [Act.put, List.setIfInBounds_toArray, List.set_cons_succ, List.set_cons_zero]
                        refine det_take 35 rfl (by decide +kernel) (by first | exact wanted_none rfl | exact wanted_some rfl rfl) (fun W hW => by first | (go_simp; done) | (go_simp; rfl)) ?_; simp only [Act.put, List.setIfInBounds_toArray, List.set_cons_succ, List.set_cons_zero]
                        refine det_take (v := .pointer (some ⟨g10, u * 5, none⟩)) 36 rfl (by decide +kernel) (by first | exact wanted_none rfl | exact wanted_some rfl rfl) (fun W hW => by (first | (go_simp; done) | (go_simp; intro h; omega))) ?_; simp only [Act.put, List.setIfInBounds_toArray, List.set_cons_succ, List.set_cons_zero]
                        refine det_take 37 rfl (by decide +kernel) (by first | exact wanted_none rfl | exact wanted_some rfl rfl) (fun W hW => by first | (go_simp; done) | (go_simp; rfl)) ?_; simp only [Act.put, List.setIfInBounds_toArray, List.set_cons_succ, List.set_cons_zero]
                        refine det_take 38 rfl (by decide +kernel) (by first | exact wanted_none rfl | exact wanted_some rfl rfl) (fun W hW => St.run_loadW hW 1 25 _ rfl Try.isAgg25 1 hpre rfl rfl rfl) ?_; simp only [Act.put, List.setIfInBounds_toArray, List.set_cons_succ, List.set_cons_zero]
                        refine det_call (fn := 18) 39 rfl (by decide +kernel) (by first | exact wanted_none rfl | exact wanted_some rfl rfl) (fun W => by first | (go_simp; done) | (go_simp; rfl)) (fun W hW => (HSn.out W (HB.out W _ hW (by simp))).mono fun e w' h => ⟨h.1, hW.call h.2⟩) ?_; simp only [Act.put, List.setIfInBounds_toArray, List.set_cons_succ, List.set_cons_zero]
                        refine det_take 40 rfl (by decide +kernel) (by first | exact wanted_none rfl | exact wanted_some rfl rfl) (fun W hW => by first | (go_simp; done) | (go_simp; rfl)) ?_; simp only [Act.put, List.setIfInBounds_toArray, List.set_cons_succ, List.set_cons_zero]; refine det_take 41 rfl (by decide +kernel) (by first | exact wanted_none rfl | exact wanted_some rfl rfl) (fun W hW => by first | (go_simp; done) | (go_simp; rfl)) ?_; simp only [Act.put, List.setIfInBounds_toArray, List.set_cons_succ, List.set_cons_zero]; refine det_take 42 rfl (by decide +kernel) (by first | exact wanted_none rfl | exact wanted_some rfl rfl) (fun W hW => by first | (go_simp; done) | (go_simp; rfl)) ?_; simp only [Act.put, List.setIfInBounds_toArray, List.set_cons_succ, List.set_cons_zero]
                        refine det_done (by decide +kernel) ?_
                        clear st
                        intro V2 st
                        have stn := (HBk.out _ _ st).sub (own' := [(g8, 37, [.int .i64 xt, .bool (cm), .int .i64 cl.kind, .int .i64 cl.h, .int .i64 cl.t, .int .i64 cl.n, .int .i64 cl.c, .slice sla cl.label.length slc, .slice sga cl.grants.length sgc, .string cl.text, .int .i64 ml.host, .int .i64 ml.thread, .slice sma ml.label.length smc, .slice sna ml.grants.length snc, .string ml.text]), (g10, 53, winC pre [.slice a1 zl.length c1, .slice a2 zo.length c2, .string zt, .slice (a3) zb.length c3, .slice a4 zm.length c4] post)]) (by simp) (by have := st.ne; simp only [List.pairwise_cons, List.mem_cons, List.not_mem_nil, or_false, forall_eq_or_imp, forall_eq] at this ⊢; simp [this])
                        go_wp2_with fail
                        go_roundw
                        case rel => first | exact ⟨u + 1, by omega, by go_num, stn⟩ | ((repeat apply Exists.intro); exact ⟨⟨u + 1, by omega, by go_num, stn⟩, rfl⟩)
                        case measure => simp [intOf]; omega
                · have d3 : decide ((u : Int) < 4) = false := by simp; omega
                  have hSo := HSo.out _ _ st _ (Below.refl _ _)
                  go_wp2_with (first | go_skip | fail)
                  go_roundw
                  case rel => exact ⟨j + 1, hlt, by omega, by go_num, _, hSo⟩
                  case measure => simp [intOf]; omega
      · have d1 : decide ((j : Int) < l.length) = true := by simp; omega
        have d2 : decide ((j : Int) < 80) = false := by simp; omega
        go_wp2_with (first | go_skip | fail)
        go_ret
        exact ⟨rfl, str.below⟩
    · have d1 : decide ((j : Int) < l.length) = false := by simp; omega
      go_wp2_with (first | go_skip | fail)
      go_ret
      exact ⟨rfl, str.below⟩

theorem own : ownKnob Try.prog.godebug = none := by kernel_rfl
theorem laid : laidOutB Try.prog = true := by kernel_rfl

set_option maxRecDepth 100000 in
theorem contract (H : Type) (enc : TypeId × Value → H) (W : World) (base : Nat) (args : Array Value) (ds gs : List (DataW H)) (before : List MemPlace)
    (hval : ∀ (j : Nat) t v, Try.f5.params[j]? = some t → args[j]? = some v → Value.okWide Try.prog W .any base t v)
    (hW : DataW.Whole enc Try.prog Try.f5.params.toList Rows.kernelWritesSpec.vars false W args.toList ds gs before)
    (hsz : (DataW.weightsEach Try.prog (Try.f5.params.toList ++ Rows.kernelWritesSpec.plain.varTypes Try.prog) (ds ++ gs)).all (· ≤ reachBytes) = true) :
    Calls Try.prog 5 args W fun e W' => ∃ v, e = .returned v ∧ Rows.kernelWritesSpec.post enc Try.prog Try.f5 false true false false W args v W' := by
  have hW' := hW
  obtain ⟨p, q, hTrd, hV, rfl, hfz, hnd⟩ := hW
  have hA : DataW.TrodAll enc Try.prog W 0 (fun _ => true) true Try.f5.params.toList args.toList ds p := hTrd
  have hpar := Try.params5
  rw [hpar] at hA hval hsz
  obtain ⟨v0, vs0, d0, ds0, p0, q0, hargs0, rfl, rfl, h0, r0⟩ := trodAll_cons hA
  obtain ⟨v1, vs1, d1, ds1, p1, q1, hargs1, rfl, rfl, h1, r1⟩ := trodAll_cons r0
  obtain ⟨hnil, rfl, rfl⟩ := trodAll_nil r1
  obtain rfl : args = #[v0, v1] := by cases args; simp_all
  obtain ⟨rfl, rfl⟩ := trodVars_none hV
  have w0 : ∀ n ∈ d0.weights Try.prog 3, n ≤ reachBytes := fun n hn => by simpa using List.all_eq_true.1 hsz n (DataW.weights_mem_each (j := 0) (t := 3) (d := d0) rfl rfl n hn)
  obtain ⟨x0, rfl, hx0⟩ := arg_int Try.underlying3 (hval 0 _ v0 rfl rfl) h0
  have w1 : ∀ n ∈ d1.weights Try.prog 22, n ≤ reachBytes := fun n hn => by simpa using List.all_eq_true.1 hsz n (DataW.weights_mem_each (j := 1) (t := 22) (d := d1) rfl rfl n hn)
  obtain ⟨x1, a1, c1, rfl, hR1, hl1, hx1, hm1⟩ := arg_slice (fit := Step.fit) (mass := Step.mass) reads_Step Try.underlying22 (by kernel_rfl : Try.prog.cellsOf _ = 15) (by decide) (by kernel_rfl : Try.prog.bytesOf _ = 200) (hval 1 _ v1 rfl rfl) h1 w1
  refine (walk W x0 x1 a1 c1 hx0 hR1 hl1 hx1).mono fun e W' ⟨he, hb⟩ => ?_
  exact ⟨_, he, law_post laid (by kernel_rfl) hW' rfl rfl (by kernel_rfl) Try.underlying4 hb⟩

set_option maxRecDepth 100000 in
theorem lifted (os : Os) (started : os.Started) (H : Type) (enc : TypeId × Value → H) :
    ReturnsInHanded {} Try.checked os 5 .any (Rows.kernelWritesSpec.pre6 enc Try.prog Try.f5 Rows.kernelWritesRow.domain false) (Rows.kernelWritesSpec.post enc Try.prog Try.f5 false true false false) := by
  refine returnsInHanded_of_change_sized (C := Try.checked) own started (by kernel_rfl) Try.func5
    (ChangeSpec.witness6 (enc := enc) (C := Try.checked) false ⟨#[], #[.int .i64 0, .slice none 0 0], []⟩ 12 (by kernel_rfl) (by kernel_rfl) (by kernel_rfl) (by kernel_rfl)) ?_
  intro W base args ds gs before hval hW _ hsz _
  exact contract H enc W base args ds gs before hval hW hsz

theorem proved : Rows.KernelWritesSaid :=
  OpenClaim.holds_of_wide 5 Try.f5 rfl rfl rfl rfl rfl rfl rfl ⟨rfl, rfl, rfl, rfl, rfl⟩ rfl rfl rfl rfl rfl (by kernel_rfl) Try.func5 (by kernel_rfl)
    (of_decide_eq_true (by kernel_rfl)) (by unfold Func.isWrapper; first | (rw [if_pos (by decide +kernel)]; kernel_rfl) | (rw [if_neg (by decide +kernel)]; exact ⟨rfl, rfl⟩))
    (fun os started H enc _ => lifted os started H enc)

end Go.Proofs.Ytnkfemjmfalamaa.kernelWrites
