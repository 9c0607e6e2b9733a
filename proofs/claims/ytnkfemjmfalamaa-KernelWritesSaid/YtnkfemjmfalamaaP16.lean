/- Walks and plain laws that the claim rests on, part 16. -/
import Derived.Test.YtnkfemjmfalamaaP15
import Derived.Test.YtnkfemjmfalamaaP5
import Derived.Test.YtnkfemjmfalamaaP7
import Derived.Test.YtnkfemjmfalamaaP11
import Derived.Test.YtnkfemjmfalamaaP8
set_option linter.unusedSimpArgs false
set_option linter.unusedVariables false
/- The walk through run: a row of steps upon a kernel, and what is looked at behind each. -/
namespace Go.Proofs.Ytnkfemjmfalamaa
open Go.RowKit

def stepC15 (x : Step) (la : Option Addr) (lc : Nat) (ga : Option Addr) (gc : Nat) (ma : Option Addr) (mc : Nat) (na : Option Addr) (nc : Nat) : List Value :=
  [.int .i64 x.t, .bool x.come, .int .i64 x.call.kind, .int .i64 x.call.h, .int .i64 x.call.t, .int .i64 x.call.n, .int .i64 x.call.c, .slice la x.call.label.length lc, .slice ga x.call.grants.length gc, .string x.call.text,
    .int .i64 x.mail.host, .int .i64 x.mail.thread, .slice ma x.mail.label.length mc, .slice na x.mail.grants.length nc, .string x.mail.text]

/-- Behind a call of the kernel that the call itself made, beside blocks of ours. -/
theorem step_after {w wr w14 W2 : World} {own3 : Blks} {ok : Nat → Prop} {gk : Nat} {k k' : Ker} {css : List (List Value)} {Bs : List (List Nat)} (str : St [] w wr []) (hK : KerAt ok wr gk k css Bs) (h5 : ∀ b ∈ gk :: Bs.flatten, w.heap.size ≤ b) (h7 : ∀ b, ok b → b < wr.heap.size)
    (stX : St [] wr w14 own3) (hTo : KerTo ok w14 gk Bs W2 k') (hk' : k'.ok) :
    ∃ okK css2 Bs2, St [] w W2 own3 ∧ (∀ V bl, St (own3.map (·.1)) W2 V bl → KerAt okK V gk k' css2 Bs2 ∧ ∀ V', Below V.heap.size V V' → Solo w [] gk k' V') ∧ ∀ b, wr.heap.size ≤ b → b < w14.heap.size → W2.heap[b]? = w14.heap[b]? := by
  obtain ⟨css2, Bs2, hK2, hs2, hin2⟩ := hTo
  have hm : ∀ x ∈ own3, wr.heap.size ≤ x.1 := fun x hx => by simpa using stX.mine x hx
  have hz := stX.size
  have hin : ∀ b ∈ gk :: Bs2.flatten, b ∈ gk :: Bs.flatten ∨ w14.heap.size ≤ b := fun b hb => by
    rcases List.mem_cons.1 hb with rfl | hb
    · exact .inl (by simp)
    · exact (hin2 b hb).imp (List.mem_cons_of_mem _) id
  have hstW : St [] w W2 own3 := (St.back str stX).callK hs2 (fun x hx h => by have := hK.lt _ h; have := hm x hx; omega) fun b h => .inr (h5 b h)
  have hno : ∀ b, b ∈ own3.map (·.1) → wr.heap.size ≤ b ∧ b < w14.heap.size := fun b hb => by
    obtain ⟨x, hx, rfl⟩ := List.mem_map.1 hb
    exact ⟨hm x hx, stX.lt hx⟩
  refine ⟨fun b => (ok b ∨ w14.heap.size ≤ b) ∧ b ∉ gk :: Bs2.flatten, css2, Bs2, hstW, fun V bl hV => ?_, fun b h1 h2 => hs2.frame b h2 fun h => by have := hK.lt _ h; omega⟩
  have hKV : KerAt (fun b => (ok b ∨ w14.heap.size ≤ b) ∧ b ∉ gk :: Bs2.flatten) V gk k' css2 Bs2 := hK2.move hV.size (fun b hb ho => ⟨ho, hV.frame b hb fun h => by
    obtain ⟨q1, q2⟩ := hno b h
    rcases ho.1 with h1 | h1
    · have := h7 b h1; omega
    · omega⟩) fun b hb => ⟨hV.frame b (hK2.lt b hb) fun h => by
    obtain ⟨q1, q2⟩ := hno b h
    rcases hin b hb with h1 | h1
    · have := hK.lt b h1; omega
    · omega, hK2.apart b hb⟩
  refine ⟨hKV, fun V' hb => ?_⟩
  have stV : St [] w V' [] := (St.back hstW hV).sub (own' := []) (by simp) List.Pairwise.nil |>.call hb
  refine ⟨stV, hk', fun b => ((ok b ∨ w14.heap.size ≤ b) ∧ b ∉ gk :: Bs2.flatten) ∧ b < V'.heap.size, css2, Bs2, (hKV.below hb).move (Nat.le_refl _) (fun b hb ho => ⟨⟨ho, hb⟩, rfl⟩) fun b hb => ⟨rfl, fun hh => hh.1.2 hb⟩, fun b hb => ⟨?_, by simp⟩, fun b hb => hb.2⟩
  rcases hin b hb with h1 | h1
  · exact h5 b h1
  · have := str.size; omega

set_option maxRecDepth 100000 in
set_option maxHeartbeats 8000000 in
theorem keep_run_labels (HL : Look 12) (w : World) (host : Int) (l : List Step) (sa : Option Addr) (sc : Nat) (hh : fitI host) (hS : SlR (fun _ => True) w 15 (RStep (fun _ => True) w) sa sc l) (hsl : l.length * 200 ≤ 140737488351232) (hsf : ∀ x ∈ l, x.fit) :
    Calls Try.prog 11 #[.int .i64 host, .slice sa l.length sc, .func (.func 12) #[] #[]] w fun r w' => r = .returned (.bool true) ∧ Below w.heap.size w w' := by
  have eg : ∀ args w, (callFunc 12 args).run Try.prog w = .ok (.enter 12 args) w := enters_of Try.func12 (by kernel_rfl) rfl
  have st := St.start w
  have hS' := Lib.hid hS
  have HF := Lib.hid hsf
  have HP := Lib.hid (fun (W : World) (k : Int) (hk : fitI k) => keep_pick W k 4 (by omega) (by omega) hk)
  have hh' := Lib.hid hh
  have HLk := Lib.hid HL
  clear hS hsf hh HL
  go_enter Try.func11, Try.ntmps11
  go_wp2_with (first
    | go_skip
    | (go_at_call 7; refine (HP.out _ _ hh'.out).mono ?_; rintro x v2 ⟨⟨p, rfl, hp1, hp2⟩, rfl⟩)
    | (go_at_call 8; refine (kernel_New _ _ (by omega) (by omega)).mono ?_; rintro e v1 ⟨gk, rfl, hgk, st1⟩; replace st := st.join st1; clear st1; simp only [List.cons_append, List.nil_append] at st)
    | (go_at_call 9; refine (calls_yes_keep _).mono ?_; rintro e v1 ⟨rfl, hbc⟩; replace st := st.call hbc; clear hbc))
  have hP0 : ∃ k, Solo w [] gk k v1 := ⟨newK p, Solo.new (own' := []) st (by simp) ⟨hp1, hp2⟩ (by simp) List.Pairwise.nil⟩
  clear st hp1 hp2
  have hsl2 : l.length ≤ 9223372036854775807 := by omega
  go_loopw [9] (fun i wr => ∃ j : Nat, j ≤ l.length ∧ j ≤ 120 ∧ i = .int .i64 j ∧ ∃ k, Solo w [] gk k wr) (fun i _ => 120 - (intOf i).toNat)
  case atStart => exact ⟨0, Nat.zero_le _, by omega, rfl, hP0⟩
  case round =>
    clear hP0
    obtain ⟨j, hj, hj120, rfl, k, str, hk, ok, css, Bs, hK, h5, h7⟩ := hrel
    by_cases hlt : j < l.length
    · by_cases h120 : j < 120
      · have d1 : decide ((j : Int) < l.length) = true := by simp; omega
        have d2 : decide ((j : Int) < 120) = true := by simp; omega
        have hBw := str.below
        have hst := hS'.out.step_at j hlt
        have hfit := HF.out _ (List.getElem_mem hlt)
        generalize l[j] = x at hst hfit
        obtain ⟨xt, cm, cl, ml⟩ := x
        dsimp only at hst
        obtain ⟨b, o, sla, slc, sga, sgc, sma, smc, sna, snc, hsa, hb, ⟨hA, hA2, hM, hM2⟩, f0, f1, f2, f3, f4, f5, f6, f7, f8, f9, f10, f11, f12, f13, f14⟩ := hst
        have tr := fun (p : Nat) (v : Option Value) (h : w.cell? ⟨b, p, none⟩ = v) => (hBw.cell (p := ⟨b, p, none⟩) hb).trans h
        replace f0 := tr _ _ f0; replace f1 := tr _ _ f1; replace f2 := tr _ _ f2; replace f3 := tr _ _ f3; replace f4 := tr _ _ f4; replace f5 := tr _ _ f5; replace f6 := tr _ _ f6
        replace f7 := tr _ _ f7; replace f8 := tr _ _ f8; replace f9 := tr _ _ f9; replace f10 := tr _ _ f10; replace f11 := tr _ _ f11; replace f12 := tr _ _ f12; replace f13 := tr _ _ f13; replace f14 := tr _ _ f14
        clear tr
        have HS2 := Lib.hid hS'
        subst hsa
        have hql : cl.label.length * 16 ≤ 140737488351232 := hfit.2.2.1.2.2.2.2.2.1.1
        have hqm : ml.label.length * 16 ≤ 140737488351232 := hfit.2.2.2.2.2.1.1
        have hqg : ml.grants.length * 8 ≤ 140737488351232 := hfit.2.2.2.2.2.2.1.1
        have hqt := Lib.hid (hfit.1 : fitI xt)
        have HFit := Lib.hid hfit
        clear hfit
        have st := str.rebase
        simp only [List.map_nil] at st
        have HK := Lib.hid hK
        have HTh := Lib.hid (fun (V : World) (bl : Blks) (h : St [] wr V bl) (u : Int) (hu : four u = true) => (show ThreadPost V (thrOf k u) = ThreadPost V (k.thr u) by unfold thrOf; rw [if_pos hu]) ▸ kernel_Thread ok V gk k css Bs (hK.below h.below) hk.thr u)
        have HCa := Lib.hid (fun (V : World) (bl : Blks) (h : St [] wr V bl) (u : Int) => kernel_Call ok (fun _ => True) V gk k css Bs cl sla slc sga sgc (hK.below h.below) hk u hql (hA.below (hBw.keep h.below)))
        have HDe := Lib.hid (fun (V : World) (bl : Blks) (h : St [] wr V bl) (u : Int) => kernel_Deliver ok (fun _ => True) V gk k css Bs (hK.below h.below) hk.thr u ml sma smc sna snc hqm (by omega) ⟨hM.below (hBw.keep h.below), hM2.below (hBw.keep h.below)⟩)
        go_upto_region 11 with (first
          | go_skip | (with_reducible refine at_alloc 37 ?_; refine mem_alloc st (wanted_none rfl) 37 rfl _ Try.zeroValue37 _ rfl ?_; clear st; intro g10 w10 hg10 st hg10b; clear hg10b; simp [Act.eval, Act.put, Value.cells, putL] at st) | (with_reducible refine at_store 37 ?_; (first | refine mem_store' st 37 _ _ rfl (wanted_none rfl) _ Try.sizeOf37 ?_ | (refine mem_store' st 37 _ _ rfl (wanted_some rfl ?_) _ Try.sizeOf37 ?_; focus (simp [yielded, Act.put]; done))); refine ⟨0, _, _, _, _, _, rfl, rfl, rfl, rfl, rfl, rfl, ?_⟩; clear st; intro w11 st hw11m hw11z; simp [Act.eval, Act.put, Value.cells, putL] at st) | (with_reducible refine at_load 3 ?_; (first | refine mem_load' st 3 _ rfl (wanted_none rfl) Try.isAgg3 ?_ | (refine mem_load' st 3 _ rfl (wanted_some rfl ?_) Try.isAgg3 ?_; focus (simp [yielded, Act.put]; done))); refine ⟨0, _, _, _, _, _, rfl, rfl, rfl, ?_⟩)
          | (go_at_call 7; refine (HP.out _ _ hqt.out).mono ?_; rintro x v2 ⟨⟨u, rfl, hu1, hu2⟩, rfl⟩)
          | (go_at_call 13; go_must (refine (HTh.out _ _ st _ ((four_iff u).2 ⟨hu1, hu2⟩)).mono ?_; rintro e v3 ⟨tla, tlc, toa, toc, tba, tbc, tma, tmc, rfl, hb3, hT⟩; have hz0 := st.size; have hl10 := st.ltAt (i := 0) rfl; have hst := st.call hb3; clear st; have st := hst.rebase; simp only [List.map_cons, List.map_nil] at st; have hz3 := hb3.size; clear hb3; unfold thrV))
          | (with_reducible refine at_alloc 46 ?_; refine mem_alloc st (wanted_none rfl) 46 rfl _ Try.zeroValue46 _ rfl ?_; clear st; intro g12 w12 hg12 st hg12b; clear hg12b; simp [Act.eval, Act.put, Value.cells, putL] at st) | (with_reducible refine at_store 46 ?_; (first | refine mem_store' st 46 _ _ rfl (wanted_none rfl) _ Try.sizeOf46 ?_ | (refine mem_store' st 46 _ _ rfl (wanted_some rfl ?_) _ Try.sizeOf46 ?_; focus (simp [yielded, Act.put]; done))); refine ⟨1, _, _, _, _, _, rfl, rfl, rfl, rfl, rfl, rfl, ?_⟩; clear st; intro w13 st hw13m hw13z; simp [Act.eval, Act.put, Value.cells, putL] at st) | (with_reducible refine at_alloc 39 ?_; refine mem_alloc st (wanted_none rfl) 39 rfl _ Try.zeroValue39 _ rfl ?_; clear st; intro g14 w14 hg14 st hg14b; clear hg14b; simp [Act.eval, Act.put, Value.cells, putL] at st))
        have hg10w := hst.mine _ (List.mem_of_getElem? (i := 0) rfl)
        simp only [List.not_mem_nil, false_or] at hg10w
        have hu4 : four u = true := (four_iff u).2 ⟨hu1, hu2⟩
        have HT := Lib.hid (show ∀ (V : World) (bl : Blks), St [g10] v3 V bl → (g10, 37, stepC15 ⟨xt, cm, cl, ml⟩ sla slc sga sgc sma smc sna snc) ∈ bl → Below v3.heap.size v3 V from fun V bl h hm => hst.below2 h (by simpa [stepC15] using hm))
        have HBk := Lib.hid (show ∀ (V : World) (bl : Blks), St [g10] v3 V bl → St [] wr V bl from fun V bl h => St.back hst h)
        have hT1 : ThrS (fun b => w11.heap.size ≤ b) v3 (k.thr u) tla tlc toa toc tba tbc tma tmc := hT
        clear hT hst
        have hz13 := st.size
        cases cm with
        | true =>
          go_wp2_with (first
            | go_skip | (with_reducible refine at_load 4 ?_; (first | refine mem_load' st 4 _ rfl (wanted_none rfl) Try.isAgg4 ?_ | (refine mem_load' st 4 _ rfl (wanted_some rfl ?_) Try.isAgg4 ?_; focus (simp [yielded, Act.put]; done))); refine ⟨0, _, _, _, _, _, rfl, rfl, rfl, ?_⟩) | (with_reducible refine at_load 35 ?_; (first | refine mem_load_agg' st 35 _ rfl (wanted_none rfl) Try.isAgg35 _ Try.sizeOf35 ?_ | (refine mem_load_agg' st 35 _ rfl (wanted_some rfl ?_) Try.isAgg35 _ Try.sizeOf35 ?_; focus (simp [yielded, Act.put]; done))); refine ⟨0, _, _, _, _, _, rfl, rfl, rfl, rfl, ?_⟩)
            | (go_at_call 17; go_must (refine (HDe.out _ _ (HBk.out _ _ st) _).mono ?_; rintro e W2 ⟨⟨uu, rfl⟩, hTo⟩; refine RowKit.Hid.out ?_)))
          refine Lib.hid ?_
          obtain ⟨okK, css2, Bs2, stW, hAft, hSame⟩ := step_after str HK.out (fun b hb => (h5 b hb).1) h7 (HBk.out _ _ st) hTo (deliverK_ok hk u ml)
          have hB3 := HT.out _ _ st (by simp [stepC15])
          have hT2 : ThrS (fun b => b ∉ [g10, g12, g14]) W2 (k.thr u) tla tlc toa toc tba tbc tma tmc := hT1.move (by have := hB3.size; have := stW.size; have := hTo.choose_spec.choose_spec.2.1.size; omega) fun b hb ho => ⟨by simp; omega, (hSame b (by omega) (by have := hB3.size; omega)).trans (hB3.block b hb)⟩
          clear hSame hB3 hTo st
          have st := stW.rebase
          simp only [List.map_cons, List.map_nil] at st hAft
          have HA := Lib.hid hAft
          clear hAft
          have HT2 := Lib.hid (show ∀ (V : World) (bl : Blks), St [g10, g12, g14] W2 V bl → ThrS (fun _ => True) V (k.thr u) tla tlc toa toc tba tbc tma tmc from fun V bl h => hT2.move h.size fun b hb ho => ⟨trivial, h.frame b hb ho⟩)
          have HMl := Lib.hid (show ∀ (V : World) (bl : Blks), St [g10, g12, g14] W2 V bl → SlR (fun _ => True) V 2 RLev sma smc ml.label ∧ SlR (fun _ => True) V 1 RInt sna snc ml.grants from fun V bl h => ⟨hM.below (St.back stW h).below, hM2.below (St.back stW h).below⟩)
          clear hT2
          go_wp2_with (first
            | go_skip | (with_reducible refine at_store 39 ?_; (first | refine mem_store' st 39 _ _ rfl (wanted_none rfl) _ Try.sizeOf39 ?_ | (refine mem_store' st 39 _ _ rfl (wanted_some rfl ?_) _ Try.sizeOf39 ?_; focus (simp [yielded, Act.put]; done))); refine ⟨2, _, _, _, _, _, rfl, rfl, rfl, rfl, rfl, rfl, ?_⟩; clear st; intro w15 st hw15m hw15z; simp [Act.eval, Act.put, Value.cells, putL] at st) | (with_reducible refine at_load 46 ?_; (first | refine mem_load_agg' st 46 _ rfl (wanted_none rfl) Try.isAgg46 _ Try.sizeOf46 ?_ | (refine mem_load_agg' st 46 _ rfl (wanted_some rfl ?_) Try.isAgg46 _ Try.sizeOf46 ?_; focus (simp [yielded, Act.put]; done))); refine ⟨1, _, _, _, _, _, rfl, rfl, rfl, rfl, ?_⟩) | (with_reducible refine at_load 37 ?_; (first | refine mem_load_agg' st 37 _ rfl (wanted_none rfl) Try.isAgg37 _ Try.sizeOf37 ?_ | (refine mem_load_agg' st 37 _ rfl (wanted_some rfl ?_) Try.isAgg37 _ Try.sizeOf37 ?_; focus (simp [yielded, Act.put]; done))); refine ⟨0, _, _, _, _, _, rfl, rfl, rfl, rfl, ?_⟩) | (with_reducible refine at_load 39 ?_; (first | refine mem_load_agg' st 39 _ rfl (wanted_none rfl) Try.isAgg39 _ Try.sizeOf39 ?_ | (refine mem_load_agg' st 39 _ rfl (wanted_some rfl ?_) Try.isAgg39 _ Try.sizeOf39 ?_; focus (simp [yielded, Act.put]; done))); refine ⟨2, _, _, _, _, _, rfl, rfl, rfl, rfl, ?_⟩)
            | (go_at_call 12; go_must (refine (HLk.out _ okK (fun _ => True) gk css2 Bs2 k u ⟨xt, true, cl, ml⟩ tla tlc toa toc tba tbc tma tmc sla slc sga sgc sma smc sna snc hk hu4 HFit.out (HA.out _ _ st).1 (HT2.out _ _ st) (HMl.out _ _ st)).mono ?_; rintro e W4 ⟨rfl, hb4⟩)))
          have hSo := (HA.out _ _ st).2 _ hb4
          clear st hb4
          go_wp2_with (first | go_skip | fail)
          go_roundw
          case rel => exact ⟨j + 1, hlt, by omega, by go_num, _, hSo⟩
          case measure => simp [intOf]; omega
        | false =>
          go_wp2_with (first
            | go_skip | (with_reducible refine at_load 4 ?_; (first | refine mem_load' st 4 _ rfl (wanted_none rfl) Try.isAgg4 ?_ | (refine mem_load' st 4 _ rfl (wanted_some rfl ?_) Try.isAgg4 ?_; focus (simp [yielded, Act.put]; done))); refine ⟨0, _, _, _, _, _, rfl, rfl, rfl, ?_⟩) | (with_reducible refine at_load 27 ?_; (first | refine mem_load_agg' st 27 _ rfl (wanted_none rfl) Try.isAgg27 _ Try.sizeOf27 ?_ | (refine mem_load_agg' st 27 _ rfl (wanted_some rfl ?_) Try.isAgg27 _ Try.sizeOf27 ?_; focus (simp [yielded, Act.put]; done))); refine ⟨0, _, _, _, _, _, rfl, rfl, rfl, rfl, ?_⟩)
            | (go_at_call 10; go_must (refine (HCa.out _ _ (HBk.out _ _ st) _).mono ?_; rintro e W2 ⟨rfl, hTo⟩; refine RowKit.Hid.out ?_)))
          refine Lib.hid ?_
          obtain ⟨okK, css2, Bs2, stW, hAft, hSame⟩ := step_after str HK.out (fun b hb => (h5 b hb).1) h7 (HBk.out _ _ st) hTo (stepC_ok hk u cl)
          have hB3 := HT.out _ _ st (by simp [stepC15])
          have hT2 : ThrS (fun b => b ∉ [g10, g12, g14]) W2 (k.thr u) tla tlc toa toc tba tbc tma tmc := hT1.move (by have := hB3.size; have := stW.size; have := hTo.choose_spec.choose_spec.2.1.size; omega) fun b hb ho => ⟨by simp; omega, (hSame b (by omega) (by have := hB3.size; omega)).trans (hB3.block b hb)⟩
          clear hSame hB3 hTo st
          have st := stW.rebase
          simp only [List.map_cons, List.map_nil] at st hAft
          have HA := Lib.hid hAft
          clear hAft
          have HT2 := Lib.hid (show ∀ (V : World) (bl : Blks), St [g10, g12, g14] W2 V bl → ThrS (fun _ => True) V (k.thr u) tla tlc toa toc tba tbc tma tmc from fun V bl h => hT2.move h.size fun b hb ho => ⟨trivial, h.frame b hb ho⟩)
          have HMl := Lib.hid (show ∀ (V : World) (bl : Blks), St [g10, g12, g14] W2 V bl → SlR (fun _ => True) V 2 RLev sma smc ml.label ∧ SlR (fun _ => True) V 1 RInt sna snc ml.grants from fun V bl h => ⟨hM.below (St.back stW h).below, hM2.below (St.back stW h).below⟩)
          clear hT2
          go_wp2_with (first
            | go_skip | (with_reducible refine at_store 39 ?_; (first | refine mem_store' st 39 _ _ rfl (wanted_none rfl) _ Try.sizeOf39 ?_ | (refine mem_store' st 39 _ _ rfl (wanted_some rfl ?_) _ Try.sizeOf39 ?_; focus (simp [yielded, Act.put]; done))); refine ⟨2, _, _, _, _, _, rfl, rfl, rfl, rfl, rfl, rfl, ?_⟩; clear st; intro w15 st hw15m hw15z; simp [Act.eval, Act.put, Value.cells, putL] at st) | (with_reducible refine at_load 46 ?_; (first | refine mem_load_agg' st 46 _ rfl (wanted_none rfl) Try.isAgg46 _ Try.sizeOf46 ?_ | (refine mem_load_agg' st 46 _ rfl (wanted_some rfl ?_) Try.isAgg46 _ Try.sizeOf46 ?_; focus (simp [yielded, Act.put]; done))); refine ⟨1, _, _, _, _, _, rfl, rfl, rfl, rfl, ?_⟩) | (with_reducible refine at_load 37 ?_; (first | refine mem_load_agg' st 37 _ rfl (wanted_none rfl) Try.isAgg37 _ Try.sizeOf37 ?_ | (refine mem_load_agg' st 37 _ rfl (wanted_some rfl ?_) Try.isAgg37 _ Try.sizeOf37 ?_; focus (simp [yielded, Act.put]; done))); refine ⟨0, _, _, _, _, _, rfl, rfl, rfl, rfl, ?_⟩) | (with_reducible refine at_load 39 ?_; (first | refine mem_load_agg' st 39 _ rfl (wanted_none rfl) Try.isAgg39 _ Try.sizeOf39 ?_ | (refine mem_load_agg' st 39 _ rfl (wanted_some rfl ?_) Try.isAgg39 _ Try.sizeOf39 ?_; focus (simp [yielded, Act.put]; done))); refine ⟨2, _, _, _, _, _, rfl, rfl, rfl, rfl, ?_⟩)
            | (go_at_call 12; go_must (refine (HLk.out _ okK (fun _ => True) gk css2 Bs2 k u ⟨xt, false, cl, ml⟩ tla tlc toa toc tba tbc tma tmc sla slc sga sgc sma smc sna snc hk hu4 HFit.out (HA.out _ _ st).1 (HT2.out _ _ st) (HMl.out _ _ st)).mono ?_; rintro e W4 ⟨rfl, hb4⟩)))
          have hSo := (HA.out _ _ st).2 _ hb4
          clear st hb4
          go_wp2_with (first | go_skip | fail)
          go_roundw
          case rel => exact ⟨j + 1, hlt, by omega, by go_num, _, hSo⟩
          case measure => simp [intOf]; omega
      · have d1 : decide ((j : Int) < l.length) = true := by simp; omega
        have d2 : decide ((j : Int) < 120) = false := by simp; omega
        go_wp2_with (first | go_skip | fail)
        go_ret
        exact ⟨rfl, str.below⟩
    · have d1 : decide ((j : Int) < l.length) = false := by simp; omega
      go_wp2_with (first | go_skip | fail)
      go_ret
      exact ⟨rfl, str.below⟩

set_option maxRecDepth 100000 in
set_option maxHeartbeats 8000000 in
theorem keep_run_reads (HL : Look 19) (w : World) (host : Int) (l : List Step) (sa : Option Addr) (sc : Nat) (hh : fitI host) (hS : SlR (fun _ => True) w 15 (RStep (fun _ => True) w) sa sc l) (hsl : l.length * 200 ≤ 140737488351232) (hsf : ∀ x ∈ l, x.fit) :
    Calls Try.prog 11 #[.int .i64 host, .slice sa l.length sc, .func (.func 19) #[] #[]] w fun r w' => r = .returned (.bool true) ∧ Below w.heap.size w w' := by
  have eg : ∀ args w, (callFunc 19 args).run Try.prog w = .ok (.enter 19 args) w := enters_of Try.func19 (by kernel_rfl) rfl
  have st := St.start w
  have hS' := Lib.hid hS
  have HF := Lib.hid hsf
  have HP := Lib.hid (fun (W : World) (k : Int) (hk : fitI k) => keep_pick W k 4 (by omega) (by omega) hk)
  have hh' := Lib.hid hh
  have HLk := Lib.hid HL
  clear hS hsf hh HL
  go_enter Try.func11, Try.ntmps11
  go_wp2_with (first
    | go_skip
    | (go_at_call 7; refine (HP.out _ _ hh'.out).mono ?_; rintro x v2 ⟨⟨p, rfl, hp1, hp2⟩, rfl⟩)
    | (go_at_call 8; refine (kernel_New _ _ (by omega) (by omega)).mono ?_; rintro e v1 ⟨gk, rfl, hgk, st1⟩; replace st := st.join st1; clear st1; simp only [List.cons_append, List.nil_append] at st)
    | (go_at_call 9; refine (calls_yes_keep _).mono ?_; rintro e v1 ⟨rfl, hbc⟩; replace st := st.call hbc; clear hbc))
  have hP0 : ∃ k, Solo w [] gk k v1 := ⟨newK p, Solo.new (own' := []) st (by simp) ⟨hp1, hp2⟩ (by simp) List.Pairwise.nil⟩
  clear st hp1 hp2
  have hsl2 : l.length ≤ 9223372036854775807 := by omega
  go_loopw [9] (fun i wr => ∃ j : Nat, j ≤ l.length ∧ j ≤ 120 ∧ i = .int .i64 j ∧ ∃ k, Solo w [] gk k wr) (fun i _ => 120 - (intOf i).toNat)
  case atStart => exact ⟨0, Nat.zero_le _, by omega, rfl, hP0⟩
  case round =>
    clear hP0
    obtain ⟨j, hj, hj120, rfl, k, str, hk, ok, css, Bs, hK, h5, h7⟩ := hrel
    by_cases hlt : j < l.length
    · by_cases h120 : j < 120
      · have d1 : decide ((j : Int) < l.length) = true := by simp; omega
        have d2 : decide ((j : Int) < 120) = true := by simp; omega
        have hBw := str.below
        have hst := hS'.out.step_at j hlt
        have hfit := HF.out _ (List.getElem_mem hlt)
        generalize l[j] = x at hst hfit
        obtain ⟨xt, cm, cl, ml⟩ := x
        dsimp only at hst
        obtain ⟨b, o, sla, slc, sga, sgc, sma, smc, sna, snc, hsa, hb, ⟨hA, hA2, hM, hM2⟩, f0, f1, f2, f3, f4, f5, f6, f7, f8, f9, f10, f11, f12, f13, f14⟩ := hst
        have tr := fun (p : Nat) (v : Option Value) (h : w.cell? ⟨b, p, none⟩ = v) => (hBw.cell (p := ⟨b, p, none⟩) hb).trans h
        replace f0 := tr _ _ f0; replace f1 := tr _ _ f1; replace f2 := tr _ _ f2; replace f3 := tr _ _ f3; replace f4 := tr _ _ f4; replace f5 := tr _ _ f5; replace f6 := tr _ _ f6
        replace f7 := tr _ _ f7; replace f8 := tr _ _ f8; replace f9 := tr _ _ f9; replace f10 := tr _ _ f10; replace f11 := tr _ _ f11; replace f12 := tr _ _ f12; replace f13 := tr _ _ f13; replace f14 := tr _ _ f14
        clear tr
        have HS2 := Lib.hid hS'
        subst hsa
        have hql : cl.label.length * 16 ≤ 140737488351232 := hfit.2.2.1.2.2.2.2.2.1.1
        have hqm : ml.label.length * 16 ≤ 140737488351232 := hfit.2.2.2.2.2.1.1
        have hqg : ml.grants.length * 8 ≤ 140737488351232 := hfit.2.2.2.2.2.2.1.1
        have hqt := Lib.hid (hfit.1 : fitI xt)
        have HFit := Lib.hid hfit
        clear hfit
        have st := str.rebase
        simp only [List.map_nil] at st
        have HK := Lib.hid hK
        have HTh := Lib.hid (fun (V : World) (bl : Blks) (h : St [] wr V bl) (u : Int) (hu : four u = true) => (show ThreadPost V (thrOf k u) = ThreadPost V (k.thr u) by unfold thrOf; rw [if_pos hu]) ▸ kernel_Thread ok V gk k css Bs (hK.below h.below) hk.thr u)
        have HCa := Lib.hid (fun (V : World) (bl : Blks) (h : St [] wr V bl) (u : Int) => kernel_Call ok (fun _ => True) V gk k css Bs cl sla slc sga sgc (hK.below h.below) hk u hql (hA.below (hBw.keep h.below)))
        have HDe := Lib.hid (fun (V : World) (bl : Blks) (h : St [] wr V bl) (u : Int) => kernel_Deliver ok (fun _ => True) V gk k css Bs (hK.below h.below) hk.thr u ml sma smc sna snc hqm (by omega) ⟨hM.below (hBw.keep h.below), hM2.below (hBw.keep h.below)⟩)
        go_upto_region 11 with (first
          | go_skip | (with_reducible refine at_alloc 37 ?_; refine mem_alloc st (wanted_none rfl) 37 rfl _ Try.zeroValue37 _ rfl ?_; clear st; intro g10 w10 hg10 st hg10b; clear hg10b; simp [Act.eval, Act.put, Value.cells, putL] at st) | (with_reducible refine at_store 37 ?_; (first | refine mem_store' st 37 _ _ rfl (wanted_none rfl) _ Try.sizeOf37 ?_ | (refine mem_store' st 37 _ _ rfl (wanted_some rfl ?_) _ Try.sizeOf37 ?_; focus (simp [yielded, Act.put]; done))); refine ⟨0, _, _, _, _, _, rfl, rfl, rfl, rfl, rfl, rfl, ?_⟩; clear st; intro w11 st hw11m hw11z; simp [Act.eval, Act.put, Value.cells, putL] at st) | (with_reducible refine at_load 3 ?_; (first | refine mem_load' st 3 _ rfl (wanted_none rfl) Try.isAgg3 ?_ | (refine mem_load' st 3 _ rfl (wanted_some rfl ?_) Try.isAgg3 ?_; focus (simp [yielded, Act.put]; done))); refine ⟨0, _, _, _, _, _, rfl, rfl, rfl, ?_⟩)
          | (go_at_call 7; refine (HP.out _ _ hqt.out).mono ?_; rintro x v2 ⟨⟨u, rfl, hu1, hu2⟩, rfl⟩)
          | (go_at_call 13; go_must (refine (HTh.out _ _ st _ ((four_iff u).2 ⟨hu1, hu2⟩)).mono ?_; rintro e v3 ⟨tla, tlc, toa, toc, tba, tbc, tma, tmc, rfl, hb3, hT⟩; have hz0 := st.size; have hl10 := st.ltAt (i := 0) rfl; have hst := st.call hb3; clear st; have st := hst.rebase; simp only [List.map_cons, List.map_nil] at st; have hz3 := hb3.size; clear hb3; unfold thrV))
          | (with_reducible refine at_alloc 46 ?_; refine mem_alloc st (wanted_none rfl) 46 rfl _ Try.zeroValue46 _ rfl ?_; clear st; intro g12 w12 hg12 st hg12b; clear hg12b; simp [Act.eval, Act.put, Value.cells, putL] at st) | (with_reducible refine at_store 46 ?_; (first | refine mem_store' st 46 _ _ rfl (wanted_none rfl) _ Try.sizeOf46 ?_ | (refine mem_store' st 46 _ _ rfl (wanted_some rfl ?_) _ Try.sizeOf46 ?_; focus (simp [yielded, Act.put]; done))); refine ⟨1, _, _, _, _, _, rfl, rfl, rfl, rfl, rfl, rfl, ?_⟩; clear st; intro w13 st hw13m hw13z; simp [Act.eval, Act.put, Value.cells, putL] at st) | (with_reducible refine at_alloc 39 ?_; refine mem_alloc st (wanted_none rfl) 39 rfl _ Try.zeroValue39 _ rfl ?_; clear st; intro g14 w14 hg14 st hg14b; clear hg14b; simp [Act.eval, Act.put, Value.cells, putL] at st))
        have hg10w := hst.mine _ (List.mem_of_getElem? (i := 0) rfl)
        simp only [List.not_mem_nil, false_or] at hg10w
        have hu4 : four u = true := (four_iff u).2 ⟨hu1, hu2⟩
        have HT := Lib.hid (show ∀ (V : World) (bl : Blks), St [g10] v3 V bl → (g10, 37, stepC15 ⟨xt, cm, cl, ml⟩ sla slc sga sgc sma smc sna snc) ∈ bl → Below v3.heap.size v3 V from fun V bl h hm => hst.below2 h (by simpa [stepC15] using hm))
        have HBk := Lib.hid (show ∀ (V : World) (bl : Blks), St [g10] v3 V bl → St [] wr V bl from fun V bl h => St.back hst h)
        have hT1 : ThrS (fun b => w11.heap.size ≤ b) v3 (k.thr u) tla tlc toa toc tba tbc tma tmc := hT
        clear hT hst
        have hz13 := st.size
        cases cm with
        | true =>
          go_wp2_with (first
            | go_skip | (with_reducible refine at_load 4 ?_; (first | refine mem_load' st 4 _ rfl (wanted_none rfl) Try.isAgg4 ?_ | (refine mem_load' st 4 _ rfl (wanted_some rfl ?_) Try.isAgg4 ?_; focus (simp [yielded, Act.put]; done))); refine ⟨0, _, _, _, _, _, rfl, rfl, rfl, ?_⟩) | (with_reducible refine at_load 35 ?_; (first | refine mem_load_agg' st 35 _ rfl (wanted_none rfl) Try.isAgg35 _ Try.sizeOf35 ?_ | (refine mem_load_agg' st 35 _ rfl (wanted_some rfl ?_) Try.isAgg35 _ Try.sizeOf35 ?_; focus (simp [yielded, Act.put]; done))); refine ⟨0, _, _, _, _, _, rfl, rfl, rfl, rfl, ?_⟩)
            | (go_at_call 17; go_must (refine (HDe.out _ _ (HBk.out _ _ st) _).mono ?_; rintro e W2 ⟨⟨uu, rfl⟩, hTo⟩; refine RowKit.Hid.out ?_)))
          refine Lib.hid ?_
          obtain ⟨okK, css2, Bs2, stW, hAft, hSame⟩ := step_after str HK.out (fun b hb => (h5 b hb).1) h7 (HBk.out _ _ st) hTo (deliverK_ok hk u ml)
          have hB3 := HT.out _ _ st (by simp [stepC15])
          have hT2 : ThrS (fun b => b ∉ [g10, g12, g14]) W2 (k.thr u) tla tlc toa toc tba tbc tma tmc := hT1.move (by have := hB3.size; have := stW.size; have := hTo.choose_spec.choose_spec.2.1.size; omega) fun b hb ho => ⟨by simp; omega, (hSame b (by omega) (by have := hB3.size; omega)).trans (hB3.block b hb)⟩
          clear hSame hB3 hTo st
          have st := stW.rebase
          simp only [List.map_cons, List.map_nil] at st hAft
          have HA := Lib.hid hAft
          clear hAft
          have HT2 := Lib.hid (show ∀ (V : World) (bl : Blks), St [g10, g12, g14] W2 V bl → ThrS (fun _ => True) V (k.thr u) tla tlc toa toc tba tbc tma tmc from fun V bl h => hT2.move h.size fun b hb ho => ⟨trivial, h.frame b hb ho⟩)
          have HMl := Lib.hid (show ∀ (V : World) (bl : Blks), St [g10, g12, g14] W2 V bl → SlR (fun _ => True) V 2 RLev sma smc ml.label ∧ SlR (fun _ => True) V 1 RInt sna snc ml.grants from fun V bl h => ⟨hM.below (St.back stW h).below, hM2.below (St.back stW h).below⟩)
          clear hT2
          go_wp2_with (first
            | go_skip | (with_reducible refine at_store 39 ?_; (first | refine mem_store' st 39 _ _ rfl (wanted_none rfl) _ Try.sizeOf39 ?_ | (refine mem_store' st 39 _ _ rfl (wanted_some rfl ?_) _ Try.sizeOf39 ?_; focus (simp [yielded, Act.put]; done))); refine ⟨2, _, _, _, _, _, rfl, rfl, rfl, rfl, rfl, rfl, ?_⟩; clear st; intro w15 st hw15m hw15z; simp [Act.eval, Act.put, Value.cells, putL] at st) | (with_reducible refine at_load 46 ?_; (first | refine mem_load_agg' st 46 _ rfl (wanted_none rfl) Try.isAgg46 _ Try.sizeOf46 ?_ | (refine mem_load_agg' st 46 _ rfl (wanted_some rfl ?_) Try.isAgg46 _ Try.sizeOf46 ?_; focus (simp [yielded, Act.put]; done))); refine ⟨1, _, _, _, _, _, rfl, rfl, rfl, rfl, ?_⟩) | (with_reducible refine at_load 37 ?_; (first | refine mem_load_agg' st 37 _ rfl (wanted_none rfl) Try.isAgg37 _ Try.sizeOf37 ?_ | (refine mem_load_agg' st 37 _ rfl (wanted_some rfl ?_) Try.isAgg37 _ Try.sizeOf37 ?_; focus (simp [yielded, Act.put]; done))); refine ⟨0, _, _, _, _, _, rfl, rfl, rfl, rfl, ?_⟩) | (with_reducible refine at_load 39 ?_; (first | refine mem_load_agg' st 39 _ rfl (wanted_none rfl) Try.isAgg39 _ Try.sizeOf39 ?_ | (refine mem_load_agg' st 39 _ rfl (wanted_some rfl ?_) Try.isAgg39 _ Try.sizeOf39 ?_; focus (simp [yielded, Act.put]; done))); refine ⟨2, _, _, _, _, _, rfl, rfl, rfl, rfl, ?_⟩)
            | (go_at_call 19; go_must (refine (HLk.out _ okK (fun _ => True) gk css2 Bs2 k u ⟨xt, true, cl, ml⟩ tla tlc toa toc tba tbc tma tmc sla slc sga sgc sma smc sna snc hk hu4 HFit.out (HA.out _ _ st).1 (HT2.out _ _ st) (HMl.out _ _ st)).mono ?_; rintro e W4 ⟨rfl, hb4⟩)))
          have hSo := (HA.out _ _ st).2 _ hb4
          clear st hb4
          go_wp2_with (first | go_skip | fail)
          go_roundw
          case rel => exact ⟨j + 1, hlt, by omega, by go_num, _, hSo⟩
          case measure => simp [intOf]; omega
        | false =>
          go_wp2_with (first
            | go_skip | (with_reducible refine at_load 4 ?_; (first | refine mem_load' st 4 _ rfl (wanted_none rfl) Try.isAgg4 ?_ | (refine mem_load' st 4 _ rfl (wanted_some rfl ?_) Try.isAgg4 ?_; focus (simp [yielded, Act.put]; done))); refine ⟨0, _, _, _, _, _, rfl, rfl, rfl, ?_⟩) | (with_reducible refine at_load 27 ?_; (first | refine mem_load_agg' st 27 _ rfl (wanted_none rfl) Try.isAgg27 _ Try.sizeOf27 ?_ | (refine mem_load_agg' st 27 _ rfl (wanted_some rfl ?_) Try.isAgg27 _ Try.sizeOf27 ?_; focus (simp [yielded, Act.put]; done))); refine ⟨0, _, _, _, _, _, rfl, rfl, rfl, rfl, ?_⟩)
            | (go_at_call 10; go_must (refine (HCa.out _ _ (HBk.out _ _ st) _).mono ?_; rintro e W2 ⟨rfl, hTo⟩; refine RowKit.Hid.out ?_)))
          refine Lib.hid ?_
          obtain ⟨okK, css2, Bs2, stW, hAft, hSame⟩ := step_after str HK.out (fun b hb => (h5 b hb).1) h7 (HBk.out _ _ st) hTo (stepC_ok hk u cl)
          have hB3 := HT.out _ _ st (by simp [stepC15])
          have hT2 : ThrS (fun b => b ∉ [g10, g12, g14]) W2 (k.thr u) tla tlc toa toc tba tbc tma tmc := hT1.move (by have := hB3.size; have := stW.size; have := hTo.choose_spec.choose_spec.2.1.size; omega) fun b hb ho => ⟨by simp; omega, (hSame b (by omega) (by have := hB3.size; omega)).trans (hB3.block b hb)⟩
          clear hSame hB3 hTo st
          have st := stW.rebase
          simp only [List.map_cons, List.map_nil] at st hAft
          have HA := Lib.hid hAft
          clear hAft
          have HT2 := Lib.hid (show ∀ (V : World) (bl : Blks), St [g10, g12, g14] W2 V bl → ThrS (fun _ => True) V (k.thr u) tla tlc toa toc tba tbc tma tmc from fun V bl h => hT2.move h.size fun b hb ho => ⟨trivial, h.frame b hb ho⟩)
          have HMl := Lib.hid (show ∀ (V : World) (bl : Blks), St [g10, g12, g14] W2 V bl → SlR (fun _ => True) V 2 RLev sma smc ml.label ∧ SlR (fun _ => True) V 1 RInt sna snc ml.grants from fun V bl h => ⟨hM.below (St.back stW h).below, hM2.below (St.back stW h).below⟩)
          clear hT2
          go_wp2_with (first
            | go_skip | (with_reducible refine at_store 39 ?_; (first | refine mem_store' st 39 _ _ rfl (wanted_none rfl) _ Try.sizeOf39 ?_ | (refine mem_store' st 39 _ _ rfl (wanted_some rfl ?_) _ Try.sizeOf39 ?_; focus (simp [yielded, Act.put]; done))); refine ⟨2, _, _, _, _, _, rfl, rfl, rfl, rfl, rfl, rfl, ?_⟩; clear st; intro w15 st hw15m hw15z; simp [Act.eval, Act.put, Value.cells, putL] at st) | (with_reducible refine at_load 46 ?_; (first | refine mem_load_agg' st 46 _ rfl (wanted_none rfl) Try.isAgg46 _ Try.sizeOf46 ?_ | (refine mem_load_agg' st 46 _ rfl (wanted_some rfl ?_) Try.isAgg46 _ Try.sizeOf46 ?_; focus (simp [yielded, Act.put]; done))); refine ⟨1, _, _, _, _, _, rfl, rfl, rfl, rfl, ?_⟩) | (with_reducible refine at_load 37 ?_; (first | refine mem_load_agg' st 37 _ rfl (wanted_none rfl) Try.isAgg37 _ Try.sizeOf37 ?_ | (refine mem_load_agg' st 37 _ rfl (wanted_some rfl ?_) Try.isAgg37 _ Try.sizeOf37 ?_; focus (simp [yielded, Act.put]; done))); refine ⟨0, _, _, _, _, _, rfl, rfl, rfl, rfl, ?_⟩) | (with_reducible refine at_load 39 ?_; (first | refine mem_load_agg' st 39 _ rfl (wanted_none rfl) Try.isAgg39 _ Try.sizeOf39 ?_ | (refine mem_load_agg' st 39 _ rfl (wanted_some rfl ?_) Try.isAgg39 _ Try.sizeOf39 ?_; focus (simp [yielded, Act.put]; done))); refine ⟨2, _, _, _, _, _, rfl, rfl, rfl, rfl, ?_⟩)
            | (go_at_call 19; go_must (refine (HLk.out _ okK (fun _ => True) gk css2 Bs2 k u ⟨xt, false, cl, ml⟩ tla tlc toa toc tba tbc tma tmc sla slc sga sgc sma smc sna snc hk hu4 HFit.out (HA.out _ _ st).1 (HT2.out _ _ st) (HMl.out _ _ st)).mono ?_; rintro e W4 ⟨rfl, hb4⟩)))
          have hSo := (HA.out _ _ st).2 _ hb4
          clear st hb4
          go_wp2_with (first | go_skip | fail)
          go_roundw
          case rel => exact ⟨j + 1, hlt, by omega, by go_num, _, hSo⟩
          case measure => simp [intOf]; omega
      · have d1 : decide ((j : Int) < l.length) = true := by simp; omega
        have d2 : decide ((j : Int) < 120) = false := by simp; omega
        go_wp2_with (first | go_skip | fail)
        go_ret
        exact ⟨rfl, str.below⟩
    · have d1 : decide ((j : Int) < l.length) = false := by simp; omega
      go_wp2_with (first | go_skip | fail)
      go_ret
      exact ⟨rfl, str.below⟩

end Go.Proofs.Ytnkfemjmfalamaa

/- What KernelWrites looks at, in plain words: what a step leaves of each thread. -/
namespace Go.Proofs.Ytnkfemjmfalamaa
open Go.RowKit

/-- The cells of a thread that was told. -/
def ThrC (ok : Nat → Prop) (w : World) (cs : List Value) (x : Thr) : Prop :=
  ∃ la lc oa oc ba bc ma mc, cs = thrC x la lc oa oc ba bc ma mc ∧ ThrS ok w x la lc oa oc ba bc ma mc

theorem ThrC.move {ok ok' : Nat → Prop} {w w' : World} {cs : List Value} {x : Thr} (h : ThrC ok w cs x) (hs : w.heap.size ≤ w'.heap.size) (hk : ∀ b, b < w.heap.size → ok b → ok' b ∧ w'.heap[b]? = w.heap[b]?) : ThrC ok' w' cs x := by
  obtain ⟨la, lc, oa, oc, ba, bc, ma, mc, e, h⟩ := h
  exact ⟨la, lc, oa, oc, ba, bc, ma, mc, e, h.move hs hk⟩

theorem ThrC.zero (ok : Nat → Prop) (w : World) : ThrC ok w zeroC zeroT := ⟨none, 0, none, 0, none, 0, none, 0, rfl, ThrS.zero _ _⟩

structure Left (k : Ker) (t : Int) (x : Step) (z y : Thr) (same : Bool) : Prop where
  objL : z.objects.length ≤ y.objects.length
  obj : ∀ (n : Nat) (o o' : KObj), z.objects[n]? = some o → y.objects[n]? = some o' → o'.label = o.label ∧ (o'.text = o.text ∨ (x.come = false ∧ x.call.kind = 3 ∧ flowsL (k.thr t).label o.label (k.thr t).own = true))
  other : same = false → y.label = z.label ∧ y.own = z.own ∧ y.text = z.text ∧ y.mails.length = z.mails.length

theorem stepK_left {k : Ker} (hk : k.ok) {t : Int} (x : Step) {u : Int} (hu : four u = true) : Left k t x (k.thr u) ((stepK k t x).1.thr u) (u == t) := by
  unfold stepK
  split
  · obtain ⟨h, h2⟩ := deliverK_eff k t hk.four x.mail u hu
    refine ⟨by rw [h.objects]; exact Nat.le_refl _, fun n o o' ho ho' => ?_, fun e => ?_⟩
    · rw [h.objects, ho] at ho'; cases ho'; exact ⟨rfl, .inl rfl⟩
    · rw [h2 (by simpa using e)]; exact ⟨rfl, rfl, rfl, rfl⟩
  · rename_i hc
    have h := stepC_eff k t hk.four x.call u hu
    refine ⟨h.objL, fun n o o' ho ho' => ?_, fun e => ?_⟩
    · obtain ⟨h1, h2⟩ := h.obj n o o' ho ho'
      exact ⟨h1, h2.imp id fun q => ⟨by simpa using hc, q.1, q.2⟩⟩
    · obtain ⟨h1, h2, h3, h4⟩ := h.other (by simpa using e)
      exact ⟨h1, h2, h3, by rw [h4]⟩

end Go.Proofs.Ytnkfemjmfalamaa

/- What is looked at behind a step of a kernel: the walk through KernelReads' closure. -/
namespace Go.Proofs.Ytnkfemjmfalamaa
open Go.RowKit

theorem run_load_one {P : Program} {o : Oper} {A : Act} {w : World} (T : TypeId) (x : Operand) (ho : o.op = .load T x) (hagg : ∀ w, (isAgg T).run P w = .ok false w) (g off : Nat) (hx : A.eval x = .pointer (some ⟨g, off, none⟩)) (v : Value) (hc : w.cell? ⟨g, off, none⟩ = some v) :
    (execOp A.eval o).run P w = .ok (.value v) w := by
  simp only [execOp, ho, hx, Instr.loadAt, Instr.sureAddr, loadVar, Sem.run_bind, Sem.run_pure, Result.andThen_ok, hagg]
  simp [load, Sem.run, hc, Result.andThen]

set_option maxRecDepth 100000 in
set_option maxHeartbeats 8000000 in
theorem look_reads_come (W : World) (ok okw : Nat → Prop) (g : Nat) (css : List (List Value)) (Bs : List (List Nat)) (k : Ker) (t xt : Int) (cl : Req) (ml : Mail)
    (la : Option Addr) (lc : Nat) (oa : Option Addr) (oc : Nat) (ba : Option Addr) (bc : Nat) (ma : Option Addr) (mc : Nat) (sla : Option Addr) (slc : Nat) (sga : Option Addr) (sgc : Nat) (sma : Option Addr) (smc : Nat) (sna : Option Addr) (snc : Nat)
    (hk : k.ok) (ht : four t = true) (hfm : ml.label.length * 16 ≤ 140737488351232) (hfg : ml.grants.length * 8 ≤ 140737488351232) (hK : KerAt ok W g (deliverK k t ml) css Bs) (hT : ThrS okw W (k.thr t) la lc oa oc ba bc ma mc)
    (hS : SlR (fun _ => True) W 2 RLev sma smc ml.label ∧ SlR (fun _ => True) W 1 RInt sna snc ml.grants) :
    Calls Try.prog 19 #[.pointer (some ⟨g, 0, none⟩), .int .i64 t, thrV (k.thr t) la lc oa oc ba bc ma mc, stepV ⟨xt, true, cl, ml⟩ sla slc sga sgc sma smc sna snc, RepV zeroR] W fun e W' => e = .returned (.bool true) ∧ Below W.heap.size W W' := by
  have hk2 := deliverK_ok hk t ml
  have hx2 := hk2.at t
  have hx := hk.at t
  obtain ⟨he, -⟩ := deliverK_eff k t hk.four ml t ht
  have HTh := Lib.hid (fun (V : World) (h : Below W.heap.size W V) => kernel_Thread ok V g (deliverK k t ml) css Bs (hK.below h) hk2.thr t)
  unfold thrOf at HTh
  rw [if_pos ht] at HTh
  generalize (deliverK k t ml).thr t = y at he HTh hx2
  generalize k.thr t = z at he hT hx
  clear hk2 hk hK ht
  have q1 := goodL_len hx.good; have q3 := hx.ownL; have q4 := hx.mailN; have q5 := hx2.mailN
  clear hx hx2
  obtain ⟨yl, yo, yt, yb, ym⟩ := y
  obtain ⟨zl, zo, zt, zb, zm⟩ := z
  obtain ⟨rfl, rfl, rfl, rfl, hm⟩ := he
  have st := St.start W
  dsimp only at q1 q3 q4 q5 hm
  unfold thrV stepV RepV zeroR
  dsimp only
  rcases hm with rfl | ⟨hm, hf, hg⟩
  · clear hT hS
    go_enter Try.func19, Try.ntmps19
    go_upto_region 2 with (first
      | go_skip | (with_reducible refine at_box 46 ?_; refine mem_box st (wanted_none rfl) 46 _ rfl _ rfl _ rfl ?_; clear st; intro g7 w7 hg7 st hg7b; clear hg7b; simp [Act.eval, Act.put, Value.cells, putL] at st) | (with_reducible refine at_box 37 ?_; refine mem_box st (wanted_none rfl) 37 _ rfl _ rfl _ rfl ?_; clear st; intro g8 w8 hg8 st hg8b; clear hg8b; simp [Act.eval, Act.put, Value.cells, putL] at st) | (with_reducible refine at_box 39 ?_; refine mem_box st (wanted_none rfl) 39 _ rfl _ rfl _ rfl ?_; clear st; intro g9 w9 hg9 st hg9b; clear hg9b; simp [Act.eval, Act.put, Value.cells, putL] at st)
      | (go_at_call 13; go_must (refine (HTh.out _ st.below).mono ?_; rintro e v1 ⟨nla, nlc, noa, noc, nba, nbc, nma, nmc, rfl, hb1, hT2⟩; have hst := st.call hb1; clear st; have st := hst.rebase; simp only [List.map_cons, List.map_nil] at st; clear hb1; unfold thrV))
      | (with_reducible refine at_alloc 46 ?_; refine mem_alloc st (wanted_none rfl) 46 rfl _ Try.zeroValue46 _ rfl ?_; clear st; intro g11 w11 hg11 st hg11b; clear hg11b; simp [Act.eval, Act.put, Value.cells, putL] at st) | (with_reducible refine at_store 46 ?_; (first | refine mem_store' st 46 _ _ rfl (wanted_none rfl) _ Try.sizeOf46 ?_ | (refine mem_store' st 46 _ _ rfl (wanted_some rfl ?_) _ Try.sizeOf46 ?_; focus (simp [yielded, Act.put]; done))); refine ⟨3, _, _, _, _, _, rfl, rfl, rfl, rfl, rfl, rfl, ?_⟩; clear st; intro w12 st hw12m hw12z; simp [Act.eval, Act.put, Value.cells, putL] at st))
    clear hw12m hw12z
    have hB1 := (St.back hst st).below
    have hB2 : Below v1.heap.size v1 w12 := hst.below2 st (by simp)
    have hT3 := hT2.below hB2
    clear hB2 hT2
    have st := St.back hst st
    clear hst
    have stA := st
    have st := st.rebase
    simp only [List.map_cons, List.map_nil] at st
    go_wp2_with (first | go_skip | (with_reducible refine at_load 9 ?_; (first | refine mem_load' st 9 _ rfl (wanted_none rfl) Try.isAgg9 ?_ | (refine mem_load' st 9 _ rfl (wanted_some rfl ?_) Try.isAgg9 ?_; focus (simp [yielded, Act.put]; done))); refine ⟨0, _, _, _, _, _, rfl, rfl, rfl, ?_⟩) | (with_reducible refine at_load 9 ?_; (first | refine mem_load' st 9 _ rfl (wanted_none rfl) Try.isAgg9 ?_ | (refine mem_load' st 9 _ rfl (wanted_some rfl ?_) Try.isAgg9 ?_; focus (simp [yielded, Act.put]; done))); refine ⟨3, _, _, _, _, _, rfl, rfl, rfl, ?_⟩) | (with_reducible refine at_load 44 ?_; (first | refine mem_load' st 44 _ rfl (wanted_none rfl) Try.isAgg44 ?_ | (refine mem_load' st 44 _ rfl (wanted_some rfl ?_) Try.isAgg44 ?_; focus (simp [yielded, Act.put]; done))); refine ⟨0, _, _, _, _, _, rfl, rfl, rfl, ?_⟩) | (with_reducible refine at_load 44 ?_; (first | refine mem_load' st 44 _ rfl (wanted_none rfl) Try.isAgg44 ?_ | (refine mem_load' st 44 _ rfl (wanted_some rfl ?_) Try.isAgg44 ?_; focus (simp [yielded, Act.put]; done))); refine ⟨3, _, _, _, _, _, rfl, rfl, rfl, ?_⟩) | (with_reducible refine at_load 4 ?_; (first | refine mem_load' st 4 _ rfl (wanted_none rfl) Try.isAgg4 ?_ | (refine mem_load' st 4 _ rfl (wanted_some rfl ?_) Try.isAgg4 ?_; focus (simp [yielded, Act.put]; done))); refine ⟨1, _, _, _, _, _, rfl, rfl, rfl, ?_⟩))
    go_ret
    exact ⟨rfl, (St.back stA st).below⟩
  · have hl : (ym.length : Int) = zm.length + 1 := by rw [hm]; simp
    have e1 : ((ym.length : Int) == (zm.length : Int)) = false := by simpa using (show ¬ (ym.length : Int) = zm.length by omega)
    have e2 : IntKind.i64.wrap ((ym.length : Int) - 1) = (zm.length : Int) := by rw [hl, show (zm.length : Int) + 1 - 1 = zm.length by omega]; exact IntWalk.i64_in _ (by omega)
    have e3 : IntKind.i64.wrap ((ym.length : Int) - (zm.length : Int)) = 1 := by rw [hl, show (zm.length : Int) + 1 - zm.length = 1 by omega]; rfl
    clear hl
    have hlt : zm.length < ym.length := by rw [hm]; simp
    have hget : ym[zm.length] = ml := by simp [hm]
    have HS := Lib.hid (fun (V : World) (h : Below W.heap.size W V) => (show MailR (fun _ => True) V ml sma smc sna snc from ⟨hS.1.below h, hS.2.below h⟩))
    have HF := Lib.hid (fun (V : World) (h : Below W.heap.size W V) (a : Option Addr) (c : Nat) (hy : SlR (fun _ => True) V 2 RLev a c ml.label) => (label_Flows (fun _ => True) V a la oa c lc oc ml.label yl yo (by omega) (by omega) hy ((hT.label.below h).okay fun _ _ => trivial) ((hT.own.below h).okay fun _ _ => trivial)).mono (R' := fun e w' => e = .returned (.bool true) ∧ Below V.heap.size V w') (by rintro e w' ⟨rfl, h⟩; rw [hf]; exact ⟨rfl, h⟩))
    have HG := Lib.hid hget
    clear hT hS hf hg hm hget
    have hz : zm.length < 9223372036854775807 := by omega
    go_enter Try.func19, Try.ntmps19
    go_upto_region 2 with (first
      | go_skip | (with_reducible refine at_box 46 ?_; refine mem_box st (wanted_none rfl) 46 _ rfl _ rfl _ rfl ?_; clear st; intro g7 w7 hg7 st hg7b; clear hg7b; simp [Act.eval, Act.put, Value.cells, putL] at st) | (with_reducible refine at_box 37 ?_; refine mem_box st (wanted_none rfl) 37 _ rfl _ rfl _ rfl ?_; clear st; intro g8 w8 hg8 st hg8b; clear hg8b; simp [Act.eval, Act.put, Value.cells, putL] at st) | (with_reducible refine at_box 39 ?_; refine mem_box st (wanted_none rfl) 39 _ rfl _ rfl _ rfl ?_; clear st; intro g9 w9 hg9 st hg9b; clear hg9b; simp [Act.eval, Act.put, Value.cells, putL] at st)
      | (go_at_call 13; go_must (refine (HTh.out _ st.below).mono ?_; rintro e v1 ⟨nla, nlc, noa, noc, nba, nbc, nma, nmc, rfl, hb1, hT2⟩; have hst := st.call hb1; clear st; have st := hst.rebase; simp only [List.map_cons, List.map_nil] at st; clear hb1; unfold thrV))
      | (with_reducible refine at_alloc 46 ?_; refine mem_alloc st (wanted_none rfl) 46 rfl _ Try.zeroValue46 _ rfl ?_; clear st; intro g11 w11 hg11 st hg11b; clear hg11b; simp [Act.eval, Act.put, Value.cells, putL] at st) | (with_reducible refine at_store 46 ?_; (first | refine mem_store' st 46 _ _ rfl (wanted_none rfl) _ Try.sizeOf46 ?_ | (refine mem_store' st 46 _ _ rfl (wanted_some rfl ?_) _ Try.sizeOf46 ?_; focus (simp [yielded, Act.put]; done))); refine ⟨3, _, _, _, _, _, rfl, rfl, rfl, rfl, rfl, rfl, ?_⟩; clear st; intro w12 st hw12m hw12z; simp [Act.eval, Act.put, Value.cells, putL] at st))
    clear hw12m hw12z
    have hB1 := (St.back hst st).below
    have hB2 : Below v1.heap.size v1 w12 := hst.below2 st (by simp)
    have hT3 := hT2.below hB2
    clear hB2 hT2
    have st := St.back hst st
    clear hst
    have stA := st
    have st := st.rebase
    simp only [List.map_cons, List.map_nil] at st
    obtain ⟨b2, o2, la2, lc2, ga2, gc2, hna, -, hb2, hA2, hB2, hC2⟩ := hT3.mails.mail_at zm.length hlt
    subst hna
    rw [HG.out] at hA2 hB2 hC2
    have HC := Lib.hid (show ∀ (V : World), Below w12.heap.size w12 V → ∀ (j : Nat) (v : Value), [Value.int .i64 ml.host, .int .i64 ml.thread, .slice la2 ml.label.length lc2, .slice ga2 ml.grants.length gc2, .string ml.text][j]? = some v → V.cell? ⟨b2, o2 + zm.length * 5 + j, none⟩ = some v from fun V h j v hv => (h.cell (p := ⟨b2, o2 + zm.length * 5 + j, none⟩) hb2).trans (hC2 j v hv))
    have HM := Lib.hid (fun (V : World) (h : Below w12.heap.size w12 V) => (show MailR (fun _ => True) V ml la2 lc2 ga2 gc2 from ⟨(hA2.below h).okay fun _ _ => trivial, (hB2.below h).okay fun _ _ => trivial⟩))
    clear hA2 hB2 hC2 hT3
    have HB1 := Lib.hid hB1
    clear hB1
    go_wp2_with (first
      | go_skip | (with_reducible refine at_load 9 ?_; (first | refine mem_load' st 9 _ rfl (wanted_none rfl) Try.isAgg9 ?_ | (refine mem_load' st 9 _ rfl (wanted_some rfl ?_) Try.isAgg9 ?_; focus (simp [yielded, Act.put]; done))); refine ⟨0, _, _, _, _, _, rfl, rfl, rfl, ?_⟩) | (with_reducible refine at_load 9 ?_; (first | refine mem_load' st 9 _ rfl (wanted_none rfl) Try.isAgg9 ?_ | (refine mem_load' st 9 _ rfl (wanted_some rfl ?_) Try.isAgg9 ?_; focus (simp [yielded, Act.put]; done))); refine ⟨3, _, _, _, _, _, rfl, rfl, rfl, ?_⟩) | (with_reducible refine at_load 44 ?_; (first | refine mem_load' st 44 _ rfl (wanted_none rfl) Try.isAgg44 ?_ | (refine mem_load' st 44 _ rfl (wanted_some rfl ?_) Try.isAgg44 ?_; focus (simp [yielded, Act.put]; done))); refine ⟨0, _, _, _, _, _, rfl, rfl, rfl, ?_⟩) | (with_reducible refine at_load 44 ?_; (first | refine mem_load' st 44 _ rfl (wanted_none rfl) Try.isAgg44 ?_ | (refine mem_load' st 44 _ rfl (wanted_some rfl ?_) Try.isAgg44 ?_; focus (simp [yielded, Act.put]; done))); refine ⟨3, _, _, _, _, _, rfl, rfl, rfl, ?_⟩) | (with_reducible refine at_load 4 ?_; (first | refine mem_load' st 4 _ rfl (wanted_none rfl) Try.isAgg4 ?_ | (refine mem_load' st 4 _ rfl (wanted_some rfl ?_) Try.isAgg4 ?_; focus (simp [yielded, Act.put]; done))); refine ⟨1, _, _, _, _, _, rfl, rfl, rfl, ?_⟩) | (with_reducible refine at_load 24 ?_; (first | refine mem_load' st 24 _ rfl (wanted_none rfl) Try.isAgg24 ?_ | (refine mem_load' st 24 _ rfl (wanted_some rfl ?_) Try.isAgg24 ?_; focus (simp [yielded, Act.put]; done))); refine ⟨4, _, _, _, _, _, rfl, rfl, rfl, ?_⟩) | (with_reducible refine at_load 24 ?_; (first | refine mem_load' st 24 _ rfl (wanted_none rfl) Try.isAgg24 ?_ | (refine mem_load' st 24 _ rfl (wanted_some rfl ?_) Try.isAgg24 ?_; focus (simp [yielded, Act.put]; done))); refine ⟨0, _, _, _, _, _, rfl, rfl, rfl, ?_⟩) | (with_reducible refine at_load 25 ?_; (first | refine mem_load' st 25 _ rfl (wanted_none rfl) Try.isAgg25 ?_ | (refine mem_load' st 25 _ rfl (wanted_some rfl ?_) Try.isAgg25 ?_; focus (simp [yielded, Act.put]; done))); refine ⟨0, _, _, _, _, _, rfl, rfl, rfl, ?_⟩) | (with_reducible refine at_load 35 ?_; (first | refine mem_load_agg' st 35 _ rfl (wanted_none rfl) Try.isAgg35 _ Try.sizeOf35 ?_ | (refine mem_load_agg' st 35 _ rfl (wanted_some rfl ?_) Try.isAgg35 _ Try.sizeOf35 ?_; focus (simp [yielded, Act.put]; done))); refine ⟨4, _, _, _, _, _, rfl, rfl, rfl, rfl, ?_⟩) | (with_reducible refine at_load 35 ?_; (first | refine mem_load_agg' st 35 _ rfl (wanted_none rfl) Try.isAgg35 _ Try.sizeOf35 ?_ | (refine mem_load_agg' st 35 _ rfl (wanted_some rfl ?_) Try.isAgg35 _ Try.sizeOf35 ?_; focus (simp [yielded, Act.put]; done))); refine ⟨1, _, _, _, _, _, rfl, rfl, rfl, rfl, ?_⟩)
      | ((with_reducible refine at_load 35 ?_); refine wpList_load_cells (wanted_none rfl) 35 _ rfl Try.isAgg35 _ Try.sizeOf35 b2 (o2 + zm.length * 5) rfl [.int .i64 ml.host, .int .i64 ml.thread, .slice la2 ml.label.length lc2, .slice ga2 ml.grants.length gc2, .string ml.text] rfl (HC.out _ (stA.below2 st (by simp))) ?_)
      | (with_reducible refine at_alloc 35 ?_; refine mem_alloc st (wanted_none rfl) 35 rfl _ Try.zeroValue35 _ rfl ?_; clear st; intro g12 w13 hg12 st hg12b; clear hg12b; simp [Act.eval, Act.put, Value.cells, putL] at st) | (with_reducible refine at_store 35 ?_; (first | refine mem_store' st 35 _ _ rfl (wanted_none rfl) _ Try.sizeOf35 ?_ | (refine mem_store' st 35 _ _ rfl (wanted_some rfl ?_) _ Try.sizeOf35 ?_; focus (simp [yielded, Act.put]; done))); refine ⟨4, _, _, _, _, _, rfl, rfl, rfl, rfl, rfl, rfl, ?_⟩; clear st; intro w14 st hw14m hw14z; simp [Act.eval, Act.put, Value.cells, putL] at st)
      | (go_at_call 15; go_must (have hb := stA.below2 st (by simp); refine (HF.out _ (HB1.out.keep hb) la2 lc2 (HM.out _ hb).label).mono ?_; rintro e v3 ⟨rfl, hb3⟩; replace st := st.call hb3; clear hb3 hb))
      | (go_at_call 20; go_must (have hb := stA.below2 st (by simp); refine (keep_sameMail (fun _ => True) (fun _ => True) _ ml la2 lc2 ga2 gc2 sma smc sna snc (HM.out _ hb) (HS.out _ (HB1.out.keep hb))).mono ?_; rintro e v4 ⟨rfl, hb4⟩; replace st := st.call hb4; clear hb4 hb)))
    go_ret
    exact ⟨rfl, (St.back stA st).below⟩


set_option maxRecDepth 100000 in
set_option maxHeartbeats 8000000 in
theorem look_reads_call (W : World) (ok okw : Nat → Prop) (g : Nat) (css : List (List Value)) (Bs : List (List Nat)) (k : Ker) (t xt : Int) (cl : Req) (ml : Mail)
    (la : Option Addr) (lc : Nat) (oa : Option Addr) (oc : Nat) (ba : Option Addr) (bc : Nat) (ma : Option Addr) (mc : Nat) (sla : Option Addr) (slc : Nat) (sga : Option Addr) (sgc : Nat) (sma : Option Addr) (smc : Nat) (sna : Option Addr) (snc : Nat)
    (hk : k.ok) (ht : four t = true) (hcn : fitI cl.n) (hK : KerAt ok W g (stepC k t cl).1 css Bs) (hT : ThrS okw W (k.thr t) la lc oa oc ba bc ma mc) :
    Calls Try.prog 19 #[.pointer (some ⟨g, 0, none⟩), .int .i64 t, thrV (k.thr t) la lc oa oc ba bc ma mc, stepV ⟨xt, false, cl, ml⟩ sla slc sga sgc sma smc sna snc, RepV (stepC k t cl).2] W fun e W' => e = .returned (.bool true) ∧ Below W.heap.size W W' := by
  have hk2 := stepC_ok hk t cl
  have hx2 := hk2.at t
  have hx := hk.at t
  have he := stepC_eff k t hk.four cl t ht
  have hkeep := fun (o : KObj) (h : k.obj cl.t cl.n = some o) => (show four cl.t = true ∧ 0 ≤ cl.n ∧ ((k.thr cl.t).objects[cl.n.toNat]? = some o → ∃ o', ((stepC k t cl).1.thr cl.t).objects[cl.n.toNat]? = some o' ∧ o'.label = o.label) ∧ (k.thr cl.t).objects[cl.n.toNat]? = some o from by
    unfold Ker.obj at h
    split at h
    · rename_i h4
      exact ⟨h4.1, h4.2, fun h => (stepC_eff k t hk.four cl cl.t h4.1).objKeep h, h⟩
    · cases h)
  have HTh := Lib.hid (fun (V : World) (h : Below W.heap.size W V) => kernel_Thread ok V g (stepC k t cl).1 css Bs (hK.below h) hk2.thr t)
  have HT2 := Lib.hid (fun (V : World) (h : Below W.heap.size W V) => kernel_Thread ok V g (stepC k t cl).1 css Bs (hK.below h) hk2.thr cl.t)
  have hq5 := (hk2.at cl.t).objs
  have hq6 := fun o (h : o ∈ ((stepC k t cl).1.thr cl.t).objects) => goodL_len ((hk2.at cl.t).obj o h).1
  unfold thrOf at HTh HT2
  rw [if_pos ht] at HTh
  have hf := he.text
  have hq1 := goodL_len hx.good; have hq3 := hx.ownL
  clear he
  generalize (stepC k t cl).1.thr t = y at hf HTh hx2
  generalize (stepC k t cl).1.thr cl.t = q at hkeep HT2 hq5 hq6
  generalize (stepC k t cl).2 = r at hf
  generalize k.thr t = z at hf hT hx hq1 hq3
  obtain ⟨yl, yo, yt, yb, ym⟩ := y
  obtain ⟨zl, zo, zt, zb, zm⟩ := z
  obtain ⟨rc, rn, rt⟩ := r
  obtain ⟨ck, ch, ct, cn, cc, cla, cgr, ctx⟩ := cl
  have st := St.start W
  dsimp only at hf hkeep HT2 HTh hq1 hq3 hcn
  unfold thrV stepV RepV
  dsimp only
  clear hk hk2 hx hx2 hK ht
  by_cases hte : yt = zt
  · subst hte
    clear hf hkeep hT HT2 hcn
    go_enter Try.func19, Try.ntmps19
    go_upto_region 2 with (first
      | go_skip | (with_reducible refine at_box 46 ?_; refine mem_box st (wanted_none rfl) 46 _ rfl _ rfl _ rfl ?_; clear st; intro g7 w7 hg7 st hg7b; clear hg7b; simp [Act.eval, Act.put, Value.cells, putL] at st) | (with_reducible refine at_box 37 ?_; refine mem_box st (wanted_none rfl) 37 _ rfl _ rfl _ rfl ?_; clear st; intro g8 w8 hg8 st hg8b; clear hg8b; simp [Act.eval, Act.put, Value.cells, putL] at st) | (with_reducible refine at_box 39 ?_; refine mem_box st (wanted_none rfl) 39 _ rfl _ rfl _ rfl ?_; clear st; intro g9 w9 hg9 st hg9b; clear hg9b; simp [Act.eval, Act.put, Value.cells, putL] at st)
      | (go_at_call 13; go_must (refine (HTh.out _ st.below).mono ?_; rintro e v1 ⟨nla, nlc, noa, noc, nba, nbc, nma, nmc, rfl, hb1, hT2⟩; have hst := st.call hb1; clear st; have st := hst.rebase; simp only [List.map_cons, List.map_nil] at st; clear hb1; unfold thrV))
      | (with_reducible refine at_alloc 46 ?_; refine mem_alloc st (wanted_none rfl) 46 rfl _ Try.zeroValue46 _ rfl ?_; clear st; intro g11 w11 hg11 st hg11b; clear hg11b; simp [Act.eval, Act.put, Value.cells, putL] at st) | (with_reducible refine at_store 46 ?_; (first | refine mem_store' st 46 _ _ rfl (wanted_none rfl) _ Try.sizeOf46 ?_ | (refine mem_store' st 46 _ _ rfl (wanted_some rfl ?_) _ Try.sizeOf46 ?_; focus (simp [yielded, Act.put]; done))); refine ⟨3, _, _, _, _, _, rfl, rfl, rfl, rfl, rfl, rfl, ?_⟩; clear st; intro w12 st hw12m hw12z; simp [Act.eval, Act.put, Value.cells, putL] at st))
    clear hw12m hw12z
    have hB1 := (St.back hst st).below
    have hB2 : Below v1.heap.size v1 w12 := hst.below2 st (by simp)
    have hT3 := hT2.below hB2
    clear hB2 hT2
    have st := St.back hst st
    clear hst
    have stA := st
    have st := st.rebase
    simp only [List.map_cons, List.map_nil] at st
    clear hT3 hB1
    go_wp2_with (first | go_skip | (with_reducible refine at_load 9 ?_; (first | refine mem_load' st 9 _ rfl (wanted_none rfl) Try.isAgg9 ?_ | (refine mem_load' st 9 _ rfl (wanted_some rfl ?_) Try.isAgg9 ?_; focus (simp [yielded, Act.put]; done))); refine ⟨0, _, _, _, _, _, rfl, rfl, rfl, ?_⟩) | (with_reducible refine at_load 9 ?_; (first | refine mem_load' st 9 _ rfl (wanted_none rfl) Try.isAgg9 ?_ | (refine mem_load' st 9 _ rfl (wanted_some rfl ?_) Try.isAgg9 ?_; focus (simp [yielded, Act.put]; done))); refine ⟨3, _, _, _, _, _, rfl, rfl, rfl, ?_⟩) | (with_reducible refine at_load 4 ?_; (first | refine mem_load' st 4 _ rfl (wanted_none rfl) Try.isAgg4 ?_ | (refine mem_load' st 4 _ rfl (wanted_some rfl ?_) Try.isAgg4 ?_; focus (simp [yielded, Act.put]; done))); refine ⟨1, _, _, _, _, _, rfl, rfl, rfl, ?_⟩) | (with_reducible refine at_load 3 ?_; (first | refine mem_load' st 3 _ rfl (wanted_none rfl) Try.isAgg3 ?_ | (refine mem_load' st 3 _ rfl (wanted_some rfl ?_) Try.isAgg3 ?_; focus (simp [yielded, Act.put]; done))); refine ⟨1, _, _, _, _, _, rfl, rfl, rfl, ?_⟩) | (with_reducible refine at_load 30 ?_; (first | refine mem_load' st 30 _ rfl (wanted_none rfl) Try.isAgg30 ?_ | (refine mem_load' st 30 _ rfl (wanted_some rfl ?_) Try.isAgg30 ?_; focus (simp [yielded, Act.put]; done))); refine ⟨2, _, _, _, _, _, rfl, rfl, rfl, ?_⟩))
    go_ret
    exact ⟨rfl, (St.back stA st).below⟩
  have dt : (yt.toList == zt.toList) = false := by
    simpa using (show ¬ yt.toList = zt.toList from fun h => hte (by rw [ByteArray.toList_eq, ByteArray.toList_eq] at h; exact ByteArray.ext (Array.toList_inj.1 h)))
  have hf2 := hf.resolve_left hte
  clear hf hte
  obtain ⟨-, rfl | ⟨rfl, rfl⟩ | ⟨rfl, rfl, o, ho, hfl⟩⟩ := hf2
  · clear hkeep hT HT2 hcn
    go_enter Try.func19, Try.ntmps19
    go_upto_region 2 with (first
      | go_skip | (with_reducible refine at_box 46 ?_; refine mem_box st (wanted_none rfl) 46 _ rfl _ rfl _ rfl ?_; clear st; intro g7 w7 hg7 st hg7b; clear hg7b; simp [Act.eval, Act.put, Value.cells, putL] at st) | (with_reducible refine at_box 37 ?_; refine mem_box st (wanted_none rfl) 37 _ rfl _ rfl _ rfl ?_; clear st; intro g8 w8 hg8 st hg8b; clear hg8b; simp [Act.eval, Act.put, Value.cells, putL] at st) | (with_reducible refine at_box 39 ?_; refine mem_box st (wanted_none rfl) 39 _ rfl _ rfl _ rfl ?_; clear st; intro g9 w9 hg9 st hg9b; clear hg9b; simp [Act.eval, Act.put, Value.cells, putL] at st)
      | (go_at_call 13; go_must (refine (HTh.out _ st.below).mono ?_; rintro e v1 ⟨nla, nlc, noa, noc, nba, nbc, nma, nmc, rfl, hb1, hT2⟩; have hst := st.call hb1; clear st; have st := hst.rebase; simp only [List.map_cons, List.map_nil] at st; clear hb1; unfold thrV))
      | (with_reducible refine at_alloc 46 ?_; refine mem_alloc st (wanted_none rfl) 46 rfl _ Try.zeroValue46 _ rfl ?_; clear st; intro g11 w11 hg11 st hg11b; clear hg11b; simp [Act.eval, Act.put, Value.cells, putL] at st) | (with_reducible refine at_store 46 ?_; (first | refine mem_store' st 46 _ _ rfl (wanted_none rfl) _ Try.sizeOf46 ?_ | (refine mem_store' st 46 _ _ rfl (wanted_some rfl ?_) _ Try.sizeOf46 ?_; focus (simp [yielded, Act.put]; done))); refine ⟨3, _, _, _, _, _, rfl, rfl, rfl, rfl, rfl, rfl, ?_⟩; clear st; intro w12 st hw12m hw12z; simp [Act.eval, Act.put, Value.cells, putL] at st))
    clear hw12m hw12z
    have hB1 := (St.back hst st).below
    have hB2 : Below v1.heap.size v1 w12 := hst.below2 st (by simp)
    have hT3 := hT2.below hB2
    clear hB2 hT2
    have st := St.back hst st
    clear hst
    have stA := st
    have st := st.rebase
    simp only [List.map_cons, List.map_nil] at st
    clear hT3 hB1
    go_wp2_with (first | go_skip | (with_reducible refine at_load 9 ?_; (first | refine mem_load' st 9 _ rfl (wanted_none rfl) Try.isAgg9 ?_ | (refine mem_load' st 9 _ rfl (wanted_some rfl ?_) Try.isAgg9 ?_; focus (simp [yielded, Act.put]; done))); refine ⟨0, _, _, _, _, _, rfl, rfl, rfl, ?_⟩) | (with_reducible refine at_load 9 ?_; (first | refine mem_load' st 9 _ rfl (wanted_none rfl) Try.isAgg9 ?_ | (refine mem_load' st 9 _ rfl (wanted_some rfl ?_) Try.isAgg9 ?_; focus (simp [yielded, Act.put]; done))); refine ⟨3, _, _, _, _, _, rfl, rfl, rfl, ?_⟩) | (with_reducible refine at_load 4 ?_; (first | refine mem_load' st 4 _ rfl (wanted_none rfl) Try.isAgg4 ?_ | (refine mem_load' st 4 _ rfl (wanted_some rfl ?_) Try.isAgg4 ?_; focus (simp [yielded, Act.put]; done))); refine ⟨1, _, _, _, _, _, rfl, rfl, rfl, ?_⟩) | (with_reducible refine at_load 3 ?_; (first | refine mem_load' st 3 _ rfl (wanted_none rfl) Try.isAgg3 ?_ | (refine mem_load' st 3 _ rfl (wanted_some rfl ?_) Try.isAgg3 ?_; focus (simp [yielded, Act.put]; done))); refine ⟨1, _, _, _, _, _, rfl, rfl, rfl, ?_⟩) | (with_reducible refine at_load 30 ?_; (first | refine mem_load' st 30 _ rfl (wanted_none rfl) Try.isAgg30 ?_ | (refine mem_load' st 30 _ rfl (wanted_some rfl ?_) Try.isAgg30 ?_; focus (simp [yielded, Act.put]; done))); refine ⟨2, _, _, _, _, _, rfl, rfl, rfl, ?_⟩))
    go_ret
    exact ⟨rfl, (St.back stA st).below⟩
  · clear hkeep hT HT2 hcn
    go_enter Try.func19, Try.ntmps19
    go_upto_region 2 with (first
      | go_skip | (with_reducible refine at_box 46 ?_; refine mem_box st (wanted_none rfl) 46 _ rfl _ rfl _ rfl ?_; clear st; intro g7 w7 hg7 st hg7b; clear hg7b; simp [Act.eval, Act.put, Value.cells, putL] at st) | (with_reducible refine at_box 37 ?_; refine mem_box st (wanted_none rfl) 37 _ rfl _ rfl _ rfl ?_; clear st; intro g8 w8 hg8 st hg8b; clear hg8b; simp [Act.eval, Act.put, Value.cells, putL] at st) | (with_reducible refine at_box 39 ?_; refine mem_box st (wanted_none rfl) 39 _ rfl _ rfl _ rfl ?_; clear st; intro g9 w9 hg9 st hg9b; clear hg9b; simp [Act.eval, Act.put, Value.cells, putL] at st)
      | (go_at_call 13; go_must (refine (HTh.out _ st.below).mono ?_; rintro e v1 ⟨nla, nlc, noa, noc, nba, nbc, nma, nmc, rfl, hb1, hT2⟩; have hst := st.call hb1; clear st; have st := hst.rebase; simp only [List.map_cons, List.map_nil] at st; clear hb1; unfold thrV))
      | (with_reducible refine at_alloc 46 ?_; refine mem_alloc st (wanted_none rfl) 46 rfl _ Try.zeroValue46 _ rfl ?_; clear st; intro g11 w11 hg11 st hg11b; clear hg11b; simp [Act.eval, Act.put, Value.cells, putL] at st) | (with_reducible refine at_store 46 ?_; (first | refine mem_store' st 46 _ _ rfl (wanted_none rfl) _ Try.sizeOf46 ?_ | (refine mem_store' st 46 _ _ rfl (wanted_some rfl ?_) _ Try.sizeOf46 ?_; focus (simp [yielded, Act.put]; done))); refine ⟨3, _, _, _, _, _, rfl, rfl, rfl, rfl, rfl, rfl, ?_⟩; clear st; intro w12 st hw12m hw12z; simp [Act.eval, Act.put, Value.cells, putL] at st))
    clear hw12m hw12z
    have hB1 := (St.back hst st).below
    have hB2 : Below v1.heap.size v1 w12 := hst.below2 st (by simp)
    have hT3 := hT2.below hB2
    clear hB2 hT2
    have st := St.back hst st
    clear hst
    have stA := st
    have st := st.rebase
    simp only [List.map_cons, List.map_nil] at st
    clear hT3 hB1
    go_wp2_with (first | go_skip | (with_reducible refine at_load 9 ?_; (first | refine mem_load' st 9 _ rfl (wanted_none rfl) Try.isAgg9 ?_ | (refine mem_load' st 9 _ rfl (wanted_some rfl ?_) Try.isAgg9 ?_; focus (simp [yielded, Act.put]; done))); refine ⟨0, _, _, _, _, _, rfl, rfl, rfl, ?_⟩) | (with_reducible refine at_load 9 ?_; (first | refine mem_load' st 9 _ rfl (wanted_none rfl) Try.isAgg9 ?_ | (refine mem_load' st 9 _ rfl (wanted_some rfl ?_) Try.isAgg9 ?_; focus (simp [yielded, Act.put]; done))); refine ⟨3, _, _, _, _, _, rfl, rfl, rfl, ?_⟩) | (with_reducible refine at_load 4 ?_; (first | refine mem_load' st 4 _ rfl (wanted_none rfl) Try.isAgg4 ?_ | (refine mem_load' st 4 _ rfl (wanted_some rfl ?_) Try.isAgg4 ?_; focus (simp [yielded, Act.put]; done))); refine ⟨1, _, _, _, _, _, rfl, rfl, rfl, ?_⟩) | (with_reducible refine at_load 3 ?_; (first | refine mem_load' st 3 _ rfl (wanted_none rfl) Try.isAgg3 ?_ | (refine mem_load' st 3 _ rfl (wanted_some rfl ?_) Try.isAgg3 ?_; focus (simp [yielded, Act.put]; done))); refine ⟨1, _, _, _, _, _, rfl, rfl, rfl, ?_⟩) | (with_reducible refine at_load 30 ?_; (first | refine mem_load' st 30 _ rfl (wanted_none rfl) Try.isAgg30 ?_ | (refine mem_load' st 30 _ rfl (wanted_some rfl ?_) Try.isAgg30 ?_; focus (simp [yielded, Act.put]; done))); refine ⟨2, _, _, _, _, _, rfl, rfl, rfl, ?_⟩))
    go_ret
    exact ⟨rfl, (St.back stA st).below⟩
  · obtain ⟨h4, h0, h1, h2⟩ := hkeep o ho
    obtain ⟨o', ho', hl⟩ := h1 h2
    rw [if_pos h4] at HT2
    obtain ⟨n, rfl⟩ := Int.eq_ofNat_of_zero_le h0
    simp only [Int.toNat_natCast] at ho'
    have hlt := (List.getElem?_eq_some_iff.1 ho').1
    have hq7 := hq6 o' (List.mem_of_getElem? ho')
    have HF := Lib.hid (fun (V : World) (h : Below W.heap.size W V) (a : Option Addr) (c : Nat) (hy : SlR (fun _ => True) V 2 RLev a c o'.label) => (label_Flows (fun _ => True) V a la oa c lc oc o'.label zl zo (by omega) (by omega) hy ((hT.label.below h).okay fun _ _ => trivial) ((hT.own.below h).okay fun _ _ => trivial)).mono (R' := fun e w' => e = .returned (.bool true) ∧ Below V.heap.size V w') (by rintro e w' ⟨rfl, h⟩; rw [hl, hfl]; exact ⟨rfl, h⟩))
    have HG := Lib.hid ho'
    have d1 : decide (0 ≤ (n : Int)) = true := by simp
    have d2 : decide ((n : Int) < q.objects.length) = true := by simp; omega
    clear hkeep hT ho h4 h0 h1 h2 ho' hq6 hl hfl hcn
    go_enter Try.func19, Try.ntmps19
    go_upto_region 2 with (first
      | go_skip | (with_reducible refine at_box 46 ?_; refine mem_box st (wanted_none rfl) 46 _ rfl _ rfl _ rfl ?_; clear st; intro g7 w7 hg7 st hg7b; clear hg7b; simp [Act.eval, Act.put, Value.cells, putL] at st) | (with_reducible refine at_box 37 ?_; refine mem_box st (wanted_none rfl) 37 _ rfl _ rfl _ rfl ?_; clear st; intro g8 w8 hg8 st hg8b; clear hg8b; simp [Act.eval, Act.put, Value.cells, putL] at st) | (with_reducible refine at_box 39 ?_; refine mem_box st (wanted_none rfl) 39 _ rfl _ rfl _ rfl ?_; clear st; intro g9 w9 hg9 st hg9b; clear hg9b; simp [Act.eval, Act.put, Value.cells, putL] at st)
      | (go_at_call 13; go_must (refine (HTh.out _ st.below).mono ?_; rintro e v1 ⟨nla, nlc, noa, noc, nba, nbc, nma, nmc, rfl, hb1, hT2⟩; have hst := st.call hb1; clear st; have st := hst.rebase; simp only [List.map_cons, List.map_nil] at st; clear hb1; unfold thrV))
      | (with_reducible refine at_alloc 46 ?_; refine mem_alloc st (wanted_none rfl) 46 rfl _ Try.zeroValue46 _ rfl ?_; clear st; intro g11 w11 hg11 st hg11b; clear hg11b; simp [Act.eval, Act.put, Value.cells, putL] at st) | (with_reducible refine at_store 46 ?_; (first | refine mem_store' st 46 _ _ rfl (wanted_none rfl) _ Try.sizeOf46 ?_ | (refine mem_store' st 46 _ _ rfl (wanted_some rfl ?_) _ Try.sizeOf46 ?_; focus (simp [yielded, Act.put]; done))); refine ⟨3, _, _, _, _, _, rfl, rfl, rfl, rfl, rfl, rfl, ?_⟩; clear st; intro w12 st hw12m hw12z; simp [Act.eval, Act.put, Value.cells, putL] at st))
    clear hw12m hw12z
    have hB1 := (St.back hst st).below
    have hB2 : Below v1.heap.size v1 w12 := hst.below2 st (by simp)
    have hT3 := hT2.below hB2
    clear hB2 hT2
    have st := St.back hst st
    clear hst
    have stA := st
    have st := st.rebase
    simp only [List.map_cons, List.map_nil] at st
    clear hT3
    have HB1 := Lib.hid hB1
    clear hB1
    have hfd : ∀ (A B C D E : Value) (W : World), (Instr.field 46 (.agg #[A, B, C, D, E]) 3).run Try.prog W = .ok D W := fun _ _ _ _ _ _ => by kernel_rfl
    go_upto_region 12 with (first
      | go_skip | (with_reducible refine at_load 9 ?_; (first | refine mem_load' st 9 _ rfl (wanted_none rfl) Try.isAgg9 ?_ | (refine mem_load' st 9 _ rfl (wanted_some rfl ?_) Try.isAgg9 ?_; focus (simp [yielded, Act.put]; done))); refine ⟨0, _, _, _, _, _, rfl, rfl, rfl, ?_⟩) | (with_reducible refine at_load 9 ?_; (first | refine mem_load' st 9 _ rfl (wanted_none rfl) Try.isAgg9 ?_ | (refine mem_load' st 9 _ rfl (wanted_some rfl ?_) Try.isAgg9 ?_; focus (simp [yielded, Act.put]; done))); refine ⟨3, _, _, _, _, _, rfl, rfl, rfl, ?_⟩) | (with_reducible refine at_load 4 ?_; (first | refine mem_load' st 4 _ rfl (wanted_none rfl) Try.isAgg4 ?_ | (refine mem_load' st 4 _ rfl (wanted_some rfl ?_) Try.isAgg4 ?_; focus (simp [yielded, Act.put]; done))); refine ⟨1, _, _, _, _, _, rfl, rfl, rfl, ?_⟩) | (with_reducible refine at_load 3 ?_; (first | refine mem_load' st 3 _ rfl (wanted_none rfl) Try.isAgg3 ?_ | (refine mem_load' st 3 _ rfl (wanted_some rfl ?_) Try.isAgg3 ?_; focus (simp [yielded, Act.put]; done))); refine ⟨1, _, _, _, _, _, rfl, rfl, rfl, ?_⟩) | (with_reducible refine at_load 30 ?_; (first | refine mem_load' st 30 _ rfl (wanted_none rfl) Try.isAgg30 ?_ | (refine mem_load' st 30 _ rfl (wanted_some rfl ?_) Try.isAgg30 ?_; focus (simp [yielded, Act.put]; done))); refine ⟨2, _, _, _, _, _, rfl, rfl, rfl, ?_⟩)
      | (go_at_call 13; go_must (refine (HT2.out _ (HB1.out.keep (stA.below2 st (by simp)))).mono ?_; rintro e v5 ⟨pla, plc, poa, poc, pba, pbc, pma, pmc, rfl, hb5, hT5⟩; have hst := st.call hb5; clear st; have st := hst.rebase; simp only [List.map_cons, List.map_nil] at st; clear hb5; unfold thrV)))
    have hB5 := Lib.hid (show ∀ (V : World) (bl : Blks), St [g7, g8, g9, g11] v5 V bl → (∀ x ∈ [(g7, 46, [.slice la zl.length lc, .slice oa zo.length oc, .string zt, .slice ba zb.length bc, .slice ma zm.length mc]), (g8, 37, [.int .i64 xt, .bool false, .int .i64 4, .int .i64 ch, .int .i64 ct, .int .i64 (n : Int), .int .i64 cc, .slice sla cla.length slc, .slice sga cgr.length sgc, .string ctx, .int .i64 ml.host, .int .i64 ml.thread, .slice sma ml.label.length smc, .slice sna ml.grants.length snc, .string ml.text]), (g9, 39, [.int .i64 0, .int .i64 rn, .string rt]), (g11, 46, [.slice nla yl.length nlc, .slice noa yo.length noc, .string yt, .slice nba yb.length nbc, .slice nma ym.length nmc])], x ∈ bl) → Below v5.heap.size v5 V from fun V bl h hm => hst.below2 h hm)
    have hst5 := (St.back stA hst).below
    have stF := Lib.hid (show ∀ (V : World) (bl : Blks), St [g7, g8, g9, g11] v5 V bl → Below W.heap.size W V from fun V bl h => (St.back (St.back stA hst) h).below)
    clear hst stA
    have hlt5 := (List.getElem?_eq_some_iff.1 HG.out).1
    obtain ⟨b5, o5, la5, lc5, hpa, -, hb5, hA5, hC5⟩ := hT5.objs.obj_at n hlt5
    have hq1' := hT5.objs.1
    have hq2' := hT5.objs.2.1
    subst hpa
    rw [(List.getElem?_eq_some_iff.1 HG.out).2] at hA5 hC5
    have HC := Lib.hid (show ∀ (V : World), Below v5.heap.size v5 V → V.cell? ⟨b5, o5 + n * 2, none⟩ = some (.slice la5 o'.label.length lc5) from fun V h => (h.cell (p := ⟨b5, o5 + n * 2, none⟩) hb5).trans (by simpa using hC5 0 _ rfl))
    have HA := Lib.hid (show ∀ (V : World), Below v5.heap.size v5 V → SlR (fun _ => True) V 2 RLev la5 lc5 o'.label from fun V h => (hA5.below h).okay fun _ _ => trivial)
    clear hT5 hA5 hC5
    unfold maxLen at hq2'
    refine det_region (by kernel_rfl) 27 rfl (fun V => St [g7, g8, g9, g11] v5 V [(g7, 46, [.slice la zl.length lc, .slice oa zo.length oc, .string zt, .slice ba zb.length bc, .slice ma zm.length mc]), (g8, 37, [.int .i64 xt, .bool false, .int .i64 4, .int .i64 ch, .int .i64 ct, .int .i64 (n : Int), .int .i64 cc, .slice sla cla.length slc, .slice sga cgr.length sgc, .string ctx, .int .i64 ml.host, .int .i64 ml.thread, .slice sma ml.label.length smc, .slice sna ml.grants.length snc, .string ml.text]), (g9, 39, [.int .i64 0, .int .i64 rn, .string rt]), (g11, 46, [.slice nla yl.length nlc, .slice noa yo.length noc, .string yt, .slice nba yb.length nbc, .slice nma ym.length nmc])]) (st.drew) (by decide +kernel) ?_
    refine det_take 0 rfl (by decide +kernel) (by first | exact wanted_none rfl | exact wanted_some rfl rfl) (fun W hW => by first | (go_simp; done) | (go_simp; rfl)) ?_; simp only [Act.put, List.setIfInBounds_toArray, List.set_cons_succ, List.set_cons_zero]; refine det_take 1 rfl (by decide +kernel) (by first | exact wanted_none rfl | exact wanted_some rfl rfl) (fun W hW => by first | (go_simp; done) | (go_simp; rfl)) ?_; simp only [Act.put, List.setIfInBounds_toArray, List.set_cons_succ, List.set_cons_zero]
    refine det_take 2 rfl (by decide +kernel) (by first | exact wanted_none rfl | exact wanted_some rfl rfl) (fun W hW => St.run_load hW 1 3 _ rfl Try.isAgg3 rfl rfl rfl) ?_; simp only [Act.put, List.setIfInBounds_toArray, List.set_cons_succ, List.set_cons_zero]
    refine det_take (v := .bool true) 3 rfl (by decide +kernel) (by first | exact wanted_none rfl | exact wanted_some rfl rfl) (fun W hW => by (go_simp; done)) ?_; simp only [Act.put, List.setIfInBounds_toArray, List.set_cons_succ, List.set_cons_zero]
    refine det_take 4 rfl (by decide +kernel) (by first | exact wanted_none rfl | exact wanted_some rfl rfl) (fun W hW => by first | (go_simp; done) | (go_simp; rfl)) ?_; simp only [Act.put, List.setIfInBounds_toArray, List.set_cons_succ, List.set_cons_zero]; refine det_take 5 rfl (by decide +kernel) (by first | exact wanted_none rfl | exact wanted_some rfl rfl) (fun W hW => by first | (go_simp; done) | (go_simp; rfl)) ?_; simp only [Act.put, List.setIfInBounds_toArray, List.set_cons_succ, List.set_cons_zero]; refine det_take 6 rfl (by decide +kernel) (by first | exact wanted_none rfl | exact wanted_some rfl rfl) (fun W hW => by first | (go_simp; done) | (go_simp; rfl)) ?_; simp only [Act.put, List.setIfInBounds_toArray, List.set_cons_succ, List.set_cons_zero]
    refine det_take 7 rfl (by decide +kernel) (by first | exact wanted_none rfl | exact wanted_some rfl rfl) (fun W hW => St.run_load hW 1 3 _ rfl Try.isAgg3 rfl rfl rfl) ?_; simp only [Act.put, List.setIfInBounds_toArray, List.set_cons_succ, List.set_cons_zero]
    refine det_take 8 rfl (by decide +kernel) (by first | exact wanted_none rfl | exact wanted_some rfl rfl) (fun W hW => by first | (go_simp; done) | (go_simp; rfl)) ?_; simp only [Act.put, List.setIfInBounds_toArray, List.set_cons_succ, List.set_cons_zero]; refine det_take 9 rfl (by decide +kernel) (by first | exact wanted_none rfl | exact wanted_some rfl rfl) (fun W hW => by first | (go_simp; done) | (go_simp; rfl)) ?_; simp only [Act.put, List.setIfInBounds_toArray, List.set_cons_succ, List.set_cons_zero]
    refine det_take (v := .bool true) 10 rfl (by decide +kernel) (by first | exact wanted_none rfl | exact wanted_some rfl rfl) (fun W hW => by (go_simp; done)) ?_; simp only [Act.put, List.setIfInBounds_toArray, List.set_cons_succ, List.set_cons_zero]
    refine det_take 11 rfl (by decide +kernel) (by first | exact wanted_none rfl | exact wanted_some rfl rfl) (fun W hW => by first | (go_simp; done) | (go_simp; rfl)) ?_; simp only [Act.put, List.setIfInBounds_toArray, List.set_cons_succ, List.set_cons_zero]; refine det_take 12 rfl (by decide +kernel) (by first | exact wanted_none rfl | exact wanted_some rfl rfl) (fun W hW => by first | (go_simp; done) | (go_simp; rfl)) ?_; simp only [Act.put, List.setIfInBounds_toArray, List.set_cons_succ, List.set_cons_zero]; refine det_take 13 rfl (by decide +kernel) (by first | exact wanted_none rfl | exact wanted_some rfl rfl) (fun W hW => by first | (go_simp; done) | (go_simp; rfl)) ?_; simp only [Act.put, List.setIfInBounds_toArray, List.set_cons_succ, List.set_cons_zero]; refine det_take 14 rfl (by decide +kernel) (by first | exact wanted_none rfl | exact wanted_some rfl rfl) (fun W hW => by first | (go_simp; done) | (go_simp; rfl)) ?_; simp only [Act.put, List.setIfInBounds_toArray, List.set_cons_succ, List.set_cons_zero]; refine det_take 15 rfl (by decide +kernel) (by first | exact wanted_none rfl | exact wanted_some rfl rfl) (fun W hW => by first | (go_simp; done) | (go_simp; rfl)) ?_; simp only [Act.put, List.setIfInBounds_toArray, List.set_cons_succ, List.set_cons_zero]
    refine det_take 16 rfl (by decide +kernel) (by first | exact wanted_none rfl | exact wanted_some rfl rfl) (fun W hW => St.run_load hW 1 3 _ rfl Try.isAgg3 rfl rfl rfl) ?_; simp only [Act.put, List.setIfInBounds_toArray, List.set_cons_succ, List.set_cons_zero]
    refine det_take 17 rfl (by decide +kernel) (by first | exact wanted_none rfl | exact wanted_some rfl rfl) (fun W hW => by first | (go_simp; done) | (go_simp; rfl)) ?_; simp only [Act.put, List.setIfInBounds_toArray, List.set_cons_succ, List.set_cons_zero]; refine det_take 18 rfl (by decide +kernel) (by first | exact wanted_none rfl | exact wanted_some rfl rfl) (fun W hW => by first | (go_simp; done) | (go_simp; rfl)) ?_; simp only [Act.put, List.setIfInBounds_toArray, List.set_cons_succ, List.set_cons_zero]
    refine det_take (v := .slice la5 o'.label.length lc5) 19 rfl (by decide +kernel) (by first | exact wanted_none rfl | exact wanted_some rfl rfl) (fun V hV => run_load_one 24 _ rfl Try.isAgg24 b5 (o5 + n * 2) rfl _ (HC.out V (hB5.out V _ hV (by simp)))) ?_; simp only [Act.put, List.setIfInBounds_toArray, List.set_cons_succ, List.set_cons_zero]
    refine det_take 20 rfl (by decide +kernel) (by first | exact wanted_none rfl | exact wanted_some rfl rfl) (fun W hW => by first | (go_simp; done) | (go_simp; rfl)) ?_; simp only [Act.put, List.setIfInBounds_toArray, List.set_cons_succ, List.set_cons_zero]
    refine det_take 21 rfl (by decide +kernel) (by first | exact wanted_none rfl | exact wanted_some rfl rfl) (fun W hW => St.run_load hW 0 24 _ rfl Try.isAgg24 rfl rfl rfl) ?_; simp only [Act.put, List.setIfInBounds_toArray, List.set_cons_succ, List.set_cons_zero]
    refine det_take 22 rfl (by decide +kernel) (by first | exact wanted_none rfl | exact wanted_some rfl rfl) (fun W hW => by first | (go_simp; done) | (go_simp; rfl)) ?_; simp only [Act.put, List.setIfInBounds_toArray, List.set_cons_succ, List.set_cons_zero]
    refine det_take 23 rfl (by decide +kernel) (by first | exact wanted_none rfl | exact wanted_some rfl rfl) (fun W hW => St.run_load hW 0 25 _ rfl Try.isAgg25 rfl rfl rfl) ?_; simp only [Act.put, List.setIfInBounds_toArray, List.set_cons_succ, List.set_cons_zero]
    refine det_call (fn := 15) 24 rfl (by decide +kernel) (by first | exact wanted_none rfl | exact wanted_some rfl rfl) (fun W => by first | (go_simp; done) | (go_simp; rfl)) (fun W hW => (HF.out W (stF.out W _ hW) la5 lc5 (HA.out W (hB5.out W _ hW (by simp)))).mono fun e w' h => ⟨h.1, hW.call h.2⟩) ?_; simp only [Act.put, List.setIfInBounds_toArray, List.set_cons_succ, List.set_cons_zero]
    refine det_take 25 rfl (by decide +kernel) (by first | exact wanted_none rfl | exact wanted_some rfl rfl) (fun W hW => by first | (go_simp; done) | (go_simp; rfl)) ?_; simp only [Act.put, List.setIfInBounds_toArray, List.set_cons_succ, List.set_cons_zero]; refine det_take 26 rfl (by decide +kernel) (by first | exact wanted_none rfl | exact wanted_some rfl rfl) (fun W hW => by first | (go_simp; done) | (go_simp; rfl)) ?_; simp only [Act.put, List.setIfInBounds_toArray, List.set_cons_succ, List.set_cons_zero]
    refine det_done (by decide +kernel) ?_
    clear st
    intro V st
    go_wp2
    go_ret
    exact ⟨rfl, stF.out _ _ st⟩

theorem look_reads : Look 19 := by
  intro W ok okw g css Bs k t x la lc oa oc ba bc ma mc sla slc sga sgc sma smc sna snc hk ht hfit hK hT hS
  obtain ⟨xt, cm, cl, ml⟩ := x
  unfold stepK at hK ⊢
  cases cm with
  | true => exact look_reads_come W ok okw g css Bs k t xt cl ml la lc oa oc ba bc ma mc sla slc sga sgc sma smc sna snc hk ht hfit.2.2.2.2.2.1.1 hfit.2.2.2.2.2.2.1.1 hK hT hS
  | false => exact look_reads_call W ok okw g css Bs k t xt cl ml la lc oa oc ba bc ma mc sla slc sga sgc sma smc sna snc hk ht hfit.2.2.1.2.2.2.1 hK hT

end Go.Proofs.Ytnkfemjmfalamaa
