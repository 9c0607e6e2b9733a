/- Walks and plain laws that the claim rests on, part 16. -/
import Derived.Test.YtnkfemjmfalamaaP15
import Derived.Test.YtnkfemjmfalamaaP5
import Derived.Test.YtnkfemjmfalamaaP7
set_option linter.unusedSimpArgs false
set_option linter.unusedVariables false
/- The walk through run: a row of steps upon a kernel, and what is looked at behind each. -/
namespace Go.Proofs.Ytnkfemjmfalamaa
open Go.RowKit

def stepC15 (x : Step) (la : Option Addr) (lc : Nat) (ga : Option Addr) (gc : Nat) (ma : Option Addr) (mc : Nat) (na : Option Addr) (nc : Nat) : List Value :=
  [.int .i64 x.t, .bool x.come, .int .i64 x.call.kind, .int .i64 x.call.h, .int .i64 x.call.t, .int .i64 x.call.n, .int .i64 x.call.c, .slice la x.call.label.length lc, .slice ga x.call.grants.length gc, .string x.call.text,
    .int .i64 x.mail.host, .int .i64 x.mail.thread, .slice ma x.mail.label.length mc, .slice na x.mail.grants.length nc, .string x.mail.text]

/-- Behind a call of the kernel that the call itself made, beside blocks of ours. -/
theorem step_after {w wr w14 W2 : World} {own3 : Blks} {ok : Nat → Prop} {gk : Nat} {k k' : Ker} {css : List (List Value)} {Bs : List (List Nat)} (str : St [] w wr []) (hK : KerAt ok wr gk k css Bs) (h5 : ∀ b ∈ gk :: Bs.flatten, w.heap.size ≤ b) (h7 : ∀ b, ok b → b < wr.heap.size)
    (stX : St [] wr w14 own3) (hTo : KerTo ok w14 gk Bs W2 k') (hk' : k'.ok) :
    ∃ okK css2 Bs2, St [] w W2 own3 ∧ (∀ V bl, St (own3.map (·.1)) W2 V bl → KerAt okK V gk k' css2 Bs2 ∧ ∀ V', Below V.heap.size V V' → Solo w [] gk k' V') ∧ ∀ b, wr.heap.size ≤ b → b < w14.heap.size → W2.heap[b]? = w14.heap[b]? := by
  obtain ⟨css2, Bs2, hK2, hs2, hin2⟩ := hTo
  have hm : ∀ x ∈ own3, wr.heap.size ≤ x.1 := fun x hx => by simpa using stX.mine x hx
  have hz := stX.size
  have hin : ∀ b ∈ gk :: Bs2.flatten, b ∈ gk :: Bs.flatten ∨ w14.heap.size ≤ b := fun b hb => by
    rcases List.mem_cons.1 hb with rfl | hb
    · exact .inl (by simp)
    · exact (hin2 b hb).imp (List.mem_cons_of_mem _) id
  have hstW : St [] w W2 own3 := (St.back str stX).callK hs2 (fun x hx h => by have := hK.lt _ h; have := hm x hx; omega) fun b h => .inr (h5 b h)
  have hno : ∀ b, b ∈ own3.map (·.1) → wr.heap.size ≤ b ∧ b < w14.heap.size := fun b hb => by
    obtain ⟨x, hx, rfl⟩ := List.mem_map.1 hb
    exact ⟨hm x hx, stX.lt hx⟩
  refine ⟨fun b => (ok b ∨ w14.heap.size ≤ b) ∧ b ∉ gk :: Bs2.flatten, css2, Bs2, hstW, fun V bl hV => ?_, fun b h1 h2 => hs2.frame b h2 fun h => by have := hK.lt _ h; omega⟩
  have hKV : KerAt (fun b => (ok b ∨ w14.heap.size ≤ b) ∧ b ∉ gk :: Bs2.flatten) V gk k' css2 Bs2 := hK2.move hV.size (fun b hb ho => ⟨ho, hV.frame b hb fun h => by
    obtain ⟨q1, q2⟩ := hno b h
    rcases ho.1 with h1 | h1
    · have := h7 b h1; omega
    · omega⟩) fun b hb => ⟨hV.frame b (hK2.lt b hb) fun h => by
    obtain ⟨q1, q2⟩ := hno b h
    rcases hin b hb with h1 | h1
    · have := hK.lt b h1; omega
    · omega, hK2.apart b hb⟩
  refine ⟨hKV, fun V' hb => ?_⟩
  have stV : St [] w V' [] := (St.back hstW hV).sub (own' := []) (by simp) List.Pairwise.nil |>.call hb
  refine ⟨stV, hk', fun b => ((ok b ∨ w14.heap.size ≤ b) ∧ b ∉ gk :: Bs2.flatten) ∧ b < V'.heap.size, css2, Bs2, (hKV.below hb).move (Nat.le_refl _) (fun b hb ho => ⟨⟨ho, hb⟩, rfl⟩) fun b hb => ⟨rfl, fun hh => hh.1.2 hb⟩, fun b hb => ⟨?_, by simp⟩, fun b hb => hb.2⟩
  rcases hin b hb with h1 | h1
  · exact h5 b h1
  · have := str.size; omega

set_option maxRecDepth 100000 in
set_option maxHeartbeats 8000000 in
theorem keep_run_labels (HL : Look 12) (w : World) (host : Int) (l : List Step) (sa : Option Addr) (sc : Nat) (hh : fitI host) (hS : SlR (fun _ => True) w 15 (RStep (fun _ => True) w) sa sc l) (hsl : l.length * 200 ≤ 140737488351232) (hsf : ∀ x ∈ l, x.fit) :
    Calls Try.prog 11 #[.int .i64 host, .slice sa l.length sc, .func (.func 12) #[] #[]] w fun r w' => r = .returned (.bool true) ∧ Below w.heap.size w w' := by
  have eg : ∀ args w, (callFunc 12 args).run Try.prog w = .ok (.enter 12 args) w := enters_of Try.func12 (by kernel_rfl) rfl
  have st := St.start w
  have hS' := Lib.hid hS
  have HF := Lib.hid hsf
  have HP := Lib.hid (fun (W : World) (k : Int) (hk : fitI k) => keep_pick W k 4 (by omega) (by omega) hk)
  have hh' := Lib.hid hh
  have HLk := Lib.hid HL
  clear hS hsf hh HL
  go_enter Try.func11, Try.ntmps11
  go_wp2_with (first
    | go_skip
    | (go_at_call 7; refine (HP.out _ _ hh'.out).mono ?_; rintro x v2 ⟨⟨p, rfl, hp1, hp2⟩, rfl⟩)
    | (go_at_call 8; refine (kernel_New _ _ (by omega) (by omega)).mono ?_; rintro e v1 ⟨gk, rfl, hgk, st1⟩; replace st := st.join st1; clear st1; simp only [List.cons_append, List.nil_append] at st)
    | (go_at_call 9; refine (calls_yes_keep _).mono ?_; rintro e v1 ⟨rfl, hbc⟩; replace st := st.call hbc; clear hbc))
  have hP0 : ∃ k, Solo w [] gk k v1 := ⟨newK p, Solo.new (own' := []) st (by simp) ⟨hp1, hp2⟩ (by simp) List.Pairwise.nil⟩
  clear st hp1 hp2
  have hsl2 : l.length ≤ 9223372036854775807 := by omega
  go_loopw [9] (fun i wr => ∃ j : Nat, j ≤ l.length ∧ j ≤ 120 ∧ i = .int .i64 j ∧ ∃ k, Solo w [] gk k wr) (fun i _ => 120 - (intOf i).toNat)
  case atStart => exact ⟨0, Nat.zero_le _, by omega, rfl, hP0⟩
  case round =>
    clear hP0
    obtain ⟨j, hj, hj120, rfl, k, str, hk, ok, css, Bs, hK, h5, h7⟩ := hrel
    by_cases hlt : j < l.length
    · by_cases h120 : j < 120
      · have d1 : decide ((j : Int) < l.length) = true := by simp; omega
        have d2 : decide ((j : Int) < 120) = true := by simp; omega
        have hBw := str.below
        have hst := hS'.out.step_at j hlt
        have hfit := HF.out _ (List.getElem_mem hlt)
        generalize l[j] = x at hst hfit
        obtain ⟨xt, cm, cl, ml⟩ := x
        dsimp only at hst
        obtain ⟨b, o, sla, slc, sga, sgc, sma, smc, sna, snc, hsa, hb, ⟨hA, hA2, hM, hM2⟩, f0, f1, f2, f3, f4, f5, f6, f7, f8, f9, f10, f11, f12, f13, f14⟩ := hst
        have tr := fun (p : Nat) (v : Option Value) (h : w.cell? ⟨b, p, none⟩ = v) => (hBw.cell (p := ⟨b, p, none⟩) hb).trans h
        replace f0 := tr _ _ f0; replace f1 := tr _ _ f1; replace f2 := tr _ _ f2; replace f3 := tr _ _ f3; replace f4 := tr _ _ f4; replace f5 := tr _ _ f5; replace f6 := tr _ _ f6
        replace f7 := tr _ _ f7; replace f8 := tr _ _ f8; replace f9 := tr _ _ f9; replace f10 := tr _ _ f10; replace f11 := tr _ _ f11; replace f12 := tr _ _ f12; replace f13 := tr _ _ f13; replace f14 := tr _ _ f14
        clear tr
        have HS2 := Lib.hid hS'
        subst hsa
        have hql : cl.label.length * 16 ≤ 140737488351232 := hfit.2.2.1.2.2.2.2.2.1.1
        have hqm : ml.label.length * 16 ≤ 140737488351232 := hfit.2.2.2.2.2.1.1
        have hqg : ml.grants.length * 8 ≤ 140737488351232 := hfit.2.2.2.2.2.2.1.1
        have hqt := Lib.hid (hfit.1 : fitI xt)
        have HFit := Lib.hid hfit
        clear hfit
        have st := str.rebase
        simp only [List.map_nil] at st
        have HK := Lib.hid hK
        have HTh := Lib.hid (fun (V : World) (bl : Blks) (h : St [] wr V bl) (u : Int) (hu : four u = true) => (show ThreadPost V (thrOf k u) = ThreadPost V (k.thr u) by unfold thrOf; rw [if_pos hu]) ▸ kernel_Thread ok V gk k css Bs (hK.below h.below) hk.thr u)
        have HCa := Lib.hid (fun (V : World) (bl : Blks) (h : St [] wr V bl) (u : Int) => kernel_Call ok (fun _ => True) V gk k css Bs cl sla slc sga sgc (hK.below h.below) hk u hql (hA.below (hBw.keep h.below)))
        have HDe := Lib.hid (fun (V : World) (bl : Blks) (h : St [] wr V bl) (u : Int) => kernel_Deliver ok (fun _ => True) V gk k css Bs (hK.below h.below) hk.thr u ml sma smc sna snc hqm (by omega) ⟨hM.below (hBw.keep h.below), hM2.below (hBw.keep h.below)⟩)
        go_upto_region 11 with (first
          | go_skip | (with_reducible refine at_alloc 37 ?_; refine mem_alloc st (wanted_none rfl) 37 rfl _ Try.zeroValue37 _ rfl ?_; clear st; intro g10 w10 hg10 st hg10b; clear hg10b; simp [Act.eval, Act.put, Value.cells, putL] at st) | (with_reducible refine at_store 37 ?_; (first | refine mem_store' st 37 _ _ rfl (wanted_none rfl) _ Try.sizeOf37 ?_ | (refine mem_store' st 37 _ _ rfl (wanted_some rfl ?_) _ Try.sizeOf37 ?_; focus (simp [yielded, Act.put]; done))); refine ⟨0, _, _, _, _, _, rfl, rfl, rfl, rfl, rfl, rfl, ?_⟩; clear st; intro w11 st hw11m hw11z; simp [Act.eval, Act.put, Value.cells, putL] at st) | (with_reducible refine at_load 3 ?_; (first | refine mem_load' st 3 _ rfl (wanted_none rfl) Try.isAgg3 ?_ | (refine mem_load' st 3 _ rfl (wanted_some rfl ?_) Try.isAgg3 ?_; focus (simp [yielded, Act.put]; done))); refine ⟨0, _, _, _, _, _, rfl, rfl, rfl, ?_⟩)
          | (go_at_call 7; refine (HP.out _ _ hqt.out).mono ?_; rintro x v2 ⟨⟨u, rfl, hu1, hu2⟩, rfl⟩)
          | (go_at_call 13; go_must (refine (HTh.out _ _ st _ ((four_iff u).2 ⟨hu1, hu2⟩)).mono ?_; rintro e v3 ⟨tla, tlc, toa, toc, tba, tbc, tma, tmc, rfl, hb3, hT⟩; have hz0 := st.size; have hl10 := st.ltAt (i := 0) rfl; have hst := st.call hb3; clear st; have st := hst.rebase; simp only [List.map_cons, List.map_nil] at st; have hz3 := hb3.size; clear hb3; unfold thrV))
          | (with_reducible refine at_alloc 46 ?_; refine mem_alloc st (wanted_none rfl) 46 rfl _ Try.zeroValue46 _ rfl ?_; clear st; intro g12 w12 hg12 st hg12b; clear hg12b; simp [Act.eval, Act.put, Value.cells, putL] at st) | (with_reducible refine at_store 46 ?_; (first | refine mem_store' st 46 _ _ rfl (wanted_none rfl) _ Try.sizeOf46 ?_ | (refine mem_store' st 46 _ _ rfl (wanted_some rfl ?_) _ Try.sizeOf46 ?_; focus (simp [yielded, Act.put]; done))); refine ⟨1, _, _, _, _, _, rfl, rfl, rfl, rfl, rfl, rfl, ?_⟩; clear st; intro w13 st hw13m hw13z; simp [Act.eval, Act.put, Value.cells, putL] at st) | (with_reducible refine at_alloc 39 ?_; refine mem_alloc st (wanted_none rfl) 39 rfl _ Try.zeroValue39 _ rfl ?_; clear st; intro g14 w14 hg14 st hg14b; clear hg14b; simp [Act.eval, Act.put, Value.cells, putL] at st))
        have hg10w := hst.mine _ (List.mem_of_getElem? (i := 0) rfl)
        simp only [List.not_mem_nil, false_or] at hg10w
        have hu4 : four u = true := (four_iff u).2 ⟨hu1, hu2⟩
        have HT := Lib.hid (show ∀ (V : World) (bl : Blks), St [g10] v3 V bl → (g10, 37, stepC15 ⟨xt, cm, cl, ml⟩ sla slc sga sgc sma smc sna snc) ∈ bl → Below v3.heap.size v3 V from fun V bl h hm => hst.below2 h (by simpa [stepC15] using hm))
        have HBk := Lib.hid (show ∀ (V : World) (bl : Blks), St [g10] v3 V bl → St [] wr V bl from fun V bl h => St.back hst h)
        have hT1 : ThrS (fun b => w11.heap.size ≤ b) v3 (k.thr u) tla tlc toa toc tba tbc tma tmc := hT
        clear hT hst
        have hz13 := st.size
        cases cm with
        | true =>
          go_wp2_with (first
            | go_skip | (with_reducible refine at_load 4 ?_; (first | refine mem_load' st 4 _ rfl (wanted_none rfl) Try.isAgg4 ?_ | (refine mem_load' st 4 _ rfl (wanted_some rfl ?_) Try.isAgg4 ?_; focus (simp [yielded, Act.put]; done))); refine ⟨0, _, _, _, _, _, rfl, rfl, rfl, ?_⟩) | (with_reducible refine at_load 35 ?_; (first | refine mem_load_agg' st 35 _ rfl (wanted_none rfl) Try.isAgg35 _ Try.sizeOf35 ?_ | (refine mem_load_agg' st 35 _ rfl (wanted_some rfl ?_) Try.isAgg35 _ Try.sizeOf35 ?_; focus (simp [yielded, Act.put]; done))); refine ⟨0, _, _, _, _, _, rfl, rfl, rfl, rfl, ?_⟩)
            | (go_at_call 17; go_must (refine (HDe.out _ _ (HBk.out _ _ st) _).mono ?_; rintro e W2 ⟨⟨uu, rfl⟩, hTo⟩; refine RowKit.Hid.out ?_)))
          refine Lib.hid ?_
          obtain ⟨okK, css2, Bs2, stW, hAft, hSame⟩ := step_after str HK.out (fun b hb => (h5 b hb).1) h7 (HBk.out _ _ st) hTo (deliverK_ok hk u ml)
          have hB3 := HT.out _ _ st (by simp [stepC15])
          have hT2 : ThrS (fun b => b ∉ [g10, g12, g14]) W2 (k.thr u) tla tlc toa toc tba tbc tma tmc := hT1.move (by have := hB3.size; have := stW.size; have := hTo.choose_spec.choose_spec.2.1.size; omega) fun b hb ho => ⟨by simp; omega, (hSame b (by omega) (by have := hB3.size; omega)).trans (hB3.block b hb)⟩
          clear hSame hB3 hTo st
          have st := stW.rebase
          simp only [List.map_cons, List.map_nil] at st hAft
          have HA := Lib.hid hAft
          clear hAft
          have HT2 := Lib.hid (show ∀ (V : World) (bl : Blks), St [g10, g12, g14] W2 V bl → ThrS (fun _ => True) V (k.thr u) tla tlc toa toc tba tbc tma tmc from fun V bl h => hT2.move h.size fun b hb ho => ⟨trivial, h.frame b hb ho⟩)
          have HMl := Lib.hid (show ∀ (V : World) (bl : Blks), St [g10, g12, g14] W2 V bl → SlR (fun _ => True) V 2 RLev sma smc ml.label ∧ SlR (fun _ => True) V 1 RInt sna snc ml.grants from fun V bl h => ⟨hM.below (St.back stW h).below, hM2.below (St.back stW h).below⟩)
          clear hT2
          go_wp2_with (first
            | go_skip | (with_reducible refine at_store 39 ?_; (first | refine mem_store' st 39 _ _ rfl (wanted_none rfl) _ Try.sizeOf39 ?_ | (refine mem_store' st 39 _ _ rfl (wanted_some rfl ?_) _ Try.sizeOf39 ?_; focus (simp [yielded, Act.put]; done))); refine ⟨2, _, _, _, _, _, rfl, rfl, rfl, rfl, rfl, rfl, ?_⟩; clear st; intro w15 st hw15m hw15z; simp [Act.eval, Act.put, Value.cells, putL] at st) | (with_reducible refine at_load 46 ?_; (first | refine mem_load_agg' st 46 _ rfl (wanted_none rfl) Try.isAgg46 _ Try.sizeOf46 ?_ | (refine mem_load_agg' st 46 _ rfl (wanted_some rfl ?_) Try.isAgg46 _ Try.sizeOf46 ?_; focus (simp [yielded, Act.put]; done))); refine ⟨1, _, _, _, _, _, rfl, rfl, rfl, rfl, ?_⟩) | (with_reducible refine at_load 37 ?_; (first | refine mem_load_agg' st 37 _ rfl (wanted_none rfl) Try.isAgg37 _ Try.sizeOf37 ?_ | (refine mem_load_agg' st 37 _ rfl (wanted_some rfl ?_) Try.isAgg37 _ Try.sizeOf37 ?_; focus (simp [yielded, Act.put]; done))); refine ⟨0, _, _, _, _, _, rfl, rfl, rfl, rfl, ?_⟩) | (with_reducible refine at_load 39 ?_; (first | refine mem_load_agg' st 39 _ rfl (wanted_none rfl) Try.isAgg39 _ Try.sizeOf39 ?_ | (refine mem_load_agg' st 39 _ rfl (wanted_some rfl ?_) Try.isAgg39 _ Try.sizeOf39 ?_; focus (simp [yielded, Act.put]; done))); refine ⟨2, _, _, _, _, _, rfl, rfl, rfl, rfl, ?_⟩)
            | (go_at_call 12; go_must (refine (HLk.out _ okK (fun _ => True) gk css2 Bs2 k u ⟨xt, true, cl, ml⟩ tla tlc toa toc tba tbc tma tmc sla slc sga sgc sma smc sna snc hk hu4 HFit.out (HA.out _ _ st).1 (HT2.out _ _ st) (HMl.out _ _ st)).mono ?_; rintro e W4 ⟨rfl, hb4⟩)))
          have hSo := (HA.out _ _ st).2 _ hb4
          clear st hb4
          go_wp2_with (first | go_skip | fail)
          go_roundw
          case rel => exact ⟨j + 1, hlt, by omega, by go_num, _, hSo⟩
          case measure => simp [intOf]; omega
        | false =>
          go_wp2_with (first
            | go_skip | (with_reducible refine at_load 4 ?_; (first | refine mem_load' st 4 _ rfl (wanted_none rfl) Try.isAgg4 ?_ | (refine mem_load' st 4 _ rfl (wanted_some rfl ?_) Try.isAgg4 ?_; focus (simp [yielded, Act.put]; done))); refine ⟨0, _, _, _, _, _, rfl, rfl, rfl, ?_⟩) | (with_reducible refine at_load 27 ?_; (first | refine mem_load_agg' st 27 _ rfl (wanted_none rfl) Try.isAgg27 _ Try.sizeOf27 ?_ | (refine mem_load_agg' st 27 _ rfl (wanted_some rfl ?_) Try.isAgg27 _ Try.sizeOf27 ?_; focus (simp [yielded, Act.put]; done))); refine ⟨0, _, _, _, _, _, rfl, rfl, rfl, rfl, ?_⟩)
            | (go_at_call 10; go_must (refine (HCa.out _ _ (HBk.out _ _ st) _).mono ?_; rintro e W2 ⟨rfl, hTo⟩; refine RowKit.Hid.out ?_)))
          refine Lib.hid ?_
          obtain ⟨okK, css2, Bs2, stW, hAft, hSame⟩ := step_after str HK.out (fun b hb => (h5 b hb).1) h7 (HBk.out _ _ st) hTo (stepC_ok hk u cl)
          have hB3 := HT.out _ _ st (by simp [stepC15])
          have hT2 : ThrS (fun b => b ∉ [g10, g12, g14]) W2 (k.thr u) tla tlc toa toc tba tbc tma tmc := hT1.move (by have := hB3.size; have := stW.size; have := hTo.choose_spec.choose_spec.2.1.size; omega) fun b hb ho => ⟨by simp; omega, (hSame b (by omega) (by have := hB3.size; omega)).trans (hB3.block b hb)⟩
          clear hSame hB3 hTo st
          have st := stW.rebase
          simp only [List.map_cons, List.map_nil] at st hAft
          have HA := Lib.hid hAft
          clear hAft
          have HT2 := Lib.hid (show ∀ (V : World) (bl : Blks), St [g10, g12, g14] W2 V bl → ThrS (fun _ => True) V (k.thr u) tla tlc toa toc tba tbc tma tmc from fun V bl h => hT2.move h.size fun b hb ho => ⟨trivial, h.frame b hb ho⟩)
          have HMl := Lib.hid (show ∀ (V : World) (bl : Blks), St [g10, g12, g14] W2 V bl → SlR (fun _ => True) V 2 RLev sma smc ml.label ∧ SlR (fun _ => True) V 1 RInt sna snc ml.grants from fun V bl h => ⟨hM.below (St.back stW h).below, hM2.below (St.back stW h).below⟩)
          clear hT2
          go_wp2_with (first
            | go_skip | (with_reducible refine at_store 39 ?_; (first | refine mem_store' st 39 _ _ rfl (wanted_none rfl) _ Try.sizeOf39 ?_ | (refine mem_store' st 39 _ _ rfl (wanted_some rfl ?_) _ Try.sizeOf39 ?_; focus (simp [yielded, Act.put]; done))); refine ⟨2, _, _, _, _, _, rfl, rfl, rfl, rfl, rfl, rfl, ?_⟩; clear st; intro w15 st hw15m hw15z; simp [Act.eval, Act.put, Value.cells, putL] at st) | (with_reducible refine at_load 46 ?_; (first | refine mem_load_agg' st 46 _ rfl (wanted_none rfl) Try.isAgg46 _ Try.sizeOf46 ?_ | (refine mem_load_agg' st 46 _ rfl (wanted_some rfl ?_) Try.isAgg46 _ Try.sizeOf46 ?_; focus (simp [yielded, Act.put]; done))); refine ⟨1, _, _, _, _, _, rfl, rfl, rfl, rfl, ?_⟩) | (with_reducible refine at_load 37 ?_; (first | refine mem_load_agg' st 37 _ rfl (wanted_none rfl) Try.isAgg37 _ Try.sizeOf37 ?_ | (refine mem_load_agg' st 37 _ rfl (wanted_some rfl ?_) Try.isAgg37 _ Try.sizeOf37 ?_; focus (simp [yielded, Act.put]; done))); refine ⟨0, _, _, _, _, _, rfl, rfl, rfl, rfl, ?_⟩) | (with_reducible refine at_load 39 ?_; (first | refine mem_load_agg' st 39 _ rfl (wanted_none rfl) Try.isAgg39 _ Try.sizeOf39 ?_ | (refine mem_load_agg' st 39 _ rfl (wanted_some rfl ?_) Try.isAgg39 _ Try.sizeOf39 ?_; focus (simp [yielded, Act.put]; done))); refine ⟨2, _, _, _, _, _, rfl, rfl, rfl, rfl, ?_⟩)
            | (go_at_call 12; go_must (refine (HLk.out _ okK (fun _ => True) gk css2 Bs2 k u ⟨xt, false, cl, ml⟩ tla tlc toa toc tba tbc tma tmc sla slc sga sgc sma smc sna snc hk hu4 HFit.out (HA.out _ _ st).1 (HT2.out _ _ st) (HMl.out _ _ st)).mono ?_; rintro e W4 ⟨rfl, hb4⟩)))
          have hSo := (HA.out _ _ st).2 _ hb4
          clear st hb4
          go_wp2_with (first | go_skip | fail)
          go_roundw
          case rel => exact ⟨j + 1, hlt, by omega, by go_num, _, hSo⟩
          case measure => simp [intOf]; omega
      · have d1 : decide ((j : Int) < l.length) = true := by simp; omega
        have d2 : decide ((j : Int) < 120) = false := by simp; omega
        go_wp2_with (first | go_skip | fail)
        go_ret
        exact ⟨rfl, str.below⟩
    · have d1 : decide ((j : Int) < l.length) = false := by simp; omega
      go_wp2_with (first | go_skip | fail)
      go_ret
      exact ⟨rfl, str.below⟩

set_option maxRecDepth 100000 in
set_option maxHeartbeats 8000000 in
theorem keep_run_reads (HL : Look 19) (w : World) (host : Int) (l : List Step) (sa : Option Addr) (sc : Nat) (hh : fitI host) (hS : SlR (fun _ => True) w 15 (RStep (fun _ => True) w) sa sc l) (hsl : l.length * 200 ≤ 140737488351232) (hsf : ∀ x ∈ l, x.fit) :
    Calls Try.prog 11 #[.int .i64 host, .slice sa l.length sc, .func (.func 19) #[] #[]] w fun r w' => r = .returned (.bool true) ∧ Below w.heap.size w w' := by
  have eg : ∀ args w, (callFunc 19 args).run Try.prog w = .ok (.enter 19 args) w := enters_of Try.func19 (by kernel_rfl) rfl
  have st := St.start w
  have hS' := Lib.hid hS
  have HF := Lib.hid hsf
  have HP := Lib.hid (fun (W : World) (k : Int) (hk : fitI k) => keep_pick W k 4 (by omega) (by omega) hk)
  have hh' := Lib.hid hh
  have HLk := Lib.hid HL
  clear hS hsf hh HL
  go_enter Try.func11, Try.ntmps11
  go_wp2_with (first
    | go_skip
    | (go_at_call 7; refine (HP.out _ _ hh'.out).mono ?_; rintro x v2 ⟨⟨p, rfl, hp1, hp2⟩, rfl⟩)
    | (go_at_call 8; refine (kernel_New _ _ (by omega) (by omega)).mono ?_; rintro e v1 ⟨gk, rfl, hgk, st1⟩; replace st := st.join st1; clear st1; simp only [List.cons_append, List.nil_append] at st)
    | (go_at_call 9; refine (calls_yes_keep _).mono ?_; rintro e v1 ⟨rfl, hbc⟩; replace st := st.call hbc; clear hbc))
  have hP0 : ∃ k, Solo w [] gk k v1 := ⟨newK p, Solo.new (own' := []) st (by simp) ⟨hp1, hp2⟩ (by simp) List.Pairwise.nil⟩
  clear st hp1 hp2
  have hsl2 : l.length ≤ 9223372036854775807 := by omega
  go_loopw [9] (fun i wr => ∃ j : Nat, j ≤ l.length ∧ j ≤ 120 ∧ i = .int .i64 j ∧ ∃ k, Solo w [] gk k wr) (fun i _ => 120 - (intOf i).toNat)
  case atStart => exact ⟨0, Nat.zero_le _, by omega, rfl, hP0⟩
  case round =>
    clear hP0
    obtain ⟨j, hj, hj120, rfl, k, str, hk, ok, css, Bs, hK, h5, h7⟩ := hrel
    by_cases hlt : j < l.length
    · by_cases h120 : j < 120
      · have d1 : decide ((j : Int) < l.length) = true := by simp; omega
        have d2 : decide ((j : Int) < 120) = true := by simp; omega
        have hBw := str.below
        have hst := hS'.out.step_at j hlt
        have hfit := HF.out _ (List.getElem_mem hlt)
        generalize l[j] = x at hst hfit
        obtain ⟨xt, cm, cl, ml⟩ := x
        dsimp only at hst
        obtain ⟨b, o, sla, slc, sga, sgc, sma, smc, sna, snc, hsa, hb, ⟨hA, hA2, hM, hM2⟩, f0, f1, f2, f3, f4, f5, f6, f7, f8, f9, f10, f11, f12, f13, f14⟩ := hst
        have tr := fun (p : Nat) (v : Option Value) (h : w.cell? ⟨b, p, none⟩ = v) => (hBw.cell (p := ⟨b, p, none⟩) hb).trans h
        replace f0 := tr _ _ f0; replace f1 := tr _ _ f1; replace f2 := tr _ _ f2; replace f3 := tr _ _ f3; replace f4 := tr _ _ f4; replace f5 := tr _ _ f5; replace f6 := tr _ _ f6
        replace f7 := tr _ _ f7; replace f8 := tr _ _ f8; replace f9 := tr _ _ f9; replace f10 := tr _ _ f10; replace f11 := tr _ _ f11; replace f12 := tr _ _ f12; replace f13 := tr _ _ f13; replace f14 := tr _ _ f14
        clear tr
        have HS2 := Lib.hid hS'
        subst hsa
        have hql : cl.label.length * 16 ≤ 140737488351232 := hfit.2.2.1.2.2.2.2.2.1.1
        have hqm : ml.label.length * 16 ≤ 140737488351232 := hfit.2.2.2.2.2.1.1
        have hqg : ml.grants.length * 8 ≤ 140737488351232 := hfit.2.2.2.2.2.2.1.1
        have hqt := Lib.hid (hfit.1 : fitI xt)
        have HFit := Lib.hid hfit
        clear hfit
        have st := str.rebase
        simp only [List.map_nil] at st
        have HK := Lib.hid hK
        have HTh := Lib.hid (fun (V : World) (bl : Blks) (h : St [] wr V bl) (u : Int) (hu : four u = true) => (show ThreadPost V (thrOf k u) = ThreadPost V (k.thr u) by unfold thrOf; rw [if_pos hu]) ▸ kernel_Thread ok V gk k css Bs (hK.below h.below) hk.thr u)
        have HCa := Lib.hid (fun (V : World) (bl : Blks) (h : St [] wr V bl) (u : Int) => kernel_Call ok (fun _ => True) V gk k css Bs cl sla slc sga sgc (hK.below h.below) hk u hql (hA.below (hBw.keep h.below)))
        have HDe := Lib.hid (fun (V : World) (bl : Blks) (h : St [] wr V bl) (u : Int) => kernel_Deliver ok (fun _ => True) V gk k css Bs (hK.below h.below) hk.thr u ml sma smc sna snc hqm (by omega) ⟨hM.below (hBw.keep h.below), hM2.below (hBw.keep h.below)⟩)
        go_upto_region 11 with (first
          | go_skip | (with_reducible refine at_alloc 37 ?_; refine mem_alloc st (wanted_none rfl) 37 rfl _ Try.zeroValue37 _ rfl ?_; clear st; intro g10 w10 hg10 st hg10b; clear hg10b; simp [Act.eval, Act.put, Value.cells, putL] at st) | (with_reducible refine at_store 37 ?_; (first | refine mem_store' st 37 _ _ rfl (wanted_none rfl) _ Try.sizeOf37 ?_ | (refine mem_store' st 37 _ _ rfl (wanted_some rfl ?_) _ Try.sizeOf37 ?_; focus (simp [yielded, Act.put]; done))); refine ⟨0, _, _, _, _, _, rfl, rfl, rfl, rfl, rfl, rfl, ?_⟩; clear st; intro w11 st hw11m hw11z; simp [Act.eval, Act.put, Value.cells, putL] at st) | (with_reducible refine at_load 3 ?_; (first | refine mem_load' st 3 _ rfl (wanted_none rfl) Try.isAgg3 ?_ | (refine mem_load' st 3 _ rfl (wanted_some rfl ?_) Try.isAgg3 ?_; focus (simp [yielded, Act.put]; done))); refine ⟨0, _, _, _, _, _, rfl, rfl, rfl, ?_⟩)
          | (go_at_call 7; refine (HP.out _ _ hqt.out).mono ?_; rintro x v2 ⟨⟨u, rfl, hu1, hu2⟩, rfl⟩)
          | (go_at_call 13; go_must (refine (HTh.out _ _ st _ ((four_iff u).2 ⟨hu1, hu2⟩)).mono ?_; rintro e v3 ⟨tla, tlc, toa, toc, tba, tbc, tma, tmc, rfl, hb3, hT⟩; have hz0 := st.size; have hl10 := st.ltAt (i := 0) rfl; have hst := st.call hb3; clear st; have st := hst.rebase; simp only [List.map_cons, List.map_nil] at st; have hz3 := hb3.size; clear hb3; unfold thrV))
          | (with_reducible refine at_alloc 46 ?_; refine mem_alloc st (wanted_none rfl) 46 rfl _ Try.zeroValue46 _ rfl ?_; clear st; intro g12 w12 hg12 st hg12b; clear hg12b; simp [Act.eval, Act.put, Value.cells, putL] at st) | (with_reducible refine at_store 46 ?_; (first | refine mem_store' st 46 _ _ rfl (wanted_none rfl) _ Try.sizeOf46 ?_ | (refine mem_store' st 46 _ _ rfl (wanted_some rfl ?_) _ Try.sizeOf46 ?_; focus (simp [yielded, Act.put]; done))); refine ⟨1, _, _, _, _, _, rfl, rfl, rfl, rfl, rfl, rfl, ?_⟩; clear st; intro w13 st hw13m hw13z; simp [Act.eval, Act.put, Value.cells, putL] at st) | (with_reducible refine at_alloc 39 ?_; refine mem_alloc st (wanted_none rfl) 39 rfl _ Try.zeroValue39 _ rfl ?_; clear st; intro g14 w14 hg14 st hg14b; clear hg14b; simp [Act.eval, Act.put, Value.cells, putL] at st))
        have hg10w := hst.mine _ (List.mem_of_getElem? (i := 0) rfl)
        simp only [List.not_mem_nil, false_or] at hg10w
        have hu4 : four u = true := (four_iff u).2 ⟨hu1, hu2⟩
        have HT := Lib.hid (show ∀ (V : World) (bl : Blks), St [g10] v3 V bl → (g10, 37, stepC15 ⟨xt, cm, cl, ml⟩ sla slc sga sgc sma smc sna snc) ∈ bl → Below v3.heap.size v3 V from fun V bl h hm => hst.below2 h (by simpa [stepC15] using hm))
        have HBk := Lib.hid (show ∀ (V : World) (bl : Blks), St [g10] v3 V bl → St [] wr V bl from fun V bl h => St.back hst h)
        have hT1 : ThrS (fun b => w11.heap.size ≤ b) v3 (k.thr u) tla tlc toa toc tba tbc tma tmc := hT
        clear hT hst
        have hz13 := st.size
        cases cm with
        | true =>
          go_wp2_with (first
            | go_skip | (with_reducible refine at_load 4 ?_; (first | refine mem_load' st 4 _ rfl (wanted_none rfl) Try.isAgg4 ?_ | (refine mem_load' st 4 _ rfl (wanted_some rfl ?_) Try.isAgg4 ?_; focus (simp [yielded, Act.put]; done))); refine ⟨0, _, _, _, _, _, rfl, rfl, rfl, ?_⟩) | (with_reducible refine at_load 35 ?_; (first | refine mem_load_agg' st 35 _ rfl (wanted_none rfl) Try.isAgg35 _ Try.sizeOf35 ?_ | (refine mem_load_agg' st 35 _ rfl (wanted_some rfl ?_) Try.isAgg35 _ Try.sizeOf35 ?_; focus (simp [yielded, Act.put]; done))); refine ⟨0, _, _, _, _, _, rfl, rfl, rfl, rfl, ?_⟩)
            | (go_at_call 17; go_must (refine (HDe.out _ _ (HBk.out _ _ st) _).mono ?_; rintro e W2 ⟨⟨uu, rfl⟩, hTo⟩; refine RowKit.Hid.out ?_)))
          refine Lib.hid ?_
          obtain ⟨okK, css2, Bs2, stW, hAft, hSame⟩ := step_after str HK.out (fun b hb => (h5 b hb).1) h7 (HBk.out _ _ st) hTo (deliverK_ok hk u ml)
          have hB3 := HT.out _ _ st (by simp [stepC15])
          have hT2 : ThrS (fun b => b ∉ [g10, g12, g14]) W2 (k.thr u) tla tlc toa toc tba tbc tma tmc := hT1.move (by have := hB3.size; have := stW.size; have := hTo.choose_spec.choose_spec.2.1.size; omega) fun b hb ho => ⟨by simp; omega, (hSame b (by omega) (by have := hB3.size; omega)).trans (hB3.block b hb)⟩
          clear hSame hB3 hTo st
          have st := stW.rebase
          simp only [List.map_cons, List.map_nil] at st hAft
          have HA := Lib.hid hAft
          clear hAft
          have HT2 := Lib.hid (show ∀ (V : World) (bl : Blks), St [g10, g12, g14] W2 V bl → ThrS (fun _ => True) V (k.thr u) tla tlc toa toc tba tbc tma tmc from fun V bl h => hT2.move h.size fun b hb ho => ⟨trivial, h.frame b hb ho⟩)
          have HMl := Lib.hid (show ∀ (V : World) (bl : Blks), St [g10, g12, g14] W2 V bl → SlR (fun _ => True) V 2 RLev sma smc ml.label ∧ SlR (fun _ => True) V 1 RInt sna snc ml.grants from fun V bl h => ⟨hM.below (St.back stW h).below, hM2.below (St.back stW h).below⟩)
          clear hT2
          go_wp2_with (first
            | go_skip | (with_reducible refine at_store 39 ?_; (first | refine mem_store' st 39 _ _ rfl (wanted_none rfl) _ Try.sizeOf39 ?_ | (refine mem_store' st 39 _ _ rfl (wanted_some rfl ?_) _ Try.sizeOf39 ?_; focus (simp [yielded, Act.put]; done))); refine ⟨2, _, _, _, _, _, rfl, rfl, rfl, rfl, rfl, rfl, ?_⟩; clear st; intro w15 st hw15m hw15z; simp [Act.eval, Act.put, Value.cells, putL] at st) | (with_reducible refine at_load 46 ?_; (first | refine mem_load_agg' st 46 _ rfl (wanted_none rfl) Try.isAgg46 _ Try.sizeOf46 ?_ | (refine mem_load_agg' st 46 _ rfl (wanted_some rfl ?_) Try.isAgg46 _ Try.sizeOf46 ?_; focus (simp [yielded, Act.put]; done))); refine ⟨1, _, _, _, _, _, rfl, rfl, rfl, rfl, ?_⟩) | (with_reducible refine at_load 37 ?_; (first | refine mem_load_agg' st 37 _ rfl (wanted_none rfl) Try.isAgg37 _ Try.sizeOf37 ?_ | (refine mem_load_agg' st 37 _ rfl (wanted_some rfl ?_) Try.isAgg37 _ Try.sizeOf37 ?_; focus (simp [yielded, Act.put]; done))); refine ⟨0, _, _, _, _, _, rfl, rfl, rfl, rfl, ?_⟩) | (with_reducible refine at_load 39 ?_; (first | refine mem_load_agg' st 39 _ rfl (wanted_none rfl) Try.isAgg39 _ Try.sizeOf39 ?_ | (refine mem_load_agg' st 39 _ rfl (wanted_some rfl ?_) Try.isAgg39 _ Try.sizeOf39 ?_; focus (simp [yielded, Act.put]; done))); refine ⟨2, _, _, _, _, _, rfl, rfl, rfl, rfl, ?_⟩)
            | (go_at_call 19; go_must (refine (HLk.out _ okK (fun _ => True) gk css2 Bs2 k u ⟨xt, true, cl, ml⟩ tla tlc toa toc tba tbc tma tmc sla slc sga sgc sma smc sna snc hk hu4 HFit.out (HA.out _ _ st).1 (HT2.out _ _ st) (HMl.out _ _ st)).mono ?_; rintro e W4 ⟨rfl, hb4⟩)))
          have hSo := (HA.out _ _ st).2 _ hb4
          clear st hb4
          go_wp2_with (first | go_skip | fail)
          go_roundw
          case rel => exact ⟨j + 1, hlt, by omega, by go_num, _, hSo⟩
          case measure => simp [intOf]; omega
        | false =>
          go_wp2_with (first
            | go_skip | (with_reducible refine at_load 4 ?_; (first | refine mem_load' st 4 _ rfl (wanted_none rfl) Try.isAgg4 ?_ | (refine mem_load' st 4 _ rfl (wanted_some rfl ?_) Try.isAgg4 ?_; focus (simp [yielded, Act.put]; done))); refine ⟨0, _, _, _, _, _, rfl, rfl, rfl, ?_⟩) | (with_reducible refine at_load 27 ?_; (first | refine mem_load_agg' st 27 _ rfl (wanted_none rfl) Try.isAgg27 _ Try.sizeOf27 ?_ | (refine mem_load_agg' st 27 _ rfl (wanted_some rfl ?_) Try.isAgg27 _ Try.sizeOf27 ?_; focus (simp [yielded, Act.put]; done))); refine ⟨0, _, _, _, _, _, rfl, rfl, rfl, rfl, ?_⟩)
            | (go_at_call 10; go_must (refine (HCa.out _ _ (HBk.out _ _ st) _).mono ?_; rintro e W2 ⟨rfl, hTo⟩; refine RowKit.Hid.out ?_)))
          refine Lib.hid ?_
          obtain ⟨okK, css2, Bs2, stW, hAft, hSame⟩ := step_after str HK.out (fun b hb => (h5 b hb).1) h7 (HBk.out _ _ st) hTo (stepC_ok hk u cl)
          have hB3 := HT.out _ _ st (by simp [stepC15])
          have hT2 : ThrS (fun b => b ∉ [g10, g12, g14]) W2 (k.thr u) tla tlc toa toc tba tbc tma tmc := hT1.move (by have := hB3.size; have := stW.size; have := hTo.choose_spec.choose_spec.2.1.size; omega) fun b hb ho => ⟨by simp; omega, (hSame b (by omega) (by have := hB3.size; omega)).trans (hB3.block b hb)⟩
          clear hSame hB3 hTo st
          have st := stW.rebase
          simp only [List.map_cons, List.map_nil] at st hAft
          have HA := Lib.hid hAft
          clear hAft
          have HT2 := Lib.hid (show ∀ (V : World) (bl : Blks), St [g10, g12, g14] W2 V bl → ThrS (fun _ => True) V (k.thr u) tla tlc toa toc tba tbc tma tmc from fun V bl h => hT2.move h.size fun b hb ho => ⟨trivial, h.frame b hb ho⟩)
          have HMl := Lib.hid (show ∀ (V : World) (bl : Blks), St [g10, g12, g14] W2 V bl → SlR (fun _ => True) V 2 RLev sma smc ml.label ∧ SlR (fun _ => True) V 1 RInt sna snc ml.grants from fun V bl h => ⟨hM.below (St.back stW h).below, hM2.below (St.back stW h).below⟩)
          clear hT2
          go_wp2_with (first
            | go_skip | (with_reducible refine at_store 39 ?_; (first | refine mem_store' st 39 _ _ rfl (wanted_none rfl) _ Try.sizeOf39 ?_ | (refine mem_store' st 39 _ _ rfl (wanted_some rfl ?_) _ Try.sizeOf39 ?_; focus (simp [yielded, Act.put]; done))); refine ⟨2, _, _, _, _, _, rfl, rfl, rfl, rfl, rfl, rfl, ?_⟩; clear st; intro w15 st hw15m hw15z; simp [Act.eval, Act.put, Value.cells, putL] at st) | (with_reducible refine at_load 46 ?_; (first | refine mem_load_agg' st 46 _ rfl (wanted_none rfl) Try.isAgg46 _ Try.sizeOf46 ?_ | (refine mem_load_agg' st 46 _ rfl (wanted_some rfl ?_) Try.isAgg46 _ Try.sizeOf46 ?_; focus (simp [yielded, Act.put]; done))); refine ⟨1, _, _, _, _, _, rfl, rfl, rfl, rfl, ?_⟩) | (with_reducible refine at_load 37 ?_; (first | refine mem_load_agg' st 37 _ rfl (wanted_none rfl) Try.isAgg37 _ Try.sizeOf37 ?_ | (refine mem_load_agg' st 37 _ rfl (wanted_some rfl ?_) Try.isAgg37 _ Try.sizeOf37 ?_; focus (simp [yielded, Act.put]; done))); refine ⟨0, _, _, _, _, _, rfl, rfl, rfl, rfl, ?_⟩) | (with_reducible refine at_load 39 ?_; (first | refine mem_load_agg' st 39 _ rfl (wanted_none rfl) Try.isAgg39 _ Try.sizeOf39 ?_ | (refine mem_load_agg' st 39 _ rfl (wanted_some rfl ?_) Try.isAgg39 _ Try.sizeOf39 ?_; focus (simp [yielded, Act.put]; done))); refine ⟨2, _, _, _, _, _, rfl, rfl, rfl, rfl, ?_⟩)
            | (go_at_call 19; go_must (refine (HLk.out _ okK (fun _ => True) gk css2 Bs2 k u ⟨xt, false, cl, ml⟩ tla tlc toa toc tba tbc tma tmc sla slc sga sgc sma smc sna snc hk hu4 HFit.out (HA.out _ _ st).1 (HT2.out _ _ st) (HMl.out _ _ st)).mono ?_; rintro e W4 ⟨rfl, hb4⟩)))
          have hSo := (HA.out _ _ st).2 _ hb4
          clear st hb4
          go_wp2_with (first | go_skip | fail)
          go_roundw
          case rel => exact ⟨j + 1, hlt, by omega, by go_num, _, hSo⟩
          case measure => simp [intOf]; omega
      · have d1 : decide ((j : Int) < l.length) = true := by simp; omega
        have d2 : decide ((j : Int) < 120) = false := by simp; omega
        go_wp2_with (first | go_skip | fail)
        go_ret
        exact ⟨rfl, str.below⟩
    · have d1 : decide ((j : Int) < l.length) = false := by simp; omega
      go_wp2_with (first | go_skip | fail)
      go_ret
      exact ⟨rfl, str.below⟩

end Go.Proofs.Ytnkfemjmfalamaa
