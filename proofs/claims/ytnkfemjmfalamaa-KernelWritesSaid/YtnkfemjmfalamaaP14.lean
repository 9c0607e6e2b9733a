/- Walks and plain laws that the claim rests on, part 14. -/
import Derived.Test.YtnkfemjmfalamaaP12
import Derived.Test.YtnkfemjmfalamaaP13
import Derived.Test.YtnkfemjmfalamaaP2
import Derived.Test.YtnkfemjmfalamaaP11
import Derived.Test.YtnkfemjmfalamaaP7
import Derived.Deep.LoopGhost
import Derived.Deep.DeepCutAuto
import Derived.Deep.CutBlock
import Derived.Test.YtnkfemjmfalamaaP8
import Derived.Test.YtnkfemjmfalamaaP10
import Derived.Test.YtnkfemjmfalamaaP5
set_option linter.unusedSimpArgs false
set_option linter.unusedVariables false
/- The walk through the kernel's take. -/
namespace Go.Proofs.Ytnkfemjmfalamaa
open Go.RowKit

theorem ownC_lo (l : List Int) (c : Int) : (ownC l c).2 = 0 ∨ ((ownC l c).2 = 5 ∧ (ownC l c).1 = l) := by
  unfold ownC
  split
  · exact .inl rfl
  · split
    · exact .inr ⟨rfl, rfl⟩
    · exact .inl rfl

theorem insI_length {x : Int} {l : List Int} : (insI x l).length ≤ l.length + 1 := by
  induction l with
  | nil => simp [insI]
  | cons y l ih =>
    rw [insI.eq_2]
    split
    · simp
    · split
      · simp
      · simp; omega

theorem ownC_ok {l : List Int} (hr : Rising l) (hl : l.length ≤ 8) (c : Int) : Rising (ownC l c).1 ∧ (ownC l c).1.length ≤ 8 := by
  unfold ownC
  split
  · exact ⟨hr, hl⟩
  · split
    · exact ⟨hr, hl⟩
    · exact ⟨insI_rising hr, by have := @insI_length c l; simp only; omega⟩

def RepV (r : Rep) : Value := .agg #[.int .i64 r.code, .int .i64 r.n, .string r.text]

def TakePost (ok : Nat → Prop) (w : World) (g : Nat) (pre post : List Value) (la : Option Addr) (lc : Nat) (ba : Option Addr) (bc : Nat) (ma : Option Addr) (r : Thr × Rep) (e : Ending) (w' : World) : Prop :=
  ∃ oa' oc' ma' mc', e = .returned (RepV r.2) ∧ St [g] w w' [(g, 60, winC pre (thrC r.1 la lc oa' oc' ba bc ma' mc') post)] ∧ SlR (fun b => ok b ∨ w.heap.size ≤ b) w' 1 RInt oa' oc' r.1.own ∧
    RowAt 35 w' 5 (RMail ok w) ma' mc' r.1.mails ∧ (∀ b, ma'.map (·.block) = some b → ma.map (·.block) = some b)

set_option maxRecDepth 100000 in
set_option maxHeartbeats 8000000 in
theorem kernel_take (ok : Nat → Prop) (w : World) (g p : Nat) (pre post : List Value) (x : Thr) (la : Option Addr) (lc : Nat) (oa : Option Addr) (oc : Nat) (ba : Option Addr) (bc : Nat) (ma : Option Addr) (mc : Nat) (hpre : pre.length = p) (hx : x.ok) (hR : ThrR ok w x la lc oa oc ba bc ma mc)
    (hg : ¬ ok g) (hgm : ma.map (·.block) ≠ some g) (hb : w.heap[g]? = some (.cells (winC pre (thrC x la lc oa oc ba bc ma mc) post).toArray 60 (0, 0))) :
    Calls Try.prog 27 #[.pointer (some ⟨g, 0, none⟩), .pointer (some ⟨g, p, none⟩)] w (TakePost ok w g pre post la lc ba bc ma (takeX x)) := by
  have hgl := (Array.getElem?_eq_some_iff.1 hb).1
  have st := St.hand hb
  unfold thrC at *
  clear hb
  have HKp := Lib.hid (show ∀ (W : World) (bl : Blks), St [g] w W bl → Keeps ok w W from fun W bl s => s.keeps (by simpa using hg))
  obtain ⟨h1, h2, h3, h4⟩ := hR
  have hxl := goodL_len hx.good; have hxo := hx.ownL; have hxt := hx.text; have hxm := hx.mailN
  have HM := Lib.hid hx.mail
  have HR := Lib.hid hx.own
  go_enter Try.func27, Try.ntmps27
  go_wp2_with (first | go_skip | (with_reducible refine at_alloc 39 ?_; refine mem_alloc st (wanted_none rfl) 39 rfl _ Try.zeroValue39 _ rfl ?_; clear st; intro g4 w4 hg4 st hg4b; clear hg4b; simp [Act.eval, Act.put, Value.cells, putL] at st))
  have hg4l := st.ltAt (i := 1) rfl
  have h40 := h4.kept (w' := w4) (R' := RMail ok w) (fun b hb => st.frame b (h4.lt hb) (by simp; rintro rfl; exact hgm hb)) fun _ _ h => h
  have hg4w : w.heap.size ≤ g4 := hg4
  simp only [Act.put, List.setIfInBounds_toArray, List.set_cons_succ, List.set_cons_zero]
  go_loopg [5] 6 (fun n v5 wr => ∃ (l : List Mail) (a' : Option Addr) (c' : Nat), l.length ≤ n ∧ (∀ m ∈ l, goodMailC m = 0) ∧ Hid (takeM x.label x.own x.mails = takeM x.label x.own l) ∧ St [g] w wr [(g, 60, winC pre [.slice la x.label.length lc, .slice oa x.own.length oc, .string x.text, .slice ba x.objects.length bc, .slice a' l.length c'] post), (g4, 39, [.int .i64 0, .int .i64 0, .string ⟨#[]⟩])] ∧ RowAt 35 wr 5 (RMail ok w) a' c' l ∧ (∀ b, a'.map (·.block) = some b → ma.map (·.block) = some b))
  case atStart => exact ⟨x.mails, ma, mc, hxm, HM.out, rfl, st, h40, fun _ h => h⟩
  case round =>
    clear st h40
    obtain ⟨l, a', c', hln, hlm, HT, st, hRow, hab⟩ := hrel
    cases l with
    | nil =>
      have HE : Hid (takeX x = ({ x with mails := [] }, errR 4)) := Lib.hid (by unfold takeX; rw [HT.out]; rfl)
      clear HT
      go_wp2_with (first | go_skip | (with_reducible refine at_load 44 ?_; (first | refine mem_loadW st 44 _ rfl (wanted_none rfl) Try.isAgg44 4 ?_ | (refine mem_loadW st 44 _ rfl (wanted_some rfl ?_) Try.isAgg44 4 ?_; focus (simp [yielded, Act.put]; done))); refine ⟨0, _, _, _, _, _, _, _, hpre, rfl, rfl, rfl, ?_⟩) | (with_reducible refine at_store 39 ?_; (first | refine mem_store' st 39 _ _ rfl (wanted_none rfl) _ Try.sizeOf39 ?_ | (refine mem_store' st 39 _ _ rfl (wanted_some rfl ?_) _ Try.sizeOf39 ?_; focus (simp [yielded, Act.put]; done))); refine ⟨1, _, _, _, _, _, rfl, rfl, rfl, rfl, rfl, rfl, ?_⟩; clear st; intro w9 st hw9m hw9z; simp [Act.eval, Act.put, Value.cells, putL] at st))
      have hc := fun j => st.cell (i := 1) rfl j
      refine bodyPost_ret (v := RepV (errR 4)) ?hr rfl ?_
      case hr => simp [results, Try.results27, go_sem, hc, RepV, errR]; try rfl
      rw [HE.out]
      refine ⟨oa, oc, a', c', rfl, st.sub (by simp [thrC]) (by simp), (h2.keep (HKp.out _ _ st)).okay fun _ h => .inl h, ?_, hab⟩
      exact hRow.kept (fun b hb => hw9m b (by rintro rfl; have := h4.lt (hab _ hb); omega)) fun _ _ h => h
    | cons m l =>
      have hgm4 := hlm m (by simp)
      have hl1 := hRow.1
      rcases hRow.2.2 with ⟨_, h0⟩ | ⟨gm, off, cells, rfl, hgb, hle, hx2⟩
      · simp only [List.length_cons] at hl1; omega
      obtain ⟨cs, ⟨l1, k1, l2, k2, rfl, hA, hB⟩, hlen, h1c, hcell⟩ := hx2 0 m rfl
      have hgmx := hab gm rfl
      have hgmw := h4.lt hgmx
      have hne : gm ≠ g := fun e => hgm (by rw [hgmx, e])
      have HC := Lib.hid (show ∀ (j : Nat) (v : Value), [Value.int .i64 m.host, .int .i64 m.thread, .slice l1 m.label.length k1, .slice l2 m.grants.length k2, .string m.text][j]? = some v → wr.cell? ⟨gm, off + j, none⟩ = some v from fun j v hv => by
        rw [cell_of_row wr gm _ cells.toArray _ (0, 0) hgb]
        simpa using hcell j v hv)
      obtain ⟨q, rfl⟩ : ∃ q, c' = q + 1 := ⟨c' - 1, by simp only [List.length_cons] at hl1; omega⟩
      have hTail := Lib.hid hRow.tail
      obtain ⟨⟨q1, q2⟩, ⟨q3, q4⟩, q5, q6, q7⟩ := mail_facts hgm4
      have q8 := (grants_facts q6).1
      have q9 : m.label.length ≤ 8 := by unfold goodL at q5; by_cases h : m.label.length ≤ 8; exact h; rw [if_neg h] at q5; simp at q5
      clear q5 q6
      have hcm := hRow.2.1
      unfold maxLen at hcm
      have HGo := Lib.hid hRow
      clear hRow hcell hlen h1c hle hx2
      have st1 := st.rebase
      have stK := st
      clear st
      have st := st1
      clear st1
      simp only [List.map_cons, List.map_nil, List.length_cons] at st
      have hlq : l.length ≤ q := by simp only [List.length_cons] at hl1; omega
      go_upto_region 3 with (first
            | go_skip | (with_reducible refine at_load 44 ?_; (first | refine mem_loadW st 44 _ rfl (wanted_none rfl) Try.isAgg44 4 ?_ | (refine mem_loadW st 44 _ rfl (wanted_some rfl ?_) Try.isAgg44 4 ?_; focus (simp [yielded, Act.put]; done))); refine ⟨0, _, _, _, _, _, _, _, hpre, rfl, rfl, rfl, ?_⟩) | (with_reducible refine at_load 35 ?_; refine wpList_load_cells (wanted_none rfl) 35 _ rfl Try.isAgg35 _ Try.sizeOf35 gm off rfl [.int .i64 m.host, .int .i64 m.thread, .slice l1 m.label.length k1, .slice l2 m.grants.length k2, .string m.text] rfl HC.out ?_)
            | (with_reducible refine at_alloc 35 ?_; refine mem_alloc st (wanted_none rfl) 35 rfl _ Try.zeroValue35 _ rfl ?_; clear st; intro g5 w5 hg5 st hg5b; clear hg5b; simp [Act.eval, Act.put, Value.cells, putL] at st) | (with_reducible refine at_store 35 ?_; (first | refine mem_store' st 35 _ _ rfl (wanted_none rfl) _ Try.sizeOf35 ?_ | (refine mem_store' st 35 _ _ rfl (wanted_some rfl ?_) _ Try.sizeOf35 ?_; focus (simp [yielded, Act.put]; done))); refine ⟨2, _, _, _, _, _, rfl, rfl, rfl, rfl, rfl, rfl, ?_⟩; clear st; intro w6 st hw6m hw6z; simp [Act.eval, Act.put, Value.cells, putL] at st))
      have hgmr : gm < wr.heap.size := by have := stK.size; omega
      have h54 : g4 < wr.heap.size := stK.ltAt (i := 1) rfl
      have hgr : g < wr.heap.size := stK.ltAt (i := 0) rfl
      have hw6 : w6.heap[gm]? = wr.heap[gm]? := st.frame gm hgmr (by simp; omega)
      simp only [Act.put, List.setIfInBounds_toArray, List.set_cons_succ, List.set_cons_zero]
      go_cut [5] (fun s5 wx => ∃ (off' : Nat), s5 = .pointer (some ⟨g5, 0, none⟩) ∧ St [g, g4] wr wx [(g, 60, winC pre [.slice la x.label.length lc, .slice oa x.own.length oc, .string x.text, .slice ba x.objects.length bc, .slice (some ⟨gm, off', none⟩) l.length q] post), (g4, 39, [.int .i64 0, .int .i64 0, .string ⟨#[]⟩]), (g5, 35, [.int .i64 m.host, .int .i64 m.thread, .slice l1 m.label.length k1, .slice l2 m.grants.length k2, .string m.text])] ∧ RowAt 35 wr 5 (RMail ok w) (some ⟨gm, off', none⟩) q l)
      case first =>
        rcases Nat.eq_zero_or_pos q with hq | hq
        · have HQ := Lib.hid (hTail.out.2 (by omega))
          subst hq
          have HL := Lib.hid hlq
          clear hlq
          go_wp2_with (first | go_skip | (with_reducible refine at_load 44 ?_; (first | refine mem_loadW st 44 _ rfl (wanted_none rfl) Try.isAgg44 4 ?_ | (refine mem_loadW st 44 _ rfl (wanted_some rfl ?_) Try.isAgg44 4 ?_; focus (simp [yielded, Act.put]; done))); refine ⟨0, _, _, _, _, _, _, _, hpre, rfl, rfl, rfl, ?_⟩) | (with_reducible refine at_store 44 ?_; refine mem_storeW st 44 _ _ rfl (wanted_none rfl) _ Try.sizeOf44 4 ?_; refine ⟨0, _, _, _, _, _, _, _, hpre, rfl, rfl, rfl, rfl, rfl, rfl, ?_⟩; clear st; intro w7 st hw7m hw7z; simp [Act.eval, Act.put, Value.cells, putL] at st))
          go_meet
          exact ⟨off, rfl, st, HQ.out⟩
        · have HQ := Lib.hid hTail.out.1
          go_wp2_with (first | go_skip | (with_reducible refine at_load 44 ?_; (first | refine mem_loadW st 44 _ rfl (wanted_none rfl) Try.isAgg44 4 ?_ | (refine mem_loadW st 44 _ rfl (wanted_some rfl ?_) Try.isAgg44 4 ?_; focus (simp [yielded, Act.put]; done))); refine ⟨0, _, _, _, _, _, _, _, hpre, rfl, rfl, rfl, ?_⟩) | (with_reducible refine at_store 44 ?_; refine mem_storeW st 44 _ _ rfl (wanted_none rfl) _ Try.sizeOf44 4 ?_; refine ⟨0, _, _, _, _, _, _, _, hpre, rfl, rfl, rfl, rfl, rfl, rfl, ?_⟩; clear st; intro w7 st hw7m hw7z; simp [Act.eval, Act.put, Value.cells, putL] at st))
          go_meet
          rw [if_neg (by omega)] at st
          exact ⟨off + 5, rfl, st, HQ.out⟩
      case rest =>
        obtain ⟨off', rfl, st, hRow2⟩ := hcut
        have hgn : gm ∉ [g, g4] := by simp; omega
        have hgo : gm ∉ [g] := by simpa using hne
        have hfr : wc.heap[gm]? = w.heap[gm]? := (st.frame gm hgmr hgn).trans (stK.frame gm hgmw (by simpa using hne))
        have hRow3 := hRow2.kept (w' := wc) (R' := RMail ok w) (fun b hb => by obtain rfl : gm = b := Option.some.inj hb; exact st.frame gm hgmr hgn) fun _ _ h => h
        have st2 := St.back stK st
        clear st stK hRow2 HC hw6 hgb HGo hTail
        have st := st2
        clear st2
        have hlm2 : ∀ m ∈ l, goodMailC m = 0 := fun m hm => hlm m (by simp [hm])
        have HMs := Lib.hid hlm2
        clear hlm hlm2 hgm4
        have HF := Lib.hid (fun (W : World) (bl : Blks) (hW : St [g] w W bl) => label_Flows ok W l1 la oa k1 lc oc m.label x.label x.own (by omega) (by omega) (hA.keep (HKp.out W _ hW)) (h1.keep (HKp.out W _ hW)) (h2.keep (HKp.out W _ hW)))
        have HT2 := Lib.hid (show takeM x.label x.own (m :: l) = if flowsL m.label x.label x.own = true then (some m, l) else takeM x.label x.own l from rfl)
        generalize flowsL m.label x.label x.own = fl at HF HT2
        go_wp2_with fail
        refine det_region (by kernel_rfl) 12 rfl (fun W => St [g] w W [(g, 60, winC pre [.slice la x.label.length lc, .slice oa x.own.length oc, .string x.text, .slice ba x.objects.length bc, .slice (some ⟨gm, off', none⟩) l.length q] post), (g4, 39, [.int .i64 0, .int .i64 0, .string ⟨#[]⟩]), (g5, 35, [.int .i64 m.host, .int .i64 m.thread, .slice l1 m.label.length k1, .slice l2 m.grants.length k2, .string m.text])]) (st.drew) (by decide +kernel) ?_
        refine det_take 0 rfl (by decide +kernel) (by first | exact wanted_none rfl | exact wanted_some rfl rfl) (fun W hW => by first | (go_simp; done) | (go_simp; rfl)) ?_; simp only [Act.put, List.setIfInBounds_toArray, List.set_cons_succ, List.set_cons_zero]
        refine det_take 1 rfl (by decide +kernel) (by first | exact wanted_none rfl | exact wanted_some rfl rfl) (fun W hW => St.run_load hW 2 24 _ rfl Try.isAgg24 rfl rfl rfl) ?_; simp only [Act.put, List.setIfInBounds_toArray, List.set_cons_succ, List.set_cons_zero]
        refine det_take 2 rfl (by decide +kernel) (by first | exact wanted_none rfl | exact wanted_some rfl rfl) (fun W hW => by first | (go_simp; done) | (go_simp; rfl)) ?_; simp only [Act.put, List.setIfInBounds_toArray, List.set_cons_succ, List.set_cons_zero]; refine det_take 3 rfl (by decide +kernel) (by first | exact wanted_none rfl | exact wanted_some rfl rfl) (fun W hW => by first | (go_simp; done) | (go_simp; rfl)) ?_; simp only [Act.put, List.setIfInBounds_toArray, List.set_cons_succ, List.set_cons_zero]; refine det_take 4 rfl (by decide +kernel) (by first | exact wanted_none rfl | exact wanted_some rfl rfl) (fun W hW => by first | (go_simp; done) | (go_simp; rfl)) ?_; simp only [Act.put, List.setIfInBounds_toArray, List.set_cons_succ, List.set_cons_zero]
        refine det_take 5 rfl (by decide +kernel) (by first | exact wanted_none rfl | exact wanted_some rfl rfl) (fun W hW => St.run_loadW hW 0 24 _ rfl Try.isAgg24 0 hpre rfl rfl rfl) ?_; simp only [Act.put, List.setIfInBounds_toArray, List.set_cons_succ, List.set_cons_zero]
        refine det_take 6 rfl (by decide +kernel) (by first | exact wanted_none rfl | exact wanted_some rfl rfl) (fun W hW => by first | (go_simp; done) | (go_simp; rfl)) ?_; simp only [Act.put, List.setIfInBounds_toArray, List.set_cons_succ, List.set_cons_zero]; refine det_take 7 rfl (by decide +kernel) (by first | exact wanted_none rfl | exact wanted_some rfl rfl) (fun W hW => by first | (go_simp; done) | (go_simp; rfl)) ?_; simp only [Act.put, List.setIfInBounds_toArray, List.set_cons_succ, List.set_cons_zero]; refine det_take 8 rfl (by decide +kernel) (by first | exact wanted_none rfl | exact wanted_some rfl rfl) (fun W hW => by first | (go_simp; done) | (go_simp; rfl)) ?_; simp only [Act.put, List.setIfInBounds_toArray, List.set_cons_succ, List.set_cons_zero]
        refine det_take 9 rfl (by decide +kernel) (by first | exact wanted_none rfl | exact wanted_some rfl rfl) (fun W hW => St.run_loadW hW 0 25 _ rfl Try.isAgg25 1 hpre rfl rfl rfl) ?_; simp only [Act.put, List.setIfInBounds_toArray, List.set_cons_succ, List.set_cons_zero]
        refine det_call (fn := 15) 10 rfl (by decide +kernel) (by first | exact wanted_none rfl | exact wanted_some rfl rfl) (fun W => by first | (go_simp; done) | (go_simp; rfl)) (fun W hW => (HF.out W _ hW).mono fun e w' h => ⟨h.1, hW.call h.2⟩) ?_; simp only [Act.put, List.setIfInBounds_toArray, List.set_cons_succ, List.set_cons_zero]
        refine det_take 11 rfl (by decide +kernel) (by first | exact wanted_none rfl | exact wanted_some rfl rfl) (fun W hW => by first | (go_simp; done) | (go_simp; rfl)) ?_; simp only [Act.put, List.setIfInBounds_toArray, List.set_cons_succ, List.set_cons_zero]
        refine det_done (by decide +kernel) ?_
        clear st HF
        intro W st
        have hRow4 := hRow3.kept (w' := W) (R' := RMail ok w) (fun b hb => by obtain rfl : gm = b := Option.some.inj hb; exact (st.frame gm hgmw hgo).trans hfr.symm) fun _ _ h => h
        clear hRow3 hfr
        have stW := st
        cases fl with
        | false =>
          have HE := Lib.hid (show takeM x.label x.own x.mails = takeM x.label x.own l by rw [HT.out, HT2.out]; rfl)
          clear HT HT2
          go_wp2_with fail
          go_roundg (gk - 1)
          case measure => simp only [List.length_cons] at hln; omega
          case rel => exact ⟨l, some ⟨gm, off', none⟩, q, by simp only [List.length_cons] at hln; omega, HMs.out, HE, st.sub (by simp) (by simp [List.pairwise_cons] <;> omega), hRow4, hab⟩
        | true =>
          have HE : Hid (takeX x = ({ x with mails := l, text := knowT x.text m.text, own := ownAll x.own m.grants }, ⟨0, m.host * 4 + m.thread, ⟨#[]⟩⟩)) := Lib.hid (by unfold takeX; rw [HT.out, HT2.out]; rfl)
          clear HT HT2 HMs
          go_wp2_with (first | go_skip | (with_reducible refine at_load 9 ?_; (first | refine mem_load' st 9 _ rfl (wanted_none rfl) Try.isAgg9 ?_ | (refine mem_load' st 9 _ rfl (wanted_some rfl ?_) Try.isAgg9 ?_; focus (simp [yielded, Act.put]; done))); refine ⟨2, _, _, _, _, _, rfl, rfl, rfl, ?_⟩))
          refine (kernel_know _ g p pre post _ _ _ _ x.text m.text hpre (by omega) (by omega) (st.blk _ (List.mem_of_getElem? (i := 0) rfl))).mono ?_
          rintro e v1 ⟨⟨u, rfl⟩, hk⟩
          replace st := st.turn (i := 0) rfl hk
          simp only [List.set_cons_zero] at st
          have HW := Lib.hid (hRow4.kept (w' := w) (R' := RMail ok w) (fun b hb => by obtain rfl : gm = b := Option.some.inj hb; exact (stW.frame gm hgmw hgo).symm) fun _ _ h => h)
          clear hk hRow4 stW
          have hl1 := st.ltAt (i := 1) rfl
          have hl2 := st.ltAt (i := 2) rfl
          have HB := Lib.hid hB
          have hR0 : SlR (fun b => (ok b ∨ w.heap.size ≤ b) ∧ b ≠ g4) v1 1 RInt oa oc x.own := h2.move st.size (fun b hb ho => ⟨⟨.inl ho, by omega⟩, st.frame b hb (by simp; rintro rfl; exact hg ho)⟩) fun _ _ h => h
          have hg' : ¬ ((ok g ∨ w.heap.size ≤ g) ∧ g ≠ g4) := fun h => by
            rcases h.1 with h | h
            · exact hg h
            · omega
          generalize knowT x.text m.text = tx at st HE
          go_upto_block 2 with (first | go_skip | (with_reducible refine at_load 25 ?_; (first | refine mem_load' st 25 _ rfl (wanted_none rfl) Try.isAgg25 ?_ | (refine mem_load' st 25 _ rfl (wanted_some rfl ?_) Try.isAgg25 ?_; focus (simp [yielded, Act.put]; done))); refine ⟨2, _, _, _, _, _, rfl, rfl, rfl, ?_⟩))
          go_cut [] (fun wx => ∃ (oa' : Option Addr) (oc' : Nat), St [g] w wx [(g, 60, winC pre [.slice la x.label.length lc, .slice oa' (ownAll x.own m.grants).length oc', .string tx, .slice ba x.objects.length bc, .slice (some ⟨gm, off', none⟩) l.length q] post), (g4, 39, [.int .i64 0, .int .i64 0, .string ⟨#[]⟩]), (g5, 35, [.int .i64 m.host, .int .i64 m.thread, .slice l1 m.label.length k1, .slice l2 m.grants.length k2, .string m.text])] ∧ SlR (fun b => (ok b ∨ w.heap.size ≤ b) ∧ b ≠ g4) wx 1 RInt oa' oc' (ownAll x.own m.grants))
          case first =>
            go_wp2_with fail
            go_loopw [47] (fun v47 wr2 => ∃ (j : Nat) (own' : List Int) (oa' : Option Addr) (oc' : Nat), v47 = .int .i64 j ∧ j ≤ m.grants.length ∧ Hid (ownAll x.own m.grants = ownAll own' (m.grants.drop j)) ∧ Rising own' ∧ own'.length ≤ 8 ∧ St [g] w wr2 [(g, 60, winC pre [.slice la x.label.length lc, .slice oa' own'.length oc', .string tx, .slice ba x.objects.length bc, .slice (some ⟨gm, off', none⟩) l.length q] post), (g4, 39, [.int .i64 0, .int .i64 0, .string ⟨#[]⟩]), (g5, 35, [.int .i64 m.host, .int .i64 m.thread, .slice l1 m.label.length k1, .slice l2 m.grants.length k2, .string m.text])] ∧ SlR (fun b => (ok b ∨ w.heap.size ≤ b) ∧ b ≠ g4) wr2 1 RInt oa' oc' own') (fun v47 _ => m.grants.length - (intOf v47).toNat)
            case atStart => exact ⟨0, x.own, oa, oc, rfl, Nat.zero_le _, rfl, HR.out, hxo, st, hR0⟩
            case round =>
              clear st hR0
              obtain ⟨j, own', oa', oc', rfl, hj, HO, hr, hl8, st, hR⟩ := hrel
              by_cases hlt : j < m.grants.length
              · obtain ⟨b, o, rfl, hbl, hc⟩ := (HB.out.keep (HKp.out _ _ st)).int_at j hlt
                have HS := Lib.hid (show ownAll own' (m.grants.drop j) = if (ownC own' m.grants[j]).2 = 0 then ownAll (ownC own' m.grants[j]).1 (m.grants.drop (j + 1)) else own' by rw [List.drop_eq_getElem_cons hlt]; rfl)
                have HC2 := Lib.hid (ownC_ok hr hl8 m.grants[j])
                have HL := Lib.hid (ownC_lo own' m.grants[j])
                have HOw := Lib.hid (fun W (bl : List (Nat × TypeId × List Value)) (h : St [g] w W bl) (hb : W.heap[g]? = some (.cells (winC pre [.slice la x.label.length lc, .slice oa' own'.length oc', .string tx, .slice ba x.objects.length bc, .slice (some ⟨gm, off', none⟩) l.length q] post).toArray 60 (0, 0))) (hR : SlR (fun b => (ok b ∨ w.heap.size ≤ b) ∧ b ≠ g4) W 1 RInt oa' oc' own') => kernel_own (fun b => (ok b ∨ w.heap.size ≤ b) ∧ b ≠ g4) W g p pre post _ _ _ _ oa' oc' own' m.grants[j] hpre hr hl8 hR hg' hb)
                generalize m.grants[j] = gj at HS HC2 HL HOw hc
                obtain ⟨⟨o2, e2⟩, HP⟩ : ∃ r, Hid (ownC own' gj = r) := ⟨_, rfl⟩
                rw [HP.out] at HS HC2 HL HOw
                go_wp2_with fail
                have hlg := st.ltAt (i := 1) rfl
                have hwz := st.size
                refine (HOw.out _ _ st (st.blk _ (List.mem_of_getElem? (i := 0) rfl)) hR).mono ?_
                rintro e v2 ⟨oa2, oc2, rfl, hk, hR2⟩
                replace st := st.turn (i := 0) rfl hk
                simp only [List.set_cons_zero] at st
                replace hR2 := hR2.okay (ok' := (fun b => (ok b ∨ w.heap.size ≤ b) ∧ b ≠ g4)) fun b h => h.elim id fun h => ⟨.inr (by omega), by omega⟩
                clear hk hR hc
                rcases HL.out with h0 | ⟨h5, h6⟩
                · obtain rfl : e2 = 0 := h0
                  go_wp2_with fail
                  go_roundw
                  case rel => exact ⟨j + 1, o2, oa2, oc2, by go_num, hlt, Lib.hid (by rw [HO.out, HS.out]; rfl), HC2.out.1, HC2.out.2, st, hR2⟩
                  case measure => simp [intOf]; omega
                · obtain rfl : e2 = 5 := h5
                  obtain rfl : o2 = own' := h6
                  have HE2 := Lib.hid (show ownAll x.own m.grants = o2 by rw [HO.out, HS.out]; rfl)
                  go_wp2_with fail
                  go_meet
                  rw [HE2.out]
                  exact ⟨oa2, oc2, st, hR2⟩
              · have HE2 := Lib.hid (show ownAll x.own m.grants = own' by rw [HO.out, List.drop_of_length_le (by omega)]; rfl)
                go_wp2_with fail
                go_meet
                rw [HE2.out]
                exact ⟨oa', oc', st, hR⟩
          case rest =>
            obtain ⟨oa', oc', st, hR⟩ := hcut
            clear hR0
            have hw4 := st.size
            go_wp2_with (first | go_skip | (with_reducible refine at_load 3 ?_; (first | refine mem_load' st 3 _ rfl (wanted_none rfl) Try.isAgg3 ?_ | (refine mem_load' st 3 _ rfl (wanted_some rfl ?_) Try.isAgg3 ?_; focus (simp [yielded, Act.put]; done))); refine ⟨2, _, _, _, _, _, rfl, rfl, rfl, ?_⟩) | (with_reducible refine at_store 39 ?_; (first | refine mem_store' st 39 _ _ rfl (wanted_none rfl) _ Try.sizeOf39 ?_ | (refine mem_store' st 39 _ _ rfl (wanted_some rfl ?_) _ Try.sizeOf39 ?_; focus (simp [yielded, Act.put]; done))); refine ⟨1, _, _, _, _, _, rfl, rfl, rfl, rfl, rfl, rfl, ?_⟩; clear st; intro w9 st hw9m hw9z; simp [Act.eval, Act.put, Value.cells, putL] at st))
            have hc := fun j => st.cell (i := 1) rfl j
            refine bodyPost_ret (v := RepV ⟨0, m.host * 4 + m.thread, ⟨#[]⟩⟩) ?hr rfl ?_
            case hr => simp [results, Try.results27, go_sem, hc, RepV]; try rfl
            rw [HE.out]
            refine ⟨oa', oc', some ⟨gm, off', none⟩, q, rfl, st.sub (by simp [thrC]) (by simp), (hR.keep ⟨by omega, fun b hb ho => hw9m b ho.2⟩).okay fun _ h => h.1, ?_, hab⟩
            exact HW.out.kept (fun b hb => by obtain rfl : gm = b := Option.some.inj hb; exact st.frame gm hgmw hgo) fun _ _ h => h

end Go.Proofs.Ytnkfemjmfalamaa

/- The walks through the kernel's mail and Deliver. -/
namespace Go.Proofs.Ytnkfemjmfalamaa
open Go.RowKit

set_option maxRecDepth 100000 in
set_option maxHeartbeats 2000000 in
theorem kernel_mail (ok : Nat → Prop) (w : World) (m : Mail) (la : Option Addr) (lc : Nat) (ga : Option Addr) (gc : Nat) (hl : m.label.length * 16 ≤ 140737488355328) (hg : m.grants.length * 8 ≤ 140737488355328) (hR : MailR ok w m la lc ga gc) :
    Calls Try.prog 29 #[mailV m la lc ga gc] w fun e w' => ∃ a1 k1 a2 k2, e = .returned (mailV m a1 k1 a2 k2) ∧ Below w.heap.size w w' ∧ MailR (fun b => w.heap.size ≤ b) w' m a1 k1 a2 k2 := by
  unfold mailV
  have HL := Lib.hid (fun (W : World) (h : Below w.heap.size w W) => kernel_levels ok W la lc m.label hl (hR.label.below h))
  have HN := Lib.hid (fun (W : World) (h : Below w.heap.size w W) => kernel_numbers ok W ga gc m.grants hg (hR.grants.below h))
  have st := St.start w
  go_enter Try.func29, Try.ntmps29
  go_wp2_with (first | go_skip | (with_reducible refine at_box 35 ?_; refine mem_box st (wanted_none rfl) 35 _ rfl _ rfl _ rfl ?_; clear st; intro g1 w1 hg1 st hg1b; clear hg1b; simp [Act.eval, Act.put, Value.cells, putL] at st) | (with_reducible refine at_alloc 35 ?_; refine mem_alloc st (wanted_none rfl) 35 rfl _ Try.zeroValue35 _ rfl ?_; clear st; intro g2 w2 hg2 st hg2b; clear hg2b; simp [Act.eval, Act.put, Value.cells, putL] at st))
  have st := st.drew
  have hI := St.hand (st.blk _ (List.mem_of_getElem? (i := 0) rfl))
  refine lex_tail (by kernel_rfl) 7 3 [7, 8, 9] rfl (by decide +kernel) (fun W => St [g1] W W [(g1, 35, [.int .i64 m.host, .int .i64 m.thread, .slice la m.label.length lc, .slice ga m.grants.length gc, .string m.text])]) ?_
  refine lex_take 0 rfl (by decide +kernel) (by first | exact wanted_none rfl | exact wanted_some rfl rfl) hI (fun W hW => by first | (go_simp; done) | (go_simp; rfl)) ?_; simp only [Act.put, List.setIfInBounds_toArray, List.set_cons_succ, List.set_cons_zero]
  refine lex_take 1 rfl (by decide +kernel) (by first | exact wanted_none rfl | exact wanted_some rfl rfl) hI (fun W hW => St.run_load hW 0 24 _ rfl Try.isAgg24 rfl rfl rfl) ?_; simp only [Act.put, List.setIfInBounds_toArray, List.set_cons_succ, List.set_cons_zero]
  refine lex_take 3 rfl (by decide +kernel) (by first | exact wanted_none rfl | exact wanted_some rfl rfl) hI (fun W hW => by first | (go_simp; done) | (go_simp; rfl)) ?_; simp only [Act.put, List.setIfInBounds_toArray, List.set_cons_succ, List.set_cons_zero]
  refine lex_take 4 rfl (by decide +kernel) (by first | exact wanted_none rfl | exact wanted_some rfl rfl) hI (fun W hW => St.run_load hW 0 25 _ rfl Try.isAgg25 rfl rfl rfl) ?_; simp only [Act.put, List.setIfInBounds_toArray, List.set_cons_succ, List.set_cons_zero]
  clear hI
  refine lex_only 2 rfl (by decide +kernel) (by first | exact wanted_none rfl | exact wanted_some rfl rfl) fun K hK => ?_
  refine wp_callee (f := 23) (by first | (go_simp; done) | (go_simp; rfl)) ?_
  refine (HL.out _ st.below).mono ?_
  rintro e v1 ⟨a1, k1, rfl, hb1, hO1⟩
  have hz1 := st.size
  refine ⟨_, rfl, ?_⟩
  replace st := st.call hb1
  clear hb1
  have hI := St.hand (st.blk _ (List.mem_of_getElem? (i := 0) rfl))
  refine hK _ _ (hI) ?_; clear hK; simp only [Act.put, List.setIfInBounds_toArray, List.set_cons_succ, List.set_cons_zero]
  refine lex_take 6 rfl (by decide +kernel) (by first | exact wanted_none rfl | exact wanted_some rfl rfl) hI (fun W hW => by first | (go_simp; done) | (go_simp; rfl)) ?_; simp only [Act.put, List.setIfInBounds_toArray, List.set_cons_succ, List.set_cons_zero]
  clear hI
  refine lex_only 5 rfl (by decide +kernel) (by first | exact wanted_none rfl | exact wanted_some rfl rfl) fun K hK => ?_
  refine wp_callee (f := 28) (by first | (go_simp; done) | (go_simp; rfl)) ?_
  refine (HN.out _ st.below).mono ?_
  rintro e v2 ⟨a2, k2, rfl, hb2, hO2⟩
  have hz2 := st.size
  refine ⟨_, rfl, ?_⟩
  replace st := st.call hb2
  replace hO1 := hO1.below hb2
  clear hb2
  refine hK _ _ (St.hand (st.blk _ (List.mem_of_getElem? (i := 0) rfl))) ?_; clear hK; simp only [Act.put, List.setIfInBounds_toArray, List.set_cons_succ, List.set_cons_zero]
  refine lex_done (by decide +kernel) ?_
  have h1b := st.blk _ (List.mem_of_getElem? (i := 0) rfl)
  refine tail_next 7 rfl (by first | exact wanted_none rfl | exact wanted_some rfl rfl) (by decide +kernel) fun K hK => ?_
  refine wp_store' st 24 _ _ rfl _ Try.sizeOf24 ⟨0, _, _, _, _, _, rfl, rfl, rfl, rfl, rfl, rfl, ?_⟩; clear st; intro w3 st hw3m hw3z; simp [Act.eval, Act.put, Value.cells, putL] at st
  refine hK _ _ ?_; clear hK
  replace hO1 := hO1.stored h1b (by simp) hw3m
  replace hO2 := hO2.stored h1b (by simp) hw3m
  clear h1b hw3m hw3z
  refine tail_take 8 rfl (by first | exact wanted_none rfl | exact wanted_some rfl rfl) (by decide +kernel) (by first | (go_simp; done) | (go_simp; rfl)) ?_; simp only [Act.put, List.setIfInBounds_toArray, List.set_cons_succ, List.set_cons_zero]
  have h1b := st.blk _ (List.mem_of_getElem? (i := 0) rfl)
  refine tail_last 9 rfl (by first | exact wanted_none rfl | exact wanted_some rfl rfl) (by decide +kernel) (by decide +kernel) fun K hK => ?_
  refine wp_store' st 25 _ _ rfl _ Try.sizeOf25 ⟨0, _, _, _, _, _, rfl, rfl, rfl, rfl, rfl, rfl, ?_⟩; clear st; intro w4 st hw4m hw4z; simp [Act.eval, Act.put, Value.cells, putL] at st
  refine hK _ _ ?_; clear hK
  replace hO1 := hO1.stored h1b (by simp) hw4m
  replace hO2 := hO2.stored h1b (by simp) hw4m
  clear h1b hw4m hw4z
  have h2b := st.blk _ (List.mem_of_getElem? (i := 1) rfl)
  have HO := Lib.hid (show ∀ W, (∀ b, b ≠ g2 → W.heap[b]? = w4.heap[b]?) → MailR (fun b => w.heap.size ≤ b) W m a1 k1 a2 k2 from fun W h => ⟨(hO1.stored h2b (by simp) h).slr fun b hb => by omega, (hO2.stored h2b (by simp) h).slr fun b hb => by omega⟩)
  clear hO1 hO2 h2b
  go_wp2_with (first | go_skip | (with_reducible refine at_load 35 ?_; (first | refine mem_load_agg' st 35 _ rfl (wanted_none rfl) Try.isAgg35 _ Try.sizeOf35 ?_ | (refine mem_load_agg' st 35 _ rfl (wanted_some rfl ?_) Try.isAgg35 _ Try.sizeOf35 ?_; focus (simp [yielded, Act.put]; done))); refine ⟨0, _, _, _, _, _, rfl, rfl, rfl, rfl, ?_⟩) | (with_reducible refine at_store 35 ?_; (first | refine mem_store' st 35 _ _ rfl (wanted_none rfl) _ Try.sizeOf35 ?_ | (refine mem_store' st 35 _ _ rfl (wanted_some rfl ?_) _ Try.sizeOf35 ?_; focus (simp [yielded, Act.put]; done))); refine ⟨1, _, _, _, _, _, rfl, rfl, rfl, rfl, rfl, rfl, ?_⟩; clear st; intro w5 st hw5m hw5z; simp [Act.eval, Act.put, Value.cells, putL] at st))
  have hc := fun j => st.cell (i := 1) rfl j
  refine bodyPost_ret (v := mailV m a1 k1 a2 k2) ?hr rfl ⟨_, _, _, _, rfl, st.below, HO.out _ hw5m⟩
  case hr => simp [results, Try.results29, go_sem, hc, mailV, putL]; try rfl

end Go.Proofs.Ytnkfemjmfalamaa

/- The walk through the kernel's Deliver. -/
namespace Go.Proofs.Ytnkfemjmfalamaa
open Go.RowKit

theorem St.wider {M M' : List Nat} {w0 w : World} {own : Blks} (h : St M w0 w own) (hM : ∀ b ∈ M, b ∈ M') : St M' w0 w own :=
  ⟨h.os, h.tape, h.output, h.size, fun b hb hm => h.frame b hb fun hm2 => hm (hM b hm2), h.blk, fun x hx => (h.mine x hx).imp (hM _) id, h.ne⟩

theorem four_nat {t : Int} (h : four t = true) : ∃ n : Nat, t = n ∧ n < 4 := by
  obtain ⟨h1, h2⟩ := (four_iff t).1 h
  obtain ⟨n, rfl⟩ := Int.eq_ofNat_of_zero_le h1
  exact ⟨n, rfl, by omega⟩

theorem four_no {t : Int} (h : four t = false) : t < 0 ∨ (0 ≤ t ∧ 4 ≤ t) := by
  have := fun h1 => (four_iff t).2 h1
  by_cases h0 : t < 0
  · exact .inl h0
  · refine .inr ⟨by omega, ?_⟩
    by_cases h4 : 4 ≤ t
    · exact h4
    · rw [this ⟨by omega, by omega⟩] at h; cases h

theorem info_Mail : (Try.prog.info? 35).map (fun i => (i.zero, i.size, i.bytes)) = some (some (.agg #[.int .i64 0, .int .i64 0, .slice none 0 0, .slice none 0 0, .string .empty]), 5, 80) := by kernel_rfl

theorem Ker.thr_at {k : Ker} {n : Nat} {x : Thr} (h : k.threads[n]? = some x) : k.thr (n : Int) = x := by
  unfold Ker.thr
  rw [Int.toNat_natCast, List.getD_eq_getElem?_getD, h]
  rfl

set_option maxRecDepth 100000 in
set_option maxHeartbeats 4000000 in
theorem kernel_Deliver (ok okm : Nat → Prop) (w : World) (g : Nat) (k : Ker) (css : List (List Value)) (Bs : List (List Nat)) (h : KerAt ok w g k css Bs) (hk : ∀ x ∈ k.threads, x.ok) (t : Int) (m : Mail) (la : Option Addr) (lc : Nat) (ga : Option Addr) (gc : Nat)
    (hl : m.label.length * 16 ≤ 140737488351232) (hg : m.grants.length * 8 ≤ 140737488355328) (hR : MailR okm w m la lc ga gc) :
    Calls Try.prog 17 #[.pointer (some ⟨g, 0, none⟩), .int .i64 t, mailV m la lc ga gc] w fun e w' => (∃ u, e = .returned u) ∧ KerTo ok w g Bs w' (deliverK k t m) := by
  have HG := Lib.hid (fun (W : World) (hW : Below w.heap.size w W) => wire_GoodMail okm W m la lc ga gc (by omega) hg (hR.below hW))
  by_cases h4 : four t = true
  case neg =>
    have h4' : four t = false := by simpa using h4
    have HE := Lib.hid (show deliverK k t m = k by unfold deliverK; rw [if_pos h4'])
    have st := St.start w
    unfold mailV at *
    rcases four_no h4' with d | ⟨d0, d⟩
    all_goals
      clear h4 h4'
      go_enter Try.func17, Try.ntmps17
      go_wp2_with (first | go_skip | (with_reducible refine at_box 35 ?_; refine mem_box st (wanted_none rfl) 35 _ rfl _ rfl _ rfl ?_; clear st; intro g1 w1 hg1 st hg1b; clear hg1b; simp [Act.eval, Act.put, Value.cells, putL] at st))
      refine bodyPost_ret (v := .tuple #[]) (by simp [results, Try.results17, go_sem]) rfl ⟨⟨_, rfl⟩, ?_⟩
      rw [HE.out]
      exact KerTo.none h st.below
  obtain ⟨n, rfl, hn⟩ := four_nat h4
  obtain ⟨x, xa, xc, oa, oc, ba, bc, ma, mc, ex, ec, eB, hT, hb⟩ := h.open hn
  have hx := hk x (List.mem_of_getElem? ex)
  have hpre := h.preLen hn
  have HK := Lib.hid (show deliverK k (n : Int) m = if goodMailC m ≠ 0 then k else if flowsL m.label x.label x.own = true ∧ x.mails.length < 6 then k.put n { x with mails := x.mails ++ [m] } else k by
    unfold deliverK; rw [if_neg (by rw [h4]; simp), Ker.thr_at ex])
  have st0 := St.hand hb
  unfold thrC at st0
  have d1 : decide ((n : Int) < 0) = false := by simp
  have d2 : decide ((4 : Int) ≤ n) = false := by simp; omega
  clear h4
  by_cases hgm : goodMailC m = 0
  case neg =>
    have HE := Lib.hid (show deliverK k (n : Int) m = k by rw [HK.out, if_pos hgm])
    generalize goodMailC m = q at HG hgm
    have hq : (q != 0) = true := by simpa using hgm
    clear hgm HK
    have st := St.start w
    unfold mailV at *
    go_enter Try.func17, Try.ntmps17
    go_wp2_with (first | go_skip | (with_reducible refine at_box 35 ?_; refine mem_box st (wanted_none rfl) 35 _ rfl _ rfl _ rfl ?_; clear st; intro g1 w1 hg1 st hg1b; clear hg1b; simp [Act.eval, Act.put, Value.cells, putL] at st) | (with_reducible refine at_load 35 ?_; (first | refine mem_load_agg' st 35 _ rfl (wanted_none rfl) Try.isAgg35 _ Try.sizeOf35 ?_ | (refine mem_load_agg' st 35 _ rfl (wanted_some rfl ?_) Try.isAgg35 _ Try.sizeOf35 ?_; focus (simp [yielded, Act.put]; done))); refine ⟨0, _, _, _, _, _, rfl, rfl, rfl, rfl, ?_⟩) | (go_at_call 35; go_must (refine (HG.out _ st.below).mono ?_; rintro e v1 ⟨rfl, hb1⟩; replace st := st.call hb1; clear hb1)))
    refine bodyPost_ret (v := .tuple #[]) (by simp [results, Try.results17, go_sem]) rfl ⟨⟨_, rfl⟩, ?_⟩
    rw [HE.out]
    exact KerTo.none h st.below
  obtain ⟨_, _, q5, q6, q7⟩ := mail_facts hgm
  have hml := goodL_len q5
  have hmg := (grants_facts q6).1
  clear q5 q6
  rw [hgm] at HG
  have HK1 := Lib.hid (show deliverK k (n : Int) m = if flowsL m.label x.label x.own = true ∧ x.mails.length < 6 then k.put n { x with mails := x.mails ++ [m] } else k by rw [HK.out, if_neg (by simpa using hgm)])
  clear hgm HK
  have hgg : ¬ ok g := h.apart g (by simp)
  have HKp := Lib.hid (show ∀ (W : World) (bl : Blks), St [g] w W bl → Keeps ok w W from fun W bl s => s.keeps (by simpa using hgg))
  have hxl := goodL_len hx.good; have hxo := hx.ownL; have hxm := hx.mailN
  have HF := Lib.hid (fun (W : World) (bl : Blks) (hW : St [g] w W bl) (hR2 : MailR okm W m la lc ga gc) => label_Flows (fun _ => True) W la xa oa lc xc oc m.label x.label x.own (by omega) (by omega) (hR2.label.okay fun _ _ => trivial) ((hT.label.keep (HKp.out W _ hW)).okay fun _ _ => trivial) ((hT.own.keep (HKp.out W _ hW)).okay fun _ _ => trivial))
  have HM := Lib.hid (fun (W : World) (hR2 : MailR okm W m la lc ga gc) => kernel_mail okm W m la lc ga gc (by omega) hg hR2)
  generalize flowsL m.label x.label x.own = fl at HF HK1
  have HB := Lib.hid (show ∀ (W : World) (bl : Blks), St [g] w W bl → (g, 60, winC (preC k css n) [.slice xa x.label.length xc, .slice oa x.own.length oc, .string x.text, .slice ba x.objects.length bc, .slice ma x.mails.length mc] (postC k css n)) ∈ bl → Below w.heap.size w W from fun W bl s hm => st0.below2 s (by simpa using hm))
  have st := st0
  clear st0
  unfold mailV at *
  have h6 : fl = false ∨ (fl = true ∧ ¬ x.mails.length < 6) ∨ (fl = true ∧ x.mails.length < 6) := by cases fl <;> simp; omega
  rcases h6 with rfl | ⟨rfl, h6⟩ | ⟨rfl, h6⟩
  · have HE := Lib.hid (show deliverK k (n : Int) m = k by rw [HK1.out, if_neg (by simp)])
    clear HK1
    go_enter Try.func17, Try.ntmps17
    go_wp2_with (first | go_skip | (with_reducible refine at_box 35 ?_; refine mem_box st (wanted_none rfl) 35 _ rfl _ rfl _ rfl ?_; clear st; intro g1 w1 hg1 st hg1b; clear hg1b; simp [Act.eval, Act.put, Value.cells, putL] at st) | (with_reducible refine at_load 35 ?_; (first | refine mem_load_agg' st 35 _ rfl (wanted_none rfl) Try.isAgg35 _ Try.sizeOf35 ?_ | (refine mem_load_agg' st 35 _ rfl (wanted_some rfl ?_) Try.isAgg35 _ Try.sizeOf35 ?_; focus (simp [yielded, Act.put]; done))); refine ⟨1, _, _, _, _, _, rfl, rfl, rfl, rfl, ?_⟩) | (go_at_call 35; go_must (refine (HG.out _ (HB.out _ _ st (by simp))).mono ?_; rintro e v1 ⟨rfl, hb1⟩; replace st := st.call hb1; clear hb1)))
    refine det_region (by kernel_rfl) 19 rfl (fun W => St [g] w W [(g, 60, winC (preC k css n) [.slice xa x.label.length xc, .slice oa x.own.length oc, .string x.text, .slice ba x.objects.length bc, .slice ma x.mails.length mc] (postC k css n)), (g1, 35, [.int .i64 m.host, .int .i64 m.thread, .slice la m.label.length lc, .slice ga m.grants.length gc, .string m.text])]) (st.drew) (by decide +kernel) ?_
    refine det_take 0 rfl (by decide +kernel) (by first | exact wanted_none rfl | exact wanted_some rfl rfl) (fun W hW => by first | (go_simp; done) | (go_simp; rfl)) ?_; simp only [Act.put, List.setIfInBounds_toArray, List.set_cons_succ, List.set_cons_zero]
    refine det_take 1 rfl (by decide +kernel) (by first | exact wanted_none rfl | exact wanted_some rfl rfl) (fun W hW => St.run_load hW 1 24 _ rfl Try.isAgg24 rfl rfl rfl) ?_; simp only [Act.put, List.setIfInBounds_toArray, List.set_cons_succ, List.set_cons_zero]
    refine det_take 2 rfl (by decide +kernel) (by first | exact wanted_none rfl | exact wanted_some rfl rfl) (fun W hW => by first | (go_simp; done) | (go_simp; rfl)) ?_; simp only [Act.put, List.setIfInBounds_toArray, List.set_cons_succ, List.set_cons_zero]; refine det_take 3 rfl (by decide +kernel) (by first | exact wanted_none rfl | exact wanted_some rfl rfl) (fun W hW => by first | (go_simp; done) | (go_simp; rfl)) ?_; simp only [Act.put, List.setIfInBounds_toArray, List.set_cons_succ, List.set_cons_zero]; refine det_take 4 rfl (by decide +kernel) (by first | exact wanted_none rfl | exact wanted_some rfl rfl) (fun W hW => by first | (go_simp; done) | (go_simp; rfl)) ?_; simp only [Act.put, List.setIfInBounds_toArray, List.set_cons_succ, List.set_cons_zero]
    refine det_take 5 rfl (by decide +kernel) (by first | exact wanted_none rfl | exact wanted_some rfl rfl) (fun W hW => St.run_loadW hW 0 24 _ rfl Try.isAgg24 0 hpre rfl rfl rfl) ?_; simp only [Act.put, List.setIfInBounds_toArray, List.set_cons_succ, List.set_cons_zero]
    refine det_take 6 rfl (by decide +kernel) (by first | exact wanted_none rfl | exact wanted_some rfl rfl) (fun W hW => by first | (go_simp; done) | (go_simp; rfl)) ?_; simp only [Act.put, List.setIfInBounds_toArray, List.set_cons_succ, List.set_cons_zero]; refine det_take 7 rfl (by decide +kernel) (by first | exact wanted_none rfl | exact wanted_some rfl rfl) (fun W hW => by first | (go_simp; done) | (go_simp; rfl)) ?_; simp only [Act.put, List.setIfInBounds_toArray, List.set_cons_succ, List.set_cons_zero]; refine det_take 8 rfl (by decide +kernel) (by first | exact wanted_none rfl | exact wanted_some rfl rfl) (fun W hW => by first | (go_simp; done) | (go_simp; rfl)) ?_; simp only [Act.put, List.setIfInBounds_toArray, List.set_cons_succ, List.set_cons_zero]
    refine det_take 9 rfl (by decide +kernel) (by first | exact wanted_none rfl | exact wanted_some rfl rfl) (fun W hW => St.run_loadW hW 0 25 _ rfl Try.isAgg25 1 hpre rfl rfl rfl) ?_; simp only [Act.put, List.setIfInBounds_toArray, List.set_cons_succ, List.set_cons_zero]
    refine det_call (fn := 15) 10 rfl (by decide +kernel) (by first | exact wanted_none rfl | exact wanted_some rfl rfl) (fun W => by first | (go_simp; done) | (go_simp; rfl)) (fun W hW => (HF.out W _ hW (hR.below (HB.out W _ hW (by simp)))).mono fun e w' h => ⟨h.1, hW.call h.2⟩) ?_; simp only [Act.put, List.setIfInBounds_toArray, List.set_cons_succ, List.set_cons_zero]
    refine det_take 11 rfl (by decide +kernel) (by first | exact wanted_none rfl | exact wanted_some rfl rfl) (fun W hW => by first | (go_simp; done) | (go_simp; rfl)) ?_; simp only [Act.put, List.setIfInBounds_toArray, List.set_cons_succ, List.set_cons_zero]
    refine det_skip 12 rfl (by decide +kernel) (by first | (simp [Region.wanted, yielded]; done) | (simp [Region.wanted, yielded, undef]; done)) ?_; simp only [Act.put, List.setIfInBounds_toArray, List.set_cons_succ, List.set_cons_zero]; refine det_skip 13 rfl (by decide +kernel) (by first | (simp [Region.wanted, yielded]; done) | (simp [Region.wanted, yielded, undef]; done)) ?_; simp only [Act.put, List.setIfInBounds_toArray, List.set_cons_succ, List.set_cons_zero]; refine det_skip 14 rfl (by decide +kernel) (by first | (simp [Region.wanted, yielded]; done) | (simp [Region.wanted, yielded, undef]; done)) ?_; simp only [Act.put, List.setIfInBounds_toArray, List.set_cons_succ, List.set_cons_zero]; refine det_skip 15 rfl (by decide +kernel) (by first | (simp [Region.wanted, yielded]; done) | (simp [Region.wanted, yielded, undef]; done)) ?_; simp only [Act.put, List.setIfInBounds_toArray, List.set_cons_succ, List.set_cons_zero]; refine det_skip 16 rfl (by decide +kernel) (by first | (simp [Region.wanted, yielded]; done) | (simp [Region.wanted, yielded, undef]; done)) ?_; simp only [Act.put, List.setIfInBounds_toArray, List.set_cons_succ, List.set_cons_zero]; refine det_skip 17 rfl (by decide +kernel) (by first | (simp [Region.wanted, yielded]; done) | (simp [Region.wanted, yielded, undef]; done)) ?_; simp only [Act.put, List.setIfInBounds_toArray, List.set_cons_succ, List.set_cons_zero]
    refine det_take 18 rfl (by decide +kernel) (by first | exact wanted_none rfl | exact wanted_some rfl rfl) (fun W hW => by first | (go_simp; done) | (go_simp; rfl)) ?_; simp only [Act.put, List.setIfInBounds_toArray, List.set_cons_succ, List.set_cons_zero]
    refine det_done (by decide +kernel) ?_
    clear st
    intro W st
    go_wp2
    go_end0
    rw [HE.out]
    exact ⟨⟨_, rfl⟩, KerTo.none h (HB.out _ _ st (by simp))⟩
  · have HE := Lib.hid (show deliverK k (n : Int) m = k by rw [HK1.out, if_neg (fun e => h6 e.2)])
    have d6 : decide ((x.mails.length : Int) < 6) = false := by simp; omega
    clear HK1
    go_enter Try.func17, Try.ntmps17
    go_wp2_with (first | go_skip | (with_reducible refine at_box 35 ?_; refine mem_box st (wanted_none rfl) 35 _ rfl _ rfl _ rfl ?_; clear st; intro g1 w1 hg1 st hg1b; clear hg1b; simp [Act.eval, Act.put, Value.cells, putL] at st) | (with_reducible refine at_load 35 ?_; (first | refine mem_load_agg' st 35 _ rfl (wanted_none rfl) Try.isAgg35 _ Try.sizeOf35 ?_ | (refine mem_load_agg' st 35 _ rfl (wanted_some rfl ?_) Try.isAgg35 _ Try.sizeOf35 ?_; focus (simp [yielded, Act.put]; done))); refine ⟨1, _, _, _, _, _, rfl, rfl, rfl, rfl, ?_⟩) | (go_at_call 35; go_must (refine (HG.out _ (HB.out _ _ st (by simp))).mono ?_; rintro e v1 ⟨rfl, hb1⟩; replace st := st.call hb1; clear hb1)))
    refine det_region (by kernel_rfl) 19 rfl (fun W => St [g] w W [(g, 60, winC (preC k css n) [.slice xa x.label.length xc, .slice oa x.own.length oc, .string x.text, .slice ba x.objects.length bc, .slice ma x.mails.length mc] (postC k css n)), (g1, 35, [.int .i64 m.host, .int .i64 m.thread, .slice la m.label.length lc, .slice ga m.grants.length gc, .string m.text])]) (st.drew) (by decide +kernel) ?_
    refine det_take 0 rfl (by decide +kernel) (by first | exact wanted_none rfl | exact wanted_some rfl rfl) (fun W hW => by first | (go_simp; done) | (go_simp; rfl)) ?_; simp only [Act.put, List.setIfInBounds_toArray, List.set_cons_succ, List.set_cons_zero]
    refine det_take 1 rfl (by decide +kernel) (by first | exact wanted_none rfl | exact wanted_some rfl rfl) (fun W hW => St.run_load hW 1 24 _ rfl Try.isAgg24 rfl rfl rfl) ?_; simp only [Act.put, List.setIfInBounds_toArray, List.set_cons_succ, List.set_cons_zero]
    refine det_take 2 rfl (by decide +kernel) (by first | exact wanted_none rfl | exact wanted_some rfl rfl) (fun W hW => by first | (go_simp; done) | (go_simp; rfl)) ?_; simp only [Act.put, List.setIfInBounds_toArray, List.set_cons_succ, List.set_cons_zero]; refine det_take 3 rfl (by decide +kernel) (by first | exact wanted_none rfl | exact wanted_some rfl rfl) (fun W hW => by first | (go_simp; done) | (go_simp; rfl)) ?_; simp only [Act.put, List.setIfInBounds_toArray, List.set_cons_succ, List.set_cons_zero]; refine det_take 4 rfl (by decide +kernel) (by first | exact wanted_none rfl | exact wanted_some rfl rfl) (fun W hW => by first | (go_simp; done) | (go_simp; rfl)) ?_; simp only [Act.put, List.setIfInBounds_toArray, List.set_cons_succ, List.set_cons_zero]
    refine det_take 5 rfl (by decide +kernel) (by first | exact wanted_none rfl | exact wanted_some rfl rfl) (fun W hW => St.run_loadW hW 0 24 _ rfl Try.isAgg24 0 hpre rfl rfl rfl) ?_; simp only [Act.put, List.setIfInBounds_toArray, List.set_cons_succ, List.set_cons_zero]
    refine det_take 6 rfl (by decide +kernel) (by first | exact wanted_none rfl | exact wanted_some rfl rfl) (fun W hW => by first | (go_simp; done) | (go_simp; rfl)) ?_; simp only [Act.put, List.setIfInBounds_toArray, List.set_cons_succ, List.set_cons_zero]; refine det_take 7 rfl (by decide +kernel) (by first | exact wanted_none rfl | exact wanted_some rfl rfl) (fun W hW => by first | (go_simp; done) | (go_simp; rfl)) ?_; simp only [Act.put, List.setIfInBounds_toArray, List.set_cons_succ, List.set_cons_zero]; refine det_take 8 rfl (by decide +kernel) (by first | exact wanted_none rfl | exact wanted_some rfl rfl) (fun W hW => by first | (go_simp; done) | (go_simp; rfl)) ?_; simp only [Act.put, List.setIfInBounds_toArray, List.set_cons_succ, List.set_cons_zero]
    refine det_take 9 rfl (by decide +kernel) (by first | exact wanted_none rfl | exact wanted_some rfl rfl) (fun W hW => St.run_loadW hW 0 25 _ rfl Try.isAgg25 1 hpre rfl rfl rfl) ?_; simp only [Act.put, List.setIfInBounds_toArray, List.set_cons_succ, List.set_cons_zero]
    refine det_call (fn := 15) 10 rfl (by decide +kernel) (by first | exact wanted_none rfl | exact wanted_some rfl rfl) (fun W => by first | (go_simp; done) | (go_simp; rfl)) (fun W hW => (HF.out W _ hW (hR.below (HB.out W _ hW (by simp)))).mono fun e w' h => ⟨h.1, hW.call h.2⟩) ?_; simp only [Act.put, List.setIfInBounds_toArray, List.set_cons_succ, List.set_cons_zero]
    refine det_take 11 rfl (by decide +kernel) (by first | exact wanted_none rfl | exact wanted_some rfl rfl) (fun W hW => by first | (go_simp; done) | (go_simp; rfl)) ?_; simp only [Act.put, List.setIfInBounds_toArray, List.set_cons_succ, List.set_cons_zero]; refine det_take 12 rfl (by decide +kernel) (by first | exact wanted_none rfl | exact wanted_some rfl rfl) (fun W hW => by first | (go_simp; done) | (go_simp; rfl)) ?_; simp only [Act.put, List.setIfInBounds_toArray, List.set_cons_succ, List.set_cons_zero]; refine det_take 13 rfl (by decide +kernel) (by first | exact wanted_none rfl | exact wanted_some rfl rfl) (fun W hW => by first | (go_simp; done) | (go_simp; rfl)) ?_; simp only [Act.put, List.setIfInBounds_toArray, List.set_cons_succ, List.set_cons_zero]; refine det_take 14 rfl (by decide +kernel) (by first | exact wanted_none rfl | exact wanted_some rfl rfl) (fun W hW => by first | (go_simp; done) | (go_simp; rfl)) ?_; simp only [Act.put, List.setIfInBounds_toArray, List.set_cons_succ, List.set_cons_zero]
    refine det_take 15 rfl (by decide +kernel) (by first | exact wanted_none rfl | exact wanted_some rfl rfl) (fun W hW => St.run_loadW hW 0 44 _ rfl Try.isAgg44 4 hpre rfl rfl rfl) ?_; simp only [Act.put, List.setIfInBounds_toArray, List.set_cons_succ, List.set_cons_zero]
    refine det_take 16 rfl (by decide +kernel) (by first | exact wanted_none rfl | exact wanted_some rfl rfl) (fun W hW => by first | (go_simp; done) | (go_simp; rfl)) ?_; simp only [Act.put, List.setIfInBounds_toArray, List.set_cons_succ, List.set_cons_zero]
    refine det_take 17 rfl (by decide +kernel) (by first | exact wanted_none rfl | exact wanted_some rfl rfl) (fun W hW => by first | (go_simp; done) | (go_simp; rfl)) ?_; simp only [Act.put, List.setIfInBounds_toArray, List.set_cons_succ, List.set_cons_zero]
    refine det_take 18 rfl (by decide +kernel) (by first | exact wanted_none rfl | exact wanted_some rfl rfl) (fun W hW => by first | (go_simp; done) | (go_simp; rfl)) ?_; simp only [Act.put, List.setIfInBounds_toArray, List.set_cons_succ, List.set_cons_zero]
    refine det_done (by decide +kernel) ?_
    clear st
    intro W st
    go_wp2
    go_end0
    rw [HE.out]
    exact ⟨⟨_, rfl⟩, KerTo.none h (HB.out _ _ st (by simp))⟩
  · have HE := Lib.hid (show deliverK k (n : Int) m = k.put n { x with mails := x.mails ++ [m] } by rw [HK1.out, if_pos ⟨rfl, h6⟩])
    have d6 : decide ((x.mails.length : Int) < 6) = true := by simp; omega
    clear HK1
    go_enter Try.func17, Try.ntmps17
    go_wp2_with (first | go_skip | (with_reducible refine at_box 35 ?_; refine mem_box st (wanted_none rfl) 35 _ rfl _ rfl _ rfl ?_; clear st; intro g1 w1 hg1 st hg1b; clear hg1b; simp [Act.eval, Act.put, Value.cells, putL] at st) | (with_reducible refine at_load 35 ?_; (first | refine mem_load_agg' st 35 _ rfl (wanted_none rfl) Try.isAgg35 _ Try.sizeOf35 ?_ | (refine mem_load_agg' st 35 _ rfl (wanted_some rfl ?_) Try.isAgg35 _ Try.sizeOf35 ?_; focus (simp [yielded, Act.put]; done))); refine ⟨1, _, _, _, _, _, rfl, rfl, rfl, rfl, ?_⟩) | (go_at_call 35; go_must (refine (HG.out _ (HB.out _ _ st (by simp))).mono ?_; rintro e v1 ⟨rfl, hb1⟩; replace st := st.call hb1; clear hb1)))
    refine det_region (by kernel_rfl) 19 rfl (fun W => St [g] w W [(g, 60, winC (preC k css n) [.slice xa x.label.length xc, .slice oa x.own.length oc, .string x.text, .slice ba x.objects.length bc, .slice ma x.mails.length mc] (postC k css n)), (g1, 35, [.int .i64 m.host, .int .i64 m.thread, .slice la m.label.length lc, .slice ga m.grants.length gc, .string m.text])]) (st.drew) (by decide +kernel) ?_
    refine det_take 0 rfl (by decide +kernel) (by first | exact wanted_none rfl | exact wanted_some rfl rfl) (fun W hW => by first | (go_simp; done) | (go_simp; rfl)) ?_; simp only [Act.put, List.setIfInBounds_toArray, List.set_cons_succ, List.set_cons_zero]
    refine det_take 1 rfl (by decide +kernel) (by first | exact wanted_none rfl | exact wanted_some rfl rfl) (fun W hW => St.run_load hW 1 24 _ rfl Try.isAgg24 rfl rfl rfl) ?_; simp only [Act.put, List.setIfInBounds_toArray, List.set_cons_succ, List.set_cons_zero]
    refine det_take 2 rfl (by decide +kernel) (by first | exact wanted_none rfl | exact wanted_some rfl rfl) (fun W hW => by first | (go_simp; done) | (go_simp; rfl)) ?_; simp only [Act.put, List.setIfInBounds_toArray, List.set_cons_succ, List.set_cons_zero]; refine det_take 3 rfl (by decide +kernel) (by first | exact wanted_none rfl | exact wanted_some rfl rfl) (fun W hW => by first | (go_simp; done) | (go_simp; rfl)) ?_; simp only [Act.put, List.setIfInBounds_toArray, List.set_cons_succ, List.set_cons_zero]; refine det_take 4 rfl (by decide +kernel) (by first | exact wanted_none rfl | exact wanted_some rfl rfl) (fun W hW => by first | (go_simp; done) | (go_simp; rfl)) ?_; simp only [Act.put, List.setIfInBounds_toArray, List.set_cons_succ, List.set_cons_zero]
    refine det_take 5 rfl (by decide +kernel) (by first | exact wanted_none rfl | exact wanted_some rfl rfl) (fun W hW => St.run_loadW hW 0 24 _ rfl Try.isAgg24 0 hpre rfl rfl rfl) ?_; simp only [Act.put, List.setIfInBounds_toArray, List.set_cons_succ, List.set_cons_zero]
    refine det_take 6 rfl (by decide +kernel) (by first | exact wanted_none rfl | exact wanted_some rfl rfl) (fun W hW => by first | (go_simp; done) | (go_simp; rfl)) ?_; simp only [Act.put, List.setIfInBounds_toArray, List.set_cons_succ, List.set_cons_zero]; refine det_take 7 rfl (by decide +kernel) (by first | exact wanted_none rfl | exact wanted_some rfl rfl) (fun W hW => by first | (go_simp; done) | (go_simp; rfl)) ?_; simp only [Act.put, List.setIfInBounds_toArray, List.set_cons_succ, List.set_cons_zero]; refine det_take 8 rfl (by decide +kernel) (by first | exact wanted_none rfl | exact wanted_some rfl rfl) (fun W hW => by first | (go_simp; done) | (go_simp; rfl)) ?_; simp only [Act.put, List.setIfInBounds_toArray, List.set_cons_succ, List.set_cons_zero]
    refine det_take 9 rfl (by decide +kernel) (by first | exact wanted_none rfl | exact wanted_some rfl rfl) (fun W hW => St.run_loadW hW 0 25 _ rfl Try.isAgg25 1 hpre rfl rfl rfl) ?_; simp only [Act.put, List.setIfInBounds_toArray, List.set_cons_succ, List.set_cons_zero]
    refine det_call (fn := 15) 10 rfl (by decide +kernel) (by first | exact wanted_none rfl | exact wanted_some rfl rfl) (fun W => by first | (go_simp; done) | (go_simp; rfl)) (fun W hW => (HF.out W _ hW (hR.below (HB.out W _ hW (by simp)))).mono fun e w' h => ⟨h.1, hW.call h.2⟩) ?_; simp only [Act.put, List.setIfInBounds_toArray, List.set_cons_succ, List.set_cons_zero]
    refine det_take 11 rfl (by decide +kernel) (by first | exact wanted_none rfl | exact wanted_some rfl rfl) (fun W hW => by first | (go_simp; done) | (go_simp; rfl)) ?_; simp only [Act.put, List.setIfInBounds_toArray, List.set_cons_succ, List.set_cons_zero]; refine det_take 12 rfl (by decide +kernel) (by first | exact wanted_none rfl | exact wanted_some rfl rfl) (fun W hW => by first | (go_simp; done) | (go_simp; rfl)) ?_; simp only [Act.put, List.setIfInBounds_toArray, List.set_cons_succ, List.set_cons_zero]; refine det_take 13 rfl (by decide +kernel) (by first | exact wanted_none rfl | exact wanted_some rfl rfl) (fun W hW => by first | (go_simp; done) | (go_simp; rfl)) ?_; simp only [Act.put, List.setIfInBounds_toArray, List.set_cons_succ, List.set_cons_zero]; refine det_take 14 rfl (by decide +kernel) (by first | exact wanted_none rfl | exact wanted_some rfl rfl) (fun W hW => by first | (go_simp; done) | (go_simp; rfl)) ?_; simp only [Act.put, List.setIfInBounds_toArray, List.set_cons_succ, List.set_cons_zero]
    refine det_take 15 rfl (by decide +kernel) (by first | exact wanted_none rfl | exact wanted_some rfl rfl) (fun W hW => St.run_loadW hW 0 44 _ rfl Try.isAgg44 4 hpre rfl rfl rfl) ?_; simp only [Act.put, List.setIfInBounds_toArray, List.set_cons_succ, List.set_cons_zero]
    refine det_take 16 rfl (by decide +kernel) (by first | exact wanted_none rfl | exact wanted_some rfl rfl) (fun W hW => by first | (go_simp; done) | (go_simp; rfl)) ?_; simp only [Act.put, List.setIfInBounds_toArray, List.set_cons_succ, List.set_cons_zero]
    refine det_take 17 rfl (by decide +kernel) (by first | exact wanted_none rfl | exact wanted_some rfl rfl) (fun W hW => by first | (go_simp; done) | (go_simp; rfl)) ?_; simp only [Act.put, List.setIfInBounds_toArray, List.set_cons_succ, List.set_cons_zero]
    refine det_take 18 rfl (by decide +kernel) (by first | exact wanted_none rfl | exact wanted_some rfl rfl) (fun W hW => by first | (go_simp; done) | (go_simp; rfl)) ?_; simp only [Act.put, List.setIfInBounds_toArray, List.set_cons_succ, List.set_cons_zero]
    refine det_done (by decide +kernel) ?_
    clear st
    intro W st
    go_wp2_with fail
    obtain ⟨i0, hi, hz0, hz1, hz2⟩ := info_parts info_Mail
    have hmne : ma.map (·.block) ≠ some g := fun e => h.gOut eB (mem_rows2.2 (.inr e))
    have hMg : ∀ b, ma.map (·.block) = some b → b < w.heap.size ∧ ¬ ok b := fun b e => ⟨hT.mails.lt e, h.apartAt eB (mem_rows2.2 (.inr e))⟩
    have hBg : ∀ b, ba.map (·.block) = some b → b < w.heap.size ∧ ¬ ok b ∧ b ≠ g ∧ ma.map (·.block) ≠ some b := fun b e => ⟨hT.objs.lt e, h.apartAt eB (mem_rows2.2 (.inl e)), fun e2 => h.gOut eB (e2 ▸ mem_rows2.2 (.inl e)), h.rowsNe eB e⟩
    have hgw := h.lt g (by simp)
    have hg1w : w.heap.size ≤ g1 := hg1
    have st := st.drew
    have hI := st.wider (M' := g :: rows2 ba ma) (by simp)
    refine lex_tail (by kernel_rfl) 11 1 [11] rfl (by decide +kernel) (fun W => St (g :: rows2 ba ma) w W [(g, 60, winC (preC k css n) [.slice xa x.label.length xc, .slice oa x.own.length oc, .string x.text, .slice ba x.objects.length bc, .slice ma x.mails.length mc] (postC k css n)), (g1, 35, [.int .i64 m.host, .int .i64 m.thread, .slice la m.label.length lc, .slice ga m.grants.length gc, .string m.text])]) ?_
    refine lex_take 0 rfl (by decide +kernel) (by first | exact wanted_none rfl | exact wanted_some rfl rfl) hI (fun W hW => by first | (go_simp; done) | (go_simp; rfl)) ?_; simp only [Act.put, List.setIfInBounds_toArray, List.set_cons_succ, List.set_cons_zero]
    refine lex_take 1 rfl (by decide +kernel) (by first | exact wanted_none rfl | exact wanted_some rfl rfl) hI (fun W hW => by first | (go_simp; done) | (go_simp; rfl)) ?_; simp only [Act.put, List.setIfInBounds_toArray, List.set_cons_succ, List.set_cons_zero]
    refine lex_take 2 rfl (by decide +kernel) (by first | exact wanted_none rfl | exact wanted_some rfl rfl) hI (fun W hW => by first | (go_simp; done) | (go_simp; rfl)) ?_; simp only [Act.put, List.setIfInBounds_toArray, List.set_cons_succ, List.set_cons_zero]
    refine lex_take 3 rfl (by decide +kernel) (by first | exact wanted_none rfl | exact wanted_some rfl rfl) hI (fun W hW => by first | (go_simp; done) | (go_simp; rfl)) ?_; simp only [Act.put, List.setIfInBounds_toArray, List.set_cons_succ, List.set_cons_zero]
    refine lex_take 4 rfl (by decide +kernel) (by first | exact wanted_none rfl | exact wanted_some rfl rfl) hI (fun W hW => St.run_loadW hW 0 44 _ rfl Try.isAgg44 4 hpre rfl rfl rfl) ?_; simp only [Act.put, List.setIfInBounds_toArray, List.set_cons_succ, List.set_cons_zero]
    refine lex_take 5 rfl (by decide +kernel) (by first | exact wanted_none rfl | exact wanted_some rfl rfl) hI (fun W hW => St.run_load_agg hW 1 35 _ rfl Try.isAgg35 _ Try.sizeOf35 rfl rfl rfl rfl) ?_; simp only [Act.put, List.setIfInBounds_toArray, List.set_cons_succ, List.set_cons_zero]
    clear hI
    refine lex_only 6 rfl (by decide +kernel) (by first | exact wanted_none rfl | exact wanted_some rfl rfl) fun K hK => ?_
    refine wp_callee (f := 29) (by first | (go_simp; done) | (go_simp; rfl)) ?_
    refine (HM.out _ (hR.below (HB.out _ _ st (by simp)))).mono ?_
    rintro e v ⟨a1, k1, a2, k2, rfl, hbm, hM⟩
    have hzv := st.size
    refine ⟨_, rfl, ?_⟩
    replace st := st.call hbm
    clear hbm
    refine hK _ _ (st.wider (by simp)) ?_; clear hK; simp only [Act.put, List.setIfInBounds_toArray, List.set_cons_succ, List.set_cons_zero]
    refine lex_only 7 rfl (by decide +kernel) (by first | exact wanted_none rfl | exact wanted_some rfl rfl) fun K hK => ?_
    refine wp_build1 st 44 35 _ rfl Try.underlying44 5 Try.sizeOf35 (by decide) (by decide) _ Try.zeroValue35 _ rfl rfl ?_; clear st; intro g3 w3 hg3 hg3e st hg3b hw3z; clear hg3e; simp [Act.eval, Act.put, Value.cells, putL] at st
    have hM3 := hM.below hg3b
    clear hg3b hw3z
    refine hK _ _ ((st.take 2).wider (by simp)) ?_; clear hK; simp only [Act.put, List.setIfInBounds_toArray, List.set_cons_succ, List.set_cons_zero]
    refine lex_only 8 rfl (by decide +kernel) (by first | exact wanted_none rfl | exact wanted_some rfl rfl) fun K hK => ?_
    have hO : RowAt 35 w3 5 (RMail (fun b => ok b ∨ w.heap.size ≤ b) w3) ma mc x.mails := hT.mails.kept (fun b e => st.frame b (hMg b e).1 (by simp; rintro rfl; exact hmne e)) fun _ _ r => r.move st.size fun b hb' ho => ⟨.inl ho, (HKp.out _ _ st).block b hb' ho⟩
    refine wp_rowApp _ _ 44 rfl i0 _ 80 Try.underlying44 hi hz0 hz1 hz2 rfl (by decide) (y := m) rfl rfl hO rfl (SlR.ofBlk (ok := fun _ => True) (R := RMail (fun b => ok b ∨ w.heap.size ≤ b) w3) (x := m) (st.blk _ (List.mem_of_getElem? (i := 2) rfl)) ⟨a1, k1, a2, k2, rfl, hM3.label.okay fun b hb => .inr (by omega), hM3.grants.okay fun b hb => .inr (by omega)⟩ rfl rfl trivial) (by omega) (by unfold maxLen; omega) ?_
    intro g4 off4 c4 w4 hO4 hgr hat
    have hst3 := st
    replace st := ((st.take 2).grown hgr (by
      intro y hy e
      simp at hy
      rcases hy with rfl | rfl
      · exact hmne e
      · have := (hMg _ e).1; simp only at this; omega)).wider (M' := g :: rows2 ba ma) (by
      intro b hb
      simp only [List.mem_append, Option.mem_toList, List.mem_singleton] at hb
      rcases hb with hb | rfl
      · exact List.mem_cons_of_mem _ (mem_rows2.2 (.inr hb))
      · simp)
    simp only [List.take_succ_cons, List.take_zero] at st
    have hI := st
    refine hK _ _ (hI) ?_; clear hK; simp only [Act.put, List.setIfInBounds_toArray, List.set_cons_succ, List.set_cons_zero]
    refine lex_take 9 rfl (by decide +kernel) (by first | exact wanted_none rfl | exact wanted_some rfl rfl) hI (fun W hW => by first | (go_simp; done) | (go_simp; rfl)) ?_; simp only [Act.put, List.setIfInBounds_toArray, List.set_cons_succ, List.set_cons_zero]
    refine lex_take 10 rfl (by decide +kernel) (by first | exact wanted_none rfl | exact wanted_some rfl rfl) hI (fun W hW => by first | (go_simp; done) | (go_simp; rfl)) ?_; simp only [Act.put, List.setIfInBounds_toArray, List.set_cons_succ, List.set_cons_zero]
    clear hI
    refine lex_done (by decide +kernel) ?_
    refine tail_last 11 rfl (by first | exact wanted_none rfl | exact wanted_some rfl rfl) (by decide +kernel) (by decide +kernel) fun K hK => ?_
    refine wp_storeW st 44 _ _ rfl _ Try.sizeOf44 4 ?_; refine ⟨0, _, _, _, _, _, _, _, hpre, rfl, rfl, rfl, rfl, rfl, rfl, ?_⟩; clear st; intro w5 st hw5m hw5z; simp [Act.eval, Act.put, Value.cells, putL] at st
    refine hK _ _ ?_; clear hK
    go_wp2
    go_end0
    refine ⟨⟨_, rfl⟩, ?_⟩
    rw [HE.out]
    have hz3 := hst3.size
    have hch : ∀ b, b < w3.heap.size → b ≠ g → ma.map (·.block) ≠ some b → w5.heap[b]? = w3.heap[b]? := fun b hb h1 h2 => (hw5m b h1).trans (hgr.block b hb fun e => h2 e.symm)
    have hcw : ∀ b, b < w.heap.size → b ≠ g → ma.map (·.block) ≠ some b → w5.heap[b]? = w.heap[b]? := fun b hb h1 h2 => (hch b (by omega) h1 h2).trans (hst3.frame b hb (by simpa using h1))
    have hg4 : ∀ b, b < w3.heap.size → (ok b ∨ w.heap.size ≤ b) → b ≠ g4 := fun b hb ho e => by
      subst e
      rcases hat with hat | hat
      · rcases ho with ho | ho
        · exact (hMg _ hat).2 ho
        · have := (hMg _ hat).1; omega
      · omega
    have hok : ∀ b, b < w3.heap.size → (ok b ∨ w.heap.size ≤ b) → ((ok b ∨ w.heap.size ≤ b) ∧ b ∉ g :: rows2 ba (some ⟨g4, off4, none⟩)) ∧ w5.heap[b]? = w3.heap[b]? := fun b hb ho => by
      have h1 : b ≠ g := by
        rintro rfl
        rcases ho with ho | ho
        · exact hgg ho
        · omega
      refine ⟨⟨ho, fun hm => ?_⟩, hch b hb h1 fun e => ?_⟩
      · rcases List.mem_cons.1 hm with hm | hm
        · exact h1 hm
        · rcases mem_rows2.1 hm with hm | hm
          · obtain ⟨q1, q2, _⟩ := hBg b hm
            rcases ho with ho | ho
            · exact q2 ho
            · omega
          · exact hg4 b hb ho (Option.some.inj hm).symm
      · obtain ⟨q1, q2⟩ := hMg b e
        rcases ho with ho | ho
        · exact q2 ho
        · omega
    have hokw : ∀ b, b < w.heap.size → ok b → ((ok b ∨ w.heap.size ≤ b) ∧ b ∉ g :: rows2 ba (some ⟨g4, off4, none⟩)) ∧ w5.heap[b]? = w.heap[b]? := fun b hb ho => by
      obtain ⟨q1, q2⟩ := hok b (by omega) (.inl ho)
      exact ⟨q1, q2.trans ((HKp.out _ _ hst3).block b hb ho)⟩
    have hne4 : g4 ≠ g := by
      rintro rfl
      rcases hat with hat | hat
      · exact hmne hat
      · omega
    refine h.close (made' := k.made) hn ec eB st (st.blk _ (List.mem_of_getElem? (i := 0) rfl)) (x' := { x with mails := x.mails ++ [m] }) (B' := rows2 ba (some ⟨g4, off4, none⟩))
      ⟨xa, xc, oa, oc, ba, bc, some ⟨g4, off4, none⟩, c4, by simp [thrC], ⟨hT.label.move st.size hokw fun _ _ r => r, hT.own.move st.size hokw fun _ _ r => r,
        hT.objs.kept (fun b e => hcw b (hBg b e).1 (hBg b e).2.2.1 (hBg b e).2.2.2) fun _ _ r => r.move st.size hokw, hO4.kept (fun b e => by obtain rfl : g4 = b := Option.some.inj e; exact hw5m _ hne4) fun _ _ r => r.move (by have := hgr.size; omega) hok⟩, rfl⟩ ?_ ?_
    · unfold rows2
      cases hba : ba with
      | none => simp
      | some ad =>
        simp only [Option.map_some, Option.toList_some, List.cons_append, List.nil_append, List.nodup_cons, List.mem_singleton, List.not_mem_nil, not_false_eq_true, List.nodup_nil, and_true]
        intro e
        obtain ⟨q1, _, _, q4⟩ := hBg ad.block (by rw [hba]; rfl)
        rcases hat with hat | hat
        · exact q4 (by rw [hat, e])
        · omega
    · intro b hb
      rcases mem_rows2.1 hb with hb | hb
      · exact .inl (mem_rows2.2 (.inl hb))
      · obtain rfl : g4 = b := Option.some.inj hb
        rcases hat with hat | hat
        · exact .inl (mem_rows2.2 (.inr hat))
        · exact .inr (by omega)

end Go.Proofs.Ytnkfemjmfalamaa

/- The walks through the kernel's Call, kind by kind. (printed by gen_call.py) -/
namespace Go.Proofs.Ytnkfemjmfalamaa
open Go.RowKit

def reqV (c : Req) (la : Option Addr) (lc : Nat) (ga : Option Addr) (gc : Nat) : Value := .agg #[.int .i64 c.kind, .int .i64 c.h, .int .i64 c.t, .int .i64 c.n, .int .i64 c.c, .slice la c.label.length lc, .slice ga c.grants.length gc, .string c.text]

def CallPost (ok : Nat → Prop) (w : World) (g : Nat) (Bs : List (List Nat)) (r : Ker × Rep) (e : Ending) (w' : World) : Prop := e = .returned (RepV r.2) ∧ KerTo ok w g Bs w' r.1

set_option maxRecDepth 100000 in
theorem call_no (w : World) (n : Int) : Calls Try.prog 21 #[.int .i64 n] w fun e w' => e = .returned (.agg #[.int .i64 n, .int .i64 0, .string ⟨#[]⟩]) ∧ Below w.heap.size w w' := by
  have st := St.start w
  go_enter Try.func21, Try.ntmps21
  go_wp2_with (first | go_skip | (with_reducible refine at_alloc 39 ?_; refine mem_alloc st (wanted_none rfl) 39 rfl _ Try.zeroValue39 _ rfl ?_; clear st; intro g2 w2 hg2 st hg2b; clear hg2b; simp [Act.eval, Act.put, Value.cells, putL] at st) | (with_reducible refine at_store 39 ?_; (first | refine mem_store' st 39 _ _ rfl (wanted_none rfl) _ Try.sizeOf39 ?_ | (refine mem_store' st 39 _ _ rfl (wanted_some rfl ?_) _ Try.sizeOf39 ?_; focus (simp [yielded, Act.put]; done))); refine ⟨0, _, _, _, _, _, rfl, rfl, rfl, rfl, rfl, rfl, ?_⟩; clear st; intro w3 st hw3m hw3z; simp [Act.eval, Act.put, Value.cells, putL] at st))
  have hc := fun j => st.cell (i := 0) rfl j
  refine bodyPost_ret (v := _) ?hr rfl ⟨rfl, st.below⟩
  case hr => simp [results, Try.results21, go_sem, hc]; try rfl

theorem text_size {s : ByteArray} (h : ¬ 64 < s.size) : decide (64 < (s.size : Int)) = false := by simp; omega

theorem Ker.put_self {k : Ker} {n : Nat} {x : Thr} (e : k.threads[n]? = some x) : ({ k.put n x with made := k.made } : Ker) = k := by
  obtain ⟨hl, rfl⟩ := List.getElem?_eq_some_iff.1 e
  simp [Ker.put]

section
variable (ok okc : Nat → Prop) (w : World) (g : Nat) (k : Ker) (css : List (List Value)) (Bs : List (List Nat)) (n : Nat) (c : Req) (la : Option Addr) (lc : Nat) (ga : Option Addr) (gc : Nat)

set_option maxRecDepth 100000 in
set_option maxHeartbeats 4000000 in
theorem kernel_Call_say (h : KerAt ok w g k css Bs) (hk : ∀ x ∈ k.threads, x.ok) (hn : n < 4) (hx64 : ¬ 64 < c.text.size) (hkd : c.kind = 10) :
    Calls Try.prog 10 #[.pointer (some ⟨g, 0, none⟩), .int .i64 n, reqV c la lc ga gc] w (CallPost ok w g Bs (callK k n c)) := by
  obtain ⟨x, xa, xc, oa, oc, ba, bc, ma, mc, ex, ec, eB, hT, hb⟩ := h.open hn
  have hx := hk x (List.mem_of_getElem? ex)
  have hpre := h.preLen hn
  have hth := Ker.thr_at ex
  have st0 := St.hand hb
  unfold thrC at st0
  have d1 : decide ((n : Int) < 0) = false := by simp
  have d2 : decide ((4 : Int) ≤ n) = false := by simp; omega
  have d64 := text_size hx64
  have hgg : ¬ ok g := h.apart g (by simp)
  have HKp := Lib.hid (show ∀ (W : World) (bl : Blks), St [g] w W bl → Keeps ok w W from fun W bl s => s.keeps (by simpa using hgg))
  have HB := Lib.hid (show ∀ (W : World) (bl : Blks), St [g] w W bl → (g, 60, winC (preC k css n) [.slice xa x.label.length xc, .slice oa x.own.length oc, .string x.text, .slice ba x.objects.length bc, .slice ma x.mails.length mc] (postC k css n)) ∈ bl → Below w.heap.size w W from fun W bl s hm => st0.below2 s (by simpa using hm))
  have hxl := goodL_len hx.good; have hxo := hx.ownL; have hxm := hx.mailN; have hxb := hx.objs; have hxt := hx.text
  have st := st0
  clear st0
  unfold reqV
  have HE := Lib.hid (show callK k (n : Int) c = (k, ⟨0, 0, x.text⟩) by unfold callK; simp [hkd, hth])
  rw [hkd]
  clear hkd
  go_enter Try.func10, Try.ntmps10
  go_wp2_with (first | go_skip | (with_reducible refine at_load 9 ?_; (first | refine mem_loadW st 9 _ rfl (wanted_none rfl) Try.isAgg9 2 ?_ | (refine mem_loadW st 9 _ rfl (wanted_some rfl ?_) Try.isAgg9 2 ?_; focus (simp [yielded, Act.put]; done))); refine ⟨0, _, _, _, _, _, _, _, hpre, rfl, rfl, rfl, ?_⟩) | (with_reducible refine at_box 27 ?_; refine mem_box st (wanted_none rfl) 27 _ rfl _ rfl _ rfl ?_; clear st; intro g5 w5 hg5 st hg5b; clear hg5b; simp [Act.eval, Act.put, Value.cells, putL] at st) | (with_reducible refine at_alloc 39 ?_; refine mem_alloc st (wanted_none rfl) 39 rfl _ Try.zeroValue39 _ rfl ?_; clear st; intro g6 w6 hg6 st hg6b; clear hg6b; simp [Act.eval, Act.put, Value.cells, putL] at st) | (with_reducible refine at_load 9 ?_; (first | refine mem_load' st 9 _ rfl (wanted_none rfl) Try.isAgg9 ?_ | (refine mem_load' st 9 _ rfl (wanted_some rfl ?_) Try.isAgg9 ?_; focus (simp [yielded, Act.put]; done))); refine ⟨1, _, _, _, _, _, rfl, rfl, rfl, ?_⟩) | (with_reducible refine at_load 3 ?_; (first | refine mem_load' st 3 _ rfl (wanted_none rfl) Try.isAgg3 ?_ | (refine mem_load' st 3 _ rfl (wanted_some rfl ?_) Try.isAgg3 ?_; focus (simp [yielded, Act.put]; done))); refine ⟨1, _, _, _, _, _, rfl, rfl, rfl, ?_⟩) | (go_at_call 21; go_must (refine (call_no _ _).mono ?_; rintro e vn ⟨rfl, hbn⟩; replace st := st.call hbn; clear hbn)) | (with_reducible refine at_store 39 ?_; (first | refine mem_store' st 39 _ _ rfl (wanted_none rfl) _ Try.sizeOf39 ?_ | (refine mem_store' st 39 _ _ rfl (wanted_some rfl ?_) _ Try.sizeOf39 ?_; focus (simp [yielded, Act.put]; done))); refine ⟨2, _, _, _, _, _, rfl, rfl, rfl, rfl, rfl, rfl, ?_⟩; clear st; intro w7 st hw7m hw7z; simp [Act.eval, Act.put, Value.cells, putL] at st))
  have hc := fun j => st.cell (i := 2) rfl j
  refine bodyPost_ret (v := RepV (⟨0, 0, x.text⟩)) ?hr rfl ?_
  case hr => simp [results, Try.results10, go_sem, hc, RepV, errR]; try rfl
  rw [HE.out]
  exact ⟨rfl, KerTo.none h (HB.out _ _ st (by simp))⟩

set_option maxRecDepth 100000 in
set_option maxHeartbeats 4000000 in
theorem kernel_Call_other (h : KerAt ok w g k css Bs) (hk : ∀ x ∈ k.threads, x.ok) (hn : n < 4) (hx64 : ¬ 64 < c.text.size) (hkd : c.kind ≠ 1 ∧ c.kind ≠ 2 ∧ c.kind ≠ 3 ∧ c.kind ≠ 4 ∧ c.kind ≠ 5 ∧ c.kind ≠ 7 ∧ c.kind ≠ 9 ∧ c.kind ≠ 10) :
    Calls Try.prog 10 #[.pointer (some ⟨g, 0, none⟩), .int .i64 n, reqV c la lc ga gc] w (CallPost ok w g Bs (callK k n c)) := by
  obtain ⟨x, xa, xc, oa, oc, ba, bc, ma, mc, ex, ec, eB, hT, hb⟩ := h.open hn
  have hx := hk x (List.mem_of_getElem? ex)
  have hpre := h.preLen hn
  have hth := Ker.thr_at ex
  have st0 := St.hand hb
  unfold thrC at st0
  have d1 : decide ((n : Int) < 0) = false := by simp
  have d2 : decide ((4 : Int) ≤ n) = false := by simp; omega
  have d64 := text_size hx64
  have hgg : ¬ ok g := h.apart g (by simp)
  have HKp := Lib.hid (show ∀ (W : World) (bl : Blks), St [g] w W bl → Keeps ok w W from fun W bl s => s.keeps (by simpa using hgg))
  have HB := Lib.hid (show ∀ (W : World) (bl : Blks), St [g] w W bl → (g, 60, winC (preC k css n) [.slice xa x.label.length xc, .slice oa x.own.length oc, .string x.text, .slice ba x.objects.length bc, .slice ma x.mails.length mc] (postC k css n)) ∈ bl → Below w.heap.size w W from fun W bl s hm => st0.below2 s (by simpa using hm))
  have hxl := goodL_len hx.good; have hxo := hx.ownL; have hxm := hx.mailN; have hxb := hx.objs; have hxt := hx.text
  have st := st0
  clear st0
  unfold reqV
  obtain ⟨k1, k2, k3, k4, k5, k7, k9, k10⟩ := hkd
  have HE := Lib.hid (show callK k (n : Int) c = (k, errR 3) by unfold callK; simp [k1, k2, k3, k4, k5, k7, k9, k10])
  have e1 : (c.kind == 1) = false := by simpa using k1
  have e2 : (c.kind == 2) = false := by simpa using k2
  have e3 : (c.kind == 3) = false := by simpa using k3
  have e4 : (c.kind == 4) = false := by simpa using k4
  have e5 : (c.kind == 5) = false := by simpa using k5
  have e7 : (c.kind == 7) = false := by simpa using k7
  have e9 : (c.kind == 9) = false := by simpa using k9
  have e10 : (c.kind == 10) = false := by simpa using k10
  clear k1 k2 k3 k4 k5 k7 k9 k10
  go_enter Try.func10, Try.ntmps10
  go_wp2_with (first | go_skip | (with_reducible refine at_box 27 ?_; refine mem_box st (wanted_none rfl) 27 _ rfl _ rfl _ rfl ?_; clear st; intro g5 w5 hg5 st hg5b; clear hg5b; simp [Act.eval, Act.put, Value.cells, putL] at st) | (with_reducible refine at_alloc 39 ?_; refine mem_alloc st (wanted_none rfl) 39 rfl _ Try.zeroValue39 _ rfl ?_; clear st; intro g6 w6 hg6 st hg6b; clear hg6b; simp [Act.eval, Act.put, Value.cells, putL] at st) | (with_reducible refine at_load 9 ?_; (first | refine mem_load' st 9 _ rfl (wanted_none rfl) Try.isAgg9 ?_ | (refine mem_load' st 9 _ rfl (wanted_some rfl ?_) Try.isAgg9 ?_; focus (simp [yielded, Act.put]; done))); refine ⟨1, _, _, _, _, _, rfl, rfl, rfl, ?_⟩) | (with_reducible refine at_load 3 ?_; (first | refine mem_load' st 3 _ rfl (wanted_none rfl) Try.isAgg3 ?_ | (refine mem_load' st 3 _ rfl (wanted_some rfl ?_) Try.isAgg3 ?_; focus (simp [yielded, Act.put]; done))); refine ⟨1, _, _, _, _, _, rfl, rfl, rfl, ?_⟩) | (go_at_call 21; go_must (refine (call_no _ _).mono ?_; rintro e vn ⟨rfl, hbn⟩; replace st := st.call hbn; clear hbn)) | (with_reducible refine at_store 39 ?_; (first | refine mem_store' st 39 _ _ rfl (wanted_none rfl) _ Try.sizeOf39 ?_ | (refine mem_store' st 39 _ _ rfl (wanted_some rfl ?_) _ Try.sizeOf39 ?_; focus (simp [yielded, Act.put]; done))); refine ⟨2, _, _, _, _, _, rfl, rfl, rfl, rfl, rfl, rfl, ?_⟩; clear st; intro w7 st hw7m hw7z; simp [Act.eval, Act.put, Value.cells, putL] at st))
  have hc := fun j => st.cell (i := 2) rfl j
  refine bodyPost_ret (v := RepV (errR 3)) ?hr rfl ?_
  case hr => simp [results, Try.results10, go_sem, hc, RepV, errR]; try rfl
  rw [HE.out]
  exact ⟨rfl, KerTo.none h (HB.out _ _ st (by simp))⟩

set_option maxRecDepth 100000 in
set_option maxHeartbeats 4000000 in
theorem kernel_Call_forget (h : KerAt ok w g k css Bs) (hk : ∀ x ∈ k.threads, x.ok) (hn : n < 4) (hx64 : ¬ 64 < c.text.size) (hkd : c.kind = 9) :
    Calls Try.prog 10 #[.pointer (some ⟨g, 0, none⟩), .int .i64 n, reqV c la lc ga gc] w (CallPost ok w g Bs (callK k n c)) := by
  obtain ⟨x, xa, xc, oa, oc, ba, bc, ma, mc, ex, ec, eB, hT, hb⟩ := h.open hn
  have hx := hk x (List.mem_of_getElem? ex)
  have hpre := h.preLen hn
  have hth := Ker.thr_at ex
  have st0 := St.hand hb
  unfold thrC at st0
  have d1 : decide ((n : Int) < 0) = false := by simp
  have d2 : decide ((4 : Int) ≤ n) = false := by simp; omega
  have d64 := text_size hx64
  have hgg : ¬ ok g := h.apart g (by simp)
  have HKp := Lib.hid (show ∀ (W : World) (bl : Blks), St [g] w W bl → Keeps ok w W from fun W bl s => s.keeps (by simpa using hgg))
  have HB := Lib.hid (show ∀ (W : World) (bl : Blks), St [g] w W bl → (g, 60, winC (preC k css n) [.slice xa x.label.length xc, .slice oa x.own.length oc, .string x.text, .slice ba x.objects.length bc, .slice ma x.mails.length mc] (postC k css n)) ∈ bl → Below w.heap.size w W from fun W bl s hm => st0.below2 s (by simpa using hm))
  have hxl := goodL_len hx.good; have hxo := hx.ownL; have hxm := hx.mailN; have hxb := hx.objs; have hxt := hx.text
  have st := st0
  clear st0
  unfold reqV
  have HE := Lib.hid (show callK k (n : Int) c = (k.put n { x with text := c.text }, errR 0) by unfold callK; simp [hkd, hth])
  rw [hkd]
  clear hkd
  go_enter Try.func10, Try.ntmps10
  go_wp2_with (first | go_skip | (with_reducible refine at_store 9 ?_; refine mem_storeW st 9 _ _ rfl (wanted_none rfl) _ Try.sizeOf9 2 ?_; refine ⟨0, _, _, _, _, _, _, _, hpre, rfl, rfl, rfl, rfl, rfl, rfl, ?_⟩; clear st; intro w8 st hw8m hw8z; simp [Act.eval, Act.put, Value.cells, putL] at st) | (with_reducible refine at_box 27 ?_; refine mem_box st (wanted_none rfl) 27 _ rfl _ rfl _ rfl ?_; clear st; intro g5 w5 hg5 st hg5b; clear hg5b; simp [Act.eval, Act.put, Value.cells, putL] at st) | (with_reducible refine at_alloc 39 ?_; refine mem_alloc st (wanted_none rfl) 39 rfl _ Try.zeroValue39 _ rfl ?_; clear st; intro g6 w6 hg6 st hg6b; clear hg6b; simp [Act.eval, Act.put, Value.cells, putL] at st) | (with_reducible refine at_load 9 ?_; (first | refine mem_load' st 9 _ rfl (wanted_none rfl) Try.isAgg9 ?_ | (refine mem_load' st 9 _ rfl (wanted_some rfl ?_) Try.isAgg9 ?_; focus (simp [yielded, Act.put]; done))); refine ⟨1, _, _, _, _, _, rfl, rfl, rfl, ?_⟩) | (with_reducible refine at_load 3 ?_; (first | refine mem_load' st 3 _ rfl (wanted_none rfl) Try.isAgg3 ?_ | (refine mem_load' st 3 _ rfl (wanted_some rfl ?_) Try.isAgg3 ?_; focus (simp [yielded, Act.put]; done))); refine ⟨1, _, _, _, _, _, rfl, rfl, rfl, ?_⟩) | (go_at_call 21; go_must (refine (call_no _ _).mono ?_; rintro e vn ⟨rfl, hbn⟩; replace st := st.call hbn; clear hbn)) | (with_reducible refine at_store 39 ?_; (first | refine mem_store' st 39 _ _ rfl (wanted_none rfl) _ Try.sizeOf39 ?_ | (refine mem_store' st 39 _ _ rfl (wanted_some rfl ?_) _ Try.sizeOf39 ?_; focus (simp [yielded, Act.put]; done))); refine ⟨2, _, _, _, _, _, rfl, rfl, rfl, rfl, rfl, rfl, ?_⟩; clear st; intro w7 st hw7m hw7z; simp [Act.eval, Act.put, Value.cells, putL] at st))
  have hc := fun j => st.cell (i := 2) rfl j
  refine bodyPost_ret (v := RepV (errR 0)) ?hr rfl ?_
  case hr => simp [results, Try.results10, go_sem, hc, RepV, errR]; try rfl
  rw [HE.out]
  exact ⟨rfl, h.closeSame (made' := k.made) (x' := { x with text := c.text }) hn ec eB hT (st.sub (by simp [thrC]) (by simp)) rfl rfl (h.fine eB ((hT.label.keep (HKp.out _ _ st)).okay fun _ r => .inl r)) (h.fine eB ((hT.own.keep (HKp.out _ _ st)).okay fun _ r => .inl r))⟩

set_option maxRecDepth 100000 in
set_option maxHeartbeats 4000000 in
theorem kernel_Call_take (h : KerAt ok w g k css Bs) (hk : ∀ x ∈ k.threads, x.ok) (hn : n < 4) (hx64 : ¬ 64 < c.text.size) (hkd : c.kind = 7) :
    Calls Try.prog 10 #[.pointer (some ⟨g, 0, none⟩), .int .i64 n, reqV c la lc ga gc] w (CallPost ok w g Bs (callK k n c)) := by
  obtain ⟨x, xa, xc, oa, oc, ba, bc, ma, mc, ex, ec, eB, hT, hb⟩ := h.open hn
  have hx := hk x (List.mem_of_getElem? ex)
  have hpre := h.preLen hn
  have hth := Ker.thr_at ex
  have st0 := St.hand hb
  unfold thrC at st0
  have d1 : decide ((n : Int) < 0) = false := by simp
  have d2 : decide ((4 : Int) ≤ n) = false := by simp; omega
  have d64 := text_size hx64
  have hgg : ¬ ok g := h.apart g (by simp)
  have HKp := Lib.hid (show ∀ (W : World) (bl : Blks), St [g] w W bl → Keeps ok w W from fun W bl s => s.keeps (by simpa using hgg))
  have HB := Lib.hid (show ∀ (W : World) (bl : Blks), St [g] w W bl → (g, 60, winC (preC k css n) [.slice xa x.label.length xc, .slice oa x.own.length oc, .string x.text, .slice ba x.objects.length bc, .slice ma x.mails.length mc] (postC k css n)) ∈ bl → Below w.heap.size w W from fun W bl s hm => st0.below2 s (by simpa using hm))
  have hxl := goodL_len hx.good; have hxo := hx.ownL; have hxm := hx.mailN; have hxb := hx.objs; have hxt := hx.text
  have st := st0
  clear st0
  unfold reqV
  have HE := Lib.hid (show callK k (n : Int) c = (k.put n (takeX x).1, (takeX x).2) by unfold callK takeK; simp [hkd, hth])
  rw [hkd]
  clear hkd
  have hmne : ma.map (·.block) ≠ some g := fun e => h.gOut eB (mem_rows2.2 (.inr e))
  have HT := Lib.hid (fun (W : World) (hB : Below w.heap.size w W) (hb : W.heap[g]? = some (.cells (winC (preC k css n) (thrC x xa xc oa oc ba bc ma mc) (postC k css n)).toArray 60 (0, 0))) => kernel_take (fun b => ok b ∧ b < w.heap.size) W g _ _ _ x xa xc oa oc ba bc ma mc hpre hx (hT.later hB) (fun h => hgg h.1) hmne hb)
  obtain ⟨hrl, hro⟩ := takeX_same x
  generalize takeX x = r at HT HE hrl hro
  have HRl := Lib.hid hrl
  have HRo := Lib.hid hro
  clear hrl hro
  have hgw := h.lt g (by simp)
  unfold thrC at HT
  go_enter Try.func10, Try.ntmps10
  go_wp2_with (first | go_skip | (with_reducible refine at_box 27 ?_; refine mem_box st (wanted_none rfl) 27 _ rfl _ rfl _ rfl ?_; clear st; intro g5 w5 hg5 st hg5b; clear hg5b; simp [Act.eval, Act.put, Value.cells, putL] at st) | (with_reducible refine at_alloc 39 ?_; refine mem_alloc st (wanted_none rfl) 39 rfl _ Try.zeroValue39 _ rfl ?_; clear st; intro g6 w6 hg6 st hg6b; clear hg6b; simp [Act.eval, Act.put, Value.cells, putL] at st) | (with_reducible refine at_load 9 ?_; (first | refine mem_load' st 9 _ rfl (wanted_none rfl) Try.isAgg9 ?_ | (refine mem_load' st 9 _ rfl (wanted_some rfl ?_) Try.isAgg9 ?_; focus (simp [yielded, Act.put]; done))); refine ⟨1, _, _, _, _, _, rfl, rfl, rfl, ?_⟩) | (with_reducible refine at_load 3 ?_; (first | refine mem_load' st 3 _ rfl (wanted_none rfl) Try.isAgg3 ?_ | (refine mem_load' st 3 _ rfl (wanted_some rfl ?_) Try.isAgg3 ?_; focus (simp [yielded, Act.put]; done))); refine ⟨1, _, _, _, _, _, rfl, rfl, rfl, ?_⟩) | (go_at_call 21; go_must (refine (call_no _ _).mono ?_; rintro e vn ⟨rfl, hbn⟩; replace st := st.call hbn; clear hbn)) | (with_reducible refine at_store 39 ?_; (first | refine mem_store' st 39 _ _ rfl (wanted_none rfl) _ Try.sizeOf39 ?_ | (refine mem_store' st 39 _ _ rfl (wanted_some rfl ?_) _ Try.sizeOf39 ?_; focus (simp [yielded, Act.put]; done))); refine ⟨2, _, _, _, _, _, rfl, rfl, rfl, rfl, rfl, rfl, ?_⟩; clear st; intro w7 st hw7m hw7z; simp [Act.eval, Act.put, Value.cells, putL] at st))
  have hl5 := st.ltAt (i := 1) rfl
  have hl6 := st.ltAt (i := 2) rfl
  have hBW := HB.out _ _ st (by simp)
  have hsW := hBW.size
  refine (HT.out _ hBW (st.blk _ (List.mem_of_getElem? (i := 0) rfl))).mono ?_
  rintro e W1 ⟨oa', oc', ma', mc', rfl, hk1, hown, hrow, hblk⟩
  have hzW := hk1.size
  replace st := st.turn (i := 0) rfl hk1
  simp only [List.set_cons_zero] at st
  unfold RepV
  go_wp2_with (first | go_skip | (with_reducible refine at_store 39 ?_; (first | refine mem_store' st 39 _ _ rfl (wanted_none rfl) _ Try.sizeOf39 ?_ | (refine mem_store' st 39 _ _ rfl (wanted_some rfl ?_) _ Try.sizeOf39 ?_; focus (simp [yielded, Act.put]; done))); refine ⟨2, _, _, _, _, _, rfl, rfl, rfl, rfl, rfl, rfl, ?_⟩; clear st; intro w7 st hw7m hw7z; simp [Act.eval, Act.put, Value.cells, putL] at st))
  have hc := fun j => st.cell (i := 2) rfl j
  refine bodyPost_ret (v := RepV r.2) ?hr rfl ?_
  case hr => simp [results, Try.results10, go_sem, hc, RepV]; try rfl
  rw [HE.out]
  refine ⟨rfl, h.closeMails (made' := k.made) (x' := r.1) (x := x) (la' := xa) (lc' := xc) (oa' := oa') (oc' := oc') (ma' := ma') (mc' := mc') hn ec eB hT (st.sub (by simp [thrC]) (by simp)) HRo.out (h.fine eB ?_) (h.fine eB ?_) ?_ hblk⟩
  · rw [HRl.out]; exact (hT.label.keep (HKp.out _ _ st)).okay fun _ r => .inl r
  · refine (hown.move (by omega) (fun b hb ho => ⟨ho, hw7m b ?_⟩) fun _ _ r => r).okay fun b ho => ?_
    · rcases ho with ho | ho
      · have := ho.2; omega
      · omega
    · rcases ho with ho | ho
      · exact .inl ho.1
      · exact .inr (by omega)
  · refine hrow.kept (fun b e => hw7m b ?_) fun _ _ r => r.move (by omega) fun b hb ho => ⟨⟨.inl ho.1, fun hm => ?_⟩, ?_⟩
    · have := hT.mails.lt (hblk b e); omega
    · rcases List.mem_cons.1 hm with rfl | hm
      · exact hgg ho.1
      · exact h.apartAt eB hm ho.1
    · exact ((HKp.out _ _ st).block b ho.2 ho.1).trans (hBW.block b ho.2).symm

set_option maxRecDepth 100000 in
set_option maxHeartbeats 4000000 in
theorem kernel_Call_cat_full (h : KerAt ok w g k css Bs) (hk : ∀ x ∈ k.threads, x.ok) (hn : n < 4) (hx64 : ¬ 64 < c.text.size) (hkd : c.kind = 1) (hh0 : 0 ≤ k.host) (hh4 : k.host < 4) (hm0 : 0 ≤ k.made) (hm20 : k.made ≤ 20) (hf : 20 ≤ k.made) :
    Calls Try.prog 10 #[.pointer (some ⟨g, 0, none⟩), .int .i64 n, reqV c la lc ga gc] w (CallPost ok w g Bs (callK k n c)) := by
  obtain ⟨x, xa, xc, oa, oc, ba, bc, ma, mc, ex, ec, eB, hT, hb⟩ := h.open hn
  have hx := hk x (List.mem_of_getElem? ex)
  have hpre := h.preLen hn
  have hth := Ker.thr_at ex
  have st0 := St.hand hb
  unfold thrC at st0
  have d1 : decide ((n : Int) < 0) = false := by simp
  have d2 : decide ((4 : Int) ≤ n) = false := by simp; omega
  have d64 := text_size hx64
  have hgg : ¬ ok g := h.apart g (by simp)
  have HKp := Lib.hid (show ∀ (W : World) (bl : Blks), St [g] w W bl → Keeps ok w W from fun W bl s => s.keeps (by simpa using hgg))
  have HB := Lib.hid (show ∀ (W : World) (bl : Blks), St [g] w W bl → (g, 60, winC (preC k css n) [.slice xa x.label.length xc, .slice oa x.own.length oc, .string x.text, .slice ba x.objects.length bc, .slice ma x.mails.length mc] (postC k css n)) ∈ bl → Below w.heap.size w W from fun W bl s hm => st0.below2 s (by simpa using hm))
  have hxl := goodL_len hx.good; have hxo := hx.ownL; have hxm := hx.mailN; have hxb := hx.objs; have hxt := hx.text
  have st := st0
  clear st0
  unfold reqV
  have hmade := h.madeAt hn
  have hhost := h.host n
  have hlen := h.len22 hn
  have hput := h.madePut hn
  have hx8 := hx.ownL
  have HO := Lib.hid (fun (W : World) (hB : Below w.heap.size w W) (hb : W.heap[g]? = some (.cells (winC (preC k css n) [.slice xa x.label.length xc, .slice oa x.own.length oc, .string x.text, .slice ba x.objects.length bc, .slice ma x.mails.length mc] (postC k css n)).toArray 60 (0, 0))) => kernel_own (fun b => ok b ∧ b < w.heap.size) W g _ _ _ _ _ _ _ oa oc x.own (k.host * 20 + k.made) hpre hx.own hx8 (hT.later hB).own (fun h => hgg h.1) hb)

  have HE := Lib.hid (show callK k (n : Int) c = (k, errR 5) by unfold callK; simp [hkd, hf])
  have d5 : decide (20 ≤ k.made) = true := by simp; omega

  rw [hkd]
  clear hkd
  go_enter Try.func10, Try.ntmps10
  go_wp2_with (first | go_skip | (with_reducible refine at_box 27 ?_; refine mem_box st (wanted_none rfl) 27 _ rfl _ rfl _ rfl ?_; clear st; intro g5 w5 hg5 st hg5b; clear hg5b; simp [Act.eval, Act.put, Value.cells, putL] at st) | (with_reducible refine at_alloc 39 ?_; refine mem_alloc st (wanted_none rfl) 39 rfl _ Try.zeroValue39 _ rfl ?_; clear st; intro g6 w6 hg6 st hg6b; clear hg6b; simp [Act.eval, Act.put, Value.cells, putL] at st) | (with_reducible refine at_load 9 ?_; (first | refine mem_load' st 9 _ rfl (wanted_none rfl) Try.isAgg9 ?_ | (refine mem_load' st 9 _ rfl (wanted_some rfl ?_) Try.isAgg9 ?_; focus (simp [yielded, Act.put]; done))); refine ⟨1, _, _, _, _, _, rfl, rfl, rfl, ?_⟩) | (with_reducible refine at_load 3 ?_; (first | refine mem_load' st 3 _ rfl (wanted_none rfl) Try.isAgg3 ?_ | (refine mem_load' st 3 _ rfl (wanted_some rfl ?_) Try.isAgg3 ?_; focus (simp [yielded, Act.put]; done))); refine ⟨1, _, _, _, _, _, rfl, rfl, rfl, ?_⟩) | (go_at_call 21; go_must (refine (call_no _ _).mono ?_; rintro e vn ⟨rfl, hbn⟩; replace st := st.call hbn; clear hbn)) | (with_reducible refine at_store 39 ?_; (first | refine mem_store' st 39 _ _ rfl (wanted_none rfl) _ Try.sizeOf39 ?_ | (refine mem_store' st 39 _ _ rfl (wanted_some rfl ?_) _ Try.sizeOf39 ?_; focus (simp [yielded, Act.put]; done))); refine ⟨2, _, _, _, _, _, rfl, rfl, rfl, rfl, rfl, rfl, ?_⟩; clear st; intro w7 st hw7m hw7z; simp [Act.eval, Act.put, Value.cells, putL] at st) | (with_reducible refine at_load 3 ?_; refine mem_load' st 3 _ rfl (wanted_none rfl) Try.isAgg3 ?_; refine ⟨0, _, _, _, _, _, rfl, rfl, hmade _ _ _ _ _, ?_⟩))

  have hc := fun j => st.cell (i := 2) rfl j
  refine bodyPost_ret (v := RepV (errR 5)) ?hr rfl ?_
  case hr => simp [results, Try.results10, go_sem, hc, RepV, errR]; try rfl
  rw [HE.out]
  exact ⟨rfl, KerTo.none h (HB.out _ _ st (by simp))⟩

set_option maxRecDepth 100000 in
set_option maxHeartbeats 4000000 in
theorem kernel_Call_cat_room (h : KerAt ok w g k css Bs) (hk : ∀ x ∈ k.threads, x.ok) (hn : n < 4) (hx64 : ¬ 64 < c.text.size) (hkd : c.kind = 1) (hh0 : 0 ≤ k.host) (hh4 : k.host < 4) (hm0 : 0 ≤ k.made) (hm20 : k.made ≤ 20) (hf : k.made < 20) (hof : (ownC (k.thr n).own (k.host * 20 + k.made)).2 ≠ 0) :
    Calls Try.prog 10 #[.pointer (some ⟨g, 0, none⟩), .int .i64 n, reqV c la lc ga gc] w (CallPost ok w g Bs (callK k n c)) := by
  obtain ⟨x, xa, xc, oa, oc, ba, bc, ma, mc, ex, ec, eB, hT, hb⟩ := h.open hn
  have hx := hk x (List.mem_of_getElem? ex)
  have hpre := h.preLen hn
  have hth := Ker.thr_at ex
  have st0 := St.hand hb
  unfold thrC at st0
  have d1 : decide ((n : Int) < 0) = false := by simp
  have d2 : decide ((4 : Int) ≤ n) = false := by simp; omega
  have d64 := text_size hx64
  have hgg : ¬ ok g := h.apart g (by simp)
  have HKp := Lib.hid (show ∀ (W : World) (bl : Blks), St [g] w W bl → Keeps ok w W from fun W bl s => s.keeps (by simpa using hgg))
  have HB := Lib.hid (show ∀ (W : World) (bl : Blks), St [g] w W bl → (g, 60, winC (preC k css n) [.slice xa x.label.length xc, .slice oa x.own.length oc, .string x.text, .slice ba x.objects.length bc, .slice ma x.mails.length mc] (postC k css n)) ∈ bl → Below w.heap.size w W from fun W bl s hm => st0.below2 s (by simpa using hm))
  have hxl := goodL_len hx.good; have hxo := hx.ownL; have hxm := hx.mailN; have hxb := hx.objs; have hxt := hx.text
  have st := st0
  clear st0
  unfold reqV
  have hmade := h.madeAt hn
  have hhost := h.host n
  have hlen := h.len22 hn
  have hput := h.madePut hn
  have hx8 := hx.ownL
  have HO := Lib.hid (fun (W : World) (hB : Below w.heap.size w W) (hb : W.heap[g]? = some (.cells (winC (preC k css n) [.slice xa x.label.length xc, .slice oa x.own.length oc, .string x.text, .slice ba x.objects.length bc, .slice ma x.mails.length mc] (postC k css n)).toArray 60 (0, 0))) => kernel_own (fun b => ok b ∧ b < w.heap.size) W g _ _ _ _ _ _ _ oa oc x.own (k.host * 20 + k.made) hpre hx.own hx8 (hT.later hB).own (fun h => hgg h.1) hb)

  rw [hth] at hof
  obtain ⟨⟨o2, e2⟩, HP⟩ : ∃ r, Hid (ownC x.own (k.host * 20 + k.made) = r) := ⟨_, rfl⟩
  rw [HP.out] at HO
  have hlo := ownC_lo x.own (k.host * 20 + k.made)
  rw [HP.out] at hlo
  have d5 : decide (20 ≤ k.made) = false := by simp; omega
  have hf' : ¬ 20 ≤ k.made := by omega
  rw [HP.out] at hof
  have HE := Lib.hid (show callK k (n : Int) c = (k, errR 5) by unfold callK; simp [hkd, hf', hth, HP.out, hof])
  rcases hlo with hlo | ⟨hlo, hlo2⟩
  · exact absurd hlo hof
  obtain rfl : e2 = 5 := hlo
  obtain rfl : o2 = x.own := hlo2
  clear hof hf'

  rw [hkd]
  clear hkd
  go_enter Try.func10, Try.ntmps10
  go_wp2_with (first | go_skip | (with_reducible refine at_box 27 ?_; refine mem_box st (wanted_none rfl) 27 _ rfl _ rfl _ rfl ?_; clear st; intro g5 w5 hg5 st hg5b; clear hg5b; simp [Act.eval, Act.put, Value.cells, putL] at st) | (with_reducible refine at_alloc 39 ?_; refine mem_alloc st (wanted_none rfl) 39 rfl _ Try.zeroValue39 _ rfl ?_; clear st; intro g6 w6 hg6 st hg6b; clear hg6b; simp [Act.eval, Act.put, Value.cells, putL] at st) | (with_reducible refine at_load 9 ?_; (first | refine mem_load' st 9 _ rfl (wanted_none rfl) Try.isAgg9 ?_ | (refine mem_load' st 9 _ rfl (wanted_some rfl ?_) Try.isAgg9 ?_; focus (simp [yielded, Act.put]; done))); refine ⟨1, _, _, _, _, _, rfl, rfl, rfl, ?_⟩) | (with_reducible refine at_load 3 ?_; (first | refine mem_load' st 3 _ rfl (wanted_none rfl) Try.isAgg3 ?_ | (refine mem_load' st 3 _ rfl (wanted_some rfl ?_) Try.isAgg3 ?_; focus (simp [yielded, Act.put]; done))); refine ⟨1, _, _, _, _, _, rfl, rfl, rfl, ?_⟩) | (go_at_call 21; go_must (refine (call_no _ _).mono ?_; rintro e vn ⟨rfl, hbn⟩; replace st := st.call hbn; clear hbn)) | (with_reducible refine at_store 39 ?_; (first | refine mem_store' st 39 _ _ rfl (wanted_none rfl) _ Try.sizeOf39 ?_ | (refine mem_store' st 39 _ _ rfl (wanted_some rfl ?_) _ Try.sizeOf39 ?_; focus (simp [yielded, Act.put]; done))); refine ⟨2, _, _, _, _, _, rfl, rfl, rfl, rfl, rfl, rfl, ?_⟩; clear st; intro w7 st hw7m hw7z; simp [Act.eval, Act.put, Value.cells, putL] at st) | (with_reducible refine at_load 3 ?_; refine mem_load' st 3 _ rfl (wanted_none rfl) Try.isAgg3 ?_; refine ⟨0, _, _, _, _, _, rfl, rfl, hmade _ _ _ _ _, ?_⟩))
  have e20 : IntKind.i64.wrap (k.host * 20) = k.host * 20 := IntWalk.i64_in _ (by omega)
  have e21 : IntKind.i64.wrap (k.host * 20 + k.made) = k.host * 20 + k.made := IntWalk.i64_in _ (by omega)
  refine det_region (by kernel_rfl) 11 rfl (fun W => St [g] w W [(g, 60, winC (preC k css n) [.slice xa x.label.length xc, .slice oa x.own.length oc, .string x.text, .slice ba x.objects.length bc, .slice ma x.mails.length mc] (postC k css n)), (g5, 27, [.int .i64 1, .int .i64 c.h, .int .i64 c.t, .int .i64 c.n, .int .i64 c.c, .slice la c.label.length lc, .slice ga c.grants.length gc, .string c.text]), (g6, 39, [.int .i64 0, .int .i64 0, .string ⟨#[]⟩])]) (st.drew) (by decide +kernel) ?_
  refine det_take 0 rfl (by decide +kernel) (by first | exact wanted_none rfl | exact wanted_some rfl rfl) (fun W hW => by first | (go_simp; done) | (go_simp; rfl)) ?_; simp only [Act.put, List.setIfInBounds_toArray, List.set_cons_succ, List.set_cons_zero]; refine det_take 1 rfl (by decide +kernel) (by first | exact wanted_none rfl | exact wanted_some rfl rfl) (fun W hW => by first | (go_simp; done) | (go_simp; rfl)) ?_; simp only [Act.put, List.setIfInBounds_toArray, List.set_cons_succ, List.set_cons_zero]; refine det_take 2 rfl (by decide +kernel) (by first | exact wanted_none rfl | exact wanted_some rfl rfl) (fun W hW => by first | (go_simp; done) | (go_simp; rfl)) ?_; simp only [Act.put, List.setIfInBounds_toArray, List.set_cons_succ, List.set_cons_zero]
  refine det_take (v := .int .i64 k.host) 3 rfl (by decide +kernel) (wanted_none rfl) (fun W hW => St.run_load hW 0 3 _ rfl Try.isAgg3 rfl rfl (hhost _ _)) ?_; simp only [Act.put, List.setIfInBounds_toArray, List.set_cons_succ, List.set_cons_zero]
  refine det_take (v := .int .i64 (k.host * 20)) 4 rfl (by decide +kernel) (by first | exact wanted_none rfl | exact wanted_some rfl rfl) (fun W hW => by (go_simp; done)) ?_; simp only [Act.put, List.setIfInBounds_toArray, List.set_cons_succ, List.set_cons_zero]
  refine det_take 5 rfl (by decide +kernel) (by first | exact wanted_none rfl | exact wanted_some rfl rfl) (fun W hW => by first | (go_simp; done) | (go_simp; rfl)) ?_; simp only [Act.put, List.setIfInBounds_toArray, List.set_cons_succ, List.set_cons_zero]; refine det_take 6 rfl (by decide +kernel) (by first | exact wanted_none rfl | exact wanted_some rfl rfl) (fun W hW => by first | (go_simp; done) | (go_simp; rfl)) ?_; simp only [Act.put, List.setIfInBounds_toArray, List.set_cons_succ, List.set_cons_zero]; refine det_take 7 rfl (by decide +kernel) (by first | exact wanted_none rfl | exact wanted_some rfl rfl) (fun W hW => by first | (go_simp; done) | (go_simp; rfl)) ?_; simp only [Act.put, List.setIfInBounds_toArray, List.set_cons_succ, List.set_cons_zero]
  refine det_take (v := .int .i64 k.made) 8 rfl (by decide +kernel) (wanted_none rfl) (fun W hW => St.run_load hW 0 3 _ rfl Try.isAgg3 rfl rfl (hmade _ _ _ _ _)) ?_; simp only [Act.put, List.setIfInBounds_toArray, List.set_cons_succ, List.set_cons_zero]
  refine det_take (v := .int .i64 (k.host * 20 + k.made)) 9 rfl (by decide +kernel) (by first | exact wanted_none rfl | exact wanted_some rfl rfl) (fun W hW => by (go_simp; done)) ?_; simp only [Act.put, List.setIfInBounds_toArray, List.set_cons_succ, List.set_cons_zero]
  refine det_take 10 rfl (by decide +kernel) (by first | exact wanted_none rfl | exact wanted_some rfl rfl) (fun W hW => by first | (go_simp; done) | (go_simp; rfl)) ?_; simp only [Act.put, List.setIfInBounds_toArray, List.set_cons_succ, List.set_cons_zero]
  refine det_done (by decide +kernel) ?_
  clear st e20 e21
  intro W st
  have hBW := HB.out _ _ st (by simp)
  have hsW := hBW.size
  have hl5 := st.ltAt (i := 1) rfl
  have hl6 := st.ltAt (i := 2) rfl
  have hgw := h.lt g (by simp)
  go_wp2_with fail
  refine (HO.out _ hBW (st.blk _ (List.mem_of_getElem? (i := 0) rfl))).mono ?_
  rintro e W1 ⟨oa', oc', rfl, hk1, hown⟩
  have hzW := hk1.size
  replace st := st.turn (i := 0) rfl hk1
  simp only [List.set_cons_zero] at st
  go_wp2_with (first | go_skip | (go_at_call 21; go_must (refine (call_no _ _).mono ?_; rintro e vn ⟨rfl, hbv⟩; replace st := st.call hbv; have hvs := hbv.size)) | (with_reducible refine at_store 39 ?_; (first | refine mem_store' st 39 _ _ rfl (wanted_none rfl) _ Try.sizeOf39 ?_ | (refine mem_store' st 39 _ _ rfl (wanted_some rfl ?_) _ Try.sizeOf39 ?_; focus (simp [yielded, Act.put]; done))); refine ⟨2, _, _, _, _, _, rfl, rfl, rfl, rfl, rfl, rfl, ?_⟩; clear st; intro w7 st hw7m hw7z; simp [Act.eval, Act.put, Value.cells, putL] at st))
  have hc := fun j => st.cell (i := 2) rfl j
  refine bodyPost_ret (v := RepV (errR 5)) ?hr rfl ?_
  case hr => simp [results, Try.results10, go_sem, hc, RepV, errR]; try rfl
  rw [HE.out]
  have hcl : KerTo ok w g Bs w7 { k.put n x with made := k.made } := h.closeSame (made' := k.made) (x' := x) (x := x) (la' := xa) (lc' := xc) (oa' := oa') (oc' := oc') hn ec eB hT (st.sub (by simp [thrC]) (by simp)) rfl rfl (h.fine eB ((hT.label.keep (HKp.out _ _ st)).okay fun _ r => .inl r)) (h.fine eB ((hown.move (by omega) (fun b hb ho => ⟨ho, (hw7m b (by rcases ho with ho | ho <;> omega)).trans (hbv.block b hb)⟩) fun _ _ r => r).okay fun b ho => by
    rcases ho with ho | ho
    · exact .inl ho.1
    · exact .inr (by omega)))
  rw [Ker.put_self ex] at hcl
  exact ⟨rfl, hcl⟩

set_option maxRecDepth 100000 in
set_option maxHeartbeats 4000000 in
theorem kernel_Call_cat (h : KerAt ok w g k css Bs) (hk : ∀ x ∈ k.threads, x.ok) (hn : n < 4) (hx64 : ¬ 64 < c.text.size) (hkd : c.kind = 1) (hh0 : 0 ≤ k.host) (hh4 : k.host < 4) (hm0 : 0 ≤ k.made) (hm20 : k.made ≤ 20)  (hf : k.made < 20) (hof : (ownC (k.thr n).own (k.host * 20 + k.made)).2 = 0) :
    Calls Try.prog 10 #[.pointer (some ⟨g, 0, none⟩), .int .i64 n, reqV c la lc ga gc] w (CallPost ok w g Bs (callK k n c)) := by
  obtain ⟨x, xa, xc, oa, oc, ba, bc, ma, mc, ex, ec, eB, hT, hb⟩ := h.open hn
  have hx := hk x (List.mem_of_getElem? ex)
  have hpre := h.preLen hn
  have hth := Ker.thr_at ex
  have st0 := St.hand hb
  unfold thrC at st0
  have d1 : decide ((n : Int) < 0) = false := by simp
  have d2 : decide ((4 : Int) ≤ n) = false := by simp; omega
  have d64 := text_size hx64
  have hgg : ¬ ok g := h.apart g (by simp)
  have HKp := Lib.hid (show ∀ (W : World) (bl : Blks), St [g] w W bl → Keeps ok w W from fun W bl s => s.keeps (by simpa using hgg))
  have HB := Lib.hid (show ∀ (W : World) (bl : Blks), St [g] w W bl → (g, 60, winC (preC k css n) [.slice xa x.label.length xc, .slice oa x.own.length oc, .string x.text, .slice ba x.objects.length bc, .slice ma x.mails.length mc] (postC k css n)) ∈ bl → Below w.heap.size w W from fun W bl s hm => st0.below2 s (by simpa using hm))
  have hxl := goodL_len hx.good; have hxo := hx.ownL; have hxm := hx.mailN; have hxb := hx.objs; have hxt := hx.text
  have st := st0
  clear st0
  unfold reqV
  have hmade := h.madeAt hn
  have hhost := h.host n
  have hlen := h.len22 hn
  have hput := h.madePut hn
  have hx8 := hx.ownL
  have HO := Lib.hid (fun (W : World) (hB : Below w.heap.size w W) (hb : W.heap[g]? = some (.cells (winC (preC k css n) [.slice xa x.label.length xc, .slice oa x.own.length oc, .string x.text, .slice ba x.objects.length bc, .slice ma x.mails.length mc] (postC k css n)).toArray 60 (0, 0))) => kernel_own (fun b => ok b ∧ b < w.heap.size) W g _ _ _ _ _ _ _ oa oc x.own (k.host * 20 + k.made) hpre hx.own hx8 (hT.later hB).own (fun h => hgg h.1) hb)

  rw [hth] at hof
  obtain ⟨⟨o2, e2⟩, HP⟩ : ∃ r, Hid (ownC x.own (k.host * 20 + k.made) = r) := ⟨_, rfl⟩
  rw [HP.out] at HO
  have hlo := ownC_lo x.own (k.host * 20 + k.made)
  rw [HP.out] at hlo
  have d5 : decide (20 ≤ k.made) = false := by simp; omega
  have hf' : ¬ 20 ≤ k.made := by omega
  rw [HP.out] at hof
  obtain rfl : e2 = 0 := hof
  have HE := Lib.hid (show callK k (n : Int) c = ({ k.put n { x with own := o2 } with made := k.made + 1 }, ⟨0, k.host * 20 + k.made, ⟨#[]⟩⟩) by unfold callK; simp [hkd, hf', hth, HP.out])
  clear hlo hf'

  rw [hkd]
  clear hkd
  go_enter Try.func10, Try.ntmps10
  go_wp2_with (first | go_skip | (with_reducible refine at_box 27 ?_; refine mem_box st (wanted_none rfl) 27 _ rfl _ rfl _ rfl ?_; clear st; intro g5 w5 hg5 st hg5b; clear hg5b; simp [Act.eval, Act.put, Value.cells, putL] at st) | (with_reducible refine at_alloc 39 ?_; refine mem_alloc st (wanted_none rfl) 39 rfl _ Try.zeroValue39 _ rfl ?_; clear st; intro g6 w6 hg6 st hg6b; clear hg6b; simp [Act.eval, Act.put, Value.cells, putL] at st) | (with_reducible refine at_load 9 ?_; (first | refine mem_load' st 9 _ rfl (wanted_none rfl) Try.isAgg9 ?_ | (refine mem_load' st 9 _ rfl (wanted_some rfl ?_) Try.isAgg9 ?_; focus (simp [yielded, Act.put]; done))); refine ⟨1, _, _, _, _, _, rfl, rfl, rfl, ?_⟩) | (with_reducible refine at_load 3 ?_; (first | refine mem_load' st 3 _ rfl (wanted_none rfl) Try.isAgg3 ?_ | (refine mem_load' st 3 _ rfl (wanted_some rfl ?_) Try.isAgg3 ?_; focus (simp [yielded, Act.put]; done))); refine ⟨1, _, _, _, _, _, rfl, rfl, rfl, ?_⟩) | (go_at_call 21; go_must (refine (call_no _ _).mono ?_; rintro e vn ⟨rfl, hbn⟩; replace st := st.call hbn; clear hbn)) | (with_reducible refine at_store 39 ?_; (first | refine mem_store' st 39 _ _ rfl (wanted_none rfl) _ Try.sizeOf39 ?_ | (refine mem_store' st 39 _ _ rfl (wanted_some rfl ?_) _ Try.sizeOf39 ?_; focus (simp [yielded, Act.put]; done))); refine ⟨2, _, _, _, _, _, rfl, rfl, rfl, rfl, rfl, rfl, ?_⟩; clear st; intro w7 st hw7m hw7z; simp [Act.eval, Act.put, Value.cells, putL] at st) | (with_reducible refine at_load 3 ?_; refine mem_load' st 3 _ rfl (wanted_none rfl) Try.isAgg3 ?_; refine ⟨0, _, _, _, _, _, rfl, rfl, hmade _ _ _ _ _, ?_⟩))
  have e20 : IntKind.i64.wrap (k.host * 20) = k.host * 20 := IntWalk.i64_in _ (by omega)
  have e21 : IntKind.i64.wrap (k.host * 20 + k.made) = k.host * 20 + k.made := IntWalk.i64_in _ (by omega)
  refine det_region (by kernel_rfl) 11 rfl (fun W => St [g] w W [(g, 60, winC (preC k css n) [.slice xa x.label.length xc, .slice oa x.own.length oc, .string x.text, .slice ba x.objects.length bc, .slice ma x.mails.length mc] (postC k css n)), (g5, 27, [.int .i64 1, .int .i64 c.h, .int .i64 c.t, .int .i64 c.n, .int .i64 c.c, .slice la c.label.length lc, .slice ga c.grants.length gc, .string c.text]), (g6, 39, [.int .i64 0, .int .i64 0, .string ⟨#[]⟩])]) (st.drew) (by decide +kernel) ?_
  refine det_take 0 rfl (by decide +kernel) (by first | exact wanted_none rfl | exact wanted_some rfl rfl) (fun W hW => by first | (go_simp; done) | (go_simp; rfl)) ?_; simp only [Act.put, List.setIfInBounds_toArray, List.set_cons_succ, List.set_cons_zero]; refine det_take 1 rfl (by decide +kernel) (by first | exact wanted_none rfl | exact wanted_some rfl rfl) (fun W hW => by first | (go_simp; done) | (go_simp; rfl)) ?_; simp only [Act.put, List.setIfInBounds_toArray, List.set_cons_succ, List.set_cons_zero]; refine det_take 2 rfl (by decide +kernel) (by first | exact wanted_none rfl | exact wanted_some rfl rfl) (fun W hW => by first | (go_simp; done) | (go_simp; rfl)) ?_; simp only [Act.put, List.setIfInBounds_toArray, List.set_cons_succ, List.set_cons_zero]
  refine det_take (v := .int .i64 k.host) 3 rfl (by decide +kernel) (wanted_none rfl) (fun W hW => St.run_load hW 0 3 _ rfl Try.isAgg3 rfl rfl (hhost _ _)) ?_; simp only [Act.put, List.setIfInBounds_toArray, List.set_cons_succ, List.set_cons_zero]
  refine det_take (v := .int .i64 (k.host * 20)) 4 rfl (by decide +kernel) (by first | exact wanted_none rfl | exact wanted_some rfl rfl) (fun W hW => by (go_simp; done)) ?_; simp only [Act.put, List.setIfInBounds_toArray, List.set_cons_succ, List.set_cons_zero]
  refine det_take 5 rfl (by decide +kernel) (by first | exact wanted_none rfl | exact wanted_some rfl rfl) (fun W hW => by first | (go_simp; done) | (go_simp; rfl)) ?_; simp only [Act.put, List.setIfInBounds_toArray, List.set_cons_succ, List.set_cons_zero]; refine det_take 6 rfl (by decide +kernel) (by first | exact wanted_none rfl | exact wanted_some rfl rfl) (fun W hW => by first | (go_simp; done) | (go_simp; rfl)) ?_; simp only [Act.put, List.setIfInBounds_toArray, List.set_cons_succ, List.set_cons_zero]; refine det_take 7 rfl (by decide +kernel) (by first | exact wanted_none rfl | exact wanted_some rfl rfl) (fun W hW => by first | (go_simp; done) | (go_simp; rfl)) ?_; simp only [Act.put, List.setIfInBounds_toArray, List.set_cons_succ, List.set_cons_zero]
  refine det_take (v := .int .i64 k.made) 8 rfl (by decide +kernel) (wanted_none rfl) (fun W hW => St.run_load hW 0 3 _ rfl Try.isAgg3 rfl rfl (hmade _ _ _ _ _)) ?_; simp only [Act.put, List.setIfInBounds_toArray, List.set_cons_succ, List.set_cons_zero]
  refine det_take (v := .int .i64 (k.host * 20 + k.made)) 9 rfl (by decide +kernel) (by first | exact wanted_none rfl | exact wanted_some rfl rfl) (fun W hW => by (go_simp; done)) ?_; simp only [Act.put, List.setIfInBounds_toArray, List.set_cons_succ, List.set_cons_zero]
  refine det_take 10 rfl (by decide +kernel) (by first | exact wanted_none rfl | exact wanted_some rfl rfl) (fun W hW => by first | (go_simp; done) | (go_simp; rfl)) ?_; simp only [Act.put, List.setIfInBounds_toArray, List.set_cons_succ, List.set_cons_zero]
  refine det_done (by decide +kernel) ?_
  clear st e20 e21
  intro W st
  have hBW := HB.out _ _ st (by simp)
  have hsW := hBW.size
  have hl5 := st.ltAt (i := 1) rfl
  have hl6 := st.ltAt (i := 2) rfl
  have hgw := h.lt g (by simp)
  go_wp2_with fail
  refine (HO.out _ hBW (st.blk _ (List.mem_of_getElem? (i := 0) rfl))).mono ?_
  rintro e W1 ⟨oa', oc', rfl, hk1, hown⟩
  have hzW := hk1.size
  replace st := st.turn (i := 0) rfl hk1
  simp only [List.set_cons_zero] at st
  go_wp2_with (first
    | go_skip | (with_reducible refine at_load 3 ?_; refine mem_load' st 3 _ rfl (wanted_none rfl) Try.isAgg3 ?_; refine ⟨0, _, _, _, _, _, rfl, rfl, hmade _ _ _ _ _, ?_⟩)
    | ((with_reducible refine at_store 3 ?_); refine mem_store st (wanted_none rfl) 3 _ _ rfl g 21 rfl _ rfl [.int .i64 (k.made + 1)] rfl Try.sizeOf3 (by simp [Value.oneCell']) 0 _ _ rfl (by rw [hlen]; simp) ?_; clear st; intro w8 st hw8m hw8z; rw [hput] at st; simp only [List.set_cons_zero] at st)
    | (with_reducible refine at_store 39 ?_; (first | refine mem_store' st 39 _ _ rfl (wanted_none rfl) _ Try.sizeOf39 ?_ | (refine mem_store' st 39 _ _ rfl (wanted_some rfl ?_) _ Try.sizeOf39 ?_; focus (simp [yielded, Act.put]; done))); refine ⟨2, _, _, _, _, _, rfl, rfl, rfl, rfl, rfl, rfl, ?_⟩; clear st; intro w7 st hw7m hw7z; simp [Act.eval, Act.put, Value.cells, putL] at st))
  have hc := fun j => st.cell (i := 2) rfl j
  refine bodyPost_ret (v := RepV ⟨0, k.host * 20 + k.made, ⟨#[]⟩⟩) ?hr rfl ?_
  case hr => simp [results, Try.results10, go_sem, hc, RepV, errR]; try rfl
  rw [HE.out]
  exact ⟨rfl, h.closeSame (made' := k.made + 1) (x' := { x with own := o2 }) (x := x) (la' := xa) (lc' := xc) (oa' := oa') (oc' := oc') hn ec eB hT (st.sub (by simp [thrC]) (by simp)) rfl rfl (h.fine eB ((hT.label.keep (HKp.out _ _ st)).okay fun _ r => .inl r)) (h.fine eB ((hown.move (by omega) (fun b hb ho => ⟨ho, (hw7m b (by rcases ho with ho | ho <;> omega)).trans (hw8m b (by rcases ho with ho | ho; exact fun e => hgg (e ▸ ho.1); omega))⟩) fun _ _ r => r).okay fun b ho => by
    rcases ho with ho | ho
    · exact .inl ho.1
    · exact .inr (by omega)))⟩

end
end Go.Proofs.Ytnkfemjmfalamaa

/- A kernel's object: where it lies, found by the call object. -/
namespace Go.Proofs.Ytnkfemjmfalamaa
open Go.RowKit

/-- One of a row, as a window of its block. -/
theorem RowAt.window {e : TypeId} {w : World} {α : Type} {sz : Nat} {R : List Value → α → Prop} {g off c : Nat} {xs : List α} (h : RowAt e w sz R (some ⟨g, off, none⟩) c xs) {i : Nat} {x : α} (hx : xs[i]? = some x) :
    ∃ pre cs post, w.heap[g]? = some (.cells (winC pre cs post).toArray e (0, 0)) ∧ pre.length = off + i * sz ∧ R cs x ∧ cs.length = sz ∧ ∀ v ∈ cs, v.oneCell' = true := by
  rcases h.2.2 with ⟨h, _⟩ | ⟨g', off', cells, ha, hg, hle, hx2⟩
  · cases h
  · simp only [Option.some.injEq, Addr.mk.injEq, and_true] at ha
    obtain ⟨rfl, rfl⟩ := ha
    obtain ⟨cs, h3, h4, h5, h6⟩ := hx2 i x hx
    have hi := (List.getElem?_eq_some_iff.1 hx).1
    have hin : i * sz + sz ≤ c * sz := by
      have : (i + 1) * sz ≤ c * sz := Nat.mul_le_mul_right _ (by have := h.1; omega)
      rwa [Nat.succ_mul] at this
    have e : cells = winC (cells.take (off + i * sz)) cs (cells.drop (off + i * sz + sz)) := by
      refine List.ext_getElem? fun j => ?_
      unfold winC
      have hl : (cells.take (off + i * sz)).length = off + i * sz := by rw [List.length_take]; omega
      by_cases h1 : j < off + i * sz
      · rw [List.getElem?_append_left (by omega), List.getElem?_take_of_lt h1]
      · rw [List.getElem?_append_right (by omega), hl]
        by_cases h2 : j < off + i * sz + sz
        · rw [List.getElem?_append_left (by omega)]
          have hj : j - (off + i * sz) < cs.length := by omega
          rw [List.getElem?_eq_getElem hj, ← h6 _ _ (List.getElem?_eq_getElem hj)]
          congr 1
          omega
        · rw [List.getElem?_append_right (by omega), List.getElem?_drop, h4]
          congr 1
          omega
    exact ⟨_, cs, _, by rw [← e]; exact hg, by rw [List.length_take]; omega, h3, h4, h5⟩

theorem St.hand2 {w : World} {g gb : Nat} {T T2 : TypeId} {cs cs2 : List Value} (h : w.heap[g]? = some (.cells cs.toArray T (0, 0))) (h2 : w.heap[gb]? = some (.cells cs2.toArray T2 (0, 0))) (hne : g ≠ gb) : St [g, gb] w w [(g, T, cs), (gb, T2, cs2)] :=
  ⟨rfl, rfl, rfl, Nat.le_refl _, fun _ _ _ => rfl, fun x hx => by
    simp at hx
    rcases hx with rfl | rfl
    · exact h
    · exact h2, fun x hx => .inl (by
    simp at hx
    rcases hx with rfl | rfl <;> simp), by simp [hne]⟩

theorem St.drop2 {w0 w : World} {g gb : Nat} {own own' : Blks} {T2 : TypeId} {cs2 : List Value} (h : St [g, gb] w0 w own) (hm : (gb, T2, cs2) ∈ own) (h0 : w0.heap[gb]? = some (.cells cs2.toArray T2 (0, 0))) (hs : ∀ x ∈ own', x ∈ own ∧ x.1 ≠ gb) (hn : own'.Pairwise fun x y => x.1 ≠ y.1) : St [g] w0 w own' :=
  ⟨h.os, h.tape, h.output, h.size, fun b hb hmm => by
    by_cases e : b = gb
    · subst e; rw [h.blk _ hm, h0]
    · exact h.frame b hb (by simp at hmm ⊢; exact ⟨hmm, e⟩), fun x hx => h.blk x (hs x hx).1, fun x hx => (h.mine x (hs x hx).1).imp (fun hm => by
      have := (hs x hx).2
      simp at hm ⊢
      rcases hm with hm | hm
      · exact hm
      · exact absurd hm this) id, hn⟩

theorem KerAt.object {ok : Nat → Prop} {w : World} {g : Nat} {k : Ker} {css : List (List Value)} {Bs : List (List Nat)} (h : KerAt ok w g k css Bs) (t i : Int) :
    (k.obj t i = none ∧ ∀ W, Below w.heap.size w W → Calls Try.prog 24 #[.pointer (some ⟨g, 0, none⟩), .int .i64 t, .int .i64 i] W fun e w' => e = .returned (.pointer none) ∧ W = w') ∨
    ∃ (m j : Nat) (y : Thr) (ya : Option Addr) (yc : Nat) (oa : Option Addr) (oc gb off bc : Nat) (ma : Option Addr) (mc : Nat) (o : KObj), m < 4 ∧ t = m ∧ i = j ∧ k.threads[m]? = some y ∧ css[m]? = some (thrC y ya yc oa oc (some ⟨gb, off, none⟩) bc ma mc) ∧ Bs[m]? = some (rows2 (some ⟨gb, off, none⟩) ma) ∧ ThrR ok w y ya yc oa oc (some ⟨gb, off, none⟩) bc ma mc ∧ y.objects[j]? = some o ∧ k.obj t i = some o ∧
      ∀ W, Below w.heap.size w W → Calls Try.prog 24 #[.pointer (some ⟨g, 0, none⟩), .int .i64 t, .int .i64 i] W fun e w' => e = .returned (.pointer (some ⟨gb, off + j * 2, none⟩)) ∧ W = w' := by
  by_cases h4 : four t = true ∧ 0 ≤ i
  case neg =>
    refine .inl ⟨by unfold Ker.obj; rw [if_neg h4], fun W _ => kernel_object_far W g t i ?_⟩
    by_cases hf : four t = true
    · by_cases hi : 0 ≤ i
      · exact absurd ⟨hf, hi⟩ h4
      · exact .inr (.inr (by omega))
    · rcases four_no (by simpa using hf) with h | h
      · exact .inl h
      · exact .inr (.inl h.2)
  obtain ⟨m, rfl, hm⟩ := four_nat h4.1
  obtain ⟨j, rfl⟩ := Int.eq_ofNat_of_zero_le h4.2
  obtain ⟨y, ya, yc, oa, oc, ba, bc, ma, mc, ex, ec, eB, hT, hb⟩ := h.open hm
  have hpre := h.preLen hm
  have hgw := h.lt g (by simp)
  have hob : k.obj (m : Int) (j : Int) = y.objects[j]? := by
    unfold Ker.obj
    rw [if_pos h4, Ker.thr_at ex, Int.toNat_natCast]
  unfold thrC at hb
  cases hy : y.objects[j]? with
  | none =>
    refine .inl ⟨by rw [hob, hy], fun W hW => kernel_object_none W g m hm _ _ _ _ _ _ ba bc y.objects.length j hpre ?_ (by rw [hW.block g hgw]; exact hb)⟩
    exact List.getElem?_eq_none_iff.1 hy
  | some o =>
    have hj := (List.getElem?_eq_some_iff.1 hy).1
    rcases hT.objs.2.2 with ⟨_, h0⟩ | ⟨gb, off, cells, rfl, _⟩
    · have := hT.objs.1; omega
    · exact .inr ⟨m, j, y, ya, yc, oa, oc, gb, off, bc, ma, mc, o, hm, rfl, rfl, ex, ec, eB, hT, hy, by rw [hob, hy], fun W hW => kernel_object_some W g m hm _ _ _ _ _ _ gb off bc y.objects.length j hpre hj hT.objs.1 hT.objs.2.1 (by rw [hW.block g hgw]; exact hb)⟩

end Go.Proofs.Ytnkfemjmfalamaa

/- The kernel's Call: an object made, where there is room. (printed by gen_call2.py) -/
namespace Go.Proofs.Ytnkfemjmfalamaa
open Go.RowKit

section
variable (ok okc : Nat → Prop) (w : World) (g : Nat) (k : Ker) (css : List (List Value)) (Bs : List (List Nat)) (n : Nat) (c : Req) (la : Option Addr) (lc : Nat) (ga : Option Addr) (gc : Nat)

theorem info_Object : (Try.prog.info? 56).map (fun i => (i.zero, i.size, i.bytes)) = some (some (.agg #[.slice none 0 0, .string .empty]), 2, 40) := by kernel_rfl

set_option maxRecDepth 100000 in
set_option maxHeartbeats 4000000 in
theorem kernel_Call_object_yes (h : KerAt ok w g k css Bs) (hk : ∀ x ∈ k.threads, x.ok) (hn : n < 4) (hx64 : ¬ 64 < c.text.size) (hkd : c.kind = 2) (hll : c.label.length * 16 ≤ 140737488351232) (hcl : SlR okc w 2 RLev la lc c.label) (hgl : goodL c.label = true) (hf : flowsL (k.thr n).label c.label (k.thr n).own = true) (h4 : (k.thr n).objects.length < 4) :
    Calls Try.prog 10 #[.pointer (some ⟨g, 0, none⟩), .int .i64 n, reqV c la lc ga gc] w (CallPost ok w g Bs (callK k n c)) := by
  obtain ⟨x, xa, xc, oa, oc, ba, bc, ma, mc, ex, ec, eB, hT, hb⟩ := h.open hn
  have hx := hk x (List.mem_of_getElem? ex)
  have hpre := h.preLen hn
  have hth := Ker.thr_at ex
  have st0 := St.hand hb
  unfold thrC at st0
  have d1 : decide ((n : Int) < 0) = false := by simp
  have d2 : decide ((4 : Int) ≤ n) = false := by simp; omega
  have d64 := text_size hx64
  have hgg : ¬ ok g := h.apart g (by simp)
  have HKp := Lib.hid (show ∀ (W : World) (bl : Blks), St [g] w W bl → Keeps ok w W from fun W bl s => s.keeps (by simpa using hgg))
  have HB := Lib.hid (show ∀ (W : World) (bl : Blks), St [g] w W bl → (g, 60, winC (preC k css n) [.slice xa x.label.length xc, .slice oa x.own.length oc, .string x.text, .slice ba x.objects.length bc, .slice ma x.mails.length mc] (postC k css n)) ∈ bl → Below w.heap.size w W from fun W bl s hm => st0.below2 s (by simpa using hm))
  have hxl := goodL_len hx.good; have hxo := hx.ownL; have hxm := hx.mailN; have hxb := hx.objs; have hxt := hx.text
  have st := st0
  clear st0
  unfold reqV
  have HG := Lib.hid (fun (W : World) (hW : Below w.heap.size w W) => label_Good okc W la lc c.label (by omega) (hcl.below hW))
  rw [hth] at hf h4
  have HE := Lib.hid (show callK k (n : Int) c = (k.put n { x with objects := x.objects ++ [⟨c.label, ⟨#[]⟩⟩] }, ⟨0, x.objects.length, ⟨#[]⟩⟩) by unfold callK; simp [hkd, hgl, hth, hf, show ¬ 4 ≤ x.objects.length by omega])
  have d4 : decide ((4 : Int) ≤ x.objects.length) = false := by simp; omega
  have HLv := Lib.hid (fun (W : World) (hW : Below w.heap.size w W) => kernel_levels okc W la lc c.label (by omega) (hcl.below hW))
  have hl8 := goodL_len hgl
  have HF := Lib.hid (fun (W : World) (hW : Below w.heap.size w W) => label_Flows (fun _ => True) W xa la oa xc lc oc x.label c.label x.own (by omega) (by omega) ((hT.label.below hW).okay fun _ _ => trivial) ((hcl.below hW).okay fun _ _ => trivial) ((hT.own.below hW).okay fun _ _ => trivial))
  rw [hgl] at HG
  rw [hf] at HF
  clear hgl hf
  rw [hkd]
  clear hkd
  go_enter Try.func10, Try.ntmps10
  go_wp2_with (first | go_skip | (with_reducible refine at_load 24 ?_; (first | refine mem_load' st 24 _ rfl (wanted_none rfl) Try.isAgg24 ?_ | (refine mem_load' st 24 _ rfl (wanted_some rfl ?_) Try.isAgg24 ?_; focus (simp [yielded, Act.put]; done))); refine ⟨1, _, _, _, _, _, rfl, rfl, rfl, ?_⟩) | (go_at_call 14; go_must (refine (HG.out _ (HB.out _ _ st (by simp))).mono ?_; rintro e vg ⟨rfl, hbg⟩; replace st := st.call hbg; clear hbg)) | (with_reducible refine at_box 27 ?_; refine mem_box st (wanted_none rfl) 27 _ rfl _ rfl _ rfl ?_; clear st; intro g5 w5 hg5 st hg5b; clear hg5b; simp [Act.eval, Act.put, Value.cells, putL] at st) | (with_reducible refine at_alloc 39 ?_; refine mem_alloc st (wanted_none rfl) 39 rfl _ Try.zeroValue39 _ rfl ?_; clear st; intro g6 w6 hg6 st hg6b; clear hg6b; simp [Act.eval, Act.put, Value.cells, putL] at st) | (with_reducible refine at_load 9 ?_; (first | refine mem_load' st 9 _ rfl (wanted_none rfl) Try.isAgg9 ?_ | (refine mem_load' st 9 _ rfl (wanted_some rfl ?_) Try.isAgg9 ?_; focus (simp [yielded, Act.put]; done))); refine ⟨1, _, _, _, _, _, rfl, rfl, rfl, ?_⟩) | (with_reducible refine at_load 3 ?_; (first | refine mem_load' st 3 _ rfl (wanted_none rfl) Try.isAgg3 ?_ | (refine mem_load' st 3 _ rfl (wanted_some rfl ?_) Try.isAgg3 ?_; focus (simp [yielded, Act.put]; done))); refine ⟨1, _, _, _, _, _, rfl, rfl, rfl, ?_⟩) | (go_at_call 21; go_must (refine (call_no _ _).mono ?_; rintro e vn ⟨rfl, hbn⟩; replace st := st.call hbn; clear hbn)) | (with_reducible refine at_store 39 ?_; (first | refine mem_store' st 39 _ _ rfl (wanted_none rfl) _ Try.sizeOf39 ?_ | (refine mem_store' st 39 _ _ rfl (wanted_some rfl ?_) _ Try.sizeOf39 ?_; focus (simp [yielded, Act.put]; done))); refine ⟨2, _, _, _, _, _, rfl, rfl, rfl, rfl, rfl, rfl, ?_⟩; clear st; intro w7 st hw7m hw7z; simp [Act.eval, Act.put, Value.cells, putL] at st))
  refine det_region (by kernel_rfl) 13 rfl (fun W => St [g] w W [(g, 60, winC (preC k css n) [.slice xa x.label.length xc, .slice oa x.own.length oc, .string x.text, .slice ba x.objects.length bc, .slice ma x.mails.length mc] (postC k css n)), (g5, 27, [.int .i64 2, .int .i64 c.h, .int .i64 c.t, .int .i64 c.n, .int .i64 c.c, .slice la c.label.length lc, .slice ga c.grants.length gc, .string c.text]), (g6, 39, [.int .i64 0, .int .i64 0, .string ⟨#[]⟩])]) (st.drew) (by decide +kernel) ?_
  refine det_take 0 rfl (by decide +kernel) (by first | exact wanted_none rfl | exact wanted_some rfl rfl) (fun W hW => by first | (go_simp; done) | (go_simp; rfl)) ?_; simp only [Act.put, List.setIfInBounds_toArray, List.set_cons_succ, List.set_cons_zero]; refine det_take 1 rfl (by decide +kernel) (by first | exact wanted_none rfl | exact wanted_some rfl rfl) (fun W hW => by first | (go_simp; done) | (go_simp; rfl)) ?_; simp only [Act.put, List.setIfInBounds_toArray, List.set_cons_succ, List.set_cons_zero]; refine det_take 2 rfl (by decide +kernel) (by first | exact wanted_none rfl | exact wanted_some rfl rfl) (fun W hW => by first | (go_simp; done) | (go_simp; rfl)) ?_; simp only [Act.put, List.setIfInBounds_toArray, List.set_cons_succ, List.set_cons_zero]
  refine det_take 3 rfl (by decide +kernel) (by first | exact wanted_none rfl | exact wanted_some rfl rfl) (fun W hW => St.run_loadW hW 0 24 _ rfl Try.isAgg24 0 hpre rfl rfl rfl) ?_; simp only [Act.put, List.setIfInBounds_toArray, List.set_cons_succ, List.set_cons_zero]
  refine det_take 4 rfl (by decide +kernel) (by first | exact wanted_none rfl | exact wanted_some rfl rfl) (fun W hW => by first | (go_simp; done) | (go_simp; rfl)) ?_; simp only [Act.put, List.setIfInBounds_toArray, List.set_cons_succ, List.set_cons_zero]
  refine det_take 5 rfl (by decide +kernel) (by first | exact wanted_none rfl | exact wanted_some rfl rfl) (fun W hW => St.run_load hW 1 24 _ rfl Try.isAgg24 rfl rfl rfl) ?_; simp only [Act.put, List.setIfInBounds_toArray, List.set_cons_succ, List.set_cons_zero]
  refine det_take 6 rfl (by decide +kernel) (by first | exact wanted_none rfl | exact wanted_some rfl rfl) (fun W hW => by first | (go_simp; done) | (go_simp; rfl)) ?_; simp only [Act.put, List.setIfInBounds_toArray, List.set_cons_succ, List.set_cons_zero]; refine det_take 7 rfl (by decide +kernel) (by first | exact wanted_none rfl | exact wanted_some rfl rfl) (fun W hW => by first | (go_simp; done) | (go_simp; rfl)) ?_; simp only [Act.put, List.setIfInBounds_toArray, List.set_cons_succ, List.set_cons_zero]; refine det_take 8 rfl (by decide +kernel) (by first | exact wanted_none rfl | exact wanted_some rfl rfl) (fun W hW => by first | (go_simp; done) | (go_simp; rfl)) ?_; simp only [Act.put, List.setIfInBounds_toArray, List.set_cons_succ, List.set_cons_zero]
  refine det_take 9 rfl (by decide +kernel) (by first | exact wanted_none rfl | exact wanted_some rfl rfl) (fun W hW => St.run_loadW hW 0 25 _ rfl Try.isAgg25 1 hpre rfl rfl rfl) ?_; simp only [Act.put, List.setIfInBounds_toArray, List.set_cons_succ, List.set_cons_zero]
  refine det_call (fn := 15) 10 rfl (by decide +kernel) (by first | exact wanted_none rfl | exact wanted_some rfl rfl) (fun W => by first | (go_simp; done) | (go_simp; rfl)) (fun W hW => (HF.out W (HB.out W _ hW (by simp))).mono fun e w' h => ⟨h.1, hW.call h.2⟩) ?_; simp only [Act.put, List.setIfInBounds_toArray, List.set_cons_succ, List.set_cons_zero]
  refine det_take 11 rfl (by decide +kernel) (by first | exact wanted_none rfl | exact wanted_some rfl rfl) (fun W hW => by first | (go_simp; done) | (go_simp; rfl)) ?_; simp only [Act.put, List.setIfInBounds_toArray, List.set_cons_succ, List.set_cons_zero]; refine det_take 12 rfl (by decide +kernel) (by first | exact wanted_none rfl | exact wanted_some rfl rfl) (fun W hW => by first | (go_simp; done) | (go_simp; rfl)) ?_; simp only [Act.put, List.setIfInBounds_toArray, List.set_cons_succ, List.set_cons_zero]
  refine det_done (by decide +kernel) ?_
  clear st
  intro W st
  go_wp2_with (first | go_skip | (with_reducible refine at_load 43 ?_; (first | refine mem_loadW st 43 _ rfl (wanted_none rfl) Try.isAgg43 3 ?_ | (refine mem_loadW st 43 _ rfl (wanted_some rfl ?_) Try.isAgg43 3 ?_; focus (simp [yielded, Act.put]; done))); refine ⟨0, _, _, _, _, _, _, _, hpre, rfl, rfl, rfl, ?_⟩))
  obtain ⟨i0, hi, hz0, hz1, hz2⟩ := info_parts info_Object
  have hbne : ba.map (·.block) ≠ some g := fun e => h.gOut eB (mem_rows2.2 (.inl e))
  have hMg : ∀ b, ba.map (·.block) = some b → b < w.heap.size ∧ ¬ ok b := fun b e => ⟨hT.objs.lt e, h.apartAt eB (mem_rows2.2 (.inl e))⟩
  have hBg : ∀ b, ma.map (·.block) = some b → b < w.heap.size ∧ ¬ ok b ∧ b ≠ g ∧ ba.map (·.block) ≠ some b := fun b e => ⟨hT.mails.lt e, h.apartAt eB (mem_rows2.2 (.inr e)), fun e2 => h.gOut eB (e2 ▸ mem_rows2.2 (.inr e)), fun e2 => h.rowsNe eB e2 e⟩
  have hgw := h.lt g (by simp)
  have hg5w : w.heap.size ≤ g5 := hg5
  have hg6w : w.heap.size ≤ g6 := hg6
  have st := st.drew
  have hI := st.wider (M' := g :: rows2 ba ma) (by simp)
  refine lex_tail (by kernel_rfl) 13 1 [13] rfl (by decide +kernel) (fun W => St (g :: rows2 ba ma) w W [(g, 60, winC (preC k css n) [.slice xa x.label.length xc, .slice oa x.own.length oc, .string x.text, .slice ba x.objects.length bc, .slice ma x.mails.length mc] (postC k css n)), (g5, 27, [.int .i64 2, .int .i64 c.h, .int .i64 c.t, .int .i64 c.n, .int .i64 c.c, .slice la c.label.length lc, .slice ga c.grants.length gc, .string c.text]), (g6, 39, [.int .i64 0, .int .i64 0, .string ⟨#[]⟩])]) ?_
  refine lex_take 0 rfl (by decide +kernel) (by first | exact wanted_none rfl | exact wanted_some rfl rfl) hI (fun W hW => by first | (go_simp; done) | (go_simp; rfl)) ?_; simp only [Act.put, List.setIfInBounds_toArray, List.set_cons_succ, List.set_cons_zero]
  refine lex_take 1 rfl (by decide +kernel) (by first | exact wanted_none rfl | exact wanted_some rfl rfl) hI (fun W hW => by first | (go_simp; done) | (go_simp; rfl)) ?_; simp only [Act.put, List.setIfInBounds_toArray, List.set_cons_succ, List.set_cons_zero]
  refine lex_take 2 rfl (by decide +kernel) (by first | exact wanted_none rfl | exact wanted_some rfl rfl) hI (fun W hW => by first | (go_simp; done) | (go_simp; rfl)) ?_; simp only [Act.put, List.setIfInBounds_toArray, List.set_cons_succ, List.set_cons_zero]
  refine lex_take 3 rfl (by decide +kernel) (by first | exact wanted_none rfl | exact wanted_some rfl rfl) hI (fun W hW => by first | (go_simp; done) | (go_simp; rfl)) ?_; simp only [Act.put, List.setIfInBounds_toArray, List.set_cons_succ, List.set_cons_zero]
  refine lex_take 4 rfl (by decide +kernel) (by first | exact wanted_none rfl | exact wanted_some rfl rfl) hI (fun W hW => St.run_loadW hW 0 43 _ rfl Try.isAgg43 3 hpre rfl rfl rfl) ?_; simp only [Act.put, List.setIfInBounds_toArray, List.set_cons_succ, List.set_cons_zero]
  refine lex_take 5 rfl (by decide +kernel) (by first | exact wanted_none rfl | exact wanted_some rfl rfl) hI (fun W hW => by first | (go_simp; done) | (go_simp; rfl)) ?_; simp only [Act.put, List.setIfInBounds_toArray, List.set_cons_succ, List.set_cons_zero]
  refine lex_take 6 rfl (by decide +kernel) (by first | exact wanted_none rfl | exact wanted_some rfl rfl) hI (fun W hW => St.run_load hW 1 24 _ rfl Try.isAgg24 rfl rfl rfl) ?_; simp only [Act.put, List.setIfInBounds_toArray, List.set_cons_succ, List.set_cons_zero]
  clear hI
  have hl5 := st.ltAt (i := 1) rfl
  have hl6 := st.ltAt (i := 2) rfl
  have hzb := st.size
  refine lex_only 7 rfl (by decide +kernel) (by first | exact wanted_none rfl | exact wanted_some rfl rfl) fun K hK => ?_
  refine wp_callee (f := 23) (by first | (go_simp; done) | (go_simp; rfl)) ?_
  refine (HLv.out _ (HB.out _ _ st (by simp))).mono ?_
  rintro e v ⟨a1, k1, rfl, hbm, hM⟩
  have hzv := st.size
  refine ⟨_, rfl, ?_⟩
  replace st := st.call hbm
  clear hbm
  refine hK _ _ (st.wider (by simp)) ?_; clear hK; simp only [Act.put, List.setIfInBounds_toArray, List.set_cons_succ, List.set_cons_zero]
  have hI := st.wider (M' := g :: rows2 ba ma) (by simp)
  refine lex_take 8 rfl (by decide +kernel) (by first | exact wanted_none rfl | exact wanted_some rfl rfl) hI (fun W hW => by first | (go_simp; done) | (go_simp; rfl)) ?_; simp only [Act.put, List.setIfInBounds_toArray, List.set_cons_succ, List.set_cons_zero]
  clear hI
  refine lex_only 9 rfl (by decide +kernel) (by first | exact wanted_none rfl | exact wanted_some rfl rfl) fun K hK => ?_
  refine wp_build1 st 43 56 _ rfl Try.underlying43 2 Try.sizeOf56 (by decide) (by decide) _ Try.zeroValue56 _ rfl rfl ?_; clear st; intro g3 w3 hg3 hg3e st hg3b hw3z; clear hg3e; simp [Act.eval, Act.put, Value.cells, putL] at st
  have hM3 := hM.below hg3b
  clear hg3b hw3z
  refine hK _ _ ((st.take 3).wider (by simp)) ?_; clear hK; simp only [Act.put, List.setIfInBounds_toArray, List.set_cons_succ, List.set_cons_zero]
  refine lex_only 10 rfl (by decide +kernel) (by first | exact wanted_none rfl | exact wanted_some rfl rfl) fun K hK => ?_
  have hO : RowAt 56 w3 2 (RObj (fun b => (ok b ∧ b < w.heap.size) ∨ (w.heap.size ≤ b ∧ b ≠ g6)) w3) ba bc x.objects := hT.objs.kept (fun b e => st.frame b (hMg b e).1 (by simp; rintro rfl; exact hbne e)) fun _ _ r => r.move st.size fun b hb' ho => ⟨.inl ⟨ho, hb'⟩, (HKp.out _ _ st).block b hb' ho⟩
  refine wp_rowApp _ _ 43 rfl i0 _ 40 Try.underlying43 hi hz0 hz1 hz2 rfl (by decide) (y := (⟨c.label, ⟨#[]⟩⟩ : KObj)) rfl rfl hO rfl (SlR.ofBlk (ok := fun _ => True) (R := RObj (fun b => (ok b ∧ b < w.heap.size) ∨ (w.heap.size ≤ b ∧ b ≠ g6)) w3) (x := (⟨c.label, ⟨#[]⟩⟩ : KObj)) (st.blk _ (List.mem_of_getElem? (i := 3) rfl)) ⟨a1, k1, rfl, hM3.slr (fun b hb => .inr ⟨by omega, by omega⟩)⟩ rfl rfl trivial) (by omega) (by unfold maxLen; omega) ?_
  intro g4 off4 c4 w4 hO4 hgr hat
  have hst3 := st
  replace st := ((st.take 3).grown hgr (by
    intro y hy e
    simp at hy
    rcases hy with rfl | rfl | rfl
    · exact hbne e
    · have := (hMg _ e).1; simp only at this; omega
    · have := (hMg _ e).1; simp only at this; omega)).wider (M' := g :: rows2 ba ma) (by
    intro b hb
    simp only [List.mem_append, Option.mem_toList, List.mem_singleton] at hb
    rcases hb with hb | rfl
    · exact List.mem_cons_of_mem _ (mem_rows2.2 (.inl hb))
    · simp)
  simp only [List.take_succ_cons, List.take_zero] at st
  have hI := st
  refine hK _ _ (hI) ?_; clear hK; simp only [Act.put, List.setIfInBounds_toArray, List.set_cons_succ, List.set_cons_zero]
  refine lex_take 11 rfl (by decide +kernel) (by first | exact wanted_none rfl | exact wanted_some rfl rfl) hI (fun W hW => by first | (go_simp; done) | (go_simp; rfl)) ?_; simp only [Act.put, List.setIfInBounds_toArray, List.set_cons_succ, List.set_cons_zero]
  refine lex_take 12 rfl (by decide +kernel) (by first | exact wanted_none rfl | exact wanted_some rfl rfl) hI (fun W hW => by first | (go_simp; done) | (go_simp; rfl)) ?_; simp only [Act.put, List.setIfInBounds_toArray, List.set_cons_succ, List.set_cons_zero]
  clear hI
  refine lex_done (by decide +kernel) ?_
  refine tail_last 13 rfl (by first | exact wanted_none rfl | exact wanted_some rfl rfl) (by decide +kernel) (by decide +kernel) fun K hK => ?_
  refine wp_storeW st 43 _ _ rfl _ Try.sizeOf43 3 ?_; refine ⟨0, _, _, _, _, _, _, _, hpre, rfl, rfl, rfl, rfl, rfl, rfl, ?_⟩; clear st; intro w5 st hw5m hw5z; simp [Act.eval, Act.put, Value.cells, putL] at st
  refine hK _ _ ?_; clear hK
  have ew : IntKind.i64.wrap ((x.objects.length : Int) + 1 - 1) = (x.objects.length : Int) := by rw [Int.add_sub_cancel]; exact IntWalk.i64_in _ (by omega)
  go_wp2_with (first | go_skip | (with_reducible refine at_load 43 ?_; (first | refine mem_loadW st 43 _ rfl (wanted_none rfl) Try.isAgg43 3 ?_ | (refine mem_loadW st 43 _ rfl (wanted_some rfl ?_) Try.isAgg43 3 ?_; focus (simp [yielded, Act.put]; done))); refine ⟨0, _, _, _, _, _, _, _, hpre, rfl, rfl, rfl, ?_⟩) | (with_reducible refine at_store 39 ?_; (first | refine mem_store' st 39 _ _ rfl (wanted_none rfl) _ Try.sizeOf39 ?_ | (refine mem_store' st 39 _ _ rfl (wanted_some rfl ?_) _ Try.sizeOf39 ?_; focus (simp [yielded, Act.put]; done))); refine ⟨2, _, _, _, _, _, rfl, rfl, rfl, rfl, rfl, rfl, ?_⟩; clear st; intro w7 st hw7m hw7z; simp [Act.eval, Act.put, Value.cells, putL] at st))
  have hc := fun j => st.cell (i := 2) rfl j
  refine bodyPost_ret (v := RepV (⟨0, x.objects.length, ⟨#[]⟩⟩)) ?hr rfl ?_
  case hr => simp [results, Try.results10, go_sem, hc, RepV, errR]; try rfl
  rw [HE.out]
  refine ⟨rfl, ?_⟩
  have hz3 := hst3.size
  have hch : ∀ b, b < w3.heap.size → b ≠ g → b ≠ g6 → ba.map (·.block) ≠ some b → w7.heap[b]? = w3.heap[b]? := fun b hb h1 h3 h2 => (hw7m b h3).trans ((hw5m b h1).trans (hgr.block b hb fun e => h2 e.symm))
  have hcw : ∀ b, b < w.heap.size → b ≠ g → ba.map (·.block) ≠ some b → w7.heap[b]? = w.heap[b]? := fun b hb h1 h2 => (hch b (by omega) h1 (by omega) h2).trans (hst3.frame b hb (by simpa using h1))
  have hg4 : ∀ b, b < w3.heap.size → ((ok b ∧ b < w.heap.size) ∨ (w.heap.size ≤ b ∧ b ≠ g6)) → b ≠ g4 := fun b hb ho e => by
    subst e
    rcases hat with hat | hat
    · rcases ho with ho | ho
      · exact (hMg _ hat).2 ho.1
      · have := (hMg _ hat).1; omega
    · omega
  have hok : ∀ b, b < w3.heap.size → ((ok b ∧ b < w.heap.size) ∨ (w.heap.size ≤ b ∧ b ≠ g6)) → ((ok b ∨ w.heap.size ≤ b) ∧ b ∉ g :: rows2 (some ⟨g4, off4, none⟩) ma) ∧ w7.heap[b]? = w3.heap[b]? := fun b hb ho => by
    have h1 : b ≠ g := by
      rintro rfl
      rcases ho with ho | ho
      · exact hgg ho.1
      · omega
    have h6 : b ≠ g6 := by
      rintro rfl
      rcases ho with ho | ho
      · have := ho.2; omega
      · exact ho.2 rfl
    refine ⟨⟨ho.imp (fun h => h.1) fun h => h.1, fun hm => ?_⟩, hch b hb h1 h6 fun e => ?_⟩
    · rcases List.mem_cons.1 hm with hm | hm
      · exact h1 hm
      · rcases mem_rows2.1 hm with hm | hm
        · exact hg4 b hb ho (Option.some.inj hm).symm
        · obtain ⟨q1, q2, _⟩ := hBg b hm
          rcases ho with ho | ho
          · exact q2 ho.1
          · omega
    · obtain ⟨q1, q2⟩ := hMg b e
      rcases ho with ho | ho
      · exact q2 ho.1
      · omega
  have hokw : ∀ b, b < w.heap.size → ok b → ((ok b ∨ w.heap.size ≤ b) ∧ b ∉ g :: rows2 (some ⟨g4, off4, none⟩) ma) ∧ w7.heap[b]? = w.heap[b]? := fun b hb ho => by
    obtain ⟨q1, q2⟩ := hok b (by omega) (.inl ⟨ho, hb⟩)
    exact ⟨q1, q2.trans ((HKp.out _ _ hst3).block b hb ho)⟩
  have hne4 : g4 ≠ g := by
    rintro rfl
    rcases hat with hat | hat
    · exact hbne hat
    · omega
  have hl36 := hst3.ltAt (i := 2) rfl
  have hne46 : g4 ≠ g6 := by
    rintro rfl
    rcases hat with hat | hat
    · have := (hMg _ hat).1; omega
    · omega
  refine h.close (made' := k.made) hn ec eB st (st.blk _ (List.mem_of_getElem? (i := 0) rfl)) (x' := { x with objects := x.objects ++ [⟨c.label, ⟨#[]⟩⟩] }) (B' := rows2 (some ⟨g4, off4, none⟩) ma)
    ⟨xa, xc, oa, oc, some ⟨g4, off4, none⟩, c4, ma, mc, by simp [thrC], ⟨hT.label.move st.size hokw fun _ _ r => r, hT.own.move st.size hokw fun _ _ r => r,
      hO4.kept (fun b e => by obtain rfl : g4 = b := Option.some.inj e; exact (hw7m _ hne46).trans (hw5m _ hne4)) fun _ _ r => r.move (by have := hgr.size; omega) hok, hT.mails.kept (fun b e => hcw b (hBg b e).1 (hBg b e).2.2.1 (hBg b e).2.2.2) fun _ _ r => r.move st.size hokw⟩, rfl⟩ ?_ ?_
  · unfold rows2
    cases hma : ma with
    | none => simp
    | some ad =>
      simp only [Option.map_some, Option.toList_some, List.cons_append, List.nil_append, List.nodup_cons, List.mem_singleton, List.not_mem_nil, not_false_eq_true, List.nodup_nil, and_true]
      intro e
      obtain ⟨q1, _, _, q4⟩ := hBg ad.block (by rw [hma]; rfl)
      rcases hat with hat | hat
      · exact q4 (by rw [hat, e])
      · omega
  · intro b hb
    rcases mem_rows2.1 hb with hb | hb
    · obtain rfl : g4 = b := Option.some.inj hb
      rcases hat with hat | hat
      · exact .inl (mem_rows2.2 (.inl hat))
      · exact .inr (by omega)
    · exact .inl (mem_rows2.2 (.inr hb))
end
end Go.Proofs.Ytnkfemjmfalamaa

/- A kernel that is well stays well, whatever is called. No program, no memory. -/
namespace Go.Proofs.Ytnkfemjmfalamaa

theorem lastB_size (s : ByteArray) : (lastB s).size ≤ 64 := by
  unfold lastB
  rw [ByteArray.size_extract]
  omega

theorem knowT_size (a b : ByteArray) : (knowT a b).size ≤ 64 := lastB_size _

theorem ownAll_ok (gs : List Int) : ∀ {l : List Int}, Rising l → l.length ≤ 8 → Rising (ownAll l gs) ∧ (ownAll l gs).length ≤ 8 := by
  induction gs with
  | nil => exact fun hr hl => ⟨hr, hl⟩
  | cons g gs ih =>
    intro l hr hl
    unfold ownAll
    split
    · exact ih (ownC_ok hr hl g).1 (ownC_ok hr hl g).2
    · exact ⟨hr, hl⟩

theorem takeM_sub (label : List Lev) (own : List Int) (l : List Mail) : (∀ m ∈ (takeM label own l).2, m ∈ l) ∧ (takeM label own l).2.length ≤ l.length ∧ ∀ m, (takeM label own l).1 = some m → m ∈ l ∧ flowsL m.label label own = true := by
  induction l with
  | nil => exact ⟨fun _ h => h, Nat.le_refl _, fun m h => by simp [takeM] at h⟩
  | cons m l ih =>
    unfold takeM
    split
    · rename_i hf
      exact ⟨fun x h => List.mem_cons_of_mem _ h, by simp, fun x h => by cases h; exact ⟨by simp, hf⟩⟩
    · exact ⟨fun x h => List.mem_cons_of_mem _ (ih.1 x h), by have := ih.2.1; simp; omega, fun x h => ⟨List.mem_cons_of_mem _ (ih.2.2 x h).1, (ih.2.2 x h).2⟩⟩

theorem takeX_ok {x : Thr} (h : x.ok) : (takeX x).1.ok := by
  obtain ⟨h1, h2, h3⟩ := takeM_sub x.label x.own x.mails
  unfold takeX
  generalize takeM x.label x.own x.mails = r at *
  obtain ⟨o, l⟩ := r
  cases o with
  | none => exact ⟨h.good, h.own, h.ownL, h.text, h.objs, h.obj, Nat.le_trans h2 h.mailN, fun m hm => h.mail m (h1 m hm)⟩
  | some m => exact ⟨h.good, (ownAll_ok _ h.own h.ownL).1, (ownAll_ok _ h.own h.ownL).2, knowT_size _ _, h.objs, h.obj, Nat.le_trans h2 h.mailN, fun m hm => h.mail m (h1 m hm)⟩

theorem zeroT_ok : zeroT.ok := ⟨rfl, List.Pairwise.nil, by decide, by decide, by decide, by simp [zeroT], by decide, by simp [zeroT]⟩

theorem newK_ok {h : Int} (h0 : 0 ≤ h) (h4 : h < 4) : (newK h).ok := ⟨⟨h0, h4⟩, rfl, ⟨Int.le_refl _, by simp [newK]⟩, by simp [newK, zeroT_ok]⟩

theorem Ker.ok.at {k : Ker} (h : k.ok) (t : Int) : (k.thr t).ok := by
  unfold Ker.thr
  rw [List.getD_eq_getElem?_getD]
  cases e : k.threads[t.toNat]? with
  | none => exact zeroT_ok
  | some x => exact h.thr x (List.mem_of_getElem? e)

theorem Ker.ok.put {k : Ker} (h : k.ok) (t : Int) {x : Thr} (hx : x.ok) : (k.put t x).ok :=
  ⟨h.host, by simp [Ker.put, h.four], h.made, fun y hy => by
    rcases List.mem_or_eq_of_mem_set hy with hy | rfl
    · exact h.thr y hy
    · exact hx⟩

theorem Ker.ok.obj {k : Ker} (h : k.ok) {t n : Int} {o : KObj} (ho : k.obj t n = some o) : goodL o.label = true ∧ o.text.size ≤ 64 := by
  unfold Ker.obj at ho
  split at ho
  · exact (h.at t).obj o (List.mem_of_getElem? ho)
  · cases ho

theorem setR_good {l : List Lev} {c n : Int} (h : (setR l c n).2 = 0) : goodL (setR l c n).1 = true := by
  rcases setR_cases l c n with ⟨k, e, hk⟩ | ⟨e, h1, h2, h3, h4⟩
  · rw [e] at h; exact absurd h hk
  · rw [e]; exact set_good h1 h2 h3 h4

theorem callK_ok {k : Ker} (h : k.ok) (t : Int) (c : Req) (hc : c.text.size ≤ 64) : (callK k t c).1.ok := by
  have hx := h.at t
  unfold callK
  dsimp only
  split
  · split
    · exact h
    · split
      · exact h
      · have hp := h.put t (x := { k.thr t with own := (ownC (k.thr t).own (k.host * 20 + k.made)).1 }) ⟨hx.good, (ownC_ok hx.own hx.ownL _).1, (ownC_ok hx.own hx.ownL _).2, hx.text, hx.objs, hx.obj, hx.mailN, hx.mail⟩
        exact ⟨hp.host, hp.four, ⟨by have := h.made.1; simp only; omega, by have := h.made.2; simp only; omega⟩, hp.thr⟩
  split
  · split
    · exact h
    · rename_i hg
      split
      · exact h
      · split
        · exact h
        · rename_i h4
          exact h.put t ⟨hx.good, hx.own, hx.ownL, hx.text, by simp; omega, fun o ho => by
            rcases List.mem_append.1 ho with ho | ho
            · exact hx.obj o ho
            · simp only [List.mem_singleton] at ho
              subst ho
              exact ⟨by simpa using hg, Nat.zero_le _⟩, hx.mailN, hx.mail⟩
  split
  · cases e : k.obj c.t c.n with
    | none => exact h
    | some o =>
      dsimp only
      split
      · have hy := h.at c.t
        exact h.put c.t ⟨hy.good, hy.own, hy.ownL, hy.text, by simpa [Thr.putObj] using hy.objs, fun o' ho => by
          rcases List.mem_or_eq_of_mem_set ho with ho | rfl
          · exact hy.obj o' ho
          · exact ⟨(h.obj e).1, knowT_size _ _⟩, hy.mailN, hy.mail⟩
      · exact h
  split
  · cases e : k.obj c.t c.n with
    | none => exact h
    | some o =>
      dsimp only
      split
      · exact h.put t ⟨hx.good, hx.own, hx.ownL, knowT_size _ _, hx.objs, hx.obj, hx.mailN, hx.mail⟩
      · exact h
  split
  · split
    · exact h
    · rename_i he
      split
      · exact h
      · exact h.put t ⟨setR_good (by simpa using he), hx.own, hx.ownL, hx.text, hx.objs, hx.obj, hx.mailN, hx.mail⟩
  split
  · exact h.put t (takeX_ok hx)
  split
  · exact h.put t ⟨hx.good, hx.own, hx.ownL, hc, hx.objs, hx.obj, hx.mailN, hx.mail⟩
  split
  · exact h
  · exact h

theorem stepC_ok {k : Ker} (h : k.ok) (t : Int) (c : Req) : (stepC k t c).1.ok := by
  unfold stepC
  split
  · exact h
  · split
    · exact h
    · exact callK_ok h t c (by omega)

theorem deliverK_ok {k : Ker} (h : k.ok) (t : Int) (m : Mail) : (deliverK k t m).ok := by
  have hx := h.at t
  unfold deliverK
  split
  · exact h
  · split
    · exact h
    · rename_i hm
      split
      · rename_i hf
        exact h.put t ⟨hx.good, hx.own, hx.ownL, hx.text, hx.objs, hx.obj, by simp; omega, fun m' hm' => by
          rcases List.mem_append.1 hm' with hm' | hm'
          · exact hx.mail m' hm'
          · simp only [List.mem_singleton] at hm'
            subst hm'
            simpa using hm⟩
      · exact h

/-- Who writes is told the same, whatever kernel it is. -/
theorem put_told (k : Ker) (t : Int) (c : Req) (hk : c.kind = 3) (ht : four t = true) : (stepC k t c).2 = if 64 < c.text.size then errR 9 else errR 0 := by
  unfold stepC
  rw [if_neg (by rw [ht]; simp)]
  split
  · rfl
  · unfold callK
    dsimp only
    rw [hk, if_neg (by decide), if_neg (by decide), if_pos rfl]
    cases k.obj c.t c.n with
    | none => rfl
    | some o => dsimp only; split <;> rfl

end Go.Proofs.Ytnkfemjmfalamaa

/- The walk through the kernel's Thread: a copy of a thread, of its own memory. -/
namespace Go.Proofs.Ytnkfemjmfalamaa
open Go.RowKit

/-- What is owned, apart from the blocks at hand. -/
theorem Own.slrS {base : Nat} {e : TypeId} {M : List Nat} {w0 w : World} {α : Type} {sz : Nat} {R : List Value → α → Prop} {a : Option Addr} {c : Nat} {xs : List α} {own : Blks} (h : Own base e w sz R a c xs) (st : St M w0 w own) (hT : ∀ x ∈ own, x.2.1 ≠ e) :
    SlR (fun b => base ≤ b ∧ b < w.heap.size ∧ b ∉ own.map (·.1)) w sz R a c xs := by
  have hne := fun x (hx : x ∈ own) => h.apartT (st.blk x hx) (hT x hx)
  have s := h.slr (ok := fun b => base ≤ b) fun _ h => h
  refine ⟨s.1, s.2.1, s.2.2.1, fun i x hx => ?_⟩
  obtain ⟨b, o, cs, ha, hb, hlt, r⟩ := s.2.2.2 i x hx
  refine ⟨b, o, cs, ha, ⟨hb, hlt, fun hm => ?_⟩, hlt, r⟩
  obtain ⟨y, hy, e2⟩ := List.mem_map.1 hm
  exact hne y hy (by rw [ha, ← e2]; rfl)

theorem SlR.fit {ok ok' : Nat → Prop} {w : World} {α : Type} {sz : Nat} {R : List Value → α → Prop} {a : Option Addr} {c : Nat} {xs : List α} (h : SlR ok w sz R a c xs) (hok : ∀ b, b < w.heap.size → ok b → ok' b) : SlR ok' w sz R a c xs :=
  h.move (Nat.le_refl _) (fun b hb ho => ⟨hok b hb ho, rfl⟩) fun _ _ r => r

theorem SlR.obj_at {ok ok' : Nat → Prop} {w w' : World} {a : Option Addr} {c : Nat} {xs : List KObj} (h : SlR ok w 2 (RObj ok' w') a c xs) (i : Nat) (hi : i < xs.length) :
    ∃ b o la lc, a = some ⟨b, o, none⟩ ∧ ok b ∧ b < w.heap.size ∧ SlR ok' w' 2 RLev la lc xs[i].label ∧ ∀ (j : Nat) (v : Value), [Value.slice la xs[i].label.length lc, .string xs[i].text][j]? = some v → w.cell? ⟨b, o + i * 2 + j, none⟩ = some v := by
  obtain ⟨b, o, cs, ha, ho, hb, ⟨la, lc, rfl, r1⟩, _, _, hc⟩ := h.2.2.2 i xs[i] (by simp [hi])
  exact ⟨b, o, la, lc, ha, ho, hb, r1, hc⟩

theorem SlR.mail_at {ok ok' : Nat → Prop} {w w' : World} {a : Option Addr} {c : Nat} {xs : List Mail} (h : SlR ok w 5 (RMail ok' w') a c xs) (i : Nat) (hi : i < xs.length) :
    ∃ b o la lc ga gc, a = some ⟨b, o, none⟩ ∧ ok b ∧ b < w.heap.size ∧ SlR ok' w' 2 RLev la lc xs[i].label ∧ SlR ok' w' 1 RInt ga gc xs[i].grants ∧ ∀ (j : Nat) (v : Value), [Value.int .i64 xs[i].host, .int .i64 xs[i].thread, .slice la xs[i].label.length lc, .slice ga xs[i].grants.length gc, .string xs[i].text][j]? = some v → w.cell? ⟨b, o + i * 5 + j, none⟩ = some v := by
  obtain ⟨b, o, cs, ha, ho, hb, ⟨la, lc, ga, gc, rfl, r1, r2⟩, _, _, hc⟩ := h.2.2.2 i xs[i] (by simp [hi])
  exact ⟨b, o, la, lc, ga, gc, ha, ho, hb, r1, r2, hc⟩

/-- A thread that was told: where its parts lie. -/
structure ThrS (ok : Nat → Prop) (w : World) (x : Thr) (la : Option Addr) (lc : Nat) (oa : Option Addr) (oc : Nat) (ba : Option Addr) (bc : Nat) (ma : Option Addr) (mc : Nat) : Prop where
  label : SlR ok w 2 RLev la lc x.label
  own : SlR ok w 1 RInt oa oc x.own
  objs : SlR ok w 2 (RObj ok w) ba bc x.objects
  mails : SlR ok w 5 (RMail ok w) ma mc x.mails

theorem ThrS.move {ok ok' : Nat → Prop} {w w' : World} {x : Thr} {la : Option Addr} {lc : Nat} {oa : Option Addr} {oc : Nat} {ba : Option Addr} {bc : Nat} {ma : Option Addr} {mc : Nat} (h : ThrS ok w x la lc oa oc ba bc ma mc) (hs : w.heap.size ≤ w'.heap.size) (hk : ∀ b, b < w.heap.size → ok b → ok' b ∧ w'.heap[b]? = w.heap[b]?) : ThrS ok' w' x la lc oa oc ba bc ma mc :=
  ⟨h.label.move hs hk fun _ _ h => h, h.own.move hs hk fun _ _ h => h, h.objs.move hs hk fun _ _ h => h.move hs hk, h.mails.move hs hk fun _ _ h => h.move hs hk⟩

theorem ThrS.below {ok : Nat → Prop} {w w' : World} {x : Thr} {la : Option Addr} {lc : Nat} {oa : Option Addr} {oc : Nat} {ba : Option Addr} {bc : Nat} {ma : Option Addr} {mc : Nat} (h : ThrS ok w x la lc oa oc ba bc ma mc) (hb : Below w.heap.size w w') : ThrS ok w' x la lc oa oc ba bc ma mc :=
  h.move hb.size fun b hb' ho => ⟨ho, hb.block b hb'⟩

theorem ThrS.zero (ok : Nat → Prop) (w : World) : ThrS ok w zeroT none 0 none 0 none 0 none 0 := ⟨SlR.nil _ _ _ _, SlR.nil _ _ _ _, SlR.nil _ _ _ _, SlR.nil _ _ _ _⟩

def thrV (x : Thr) (la : Option Addr) (lc : Nat) (oa : Option Addr) (oc : Nat) (ba : Option Addr) (bc : Nat) (ma : Option Addr) (mc : Nat) : Value :=
  .agg #[.slice la x.label.length lc, .slice oa x.own.length oc, .string x.text, .slice ba x.objects.length bc, .slice ma x.mails.length mc]

/-- The thread as it is told: one that there is none of is a plain one. -/
def thrOf (k : Ker) (t : Int) : Thr := if four t = true then k.thr t else zeroT

def ThreadPost (w : World) (x : Thr) (e : Ending) (w' : World) : Prop :=
  ∃ la lc oa oc ba bc ma mc, e = .returned (thrV x la lc oa oc ba bc ma mc) ∧ Below w.heap.size w w' ∧ ThrS (fun b => w.heap.size ≤ b) w' x la lc oa oc ba bc ma mc

set_option maxRecDepth 100000 in
set_option maxHeartbeats 4000000 in
theorem kernel_Thread_out (w : World) (g : Nat) (t : Int) (h4 : four t = false) :
    Calls Try.prog 13 #[.pointer (some ⟨g, 0, none⟩), .int .i64 t] w (ThreadPost w zeroT) := by
  have st := St.start w
  rcases four_no h4 with d | ⟨d0, d⟩
  all_goals
    clear h4
    go_enter Try.func13, Try.ntmps13
    go_wp2_with (first | go_skip | (with_reducible refine at_alloc 46 ?_; refine mem_alloc st (wanted_none rfl) 46 rfl _ Try.zeroValue46 _ rfl ?_; clear st; intro g1 w1 hg1 st hg1b; clear hg1b; simp [Act.eval, Act.put, Value.cells, putL] at st) | (with_reducible refine at_store 46 ?_; (first | refine mem_store' st 46 _ _ rfl (wanted_none rfl) _ Try.sizeOf46 ?_ | (refine mem_store' st 46 _ _ rfl (wanted_some rfl ?_) _ Try.sizeOf46 ?_; focus (simp [yielded, Act.put]; done))); refine ⟨0, _, _, _, _, _, rfl, rfl, rfl, rfl, rfl, rfl, ?_⟩; clear st; intro w2 st hw2m hw2z; simp [Act.eval, Act.put, Value.cells, putL] at st))
    have hc := fun j => st.cell (i := 0) rfl j
    refine bodyPost_ret (v := thrV zeroT none 0 none 0 none 0 none 0) ?hr rfl ⟨none, 0, none, 0, none, 0, none, 0, rfl, st.below, ThrS.zero _ _⟩
    case hr => simp [results, Try.results13, go_sem, hc, thrV, zeroT]; try rfl

set_option maxRecDepth 100000 in
set_option maxHeartbeats 8000000 in
theorem kernel_Thread (ok : Nat → Prop) (w : World) (g : Nat) (k : Ker) (css : List (List Value)) (Bs : List (List Nat)) (h : KerAt ok w g k css Bs) (hk : ∀ x ∈ k.threads, x.ok) (t : Int) :
    Calls Try.prog 13 #[.pointer (some ⟨g, 0, none⟩), .int .i64 t] w (ThreadPost w (thrOf k t)) := by
  unfold thrOf
  by_cases h4 : four t = true
  case neg => rw [if_neg h4]; exact kernel_Thread_out w g t (by simpa using h4)
  rw [if_pos h4]
  obtain ⟨n, rfl, hn⟩ := four_nat h4
  obtain ⟨x, xa, xc, oa, oc, ba, bc, ma, mc, ex, ec, eB, hT, hb⟩ := h.open hn
  have hx := hk x (List.mem_of_getElem? ex)
  have hpre := h.preLen hn
  rw [Ker.thr_at ex]
  have st0 := St.hand hb
  unfold thrC at st0 hb
  have d1 : decide ((n : Int) < 0) = false := by simp
  have d2 : decide ((4 : Int) ≤ n) = false := by simp; omega
  have hgg : ¬ ok g := h.apart g (by simp)
  have hgw := h.lt g (by simp)
  have hxl := goodL_len hx.good; have hxo := hx.ownL; have hxb := hx.objs; have hxm := hx.mailN
  have HX := Lib.hid (fun o (ho : o ∈ x.objects) => goodL_len (hx.obj o ho).1)
  have HY := Lib.hid (fun m (hm : m ∈ x.mails) => (show m.label.length ≤ 8 ∧ m.grants.length ≤ 8 from ⟨goodL_len (mail_facts (hx.mail m hm)).2.2.1, (grants_facts (mail_facts (hx.mail m hm)).2.2.2.1).1⟩))
  have hT := hT.later (Below.refl _ _)
  have HKp := Lib.hid (show ∀ (W : World) (bl : Blks), St [g] w W bl → Keeps (fun b => ok b ∧ b < w.heap.size) w W from fun W bl s => s.keeps (by simp; intro h; exact absurd h hgg))
  have HB := Lib.hid (show ∀ (W : World) (bl : Blks), St [g] w W bl → (g, 60, winC (preC k css n) [.slice xa x.label.length xc, .slice oa x.own.length oc, .string x.text, .slice ba x.objects.length bc, .slice ma x.mails.length mc] (postC k css n)) ∈ bl → Below w.heap.size w W from fun W bl s hm => st0.below2 s (by simpa using hm))
  have HO := Lib.hid (show ∀ (W : World) (bl : Blks), St [g] w W bl → SlR (fun b => b < w.heap.size) W 2 (RObj (fun b => ok b ∧ b < w.heap.size) w) ba bc x.objects from fun W bl s => (hT.objs.slr (ok := fun b => ba.map (·.block) = some b) fun _ h => h).move s.size (fun b hb' ho => ⟨hb', s.frame b hb' (by simp; rintro rfl; exact h.gOut eB (mem_rows2.2 (.inl ho)))⟩) fun _ _ r => r)
  have HM := Lib.hid (show ∀ (W : World) (bl : Blks), St [g] w W bl → SlR (fun b => b < w.heap.size) W 5 (RMail (fun b => ok b ∧ b < w.heap.size) w) ma mc x.mails from fun W bl s => (hT.mails.slr (ok := fun b => ma.map (·.block) = some b) fun _ h => h).move s.size (fun b hb' ho => ⟨hb', s.frame b hb' (by simp; rintro rfl; exact h.gOut eB (mem_rows2.2 (.inr ho)))⟩) fun _ _ r => r)
  have HL := Lib.hid (fun (W : World) (bl : Blks) (hW : St [g] w W bl) => kernel_levels (fun b => ok b ∧ b < w.heap.size) W xa xc x.label (by omega) (hT.label.keep (HKp.out W _ hW)))
  have HN := Lib.hid (fun (W : World) (bl : Blks) (hW : St [g] w W bl) => kernel_numbers (fun b => ok b ∧ b < w.heap.size) W oa oc x.own (by omega) (hT.own.keep (HKp.out W _ hW)))
  have st := st0
  clear st0 hb hT h ex ec eB hx hk h4 hxo hxl
  go_enter Try.func13, Try.ntmps13
  go_upto_region 3 with (first | go_skip | (with_reducible refine at_alloc 46 ?_; refine mem_alloc st (wanted_none rfl) 46 rfl _ Try.zeroValue46 _ rfl ?_; clear st; intro g1 w1 hg1 st hg1b; clear hg1b; simp [Act.eval, Act.put, Value.cells, putL] at st))
  go_upto_region 4 with (first | go_skip | (with_reducible refine at_load 46 ?_; refine mem_loadWin st 46 _ rfl (wanted_none rfl) Try.isAgg46 _ Try.sizeOf46 ?_; refine ⟨0, _, _, _, _, _, _, hpre, rfl, rfl, rfl, ?_⟩) | (with_reducible refine at_alloc 46 ?_; refine mem_alloc st (wanted_none rfl) 46 rfl _ Try.zeroValue46 _ rfl ?_; clear st; intro g2 w2 hg2 st hg2b; clear hg2b; simp [Act.eval, Act.put, Value.cells, putL] at st) | (with_reducible refine at_store 46 ?_; (first | refine mem_store' st 46 _ _ rfl (wanted_none rfl) _ Try.sizeOf46 ?_ | (refine mem_store' st 46 _ _ rfl (wanted_some rfl ?_) _ Try.sizeOf46 ?_; focus (simp [yielded, Act.put]; done))); refine ⟨2, _, _, _, _, _, rfl, rfl, rfl, rfl, rfl, rfl, ?_⟩; clear st; intro w3 st hw3m hw3z; simp [Act.eval, Act.put, Value.cells, putL] at st))
  clear hw3m hw3z
  simp only [Act.put, List.setIfInBounds_toArray, List.set_cons_succ, List.set_cons_zero]
  go_cut [6] (fun s6 wx => ∃ (g6 : Nat) (la : Option Addr) (lc : Nat) (na : Option Addr) (nc : Nat), s6 = .pointer (some ⟨g6, 0, none⟩) ∧ St [g] w wx [(g, 60, winC (preC k css n) [.slice xa x.label.length xc, .slice oa x.own.length oc, .string x.text, .slice (ba) x.objects.length bc, .slice (ma) x.mails.length mc] (postC k css n)), (g1, 46, [.slice none 0 0, .slice none 0 0, .string ⟨#[]⟩, .slice none 0 0, .slice none 0 0]), (g2, 46, [.slice xa x.label.length xc, .slice oa x.own.length oc, .string x.text, .slice (ba) x.objects.length bc, .slice (ma) x.mails.length mc]), (g6, 46, [.slice la x.label.length lc, .slice na x.own.length nc, .string x.text, .slice none 0 0, .slice none 0 0])] ∧ SlR (fun b => w.heap.size ≤ b ∧ b < wx.heap.size ∧ b ∉ [g, g1, g2, g6]) wx 2 RLev la lc x.label ∧ SlR (fun b => w.heap.size ≤ b ∧ b < wx.heap.size ∧ b ∉ [g, g1, g2, g6]) wx 1 RInt na nc x.own)
  case first =>
    have st := st.drew
    have hI := st
    refine lex_region (by kernel_rfl) 11 rfl (fun W => St [g] w W [(g, 60, winC (preC k css n) [.slice xa x.label.length xc, .slice oa x.own.length oc, .string x.text, .slice (ba) x.objects.length bc, .slice (ma) x.mails.length mc] (postC k css n)), (g1, 46, [.slice none 0 0, .slice none 0 0, .string ⟨#[]⟩, .slice none 0 0, .slice none 0 0]), (g2, 46, [.slice xa x.label.length xc, .slice oa x.own.length oc, .string x.text, .slice (ba) x.objects.length bc, .slice (ma) x.mails.length mc])]) ?_
    refine lex_take 0 rfl (by decide +kernel) (by first | exact wanted_none rfl | exact wanted_some rfl rfl) hI (fun W hW => by first | (go_simp; done) | (go_simp; rfl)) ?_; simp only [Act.put, List.setIfInBounds_toArray, List.set_cons_succ, List.set_cons_zero]
    refine lex_take 1 rfl (by decide +kernel) (by first | exact wanted_none rfl | exact wanted_some rfl rfl) hI (fun W hW => St.run_load hW 2 24 _ rfl Try.isAgg24 rfl rfl rfl) ?_; simp only [Act.put, List.setIfInBounds_toArray, List.set_cons_succ, List.set_cons_zero]
    refine lex_take 3 rfl (by decide +kernel) (by first | exact wanted_none rfl | exact wanted_some rfl rfl) hI (fun W hW => by first | (go_simp; done) | (go_simp; rfl)) ?_; simp only [Act.put, List.setIfInBounds_toArray, List.set_cons_succ, List.set_cons_zero]
    refine lex_take 4 rfl (by decide +kernel) (by first | exact wanted_none rfl | exact wanted_some rfl rfl) hI (fun W hW => St.run_load hW 2 25 _ rfl Try.isAgg25 rfl rfl rfl) ?_; simp only [Act.put, List.setIfInBounds_toArray, List.set_cons_succ, List.set_cons_zero]
    refine lex_take 6 rfl (by decide +kernel) (by first | exact wanted_none rfl | exact wanted_some rfl rfl) hI (fun W hW => by first | (go_simp; done) | (go_simp; rfl)) ?_; simp only [Act.put, List.setIfInBounds_toArray, List.set_cons_succ, List.set_cons_zero]
    refine lex_take 7 rfl (by decide +kernel) (by first | exact wanted_none rfl | exact wanted_some rfl rfl) hI (fun W hW => St.run_load hW 2 9 _ rfl Try.isAgg9 rfl rfl rfl) ?_; simp only [Act.put, List.setIfInBounds_toArray, List.set_cons_succ, List.set_cons_zero]
    clear hI
    refine lex_each [2, 9] (by decide +kernel) (by decide) ?_; intro i hi K hK; simp only [List.mem_cons, List.not_mem_nil, or_false] at hi; rcases hi with rfl | rfl <;> refine ⟨_, rfl, (by first | exact wanted_none rfl | exact wanted_some rfl rfl), ?_⟩
    · refine wp_callee (f := 23) (by first | (go_simp; done) | (go_simp; rfl)) ?_
      refine (HL.out _ _ st).mono ?_
      rintro e v4 ⟨a4, k4, rfl, hb4, hO4⟩
      have hz4 := st.size
      refine ⟨_, rfl, ?_⟩
      replace st := st.call hb4
      clear hb4
      refine hK _ _ (st) ?_; clear hK; simp only [Act.put, List.setIfInBounds_toArray, List.set_cons_succ, List.set_cons_zero]
      refine lex_each [5, 9] (by decide +kernel) (by decide) ?_; intro i hi K hK; simp only [List.mem_cons, List.not_mem_nil, or_false] at hi; rcases hi with rfl | rfl <;> refine ⟨_, rfl, (by first | exact wanted_none rfl | exact wanted_some rfl rfl), ?_⟩
      · refine wp_callee (f := 28) (by first | (go_simp; done) | (go_simp; rfl)) ?_
        refine (HN.out _ _ st).mono ?_
        rintro e v5 ⟨a5, k5, rfl, hb5, hO5⟩
        have hz5 := st.size
        refine ⟨_, rfl, ?_⟩
        replace st := st.call hb5
        replace hO4 := hO4.below hb5
        clear hb5
        have hI := st
        refine hK _ _ (hI) ?_; clear hK; simp only [Act.put, List.setIfInBounds_toArray, List.set_cons_succ, List.set_cons_zero]
        refine lex_take 8 rfl (by decide +kernel) (by first | exact wanted_none rfl | exact wanted_some rfl rfl) hI (fun W hW => by first | (go_simp; done) | (go_simp; rfl)) ?_; simp only [Act.put, List.setIfInBounds_toArray, List.set_cons_succ, List.set_cons_zero]
        clear hI
        refine lex_only 9 rfl (by decide +kernel) (by first | exact wanted_none rfl | exact wanted_some rfl rfl) fun K hK => ?_
        refine wp_alloc st 46 rfl _ Try.zeroValue46 _ rfl ?_; clear st; intro g6 w6 hg6 st hg6b; simp [Act.eval, Act.put, Value.cells, putL] at st
        replace hO4 := hO4.below hg6b
        replace hO5 := hO5.below hg6b
        clear hg6b
        refine hK _ _ (st.take 3) ?_; clear hK; simp only [Act.put, List.setIfInBounds_toArray, List.set_cons_succ, List.set_cons_zero]
        refine lex_only 10 rfl (by decide +kernel) (by first | exact wanted_none rfl | exact wanted_some rfl rfl) fun K hK => ?_
        have hn : (g : Nat) ≠ g6 ∧ g1 ≠ g6 ∧ g2 ≠ g6 := by
          have := st.ne
          simp only [List.pairwise_cons, List.mem_cons, List.not_mem_nil, or_false, forall_eq_or_imp, forall_eq] at this
          exact ⟨this.1.2.2, this.2.1.2, this.2.2.1⟩
        have h6b := st.blk _ (List.mem_of_getElem? (i := 3) rfl)
        refine wp_store' st 46 _ _ rfl _ Try.sizeOf46 ⟨3, _, _, _, _, _, rfl, rfl, rfl, rfl, rfl, rfl, ?_⟩; clear st; intro w7 st hw7m hw7z; simp [Act.eval, Act.put, Value.cells, putL] at st
        replace hO4 := hO4.stored h6b (by simp) hw7m
        replace hO5 := hO5.stored h6b (by simp) hw7m
        clear h6b hw7m hw7z
        refine hK _ _ (st.take 3) ?_; clear hK; simp only [Act.put, List.setIfInBounds_toArray, List.set_cons_succ, List.set_cons_zero]
        refine lex_done (by decide +kernel) ?_
        go_wp2_with fail
        go_meet
        exact ⟨g6, a4, k4, a5, k5, rfl, st, (hO4.slrS st (by simp)).okay fun b hb => ⟨by omega, hb.2.1, by simpa using hb.2.2⟩, (hO5.slrS st (by simp)).okay fun b hb => ⟨by omega, hb.2.1, by simpa using hb.2.2⟩⟩
      · refine wp_alloc st 46 rfl _ Try.zeroValue46 _ rfl ?_; clear st; intro g6 w6 hg6 st hg6b; simp [Act.eval, Act.put, Value.cells, putL] at st
        replace hO4 := hO4.below hg6b
        clear hg6b
        refine hK _ _ (st.take 3) ?_; clear hK; simp only [Act.put, List.setIfInBounds_toArray, List.set_cons_succ, List.set_cons_zero]
        refine lex_only 5 rfl (by decide +kernel) (by first | exact wanted_none rfl | exact wanted_some rfl rfl) fun K hK => ?_
        refine wp_callee (f := 28) (by first | (go_simp; done) | (go_simp; rfl)) ?_
        refine (HN.out _ _ st).mono ?_
        rintro e v5 ⟨a5, k5, rfl, hb5, hO5⟩
        have hz5 := st.size
        refine ⟨_, rfl, ?_⟩
        replace st := st.call hb5
        replace hO4 := hO4.below hb5
        clear hb5
        have hI := st.take 3
        refine hK _ _ (hI) ?_; clear hK; simp only [Act.put, List.setIfInBounds_toArray, List.set_cons_succ, List.set_cons_zero]
        refine lex_take 8 rfl (by decide +kernel) (by first | exact wanted_none rfl | exact wanted_some rfl rfl) hI (fun W hW => by first | (go_simp; done) | (go_simp; rfl)) ?_; simp only [Act.put, List.setIfInBounds_toArray, List.set_cons_succ, List.set_cons_zero]
        clear hI
        refine lex_only 10 rfl (by decide +kernel) (by first | exact wanted_none rfl | exact wanted_some rfl rfl) fun K hK => ?_
        have hn : (g : Nat) ≠ g6 ∧ g1 ≠ g6 ∧ g2 ≠ g6 := by
          have := st.ne
          simp only [List.pairwise_cons, List.mem_cons, List.not_mem_nil, or_false, forall_eq_or_imp, forall_eq] at this
          exact ⟨this.1.2.2, this.2.1.2, this.2.2.1⟩
        have h6b := st.blk _ (List.mem_of_getElem? (i := 3) rfl)
        refine wp_store' st 46 _ _ rfl _ Try.sizeOf46 ⟨3, _, _, _, _, _, rfl, rfl, rfl, rfl, rfl, rfl, ?_⟩; clear st; intro w7 st hw7m hw7z; simp [Act.eval, Act.put, Value.cells, putL] at st
        replace hO4 := hO4.stored h6b (by simp) hw7m
        replace hO5 := hO5.stored h6b (by simp) hw7m
        clear h6b hw7m hw7z
        refine hK _ _ (st.take 3) ?_; clear hK; simp only [Act.put, List.setIfInBounds_toArray, List.set_cons_succ, List.set_cons_zero]
        refine lex_done (by decide +kernel) ?_
        go_wp2_with fail
        go_meet
        exact ⟨g6, a4, k4, a5, k5, rfl, st, (hO4.slrS st (by simp)).okay fun b hb => ⟨by omega, hb.2.1, by simpa using hb.2.2⟩, (hO5.slrS st (by simp)).okay fun b hb => ⟨by omega, hb.2.1, by simpa using hb.2.2⟩⟩
    · refine wp_alloc st 46 rfl _ Try.zeroValue46 _ rfl ?_; clear st; intro g6 w6 hg6 st hg6b; simp [Act.eval, Act.put, Value.cells, putL] at st
      clear hg6b
      refine hK _ _ (st.take 3) ?_; clear hK; simp only [Act.put, List.setIfInBounds_toArray, List.set_cons_succ, List.set_cons_zero]
      refine lex_only 2 rfl (by decide +kernel) (by first | exact wanted_none rfl | exact wanted_some rfl rfl) fun K hK => ?_
      refine wp_callee (f := 23) (by first | (go_simp; done) | (go_simp; rfl)) ?_
      refine (HL.out _ _ st).mono ?_
      rintro e v4 ⟨a4, k4, rfl, hb4, hO4⟩
      have hz4 := st.size
      refine ⟨_, rfl, ?_⟩
      replace st := st.call hb4
      clear hb4
      refine hK _ _ (st.take 3) ?_; clear hK; simp only [Act.put, List.setIfInBounds_toArray, List.set_cons_succ, List.set_cons_zero]
      refine lex_only 5 rfl (by decide +kernel) (by first | exact wanted_none rfl | exact wanted_some rfl rfl) fun K hK => ?_
      refine wp_callee (f := 28) (by first | (go_simp; done) | (go_simp; rfl)) ?_
      refine (HN.out _ _ st).mono ?_
      rintro e v5 ⟨a5, k5, rfl, hb5, hO5⟩
      have hz5 := st.size
      refine ⟨_, rfl, ?_⟩
      replace st := st.call hb5
      replace hO4 := hO4.below hb5
      clear hb5
      have hI := st.take 3
      refine hK _ _ (hI) ?_; clear hK; simp only [Act.put, List.setIfInBounds_toArray, List.set_cons_succ, List.set_cons_zero]
      refine lex_take 8 rfl (by decide +kernel) (by first | exact wanted_none rfl | exact wanted_some rfl rfl) hI (fun W hW => by first | (go_simp; done) | (go_simp; rfl)) ?_; simp only [Act.put, List.setIfInBounds_toArray, List.set_cons_succ, List.set_cons_zero]
      clear hI
      refine lex_only 10 rfl (by decide +kernel) (by first | exact wanted_none rfl | exact wanted_some rfl rfl) fun K hK => ?_
      have hn : (g : Nat) ≠ g6 ∧ g1 ≠ g6 ∧ g2 ≠ g6 := by
        have := st.ne
        simp only [List.pairwise_cons, List.mem_cons, List.not_mem_nil, or_false, forall_eq_or_imp, forall_eq] at this
        exact ⟨this.1.2.2, this.2.1.2, this.2.2.1⟩
      have h6b := st.blk _ (List.mem_of_getElem? (i := 3) rfl)
      refine wp_store' st 46 _ _ rfl _ Try.sizeOf46 ⟨3, _, _, _, _, _, rfl, rfl, rfl, rfl, rfl, rfl, ?_⟩; clear st; intro w7 st hw7m hw7z; simp [Act.eval, Act.put, Value.cells, putL] at st
      replace hO4 := hO4.stored h6b (by simp) hw7m
      replace hO5 := hO5.stored h6b (by simp) hw7m
      clear h6b hw7m hw7z
      refine hK _ _ (st.take 3) ?_; clear hK; simp only [Act.put, List.setIfInBounds_toArray, List.set_cons_succ, List.set_cons_zero]
      refine lex_done (by decide +kernel) ?_
      go_wp2_with fail
      go_meet
      exact ⟨g6, a4, k4, a5, k5, rfl, st, (hO4.slrS st (by simp)).okay fun b hb => ⟨by omega, hb.2.1, by simpa using hb.2.2⟩, (hO5.slrS st (by simp)).okay fun b hb => ⟨by omega, hb.2.1, by simpa using hb.2.2⟩⟩
  case rest =>
    obtain ⟨g6, la, lc, na, nc, rfl, st, hRl, hRn⟩ := hcut
    have hwz := st.size
    have hwg : g < wc.heap.size ∧ g1 < wc.heap.size ∧ g2 < wc.heap.size ∧ g6 < wc.heap.size := ⟨st.ltAt (i := 0) rfl, st.ltAt (i := 1) rfl, st.ltAt (i := 2) rfl, st.ltAt (i := 3) rfl⟩
    have stK := st
    have st := st.rebase
    simp only [List.map_cons, List.map_nil] at st
    obtain ⟨i0, hi, hz0, hz1, hz2⟩ := info_parts info_Object
    go_wp2_with (first | go_skip | (with_reducible refine at_load 43 ?_; (first | refine mem_load' st 43 _ rfl (wanted_none rfl) Try.isAgg43 ?_ | (refine mem_load' st 43 _ rfl (wanted_some rfl ?_) Try.isAgg43 ?_; focus (simp [yielded, Act.put]; done))); refine ⟨2, _, _, _, _, _, rfl, rfl, rfl, ?_⟩))
    go_loopw [40] (fun v40 wr => ∃ (j : Nat) (o : Option Addr) (c : Nat), j ≤ x.objects.length ∧ v40 = .int .i64 j ∧ St [g, g1, g2, g6] wc wr [(g, 60, winC (preC k css n) [.slice xa x.label.length xc, .slice oa x.own.length oc, .string x.text, .slice (ba) x.objects.length bc, .slice (ma) x.mails.length mc] (postC k css n)), (g1, 46, [.slice none 0 0, .slice none 0 0, .string ⟨#[]⟩, .slice none 0 0, .slice none 0 0]), (g2, 46, [.slice xa x.label.length xc, .slice oa x.own.length oc, .string x.text, .slice (ba) x.objects.length bc, .slice (ma) x.mails.length mc]), (g6, 46, [.slice la x.label.length lc, .slice na x.own.length nc, .string x.text, .slice o j c, .slice none 0 0])] ∧ Own wc.heap.size 56 wr 2 (RObj (besides wc.heap.size o) wr) o c (x.objects.take j)) (fun v40 _ => x.objects.length - (intOf v40).toNat)
    case atStart => exact ⟨0, none, 0, Nat.zero_le _, rfl, st, Own.nil _ _ _ _ _⟩
    case round =>
      clear st
      obtain ⟨j, o, c, hj, rfl, st, hO⟩ := hrel
      by_cases hlt : j < x.objects.length
      · have stW := St.back stK st
        obtain ⟨b, o1, la1, lc1, rfl, hbw, hb, hA, hC⟩ := (HO.out _ _ stW).obj_at j hlt
        have stR := st
        have st := st.rebase
        simp only [List.map_cons, List.map_nil] at st
        have HC := Lib.hid hC
        have h8 := HX.out _ (List.getElem_mem hlt)
        have HLv := Lib.hid (fun (W : World) (bl : Blks) (hW : St [g] w W bl) => kernel_levels (fun b => ok b ∧ b < w.heap.size) W la1 lc1 x.objects[j].label (by omega) (hA.keep (HKp.out W _ hW)))
        have hwr := stR.size
        have hd : decide ((j : Int) < x.objects.length) = true := by simp; omega
        clear hC
        go_wp2_with (first | go_skip | (with_reducible refine at_load 56 ?_; refine wpList_load_cells (wanted_none rfl) 56 _ rfl Try.isAgg56 _ Try.sizeOf56 b (o1 + j * 2) rfl [.slice la1 x.objects[j].label.length lc1, .string x.objects[j].text] rfl HC.out ?_) | (with_reducible refine at_alloc 56 ?_; refine mem_alloc st (wanted_none rfl) 56 rfl _ Try.zeroValue56 _ rfl ?_; clear st; intro g8 w8 hg8 st hg8b; clear hg8b; simp [Act.eval, Act.put, Value.cells, putL] at st) | (with_reducible refine at_store 56 ?_; (first | refine mem_store' st 56 _ _ rfl (wanted_none rfl) _ Try.sizeOf56 ?_ | (refine mem_store' st 56 _ _ rfl (wanted_some rfl ?_) _ Try.sizeOf56 ?_; focus (simp [yielded, Act.put]; done))); refine ⟨4, _, _, _, _, _, rfl, rfl, rfl, rfl, rfl, rfl, ?_⟩; clear st; intro w9 st hw9m hw9z; simp [Act.eval, Act.put, Value.cells, putL] at st))
        clear hw9m hw9z
        have st := st.drew
        have hI := St.back stR st
        refine lex_tail (by kernel_rfl) 11 1 [11] rfl (by decide +kernel) (fun W => St [g, g1, g2, g6] wc W [(g, 60, winC (preC k css n) [.slice xa x.label.length xc, .slice oa x.own.length oc, .string x.text, .slice (some ⟨b, o1, none⟩) x.objects.length bc, .slice (ma) x.mails.length mc] (postC k css n)), (g1, 46, [.slice none 0 0, .slice none 0 0, .string ⟨#[]⟩, .slice none 0 0, .slice none 0 0]), (g2, 46, [.slice xa x.label.length xc, .slice oa x.own.length oc, .string x.text, .slice (some ⟨b, o1, none⟩) x.objects.length bc, .slice (ma) x.mails.length mc]), (g6, 46, [.slice la x.label.length lc, .slice na x.own.length nc, .string x.text, .slice o j c, .slice none 0 0]), (g8, 56, [.slice la1 x.objects[j].label.length lc1, .string x.objects[j].text])]) ?_
        refine lex_take 0 rfl (by decide +kernel) (by first | exact wanted_none rfl | exact wanted_some rfl rfl) hI (fun W hW => by first | (go_simp; done) | (go_simp; rfl)) ?_; simp only [Act.put, List.setIfInBounds_toArray, List.set_cons_succ, List.set_cons_zero]
        refine lex_take 1 rfl (by decide +kernel) (by first | exact wanted_none rfl | exact wanted_some rfl rfl) hI (fun W hW => St.run_load hW 3 43 _ rfl Try.isAgg43 rfl rfl rfl) ?_; simp only [Act.put, List.setIfInBounds_toArray, List.set_cons_succ, List.set_cons_zero]
        refine lex_take 2 rfl (by decide +kernel) (by first | exact wanted_none rfl | exact wanted_some rfl rfl) hI (fun W hW => by first | (go_simp; done) | (go_simp; rfl)) ?_; simp only [Act.put, List.setIfInBounds_toArray, List.set_cons_succ, List.set_cons_zero]
        refine lex_take 3 rfl (by decide +kernel) (by first | exact wanted_none rfl | exact wanted_some rfl rfl) hI (fun W hW => St.run_load hW 4 24 _ rfl Try.isAgg24 rfl rfl rfl) ?_; simp only [Act.put, List.setIfInBounds_toArray, List.set_cons_succ, List.set_cons_zero]
        refine lex_take 5 rfl (by decide +kernel) (by first | exact wanted_none rfl | exact wanted_some rfl rfl) hI (fun W hW => by first | (go_simp; done) | (go_simp; rfl)) ?_; simp only [Act.put, List.setIfInBounds_toArray, List.set_cons_succ, List.set_cons_zero]
        refine lex_take 6 rfl (by decide +kernel) (by first | exact wanted_none rfl | exact wanted_some rfl rfl) hI (fun W hW => St.run_load hW 4 9 _ rfl Try.isAgg9 rfl rfl rfl) ?_; simp only [Act.put, List.setIfInBounds_toArray, List.set_cons_succ, List.set_cons_zero]
        clear hI
        refine lex_only 4 rfl (by decide +kernel) (by first | exact wanted_none rfl | exact wanted_some rfl rfl) fun K hK => ?_
        refine wp_callee (f := 23) (by first | (go_simp; done) | (go_simp; rfl)) ?_
        have hz4 := st.size
        refine (HLv.out _ _ (St.back stK (St.back stR st))).mono ?_
        rintro e v4 ⟨a4, k4, rfl, hb4, hO4⟩
        refine ⟨_, rfl, ?_⟩
        replace st := st.call hb4
        clear hb4
        have hI := St.back stR st
        refine hK _ _ (hI) ?_; clear hK; simp only [Act.put, List.setIfInBounds_toArray, List.set_cons_succ, List.set_cons_zero]
        refine lex_take 7 rfl (by decide +kernel) (by first | exact wanted_none rfl | exact wanted_some rfl rfl) hI (fun W hW => by first | (go_simp; done) | (go_simp; rfl)) ?_; simp only [Act.put, List.setIfInBounds_toArray, List.set_cons_succ, List.set_cons_zero]
        clear hI
        refine lex_only 8 rfl (by decide +kernel) (by first | exact wanted_none rfl | exact wanted_some rfl rfl) fun K hK => ?_
        refine wp_build1 st 43 56 _ rfl Try.underlying43 2 Try.sizeOf56 (by decide) (by decide) _ Try.zeroValue56 _ rfl rfl ?_; clear st; intro g10 w10 hg10 hg10e st hg10b hw10z; clear hg10e; simp [Act.eval, Act.put, Value.cells, putL] at st
        replace hO4 := hO4.below hg10b
        clear hg10b hw10z
        have hz10 := st.size
        have hBw : Below wr.heap.size wr w10 := stR.below2 st (by simp)
        have stD := St.back stR st
        clear st
        have st := stD
        clear stD
        refine hK _ _ (st.take 5) ?_; clear hK; simp only [Act.put, List.setIfInBounds_toArray, List.set_cons_succ, List.set_cons_zero]
        refine lex_only 9 rfl (by decide +kernel) (by first | exact wanted_none rfl | exact wanted_some rfl rfl) fun K hK => ?_
        have hOw : Own wc.heap.size 56 w10 2 (RObj (besides wc.heap.size o) w10) o c (x.objects.take j) := (hO.below hBw).mono fun _ _ r => r.move hBw.size fun b hb ho => ⟨ho, hBw.block b hb⟩
        refine wp_app1 _ _ 43 rfl 56 i0 _ 2 40 Try.underlying43 hi hz0 hz1 hz2 rfl (by decide) (y := x.objects[j]) rfl (by simp; omega) hOw rfl (SlR.ofBlk (ok := fun _ => True) (st.blk _ (List.mem_of_getElem? (i := 5) rfl)) ⟨a4, k4, rfl, hO4.slr fun b hb => ⟨by omega, fun e => by have := (hO.blockLt _ e).2; omega⟩⟩ rfl rfl trivial) (by simp; omega) (by simp [maxLen]; omega) (by omega) ?_
        intro g11 c11 w11 hO11 hgr hat hlt11
        replace st := (st.take 5).grownNew hgr (fun k hk => (hOw.blockLt k hk).1) (by
          intro y hy e
          have := (hOw.blockLt _ e).1
          simp only [List.take_succ_cons, List.take_zero, List.mem_cons, List.not_mem_nil, or_false] at hy
          rcases hy with rfl | rfl | rfl | rfl | rfl
          · simp only at this; omega
          · simp only at this; omega
          · simp only at this; omega
          · simp only at this; omega
          · have h2 := (hO.blockLt _ e).2
            simp only at h2; omega)
        simp only [List.take_succ_cons, List.take_zero] at st
        replace hO11 : Own wc.heap.size 56 w11 2 (RObj (besides wc.heap.size (some ⟨g11, 0, none⟩)) w11) (some ⟨g11, 0, none⟩) c11 (x.objects.take (j + 1)) := by
          rw [List.take_succ_eq_append_getElem hlt]
          exact hO11.mono fun _ _ r => r.move hgr.size fun b hb ho => ⟨⟨ho.1, fun e => by
            simp only [Option.map_some, Option.some.injEq] at e
            subst e
            rcases hat with hat | hat
            · exact ho.2 hat
            · omega⟩, hgr.block b hb fun e => ho.2 e.symm⟩
        clear hOw hO4 hO hgr hat
        have hI := st
        refine hK _ _ (hI) ?_; clear hK; simp only [Act.put, List.setIfInBounds_toArray, List.set_cons_succ, List.set_cons_zero]
        refine lex_take 10 rfl (by decide +kernel) (by first | exact wanted_none rfl | exact wanted_some rfl rfl) hI (fun W hW => by first | (go_simp; done) | (go_simp; rfl)) ?_; simp only [Act.put, List.setIfInBounds_toArray, List.set_cons_succ, List.set_cons_zero]
        clear hI
        refine lex_done (by decide +kernel) ?_
        refine tail_last 11 rfl (by first | exact wanted_none rfl | exact wanted_some rfl rfl) (by decide +kernel) (by decide +kernel) fun K hK => ?_
        have h6b := st.blk _ (List.mem_of_getElem? (i := 3) rfl)
        refine wp_store' st 43 _ _ rfl _ Try.sizeOf43 ⟨3, _, _, _, _, _, rfl, rfl, rfl, rfl, rfl, rfl, ?_⟩; clear st; intro w12 st hw12m hw12z; simp [Act.eval, Act.put, Value.cells, putL] at st
        replace hO11 := (hO11.stored h6b (by simp) hw12m).mono fun _ _ r => r.move (w' := w12) (by omega) fun b hb ho => (⟨ho, hw12m b (by have := ho.1; omega)⟩ : (besides wc.heap.size (some ⟨g11, 0, none⟩)) b ∧ _)
        refine hK _ _ ?_; clear hK
        go_wp2
        go_roundw
        case rel => exact ⟨j + 1, some ⟨g11, 0, none⟩, c11, hlt, by go_num, st.sub (by simp) (by simpa [List.pairwise_cons] using stK.ne), hO11⟩
        case measure => simp [intOf]; omega
      · obtain ⟨wm, rfl⟩ : ∃ W, W = wr := ⟨_, rfl⟩
        obtain rfl : j = x.objects.length := by omega
        have hd : decide ((x.objects.length : Int) < x.objects.length) = false := by simp
        have stW := St.back stK st
        rw [List.take_of_length_le (Nat.le_refl _)] at hO
        have hS := hO.slrS st (by simp)
        have hzr := st.size
        have hRo : SlR (fun b => w.heap.size ≤ b ∧ b < wm.heap.size ∧ b ∉ [g, g1, g2, g6]) wm 2 (RObj (fun b => w.heap.size ≤ b ∧ b < wm.heap.size ∧ b ∉ [g, g1, g2, g6]) wm) o c x.objects :=
          hS.okayR (fun b hb => ⟨by omega, hb.2.1, by simpa using hb.2.2⟩) fun _ _ r => r.move (Nat.le_refl _) fun b hb ho => ⟨⟨by have := ho.1; omega, hb, by have := ho.1; simp; omega⟩, rfl⟩
        have st1 := st
        have st := st.rebase
        simp only [List.map_cons, List.map_nil] at st
        have hwg2 : g < wm.heap.size ∧ g1 < wm.heap.size ∧ g2 < wm.heap.size ∧ g6 < wm.heap.size := by omega
        clear hO hS hz0 hz1 hz2 hi i0
        obtain ⟨i0, hi, hz0, hz1, hz2⟩ := info_parts info_Mail
        go_wp2_with (first | go_skip | (with_reducible refine at_load 44 ?_; (first | refine mem_load' st 44 _ rfl (wanted_none rfl) Try.isAgg44 ?_ | (refine mem_load' st 44 _ rfl (wanted_some rfl ?_) Try.isAgg44 ?_; focus (simp [yielded, Act.put]; done))); refine ⟨2, _, _, _, _, _, rfl, rfl, rfl, ?_⟩))
        go_loopw [59] (fun v59 wt => ∃ (j : Nat) (p : Option Addr) (d : Nat), j ≤ x.mails.length ∧ v59 = .int .i64 j ∧ St [g, g1, g2, g6] wm wt [(g, 60, winC (preC k css n) [.slice xa x.label.length xc, .slice oa x.own.length oc, .string x.text, .slice (ba) x.objects.length bc, .slice (ma) x.mails.length mc] (postC k css n)), (g1, 46, [.slice none 0 0, .slice none 0 0, .string ⟨#[]⟩, .slice none 0 0, .slice none 0 0]), (g2, 46, [.slice xa x.label.length xc, .slice oa x.own.length oc, .string x.text, .slice (ba) x.objects.length bc, .slice (ma) x.mails.length mc]), (g6, 46, [.slice la x.label.length lc, .slice na x.own.length nc, .string x.text, .slice o x.objects.length c, .slice p j d])] ∧ Own wm.heap.size 35 wt 5 (RMail (besides wm.heap.size p) wt) p d (x.mails.take j)) (fun v59 _ => x.mails.length - (intOf v59).toNat)
        case atStart => exact ⟨0, none, 0, Nat.zero_le _, rfl, st, Own.nil _ _ _ _ _⟩
        case round =>
          clear st
          obtain ⟨j, p, d, hj, rfl, st, hO⟩ := hrel
          by_cases hlt : j < x.mails.length
          · have stW2 := St.back stW st
            obtain ⟨b, o1, la1, lc1, ga1, gc1, rfl, hbw, hb, hA, hA2, hC⟩ := (HM.out _ _ stW2).mail_at j hlt
            have stR := st
            have st := st.rebase
            simp only [List.map_cons, List.map_nil] at st
            have HC := Lib.hid hC
            have h8 := HY.out _ (List.getElem_mem hlt)
            have HLv := Lib.hid (fun (W : World) (bl : Blks) (hW : St [g] w W bl) => kernel_mail (fun b => ok b ∧ b < w.heap.size) W x.mails[j] la1 lc1 ga1 gc1 (by omega) (by omega) ⟨hA.keep (HKp.out W _ hW), hA2.keep (HKp.out W _ hW)⟩)
            have hwt := stR.size
            have hd : decide ((j : Int) < x.mails.length) = true := by simp; omega
            clear hC
            go_wp2_with (first | go_skip | (with_reducible refine at_load 35 ?_; refine wpList_load_cells (wanted_none rfl) 35 _ rfl Try.isAgg35 _ Try.sizeOf35 b (o1 + j * 5) rfl [.int .i64 x.mails[j].host, .int .i64 x.mails[j].thread, .slice la1 x.mails[j].label.length lc1, .slice ga1 x.mails[j].grants.length gc1, .string x.mails[j].text] rfl HC.out ?_) | (with_reducible refine at_alloc 35 ?_; refine mem_alloc st (wanted_none rfl) 35 rfl _ Try.zeroValue35 _ rfl ?_; clear st; intro g8 w8 hg8 st hg8b; clear hg8b; simp [Act.eval, Act.put, Value.cells, putL] at st) | (with_reducible refine at_store 35 ?_; (first | refine mem_store' st 35 _ _ rfl (wanted_none rfl) _ Try.sizeOf35 ?_ | (refine mem_store' st 35 _ _ rfl (wanted_some rfl ?_) _ Try.sizeOf35 ?_; focus (simp [yielded, Act.put]; done))); refine ⟨4, _, _, _, _, _, rfl, rfl, rfl, rfl, rfl, rfl, ?_⟩; clear st; intro w9 st hw9m hw9z; simp [Act.eval, Act.put, Value.cells, putL] at st))
            clear hw9m hw9z
            have st := st.drew
            have hI := St.back stR st
            refine lex_tail (by kernel_rfl) 7 1 [7] rfl (by decide +kernel) (fun W => St [g, g1, g2, g6] wm W [(g, 60, winC (preC k css n) [.slice xa x.label.length xc, .slice oa x.own.length oc, .string x.text, .slice (ba) x.objects.length bc, .slice (some ⟨b, o1, none⟩) x.mails.length mc] (postC k css n)), (g1, 46, [.slice none 0 0, .slice none 0 0, .string ⟨#[]⟩, .slice none 0 0, .slice none 0 0]), (g2, 46, [.slice xa x.label.length xc, .slice oa x.own.length oc, .string x.text, .slice (ba) x.objects.length bc, .slice (some ⟨b, o1, none⟩) x.mails.length mc]), (g6, 46, [.slice la x.label.length lc, .slice na x.own.length nc, .string x.text, .slice o x.objects.length c, .slice p j d]), (g8, 35, [.int .i64 x.mails[j].host, .int .i64 x.mails[j].thread, .slice la1 x.mails[j].label.length lc1, .slice ga1 x.mails[j].grants.length gc1, .string x.mails[j].text])]) ?_
            refine lex_take 0 rfl (by decide +kernel) (by first | exact wanted_none rfl | exact wanted_some rfl rfl) hI (fun W hW => by first | (go_simp; done) | (go_simp; rfl)) ?_; simp only [Act.put, List.setIfInBounds_toArray, List.set_cons_succ, List.set_cons_zero]
            refine lex_take 1 rfl (by decide +kernel) (by first | exact wanted_none rfl | exact wanted_some rfl rfl) hI (fun W hW => St.run_load hW 3 44 _ rfl Try.isAgg44 rfl rfl rfl) ?_; simp only [Act.put, List.setIfInBounds_toArray, List.set_cons_succ, List.set_cons_zero]
            refine lex_take 2 rfl (by decide +kernel) (by first | exact wanted_none rfl | exact wanted_some rfl rfl) hI (fun W hW => St.run_load_agg hW 4 35 _ rfl Try.isAgg35 _ Try.sizeOf35 rfl rfl rfl rfl) ?_; simp only [Act.put, List.setIfInBounds_toArray, List.set_cons_succ, List.set_cons_zero]
            clear hI
            refine lex_only 3 rfl (by decide +kernel) (by first | exact wanted_none rfl | exact wanted_some rfl rfl) fun K hK => ?_
            refine wp_callee (f := 29) (by first | (go_simp; done) | (go_simp; rfl)) ?_
            have hz4 := st.size
            refine (HLv.out _ _ (St.back stW (St.back stR st))).mono ?_
            rintro e v4 ⟨a4, k4, a5, k5, rfl, hb4, hO4⟩
            refine ⟨_, rfl, ?_⟩
            replace st := st.call hb4
            clear hb4
            have hI := St.back stR st
            refine hK _ _ (hI) ?_; clear hK; simp only [Act.put, List.setIfInBounds_toArray, List.set_cons_succ, List.set_cons_zero]
            clear hI
            refine lex_only 4 rfl (by decide +kernel) (by first | exact wanted_none rfl | exact wanted_some rfl rfl) fun K hK => ?_
            refine wp_build1 st 44 35 _ rfl Try.underlying44 5 Try.sizeOf35 (by decide) (by decide) _ Try.zeroValue35 _ rfl rfl ?_; clear st; intro g10 w10 hg10 hg10e st hg10b hw10z; clear hg10e; simp [Act.eval, Act.put, Value.cells, putL] at st
            replace hO4 := hO4.below hg10b
            clear hg10b hw10z
            have hz10 := st.size
            have hBw : Below wr.heap.size wr w10 := stR.below2 st (by simp)
            have stD := St.back stR st
            clear st
            have st := stD
            clear stD
            refine hK _ _ (st.take 5) ?_; clear hK; simp only [Act.put, List.setIfInBounds_toArray, List.set_cons_succ, List.set_cons_zero]
            refine lex_only 5 rfl (by decide +kernel) (by first | exact wanted_none rfl | exact wanted_some rfl rfl) fun K hK => ?_
            have hOw : Own wm.heap.size 35 w10 5 (RMail (besides wm.heap.size p) w10) p d (x.mails.take j) := (hO.below hBw).mono fun _ _ r => r.move hBw.size fun b hb ho => ⟨ho, hBw.block b hb⟩
            have hne : ∀ b, w9.drew.heap.size ≤ b → besides wm.heap.size p b := fun b hb => ⟨by omega, fun e => by have := (hO.blockLt _ e).2; omega⟩
            refine wp_app1 _ _ 44 rfl 35 i0 _ 5 80 Try.underlying44 hi hz0 hz1 hz2 rfl (by decide) (y := x.mails[j]) rfl (by simp; omega) hOw rfl (SlR.ofBlk (ok := fun _ => True) (st.blk _ (List.mem_of_getElem? (i := 5) rfl)) ⟨a4, k4, a5, k5, rfl, hO4.label.okay hne, hO4.grants.okay hne⟩ rfl rfl trivial) (by simp; omega) (by simp [maxLen]; omega) (by omega) ?_
            intro g11 c11 w11 hO11 hgr hat hlt11
            replace st := (st.take 5).grownNew hgr (fun k hk => (hOw.blockLt k hk).1) (by
              intro y hy e
              have := (hOw.blockLt _ e).1
              simp only [List.take_succ_cons, List.take_zero, List.mem_cons, List.not_mem_nil, or_false] at hy
              rcases hy with rfl | rfl | rfl | rfl | rfl
              · simp only at this; omega
              · simp only at this; omega
              · simp only at this; omega
              · simp only at this; omega
              · have h2 := (hO.blockLt _ e).2
                simp only at h2; omega)
            simp only [List.take_succ_cons, List.take_zero] at st
            replace hO11 : Own wm.heap.size 35 w11 5 (RMail (besides wm.heap.size (some ⟨g11, 0, none⟩)) w11) (some ⟨g11, 0, none⟩) c11 (x.mails.take (j + 1)) := by
              rw [List.take_succ_eq_append_getElem hlt]
              exact hO11.mono fun _ _ r => r.move hgr.size fun b hb ho => ⟨⟨ho.1, fun e => by
                simp only [Option.map_some, Option.some.injEq] at e
                subst e
                rcases hat with hat | hat
                · exact ho.2 hat
                · omega⟩, hgr.block b hb fun e => ho.2 e.symm⟩
            clear hOw hO4 hO hgr hat hne
            have hI := st
            refine hK _ _ (hI) ?_; clear hK; simp only [Act.put, List.setIfInBounds_toArray, List.set_cons_succ, List.set_cons_zero]
            refine lex_take 6 rfl (by decide +kernel) (by first | exact wanted_none rfl | exact wanted_some rfl rfl) hI (fun W hW => by first | (go_simp; done) | (go_simp; rfl)) ?_; simp only [Act.put, List.setIfInBounds_toArray, List.set_cons_succ, List.set_cons_zero]
            clear hI
            refine lex_done (by decide +kernel) ?_
            refine tail_last 7 rfl (by first | exact wanted_none rfl | exact wanted_some rfl rfl) (by decide +kernel) (by decide +kernel) fun K hK => ?_
            have h6b := st.blk _ (List.mem_of_getElem? (i := 3) rfl)
            refine wp_store' st 44 _ _ rfl _ Try.sizeOf44 ⟨3, _, _, _, _, _, rfl, rfl, rfl, rfl, rfl, rfl, ?_⟩; clear st; intro w12 st hw12m hw12z; simp [Act.eval, Act.put, Value.cells, putL] at st
            replace hO11 := (hO11.stored h6b (by simp) hw12m).mono fun _ _ r => r.move (w' := w12) (by omega) fun b hb ho => (⟨ho, hw12m b (by have := ho.1; omega)⟩ : (besides wm.heap.size (some ⟨g11, 0, none⟩)) b ∧ _)
            refine hK _ _ ?_; clear hK
            go_wp2
            go_roundw
            case rel => exact ⟨j + 1, some ⟨g11, 0, none⟩, c11, hlt, by go_num, st.sub (by simp) (by simpa [List.pairwise_cons] using stK.ne), hO11⟩
            case measure => simp [intOf]; omega
          · obtain rfl : j = x.mails.length := by omega
            have hd : decide ((x.mails.length : Int) < x.mails.length) = false := by simp
            rw [List.take_of_length_le (Nat.le_refl _)] at hO
            have hS2 := hO.slrS st (by simp)
            have hzt := st.size
            have hne := stK.ne
            simp only [List.pairwise_cons, List.mem_cons, List.not_mem_nil, or_false, forall_eq_or_imp, forall_eq] at hne
            have hRm : SlR (fun b => w.heap.size ≤ b ∧ b < wr.heap.size ∧ b ∉ [g, g1, g2, g6]) wr 5 (RMail (fun b => w.heap.size ≤ b ∧ b < wr.heap.size ∧ b ∉ [g, g1, g2, g6]) wr) p d x.mails :=
              hS2.okayR (fun b hb => ⟨by omega, hb.2.1, by simpa using hb.2.2⟩) fun _ _ r => r.move (Nat.le_refl _) fun b hb ho => ⟨⟨by have := ho.1; omega, hb, by have := ho.1; simp; omega⟩, rfl⟩
            have hk1 : ∀ b, b < wc.heap.size → b ∉ [g, g1, g2, g6] → wr.heap[b]? = wc.heap[b]? := fun b hb hn => (st.frame b (by have := st1.size; omega) hn).trans (st1.frame b hb hn)
            have hk2 : ∀ b, b < wm.heap.size → b ∉ [g, g1, g2, g6] → wr.heap[b]? = wm.heap[b]? := fun b hb hn => st.frame b hb hn
            have hz1 := st1.size
            have hT1 : ThrS (fun b => w.heap.size ≤ b ∧ b < wr.heap.size ∧ b ∉ [g, g1, g2, g6]) wr x la lc na nc o c p d :=
              ⟨hRl.move (by omega) (fun b hb ho => ⟨⟨ho.1, by omega, ho.2.2⟩, hk1 b hb ho.2.2⟩) fun _ _ r => r, hRn.move (by omega) (fun b hb ho => ⟨⟨ho.1, by omega, ho.2.2⟩, hk1 b hb ho.2.2⟩) fun _ _ r => r,
                hRo.move (by omega) (fun b hb ho => ⟨⟨ho.1, by omega, ho.2.2⟩, hk2 b hb ho.2.2⟩) fun _ _ r => r.move (by omega) fun b hb ho => ⟨⟨ho.1, by omega, ho.2.2⟩, hk2 b hb ho.2.2⟩, hRm⟩
            have stF := St.back stW st
            clear hS2 hO st hRl hRn hRo hRm hk1 hk2
            have st := stF
            clear stF
            have HT1 := Lib.hid hT1
            go_wp2_with (first | go_skip | (with_reducible refine at_load 46 ?_; (first | refine mem_load_agg' st 46 _ rfl (wanted_none rfl) Try.isAgg46 _ Try.sizeOf46 ?_ | (refine mem_load_agg' st 46 _ rfl (wanted_some rfl ?_) Try.isAgg46 _ Try.sizeOf46 ?_; focus (simp [yielded, Act.put]; done))); refine ⟨3, _, _, _, _, _, rfl, rfl, rfl, rfl, ?_⟩) | (with_reducible refine at_store 46 ?_; (first | refine mem_store' st 46 _ _ rfl (wanted_none rfl) _ Try.sizeOf46 ?_ | (refine mem_store' st 46 _ _ rfl (wanted_some rfl ?_) _ Try.sizeOf46 ?_; focus (simp [yielded, Act.put]; done))); refine ⟨1, _, _, _, _, _, rfl, rfl, rfl, rfl, rfl, rfl, ?_⟩; clear st; intro w13 st hw13m hw13z; simp [Act.eval, Act.put, Value.cells, putL] at st))
            have hc := fun j => st.cell (i := 1) rfl j
            refine bodyPost_ret (v := thrV x la lc na nc o c p d) ?hr rfl ⟨la, lc, na, nc, o, c, p, d, rfl, HB.out _ _ st (by simp), HT1.out.move (by omega) fun b hb ho => ⟨ho.1, hw13m b fun e => ho.2.2 (by simp [e])⟩⟩
            case hr => simp [results, Try.results13, go_sem, hc, thrV, putL]; try rfl

end Go.Proofs.Ytnkfemjmfalamaa

/- The walk through kernel.New, and pick. -/
namespace Go.Proofs.Ytnkfemjmfalamaa
open Go.RowKit

def zeroC : List Value := [.slice none 0 0, .slice none 0 0, .string ⟨#[]⟩, .slice none 0 0, .slice none 0 0]

set_option maxRecDepth 100000 in
theorem kernel_New (w : World) (h : Int) (h0 : 0 ≤ h) (h4 : h < 4) : Calls Try.prog 8 #[.int .i64 h] w fun e w' => ∃ g, e = .returned (.tuple #[.pointer (some ⟨g, 0, none⟩), .int .i64 0]) ∧ w.heap.size ≤ g ∧
    St [] w w' [(g, 60, .int .i64 h :: (([zeroC, zeroC, zeroC, zeroC] : List (List Value)).flatten ++ [.int .i64 0]))] := by
  have d1 : decide (h < 0) = false := by simp; omega
  have d2 : decide ((4 : Int) ≤ h) = false := by simp; omega
  have st := St.start w
  go_enter Try.func8, Try.ntmps8
  go_wp2_with (first | go_skip | (with_reducible refine at_box 60 ?_; refine mem_box st (wanted_none rfl) 60 _ rfl _ rfl _ rfl ?_; clear st; intro g1 w1 hg1 st hg1b; clear hg1b; simp [Act.eval, Act.put, Value.cells, putL] at st))
  go_ret2
  exact ⟨g1, rfl, hg1, st⟩

/-- What is new is a kernel of which nothing is known. -/
theorem KerAt.new {w0 w : World} {g : Nat} {h : Int} {own : Blks} {M : List Nat} (st : St M w0 w own) (hm : (g, 60, .int .i64 h :: (([zeroC, zeroC, zeroC, zeroC] : List (List Value)).flatten ++ [.int .i64 0])) ∈ own) (ok : Nat → Prop) (hg : ¬ ok g) : KerAt ok w g (newK h) [zeroC, zeroC, zeroC, zeroC] [[], [], [], []] := by
  have hz : ∀ i : Nat, ([zeroT, zeroT, zeroT, zeroT] : List Thr)[i]? = if i < 4 then some zeroT else none := fun i => by
    match i with | 0 => rfl | 1 => rfl | 2 => rfl | 3 => rfl | i + 4 => simp
  have hc : ∀ i : Nat, ([zeroC, zeroC, zeroC, zeroC] : List (List Value))[i]? = if i < 4 then some zeroC else none := fun i => by
    match i with | 0 => rfl | 1 => rfl | 2 => rfl | 3 => rfl | i + 4 => simp
  have hB : ∀ i : Nat, ([[], [], [], []] : List (List Nat))[i]? = if i < 4 then some [] else none := fun i => by
    match i with | 0 => rfl | 1 => rfl | 2 => rfl | 3 => rfl | i + 4 => simp
  refine ⟨rfl, rfl, rfl, fun i x cs B e1 e2 e3 => ?_, st.blk _ hm, by simp, by simpa using hg⟩
  unfold newK at e1
  simp only at e1
  rw [hz] at e1
  rw [hc] at e2
  rw [hB] at e3
  split at e1
  · rename_i hi
    rw [if_pos hi] at e2 e3
    cases e1; cases e2; cases e3
    exact ⟨none, 0, none, 0, none, 0, none, 0, rfl, ⟨SlR.nil _ _ _ _, SlR.nil _ _ _ _, RowAt.nil _ _ _ _, RowAt.nil _ _ _ _⟩, rfl⟩
  · cases e1

/-- The worlds behind a call of a kernel's. -/
theorem St.callK {M M' : List Nat} {w0 w w' : World} {own : Blks} (h : St M w0 w own) (h' : St M' w w' []) (hn : ∀ x ∈ own, x.1 ∉ M') (hM : ∀ b ∈ M', b ∈ M ∨ w0.heap.size ≤ b) : St M w0 w' own :=
  ⟨h'.os.trans h.os, h'.tape.trans h.tape, h'.output.trans h.output, Nat.le_trans h.size h'.size, fun b hb hm => by
    rw [h'.frame b (Nat.lt_of_lt_of_le hb h.size) fun hm' => ?_, h.frame b hb hm]
    rcases hM b hm' with h1 | h1
    · exact hm h1
    · omega, fun x hx => by
    have := h.blk x hx
    rw [h'.frame x.1 (Array.getElem?_eq_some_iff.1 this).1 (hn x hx), this], h.mine, h.ne⟩

end Go.Proofs.Ytnkfemjmfalamaa
