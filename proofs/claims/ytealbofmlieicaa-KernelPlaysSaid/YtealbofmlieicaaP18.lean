/- Walks and plain laws, part 18. -/
import Derived.Test.YtealbofmlieicaaP16
import Derived.Test.YtealbofmlieicaaP17
import Derived.Deep.LoopGhost
import Derived.Deep.DeepCutAuto
import Derived.Deep.CutBlock
set_option linter.unusedSimpArgs false
set_option linter.unusedVariables false
set_option maxHeartbeats 16000000
set_option maxRecDepth 100000
namespace Go.Proofs.Ytealbofmlieicaa
open Go.RowKit
theorem ownC_lo (l : List Int) (c : Int) : (ownC l c).2 = 0 ∨ ((ownC l c).2 = 5 ∧ (ownC l c).1 = l) := by
 unfold ownC
 split
 ·exact .inl rfl
 ·split
  ·exact .inr ⟨rfl, rfl⟩
  ·exact .inl rfl
theorem insI_length {x : Int} {l : List Int} : (insI x l).length ≤ l.length + 1 := by
 induction l with
 | nil => simp [insI]
 | cons y l ih =>
  rw [insI.eq_2]
  split
  ·simp
  ·split
   ·simp
   ·simp; omega
theorem ownC_ok {l : List Int} (hr : Rising l) (hl : l.length ≤ 8) (c : Int) : Rising (ownC l c).1 ∧ (ownC l c).1.length ≤ 8 := by
 unfold ownC
 split
 ·exact ⟨hr, hl⟩
 ·split
  ·exact ⟨hr, hl⟩
  ·exact ⟨insI_rising hr, by have := @insI_length c l; simp only; omega⟩
def RepV (r : Rep) : Value := .agg #[.int .i64 r.code, .int .i64 r.n, .string r.text]
def TakePost (ok : Nat → Prop) (w : World) (g : Nat) (pre post : List Value) (la : Option Addr) (lc : Nat) (ba : Option Addr) (bc : Nat) (ma : Option Addr) (r : Thr × Rep) (e : Ending) (w' : World) : Prop :=
 ∃ oa' oc' ma' mc', e = .returned (RepV r.2) ∧ St [g] w w' [(g, 58, winC pre (thrC r.1 la lc oa' oc' ba bc ma' mc') post)] ∧ SlR (fun b => ok b ∨ w.heap.size ≤ b) w' 1 RInt oa' oc' r.1.own ∧
  RowAt 42 w' 5 (RMail ok w) ma' mc' r.1.mails ∧ (∀ b, ma'.map (·.block) = some b → ma.map (·.block) = some b)
theorem kernel_take (ok : Nat → Prop) (w : World) (g p : Nat) (pre post : List Value) (x : Thr) (la : Option Addr) (lc : Nat) (oa : Option Addr) (oc : Nat) (ba : Option Addr) (bc : Nat) (ma : Option Addr) (mc : Nat) (hpre : pre.length = p) (hx : x.ok) (hR : ThrR ok w x la lc oa oc ba bc ma mc)
  (hg : ¬ ok g) (hgm : ma.map (·.block) ≠ some g) (hb : w.heap[g]? = some (.cells (winC pre (thrC x la lc oa oc ba bc ma mc) post).toArray 58 (0, 0))) :
  Calls Try.prog 38 #[.pointer (some ⟨g, 0, none⟩), .pointer (some ⟨g, p, none⟩)] w (TakePost ok w g pre post la lc ba bc ma (takeX x)) := by
 have hgl := (Array.getElem?_eq_some_iff.1 hb).1
 have st := St.hand hb
 unfold thrC at *
 clear hb
 have HKp := qh (show ∀ (W : World) (bl : Blks), St [g] w W bl → Keeps ok w W from fun W bl s => s.keeps (by simpa using hg))
 obtain ⟨h1, h2, h3, h4⟩ := hR
 have hxl := goodL_len hx.good; have hxo := hx.ownL; have hxt := hx.text; have hxm := hx.mailN
 have HM := qh hx.mail
 have HR := qh hx.own
 go_enter Try.func38, Try.ntmps38
 go_wp2_with (first | go_skip | (with_reducible refine mA st Try.zeroValue52 ?_; clear st; intro g4 w4 hg4 st))
 have hg4l := st.ltAt (i := 1) rfl
 have h40 := h4.kept (w' := w4) (R' := RMail ok w) (fun b hb => st.frame b (h4.lt hb) (by simp; rintro rfl; exact hgm hb)) fun _ _ h => h
 have hg4w : w.heap.size ≤ g4 := hg4
 simp only [kP, kA, kS, kZ]
 go_loopg [5] 6 (fun n v5 wr => ∃ (l : List Mail) (a' : Option Addr) (c' : Nat), l.length ≤ n ∧ (∀ m ∈ l, goodMailC m = 0) ∧ Hid (takeM x.label x.own x.mails = takeM x.label x.own l) ∧ St [g] w wr [(g, 58, winC pre [.slice la x.label.length lc, .slice oa x.own.length oc, .string x.text, .slice ba x.objects.length bc, .slice a' l.length c'] post), (g4, 52, [.int .i64 0, .int .i64 0, .string ⟨#[]⟩])] ∧ RowAt 42 wr 5 (RMail ok w) a' c' l ∧ (∀ b, a'.map (·.block) = some b → ma.map (·.block) = some b))
 case atStart => exact ⟨x.mails, ma, mc, hxm, HM.out, rfl, st, h40, fun _ h => h⟩
 case round =>
  clear st h40
  obtain ⟨l, a', c', hln, hlm, HT, st, hRow, hab⟩ := hrel
  cases l with
  | nil =>
   have HE : Hid (takeX x = ({ x with mails := [] }, errR 4)) := qh (by unfold takeX; rw [HT.out]; rfl)
   clear HT
   go_wp2_with (first | go_skip | (with_reducible refine at_load 33 ?_; (first | refine mem_loadW st 33 _ rfl (wanted_none rfl) Try.isAgg33 4 ?_ | (refine mem_loadW st 33 _ rfl (wanted_some rfl ?_) Try.isAgg33 4 ?_; focus (simp [yielded, Act.put]; done))); refine ⟨0, _, _, _, _, _, _, _, hpre, rfl, rfl, rfl, ?_⟩) | (with_reducible refine mS 1 st Try.sizeOf52 ?_; clear st; intro w9 st hw9m hw9z))
   have hc := fun j => st.cell (i := 1) rfl j
   refine bodyPost_ret (v := RepV (errR 4)) ?hr rfl ?_
   case hr => simp [results, Try.results38, go_sem, hc, RepV, errR]; try rfl
   rw [HE.out]
   refine ⟨oa, oc, a', c', rfl, st.sub (by simp [thrC]) (by simp), (h2.keep (HKp.out _ _ st)).okay fun _ h => .inl h, ?_, hab⟩
   exact hRow.kept (fun b hb => hw9m b (by rintro rfl; have := h4.lt (hab _ hb); omega)) fun _ _ h => h
  | cons m l =>
   have hgm4 := hlm m (by simp)
   have hl1 := hRow.1
   rcases hRow.2.2 with ⟨_, h0⟩ | ⟨gm, off, cells, rfl, hgb, hle, hx2⟩
   ·simp only [List.length_cons] at hl1; omega
   obtain ⟨cs, ⟨l1, k1, l2, k2, rfl, hA, hB⟩, hlen, h1c, hcell⟩ := hx2 0 m rfl
   have hgmx := hab gm rfl
   have hgmw := h4.lt hgmx
   have hne : gm ≠ g := fun e => hgm (by rw [hgmx, e])
   have HC := qh (show ∀ (j : Nat) (v : Value), [Value.int .i64 m.host, .int .i64 m.thread, .slice l1 m.label.length k1, .slice l2 m.grants.length k2, .string m.text][j]? = some v → wr.cell? ⟨gm, off + j, none⟩ = some v from fun j v hv => by
    rw [cell_of_row wr gm _ cells.toArray _ (0, 0) hgb]
    simpa using hcell j v hv)
   obtain ⟨q, rfl⟩ : ∃ q, c' = q + 1 := ⟨c' - 1, by simp only [List.length_cons] at hl1; omega⟩
   have hTail := qh hRow.tail
   obtain ⟨⟨q1, q2⟩, ⟨q3, q4⟩, q5, q6, q7⟩ := mail_facts hgm4
   have q8 := (grants_facts q6).1
   have q9 : m.label.length ≤ 8 := by unfold goodL at q5; by_cases h : m.label.length ≤ 8; exact h; rw [if_neg h] at q5; simp at q5
   clear q5 q6
   have hcm := hRow.2.1
   unfold maxLen at hcm
   have HGo := qh hRow
   clear hRow hcell hlen h1c hle hx2
   have st1 := st.rebase
   have stK := st
   clear st
   have st := st1
   clear st1
   simp only [List.map_cons, List.map_nil, List.length_cons] at st
   have hlq : l.length ≤ q := by simp only [List.length_cons] at hl1; omega
   go_upto_region 3 with (first
      | go_skip | (with_reducible refine at_load 33 ?_; (first | refine mem_loadW st 33 _ rfl (wanted_none rfl) Try.isAgg33 4 ?_ | (refine mem_loadW st 33 _ rfl (wanted_some rfl ?_) Try.isAgg33 4 ?_; focus (simp [yielded, Act.put]; done))); refine ⟨0, _, _, _, _, _, _, _, hpre, rfl, rfl, rfl, ?_⟩) | (with_reducible refine at_load 42 ?_; refine wpList_load_cells (wanted_none rfl) 42 _ rfl Try.isAgg42 _ Try.sizeOf42 gm off rfl [.int .i64 m.host, .int .i64 m.thread, .slice l1 m.label.length k1, .slice l2 m.grants.length k2, .string m.text] rfl HC.out ?_)
      | (with_reducible refine mA st Try.zeroValue42 ?_; clear st; intro g5 w5 hg5 st) | (with_reducible refine mS 2 st Try.sizeOf42 ?_; clear st; intro w6 st hw6m hw6z))
   have hgmr : gm < wr.heap.size := by have := stK.size; omega
   have h54 : g4 < wr.heap.size := stK.ltAt (i := 1) rfl
   have hgr : g < wr.heap.size := stK.ltAt (i := 0) rfl
   have hw6 : w6.heap[gm]? = wr.heap[gm]? := st.frame gm hgmr (by simp; omega)
   simp only [kP, kA, kS, kZ]
   go_cut [5] (fun s5 wx => ∃ (off' : Nat), s5 = .pointer (some ⟨g5, 0, none⟩) ∧ St [g, g4] wr wx [(g, 58, winC pre [.slice la x.label.length lc, .slice oa x.own.length oc, .string x.text, .slice ba x.objects.length bc, .slice (some ⟨gm, off', none⟩) l.length q] post), (g4, 52, [.int .i64 0, .int .i64 0, .string ⟨#[]⟩]), (g5, 42, [.int .i64 m.host, .int .i64 m.thread, .slice l1 m.label.length k1, .slice l2 m.grants.length k2, .string m.text])] ∧ RowAt 42 wr 5 (RMail ok w) (some ⟨gm, off', none⟩) q l)
   case first =>
    rcases Nat.eq_zero_or_pos q with hq | hq
    ·have HQ := qh (hTail.out.2 (by omega))
     subst hq
     have HL := qh hlq
     clear hlq
     go_wp2_with (first | go_skip | (with_reducible refine at_load 33 ?_; (first | refine mem_loadW st 33 _ rfl (wanted_none rfl) Try.isAgg33 4 ?_ | (refine mem_loadW st 33 _ rfl (wanted_some rfl ?_) Try.isAgg33 4 ?_; focus (simp [yielded, Act.put]; done))); refine ⟨0, _, _, _, _, _, _, _, hpre, rfl, rfl, rfl, ?_⟩) | (with_reducible refine at_store 33 ?_; refine mem_storeW st 33 _ _ rfl (wanted_none rfl) _ Try.sizeOf33 4 ?_; refine ⟨0, _, _, _, _, _, _, _, hpre, rfl, rfl, rfl, rfl, rfl, rfl, ?_⟩; clear st; intro w7 st hw7m hw7z; simp [Act.eval, Act.put, Value.cells, putL] at st))
     go_meet
     exact ⟨off, rfl, st, HQ.out⟩
    ·have HQ := qh hTail.out.1
     go_wp2_with (first | go_skip | (with_reducible refine at_load 33 ?_; (first | refine mem_loadW st 33 _ rfl (wanted_none rfl) Try.isAgg33 4 ?_ | (refine mem_loadW st 33 _ rfl (wanted_some rfl ?_) Try.isAgg33 4 ?_; focus (simp [yielded, Act.put]; done))); refine ⟨0, _, _, _, _, _, _, _, hpre, rfl, rfl, rfl, ?_⟩) | (with_reducible refine at_store 33 ?_; refine mem_storeW st 33 _ _ rfl (wanted_none rfl) _ Try.sizeOf33 4 ?_; refine ⟨0, _, _, _, _, _, _, _, hpre, rfl, rfl, rfl, rfl, rfl, rfl, ?_⟩; clear st; intro w7 st hw7m hw7z; simp [Act.eval, Act.put, Value.cells, putL] at st))
     go_meet
     rw [if_neg (by omega)] at st
     exact ⟨off + 5, rfl, st, HQ.out⟩
   case rest =>
    obtain ⟨off', rfl, st, hRow2⟩ := hcut
    have hgn : gm ∉ [g, g4] := by simp; omega
    have hgo : gm ∉ [g] := by simpa using hne
    have hfr : wc.heap[gm]? = w.heap[gm]? := (st.frame gm hgmr hgn).trans (stK.frame gm hgmw (by simpa using hne))
    have hRow3 := hRow2.kept (w' := wc) (R' := RMail ok w) (fun b hb => by obtain rfl : gm = b := Option.some.inj hb; exact st.frame gm hgmr hgn) fun _ _ h => h
    have st2 := St.back stK st
    clear st stK hRow2 HC hw6 hgb HGo hTail
    have st := st2
    clear st2
    have hlm2 : ∀ m ∈ l, goodMailC m = 0 := fun m hm => hlm m (by simp [hm])
    have HMs := qh hlm2
    clear hlm hlm2 hgm4
    have HF := qh (fun (W : World) (bl : Blks) (hW : St [g] w W bl) => label_Flows ok W l1 la oa k1 lc oc m.label x.label x.own (by omega) (by omega) (hA.keep (HKp.out W _ hW)) (h1.keep (HKp.out W _ hW)) (h2.keep (HKp.out W _ hW)))
    have HT2 := qh (show takeM x.label x.own (m :: l) = if flowsL m.label x.label x.own = true then (some m, l) else takeM x.label x.own l from rfl)
    generalize flowsL m.label x.label x.own = fl at HF HT2
    go_wp2_with fail
    refine det_region (by kernel_rfl) 12 rfl (fun W => St [g] w W [(g, 58, winC pre [.slice la x.label.length lc, .slice oa x.own.length oc, .string x.text, .slice ba x.objects.length bc, .slice (some ⟨gm, off', none⟩) l.length q] post), (g4, 52, [.int .i64 0, .int .i64 0, .string ⟨#[]⟩]), (g5, 42, [.int .i64 m.host, .int .i64 m.thread, .slice l1 m.label.length k1, .slice l2 m.grants.length k2, .string m.text])]) (st.drew) (by decide +kernel) ?_
    refine detS 0 rfl ?_
    refine detT 1 rfl (fun W hW => St.run_load hW 2 30 _ rfl Try.isAgg30 rfl rfl rfl) ?_
    refine detS 2 rfl ?_; refine detS 3 rfl ?_; refine detS 4 rfl ?_
    refine detT 5 rfl (fun W hW => St.run_loadW hW 0 30 _ rfl Try.isAgg30 0 hpre rfl rfl rfl) ?_
    refine detS 6 rfl ?_; refine detS 7 rfl ?_; refine detS 8 rfl ?_
    refine detT 9 rfl (fun W hW => St.run_loadW hW 0 31 _ rfl Try.isAgg31 1 hpre rfl rfl rfl) ?_
    refine det_call (fn := 21) 10 rfl (by decide +kernel) (by first | exact wanted_none rfl | exact wanted_some rfl rfl) (fun W => by first | (go_simp; done) | (go_simp; rfl)) (fun W hW => (HF.out W _ hW).mono fun e w' h => ⟨h.1, hW.call h.2⟩) ?_; simp only [kP, kA, kS, kZ]
    refine detS 11 rfl ?_
    refine det_done (by decide +kernel) ?_
    clear st HF
    intro W st
    have hRow4 := hRow3.kept (w' := W) (R' := RMail ok w) (fun b hb => by obtain rfl : gm = b := Option.some.inj hb; exact (st.frame gm hgmw hgo).trans hfr.symm) fun _ _ h => h
    clear hRow3 hfr
    have stW := st
    cases fl with
    | false =>
     have HE := qh (show takeM x.label x.own x.mails = takeM x.label x.own l by rw [HT.out, HT2.out]; rfl)
     clear HT HT2
     go_wp2_with fail
     go_roundg (gk - 1)
     case measure => simp only [List.length_cons] at hln; omega
     case rel => exact ⟨l, some ⟨gm, off', none⟩, q, by simp only [List.length_cons] at hln; omega, HMs.out, HE, st.sub (by simp) (by simp [List.pairwise_cons] <;> omega), hRow4, hab⟩
    | true =>
     have HE : Hid (takeX x = ({ x with mails := l, text := knowT x.text m.text, own := ownAll x.own m.grants }, ⟨0, m.host * 4 + m.thread, ⟨#[]⟩⟩)) := qh (by unfold takeX; rw [HT.out, HT2.out]; rfl)
     clear HT HT2 HMs
     go_wp2_with (first | go_skip | (with_reducible refine mX st Try.isAgg9 ?_))
     refine (kernel_know _ g p pre post _ _ _ _ x.text m.text hpre (by omega) (by omega) (st.blk _ (mgE (i := 0) rfl))).mono ?_
     rintro e v1 ⟨⟨u, rfl⟩, hk⟩
     replace st := st.turn (i := 0) rfl hk
     simp only [List.set_cons_zero] at st
     have HW := qh (hRow4.kept (w' := w) (R' := RMail ok w) (fun b hb => by obtain rfl : gm = b := Option.some.inj hb; exact (stW.frame gm hgmw hgo).symm) fun _ _ h => h)
     clear hk hRow4 stW
     have hl1 := st.ltAt (i := 1) rfl
     have hl2 := st.ltAt (i := 2) rfl
     have HB := qh hB
     have hR0 : SlR (fun b => (ok b ∨ w.heap.size ≤ b) ∧ b ≠ g4) v1 1 RInt oa oc x.own := h2.move st.size (fun b hb ho => ⟨⟨.inl ho, by omega⟩, st.frame b hb (by simp; rintro rfl; exact hg ho)⟩) fun _ _ h => h
     have hg' : ¬ ((ok g ∨ w.heap.size ≤ g) ∧ g ≠ g4) := fun h => by
      rcases h.1 with h | h
      ·exact hg h
      ·omega
     generalize knowT x.text m.text = tx at st HE
     go_upto_block 2 with (first | go_skip | (with_reducible refine mX st Try.isAgg31 ?_))
     go_cut [] (fun wx => ∃ (oa' : Option Addr) (oc' : Nat), St [g] w wx [(g, 58, winC pre [.slice la x.label.length lc, .slice oa' (ownAll x.own m.grants).length oc', .string tx, .slice ba x.objects.length bc, .slice (some ⟨gm, off', none⟩) l.length q] post), (g4, 52, [.int .i64 0, .int .i64 0, .string ⟨#[]⟩]), (g5, 42, [.int .i64 m.host, .int .i64 m.thread, .slice l1 m.label.length k1, .slice l2 m.grants.length k2, .string m.text])] ∧ SlR (fun b => (ok b ∨ w.heap.size ≤ b) ∧ b ≠ g4) wx 1 RInt oa' oc' (ownAll x.own m.grants))
     case first =>
      go_wp2_with fail
      go_loopw [47] (fun v47 wr2 => ∃ (j : Nat) (own' : List Int) (oa' : Option Addr) (oc' : Nat), v47 = .int .i64 j ∧ j ≤ m.grants.length ∧ Hid (ownAll x.own m.grants = ownAll own' (m.grants.drop j)) ∧ Rising own' ∧ own'.length ≤ 8 ∧ St [g] w wr2 [(g, 58, winC pre [.slice la x.label.length lc, .slice oa' own'.length oc', .string tx, .slice ba x.objects.length bc, .slice (some ⟨gm, off', none⟩) l.length q] post), (g4, 52, [.int .i64 0, .int .i64 0, .string ⟨#[]⟩]), (g5, 42, [.int .i64 m.host, .int .i64 m.thread, .slice l1 m.label.length k1, .slice l2 m.grants.length k2, .string m.text])] ∧ SlR (fun b => (ok b ∨ w.heap.size ≤ b) ∧ b ≠ g4) wr2 1 RInt oa' oc' own') (fun v47 _ => m.grants.length - (intOf v47).toNat)
      case atStart => exact ⟨0, x.own, oa, oc, rfl, Nat.zero_le _, rfl, HR.out, hxo, st, hR0⟩
      case round =>
       clear st hR0
       obtain ⟨j, own', oa', oc', rfl, hj, HO, hr, hl8, st, hR⟩ := hrel
       by_cases hlt : j < m.grants.length
       ·obtain ⟨b, o, rfl, hbl, hc⟩ := (HB.out.keep (HKp.out _ _ st)).int_at j hlt
        have HS := qh (show ownAll own' (m.grants.drop j) = if (ownC own' m.grants[j]).2 = 0 then ownAll (ownC own' m.grants[j]).1 (m.grants.drop (j + 1)) else own' by rw [List.drop_eq_getElem_cons hlt]; rfl)
        have HC2 := qh (ownC_ok hr hl8 m.grants[j])
        have HL := qh (ownC_lo own' m.grants[j])
        have HOw := qh (fun W (bl : List (Nat × TypeId × List Value)) (h : St [g] w W bl) (hb : W.heap[g]? = some (.cells (winC pre [.slice la x.label.length lc, .slice oa' own'.length oc', .string tx, .slice ba x.objects.length bc, .slice (some ⟨gm, off', none⟩) l.length q] post).toArray 58 (0, 0))) (hR : SlR (fun b => (ok b ∨ w.heap.size ≤ b) ∧ b ≠ g4) W 1 RInt oa' oc' own') => kernel_own (fun b => (ok b ∨ w.heap.size ≤ b) ∧ b ≠ g4) W g p pre post _ _ _ _ oa' oc' own' m.grants[j] hpre hr hl8 hR hg' hb)
        generalize m.grants[j] = gj at HS HC2 HL HOw hc
        obtain ⟨⟨o2, e2⟩, HP⟩ : ∃ r, Hid (ownC own' gj = r) := ⟨_, rfl⟩
        rw [HP.out] at HS HC2 HL HOw
        go_wp2_with fail
        have hlg := st.ltAt (i := 1) rfl
        have hwz := st.size
        refine (HOw.out _ _ st (st.blk _ (mgE (i := 0) rfl)) hR).mono ?_
        rintro e v2 ⟨oa2, oc2, rfl, hk, hR2⟩
        replace st := st.turn (i := 0) rfl hk
        simp only [List.set_cons_zero] at st
        replace hR2 := hR2.okay (ok' := (fun b => (ok b ∨ w.heap.size ≤ b) ∧ b ≠ g4)) fun b h => h.elim id fun h => ⟨.inr (by omega), by omega⟩
        clear hk hR hc
        rcases HL.out with h0 | ⟨h5, h6⟩
        ·obtain rfl : e2 = 0 := h0
         go_wp2_with fail
         go_roundw
         case rel => exact ⟨j + 1, o2, oa2, oc2, by go_num, hlt, qh (by rw [HO.out, HS.out]; rfl), HC2.out.1, HC2.out.2, st, hR2⟩
         case measure => simp [intOf]; omega
        ·obtain rfl : e2 = 5 := h5
         obtain rfl : o2 = own' := h6
         have HE2 := qh (show ownAll x.own m.grants = o2 by rw [HO.out, HS.out]; rfl)
         go_wp2_with fail
         go_meet
         rw [HE2.out]
         exact ⟨oa2, oc2, st, hR2⟩
       ·have HE2 := qh (show ownAll x.own m.grants = own' by rw [HO.out, List.drop_of_length_le (by omega)]; rfl)
        go_wp2_with fail
        go_meet
        rw [HE2.out]
        exact ⟨oa', oc', st, hR⟩
     case rest =>
      obtain ⟨oa', oc', st, hR⟩ := hcut
      clear hR0
      have hw4 := st.size
      go_wp2_with (first | go_skip | (with_reducible refine mX st Try.isAgg3 ?_) | (with_reducible refine mS 1 st Try.sizeOf52 ?_; clear st; intro w9 st hw9m hw9z))
      have hc := fun j => st.cell (i := 1) rfl j
      refine bodyPost_ret (v := RepV ⟨0, m.host * 4 + m.thread, ⟨#[]⟩⟩) ?hr rfl ?_
      case hr => simp [results, Try.results38, go_sem, hc, RepV]; try rfl
      rw [HE.out]
      refine ⟨oa', oc', some ⟨gm, off', none⟩, q, rfl, st.sub (by simp [thrC]) (by simp), (hR.keep ⟨by omega, fun b hb ho => hw9m b ho.2⟩).okay fun _ h => h.1, ?_, hab⟩
      exact HW.out.kept (fun b hb => by obtain rfl : gm = b := Option.some.inj hb; exact st.frame gm hgmw hgo) fun _ _ h => h
theorem kernel_mailF (ok : Nat → Prop) (w : World) (m : Mail) (la : Option Addr) (lc : Nat) (ga : Option Addr) (gc : Nat) (hl : m.label.length * 16 ≤ 140737488355328) (hg : m.grants.length * 8 ≤ 140737488355328) (hR : MailR ok w m la lc ga gc) :
  Calls Try.prog 31 #[mailV m la lc ga gc] w fun e w' => ∃ a1 k1 a2 k2, e = .returned (mailV m a1 k1 a2 k2) ∧ Below w.heap.size w w' ∧ MailR (fun b => w.heap.size ≤ b ∧ FreeB w' b) w' m a1 k1 a2 k2 := by
 unfold mailV
 have HL := qh (fun (W : World) (h : Below w.heap.size w W) => kernel_levels ok W la lc m.label hl (hR.label.below h))
 have HN := qh (fun (W : World) (h : Below w.heap.size w W) => kernel_numbers ok W ga gc m.grants hg (hR.grants.below h))
 have st := St.start w
 go_enter Try.func31, Try.ntmps31
 go_wp2_with (first | go_skip | (with_reducible refine mB 42 st ?_; clear st; intro g1 w1 hg1 st) | (with_reducible refine mA st Try.zeroValue42 ?_; clear st; intro g2 w2 hg2 st))
 have st := st.drew
 have hI := St.hand (st.blk _ (mgE (i := 0) rfl))
 refine lex_tail (by kernel_rfl) 7 3 [7, 8, 9] rfl (by decide +kernel) (fun W => St [g1] W W [(g1, 42, [.int .i64 m.host, .int .i64 m.thread, .slice la m.label.length lc, .slice ga m.grants.length gc, .string m.text])]) ?_
 refine lexS 0 rfl hI ?_
 refine lexT 1 rfl hI (fun W hW => St.run_load hW 0 30 _ rfl Try.isAgg30 rfl rfl rfl) ?_
 refine lexS 3 rfl hI ?_
 refine lexT 4 rfl hI (fun W hW => St.run_load hW 0 31 _ rfl Try.isAgg31 rfl rfl rfl) ?_
 clear hI
 refine lexO 2 rfl fun K hK => ?_
 refine wp_callee (f := 17) (by first | (go_simp; done) | (go_simp; rfl)) ?_
 refine (HL.out _ st.below).mono ?_
 rintro e v1 ⟨a1, k1, rfl, hb1, hO1⟩
 have hz1 := st.size
 refine ⟨_, rfl, ?_⟩
 replace st := st.call hb1
 clear hb1
 have hI := St.hand (st.blk _ (mgE (i := 0) rfl))
 refine hK _ _ (hI) ?_; clear hK; simp only [kP, kA, kS, kZ]
 refine lexS 6 rfl hI ?_
 clear hI
 refine lexO 5 rfl fun K hK => ?_
 refine wp_callee (f := 18) (by first | (go_simp; done) | (go_simp; rfl)) ?_
 refine (HN.out _ st.below).mono ?_
 rintro e v2 ⟨a2, k2, rfl, hb2, hO2⟩
 have hz2 := st.size
 refine ⟨_, rfl, ?_⟩
 replace st := st.call hb2
 replace hO1 := hO1.below hb2
 clear hb2
 refine hK _ _ (St.hand (st.blk _ (mgE (i := 0) rfl))) ?_; clear hK; simp only [kP, kA, kS, kZ]
 refine lex_done (by decide +kernel) ?_
 have h1b := st.blk _ (mgE (i := 0) rfl)
 refine tail_next 7 rfl (by first | exact wanted_none rfl | exact wanted_some rfl rfl) (by decide +kernel) fun K hK => ?_
 refine wp_store' st 30 _ _ rfl _ Try.sizeOf30 ⟨0, _, _, _, _, _, rfl, rfl, rfl, rfl, rfl, rfl, ?_⟩; clear st; intro w3 st hw3m hw3z; simp [Act.eval, Act.put, Value.cells, putL] at st
 refine hK _ _ ?_; clear hK
 replace hO1 := hO1.stored h1b (by simp) hw3m
 replace hO2 := hO2.stored h1b (by simp) hw3m
 clear h1b hw3m hw3z
 refine tail_take 8 rfl (by first | exact wanted_none rfl | exact wanted_some rfl rfl) (by decide +kernel) (by first | (go_simp; done) | (go_simp; rfl)) ?_; simp only [kP, kA, kS, kZ]
 have h1b := st.blk _ (mgE (i := 0) rfl)
 refine tail_last 9 rfl (by first | exact wanted_none rfl | exact wanted_some rfl rfl) (by decide +kernel) (by decide +kernel) fun K hK => ?_
 refine wp_store' st 31 _ _ rfl _ Try.sizeOf31 ⟨0, _, _, _, _, _, rfl, rfl, rfl, rfl, rfl, rfl, ?_⟩; clear st; intro w4 st hw4m hw4z; simp [Act.eval, Act.put, Value.cells, putL] at st
 refine hK _ _ ?_; clear hK
 replace hO1 := hO1.stored h1b (by simp) hw4m
 replace hO2 := hO2.stored h1b (by simp) hw4m
 clear h1b hw4m hw4z
 have h2b := st.blk _ (mgE (i := 1) rfl)
 have HO := qh (show ∀ W, (∀ b, b ≠ g2 → W.heap[b]? = w4.heap[b]?) → MailR (fun b => w.heap.size ≤ b ∧ FreeB W b) W m a1 k1 a2 k2 from fun W h => ⟨((hO1.stored h2b (by simp) h).slrF).okay fun b hb => ⟨by have := hb.1; omega, hb.2⟩, ((hO2.stored h2b (by simp) h).slrF).okay fun b hb => ⟨by have := hb.1; omega, hb.2⟩⟩)
 clear hO1 hO2 h2b
 go_wp2_with (first | go_skip | (with_reducible refine mXA st Try.isAgg42 Try.sizeOf42 ?_) | (with_reducible refine mS 1 st Try.sizeOf42 ?_; clear st; intro w5 st hw5m hw5z))
 have hc := fun j => st.cell (i := 1) rfl j
 refine bodyPost_ret (v := mailV m a1 k1 a2 k2) ?hr rfl ⟨_, _, _, _, rfl, st.below, HO.out _ hw5m⟩
 case hr => simp [results, Try.results31, go_sem, hc, mailV, putL]; try rfl
theorem kernel_mail (ok : Nat → Prop) (w : World) (m : Mail) (la : Option Addr) (lc : Nat) (ga : Option Addr) (gc : Nat) (hl : m.label.length * 16 ≤ 140737488355328) (hg : m.grants.length * 8 ≤ 140737488355328) (hR : MailR ok w m la lc ga gc) :
  Calls Try.prog 31 #[mailV m la lc ga gc] w fun e w' => ∃ a1 k1 a2 k2, e = .returned (mailV m a1 k1 a2 k2) ∧ Below w.heap.size w w' ∧ MailR (fun b => w.heap.size ≤ b) w' m a1 k1 a2 k2 :=
 (kernel_mailF ok w m la lc ga gc hl hg hR).mono fun e w' ⟨a1, k1, a2, k2, e1, h1, h2⟩ => ⟨a1, k1, a2, k2, e1, h1, h2.label.okay fun _ h => h.1, h2.grants.okay fun _ h => h.1⟩
theorem St.wider {M M' : List Nat} {w0 w : World} {own : Blks} (h : St M w0 w own) (hM : ∀ b ∈ M, b ∈ M') : St M' w0 w own :=
 ⟨h.os, h.tape, h.output, h.size, fun b hb hm => h.frame b hb fun hm2 => hm (hM b hm2), h.blk, fun x hx => (h.mine x hx).imp (hM _) id, h.ne⟩
theorem four_nat {t : Int} (h : four t = true) : ∃ n : Nat, t = n ∧ n < 4 := by
 obtain ⟨h1, h2⟩ := (four_iff t).1 h
 obtain ⟨n, rfl⟩ := Int.eq_ofNat_of_zero_le h1
 exact ⟨n, rfl, by omega⟩
theorem four_no {t : Int} (h : four t = false) : t < 0 ∨ (0 ≤ t ∧ 4 ≤ t) := by
 have := fun h1 => (four_iff t).2 h1
 by_cases h0 : t < 0
 ·exact .inl h0
 ·refine .inr ⟨by omega, ?_⟩
  by_cases h4 : 4 ≤ t
  ·exact h4
  ·rw [this ⟨by omega, by omega⟩] at h; cases h
theorem info_Mail : (Try.prog.info? 42).map (fun i => (i.zero, i.size, i.bytes)) = some (some (.agg #[.int .i64 0, .int .i64 0, .slice none 0 0, .slice none 0 0, .string .empty]), 5, 80) := by kernel_rfl
theorem Ker.thr_at {k : Ker} {n : Nat} {x : Thr} (h : k.threads[n]? = some x) : k.thr (n : Int) = x := by
 unfold Ker.thr
 rw [Int.toNat_natCast, List.getD_eq_getElem?_getD, h]
 rfl
theorem kernel_Deliver (ok okm : Nat → Prop) (w : World) (g : Nat) (k : Ker) (css : List (List Value)) (Bs : List (List Nat)) (h : KerAt ok w g k css Bs) (hk : ∀ x ∈ k.threads, x.ok) (t : Int) (m : Mail) (la : Option Addr) (lc : Nat) (ga : Option Addr) (gc : Nat)
  (hl : m.label.length * 16 ≤ 140737488351232) (hg : m.grants.length * 8 ≤ 140737488355328) (hR : MailR okm w m la lc ga gc) :
  Calls Try.prog 10 #[.pointer (some ⟨g, 0, none⟩), .int .i64 t, mailV m la lc ga gc] w fun e w' => (∃ u, e = .returned u) ∧ KerTo ok w g Bs w' (deliverK k t m) := by
 have HG := qh (fun (W : World) (hW : Below w.heap.size w W) => wire_GoodMail okm W m la lc ga gc (by omega) hg (hR.below hW))
 by_cases h4 : four t = true
 case neg =>
  have h4' : four t = false := by simpa using h4
  have HE := qh (show deliverK k t m = k by unfold deliverK; rw [if_pos h4'])
  have st := St.start w
  unfold mailV at *
  rcases four_no h4' with d | ⟨d0, d⟩
  all_goals
   clear h4 h4'
   go_enter Try.func10, Try.ntmps10
   go_wp2_with (first | go_skip | (with_reducible refine mB 42 st ?_; clear st; intro g1 w1 hg1 st))
   refine bodyPost_ret (v := .tuple #[]) (by simp [results, Try.results10, go_sem]) rfl ⟨⟨_, rfl⟩, ?_⟩
   rw [HE.out]
   exact KerTo.none h st.below
 obtain ⟨n, rfl, hn⟩ := four_nat h4
 obtain ⟨x, xa, xc, oa, oc, ba, bc, ma, mc, ex, ec, eB, hT, hb⟩ := h.open hn
 have hx := hk x (mgE ex)
 have hpre := h.preLen hn
 have HK := qh (show deliverK k (n : Int) m = if goodMailC m ≠ 0 then k else if flowsL m.label x.label x.own = true ∧ x.mails.length < 6 then k.put n { x with mails := x.mails ++ [m] } else k by
  unfold deliverK; rw [if_neg (by rw [h4]; simp), Ker.thr_at ex])
 have st0 := St.hand hb
 unfold thrC at st0
 have d1 : decide ((n : Int) < 0) = false := by simp
 have d2 : decide ((4 : Int) ≤ n) = false := by simp; omega
 clear h4
 by_cases hgm : goodMailC m = 0
 case neg =>
  have HE := qh (show deliverK k (n : Int) m = k by rw [HK.out, if_pos hgm])
  generalize goodMailC m = q at HG hgm
  have hq : (q != 0) = true := by simpa using hgm
  clear hgm HK
  have st := St.start w
  unfold mailV at *
  go_enter Try.func10, Try.ntmps10
  go_wp2_with (first | go_skip | (with_reducible refine mB 42 st ?_; clear st; intro g1 w1 hg1 st) | (with_reducible refine mXA st Try.isAgg42 Try.sizeOf42 ?_) | (go_at_call 19; go_must (refine (HG.out _ st.below).mono ?_; rintro e v1 ⟨rfl, hb1⟩; replace st := st.call hb1; clear hb1)))
  refine bodyPost_ret (v := .tuple #[]) (by simp [results, Try.results10, go_sem]) rfl ⟨⟨_, rfl⟩, ?_⟩
  rw [HE.out]
  exact KerTo.none h st.below
 obtain ⟨_, _, q5, q6, q7⟩ := mail_facts hgm
 have hml := goodL_len q5
 have hmg := (grants_facts q6).1
 clear q5 q6
 rw [hgm] at HG
 have HK1 := qh (show deliverK k (n : Int) m = if flowsL m.label x.label x.own = true ∧ x.mails.length < 6 then k.put n { x with mails := x.mails ++ [m] } else k by rw [HK.out, if_neg (by simpa using hgm)])
 clear hgm HK
 have hgg : ¬ ok g := h.apart g (by simp)
 have HKp := qh (show ∀ (W : World) (bl : Blks), St [g] w W bl → Keeps ok w W from fun W bl s => s.keeps (by simpa using hgg))
 have hxl := goodL_len hx.good; have hxo := hx.ownL; have hxm := hx.mailN
 have HF := qh (fun (W : World) (bl : Blks) (hW : St [g] w W bl) (hR2 : MailR okm W m la lc ga gc) => label_Flows (fun _ => True) W la xa oa lc xc oc m.label x.label x.own (by omega) (by omega) (hR2.label.okay fun _ _ => trivial) ((hT.label.keep (HKp.out W _ hW)).okay fun _ _ => trivial) ((hT.own.keep (HKp.out W _ hW)).okay fun _ _ => trivial))
 have HM := qh (fun (W : World) (hR2 : MailR okm W m la lc ga gc) => kernel_mail okm W m la lc ga gc (by omega) hg hR2)
 generalize flowsL m.label x.label x.own = fl at HF HK1
 have HB := qh (show ∀ (W : World) (bl : Blks), St [g] w W bl → (g, 58, winC (preC k css n) [.slice xa x.label.length xc, .slice oa x.own.length oc, .string x.text, .slice ba x.objects.length bc, .slice ma x.mails.length mc] (postC k css n)) ∈ bl → Below w.heap.size w W from fun W bl s hm => st0.below2 s (by simpa using hm))
 have st := st0
 clear st0
 unfold mailV at *
 have h6 : fl = false ∨ (fl = true ∧ ¬ x.mails.length < 6) ∨ (fl = true ∧ x.mails.length < 6) := by cases fl <;> simp; omega
 rcases h6 with rfl | ⟨rfl, h6⟩ | ⟨rfl, h6⟩
 ·have HE := qh (show deliverK k (n : Int) m = k by rw [HK1.out, if_neg (by simp)])
  clear HK1
  go_enter Try.func10, Try.ntmps10
  go_wp2_with (first | go_skip | (with_reducible refine mB 42 st ?_; clear st; intro g1 w1 hg1 st) | (with_reducible refine mXA st Try.isAgg42 Try.sizeOf42 ?_) | (go_at_call 19; go_must (refine (HG.out _ (HB.out _ _ st (by simp))).mono ?_; rintro e v1 ⟨rfl, hb1⟩; replace st := st.call hb1; clear hb1)))
  refine det_region (by kernel_rfl) 19 rfl (fun W => St [g] w W [(g, 58, winC (preC k css n) [.slice xa x.label.length xc, .slice oa x.own.length oc, .string x.text, .slice ba x.objects.length bc, .slice ma x.mails.length mc] (postC k css n)), (g1, 42, [.int .i64 m.host, .int .i64 m.thread, .slice la m.label.length lc, .slice ga m.grants.length gc, .string m.text])]) (st.drew) (by decide +kernel) ?_
  refine detS 0 rfl ?_
  refine detT 1 rfl (fun W hW => St.run_load hW 1 30 _ rfl Try.isAgg30 rfl rfl rfl) ?_
  refine detS 2 rfl ?_; refine detS 3 rfl ?_; refine detS 4 rfl ?_
  refine detT 5 rfl (fun W hW => St.run_loadW hW 0 30 _ rfl Try.isAgg30 0 hpre rfl rfl rfl) ?_
  refine detS 6 rfl ?_; refine detS 7 rfl ?_; refine detS 8 rfl ?_
  refine detT 9 rfl (fun W hW => St.run_loadW hW 0 31 _ rfl Try.isAgg31 1 hpre rfl rfl rfl) ?_
  refine det_call (fn := 21) 10 rfl (by decide +kernel) (by first | exact wanted_none rfl | exact wanted_some rfl rfl) (fun W => by first | (go_simp; done) | (go_simp; rfl)) (fun W hW => (HF.out W _ hW (hR.below (HB.out W _ hW (by simp)))).mono fun e w' h => ⟨h.1, hW.call h.2⟩) ?_; simp only [kP, kA, kS, kZ]
  refine detS 11 rfl ?_
  refine detK 12 rfl ?_; refine detK 13 rfl ?_; refine detK 14 rfl ?_; refine detK 15 rfl ?_; refine detK 16 rfl ?_; refine detK 17 rfl ?_
  refine detS 18 rfl ?_
  refine det_done (by decide +kernel) ?_
  clear st
  intro W st
  go_wp2
  go_end0
  rw [HE.out]
  exact ⟨⟨_, rfl⟩, KerTo.none h (HB.out _ _ st (by simp))⟩
 ·have HE := qh (show deliverK k (n : Int) m = k by rw [HK1.out, if_neg (fun e => h6 e.2)])
  have d6 : decide ((x.mails.length : Int) < 6) = false := by simp; omega
  clear HK1
  go_enter Try.func10, Try.ntmps10
  go_wp2_with (first | go_skip | (with_reducible refine mB 42 st ?_; clear st; intro g1 w1 hg1 st) | (with_reducible refine mXA st Try.isAgg42 Try.sizeOf42 ?_) | (go_at_call 19; go_must (refine (HG.out _ (HB.out _ _ st (by simp))).mono ?_; rintro e v1 ⟨rfl, hb1⟩; replace st := st.call hb1; clear hb1)))
  refine det_region (by kernel_rfl) 19 rfl (fun W => St [g] w W [(g, 58, winC (preC k css n) [.slice xa x.label.length xc, .slice oa x.own.length oc, .string x.text, .slice ba x.objects.length bc, .slice ma x.mails.length mc] (postC k css n)), (g1, 42, [.int .i64 m.host, .int .i64 m.thread, .slice la m.label.length lc, .slice ga m.grants.length gc, .string m.text])]) (st.drew) (by decide +kernel) ?_
  refine detS 0 rfl ?_
  refine detT 1 rfl (fun W hW => St.run_load hW 1 30 _ rfl Try.isAgg30 rfl rfl rfl) ?_
  refine detS 2 rfl ?_; refine detS 3 rfl ?_; refine detS 4 rfl ?_
  refine detT 5 rfl (fun W hW => St.run_loadW hW 0 30 _ rfl Try.isAgg30 0 hpre rfl rfl rfl) ?_
  refine detS 6 rfl ?_; refine detS 7 rfl ?_; refine detS 8 rfl ?_
  refine detT 9 rfl (fun W hW => St.run_loadW hW 0 31 _ rfl Try.isAgg31 1 hpre rfl rfl rfl) ?_
  refine det_call (fn := 21) 10 rfl (by decide +kernel) (by first | exact wanted_none rfl | exact wanted_some rfl rfl) (fun W => by first | (go_simp; done) | (go_simp; rfl)) (fun W hW => (HF.out W _ hW (hR.below (HB.out W _ hW (by simp)))).mono fun e w' h => ⟨h.1, hW.call h.2⟩) ?_; simp only [kP, kA, kS, kZ]
  refine detS 11 rfl ?_; refine detS 12 rfl ?_; refine detS 13 rfl ?_; refine detS 14 rfl ?_
  refine detT 15 rfl (fun W hW => St.run_loadW hW 0 33 _ rfl Try.isAgg33 4 hpre rfl rfl rfl) ?_
  refine detS 16 rfl ?_
  refine detS 17 rfl ?_
  refine detS 18 rfl ?_
  refine det_done (by decide +kernel) ?_
  clear st
  intro W st
  go_wp2
  go_end0
  rw [HE.out]
  exact ⟨⟨_, rfl⟩, KerTo.none h (HB.out _ _ st (by simp))⟩
 ·have HE := qh (show deliverK k (n : Int) m = k.put n { x with mails := x.mails ++ [m] } by rw [HK1.out, if_pos ⟨rfl, h6⟩])
  have d6 : decide ((x.mails.length : Int) < 6) = true := by simp; omega
  clear HK1
  go_enter Try.func10, Try.ntmps10
  go_wp2_with (first | go_skip | (with_reducible refine mB 42 st ?_; clear st; intro g1 w1 hg1 st) | (with_reducible refine mXA st Try.isAgg42 Try.sizeOf42 ?_) | (go_at_call 19; go_must (refine (HG.out _ (HB.out _ _ st (by simp))).mono ?_; rintro e v1 ⟨rfl, hb1⟩; replace st := st.call hb1; clear hb1)))
  refine det_region (by kernel_rfl) 19 rfl (fun W => St [g] w W [(g, 58, winC (preC k css n) [.slice xa x.label.length xc, .slice oa x.own.length oc, .string x.text, .slice ba x.objects.length bc, .slice ma x.mails.length mc] (postC k css n)), (g1, 42, [.int .i64 m.host, .int .i64 m.thread, .slice la m.label.length lc, .slice ga m.grants.length gc, .string m.text])]) (st.drew) (by decide +kernel) ?_
  refine detS 0 rfl ?_
  refine detT 1 rfl (fun W hW => St.run_load hW 1 30 _ rfl Try.isAgg30 rfl rfl rfl) ?_
  refine detS 2 rfl ?_; refine detS 3 rfl ?_; refine detS 4 rfl ?_
  refine detT 5 rfl (fun W hW => St.run_loadW hW 0 30 _ rfl Try.isAgg30 0 hpre rfl rfl rfl) ?_
  refine detS 6 rfl ?_; refine detS 7 rfl ?_; refine detS 8 rfl ?_
  refine detT 9 rfl (fun W hW => St.run_loadW hW 0 31 _ rfl Try.isAgg31 1 hpre rfl rfl rfl) ?_
  refine det_call (fn := 21) 10 rfl (by decide +kernel) (by first | exact wanted_none rfl | exact wanted_some rfl rfl) (fun W => by first | (go_simp; done) | (go_simp; rfl)) (fun W hW => (HF.out W _ hW (hR.below (HB.out W _ hW (by simp)))).mono fun e w' h => ⟨h.1, hW.call h.2⟩) ?_; simp only [kP, kA, kS, kZ]
  refine detS 11 rfl ?_; refine detS 12 rfl ?_; refine detS 13 rfl ?_; refine detS 14 rfl ?_
  refine detT 15 rfl (fun W hW => St.run_loadW hW 0 33 _ rfl Try.isAgg33 4 hpre rfl rfl rfl) ?_
  refine detS 16 rfl ?_
  refine detS 17 rfl ?_
  refine detS 18 rfl ?_
  refine det_done (by decide +kernel) ?_
  clear st
  intro W st
  go_wp2_with fail
  obtain ⟨i0, hi, hz0, hz1, hz2⟩ := info_parts info_Mail
  have hmne : ma.map (·.block) ≠ some g := fun e => h.gOut eB (mem_rows2.2 (.inr e))
  have hMg : ∀ b, ma.map (·.block) = some b → b < w.heap.size ∧ ¬ ok b := fun b e => ⟨hT.mails.lt e, h.apartAt eB (mem_rows2.2 (.inr e))⟩
  have hBg : ∀ b, ba.map (·.block) = some b → b < w.heap.size ∧ ¬ ok b ∧ b ≠ g ∧ ma.map (·.block) ≠ some b := fun b e => ⟨hT.objs.lt e, h.apartAt eB (mem_rows2.2 (.inl e)), fun e2 => h.gOut eB (e2 ▸ mem_rows2.2 (.inl e)), h.rowsNe eB e⟩
  have hgw := h.lt g (by simp)
  have hg1w : w.heap.size ≤ g1 := hg1
  have st := st.drew
  have hI := st.wider (M' := g :: rows2 ba ma) (by simp)
  refine lex_tail (by kernel_rfl) 11 1 [11] rfl (by decide +kernel) (fun W => St (g :: rows2 ba ma) w W [(g, 58, winC (preC k css n) [.slice xa x.label.length xc, .slice oa x.own.length oc, .string x.text, .slice ba x.objects.length bc, .slice ma x.mails.length mc] (postC k css n)), (g1, 42, [.int .i64 m.host, .int .i64 m.thread, .slice la m.label.length lc, .slice ga m.grants.length gc, .string m.text])]) ?_
  refine lexS 0 rfl hI ?_
  refine lexS 1 rfl hI ?_
  refine lexS 2 rfl hI ?_
  refine lexS 3 rfl hI ?_
  refine lexT 4 rfl hI (fun W hW => St.run_loadW hW 0 33 _ rfl Try.isAgg33 4 hpre rfl rfl rfl) ?_
  refine lexT 5 rfl hI (fun W hW => St.run_load_agg hW 1 42 _ rfl Try.isAgg42 _ Try.sizeOf42 rfl rfl rfl rfl) ?_
  clear hI
  refine lexO 6 rfl fun K hK => ?_
  refine wp_callee (f := 31) (by first | (go_simp; done) | (go_simp; rfl)) ?_
  refine (HM.out _ (hR.below (HB.out _ _ st (by simp)))).mono ?_
  rintro e v ⟨a1, k1, a2, k2, rfl, hbm, hM⟩
  have hzv := st.size
  refine ⟨_, rfl, ?_⟩
  replace st := st.call hbm
  clear hbm
  refine hK _ _ (st.wider (by simp)) ?_; clear hK; simp only [kP, kA, kS, kZ]
  refine lexO 7 rfl fun K hK => ?_
  refine wp_build1 st 33 42 _ rfl Try.underlying33 5 Try.sizeOf42 (by decide) (by decide) _ Try.zeroValue42 _ rfl rfl ?_; clear st; intro g3 w3 hg3 hg3e st hg3b hw3z; clear hg3e; simp [Act.eval, Act.put, Value.cells, putL] at st
  have hM3 := hM.below hg3b
  clear hg3b hw3z
  refine hK _ _ ((st.take 2).wider (by simp)) ?_; clear hK; simp only [kP, kA, kS, kZ]
  refine lexO 8 rfl fun K hK => ?_
  have hO : RowAt 42 w3 5 (RMail (fun b => ok b ∨ w.heap.size ≤ b) w3) ma mc x.mails := hT.mails.kept (fun b e => st.frame b (hMg b e).1 (by simp; rintro rfl; exact hmne e)) fun _ _ r => r.move st.size fun b hb' ho => ⟨.inl ho, (HKp.out _ _ st).block b hb' ho⟩
  refine wp_rowApp _ _ 33 rfl i0 _ 80 Try.underlying33 hi hz0 hz1 hz2 rfl (by decide) (y := m) rfl rfl hO rfl (SlR.ofBlk (ok := fun _ => True) (R := RMail (fun b => ok b ∨ w.heap.size ≤ b) w3) (x := m) (st.blk _ (mgE (i := 2) rfl)) ⟨a1, k1, a2, k2, rfl, hM3.label.okay fun b hb => .inr (by omega), hM3.grants.okay fun b hb => .inr (by omega)⟩ rfl rfl trivial) (by omega) (by unfold maxLen; omega) ?_
  intro g4 off4 c4 w4 hO4 hgr hat
  have hst3 := st
  replace st := ((st.take 2).grown hgr (by
   intro y hy e
   simp at hy
   rcases hy with rfl | rfl
   ·exact hmne e
   ·have := (hMg _ e).1; simp only at this; omega)).wider (M' := g :: rows2 ba ma) (by
   intro b hb
   simp only [List.mem_append, Option.mem_toList, List.mem_singleton] at hb
   rcases hb with hb | rfl
   ·exact List.mem_cons_of_mem _ (mem_rows2.2 (.inr hb))
   ·simp)
  simp only [List.take_succ_cons, List.take_zero] at st
  have hI := st
  refine hK _ _ (hI) ?_; clear hK; simp only [kP, kA, kS, kZ]
  refine lexS 9 rfl hI ?_
  refine lexS 10 rfl hI ?_
  clear hI
  refine lex_done (by decide +kernel) ?_
  refine tail_last 11 rfl (by first | exact wanted_none rfl | exact wanted_some rfl rfl) (by decide +kernel) (by decide +kernel) fun K hK => ?_
  refine wp_storeW st 33 _ _ rfl _ Try.sizeOf33 4 ?_; refine ⟨0, _, _, _, _, _, _, _, hpre, rfl, rfl, rfl, rfl, rfl, rfl, ?_⟩; clear st; intro w5 st hw5m hw5z; simp [Act.eval, Act.put, Value.cells, putL] at st
  refine hK _ _ ?_; clear hK
  go_wp2
  go_end0
  refine ⟨⟨_, rfl⟩, ?_⟩
  rw [HE.out]
  have hz3 := hst3.size
  have hch : ∀ b, b < w3.heap.size → b ≠ g → ma.map (·.block) ≠ some b → w5.heap[b]? = w3.heap[b]? := fun b hb h1 h2 => (hw5m b h1).trans (hgr.block b hb fun e => h2 e.symm)
  have hcw : ∀ b, b < w.heap.size → b ≠ g → ma.map (·.block) ≠ some b → w5.heap[b]? = w.heap[b]? := fun b hb h1 h2 => (hch b (by omega) h1 h2).trans (hst3.frame b hb (by simpa using h1))
  have hg4 : ∀ b, b < w3.heap.size → (ok b ∨ w.heap.size ≤ b) → b ≠ g4 := fun b hb ho e => by
   subst e
   rcases hat with hat | hat
   ·rcases ho with ho | ho
    ·exact (hMg _ hat).2 ho
    ·have := (hMg _ hat).1; omega
   ·omega
  have hok : ∀ b, b < w3.heap.size → (ok b ∨ w.heap.size ≤ b) → ((ok b ∨ w.heap.size ≤ b) ∧ b ∉ g :: rows2 ba (some ⟨g4, off4, none⟩)) ∧ w5.heap[b]? = w3.heap[b]? := fun b hb ho => by
   have h1 : b ≠ g := by
    rintro rfl
    rcases ho with ho | ho
    ·exact hgg ho
    ·omega
   refine ⟨⟨ho, fun hm => ?_⟩, hch b hb h1 fun e => ?_⟩
   ·rcases List.mem_cons.1 hm with hm | hm
    ·exact h1 hm
    ·rcases mem_rows2.1 hm with hm | hm
     ·obtain ⟨q1, q2, _⟩ := hBg b hm
      rcases ho with ho | ho
      ·exact q2 ho
      ·omega
     ·exact hg4 b hb ho (Option.some.inj hm).symm
   ·obtain ⟨q1, q2⟩ := hMg b e
    rcases ho with ho | ho
    ·exact q2 ho
    ·omega
  have hokw : ∀ b, b < w.heap.size → ok b → ((ok b ∨ w.heap.size ≤ b) ∧ b ∉ g :: rows2 ba (some ⟨g4, off4, none⟩)) ∧ w5.heap[b]? = w.heap[b]? := fun b hb ho => by
   obtain ⟨q1, q2⟩ := hok b (by omega) (.inl ho)
   exact ⟨q1, q2.trans ((HKp.out _ _ hst3).block b hb ho)⟩
  have hne4 : g4 ≠ g := by
   rintro rfl
   rcases hat with hat | hat
   ·exact hmne hat
   ·omega
  refine h.close (made' := k.made) hn ec eB st (st.blk _ (mgE (i := 0) rfl)) (x' := { x with mails := x.mails ++ [m] }) (B' := rows2 ba (some ⟨g4, off4, none⟩))
   ⟨xa, xc, oa, oc, ba, bc, some ⟨g4, off4, none⟩, c4, by simp [thrC], ⟨hT.label.move st.size hokw fun _ _ r => r, hT.own.move st.size hokw fun _ _ r => r,
    hT.objs.kept (fun b e => hcw b (hBg b e).1 (hBg b e).2.2.1 (hBg b e).2.2.2) fun _ _ r => r.move st.size hokw, hO4.kept (fun b e => by obtain rfl : g4 = b := Option.some.inj e; exact hw5m _ hne4) fun _ _ r => r.move (by have := hgr.size; omega) hok⟩, rfl⟩ ?_ ?_
  ·unfold rows2
   cases hba : ba with
   | none => simp
   | some ad =>
    simp only [Option.map_some, Option.toList_some, List.cons_append, List.nil_append, List.nodup_cons, List.mem_singleton, List.not_mem_nil, not_false_eq_true, List.nodup_nil, and_true]
    intro e
    obtain ⟨q1, _, _, q4⟩ := hBg ad.block (by rw [hba]; rfl)
    rcases hat with hat | hat
    ·exact q4 (by rw [hat, e])
    ·omega
  ·intro b hb
   rcases mem_rows2.1 hb with hb | hb
   ·exact .inl (mem_rows2.2 (.inl hb))
   ·obtain rfl : g4 = b := Option.some.inj hb
    rcases hat with hat | hat
    ·exact .inl (mem_rows2.2 (.inr hat))
    ·exact .inr (by omega)
theorem RowAt.window {e : TypeId} {w : World} {α : Type} {sz : Nat} {R : List Value → α → Prop} {g off c : Nat} {xs : List α} (h : RowAt e w sz R (some ⟨g, off, none⟩) c xs) {i : Nat} {x : α} (hx : xs[i]? = some x) :
  ∃ pre cs post, w.heap[g]? = some (.cells (winC pre cs post).toArray e (0, 0)) ∧ pre.length = off + i * sz ∧ R cs x ∧ cs.length = sz ∧ ∀ v ∈ cs, v.oneCell' = true := by
 rcases h.2.2 with ⟨h, _⟩ | ⟨g', off', cells, ha, hg, hle, hx2⟩
 ·cases h
 ·simp only [Option.some.injEq, Addr.mk.injEq, and_true] at ha
  obtain ⟨rfl, rfl⟩ := ha
  obtain ⟨cs, h3, h4, h5, h6⟩ := hx2 i x hx
  have hi := (gEs hx).1
  have hin : i * sz + sz ≤ c * sz := by
   have : (i + 1) * sz ≤ c * sz := Nat.mul_le_mul_right _ (by have := h.1; omega)
   rwa [Nat.succ_mul] at this
  have e : cells = winC (cells.take (off + i * sz)) cs (cells.drop (off + i * sz + sz)) := by
   refine List.ext_getElem? fun j => ?_
   unfold winC
   have hl : (cells.take (off + i * sz)).length = off + i * sz := by rw [List.length_take]; omega
   by_cases h1 : j < off + i * sz
   ·rw [List.getElem?_append_left (by omega), List.getElem?_take_of_lt h1]
   ·rw [List.getElem?_append_right (by omega), hl]
    by_cases h2 : j < off + i * sz + sz
    ·rw [List.getElem?_append_left (by omega)]
     have hj : j - (off + i * sz) < cs.length := by omega
     rw [gEg hj, ← h6 _ _ (gEg hj)]
     congr 1
     omega
    ·rw [List.getElem?_append_right (by omega), List.getElem?_drop, h4]
     congr 1
     omega
  exact ⟨_, cs, _, by rw [← e]; exact hg, by rw [List.length_take]; omega, h3, h4, h5⟩
theorem St.hand2 {w : World} {g gb : Nat} {T T2 : TypeId} {cs cs2 : List Value} (h : w.heap[g]? = some (.cells cs.toArray T (0, 0))) (h2 : w.heap[gb]? = some (.cells cs2.toArray T2 (0, 0))) (hne : g ≠ gb) : St [g, gb] w w [(g, T, cs), (gb, T2, cs2)] :=
 ⟨rfl, rfl, rfl, Nat.le_refl _, fun _ _ _ => rfl, fun x hx => by
  simp at hx
  rcases hx with rfl | rfl
  ·exact h
  ·exact h2, fun x hx => .inl (by
  simp at hx
  rcases hx with rfl | rfl <;> simp), by simp [hne]⟩
theorem St.drop2 {w0 w : World} {g gb : Nat} {own own' : Blks} {T2 : TypeId} {cs2 : List Value} (h : St [g, gb] w0 w own) (hm : (gb, T2, cs2) ∈ own) (h0 : w0.heap[gb]? = some (.cells cs2.toArray T2 (0, 0))) (hs : ∀ x ∈ own', x ∈ own ∧ x.1 ≠ gb) (hn : own'.Pairwise fun x y => x.1 ≠ y.1) : St [g] w0 w own' :=
 ⟨h.os, h.tape, h.output, h.size, fun b hb hmm => by
  by_cases e : b = gb
  ·subst e; rw [h.blk _ hm, h0]
  ·exact h.frame b hb (by simp at hmm ⊢; exact ⟨hmm, e⟩), fun x hx => h.blk x (hs x hx).1, fun x hx => (h.mine x (hs x hx).1).imp (fun hm => by
   have := (hs x hx).2
   simp at hm ⊢
   rcases hm with hm | hm
   ·exact hm
   ·exact absurd hm this) id, hn⟩
theorem KerAt.object {ok : Nat → Prop} {w : World} {g : Nat} {k : Ker} {css : List (List Value)} {Bs : List (List Nat)} (h : KerAt ok w g k css Bs) (t i : Int) :
  (k.obj t i = none ∧ ∀ W, Below w.heap.size w W → Calls Try.prog 35 #[.pointer (some ⟨g, 0, none⟩), .int .i64 t, .int .i64 i] W fun e w' => e = .returned (.pointer none) ∧ W = w') ∨
  ∃ (m j : Nat) (y : Thr) (ya : Option Addr) (yc : Nat) (oa : Option Addr) (oc gb off bc : Nat) (ma : Option Addr) (mc : Nat) (o : KObj), m < 4 ∧ t = m ∧ i = j ∧ k.threads[m]? = some y ∧ css[m]? = some (thrC y ya yc oa oc (some ⟨gb, off, none⟩) bc ma mc) ∧ Bs[m]? = some (rows2 (some ⟨gb, off, none⟩) ma) ∧ ThrR ok w y ya yc oa oc (some ⟨gb, off, none⟩) bc ma mc ∧ y.objects[j]? = some o ∧ k.obj t i = some o ∧
   ∀ W, Below w.heap.size w W → Calls Try.prog 35 #[.pointer (some ⟨g, 0, none⟩), .int .i64 t, .int .i64 i] W fun e w' => e = .returned (.pointer (some ⟨gb, off + j * 2, none⟩)) ∧ W = w' := by
 by_cases h4 : four t = true ∧ 0 ≤ i
 case neg =>
  refine .inl ⟨by unfold Ker.obj; rw [if_neg h4], fun W _ => kernel_object_far W g t i ?_⟩
  by_cases hf : four t = true
  ·by_cases hi : 0 ≤ i
   ·exact absurd ⟨hf, hi⟩ h4
   ·exact .inr (.inr (by omega))
  ·rcases four_no (by simpa using hf) with h | h
   ·exact .inl h
   ·exact .inr (.inl h.2)
 obtain ⟨m, rfl, hm⟩ := four_nat h4.1
 obtain ⟨j, rfl⟩ := Int.eq_ofNat_of_zero_le h4.2
 obtain ⟨y, ya, yc, oa, oc, ba, bc, ma, mc, ex, ec, eB, hT, hb⟩ := h.open hm
 have hpre := h.preLen hm
 have hgw := h.lt g (by simp)
 have hob : k.obj (m : Int) (j : Int) = y.objects[j]? := by
  unfold Ker.obj
  rw [if_pos h4, Ker.thr_at ex, Int.toNat_natCast]
 unfold thrC at hb
 cases hy : y.objects[j]? with
 | none =>
  refine .inl ⟨by rw [hob, hy], fun W hW => kernel_object_none W g m hm _ _ _ _ _ _ ba bc y.objects.length j hpre ?_ (by rw [hW.block g hgw]; exact hb)⟩
  exact List.getElem?_eq_none_iff.1 hy
 | some o =>
  have hj := (gEs hy).1
  rcases hT.objs.2.2 with ⟨_, h0⟩ | ⟨gb, off, cells, rfl, _⟩
  ·have := hT.objs.1; omega
  ·exact .inr ⟨m, j, y, ya, yc, oa, oc, gb, off, bc, ma, mc, o, hm, rfl, rfl, ex, ec, eB, hT, hy, by rw [hob, hy], fun W hW => kernel_object_some W g m hm _ _ _ _ _ _ gb off bc y.objects.length j hpre hj hT.objs.1 hT.objs.2.1 (by rw [hW.block g hgw]; exact hb)⟩
structure RkAt (ok : Nat → Prop) (w : World) (g : Nat) (k : Ker) (css : List (List Value)) (Bs : List (List Nat)) : Prop where
 n1 : css.length = 4
 n2 : Bs.length = 4
 n3 : k.threads.length = 4
 thr : ∀ (i : Nat) (x : Thr) (cs : List Value) (B : List Nat), k.threads[i]? = some x → css[i]? = some cs → Bs[i]? = some B → ThrAt ok w cs x B
 blk : w.heap[g]? = some (.cells (.int .i64 k.host :: (css.flatten ++ [.int .i64 k.made])).toArray 38 (0, 0))
 nodup : (g :: Bs.flatten).Nodup
 apart : ∀ b ∈ g :: Bs.flatten, ¬ ok b
theorem RkAt.lt {ok : Nat → Prop} {w : World} {g : Nat} {k : Ker} {css : List (List Value)} {Bs : List (List Nat)} (h : RkAt ok w g k css Bs) : ∀ b ∈ g :: Bs.flatten, b < w.heap.size := by
 intro b hb
 rcases List.mem_cons.1 hb with rfl | hb
 ·exact (Array.getElem?_eq_some_iff.1 h.blk).1
 ·obtain ⟨B, hB, hb⟩ := List.mem_flatten.1 hb
  obtain ⟨i, hi⟩ := List.mem_iff_getElem?.1 hB
  have hil : i < 4 := by have := (gEs hi).1; rw [h.n2] at this; exact this
  have e1 : k.threads[i]? = some (k.threads[i]'(by rw [h.n3]; exact hil)) := gEg _
  have e2 : css[i]? = some (css[i]'(by rw [h.n1]; exact hil)) := gEg _
  exact (h.thr i _ _ _ e1 e2 hi).ltB b hb
theorem RkAt.move {ok ok' : Nat → Prop} {w w' : World} {g : Nat} {k : Ker} {css : List (List Value)} {Bs : List (List Nat)} (h : RkAt ok w g k css Bs) (hs : w.heap.size ≤ w'.heap.size) (hk : ∀ b, b < w.heap.size → ok b → ok' b ∧ w'.heap[b]? = w.heap[b]?) (hB : ∀ b ∈ g :: Bs.flatten, w'.heap[b]? = w.heap[b]? ∧ ¬ ok' b) : RkAt ok' w' g k css Bs :=
 ⟨h.n1, h.n2, h.n3, fun i x cs B e1 e2 e3 => (h.thr i x cs B e1 e2 e3).move hs hk fun b hb => (hB b (List.mem_cons_of_mem _ (List.mem_flatten.2 ⟨B, mgE e3, hb⟩))).1, by rw [(hB g (by simp)).1]; exact h.blk, h.nodup, fun b hb => (hB b hb).2⟩
theorem RkAt.below {ok : Nat → Prop} {w w' : World} {g : Nat} {k : Ker} {css : List (List Value)} {Bs : List (List Nat)} (h : RkAt ok w g k css Bs) (hb : Below w.heap.size w w') : RkAt ok w' g k css Bs :=
 h.move hb.size (fun b hb' ho => ⟨ho, hb.block b hb'⟩) fun b hb' => ⟨hb.block b (h.lt b hb'), h.apart b hb'⟩
section
variable {ok : Nat → Prop} {w : World} {g : Nat} {k : Ker} {css : List (List Value)} {Bs : List (List Nat)}
theorem RkAt.five (h : RkAt ok w g k css Bs) : ∀ cs ∈ css, cs.length = 5 := by
 intro cs hcs
 obtain ⟨i, hi⟩ := List.mem_iff_getElem?.1 hcs
 have hil : i < 4 := by have := (gEs hi).1; rw [h.n1] at this; exact this
 have e1 : k.threads[i]? = some (k.threads[i]'(by rw [h.n3]; exact hil)) := gEg _
 have e2 : Bs[i]? = some (Bs[i]'(by rw [h.n2]; exact hil)) := gEg _
 exact (h.thr i _ _ _ e1 hi e2).len
theorem RkAt.preLen (h : RkAt ok w g k css Bs) {t : Nat} (ht : t < 4) : (preC k css t).length = 1 + t * 5 := by
 unfold preC
 rw [List.length_cons, flatten5 _ fun cs hc => h.five cs (List.mem_of_mem_take hc), List.length_take, h.n1]
 omega
theorem RkAt.cells (h : RkAt ok w g k css Bs) {t : Nat} (ht : t < 4) {cs : List Value} (hc : css[t]? = some cs) : .int .i64 k.host :: (css.flatten ++ [.int .i64 k.made]) = winC (preC k css t) cs (postC k css t) := by
 unfold winC preC postC
 have hl : t < css.length := by rw [h.n1]; exact ht
 have e : css = css.take t ++ cs :: css.drop (t + 1) := by
  have hcs : css[t] = cs := by rw [gEg hl] at hc; exact Option.some.inj hc
  rw [← hcs, ← List.drop_eq_getElem_cons hl, List.take_append_drop]
 conv => lhs; rw [e]
 simp
theorem RkAt.open (h : RkAt ok w g k css Bs) {t : Nat} (ht : t < 4) : ∃ x la lc oa oc ba bc ma mc, k.threads[t]? = some x ∧ css[t]? = some (thrC x la lc oa oc ba bc ma mc) ∧ Bs[t]? = some (rows2 ba ma) ∧ ThrR ok w x la lc oa oc ba bc ma mc ∧
  w.heap[g]? = some (.cells (winC (preC k css t) (thrC x la lc oa oc ba bc ma mc) (postC k css t)).toArray 38 (0, 0)) := by
 have e1 : k.threads[t]? = some (k.threads[t]'(by rw [h.n3]; exact ht)) := gEg _
 have e2 : css[t]? = some (css[t]'(by rw [h.n1]; exact ht)) := gEg _
 have e3 : Bs[t]? = some (Bs[t]'(by rw [h.n2]; exact ht)) := gEg _
 obtain ⟨la, lc, oa, oc, ba, bc, ma, mc, h1, h2, h3⟩ := h.thr t _ _ _ e1 e2 e3
 rw [h1] at e2
 rw [h3] at e3
 refine ⟨_, la, lc, oa, oc, ba, bc, ma, mc, e1, e2, e3, h2, ?_⟩
 rw [← h.cells ht e2]
 exact h.blk
theorem RkAt.inB (_ : RkAt ok w g k css Bs) {t : Nat} {B : List Nat} (hB : Bs[t]? = some B) {b : Nat} (hb : b ∈ B) : b ∈ Bs.flatten := List.mem_flatten.2 ⟨B, mgE hB, hb⟩
theorem RkAt.gOut (h : RkAt ok w g k css Bs) {t : Nat} {B : List Nat} (hB : Bs[t]? = some B) : g ∉ B := fun hb => (List.nodup_cons.1 h.nodup).1 (h.inB hB hb)
theorem RkAt.apartAt (h : RkAt ok w g k css Bs) {t : Nat} {B : List Nat} (hB : Bs[t]? = some B) {b : Nat} (hb : b ∈ B) : ¬ ok b := h.apart b (List.mem_cons_of_mem _ (h.inB hB hb))
theorem RkAt.rowsNe (h : RkAt ok w g k css Bs) {t : Nat} {ba ma : Option Addr} (hB : Bs[t]? = some (rows2 ba ma)) {b : Nat} (hb : ba.map (·.block) = some b) : ma.map (·.block) ≠ some b := fun hm => by
 have hn := flatten_nodup (List.nodup_cons.1 h.nodup).2 hB
 unfold rows2 at hn
 rw [hb, hm] at hn
 simp at hn
theorem RkAt.len22 (h : RkAt ok w g k css Bs) {t : Nat} (ht : t < 4) (A B C D E : Value) : (winC (preC k css t) [A, B, C, D, E] (postC k css t)).length = 22 := by
 rw [winC_length, h.preLen ht]
 unfold postC
 rw [List.length_append, flatten5 _ fun cs hc => h.five cs (List.mem_of_mem_drop hc), List.length_drop, h.n1]
 simp
 omega
theorem RkAt.host (_ : RkAt ok w g k css Bs) (t : Nat) (win post : List Value) : (winC (preC k css t) win post)[0]? = some (.int .i64 k.host) := rfl
theorem RkAt.madeAt (h : RkAt ok w g k css Bs) {t : Nat} (ht : t < 4) (A B C D E : Value) : (winC (preC k css t) [A, B, C, D, E] (postC k css t))[21]? = some (.int .i64 k.made) := by
 have h1 := h.preLen ht
 have h2 : (css.drop (t + 1)).flatten.length = 5 * (4 - (t + 1)) := by rw [flatten5 _ fun cs hc => h.five cs (List.mem_of_mem_drop hc), List.length_drop, h.n1]
 unfold winC postC
 rw [List.getElem?_append_right (by omega), List.getElem?_append_right (by simp only [List.length_cons, List.length_nil]; omega), List.getElem?_append_right (by simp only [List.length_cons, List.length_nil]; omega)]
 have : 21 - (preC k css t).length - [A, B, C, D, E].length - (css.drop (t + 1)).flatten.length = 0 := by simp only [List.length_cons, List.length_nil]; omega
 rw [this]
 rfl
theorem RkAt.madePut (h : RkAt ok w g k css Bs) {t : Nat} (ht : t < 4) (A B C D E : Value) (m : Int) : putL (winC (preC k css t) [A, B, C, D, E] (postC k css t)) 21 [.int .i64 m] = winC (preC k css t) [A, B, C, D, E] (postC { k with made := m } css t) := by
 have h1 := h.preLen ht
 have h2 : (css.drop (t + 1)).flatten.length = 5 * (4 - (t + 1)) := by rw [flatten5 _ fun cs hc => h.five cs (List.mem_of_mem_drop hc), List.length_drop, h.n1]
 unfold winC postC
 rw [← List.append_assoc, ← List.append_assoc, ← List.append_assoc, ← List.append_assoc]
 have : 21 = (preC k css t ++ [A, B, C, D, E] ++ (css.drop (t + 1)).flatten).length + 0 := by simp only [List.length_append, List.length_cons, List.length_nil]; omega
 conv => lhs; rw [this]
 rw [putL_pre]
 simp [putL]
def RkTo (ok : Nat → Prop) (w : World) (g : Nat) (Bs : List (List Nat)) (w' : World) (k' : Ker) : Prop :=
 ∃ css' Bs', RkAt (fun b => (ok b ∨ w.heap.size ≤ b) ∧ b ∉ g :: Bs'.flatten) w' g k' css' Bs' ∧ St (g :: Bs.flatten) w w' [] ∧ ∀ b ∈ Bs'.flatten, b ∈ Bs.flatten ∨ w.heap.size ≤ b
theorem RkTo.none (h : RkAt ok w g k css Bs) {w' : World} (hb : Below w.heap.size w w') : RkTo ok w g Bs w' k :=
 ⟨css, Bs, h.move hb.size (fun b hb' ho => ⟨⟨.inl ho, fun hm => h.apart b hm ho⟩, hb.block b hb'⟩) fun b hb' => ⟨hb.block b (h.lt b hb'), fun hh => hh.2 hb'⟩, ⟨hb.os, hb.tape, hb.output, hb.size, fun b hb' _ => hb.block b hb', by simp, by simp, by simp⟩, fun b hb => .inl hb⟩
theorem RkAt.close (h : RkAt ok w g k css Bs) {t : Nat} (ht : t < 4) {cs : List Value} {B : List Nat} (hc : css[t]? = some cs) (hB : Bs[t]? = some B) {w' : World} {cs' : List Value} {x' : Thr} {B' : List Nat} {made' : Int} {own : Blks}
  (st : St (g :: B) w w' own) (hb : w'.heap[g]? = some (.cells (winC (preC k css t) cs' (postC { k with made := made' } css t)).toArray 38 (0, 0)))
  (hT : ThrAt (fun b => (ok b ∨ w.heap.size ≤ b) ∧ b ∉ g :: B') w' cs' x' B') (hn : B'.Nodup) (hin : ∀ b ∈ B', b ∈ B ∨ w.heap.size ≤ b) : RkTo ok w g Bs w' { k.put t x' with made := made' } := by
 have hgl := (h.lt g (by simp))
 have hBm := mgE hB
 have hBB : ∀ b ∈ B, b ∈ Bs.flatten := fun b hb => List.mem_flatten.2 ⟨B, hBm, hb⟩
 have hn0 := List.nodup_cons.1 h.nodup
 have hin' : ∀ b ∈ (Bs.set t B').flatten, b ∈ Bs.flatten ∨ w.heap.size ≤ b := fun b hb => by
  rcases flatten_set_mem hb with hb | ⟨j, D, _, hj, hb⟩
  ·exact (hin b hb).imp (hBB b) id
  ·exact .inl (List.mem_flatten.2 ⟨D, mgE hj, hb⟩)
 have hsame : ∀ b, b < w.heap.size → b ∉ g :: B → w'.heap[b]? = w.heap[b]? := st.frame
 refine ⟨css.set t cs', Bs.set t B', ⟨by simp [h.n1], by simp [h.n2], by simp [Ker.put, h.n3], fun i x cs2 B2 e1 e2 e3 => ?_, ?_, ?_, fun b hb hh => hh.2 hb⟩, ⟨st.os, st.tape, st.output, st.size, fun b hb' hm => hsame b hb' fun hm2 => hm (by
  rcases List.mem_cons.1 hm2 with rfl | h2
  ·simp
  ·exact List.mem_cons_of_mem _ (hBB b h2)), by simp, by simp, by simp⟩, hin'⟩
 ·simp only [Ker.put, Int.toNat_natCast] at e1
  rw [List.getElem?_set] at e1 e2 e3
  by_cases hti : t = i
  ·subst hti
   rw [if_pos rfl, if_pos (by rw [h.n3]; exact ht)] at e1
   rw [if_pos rfl, if_pos (by rw [h.n1]; exact ht)] at e2
   rw [if_pos rfl, if_pos (by rw [h.n2]; exact ht)] at e3
   cases e1; cases e2; cases e3
   refine hT.move (Nat.le_refl _) (fun b hb ho => ⟨⟨ho.1, fun hm => ?_⟩, rfl⟩) fun _ _ => rfl
   rcases List.mem_cons.1 hm with rfl | hm
   ·exact ho.2 (by simp)
   ·rcases flatten_set_mem hm with hm | ⟨j, D, hj, hD, hm⟩
    ·exact ho.2 (by simp [hm])
    ·have hmB : b ∈ Bs.flatten := List.mem_flatten.2 ⟨D, mgE hD, hm⟩
     rcases ho.1 with ho1 | ho1
     ·exact h.apart b (List.mem_cons_of_mem _ hmB) ho1
     ·have := h.lt b (List.mem_cons_of_mem _ hmB); omega
  ·rw [if_neg hti] at e1 e2 e3
   have hother : ∀ b ∈ B2, b ∉ g :: B := fun b hbm hm => by
    rcases List.mem_cons.1 hm with hm | hm
    ·exact hn0.1 (hm ▸ List.mem_flatten.2 ⟨B2, mgE e3, hbm⟩)
    ·exact nodup_apart hn0.2 hB e3 hti b hm hbm
   refine (h.thr i x cs2 B2 e1 e2 e3).move st.size (fun b hb ho => ⟨⟨.inl ho, fun hm => ?_⟩, hsame b hb fun hm => h.apart b (by
    rcases List.mem_cons.1 hm with rfl | h2
    ·simp
    ·exact List.mem_cons_of_mem _ (hBB b h2)) ho⟩) fun b hb => hsame b (h.lt b (List.mem_cons_of_mem _ (List.mem_flatten.2 ⟨B2, mgE e3, hb⟩))) (hother b hb)
   rcases List.mem_cons.1 hm with rfl | hm
   ·exact h.apart b (by simp) ho
   ·rcases hin' b hm with hm | hm
    ·exact h.apart b (List.mem_cons_of_mem _ hm) ho
    ·omega
 ·rw [hb]
  have hc' : (css.set t cs')[t]? = some cs' := by rw [List.getElem?_set_self (by rw [h.n1]; exact ht)]
  congr 3
  unfold winC preC postC
  have hl : t < (css.set t cs').length := by simp [h.n1]; exact ht
  have e : css.set t cs' = css.take t ++ cs' :: css.drop (t + 1) := by
   rw [List.set_eq_take_append_cons_drop, if_pos (by rw [h.n1]; exact ht)]
  rw [e]
  simp [Ker.put]
 ·refine List.nodup_cons.2 ⟨fun hm => ?_, nodup_set hn0.2 hB hn fun b hb => (hin b hb).imp id fun h1 hm => ?_⟩
  ·rcases hin' g hm with hm | hm
   ·exact hn0.1 hm
   ·omega
  ·have := h.lt b (List.mem_cons_of_mem _ hm); omega
theorem RkAt.closeSame (h : RkAt ok w g k css Bs) {t : Nat} (ht : t < 4) {x x' : Thr} {la : Option Addr} {lc : Nat} {oa : Option Addr} {oc : Nat} {ba : Option Addr} {bc : Nat} {ma : Option Addr} {mc : Nat} {la' : Option Addr} {lc' : Nat} {oa' : Option Addr} {oc' : Nat}
  (hc : css[t]? = some (thrC x la lc oa oc ba bc ma mc)) (hB : Bs[t]? = some (rows2 ba ma)) {w' : World} {made' : Int} (hT : ThrR ok w x la lc oa oc ba bc ma mc)
  (st : St [g] w w' [(g, 38, winC (preC k css t) (thrC x' la' lc' oa' oc' ba bc ma mc) (postC { k with made := made' } css t))])
  (ho : x'.objects = x.objects) (hm : x'.mails = x.mails)
  (hl : SlR (fun b => (ok b ∨ w.heap.size ≤ b) ∧ b ∉ g :: rows2 ba ma) w' 2 RLev la' lc' x'.label) (ho' : SlR (fun b => (ok b ∨ w.heap.size ≤ b) ∧ b ∉ g :: rows2 ba ma) w' 1 RInt oa' oc' x'.own) : RkTo ok w g Bs w' { k.put t x' with made := made' } := by
 have hokw : ∀ b, b < w.heap.size → ok b → ((ok b ∨ w.heap.size ≤ b) ∧ b ∉ g :: rows2 ba ma) ∧ w'.heap[b]? = w.heap[b]? := fun b hb hob => by
  refine ⟨⟨.inl hob, fun hmm => ?_⟩, st.frame b hb fun hmm => ?_⟩
  ·rcases List.mem_cons.1 hmm with rfl | hmm
   ·exact h.apart b (by simp) hob
   ·exact h.apartAt hB hmm hob
  ·simp at hmm; subst hmm; exact h.apart b (by simp) hob
 refine h.close ht hc hB (st.wider2 (by simp)) (st.blk _ (mgE (i := 0) rfl)) ⟨la', lc', oa', oc', ba, bc, ma, mc, rfl, ⟨hl, ho', ?_, ?_⟩, rfl⟩ (flatten_nodup (List.nodup_cons.1 h.nodup).2 hB) fun b hb => .inl hb
 ·rw [ho]; exact hT.objs.kept (fun b e => st.frame b (hT.objs.lt e) (by simp; rintro rfl; exact h.gOut hB (mem_rows2.2 (.inl e)))) fun _ _ r => r.move st.size hokw
 ·rw [hm]; exact hT.mails.kept (fun b e => st.frame b (hT.mails.lt e) (by simp; rintro rfl; exact h.gOut hB (mem_rows2.2 (.inr e)))) fun _ _ r => r.move st.size hokw
theorem RkAt.closeMails (h : RkAt ok w g k css Bs) {t : Nat} (ht : t < 4) {x x' : Thr} {la : Option Addr} {lc : Nat} {oa : Option Addr} {oc : Nat} {ba : Option Addr} {bc : Nat} {ma : Option Addr} {mc : Nat} {la' : Option Addr} {lc' : Nat} {oa' : Option Addr} {oc' : Nat} {ma' : Option Addr} {mc' : Nat}
  (hc : css[t]? = some (thrC x la lc oa oc ba bc ma mc)) (hB : Bs[t]? = some (rows2 ba ma)) {w' : World} {made' : Int} (hT : ThrR ok w x la lc oa oc ba bc ma mc)
  (st : St [g] w w' [(g, 38, winC (preC k css t) (thrC x' la' lc' oa' oc' ba bc ma' mc') (postC { k with made := made' } css t))])
  (ho : x'.objects = x.objects)
  (hl : SlR (fun b => (ok b ∨ w.heap.size ≤ b) ∧ b ∉ g :: rows2 ba ma) w' 2 RLev la' lc' x'.label) (ho' : SlR (fun b => (ok b ∨ w.heap.size ≤ b) ∧ b ∉ g :: rows2 ba ma) w' 1 RInt oa' oc' x'.own)
  (hm : RowAt 42 w' 5 (RMail (fun b => (ok b ∨ w.heap.size ≤ b) ∧ b ∉ g :: rows2 ba ma) w') ma' mc' x'.mails) (hin : ∀ b, ma'.map (·.block) = some b → ma.map (·.block) = some b) : RkTo ok w g Bs w' { k.put t x' with made := made' } := by
 have hsub : ∀ b, b ∈ rows2 ba ma' → b ∈ rows2 ba ma := fun b hb => by
  rcases mem_rows2.1 hb with hb | hb
  ·exact mem_rows2.2 (.inl hb)
  ·exact mem_rows2.2 (.inr (hin b hb))
 have hsub2 : ∀ b, b ∉ g :: rows2 ba ma → b ∉ g :: rows2 ba ma' := fun b hb hm => by
  rcases List.mem_cons.1 hm with rfl | hm
  ·exact hb (by simp)
  ·exact hb (List.mem_cons_of_mem _ (hsub b hm))
 have hokw : ∀ b, b < w.heap.size → ok b → ((ok b ∨ w.heap.size ≤ b) ∧ b ∉ g :: rows2 ba ma') ∧ w'.heap[b]? = w.heap[b]? := fun b hb hob => by
  refine ⟨⟨.inl hob, hsub2 b fun hmm => ?_⟩, st.frame b hb fun hmm => ?_⟩
  ·rcases List.mem_cons.1 hmm with rfl | hmm
   ·exact h.apart b (by simp) hob
   ·exact h.apartAt hB hmm hob
  ·simp at hmm; subst hmm; exact h.apart b (by simp) hob
 have hnd : (rows2 ba ma').Nodup := by
  have := flatten_nodup (List.nodup_cons.1 h.nodup).2 hB
  unfold rows2 at this ⊢
  cases hma : ma' with
  | none => cases ba <;> simp
  | some ad =>
   have e := hin ad.block (by rw [hma]; rfl)
   rw [e] at this
   exact this
 refine h.close ht hc hB (st.wider2 (by simp)) (st.blk _ (mgE (i := 0) rfl)) ⟨la', lc', oa', oc', ba, bc, ma', mc', rfl, ⟨hl.okay fun b hb => ⟨hb.1, hsub2 b hb.2⟩, ho'.okay fun b hb => ⟨hb.1, hsub2 b hb.2⟩, ?_, hm.kept (fun _ _ => rfl) fun _ _ r => r.move (Nat.le_refl _) fun b _ hb => ⟨⟨hb.1, hsub2 b hb.2⟩, rfl⟩⟩, rfl⟩ hnd fun b hb => .inl (hsub b hb)
 rw [ho]; exact hT.objs.kept (fun b e => st.frame b (hT.objs.lt e) (by simp; rintro rfl; exact h.gOut hB (mem_rows2.2 (.inl e)))) fun _ _ r => r.move st.size hokw
theorem RkAt.fine (h : RkAt ok w g k css Bs) {t : Nat} {B : List Nat} (hB : Bs[t]? = some B) {w' : World} {α : Type} {sz : Nat} {R : List Value → α → Prop} {a : Option Addr} {c : Nat} {xs : List α} (hs : SlR (fun b => ok b ∨ w.heap.size ≤ b) w' sz R a c xs) : SlR (fun b => (ok b ∨ w.heap.size ≤ b) ∧ b ∉ g :: B) w' sz R a c xs :=
 hs.okay fun b hb => ⟨hb, fun hm => by
  have hlt := h.lt b (by
   rcases List.mem_cons.1 hm with rfl | hm
   ·simp
   ·exact List.mem_cons_of_mem _ (h.inB hB hm))
  rcases hb with hb | hb
  ·rcases List.mem_cons.1 hm with rfl | hm
   ·exact h.apart b (by simp) hb
   ·exact h.apartAt hB hm hb
  ·omega⟩
end
end Go.Proofs.Ytealbofmlieicaa
