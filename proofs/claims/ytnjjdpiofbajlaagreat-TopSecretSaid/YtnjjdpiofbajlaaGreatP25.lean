/- Walks and plain laws, part 25. -/
import Derived.Test.YtnjjdpiofbajlaaGreatP22
import Derived.Deep.LoopGhost
import Derived.Deep.DeepCutAuto
import Derived.Deep.CutBlock
import Derived.Test.YtnjjdpiofbajlaaGreatP24
set_option linter.unusedSimpArgs false
set_option linter.unusedVariables false
set_option maxHeartbeats 16000000
set_option maxRecDepth 100000
namespace Go.Proofs.YtnjjdpiofbajlaaGreat
open Go.RowKit
theorem ownC_lo (l : List Int) (c : Int) : (ownC l c).2 = 0 ∨ ((ownC l c).2 = 5 ∧ (ownC l c).1 = l) := by
 unfold ownC
 split
 ·exact .inl rfl
 ·split
  ·exact .inr ⟨rfl, rfl⟩
  ·exact .inl rfl
theorem insI_length {x : Int} {l : List Int} : (insI x l).length ≤ l.length + 1 := by
 induction l with
 | nil => simp [insI]
 | cons y l ih =>
  rw [insI.eq_2]
  split
  ·simp
  ·split
   ·simp
   ·simp; omega
theorem ownC_ok {l : List Int} (hr : Rising l) (hl : l.length ≤ 8) (c : Int) : Rising (ownC l c).1 ∧ (ownC l c).1.length ≤ 8 := by
 unfold ownC
 split
 ·exact ⟨hr, hl⟩
 ·split
  ·exact ⟨hr, hl⟩
  ·exact ⟨insI_rising hr, by have := @insI_length c l; simp only; omega⟩
def RepV (r : Rep) : Value := .agg #[.int .i64 r.code, .int .i64 r.n, .string r.text]
def TakePost (ok : Nat → Prop) (w : World) (g : Nat) (pre post : List Value) (la : Option Addr) (lc : Nat) (ba : Option Addr) (bc : Nat) (ma : Option Addr) (r : Thr × Rep) (e : Ending) (w' : World) : Prop :=
 ∃ oa' oc' ma' mc', e = .returned (RepV r.2) ∧ St [g] w w' [(g, 98, winC pre (thrC r.1 la lc oa' oc' ba bc ma' mc') post)] ∧ SlR (fun b => ok b ∨ w.heap.size ≤ b) w' 1 RInt oa' oc' r.1.own ∧
  RowAt 42 w' 5 (RMail ok w) ma' mc' r.1.mails ∧ (∀ b, ma'.map (·.block) = some b → ma.map (·.block) = some b)
theorem kernel_take (ok : Nat → Prop) (w : World) (g p : Nat) (pre post : List Value) (x : Thr) (la : Option Addr) (lc : Nat) (oa : Option Addr) (oc : Nat) (ba : Option Addr) (bc : Nat) (ma : Option Addr) (mc : Nat) (hpre : pre.length = p) (hx : x.ok) (hR : ThrR ok w x la lc oa oc ba bc ma mc)
  (hg : ¬ ok g) (hgm : ma.map (·.block) ≠ some g) (hb : w.heap[g]? = some (.cells (winC pre (thrC x la lc oa oc ba bc ma mc) post).toArray 98 (0, 0))) :
  Calls Tryz.prog 74 #[.pointer (some ⟨g, 0, none⟩), .pointer (some ⟨g, p, none⟩)] w (TakePost ok w g pre post la lc ba bc ma (takeX x)) := by
 have hgl := (Array.getElem?_eq_some_iff.1 hb).1
 have st := St.hand hb
 unfold thrC at *
 clear hb
 have HKp := qh (show ∀ (W : World) (bl : Blks), St [g] w W bl → Keeps ok w W from fun W bl s => s.keeps (by simpa using hg))
 obtain ⟨h1, h2, h3, h4⟩ := hR
 have hxl := goodL_len hx.good; have hxo := hx.ownL; have hxt := hx.text; have hxm := hx.mailN
 have HM := qh hx.mail
 have HR := qh hx.own
 go_enter Tryz.func74, Tryz.ntmps74
 go_wp2_with (first | go_skip | (with_reducible refine mA st Tryz.zeroValue35 ?_; clear st; intro g4 w4 hg4 st))
 have hg4l := st.ltAt (i := 1) rfl
 have h40 := h4.kept (w' := w4) (R' := RMail ok w) (fun b hb => st.frame b (h4.lt hb) (by simp; rintro rfl; exact hgm hb)) fun _ _ h => h
 have hg4w : w.heap.size ≤ g4 := hg4
 simp only [kP, kA, kS, kZ]
 go_loopg [5] 6 (fun n v5 wr => ∃ (l : List Mail) (a' : Option Addr) (c' : Nat), l.length ≤ n ∧ (∀ m ∈ l, goodMailC m = 0) ∧ Hid (takeM x.label x.own x.mails = takeM x.label x.own l) ∧ St [g] w wr [(g, 98, winC pre [.slice la x.label.length lc, .slice oa x.own.length oc, .string x.text, .slice ba x.objects.length bc, .slice a' l.length c'] post), (g4, 35, [.int .i64 0, .int .i64 0, .string ⟨#[]⟩])] ∧ RowAt 42 wr 5 (RMail ok w) a' c' l ∧ (∀ b, a'.map (·.block) = some b → ma.map (·.block) = some b))
 case atStart => exact ⟨x.mails, ma, mc, hxm, HM.out, rfl, st, h40, fun _ h => h⟩
 case round =>
  clear st h40
  obtain ⟨l, a', c', hln, hlm, HT, st, hRow, hab⟩ := hrel
  cases l with
  | nil =>
   have HE : Hid (takeX x = ({ x with mails := [] }, errR 4)) := qh (by unfold takeX; rw [HT.out]; rfl)
   clear HT
   go_wp2_with (first | go_skip | (with_reducible refine at_load 37 ?_; (first | refine mem_loadW st 37 _ rfl (wanted_none rfl) Tryz.isAgg37 4 ?_ | (refine mem_loadW st 37 _ rfl (wanted_some rfl ?_) Tryz.isAgg37 4 ?_; focus (simp [yielded, Act.put]; done))); refine ⟨0, _, _, _, _, _, _, _, hpre, rfl, rfl, rfl, ?_⟩) | (with_reducible refine mS 1 st Tryz.sizeOf35 ?_; clear st; intro w9 st hw9m hw9z))
   have hc := fun j => st.cell (i := 1) rfl j
   refine bodyPost_ret (v := RepV (errR 4)) ?hr rfl ?_
   case hr => simp [results, Tryz.results74, go_sem, hc, RepV, errR]; try rfl
   rw [HE.out]
   refine ⟨oa, oc, a', c', rfl, st.sub (by simp [thrC]) (by simp), (h2.keep (HKp.out _ _ st)).okay fun _ h => .inl h, ?_, hab⟩
   exact hRow.kept (fun b hb => hw9m b (by rintro rfl; have := h4.lt (hab _ hb); omega)) fun _ _ h => h
  | cons m l =>
   have hgm4 := hlm m (by simp)
   have hl1 := hRow.1
   rcases hRow.2.2 with ⟨_, h0⟩ | ⟨gm, off, cells, rfl, hgb, hle, hx2⟩
   ·simp only [List.length_cons] at hl1; omega
   obtain ⟨cs, ⟨l1, k1, l2, k2, rfl, hA, hB⟩, hlen, h1c, hcell⟩ := hx2 0 m rfl
   have hgmx := hab gm rfl
   have hgmw := h4.lt hgmx
   have hne : gm ≠ g := fun e => hgm (by rw [hgmx, e])
   have HC := qh (show ∀ (j : Nat) (v : Value), [Value.int .i64 m.host, .int .i64 m.thread, .slice l1 m.label.length k1, .slice l2 m.grants.length k2, .string m.text][j]? = some v → wr.cell? ⟨gm, off + j, none⟩ = some v from fun j v hv => by
    rw [cell_of_row wr gm _ cells.toArray _ (0, 0) hgb]
    simpa using hcell j v hv)
   obtain ⟨q, rfl⟩ : ∃ q, c' = q + 1 := ⟨c' - 1, by simp only [List.length_cons] at hl1; omega⟩
   have hTail := qh hRow.tail
   obtain ⟨⟨q1, q2⟩, ⟨q3, q4⟩, q5, q6, q7⟩ := mail_facts hgm4
   have q8 := (grants_facts q6).1
   have q9 : m.label.length ≤ 8 := by unfold goodL at q5; by_cases h : m.label.length ≤ 8; exact h; rw [if_neg h] at q5; simp at q5
   clear q5 q6
   have hcm := hRow.2.1
   unfold maxLen at hcm
   have HGo := qh hRow
   clear hRow hcell hlen h1c hle hx2
   have st1 := st.rebase
   have stK := st
   clear st
   have st := st1
   clear st1
   simp only [List.map_cons, List.map_nil, List.length_cons] at st
   have hlq : l.length ≤ q := by simp only [List.length_cons] at hl1; omega
   go_upto_region 3 with (first
      | go_skip | (with_reducible refine at_load 37 ?_; (first | refine mem_loadW st 37 _ rfl (wanted_none rfl) Tryz.isAgg37 4 ?_ | (refine mem_loadW st 37 _ rfl (wanted_some rfl ?_) Tryz.isAgg37 4 ?_; focus (simp [yielded, Act.put]; done))); refine ⟨0, _, _, _, _, _, _, _, hpre, rfl, rfl, rfl, ?_⟩) | (with_reducible refine at_load 42 ?_; refine wpList_load_cells (wanted_none rfl) 42 _ rfl Tryz.isAgg42 _ Tryz.sizeOf42 gm off rfl [.int .i64 m.host, .int .i64 m.thread, .slice l1 m.label.length k1, .slice l2 m.grants.length k2, .string m.text] rfl HC.out ?_)
      | (with_reducible refine mA st Tryz.zeroValue42 ?_; clear st; intro g5 w5 hg5 st) | (with_reducible refine mS 2 st Tryz.sizeOf42 ?_; clear st; intro w6 st hw6m hw6z))
   have hgmr : gm < wr.heap.size := by have := stK.size; omega
   have h54 : g4 < wr.heap.size := stK.ltAt (i := 1) rfl
   have hgr : g < wr.heap.size := stK.ltAt (i := 0) rfl
   have hw6 : w6.heap[gm]? = wr.heap[gm]? := st.frame gm hgmr (by simp; omega)
   simp only [kP, kA, kS, kZ]
   go_cut [5] (fun s5 wx => ∃ (off' : Nat), s5 = .pointer (some ⟨g5, 0, none⟩) ∧ St [g, g4] wr wx [(g, 98, winC pre [.slice la x.label.length lc, .slice oa x.own.length oc, .string x.text, .slice ba x.objects.length bc, .slice (some ⟨gm, off', none⟩) l.length q] post), (g4, 35, [.int .i64 0, .int .i64 0, .string ⟨#[]⟩]), (g5, 42, [.int .i64 m.host, .int .i64 m.thread, .slice l1 m.label.length k1, .slice l2 m.grants.length k2, .string m.text])] ∧ RowAt 42 wr 5 (RMail ok w) (some ⟨gm, off', none⟩) q l)
   case first =>
    rcases Nat.eq_zero_or_pos q with hq | hq
    ·have HQ := qh (hTail.out.2 (by omega))
     subst hq
     have HL := qh hlq
     clear hlq
     go_wp2_with (first | go_skip | (with_reducible refine at_load 37 ?_; (first | refine mem_loadW st 37 _ rfl (wanted_none rfl) Tryz.isAgg37 4 ?_ | (refine mem_loadW st 37 _ rfl (wanted_some rfl ?_) Tryz.isAgg37 4 ?_; focus (simp [yielded, Act.put]; done))); refine ⟨0, _, _, _, _, _, _, _, hpre, rfl, rfl, rfl, ?_⟩) | (with_reducible refine at_store 37 ?_; refine mem_storeW st 37 _ _ rfl (wanted_none rfl) _ Tryz.sizeOf37 4 ?_; refine ⟨0, _, _, _, _, _, _, _, hpre, rfl, rfl, rfl, rfl, rfl, rfl, ?_⟩; clear st; intro w7 st hw7m hw7z; simp [Act.eval, Act.put, Value.cells, putL] at st))
     go_meet
     exact ⟨off, rfl, st, HQ.out⟩
    ·have HQ := qh hTail.out.1
     go_wp2_with (first | go_skip | (with_reducible refine at_load 37 ?_; (first | refine mem_loadW st 37 _ rfl (wanted_none rfl) Tryz.isAgg37 4 ?_ | (refine mem_loadW st 37 _ rfl (wanted_some rfl ?_) Tryz.isAgg37 4 ?_; focus (simp [yielded, Act.put]; done))); refine ⟨0, _, _, _, _, _, _, _, hpre, rfl, rfl, rfl, ?_⟩) | (with_reducible refine at_store 37 ?_; refine mem_storeW st 37 _ _ rfl (wanted_none rfl) _ Tryz.sizeOf37 4 ?_; refine ⟨0, _, _, _, _, _, _, _, hpre, rfl, rfl, rfl, rfl, rfl, rfl, ?_⟩; clear st; intro w7 st hw7m hw7z; simp [Act.eval, Act.put, Value.cells, putL] at st))
     go_meet
     rw [if_neg (by omega)] at st
     exact ⟨off + 5, rfl, st, HQ.out⟩
   case rest =>
    obtain ⟨off', rfl, st, hRow2⟩ := hcut
    have hgn : gm ∉ [g, g4] := by simp; omega
    have hgo : gm ∉ [g] := by simpa using hne
    have hfr : wc.heap[gm]? = w.heap[gm]? := (st.frame gm hgmr hgn).trans (stK.frame gm hgmw (by simpa using hne))
    have hRow3 := hRow2.kept (w' := wc) (R' := RMail ok w) (fun b hb => by obtain rfl : gm = b := Option.some.inj hb; exact st.frame gm hgmr hgn) fun _ _ h => h
    have st2 := St.back stK st
    clear st stK hRow2 HC hw6 hgb HGo hTail
    have st := st2
    clear st2
    have hlm2 : ∀ m ∈ l, goodMailC m = 0 := fun m hm => hlm m (by simp [hm])
    have HMs := qh hlm2
    clear hlm hlm2 hgm4
    have HF := qh (fun (W : World) (bl : Blks) (hW : St [g] w W bl) => label_Flows ok W l1 la oa k1 lc oc m.label x.label x.own (by omega) (by omega) (hA.keep (HKp.out W _ hW)) (h1.keep (HKp.out W _ hW)) (h2.keep (HKp.out W _ hW)))
    have HT2 := qh (show takeM x.label x.own (m :: l) = if flowsL m.label x.label x.own = true then (some m, l) else takeM x.label x.own l from rfl)
    generalize flowsL m.label x.label x.own = fl at HF HT2
    go_wp2_with fail
    refine det_region (by kernel_rfl) 12 rfl (fun W => St [g] w W [(g, 98, winC pre [.slice la x.label.length lc, .slice oa x.own.length oc, .string x.text, .slice ba x.objects.length bc, .slice (some ⟨gm, off', none⟩) l.length q] post), (g4, 35, [.int .i64 0, .int .i64 0, .string ⟨#[]⟩]), (g5, 42, [.int .i64 m.host, .int .i64 m.thread, .slice l1 m.label.length k1, .slice l2 m.grants.length k2, .string m.text])]) (st.drew) (by decide +kernel) ?_
    refine detS 0 rfl ?_
    refine detT 1 rfl (fun W hW => St.run_load hW 2 27 _ rfl Tryz.isAgg27 rfl rfl rfl) ?_
    refine detS 2 rfl ?_; refine detS 3 rfl ?_; refine detS 4 rfl ?_
    refine detT 5 rfl (fun W hW => St.run_loadW hW 0 27 _ rfl Tryz.isAgg27 0 hpre rfl rfl rfl) ?_
    refine detS 6 rfl ?_; refine detS 7 rfl ?_; refine detS 8 rfl ?_
    refine detT 9 rfl (fun W hW => St.run_loadW hW 0 28 _ rfl Tryz.isAgg28 1 hpre rfl rfl rfl) ?_
    refine det_call (fn := 27) 10 rfl (by decide +kernel) (by first | exact wanted_none rfl | exact wanted_some rfl rfl) (fun W => by first | (go_simp; done) | (go_simp; rfl)) (fun W hW => (HF.out W _ hW).mono fun e w' h => ⟨h.1, hW.call h.2⟩) ?_; simp only [kP, kA, kS, kZ]
    refine detS 11 rfl ?_
    refine det_done (by decide +kernel) ?_
    clear st HF
    intro W st
    have hRow4 := hRow3.kept (w' := W) (R' := RMail ok w) (fun b hb => by obtain rfl : gm = b := Option.some.inj hb; exact (st.frame gm hgmw hgo).trans hfr.symm) fun _ _ h => h
    clear hRow3 hfr
    have stW := st
    cases fl with
    | false =>
     have HE := qh (show takeM x.label x.own x.mails = takeM x.label x.own l by rw [HT.out, HT2.out]; rfl)
     clear HT HT2
     go_wp2_with fail
     go_roundg (gk - 1)
     case measure => simp only [List.length_cons] at hln; omega
     case rel => exact ⟨l, some ⟨gm, off', none⟩, q, by simp only [List.length_cons] at hln; omega, HMs.out, HE, st.sub (by simp) (by simp [List.pairwise_cons] <;> omega), hRow4, hab⟩
    | true =>
     have HE : Hid (takeX x = ({ x with mails := l, text := knowT x.text m.text, own := ownAll x.own m.grants }, ⟨0, m.host * 4 + m.thread, ⟨#[]⟩⟩)) := qh (by unfold takeX; rw [HT.out, HT2.out]; rfl)
     clear HT HT2 HMs
     go_wp2_with (first | go_skip | (with_reducible refine mX st Tryz.isAgg9 ?_))
     refine (kernel_know _ g p pre post _ _ _ _ x.text m.text hpre (by omega) (by omega) (st.blk _ (mgE (i := 0) rfl))).mono ?_
     rintro e v1 ⟨⟨u, rfl⟩, hk⟩
     replace st := st.turn (i := 0) rfl hk
     simp only [List.set_cons_zero] at st
     have HW := qh (hRow4.kept (w' := w) (R' := RMail ok w) (fun b hb => by obtain rfl : gm = b := Option.some.inj hb; exact (stW.frame gm hgmw hgo).symm) fun _ _ h => h)
     clear hk hRow4 stW
     have hl1 := st.ltAt (i := 1) rfl
     have hl2 := st.ltAt (i := 2) rfl
     have HB := qh hB
     have hR0 : SlR (fun b => (ok b ∨ w.heap.size ≤ b) ∧ b ≠ g4) v1 1 RInt oa oc x.own := h2.move st.size (fun b hb ho => ⟨⟨.inl ho, by omega⟩, st.frame b hb (by simp; rintro rfl; exact hg ho)⟩) fun _ _ h => h
     have hg' : ¬ ((ok g ∨ w.heap.size ≤ g) ∧ g ≠ g4) := fun h => by
      rcases h.1 with h | h
      ·exact hg h
      ·omega
     generalize knowT x.text m.text = tx at st HE
     go_upto_block 2 with (first | go_skip | (with_reducible refine mX st Tryz.isAgg28 ?_))
     go_cut [] (fun wx => ∃ (oa' : Option Addr) (oc' : Nat), St [g] w wx [(g, 98, winC pre [.slice la x.label.length lc, .slice oa' (ownAll x.own m.grants).length oc', .string tx, .slice ba x.objects.length bc, .slice (some ⟨gm, off', none⟩) l.length q] post), (g4, 35, [.int .i64 0, .int .i64 0, .string ⟨#[]⟩]), (g5, 42, [.int .i64 m.host, .int .i64 m.thread, .slice l1 m.label.length k1, .slice l2 m.grants.length k2, .string m.text])] ∧ SlR (fun b => (ok b ∨ w.heap.size ≤ b) ∧ b ≠ g4) wx 1 RInt oa' oc' (ownAll x.own m.grants))
     case first =>
      go_wp2_with fail
      go_loopw [47] (fun v47 wr2 => ∃ (j : Nat) (own' : List Int) (oa' : Option Addr) (oc' : Nat), v47 = .int .i64 j ∧ j ≤ m.grants.length ∧ Hid (ownAll x.own m.grants = ownAll own' (m.grants.drop j)) ∧ Rising own' ∧ own'.length ≤ 8 ∧ St [g] w wr2 [(g, 98, winC pre [.slice la x.label.length lc, .slice oa' own'.length oc', .string tx, .slice ba x.objects.length bc, .slice (some ⟨gm, off', none⟩) l.length q] post), (g4, 35, [.int .i64 0, .int .i64 0, .string ⟨#[]⟩]), (g5, 42, [.int .i64 m.host, .int .i64 m.thread, .slice l1 m.label.length k1, .slice l2 m.grants.length k2, .string m.text])] ∧ SlR (fun b => (ok b ∨ w.heap.size ≤ b) ∧ b ≠ g4) wr2 1 RInt oa' oc' own') (fun v47 _ => m.grants.length - (intOf v47).toNat)
      case atStart => exact ⟨0, x.own, oa, oc, rfl, Nat.zero_le _, rfl, HR.out, hxo, st, hR0⟩
      case round =>
       clear st hR0
       obtain ⟨j, own', oa', oc', rfl, hj, HO, hr, hl8, st, hR⟩ := hrel
       by_cases hlt : j < m.grants.length
       ·obtain ⟨b, o, rfl, hbl, hc⟩ := (HB.out.keep (HKp.out _ _ st)).int_at j hlt
        have HS := qh (show ownAll own' (m.grants.drop j) = if (ownC own' m.grants[j]).2 = 0 then ownAll (ownC own' m.grants[j]).1 (m.grants.drop (j + 1)) else own' by rw [List.drop_eq_getElem_cons hlt]; rfl)
        have HC2 := qh (ownC_ok hr hl8 m.grants[j])
        have HL := qh (ownC_lo own' m.grants[j])
        have HOw := qh (fun W (bl : List (Nat × TypeId × List Value)) (h : St [g] w W bl) (hb : W.heap[g]? = some (.cells (winC pre [.slice la x.label.length lc, .slice oa' own'.length oc', .string tx, .slice ba x.objects.length bc, .slice (some ⟨gm, off', none⟩) l.length q] post).toArray 98 (0, 0))) (hR : SlR (fun b => (ok b ∨ w.heap.size ≤ b) ∧ b ≠ g4) W 1 RInt oa' oc' own') => kernel_own (fun b => (ok b ∨ w.heap.size ≤ b) ∧ b ≠ g4) W g p pre post _ _ _ _ oa' oc' own' m.grants[j] hpre hr hl8 hR hg' hb)
        generalize m.grants[j] = gj at HS HC2 HL HOw hc
        obtain ⟨⟨o2, e2⟩, HP⟩ : ∃ r, Hid (ownC own' gj = r) := ⟨_, rfl⟩
        rw [HP.out] at HS HC2 HL HOw
        go_wp2_with fail
        have hlg := st.ltAt (i := 1) rfl
        have hwz := st.size
        refine (HOw.out _ _ st (st.blk _ (mgE (i := 0) rfl)) hR).mono ?_
        rintro e v2 ⟨oa2, oc2, rfl, hk, hR2⟩
        replace st := st.turn (i := 0) rfl hk
        simp only [List.set_cons_zero] at st
        replace hR2 := hR2.okay (ok' := (fun b => (ok b ∨ w.heap.size ≤ b) ∧ b ≠ g4)) fun b h => h.elim id fun h => ⟨.inr (by omega), by omega⟩
        clear hk hR hc
        rcases HL.out with h0 | ⟨h5, h6⟩
        ·obtain rfl : e2 = 0 := h0
         go_wp2_with fail
         go_roundw
         case rel => exact ⟨j + 1, o2, oa2, oc2, by go_num, hlt, qh (by rw [HO.out, HS.out]; rfl), HC2.out.1, HC2.out.2, st, hR2⟩
         case measure => simp [intOf]; omega
        ·obtain rfl : e2 = 5 := h5
         obtain rfl : o2 = own' := h6
         have HE2 := qh (show ownAll x.own m.grants = o2 by rw [HO.out, HS.out]; rfl)
         go_wp2_with fail
         go_meet
         rw [HE2.out]
         exact ⟨oa2, oc2, st, hR2⟩
       ·have HE2 := qh (show ownAll x.own m.grants = own' by rw [HO.out, List.drop_of_length_le (by omega)]; rfl)
        go_wp2_with fail
        go_meet
        rw [HE2.out]
        exact ⟨oa', oc', st, hR⟩
     case rest =>
      obtain ⟨oa', oc', st, hR⟩ := hcut
      clear hR0
      have hw4 := st.size
      go_wp2_with (first | go_skip | (with_reducible refine mX st Tryz.isAgg3 ?_) | (with_reducible refine mS 1 st Tryz.sizeOf35 ?_; clear st; intro w9 st hw9m hw9z))
      have hc := fun j => st.cell (i := 1) rfl j
      refine bodyPost_ret (v := RepV ⟨0, m.host * 4 + m.thread, ⟨#[]⟩⟩) ?hr rfl ?_
      case hr => simp [results, Tryz.results74, go_sem, hc, RepV]; try rfl
      rw [HE.out]
      refine ⟨oa', oc', some ⟨gm, off', none⟩, q, rfl, st.sub (by simp [thrC]) (by simp), (hR.keep ⟨by omega, fun b hb ho => hw9m b ho.2⟩).okay fun _ h => h.1, ?_, hab⟩
      exact HW.out.kept (fun b hb => by obtain rfl : gm = b := Option.some.inj hb; exact st.frame gm hgmw hgo) fun _ _ h => h
theorem lastB_size (s : ByteArray) : (lastB s).size ≤ 64 := by
 unfold lastB
 rw [ByteArray.size_extract]
 omega
theorem knowT_size (a b : ByteArray) : (knowT a b).size ≤ 64 := lastB_size _
theorem ownAll_ok (gs : List Int) : ∀ {l : List Int}, Rising l → l.length ≤ 8 → Rising (ownAll l gs) ∧ (ownAll l gs).length ≤ 8 := by
 induction gs with
 | nil => exact fun hr hl => ⟨hr, hl⟩
 | cons g gs ih =>
  intro l hr hl
  unfold ownAll
  split
  ·exact ih (ownC_ok hr hl g).1 (ownC_ok hr hl g).2
  ·exact ⟨hr, hl⟩
theorem takeM_sub (label : List Lev) (own : List Int) (l : List Mail) : (∀ m ∈ (takeM label own l).2, m ∈ l) ∧ (takeM label own l).2.length ≤ l.length ∧ ∀ m, (takeM label own l).1 = some m → m ∈ l ∧ flowsL m.label label own = true := by
 induction l with
 | nil => exact ⟨fun _ h => h, Nat.le_refl _, fun m h => by simp [takeM] at h⟩
 | cons m l ih =>
  unfold takeM
  split
  ·rename_i hf
   exact ⟨fun x h => List.mem_cons_of_mem _ h, by simp, fun x h => by cases h; exact ⟨by simp, hf⟩⟩
  ·exact ⟨fun x h => List.mem_cons_of_mem _ (ih.1 x h), by have := ih.2.1; simp; omega, fun x h => ⟨List.mem_cons_of_mem _ (ih.2.2 x h).1, (ih.2.2 x h).2⟩⟩
theorem takeX_ok {x : Thr} (h : x.ok) : (takeX x).1.ok := by
 obtain ⟨h1, h2, h3⟩ := takeM_sub x.label x.own x.mails
 unfold takeX
 generalize takeM x.label x.own x.mails = r at *
 obtain ⟨o, l⟩ := r
 cases o with
 | none => exact ⟨h.good, h.own, h.ownL, h.text, h.objs, h.obj, Nat.le_trans h2 h.mailN, fun m hm => h.mail m (h1 m hm)⟩
 | some m => exact ⟨h.good, (ownAll_ok _ h.own h.ownL).1, (ownAll_ok _ h.own h.ownL).2, knowT_size _ _, h.objs, h.obj, Nat.le_trans h2 h.mailN, fun m hm => h.mail m (h1 m hm)⟩
theorem zeroT_ok : zeroT.ok := ⟨rfl, List.Pairwise.nil, by decide, by decide, by decide, by simp [zeroT], by decide, by simp [zeroT]⟩
theorem newK_ok {h : Int} (h0 : 0 ≤ h) (h4 : h < 4) : (newK h).ok := ⟨⟨h0, h4⟩, rfl, ⟨Int.le_refl _, by simp [newK]⟩, by simp [newK, zeroT_ok]⟩
theorem Ker.ok.at {k : Ker} (h : k.ok) (t : Int) : (k.thr t).ok := by
 unfold Ker.thr
 rw [List.getD_eq_getElem?_getD]
 cases e : k.threads[t.toNat]? with
 | none => exact zeroT_ok
 | some x => exact h.thr x (mgE e)
theorem Ker.ok.put {k : Ker} (h : k.ok) (t : Int) {x : Thr} (hx : x.ok) : (k.put t x).ok :=
 ⟨h.host, by simp [Ker.put, h.four], h.made, fun y hy => by
  rcases List.mem_or_eq_of_mem_set hy with hy | rfl
  ·exact h.thr y hy
  ·exact hx⟩
theorem Ker.ok.obj {k : Ker} (h : k.ok) {t n : Int} {o : KObj} (ho : k.obj t n = some o) : goodL o.label = true ∧ o.text.size ≤ 64 := by
 unfold Ker.obj at ho
 split at ho
 ·exact (h.at t).obj o (mgE ho)
 ·cases ho
theorem setR_good {l : List Lev} {c n : Int} (h : (setR l c n).2 = 0) : goodL (setR l c n).1 = true := by
 rcases setR_cases l c n with ⟨k, e, hk⟩ | ⟨e, h1, h2, h3, h4⟩
 ·rw [e] at h; exact absurd h hk
 ·rw [e]; exact set_good h1 h2 h3 h4
theorem callK_ok {k : Ker} (h : k.ok) (t : Int) (c : Req) (hc : c.text.size ≤ 64) : (callK k t c).1.ok := by
 have hx := h.at t
 unfold callK
 dsimp only
 split
 ·split
  ·exact h
  ·split
   ·exact h
   ·have hp := h.put t (x := { k.thr t with own := (ownC (k.thr t).own (k.host * 20 + k.made)).1 }) ⟨hx.good, (ownC_ok hx.own hx.ownL _).1, (ownC_ok hx.own hx.ownL _).2, hx.text, hx.objs, hx.obj, hx.mailN, hx.mail⟩
    exact ⟨hp.host, hp.four, ⟨by have := h.made.1; simp only; omega, by have := h.made.2; simp only; omega⟩, hp.thr⟩
 split
 ·split
  ·exact h
  ·rename_i hg
   split
   ·exact h
   ·split
    ·exact h
    ·rename_i h4
     exact h.put t ⟨hx.good, hx.own, hx.ownL, hx.text, by simp; omega, fun o ho => by
      rcases List.mem_append.1 ho with ho | ho
      ·exact hx.obj o ho
      ·simp only [List.mem_singleton] at ho
       subst ho
       exact ⟨by simpa using hg, Nat.zero_le _⟩, hx.mailN, hx.mail⟩
 split
 ·cases e : k.obj c.t c.n with
  | none => exact h
  | some o =>
   dsimp only
   split
   ·have hy := h.at c.t
    exact h.put c.t ⟨hy.good, hy.own, hy.ownL, hy.text, by simpa [Thr.putObj] using hy.objs, fun o' ho => by
     rcases List.mem_or_eq_of_mem_set ho with ho | rfl
     ·exact hy.obj o' ho
     ·exact ⟨(h.obj e).1, knowT_size _ _⟩, hy.mailN, hy.mail⟩
   ·exact h
 split
 ·cases e : k.obj c.t c.n with
  | none => exact h
  | some o =>
   dsimp only
   split
   ·exact h.put t ⟨hx.good, hx.own, hx.ownL, knowT_size _ _, hx.objs, hx.obj, hx.mailN, hx.mail⟩
   ·exact h
 split
 ·split
  ·exact h
  ·rename_i he
   split
   ·exact h
   ·exact h.put t ⟨setR_good (by simpa using he), hx.own, hx.ownL, hx.text, hx.objs, hx.obj, hx.mailN, hx.mail⟩
 split
 ·exact h.put t (takeX_ok hx)
 split
 ·exact h.put t ⟨hx.good, hx.own, hx.ownL, hc, hx.objs, hx.obj, hx.mailN, hx.mail⟩
 split
 ·exact h
 ·exact h
theorem stepC_ok {k : Ker} (h : k.ok) (t : Int) (c : Req) : (stepC k t c).1.ok := by
 unfold stepC
 split
 ·exact h
 ·split
  ·exact h
  ·exact callK_ok h t c (by omega)
theorem deliverK_ok {k : Ker} (h : k.ok) (t : Int) (m : Mail) : (deliverK k t m).ok := by
 have hx := h.at t
 unfold deliverK
 split
 ·exact h
 ·split
  ·exact h
  ·rename_i hm
   split
   ·rename_i hf
    exact h.put t ⟨hx.good, hx.own, hx.ownL, hx.text, hx.objs, hx.obj, by simp; omega, fun m' hm' => by
     rcases List.mem_append.1 hm' with hm' | hm'
     ·exact hx.mail m' hm'
     ·simp only [List.mem_singleton] at hm'
      subst hm'
      simpa using hm⟩
   ·exact h
structure Clu where
 now : Int
 kers : List Ker
 certs : List (List Cert)
 lines : List Line
 net : List ByteArray
 acts : Int
def zeroL : Line := ⟨0, [], 0, ⟨false, false, false, false, false, false, false, false⟩⟩
def newC : Clu := ⟨0, [newK 0, newK 1, newK 2, newK 3], [[], [], [], []], List.replicate 16 zeroL, [], 0⟩
def lineAt (h v : Int) : Nat := h.toNat * 4 + v.toNat
def Clu.ker (C : Clu) (h : Int) : Ker := C.kers.getD h.toNat (newK 0)
def Clu.cert (C : Clu) (h : Int) : List Cert := C.certs.getD h.toNat []
def Clu.line (C : Clu) (h v : Int) : Line := C.lines.getD (lineAt h v) zeroL
def Clu.setKer (C : Clu) (h : Int) (k : Ker) : Clu := { C with kers := C.kers.set h.toNat k }
def Clu.setCert (C : Clu) (h : Int) (l : List Cert) : Clu := { C with certs := C.certs.set h.toNat l }
def Clu.setLine (C : Clu) (h v : Int) (L : Line) : Clu := { C with lines := C.lines.set (lineAt h v) L }
def pushC (C : Clu) (f : Frame) : Clu := if (encR f).2 = 0 ∧ C.net.length < 60 then { C with net := C.net ++ [(encR f).1] } else C
def pushAll (C : Clu) (fs : List Frame) : Clu := fs.foldl pushC C
def sentLn (L : Line) (f : Frame) (now : Int) : Line × Frame × Int :=
 ({ L with next := (sendX (lineOk L) L.next L.sent f now).next, sent := (sendX (lineOk L) L.next L.sent f now).sent }, (sendX (lineOk L) L.next L.sent f now).f, (sendX (lineOk L) L.next L.sent f now).k)
def answLn (L : Line) (seq : Int) : Line := { L with sent := (answX (lineOk L) L.sent seq).2 }
def tookLn (L : Line) (seq : Int) : Line × Int := ({ L with high := (takeC (lineOk L) L.high seq L.seen).1, seen := (takeC (lineOk L) L.high seq L.seen).2.1 }, (takeC (lineOk L) L.high seq L.seen).2.2)
def againLn (L : Line) (now : Int) : Line × List Frame := ({ L with sent := (againX (lineOk L) L.sent now).sent }, (againX (lineOk L) L.sent now).out)
def mailF (h v t : Int) (m : Mail) (cs : List Cert) : Frame := ⟨h, v, 0, false, t, m, cs⟩
noncomputable def sendC (C : Clu) (h v t : Int) (m : Mail) : Clu × Int :=
 if h = v then (C.setKer h (deliverK (C.ker h) t m), 0)
 else if mayB (C.cert h) v m C.now = false then (C, 8)
 else if (sentLn (C.line h v) (mailF h v t m (showL (C.cert h) m)) C.now).2.2 ≠ 0 then (C, (sentLn (C.line h v) (mailF h v t m (showL (C.cert h) m)) C.now).2.2)
 else (pushC (C.setLine h v (sentLn (C.line h v) (mailF h v t m (showL (C.cert h) m)) C.now).1) (sentLn (C.line h v) (mailF h v t m (showL (C.cert h) m)) C.now).2.1, 0)
def addOne (l : List Cert) (c : Cert) : List Cert := if (addC l c).2 = 0 then (addC l c).1 else l
def addAll (l : List Cert) (cs : List Cert) : List Cert := cs.foldl addOne l
def ackOf (f : Frame) : Frame := ⟨f.dst, f.src, f.seq, true, 0, zeroM, []⟩
noncomputable def tookC (C : Clu) (f : Frame) : Clu :=
 if mayB (addAll (C.cert f.dst) f.certs) f.src f.mail C.now = true then (C.setCert f.dst (addAll (C.cert f.dst) f.certs)).setKer f.dst (deliverK (C.ker f.dst) f.thread f.mail)
 else C.setCert f.dst (addAll (C.cert f.dst) f.certs)
noncomputable def comeF (C : Clu) (f : Frame) : Clu :=
 if f.ack = true then C.setLine f.dst f.src (answLn (C.line f.dst f.src) f.seq)
 else if (tookLn (C.line f.src f.dst) f.seq).2 = 0 then tookC (pushC (C.setLine f.src f.dst (tookLn (C.line f.src f.dst) f.seq).1) (ackOf f)) f
 else if (tookLn (C.line f.src f.dst) f.seq).2 = 10 then pushC (C.setLine f.src f.dst (tookLn (C.line f.src f.dst) f.seq).1) (ackOf f)
 else C.setLine f.src f.dst (tookLn (C.line f.src f.dst) f.seq).1
noncomputable def comeC (C : Clu) (s : ByteArray) : Clu := if (decR s.data.toList).2 ≠ 0 then C else comeF C (decR s.data.toList).1
def tickAll : Nat → Nat → Clu → Clu × Nat
 | 0, _, C => (C, 0)
 | n + 1, i, C =>
  let r := againLn (C.lines.getD i zeroL) C.now
  let q := tickAll n (i + 1) (pushAll { C with lines := C.lines.set i r.1 } r.2)
  (q.1, r.2.length + q.2)
def tickC (C : Clu) (n : Int) : Clu × Rep :=
 if n < 1 ∨ 1099511627776 - C.now < n then (C, errR 2) else ((tickAll 16 0 { C with now := C.now + n }).1, ⟨0, (tickAll 16 0 { C with now := C.now + n }).2, ⟨#[]⟩⟩)
noncomputable def callC (C : Clu) (h t : Int) (x : Req) : Clu × Rep :=
 if x.kind = 6 then
  if 64 < x.text.size then (C, errR 9)
  else if four x.h = false ∨ four x.t = false then (C, errR 4)
  else if (letterK (C.ker h) t x).2 ≠ 0 then (C, errR (letterK (C.ker h) t x).2)
  else ((sendC C h x.h x.t (letterK (C.ker h) t x).1).1, errR (sendC C h x.h x.t (letterK (C.ker h) t x).1).2)
 else if x.kind = 8 then
  if four x.h = false ∨ x.h = h ∨ x.n < 0 ∨ 1099511627776 < x.n then (C, errR 2)
  else if x.c ∉ ((C.ker h).thr t).own then (C, errR 7)
  else if (addC (C.cert h) ⟨x.c, h, x.h, x.n⟩).2 ≠ 0 then (C, errR (addC (C.cert h) ⟨x.c, h, x.h, x.n⟩).2)
  else (C.setCert h (addC (C.cert h) ⟨x.c, h, x.h, x.n⟩).1, errR 0)
 else (C.setKer h (stepC (C.ker h) t x).1, (stepC (C.ker h) t x).2)
noncomputable def actC (C : Clu) (a : Deed) : Clu × Rep :=
 if a.kind = 1 then if four a.h = false ∨ four a.t = false then (C, errR 4) else callC C a.h a.t a.call
 else if a.kind = 2 ∨ a.kind = 3 ∨ a.kind = 4 then
  if a.n < 0 ∨ (C.net.length : Int) ≤ a.n then (C, errR 4)
  else
   let s := C.net.getD a.n.toNat ⟨#[]⟩
   let C1 := if a.kind = 3 then C else { C with net := C.net.eraseIdx a.n.toNat }
   (if a.kind = 4 then C1 else comeC C1 s, ⟨0, s.size, ⟨#[]⟩⟩)
 else if a.kind = 5 then tickC C a.n
 else (C, errR 3)
noncomputable def doC (C : Clu) (a : Deed) : Clu × Rep :=
 if 300 ≤ C.acts then (C, errR 5) else actC { C with acts := C.acts + 1 } a
structure Clu.ok (C : Clu) : Prop where
 now : 0 ≤ C.now ∧ C.now ≤ 1099511627776
 kerN : C.kers.length = 4
 ker : ∀ (i : Nat) (k : Ker), C.kers[i]? = some k → k.ok ∧ k.host = i
 certN : C.certs.length = 4
 cert : ∀ l ∈ C.certs, goodCerts l = true
 lineN : C.lines.length = 16
 line : ∀ L ∈ C.lines, lineOk L = true ∧ ∀ s ∈ L.sent, goodFrameC s.frame = 0
 netN : C.net.length ≤ 60
 net : ∀ s ∈ C.net, ∃ f, goodFrameC f = 0 ∧ s = ⟨(encL f).toArray⟩
 acts : 0 ≤ C.acts ∧ C.acts ≤ 300
/-! ### What each part leaves well -/
theorem sentsOk_app {next : Int} : ∀ {l : List Sent} {p : Int} {s : Sent}, sentsOk next p l = true → (∀ x ∈ l, x.frame.seq < s.frame.seq) → p < s.frame.seq → sentOk next (s.frame.seq - 1) s = true → sentsOk next p (l ++ [s]) = true
 | [], p, s, _, _, hp, hs => by
  simp only [List.nil_append, sentsOk]
  unfold sentOk at hs ⊢
  simp only [decide_eq_true_eq] at hs ⊢
  rw [if_pos ⟨hs.1, hp, hs.2.2⟩]
 | x :: l, p, s, h, hx, hp, hs => by
  simp only [List.cons_append, sentsOk] at h ⊢
  split at h
  ·rename_i h1
   rw [if_pos h1]
   exact sentsOk_app h (fun y hy => hx y (by simp [hy])) (hx x (by simp)) hs
  ·cases h
theorem sentOk_up {n n' p : Int} {s : Sent} (hn : n ≤ n') (h : sentOk n p s = true) : sentOk n' p s = true := by
 unfold sentOk at *
 simp only [decide_eq_true_eq] at *
 omega
theorem sentsOk_up {n n' : Int} (hn : n ≤ n') : ∀ {l : List Sent} {p : Int}, sentsOk n p l = true → sentsOk n' p l = true
 | [], _, _ => rfl
 | x :: l, p, h => by
  simp only [sentsOk] at h ⊢
  split at h
  ·rename_i h1
   rw [if_pos (sentOk_up hn h1)]
   exact sentsOk_up hn h
  ·cases h
theorem sentsOk_seq {n : Int} : ∀ {l : List Sent} {p : Int}, sentsOk n p l = true → ∀ x ∈ l, p < x.frame.seq ∧ x.frame.seq ≤ n
 | [], _, _, _, h => by simp at h
 | y :: l, p, h, x, hx => by
  simp only [sentsOk] at h
  split at h
  ·rename_i h1
   unfold sentOk at h1
   simp only [decide_eq_true_eq] at h1
   rcases List.mem_cons.1 hx with rfl | hx
   ·exact ⟨h1.2.1, h1.2.2.1⟩
   ·have := sentsOk_seq h x hx; omega
  ·cases h
theorem sentsOk_low {n : Int} : ∀ {l : List Sent} {p q : Int}, q ≤ p → sentsOk n p l = true → sentsOk n q l = true
 | [], _, _, _, _ => rfl
 | x :: l, p, q, hq, h => by
  simp only [sentsOk] at h ⊢
  split at h
  ·rename_i h1
   rw [if_pos (by unfold sentOk at h1 ⊢; simp only [decide_eq_true_eq] at h1 ⊢; omega)]
   exact h
  ·cases h
theorem sentsOk_map {n : Int} (g : Sent → Option Sent) (hg : ∀ s s', g s = some s' → s'.frame.seq = s.frame.seq ∧ ∀ p, sentOk n p s = true → sentOk n p s' = true) : ∀ {l : List Sent} {p : Int}, sentsOk n p l = true → sentsOk n p (l.filterMap g) = true
 | [], _, _ => rfl
 | x :: l, p, h => by
  simp only [sentsOk] at h
  split at h
  ·rename_i h1
   have h2 := sentsOk_map g hg h
   cases e : g x with
   | none =>
    rw [List.filterMap_cons_none e]
    refine sentsOk_low ?_ h2
    unfold sentOk at h1
    simp only [decide_eq_true_eq] at h1
    omega
   | some y =>
    rw [List.filterMap_cons_some e]
    obtain ⟨q1, q2⟩ := hg x y e
    simp only [sentsOk]
    rw [if_pos (q2 p h1), q1]
    exact h2
  ·cases h
theorem lineOk_iff (L : Line) : lineOk L = true ↔ (0 ≤ L.next ∧ L.next ≤ 1099511627775 ∧ 0 ≤ L.high ∧ L.high ≤ 1099511627776 ∧ L.sent.length ≤ 8) ∧ sentsOk L.next 0 L.sent = true := by
 unfold lineOk headOk
 by_cases h : (0 ≤ L.next ∧ L.next ≤ 1099511627775 ∧ 0 ≤ L.high ∧ L.high ≤ 1099511627776 ∧ L.sent.length ≤ 8)
 ·rw [if_pos (by simpa using h)]
  exact ⟨fun h2 => ⟨h, h2⟩, fun h2 => h2.2⟩
 ·rw [if_neg (by simpa using h)]
  exact ⟨fun h2 => by simp at h2, fun h2 => absurd h2.1 h⟩
theorem sentLn_ok {L : Line} {f : Frame} {now : Int} (h : lineOk L = true) (h0 : 0 ≤ now) (h1 : now ≤ 1099511627776) : lineOk (sentLn L f now).1 = true ∧ (∀ s ∈ (sentLn L f now).1.sent, s ∈ L.sent ∨ s.frame = (sentLn L f now).2.1 ∧ (sentLn L f now).2.2 = 0) ∧ ((sentLn L f now).2.2 = 0 → (sentLn L f now).2.1 = { f with seq := L.next + 1 } ∧ L.next < 1099511627775) := by
 obtain ⟨⟨a1, a2, a3, a4, a5⟩, a6⟩ := (lineOk_iff L).1 h
 unfold sentLn sendX
 rw [if_neg (by simp [h]; omega)]
 by_cases h2 : L.sent.length = 8 ∨ L.next = 1099511627775
 ·rw [if_pos h2]
  exact ⟨h, fun s hs => .inl hs, fun e => by simp at e⟩
 ·rw [if_neg h2]
  refine ⟨(lineOk_iff _).2 ⟨⟨by simp only; omega, by simp only; omega, a3, a4, by simp; omega⟩, ?_⟩, fun s hs => ?_, fun _ => ⟨rfl, by omega⟩⟩
  ·refine sentsOk_app (sentsOk_up (show L.next ≤ L.next + 1 by omega) a6) (fun x hx => ?_) (by simp only; omega) ?_
   ·have := sentsOk_seq a6 x hx; simp only; omega
   ·simp [sentOk]; omega
  ·rcases List.mem_append.1 hs with hs | hs
   ·exact .inl hs
   ·simp only [List.mem_singleton] at hs
    subst hs
    exact .inr ⟨rfl, rfl⟩
theorem answLn_ok {L : Line} (h : lineOk L = true) (seq : Int) : lineOk (answLn L seq) = true ∧ ∀ s ∈ (answLn L seq).sent, s ∈ L.sent := by
 obtain ⟨⟨a1, a2, a3, a4, a5⟩, a6⟩ := (lineOk_iff L).1 h
 unfold answLn answX
 rw [if_neg (by simp [h])]
 split
 ·exact ⟨h, fun s hs => hs⟩
 ·refine ⟨(lineOk_iff _).2 ⟨⟨a1, a2, a3, a4, Nat.le_trans (List.length_filter_le _ _) a5⟩, ?_⟩, fun s hs => (List.mem_filter.1 hs).1⟩
  have := sentsOk_map (n := L.next) (fun s => if offSeq seq s = true then some s else none) (fun s s' e => by split at e <;> cases e; exact ⟨rfl, fun _ h => h⟩) a6
  have e : L.sent.filter (offSeq seq) = L.sent.filterMap (fun s => if offSeq seq s = true then some s else none) := by rw [← List.filterMap_eq_filter]; rfl
  rw [← e] at this
  exact this
theorem tookLn_ok {L : Line} (h : lineOk L = true) (seq : Int) : lineOk (tookLn L seq).1 = true ∧ (tookLn L seq).1.sent = L.sent ∧ (tookLn L seq).1.next = L.next := by
 obtain ⟨⟨a1, a2, a3, a4, a5⟩, a6⟩ := (lineOk_iff L).1 h
 unfold tookLn
 refine ⟨(lineOk_iff _).2 ⟨⟨a1, a2, ?_, ?_, a5⟩, a6⟩, rfl, rfl⟩
 ·unfold takeC; simp only; split; exact a3; split; exact a3; split; split <;> exact a3; simp only; omega
 ·unfold takeC; simp only; split; exact a4; split; exact a4; split; split <;> exact a4; simp only; omega
theorem againLn_ok {L : Line} (h : lineOk L = true) {now : Int} (h0 : 0 ≤ now) (h1 : now ≤ 1099511627776) : lineOk (againLn L now).1 = true ∧ (∀ s ∈ (againLn L now).1.sent, ∃ s' ∈ L.sent, s.frame = s'.frame) ∧ (∀ f ∈ (againLn L now).2, ∃ s ∈ L.sent, f = s.frame) ∧ (againLn L now).2.length ≤ 8 := by
 obtain ⟨⟨a1, a2, a3, a4, a5⟩, a6⟩ := (lineOk_iff L).1 h
 unfold againLn againX
 rw [if_neg (by simp [h]; omega)]
 refine ⟨(lineOk_iff _).2 ⟨⟨a1, a2, a3, a4, Nat.le_trans (List.length_filterMap_le _ _) a5⟩, ?_⟩, fun s hs => ?_, fun f hf => ?_, Nat.le_trans (List.length_filterMap_le _ _) a5⟩
 ·refine sentsOk_map _ (fun s s' e => ?_) a6
  unfold keepS at e
  split at e
  ·cases e; exact ⟨rfl, fun _ h => h⟩
  ·split at e
   ·cases e
    refine ⟨rfl, fun p hp => ?_⟩
    unfold sentOk at hp ⊢
    simp only [decide_eq_true_eq] at hp ⊢
    have h2 : (2 : Int) ^ (s.tries + 1).toNat ≤ 2 ^ 5 := by
     have : (2 : Nat) ^ (s.tries + 1).toNat ≤ 2 ^ 5 := Nat.pow_le_pow_right (by omega) (by omega)
     exact_mod_cast this
    have h3 : (0 : Int) ≤ 2 ^ (s.tries + 1).toNat := by
     have : (0 : Nat) ≤ 2 ^ (s.tries + 1).toNat := Nat.zero_le _
     exact_mod_cast this
    omega
   ·cases e
 ·obtain ⟨s', hs', e⟩ := List.mem_filterMap.1 hs
  refine ⟨s', hs', ?_⟩
  unfold keepS at e
  split at e
  ·cases e; rfl
  ·split at e <;> cases e; rfl
 ·obtain ⟨s', hs', e⟩ := List.mem_filterMap.1 hf
  refine ⟨s', hs', ?_⟩
  unfold outS at e
  split at e
  ·cases e
  ·split at e <;> cases e; rfl
theorem addOne_ok {l : List Cert} (h : goodCerts l = true) (c : Cert) : goodCerts (addOne l c) = true := by
 unfold addOne
 split
 ·rename_i h1; exact (addC_ok h1).2.1
 ·exact h
theorem addAll_ok (cs : List Cert) : ∀ {l : List Cert}, goodCerts l = true → goodCerts (addAll l cs) = true := by
 induction cs with
 | nil => exact fun h => h
 | cons c cs ih => exact fun h => ih (addOne_ok h c)
theorem kernel_mail (ok : Nat → Prop) (w : World) (m : Mail) (la : Option Addr) (lc : Nat) (ga : Option Addr) (gc : Nat) (hl : m.label.length * 16 ≤ 140737488355328) (hg : m.grants.length * 8 ≤ 140737488355328) (hR : MailR ok w m la lc ga gc) :
  Calls Tryz.prog 45 #[mailV m la lc ga gc] w fun e w' => ∃ a1 k1 a2 k2, e = .returned (mailV m a1 k1 a2 k2) ∧ Below w.heap.size w w' ∧ MailR (fun b => w.heap.size ≤ b) w' m a1 k1 a2 k2 := by
 unfold mailV
 have HL := qh (fun (W : World) (h : Below w.heap.size w W) => kernel_levels ok W la lc m.label hl (hR.label.below h))
 have HN := qh (fun (W : World) (h : Below w.heap.size w W) => kernel_numbers ok W ga gc m.grants hg (hR.grants.below h))
 have st := St.start w
 go_enter Tryz.func45, Tryz.ntmps45
 go_wp2_with (first | go_skip | (with_reducible refine mB 42 st ?_; clear st; intro g1 w1 hg1 st) | (with_reducible refine mA st Tryz.zeroValue42 ?_; clear st; intro g2 w2 hg2 st))
 have st := st.drew
 have hI := St.hand (st.blk _ (mgE (i := 0) rfl))
 refine lex_tail (by kernel_rfl) 7 3 [7, 8, 9] rfl (by decide +kernel) (fun W => St [g1] W W [(g1, 42, [.int .i64 m.host, .int .i64 m.thread, .slice la m.label.length lc, .slice ga m.grants.length gc, .string m.text])]) ?_
 refine lexS 0 rfl hI ?_
 refine lexT 1 rfl hI (fun W hW => St.run_load hW 0 27 _ rfl Tryz.isAgg27 rfl rfl rfl) ?_
 refine lexS 3 rfl hI ?_
 refine lexT 4 rfl hI (fun W hW => St.run_load hW 0 28 _ rfl Tryz.isAgg28 rfl rfl rfl) ?_
 clear hI
 refine lexO 2 rfl fun K hK => ?_
 refine wp_callee (f := 43) (by first | (go_simp; done) | (go_simp; rfl)) ?_
 refine (HL.out _ st.below).mono ?_
 rintro e v1 ⟨a1, k1, rfl, hb1, hO1⟩
 have hz1 := st.size
 refine ⟨_, rfl, ?_⟩
 replace st := st.call hb1
 clear hb1
 have hI := St.hand (st.blk _ (mgE (i := 0) rfl))
 refine hK _ _ (hI) ?_; clear hK; simp only [kP, kA, kS, kZ]
 refine lexS 6 rfl hI ?_
 clear hI
 refine lexO 5 rfl fun K hK => ?_
 refine wp_callee (f := 44) (by first | (go_simp; done) | (go_simp; rfl)) ?_
 refine (HN.out _ st.below).mono ?_
 rintro e v2 ⟨a2, k2, rfl, hb2, hO2⟩
 have hz2 := st.size
 refine ⟨_, rfl, ?_⟩
 replace st := st.call hb2
 replace hO1 := hO1.below hb2
 clear hb2
 refine hK _ _ (St.hand (st.blk _ (mgE (i := 0) rfl))) ?_; clear hK; simp only [kP, kA, kS, kZ]
 refine lex_done (by decide +kernel) ?_
 have h1b := st.blk _ (mgE (i := 0) rfl)
 refine tail_next 7 rfl (by first | exact wanted_none rfl | exact wanted_some rfl rfl) (by decide +kernel) fun K hK => ?_
 refine wp_store' st 27 _ _ rfl _ Tryz.sizeOf27 ⟨0, _, _, _, _, _, rfl, rfl, rfl, rfl, rfl, rfl, ?_⟩; clear st; intro w3 st hw3m hw3z; simp [Act.eval, Act.put, Value.cells, putL] at st
 refine hK _ _ ?_; clear hK
 replace hO1 := hO1.stored h1b (by simp) hw3m
 replace hO2 := hO2.stored h1b (by simp) hw3m
 clear h1b hw3m hw3z
 refine tail_take 8 rfl (by first | exact wanted_none rfl | exact wanted_some rfl rfl) (by decide +kernel) (by first | (go_simp; done) | (go_simp; rfl)) ?_; simp only [kP, kA, kS, kZ]
 have h1b := st.blk _ (mgE (i := 0) rfl)
 refine tail_last 9 rfl (by first | exact wanted_none rfl | exact wanted_some rfl rfl) (by decide +kernel) (by decide +kernel) fun K hK => ?_
 refine wp_store' st 28 _ _ rfl _ Tryz.sizeOf28 ⟨0, _, _, _, _, _, rfl, rfl, rfl, rfl, rfl, rfl, ?_⟩; clear st; intro w4 st hw4m hw4z; simp [Act.eval, Act.put, Value.cells, putL] at st
 refine hK _ _ ?_; clear hK
 replace hO1 := hO1.stored h1b (by simp) hw4m
 replace hO2 := hO2.stored h1b (by simp) hw4m
 clear h1b hw4m hw4z
 have h2b := st.blk _ (mgE (i := 1) rfl)
 have HO := qh (show ∀ W, (∀ b, b ≠ g2 → W.heap[b]? = w4.heap[b]?) → MailR (fun b => w.heap.size ≤ b) W m a1 k1 a2 k2 from fun W h => ⟨(hO1.stored h2b (by simp) h).slr fun b hb => by omega, (hO2.stored h2b (by simp) h).slr fun b hb => by omega⟩)
 clear hO1 hO2 h2b
 go_wp2_with (first | go_skip | (with_reducible refine mXA st Tryz.isAgg42 Tryz.sizeOf42 ?_) | (with_reducible refine mS 1 st Tryz.sizeOf42 ?_; clear st; intro w5 st hw5m hw5z))
 have hc := fun j => st.cell (i := 1) rfl j
 refine bodyPost_ret (v := mailV m a1 k1 a2 k2) ?hr rfl ⟨_, _, _, _, rfl, st.below, HO.out _ hw5m⟩
 case hr => simp [results, Tryz.results45, go_sem, hc, mailV, putL]; try rfl
theorem St.wider {M M' : List Nat} {w0 w : World} {own : Blks} (h : St M w0 w own) (hM : ∀ b ∈ M, b ∈ M') : St M' w0 w own :=
 ⟨h.os, h.tape, h.output, h.size, fun b hb hm => h.frame b hb fun hm2 => hm (hM b hm2), h.blk, fun x hx => (h.mine x hx).imp (hM _) id, h.ne⟩
theorem four_nat {t : Int} (h : four t = true) : ∃ n : Nat, t = n ∧ n < 4 := by
 obtain ⟨h1, h2⟩ := (four_iff t).1 h
 obtain ⟨n, rfl⟩ := Int.eq_ofNat_of_zero_le h1
 exact ⟨n, rfl, by omega⟩
theorem four_no {t : Int} (h : four t = false) : t < 0 ∨ (0 ≤ t ∧ 4 ≤ t) := by
 have := fun h1 => (four_iff t).2 h1
 by_cases h0 : t < 0
 ·exact .inl h0
 ·refine .inr ⟨by omega, ?_⟩
  by_cases h4 : 4 ≤ t
  ·exact h4
  ·rw [this ⟨by omega, by omega⟩] at h; cases h
theorem info_Mail : (Tryz.prog.info? 42).map (fun i => (i.zero, i.size, i.bytes)) = some (some (.agg #[.int .i64 0, .int .i64 0, .slice none 0 0, .slice none 0 0, .string .empty]), 5, 80) := by kernel_rfl
theorem Ker.thr_at {k : Ker} {n : Nat} {x : Thr} (h : k.threads[n]? = some x) : k.thr (n : Int) = x := by
 unfold Ker.thr
 rw [Int.toNat_natCast, List.getD_eq_getElem?_getD, h]
 rfl
theorem kernel_Deliver (ok okm : Nat → Prop) (w : World) (g : Nat) (k : Ker) (css : List (List Value)) (Bs : List (List Nat)) (h : KerAt ok w g k css Bs) (hk : ∀ x ∈ k.threads, x.ok) (t : Int) (m : Mail) (la : Option Addr) (lc : Nat) (ga : Option Addr) (gc : Nat)
  (hl : m.label.length * 16 ≤ 140737488351232) (hg : m.grants.length * 8 ≤ 140737488355328) (hR : MailR okm w m la lc ga gc) :
  Calls Tryz.prog 56 #[.pointer (some ⟨g, 0, none⟩), .int .i64 t, mailV m la lc ga gc] w fun e w' => (∃ u, e = .returned u) ∧ KerTo ok w g Bs w' (deliverK k t m) := by
 have HG := qh (fun (W : World) (hW : Below w.heap.size w W) => wire_GoodMail okm W m la lc ga gc (by omega) hg (hR.below hW))
 by_cases h4 : four t = true
 case neg =>
  have h4' : four t = false := by simpa using h4
  have HE := qh (show deliverK k t m = k by unfold deliverK; rw [if_pos h4'])
  have st := St.start w
  unfold mailV at *
  rcases four_no h4' with d | ⟨d0, d⟩
  all_goals
   clear h4 h4'
   go_enter Tryz.func56, Tryz.ntmps56
   go_wp2_with (first | go_skip | (with_reducible refine mB 42 st ?_; clear st; intro g1 w1 hg1 st))
   refine bodyPost_ret (v := .tuple #[]) (by simp [results, Tryz.results56, go_sem]) rfl ⟨⟨_, rfl⟩, ?_⟩
   rw [HE.out]
   exact KerTo.none h st.below
 obtain ⟨n, rfl, hn⟩ := four_nat h4
 obtain ⟨x, xa, xc, oa, oc, ba, bc, ma, mc, ex, ec, eB, hT, hb⟩ := h.open hn
 have hx := hk x (mgE ex)
 have hpre := h.preLen hn
 have HK := qh (show deliverK k (n : Int) m = if goodMailC m ≠ 0 then k else if flowsL m.label x.label x.own = true ∧ x.mails.length < 6 then k.put n { x with mails := x.mails ++ [m] } else k by
  unfold deliverK; rw [if_neg (by rw [h4]; simp), Ker.thr_at ex])
 have st0 := St.hand hb
 unfold thrC at st0
 have d1 : decide ((n : Int) < 0) = false := by simp
 have d2 : decide ((4 : Int) ≤ n) = false := by simp; omega
 clear h4
 by_cases hgm : goodMailC m = 0
 case neg =>
  have HE := qh (show deliverK k (n : Int) m = k by rw [HK.out, if_pos hgm])
  generalize goodMailC m = q at HG hgm
  have hq : (q != 0) = true := by simpa using hgm
  clear hgm HK
  have st := St.start w
  unfold mailV at *
  go_enter Tryz.func56, Tryz.ntmps56
  go_wp2_with (first | go_skip | (with_reducible refine mB 42 st ?_; clear st; intro g1 w1 hg1 st) | (with_reducible refine mXA st Tryz.isAgg42 Tryz.sizeOf42 ?_) | (go_at_call 62; go_must (refine (HG.out _ st.below).mono ?_; rintro e v1 ⟨rfl, hb1⟩; replace st := st.call hb1; clear hb1)))
  refine bodyPost_ret (v := .tuple #[]) (by simp [results, Tryz.results56, go_sem]) rfl ⟨⟨_, rfl⟩, ?_⟩
  rw [HE.out]
  exact KerTo.none h st.below
 obtain ⟨_, _, q5, q6, q7⟩ := mail_facts hgm
 have hml := goodL_len q5
 have hmg := (grants_facts q6).1
 clear q5 q6
 rw [hgm] at HG
 have HK1 := qh (show deliverK k (n : Int) m = if flowsL m.label x.label x.own = true ∧ x.mails.length < 6 then k.put n { x with mails := x.mails ++ [m] } else k by rw [HK.out, if_neg (by simpa using hgm)])
 clear hgm HK
 have hgg : ¬ ok g := h.apart g (by simp)
 have HKp := qh (show ∀ (W : World) (bl : Blks), St [g] w W bl → Keeps ok w W from fun W bl s => s.keeps (by simpa using hgg))
 have hxl := goodL_len hx.good; have hxo := hx.ownL; have hxm := hx.mailN
 have HF := qh (fun (W : World) (bl : Blks) (hW : St [g] w W bl) (hR2 : MailR okm W m la lc ga gc) => label_Flows (fun _ => True) W la xa oa lc xc oc m.label x.label x.own (by omega) (by omega) (hR2.label.okay fun _ _ => trivial) ((hT.label.keep (HKp.out W _ hW)).okay fun _ _ => trivial) ((hT.own.keep (HKp.out W _ hW)).okay fun _ _ => trivial))
 have HM := qh (fun (W : World) (hR2 : MailR okm W m la lc ga gc) => kernel_mail okm W m la lc ga gc (by omega) hg hR2)
 generalize flowsL m.label x.label x.own = fl at HF HK1
 have HB := qh (show ∀ (W : World) (bl : Blks), St [g] w W bl → (g, 98, winC (preC k css n) [.slice xa x.label.length xc, .slice oa x.own.length oc, .string x.text, .slice ba x.objects.length bc, .slice ma x.mails.length mc] (postC k css n)) ∈ bl → Below w.heap.size w W from fun W bl s hm => st0.below2 s (by simpa using hm))
 have st := st0
 clear st0
 unfold mailV at *
 have h6 : fl = false ∨ (fl = true ∧ ¬ x.mails.length < 6) ∨ (fl = true ∧ x.mails.length < 6) := by cases fl <;> simp; omega
 rcases h6 with rfl | ⟨rfl, h6⟩ | ⟨rfl, h6⟩
 ·have HE := qh (show deliverK k (n : Int) m = k by rw [HK1.out, if_neg (by simp)])
  clear HK1
  go_enter Tryz.func56, Tryz.ntmps56
  go_wp2_with (first | go_skip | (with_reducible refine mB 42 st ?_; clear st; intro g1 w1 hg1 st) | (with_reducible refine mXA st Tryz.isAgg42 Tryz.sizeOf42 ?_) | (go_at_call 62; go_must (refine (HG.out _ (HB.out _ _ st (by simp))).mono ?_; rintro e v1 ⟨rfl, hb1⟩; replace st := st.call hb1; clear hb1)))
  refine det_region (by kernel_rfl) 19 rfl (fun W => St [g] w W [(g, 98, winC (preC k css n) [.slice xa x.label.length xc, .slice oa x.own.length oc, .string x.text, .slice ba x.objects.length bc, .slice ma x.mails.length mc] (postC k css n)), (g1, 42, [.int .i64 m.host, .int .i64 m.thread, .slice la m.label.length lc, .slice ga m.grants.length gc, .string m.text])]) (st.drew) (by decide +kernel) ?_
  refine detS 0 rfl ?_
  refine detT 1 rfl (fun W hW => St.run_load hW 1 27 _ rfl Tryz.isAgg27 rfl rfl rfl) ?_
  refine detS 2 rfl ?_; refine detS 3 rfl ?_; refine detS 4 rfl ?_
  refine detT 5 rfl (fun W hW => St.run_loadW hW 0 27 _ rfl Tryz.isAgg27 0 hpre rfl rfl rfl) ?_
  refine detS 6 rfl ?_; refine detS 7 rfl ?_; refine detS 8 rfl ?_
  refine detT 9 rfl (fun W hW => St.run_loadW hW 0 28 _ rfl Tryz.isAgg28 1 hpre rfl rfl rfl) ?_
  refine det_call (fn := 27) 10 rfl (by decide +kernel) (by first | exact wanted_none rfl | exact wanted_some rfl rfl) (fun W => by first | (go_simp; done) | (go_simp; rfl)) (fun W hW => (HF.out W _ hW (hR.below (HB.out W _ hW (by simp)))).mono fun e w' h => ⟨h.1, hW.call h.2⟩) ?_; simp only [kP, kA, kS, kZ]
  refine detS 11 rfl ?_
  refine detK 12 rfl ?_; refine detK 13 rfl ?_; refine detK 14 rfl ?_; refine detK 15 rfl ?_; refine detK 16 rfl ?_; refine detK 17 rfl ?_
  refine detS 18 rfl ?_
  refine det_done (by decide +kernel) ?_
  clear st
  intro W st
  go_wp2
  go_end0
  rw [HE.out]
  exact ⟨⟨_, rfl⟩, KerTo.none h (HB.out _ _ st (by simp))⟩
 ·have HE := qh (show deliverK k (n : Int) m = k by rw [HK1.out, if_neg (fun e => h6 e.2)])
  have d6 : decide ((x.mails.length : Int) < 6) = false := by simp; omega
  clear HK1
  go_enter Tryz.func56, Tryz.ntmps56
  go_wp2_with (first | go_skip | (with_reducible refine mB 42 st ?_; clear st; intro g1 w1 hg1 st) | (with_reducible refine mXA st Tryz.isAgg42 Tryz.sizeOf42 ?_) | (go_at_call 62; go_must (refine (HG.out _ (HB.out _ _ st (by simp))).mono ?_; rintro e v1 ⟨rfl, hb1⟩; replace st := st.call hb1; clear hb1)))
  refine det_region (by kernel_rfl) 19 rfl (fun W => St [g] w W [(g, 98, winC (preC k css n) [.slice xa x.label.length xc, .slice oa x.own.length oc, .string x.text, .slice ba x.objects.length bc, .slice ma x.mails.length mc] (postC k css n)), (g1, 42, [.int .i64 m.host, .int .i64 m.thread, .slice la m.label.length lc, .slice ga m.grants.length gc, .string m.text])]) (st.drew) (by decide +kernel) ?_
  refine detS 0 rfl ?_
  refine detT 1 rfl (fun W hW => St.run_load hW 1 27 _ rfl Tryz.isAgg27 rfl rfl rfl) ?_
  refine detS 2 rfl ?_; refine detS 3 rfl ?_; refine detS 4 rfl ?_
  refine detT 5 rfl (fun W hW => St.run_loadW hW 0 27 _ rfl Tryz.isAgg27 0 hpre rfl rfl rfl) ?_
  refine detS 6 rfl ?_; refine detS 7 rfl ?_; refine detS 8 rfl ?_
  refine detT 9 rfl (fun W hW => St.run_loadW hW 0 28 _ rfl Tryz.isAgg28 1 hpre rfl rfl rfl) ?_
  refine det_call (fn := 27) 10 rfl (by decide +kernel) (by first | exact wanted_none rfl | exact wanted_some rfl rfl) (fun W => by first | (go_simp; done) | (go_simp; rfl)) (fun W hW => (HF.out W _ hW (hR.below (HB.out W _ hW (by simp)))).mono fun e w' h => ⟨h.1, hW.call h.2⟩) ?_; simp only [kP, kA, kS, kZ]
  refine detS 11 rfl ?_; refine detS 12 rfl ?_; refine detS 13 rfl ?_; refine detS 14 rfl ?_
  refine detT 15 rfl (fun W hW => St.run_loadW hW 0 37 _ rfl Tryz.isAgg37 4 hpre rfl rfl rfl) ?_
  refine detS 16 rfl ?_
  refine detS 17 rfl ?_
  refine detS 18 rfl ?_
  refine det_done (by decide +kernel) ?_
  clear st
  intro W st
  go_wp2
  go_end0
  rw [HE.out]
  exact ⟨⟨_, rfl⟩, KerTo.none h (HB.out _ _ st (by simp))⟩
 ·have HE := qh (show deliverK k (n : Int) m = k.put n { x with mails := x.mails ++ [m] } by rw [HK1.out, if_pos ⟨rfl, h6⟩])
  have d6 : decide ((x.mails.length : Int) < 6) = true := by simp; omega
  clear HK1
  go_enter Tryz.func56, Tryz.ntmps56
  go_wp2_with (first | go_skip | (with_reducible refine mB 42 st ?_; clear st; intro g1 w1 hg1 st) | (with_reducible refine mXA st Tryz.isAgg42 Tryz.sizeOf42 ?_) | (go_at_call 62; go_must (refine (HG.out _ (HB.out _ _ st (by simp))).mono ?_; rintro e v1 ⟨rfl, hb1⟩; replace st := st.call hb1; clear hb1)))
  refine det_region (by kernel_rfl) 19 rfl (fun W => St [g] w W [(g, 98, winC (preC k css n) [.slice xa x.label.length xc, .slice oa x.own.length oc, .string x.text, .slice ba x.objects.length bc, .slice ma x.mails.length mc] (postC k css n)), (g1, 42, [.int .i64 m.host, .int .i64 m.thread, .slice la m.label.length lc, .slice ga m.grants.length gc, .string m.text])]) (st.drew) (by decide +kernel) ?_
  refine detS 0 rfl ?_
  refine detT 1 rfl (fun W hW => St.run_load hW 1 27 _ rfl Tryz.isAgg27 rfl rfl rfl) ?_
  refine detS 2 rfl ?_; refine detS 3 rfl ?_; refine detS 4 rfl ?_
  refine detT 5 rfl (fun W hW => St.run_loadW hW 0 27 _ rfl Tryz.isAgg27 0 hpre rfl rfl rfl) ?_
  refine detS 6 rfl ?_; refine detS 7 rfl ?_; refine detS 8 rfl ?_
  refine detT 9 rfl (fun W hW => St.run_loadW hW 0 28 _ rfl Tryz.isAgg28 1 hpre rfl rfl rfl) ?_
  refine det_call (fn := 27) 10 rfl (by decide +kernel) (by first | exact wanted_none rfl | exact wanted_some rfl rfl) (fun W => by first | (go_simp; done) | (go_simp; rfl)) (fun W hW => (HF.out W _ hW (hR.below (HB.out W _ hW (by simp)))).mono fun e w' h => ⟨h.1, hW.call h.2⟩) ?_; simp only [kP, kA, kS, kZ]
  refine detS 11 rfl ?_; refine detS 12 rfl ?_; refine detS 13 rfl ?_; refine detS 14 rfl ?_
  refine detT 15 rfl (fun W hW => St.run_loadW hW 0 37 _ rfl Tryz.isAgg37 4 hpre rfl rfl rfl) ?_
  refine detS 16 rfl ?_
  refine detS 17 rfl ?_
  refine detS 18 rfl ?_
  refine det_done (by decide +kernel) ?_
  clear st
  intro W st
  go_wp2_with fail
  obtain ⟨i0, hi, hz0, hz1, hz2⟩ := info_parts info_Mail
  have hmne : ma.map (·.block) ≠ some g := fun e => h.gOut eB (mem_rows2.2 (.inr e))
  have hMg : ∀ b, ma.map (·.block) = some b → b < w.heap.size ∧ ¬ ok b := fun b e => ⟨hT.mails.lt e, h.apartAt eB (mem_rows2.2 (.inr e))⟩
  have hBg : ∀ b, ba.map (·.block) = some b → b < w.heap.size ∧ ¬ ok b ∧ b ≠ g ∧ ma.map (·.block) ≠ some b := fun b e => ⟨hT.objs.lt e, h.apartAt eB (mem_rows2.2 (.inl e)), fun e2 => h.gOut eB (e2 ▸ mem_rows2.2 (.inl e)), h.rowsNe eB e⟩
  have hgw := h.lt g (by simp)
  have hg1w : w.heap.size ≤ g1 := hg1
  have st := st.drew
  have hI := st.wider (M' := g :: rows2 ba ma) (by simp)
  refine lex_tail (by kernel_rfl) 11 1 [11] rfl (by decide +kernel) (fun W => St (g :: rows2 ba ma) w W [(g, 98, winC (preC k css n) [.slice xa x.label.length xc, .slice oa x.own.length oc, .string x.text, .slice ba x.objects.length bc, .slice ma x.mails.length mc] (postC k css n)), (g1, 42, [.int .i64 m.host, .int .i64 m.thread, .slice la m.label.length lc, .slice ga m.grants.length gc, .string m.text])]) ?_
  refine lexS 0 rfl hI ?_
  refine lexS 1 rfl hI ?_
  refine lexS 2 rfl hI ?_
  refine lexS 3 rfl hI ?_
  refine lexT 4 rfl hI (fun W hW => St.run_loadW hW 0 37 _ rfl Tryz.isAgg37 4 hpre rfl rfl rfl) ?_
  refine lexT 5 rfl hI (fun W hW => St.run_load_agg hW 1 42 _ rfl Tryz.isAgg42 _ Tryz.sizeOf42 rfl rfl rfl rfl) ?_
  clear hI
  refine lexO 6 rfl fun K hK => ?_
  refine wp_callee (f := 45) (by first | (go_simp; done) | (go_simp; rfl)) ?_
  refine (HM.out _ (hR.below (HB.out _ _ st (by simp)))).mono ?_
  rintro e v ⟨a1, k1, a2, k2, rfl, hbm, hM⟩
  have hzv := st.size
  refine ⟨_, rfl, ?_⟩
  replace st := st.call hbm
  clear hbm
  refine hK _ _ (st.wider (by simp)) ?_; clear hK; simp only [kP, kA, kS, kZ]
  refine lexO 7 rfl fun K hK => ?_
  refine wp_build1 st 37 42 _ rfl Tryz.underlying37 5 Tryz.sizeOf42 (by decide) (by decide) _ Tryz.zeroValue42 _ rfl rfl ?_; clear st; intro g3 w3 hg3 hg3e st hg3b hw3z; clear hg3e; simp [Act.eval, Act.put, Value.cells, putL] at st
  have hM3 := hM.below hg3b
  clear hg3b hw3z
  refine hK _ _ ((st.take 2).wider (by simp)) ?_; clear hK; simp only [kP, kA, kS, kZ]
  refine lexO 8 rfl fun K hK => ?_
  have hO : RowAt 42 w3 5 (RMail (fun b => ok b ∨ w.heap.size ≤ b) w3) ma mc x.mails := hT.mails.kept (fun b e => st.frame b (hMg b e).1 (by simp; rintro rfl; exact hmne e)) fun _ _ r => r.move st.size fun b hb' ho => ⟨.inl ho, (HKp.out _ _ st).block b hb' ho⟩
  refine wp_rowApp _ _ 37 rfl i0 _ 80 Tryz.underlying37 hi hz0 hz1 hz2 rfl (by decide) (y := m) rfl rfl hO rfl (SlR.ofBlk (ok := fun _ => True) (R := RMail (fun b => ok b ∨ w.heap.size ≤ b) w3) (x := m) (st.blk _ (mgE (i := 2) rfl)) ⟨a1, k1, a2, k2, rfl, hM3.label.okay fun b hb => .inr (by omega), hM3.grants.okay fun b hb => .inr (by omega)⟩ rfl rfl trivial) (by omega) (by unfold maxLen; omega) ?_
  intro g4 off4 c4 w4 hO4 hgr hat
  have hst3 := st
  replace st := ((st.take 2).grown hgr (by
   intro y hy e
   simp at hy
   rcases hy with rfl | rfl
   ·exact hmne e
   ·have := (hMg _ e).1; simp only at this; omega)).wider (M' := g :: rows2 ba ma) (by
   intro b hb
   simp only [List.mem_append, Option.mem_toList, List.mem_singleton] at hb
   rcases hb with hb | rfl
   ·exact List.mem_cons_of_mem _ (mem_rows2.2 (.inr hb))
   ·simp)
  simp only [List.take_succ_cons, List.take_zero] at st
  have hI := st
  refine hK _ _ (hI) ?_; clear hK; simp only [kP, kA, kS, kZ]
  refine lexS 9 rfl hI ?_
  refine lexS 10 rfl hI ?_
  clear hI
  refine lex_done (by decide +kernel) ?_
  refine tail_last 11 rfl (by first | exact wanted_none rfl | exact wanted_some rfl rfl) (by decide +kernel) (by decide +kernel) fun K hK => ?_
  refine wp_storeW st 37 _ _ rfl _ Tryz.sizeOf37 4 ?_; refine ⟨0, _, _, _, _, _, _, _, hpre, rfl, rfl, rfl, rfl, rfl, rfl, ?_⟩; clear st; intro w5 st hw5m hw5z; simp [Act.eval, Act.put, Value.cells, putL] at st
  refine hK _ _ ?_; clear hK
  go_wp2
  go_end0
  refine ⟨⟨_, rfl⟩, ?_⟩
  rw [HE.out]
  have hz3 := hst3.size
  have hch : ∀ b, b < w3.heap.size → b ≠ g → ma.map (·.block) ≠ some b → w5.heap[b]? = w3.heap[b]? := fun b hb h1 h2 => (hw5m b h1).trans (hgr.block b hb fun e => h2 e.symm)
  have hcw : ∀ b, b < w.heap.size → b ≠ g → ma.map (·.block) ≠ some b → w5.heap[b]? = w.heap[b]? := fun b hb h1 h2 => (hch b (by omega) h1 h2).trans (hst3.frame b hb (by simpa using h1))
  have hg4 : ∀ b, b < w3.heap.size → (ok b ∨ w.heap.size ≤ b) → b ≠ g4 := fun b hb ho e => by
   subst e
   rcases hat with hat | hat
   ·rcases ho with ho | ho
    ·exact (hMg _ hat).2 ho
    ·have := (hMg _ hat).1; omega
   ·omega
  have hok : ∀ b, b < w3.heap.size → (ok b ∨ w.heap.size ≤ b) → ((ok b ∨ w.heap.size ≤ b) ∧ b ∉ g :: rows2 ba (some ⟨g4, off4, none⟩)) ∧ w5.heap[b]? = w3.heap[b]? := fun b hb ho => by
   have h1 : b ≠ g := by
    rintro rfl
    rcases ho with ho | ho
    ·exact hgg ho
    ·omega
   refine ⟨⟨ho, fun hm => ?_⟩, hch b hb h1 fun e => ?_⟩
   ·rcases List.mem_cons.1 hm with hm | hm
    ·exact h1 hm
    ·rcases mem_rows2.1 hm with hm | hm
     ·obtain ⟨q1, q2, _⟩ := hBg b hm
      rcases ho with ho | ho
      ·exact q2 ho
      ·omega
     ·exact hg4 b hb ho (Option.some.inj hm).symm
   ·obtain ⟨q1, q2⟩ := hMg b e
    rcases ho with ho | ho
    ·exact q2 ho
    ·omega
  have hokw : ∀ b, b < w.heap.size → ok b → ((ok b ∨ w.heap.size ≤ b) ∧ b ∉ g :: rows2 ba (some ⟨g4, off4, none⟩)) ∧ w5.heap[b]? = w.heap[b]? := fun b hb ho => by
   obtain ⟨q1, q2⟩ := hok b (by omega) (.inl ho)
   exact ⟨q1, q2.trans ((HKp.out _ _ hst3).block b hb ho)⟩
  have hne4 : g4 ≠ g := by
   rintro rfl
   rcases hat with hat | hat
   ·exact hmne hat
   ·omega
  refine h.close (made' := k.made) hn ec eB st (st.blk _ (mgE (i := 0) rfl)) (x' := { x with mails := x.mails ++ [m] }) (B' := rows2 ba (some ⟨g4, off4, none⟩))
   ⟨xa, xc, oa, oc, ba, bc, some ⟨g4, off4, none⟩, c4, by simp [thrC], ⟨hT.label.move st.size hokw fun _ _ r => r, hT.own.move st.size hokw fun _ _ r => r,
    hT.objs.kept (fun b e => hcw b (hBg b e).1 (hBg b e).2.2.1 (hBg b e).2.2.2) fun _ _ r => r.move st.size hokw, hO4.kept (fun b e => by obtain rfl : g4 = b := Option.some.inj e; exact hw5m _ hne4) fun _ _ r => r.move (by have := hgr.size; omega) hok⟩, rfl⟩ ?_ ?_
  ·unfold rows2
   cases hba : ba with
   | none => simp
   | some ad =>
    simp only [Option.map_some, Option.toList_some, List.cons_append, List.nil_append, List.nodup_cons, List.mem_singleton, List.not_mem_nil, not_false_eq_true, List.nodup_nil, and_true]
    intro e
    obtain ⟨q1, _, _, q4⟩ := hBg ad.block (by rw [hba]; rfl)
    rcases hat with hat | hat
    ·exact q4 (by rw [hat, e])
    ·omega
  ·intro b hb
   rcases mem_rows2.1 hb with hb | hb
   ·exact .inl (mem_rows2.2 (.inl hb))
   ·obtain rfl : g4 = b := Option.some.inj hb
    rcases hat with hat | hat
    ·exact .inl (mem_rows2.2 (.inr hat))
    ·exact .inr (by omega)
theorem Ker.thr_put_same {k : Ker} {t : Int} (ht : four t = true) (h4 : k.threads.length = 4) (x : Thr) : (k.put t x).thr t = x := by
 obtain ⟨n, rfl, hn⟩ := four_nat ht
 unfold Ker.put Ker.thr
 simp only [Int.toNat_natCast, List.getD_eq_getElem?_getD]
 rw [List.getElem?_set_self (by omega)]
 rfl
structure Eff (k : Ker) (t : Int) (c : Req) (r : Rep) (u : Int) (x y : Thr) : Prop where
 other : u ≠ t → y.label = x.label ∧ y.own = x.own ∧ y.text = x.text ∧ y.mails = x.mails
 label : y.label = x.label ∨ (u = t ∧ c.kind = 5 ∧ r.code = 0 ∧ flowsL x.label y.label x.own = true ∧ y.label = (setR x.label c.c c.n).1 ∧ (setR x.label c.c c.n).2 = 0)
 own : ∀ d ∈ x.own, d ∈ y.own
 ownN : ∀ d ∈ y.own, d ∈ x.own ∨ (u = t ∧ r.code = 0 ∧ ((c.kind = 1 ∧ r.n = d) ∨ (c.kind = 7 ∧ ∃ m ∈ x.mails, d ∈ m.grants)))
 objL : x.objects.length ≤ y.objects.length
 obj : ∀ (n : Nat) (o o' : KObj), x.objects[n]? = some o → y.objects[n]? = some o' → o'.label = o.label ∧ (o'.text = o.text ∨ (c.kind = 3 ∧ flowsL (k.thr t).label o.label (k.thr t).own = true))
 text : y.text = x.text ∨ (u = t ∧ (c.kind = 9 ∨ (c.kind = 7 ∧ r.code = 0) ∨ (c.kind = 4 ∧ r.code = 0 ∧ ∃ o, k.obj c.t c.n = some o ∧ flowsL o.label x.label x.own = true)))
 mails : ∀ m ∈ y.mails, m ∈ x.mails
 mailsL : y.mails.length ≤ x.mails.length
theorem Eff.refl (k : Ker) (t : Int) (c : Req) (r : Rep) (u : Int) (x : Thr) : Eff k t c r u x x :=
 ⟨fun _ => ⟨rfl, rfl, rfl, rfl⟩, .inl rfl, fun _ h => h, fun _ h => .inl h, Nat.le_refl _, fun n o o' h h' => by rw [h] at h'; cases h'; exact ⟨rfl, .inl rfl⟩, .inl rfl, fun _ h => h, Nat.le_refl _⟩
theorem Eff.made {k : Ker} {t : Int} {c : Req} {r : Rep} {u : Int} {x : Thr} {k' : Ker} {m : Int} (h : Eff k t c r u x (k'.thr u)) : Eff k t c r u x (({ k' with made := m } : Ker).thr u) := h
structure EffM (m : Mail) (x y : Thr) : Prop where
 label : y.label = x.label
 own : y.own = x.own
 text : y.text = x.text
 objects : y.objects = x.objects
 mails : y.mails = x.mails ∨ (y.mails = x.mails ++ [m] ∧ flowsL m.label x.label x.own = true ∧ goodMailC m = 0)
end Go.Proofs.YtnjjdpiofbajlaaGreat
