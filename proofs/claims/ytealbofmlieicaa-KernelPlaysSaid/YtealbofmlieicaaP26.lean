/- Walks and plain laws, part 26. -/
import Derived.Deep.CutRange
import Derived.Deep.LoopGhost
import Derived.Deep.CutBlock
import Derived.Test.YtealbofmlieicaaP22
import Derived.Test.YtealbofmlieicaaP23
import Derived.Test.YtealbofmlieicaaP24
import Derived.Test.YtealbofmlieicaaP25
set_option linter.unusedSimpArgs false
set_option linter.unusedVariables false
set_option maxHeartbeats 16000000
set_option maxRecDepth 100000
namespace Go.Proofs.Ytealbofmlieicaa
open Go.RowKit
section
variable (ok okc : Nat → Prop) (w : World) (g : Nat) (k : Ker) (css : List (List Value)) (Bs : List (List Nat)) (n : Nat) (c : Req) (la : Option Addr) (lc : Nat) (ga : Option Addr) (gc : Nat)
theorem ref_Call_take (h : RkAt ok w g k css Bs) (hk : ∀ x ∈ k.threads, x.ok) (hn : n < 4) (hx64 : ¬ 64 < c.text.size) (hkd : c.kind = 7) :
  Calls Try.prog 14 #[.pointer (some ⟨g, 0, none⟩), .int .i64 n, reqV c la lc ga gc] w (RCallPost ok w g Bs (callK k n c)) := by
 obtain ⟨x, xa, xc, oa, oc, ba, bc, ma, mc, ex, ec, eB, hT, hb⟩ := h.open hn
 have hx := hk x (mgE ex)
 have hpre := h.preLen hn
 have hth := Ker.thr_at ex
 have st0 := St.hand hb
 unfold thrC at st0
 have d1 : decide ((n : Int) < 0) = false := by simp
 have d2 : decide ((4 : Int) ≤ n) = false := by simp; omega
 have d64 := text_size hx64
 have hgg : ¬ ok g := h.apart g (by simp)
 have H4 := qh (fun (W : World) => ref_four (n : Int) W)
 rw [four_of hn] at H4
 have HKp := qh (show ∀ (W : World) (bl : Blks), St [g] w W bl → Keeps ok w W from fun W bl s => s.keeps (by simpa using hgg))
 have HB := qh (show ∀ (W : World) (bl : Blks), St [g] w W bl → (g, 38, winC (preC k css n) [.slice xa x.label.length xc, .slice oa x.own.length oc, .string x.text, .slice ba x.objects.length bc, .slice ma x.mails.length mc] (postC k css n)) ∈ bl → Below w.heap.size w W from fun W bl s hm => st0.below2 s (by simpa using hm))
 have hxf := goodL_fitI hx.good; have hxl := goodL_len hx.good; have hxo := hx.ownL; have hxm := hx.mailN; have hxb := hx.objs; have hxt := hx.text
 have st := st0
 clear st0
 unfold reqV
 go_enter Try.func14, Try.ntmps14
 go_upto_region 7 with (first | go_skip | (go_at_call 24; go_must (refine (H4.out _).mono ?_; rintro e v1 ⟨rfl, rfl⟩)) | (with_reducible refine mB 40 st ?_; clear st; intro g5 w5 hg5 st) | (with_reducible refine mA st Try.zeroValue52 ?_; clear st; intro g6 w6 hg6 st) | (with_reducible refine mX st Try.isAgg9 ?_))
 try simp only [kP, kA, kS, kZ]
 go_cut [9] from 37 to 59 (fun s9 wx => s9 = .bool (k.there c.t c.n) ∧ St [g] w wx [(g, 38, winC (preC k css n) [.slice xa x.label.length xc, .slice oa x.own.length oc, .string x.text, .slice ba x.objects.length bc, .slice ma x.mails.length mc] (postC k css n)), (g5, 40, [.int .i64 c.kind, .int .i64 c.h, .int .i64 c.t, .int .i64 c.n, .int .i64 c.c, .slice la c.label.length lc, .slice ga c.grants.length gc, .string c.text]), (g6, 52, [.int .i64 0, .int .i64 0, .string ⟨#[]⟩])])
 case first =>
  have HTh := qh (h.thereCases hn ec c.t c.n)
  unfold thrC at HTh
  rcases HTh.out with ⟨h1, h2⟩ | ⟨h1, h2, h3⟩ | ⟨m, j, y, yb, yc, hm, et, en, hth, hcell⟩
  ·have F4 := qh (fun (W : World) => ref_four c.t W)
   rw [h1] at F4
   replace h2 := qh h2
   clear h1
   refine det_region (by kernel_rfl) 24 rfl (fun W => St [g] w W [(g, 38, winC (preC k css n) [.slice xa x.label.length xc, .slice oa x.own.length oc, .string x.text, .slice ba x.objects.length bc, .slice ma x.mails.length mc] (postC k css n)), (g5, 40, [.int .i64 c.kind, .int .i64 c.h, .int .i64 c.t, .int .i64 c.n, .int .i64 c.c, .slice la c.label.length lc, .slice ga c.grants.length gc, .string c.text]), (g6, 52, [.int .i64 0, .int .i64 0, .string ⟨#[]⟩])]) (st.drew) (by decide +kernel) ?_
   refine detS 0 rfl ?_
   refine detT 1 rfl (fun W hW => St.run_load hW 1 3 _ rfl Try.isAgg3 rfl rfl rfl) ?_
   refine det_call (fn := 24) 2 rfl (by decide +kernel) (by first | exact wanted_none rfl | exact wanted_some rfl rfl) (fun W => by first | (go_simp; done) | (go_simp; rfl)) (fun W hW => (F4.out W).mono fun e w' h => ⟨h.1, h.2 ▸ hW⟩) ?_; simp only [kP, kA, kS, kZ]
   refine detS 3 rfl ?_
   refine detK 4 rfl ?_; refine detK 5 rfl ?_; refine detK 6 rfl ?_
   refine detS 7 rfl ?_; refine detS 8 rfl ?_
   refine detK 9 rfl ?_; refine detK 10 rfl ?_; refine detK 11 rfl ?_; refine detK 12 rfl ?_; refine detK 13 rfl ?_; refine detK 14 rfl ?_; refine detK 15 rfl ?_; refine detK 16 rfl ?_; refine detK 17 rfl ?_; refine detK 18 rfl ?_; refine detK 19 rfl ?_; refine detK 20 rfl ?_; refine detK 21 rfl ?_
   refine detS 22 rfl ?_; refine detS 23 rfl ?_
   refine det_done (by decide +kernel) ?_
   clear st
   intro W st
   go_wp2_with fail
   go_meet
   exact ⟨by rw [h2.out], st⟩
  ·have F4 := qh (fun (W : World) => ref_four c.t W)
   rw [h1] at F4
   replace h3 := qh h3
   have d3 : decide ((0 : Int) ≤ c.n) = false := by simpa using h2
   clear h1 h2
   refine det_region (by kernel_rfl) 24 rfl (fun W => St [g] w W [(g, 38, winC (preC k css n) [.slice xa x.label.length xc, .slice oa x.own.length oc, .string x.text, .slice ba x.objects.length bc, .slice ma x.mails.length mc] (postC k css n)), (g5, 40, [.int .i64 c.kind, .int .i64 c.h, .int .i64 c.t, .int .i64 c.n, .int .i64 c.c, .slice la c.label.length lc, .slice ga c.grants.length gc, .string c.text]), (g6, 52, [.int .i64 0, .int .i64 0, .string ⟨#[]⟩])]) (st.drew) (by decide +kernel) ?_
   refine detS 0 rfl ?_
   refine detT 1 rfl (fun W hW => St.run_load hW 1 3 _ rfl Try.isAgg3 rfl rfl rfl) ?_
   refine det_call (fn := 24) 2 rfl (by decide +kernel) (by first | exact wanted_none rfl | exact wanted_some rfl rfl) (fun W => by first | (go_simp; done) | (go_simp; rfl)) (fun W hW => (F4.out W).mono fun e w' h => ⟨h.1, h.2 ▸ hW⟩) ?_; simp only [kP, kA, kS, kZ]
   refine detS 3 rfl ?_; refine detS 4 rfl ?_
   refine detT 5 rfl (fun W hW => St.run_load hW 1 3 _ rfl Try.isAgg3 rfl rfl rfl) ?_
   refine detT (v := .bool false) 6 rfl (fun W hW => by (go_simp; done)) ?_
   refine detS 7 rfl ?_; refine detS 8 rfl ?_
   refine detK 9 rfl ?_; refine detK 10 rfl ?_; refine detK 11 rfl ?_; refine detK 12 rfl ?_; refine detK 13 rfl ?_; refine detK 14 rfl ?_; refine detK 15 rfl ?_; refine detK 16 rfl ?_; refine detK 17 rfl ?_; refine detK 18 rfl ?_; refine detK 19 rfl ?_; refine detK 20 rfl ?_; refine detK 21 rfl ?_
   refine detS 22 rfl ?_; refine detS 23 rfl ?_
   refine det_done (by decide +kernel) ?_
   clear st
   intro W st
   go_wp2_with fail
   go_meet
   exact ⟨by rw [h3.out], st⟩
  ·have F4 := qh (fun (W : World) => ref_four (m : Int) W)
   rw [four_of hm] at F4
   have d3 : decide ((0 : Int) ≤ (j : Int)) = true := by simp
   have d5 : decide ((m : Int) < 0) = false := by simp
   have d6 : decide ((4 : Int) ≤ m) = false := by simp; omega
   rw [et, en] at st
   replace et := qh et
   replace en := qh en
   replace hth := qh hth
   refine det_region (by kernel_rfl) 24 rfl (fun W => St [g] w W [(g, 38, winC (preC k css n) [.slice xa x.label.length xc, .slice oa x.own.length oc, .string x.text, .slice ba x.objects.length bc, .slice ma x.mails.length mc] (postC k css n)), (g5, 40, [.int .i64 c.kind, .int .i64 c.h, .int .i64 m, .int .i64 j, .int .i64 c.c, .slice la c.label.length lc, .slice ga c.grants.length gc, .string c.text]), (g6, 52, [.int .i64 0, .int .i64 0, .string ⟨#[]⟩])]) (st.drew) (by decide +kernel) ?_
   refine detS 0 rfl ?_
   refine detT 1 rfl (fun W hW => St.run_load hW 1 3 _ rfl Try.isAgg3 rfl rfl rfl) ?_
   refine det_call (fn := 24) 2 rfl (by decide +kernel) (by first | exact wanted_none rfl | exact wanted_some rfl rfl) (fun W => by first | (go_simp; done) | (go_simp; rfl)) (fun W hW => (F4.out W).mono fun e w' h => ⟨h.1, h.2 ▸ hW⟩) ?_; simp only [kP, kA, kS, kZ]
   refine detS 3 rfl ?_; refine detS 4 rfl ?_
   refine detT 5 rfl (fun W hW => St.run_load hW 1 3 _ rfl Try.isAgg3 rfl rfl rfl) ?_
   refine detT (v := .bool true) 6 rfl (fun W hW => by (go_simp; done)) ?_
   refine detS 7 rfl ?_; refine detS 8 rfl ?_; refine detS 9 rfl ?_
   refine detT 10 rfl (fun W hW => St.run_load hW 1 3 _ rfl Try.isAgg3 rfl rfl rfl) ?_
   refine detS 11 rfl ?_; refine detS 12 rfl ?_
   refine detT 13 rfl (fun W hW => St.run_load hW 1 3 _ rfl Try.isAgg3 rfl rfl rfl) ?_
   refine detT (v := .int .i64 m) 14 rfl (fun W hW => by (exact run_and3 _ _ _ rfl hm rfl rfl)) ?_
   refine detS 15 rfl ?_; refine detS 16 rfl ?_
   refine detT (v := .pointer (some ⟨g, 1 + m * 5, none⟩)) 17 rfl (fun W hW => by (first | (go_simp; done) | (go_simp; omega))) ?_
   refine detS 18 rfl ?_
   refine detT (v := .slice yb y.objects.length yc) 19 rfl (fun W hW => St.run_load hW 0 32 _ rfl Try.isAgg32 rfl rfl hcell) ?_
   refine detS 20 rfl ?_
   refine detT (v := .bool (decide ((j : Int) < y.objects.length))) 21 rfl (fun W hW => by (go_simp; done)) ?_
   refine detS 22 rfl ?_; refine detS 23 rfl ?_
   refine det_done (by decide +kernel) ?_
   clear st
   intro W st
   go_wp2_with fail
   go_meet
   exact ⟨by rw [hth.out]; simp, by rw [et.out, en.out]; exact st⟩
 case rest =>
 obtain ⟨rfl, st⟩ := hcut
 have hg5w : w.heap.size ≤ g5 := hg5
 have hg6w : w.heap.size ≤ g6 := hg6
 have HTk := qh (show callK k (n : Int) c = (k.put n (takeX x).1, (takeX x).2) by unfold callK takeK; simp [hkd, hth])
 rw [hkd] at st
 clear hkd
 have hmne : ma.map (·.block) ≠ some g := fun e => h.gOut eB (mem_rows2.2 (.inr e))
 have hgw := h.lt g (by simp)
 clear hb
 have HKo := qh (show ∀ (W : World) (bl : Blks), St [g] w W bl → Keeps (fun b => ok b ∧ b < w.heap.size) w W from fun W bl s => s.keeps (fun b hb h => hgg ((List.mem_singleton.1 hb) ▸ h.1)))
 have HRM := qh (show ∀ (W : World) (bl : Blks), St [g] w W bl → ∀ cs m, RMail (fun b => ok b ∧ b < w.heap.size) w cs m → RMail (fun b => (ok b ∨ w.heap.size ≤ b) ∧ b ∉ g :: rows2 ba ma) W cs m from fun W bl s cs m r => r.move s.size fun b hb ho => ⟨⟨.inl ho.1, fun hm => by
  rcases List.mem_cons.1 hm with rfl | hm
  ·exact hgg ho.1
  ·exact h.apartAt eB hm ho.1⟩, (HKp.out _ _ s).block b ho.2 ho.1⟩)
 obtain ⟨h1, h2, h3, h4⟩ := hT.later (Below.refl _ _)
 have HM := qh hx.mail
 have HR := qh hx.own
 have hg5w : w.heap.size ≤ g5 := hg5
 have hg6w : w.heap.size ≤ g6 := hg6
 have h40 := h4.kept (w' := wc) (R' := RMail (fun b => ok b ∧ b < w.heap.size) w) (fun b hq => st.frame b (h4.lt hq) (by simp; intro e; exact hmne (e ▸ hq))) fun _ _ h => h
 obtain ⟨wz, rfl⟩ : ∃ V, V = wc := ⟨_, rfl⟩
 go_wp2_with (first | go_skip | (with_reducible refine mX st Try.isAgg3 ?_))
 try simp only [kP, kA, kS, kZ]
 go_loopg [16] 6 (fun nn v16 wr => ∃ (l : List Mail) (a' : Option Addr) (c' : Nat), l.length ≤ nn ∧ (∀ m ∈ l, goodMailC m = 0) ∧ Hid (takeM x.label x.own x.mails = takeM x.label x.own l) ∧ St [g] w wr [(g, 38, winC (preC k css n) [.slice xa x.label.length xc, .slice oa x.own.length oc, .string x.text, .slice ba x.objects.length bc, .slice a' l.length c'] (postC k css n)), (g5, 40, [.int .i64 7, .int .i64 c.h, .int .i64 c.t, .int .i64 c.n, .int .i64 c.c, .slice la c.label.length lc, .slice ga c.grants.length gc, .string c.text]), (g6, 52, [.int .i64 0, .int .i64 0, .string ⟨#[]⟩])] ∧ RowAt 42 wr 5 (RMail (fun b => ok b ∧ b < w.heap.size) w) a' c' l ∧ (∀ b, a'.map (·.block) = some b → ma.map (·.block) = some b))
 case atStart => exact ⟨x.mails, ma, mc, hxm, HM.out, rfl, st, h40, fun _ h => h⟩
 case round =>
  clear st h40
  obtain ⟨l, a', c', hln, hlm, HT, st, hRow, hab⟩ := hrel
  cases l with
  | nil =>
   have HE : Hid (callK k (n : Int) c = (k.put n { x with mails := [] }, errR 4)) := qh (by rw [HTk.out]; unfold takeX; rw [HT.out]; rfl)
   clear HT
   have stK := st
   have st := stK.rebase
   simp only [List.map_cons, List.map_nil] at st
   go_wp2_with (first | go_skip | (with_reducible refine at_load 33 ?_; (first | refine mem_loadW st 33 _ rfl (wanted_none rfl) Try.isAgg33 4 ?_ | (refine mem_loadW st 33 _ rfl (wanted_some rfl ?_) Try.isAgg33 4 ?_; focus (simp [yielded, Act.put]; done))); refine ⟨0, _, _, _, _, _, _, _, hpre, rfl, rfl, rfl, ?_⟩) | (go_at_call 39; go_must (refine (rcall_no _ _).mono ?_; rintro e vn ⟨rfl, hbn⟩; replace st := st.call hbn; clear hbn)) | (with_reducible refine mS 2 st Try.sizeOf52 ?_; clear st; intro w9 st hw9m hw9z))
   have hc := fun j => st.cell (i := 2) rfl j
   refine bodyPost_ret (v := RepV (errR 4)) ?hr rfl ?_
   case hr => simp [results, Try.results14, go_sem, hc, RepV, errR]; try rfl
   rw [HE.out]
   have stB := St.back stK st
   refine ⟨rfl, h.closeMails (made' := k.made) (x' := { x with mails := [] }) (x := x) (la' := xa) (lc' := xc) (oa' := oa) (oc' := oc) (ma' := a') (mc' := c') hn ec eB hT (stB.sub (by simp [thrC]) (by simp)) rfl (h.fine eB ((hT.label.keep (HKp.out _ _ stB)).okay fun _ r => .inl r)) (h.fine eB ((hT.own.keep (HKp.out _ _ stB)).okay fun _ r => .inl r)) (hRow.kept (fun b hb => st.frame b (hRow.lt hb) ?_) (HRM.out _ _ stB)) hab⟩
   have := h4.lt (hab b hb)
   simp
   exact ⟨fun e => hmne (e ▸ hab _ hb), by omega, by omega⟩
  | cons m l =>
   have hgm4 := hlm m (by simp)
   have hl1 := hRow.1
   rcases hRow.2.2 with ⟨_, h0⟩ | ⟨gm, off, cells, rfl, hgb, hle, hx2⟩
   ·simp only [List.length_cons] at hl1; omega
   obtain ⟨cs, ⟨l1, k1, l2, k2, rfl, hA, hB⟩, hlen, h1c, hcell⟩ := hx2 0 m rfl
   have hgmx := hab gm rfl
   have hgmw := h4.lt hgmx
   have hne : gm ≠ g := fun e => hmne (by rw [hgmx, e])
   have HC := qh (show ∀ (j : Nat) (v : Value), [Value.int .i64 m.host, .int .i64 m.thread, .slice l1 m.label.length k1, .slice l2 m.grants.length k2, .string m.text][j]? = some v → wr.cell? ⟨gm, off + j, none⟩ = some v from fun j v hv => by
    rw [cell_of_row wr gm _ cells.toArray _ (0, 0) hgb]
    simpa using hcell j v hv)
   obtain ⟨q, rfl⟩ : ∃ q, c' = q + 1 := ⟨c' - 1, by simp only [List.length_cons] at hl1; omega⟩
   have hTail := qh hRow.tail
   obtain ⟨⟨q1, q2⟩, ⟨q3, q4⟩, q5, q6, q7⟩ := mail_facts hgm4
   have q8 := (grants_facts q6).1
   have qf := goodL_fitI q5
   have q9 := goodL_len q5
   clear q5 q6
   have hcm := hRow.2.1
   unfold maxLen at hcm
   clear hRow hcell hlen h1c hle hx2
   have st1 := st.rebase
   have stK := st
   clear st
   have st := st1
   clear st1
   simp only [List.map_cons, List.map_nil, List.length_cons] at st
   have hlq : l.length ≤ q := by simp only [List.length_cons] at hl1; omega
   go_upto_region 47 with (first
      | go_skip | (with_reducible refine at_load 33 ?_; (first | refine mem_loadW st 33 _ rfl (wanted_none rfl) Try.isAgg33 4 ?_ | (refine mem_loadW st 33 _ rfl (wanted_some rfl ?_) Try.isAgg33 4 ?_; focus (simp [yielded, Act.put]; done))); refine ⟨0, _, _, _, _, _, _, _, hpre, rfl, rfl, rfl, ?_⟩) | (with_reducible refine at_load 42 ?_; refine wpList_load_cells (wanted_none rfl) 42 _ rfl Try.isAgg42 _ Try.sizeOf42 gm off rfl [.int .i64 m.host, .int .i64 m.thread, .slice l1 m.label.length k1, .slice l2 m.grants.length k2, .string m.text] rfl HC.out ?_)
      | (with_reducible refine mA st Try.zeroValue42 ?_; clear st; intro g16 w5 hg16 st) | (with_reducible refine mS 3 st Try.sizeOf42 ?_; clear st; intro w6 st hw6m hw6z))
   have hgmr : gm < wr.heap.size := by have := stK.size; omega
   have h5r : g5 < wr.heap.size := stK.ltAt (i := 1) rfl
   have h6r : g6 < wr.heap.size := stK.ltAt (i := 2) rfl
   have hgr : g < wr.heap.size := stK.ltAt (i := 0) rfl
   simp only [kP, kA, kS, kZ]
   go_cut [16] from 319 to 332 (fun s16 wx => ∃ (off' : Nat), s16 = .pointer (some ⟨g16, 0, none⟩) ∧ St [g, g5, g6] wr wx [(g, 38, winC (preC k css n) [.slice xa x.label.length xc, .slice oa x.own.length oc, .string x.text, .slice ba x.objects.length bc, .slice (some ⟨gm, off', none⟩) l.length q] (postC k css n)), (g5, 40, [.int .i64 7, .int .i64 c.h, .int .i64 c.t, .int .i64 c.n, .int .i64 c.c, .slice la c.label.length lc, .slice ga c.grants.length gc, .string c.text]), (g6, 52, [.int .i64 0, .int .i64 0, .string ⟨#[]⟩]), (g16, 42, [.int .i64 m.host, .int .i64 m.thread, .slice l1 m.label.length k1, .slice l2 m.grants.length k2, .string m.text])] ∧ RowAt 42 wr 5 (RMail (fun b => ok b ∧ b < w.heap.size) w) (some ⟨gm, off', none⟩) q l)
   case first =>
    rcases Nat.eq_zero_or_pos q with hq | hq
    ·have HQ := qh (hTail.out.2 (by omega))
     subst hq
     have HL := qh hlq
     clear hlq
     go_wp2_with (first | go_skip | (with_reducible refine at_load 33 ?_; (first | refine mem_loadW st 33 _ rfl (wanted_none rfl) Try.isAgg33 4 ?_ | (refine mem_loadW st 33 _ rfl (wanted_some rfl ?_) Try.isAgg33 4 ?_; focus (simp [yielded, Act.put]; done))); refine ⟨0, _, _, _, _, _, _, _, hpre, rfl, rfl, rfl, ?_⟩) | (with_reducible refine at_store 33 ?_; refine mem_storeW st 33 _ _ rfl (wanted_none rfl) _ Try.sizeOf33 4 ?_; refine ⟨0, _, _, _, _, _, _, _, hpre, rfl, rfl, rfl, rfl, rfl, rfl, ?_⟩; clear st; intro w7 st hw7m hw7z; simp [Act.eval, Act.put, Value.cells, putL] at st))
     go_meet
     exact ⟨off, rfl, st, HQ.out⟩
    ·have HQ := qh hTail.out.1
     go_wp2_with (first | go_skip | (with_reducible refine at_load 33 ?_; (first | refine mem_loadW st 33 _ rfl (wanted_none rfl) Try.isAgg33 4 ?_ | (refine mem_loadW st 33 _ rfl (wanted_some rfl ?_) Try.isAgg33 4 ?_; focus (simp [yielded, Act.put]; done))); refine ⟨0, _, _, _, _, _, _, _, hpre, rfl, rfl, rfl, ?_⟩) | (with_reducible refine at_store 33 ?_; refine mem_storeW st 33 _ _ rfl (wanted_none rfl) _ Try.sizeOf33 4 ?_; refine ⟨0, _, _, _, _, _, _, _, hpre, rfl, rfl, rfl, rfl, rfl, rfl, ?_⟩; clear st; intro w7 st hw7m hw7z; simp [Act.eval, Act.put, Value.cells, putL] at st))
     go_meet
     rw [if_neg (by omega)] at st
     exact ⟨off + 5, rfl, st, HQ.out⟩
   case rest =>
    obtain ⟨off', rfl, st, hRow2⟩ := hcut
    have hgn : gm ∉ [g, g5, g6] := by simp; omega
    have hgo : gm ∉ [g] := by simpa using hne
    have hfr : wc.heap[gm]? = w.heap[gm]? := (st.frame gm hgmr hgn).trans (stK.frame gm hgmw (by simpa using hne))
    have hRow3 := hRow2.kept (w' := wc) (R' := RMail (fun b => ok b ∧ b < w.heap.size) w) (fun b hb => by obtain rfl : gm = b := Option.some.inj hb; exact st.frame gm hgmr hgn) fun _ _ h => h
    have st2 := St.back stK st
    clear st stK hRow2 HC hgb
    have st := st2
    clear st2
    have hlm2 : ∀ m ∈ l, goodMailC m = 0 := fun m hm => hlm m (by simp [hm])
    have HMs := qh hlm2
    clear hlm hlm2 hgm4
    have HF := qh (fun (W : World) (bl : Blks) (hW : St [g] w W bl) => ref_Flows (fun b => ok b ∧ b < w.heap.size) W l1 xa oa k1 xc oc m.label x.label x.own qf hxf (by unfold maxLen; omega) (hA.keep (HKo.out W _ hW)) (h1.keep (HKo.out W _ hW)) (h2.keep (HKo.out W _ hW)))
    have HT2 := qh (show takeM x.label x.own (m :: l) = if flowsL m.label x.label x.own = true then (some m, l) else takeM x.label x.own l from rfl)
    generalize flowsL m.label x.label x.own = fl at HF HT2
    go_wp2_with fail
    refine det_region (by kernel_rfl) 11 rfl (fun W => St [g] w W [(g, 38, winC (preC k css n) [.slice xa x.label.length xc, .slice oa x.own.length oc, .string x.text, .slice ba x.objects.length bc, .slice (some ⟨gm, off', none⟩) l.length q] (postC k css n)), (g5, 40, [.int .i64 7, .int .i64 c.h, .int .i64 c.t, .int .i64 c.n, .int .i64 c.c, .slice la c.label.length lc, .slice ga c.grants.length gc, .string c.text]), (g6, 52, [.int .i64 0, .int .i64 0, .string ⟨#[]⟩]), (g16, 42, [.int .i64 m.host, .int .i64 m.thread, .slice l1 m.label.length k1, .slice l2 m.grants.length k2, .string m.text])]) (st.drew) (by decide +kernel) ?_
    refine detS 0 rfl ?_
    refine detT 1 rfl (fun W hW => St.run_load hW 3 30 _ rfl Try.isAgg30 rfl rfl rfl) ?_
    refine detS 2 rfl ?_; refine detS 3 rfl ?_; refine detS 4 rfl ?_
    refine detT 5 rfl (fun W hW => St.run_loadW hW 0 30 _ rfl Try.isAgg30 0 hpre rfl rfl rfl) ?_
    refine detS 6 rfl ?_; refine detS 7 rfl ?_; refine detS 8 rfl ?_
    refine detT 9 rfl (fun W hW => St.run_loadW hW 0 31 _ rfl Try.isAgg31 1 hpre rfl rfl rfl) ?_
    refine det_call (fn := 28) 10 rfl (by decide +kernel) (by first | exact wanted_none rfl | exact wanted_some rfl rfl) (fun W => by first | (go_simp; done) | (go_simp; rfl)) (fun W hW => (HF.out W _ hW).mono fun e w' h => ⟨h.1, hW.call h.2⟩) ?_; simp only [kP, kA, kS, kZ]
    refine det_done (by decide +kernel) ?_
    clear st HF
    intro W st
    have hRow4 := hRow3.kept (w' := W) (R' := RMail (fun b => ok b ∧ b < w.heap.size) w) (fun b hb => by obtain rfl : gm = b := Option.some.inj hb; exact (st.frame gm hgmw hgo).trans hfr.symm) fun _ _ h => h
    clear hRow3 hfr
    have stW := st
    cases fl with
    | false =>
     have HE := qh (show takeM x.label x.own x.mails = takeM x.label x.own l by rw [HT.out, HT2.out]; rfl)
     clear HT HT2
     go_wp2_with fail
     go_roundg (gk - 1)
     case measure => simp only [List.length_cons] at hln; omega
     case rel => exact ⟨l, some ⟨gm, off', none⟩, q, by simp only [List.length_cons] at hln; omega, HMs.out, HE, st.take 3, hRow4, hab⟩
    | true =>
     have HE : Hid (callK k (n : Int) c = (k.put n { x with mails := l, text := lastB (x.text ++ m.text), own := ownAll x.own m.grants }, ⟨0, m.host * 4 + m.thread, ⟨#[]⟩⟩)) := qh (by rw [HTk.out]; unfold takeX; rw [HT.out, HT2.out]; rfl)
     clear HT HT2 HMs
     have hsz : (x.text ++ m.text).size = x.text.size + m.text.size := ByteArray.size_append
     have HLa := qh (fun (W : World) => ref_last W (x.text ++ m.text) (by omega))
     go_wp2_with fail
     have st := st.drew
     have hI := st
     refine lex_tail (by kernel_rfl) 11 1 [11] rfl (by decide +kernel) (fun W => St [g] w W [(g, 38, winC (preC k css n) [.slice xa x.label.length xc, .slice oa x.own.length oc, .string x.text, .slice ba x.objects.length bc, .slice (some ⟨gm, off', none⟩) l.length q] (postC k css n)), (g5, 40, [.int .i64 7, .int .i64 c.h, .int .i64 c.t, .int .i64 c.n, .int .i64 c.c, .slice la c.label.length lc, .slice ga c.grants.length gc, .string c.text]), (g6, 52, [.int .i64 0, .int .i64 0, .string ⟨#[]⟩]), (g16, 42, [.int .i64 m.host, .int .i64 m.thread, .slice l1 m.label.length k1, .slice l2 m.grants.length k2, .string m.text])]) ?_
     refine lexS 0 rfl hI ?_
     refine lexS 1 rfl hI ?_
     refine lexS 2 rfl hI ?_
     refine lexS 3 rfl hI ?_
     refine lexT 4 rfl hI (fun W hW => St.run_loadW hW 0 9 _ rfl Try.isAgg9 2 hpre rfl rfl rfl) ?_
     refine lexS 5 rfl hI ?_
     refine lexT 6 rfl hI (fun W hW => St.run_load hW 3 9 _ rfl Try.isAgg9 rfl rfl rfl) ?_
     refine lexT (v := .string (x.text ++ m.text)) 7 rfl hI (fun W hW => by (go_simp; first | done | omega)) ?_
     clear hI
     refine lexO 8 rfl fun K hK => ?_
     refine wp_callee (f := 25) (by first | (go_simp; done) | (go_simp; rfl)) ?_
     refine (HLa.out _).mono ?_
     rintro e v1 ⟨rfl, hb1⟩
     refine ⟨_, rfl, ?_⟩
     replace st := st.call hb1
     clear hb1
     have hI := st
     refine hK _ _ (hI) ?_; clear hK; simp only [kP, kA, kS, kZ]
     refine lexS 9 rfl hI ?_
     refine lexS 10 rfl hI ?_
     clear hI
     refine lex_done (by decide +kernel) ?_
     refine tail_last 11 rfl (by first | exact wanted_none rfl | exact wanted_some rfl rfl) (by decide +kernel) (by decide +kernel) fun K hK => ?_
     refine wp_storeW st 9 _ _ rfl _ Try.sizeOf9 2 ?_; refine ⟨0, _, _, _, _, _, _, _, hpre, rfl, rfl, rfl, rfl, rfl, rfl, ?_⟩; clear st; intro w8 st hw8m hw8z; simp [Act.eval, Act.put, Value.cells, putL] at st
     refine hK _ _ ?_; clear hK
     have HW := qh (hRow4.kept (w' := w) (R' := RMail (fun b => ok b ∧ b < w.heap.size) w) (fun b hb => by obtain rfl : gm = b := Option.some.inj hb; exact (stW.frame gm hgmw hgo).symm) fun _ _ h => h)
     clear hRow4 stW hw8m hw8z hsz HLa
     have hl1 := st.ltAt (i := 1) rfl
     have hl2 := st.ltAt (i := 2) rfl
     have hl3 := st.ltAt (i := 3) rfl
     have hw16 : w.heap.size ≤ g16 := by omega
     have HB2 := qh hB
     have hR0 : SlR (fun b => ((ok b ∧ b < w.heap.size) ∨ w.heap.size ≤ b) ∧ b ∉ [g, g5, g6, g16]) w8 1 RInt oa oc x.own := h2.move st.size (fun b hb ho => ⟨⟨.inl ho, by simp; exact ⟨fun e => hgg (e ▸ ho.1), by omega, by omega, by omega⟩⟩, st.frame b hb (by simp; rintro rfl; exact hgg ho.1)⟩) fun _ _ h => h
     generalize lastB (x.text ++ m.text) = tx at *
     go_upto_block 3 with (first | go_skip | (with_reducible refine mX st Try.isAgg31 ?_))
     go_cut [18, 19, 20] from 358 to 377 (fun s18 s19 s20 wx => ∃ (oa' : Option Addr) (oc' : Nat), St [g] w wx [(g, 38, winC (preC k css n) [.slice xa x.label.length xc, .slice oa' (ownAll x.own m.grants).length oc', .string tx, .slice ba x.objects.length bc, .slice (some ⟨gm, off', none⟩) l.length q] (postC k css n)), (g5, 40, [.int .i64 7, .int .i64 c.h, .int .i64 c.t, .int .i64 c.n, .int .i64 c.c, .slice la c.label.length lc, .slice ga c.grants.length gc, .string c.text]), (g6, 52, [.int .i64 0, .int .i64 0, .string ⟨#[]⟩]), (g16, 42, [.int .i64 m.host, .int .i64 m.thread, .slice l1 m.label.length k1, .slice l2 m.grants.length k2, .string m.text])] ∧ SlR (fun b => ((ok b ∧ b < w.heap.size) ∨ w.heap.size ≤ b) ∧ b ∉ [g, g5, g6, g16]) wx 1 RInt oa' oc' (ownAll x.own m.grants))
     case first =>
      go_wp2_with fail
      go_loopw [358] (fun v358 wr2 => ∃ (j : Nat) (own' : List Int) (oa' : Option Addr) (oc' : Nat), v358 = .int .i64 j ∧ j ≤ m.grants.length ∧ Hid (ownAll x.own m.grants = ownAll own' (m.grants.drop j)) ∧ Rising own' ∧ own'.length ≤ 8 ∧ St [g] w wr2 [(g, 38, winC (preC k css n) [.slice xa x.label.length xc, .slice oa' own'.length oc', .string tx, .slice ba x.objects.length bc, .slice (some ⟨gm, off', none⟩) l.length q] (postC k css n)), (g5, 40, [.int .i64 7, .int .i64 c.h, .int .i64 c.t, .int .i64 c.n, .int .i64 c.c, .slice la c.label.length lc, .slice ga c.grants.length gc, .string c.text]), (g6, 52, [.int .i64 0, .int .i64 0, .string ⟨#[]⟩]), (g16, 42, [.int .i64 m.host, .int .i64 m.thread, .slice l1 m.label.length k1, .slice l2 m.grants.length k2, .string m.text])] ∧ SlR (fun b => ((ok b ∧ b < w.heap.size) ∨ w.heap.size ≤ b) ∧ b ∉ [g, g5, g6, g16]) wr2 1 RInt oa' oc' own') (fun v358 _ => m.grants.length - (intOf v358).toNat)
      case atStart => exact ⟨0, x.own, oa, oc, rfl, Nat.zero_le _, rfl, HR.out, hxo, st, hR0⟩
      case round =>
       clear st hR0
       obtain ⟨j, own', oa', oc', rfl, hj, HO, hr, hl8, st, hR⟩ := hrel
       by_cases hlt : j < m.grants.length
       ·obtain ⟨b, o, rfl, hbl, hc⟩ := (HB2.out.keep (HKo.out _ _ st)).int_at j hlt
        have HS := qh (show ownAll own' (m.grants.drop j) = if (ownC own' m.grants[j]).2 = 0 then ownAll (ownC own' m.grants[j]).1 (m.grants.drop (j + 1)) else own' by rw [List.drop_eq_getElem_cons hlt]; rfl)
        have HC2 := qh (ownC_ok hr hl8 m.grants[j])
        have HL := qh (ownC_lo own' m.grants[j])
        have HOw := qh (ref_owns (fun b => ((ok b ∧ b < w.heap.size) ∨ w.heap.size ≤ b) ∧ b ∉ [g, g5, g6, g16]) _ oa' oc' own' m.grants[j] hl8 hR)
        generalize m.grants[j] = gj at HS HC2 HL HOw hc
        obtain ⟨⟨o2, e2⟩, HP⟩ : ∃ r, Hid (ownC own' gj = r) := ⟨_, rfl⟩
        rw [HP.out] at HS HC2 HL HOw
        have hlg := st.ltAt (i := 0) rfl
        have hlg5 := st.ltAt (i := 1) rfl
        have hlg6 := st.ltAt (i := 2) rfl
        have hlg16 := st.ltAt (i := 3) rfl
        have hwz := st.size
        rcases HL.out with h0 | ⟨h5, h6⟩
        ·obtain rfl : e2 = 0 := h0
         go_wp2_with (first | go_skip | (with_reducible refine at_load 31 ?_; (first | refine mem_loadW st 31 _ rfl (wanted_none rfl) Try.isAgg31 1 ?_ | (refine mem_loadW st 31 _ rfl (wanted_some rfl ?_) Try.isAgg31 1 ?_; focus (simp [yielded, Act.put]; done))); refine ⟨0, _, _, _, _, _, _, _, hpre, rfl, rfl, rfl, ?_⟩) | (go_at_call 40; go_must (refine (HOw.out).mono ?_; rintro e v2 ⟨oa2, oc2, rfl, hb2, hR2⟩; replace st := st.call hb2; have hz2 := hb2.size; clear hb2)) | (with_reducible refine at_store 31 ?_; refine mem_storeW st 31 _ _ rfl (wanted_none rfl) _ Try.sizeOf31 1 ?_; refine ⟨0, _, _, _, _, _, _, _, hpre, rfl, rfl, rfl, rfl, rfl, rfl, ?_⟩; clear st; intro w9 st hw9m hw9z; simp [Act.eval, Act.put, Value.cells, putL] at st))
         have hR3 : SlR (fun b => ((ok b ∧ b < w.heap.size) ∨ w.heap.size ≤ b) ∧ b ∉ [g, g5, g6, g16]) w9 1 RInt oa2 oc2 o2 := hR2.move (by omega) (fun b hb ho => by
          have hb' : ((ok b ∧ b < w.heap.size) ∨ w.heap.size ≤ b) ∧ b ∉ [g, g5, g6, g16] := ho.elim (fun h => h.1) fun h => ⟨.inr (by omega), by simp; omega⟩
          exact ⟨hb', hw9m b fun e => hb'.2 (by simp [e])⟩) fun _ _ h => h
         clear hR2 hw9m hw9z hR hc
         go_roundw
         case rel => exact ⟨j + 1, o2, oa2, oc2, by go_num, hlt, qh (by rw [HO.out, HS.out]; rfl), HC2.out.1, HC2.out.2, st, hR3⟩
         case measure => simp [intOf]; omega
        ·obtain rfl : e2 = 5 := h5
         obtain rfl : o2 = own' := h6
         have HE2 := qh (show ownAll x.own m.grants = o2 by rw [HO.out, HS.out]; rfl)
         go_wp2_with (first | go_skip | (with_reducible refine at_load 31 ?_; (first | refine mem_loadW st 31 _ rfl (wanted_none rfl) Try.isAgg31 1 ?_ | (refine mem_loadW st 31 _ rfl (wanted_some rfl ?_) Try.isAgg31 1 ?_; focus (simp [yielded, Act.put]; done))); refine ⟨0, _, _, _, _, _, _, _, hpre, rfl, rfl, rfl, ?_⟩) | (go_at_call 40; go_must (refine (HOw.out).mono ?_; rintro e v2 ⟨oa2, oc2, rfl, hb2, -⟩; replace st := st.call hb2; replace hR := hR.below hb2; clear hb2)))
         go_meet
         rw [HE2.out]
         exact ⟨oa', oc', st, hR⟩
       ·have HE2 := qh (show ownAll x.own m.grants = own' by rw [HO.out, List.drop_of_length_le (by omega)]; rfl)
        have hdj : decide ((j : Int) < m.grants.length) = false := by simp; omega
        go_wp2_with fail
        go_meet
        rw [HE2.out]
        exact ⟨oa', oc', st, hR⟩
     case rest =>
      obtain ⟨oa', oc', st, hR⟩ := hcut
      clear hR0
      have hw4 := st.size
      have f1 : IntKind.i64.wrap (4 * m.host) = m.host * 4 := by rw [Int.mul_comm]; exact IntWalk.i64_in _ (by omega)
      have f2 : IntKind.i64.wrap (m.host * 4 + m.thread) = m.host * 4 + m.thread := IntWalk.i64_in _ (by omega)
      go_wp2_with (first | go_skip | (with_reducible refine mX st Try.isAgg3 ?_) | (with_reducible refine mS 2 st Try.sizeOf52 ?_; clear st; intro w9 st hw9m hw9z))
      have hc := fun j => st.cell (i := 2) rfl j
      refine bodyPost_ret (v := RepV ⟨0, m.host * 4 + m.thread, ⟨#[]⟩⟩) ?hr rfl ?_
      case hr => simp [results, Try.results14, go_sem, hc, RepV]; try rfl
      rw [HE.out]
      exact ⟨rfl, h.closeMails (made' := k.made) (x' := { x with mails := l, text := tx, own := ownAll x.own m.grants }) (x := x) (la' := xa) (lc' := xc) (oa' := oa') (oc' := oc') (ma' := some ⟨gm, off', none⟩) (mc' := q) hn ec eB hT (st.sub (by simp [thrC]) (by simp)) rfl (h.fine eB ((hT.label.keep (HKp.out _ _ st)).okay fun _ r => .inl r)) (h.fine eB ((hR.move (by omega) (fun b hb ho => ⟨ho.1, hw9m b fun e => ho.2 (by simp [e])⟩) fun _ _ r => r).okay fun b ho => ho.imp (fun h => h.1) id)) (HW.out.kept (fun b hb => by obtain rfl : gm = b := Option.some.inj hb; exact st.frame gm hgmw hgo) (HRM.out _ _ st)) hab⟩
end
section
variable (ok okc : Nat → Prop) (w : World) (g : Nat) (k : Ker) (css : List (List Value)) (Bs : List (List Nat)) (c : Req) (la : Option Addr) (lc : Nat) (ga : Option Addr) (gc : Nat)
theorem ref_Call_out (h : RkAt ok w g k css Bs) (t : Int) (h4 : four t = false) :
  Calls Try.prog 14 #[.pointer (some ⟨g, 0, none⟩), .int .i64 t, reqV c la lc ga gc] w (RCallPost ok w g Bs (k, errR 4)) := by
 have st := St.start w
 have H4 := qh (fun (W : World) => ref_four t W)
 rw [h4] at H4
 clear h4
 unfold reqV
 go_enter Try.func14, Try.ntmps14
 go_wp2_with (first | go_skip | (go_at_call 24; go_must (refine (H4.out _).mono ?_; rintro e v1 ⟨rfl, rfl⟩)) | (with_reducible refine mB 40 st ?_; clear st; intro g5 w5 hg5 st) | (with_reducible refine mA st Try.zeroValue52 ?_; clear st; intro g6 w6 hg6 st) | (go_at_call 39; go_must (refine (rcall_no _ _).mono ?_; rintro e vn ⟨rfl, hbn⟩; replace st := st.call hbn; clear hbn)) | (with_reducible refine mS 1 st Try.sizeOf52 ?_; clear st; intro w7 st hw7m hw7z))
 have hc := fun j => st.cell (i := 1) rfl j
 refine bodyPost_ret (v := RepV (errR 4)) ?hr rfl ⟨rfl, RkTo.none h st.below⟩
 case hr => simp [results, Try.results14, go_sem, hc, RepV, errR]; try rfl
theorem ref_Call_long (h : RkAt ok w g k css Bs) (n : Nat) (hn : n < 4) (hx64 : 64 < c.text.size) :
  Calls Try.prog 14 #[.pointer (some ⟨g, 0, none⟩), .int .i64 n, reqV c la lc ga gc] w (RCallPost ok w g Bs (k, errR 9)) := by
 have d64 : decide (64 < (c.text.size : Int)) = true := by simp; omega
 have st := St.start w
 have H4 := qh (fun (W : World) => ref_four (n : Int) W)
 rw [four_of hn] at H4
 unfold reqV
 go_enter Try.func14, Try.ntmps14
 go_wp2_with (first | go_skip | (go_at_call 24; go_must (refine (H4.out _).mono ?_; rintro e v1 ⟨rfl, rfl⟩)) | (with_reducible refine mB 40 st ?_; clear st; intro g5 w5 hg5 st) | (with_reducible refine mA st Try.zeroValue52 ?_; clear st; intro g6 w6 hg6 st) | (with_reducible refine mX st Try.isAgg9 ?_) | (go_at_call 39; go_must (refine (rcall_no _ _).mono ?_; rintro e vn ⟨rfl, hbn⟩; replace st := st.call hbn; clear hbn)) | (with_reducible refine mS 1 st Try.sizeOf52 ?_; clear st; intro w7 st hw7m hw7z))
 have hc := fun j => st.cell (i := 1) rfl j
 refine bodyPost_ret (v := RepV (errR 9)) ?hr rfl ⟨rfl, RkTo.none h st.below⟩
 case hr => simp [results, Try.results14, go_sem, hc, RepV, errR]; try rfl
theorem ref_Call (h : RkAt ok w g k css Bs) (hk : k.ok) (t : Int) (hll : c.label.length * 16 ≤ 140737488351232) (hcl : SlR okc w 2 RLev la lc c.label) :
  Calls Try.prog 14 #[.pointer (some ⟨g, 0, none⟩), .int .i64 t, reqV c la lc ga gc] w (RCallPost ok w g Bs (stepC k t c)) := by
 unfold stepC
 by_cases h4 : four t = false
 ·rw [if_pos h4]; exact ref_Call_out ok w g k css Bs c la lc ga gc h t h4
 rw [if_neg h4]
 obtain ⟨n, rfl, hn⟩ := four_nat (by simpa using h4 : four t = true)
 by_cases h64 : 64 < c.text.size
 ·rw [if_pos h64]; exact ref_Call_long ok w g k css Bs c la lc ga gc h n hn h64
 rw [if_neg h64]
 have ht := hk.thr
 by_cases k1 : c.kind = 1
 ·by_cases hf : 20 ≤ k.made
  ·exact ref_Call_cat_full ok w g k css Bs n c la lc ga gc h ht hn h64 k1 hk.host.1 hk.host.2 hk.made.1 hk.made.2 hf
  ·by_cases ho : (ownC (k.thr n).own (k.host * 20 + k.made)).2 = 0
   ·exact ref_Call_cat ok w g k css Bs n c la lc ga gc h ht hn h64 k1 hk.host.1 hk.host.2 hk.made.1 hk.made.2 (by omega) ho
   ·exact ref_Call_cat_room ok w g k css Bs n c la lc ga gc h ht hn h64 k1 hk.host.1 hk.host.2 hk.made.1 hk.made.2 (by omega) ho
 by_cases k2 : c.kind = 2
 ·by_cases hg : goodL c.label = true
  ·by_cases hf : flowsL (k.thr n).label c.label (k.thr n).own = true
   ·by_cases h5 : (k.thr n).objects.length < 4
    ·exact ref_Call_object_yes ok okc w g k css Bs n c la lc ga gc h ht hn h64 k2 hll hcl hg hf h5
    ·exact ref_Call_object_full ok okc w g k css Bs n c la lc ga gc h ht hn h64 k2 hll hcl hg hf (by omega)
   ·exact ref_Call_object_no ok okc w g k css Bs n c la lc ga gc h ht hn h64 k2 hll hcl hg (by simpa using hf)
  ·exact ref_Call_object_bad ok okc w g k css Bs n c la lc ga gc h ht hn h64 k2 hll hcl (by simpa using hg)
 by_cases k3 : c.kind = 3
 ·cases ho : k.obj c.t c.n with
  | none => exact ref_Call_put_none ok w g k css Bs n c la lc ga gc h ht hn h64 k3 ho
  | some o =>
   by_cases hf : flowsL (k.thr n).label o.label (k.thr n).own = true
   ·exact ref_Call_put_yes ok w g k css Bs n c la lc ga gc h ht hn h64 k3 o ho hf
   ·exact ref_Call_put_no ok w g k css Bs n c la lc ga gc h ht hn h64 k3 o ho (by simpa using hf)
 by_cases k4 : c.kind = 4
 ·cases ho : k.obj c.t c.n with
  | none => exact ref_Call_get_none ok w g k css Bs n c la lc ga gc h ht hn h64 k4 ho
  | some o =>
   by_cases hf : flowsL o.label (k.thr n).label (k.thr n).own = true
   ·exact ref_Call_get_yes ok w g k css Bs n c la lc ga gc h ht hn h64 k4 o ho hf
   ·exact ref_Call_get_no ok w g k css Bs n c la lc ga gc h ht hn h64 k4 o ho (by simpa using hf)
 by_cases k5 : c.kind = 5
 ·by_cases he : (setR (k.thr n).label c.c c.n).2 = 0
  ·by_cases hf : flowsL (k.thr n).label (setR (k.thr n).label c.c c.n).1 (k.thr n).own = true
   ·exact ref_Call_level_yes ok w g k css Bs n c la lc ga gc h ht hn h64 k5 he hf
   ·exact ref_Call_level_low ok w g k css Bs n c la lc ga gc h ht hn h64 k5 he (by simpa using hf)
  ·exact ref_Call_level_no ok w g k css Bs n c la lc ga gc h ht hn h64 k5 he
 by_cases k7 : c.kind = 7
 ·exact ref_Call_take ok w g k css Bs n c la lc ga gc h ht hn h64 k7
 by_cases k9 : c.kind = 9
 ·exact ref_Call_forget ok w g k css Bs n c la lc ga gc h ht hn h64 k9
 by_cases k10 : c.kind = 10
 ·exact ref_Call_say ok w g k css Bs n c la lc ga gc h ht hn h64 k10
 exact ref_Call_other ok w g k css Bs n c la lc ga gc h ht hn h64 ⟨k1, k2, k3, k4, k5, k7, k9, k10⟩
end
end Go.Proofs.Ytealbofmlieicaa
