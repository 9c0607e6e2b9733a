/- Walks and plain laws, part 30. -/
import Derived.Test.YtnjjdpiofbajlaaGreatP29
import Derived.LoopN
set_option linter.unusedSimpArgs false
set_option linter.unusedVariables false
set_option maxHeartbeats 16000000
set_option maxRecDepth 100000
namespace Go.Proofs.YtnjjdpiofbajlaaGreat
open Go.RowKit
section
variable (ok okc : Nat → Prop) (w : World) (g : Nat) (k : Ker) (css : List (List Value)) (Bs : List (List Nat)) (n : Nat) (c : Req) (la : Option Addr) (lc : Nat) (ga : Option Addr) (gc : Nat)
theorem kernel_Call_put_no (h : KerAt ok w g k css Bs) (hk : ∀ x ∈ k.threads, x.ok) (hn : n < 4) (hx64 : ¬ 64 < c.text.size) (hkd : c.kind = 3) (o : KObj) (hob : k.obj c.t c.n = some o) (hf : flowsL (k.thr n).label o.label (k.thr n).own = false) :
  Calls Tryz.prog 50 #[.pointer (some ⟨g, 0, none⟩), .int .i64 n, reqV c la lc ga gc] w (CallPost ok w g Bs (callK k n c)) := by
 obtain ⟨x, xa, xc, oa, oc, ba, bc, ma, mc, ex, ec, eB, hT, hb⟩ := h.open hn
 have hx := hk x (mgE ex)
 have hpre := h.preLen hn
 have hth := Ker.thr_at ex
 rcases h.object c.t c.n with ⟨e, _⟩ | ⟨m, j, y, ya, yc, qa, qc, gb, off, bc2, ma2, mc2, o2, hm, et, en, ey, ecy, eBy, hTy, hoy, hob2, HOb⟩
 ·rw [hob] at e; cases e
 rw [hob] at hob2
 cases hob2
 replace et := qh et
 replace en := qh en
 obtain ⟨pre2, cs2, post2, hb2, hpre2, ⟨la2, lc2, rfl, hlo⟩, _, _⟩ := hTy.objs.window hoy
 have HQ := qh (show ∃ q, q = off + j * 2 from ⟨_, rfl⟩)
 obtain ⟨q, hq⟩ := HQ.out
 rw [← hq] at hpre2 HOb
 replace HOb := qh HOb
 clear HQ
 replace hq := qh hq
 have hgb : g ≠ gb := fun e => h.gOut eBy (e ▸ mem_rows2.2 (.inl rfl))
 have hgbo : ¬ ok gb := h.apartAt eBy (mem_rows2.2 (.inl rfl))
 have hgbl : gb < w.heap.size := hTy.objs.lt rfl
 have ho := (hk y (mgE ey)).obj o (mgE hoy)
 have hol := goodL_len ho.1
 have hot := ho.2
 have st0 := St.hand2 hb hb2 hgb
 unfold thrC at st0
 have d1 : decide ((n : Int) < 0) = false := by simp
 have d2 : decide ((4 : Int) ≤ n) = false := by simp; omega
 have d64 := text_size hx64
 have hgg : ¬ ok g := h.apart g (by simp)
 have HKp := qh (show ∀ (W : World) (bl : Blks), St [g, gb] w W bl → Keeps ok w W from fun W bl s => s.keeps (by simpa using ⟨hgg, hgbo⟩))
 have HB := qh (show ∀ (W : World) (bl : Blks), St [g, gb] w W bl → (g, 98, winC (preC k css n) [.slice xa x.label.length xc, .slice oa x.own.length oc, .string x.text, .slice ba x.objects.length bc, .slice ma x.mails.length mc] (postC k css n)) ∈ bl → (gb, 58, winC pre2 [.slice la2 o.label.length lc2, .string o.text] post2) ∈ bl → Below w.heap.size w W from fun W bl s hm1 hm2 => st0.below2 s (by simpa using ⟨hm1, hm2⟩))
 have hxl := goodL_len hx.good; have hxo := hx.ownL; have hxm := hx.mailN; have hxb := hx.objs; have hxt := hx.text
 have st := st0
 clear st0
 unfold reqV
 have HE := qh (show callK k (n : Int) c = (k, errR 0) by unfold callK; simp [hkd, hob, hf])
 rw [hth] at hf
 have HF := qh (fun (W : World) (bl : Blks) (hW : St [g, gb] w W bl) => label_Flows (fun _ => True) W xa la2 oa xc lc2 oc x.label o.label x.own (by omega) (by omega) ((hT.label.keep (HKp.out W _ hW)).okay fun _ _ => trivial) ((hlo.keep (HKp.out W _ hW)).okay fun _ _ => trivial) ((hT.own.keep (HKp.out W _ hW)).okay fun _ _ => trivial))
 rw [hf] at HF
 clear hob hf
 rw [hkd]
 clear hkd
 go_enter Tryz.func50, Tryz.ntmps50
 go_wp2_with (first | go_skip | (go_at_call 71; go_must (refine (HOb.out _ (HB.out _ _ st (by simp) (by simp))).mono ?_; rintro e wo ⟨rfl, rfl⟩)) | (with_reducible refine mB 30 st ?_; clear st; intro g5 w5 hg5 st) | (with_reducible refine mA st Tryz.zeroValue35 ?_; clear st; intro g6 w6 hg6 st) | (with_reducible refine mX st Tryz.isAgg9 ?_) | (with_reducible refine mX st Tryz.isAgg3 ?_) | (go_at_call 68; go_must (refine (call_no _ _).mono ?_; rintro e vn ⟨rfl, hbn⟩; replace st := st.call hbn; clear hbn)) | (with_reducible refine mS 3 st Tryz.sizeOf35 ?_; clear st; intro w7 st hw7m hw7z))
 refine det_region (by kernel_rfl) 17 rfl (fun W => St [g, gb] w W [(g, 98, winC (preC k css n) [.slice xa x.label.length xc, .slice oa x.own.length oc, .string x.text, .slice ba x.objects.length bc, .slice ma x.mails.length mc] (postC k css n)), (gb, 58, winC pre2 [.slice la2 o.label.length lc2, .string o.text] post2), (g5, 30, [.int .i64 3, .int .i64 c.h, .int .i64 c.t, .int .i64 c.n, .int .i64 c.c, .slice la c.label.length lc, .slice ga c.grants.length gc, .string c.text]), (g6, 35, [.int .i64 0, .int .i64 0, .string ⟨#[]⟩])]) (st.drew) (by decide +kernel) ?_
 refine detS 0 rfl ?_; refine detS 1 rfl ?_; refine detS 2 rfl ?_; refine detS 3 rfl ?_; refine detS 4 rfl ?_; refine detS 5 rfl ?_
 refine detT 6 rfl (fun W hW => St.run_loadW hW 0 27 _ rfl Tryz.isAgg27 0 hpre rfl rfl rfl) ?_
 refine detS 7 rfl ?_; refine detS 8 rfl ?_; refine detS 9 rfl ?_
 refine detT 10 rfl (fun W hW => St.run_loadW hW 1 27 _ rfl Tryz.isAgg27 0 hpre2 rfl rfl rfl) ?_
 refine detS 11 rfl ?_; refine detS 12 rfl ?_; refine detS 13 rfl ?_
 refine detT 14 rfl (fun W hW => St.run_loadW hW 0 28 _ rfl Tryz.isAgg28 1 hpre rfl rfl rfl) ?_
 refine det_call (fn := 27) 15 rfl (by decide +kernel) (by first | exact wanted_none rfl | exact wanted_some rfl rfl) (fun W => by first | (go_simp; done) | (go_simp; rfl)) (fun W hW => (HF.out W _ hW).mono fun e w' h => ⟨h.1, hW.call h.2⟩) ?_; simp only [kP, kA, kS, kZ]
 refine detS 16 rfl ?_
 refine det_done (by decide +kernel) ?_
 clear st
 intro W st
 go_wp2_with (first | go_skip | (go_at_call 68; go_must (refine (call_no _ _).mono ?_; rintro e vn ⟨rfl, hbn⟩; replace st := st.call hbn; clear hbn)) | (with_reducible refine mS 3 st Tryz.sizeOf35 ?_; clear st; intro w7 st hw7m hw7z))
 have hc := fun j => st.cell (i := 3) rfl j
 refine bodyPost_ret (v := RepV (errR 0)) ?hr rfl ?_
 case hr => simp [results, Tryz.results50, go_sem, hc, RepV, errR]; try rfl
 rw [HE.out]
 exact ⟨rfl, KerTo.none h (HB.out _ _ st (by simp) (by simp))⟩
theorem kernel_Call_put_yes (h : KerAt ok w g k css Bs) (hk : ∀ x ∈ k.threads, x.ok) (hn : n < 4) (hx64 : ¬ 64 < c.text.size) (hkd : c.kind = 3) (o : KObj) (hob : k.obj c.t c.n = some o) (hf : flowsL (k.thr n).label o.label (k.thr n).own = true) :
  Calls Tryz.prog 50 #[.pointer (some ⟨g, 0, none⟩), .int .i64 n, reqV c la lc ga gc] w (CallPost ok w g Bs (callK k n c)) := by
 obtain ⟨x, xa, xc, oa, oc, ba, bc, ma, mc, ex, ec, eB, hT, hb⟩ := h.open hn
 have hx := hk x (mgE ex)
 have hpre := h.preLen hn
 have hth := Ker.thr_at ex
 rcases h.object c.t c.n with ⟨e, _⟩ | ⟨m, j, y, ya, yc, qa, qc, gb, off, bc2, ma2, mc2, o2, hm, et, en, ey, ecy, eBy, hTy, hoy, hob2, HOb⟩
 ·rw [hob] at e; cases e
 rw [hob] at hob2
 cases hob2
 replace et := qh et
 replace en := qh en
 obtain ⟨pre2, cs2, post2, hb2, hpre2, ⟨la2, lc2, rfl, hlo⟩, _, _⟩ := hTy.objs.window hoy
 have HQ := qh (show ∃ q, q = off + j * 2 from ⟨_, rfl⟩)
 obtain ⟨q, hq⟩ := HQ.out
 rw [← hq] at hpre2 HOb
 replace HOb := qh HOb
 clear HQ
 replace hq := qh hq
 have hgb : g ≠ gb := fun e => h.gOut eBy (e ▸ mem_rows2.2 (.inl rfl))
 have hgbo : ¬ ok gb := h.apartAt eBy (mem_rows2.2 (.inl rfl))
 have hgbl : gb < w.heap.size := hTy.objs.lt rfl
 have ho := (hk y (mgE ey)).obj o (mgE hoy)
 have hol := goodL_len ho.1
 have hot := ho.2
 have st0 := St.hand2 hb hb2 hgb
 unfold thrC at st0
 have d1 : decide ((n : Int) < 0) = false := by simp
 have d2 : decide ((4 : Int) ≤ n) = false := by simp; omega
 have d64 := text_size hx64
 have hgg : ¬ ok g := h.apart g (by simp)
 have HKp := qh (show ∀ (W : World) (bl : Blks), St [g, gb] w W bl → Keeps ok w W from fun W bl s => s.keeps (by simpa using ⟨hgg, hgbo⟩))
 have HB := qh (show ∀ (W : World) (bl : Blks), St [g, gb] w W bl → (g, 98, winC (preC k css n) [.slice xa x.label.length xc, .slice oa x.own.length oc, .string x.text, .slice ba x.objects.length bc, .slice ma x.mails.length mc] (postC k css n)) ∈ bl → (gb, 58, winC pre2 [.slice la2 o.label.length lc2, .string o.text] post2) ∈ bl → Below w.heap.size w W from fun W bl s hm1 hm2 => st0.below2 s (by simpa using ⟨hm1, hm2⟩))
 have hxl := goodL_len hx.good; have hxo := hx.ownL; have hxm := hx.mailN; have hxb := hx.objs; have hxt := hx.text
 have st := st0
 clear st0
 unfold reqV
 have HE := qh (show callK k (n : Int) c = (k.put m { y with objects := y.objects.set j ⟨o.label, knowT x.text c.text⟩ }, errR 0) by
  have hym : k.thr (m : Int) = y := Ker.thr_at ey
  have hob3 : k.obj (m : Int) (j : Int) = some o := by rw [← et.out, ← en.out]; exact hob
  rw [hth] at hf; unfold callK; simp [hkd, hf, hth, et.out, en.out, hym, hob3, Thr.putObj, Ker.put])
 rw [hth] at hf
 have HF := qh (fun (W : World) (bl : Blks) (hW : St [g, gb] w W bl) => label_Flows (fun _ => True) W xa la2 oa xc lc2 oc x.label o.label x.own (by omega) (by omega) ((hT.label.keep (HKp.out W _ hW)).okay fun _ _ => trivial) ((hlo.keep (HKp.out W _ hW)).okay fun _ _ => trivial) ((hT.own.keep (HKp.out W _ hW)).okay fun _ _ => trivial))
 rw [hf] at HF
 have hct : c.text.size ≤ 64 := by omega
 have hsz : (x.text ++ c.text).size = x.text.size + c.text.size := ByteArray.size_append
 have HKt := qh (show knowT x.text c.text = (x.text ++ c.text).extract ((x.text ++ c.text).size - 64) (x.text ++ c.text).size from rfl)
 have hle : (x.text ++ c.text).size ≤ 2000000 := by omega
 clear hsz
 clear hob hf
 rw [hkd]
 clear hkd
 go_enter Tryz.func50, Tryz.ntmps50
 go_wp2_with (first | go_skip | (go_at_call 71; go_must (refine (HOb.out _ (HB.out _ _ st (by simp) (by simp))).mono ?_; rintro e wo ⟨rfl, rfl⟩)) | (with_reducible refine mB 30 st ?_; clear st; intro g5 w5 hg5 st) | (with_reducible refine mA st Tryz.zeroValue35 ?_; clear st; intro g6 w6 hg6 st) | (with_reducible refine mX st Tryz.isAgg9 ?_) | (with_reducible refine mX st Tryz.isAgg3 ?_) | (go_at_call 68; go_must (refine (call_no _ _).mono ?_; rintro e vn ⟨rfl, hbn⟩; replace st := st.call hbn; clear hbn)) | (with_reducible refine mS 3 st Tryz.sizeOf35 ?_; clear st; intro w7 st hw7m hw7z))
 refine det_region (by kernel_rfl) 17 rfl (fun W => St [g, gb] w W [(g, 98, winC (preC k css n) [.slice xa x.label.length xc, .slice oa x.own.length oc, .string x.text, .slice ba x.objects.length bc, .slice ma x.mails.length mc] (postC k css n)), (gb, 58, winC pre2 [.slice la2 o.label.length lc2, .string o.text] post2), (g5, 30, [.int .i64 3, .int .i64 c.h, .int .i64 c.t, .int .i64 c.n, .int .i64 c.c, .slice la c.label.length lc, .slice ga c.grants.length gc, .string c.text]), (g6, 35, [.int .i64 0, .int .i64 0, .string ⟨#[]⟩])]) (st.drew) (by decide +kernel) ?_
 refine detS 0 rfl ?_; refine detS 1 rfl ?_; refine detS 2 rfl ?_; refine detS 3 rfl ?_; refine detS 4 rfl ?_; refine detS 5 rfl ?_
 refine detT 6 rfl (fun W hW => St.run_loadW hW 0 27 _ rfl Tryz.isAgg27 0 hpre rfl rfl rfl) ?_
 refine detS 7 rfl ?_; refine detS 8 rfl ?_; refine detS 9 rfl ?_
 refine detT 10 rfl (fun W hW => St.run_loadW hW 1 27 _ rfl Tryz.isAgg27 0 hpre2 rfl rfl rfl) ?_
 refine detS 11 rfl ?_; refine detS 12 rfl ?_; refine detS 13 rfl ?_
 refine detT 14 rfl (fun W hW => St.run_loadW hW 0 28 _ rfl Tryz.isAgg28 1 hpre rfl rfl rfl) ?_
 refine det_call (fn := 27) 15 rfl (by decide +kernel) (by first | exact wanted_none rfl | exact wanted_some rfl rfl) (fun W => by first | (go_simp; done) | (go_simp; rfl)) (fun W hW => (HF.out W _ hW).mono fun e w' h => ⟨h.1, hW.call h.2⟩) ?_; simp only [kP, kA, kS, kZ]
 refine detS 16 rfl ?_
 refine det_done (by decide +kernel) ?_
 clear st
 intro W st
 go_wp2_with (first | go_skip | fail)
 refine det_region (by kernel_rfl) 8 rfl (fun W => St [g, gb] w W [(g, 98, winC (preC k css n) [.slice xa x.label.length xc, .slice oa x.own.length oc, .string x.text, .slice ba x.objects.length bc, .slice ma x.mails.length mc] (postC k css n)), (gb, 58, winC pre2 [.slice la2 o.label.length lc2, .string o.text] post2), (g5, 30, [.int .i64 3, .int .i64 c.h, .int .i64 c.t, .int .i64 c.n, .int .i64 c.c, .slice la c.label.length lc, .slice ga c.grants.length gc, .string c.text]), (g6, 35, [.int .i64 0, .int .i64 0, .string ⟨#[]⟩])]) (st.drew) (by decide +kernel) ?_
 refine detS 0 rfl ?_; refine detS 1 rfl ?_; refine detS 2 rfl ?_
 refine detT 3 rfl (fun W hW => St.run_loadW hW 0 9 _ rfl Tryz.isAgg9 2 hpre rfl rfl rfl) ?_
 refine detS 4 rfl ?_
 refine detT 5 rfl (fun W hW => St.run_load hW 2 9 _ rfl Tryz.isAgg9 rfl rfl rfl) ?_
 refine detT (v := .string (x.text ++ c.text)) 6 rfl (fun W hW => by (go_simp; omega)) ?_
 refine detS 7 rfl ?_
 refine det_done (by decide +kernel) ?_
 clear st
 intro W2 st
 generalize hS : x.text ++ c.text = S at *
 replace hS := qh hS
 obtain ⟨mm, hmm⟩ : ∃ mm, mm = S.size - 64 := ⟨_, rfl⟩
 have hw1 : IntKind.i64.wrap ((S.size : Int) - 64) = (S.size : Int) - 64 := IntWalk.i64_in _ (by omega)
 have hml : mm ≤ S.size := by omega
 have h64 : ((if 64 < (S.size : Int) then (S.size : Int) - 64 else 0) : Int) = (mm : Int) := by split <;> omega
 replace hmm := qh hmm
 go_wp2_with (first | go_skip | ((with_reducible refine at_store 9 ?_); refine mem_storeW st 9 _ _ rfl (wanted_none rfl) _ Tryz.sizeOf9 1 ?_; refine ⟨1, _, _, _, _, _, _, _, hpre2, rfl, rfl, rfl, rfl, rfl, rfl, ?_⟩; clear st; intro w8 st hw8m hw8z; simp [Act.eval, Act.put, Value.cells, putL] at st) | (go_at_call 68; go_must (refine (call_no _ _).mono ?_; rintro e vn ⟨rfl, hbn⟩; replace st := st.call hbn; clear hbn)) | (with_reducible refine mS 3 st Tryz.sizeOf35 ?_; clear st; intro w7 st hw7m hw7z))
 have hc := fun j => st.cell (i := 3) rfl j
 refine bodyPost_ret (v := RepV (errR 0)) ?hr rfl ?_
 case hr => simp [results, Tryz.results50, go_sem, hc, RepV, errR]; try rfl
 rw [HE.out]
 refine ⟨rfl, ?_⟩
 have emm : (max 0 ((S.size : Int) - 64)).toNat = mm := by have := hmm.out; omega
 rw [emm] at st
 rw [HKt.out, ← hmm.out]
 have e0 : w7.heap[g]? = w.heap[g]? := by rw [st.blk _ (mgE (i := 0) rfl), hb]; rfl
 have hbm : w.heap[g]? = some (.cells (winC (preC k css m) (thrC y ya yc qa qc (some ⟨gb, off, none⟩) bc2 ma2 mc2) (postC k css m)).toArray 98 (0, 0)) := by rw [← h.cells hm ecy]; exact h.blk
 have hokw : ∀ b, b < w.heap.size → ok b → ((ok b ∨ w.heap.size ≤ b) ∧ b ∉ g :: rows2 (some ⟨gb, off, none⟩) ma2) ∧ w7.heap[b]? = w.heap[b]? := fun b hb ho => by
  refine ⟨⟨.inl ho, fun hm => ?_⟩, (HKp.out _ _ st).block b hb ho⟩
  rcases List.mem_cons.1 hm with rfl | hm
  ·exact hgg ho
  ·exact h.apartAt eBy hm ho
 have hok2 : ∀ cs z, RObj ok w cs z → RObj (fun b => (ok b ∨ w.heap.size ≤ b) ∧ b ∉ g :: rows2 (some ⟨gb, off, none⟩) ma2) w7 cs z := fun cs z r => r.move st.size hokw
 refine h.close (made' := k.made) hm ecy eBy (cs' := thrC y ya yc qa qc (some ⟨gb, off, none⟩) bc2 ma2 mc2) (x' := { y with objects := y.objects.set j ⟨o.label, S.extract mm S.size⟩ }) (B' := rows2 (some ⟨gb, off, none⟩) ma2) (st.wider (by simp [rows2])) (by rw [e0]; exact hbm)
  ⟨ya, yc, qa, qc, some ⟨gb, off, none⟩, bc2, ma2, mc2, by simp [thrC], ⟨hTy.label.move st.size hokw fun _ _ r => r, hTy.own.move st.size hokw fun _ _ r => r, ?_, ?_⟩, rfl⟩ (flatten_nodup (List.nodup_cons.1 h.nodup).2 eBy) fun b hb => .inl hb
 ·refine hTy.objs.set (gEs hoy).1 hok2 (cs' := [.slice la2 o.label.length lc2, .string (S.extract mm S.size)]) ⟨la2, lc2, rfl, hlo.move st.size hokw fun _ _ r => r⟩ rfl (by simp [Value.oneCell']) fun cells hc => ?_
  rw [hb2] at hc
  have hcl : winC pre2 [.slice la2 o.label.length lc2, .string o.text] post2 = cells := by simpa using hc
  rw [← hcl, ← hq.out]
  have := putL_winC (pre := pre2) (win := [.slice la2 o.label.length lc2, .string o.text]) (post := post2) (j := 0) (vs := [.slice la2 o.label.length lc2, .string (S.extract mm S.size)]) hpre2 (by simp)
  rw [Nat.add_zero] at this
  rw [this]
  exact st.blk _ (mgE (i := 1) rfl)
 ·exact hTy.mails.kept (fun b e => st.frame b (hTy.mails.lt e) (by
   simp
   exact ⟨fun e2 => h.gOut eBy (e2 ▸ mem_rows2.2 (.inr e)), fun e2 => h.rowsNe eBy (b := gb) rfl (e2 ▸ e)⟩)) fun _ _ r => r.move st.size hokw
end
section
variable (ok okc : Nat → Prop) (w : World) (g : Nat) (k : Ker) (css : List (List Value)) (Bs : List (List Nat)) (n : Nat) (c : Req) (la : Option Addr) (lc : Nat) (ga : Option Addr) (gc : Nat)
theorem kernel_Call_object_bad (h : KerAt ok w g k css Bs) (hk : ∀ x ∈ k.threads, x.ok) (hn : n < 4) (hx64 : ¬ 64 < c.text.size) (hkd : c.kind = 2) (hll : c.label.length * 16 ≤ 140737488351232) (hcl : SlR okc w 2 RLev la lc c.label) (hgl : goodL c.label = false) :
  Calls Tryz.prog 50 #[.pointer (some ⟨g, 0, none⟩), .int .i64 n, reqV c la lc ga gc] w (CallPost ok w g Bs (callK k n c)) := by
 obtain ⟨x, xa, xc, oa, oc, ba, bc, ma, mc, ex, ec, eB, hT, hb⟩ := h.open hn
 have hx := hk x (mgE ex)
 have hpre := h.preLen hn
 have hth := Ker.thr_at ex
 have st0 := St.hand hb
 unfold thrC at st0
 have d1 : decide ((n : Int) < 0) = false := by simp
 have d2 : decide ((4 : Int) ≤ n) = false := by simp; omega
 have d64 := text_size hx64
 have hgg : ¬ ok g := h.apart g (by simp)
 have HKp := qh (show ∀ (W : World) (bl : Blks), St [g] w W bl → Keeps ok w W from fun W bl s => s.keeps (by simpa using hgg))
 have HB := qh (show ∀ (W : World) (bl : Blks), St [g] w W bl → (g, 98, winC (preC k css n) [.slice xa x.label.length xc, .slice oa x.own.length oc, .string x.text, .slice ba x.objects.length bc, .slice ma x.mails.length mc] (postC k css n)) ∈ bl → Below w.heap.size w W from fun W bl s hm => st0.below2 s (by simpa using hm))
 have hxl := goodL_len hx.good; have hxo := hx.ownL; have hxm := hx.mailN; have hxb := hx.objs; have hxt := hx.text
 have st := st0
 clear st0
 unfold reqV
 have HG := qh (fun (W : World) (hW : Below w.heap.size w W) => label_Good okc W la lc c.label (by omega) (hcl.below hW))
 have HE := qh (show callK k (n : Int) c = (k, errR 2) by unfold callK; simp [hkd, hgl])
 rw [hgl] at HG
 clear hgl
 rw [hkd]
 clear hkd
 go_enter Tryz.func50, Tryz.ntmps50
 go_wp2_with (first | go_skip | (with_reducible refine mX st Tryz.isAgg27 ?_) | (go_at_call 70; go_must (refine (HG.out _ (HB.out _ _ st (by simp))).mono ?_; rintro e vg ⟨rfl, hbg⟩; replace st := st.call hbg; clear hbg)) | (with_reducible refine mB 30 st ?_; clear st; intro g5 w5 hg5 st) | (with_reducible refine mA st Tryz.zeroValue35 ?_; clear st; intro g6 w6 hg6 st) | (with_reducible refine mX st Tryz.isAgg9 ?_) | (with_reducible refine mX st Tryz.isAgg3 ?_) | (go_at_call 68; go_must (refine (call_no _ _).mono ?_; rintro e vn ⟨rfl, hbn⟩; replace st := st.call hbn; clear hbn)) | (with_reducible refine mS 2 st Tryz.sizeOf35 ?_; clear st; intro w7 st hw7m hw7z) | (go_at_call 68; go_must (refine (call_no _ _).mono ?_; rintro e vn ⟨rfl, hbn⟩; replace st := st.call hbn; clear hbn)))
 have hc := fun j => st.cell (i := 2) rfl j
 refine bodyPost_ret (v := RepV (errR 2)) ?hr rfl ?_
 case hr => simp [results, Tryz.results50, go_sem, hc, RepV, errR]; try rfl
 rw [HE.out]
 exact ⟨rfl, KerTo.none h (HB.out _ _ st (by simp))⟩
theorem kernel_Call_object_no (h : KerAt ok w g k css Bs) (hk : ∀ x ∈ k.threads, x.ok) (hn : n < 4) (hx64 : ¬ 64 < c.text.size) (hkd : c.kind = 2) (hll : c.label.length * 16 ≤ 140737488351232) (hcl : SlR okc w 2 RLev la lc c.label) (hgl : goodL c.label = true) (hf : flowsL (k.thr n).label c.label (k.thr n).own = false) :
  Calls Tryz.prog 50 #[.pointer (some ⟨g, 0, none⟩), .int .i64 n, reqV c la lc ga gc] w (CallPost ok w g Bs (callK k n c)) := by
 obtain ⟨x, xa, xc, oa, oc, ba, bc, ma, mc, ex, ec, eB, hT, hb⟩ := h.open hn
 have hx := hk x (mgE ex)
 have hpre := h.preLen hn
 have hth := Ker.thr_at ex
 have st0 := St.hand hb
 unfold thrC at st0
 have d1 : decide ((n : Int) < 0) = false := by simp
 have d2 : decide ((4 : Int) ≤ n) = false := by simp; omega
 have d64 := text_size hx64
 have hgg : ¬ ok g := h.apart g (by simp)
 have HKp := qh (show ∀ (W : World) (bl : Blks), St [g] w W bl → Keeps ok w W from fun W bl s => s.keeps (by simpa using hgg))
 have HB := qh (show ∀ (W : World) (bl : Blks), St [g] w W bl → (g, 98, winC (preC k css n) [.slice xa x.label.length xc, .slice oa x.own.length oc, .string x.text, .slice ba x.objects.length bc, .slice ma x.mails.length mc] (postC k css n)) ∈ bl → Below w.heap.size w W from fun W bl s hm => st0.below2 s (by simpa using hm))
 have hxl := goodL_len hx.good; have hxo := hx.ownL; have hxm := hx.mailN; have hxb := hx.objs; have hxt := hx.text
 have st := st0
 clear st0
 unfold reqV
 have HG := qh (fun (W : World) (hW : Below w.heap.size w W) => label_Good okc W la lc c.label (by omega) (hcl.below hW))
 rw [hth] at hf
 have HE := qh (show callK k (n : Int) c = (k, errR 6) by unfold callK; simp [hkd, hgl, hth, hf])
 have hl8 := goodL_len hgl
 have HF := qh (fun (W : World) (hW : Below w.heap.size w W) => label_Flows (fun _ => True) W xa la oa xc lc oc x.label c.label x.own (by omega) (by omega) ((hT.label.below hW).okay fun _ _ => trivial) ((hcl.below hW).okay fun _ _ => trivial) ((hT.own.below hW).okay fun _ _ => trivial))
 rw [hgl] at HG
 rw [hf] at HF
 clear hgl hf
 rw [hkd]
 clear hkd
 go_enter Tryz.func50, Tryz.ntmps50
 go_wp2_with (first | go_skip | (with_reducible refine mX st Tryz.isAgg27 ?_) | (go_at_call 70; go_must (refine (HG.out _ (HB.out _ _ st (by simp))).mono ?_; rintro e vg ⟨rfl, hbg⟩; replace st := st.call hbg; clear hbg)) | (with_reducible refine mB 30 st ?_; clear st; intro g5 w5 hg5 st) | (with_reducible refine mA st Tryz.zeroValue35 ?_; clear st; intro g6 w6 hg6 st) | (with_reducible refine mX st Tryz.isAgg9 ?_) | (with_reducible refine mX st Tryz.isAgg3 ?_) | (go_at_call 68; go_must (refine (call_no _ _).mono ?_; rintro e vn ⟨rfl, hbn⟩; replace st := st.call hbn; clear hbn)) | (with_reducible refine mS 2 st Tryz.sizeOf35 ?_; clear st; intro w7 st hw7m hw7z))
 refine det_region (by kernel_rfl) 13 rfl (fun W => St [g] w W [(g, 98, winC (preC k css n) [.slice xa x.label.length xc, .slice oa x.own.length oc, .string x.text, .slice ba x.objects.length bc, .slice ma x.mails.length mc] (postC k css n)), (g5, 30, [.int .i64 2, .int .i64 c.h, .int .i64 c.t, .int .i64 c.n, .int .i64 c.c, .slice la c.label.length lc, .slice ga c.grants.length gc, .string c.text]), (g6, 35, [.int .i64 0, .int .i64 0, .string ⟨#[]⟩])]) (st.drew) (by decide +kernel) ?_
 refine detS 0 rfl ?_; refine detS 1 rfl ?_; refine detS 2 rfl ?_
 refine detT 3 rfl (fun W hW => St.run_loadW hW 0 27 _ rfl Tryz.isAgg27 0 hpre rfl rfl rfl) ?_
 refine detS 4 rfl ?_
 refine detT 5 rfl (fun W hW => St.run_load hW 1 27 _ rfl Tryz.isAgg27 rfl rfl rfl) ?_
 refine detS 6 rfl ?_; refine detS 7 rfl ?_; refine detS 8 rfl ?_
 refine detT 9 rfl (fun W hW => St.run_loadW hW 0 28 _ rfl Tryz.isAgg28 1 hpre rfl rfl rfl) ?_
 refine det_call (fn := 27) 10 rfl (by decide +kernel) (by first | exact wanted_none rfl | exact wanted_some rfl rfl) (fun W => by first | (go_simp; done) | (go_simp; rfl)) (fun W hW => (HF.out W (HB.out W _ hW (by simp))).mono fun e w' h => ⟨h.1, hW.call h.2⟩) ?_; simp only [kP, kA, kS, kZ]
 refine detS 11 rfl ?_; refine detS 12 rfl ?_
 refine det_done (by decide +kernel) ?_
 clear st
 intro W st
 go_wp2_with (first | go_skip | (go_at_call 68; go_must (refine (call_no _ _).mono ?_; rintro e vn ⟨rfl, hbn⟩; replace st := st.call hbn; clear hbn)) | (with_reducible refine mS 2 st Tryz.sizeOf35 ?_; clear st; intro w7 st hw7m hw7z))
 have hc := fun j => st.cell (i := 2) rfl j
 refine bodyPost_ret (v := RepV (errR 6)) ?hr rfl ?_
 case hr => simp [results, Tryz.results50, go_sem, hc, RepV, errR]; try rfl
 rw [HE.out]
 exact ⟨rfl, KerTo.none h (HB.out _ _ st (by simp))⟩
theorem kernel_Call_object_full (h : KerAt ok w g k css Bs) (hk : ∀ x ∈ k.threads, x.ok) (hn : n < 4) (hx64 : ¬ 64 < c.text.size) (hkd : c.kind = 2) (hll : c.label.length * 16 ≤ 140737488351232) (hcl : SlR okc w 2 RLev la lc c.label) (hgl : goodL c.label = true) (hf : flowsL (k.thr n).label c.label (k.thr n).own = true) (h4 : 4 ≤ (k.thr n).objects.length) :
  Calls Tryz.prog 50 #[.pointer (some ⟨g, 0, none⟩), .int .i64 n, reqV c la lc ga gc] w (CallPost ok w g Bs (callK k n c)) := by
 obtain ⟨x, xa, xc, oa, oc, ba, bc, ma, mc, ex, ec, eB, hT, hb⟩ := h.open hn
 have hx := hk x (mgE ex)
 have hpre := h.preLen hn
 have hth := Ker.thr_at ex
 have st0 := St.hand hb
 unfold thrC at st0
 have d1 : decide ((n : Int) < 0) = false := by simp
 have d2 : decide ((4 : Int) ≤ n) = false := by simp; omega
 have d64 := text_size hx64
 have hgg : ¬ ok g := h.apart g (by simp)
 have HKp := qh (show ∀ (W : World) (bl : Blks), St [g] w W bl → Keeps ok w W from fun W bl s => s.keeps (by simpa using hgg))
 have HB := qh (show ∀ (W : World) (bl : Blks), St [g] w W bl → (g, 98, winC (preC k css n) [.slice xa x.label.length xc, .slice oa x.own.length oc, .string x.text, .slice ba x.objects.length bc, .slice ma x.mails.length mc] (postC k css n)) ∈ bl → Below w.heap.size w W from fun W bl s hm => st0.below2 s (by simpa using hm))
 have hxl := goodL_len hx.good; have hxo := hx.ownL; have hxm := hx.mailN; have hxb := hx.objs; have hxt := hx.text
 have st := st0
 clear st0
 unfold reqV
 have HG := qh (fun (W : World) (hW : Below w.heap.size w W) => label_Good okc W la lc c.label (by omega) (hcl.below hW))
 rw [hth] at hf h4
 have HE := qh (show callK k (n : Int) c = (k, errR 5) by unfold callK; simp [hkd, hgl, hth, hf, h4])
 have d4 : decide ((4 : Int) ≤ x.objects.length) = true := by simp; omega
 have hl8 := goodL_len hgl
 have HF := qh (fun (W : World) (hW : Below w.heap.size w W) => label_Flows (fun _ => True) W xa la oa xc lc oc x.label c.label x.own (by omega) (by omega) ((hT.label.below hW).okay fun _ _ => trivial) ((hcl.below hW).okay fun _ _ => trivial) ((hT.own.below hW).okay fun _ _ => trivial))
 rw [hgl] at HG
 rw [hf] at HF
 clear hgl hf
 rw [hkd]
 clear hkd
 go_enter Tryz.func50, Tryz.ntmps50
 go_wp2_with (first | go_skip | (with_reducible refine mX st Tryz.isAgg27 ?_) | (go_at_call 70; go_must (refine (HG.out _ (HB.out _ _ st (by simp))).mono ?_; rintro e vg ⟨rfl, hbg⟩; replace st := st.call hbg; clear hbg)) | (with_reducible refine mB 30 st ?_; clear st; intro g5 w5 hg5 st) | (with_reducible refine mA st Tryz.zeroValue35 ?_; clear st; intro g6 w6 hg6 st) | (with_reducible refine mX st Tryz.isAgg9 ?_) | (with_reducible refine mX st Tryz.isAgg3 ?_) | (go_at_call 68; go_must (refine (call_no _ _).mono ?_; rintro e vn ⟨rfl, hbn⟩; replace st := st.call hbn; clear hbn)) | (with_reducible refine mS 2 st Tryz.sizeOf35 ?_; clear st; intro w7 st hw7m hw7z))
 refine det_region (by kernel_rfl) 13 rfl (fun W => St [g] w W [(g, 98, winC (preC k css n) [.slice xa x.label.length xc, .slice oa x.own.length oc, .string x.text, .slice ba x.objects.length bc, .slice ma x.mails.length mc] (postC k css n)), (g5, 30, [.int .i64 2, .int .i64 c.h, .int .i64 c.t, .int .i64 c.n, .int .i64 c.c, .slice la c.label.length lc, .slice ga c.grants.length gc, .string c.text]), (g6, 35, [.int .i64 0, .int .i64 0, .string ⟨#[]⟩])]) (st.drew) (by decide +kernel) ?_
 refine detS 0 rfl ?_; refine detS 1 rfl ?_; refine detS 2 rfl ?_
 refine detT 3 rfl (fun W hW => St.run_loadW hW 0 27 _ rfl Tryz.isAgg27 0 hpre rfl rfl rfl) ?_
 refine detS 4 rfl ?_
 refine detT 5 rfl (fun W hW => St.run_load hW 1 27 _ rfl Tryz.isAgg27 rfl rfl rfl) ?_
 refine detS 6 rfl ?_; refine detS 7 rfl ?_; refine detS 8 rfl ?_
 refine detT 9 rfl (fun W hW => St.run_loadW hW 0 28 _ rfl Tryz.isAgg28 1 hpre rfl rfl rfl) ?_
 refine det_call (fn := 27) 10 rfl (by decide +kernel) (by first | exact wanted_none rfl | exact wanted_some rfl rfl) (fun W => by first | (go_simp; done) | (go_simp; rfl)) (fun W hW => (HF.out W (HB.out W _ hW (by simp))).mono fun e w' h => ⟨h.1, hW.call h.2⟩) ?_; simp only [kP, kA, kS, kZ]
 refine detS 11 rfl ?_; refine detS 12 rfl ?_
 refine det_done (by decide +kernel) ?_
 clear st
 intro W st
 go_wp2_with (first | go_skip | (with_reducible refine at_load 36 ?_; (first | refine mem_loadW st 36 _ rfl (wanted_none rfl) Tryz.isAgg36 3 ?_ | (refine mem_loadW st 36 _ rfl (wanted_some rfl ?_) Tryz.isAgg36 3 ?_; focus (simp [yielded, Act.put]; done))); refine ⟨0, _, _, _, _, _, _, _, hpre, rfl, rfl, rfl, ?_⟩) | (go_at_call 68; go_must (refine (call_no _ _).mono ?_; rintro e vn ⟨rfl, hbn⟩; replace st := st.call hbn; clear hbn)) | (with_reducible refine mS 2 st Tryz.sizeOf35 ?_; clear st; intro w7 st hw7m hw7z))
 have hc := fun j => st.cell (i := 2) rfl j
 refine bodyPost_ret (v := RepV (errR 5)) ?hr rfl ?_
 case hr => simp [results, Tryz.results50, go_sem, hc, RepV, errR]; try rfl
 rw [HE.out]
 exact ⟨rfl, KerTo.none h (HB.out _ _ st (by simp))⟩
end
section
variable (ok okc : Nat → Prop) (w : World) (g : Nat) (k : Ker) (css : List (List Value)) (Bs : List (List Nat)) (n : Nat) (c : Req) (la : Option Addr) (lc : Nat) (ga : Option Addr) (gc : Nat)
theorem kernel_Call_out (h : KerAt ok w g k css Bs) (t : Int) (h4 : four t = false) :
  Calls Tryz.prog 50 #[.pointer (some ⟨g, 0, none⟩), .int .i64 t, reqV c la lc ga gc] w (CallPost ok w g Bs (k, errR 4)) := by
 have st := St.start w
 unfold reqV
 rcases four_no h4 with d | ⟨d0, d⟩
 all_goals
  clear h4
  go_enter Tryz.func50, Tryz.ntmps50
  go_wp2_with (first | go_skip | (with_reducible refine mB 30 st ?_; clear st; intro g5 w5 hg5 st) | (with_reducible refine mA st Tryz.zeroValue35 ?_; clear st; intro g6 w6 hg6 st) | (go_at_call 68; go_must (refine (call_no _ _).mono ?_; rintro e vn ⟨rfl, hbn⟩; replace st := st.call hbn; clear hbn)) | (with_reducible refine mS 1 st Tryz.sizeOf35 ?_; clear st; intro w7 st hw7m hw7z))
  have hc := fun j => st.cell (i := 1) rfl j
  refine bodyPost_ret (v := RepV (errR 4)) ?hr rfl ⟨rfl, KerTo.none h st.below⟩
  case hr => simp [results, Tryz.results50, go_sem, hc, RepV, errR]; try rfl
theorem kernel_Call_long (h : KerAt ok w g k css Bs) (hn : n < 4) (hx64 : 64 < c.text.size) :
  Calls Tryz.prog 50 #[.pointer (some ⟨g, 0, none⟩), .int .i64 n, reqV c la lc ga gc] w (CallPost ok w g Bs (k, errR 9)) := by
 have d1 : decide ((n : Int) < 0) = false := by simp
 have d2 : decide ((4 : Int) ≤ n) = false := by simp; omega
 have d64 : decide (64 < (c.text.size : Int)) = true := by simp; omega
 have st := St.start w
 unfold reqV
 go_enter Tryz.func50, Tryz.ntmps50
 go_wp2_with (first | go_skip | (with_reducible refine mB 30 st ?_; clear st; intro g5 w5 hg5 st) | (with_reducible refine mA st Tryz.zeroValue35 ?_; clear st; intro g6 w6 hg6 st) | (with_reducible refine mX st Tryz.isAgg9 ?_) | (go_at_call 68; go_must (refine (call_no _ _).mono ?_; rintro e vn ⟨rfl, hbn⟩; replace st := st.call hbn; clear hbn)) | (with_reducible refine mS 1 st Tryz.sizeOf35 ?_; clear st; intro w7 st hw7m hw7z))
 have hc := fun j => st.cell (i := 1) rfl j
 refine bodyPost_ret (v := RepV (errR 9)) ?hr rfl ⟨rfl, KerTo.none h st.below⟩
 case hr => simp [results, Tryz.results50, go_sem, hc, RepV, errR]; try rfl
theorem kernel_Call (h : KerAt ok w g k css Bs) (hk : k.ok) (t : Int) (hll : c.label.length * 16 ≤ 140737488351232) (hcl : SlR okc w 2 RLev la lc c.label) :
  Calls Tryz.prog 50 #[.pointer (some ⟨g, 0, none⟩), .int .i64 t, reqV c la lc ga gc] w (CallPost ok w g Bs (stepC k t c)) := by
 unfold stepC
 by_cases h4 : four t = false
 ·rw [if_pos h4]; exact kernel_Call_out ok w g k css Bs c la lc ga gc h t h4
 rw [if_neg h4]
 obtain ⟨n, rfl, hn⟩ := four_nat (by simpa using h4 : four t = true)
 by_cases h64 : 64 < c.text.size
 ·rw [if_pos h64]; exact kernel_Call_long ok w g k css Bs n c la lc ga gc h hn h64
 rw [if_neg h64]
 have ht := hk.thr
 by_cases k1 : c.kind = 1
 ·by_cases hf : 20 ≤ k.made
  ·exact kernel_Call_cat_full ok w g k css Bs n c la lc ga gc h ht hn h64 k1 hk.host.1 hk.host.2 hk.made.1 hk.made.2 hf
  ·by_cases ho : (ownC (k.thr n).own (k.host * 20 + k.made)).2 = 0
   ·exact kernel_Call_cat ok w g k css Bs n c la lc ga gc h ht hn h64 k1 hk.host.1 hk.host.2 hk.made.1 hk.made.2 (by omega) ho
   ·exact kernel_Call_cat_room ok w g k css Bs n c la lc ga gc h ht hn h64 k1 hk.host.1 hk.host.2 hk.made.1 hk.made.2 (by omega) ho
 by_cases k2 : c.kind = 2
 ·by_cases hg : goodL c.label = true
  ·by_cases hf : flowsL (k.thr n).label c.label (k.thr n).own = true
   ·by_cases h5 : (k.thr n).objects.length < 4
    ·exact kernel_Call_object_yes ok okc w g k css Bs n c la lc ga gc h ht hn h64 k2 hll hcl hg hf h5
    ·exact kernel_Call_object_full ok okc w g k css Bs n c la lc ga gc h ht hn h64 k2 hll hcl hg hf (by omega)
   ·exact kernel_Call_object_no ok okc w g k css Bs n c la lc ga gc h ht hn h64 k2 hll hcl hg (by simpa using hf)
  ·exact kernel_Call_object_bad ok okc w g k css Bs n c la lc ga gc h ht hn h64 k2 hll hcl (by simpa using hg)
 by_cases k3 : c.kind = 3
 ·cases ho : k.obj c.t c.n with
  | none => exact kernel_Call_put_none ok w g k css Bs n c la lc ga gc h ht hn h64 k3 ho
  | some o =>
   by_cases hf : flowsL (k.thr n).label o.label (k.thr n).own = true
   ·exact kernel_Call_put_yes ok w g k css Bs n c la lc ga gc h ht hn h64 k3 o ho hf
   ·exact kernel_Call_put_no ok w g k css Bs n c la lc ga gc h ht hn h64 k3 o ho (by simpa using hf)
 by_cases k4 : c.kind = 4
 ·cases ho : k.obj c.t c.n with
  | none => exact kernel_Call_get_none ok w g k css Bs n c la lc ga gc h ht hn h64 k4 ho
  | some o =>
   by_cases hf : flowsL o.label (k.thr n).label (k.thr n).own = true
   ·exact kernel_Call_get_yes ok w g k css Bs n c la lc ga gc h ht hn h64 k4 o ho hf
   ·exact kernel_Call_get_no ok w g k css Bs n c la lc ga gc h ht hn h64 k4 o ho (by simpa using hf)
 by_cases k5 : c.kind = 5
 ·by_cases he : (setR (k.thr n).label c.c c.n).2 = 0
  ·by_cases hf : flowsL (k.thr n).label (setR (k.thr n).label c.c c.n).1 (k.thr n).own = true
   ·exact kernel_Call_level_yes ok w g k css Bs n c la lc ga gc h ht hn h64 k5 he hf
   ·exact kernel_Call_level_low ok w g k css Bs n c la lc ga gc h ht hn h64 k5 he (by simpa using hf)
  ·exact kernel_Call_level_no ok w g k css Bs n c la lc ga gc h ht hn h64 k5 he
 by_cases k7 : c.kind = 7
 ·exact kernel_Call_take ok w g k css Bs n c la lc ga gc h ht hn h64 k7
 by_cases k9 : c.kind = 9
 ·exact kernel_Call_forget ok w g k css Bs n c la lc ga gc h ht hn h64 k9
 by_cases k10 : c.kind = 10
 ·exact kernel_Call_say ok w g k css Bs n c la lc ga gc h ht hn h64 k10
 exact kernel_Call_other ok w g k css Bs n c la lc ga gc h ht hn h64 ⟨k1, k2, k3, k4, k5, k7, k9, k10⟩
end
def zeroLc : List Value := [.int .i64 0, .slice none 0 0, .int .i64 0, .bool false, .bool false, .bool false, .bool false, .bool false, .bool false, .bool false, .bool false]
def zeroLs : List Value := .int .i64 0 :: (List.replicate 4 (.pointer none) ++ (List.replicate 4 (.slice none 0 0) ++ ((List.replicate 16 zeroLc).flatten ++ [.slice none 0 0, .int .i64 0])))
theorem flatRep {cs : List Value} (t : List Value) {j : Nat} (hj : j < cs.length) : ∀ (n i : Nat), i < n → ((List.replicate n cs).flatten ++ t)[i * cs.length + j]? = cs[j]?
 | 0, _, h => by omega
 | n + 1, 0, _ => by
  simp only [List.replicate_succ, List.flatten_cons, List.append_assoc, Nat.zero_mul, Nat.zero_add]
  rw [List.getElem?_append_left hj]
 | n + 1, i + 1, h => by
  simp only [List.replicate_succ, List.flatten_cons, List.append_assoc]
  rw [List.getElem?_append_right (by rw [Nat.succ_mul]; omega), show (i + 1) * cs.length + j - cs.length = i * cs.length + j by rw [Nat.succ_mul]; omega]
  exact flatRep t hj n i (by omega)
theorem zeroLine {i j : Nat} (hi : i < 16) (hj : j < 11) : zeroLs[9 + i * 11 + j]? = zeroLc[j]? := by
 have h1 : zeroLs = (.int .i64 0 :: (List.replicate 4 (.pointer none) ++ List.replicate 4 (.slice none 0 0))) ++ ((List.replicate 16 zeroLc).flatten ++ [.slice none 0 0, .int .i64 0]) := rfl
 rw [h1, List.getElem?_append_right (by simp; omega)]
 have h2 := flatRep (cs := zeroLc) [.slice none 0 0, .int .i64 0] (j := j) hj 16 i hi
 rw [← h2]
 congr 1
 simp only [List.length_cons, List.length_append, List.length_replicate]
 show 9 + i * 11 + j - 9 = i * 11 + j
 omega
theorem Clus.new {w W : World} {gc k0 k1 k2 k3 : Nat} {own : Blks} {L : List Value} (st : St [] w W own) (hc : (gc, 84, L) ∈ own)
  (h0 : (k0, 98, .int .i64 0 :: (([zeroC, zeroC, zeroC, zeroC] : List (List Value)).flatten ++ [.int .i64 0])) ∈ own)
  (h1 : (k1, 98, .int .i64 1 :: (([zeroC, zeroC, zeroC, zeroC] : List (List Value)).flatten ++ [.int .i64 0])) ∈ own)
  (h2 : (k2, 98, .int .i64 2 :: (([zeroC, zeroC, zeroC, zeroC] : List (List Value)).flatten ++ [.int .i64 0])) ∈ own)
  (h3 : (k3, 98, .int .i64 3 :: (([zeroC, zeroC, zeroC, zeroC] : List (List Value)).flatten ++ [.int .i64 0])) ∈ own)
  (hn : [gc, k0, k1, k2, k3].Nodup) (hL : L = putL (putL (putL (putL zeroLs 1 [.pointer (some ⟨k0, 0, none⟩)]) 2 [.pointer (some ⟨k1, 0, none⟩)]) 3 [.pointer (some ⟨k2, 0, none⟩)]) 4 [.pointer (some ⟨k3, 0, none⟩)]) :
  Clus w [] [] (fun b => b < w.heap.size) w (fun _ => True) gc [k0, k1, k2, k3] newC W := by
 have hz : zeroLs.length = 187 := rfl
 have hp : ∀ p, L[p]? = if p = 4 then some (.pointer (some ⟨k3, 0, none⟩)) else if p = 3 then some (.pointer (some ⟨k2, 0, none⟩)) else if p = 2 then some (.pointer (some ⟨k1, 0, none⟩)) else if p = 1 then some (.pointer (some ⟨k0, 0, none⟩)) else zeroLs[p]? := fun p => by
  rw [hL, putL_one (by simp only [putL_length]; omega), putL_one (by simp only [putL_length]; omega), putL_one (by simp only [putL_length]; omega), putL_one (by omega)]
 have hcell : CluL (fun _ => False) W newC [k0, k1, k2, k3] none 0 L := by
  refine ⟨by rw [hL]; simp only [putL_length]; exact hz, by rw [hp]; rfl, fun i g hg => ?_, fun i l hl => ?_, fun i ln hl => ?_, by rw [hp]; rfl, by rw [hp]; rfl, rfl, rfl, by simp [newC]⟩
  ·match i, hg with
   | 0, hg => cases hg; rw [hp]; rfl
   | 1, hg => cases hg; rw [hp]; rfl
   | 2, hg => cases hg; rw [hp]; rfl
   | 3, hg => cases hg; rw [hp]; rfl
   | i + 4, hg => simp at hg
  ·have hnil : RCerts (fun _ => False) W (.slice none 0 0) [] := ⟨none, 0, rfl, SlR.nil _ _ _ _⟩
   match i, hl with
   | 0, hl => cases hl; exact ⟨_, by rw [hp]; rfl, hnil⟩
   | 1, hl => cases hl; exact ⟨_, by rw [hp]; rfl, hnil⟩
   | 2, hl => cases hl; exact ⟨_, by rw [hp]; rfl, hnil⟩
   | 3, hl => cases hl; exact ⟨_, by rw [hp]; rfl, hnil⟩
   | i + 4, hl => simp [newC] at hl
  ·have hi : i < 16 := by have := (gEs hl).1; simpa [newC] using this
   have : ln = zeroL := by
    have h := mgE hl
    exact List.eq_of_mem_replicate h
   subst this
   refine ⟨zeroLc, ⟨none, 0, rfl, SlR.nil _ _ _ _⟩, fun j v hv => ?_⟩
   have hj : j < 11 := (gEs hv).1
   rw [hp, if_neg (by omega), if_neg (by omega), if_neg (by omega), if_neg (by omega), zeroLine hi hj]
   exact hv
 have hmem : ∀ b ∈ cluB gc none [[k0], [k1], [k2], [k3]], b = gc ∨ b = k0 ∨ b = k1 ∨ b = k2 ∨ b = k3 := fun b hb => by simpa [cluB] using hb
 have hmine : ∀ b ∈ cluB gc none [[k0], [k1], [k2], [k3]], w.heap.size ≤ b := fun b hb => by
  have hm : ∀ x ∈ own, w.heap.size ≤ x.1 := fun x hx => (st.mine x hx).resolve_left (by simp)
  rcases hmem b hb with rfl | rfl | rfl | rfl | rfl
  ·exact hm _ hc
  ·exact hm _ h0
  ·exact hm _ h1
  ·exact hm _ h2
  ·exact hm _ h3
 refine ⟨st.sub (by simp) List.Pairwise.nil, newC_ok, ⟨st.size, fun b hb _ => st.frame b hb (by simp)⟩, by simp, fun _ h => h, fun _ => False, [[k0], [k1], [k2], [k3]], none, 0, L, ⟨st.blk _ hc, hcell, rfl, rfl, fun i k g B e1 e2 e3 => ?_, RowAt.nil _ _ _ _, by simpa [cluB] using hn, fun _ _ h => h⟩, fun b hb => ⟨.inr (hmine b hb), by simp, fun hh => ?_⟩, fun b hb => hb.elim⟩
 ·match i, e1, e2, e3 with
  | 0, e1, e2, e3 => cases e1; cases e2; cases e3; exact ⟨_, _, KerAt.new st h0 _ (fun h => h), rfl⟩
  | 1, e1, e2, e3 => cases e1; cases e2; cases e3; exact ⟨_, _, KerAt.new st h1 _ (fun h => h), rfl⟩
  | 2, e1, e2, e3 => cases e1; cases e2; cases e3; exact ⟨_, _, KerAt.new st h2 _ (fun h => h), rfl⟩
  | 3, e1, e2, e3 => cases e1; cases e2; cases e3; exact ⟨_, _, KerAt.new st h3 _ (fun h => h), rfl⟩
  | i + 4, e1, e2, e3 => simp at e2
 ·have := hmine b hb; omega
theorem cluster_NewX (w : World) : Calls Tryz.prog 15 #[] w fun e w' => ∃ gc kg, e = .returned (.pointer (some ⟨gc, 0, none⟩)) ∧ Clus w [] [] (fun b => b < w.heap.size) w (fun _ => True) gc kg newC w' := by
 have st := St.start w
 go_enter Tryz.func15, Tryz.ntmps15
 go_upto_region 2 with (first | go_skip | (with_reducible refine mB 84 st ?_; clear st; intro gc w1 hgc st))
 have hz : zeroLs.length = 187 := rfl
 have st1 : St [] w w1 [(gc, 84, zeroLs)] := st
 clear st
 have st := st1
 clear st1
 clear hgc
 generalize hL0 : zeroLs = L0 at st hz
 go_wp2_with fail
 refine wp_loop_rounds 5 ?_
 rw [rounds_succ]
 go_upto_region 5 with fail
 have hI : True := trivial
 refine lex_region (by kernel_rfl) 11 rfl (fun _ => True) ?_
 refine lexS 0 rfl hI ?_
 refine lexS 1 rfl hI ?_
 refine lexS 2 rfl hI ?_
 refine lexS 7 rfl hI ?_
 refine lexS 8 rfl hI ?_
 refine lexO 3 rfl fun K hK => ?_
 refine wp_callee (f := 33) (by first | (go_simp; done) | (go_simp; rfl)) ?_
 refine (kernel_New _ 0 (by decide) (by decide)).mono ?_
 rintro e v0 ⟨k0, rfl, hk0, stk⟩
 refine ⟨_, rfl, ?_⟩
 replace st := st.drew.join stk
 clear stk
 simp only [List.cons_append, List.nil_append] at st
 refine hK _ _ (trivial) ?_; clear hK; simp only [kP, kA, kS, kZ]
 refine lexS 4 rfl hI ?_
 refine lexS 5 rfl hI ?_
 refine lexS 6 rfl hI ?_
 refine lexS 9 rfl hI ?_
 refine lexO 10 rfl fun K hK => ?_
 refine wp_store st 74 _ _ rfl gc (1 + 0) rfl (.pointer (some ⟨k0, 0, none⟩)) rfl [.pointer (some ⟨k0, 0, none⟩)] rfl Tryz.sizeOf74 (by simp [Value.oneCell']) 0 _ _ rfl (by simp only [putL_length, hz, List.length_cons, List.length_nil]; decide) ?_
 clear st
 intro u0 st m0 z0
 simp only [List.set_cons_zero] at st
 refine hK _ _ (trivial) ?_; clear hK; simp only [kP, kA, kS, kZ]
 refine lex_done (by decide +kernel) ?_
 go_wp2_with fail
 rw [rounds_succ]
 go_upto_region 5 with fail
 have hI : True := trivial
 refine lex_region (by kernel_rfl) 11 rfl (fun _ => True) ?_
 refine lexS 0 rfl hI ?_
 refine lexS 1 rfl hI ?_
 refine lexS 2 rfl hI ?_
 refine lexS 7 rfl hI ?_
 refine lexS 8 rfl hI ?_
 refine lexO 3 rfl fun K hK => ?_
 refine wp_callee (f := 33) (by first | (go_simp; done) | (go_simp; rfl)) ?_
 refine (kernel_New _ 1 (by decide) (by decide)).mono ?_
 rintro e v1 ⟨k1, rfl, hk1, stk⟩
 refine ⟨_, rfl, ?_⟩
 replace st := st.drew.join stk
 clear stk
 simp only [List.cons_append, List.nil_append] at st
 refine hK _ _ (trivial) ?_; clear hK; simp only [kP, kA, kS, kZ]
 refine lexS 4 rfl hI ?_
 refine lexS 5 rfl hI ?_
 refine lexS 6 rfl hI ?_
 refine lexS 9 rfl hI ?_
 refine lexO 10 rfl fun K hK => ?_
 refine wp_store st 74 _ _ rfl gc (1 + 1) rfl (.pointer (some ⟨k1, 0, none⟩)) rfl [.pointer (some ⟨k1, 0, none⟩)] rfl Tryz.sizeOf74 (by simp [Value.oneCell']) 0 _ _ rfl (by simp only [putL_length, hz, List.length_cons, List.length_nil]; decide) ?_
 clear st
 intro u1 st m1 z1
 simp only [List.set_cons_zero] at st
 refine hK _ _ (trivial) ?_; clear hK; simp only [kP, kA, kS, kZ]
 refine lex_done (by decide +kernel) ?_
 go_wp2_with fail
 rw [rounds_succ]
 go_upto_region 5 with fail
 have hI : True := trivial
 refine lex_region (by kernel_rfl) 11 rfl (fun _ => True) ?_
 refine lexS 0 rfl hI ?_
 refine lexS 1 rfl hI ?_
 refine lexS 2 rfl hI ?_
 refine lexS 7 rfl hI ?_
 refine lexS 8 rfl hI ?_
 refine lexO 3 rfl fun K hK => ?_
 refine wp_callee (f := 33) (by first | (go_simp; done) | (go_simp; rfl)) ?_
 refine (kernel_New _ 2 (by decide) (by decide)).mono ?_
 rintro e v2 ⟨k2, rfl, hk2, stk⟩
 refine ⟨_, rfl, ?_⟩
 replace st := st.drew.join stk
 clear stk
 simp only [List.cons_append, List.nil_append] at st
 refine hK _ _ (trivial) ?_; clear hK; simp only [kP, kA, kS, kZ]
 refine lexS 4 rfl hI ?_
 refine lexS 5 rfl hI ?_
 refine lexS 6 rfl hI ?_
 refine lexS 9 rfl hI ?_
 refine lexO 10 rfl fun K hK => ?_
 refine wp_store st 74 _ _ rfl gc (1 + 2) rfl (.pointer (some ⟨k2, 0, none⟩)) rfl [.pointer (some ⟨k2, 0, none⟩)] rfl Tryz.sizeOf74 (by simp [Value.oneCell']) 0 _ _ rfl (by simp only [putL_length, hz, List.length_cons, List.length_nil]; decide) ?_
 clear st
 intro u2 st m2 z2
 simp only [List.set_cons_zero] at st
 refine hK _ _ (trivial) ?_; clear hK; simp only [kP, kA, kS, kZ]
 refine lex_done (by decide +kernel) ?_
 go_wp2_with fail
 rw [rounds_succ]
 go_upto_region 5 with fail
 have hI : True := trivial
 refine lex_region (by kernel_rfl) 11 rfl (fun _ => True) ?_
 refine lexS 0 rfl hI ?_
 refine lexS 1 rfl hI ?_
 refine lexS 2 rfl hI ?_
 refine lexS 7 rfl hI ?_
 refine lexS 8 rfl hI ?_
 refine lexO 3 rfl fun K hK => ?_
 refine wp_callee (f := 33) (by first | (go_simp; done) | (go_simp; rfl)) ?_
 refine (kernel_New _ 3 (by decide) (by decide)).mono ?_
 rintro e v3 ⟨k3, rfl, hk3, stk⟩
 refine ⟨_, rfl, ?_⟩
 replace st := st.drew.join stk
 clear stk
 simp only [List.cons_append, List.nil_append] at st
 refine hK _ _ (trivial) ?_; clear hK; simp only [kP, kA, kS, kZ]
 refine lexS 4 rfl hI ?_
 refine lexS 5 rfl hI ?_
 refine lexS 6 rfl hI ?_
 refine lexS 9 rfl hI ?_
 refine lexO 10 rfl fun K hK => ?_
 refine wp_store st 74 _ _ rfl gc (1 + 3) rfl (.pointer (some ⟨k3, 0, none⟩)) rfl [.pointer (some ⟨k3, 0, none⟩)] rfl Tryz.sizeOf74 (by simp [Value.oneCell']) 0 _ _ rfl (by simp only [putL_length, hz, List.length_cons, List.length_nil]; decide) ?_
 clear st
 intro u3 st m3 z3
 simp only [List.set_cons_zero] at st
 refine hK _ _ (trivial) ?_; clear hK; simp only [kP, kA, kS, kZ]
 refine lex_done (by decide +kernel) ?_
 go_wp2_with fail
 rw [rounds_succ]
 go_wp2_with fail
 go_ret
 refine ⟨gc, _, rfl, Clus.new st (mgE (i := 0) rfl) (mgE (i := 1) rfl) (mgE (i := 2) rfl) (mgE (i := 3) rfl) (mgE (i := 4) rfl) ?_ (by rw [← hL0])⟩
 have := st.ne
 simp only [List.pairwise_cons, List.mem_cons, List.not_mem_nil, or_false, forall_eq_or_imp, forall_eq] at this
 simp [this]
theorem Clus.noX {w0 Wd W : World} {M0 : List Nat} {own : Blks} {X D : Nat → Prop} {gc : Nat} {kg : List Nat} {C : Clu} (h : Clus w0 M0 own X Wd D gc kg C W) : Clus w0 M0 own (fun _ => False) Wd D gc kg C W := by
 obtain ⟨st, hok, hD, hDo, hX, ok, BB, na, nc, L, hA, hB, hO⟩ := h
 exact ⟨st, hok, hD, hDo, fun _ h => h.elim, ok, BB, na, nc, L, hA, hB, fun b hb => ⟨(hO b hb).1, (hO b hb).2.1, fun h => h⟩⟩
theorem cluster_New (w : World) : Calls Tryz.prog 15 #[] w fun e w' => ∃ gc kg, e = .returned (.pointer (some ⟨gc, 0, none⟩)) ∧ Clus w [] [] (fun _ => False) w (fun _ => True) gc kg newC w' :=
 (cluster_NewX w).mono fun _ _ ⟨gc, kg, he, h⟩ => ⟨gc, kg, he, h.noX⟩
theorem top_sameNumbers (ok ok' : Nat → Prop) (w : World) (la : Option Addr) (lc : Nat) (ma : Option Addr) (mc : Nat) (a b : List Int) (hA : SlR ok w 1 RInt la lc a) (hB : SlR ok' w 1 RInt ma mc b) :
  Calls Tryz.prog 20 #[.slice la a.length lc, .slice ma b.length mc] w fun e w' => e = .returned (.bool (decide (a = b))) ∧ Below w.heap.size w w' := by
 have hl : a.length ≤ 9223372036854775807 := by have h1 := hA.1; have h2 := hA.2.1; unfold maxLen at h2; omega
 have hm : b.length ≤ 9223372036854775807 := by have h1 := hB.1; have h2 := hB.2.1; unfold maxLen at h2; omega
 by_cases hn : a.length = b.length
 ·have d1 : (((a.length : Nat) : Int) != ((b.length : Nat) : Int)) = false := by rw [hn]; simp
  have HN := qh hn
  have hlb : a.length ≤ b.length := by omega
  clear hn
  go_enter Tryz.func20, Tryz.ntmps20
  go_wp2
  go_loopw [5] (fun i wr => ∃ k : Nat, k ≤ a.length ∧ i = .int .i64 k ∧ Below w.heap.size w wr ∧ Hid (a.take k = b.take k)) (fun i _ => a.length - (intOf i).toNat)
  case atStart => exact ⟨0, Nat.zero_le _, rfl, Below.refl _ _, rfl⟩
  case round =>
   obtain ⟨k, hk, rfl, hBw, hI⟩ := hrel
   by_cases hlt : k < a.length
   ·have hlt' : k < b.length := by omega
    obtain ⟨b1, o1, rfl, hb1, f1⟩ := (hA.below hBw).int_at k hlt
    obtain ⟨b2, o2, rfl, hb2, g1⟩ := (hB.below hBw).int_at k hlt'
    cases hd : decide (a[k] = b[k])
    all_goals
     have HD := qh hd
     skip
     first | (have hni : (a[k] != b[k]) = true := by simpa using hd) | (have hni : (a[k] != b[k]) = false := by simpa using hd) | skip
     clear hd
     go_wp2
     go_quiet (fail)
     go_wp2
    ·go_ret
     have e : decide (a = b) = false := by simpa using take_ne hlt hlt' (by simpa using HD.out)
     exact ⟨by rw [e]; rfl, hBw.drewN _⟩
    ·have HI := qh (take_eq_succ hlt hlt' hI.out (by simpa using HD.out))
     go_roundw
     case rel => exact ⟨k + 1, hlt, by go_num, hBw.drewN _, HI⟩
     case measure => simp [intOf]; omega
   ·go_wp2
    go_ret
    have e : decide (a = b) = true := by
     have := hI.out
     rw [List.take_of_length_le (by omega), List.take_of_length_le (by have := HN.out; omega)] at this
     simpa using this
    exact ⟨by rw [e]; rfl, hBw⟩
 ·have d1 : (((a.length : Nat) : Int) != ((b.length : Nat) : Int)) = true := by simp; omega
  have e : decide (a = b) = false := by simpa using fun e => hn (by rw [e])
  have HE := qh e
  clear e hn
  go_enter Tryz.func20, Tryz.ntmps20
  go_wp2
  go_ret
  exact ⟨by rw [HE.out]; rfl, Below.refl _ _⟩
theorem top_sameMail (ok ok' : Nat → Prop) (w : World) (m : Mail) (la : Option Addr) (lc : Nat) (ga : Option Addr) (gc : Nat) (la' : Option Addr) (lc' : Nat) (ga' : Option Addr) (gc' : Nat) (h : MailR ok w m la lc ga gc) (h' : MailR ok' w m la' lc' ga' gc') :
  Calls Tryz.prog 42 #[mailV m la lc ga gc, mailV m la' lc' ga' gc'] w fun e w' => e = .returned (.bool true) ∧ Below w.heap.size w w' := by
 unfold mailV
 have st := St.start w
 go_enter Tryz.func42, Tryz.ntmps42
 go_wp2_with (first
  | (refine mem_box st (wanted_none rfl) _ _ rfl _ rfl _ rfl ?_; clear st; intro g wx hgx st hbx; clear hgx hbx; simp [Act.eval, Act.put, Value.cells, putL] at st) | (with_reducible refine at_alloc 42 ?_; refine mem_alloc st (wanted_none rfl) 42 rfl _ Tryz.zeroValue42 _ rfl ?_; clear st; intro g wx hgx st hbx; clear hgx hbx; simp [Act.eval, Act.put, Value.cells, putL] at st) | (with_reducible refine at_alloc 3 ?_; refine mem_alloc st (wanted_none rfl) 3 rfl _ Tryz.zeroValue3 _ rfl ?_; clear st; intro g wx hgx st hbx; clear hgx hbx; simp [Act.eval, Act.put, Value.cells, putL] at st) | (with_reducible refine at_alloc 9 ?_; refine mem_alloc st (wanted_none rfl) 9 rfl _ Tryz.zeroValue9 _ rfl ?_; clear st; intro g wx hgx st hbx; clear hgx hbx; simp [Act.eval, Act.put, Value.cells, putL] at st) | (with_reducible refine at_alloc 27 ?_; refine mem_alloc st (wanted_none rfl) 27 rfl _ Tryz.zeroValue27 _ rfl ?_; clear st; intro g wx hgx st hbx; clear hgx hbx; simp [Act.eval, Act.put, Value.cells, putL] at st) | (with_reducible refine at_alloc 28 ?_; refine mem_alloc st (wanted_none rfl) 28 rfl _ Tryz.zeroValue28 _ rfl ?_; clear st; intro g wx hgx st hbx; clear hgx hbx; simp [Act.eval, Act.put, Value.cells, putL] at st) | (with_reducible refine mXA st Tryz.isAgg42 Tryz.sizeOf42 ?_) | (with_reducible refine mX st Tryz.isAgg3 ?_) | (with_reducible refine mX st Tryz.isAgg9 ?_) | (with_reducible refine mX st Tryz.isAgg27 ?_) | (with_reducible refine mX st Tryz.isAgg28 ?_) | (with_reducible refine mSX st Tryz.sizeOf42 ?_; clear st; intro wx st _ _) | (with_reducible refine mSX st Tryz.sizeOf3 ?_; clear st; intro wx st _ _) | (with_reducible refine mSX st Tryz.sizeOf9 ?_; clear st; intro wx st _ _) | (with_reducible refine mSX st Tryz.sizeOf27 ?_; clear st; intro wx st _ _) | (with_reducible refine mSX st Tryz.sizeOf28 ?_; clear st; intro wx st _ _)
  | (go_at_call 19; refine (label_Same ok ok' _ _ _ _ _ _ _ (h.label.below st.below) (h'.label.below st.below)).mono ?_; rintro r v1 ⟨rfl, hb1⟩; replace st := st.call hb1; clear hb1)
  | (go_at_call 20; refine (top_sameNumbers ok ok' _ _ _ _ _ _ _ (h.grants.below st.below) (h'.grants.below st.below)).mono ?_; rintro r v1 ⟨rfl, hb1⟩; replace st := st.call hb1; clear hb1))
 go_ret
 exact ⟨by simp, st.below⟩
theorem top_sameThread (okA okB : Nat → Prop) (w : World) (x : Thr) (aa1 : Option Addr) (ac1 : Nat) (aa2 : Option Addr) (ac2 : Nat) (aa3 : Option Addr) (ac3 : Nat) (aa4 : Option Addr) (ac4 : Nat) (ba1 : Option Addr) (bc1 : Nat) (ba2 : Option Addr) (bc2 : Nat) (ba3 : Option Addr) (bc3 : Nat) (ba4 : Option Addr) (bc4 : Nat)
  (hA : ThrS okA w x aa1 ac1 aa2 ac2 aa3 ac3 aa4 ac4) (hB : ThrS okB w x ba1 bc1 ba2 bc2 ba3 bc3 ba4 bc4) :
  Calls Tryz.prog 28 #[thrV x aa1 ac1 aa2 ac2 aa3 ac3 aa4 ac4, thrV x ba1 bc1 ba2 bc2 ba3 bc3 ba4 bc4] w fun e w' => e = .returned (.bool true) ∧ Below w.heap.size w w' := by
 have ho : x.objects.length ≤ 9223372036854775807 := by have h1 := hA.objs.1; have h2 := hA.objs.2.1; unfold maxLen at h2; omega
 have hm : x.mails.length ≤ 9223372036854775807 := by have h1 := hA.mails.1; have h2 := hA.mails.2.1; unfold maxLen at h2; omega
 have HS := qh (fun (V : World) (h : Below w.heap.size w V) => (label_Same okA okB V aa1 ac1 ba1 bc1 x.label x.label (hA.label.below h) (hB.label.below h)).mono (R' := fun e w' => e = .returned (.bool true) ∧ Below V.heap.size V w') (by rintro e w' ⟨rfl, h⟩; simp [h]))
 have HN := qh (fun (V : World) (h : Below w.heap.size w V) => (top_sameNumbers okA okB V aa2 ac2 ba2 bc2 x.own x.own (hA.own.below h) (hB.own.below h)).mono (R' := fun e w' => e = .returned (.bool true) ∧ Below V.heap.size V w') (by rintro e w' ⟨rfl, h⟩; simp [h]))
 have HA := qh (fun (V : World) (h : Below w.heap.size w V) => hA.below h)
 have HB := qh (fun (V : World) (h : Below w.heap.size w V) => hB.below h)
 clear hA hB
 have st := St.start w
 have dt : (x.text.toList != x.text.toList) = false := by simp
 have d1 : (((x.objects.length : Nat) : Int) != ((x.objects.length : Nat) : Int)) = false := by simp
 have d2 : (((x.mails.length : Nat) : Int) != ((x.mails.length : Nat) : Int)) = false := by simp
 unfold thrV
 have tk := trivial
 go_enter Tryz.func28, Tryz.ntmps28
 go_wp2_with (first
  | go_skip | (clear tk; (with_reducible refine mB 39 st ?_; clear st; intro g2 w2 hg2 st)) | (with_reducible refine mB 39 st ?_; clear st; intro g3 w3 hg3 st) | (with_reducible refine mX st Tryz.isAgg27 ?_) | (with_reducible refine mX st Tryz.isAgg28 ?_) | (with_reducible refine mX st Tryz.isAgg9 ?_) | (with_reducible refine mX st Tryz.isAgg36 ?_) | (with_reducible refine mX st Tryz.isAgg37 ?_)
  | (go_at_call 19; go_must (refine (HS.out _ st.below).mono ?_; rintro e v1 ⟨rfl, hb1⟩; replace st := st.call hb1; clear hb1))
  | (go_at_call 20; go_must (refine (HN.out _ st.below).mono ?_; rintro e v2 ⟨rfl, hb2⟩; replace st := st.call hb2; clear hb2)))
 clear dt d1 d2
 go_loopw [49] (fun v49 wr => ∃ k : Nat, k ≤ x.objects.length ∧ v49 = .int .i64 k ∧ St [] w wr [(g2, 39, [.slice aa1 x.label.length ac1, .slice aa2 x.own.length ac2, .string x.text, .slice aa3 x.objects.length ac3, .slice aa4 x.mails.length ac4]), (g3, 39, [.slice ba1 x.label.length bc1, .slice ba2 x.own.length bc2, .string x.text, .slice ba3 x.objects.length bc3, .slice ba4 x.mails.length bc4])]) (fun v49 _ => x.objects.length - (intOf v49).toNat)
 case atStart => exact ⟨0, Nat.zero_le _, rfl, st⟩
 case round =>
  clear st
  obtain ⟨k, hk, rfl, st⟩ := hrel
  by_cases hlt : k < x.objects.length
  case pos =>
   have d3 : decide ((k : Int) < x.objects.length) = true := by simp; omega
   obtain ⟨b1, o1, l1, k1, e1, -, hb1, hA1, hC1⟩ := (HA.out _ (Below.refl _ _)).objs.obj_at k hlt
   obtain ⟨b2, o2, l2, k2, e2, -, hb2, hA2, hC2⟩ := (HB.out _ (Below.refl _ _)).objs.obj_at k hlt
   generalize x.objects[k] = p at hA1 hC1 hA2 hC2
   obtain ⟨pl, pt⟩ := p
   dsimp only at hA1 hC1 hA2 hC2
   have HC1 := qh (show ∀ V, Below w.heap.size w V → ∀ (i : Nat) (v : Value), [Value.slice l1 pl.length k1, .string pt][i]? = some v → V.cell? ⟨b1, o1 + k * 2 + i, none⟩ = some v from fun V h i v hv => (h.cell (p := ⟨b1, o1 + k * 2 + i, none⟩) hb1).trans (hC1 i v hv))
   have HC2 := qh (show ∀ V, Below w.heap.size w V → ∀ (i : Nat) (v : Value), [Value.slice l2 pl.length k2, .string pt][i]? = some v → V.cell? ⟨b2, o2 + k * 2 + i, none⟩ = some v from fun V h i v hv => (h.cell (p := ⟨b2, o2 + k * 2 + i, none⟩) hb2).trans (hC2 i v hv))
   have HSo := qh (fun (V : World) (h : Below w.heap.size w V) => (label_Same (fun _ => True) (fun _ => True) V l1 k1 l2 k2 pl pl ((hA1.below h).okay fun _ _ => trivial) ((hA2.below h).okay fun _ _ => trivial)).mono (R' := fun e w' => e = .returned (.bool true) ∧ Below V.heap.size V w') (by rintro e w' ⟨rfl, h⟩; simp [h]))
   have dt : (pt.toList != pt.toList) = false := by simp
   clear hA1 hA2 hC1 hC2
   subst e1 e2
   go_upto_region 6 with (first | go_skip | fail)
   try simp only [kP, kA, kS, kZ]
   refine det_region (by kernel_rfl) 29 rfl (fun V => St [] w V [(g2, 39, [.slice aa1 x.label.length ac1, .slice aa2 x.own.length ac2, .string x.text, .slice (some ⟨b1, o1, none⟩) x.objects.length ac3, .slice aa4 x.mails.length ac4]), (g3, 39, [.slice ba1 x.label.length bc1, .slice ba2 x.own.length bc2, .string x.text, .slice (some ⟨b2, o2, none⟩) x.objects.length bc3, .slice ba4 x.mails.length bc4])]) (st.drew) (by decide +kernel) ?_
   refine detS 0 rfl ?_
   refine detT 1 rfl (fun W hW => St.run_load hW 0 36 _ rfl Tryz.isAgg36 rfl rfl rfl) ?_
   refine detS 2 rfl ?_
   refine detT (v := .pointer (some ⟨b1, o1 + k * 2, none⟩)) 3 rfl (fun W hW => by (first | (go_simp; done) | (go_simp; omega) | (go_simp; intro h; omega))) ?_
   refine detT (v := .pointer (some ⟨b1, o1 + k * 2 + 1, none⟩)) 4 rfl (fun W hW => by (first | (go_simp; done) | (go_simp; omega) | (go_simp; intro h; omega))) ?_
   refine detT 5 rfl (fun U hU => run_cell_one 9 _ rfl Tryz.isAgg9 b1 (o1 + k * 2 + 1) rfl _ (HC1.out U hU.below 1 _ rfl)) ?_
   refine detS 6 rfl ?_
   refine detT 7 rfl (fun W hW => St.run_load hW 1 36 _ rfl Tryz.isAgg36 rfl rfl rfl) ?_
   refine detS 8 rfl ?_
   refine detT (v := .pointer (some ⟨b2, o2 + k * 2, none⟩)) 9 rfl (fun W hW => by (first | (go_simp; done) | (go_simp; omega) | (go_simp; intro h; omega))) ?_
   refine detT (v := .pointer (some ⟨b2, o2 + k * 2 + 1, none⟩)) 10 rfl (fun W hW => by (first | (go_simp; done) | (go_simp; omega) | (go_simp; intro h; omega))) ?_
   refine detT 11 rfl (fun U hU => run_cell_one 9 _ rfl Tryz.isAgg9 b2 (o2 + k * 2 + 1) rfl _ (HC2.out U hU.below 1 _ rfl)) ?_
   refine detT (v := .bool false) 12 rfl (fun W hW => by (first | (go_simp; done) | (go_simp; exact dt) | (go_simp; rfl))) ?_
   refine detS 13 rfl ?_; refine detS 14 rfl ?_
   refine detT 15 rfl (fun W hW => St.run_load hW 0 36 _ rfl Tryz.isAgg36 rfl rfl rfl) ?_
   refine detS 16 rfl ?_
   refine detT (v := .pointer (some ⟨b1, o1 + k * 2, none⟩)) 17 rfl (fun W hW => by (first | (go_simp; done) | (go_simp; omega) | (go_simp; intro h; omega))) ?_
   refine detS 18 rfl ?_
   refine detT 19 rfl (fun U hU => run_cell_one 27 _ rfl Tryz.isAgg27 b1 (o1 + k * 2) rfl _ (HC1.out U hU.below 0 _ rfl)) ?_
   refine detS 20 rfl ?_
   refine detT 21 rfl (fun W hW => St.run_load hW 1 36 _ rfl Tryz.isAgg36 rfl rfl rfl) ?_
   refine detS 22 rfl ?_
   refine detT (v := .pointer (some ⟨b2, o2 + k * 2, none⟩)) 23 rfl (fun W hW => by (first | (go_simp; done) | (go_simp; omega) | (go_simp; intro h; omega))) ?_
   refine detS 24 rfl ?_
   refine detT 25 rfl (fun U hU => run_cell_one 27 _ rfl Tryz.isAgg27 b2 (o2 + k * 2) rfl _ (HC2.out U hU.below 0 _ rfl)) ?_
   refine det_call (fn := 19) 26 rfl (by decide +kernel) (by first | exact wanted_none rfl | exact wanted_some rfl rfl) (fun W => by first | (go_simp; done) | (go_simp; rfl)) (fun W hW => (HSo.out W hW.below).mono fun e w' he => ⟨he.1, hW.call he.2⟩) ?_; simp only [kP, kA, kS, kZ]
   refine detS 27 rfl ?_; refine detS 28 rfl ?_
   refine det_done (by decide +kernel) ?_
   clear st
   intro U st
   go_wp2_with (first | go_skip | fail)
   go_roundw
   case rel => exact ⟨k + 1, hlt, by go_num, st⟩
   case measure => simp [intOf] <;> omega
  case neg =>
   have d3 : decide ((k : Int) < x.objects.length) = false := by simp; omega
   go_wp2_with (first | go_skip | (with_reducible refine mX st Tryz.isAgg37 ?_))
   go_loopw [85] (fun v85 wr => ∃ k : Nat, k ≤ x.mails.length ∧ v85 = .int .i64 k ∧ St [] w wr [(g2, 39, [.slice aa1 x.label.length ac1, .slice aa2 x.own.length ac2, .string x.text, .slice aa3 x.objects.length ac3, .slice aa4 x.mails.length ac4]), (g3, 39, [.slice ba1 x.label.length bc1, .slice ba2 x.own.length bc2, .string x.text, .slice ba3 x.objects.length bc3, .slice ba4 x.mails.length bc4])]) (fun v85 _ => x.mails.length - (intOf v85).toNat)
   case atStart => exact ⟨0, Nat.zero_le _, rfl, st⟩
   case round =>
    clear st d3 hlt hk
    obtain ⟨wq, rfl⟩ : ∃ V, V = wr := ⟨_, rfl⟩
    obtain ⟨j, hj, rfl, st⟩ := hrel
    by_cases hlt : j < x.mails.length
    case neg =>
     have d4 : decide ((j : Int) < x.mails.length) = false := by simp; omega
     go_wp2_with (first | go_skip | fail)
     go_ret
     exact ⟨rfl, st.below⟩
    case pos =>
     have d4 : decide ((j : Int) < x.mails.length) = true := by simp; omega
     obtain ⟨b1, o1, l1, k1, n1, m1, e1, -, hb1, hA1, hG1, hC1⟩ := (HA.out _ (Below.refl _ _)).mails.mail_at j hlt
     obtain ⟨b2, o2, l2, k2, n2, m2, e2, -, hb2, hA2, hG2, hC2⟩ := (HB.out _ (Below.refl _ _)).mails.mail_at j hlt
     generalize x.mails[j] = p at hA1 hG1 hC1 hA2 hG2 hC2
     obtain ⟨ph, pth, pl, pg, pt⟩ := p
     dsimp only at hA1 hG1 hC1 hA2 hG2 hC2
     have HC1 := qh (show ∀ V, Below w.heap.size w V → ∀ (i : Nat) (v : Value), [Value.int .i64 ph, .int .i64 pth, .slice l1 pl.length k1, .slice n1 pg.length m1, .string pt][i]? = some v → V.cell? ⟨b1, o1 + j * 5 + i, none⟩ = some v from fun V h i v hv => (h.cell (p := ⟨b1, o1 + j * 5 + i, none⟩) hb1).trans (hC1 i v hv))
     have HC2 := qh (show ∀ V, Below w.heap.size w V → ∀ (i : Nat) (v : Value), [Value.int .i64 ph, .int .i64 pth, .slice l2 pl.length k2, .slice n2 pg.length m2, .string pt][i]? = some v → V.cell? ⟨b2, o2 + j * 5 + i, none⟩ = some v from fun V h i v hv => (h.cell (p := ⟨b2, o2 + j * 5 + i, none⟩) hb2).trans (hC2 i v hv))
     have HSm := qh (fun (V : World) (h : Below w.heap.size w V) => top_sameMail (fun _ => True) (fun _ => True) V ⟨ph, pth, pl, pg, pt⟩ l1 k1 n1 m1 l2 k2 n2 m2 ⟨(hA1.below h).okay fun _ _ => trivial, (hG1.below h).okay fun _ _ => trivial⟩ ⟨(hA2.below h).okay fun _ _ => trivial, (hG2.below h).okay fun _ _ => trivial⟩)
     unfold mailV at HSm
     dsimp only at HSm
     clear hA1 hA2 hG1 hG2 hC1 hC2
     subst e1 e2
     go_upto_region 12 with (first | go_skip | fail)
     try simp only [kP, kA, kS, kZ]
     refine det_region (by kernel_rfl) 12 rfl (fun V => St [] w V [(g2, 39, [.slice aa1 x.label.length ac1, .slice aa2 x.own.length ac2, .string x.text, .slice aa3 x.objects.length ac3, .slice (some ⟨b1, o1, none⟩) x.mails.length ac4]), (g3, 39, [.slice ba1 x.label.length bc1, .slice ba2 x.own.length bc2, .string x.text, .slice ba3 x.objects.length bc3, .slice (some ⟨b2, o2, none⟩) x.mails.length bc4])]) (st.drew) (by decide +kernel) ?_
     refine detS 0 rfl ?_
     refine detT 1 rfl (fun W hW => St.run_load hW 0 37 _ rfl Tryz.isAgg37 rfl rfl rfl) ?_
     refine detS 2 rfl ?_
     refine detT (v := .pointer (some ⟨b1, o1 + j * 5, none⟩)) 3 rfl (fun W hW => by (first | (go_simp; done) | (go_simp; omega) | (go_simp; intro h; omega))) ?_
     refine detT 4 rfl (fun U hU => run_load_at 42 _ rfl Tryz.isAgg42 _ Tryz.sizeOf42 b1 (o1 + j * 5) rfl [.int .i64 ph, .int .i64 pth, .slice l1 pl.length k1, .slice n1 pg.length m1, .string pt] rfl (HC1.out U hU.below)) ?_
     refine detS 5 rfl ?_
     refine detT 6 rfl (fun W hW => St.run_load hW 1 37 _ rfl Tryz.isAgg37 rfl rfl rfl) ?_
     refine detS 7 rfl ?_
     refine detT (v := .pointer (some ⟨b2, o2 + j * 5, none⟩)) 8 rfl (fun W hW => by (first | (go_simp; done) | (go_simp; omega) | (go_simp; intro h; omega))) ?_
     refine detT 9 rfl (fun U hU => run_load_at 42 _ rfl Tryz.isAgg42 _ Tryz.sizeOf42 b2 (o2 + j * 5) rfl [.int .i64 ph, .int .i64 pth, .slice l2 pl.length k2, .slice n2 pg.length m2, .string pt] rfl (HC2.out U hU.below)) ?_
     refine det_call (fn := 42) 10 rfl (by decide +kernel) (by first | exact wanted_none rfl | exact wanted_some rfl rfl) (fun W => by first | (go_simp; done) | (go_simp; rfl)) (fun W hW => (HSm.out W hW.below).mono fun e w' he => ⟨he.1, hW.call he.2⟩) ?_; simp only [kP, kA, kS, kZ]
     refine detS 11 rfl ?_
     refine det_done (by decide +kernel) ?_
     clear st
     intro U st
     go_wp2_with (first | go_skip | fail)
     go_roundw
     case rel => exact ⟨j + 1, hlt, by go_num, st⟩
     case measure => simp [intOf] <;> omega
section
variable {w0 Wd W : World} {M0 : List Nat} {own : Blks} {X D : Nat → Prop} {gc : Nat} {kg : List Nat} {C : Clu}
def thrC2 (C : Clu) (h t : Int) : Thr := if four h = true then thrOf (C.ker h) t else zeroT
theorem cluster_Thread (P : Clus w0 M0 own X Wd D gc kg C W) (h t : Int) : Calls Tryz.prog 11 #[.pointer (some ⟨gc, 0, none⟩), .int .i64 h, .int .i64 t] W (ThreadPost W (thrC2 C h t)) := by
 have st := St.start W
 unfold thrC2
 by_cases h4 : four h = true
 case neg =>
  rw [if_neg h4]
  clear P
  rcases four_no (by simpa using h4) with d | ⟨d0, d⟩
  all_goals
   clear h4
   go_enter Tryz.func11, Tryz.ntmps11
   go_wp2_with (first | go_skip | (with_reducible refine mA st Tryz.zeroValue39 ?_; clear st; intro g1 w1 hg1 st) | (with_reducible refine mS 0 st Tryz.sizeOf39 ?_; clear st; intro w2 st hw2m hw2z))
   have hc := fun j => st.cell (i := 0) rfl j
   refine bodyPost_ret (v := thrV zeroT none 0 none 0 none 0 none 0) ?hr rfl ⟨none, 0, none, 0, none, 0, none, 0, rfl, st.below, ThrS.zero _ _⟩
   case hr => simp [results, Tryz.results11, go_sem, hc, thrV, zeroT]; try rfl
 rw [if_pos h4]
 obtain ⟨n, rfl, hn⟩ := four_nat h4
 obtain ⟨k, ek, e1, hk, hkh⟩ := P.okC.kerAt hn
 obtain ⟨ok, BB, na, nc, L, hA, -, -, -⟩ := P.open
 obtain ⟨k', g, css, Bs, ek', eg, eB, hK, ep⟩ := hA.kerAt hn
 rw [ek] at ek'
 cases ek'
 rw [e1]
 have f0 := hA.cell ep
 have hgl := (Array.getElem?_eq_some_iff.1 hA.blk).1
 have HT := qh (fun (V : World) (hV : Below W.heap.size W V) => kernel_Thread ok V g k css Bs (hK.below hV) hk.thr t)
 have HC := qh (fun (V : World) (hV : Below W.heap.size W V) => (hV.cell (p := ⟨gc, 1 + n, none⟩) hgl).trans f0)
 have d1 : decide ((n : Int) < 0) = false := by simp
 have d2 : decide ((4 : Int) ≤ n) = false := by simp; omega
 clear hA P hK h4 ek eg eB ep e1 f0
 go_enter Tryz.func11, Tryz.ntmps11
 go_upto_region 3 with (first | go_skip | (with_reducible refine mA st Tryz.zeroValue39 ?_; clear st; intro g1 w1 hg1 st))
 have f1 := HC.out _ st.below
 go_wp2_with (first
  | go_skip
  | (go_at_call 31; go_must (have hl1 := st.ltAt (i := 0) rfl; have hz0 := st.size; refine (HT.out _ st.below).mono ?_; rintro e v3 ⟨la, lc, oa, oc, ba, bc, ma, mc, rfl, hb3, hT⟩; replace st := st.call hb3; have hz1 := hb3.size; unfold thrV))
  | (with_reducible refine mS 0 st Tryz.sizeOf39 ?_; clear st; intro w4 st hw4m hw4z))
 have hc := fun j => st.cell (i := 0) rfl j
 have hg1w := st.ltAt (i := 0) rfl
 refine bodyPost_ret (v := thrV (thrOf k t) la lc oa oc ba bc ma mc) ?hr rfl ⟨la, lc, oa, oc, ba, bc, ma, mc, rfl, st.below, ?_⟩
 case hr => simp [results, Tryz.results11, go_sem, hc, thrV]; try rfl
 exact hT.move (by omega) fun b hb ho => ⟨by omega, hw4m b (by omega)⟩
end
end Go.Proofs.YtnjjdpiofbajlaaGreat
