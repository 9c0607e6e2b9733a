/- Walks and plain laws that the claim rests on, part 38. -/
import Derived.Test.YtflfjpopfapogaaP34
import Derived.Test.YtflfjpopfapogaaP35
import Derived.Test.YtflfjpopfapogaaP37
import Derived.Test.YtflfjpopfapogaaP4
set_option linter.unusedSimpArgs false
set_option linter.unusedVariables false
namespace Go.Proofs.Ytflfjpopfapogaa
open Go.RowKit
def okG (D : Nat → Prop) (W : World) (own : List Nat) (new : Bool) (b : Nat) : Prop := ((new = false ∧ D b) ∨ W.heap.size ≤ b) ∧ b ∉ own
def ThrB (D : Nat → Prop) (W : World) (own : List Nat) (V : World) (cs : List Value) (x : Bool × Thr) : Prop := ThrC (okG D W own x.1) V cs x.2
theorem Rec.toMap {α β : Type} {sz : Nat} {R : List Value → β → Prop} {cs : List Value} {xs : List α} {f : α → β} (h : Rec sz (fun c x => R c (f x)) cs xs) : Rec sz R cs (xs.map f) := by
 obtain ⟨css, h1, h2, h3, h4⟩ := h
 refine ⟨css, h1, by simpa using h2, h3, fun i x c hx hc => ?_⟩
 rw [List.getElem?_map] at hx
 cases e : xs[i]? with
 | none => rw [e] at hx; simp at hx
 | some y => rw [e] at hx; cases hx; exact h4 i y c e hc
theorem Rec.ofMap {α β : Type} {sz : Nat} {R : List Value → β → Prop} {cs : List Value} {xs : List α} {f : α → β} (h : Rec sz R cs (xs.map f)) : Rec sz (fun c x => R c (f x)) cs xs := by
 obtain ⟨css, h1, h2, h3, h4⟩ := h
 exact ⟨css, h1, by simpa using h2, h3, fun i x c hx hc => h4 i (f x) c (by rw [List.getElem?_map, hx]; rfl) hc⟩
def GrantJ (gW : Nat) (C : Clu) (bl : Blks) (V : World) (D : Nat → Prop) : Prop :=
 ∃ cw, bl = [(gW, 31, cw)] ∧ (∀ b, D b → b ≠ gW) ∧ Rec 5 (ThrC D V) cw (thrsOf C)
set_option maxRecDepth 100000 in
set_option maxHeartbeats 8000000 in
theorem look_granted {w0 : World} {gW : Nat} {C C' : Clu} {a : Deed} {r : Rep} (hC : ∀ h t : Nat, h < 4 → t < 4 → Grant C a r h t (C.thr h t) (C'.thr h t)) (hokC : C.ok)
  (gc : Nat) (kg : List Nat) (W Wd : World) (bl : Blks) (D : Nat → Prop) (la : Option Addr) (lc : Nat) (ga : Option Addr) (gx : Nat)
  (P : Clus w0 [gW] bl (fun _ => False) Wd D gc kg C' W) (J : GrantJ gW C bl W D) :
  Calls Try.prog 7 #[.pointer (some ⟨gc, 0, none⟩), deedV a la lc ga gx, RepV r, .pointer (some ⟨gW, 0, none⟩)] W fun e W' => e = .returned (.bool true) ∧ ∃ bl' D', Clus w0 [gW] bl' (fun _ => False) W' D' gc kg C' W' ∧ GrantJ gW C' bl' W' D' := by
 obtain ⟨cw, rfl, hDW, hRec⟩ := J
 have HC := Lib.hid hC
 have hokC' := P.okC
 have HX := Lib.hid (fun (h t : Nat) (hh : h < 4) (ht : t < 4) => (show (C.thr h t).ok from by
  obtain ⟨k, ek, e2, hk, hkh⟩ := hokC.kerAt hh
  unfold Clu.thr; rw [e2]; exact hk.at t))
 have HY := Lib.hid (fun (h t : Nat) (hh : h < 4) (ht : t < 4) => (show (C'.thr h t).ok from by
  obtain ⟨k, ek, e2, hk, hkh⟩ := hokC'.kerAt hh
  unfold Clu.thr; rw [e2]; exact hk.at t))
 have HP := Lib.hid P
 have st := P.st.rebase
 simp only [List.map_cons, List.map_nil] at st
 have hgW := st.ltAt (i := 0) rfl
 clear P hC hokC hokC'
 obtain ⟨ak, ah, at', an, ck, ch, ct, cn, cc, cl, cg, cx⟩ := a
 obtain ⟨rc, rn, rt⟩ := r
 unfold deedV RepV
 dsimp only
 go_enter Try.func7, Try.ntmps7
 go_upto_region 1 with (first | go_skip | (with_reducible refine mB 38 st ?_; clear st; intro g5 w5 hg5 st) | (with_reducible refine mB 41 st ?_; clear st; intro g6 w6 hg6 st))
 have st0 := st
 have q5 : W.heap.size ≤ g5 := by
  rcases (by simpa using st.mine _ (List.mem_of_getElem? (i := 1) rfl) : g5 = gW ∨ W.heap.size ≤ g5) with h | h <;> omega
 have q6 : W.heap.size ≤ g6 := by
  rcases (by simpa using st.mine _ (List.mem_of_getElem? (i := 2) rfl) : g6 = gW ∨ W.heap.size ≤ g6) with h | h <;> omega
 have hRec0 : Rec 5 (ThrB D W [gW, g5, g6] w6) cw (thrsMix C C' 0) := by
  rw [thrsMix_zero]
  refine Rec.toMap (hRec.mono fun c x h => (show ThrC (okG D W [gW, g5, g6] false) w6 c x from h.move st.size fun b hb ho => ⟨⟨.inl ⟨rfl, ho⟩, ?_⟩, st.frame b hb (by simpa using hDW b ho)⟩))
  have := hDW b ho
  simp; omega
 have hg5l := st.ltAt (i := 1) rfl
 have hg6l := st.ltAt (i := 2) rfl
 clear hRec hDW
 go_wp2_with (first | go_skip | fail)
 go_loopw [21] (fun v21 wr => ∃ (h : Nat) (cw : List Value), h ≤ 4 ∧ v21 = .int .i64 h ∧ St [gW] W wr [(gW, 31, cw), (g5, 38, [.int .i64 ak, .int .i64 ah, .int .i64 at', .int .i64 an, .int .i64 ck, .int .i64 ch, .int .i64 ct, .int .i64 cn, .int .i64 cc, .slice la cl.length lc, .slice ga cg.length gx, .string cx]), (g6, 41, [.int .i64 rc, .int .i64 rn, .string rt])] ∧ Rec 5 (ThrB D W [gW, g5, g6] wr) cw (thrsMix C C' (h * 4))) (fun v21 _ => 4 - (intOf v21).toNat)
 case atStart => exact ⟨0, cw, by omega, rfl, st, hRec0⟩
 case round =>
  clear st hRec0 st0 hg5l hg6l
  obtain ⟨V9, rfl⟩ : ∃ V, V = wr := ⟨_, rfl⟩
  obtain ⟨h, cw, hh, rfl, st, hRec⟩ := hrel
  by_cases hh4 : h < 4
  case neg =>
   have d1 : decide ((h : Int) < 4) = false := by simp; omega
   obtain rfl : h = 4 := by omega
   have PE := Lib.hid (HP.out.told (st.sub (own' := [(gW, 31, cw)]) (by simp) (by simp)))
   have hE := hRec
   rw [thrsMix_all] at hE
   have HE := Lib.hid hE.ofMap
   clear st hRec hE
   go_wp2_with (first | go_skip | fail)
   go_ret
   exact ⟨rfl, _, _, PE.out, cw, rfl, fun b hb e => hb.2 (gW, 31, cw) (List.mem_singleton.2 rfl) e.symm, HE.out.mono fun c x hx => hx.move (Nat.le_refl _) fun b _ ho => ⟨⟨by simpa [okG] using ho.1, fun x hx e => ho.2 (by simp at hx; subst hx; simp at e; simp [e])⟩, rfl⟩⟩
  have d1 : decide ((h : Int) < 4) = true := by simp; omega
  go_wp2_with (first | go_skip | fail)
  go_loopw [24] (fun v24 wr => ∃ (t : Nat) (cw : List Value), t ≤ 4 ∧ v24 = .int .i64 t ∧ St [gW] W wr [(gW, 31, cw), (g5, 38, [.int .i64 ak, .int .i64 ah, .int .i64 at', .int .i64 an, .int .i64 ck, .int .i64 ch, .int .i64 ct, .int .i64 cn, .int .i64 cc, .slice la cl.length lc, .slice ga cg.length gx, .string cx]), (g6, 41, [.int .i64 rc, .int .i64 rn, .string rt])] ∧ Rec 5 (ThrB D W [gW, g5, g6] wr) cw (thrsMix C C' (h * 4 + t))) (fun v24 _ => 4 - (intOf v24).toNat)
  case atStart => exact ⟨0, cw, by omega, rfl, st, hRec⟩
  case round =>
   clear st hRec
   obtain ⟨V0, rfl⟩ : ∃ V, V = wr := ⟨_, rfl⟩
   obtain ⟨t, cw, ht, rfl, st, hRec⟩ := hrel
   by_cases ht4 : t < 4
   case neg =>
    have d2 : decide ((t : Int) < 4) = false := by simp; omega
    obtain rfl : t = 4 := by omega
    go_wp2_with (first | go_skip | fail)
    go_roundw
    case rel => exact ⟨h + 1, cw, by omega, by go_num, st, by rw [show (h + 1) * 4 = h * 4 + 4 by omega]; exact hRec⟩
    case measure => simp [intOf]; omega
   have d2 : decide ((t : Int) < 4) = true := by simp; omega
   obtain ⟨pre, cs, post, rfl, hpre0, hcl, hcs, hset⟩ := hRec.win (i := h * 4 + t) (by rw [thrsMix_len]; omega)
   have hx0 : (thrsMix C C' (h * 4 + t))[h * 4 + t]'(by rw [thrsMix_len]; omega) = (false, C.thr h t) := by
    have q := thrsMix_at C C' hh4 ht4
    rw [List.getElem?_eq_getElem (by rw [thrsMix_len]; omega)] at q
    exact Option.some.inj q
   rw [hx0] at hcs
   have hpre : pre.length = h * 20 + t * 5 := by omega
   have hG0 := HC.out h t hh4 ht4
   have hxo := HX.out h t hh4 ht4
   have hyo := HY.out h t hh4 ht4
   have HTh := Lib.hid (fun (V : World) (own2 : Blks) (hV : St [gW] W V own2) => (show ThreadPost V (thrC2 C' h t) = ThreadPost V (C'.thr h t) by rw [thrC2_at C' hh4 ht4]) ▸ cluster_Thread (HP.out.walk hV) h t)
   have HST := Lib.hid (fun (R' : List Value → Bool × Thr → Prop) (cs' : List Value) (hm : ∀ c x, ThrB D W [gW, g5, g6] V0 c x → R' c x) (hR : R' cs' (true, C'.thr h t)) (hl : cs'.length = 5) => (thrsMix_set C C' hh4 ht4) ▸ hset R' cs' (true, C'.thr h t) hm hR hl)
   obtain ⟨y, hy⟩ : ∃ y, C'.thr h t = y := ⟨_, rfl⟩
   obtain ⟨x, hx⟩ : ∃ x, C.thr h t = x := ⟨_, rfl⟩
   rw [hx] at hG0 hxo hcs
   rw [hy] at hG0 hyo HTh HST
   clear hset hRec hx0 hx hy hpre0
   obtain ⟨a1, c1, a2, c2, a3, c3, a4, c4, rfl, hTx⟩ := hcs
   unfold thrC at st hcl
   dsimp only at st hcl
   have hg5l := st.ltAt (i := 1) rfl
   have hg6l := st.ltAt (i := 2) rfl
   have hgWl := st.ltAt (i := 0) rfl
   have hWV := st.size
   go_upto_region 7 with (first | go_skip | fail)
   try simp only [kP, kA, kS, kZ]
   have HW := Lib.hid (show ∀ (U : World) (s : Two), St [] V0 U (s.own 29 29) → St [gW] W U ([(gW, 31, winC pre [.slice a1 x.label.length c1, .slice a2 x.own.length c2, .string x.text, .slice a3 x.objects.length c3, .slice a4 x.mails.length c4] post), (g5, 38, [.int .i64 ak, .int .i64 ah, .int .i64 at', .int .i64 an, .int .i64 ck, .int .i64 ch, .int .i64 ct, .int .i64 cn, .int .i64 cc, .slice la cl.length lc, .slice ga cg.length gx, .string cx]), (g6, 41, [.int .i64 rc, .int .i64 rn, .string rt])] ++ s.own 29 29) from fun U s hU => st.join hU)
   refine wp_region_ghost (by kernel_rfl) [(0, some 27), (1, some 28), (2, some 29), (3, some 30), (4, some 31), (5, some 32), (6, some 33), (7, some 34), (8, some 35), (9, some 10), (10, some 11), (11, none), (12, none)] [0, 1, 2, 3, 4, 5, 6, 7, 8, 9, 10, 11, 12] rfl 0 (by decide +kernel) rfl (Two.Rel 9 11 10 12) (fun i v s U => match i with
    | 0 => v = .pointer (some ⟨gc, 0, none⟩)
    | 1 => v = .int .i64 h
    | 2 => v = .int .i64 t
    | 3 => ∃ la lc oa oc ba bc ma mc, v = thrV y la lc oa oc ba bc ma mc ∧ ThrS (fun b => s.free b ∧ V0.heap.size ≤ b) U y la lc oa oc ba bc ma mc
    | 4 => v = .int .i64 h
    | 5 => v = .int .i64 t
    | 6 => v = .pointer (some ⟨gW, h * 20, none⟩)
    | 7 => v = .pointer (some ⟨gW, h * 20 + t * 5, none⟩)
    | 8 => v = .agg #[.slice a1 x.label.length c1, .slice a2 x.own.length c2, .string x.text, .slice a3 x.objects.length c3, .slice a4 x.mails.length c4]
    | 9 => ∃ g c, v = .pointer (some ⟨g, 0, none⟩) ∧ s.1 = some (g, c) ∧ c.length = 5
    | 10 => ∃ g c, v = .pointer (some ⟨g, 0, none⟩) ∧ s.2 = some (g, c) ∧ c.length = 5
    | 11 => ∃ g la lc oa oc ba bc ma mc, s.1 = some (g, [.slice la y.label.length lc, .slice oa y.own.length oc, .string y.text, .slice ba y.objects.length bc, .slice ma y.mails.length mc]) ∧ ThrS (fun b => s.free b ∧ V0.heap.size ≤ b) U y la lc oa oc ba bc ma mc
    | _ => ∃ g, s.2 = some (g, [.slice a1 x.label.length c1, .slice a2 x.own.length c2, .string x.text, .slice a3 x.objects.length c3, .slice a4 x.mails.length c4]))
    (fun s U => St [] V0 U (s.own 29 29)) (none, none) (St.start V0).drew ?mono ?step ?fin
   case mono =>
    intro i k v s U s' U' hi hk hne hp hr hI hI' hh
    have hmv : ∀ {la lc oa oc ba bc ma mc}, ThrS (fun b => s.free b ∧ V0.heap.size ≤ b) U y la lc oa oc ba bc ma mc → ThrS (fun b => s'.free b ∧ V0.heap.size ≤ b) U' y la lc oa oc ba bc ma mc := fun hT => hT.move hr.size fun b hb ho => ⟨⟨(hr.keep b hb ho.1).1, ho.2⟩, (hr.keep b hb ho.1).2⟩
    simp only [List.mem_cons, List.not_mem_nil, or_false] at hi
    rcases hi with rfl | rfl | rfl | rfl | rfl | rfl | rfl | rfl | rfl | rfl | rfl | rfl | rfl
    ·exact hh
    ·exact hh
    ·exact hh
    ·obtain ⟨la, lc, oa, oc, ba, bc, ma, mc, e, h1⟩ := hh; exact ⟨la, lc, oa, oc, ba, bc, ma, mc, e, hmv h1⟩
    ·exact hh
    ·exact hh
    ·exact hh
    ·exact hh
    ·exact hh
    ·obtain ⟨g, c, e, h1, h2⟩ := hh; obtain ⟨c', h3, h4⟩ := hr.one' hne.symm g c h1; exact ⟨g, c', e, h3, h4.trans h2⟩
    ·obtain ⟨g, c, e, h1, h2⟩ := hh; obtain ⟨c', h3, h4⟩ := hr.two' hne.symm g c h1; exact ⟨g, c', e, h3, h4.trans h2⟩
    ·obtain ⟨g, la, lc, oa, oc, ba, bc, ma, mc, e, h1⟩ := hh; exact ⟨g, la, lc, oa, oc, ba, bc, ma, mc, (hr.one (fun e => hp (by rw [e]; decide +kernel)) hne.symm).trans e, hmv h1⟩
    ·obtain ⟨g, e⟩ := hh; exact ⟨g, (hr.two (fun e => hp (by rw [e]; decide +kernel)) hne.symm).trans e⟩
   case step =>
    intro i tt hi xx s U hI hp K hK
    simp only [List.mem_cons, List.not_mem_nil, or_false, Prod.mk.injEq] at hi
    rcases hi with ⟨rfl, rfl⟩ | ⟨rfl, rfl⟩ | ⟨rfl, rfl⟩ | ⟨rfl, rfl⟩ | ⟨rfl, rfl⟩ | ⟨rfl, rfl⟩ | ⟨rfl, rfl⟩ | ⟨rfl, rfl⟩ | ⟨rfl, rfl⟩ | ⟨rfl, rfl⟩ | ⟨rfl, rfl⟩ | ⟨rfl, rfl⟩ | ⟨rfl, rfl⟩
    all_goals simp only [putAll, Act.put, List.setIfInBounds_toArray, List.set_cons_succ, List.set_cons_zero] at hK ⊢
    all_goals refine wpOp_at rfl rfl ?_
    ·exact wp_value (v := .pointer (some ⟨gc, 0, none⟩)) (by go_simp) (hK _ s _ (.below (Below.refl _ _)) hI rfl)
    ·exact wp_value (v := .int .i64 h) (by go_simp) (hK _ s _ (.below (Below.refl _ _)) hI rfl)
    ·exact wp_value (v := .int .i64 t) (by go_simp) (hK _ s _ (.below (Below.refl _ _)) hI rfl)
    ·have p0 : xx 0 = _ := hp 0 (by decide +kernel)
     have p1 : xx 1 = _ := hp 1 (by decide +kernel)
     have p2 : xx 2 = _ := hp 2 (by decide +kernel)
     simp only [p0, p1, p2] at hK ⊢
     refine wp_callee (f := 8) (by first | (go_simp; done) | (go_simp; rfl)) ?_
     refine (HTh.out U _ (HW.out U s hI)).mono ?_
     rintro e u1 ⟨la, lc, oa, oc, ba, bc, ma, mc, rfl, hb1, hT⟩
     refine ⟨_, rfl, hK _ s _ (.below hb1) (hI.call hb1) ⟨la, lc, oa, oc, ba, bc, ma, mc, rfl, hT.move (Nat.le_refl _) fun b hb ho => ⟨⟨Two.new hI ho, Nat.le_trans hI.size ho⟩, rfl⟩⟩⟩
    ·exact wp_value (v := .int .i64 h) (by go_simp) (hK _ s _ (.below (Below.refl _ _)) hI rfl)
    ·exact wp_value (v := .int .i64 t) (by go_simp) (hK _ s _ (.below (Below.refl _ _)) hI rfl)
    ·have p4 : xx 4 = _ := hp 4 (by decide +kernel)
     simp only [p4] at hK ⊢
     exact wp_value (v := .pointer (some ⟨gW, h * 20, none⟩)) (by (first | (go_simp; done) | (go_simp; omega) | (go_simp; intro h; omega))) (hK _ s _ (.below (Below.refl _ _)) hI rfl)
    ·have p5 : xx 5 = _ := hp 5 (by decide +kernel)
     have p6 : xx 6 = _ := hp 6 (by decide +kernel)
     simp only [p5, p6] at hK ⊢
     exact wp_value (v := .pointer (some ⟨gW, h * 20 + t * 5, none⟩)) (by (first | (go_simp; done) | (go_simp; omega) | (go_simp; intro h; omega))) (hK _ s _ (.below (Below.refl _ _)) hI rfl)
    ·have p7 : xx 7 = _ := hp 7 (by decide +kernel)
     simp only [p7] at hK ⊢
     exact wp_value (St.run_loadWin (HW.out U s hI) 0 29 _ rfl Try.isAgg29 _ Try.sizeOf29 hpre rfl rfl rfl) (hK _ s _ (.below (Below.refl _ _)) hI rfl)
    ·exact Two.alloc1 9 11 10 12 hI rfl _ Try.zeroValue29 _ rfl fun g W' h1 h2 => hK _ _ _ h1 h2 ⟨g, _, rfl, rfl, rfl⟩
    ·exact Two.alloc2 9 11 10 12 hI rfl _ Try.zeroValue29 _ rfl fun g W' h1 h2 => hK _ _ _ h1 h2 ⟨g, _, rfl, rfl, rfl⟩
    ·obtain ⟨la, lc, oa, oc, ba, bc, ma, mc, p3, hT⟩ := hp 3 (by decide +kernel)
     obtain ⟨g, c', p9, h9, h10⟩ := hp 9 (by decide +kernel)
     simp only [p3, p9] at hK ⊢
     exact Two.store1 9 11 10 12 hI 29 _ _ rfl _ Try.sizeOf29 g c' h9 rfl _ rfl rfl h10 rfl fun W' h1 h2 => hK undef _ _ h1 h2 ⟨g, la, lc, oa, oc, ba, bc, ma, mc, rfl, hT.move h1.size fun b hb ho => ⟨⟨(h1.keep b hb ho.1).1, ho.2⟩, (h1.keep b hb ho.1).2⟩⟩
    ·have p8 : xx 8 = _ := hp 8 (by decide +kernel)
     obtain ⟨g, c', p10, h10, h11⟩ := hp 10 (by decide +kernel)
     simp only [p8, p10] at hK ⊢
     exact Two.store2 9 11 10 12 hI 29 _ _ rfl _ Try.sizeOf29 g c' h10 rfl _ rfl rfl h11 rfl fun W' h1 h2 => hK undef _ _ h1 h2 ⟨g, rfl⟩
   case fin =>
    intro xx s V1 hI hG
    obtain ⟨g10, k10, p9, q9, -⟩ := hG 9 (by simp)
    obtain ⟨g11, k11, p10, q10, -⟩ := hG 10 (by simp)
    obtain ⟨g10', ta, tc, oa, oc, ba, bc, ma, mc, q11, hTy⟩ := hG 11 (by simp)
    obtain ⟨g11', q12⟩ := hG 12 (by simp)
    obtain rfl : g10 = g10' := by rw [q9] at q11; simp at q11; exact q11.1
    obtain rfl : g11 = g11' := by rw [q10] at q12; simp at q12; exact q12.1
    clear q9 q10 hG
    have stj := HW.out V1 s hI
    have hfree : ∀ b, s.free b → b ≠ g10 ∧ b ≠ g11 := fun b hb => ⟨fun e => hb (.inl (by rw [q11]; simp [e])), fun e => hb (.inr (by rw [q12]; simp [e]))⟩
    simp only [Two.own, q11, q12, Option.map_some, Option.toList_some, List.cons_append, List.nil_append] at stj
    simp only [putAll, Act.put, List.setIfInBounds_toArray, List.set_cons_succ, List.set_cons_zero, p9, p10]
    refine wpAny_done (by decide +kernel) ?_ 0
    have hB0 := hI.below
    have hTy2 : ThrS (fun b => V0.heap.size ≤ b ∧ b ≠ g10 ∧ b ≠ g11) V1 y ta tc oa oc ba bc ma mc := hTy.move (Nat.le_refl _) fun b hb ho => ⟨⟨ho.2, hfree b ho.1⟩, rfl⟩
    have hTx2 := hTx.below hB0
    clear hTy hTx hfree q11 q12 hI HW st HTh
    have st := stj
    clear stj
    have stA := st
    have hV01 := hB0.size
    have hq := hyo.ownL; have hqx := hxo.ownL; have hqm := hxo.mailN
    have hlx := goodL_len hxo.good; have hly := goodL_len hyo.good
    have hmg : ∀ m ∈ x.mails, m.grants.length ≤ 8 := fun m hm => (goodM_len (hxo.mail m hm)).2.1
    have HOx := Lib.hid (fun (V : World) (hV : Below V1.heap.size V1 V) (g : Int) => top_in (fun _ => True) V a2 c2 x.own g (by omega) ((hTx2.own.below hV).okay fun _ _ => trivial))
    have HOy := Lib.hid (fun (V : World) (hV : Below V1.heap.size V1 V) (g : Int) => top_in (fun _ => True) V oa oc y.own g (by omega) ((hTy2.own.below hV).okay fun _ _ => trivial))
    have HFl := Lib.hid (fun (V : World) (hV : Below V1.heap.size V1 V) => label_Flows (fun _ => True) V a1 ta a2 c1 tc c2 x.label y.label x.own (by omega) (by omega) ((hTx2.label.below hV).okay fun _ _ => trivial) ((hTy2.label.below hV).okay fun _ _ => trivial) ((hTx2.own.below hV).okay fun _ _ => trivial))
    rw [hG0.flow] at HFl
    have HYo := Lib.hid (fun (V : World) (hV : Below V1.heap.size V1 V) => hTy2.own.below hV)
    have HXo := Lib.hid (fun (V : World) (hV : Below V1.heap.size V1 V) => hTx2.own.below hV)
    have HXm := Lib.hid (fun (V : World) (hV : Below V1.heap.size V1 V) => hTx2.mails.below hV)
    have HMG := Lib.hid hmg
    have HG := Lib.hid hG0
    have HT2 := Lib.hid (And.intro hTx2 hTy2)
    clear hTx2 hTy2 hG0 hmg hxo hyo st
    have st := stA.rebase
    simp only [List.map_cons, List.map_nil] at st
    have HL5 := Lib.hid (show ∀ V, Below V1.heap.size V1 V → St [gW, g5, g6, g10, g11] V1 V [(gW, 31, winC pre [.slice a1 x.label.length c1, .slice a2 x.own.length c2, .string x.text, .slice a3 x.objects.length c3, .slice a4 x.mails.length c4] post), (g5, 38, [.int .i64 ak, .int .i64 ah, .int .i64 at', .int .i64 an, .int .i64 ck, .int .i64 ch, .int .i64 ct, .int .i64 cn, .int .i64 cc, .slice la cl.length lc, .slice ga cg.length gx, .string cx]), (g6, 41, [.int .i64 rc, .int .i64 rn, .string rt]), (g10, 29, [.slice ta y.label.length tc, .slice oa y.own.length oc, .string y.text, .slice ba y.objects.length bc, .slice ma y.mails.length mc]), (g11, 29, [.slice a1 x.label.length c1, .slice a2 x.own.length c2, .string x.text, .slice a3 x.objects.length c3, .slice a4 x.mails.length c4])] from fun V hV => st.call hV)
    clear st
    have hBr := Below.refl V1.heap.size V1
    have st := HL5.out _ hBr
    go_wp2_with (first | go_skip | (with_reducible refine mX st Try.isAgg25 ?_))
    clear st
    go_loopw [39] (fun v39 wr => ∃ j : Nat, j ≤ y.own.length ∧ v39 = .int .i64 j ∧ Below V1.heap.size V1 wr) (fun v39 _ => y.own.length - (intOf v39).toNat)
    case atStart => exact ⟨0, Nat.zero_le _, rfl, hBr⟩
    case round =>
     clear hBr
     obtain ⟨V2, rfl⟩ : ∃ V, V = wr := ⟨_, rfl⟩
     obtain ⟨j, hj, rfl, hB⟩ := hrel
     have st := HL5.out _ hB
     by_cases hjl : j < y.own.length
     case neg =>
      have d3 : decide ((j : Int) < y.own.length) = false := by simp; omega
      go_wp2_with (first | go_skip | (with_reducible refine mX st Try.isAgg25 ?_))
      clear st
      go_loopw [114] (fun v114 wr => ∃ j : Nat, j ≤ x.own.length ∧ v114 = .int .i64 j ∧ Below V1.heap.size V1 wr) (fun v114 _ => x.own.length - (intOf v114).toNat)
      case atStart => exact ⟨0, Nat.zero_le _, rfl, hB⟩
      case round =>
       clear hB hjl d3
       obtain ⟨V3, rfl⟩ : ∃ V, V = wr := ⟨_, rfl⟩
       obtain ⟨k, hk, rfl, hB⟩ := hrel
       have st := HL5.out _ hB
       by_cases hkl : k < x.own.length
       case pos =>
        have d4 : decide ((k : Int) < x.own.length) = true := by simp; omega
        obtain ⟨b, o, hab, hb, hc⟩ := (HXo.out _ hB).int_at k hkl
        have hin := HG.out.old _ (List.getElem_mem hkl)
        generalize x.own[k] = g at hc hin
        have hin2 : inL y.own g = true := (inL_iff ..).2 hin
        have HI := Lib.hid (HOy.out _ hB g)
        rw [hin2] at HI
        clear hin hin2
        subst hab
        go_wp2_with (first
         | go_skip | (with_reducible refine mX st Try.isAgg25 ?_)
         | (go_at_call 9; go_must (refine HI.out.mono ?_; rintro e v3 ⟨rfl, rfl⟩)))
        go_roundw
        case rel => exact ⟨k + 1, hkl, by go_num, hB⟩
        case measure => simp [intOf]; omega
       case neg =>
        have d4 : decide ((k : Int) < x.own.length) = false := by simp; omega
        go_upto_region 31 with (first
         | go_skip | (with_reducible refine mX st Try.isAgg24 ?_) | (with_reducible refine mX st Try.isAgg24 ?_) | (with_reducible refine mX st Try.isAgg25 ?_)
         | (go_at_call 10; go_must (refine (HFl.out _ hB).mono ?_; rintro e v4 ⟨rfl, hb4⟩; replace st := st.call hb4)))
        try simp only [kP, kA, kS, kZ]
        have hBV : Below V0.heap.size V0 v4 := (hB0.keep hB).keep hb4
        have stD := (St.back stA st).drew
        have hI := stD
        clear st
        have st := stD
        clear stD
        refine lex_tail (by kernel_rfl) 5 1 [5] rfl (by decide +kernel) (fun U => St [gW] W U [(gW, 31, winC pre [.slice a1 x.label.length c1, .slice a2 x.own.length c2, .string x.text, .slice a3 x.objects.length c3, .slice a4 x.mails.length c4] post), (g5, 38, [.int .i64 ak, .int .i64 ah, .int .i64 at', .int .i64 an, .int .i64 ck, .int .i64 ch, .int .i64 ct, .int .i64 cn, .int .i64 cc, .slice la cl.length lc, .slice ga cg.length gx, .string cx]), (g6, 41, [.int .i64 rc, .int .i64 rn, .string rt]), (g10, 29, [.slice ta y.label.length tc, .slice oa y.own.length oc, .string y.text, .slice ba y.objects.length bc, .slice ma y.mails.length mc]), (g11, 29, [.slice a1 x.label.length c1, .slice a2 x.own.length c2, .string x.text, .slice a3 x.objects.length c3, .slice a4 x.mails.length c4])]) ?_
        refine lexS 0 rfl hI ?_
        refine lexS 1 rfl hI ?_
        refine lexT 2 rfl hI (fun W hW => St.run_load_agg hW 3 29 _ rfl Try.isAgg29 _ Try.sizeOf29 rfl rfl rfl rfl) ?_
        refine lexT (v := .pointer (some ⟨gW, h * 20, none⟩)) 3 rfl hI (fun W hW => by (first | (go_simp; done) | (go_simp; omega) | (go_simp; intro h; omega))) ?_
        refine lexT (v := .pointer (some ⟨gW, h * 20 + t * 5, none⟩)) 4 rfl hI (fun W hW => by (first | (go_simp; done) | (go_simp; omega) | (go_simp; intro h; omega))) ?_
        clear hI
        refine lex_done (by decide +kernel) ?_
        refine tail_last 5 rfl (by first | exact wanted_none rfl | exact wanted_some rfl rfl) (by decide +kernel) (by decide +kernel) fun K hK => ?_
        refine wp_storeW st 29 _ _ rfl _ Try.sizeOf29 0 ?_; refine ⟨0, _, _, _, _, _, _, _, hpre, rfl, rfl, rfl, rfl, rfl, rfl, ?_⟩; clear st; intro w9 st hw9m hw9z; simp [Act.eval, Act.put, Value.cells, putL] at st
        refine hK _ _ ?_; clear hK
        have hT2 := HT2.out
        have hz1 := hB.size
        have hz4 := hb4.size
        have hz5 : v4.drew.heap.size = v4.heap.size := rfl
        have hR9 := HST.out (ThrB D W [gW, g5, g6] w9) [.slice ta y.label.length tc, .slice oa y.own.length oc, .string y.text, .slice ba y.objects.length bc, .slice ma y.mails.length mc] (fun c xx hh => ThrC.move hh (by omega) fun b hb ho => ⟨ho, (hw9m b (fun e => ho.2 (by simp [e]))).trans (hBV.drew.block b hb)⟩)
         ⟨ta, tc, oa, oc, ba, bc, ma, mc, rfl, hT2.2.move (by omega) fun b hb ho => ⟨⟨.inr (by have := ho.1; omega), by have := ho.1; simp; omega⟩, (hw9m b (by have := ho.1; omega)).trans ((hB.keep hb4).drew.block b hb)⟩⟩ rfl
        have HR9 := Lib.hid hR9
        clear hR9 hT2 HT2 HST HL5 HFl HOx HOy HYo HXo HXm
        go_wp2_with (first | go_skip | fail)
        go_roundw
        case rel => exact ⟨t + 1, _, by omega, by go_num, st.take 3, HR9.out⟩
        case measure => simp [intOf]; omega
     case pos =>
      have d3 : decide ((j : Int) < y.own.length) = true := by simp; omega
      obtain ⟨b, o, hab, hb, hc⟩ := (HYo.out _ hB).int_at j hjl
      have hnew := HG.out.new _ (List.getElem_mem hjl)
      generalize y.own[j] = g at hc hnew
      have HI := Lib.hid (HOx.out _ hB g)
      by_cases hin : g ∈ x.own
      case pos =>
       rw [(inL_iff ..).2 hin] at HI
       clear hin hnew
       subst hab
       go_wp2_with (first
        | go_skip | (with_reducible refine mX st Try.isAgg25 ?_)
        | (go_at_call 9; go_must (refine HI.out.mono ?_; rintro e v3 ⟨rfl, rfl⟩)))
       go_roundw
       case rel => exact ⟨j + 1, hjl, by go_num, hB⟩
       case measure => simp [intOf]; omega
      case neg =>
       obtain ⟨e1, e2, e3, e4, e5⟩ := hnew.resolve_left hin
       dsimp only at e1 e2 e3 e4 e5
       rw [(inL_not ..).2 hin] at HI
       have d4 : (ak == 1) = true := by simp [e1]
       have d5 : (ah == (h : Int)) = true := by simp [e2]
       have d6 : (at' == (t : Int)) = true := by simp [e3]
       have d7 : (rc == 0) = true := by simp [e4]
       have HE5 := Lib.hid e5
       clear hin hnew e1 e2 e3 e4 e5
       subst hab
       rcases HE5.out with ⟨e6, e7⟩ | ⟨e6, e7⟩
       ·have d8 : (ck == 1) = true := by simp [e6]
        have d9 : (rn == g) = true := by simp [e7]
        clear e6 e7 HE5
        go_wp2_with (first
         | go_skip | (with_reducible refine mX st Try.isAgg25 ?_) | (with_reducible refine mX st Try.isAgg3 ?_) | (with_reducible refine mX st Try.isAgg3 ?_) | (with_reducible refine mX st Try.isAgg39 ?_) | (with_reducible refine mX st Try.isAgg27 ?_)
         | (go_at_call 9; go_must (refine HI.out.mono ?_; rintro e v3 ⟨rfl, rfl⟩)))
        clear st
        go_loopw [16, 83] (fun v16 v83 wr => ∃ k : Nat, k ≤ x.mails.length ∧ v83 = .int .i64 k ∧ v16 = .bool ((x.mails.take k).any fun m => inL m.grants g) ∧ Below V1.heap.size V1 wr) (fun _ v83 _ => x.mails.length - (intOf v83).toNat)
        case atStart => exact ⟨0, Nat.zero_le _, rfl, rfl, hB⟩
        case round =>
         clear hB hb hc HI
         obtain ⟨V4, rfl⟩ : ∃ V, V = wr := ⟨_, rfl⟩
         obtain ⟨k, hk, rfl, rfl, hB⟩ := hrel
         have stR := HL5.out _ hB
         have st := stR.rebase
         simp only [List.map_cons, List.map_nil] at st
         by_cases hkl : k < x.mails.length
         case pos =>
          have dk : decide ((k : Int) < x.mails.length) = true := by simp; omega
          obtain ⟨b2, o2, la2, lc2, ga2, gc2, hm2, -, hb2, -, hB2, hC2⟩ := (HXm.out _ hB).mail_at k hkl
          have hgl := HMG.out _ (List.getElem_mem hkl)
          have HA := Lib.hid (show (x.mails.take (k + 1)).any (fun m => inL m.grants g) = ((x.mails.take k).any (fun m => inL m.grants g) || inL x.mails[k].grants g) by rw [List.take_succ_eq_append_getElem hkl, List.any_append]; simp)
          generalize x.mails[k] = m at hB2 hC2 hgl HA
          obtain ⟨q, hq⟩ : ∃ q, ((x.mails.take k).any fun m => inL m.grants g) = q := ⟨_, rfl⟩
          rw [hq] at HA ⊢
          clear hq
          have HIm := Lib.hid (fun (V : World) (hV : Below V4.heap.size V4 V) => top_in (fun _ => True) V ga2 gc2 m.grants g (by omega) ((hB2.below (hB.keep hV)).okay fun _ _ => trivial))
          clear hB2
          subst hm2
          cases q with
          | true =>
           go_wp2_with (first
            | go_skip
            | ((with_reducible refine at_load 45 ?_); refine wpList_load_cells (wanted_none rfl) 45 _ rfl Try.isAgg45 _ Try.sizeOf45 b2 (o2 + k * 5) rfl [.int .i64 m.host, .int .i64 m.thread, .slice la2 m.label.length lc2, .slice ga2 m.grants.length gc2, .string m.text] rfl hC2 ?_)
            | (with_reducible refine mA st Try.zeroValue45 ?_; clear st; intro g18 w18 hg18 st) | (with_reducible refine mS 5 st Try.sizeOf45 ?_; clear st; intro w19 st hw19m hw19z))
           go_roundw
           case rel => exact ⟨k + 1, hkl, by go_num, by rw [HA.out]; rfl, hB.keep (stR.below2 st (by simp))⟩
           case measure => simp [intOf]; omega
          | false =>
           go_wp2_with (first
            | go_skip
            | ((with_reducible refine at_load 45 ?_); refine wpList_load_cells (wanted_none rfl) 45 _ rfl Try.isAgg45 _ Try.sizeOf45 b2 (o2 + k * 5) rfl [.int .i64 m.host, .int .i64 m.thread, .slice la2 m.label.length lc2, .slice ga2 m.grants.length gc2, .string m.text] rfl hC2 ?_)
            | (with_reducible refine mA st Try.zeroValue45 ?_; clear st; intro g18 w18 hg18 st) | (with_reducible refine mS 5 st Try.sizeOf45 ?_; clear st; intro w19 st hw19m hw19z) | (with_reducible refine mX st Try.isAgg25 ?_)
            | (go_at_call 9; go_must (refine (HIm.out _ (stR.below2 st (by simp))).mono ?_; rintro e v5 ⟨rfl, rfl⟩)))
           go_roundw
           case rel => exact ⟨k + 1, hkl, by go_num, by rw [HA.out, Bool.false_or], hB.keep (stR.below2 st (by simp))⟩
           case measure => simp [intOf]; omega
         case neg =>
          have dk : decide ((k : Int) < x.mails.length) = false := by simp; omega
          obtain rfl : k = x.mails.length := by omega
          rw [List.take_of_length_le (Nat.le_refl _)]
          skip
          go_wp2_with (first | go_skip | (with_reducible refine mX st Try.isAgg3 ?_))
          go_roundw
          case rel => exact ⟨j + 1, hjl, by go_num, hB⟩
          case measure => simp [intOf]; omega
       ·have d8 : (ck == 1) = false := by simp [e6]
        have d9 : (ck == 7) = true := by simp [e6]
        have hgv : (x.mails.any fun m => inL m.grants g) = true := by
         obtain ⟨m, hm, hg⟩ := e7
         exact List.any_eq_true.2 ⟨m, hm, (inL_iff ..).2 hg⟩
        have HGV := Lib.hid hgv
        clear e6 e7 hgv HE5
        go_wp2_with (first
         | go_skip | (with_reducible refine mX st Try.isAgg25 ?_) | (with_reducible refine mX st Try.isAgg3 ?_) | (with_reducible refine mX st Try.isAgg3 ?_) | (with_reducible refine mX st Try.isAgg39 ?_) | (with_reducible refine mX st Try.isAgg27 ?_)
         | (go_at_call 9; go_must (refine HI.out.mono ?_; rintro e v3 ⟨rfl, rfl⟩)))
        clear st
        go_loopw [16, 83] (fun v16 v83 wr => ∃ k : Nat, k ≤ x.mails.length ∧ v83 = .int .i64 k ∧ v16 = .bool ((x.mails.take k).any fun m => inL m.grants g) ∧ Below V1.heap.size V1 wr) (fun _ v83 _ => x.mails.length - (intOf v83).toNat)
        case atStart => exact ⟨0, Nat.zero_le _, rfl, rfl, hB⟩
        case round =>
         clear hB hb hc HI
         obtain ⟨V4, rfl⟩ : ∃ V, V = wr := ⟨_, rfl⟩
         obtain ⟨k, hk, rfl, rfl, hB⟩ := hrel
         have stR := HL5.out _ hB
         have st := stR.rebase
         simp only [List.map_cons, List.map_nil] at st
         by_cases hkl : k < x.mails.length
         case pos =>
          have dk : decide ((k : Int) < x.mails.length) = true := by simp; omega
          obtain ⟨b2, o2, la2, lc2, ga2, gc2, hm2, -, hb2, -, hB2, hC2⟩ := (HXm.out _ hB).mail_at k hkl
          have hgl := HMG.out _ (List.getElem_mem hkl)
          have HA := Lib.hid (show (x.mails.take (k + 1)).any (fun m => inL m.grants g) = ((x.mails.take k).any (fun m => inL m.grants g) || inL x.mails[k].grants g) by rw [List.take_succ_eq_append_getElem hkl, List.any_append]; simp)
          generalize x.mails[k] = m at hB2 hC2 hgl HA
          obtain ⟨q, hq⟩ : ∃ q, ((x.mails.take k).any fun m => inL m.grants g) = q := ⟨_, rfl⟩
          rw [hq] at HA ⊢
          clear hq
          have HIm := Lib.hid (fun (V : World) (hV : Below V4.heap.size V4 V) => top_in (fun _ => True) V ga2 gc2 m.grants g (by omega) ((hB2.below (hB.keep hV)).okay fun _ _ => trivial))
          clear hB2
          subst hm2
          cases q with
          | true =>
           go_wp2_with (first
            | go_skip
            | ((with_reducible refine at_load 45 ?_); refine wpList_load_cells (wanted_none rfl) 45 _ rfl Try.isAgg45 _ Try.sizeOf45 b2 (o2 + k * 5) rfl [.int .i64 m.host, .int .i64 m.thread, .slice la2 m.label.length lc2, .slice ga2 m.grants.length gc2, .string m.text] rfl hC2 ?_)
            | (with_reducible refine mA st Try.zeroValue45 ?_; clear st; intro g18 w18 hg18 st) | (with_reducible refine mS 5 st Try.sizeOf45 ?_; clear st; intro w19 st hw19m hw19z))
           go_roundw
           case rel => exact ⟨k + 1, hkl, by go_num, by rw [HA.out]; rfl, hB.keep (stR.below2 st (by simp))⟩
           case measure => simp [intOf]; omega
          | false =>
           go_wp2_with (first
            | go_skip
            | ((with_reducible refine at_load 45 ?_); refine wpList_load_cells (wanted_none rfl) 45 _ rfl Try.isAgg45 _ Try.sizeOf45 b2 (o2 + k * 5) rfl [.int .i64 m.host, .int .i64 m.thread, .slice la2 m.label.length lc2, .slice ga2 m.grants.length gc2, .string m.text] rfl hC2 ?_)
            | (with_reducible refine mA st Try.zeroValue45 ?_; clear st; intro g18 w18 hg18 st) | (with_reducible refine mS 5 st Try.sizeOf45 ?_; clear st; intro w19 st hw19m hw19z) | (with_reducible refine mX st Try.isAgg25 ?_)
            | (go_at_call 9; go_must (refine (HIm.out _ (stR.below2 st (by simp))).mono ?_; rintro e v5 ⟨rfl, rfl⟩)))
           go_roundw
           case rel => exact ⟨k + 1, hkl, by go_num, by rw [HA.out, Bool.false_or], hB.keep (stR.below2 st (by simp))⟩
           case measure => simp [intOf]; omega
         case neg =>
          have dk : decide ((k : Int) < x.mails.length) = false := by simp; omega
          obtain rfl : k = x.mails.length := by omega
          rw [List.take_of_length_le (Nat.le_refl _)]
          rw [HGV.out]
          go_wp2_with (first | go_skip | (with_reducible refine mX st Try.isAgg3 ?_))
          go_roundw
          case rel => exact ⟨j + 1, hjl, by go_num, hB⟩
          case measure => simp [intOf]; omega
end Go.Proofs.Ytflfjpopfapogaa
