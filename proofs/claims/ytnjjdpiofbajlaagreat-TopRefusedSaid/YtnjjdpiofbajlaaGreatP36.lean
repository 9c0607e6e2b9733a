/- Walks and plain laws that the claim rests on, part 36. -/
import Derived.Test.YtnjjdpiofbajlaaGreatP7
import Derived.Test.YtnjjdpiofbajlaaGreatP11
import Derived.Test.YtnjjdpiofbajlaaGreatP27
import Derived.Test.YtnjjdpiofbajlaaGreatP4
import Derived.Test.YtnjjdpiofbajlaaGreatP6
import Derived.Test.YtnjjdpiofbajlaaGreatP24
set_option linter.unusedSimpArgs false
set_option linter.unusedVariables false
namespace Go.Proofs.YtnjjdpiofbajlaaGreat
open Go.RowKit
set_option maxHeartbeats 1000000 in
theorem top_sameNumbers (ok ok' : Nat → Prop) (w : World) (la : Option Addr) (lc : Nat) (ma : Option Addr) (mc : Nat) (a b : List Int) (hA : SlR ok w 1 RInt la lc a) (hB : SlR ok' w 1 RInt ma mc b) :
  Calls Tryz.prog 20 #[.slice la a.length lc, .slice ma b.length mc] w fun e w' => e = .returned (.bool (decide (a = b))) ∧ Below w.heap.size w w' := by
 have hl : a.length ≤ 9223372036854775807 := by have h1 := hA.1; have h2 := hA.2.1; unfold maxLen at h2; omega
 have hm : b.length ≤ 9223372036854775807 := by have h1 := hB.1; have h2 := hB.2.1; unfold maxLen at h2; omega
 by_cases hn : a.length = b.length
 ·have d1 : (((a.length : Nat) : Int) != ((b.length : Nat) : Int)) = false := by rw [hn]; simp
  have HN := Lib.hid hn
  have hlb : a.length ≤ b.length := by omega
  clear hn
  go_enter Tryz.func20, Tryz.ntmps20
  go_wp2
  go_loopw [5] (fun i wr => ∃ k : Nat, k ≤ a.length ∧ i = .int .i64 k ∧ Below w.heap.size w wr ∧ Hid (a.take k = b.take k)) (fun i _ => a.length - (intOf i).toNat)
  case atStart => exact ⟨0, Nat.zero_le _, rfl, Below.refl _ _, rfl⟩
  case round =>
   obtain ⟨k, hk, rfl, hBw, hI⟩ := hrel
   by_cases hlt : k < a.length
   ·have hlt' : k < b.length := by omega
    obtain ⟨b1, o1, rfl, hb1, f1⟩ := (hA.below hBw).int_at k hlt
    obtain ⟨b2, o2, rfl, hb2, g1⟩ := (hB.below hBw).int_at k hlt'
    cases hd : decide (a[k] = b[k])
    all_goals
     have HD := Lib.hid hd
     skip
     first | (have hni : (a[k] != b[k]) = true := by simpa using hd) | (have hni : (a[k] != b[k]) = false := by simpa using hd) | skip
     clear hd
     go_wp2
     go_quiet (fail)
     go_wp2
    ·go_ret
     have e : decide (a = b) = false := by simpa using take_ne hlt hlt' (by simpa using HD.out)
     exact ⟨by rw [e]; rfl, hBw.drewN _⟩
    ·have HI := Lib.hid (take_eq_succ hlt hlt' hI.out (by simpa using HD.out))
     go_roundw
     case rel => exact ⟨k + 1, hlt, by go_num, hBw.drewN _, HI⟩
     case measure => simp [intOf]; omega
   ·go_wp2
    go_ret
    have e : decide (a = b) = true := by
     have := hI.out
     rw [List.take_of_length_le (by omega), List.take_of_length_le (by have := HN.out; omega)] at this
     simpa using this
    exact ⟨by rw [e]; rfl, hBw⟩
 ·have d1 : (((a.length : Nat) : Int) != ((b.length : Nat) : Int)) = true := by simp; omega
  have e : decide (a = b) = false := by simpa using fun e => hn (by rw [e])
  have HE := Lib.hid e
  clear e hn
  go_enter Tryz.func20, Tryz.ntmps20
  go_wp2
  go_ret
  exact ⟨by rw [HE.out]; rfl, Below.refl _ _⟩
set_option maxHeartbeats 1000000 in
theorem top_sameMail (ok ok' : Nat → Prop) (w : World) (m : Mail) (la : Option Addr) (lc : Nat) (ga : Option Addr) (gc : Nat) (la' : Option Addr) (lc' : Nat) (ga' : Option Addr) (gc' : Nat) (h : MailR ok w m la lc ga gc) (h' : MailR ok' w m la' lc' ga' gc') :
  Calls Tryz.prog 42 #[mailV m la lc ga gc, mailV m la' lc' ga' gc'] w fun e w' => e = .returned (.bool true) ∧ Below w.heap.size w w' := by
 unfold mailV
 have st := St.start w
 go_enter Tryz.func42, Tryz.ntmps42
 go_wp2_with (first
  | (refine mem_box st (wanted_none rfl) _ _ rfl _ rfl _ rfl ?_; clear st; intro g wx hgx st hbx; clear hgx hbx; simp [Act.eval, Act.put, Value.cells, putL] at st) | (with_reducible refine at_alloc 42 ?_; refine mem_alloc st (wanted_none rfl) 42 rfl _ Tryz.zeroValue42 _ rfl ?_; clear st; intro g wx hgx st hbx; clear hgx hbx; simp [Act.eval, Act.put, Value.cells, putL] at st) | (with_reducible refine at_alloc 3 ?_; refine mem_alloc st (wanted_none rfl) 3 rfl _ Tryz.zeroValue3 _ rfl ?_; clear st; intro g wx hgx st hbx; clear hgx hbx; simp [Act.eval, Act.put, Value.cells, putL] at st) | (with_reducible refine at_alloc 9 ?_; refine mem_alloc st (wanted_none rfl) 9 rfl _ Tryz.zeroValue9 _ rfl ?_; clear st; intro g wx hgx st hbx; clear hgx hbx; simp [Act.eval, Act.put, Value.cells, putL] at st) | (with_reducible refine at_alloc 27 ?_; refine mem_alloc st (wanted_none rfl) 27 rfl _ Tryz.zeroValue27 _ rfl ?_; clear st; intro g wx hgx st hbx; clear hgx hbx; simp [Act.eval, Act.put, Value.cells, putL] at st) | (with_reducible refine at_alloc 28 ?_; refine mem_alloc st (wanted_none rfl) 28 rfl _ Tryz.zeroValue28 _ rfl ?_; clear st; intro g wx hgx st hbx; clear hgx hbx; simp [Act.eval, Act.put, Value.cells, putL] at st) | (with_reducible refine mXA st Tryz.isAgg42 Tryz.sizeOf42 ?_) | (with_reducible refine mX st Tryz.isAgg3 ?_) | (with_reducible refine mX st Tryz.isAgg9 ?_) | (with_reducible refine mX st Tryz.isAgg27 ?_) | (with_reducible refine mX st Tryz.isAgg28 ?_) | (with_reducible refine mSX st Tryz.sizeOf42 ?_; clear st; intro wx st _ _) | (with_reducible refine mSX st Tryz.sizeOf3 ?_; clear st; intro wx st _ _) | (with_reducible refine mSX st Tryz.sizeOf9 ?_; clear st; intro wx st _ _) | (with_reducible refine mSX st Tryz.sizeOf27 ?_; clear st; intro wx st _ _) | (with_reducible refine mSX st Tryz.sizeOf28 ?_; clear st; intro wx st _ _)
  | (go_at_call 19; refine (label_Same ok ok' _ _ _ _ _ _ _ (h.label.below st.below) (h'.label.below st.below)).mono ?_; rintro r v1 ⟨rfl, hb1⟩; replace st := st.call hb1; clear hb1)
  | (go_at_call 20; refine (top_sameNumbers ok ok' _ _ _ _ _ _ _ (h.grants.below st.below) (h'.grants.below st.below)).mono ?_; rintro r v1 ⟨rfl, hb1⟩; replace st := st.call hb1; clear hb1))
 go_ret
 exact ⟨by simp, st.below⟩
set_option maxRecDepth 100000 in
set_option maxHeartbeats 4000000 in
theorem top_sameThread (okA okB : Nat → Prop) (w : World) (x : Thr) (aa1 : Option Addr) (ac1 : Nat) (aa2 : Option Addr) (ac2 : Nat) (aa3 : Option Addr) (ac3 : Nat) (aa4 : Option Addr) (ac4 : Nat) (ba1 : Option Addr) (bc1 : Nat) (ba2 : Option Addr) (bc2 : Nat) (ba3 : Option Addr) (bc3 : Nat) (ba4 : Option Addr) (bc4 : Nat)
  (hA : ThrS okA w x aa1 ac1 aa2 ac2 aa3 ac3 aa4 ac4) (hB : ThrS okB w x ba1 bc1 ba2 bc2 ba3 bc3 ba4 bc4) :
  Calls Tryz.prog 28 #[thrV x aa1 ac1 aa2 ac2 aa3 ac3 aa4 ac4, thrV x ba1 bc1 ba2 bc2 ba3 bc3 ba4 bc4] w fun e w' => e = .returned (.bool true) ∧ Below w.heap.size w w' := by
 have ho : x.objects.length ≤ 9223372036854775807 := by have h1 := hA.objs.1; have h2 := hA.objs.2.1; unfold maxLen at h2; omega
 have hm : x.mails.length ≤ 9223372036854775807 := by have h1 := hA.mails.1; have h2 := hA.mails.2.1; unfold maxLen at h2; omega
 have HS := Lib.hid (fun (V : World) (h : Below w.heap.size w V) => (label_Same okA okB V aa1 ac1 ba1 bc1 x.label x.label (hA.label.below h) (hB.label.below h)).mono (R' := fun e w' => e = .returned (.bool true) ∧ Below V.heap.size V w') (by rintro e w' ⟨rfl, h⟩; simp [h]))
 have HN := Lib.hid (fun (V : World) (h : Below w.heap.size w V) => (top_sameNumbers okA okB V aa2 ac2 ba2 bc2 x.own x.own (hA.own.below h) (hB.own.below h)).mono (R' := fun e w' => e = .returned (.bool true) ∧ Below V.heap.size V w') (by rintro e w' ⟨rfl, h⟩; simp [h]))
 have HA := Lib.hid (fun (V : World) (h : Below w.heap.size w V) => hA.below h)
 have HB := Lib.hid (fun (V : World) (h : Below w.heap.size w V) => hB.below h)
 clear hA hB
 have st := St.start w
 have dt : (x.text.toList != x.text.toList) = false := by simp
 have d1 : (((x.objects.length : Nat) : Int) != ((x.objects.length : Nat) : Int)) = false := by simp
 have d2 : (((x.mails.length : Nat) : Int) != ((x.mails.length : Nat) : Int)) = false := by simp
 unfold thrV
 have tk := trivial
 go_enter Tryz.func28, Tryz.ntmps28
 go_wp2_with (first
  | go_skip | (clear tk; (with_reducible refine mB 39 st ?_; clear st; intro g2 w2 hg2 st)) | (with_reducible refine mB 39 st ?_; clear st; intro g3 w3 hg3 st) | (with_reducible refine mX st Tryz.isAgg27 ?_) | (with_reducible refine mX st Tryz.isAgg27 ?_) | (with_reducible refine mX st Tryz.isAgg28 ?_) | (with_reducible refine mX st Tryz.isAgg28 ?_) | (with_reducible refine mX st Tryz.isAgg9 ?_) | (with_reducible refine mX st Tryz.isAgg9 ?_) | (with_reducible refine mX st Tryz.isAgg36 ?_) | (with_reducible refine mX st Tryz.isAgg36 ?_) | (with_reducible refine mX st Tryz.isAgg37 ?_) | (with_reducible refine mX st Tryz.isAgg37 ?_)
  | (go_at_call 19; go_must (refine (HS.out _ st.below).mono ?_; rintro e v1 ⟨rfl, hb1⟩; replace st := st.call hb1; clear hb1))
  | (go_at_call 20; go_must (refine (HN.out _ st.below).mono ?_; rintro e v2 ⟨rfl, hb2⟩; replace st := st.call hb2; clear hb2)))
 clear dt d1 d2
 go_loopw [49] (fun v49 wr => ∃ k : Nat, k ≤ x.objects.length ∧ v49 = .int .i64 k ∧ St [] w wr [(g2, 39, [.slice aa1 x.label.length ac1, .slice aa2 x.own.length ac2, .string x.text, .slice aa3 x.objects.length ac3, .slice aa4 x.mails.length ac4]), (g3, 39, [.slice ba1 x.label.length bc1, .slice ba2 x.own.length bc2, .string x.text, .slice ba3 x.objects.length bc3, .slice ba4 x.mails.length bc4])]) (fun v49 _ => x.objects.length - (intOf v49).toNat)
 case atStart => exact ⟨0, Nat.zero_le _, rfl, st⟩
 case round =>
  clear st
  obtain ⟨k, hk, rfl, st⟩ := hrel
  by_cases hlt : k < x.objects.length
  case pos =>
   have d3 : decide ((k : Int) < x.objects.length) = true := by simp; omega
   obtain ⟨b1, o1, l1, k1, e1, -, hb1, hA1, hC1⟩ := (HA.out _ (Below.refl _ _)).objs.obj_at k hlt
   obtain ⟨b2, o2, l2, k2, e2, -, hb2, hA2, hC2⟩ := (HB.out _ (Below.refl _ _)).objs.obj_at k hlt
   generalize x.objects[k] = p at hA1 hC1 hA2 hC2
   obtain ⟨pl, pt⟩ := p
   dsimp only at hA1 hC1 hA2 hC2
   have HC1 := Lib.hid (show ∀ V, Below w.heap.size w V → ∀ (i : Nat) (v : Value), [Value.slice l1 pl.length k1, .string pt][i]? = some v → V.cell? ⟨b1, o1 + k * 2 + i, none⟩ = some v from fun V h i v hv => (h.cell (p := ⟨b1, o1 + k * 2 + i, none⟩) hb1).trans (hC1 i v hv))
   have HC2 := Lib.hid (show ∀ V, Below w.heap.size w V → ∀ (i : Nat) (v : Value), [Value.slice l2 pl.length k2, .string pt][i]? = some v → V.cell? ⟨b2, o2 + k * 2 + i, none⟩ = some v from fun V h i v hv => (h.cell (p := ⟨b2, o2 + k * 2 + i, none⟩) hb2).trans (hC2 i v hv))
   have HSo := Lib.hid (fun (V : World) (h : Below w.heap.size w V) => (label_Same (fun _ => True) (fun _ => True) V l1 k1 l2 k2 pl pl ((hA1.below h).okay fun _ _ => trivial) ((hA2.below h).okay fun _ _ => trivial)).mono (R' := fun e w' => e = .returned (.bool true) ∧ Below V.heap.size V w') (by rintro e w' ⟨rfl, h⟩; simp [h]))
   have dt : (pt.toList != pt.toList) = false := by simp
   clear hA1 hA2 hC1 hC2
   subst e1 e2
   go_upto_region 6 with (first | go_skip | fail)
   try simp only [kP, kA, kS, kZ]
   refine det_region (by kernel_rfl) 29 rfl (fun V => St [] w V [(g2, 39, [.slice aa1 x.label.length ac1, .slice aa2 x.own.length ac2, .string x.text, .slice (some ⟨b1, o1, none⟩) x.objects.length ac3, .slice aa4 x.mails.length ac4]), (g3, 39, [.slice ba1 x.label.length bc1, .slice ba2 x.own.length bc2, .string x.text, .slice (some ⟨b2, o2, none⟩) x.objects.length bc3, .slice ba4 x.mails.length bc4])]) (st.drew) (by decide +kernel) ?_
   refine detS 0 rfl ?_
   refine detT 1 rfl (fun W hW => St.run_load hW 0 36 _ rfl Tryz.isAgg36 rfl rfl rfl) ?_
   refine detS 2 rfl ?_
   refine detT (v := .pointer (some ⟨b1, o1 + k * 2, none⟩)) 3 rfl (fun W hW => by (first | (go_simp; done) | (go_simp; omega) | (go_simp; intro h; omega))) ?_
   refine detT (v := .pointer (some ⟨b1, o1 + k * 2 + 1, none⟩)) 4 rfl (fun W hW => by (first | (go_simp; done) | (go_simp; omega) | (go_simp; intro h; omega))) ?_
   refine detT 5 rfl (fun U hU => run_cell_one 9 _ rfl Tryz.isAgg9 b1 (o1 + k * 2 + 1) rfl _ (HC1.out U hU.below 1 _ rfl)) ?_
   refine detS 6 rfl ?_
   refine detT 7 rfl (fun W hW => St.run_load hW 1 36 _ rfl Tryz.isAgg36 rfl rfl rfl) ?_
   refine detS 8 rfl ?_
   refine detT (v := .pointer (some ⟨b2, o2 + k * 2, none⟩)) 9 rfl (fun W hW => by (first | (go_simp; done) | (go_simp; omega) | (go_simp; intro h; omega))) ?_
   refine detT (v := .pointer (some ⟨b2, o2 + k * 2 + 1, none⟩)) 10 rfl (fun W hW => by (first | (go_simp; done) | (go_simp; omega) | (go_simp; intro h; omega))) ?_
   refine detT 11 rfl (fun U hU => run_cell_one 9 _ rfl Tryz.isAgg9 b2 (o2 + k * 2 + 1) rfl _ (HC2.out U hU.below 1 _ rfl)) ?_
   refine detT (v := .bool false) 12 rfl (fun W hW => by (first | (go_simp; done) | (go_simp; exact dt) | (go_simp; rfl))) ?_
   refine detS 13 rfl ?_; refine detS 14 rfl ?_
   refine detT 15 rfl (fun W hW => St.run_load hW 0 36 _ rfl Tryz.isAgg36 rfl rfl rfl) ?_
   refine detS 16 rfl ?_
   refine detT (v := .pointer (some ⟨b1, o1 + k * 2, none⟩)) 17 rfl (fun W hW => by (first | (go_simp; done) | (go_simp; omega) | (go_simp; intro h; omega))) ?_
   refine detS 18 rfl ?_
   refine detT 19 rfl (fun U hU => run_cell_one 27 _ rfl Tryz.isAgg27 b1 (o1 + k * 2) rfl _ (HC1.out U hU.below 0 _ rfl)) ?_
   refine detS 20 rfl ?_
   refine detT 21 rfl (fun W hW => St.run_load hW 1 36 _ rfl Tryz.isAgg36 rfl rfl rfl) ?_
   refine detS 22 rfl ?_
   refine detT (v := .pointer (some ⟨b2, o2 + k * 2, none⟩)) 23 rfl (fun W hW => by (first | (go_simp; done) | (go_simp; omega) | (go_simp; intro h; omega))) ?_
   refine detS 24 rfl ?_
   refine detT 25 rfl (fun U hU => run_cell_one 27 _ rfl Tryz.isAgg27 b2 (o2 + k * 2) rfl _ (HC2.out U hU.below 0 _ rfl)) ?_
   refine det_call (fn := 19) 26 rfl (by decide +kernel) (by first | exact wanted_none rfl | exact wanted_some rfl rfl) (fun W => by first | (go_simp; done) | (go_simp; rfl)) (fun W hW => (HSo.out W hW.below).mono fun e w' he => ⟨he.1, hW.call he.2⟩) ?_; simp only [kP, kA, kS, kZ]
   refine detS 27 rfl ?_; refine detS 28 rfl ?_
   refine det_done (by decide +kernel) ?_
   clear st
   intro U st
   go_wp2_with (first | go_skip | fail)
   go_roundw
   case rel => exact ⟨k + 1, hlt, by go_num, st⟩
   case measure => simp [intOf] <;> omega
  case neg =>
   have d3 : decide ((k : Int) < x.objects.length) = false := by simp; omega
   go_wp2_with (first | go_skip | (with_reducible refine mX st Tryz.isAgg37 ?_))
   go_loopw [85] (fun v85 wr => ∃ k : Nat, k ≤ x.mails.length ∧ v85 = .int .i64 k ∧ St [] w wr [(g2, 39, [.slice aa1 x.label.length ac1, .slice aa2 x.own.length ac2, .string x.text, .slice aa3 x.objects.length ac3, .slice aa4 x.mails.length ac4]), (g3, 39, [.slice ba1 x.label.length bc1, .slice ba2 x.own.length bc2, .string x.text, .slice ba3 x.objects.length bc3, .slice ba4 x.mails.length bc4])]) (fun v85 _ => x.mails.length - (intOf v85).toNat)
   case atStart => exact ⟨0, Nat.zero_le _, rfl, st⟩
   case round =>
    clear st d3 hlt hk
    obtain ⟨wq, rfl⟩ : ∃ V, V = wr := ⟨_, rfl⟩
    obtain ⟨j, hj, rfl, st⟩ := hrel
    by_cases hlt : j < x.mails.length
    case neg =>
     have d4 : decide ((j : Int) < x.mails.length) = false := by simp; omega
     go_wp2_with (first | go_skip | fail)
     go_ret
     exact ⟨rfl, st.below⟩
    case pos =>
     have d4 : decide ((j : Int) < x.mails.length) = true := by simp; omega
     obtain ⟨b1, o1, l1, k1, n1, m1, e1, -, hb1, hA1, hG1, hC1⟩ := (HA.out _ (Below.refl _ _)).mails.mail_at j hlt
     obtain ⟨b2, o2, l2, k2, n2, m2, e2, -, hb2, hA2, hG2, hC2⟩ := (HB.out _ (Below.refl _ _)).mails.mail_at j hlt
     generalize x.mails[j] = p at hA1 hG1 hC1 hA2 hG2 hC2
     obtain ⟨ph, pth, pl, pg, pt⟩ := p
     dsimp only at hA1 hG1 hC1 hA2 hG2 hC2
     have HC1 := Lib.hid (show ∀ V, Below w.heap.size w V → ∀ (i : Nat) (v : Value), [Value.int .i64 ph, .int .i64 pth, .slice l1 pl.length k1, .slice n1 pg.length m1, .string pt][i]? = some v → V.cell? ⟨b1, o1 + j * 5 + i, none⟩ = some v from fun V h i v hv => (h.cell (p := ⟨b1, o1 + j * 5 + i, none⟩) hb1).trans (hC1 i v hv))
     have HC2 := Lib.hid (show ∀ V, Below w.heap.size w V → ∀ (i : Nat) (v : Value), [Value.int .i64 ph, .int .i64 pth, .slice l2 pl.length k2, .slice n2 pg.length m2, .string pt][i]? = some v → V.cell? ⟨b2, o2 + j * 5 + i, none⟩ = some v from fun V h i v hv => (h.cell (p := ⟨b2, o2 + j * 5 + i, none⟩) hb2).trans (hC2 i v hv))
     have HSm := Lib.hid (fun (V : World) (h : Below w.heap.size w V) => top_sameMail (fun _ => True) (fun _ => True) V ⟨ph, pth, pl, pg, pt⟩ l1 k1 n1 m1 l2 k2 n2 m2 ⟨(hA1.below h).okay fun _ _ => trivial, (hG1.below h).okay fun _ _ => trivial⟩ ⟨(hA2.below h).okay fun _ _ => trivial, (hG2.below h).okay fun _ _ => trivial⟩)
     unfold mailV at HSm
     dsimp only at HSm
     clear hA1 hA2 hG1 hG2 hC1 hC2
     subst e1 e2
     go_upto_region 12 with (first | go_skip | fail)
     try simp only [kP, kA, kS, kZ]
     refine det_region (by kernel_rfl) 12 rfl (fun V => St [] w V [(g2, 39, [.slice aa1 x.label.length ac1, .slice aa2 x.own.length ac2, .string x.text, .slice aa3 x.objects.length ac3, .slice (some ⟨b1, o1, none⟩) x.mails.length ac4]), (g3, 39, [.slice ba1 x.label.length bc1, .slice ba2 x.own.length bc2, .string x.text, .slice ba3 x.objects.length bc3, .slice (some ⟨b2, o2, none⟩) x.mails.length bc4])]) (st.drew) (by decide +kernel) ?_
     refine detS 0 rfl ?_
     refine detT 1 rfl (fun W hW => St.run_load hW 0 37 _ rfl Tryz.isAgg37 rfl rfl rfl) ?_
     refine detS 2 rfl ?_
     refine detT (v := .pointer (some ⟨b1, o1 + j * 5, none⟩)) 3 rfl (fun W hW => by (first | (go_simp; done) | (go_simp; omega) | (go_simp; intro h; omega))) ?_
     refine detT 4 rfl (fun U hU => run_load_at 42 _ rfl Tryz.isAgg42 _ Tryz.sizeOf42 b1 (o1 + j * 5) rfl [.int .i64 ph, .int .i64 pth, .slice l1 pl.length k1, .slice n1 pg.length m1, .string pt] rfl (HC1.out U hU.below)) ?_
     refine detS 5 rfl ?_
     refine detT 6 rfl (fun W hW => St.run_load hW 1 37 _ rfl Tryz.isAgg37 rfl rfl rfl) ?_
     refine detS 7 rfl ?_
     refine detT (v := .pointer (some ⟨b2, o2 + j * 5, none⟩)) 8 rfl (fun W hW => by (first | (go_simp; done) | (go_simp; omega) | (go_simp; intro h; omega))) ?_
     refine detT 9 rfl (fun U hU => run_load_at 42 _ rfl Tryz.isAgg42 _ Tryz.sizeOf42 b2 (o2 + j * 5) rfl [.int .i64 ph, .int .i64 pth, .slice l2 pl.length k2, .slice n2 pg.length m2, .string pt] rfl (HC2.out U hU.below)) ?_
     refine det_call (fn := 42) 10 rfl (by decide +kernel) (by first | exact wanted_none rfl | exact wanted_some rfl rfl) (fun W => by first | (go_simp; done) | (go_simp; rfl)) (fun W hW => (HSm.out W hW.below).mono fun e w' he => ⟨he.1, hW.call he.2⟩) ?_; simp only [kP, kA, kS, kZ]
     refine detS 11 rfl ?_
     refine det_done (by decide +kernel) ?_
     clear st
     intro U st
     go_wp2_with (first | go_skip | fail)
     go_roundw
     case rel => exact ⟨j + 1, hlt, by go_num, st⟩
     case measure => simp [intOf] <;> omega
theorem rep_ext {a b : Rep} : a = b ↔ a.code = b.code ∧ a.n = b.n ∧ a.text = b.text := by
 obtain ⟨x, y, z⟩ := a
 obtain ⟨x', y', z'⟩ := b
 simp
theorem eqin_Reply (d : Nat) (a b : Rep) (W : World) : (Op.equalIn (d + 2) 35 (RepV a) (RepV b)).run Tryz.prog W = .ok (decide (a = b)) W := by
 have h1 : Tryz.prog.underlying 35 = some (.struct (Tryz.prog.fieldsOf 35)) := by kernel_rfl
 have h2 : Tryz.prog.stoodInHeld 35 = false := by kernel_rfl
 have hU := Tryz.underlying35
 have hz : ∀ W, (sizeOf 3).run Tryz.prog W = .ok 1 W := Tryz.sizeOf3
 have ha : ∀ W, (isAgg 3).run Tryz.prog W = .ok false W := Tryz.isAgg3
 have hz2 : ∀ W, (sizeOf 33).run Tryz.prog W = .ok 1 W := Tryz.sizeOf33
 have ha2 : ∀ W, (isAgg 33).run Tryz.prog W = .ok false W := Tryz.isAgg33
 have hz3 : ∀ W, (sizeOf 9).run Tryz.prog W = .ok 1 W := Tryz.sizeOf9
 have ha3 : ∀ W, (isAgg 9).run Tryz.prog W = .ok false W := Tryz.isAgg9
 have e : ∀ d a b W, (Op.equalIn (d + 1) 3 (.int .i64 a) (.int .i64 b)).run Tryz.prog W = .ok (a == b) W := fun d a b W => run_equalIn_int W d _ _ _ a b Tryz.underlying3
 have e2 : ∀ d a b W, (Op.equalIn (d + 1) 33 (.int .i64 a) (.int .i64 b)).run Tryz.prog W = .ok (a == b) W := fun d a b W => run_equalIn_int W d _ _ _ a b Tryz.underlying33
 have e3 : ∀ d a b W, (Op.equalIn (d + 1) 9 (.string a) (.string b)).run Tryz.prog W = .ok (a.toList == b.toList) W := fun d a b W => run_equalIn_string W d _ a b Tryz.underlying9
 unfold RepV
 rw [run_equalIn_agg W (d + 1) _ _ _ h1 h2]
 have hx := rep_ext (a := a) (b := b)
 obtain ⟨x, y, z⟩ := a
 obtain ⟨x', y', z'⟩ := b
 simp [Program.fieldsOf, hU, Op.eqFields, part, ha, hz, ha2, hz2, ha3, hz3, e _ _ _ W, e2 _ _ _ W, e3 _ _ _ W, Result.andThen]
 by_cases q3 : z = z'
 ·subst q3
  by_cases q1 : x = x' <;> by_cases q2 : y = y' <;> simp [q1, q2]
 ·have q4 : ¬ z.toList = z'.toList := by
   intro h
   rw [ByteArray.toList_eq, ByteArray.toList_eq] at h
   exact q3 (ByteArray.ext (Array.toList_inj.1 h))
  by_cases q1 : x = x' <;> by_cases q2 : y = y' <;> simp [q1, q2, q3, q4]
theorem guard_Reply (op : BinOp) (x y : Operand) (xs ys : Array Value) (W : World) : (eqGuard op 35 x y (.agg xs) (.agg ys)).run Tryz.prog W = .ok () W := run_eqGuard_agg W op _ x y xs ys (by kernel_rfl)
theorem eql_Reply (a b : Rep) (r : Bool) (h : decide (a = b) = r) (W : World) : (binOp .eql 35 (RepV a) (RepV b)).run Tryz.prog W = .ok (.bool r) W := by
 unfold RepV
 rw [run_eql_struct]
 have := eqin_Reply 9998 a b W
 unfold RepV at this
 rw [this, h]
 rfl
theorem run_eqlRep {w : World} {o : Oper} {A : Act} (T' : TypeId) (x y : Operand) (ho : o.op = .binOp .eql 35 x y T') (a b : Rep) (r : Bool) (h : decide (a = b) = r) (hx : A.eval x = .agg #[.int .i64 a.code, .int .i64 a.n, .string a.text]) (hy : A.eval y = .agg #[.int .i64 b.code, .int .i64 b.n, .string b.text]) : (execOp A.eval o).run Tryz.prog w = .ok (.value (.bool r)) w := by
 have h := eql_Reply a b r h w
 unfold RepV at h
 simp only [execOp, ho, hx, hy, Sem.run_bind, guard_Reply, Result.andThen_ok, h, Sem.run_pure]
end Go.Proofs.YtnjjdpiofbajlaaGreat
