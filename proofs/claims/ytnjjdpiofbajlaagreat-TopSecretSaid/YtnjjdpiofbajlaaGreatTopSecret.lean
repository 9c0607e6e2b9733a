/- NOBODY BELOW LEARNS WHAT STANDS ABOVE: for every list of acts and every category, when those who stand above it and do not own it write and send other texts of the same lengths, and its owners keep still, everybody who stands below and does not own it is told just the same, knows just the same, and finds the same in all that stands as low. No condition. -/
import Derived.Test.YtnjjdpiofbajlaaGreatRows
import Derived.WalkKit
import Derived.ProofKit
import Derived.OpenShut
import Derived.SizedLaws
import Derived.Deep.DeepCutAuto
import Derived.Test.YtnjjdpiofbajlaaGreatP3
import Derived.Test.YtnjjdpiofbajlaaGreatP9
import Derived.Test.YtnjjdpiofbajlaaGreatP30
import Derived.Test.YtnjjdpiofbajlaaGreatP39
import Derived.Test.YtnjjdpiofbajlaaGreatP40
import Derived.Test.YtnjjdpiofbajlaaGreatP42
import Derived.Test.YtnjjdpiofbajlaaGreatP43
set_option linter.unusedSimpArgs false
set_option linter.unusedVariables false
set_option maxHeartbeats 16000000
set_option maxRecDepth 100000
namespace Go.Proofs.YtnjjdpiofbajlaaGreat.topSecret
open Go.ChangeShapes Go.WideShapes Go.ChangeAt Go.RowKit

theorem objs_at {c : Int} {l l' : List KObj} (h : All2 (ObjS c) l l') {j : Nat} (hj : j < l.length) (hj' : j < l'.length) : ObjS c l[j] l'[j] := by
  rcases h.at j with ⟨h1, -⟩ | ⟨x, y, h1, h2, h3⟩
  · rw [gEg hj] at h1; cases h1
  · rw [gEg hj] at h1; rw [gEg hj'] at h2; cases h1; cases h2; exact h3

theorem mails_at {c : Int} {l l' : List Mail} (h : All2 (MailS c) l l') {j : Nat} (hj : j < l.length) (hj' : j < l'.length) : MailS c l[j] l'[j] := by
  rcases h.at j with ⟨h1, -⟩ | ⟨x, y, h1, h2, h3⟩
  · rw [gEg hj] at h1; cases h1
  · rw [gEg hj] at h1; rw [gEg hj'] at h2; cases h1; cases h2; exact h3

theorem ba_self (s : ByteArray) : ba s.data.toList = s := by
  apply ByteArray.ext
  simp

theorem walk (w : World) (l : List Deed) (la : Option Addr) (lc : Nat) (c : Int) (by_ : ByteArray) (hR : SlR (fun _ => True) w 12 (RDeed (fun _ => True) w) la lc l) (hlen : l.length * 136 ≤ 140737488355328) (hB : ∀ a ∈ l, (a.call.label.length * 16 ≤ 140737488351232 ∧ a.call.grants.length * 8 ≤ 140737488351232) ∧ a.call.text.size ≤ 140737488351232) (hby : by_.size ≤ 9223372036854775807) :
    Calls Tryz.prog 4 #[.slice la l.length lc, .int .i64 c, .string by_] w fun r w' => r = .returned (.bool true) ∧ Below w.heap.size w w' := by
  have HA := qh (fun V : World => top_alive V)
  have HLk := qh (fun (V : World) (s : ByteArray) (hs : s.size ≤ 9223372036854775807) => (ba_self by_) ▸ top_like V s by_.data.toList hs (by simpa using hby))
  have HRl := qh hR
  have HBl := qh hB
  have st := St.start w
  clear hR hB
  have tk := trivial
  go_enter Tryz.func4, Tryz.ntmps4
  go_upto_region 4 with (first
    | go_skip
    | (go_at_call 14; go_must (refine (HA.out _).mono ?_; rintro e v1 ⟨rfl, hb1⟩))
    | (clear tk; go_at_call 15; go_must (refine (cluster_NewX _).mono ?_; rintro e v2 ⟨ga, ka, rfl, P1⟩))
    | (go_at_call 15; go_must (refine (cluster_NewX _).mono ?_; rintro e v3 ⟨gb, kb, rfl, Q1⟩)))
  have hga : w.heap.size ≤ ga := Nat.le_trans hb1.size P1.gcNew
  have hgb : w.heap.size ≤ gb := Nat.le_trans (Nat.le_trans hb1.size P1.st.size) Q1.gcNew
  have HP0 := qh ((P1.adopt (st.call hb1)).second Q1).anyD
  have HS0 := qh (CluSe.refl (c := c) newC newC_ok)
  clear P1 Q1 hb1 st
  go_wp2_with (first | go_skip | fail)
  go_loopw [9] (fun v9 wr => ∃ (k : Nat) (A B : Clu), k ≤ l.length ∧ k ≤ 120 ∧ v9 = .int .i64 k ∧ Hid (CluSe c A B) ∧ Clu2 w [] wr (fun _ => False) ga ka A gb kb B wr) (fun v9 _ => 120 - (intOf v9).toNat)
  case atStart => exact ⟨0, newC, newC, Nat.zero_le _, by omega, rfl, HS0, HP0.out⟩
  case round =>
    clear HP0 HS0
    obtain ⟨V0, rfl⟩ : ∃ V, V = wr := ⟨_, rfl⟩
    obtain ⟨k, A, B, hk, hk120, rfl, HS, Pk⟩ := hrel
    by_cases hgo : k < l.length ∧ k < 120
    case neg =>
      as_aux_lemma =>
        have HP := qh Pk
        have hend : l.length ≤ k ∨ 120 ≤ k := by omega
        clear hgo
        have HBW := qh Pk.st.below
        clear Pk
        go_upto_region 5 with fail
        go_cut [36] (fun s36 wx => s36 = .bool false ∧ wx = V0)
        case first =>
          as_aux_lemma =>
            rcases hend with h | h
            · have d1 : decide ((k : Int) < (l.length : Int)) = false := by simp; omega
              go_wp2_with (first | go_skip | fail)
              go_meet
              exact ⟨rfl, rfl⟩
            · by_cases hkl : k < l.length
              · have d1 : decide ((k : Int) < (l.length : Int)) = true := by simp; omega
                have d2 : decide ((k : Int) < 120) = false := by simp; omega
                go_wp2_with (first | go_skip | fail)
                go_meet
                exact ⟨rfl, rfl⟩
              · have d1 : decide ((k : Int) < (l.length : Int)) = false := by simp; omega
                go_wp2_with (first | go_skip | fail)
                go_meet
                exact ⟨rfl, rfl⟩
        case rest =>
        obtain ⟨rfl, hwx⟩ := hcut
        have hwx2 := hwx.symm
        subst hwx2
        clear hwx hend
        go_wp2_with (first | go_skip | fail)
        go_loopw [15] (fun v15 wr => ∃ h : Nat, h ≤ 4 ∧ v15 = .int .i64 h ∧ Below V0.heap.size V0 wr) (fun v15 _ => 4 - (intOf v15).toNat)
        case atStart => exact ⟨0, by omega, rfl, Below.refl _ _⟩
        case round =>
          obtain ⟨V9, rfl⟩ : ∃ V, V = wr := ⟨_, rfl⟩
          obtain ⟨h, hh, rfl, hB9⟩ := hrel
          by_cases hh4 : h < 4
          case neg =>
            have d3 : decide ((h : Int) < 4) = false := by simp; omega
            go_wp2_with (first | go_skip | fail)
            go_ret
            exact ⟨rfl, HBW.out.keep hB9⟩
          have d3 : decide ((h : Int) < 4) = true := by simp; omega
          go_wp2_with (first | go_skip | fail)
          go_loopw [16] (fun v16 wr => ∃ t : Nat, t ≤ 4 ∧ v16 = .int .i64 t ∧ Below V0.heap.size V0 wr) (fun v16 _ => 4 - (intOf v16).toNat)
          case atStart => exact ⟨0, by omega, rfl, hB9⟩
          case round =>
            clear hB9
            obtain ⟨V8, rfl⟩ : ∃ V, V = wr := ⟨_, rfl⟩
            obtain ⟨t, ht, rfl, hB8⟩ := hrel
            by_cases ht4 : t < 4
            case neg =>
              have d4 : decide ((t : Int) < 4) = false := by simp; omega
              go_wp2_with (first | go_skip | fail)
              go_roundw
              case rel => exact ⟨h + 1, by omega, by go_num, hB8⟩
              case measure => simp [intOf] <;> omega
            have d4 : decide ((t : Int) < 4) = true := by simp; omega
            have hS := HS.out.thr h t
            have hxo : (A.thr h t).ok := by
              obtain ⟨k, ek, e2, hk, hkh⟩ := HP.out.okA.kerAt hh4
              unfold Clu.thr; rw [e2]; exact hk.at t
            have HThA := qh ((show ThreadPost V8 (thrC2 A h t) = ThreadPost V8 (A.thr h t) by rw [thrC2_at A hh4 ht4]) ▸ cluster_Thread (HP.out.below hB8).fst h t)
            have HThB := qh (fun (V : World) (hV : Below V8.heap.size V8 V) => (show ThreadPost V (thrC2 B h t) = ThreadPost V (B.thr h t) by rw [thrC2_at B hh4 ht4]) ▸ cluster_Thread (HP.out.below (hB8.keep hV)).snd h t)
            generalize A.thr h t = x at hS hxo HThA
            generalize B.thr h t = y at hS HThB
            obtain ⟨yl, yo, yt, ybs, yms⟩ := y
            obtain ⟨q1, q2, q3, q4, q5, q6⟩ := hS
            dsimp only at q1 q2 q3 q4 q5 q6 HThB
            subst q1 q2
            have hol := q5.length
            have hml := q6.length
            have HQ := qh (And.intro q4 (And.intro q5 q6))
            have ho8 := hxo.objs
            have hm8 := hxo.mailN
            have hlx := goodL_len hxo.good
            have hox := hxo.ownL
            have HXO := qh hxo
            clear q3 q4 q5 q6 hxo
            have tk := trivial
            go_upto_region 24 with (first
              | go_skip
              | (clear tk; go_at_call 11; go_must (refine HThA.out.mono ?_; rintro e v7 ⟨xa, xc, xo, xd, xb, xe, xm, xf, rfl, hb7, hTx⟩; unfold thrV))
              | (go_at_call 11; go_must (refine (HThB.out _ hb7).mono ?_; rintro e v6 ⟨ya, yc, yo, yd, yb, ye, ym, yf, rfl, hb6, hTy⟩; have st := St.start v6; unfold thrV; dsimp only; have tk2 := trivial))
              | (clear tk2; (with_reducible refine mA st Tryz.zeroValue39 ?_; clear st; intro g17 w5 hg17 st)) | (with_reducible refine mA st Tryz.zeroValue39 ?_; clear st; intro g18 w4 hg18 st) | (with_reducible refine mS 0 st Tryz.sizeOf39 ?_; clear st; intro w3 st hw3m hw3z) | (with_reducible refine mS 1 st Tryz.sizeOf39 ?_; clear st; intro w2 st hw2m hw2z))
            try simp only [kP, kA, kS, kZ]
            have hg17 : v6.heap.size ≤ g17 := by simpa using st.mine _ (mgE (i := 0) rfl)
            have hg18 : v6.heap.size ≤ g18 := by simpa using st.mine _ (mgE (i := 1) rfl)
            have hz76 := hb6.size
            have HX := qh ((hTx.below hb6).move (ok' := fun b => b < v6.heap.size) st.size fun b hb ho => ⟨hb, st.frame b hb (by simp)⟩)
            have HY := qh (hTy.move (ok' := fun b => b < v6.heap.size) st.size fun b hb ho => ⟨hb, st.frame b hb (by simp)⟩)
            try dsimp only at HY
            have HB2 := qh ((hB8.keep hb7).keep (hb6.keep st.below))
            replace st := st.rebase
            simp only [List.map_cons, List.map_nil] at st
            have HStB := qh st
            clear hTx hTy hB8 hb7 hb6 HThA HThB
            have HSm := qh (fun (V : World) (hV : Below w2.heap.size w2 V) => (label_Same _ _ V xa xc ya yc x.label x.label (HX.out.label.below hV) (HY.out.label.below hV)).mono (R' := fun e w' => e = .returned (.bool true) ∧ Below V.heap.size V w') (by rintro e w' ⟨rfl, h⟩; simp [h]))
            have HSn := qh (fun (V : World) (hV : Below w2.heap.size w2 V) => (top_sameNumbers _ _ V xo xd yo yd x.own x.own (HX.out.own.below hV) (HY.out.own.below hV)).mono (R' := fun e w' => e = .returned (.bool true) ∧ Below V.heap.size V w') (by rintro e w' ⟨rfl, h⟩; simp [h]))
            have HLo := qh (fun (V : World) (hV : Below w2.heap.size w2 V) => top_low _ V x xa xc xo xd xb xe xm xf c hlx hox (HX.out.below hV))
            unfold thrV at HLo
            have d5 : (((x.objects.length : Nat) : Int) == ((ybs.length : Nat) : Int)) = true := by rw [hol]; simp
            have d6 : (((x.mails.length : Nat) : Int) == ((yms.length : Nat) : Int)) = true := by rw [hml]; simp
            have d5n : (((x.objects.length : Nat) : Int) != ((ybs.length : Nat) : Int)) = false := by rw [hol]; simp
            have d6n : (((x.mails.length : Nat) : Int) != ((yms.length : Nat) : Int)) = false := by rw [hml]; simp
            have hb0 := Below.refl w2.heap.size w2
            have HOL := qh (And.intro hol hml)
            clear hol hml
            go_upto_region 26 with (first
              | go_skip | (with_reducible refine mX st Tryz.isAgg27 ?_) | (with_reducible refine mX st Tryz.isAgg28 ?_) | (with_reducible refine mX st Tryz.isAgg36 ?_) | (with_reducible refine mX st Tryz.isAgg37 ?_)
              | (go_at_call 19; go_must (refine (HSm.out _ hb0).mono ?_; rintro e v1 ⟨rfl, hb1⟩; replace st := st.call hb1))
              | (go_at_call 20; go_must (refine (HSn.out _ hb1).mono ?_; rintro e v0 ⟨rfl, hb2⟩; replace st := st.call hb2)))
            try simp only [kP, kA, kS, kZ]
            have hb3 := hb1.keep hb2
            clear HSm HSn
            go_cut [160] (fun s160 wx => s160 = .bool false ∧ St [g17, g18] w2 wx [(g17, 39, [.slice xa x.label.length xc, .slice xo x.own.length xd, .string x.text, .slice xb x.objects.length xe, .slice xm x.mails.length xf]), (g18, 39, [.slice ya x.label.length yc, .slice yo x.own.length yd, .string yt, .slice yb ybs.length ye, .slice ym yms.length yf])])
            case first =>
              as_aux_lemma =>
                cases hlo : lowB x c with
                | true =>
                  have hyt : yt = x.text := by
                    unfold lowB at hlo
                    rw [Bool.and_eq_true, decide_eq_true_eq, Bool.not_eq_true'] at hlo
                    exact HQ.out.1 hlo.1 (fun hc => by rw [(inL_iff x.own c).2 hc] at hlo; exact absurd hlo.2 (by simp))
                  have e9 : (x.text.toList == yt.toList) = true := by rw [hyt]; simp
                  rw [hlo] at HLo
                  clear hlo hyt
                  go_wp2_with (first
                    | go_skip | (with_reducible refine mXA st Tryz.isAgg39 Tryz.sizeOf39 ?_) | (with_reducible refine mX st Tryz.isAgg9 ?_)
                    | (go_at_call 21; go_must (refine (HLo.out _ hb3).mono ?_; rintro e v9 ⟨rfl, hb9⟩; replace st := st.call hb9)))
                  go_meet
                  exact ⟨by first | rfl | simp, st⟩
                | false =>
                  rw [hlo] at HLo
                  clear hlo
                  go_wp2_with (first
                    | go_skip | (with_reducible refine mXA st Tryz.isAgg39 Tryz.sizeOf39 ?_) | (with_reducible refine mX st Tryz.isAgg9 ?_)
                    | (go_at_call 21; go_must (refine (HLo.out _ hb3).mono ?_; rintro e v9 ⟨rfl, hb9⟩; replace st := st.call hb9)))
                  go_meet
                  exact ⟨by first | rfl | simp, st⟩
            case rest =>
            obtain ⟨rfl, st⟩ := hcut
            clear HLo hb1 hb2 hb3 d5 d6 d5n d6n
            go_wp2_with (first | go_skip | (with_reducible refine mX st Tryz.isAgg36 ?_))
            go_loopw [164] (fun v164 wr => ∃ j : Nat, j ≤ x.objects.length ∧ v164 = .int .i64 j ∧ St [g17, g18] w2 wr [(g17, 39, [.slice xa x.label.length xc, .slice xo x.own.length xd, .string x.text, .slice xb x.objects.length xe, .slice xm x.mails.length xf]), (g18, 39, [.slice ya x.label.length yc, .slice yo x.own.length yd, .string yt, .slice yb ybs.length ye, .slice ym yms.length yf])]) (fun v164 _ => x.objects.length - (intOf v164).toNat)
            case atStart => exact ⟨0, Nat.zero_le _, rfl, st⟩
            case round =>
              clear st
              obtain ⟨V7, rfl⟩ : ∃ V, V = wr := ⟨_, rfl⟩
              obtain ⟨j, hj, rfl, st⟩ := hrel
              by_cases hjl : j < x.objects.length
              case pos =>
                as_aux_lemma =>
                    have d7 : decide ((j : Int) < (x.objects.length : Int)) = true := by simp; omega
                    have hjl' : j < ybs.length := by rw [HOL.out.1]; exact hjl
                    obtain ⟨b1, o1, l1a, l1c, hna1, hok1, hb1, hL1, hC1⟩ := HX.out.objs.obj_at j hjl
                    obtain ⟨b2, o2, l2a, l2c, hna2, hok2, hb2, hL2, hC2⟩ := HY.out.objs.obj_at j hjl'
                    have hoo := objs_at HQ.out.2.1 hjl hjl'
                    have hog := HXO.out.obj _ (List.getElem_mem hjl)
                    generalize x.objects[j] = o at hC1 hL1 hoo hog
                    generalize ybs[j] = p at hC2 hL2 hoo
                    obtain ⟨ol, ot⟩ := o
                    obtain ⟨pl, pt⟩ := p
                    obtain ⟨hpl, hps, htx⟩ := hoo
                    dsimp only at hpl hps htx hC1 hC2 hL1 hL2 hog
                    subst hpl
                    have hol8 : pl.length ≤ 8 := goodL_len hog.1
                    have HC1 := qh hC1
                    have HC2 := qh hC2
                    clear hC1 hC2 hog hps
                    subst hna1 hna2
                    go_upto_region 31 with (first | go_skip | fail)
                    try simp only [kP, kA, kS, kZ]
                    go_cut [20, 21] (fun sa sb wx => ∃ g20 g21, sa = .pointer (some ⟨g20, 0, none⟩) ∧ sb = .pointer (some ⟨g21, 0, none⟩) ∧ St [g17, g18] w2 wx [(g17, 39, [.slice xa x.label.length xc, .slice xo x.own.length xd, .string x.text, .slice (some ⟨b1, o1, none⟩) x.objects.length xe, .slice xm x.mails.length xf]), (g18, 39, [.slice ya x.label.length yc, .slice yo x.own.length yd, .string yt, .slice (some ⟨b2, o2, none⟩) ybs.length ye, .slice ym yms.length yf]), (g20, 58, [.slice l1a pl.length l1c, .string ot]), (g21, 58, [.slice l2a pl.length l2c, .string pt])])
                    case first =>
                      as_aux_lemma =>
                        have hI := st.drew
                        clear st
                        refine lex_tail (by kernel_rfl) 13 1 [13] rfl (by decide +kernel) (fun U => St [g17, g18] w2 U [(g17, 39, [.slice xa x.label.length xc, .slice xo x.own.length xd, .string x.text, .slice (some ⟨b1, o1, none⟩) x.objects.length xe, .slice xm x.mails.length xf]), (g18, 39, [.slice ya x.label.length yc, .slice yo x.own.length yd, .string yt, .slice (some ⟨b2, o2, none⟩) ybs.length ye, .slice ym yms.length yf])]) ?_
                        refine lexS 0 rfl hI ?_
                        refine lexT 1 rfl hI (fun W hW => St.run_load hW 0 36 _ rfl Tryz.isAgg36 rfl rfl rfl) ?_
                        refine lexS 2 rfl hI ?_
                        refine lexT (v := .pointer (some ⟨b1, o1 + j * 2, none⟩)) 3 rfl hI (fun W hW => by (first | (go_simp; done) | (go_simp; omega) | (go_simp; intro h; omega))) ?_
                        refine lexT 4 rfl hI (fun U hU => run_load_at 58 _ rfl Tryz.isAgg58 _ Tryz.sizeOf58 b1 (o1 + j * 2) rfl [.slice l1a pl.length l1c, .string ot] rfl (fun i v hv => (World.cell?_of_block (w := w2) (a := ⟨b1, o1 + j * 2 + i, none⟩) (hU.frame b1 hb1 (by simp; omega))).trans (HC1.out i v hv))) ?_
                        refine lexS 5 rfl hI ?_
                        refine lexT 6 rfl hI (fun W hW => St.run_load hW 1 36 _ rfl Tryz.isAgg36 rfl rfl rfl) ?_
                        refine lexS 7 rfl hI ?_
                        refine lexT (v := .pointer (some ⟨b2, o2 + j * 2, none⟩)) 8 rfl hI (fun W hW => by (first | (go_simp; done) | (go_simp; omega) | (go_simp; intro h; omega))) ?_
                        refine lexT 9 rfl hI (fun U hU => run_load_at 58 _ rfl Tryz.isAgg58 _ Tryz.sizeOf58 b2 (o2 + j * 2) rfl [.slice l2a pl.length l2c, .string pt] rfl (fun i v hv => (World.cell?_of_block (w := w2) (a := ⟨b2, o2 + j * 2 + i, none⟩) (hU.frame b2 hb2 (by simp; omega))).trans (HC2.out i v hv))) ?_
                        refine lex_each [10, 11] (by decide +kernel) (by decide) ?_; intro i hi K hK; simp only [List.mem_cons, List.not_mem_nil, or_false] at hi; rcases hi with rfl | rfl <;> refine ⟨_, rfl, (by first | exact wanted_none rfl | exact wanted_some rfl rfl), ?_⟩
                        · have st := hI
                          clear hI
                          refine wp_alloc st 58 rfl _ Tryz.zeroValue58 _ rfl ?_; clear st; intro g20 w5 hg20 st hg20b; simp [Act.eval, Act.put, Value.cells, putL] at st
                          refine hK _ _ (st.take 2) ?_; clear hK; simp only [kP, kA, kS, kZ]
                          refine lexO 11 rfl fun K hK => ?_
                          refine wp_alloc st 58 rfl _ Tryz.zeroValue58 _ rfl ?_; clear st; intro g21 w6 hg21 st hg21b; simp [Act.eval, Act.put, Value.cells, putL] at st
                          refine hK _ _ (st.take 2) ?_; clear hK; simp only [kP, kA, kS, kZ]
                          refine lexO 12 rfl fun K hK => ?_
                          refine wp_store' st 58 _ _ rfl _ Tryz.sizeOf58 ⟨2, _, _, _, _, _, rfl, rfl, rfl, rfl, rfl, rfl, ?_⟩; clear st; intro w7 st hw7m hw7z; simp [Act.eval, Act.put, Value.cells, putL] at st
                          refine hK _ _ (st.take 2) ?_; clear hK; simp only [kP, kA, kS, kZ]
                          refine lex_done (by decide +kernel) ?_
                          refine tail_last 13 rfl (by first | exact wanted_none rfl | exact wanted_some rfl rfl) (by decide +kernel) (by decide +kernel) fun K hK => ?_
                          refine wp_store' st 58 _ _ rfl _ Tryz.sizeOf58 ⟨3, _, _, _, _, _, rfl, rfl, rfl, rfl, rfl, rfl, ?_⟩; clear st; intro w8 st hw8m hw8z; simp [Act.eval, Act.put, Value.cells, putL] at st
                          refine hK _ _ ?_; clear hK
                          go_wp2_with fail
                          go_meet
                          exact ⟨g20, g21, rfl, rfl, st⟩
                        · have st := hI
                          clear hI
                          refine wp_alloc st 58 rfl _ Tryz.zeroValue58 _ rfl ?_; clear st; intro g21 w5 hg21 st hg21b; simp [Act.eval, Act.put, Value.cells, putL] at st
                          refine hK _ _ (st.take 2) ?_; clear hK; simp only [kP, kA, kS, kZ]
                          refine lexO 10 rfl fun K hK => ?_
                          refine wp_alloc st 58 rfl _ Tryz.zeroValue58 _ rfl ?_; clear st; intro g20 w6 hg20 st hg20b; simp [Act.eval, Act.put, Value.cells, putL] at st
                          refine hK _ _ (st.take 2) ?_; clear hK; simp only [kP, kA, kS, kZ]
                          refine lexO 12 rfl fun K hK => ?_
                          refine wp_store' st 58 _ _ rfl _ Tryz.sizeOf58 ⟨3, _, _, _, _, _, rfl, rfl, rfl, rfl, rfl, rfl, ?_⟩; clear st; intro w7 st hw7m hw7z; simp [Act.eval, Act.put, Value.cells, putL] at st
                          refine hK _ _ (st.take 2) ?_; clear hK; simp only [kP, kA, kS, kZ]
                          refine lex_done (by decide +kernel) ?_
                          refine tail_last 13 rfl (by first | exact wanted_none rfl | exact wanted_some rfl rfl) (by decide +kernel) (by decide +kernel) fun K hK => ?_
                          refine wp_store' st 58 _ _ rfl _ Tryz.sizeOf58 ⟨2, _, _, _, _, _, rfl, rfl, rfl, rfl, rfl, rfl, ?_⟩; clear st; intro w8 st hw8m hw8z; simp [Act.eval, Act.put, Value.cells, putL] at st
                          refine hK _ _ ?_; clear hK
                          go_wp2_with fail
                          go_meet
                          exact ⟨g20, g21, rfl, rfl, st.perm (List.Perm.cons _ (List.Perm.cons _ (List.Perm.swap _ _ [])))⟩
                    case rest =>
                    obtain ⟨g20, g21, rfl, rfl, st⟩ := hcut
                    have stA := st
                    replace st := st.rebase
                    simp only [List.map_cons, List.map_nil] at st
                    have HSa := qh (fun (V : World) (hV : Below w2.heap.size w2 V ∨ True) => hV)
                    clear HSa
                    have HL := qh (And.intro (hL1.move (ok' := fun b => b < v6.heap.size) stA.size (fun b hb ho => ⟨ho, stA.frame b hb (by simp; omega)⟩) fun _ _ r => r) (hL2.move (ok' := fun b => b < v6.heap.size) stA.size (fun b hb ho => ⟨ho, stA.frame b hb (by simp; omega)⟩) fun _ _ r => r))
                    have HSm2 := qh (fun (V : World) (hV : Below wc.heap.size wc V) => (label_Same _ _ V _ _ _ _ _ _ (HL.out.1.below hV) (HL.out.2.below hV)).mono (R' := fun e w' => e = .returned (.bool true) ∧ Below V.heap.size V w') (by rintro e w' ⟨rfl, h⟩; simp [h]))
                    have HAt := qh (fun (V : World) (hV : Below wc.heap.size wc V) => label_At _ V _ _ _ c (by omega) (HL.out.1.below hV))
                    have hbc := Below.refl wc.heap.size wc
                    clear hL1 hL2 HC1 HC2
                    by_cases hlow : lAt pl c ≤ 1
                    · have d9 : decide (lAt pl c ≤ 1) = true := by simpa using hlow
                      have hpt := htx hlow
                      have e9 : (ot.toList == pt.toList) = true := by rw [hpt]; simp
                      clear hpt hlow htx
                      go_wp2_with (first
                        | go_skip | (with_reducible refine mX st Tryz.isAgg27 ?_) | (with_reducible refine mX st Tryz.isAgg9 ?_)
                        | (go_at_call 19; go_must (refine (HSm2.out _ hbc).mono ?_; rintro e v5 ⟨rfl, hb5⟩; replace st := st.call hb5))
                        | (go_at_call 22; go_must (refine (HAt.out _ hb5).mono ?_; rintro e v4 ⟨rfl, hb4⟩; replace st := st.call hb4)))
                      have ST := qh ((St.back stA st).take 2)
                      clear st stA
                      go_roundw
                      case rel => exact ⟨j + 1, hjl, by go_num, ST.out⟩
                      case measure => simp [intOf] <;> omega
                    · have d9 : decide (lAt pl c ≤ 1) = false := by simpa using hlow
                      clear hlow htx
                      go_wp2_with (first
                        | go_skip | (with_reducible refine mX st Tryz.isAgg27 ?_) | (with_reducible refine mX st Tryz.isAgg9 ?_)
                        | (go_at_call 19; go_must (refine (HSm2.out _ hbc).mono ?_; rintro e v5 ⟨rfl, hb5⟩; replace st := st.call hb5))
                        | (go_at_call 22; go_must (refine (HAt.out _ hb5).mono ?_; rintro e v4 ⟨rfl, hb4⟩; replace st := st.call hb4)))
                      have ST := qh ((St.back stA st).take 2)
                      clear st stA
                      go_roundw
                      case rel => exact ⟨j + 1, hjl, by go_num, ST.out⟩
                      case measure => simp [intOf] <;> omega
              case neg =>
                as_aux_lemma =>
                  have d7 : decide ((j : Int) < (x.objects.length : Int)) = false := by simp; omega
                  go_wp2_with (first | go_skip | (with_reducible refine mX st Tryz.isAgg37 ?_))
                  clear hjl d7
                  go_loopw [201] (fun v201 wr => ∃ j : Nat, j ≤ x.mails.length ∧ v201 = .int .i64 j ∧ St [g17, g18] w2 wr [(g17, 39, [.slice xa x.label.length xc, .slice xo x.own.length xd, .string x.text, .slice xb x.objects.length xe, .slice xm x.mails.length xf]), (g18, 39, [.slice ya x.label.length yc, .slice yo x.own.length yd, .string yt, .slice yb ybs.length ye, .slice ym yms.length yf])]) (fun v201 _ => x.mails.length - (intOf v201).toNat)
                  case atStart => exact ⟨0, Nat.zero_le _, rfl, st⟩
                  case round =>
                    clear st
                    obtain ⟨V6, rfl⟩ : ∃ V, V = wr := ⟨_, rfl⟩
                    obtain ⟨j, hj, rfl, st⟩ := hrel
                    by_cases hjl : j < x.mails.length
                    case neg =>
                      have d8 : decide ((j : Int) < (x.mails.length : Int)) = false := by simp; omega
                      have HBE := qh (HB2.out.keep (HStB.out.below2 st (by simp)))
                      clear st
                      go_wp2_with (first | go_skip | fail)
                      go_roundw
                      case rel => exact ⟨t + 1, by omega, by go_num, HBE.out⟩
                      case measure => simp [intOf] <;> omega
                    have d8 : decide ((j : Int) < (x.mails.length : Int)) = true := by simp; omega
                    have hjl' : j < yms.length := by rw [HOL.out.2]; exact hjl
                    obtain ⟨b1, o1, l1a, l1c, n1a, n1c, hna1, hok1, hb1, hL1, hG1, hC1⟩ := HX.out.mails.mail_at j hjl
                    obtain ⟨b2, o2, l2a, l2c, n2a, n2c, hna2, hok2, hb2, hL2, hG2, hC2⟩ := HY.out.mails.mail_at j hjl'
                    have hoo := mails_at HQ.out.2.2 hjl hjl'
                    have hog := goodM_len (HXO.out.mail _ (List.getElem_mem hjl))
                    generalize x.mails[j] = o at hC1 hL1 hoo hog
                    generalize yms[j] = p at hC2 hL2 hoo
                    obtain ⟨mh, mt, ml, mg, ot⟩ := o
                    obtain ⟨ph, pt', pl, pg, pt⟩ := p
                    obtain ⟨h1, h2, h3, h4, hps, htx⟩ := hoo
                    dsimp only at h1 h2 h3 h4 hps htx hC1 hC2 hL1 hL2 hog
                    subst h1 h2 h3 h4
                    have hol8 : pl.length ≤ 8 := hog.1
                    have HC1 := qh hC1
                    have HC2 := qh hC2
                    clear hC1 hC2 hog hps hG1 hG2
                    subst hna1 hna2
                    go_upto_region 38 with (first | go_skip | fail)
                    try simp only [kP, kA, kS, kZ]
                    go_cut [23, 24] (fun sa sb wx => ∃ g23 g24, sa = .pointer (some ⟨g23, 0, none⟩) ∧ sb = .pointer (some ⟨g24, 0, none⟩) ∧ St [g17, g18] w2 wx [(g17, 39, [.slice xa x.label.length xc, .slice xo x.own.length xd, .string x.text, .slice xb x.objects.length xe, .slice (some ⟨b1, o1, none⟩) x.mails.length xf]), (g18, 39, [.slice ya x.label.length yc, .slice yo x.own.length yd, .string yt, .slice yb ybs.length ye, .slice (some ⟨b2, o2, none⟩) yms.length yf]), (g23, 42, [.int .i64 ph, .int .i64 pt', .slice l1a pl.length l1c, .slice n1a pg.length n1c, .string ot]), (g24, 42, [.int .i64 ph, .int .i64 pt', .slice l2a pl.length l2c, .slice n2a pg.length n2c, .string pt])])
                    case first =>
                      as_aux_lemma =>
                        have hI := st.drew
                        clear st
                        refine lex_tail (by kernel_rfl) 13 1 [13] rfl (by decide +kernel) (fun U => St [g17, g18] w2 U [(g17, 39, [.slice xa x.label.length xc, .slice xo x.own.length xd, .string x.text, .slice xb x.objects.length xe, .slice (some ⟨b1, o1, none⟩) x.mails.length xf]), (g18, 39, [.slice ya x.label.length yc, .slice yo x.own.length yd, .string yt, .slice yb ybs.length ye, .slice (some ⟨b2, o2, none⟩) yms.length yf])]) ?_
                        refine lexS 0 rfl hI ?_
                        refine lexT 1 rfl hI (fun W hW => St.run_load hW 0 37 _ rfl Tryz.isAgg37 rfl rfl rfl) ?_
                        refine lexS 2 rfl hI ?_
                        refine lexT (v := .pointer (some ⟨b1, o1 + j * 5, none⟩)) 3 rfl hI (fun W hW => by (first | (go_simp; done) | (go_simp; omega) | (go_simp; intro h; omega))) ?_
                        refine lexT 4 rfl hI (fun U hU => run_load_at 42 _ rfl Tryz.isAgg42 _ Tryz.sizeOf42 b1 (o1 + j * 5) rfl [.int .i64 ph, .int .i64 pt', .slice l1a pl.length l1c, .slice n1a pg.length n1c, .string ot] rfl (fun i v hv => (World.cell?_of_block (w := w2) (a := ⟨b1, o1 + j * 5 + i, none⟩) (hU.frame b1 hb1 (by simp; omega))).trans (HC1.out i v hv))) ?_
                        refine lexS 5 rfl hI ?_
                        refine lexT 6 rfl hI (fun W hW => St.run_load hW 1 37 _ rfl Tryz.isAgg37 rfl rfl rfl) ?_
                        refine lexS 7 rfl hI ?_
                        refine lexT (v := .pointer (some ⟨b2, o2 + j * 5, none⟩)) 8 rfl hI (fun W hW => by (first | (go_simp; done) | (go_simp; omega) | (go_simp; intro h; omega))) ?_
                        refine lexT 9 rfl hI (fun U hU => run_load_at 42 _ rfl Tryz.isAgg42 _ Tryz.sizeOf42 b2 (o2 + j * 5) rfl [.int .i64 ph, .int .i64 pt', .slice l2a pl.length l2c, .slice n2a pg.length n2c, .string pt] rfl (fun i v hv => (World.cell?_of_block (w := w2) (a := ⟨b2, o2 + j * 5 + i, none⟩) (hU.frame b2 hb2 (by simp; omega))).trans (HC2.out i v hv))) ?_
                        refine lex_each [10, 11] (by decide +kernel) (by decide) ?_; intro i hi K hK; simp only [List.mem_cons, List.not_mem_nil, or_false] at hi; rcases hi with rfl | rfl <;> refine ⟨_, rfl, (by first | exact wanted_none rfl | exact wanted_some rfl rfl), ?_⟩
                        · have st := hI
                          clear hI
                          refine wp_alloc st 42 rfl _ Tryz.zeroValue42 _ rfl ?_; clear st; intro g23 w5 hg23 st hg23b; simp [Act.eval, Act.put, Value.cells, putL] at st
                          refine hK _ _ (st.take 2) ?_; clear hK; simp only [kP, kA, kS, kZ]
                          refine lexO 11 rfl fun K hK => ?_
                          refine wp_alloc st 42 rfl _ Tryz.zeroValue42 _ rfl ?_; clear st; intro g24 w6 hg24 st hg24b; simp [Act.eval, Act.put, Value.cells, putL] at st
                          refine hK _ _ (st.take 2) ?_; clear hK; simp only [kP, kA, kS, kZ]
                          refine lexO 12 rfl fun K hK => ?_
                          refine wp_store' st 42 _ _ rfl _ Tryz.sizeOf42 ⟨2, _, _, _, _, _, rfl, rfl, rfl, rfl, rfl, rfl, ?_⟩; clear st; intro w7 st hw7m hw7z; simp [Act.eval, Act.put, Value.cells, putL] at st
                          refine hK _ _ (st.take 2) ?_; clear hK; simp only [kP, kA, kS, kZ]
                          refine lex_done (by decide +kernel) ?_
                          refine tail_last 13 rfl (by first | exact wanted_none rfl | exact wanted_some rfl rfl) (by decide +kernel) (by decide +kernel) fun K hK => ?_
                          refine wp_store' st 42 _ _ rfl _ Tryz.sizeOf42 ⟨3, _, _, _, _, _, rfl, rfl, rfl, rfl, rfl, rfl, ?_⟩; clear st; intro w8 st hw8m hw8z; simp [Act.eval, Act.put, Value.cells, putL] at st
                          refine hK _ _ ?_; clear hK
                          go_wp2_with fail
                          go_meet
                          exact ⟨g23, g24, rfl, rfl, st⟩
                        · have st := hI
                          clear hI
                          refine wp_alloc st 42 rfl _ Tryz.zeroValue42 _ rfl ?_; clear st; intro g24 w5 hg24 st hg24b; simp [Act.eval, Act.put, Value.cells, putL] at st
                          refine hK _ _ (st.take 2) ?_; clear hK; simp only [kP, kA, kS, kZ]
                          refine lexO 10 rfl fun K hK => ?_
                          refine wp_alloc st 42 rfl _ Tryz.zeroValue42 _ rfl ?_; clear st; intro g23 w6 hg23 st hg23b; simp [Act.eval, Act.put, Value.cells, putL] at st
                          refine hK _ _ (st.take 2) ?_; clear hK; simp only [kP, kA, kS, kZ]
                          refine lexO 12 rfl fun K hK => ?_
                          refine wp_store' st 42 _ _ rfl _ Tryz.sizeOf42 ⟨3, _, _, _, _, _, rfl, rfl, rfl, rfl, rfl, rfl, ?_⟩; clear st; intro w7 st hw7m hw7z; simp [Act.eval, Act.put, Value.cells, putL] at st
                          refine hK _ _ (st.take 2) ?_; clear hK; simp only [kP, kA, kS, kZ]
                          refine lex_done (by decide +kernel) ?_
                          refine tail_last 13 rfl (by first | exact wanted_none rfl | exact wanted_some rfl rfl) (by decide +kernel) (by decide +kernel) fun K hK => ?_
                          refine wp_store' st 42 _ _ rfl _ Tryz.sizeOf42 ⟨2, _, _, _, _, _, rfl, rfl, rfl, rfl, rfl, rfl, ?_⟩; clear st; intro w8 st hw8m hw8z; simp [Act.eval, Act.put, Value.cells, putL] at st
                          refine hK _ _ ?_; clear hK
                          go_wp2_with fail
                          go_meet
                          exact ⟨g23, g24, rfl, rfl, st.perm (List.Perm.cons _ (List.Perm.cons _ (List.Perm.swap _ _ [])))⟩
                    case rest =>
                    obtain ⟨g23, g24, rfl, rfl, st⟩ := hcut
                    have stA := st
                    replace st := st.rebase
                    simp only [List.map_cons, List.map_nil] at st
                    have HSa := qh (fun (V : World) (hV : Below w2.heap.size w2 V ∨ True) => hV)
                    clear HSa
                    have HL := qh (And.intro (hL1.move (ok' := fun b => b < v6.heap.size) stA.size (fun b hb ho => ⟨ho, stA.frame b hb (by simp; omega)⟩) fun _ _ r => r) (hL2.move (ok' := fun b => b < v6.heap.size) stA.size (fun b hb ho => ⟨ho, stA.frame b hb (by simp; omega)⟩) fun _ _ r => r))
                    have HSm2 := qh (fun (V : World) (hV : Below wc.heap.size wc V) => (label_Same _ _ V _ _ _ _ _ _ (HL.out.1.below hV) (HL.out.2.below hV)).mono (R' := fun e w' => e = .returned (.bool true) ∧ Below V.heap.size V w') (by rintro e w' ⟨rfl, h⟩; simp [h]))
                    have HAt := qh (fun (V : World) (hV : Below wc.heap.size wc V) => label_At _ V _ _ _ c (by omega) (HL.out.1.below hV))
                    have hbc := Below.refl wc.heap.size wc
                    clear hL1 hL2 HC1 HC2
                    by_cases hlow : lAt pl c ≤ 1
                    · have d9 : decide (lAt pl c ≤ 1) = true := by simpa using hlow
                      have hpt := htx hlow
                      have e9 : (ot.toList == pt.toList) = true := by rw [hpt]; simp
                      clear hpt hlow htx
                      go_wp2_with (first
                        | go_skip | (with_reducible refine mX st Tryz.isAgg27 ?_) | (with_reducible refine mX st Tryz.isAgg9 ?_)
                        | (go_at_call 19; go_must (refine (HSm2.out _ hbc).mono ?_; rintro e v5 ⟨rfl, hb5⟩; replace st := st.call hb5))
                        | (go_at_call 22; go_must (refine (HAt.out _ hb5).mono ?_; rintro e v4 ⟨rfl, hb4⟩; replace st := st.call hb4)))
                      have ST := qh ((St.back stA st).take 2)
                      clear st stA
                      go_roundw
                      case rel => exact ⟨j + 1, hjl, by go_num, ST.out⟩
                      case measure => simp [intOf] <;> omega
                    · have d9 : decide (lAt pl c ≤ 1) = false := by simpa using hlow
                      clear hlow htx
                      go_wp2_with (first
                        | go_skip | (with_reducible refine mX st Tryz.isAgg27 ?_) | (with_reducible refine mX st Tryz.isAgg9 ?_)
                        | (go_at_call 19; go_must (refine (HSm2.out _ hbc).mono ?_; rintro e v5 ⟨rfl, hb5⟩; replace st := st.call hb5))
                        | (go_at_call 22; go_must (refine (HAt.out _ hb5).mono ?_; rintro e v4 ⟨rfl, hb4⟩; replace st := st.call hb4)))
                      have ST := qh ((St.back stA st).take 2)
                      clear st stA
                      go_roundw
                      case rel => exact ⟨j + 1, hjl, by go_num, ST.out⟩
                      case measure => simp [intOf] <;> omega
    case pos =>
      as_aux_lemma =>
        obtain ⟨hkl, h120⟩ := hgo
        have d1 : decide ((k : Int) < (l.length : Int)) = true := by simp; omega
        have d2 : decide ((k : Int) < 120) = true := by simp; omega
        obtain ⟨bb, oo, cs, hre, hok, hbb, hrd, -, -, hcc⟩ := HRl.out.2.2.2 k l[k] (by simp [hkl])
        obtain ⟨la1, lc1, ga1, gx1, rfl, h1, h2⟩ := hrd
        obtain ⟨⟨hll, hgl⟩, htl⟩ := HBl.out l[k] (List.getElem_mem _)
        generalize l[k] = a at h1 h2 hcc hll hgl htl
        have HD1 := qh (h1.fit (ok' := fun b => b < w.heap.size) fun b hb _ => hb)
        have HD2 := qh (h2.fit (ok' := fun b => b < w.heap.size) fun b hb _ => hb)
        have HBW := qh Pk.st.below
        have HC0 := qh (fun (j : Nat) (v : Value) (hv : ([.int .i64 a.kind, .int .i64 a.h, .int .i64 a.t, .int .i64 a.n, .int .i64 a.call.kind, .int .i64 a.call.h, .int .i64 a.call.t, .int .i64 a.call.n, .int .i64 a.call.c, .slice la1 a.call.label.length lc1, .slice ga1 a.call.grants.length gx1, .string a.call.text])[j]? = some v) => (HBW.out.cell (p := ⟨bb, oo + k * 12 + j, none⟩) hbb).trans (hcc j v hv))
        have st := Pk.st.rebase
        simp only [List.map_nil] at st
        have HP := qh Pk
        have hwho := who_ok (h := a.h) (t := a.t) Pk.okA
        clear h1 h2 hcc Pk hok
        subst hre
        have tk := trivial
        go_upto_region 9 with (first
          | go_skip
          | ((with_reducible refine at_load 32 ?_); refine wpList_load_cells (wanted_none rfl) 32 _ rfl Tryz.isAgg32 _ Tryz.sizeOf32 bb (oo + k * 12) rfl [.int .i64 a.kind, .int .i64 a.h, .int .i64 a.t, .int .i64 a.n, .int .i64 a.call.kind, .int .i64 a.call.h, .int .i64 a.call.t, .int .i64 a.call.n, .int .i64 a.call.c, .slice la1 a.call.label.length lc1, .slice ga1 a.call.grants.length gx1, .string a.call.text] rfl HC0.out ?_)
          | (with_reducible refine mXA st Tryz.isAgg32 Tryz.sizeOf32 ?_) | (clear tk; (with_reducible refine mA st Tryz.zeroValue32 ?_; clear st; intro g10 w10 hg10 st)) | (with_reducible refine mA st Tryz.zeroValue32 ?_; clear st; intro g11 w11 hg11 st) | (with_reducible refine mS 0 st Tryz.sizeOf32 ?_; clear st; intro w12 st hw12m hw12z) | (with_reducible refine mS 1 st Tryz.sizeOf32 ?_; clear st; intro w13 st hw13m hw13z))
        try simp only [kP, kA, kS, kZ]
        have st13 := st
        clear st
        have st := st13.rebase
        simp only [List.map_cons, List.map_nil] at st
        have HTh := qh (cluster_Thread (HP.out.walk st13).fst a.h a.t)
        obtain ⟨who, hw⟩ : ∃ who, thrC2 A a.h a.t = who := ⟨_, rfl⟩
        have HWho := qh hw
        rw [hw] at HTh hwho
        clear hw
        go_upto_region 10 with (first
          | go_skip | (with_reducible refine mX st Tryz.isAgg3 ?_)
          | (go_at_call 11; go_must (refine HTh.out.mono ?_; rintro e v14 ⟨qa, qc, qo, qd, qb, qe, qm, qf, rfl, hb3, hT⟩; have hst := st.call hb3; clear st; have st := hst.rebase; simp only [List.map_cons, List.map_nil] at st; unfold thrV))
          | (with_reducible refine mA st Tryz.zeroValue39 ?_; clear st; intro g12 w14 hg12 st) | (with_reducible refine mS 2 st Tryz.sizeOf39 ?_; clear st; intro w15 st hw15m hw15z))
        try simp only [kP, kA, kS, kZ]
        have hz13 := hb3.size
        have hg10 := hst.ltAt (i := 0) rfl
        have hg11 := hst.ltAt (i := 1) rfl
        have hg10' : g10 < w13.heap.size := st13.ltAt (i := 0) rfl
        have hg11' : g11 < w13.heap.size := st13.ltAt (i := 1) rfl
        have hg12 : v14.heap.size ≤ g12 := by
          have hne := st.ne
          simp only [List.pairwise_cons, List.mem_cons, List.not_mem_nil, or_false, forall_eq_or_imp, forall_eq] at hne
          rcases (by simpa using st.mine _ (mgE (i := 2) rfl) : (g12 = g10 ∨ g12 = g11) ∨ v14.heap.size ≤ g12) with (h | h) | h
          · exact absurd h.symm hne.1.2
          · exact absurd h.symm hne.2.1
          · exact h
        have HT15 := qh (show ThrS (fun b => w13.heap.size ≤ b ∧ ∀ y ∈ ([(g10, 32, [.int .i64 a.kind, .int .i64 a.h, .int .i64 a.t, .int .i64 a.n, .int .i64 a.call.kind, .int .i64 a.call.h, .int .i64 a.call.t, .int .i64 a.call.n, .int .i64 a.call.c, .slice la1 a.call.label.length lc1, .slice ga1 a.call.grants.length gx1, .string a.call.text]), (g11, 32, [.int .i64 a.kind, .int .i64 a.h, .int .i64 a.t, .int .i64 a.n, .int .i64 a.call.kind, .int .i64 a.call.h, .int .i64 a.call.t, .int .i64 a.call.n, .int .i64 a.call.c, .slice la1 a.call.label.length lc1, .slice ga1 a.call.grants.length gx1, .string a.call.text]), (g12, 39, [.slice qa who.label.length qc, .slice qo who.own.length qd, .string who.text, .slice qb who.objects.length qe, .slice qm who.mails.length qf])] : Blks), y.1 ≠ b) w15 who qa qc qo qd qb qe qm qf from hT.move st.size fun b hb ho => ⟨⟨ho, fun y hy e => by simp at hy; rcases hy with rfl | rfl | rfl <;> simp at e <;> omega⟩, st.frame b hb (by simp; omega)⟩)
        have HP15 := qh ((HP.out.walk st13).told (St.back hst st))
        have HIn := qh (fun (V : World) (hV : Below w15.heap.size w15 V) => top_in _ V qo qd who.own c (by omega) (HT15.out.own.below hV))
        have HTa := qh (fun (V : World) (hV : Below w15.heap.size w15 V) => top_tainted _ V who qa qc qo qd qb qe qm qf c hwho.1 hwho.2 (HT15.out.below hV))
        unfold thrV at HTa
        replace st := st.rebase
        simp only [List.map_cons, List.map_nil] at st
        have hB15 := Below.refl w15.heap.size w15
        clear hT HTh HP hst st13 hb3
        by_cases hcon : a.kind = 1 ∧ c ∈ who.own
        case pos =>
          have e1 : (a.kind == 1) = true := by simp [hcon.1]
          have e2 := (inL_iff who.own c).2 hcon.2
          rw [e2] at HIn
          clear hcon e2
          go_wp2_with (first
            | go_skip | (with_reducible refine mX st Tryz.isAgg3 ?_) | (with_reducible refine mX st Tryz.isAgg28 ?_)
            | (go_at_call 12; go_must (refine (HIn.out _ hB15).mono ?_; rintro e v9 ⟨rfl, rfl⟩)))
          have HPE := qh ((HP15.out.sub (own2 := []) (by simp) List.Pairwise.nil).anyD)
          go_roundw
          case rel => exact ⟨k + 1, A, B, hkl, by omega, by go_num, HS, HPE.out⟩
          case measure => simp [intOf] <;> omega
        have hno : a.kind = 1 → c ∉ who.own := fun h1 h2 => hcon ⟨h1, h2⟩
        have HNo := qh hno
        clear hcon hno
        go_upto_if 52 with (first | go_skip | (with_reducible refine mX st Tryz.isAgg3 ?_))
        try simp only [kP, kA, kS, kZ]
        go_cut [] (fun wx => ∃ tx : ByteArray, Hid (tx.size = a.call.text.size ∧ (tx = a.call.text ∨ 1 < lAt who.label c)) ∧ St [g10, g11, g12] w15 wx [(g10, 32, [.int .i64 a.kind, .int .i64 a.h, .int .i64 a.t, .int .i64 a.n, .int .i64 a.call.kind, .int .i64 a.call.h, .int .i64 a.call.t, .int .i64 a.call.n, .int .i64 a.call.c, .slice la1 a.call.label.length lc1, .slice ga1 a.call.grants.length gx1, .string a.call.text]), (g11, 32, [.int .i64 a.kind, .int .i64 a.h, .int .i64 a.t, .int .i64 a.n, .int .i64 a.call.kind, .int .i64 a.call.h, .int .i64 a.call.t, .int .i64 a.call.n, .int .i64 a.call.c, .slice la1 a.call.label.length lc1, .slice ga1 a.call.grants.length gx1, .string tx]), (g12, 39, [.slice qa who.label.length qc, .slice qo who.own.length qd, .string who.text, .slice qb who.objects.length qe, .slice qm who.mails.length qf])])
        case first =>
          as_aux_lemma =>
            by_cases hk1 : a.kind = 1
            case neg =>
              have e1 : (a.kind == 1) = false := by simp [hk1]
              clear hk1
              go_wp2_with fail
              go_meet
              exact ⟨a.call.text, ⟨rfl, .inl rfl⟩, st⟩
            have e1 : (a.kind == 1) = true := by simp [hk1]
            have e2 := (inL_not who.own c).2 (HNo.out hk1)
            rw [e2] at HIn
            have HE2 := qh e2
            clear hk1 e2
            cases hta : taintB who c with
            | false =>
              rw [hta] at HTa
              clear hta
              go_wp2_with (first
                | go_skip | (with_reducible refine mX st Tryz.isAgg28 ?_) | (with_reducible refine mXA st Tryz.isAgg39 Tryz.sizeOf39 ?_)
                | (go_at_call 12; go_must (refine (HIn.out _ hB15).mono ?_; rintro e v9 ⟨rfl, rfl⟩))
                | (go_at_call 16; go_must (refine (HTa.out _ hB15).mono ?_; rintro e v8 ⟨rfl, hb8⟩; replace st := st.call hb8)))
              go_meet
              exact ⟨a.call.text, ⟨rfl, .inl rfl⟩, st⟩
            | true =>
              rw [hta] at HTa
              have hhi : 1 < lAt who.label c := by
                unfold taintB at hta
                rw [Bool.and_eq_true, decide_eq_true_eq] at hta
                exact hta.1
              have HHi := qh hhi
              clear hta hhi
              go_wp2_with (first
                | go_skip | (with_reducible refine mX st Tryz.isAgg28 ?_) | (with_reducible refine mXA st Tryz.isAgg39 Tryz.sizeOf39 ?_) | (with_reducible refine mX st Tryz.isAgg9 ?_)
                | (go_at_call 12; go_must (refine (HIn.out _ hB15).mono ?_; rintro e v9 ⟨rfl, rfl⟩))
                | (go_at_call 16; go_must (refine (HTa.out _ hB15).mono ?_; rintro e v8 ⟨rfl, hb8⟩; replace st := st.call hb8))
                | (go_at_call 17; go_must (refine (HLk.out _ a.call.text (by omega)).mono ?_; rintro e v7 ⟨tx, rfl, htx, hb7⟩; replace st := st.call hb7; have HTx := qh htx; clear htx))
                | (with_reducible refine mS 1 st Tryz.sizeOf9 ?_; clear st; intro w16 st hw16m hw16z))
              go_meet
              exact ⟨tx, ⟨HTx.out, .inr HHi.out⟩, st⟩
        case rest =>
        obtain ⟨tx, HTx, st⟩ := hcut
        have HP16 := qh (HP15.out.walk st)
        have hsame := doC_same HS.out a (tx := tx) (fun h1 h4 t4 => by rw [← who_at h4 t4, HWho.out]; exact HNo.out h1) (text_same (by rw [HWho.out]; exact HTx.out))
        have HDoA := qh (fun (own : Blks) (B2 : Clu) (V : World) (P : Clu2 w own w15 (fun b => w13.heap.size ≤ b ∧ ∀ y ∈ ([(g10, 32, [.int .i64 a.kind, .int .i64 a.h, .int .i64 a.t, .int .i64 a.n, .int .i64 a.call.kind, .int .i64 a.call.h, .int .i64 a.call.t, .int .i64 a.call.n, .int .i64 a.call.c, .slice la1 a.call.label.length lc1, .slice ga1 a.call.grants.length gx1, .string a.call.text]), (g11, 32, [.int .i64 a.kind, .int .i64 a.h, .int .i64 a.t, .int .i64 a.n, .int .i64 a.call.kind, .int .i64 a.call.h, .int .i64 a.call.t, .int .i64 a.call.n, .int .i64 a.call.c, .slice la1 a.call.label.length lc1, .slice ga1 a.call.grants.length gx1, .string a.call.text]), (g12, 39, [.slice qa who.label.length qc, .slice qo who.own.length qd, .string who.text, .slice qb who.objects.length qe, .slice qm who.mails.length qf])] : Blks), y.1 ≠ b) ga ka A gb kb B2 V) => clu2_Do P a (fun b => b < w.heap.size) (fun b hb => by omega) la1 lc1 ga1 gx1 hll hgl (HD1.out.below P.st.below) (HD2.out.below P.st.below))
        have HDoB := qh (fun (own : Blks) (A2 : Clu) (V : World) (P : Clu2 w own w15 (fun b => w13.heap.size ≤ b ∧ ∀ y ∈ ([(g10, 32, [.int .i64 a.kind, .int .i64 a.h, .int .i64 a.t, .int .i64 a.n, .int .i64 a.call.kind, .int .i64 a.call.h, .int .i64 a.call.t, .int .i64 a.call.n, .int .i64 a.call.c, .slice la1 a.call.label.length lc1, .slice ga1 a.call.grants.length gx1, .string a.call.text]), (g11, 32, [.int .i64 a.kind, .int .i64 a.h, .int .i64 a.t, .int .i64 a.n, .int .i64 a.call.kind, .int .i64 a.call.h, .int .i64 a.call.t, .int .i64 a.call.n, .int .i64 a.call.c, .slice la1 a.call.label.length lc1, .slice ga1 a.call.grants.length gx1, .string a.call.text]), (g12, 39, [.slice qa who.label.length qc, .slice qo who.own.length qd, .string who.text, .slice qb who.objects.length qe, .slice qm who.mails.length qf])] : Blks), y.1 ≠ b) ga ka A2 gb kb B V) => (clu2_Do P.swap { a with call := { a.call with text := tx } } (fun b => b < w.heap.size) (fun b hb => by omega) la1 lc1 ga1 gx1 hll hgl (HD1.out.below P.st.below) (HD2.out.below P.st.below)).mono (R' := fun e W' => e = .returned (RepV (doC B { a with call := { a.call with text := tx } }).2) ∧ Clu2 w own w15 (fun b => w13.heap.size ≤ b ∧ ∀ y ∈ ([(g10, 32, [.int .i64 a.kind, .int .i64 a.h, .int .i64 a.t, .int .i64 a.n, .int .i64 a.call.kind, .int .i64 a.call.h, .int .i64 a.call.t, .int .i64 a.call.n, .int .i64 a.call.c, .slice la1 a.call.label.length lc1, .slice ga1 a.call.grants.length gx1, .string a.call.text]), (g11, 32, [.int .i64 a.kind, .int .i64 a.h, .int .i64 a.t, .int .i64 a.n, .int .i64 a.call.kind, .int .i64 a.call.h, .int .i64 a.call.t, .int .i64 a.call.n, .int .i64 a.call.c, .slice la1 a.call.label.length lc1, .slice ga1 a.call.grants.length gx1, .string a.call.text]), (g12, 39, [.slice qa who.label.length qc, .slice qo who.own.length qd, .string who.text, .slice qb who.objects.length qe, .slice qm who.mails.length qf])] : Blks), y.1 ≠ b) ga ka A2 gb kb (doC B { a with call := { a.call with text := tx } }).1 W') fun e W' h => ⟨h.1, h.2.swap⟩)
        obtain ⟨A', rc, rn, rt, hsA⟩ : ∃ A' rc rn rt, doC A a = (A', ⟨rc, rn, rt⟩) := ⟨_, _, _, _, rfl⟩
        obtain ⟨B', sc, sn, stx, hsB⟩ : ∃ B' sc sn stx, doC B { a with call := { a.call with text := tx } } = (B', ⟨sc, sn, stx⟩) := ⟨_, _, _, _, rfl⟩
        rw [hsA] at HDoA hsame
        rw [hsB] at HDoB hsame
        dsimp only at HDoA HDoB hsame
        unfold deedV RepV at HDoA HDoB
        dsimp only at HDoA HDoB
        obtain ⟨hS', hsc, hsn, htt⟩ := hsame
        have hsc2 := hsc.symm
        have hsn2 := hsn.symm
        subst hsc2 hsn2
        clear hsc hsn
        have HS2 := qh hS'
        have HTT := qh htt
        have HTo := HTa
        clear hS' htt hsA hsB HS HP15 HC0 HIn HTa hB15 HLk
        go_upto_region 14 with fail
        try simp only [kP, kA, kS, kZ]
        have hQ := HP16.out.below (Below.refl _ _).drew
        clear st
        go_cut [13, 14] (fun s13 s14 wx => ∃ g13 g14, s13 = .pointer (some ⟨g13, 0, none⟩) ∧ s14 = .pointer (some ⟨g14, 0, none⟩) ∧ Clu2 w [(g10, 32, [.int .i64 a.kind, .int .i64 a.h, .int .i64 a.t, .int .i64 a.n, .int .i64 a.call.kind, .int .i64 a.call.h, .int .i64 a.call.t, .int .i64 a.call.n, .int .i64 a.call.c, .slice la1 a.call.label.length lc1, .slice ga1 a.call.grants.length gx1, .string a.call.text]), (g11, 32, [.int .i64 a.kind, .int .i64 a.h, .int .i64 a.t, .int .i64 a.n, .int .i64 a.call.kind, .int .i64 a.call.h, .int .i64 a.call.t, .int .i64 a.call.n, .int .i64 a.call.c, .slice la1 a.call.label.length lc1, .slice ga1 a.call.grants.length gx1, .string tx]), (g12, 39, [.slice qa who.label.length qc, .slice qo who.own.length qd, .string who.text, .slice qb who.objects.length qe, .slice qm who.mails.length qf]), (g13, 35, [.int .i64 rc, .int .i64 rn, .string rt]), (g14, 35, [.int .i64 rc, .int .i64 rn, .string stx])] w15 (fun b => w13.heap.size ≤ b ∧ ∀ y ∈ ([(g10, 32, [.int .i64 a.kind, .int .i64 a.h, .int .i64 a.t, .int .i64 a.n, .int .i64 a.call.kind, .int .i64 a.call.h, .int .i64 a.call.t, .int .i64 a.call.n, .int .i64 a.call.c, .slice la1 a.call.label.length lc1, .slice ga1 a.call.grants.length gx1, .string a.call.text]), (g11, 32, [.int .i64 a.kind, .int .i64 a.h, .int .i64 a.t, .int .i64 a.n, .int .i64 a.call.kind, .int .i64 a.call.h, .int .i64 a.call.t, .int .i64 a.call.n, .int .i64 a.call.c, .slice la1 a.call.label.length lc1, .slice ga1 a.call.grants.length gx1, .string a.call.text]), (g12, 39, [.slice qa who.label.length qc, .slice qo who.own.length qd, .string who.text, .slice qb who.objects.length qe, .slice qm who.mails.length qf])] : Blks), y.1 ≠ b) ga ka A' gb kb B' wx)
        case first =>
          as_aux_lemma =>
            refine wp_region_done (by kernel_rfl) [(0, some 67), (1, some 68), (2, some 69), (3, some 70), (4, some 71), (5, some 72), (6, some 13), (7, some 14)] [0, 1, 2, 3, 4, 5, 6, 7] rfl 2 (by decide +kernel) rfl (σ := Two)
              (fun k s _ s' _ => (k ≠ 6 → s'.1 = s.1) ∧ (k ≠ 7 → s'.2 = s.2))
              (fun i v s _ => match i with
                | 0 => v = .pointer (some ⟨ga, 0, none⟩)
                | 1 => v = .agg #[.int .i64 a.kind, .int .i64 a.h, .int .i64 a.t, .int .i64 a.n, .int .i64 a.call.kind, .int .i64 a.call.h, .int .i64 a.call.t, .int .i64 a.call.n, .int .i64 a.call.c, .slice la1 a.call.label.length lc1, .slice ga1 a.call.grants.length gx1, .string a.call.text]
                | 2 => v = .agg #[.int .i64 rc, .int .i64 rn, .string rt]
                | 3 => v = .pointer (some ⟨gb, 0, none⟩)
                | 4 => v = .agg #[.int .i64 a.kind, .int .i64 a.h, .int .i64 a.t, .int .i64 a.n, .int .i64 a.call.kind, .int .i64 a.call.h, .int .i64 a.call.t, .int .i64 a.call.n, .int .i64 a.call.c, .slice la1 a.call.label.length lc1, .slice ga1 a.call.grants.length gx1, .string tx]
                | 5 => v = .agg #[.int .i64 rc, .int .i64 rn, .string stx]
                | 6 => ∃ g, v = .pointer (some ⟨g, 0, none⟩) ∧ s.1 = some (g, [.int .i64 0, .int .i64 0, .string ⟨#[]⟩])
                | _ => ∃ g, v = .pointer (some ⟨g, 0, none⟩) ∧ s.2 = some (g, [.int .i64 0, .int .i64 0, .string ⟨#[]⟩]))
              (fun L s U => Clu2 w (([(g10, 32, [.int .i64 a.kind, .int .i64 a.h, .int .i64 a.t, .int .i64 a.n, .int .i64 a.call.kind, .int .i64 a.call.h, .int .i64 a.call.t, .int .i64 a.call.n, .int .i64 a.call.c, .slice la1 a.call.label.length lc1, .slice ga1 a.call.grants.length gx1, .string a.call.text]), (g11, 32, [.int .i64 a.kind, .int .i64 a.h, .int .i64 a.t, .int .i64 a.n, .int .i64 a.call.kind, .int .i64 a.call.h, .int .i64 a.call.t, .int .i64 a.call.n, .int .i64 a.call.c, .slice la1 a.call.label.length lc1, .slice ga1 a.call.grants.length gx1, .string tx]), (g12, 39, [.slice qa who.label.length qc, .slice qo who.own.length qd, .string who.text, .slice qb who.objects.length qe, .slice qm who.mails.length qf])] : Blks) ++ s.own 35 35) w15 (fun b => w13.heap.size ≤ b ∧ ∀ y ∈ ([(g10, 32, [.int .i64 a.kind, .int .i64 a.h, .int .i64 a.t, .int .i64 a.n, .int .i64 a.call.kind, .int .i64 a.call.h, .int .i64 a.call.t, .int .i64 a.call.n, .int .i64 a.call.c, .slice la1 a.call.label.length lc1, .slice ga1 a.call.grants.length gx1, .string a.call.text]), (g11, 32, [.int .i64 a.kind, .int .i64 a.h, .int .i64 a.t, .int .i64 a.n, .int .i64 a.call.kind, .int .i64 a.call.h, .int .i64 a.call.t, .int .i64 a.call.n, .int .i64 a.call.c, .slice la1 a.call.label.length lc1, .slice ga1 a.call.grants.length gx1, .string a.call.text]), (g12, 39, [.slice qa who.label.length qc, .slice qo who.own.length qd, .string who.text, .slice qb who.objects.length qe, .slice qm who.mails.length qf])] : Blks), y.1 ≠ b) ga ka (if 2 ∈ L then A' else A) gb kb (if 5 ∈ L then B' else B) U)
              (none, none) hQ ?mono ?step ?fin
            case mono =>
              intro i k v s U s' U' hi hk hne hp hr hh
              simp only [List.mem_cons, List.not_mem_nil, or_false] at hi
              rcases hi with rfl | rfl | rfl | rfl | rfl | rfl | rfl | rfl
              · exact hh
              · exact hh
              · exact hh
              · exact hh
              · exact hh
              · exact hh
              · obtain ⟨g, e, h1⟩ := hh; exact ⟨g, e, (hr.1 hne.symm).trans h1⟩
              · obtain ⟨g, e, h1⟩ := hh; exact ⟨g, e, (hr.2 hne.symm).trans h1⟩
            case step =>
              intro i tt hi L xx s U hiL hpL hI hp K hK
              simp only [List.mem_cons, List.not_mem_nil, or_false, Prod.mk.injEq] at hi
              rcases hi with ⟨rfl, rfl⟩ | ⟨rfl, rfl⟩ | ⟨rfl, rfl⟩ | ⟨rfl, rfl⟩ | ⟨rfl, rfl⟩ | ⟨rfl, rfl⟩ | ⟨rfl, rfl⟩ | ⟨rfl, rfl⟩
              all_goals simp only [putAll, Act.put, List.setIfInBounds_toArray, List.set_cons_succ, List.set_cons_zero] at hK ⊢
              all_goals refine wpOp_at rfl rfl ?_
              · exact wp_value (v := .pointer (some ⟨ga, 0, none⟩)) (w' := U) (by go_simp) (hK _ s _ ⟨fun _ => rfl, fun _ => rfl⟩ (by simpa using hI) rfl)
              · exact wp_value (run_load_at 32 _ rfl Tryz.isAgg32 _ Tryz.sizeOf32 g10 0 rfl [.int .i64 a.kind, .int .i64 a.h, .int .i64 a.t, .int .i64 a.n, .int .i64 a.call.kind, .int .i64 a.call.h, .int .i64 a.call.t, .int .i64 a.call.n, .int .i64 a.call.c, .slice la1 a.call.label.length lc1, .slice ga1 a.call.grants.length gx1, .string a.call.text] rfl (cells2 hI.st rfl rfl).1) (hK _ s _ ⟨fun _ => rfl, fun _ => rfl⟩ (by simpa using hI) rfl)
              · have p0 : xx 0 = _ := hp 0 (by decide +kernel)
                have p1 : xx 1 = _ := hp 1 (by decide +kernel)
                simp only [p0, p1] at hK ⊢
                refine wp_callee (f := 18) (by first | (go_simp; done) | (go_simp; rfl)) ?_
                rw [if_neg hiL] at hI
                refine (HDoA.out _ _ _ hI).mono ?_
                rintro e U2 ⟨rfl, h2⟩
                exact ⟨_, rfl, hK _ s _ ⟨fun _ => rfl, fun _ => rfl⟩ (by simpa using h2) rfl⟩
              · exact wp_value (v := .pointer (some ⟨gb, 0, none⟩)) (w' := U) (by go_simp) (hK _ s _ ⟨fun _ => rfl, fun _ => rfl⟩ (by simpa using hI) rfl)
              · exact wp_value (run_load_at 32 _ rfl Tryz.isAgg32 _ Tryz.sizeOf32 g11 0 rfl [.int .i64 a.kind, .int .i64 a.h, .int .i64 a.t, .int .i64 a.n, .int .i64 a.call.kind, .int .i64 a.call.h, .int .i64 a.call.t, .int .i64 a.call.n, .int .i64 a.call.c, .slice la1 a.call.label.length lc1, .slice ga1 a.call.grants.length gx1, .string tx] rfl (cells2 hI.st rfl rfl).2) (hK _ s _ ⟨fun _ => rfl, fun _ => rfl⟩ (by simpa using hI) rfl)
              · have p3 : xx 3 = _ := hp 3 (by decide +kernel)
                have p4 : xx 4 = _ := hp 4 (by decide +kernel)
                simp only [p3, p4] at hK ⊢
                refine wp_callee (f := 18) (by first | (go_simp; done) | (go_simp; rfl)) ?_
                rw [if_neg hiL] at hI
                refine (HDoB.out _ _ _ hI).mono ?_
                rintro e U2 ⟨rfl, h2⟩
                exact ⟨_, rfl, hK _ s _ ⟨fun _ => rfl, fun _ => rfl⟩ (by simpa using h2) rfl⟩
              · refine wp_alloc (St.start U) 35 rfl _ Tryz.zeroValue35 [.int .i64 0, .int .i64 0, .string ⟨#[]⟩] rfl ?_
                intro g U2 _ stA _
                exact hK _ (some (g, [.int .i64 0, .int .i64 0, .string ⟨#[]⟩]), s.2) _ ⟨fun h => absurd rfl h, fun _ => rfl⟩ (by simpa using (hI.walk (hI.st.rebase.join stA)).two1) ⟨g, rfl, rfl⟩
              · refine wp_alloc (St.start U) 35 rfl _ Tryz.zeroValue35 [.int .i64 0, .int .i64 0, .string ⟨#[]⟩] rfl ?_
                intro g U2 _ stA _
                exact hK _ (s.1, some (g, [.int .i64 0, .int .i64 0, .string ⟨#[]⟩])) _ ⟨fun _ => rfl, fun h => absurd rfl h⟩ (by simpa using (hI.walk (hI.st.rebase.join stA)).two2) ⟨g, rfl, rfl⟩
            case fin =>
              intro L xx s U hL hI hG
              rw [if_pos (hL 2 (by simp)), if_pos (hL 5 (by simp))] at hI
              obtain ⟨g13, p6, q6⟩ := hG 6 (by simp)
              obtain ⟨g14, p7, q7⟩ := hG 7 (by simp)
              have p2 : xx 2 = _ := hG 2 (by simp)
              have p5 : xx 5 = _ := hG 5 (by simp)
              simp only [Two.own, q6, q7, Option.map_some, Option.toList_some, List.cons_append, List.nil_append] at hI
              simp only [putAll, Act.put, List.setIfInBounds_toArray, List.set_cons_succ, List.set_cons_zero, p2, p5, p6, p7]
              clear hG p2 p5 p6 p7 q6 q7
              have hP := qh hI
              have st := hI.st.rebase
              simp only [List.map_cons, List.map_nil] at st
              clear hI
              refine tail_next 8 rfl (by first | exact wanted_none rfl | exact wanted_some rfl rfl) (by decide +kernel) fun K hK => ?_
              refine wp_store' st 35 _ _ rfl _ Tryz.sizeOf35 ⟨3, _, _, _, _, _, rfl, rfl, rfl, rfl, rfl, rfl, ?_⟩; clear st; intro w8 st hw8m hw8z; simp [Act.eval, Act.put, Value.cells, putL] at st
              refine hK _ _ ?_; clear hK
              refine tail_last 9 rfl (by first | exact wanted_none rfl | exact wanted_some rfl rfl) (by decide +kernel) (by decide +kernel) fun K hK => ?_
              refine wp_store' st 35 _ _ rfl _ Tryz.sizeOf35 ⟨4, _, _, _, _, _, rfl, rfl, rfl, rfl, rfl, rfl, ?_⟩; clear st; intro w9 st hw9m hw9z; simp [Act.eval, Act.put, Value.cells, putL] at st
              refine hK _ _ ?_; clear hK
              go_wp2_with fail
              go_meet
              exact ⟨_, _, rfl, rfl, hP.out.walk st⟩
        case rest =>
        obtain ⟨g13, g14, rfl, rfl, P17⟩ := hcut
        have HP17 := qh P17
        have st := P17.st.rebase
        simp only [List.map_cons, List.map_nil] at st
        have HTn := qh (fun (V : World) (hV : Below wc.heap.size wc V) => top_tainted (fun b => w13.heap.size ≤ b ∧ ∀ y ∈ ([(g10, 32, [.int .i64 a.kind, .int .i64 a.h, .int .i64 a.t, .int .i64 a.n, .int .i64 a.call.kind, .int .i64 a.call.h, .int .i64 a.call.t, .int .i64 a.call.n, .int .i64 a.call.c, .slice la1 a.call.label.length lc1, .slice ga1 a.call.grants.length gx1, .string a.call.text]), (g11, 32, [.int .i64 a.kind, .int .i64 a.h, .int .i64 a.t, .int .i64 a.n, .int .i64 a.call.kind, .int .i64 a.call.h, .int .i64 a.call.t, .int .i64 a.call.n, .int .i64 a.call.c, .slice la1 a.call.label.length lc1, .slice ga1 a.call.grants.length gx1, .string a.call.text]), (g12, 39, [.slice qa who.label.length qc, .slice qo who.own.length qd, .string who.text, .slice qb who.objects.length qe, .slice qm who.mails.length qf])] : Blks), y.1 ≠ b) V who qa qc qo qd qb qe qm qf c hwho.1 hwho.2 ((HT15.out.move P17.kept.size fun b hb ho => ⟨ho, P17.kept.block b hb ho⟩).below hV))
        clear P17 HDoA HDoB HT15 HD1 HD2 HP16 HTo
        by_cases htx : stx = rt
        case pos =>
          subst htx
          have e9 : (stx.toList == stx.toList) = true := by simp
          clear HTT
          go_wp2_with (first | go_skip | (with_reducible refine mX st Tryz.isAgg33 ?_) | (with_reducible refine mX st Tryz.isAgg3 ?_) | (with_reducible refine mX st Tryz.isAgg9 ?_) | (with_reducible refine mXA st Tryz.isAgg39 Tryz.sizeOf39 ?_))
          have HPE := qh ((HP17.out.sub (own2 := []) (by simp) List.Pairwise.nil).anyD)
          go_roundw
          case rel => exact ⟨k + 1, A', B', hkl, by omega, by go_num, HS2, HPE.out⟩
          case measure => simp [intOf] <;> omega
        case neg =>
          as_aux_lemma =>
            obtain ⟨hk1, h4, t4, hhi⟩ := HTT.out.resolve_left htx
            have e1 : (a.kind == 1) = true := by simp [hk1]
            have e9 : (rt.toList == stx.toList) = false := by
              simpa using (show ¬ rt.toList = stx.toList from fun h => htx (by rw [ByteArray.toList_eq, ByteArray.toList_eq] at h; exact (ByteArray.ext (Array.toList_inj.1 h)).symm))
            have hta : taintB who c = true := by
              unfold taintB
              rw [← who_at h4 t4, HWho.out] at hhi
              rw [(inL_not who.own c).2 (HNo.out hk1)]
              simp [hhi]
            rw [hta] at HTn
            clear hk1 h4 t4 hhi hta htx HTT HNo HTx
            have stB := st
            go_wp2_with (first
              | go_skip | (with_reducible refine mX st Tryz.isAgg33 ?_) | (with_reducible refine mX st Tryz.isAgg3 ?_) | (with_reducible refine mX st Tryz.isAgg9 ?_) | (with_reducible refine mXA st Tryz.isAgg39 Tryz.sizeOf39 ?_)
              | (go_at_call 16; go_must (refine (HTn.out _ (Below.refl _ _)).mono ?_; rintro e v8 ⟨rfl, hb8⟩; replace st := st.call hb8)))
            have HPE := qh (((HP17.out.below hb8).sub (own2 := []) (by simp) List.Pairwise.nil).anyD)
            clear st stB
            go_roundw
            case rel => exact ⟨k + 1, A', B', hkl, by omega, by go_num, HS2, HPE.out⟩
            case measure => simp [intOf] <;> omega

theorem own : ownKnob Tryz.prog.godebug = none := by kernel_rfl
theorem laid : laidOutB Tryz.prog = true := by kernel_rfl

theorem contract (H : Type) (enc : TypeId × Value → H) (W : World) (base : Nat) (args : Array Value) (ds gs : List (DataW H)) (before : List MemPlace)
    (hval : ∀ (j : Nat) t v, Tryz.f4.params[j]? = some t → args[j]? = some v → Value.okWide Tryz.prog W .any base t v)
    (hW : DataW.Whole enc Tryz.prog Tryz.f4.params.toList Rows.topSecretSpec.vars false W args.toList ds gs before)
    (hsz : (DataW.weightsEach Tryz.prog (Tryz.f4.params.toList ++ Rows.topSecretSpec.plain.varTypes Tryz.prog) (ds ++ gs)).all (· ≤ reachBytes) = true) :
    Calls Tryz.prog 4 args W fun e W' => ∃ v, e = .returned v ∧ Rows.topSecretSpec.post enc Tryz.prog Tryz.f4 false true false false W args v W' := by
  have hW' := hW
  obtain ⟨p, q, hTrd, hV, rfl, hfz, hnd⟩ := hW
  have hA : DataW.TrodAll enc Tryz.prog W 0 (fun _ => true) true Tryz.f4.params.toList args.toList ds p := hTrd
  have hpar := Tryz.params4
  rw [hpar] at hA hval hsz
  obtain ⟨v0, vs0, d0, ds0, p0, q0, hargs0, rfl, rfl, h0, r0⟩ := trodAll_cons hA
  obtain ⟨v1, vs1, d1, ds1, p1, q1, hargs1, rfl, rfl, h1, r1⟩ := trodAll_cons r0
  obtain ⟨v2, vs2, d2, ds2, p2, q2, hargs2, rfl, rfl, h2, r2⟩ := trodAll_cons r1
  obtain ⟨hnil, rfl, rfl⟩ := trodAll_nil r2
  obtain rfl : args = #[v0, v1, v2] := by cases args; simp_all
  obtain ⟨rfl, rfl⟩ := trodVars_none hV
  have w0 : ∀ n ∈ d0.weights Tryz.prog 22, n ≤ reachBytes := fun n hn => by simpa using List.all_eq_true.1 hsz n (DataW.weights_mem_each (j := 0) (t := 22) (d := d0) rfl rfl n hn)
  obtain ⟨x0, a0, c0, rfl, hR0, hl0, hx0, hm0⟩ := arg_slice (fit := Deed.fit) (mass := Deed.mass) reads_Deed Tryz.underlying22 (by kernel_rfl : Tryz.prog.cellsOf _ = 12) (by decide) (by kernel_rfl : Tryz.prog.bytesOf _ = 136) (hval 0 _ v0 rfl rfl) h0 w0
  have w1 : ∀ n ∈ d1.weights Tryz.prog 3, n ≤ reachBytes := fun n hn => by simpa using List.all_eq_true.1 hsz n (DataW.weights_mem_each (j := 1) (t := 3) (d := d1) rfl rfl n hn)
  obtain ⟨x1, rfl, hx1⟩ := arg_int Tryz.underlying3 (hval 1 _ v1 rfl rfl) h1
  have w2 : ∀ n ∈ d2.weights Tryz.prog 9, n ≤ reachBytes := fun n hn => by simpa using List.all_eq_true.1 hsz n (DataW.weights_mem_each (j := 2) (t := 9) (d := d2) rfl rfl n hn)
  obtain ⟨x2, rfl, hx2, hm2⟩ := arg_string Tryz.underlying9 (hval 2 _ v2 rfl rfl) h2 w2
  refine (walk W x0 a0 c0 x1 x2 hR0 (by omega) (fun a ha => ⟨⟨by have := (hx0 a ha).2.2.2.2.2.2.2.2.2.1.1; omega, by have := (hx0 a ha).2.2.2.2.2.2.2.2.2.2.1.1; omega⟩, (hx0 a ha).2.2.2.2.2.2.2.2.2.2.2⟩) (by omega)).mono fun e W' ⟨he, hb⟩ => ?_
  exact ⟨_, he, law_post laid (by kernel_rfl) hW' rfl rfl (by kernel_rfl) Tryz.underlying4 hb⟩

theorem lifted (os : Os) (started : os.Started) (H : Type) (enc : TypeId × Value → H) :
    ReturnsInHanded {} Tryz.checked os 4 .any (Rows.topSecretSpec.pre6 enc Tryz.prog Tryz.f4 Rows.topSecretRow.domain false) (Rows.topSecretSpec.post enc Tryz.prog Tryz.f4 false true false false) := by
  refine returnsInHanded_of_change_sized (C := Tryz.checked) own started (by kernel_rfl) Tryz.func4
    (ChangeSpec.witness6 (enc := enc) (C := Tryz.checked) false ⟨#[], #[.slice none 0 0, .int .i64 0, .string .empty], []⟩ 12 (by kernel_rfl) (by kernel_rfl) (by kernel_rfl) (by kernel_rfl)) ?_
  intro W base args ds gs before hval hW _ hsz _
  exact contract H enc W base args ds gs before hval hW hsz

theorem proved : Rows.TopSecretSaid :=
  OpenClaim.holds_of_wide 4 Tryz.f4 rfl rfl rfl rfl rfl rfl rfl ⟨rfl, rfl, rfl, rfl, rfl⟩ rfl rfl rfl rfl rfl (by kernel_rfl) Tryz.func4 (by kernel_rfl)
    (of_decide_eq_true (by kernel_rfl)) (by unfold Func.isWrapper; first | (rw [if_pos (by decide +kernel)]; kernel_rfl) | (rw [if_neg (by decide +kernel)]; exact ⟨rfl, rfl⟩))
    (fun os started H enc _ => lifted os started H enc)

end Go.Proofs.YtnjjdpiofbajlaaGreat.topSecret
