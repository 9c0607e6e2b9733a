/- Walks and plain laws, part 9. -/
import Derived.Deep.RegionLaw
import Derived.Test.YtealbofmlieicaaP8
set_option linter.unusedSimpArgs false
set_option linter.unusedVariables false
set_option maxHeartbeats 16000000
set_option maxRecDepth 100000
namespace Go.Proofs.Ytealbofmlieicaa
open Go.RowKit
def mailV (m : Mail) (la : Option Addr) (lc : Nat) (ga : Option Addr) (gc : Nat) : Value := .agg #[.int .i64 m.host, .int .i64 m.thread, .slice la m.label.length lc, .slice ga m.grants.length gc, .string m.text]
abbrev newIn (w : World) : Nat → Prop := fun b => w.heap.size ≤ b
theorem ref_CopyMail (ok : Nat → Prop) (w : World) (m : Mail) (la : Option Addr) (lc : Nat) (ga : Option Addr) (gc : Nat) (hA : SlR ok w 2 RLev la lc m.label) (hB : SlR ok w 1 RInt ga gc m.grants) (hl : m.label.length * 16 ≤ 140737488355328) (hg : m.grants.length * 8 ≤ 140737488355328) :
  Calls Try.prog 11 #[mailV m la lc ga gc] w fun e w' => ∃ la' lc' ga' gc', e = .returned (mailV m la' lc' ga' gc') ∧ Below w.heap.size w w' ∧ SlR (newIn w) w' 2 RLev la' lc' m.label ∧ SlR (newIn w) w' 1 RInt ga' gc' m.grants := by
 obtain ⟨i0, hi, hz0, hz1, hz2⟩ := info_parts info_Level
 obtain ⟨j0, hj, hy0, hy1, hy2⟩ := info_parts info_int
 unfold mailV
 have st := St.start w
 go_enter Try.func11, Try.ntmps11
 go_wp2_with (first | (with_reducible refine mB 42 st ?_; clear st; intro g1 w1 hg1 st) | (with_reducible refine mA st Try.zeroValue42 ?_; clear st; intro g2 w2 hg2 st))
 have c2 : w2.cell? ⟨g1, 2, none⟩ = some (.slice la m.label.length lc) := st.cell (i := 0) rfl 2
 have c3 : w2.cell? ⟨g1, 3, none⟩ = some (.slice ga m.grants.length gc) := st.cell (i := 0) rfl 3
 have hz : g1 < w2.heap.size := st.ltAt (i := 0) rfl
 have hzz : g2 < w2.heap.size := st.ltAt (i := 1) rfl
 have f2 : w2.frozen? ⟨g1, 2, none⟩ = false := st.free (i := 0) rfl 2
 have f3 : w2.frozen? ⟨g1, 3, none⟩ = false := st.free (i := 0) rfl 3
 have h0 := (Below.refl w2.heap.size w2).drew
 have hw := st.below
 go_region_law (first
  | (refine step_copy (wanted_none rfl) _ _ 30 rfl 88 i0 _ 2 16 Try.underlying30 hi hz0 hz1 hz2 rfl (by decide) rfl rfl rfl (hA.below (hw.keep h0)) hl ?_; intro a1 k1 v1 hO1 hb1; replace hO1 := hO1.slr (ok := fun b => w2.heap.size ≤ b) (fun b hb => Nat.le_trans h0.size hb); replace h0 := h0.keep hb1; have d2 := (h0.cell (p := ⟨g1, 2, none⟩) hz).trans c2; have d3 := (h0.cell (p := ⟨g1, 3, none⟩) hz).trans c3; have e2 := (h0.frozen (p := ⟨g1, 2, none⟩) hz).trans f2; have e3 := (h0.frozen (p := ⟨g1, 3, none⟩) hz).trans f3)
  | (refine step_copy (wanted_none rfl) _ _ 31 rfl 3 j0 _ 1 8 Try.underlying31 hj hy0 hy1 hy2 rfl (by decide) rfl rfl rfl (hB.below (hw.keep h0)) hg ?_; intro a2 k2 v2 hO2 hb2; replace hO2 := hO2.slr (ok := fun b => w2.heap.size ≤ b) (fun b hb => Nat.le_trans h0.size hb); replace h0 := h0.keep hb2; have d2 := (h0.cell (p := ⟨g1, 2, none⟩) hz).trans c2; have d3 := (h0.cell (p := ⟨g1, 3, none⟩) hz).trans c3; have e2 := (h0.frozen (p := ⟨g1, 2, none⟩) hz).trans f2; have e3 := (h0.frozen (p := ⟨g1, 3, none⟩) hz).trans f3))
 all_goals
  first
   | replace hO1 := hO1.below hb2
   | replace hO2 := hO2.below hb1
  replace st := ((st.call h0).rebase.setCell (i := 0) rfl 2 (.slice a1 m.label.length k1)).setCell (i := 0) rfl 3 (.slice a2 m.grants.length k2)
  clear c2 c3 f2 f3 d2 d3 e2 e3 hb1 hb2
  go_wp2_with (first | (with_reducible refine mXA st Try.isAgg42 Try.sizeOf42 ?_) | (with_reducible refine mS 1 st Try.sizeOf42 ?_; clear st; intro w3 st hw3m hw3z))
  have hc := fun j => st.cell (i := 1) rfl j
  have hk := st.keeps (ok := fun b => w2.heap.size ≤ b) (by simp; omega)
  refine bodyPost_ret (v := mailV m a1 k1 a2 k2) ?hr rfl ⟨_, _, _, _, rfl, ?_, ?_, ?_⟩
  case hr => simp [results, Try.results11, go_sem, hc, mailV, putL]
  ·exact (hw.keep h0).trans (st.belowB (by have := hw.size; have := h0.size; omega) (by simp; omega))
  ·exact (hO1.keep hk).okay (fun b hb => by have := hw.size; show w.heap.size ≤ b; omega)
  ·exact (hO2.keep hk).okay (fun b hb => by have := hw.size; show w.heap.size ≤ b; omega)
def frameV (f : Frame) (la : Option Addr) (lc : Nat) (ga : Option Addr) (gc : Nat) (ca : Option Addr) (cc : Nat) : Value := .agg #[.int .i64 f.src, .int .i64 f.dst, .int .i64 f.seq, .bool f.ack, .int .i64 f.thread, .int .i64 f.mail.host, .int .i64 f.mail.thread, .slice la f.mail.label.length lc, .slice ga f.mail.grants.length gc, .string f.mail.text, .slice ca f.certs.length cc]
structure Frame.Fits (f : Frame) : Prop where
 label : f.mail.label.length * 16 ≤ 140737488355328
 grants : f.mail.grants.length * 8 ≤ 140737488355328
 certs : f.certs.length * 32 ≤ 140737488355328
def sentCells (s : Sent) (la : Option Addr) (lc : Nat) (ga : Option Addr) (gc : Nat) (ca : Option Addr) (cc : Nat) : List Value := [.int .i64 s.frame.src, .int .i64 s.frame.dst, .int .i64 s.frame.seq, .bool s.frame.ack, .int .i64 s.frame.thread, .int .i64 s.frame.mail.host, .int .i64 s.frame.mail.thread, .slice la s.frame.mail.label.length lc, .slice ga s.frame.mail.grants.length gc, .string s.frame.mail.text, .slice ca s.frame.certs.length cc, .int .i64 s.tries, .int .i64 s.due]
def besides (B : Nat) (o : Option Addr) (b : Nat) : Prop := B ≤ b ∧ o.map (·.block) ≠ some b
theorem RSent.move {ok ok' : Nat → Prop} {w w' : World} {cs : List Value} {s : Sent} (h : RSent ok w cs s) (hs : w.heap.size ≤ w'.heap.size) (hk : ∀ b, b < w.heap.size → ok b → ok' b ∧ w'.heap[b]? = w.heap[b]?) : RSent ok' w' cs s := by
 obtain ⟨la, lc, ga, gc, ca, cc, e, h1, h2, h3⟩ := h
 exact ⟨la, lc, ga, gc, ca, cc, e, h1.move hs hk fun _ _ h => h, h2.move hs hk fun _ _ h => h, h3.move hs hk fun _ _ h => h⟩
theorem slices_Clone_int {R : List Value → Int → Prop} (ok : Nat → Prop) (w : World) (a : Option Addr) (c : Nat) (l : List Int) (hl : l.length * 8 ≤ 140737488355328) (hR : SlR ok w 1 R a c l) :
  Calls Try.prog 53 #[.slice a l.length c] w fun e w' => ∃ a' c', e = .returned (.slice a' l.length c') ∧ Below w.heap.size w w' ∧ Own w.heap.size 3 w' 1 R a' c' l := by
 obtain ⟨i0, hi, hz0, hz1, hz2⟩ := info_parts info_int
 have hcmp := fun (ww : World) (a : Option Addr) (n c : Nat) => Lib.run_eql_slice_nil ww 31 _ a n c 0 0 Try.underlying31
 cases a with
 | none =>
  have h0 := hR.2.2.1 rfl
  have hn := hR.1
  obtain rfl : l = [] := List.eq_nil_of_length_eq_zero (by omega)
  clear hl hR hi hz0 hz1 hz2 h0 hn
  go_enter Try.func53, Try.ntmps53
  go_wp2
  go_ret
  exact ⟨none, 0, rfl, Below.refl _ _, Own.nil _ _ _ _ _⟩
 | some ad =>
  go_enter Try.func53, Try.ntmps53
  go_wp2_with (first | (at_builtin; refine wpList_app rfl _ _ 31 rfl 3 i0 _ 1 8 Try.underlying31 hi hz0 hz1 hz2 rfl (by decide) (base := w.heap.size) rfl rfl (Own.made (Nat.le_refl _)) rfl rfl (hR.below ((Below.refl _ _).alloc (Nat.le_refl _) _)) ?_ ?_ ?_ ?_))
  ·simpa using hl
  ·simp [maxLen]; omega
  ·simp
  ·intro a' c' w' hO hg _
   go_wp2
   go_ret
   exact ⟨a', c', rfl, ((Below.refl _ _).alloc (Nat.le_refl _) _).grown hg (by simp) (by simp), hO⟩
def frameZ : Value := .agg #[.int .i64 0, .int .i64 0, .int .i64 0, .bool false, .int .i64 0, .int .i64 0, .int .i64 0, .slice none 0 0, .slice none 0 0, .string ⟨#[]⟩, .slice none 0 0]
structure MailR (ok : Nat → Prop) (w : World) (m : Mail) (la : Option Addr) (lc : Nat) (ga : Option Addr) (gc : Nat) : Prop where
 label : SlR ok w 2 RLev la lc m.label
 grants : SlR ok w 1 RInt ga gc m.grants
theorem MailR.below {ok : Nat → Prop} {w w' : World} {m : Mail} {la : Option Addr} {lc : Nat} {ga : Option Addr} {gc : Nat} (h : MailR ok w m la lc ga gc) (hb : Below w.heap.size w w') : MailR ok w' m la lc ga gc := ⟨h.label.below hb, h.grants.below hb⟩
structure FrameR (ok : Nat → Prop) (w : World) (f : Frame) (la : Option Addr) (lc : Nat) (ga : Option Addr) (gc : Nat) (ca : Option Addr) (cc : Nat) : Prop where
 mail : MailR ok w f.mail la lc ga gc
 certs : SlR ok w 4 RCert ca cc f.certs
theorem FrameR.below {ok : Nat → Prop} {w w' : World} {f : Frame} {la : Option Addr} {lc : Nat} {ga : Option Addr} {gc : Nat} {ca : Option Addr} {cc : Nat} (h : FrameR ok w f la lc ga gc ca cc) (hb : Below w.heap.size w w') : FrameR ok w' f la lc ga gc ca cc := ⟨h.mail.below hb, h.certs.below hb⟩
theorem ref_SameMail (ok ok' : Nat → Prop) (w : World) (m : Mail) (la : Option Addr) (lc : Nat) (ga : Option Addr) (gc : Nat) (la' : Option Addr) (lc' : Nat) (ga' : Option Addr) (gc' : Nat) (h : MailR ok w m la lc ga gc) (h' : MailR ok' w m la' lc' ga' gc') :
  Calls Try.prog 9 #[mailV m la lc ga gc, mailV m la' lc' ga' gc'] w fun e w' => e = .returned (.bool true) ∧ Below w.heap.size w w' := by
 unfold mailV
 have st := St.start w
 go_enter Try.func9, Try.ntmps9
 go_wp2_with (first
  | (refine mem_box st (wanted_none rfl) _ _ rfl _ rfl _ rfl ?_; clear st; intro g wx hgx st hbx; clear hgx hbx; simp [Act.eval, Act.put, Value.cells, putL] at st) | (with_reducible refine at_alloc 42 ?_; refine mem_alloc st (wanted_none rfl) 42 rfl _ Try.zeroValue42 _ rfl ?_; clear st; intro g wx hgx st hbx; clear hgx hbx; simp [Act.eval, Act.put, Value.cells, putL] at st) | (with_reducible refine at_alloc 3 ?_; refine mem_alloc st (wanted_none rfl) 3 rfl _ Try.zeroValue3 _ rfl ?_; clear st; intro g wx hgx st hbx; clear hgx hbx; simp [Act.eval, Act.put, Value.cells, putL] at st) | (with_reducible refine at_alloc 9 ?_; refine mem_alloc st (wanted_none rfl) 9 rfl _ Try.zeroValue9 _ rfl ?_; clear st; intro g wx hgx st hbx; clear hgx hbx; simp [Act.eval, Act.put, Value.cells, putL] at st) | (with_reducible refine at_alloc 30 ?_; refine mem_alloc st (wanted_none rfl) 30 rfl _ Try.zeroValue30 _ rfl ?_; clear st; intro g wx hgx st hbx; clear hgx hbx; simp [Act.eval, Act.put, Value.cells, putL] at st) | (with_reducible refine at_alloc 31 ?_; refine mem_alloc st (wanted_none rfl) 31 rfl _ Try.zeroValue31 _ rfl ?_; clear st; intro g wx hgx st hbx; clear hgx hbx; simp [Act.eval, Act.put, Value.cells, putL] at st) | (with_reducible refine mXA st Try.isAgg42 Try.sizeOf42 ?_) | (with_reducible refine mX st Try.isAgg3 ?_) | (with_reducible refine mX st Try.isAgg9 ?_) | (with_reducible refine mX st Try.isAgg30 ?_) | (with_reducible refine mX st Try.isAgg31 ?_) | (with_reducible refine mSX st Try.sizeOf42 ?_; clear st; intro wx st _ _) | (with_reducible refine mSX st Try.sizeOf3 ?_; clear st; intro wx st _ _) | (with_reducible refine mSX st Try.sizeOf9 ?_; clear st; intro wx st _ _) | (with_reducible refine mSX st Try.sizeOf30 ?_; clear st; intro wx st _ _) | (with_reducible refine mSX st Try.sizeOf31 ?_; clear st; intro wx st _ _)
  | (go_at_call 29; refine (ref_SameLabel ok ok' _ _ _ _ _ _ _ (h.label.below st.below) (h'.label.below st.below)).mono ?_; rintro r v1 ⟨rfl, hb1⟩; replace st := st.call hb1; clear hb1)
  | (go_at_call 30; refine (ref_SameNumbers ok ok' _ _ _ _ _ _ _ (h.grants.below st.below) (h'.grants.below st.below)).mono ?_; rintro r v1 ⟨rfl, hb1⟩; replace st := st.call hb1; clear hb1))
 go_ret
 exact ⟨by simp, st.below⟩
theorem wire_host (h : Int) (w : World) : Calls Try.prog 43 #[.int .i64 h] w fun e w' => e = .returned (.bool (four h)) ∧ w = w' := by
 by_cases h1 : 0 ≤ h <;> by_cases h2 : h < 4
 all_goals
  go_enter Try.func43, Try.ntmps43
  go_wp2
  go_ret
  exact ⟨ret_bool (by simp [four, h1, h2]), rfl⟩
theorem wire_thread (h : Int) (w : World) : Calls Try.prog 44 #[.int .i64 h] w fun e w' => e = .returned (.bool (four h)) ∧ w = w' := by
 by_cases h1 : 0 ≤ h <;> by_cases h2 : h < 4
 all_goals
  go_enter Try.func44, Try.ntmps44
  go_wp2
  go_ret
  exact ⟨ret_bool (by simp [four, h1, h2]), rfl⟩
theorem cat_Category (c : Int) (w : World) : Calls Try.prog 54 #[.int .i64 c] w fun e w' => e = .returned (.bool (catOk c)) ∧ w = w' := label_Category c w
theorem risesI_bad {l : List Int} {k : Nat} (h : k < l.length) (hI : Hid (risesI (-1) l = risesI (prevI l k) (l.drop k))) (hb : ¬ (prevI l k < l[k] ∧ catOk l[k] = true)) (m : Int) : risingB l m = false := by
 unfold risingB
 rw [hI.out, risesI_step l k h, if_neg hb]
 rfl
theorem risesI_go {l : List Int} {k : Nat} (h : k < l.length) (hI : Hid (risesI (-1) l = risesI (prevI l k) (l.drop k))) (hb : prevI l k < l[k] ∧ catOk l[k] = true) : Hid (risesI (-1) l = risesI (prevI l (k + 1)) (l.drop (k + 1))) := by
 show _ = _
 rw [hI.out, risesI_step l k h, if_pos hb]
theorem wire_rising (ok : Nat → Prop) (w : World) (la : Option Addr) (lc : Nat) (l : List Int) (m : Int) (hl : l.length * 8 ≤ 140737488355328) (hR : SlR ok w 1 RInt la lc l) :
  Calls Try.prog 45 #[.slice la l.length lc, .int .i64 m] w fun e w' => e = .returned (.bool (risingB l m)) ∧ Below w.heap.size w w' := by
 go_enter Try.func45, Try.ntmps45
 go_wp2
 go_loopw [9] (fun i wr => ∃ k : Nat, k ≤ l.length ∧ i = .int .i64 k ∧ Below w.heap.size w wr ∧ Hid (risesI (-1) l = risesI (prevI l k) (l.drop k))) (fun i _ => l.length - (intOf i).toNat)
 case atStart => exact ⟨0, Nat.zero_le _, rfl, Below.refl _ _, by rw [prevI_zero]; rfl⟩
 case round =>
  obtain ⟨k, hk, rfl, hB, hI⟩ := hrel
  by_cases hlt : k < l.length
  ·obtain ⟨b, o, rfl, hb, h1⟩ := (hR.below hB).int_at k hlt
   have hbs := hB.size
   cases hcat : catOk l[k]
   ·have HE := qh (risesI_bad hlt hI (fun h => by rw [hcat] at h; simp at h) m)
    have HC := qh hcat
    clear hcat
    go_wp2_with (first | (go_at_call 54; refine (cat_Category _ _).mono ?_; rintro e w2 ⟨rfl, rfl⟩; rw [HC.out]))
    go_ret
    exact ⟨by rw [HE.out]; rfl, hB⟩
   ·have HC := qh hcat
    by_cases hk0 : k = 0
    ·have HG := risesI_go hlt hI ⟨by rw [show prevI l k = -1 by rw [hk0, prevI_zero]]; have := (catOk_iff _).1 hcat; omega, hcat⟩
     have d3 : decide ((0 : Int) < (k : Int)) = false := by simp; omega
     have d4 : ¬ 0 < k := by omega
     clear hcat hk0
     go_wp2_with (first | (go_at_call 54; refine (cat_Category _ _).mono ?_; rintro e w2 ⟨rfl, rfl⟩; rw [HC.out]))
     go_roundw
     case rel => exact ⟨k + 1, hlt, by go_num, hB, HG⟩
     case measure => simp [intOf]; omega
    ·have hk0' : 0 < k := by omega
     have hki : k - 1 < l.length := by omega
     obtain ⟨b', o', hbo, _, h1'⟩ := (hR.below hB).int_at (k - 1) hki
     simp only [Option.some.injEq, Addr.mk.injEq, and_true] at hbo
     obtain ⟨rfl, rfl⟩ := hbo
     have hp := prevI_pos l k hlt hk0'
     have HP := qh hp
     have d3 : decide ((0 : Int) < (k : Int)) = true := by simp; omega
     have hcast : ((k : Int) - 1).toNat = k - 1 := by omega
     clear hp hk0
     by_cases hpc : l[k - 1] < l[k]
     ·have HG := risesI_go hlt hI ⟨by rw [HP.out]; exact hpc, HC.out⟩
      have d4 : decide (l[k] ≤ l[k - 1]) = false := by simp; omega
      clear hcat
      go_wp2_with (first | (go_at_call 54; refine (cat_Category _ _).mono ?_; rintro e w2 ⟨rfl, rfl⟩; rw [HC.out]))
      go_roundw
      case rel => exact ⟨k + 1, by omega, by go_num, hB, HG⟩
      case measure => simp [intOf]; omega
     ·have HE := qh (risesI_bad hlt hI (fun h => hpc (by rw [← HP.out]; exact h.1)) m)
      have hpc' : l[k] ≤ l[k - 1] := by omega
      have d4 : decide (l[k] ≤ l[k - 1]) = true := by simp; omega
      clear hpc hcat
      go_wp2_with (first | (go_at_call 54; refine (cat_Category _ _).mono ?_; rintro e w2 ⟨rfl, rfl⟩; rw [HC.out]))
      go_ret
      exact ⟨by rw [HE.out]; rfl, hB⟩
  ·have hn : k = l.length := by omega
   have e : risingB l m = decide ((l.length : Int) ≤ m) := by unfold risingB; rw [hI.out, List.drop_of_length_le (by omega)]; simp [risesI]
   have HE := qh e
   clear e hn
   go_wp2
   go_ret
   exact ⟨by rw [HE.out]; rfl, hB⟩
theorem wire_GoodMail (ok : Nat → Prop) (w : World) (m : Mail) (la : Option Addr) (lc : Nat) (ga : Option Addr) (gc : Nat) (hl : m.label.length * 16 ≤ 140737488355328) (hg : m.grants.length * 8 ≤ 140737488355328) (hR : MailR ok w m la lc ga gc) :
  Calls Try.prog 19 #[mailV m la lc ga gc] w fun e w' => e = .returned (.int .i64 (goodMailC m)) ∧ Below w.heap.size w w' := by
 unfold mailV
 obtain ⟨hA, hB⟩ := hR
 rcases chain4 (four m.host) (four m.thread) (goodL m.label) (risingB m.grants 8) with h1 | ⟨h1, h2⟩ | ⟨h1, h2, h3⟩ | ⟨h1, h2, h3, h4⟩ | ⟨h1, h2, h3, h4⟩
 ·have HE := qh (show goodMailC m = 2 by simp [goodMailC, h1])
  have H1 := qh h1; clear h1
  have st := St.start w
  go_enter Try.func19, Try.ntmps19
  go_wp2_with (first | go_skip | (with_reducible refine mB 42 st ?_; clear st; intro g1 w1 hg1 st) | (with_reducible refine mX st Try.isAgg3 ?_) | (with_reducible refine mX st Try.isAgg30 ?_) | (with_reducible refine mX st Try.isAgg31 ?_) | (with_reducible refine mX st Try.isAgg9 ?_) | (go_at_call 43; refine (wire_host _ _).mono ?_; rintro e v ⟨rfl, rfl⟩; rw [H1.out]))
  go_ret
  exact ⟨by rw [HE.out]; rfl, st.below⟩
 ·have HE := qh (show goodMailC m = 2 by simp [goodMailC, h1, h2])
  have H1 := qh h1; clear h1
  have H2 := qh h2; clear h2
  have st := St.start w
  go_enter Try.func19, Try.ntmps19
  go_wp2_with (first | go_skip | (with_reducible refine mB 42 st ?_; clear st; intro g1 w1 hg1 st) | (with_reducible refine mX st Try.isAgg3 ?_) | (with_reducible refine mX st Try.isAgg30 ?_) | (with_reducible refine mX st Try.isAgg31 ?_) | (with_reducible refine mX st Try.isAgg9 ?_) | (go_at_call 43; refine (wire_host _ _).mono ?_; rintro e v ⟨rfl, rfl⟩; rw [H1.out]) | (go_at_call 44; refine (wire_thread _ _).mono ?_; rintro e v ⟨rfl, rfl⟩; rw [H2.out]))
  go_ret
  exact ⟨by rw [HE.out]; rfl, st.below⟩
 ·have HE := qh (show goodMailC m = 2 by simp [goodMailC, h1, h2, h3])
  have H1 := qh h1; clear h1
  have H2 := qh h2; clear h2
  have H3 := qh h3; clear h3
  have st := St.start w
  go_enter Try.func19, Try.ntmps19
  go_wp2_with (first | go_skip | (with_reducible refine mB 42 st ?_; clear st; intro g1 w1 hg1 st) | (with_reducible refine mX st Try.isAgg3 ?_) | (with_reducible refine mX st Try.isAgg30 ?_) | (with_reducible refine mX st Try.isAgg31 ?_) | (with_reducible refine mX st Try.isAgg9 ?_) | (go_at_call 43; refine (wire_host _ _).mono ?_; rintro e v ⟨rfl, rfl⟩; rw [H1.out]) | (go_at_call 44; refine (wire_thread _ _).mono ?_; rintro e v ⟨rfl, rfl⟩; rw [H2.out]) | (go_at_call 34; refine (label_Good ok _ _ _ _ hl (hA.below st.below)).mono ?_; rintro e v2 ⟨rfl, hb2⟩; rw [H3.out]; replace st := st.call hb2; clear hb2))
  go_ret
  exact ⟨by rw [HE.out]; rfl, st.below⟩
 ·have HE := qh (show goodMailC m = 2 by simp [goodMailC, h1, h2, h3, h4])
  have H1 := qh h1; clear h1
  have H2 := qh h2; clear h2
  have H3 := qh h3; clear h3
  have H4 := qh h4; clear h4
  have st := St.start w
  go_enter Try.func19, Try.ntmps19
  go_wp2_with (first | go_skip | (with_reducible refine mB 42 st ?_; clear st; intro g1 w1 hg1 st) | (with_reducible refine mX st Try.isAgg3 ?_) | (with_reducible refine mX st Try.isAgg30 ?_) | (with_reducible refine mX st Try.isAgg31 ?_) | (with_reducible refine mX st Try.isAgg9 ?_) | (go_at_call 43; refine (wire_host _ _).mono ?_; rintro e v ⟨rfl, rfl⟩; rw [H1.out]) | (go_at_call 44; refine (wire_thread _ _).mono ?_; rintro e v ⟨rfl, rfl⟩; rw [H2.out]) | (go_at_call 34; refine (label_Good ok _ _ _ _ hl (hA.below st.below)).mono ?_; rintro e v2 ⟨rfl, hb2⟩; rw [H3.out]; replace st := st.call hb2; clear hb2) | (go_at_call 45; refine (wire_rising ok _ _ _ _ _ hg (hB.below st.below)).mono ?_; rintro e v3 ⟨rfl, hb3⟩; rw [H4.out]; replace st := st.call hb3; clear hb3))
  go_ret
  exact ⟨by rw [HE.out]; rfl, st.below⟩
 ·have HE := qh (show goodMailC m = if 64 < m.text.size then 9 else 0 by simp [goodMailC, h1, h2, h3, h4])
  have H1 := qh h1; clear h1
  have H2 := qh h2; clear h2
  have H3 := qh h3; clear h3
  have H4 := qh h4; clear h4
  have st := St.start w
  by_cases ht : 64 < m.text.size
  ·rw [if_pos ht] at HE
   go_enter Try.func19, Try.ntmps19
   go_wp2_with (first | go_skip | (with_reducible refine mB 42 st ?_; clear st; intro g1 w1 hg1 st) | (with_reducible refine mX st Try.isAgg3 ?_) | (with_reducible refine mX st Try.isAgg30 ?_) | (with_reducible refine mX st Try.isAgg31 ?_) | (with_reducible refine mX st Try.isAgg9 ?_) | (go_at_call 43; refine (wire_host _ _).mono ?_; rintro e v ⟨rfl, rfl⟩; rw [H1.out]) | (go_at_call 44; refine (wire_thread _ _).mono ?_; rintro e v ⟨rfl, rfl⟩; rw [H2.out]) | (go_at_call 34; refine (label_Good ok _ _ _ _ hl (hA.below st.below)).mono ?_; rintro e v2 ⟨rfl, hb2⟩; rw [H3.out]; replace st := st.call hb2; clear hb2) | (go_at_call 45; refine (wire_rising ok _ _ _ _ _ hg (hB.below st.below)).mono ?_; rintro e v3 ⟨rfl, hb3⟩; rw [H4.out]; replace st := st.call hb3; clear hb3))
   go_ret
   exact ⟨by rw [HE.out]; rfl, st.below⟩
  ·rw [if_neg ht] at HE
   go_enter Try.func19, Try.ntmps19
   go_wp2_with (first | go_skip | (with_reducible refine mB 42 st ?_; clear st; intro g1 w1 hg1 st) | (with_reducible refine mX st Try.isAgg3 ?_) | (with_reducible refine mX st Try.isAgg30 ?_) | (with_reducible refine mX st Try.isAgg31 ?_) | (with_reducible refine mX st Try.isAgg9 ?_) | (go_at_call 43; refine (wire_host _ _).mono ?_; rintro e v ⟨rfl, rfl⟩; rw [H1.out]) | (go_at_call 44; refine (wire_thread _ _).mono ?_; rintro e v ⟨rfl, rfl⟩; rw [H2.out]) | (go_at_call 34; refine (label_Good ok _ _ _ _ hl (hA.below st.below)).mono ?_; rintro e v2 ⟨rfl, hb2⟩; rw [H3.out]; replace st := st.call hb2; clear hb2) | (go_at_call 45; refine (wire_rising ok _ _ _ _ _ hg (hB.below st.below)).mono ?_; rintro e v3 ⟨rfl, hb3⟩; rw [H4.out]; replace st := st.call hb3; clear hb3))
   go_ret
   exact ⟨by rw [HE.out]; rfl, st.below⟩
structure Frame.FitsW (f : Frame) : Prop where
 label : f.mail.label.length * 16 ≤ 140737488355328
 grants : f.mail.grants.length * 8 ≤ 140737488355328
 certs : f.certs.length * 32 ≤ 140737488355328
 text : f.mail.text.size ≤ 140737488355328


end Go.Proofs.Ytealbofmlieicaa
