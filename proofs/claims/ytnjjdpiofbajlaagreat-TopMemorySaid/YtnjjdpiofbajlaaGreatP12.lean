/- Walks and plain laws, part 12. -/
import Derived.Deep.RegionLaw
import Derived.Test.YtnjjdpiofbajlaaGreatP10
import Derived.Test.YtnjjdpiofbajlaaGreatP8
set_option linter.unusedSimpArgs false
set_option linter.unusedVariables false
set_option maxHeartbeats 16000000
set_option maxRecDepth 100000
namespace Go.Proofs.YtnjjdpiofbajlaaGreat
open Go.RowKit
def mailV (m : Mail) (la : Option Addr) (lc : Nat) (ga : Option Addr) (gc : Nat) : Value := .agg #[.int .i64 m.host, .int .i64 m.thread, .slice la m.label.length lc, .slice ga m.grants.length gc, .string m.text]
abbrev newIn (w : World) : Nat → Prop := fun b => w.heap.size ≤ b
def frameV (f : Frame) (la : Option Addr) (lc : Nat) (ga : Option Addr) (gc : Nat) (ca : Option Addr) (cc : Nat) : Value := .agg #[.int .i64 f.src, .int .i64 f.dst, .int .i64 f.seq, .bool f.ack, .int .i64 f.thread, .int .i64 f.mail.host, .int .i64 f.mail.thread, .slice la f.mail.label.length lc, .slice ga f.mail.grants.length gc, .string f.mail.text, .slice ca f.certs.length cc]
structure Frame.Fits (f : Frame) : Prop where
 label : f.mail.label.length * 16 ≤ 140737488355328
 grants : f.mail.grants.length * 8 ≤ 140737488355328
 certs : f.certs.length * 32 ≤ 140737488355328
theorem info_Sent : (Tryz.prog.info? 148).map (fun i => (i.zero, i.size, i.bytes)) = some (some (.agg #[.int .i64 0, .int .i64 0, .int .i64 0, .bool false, .int .i64 0, .int .i64 0, .int .i64 0, .slice none 0 0, .slice none 0 0, .string .empty, .slice none 0 0, .int .i64 0, .int .i64 0]), 13, 160) := by kernel_rfl
def sentCells (s : Sent) (la : Option Addr) (lc : Nat) (ga : Option Addr) (gc : Nat) (ca : Option Addr) (cc : Nat) : List Value := [.int .i64 s.frame.src, .int .i64 s.frame.dst, .int .i64 s.frame.seq, .bool s.frame.ack, .int .i64 s.frame.thread, .int .i64 s.frame.mail.host, .int .i64 s.frame.mail.thread, .slice la s.frame.mail.label.length lc, .slice ga s.frame.mail.grants.length gc, .string s.frame.mail.text, .slice ca s.frame.certs.length cc, .int .i64 s.tries, .int .i64 s.due]
def besides (B : Nat) (o : Option Addr) (b : Nat) : Prop := B ≤ b ∧ o.map (·.block) ≠ some b
theorem RSent.move {ok ok' : Nat → Prop} {w w' : World} {cs : List Value} {s : Sent} (h : RSent ok w cs s) (hs : w.heap.size ≤ w'.heap.size) (hk : ∀ b, b < w.heap.size → ok b → ok' b ∧ w'.heap[b]? = w.heap[b]?) : RSent ok' w' cs s := by
 obtain ⟨la, lc, ga, gc, ca, cc, e, h1, h2, h3⟩ := h
 exact ⟨la, lc, ga, gc, ca, cc, e, h1.move hs hk fun _ _ h => h, h2.move hs hk fun _ _ h => h, h3.move hs hk fun _ _ h => h⟩
theorem slices_Clone_Sent {R : List Value → Sent → Prop} (ok : Nat → Prop) (w : World) (a : Option Addr) (c : Nat) (l : List Sent) (hl : l.length * 160 ≤ 140737488355328) (hR : SlR ok w 13 R a c l) :
  Calls Tryz.prog 80 #[.slice a l.length c] w fun e w' => ∃ a' c', e = .returned (.slice a' l.length c') ∧ Below w.heap.size w w' ∧ Own w.heap.size 148 w' 13 R a' c' l := by
 obtain ⟨i0, hi, hz0, hz1, hz2⟩ := info_parts info_Sent
 have hcmp := fun (ww : World) (a : Option Addr) (n c : Nat) => Lib.run_eql_slice_nil ww 77 _ a n c 0 0 Tryz.underlying77
 cases a with
 | none =>
  have h0 := hR.2.2.1 rfl
  have hn := hR.1
  obtain rfl : l = [] := List.eq_nil_of_length_eq_zero (by omega)
  clear hl hR hi hz0 hz1 hz2 h0 hn
  go_enter Tryz.func80, Tryz.ntmps80
  go_wp2
  go_ret
  exact ⟨none, 0, rfl, Below.refl _ _, Own.nil _ _ _ _ _⟩
 | some ad =>
  go_enter Tryz.func80, Tryz.ntmps80
  go_wp2_with (first | (at_builtin; refine wpList_app rfl _ _ 77 rfl 148 i0 _ 13 160 Tryz.underlying77 hi hz0 hz1 hz2 rfl (by decide) (base := w.heap.size) rfl rfl (Own.made (Nat.le_refl _)) rfl rfl (hR.below ((Below.refl _ _).alloc (Nat.le_refl _) _)) ?_ ?_ ?_ ?_))
  ·simpa using hl
  ·simp [maxLen]; omega
  ·simp
  ·intro a' c' w' hO hg _
   go_wp2
   go_ret
   exact ⟨a', c', rfl, ((Below.refl _ _).alloc (Nat.le_refl _) _).grown hg (by simp) (by simp), hO⟩
theorem slices_Clone_Cert {R : List Value → Cert → Prop} (ok : Nat → Prop) (w : World) (a : Option Addr) (c : Nat) (l : List Cert) (hl : l.length * 32 ≤ 140737488355328) (hR : SlR ok w 4 R a c l) :
  Calls Tryz.prog 32 #[.slice a l.length c] w fun e w' => ∃ a' c', e = .returned (.slice a' l.length c') ∧ Below w.heap.size w w' ∧ Own w.heap.size 47 w' 4 R a' c' l := by
 obtain ⟨i0, hi, hz0, hz1, hz2⟩ := info_parts info_Cert
 have hcmp := fun (ww : World) (a : Option Addr) (n c : Nat) => Lib.run_eql_slice_nil ww 44 _ a n c 0 0 Tryz.underlying44
 cases a with
 | none =>
  have h0 := hR.2.2.1 rfl
  have hn := hR.1
  obtain rfl : l = [] := List.eq_nil_of_length_eq_zero (by omega)
  clear hl hR hi hz0 hz1 hz2 h0 hn
  go_enter Tryz.func32, Tryz.ntmps32
  go_wp2
  go_ret
  exact ⟨none, 0, rfl, Below.refl _ _, Own.nil _ _ _ _ _⟩
 | some ad =>
  go_enter Tryz.func32, Tryz.ntmps32
  go_wp2_with (first | (at_builtin; refine wpList_app rfl _ _ 44 rfl 47 i0 _ 4 32 Tryz.underlying44 hi hz0 hz1 hz2 rfl (by decide) (base := w.heap.size) rfl rfl (Own.made (Nat.le_refl _)) rfl rfl (hR.below ((Below.refl _ _).alloc (Nat.le_refl _) _)) ?_ ?_ ?_ ?_))
  ·simpa using hl
  ·simp [maxLen]; omega
  ·simp
  ·intro a' c' w' hO hg _
   go_wp2
   go_ret
   exact ⟨a', c', rfl, ((Below.refl _ _).alloc (Nat.le_refl _) _).grown hg (by simp) (by simp), hO⟩
theorem slices_Clone_int {R : List Value → Int → Prop} (ok : Nat → Prop) (w : World) (a : Option Addr) (c : Nat) (l : List Int) (hl : l.length * 8 ≤ 140737488355328) (hR : SlR ok w 1 R a c l) :
  Calls Tryz.prog 95 #[.slice a l.length c] w fun e w' => ∃ a' c', e = .returned (.slice a' l.length c') ∧ Below w.heap.size w w' ∧ Own w.heap.size 3 w' 1 R a' c' l := by
 obtain ⟨i0, hi, hz0, hz1, hz2⟩ := info_parts info_int
 have hcmp := fun (ww : World) (a : Option Addr) (n c : Nat) => Lib.run_eql_slice_nil ww 28 _ a n c 0 0 Tryz.underlying28
 cases a with
 | none =>
  have h0 := hR.2.2.1 rfl
  have hn := hR.1
  obtain rfl : l = [] := List.eq_nil_of_length_eq_zero (by omega)
  clear hl hR hi hz0 hz1 hz2 h0 hn
  go_enter Tryz.func95, Tryz.ntmps95
  go_wp2
  go_ret
  exact ⟨none, 0, rfl, Below.refl _ _, Own.nil _ _ _ _ _⟩
 | some ad =>
  go_enter Tryz.func95, Tryz.ntmps95
  go_wp2_with (first | (at_builtin; refine wpList_app rfl _ _ 28 rfl 3 i0 _ 1 8 Tryz.underlying28 hi hz0 hz1 hz2 rfl (by decide) (base := w.heap.size) rfl rfl (Own.made (Nat.le_refl _)) rfl rfl (hR.below ((Below.refl _ _).alloc (Nat.le_refl _) _)) ?_ ?_ ?_ ?_))
  ·simpa using hl
  ·simp [maxLen]; omega
  ·simp
  ·intro a' c' w' hO hg _
   go_wp2
   go_ret
   exact ⟨a', c', rfl, ((Below.refl _ _).alloc (Nat.le_refl _) _).grown hg (by simp) (by simp), hO⟩
theorem line_wait (n : Int) (w : World) (h1 : 1 ≤ n) (h2 : n ≤ 5) :
  Calls Tryz.prog 85 #[.int .i64 n] w fun e w' => e = .returned (.int .i64 (2 ^ n.toNat)) ∧ w = w' := by
 rcases (show n = 1 ∨ n = 2 ∨ n = 3 ∨ n = 4 ∨ n = 5 by omega) with rfl | rfl | rfl | rfl | rfl
 all_goals
  go_enter Tryz.func85, Tryz.ntmps85
  go_wp2
  go_ret
  exact ⟨by rfl, rfl⟩
def frameZ : Value := .agg #[.int .i64 0, .int .i64 0, .int .i64 0, .bool false, .int .i64 0, .int .i64 0, .int .i64 0, .slice none 0 0, .slice none 0 0, .string ⟨#[]⟩, .slice none 0 0]
theorem line_Send_range (ok : Nat → Prop) (w : World) (next high : Int) (sa : Option Addr) (sc : Nat) (sent : List Sent) (e : Eight) (f : Frame) (la : Option Addr) (lc : Nat) (ga : Option Addr) (gc : Nat) (ca : Option Addr) (cc : Nat) (now : Int) (hR : SentR ok w sa sc sent)
  (h : lineOk ⟨next, sent, high, e⟩ = false ∨ now < 0 ∨ 1099511627776 < now) :
  Calls Tryz.prog 64 #[lineV next high sa sent.length sc e, frameV f la lc ga gc ca cc, .int .i64 now] w fun r w' => r = .returned (.tuple #[lineV next high sa sent.length sc e, frameZ, .int .i64 2]) ∧ Below w.heap.size w w' := by
 have hG := fun W (hW : SentR ok W sa sc sent) => line_Good ok W next high sa sc sent e hW
 generalize lineOk ⟨next, sent, high, e⟩ = g at h hG
 have HG := qh hG
 clear hG
 unfold lineV frameV frameZ at *
 have st := St.start w
 have tk := trivial
 rcases or3 (!g) (decide (now < 0)) (decide (1099511627776 < now)) with d | ⟨d0, d⟩ | ⟨d0, d1, d⟩ | ⟨d0, d1, d2⟩
 case inr.inr.inr =>
  exfalso
  simp at d0 d1 d2
  rcases h with h | h | h
  ·rw [h] at d0; simp at d0
  ·omega
  ·omega
 all_goals
  go_enter Tryz.func64, Tryz.ntmps64
  go_wp2_with (first
   | (with_reducible refine mB 80 st ?_; clear st; intro g1 w1 hg1 st) | (with_reducible refine mB 110 st ?_; clear st; intro g2 w2 hg2 st) | (with_reducible refine mA st Tryz.zeroValue80 ?_; clear st; intro g3 w3 hg3 st) | (with_reducible refine mA st Tryz.zeroValue110 ?_; clear st; intro g4 w4 hg4 st) | (with_reducible refine mXA st Tryz.isAgg80 Tryz.sizeOf80 ?_) | (with_reducible refine mS 2 st Tryz.sizeOf80 ?_; clear st; intro w8 st hw8m hw8z) | (with_reducible refine mS 3 st Tryz.sizeOf110 ?_; clear st; intro w9 st hw9m hw9z)
   | (go_at_call 78; refine (HG.out _ (SentR.below hR st.below)).mono ?_; rintro r v1 ⟨rfl, hb1⟩; replace st := st.call hb1; clear hb1))
  have hc := fun j => st.cell (i := 2) rfl j
  have hc' := fun j => st.cell (i := 3) rfl j
  refine bodyPost_ret (v := _) ?hr rfl ⟨rfl, st.below⟩
  case hr => simp [results, Tryz.results64, go_sem, hc, hc', putL]
theorem line_Send_full (ok : Nat → Prop) (w : World) (next high : Int) (sa : Option Addr) (sc : Nat) (sent : List Sent) (e : Eight) (f : Frame) (la : Option Addr) (lc : Nat) (ga : Option Addr) (gc : Nat) (ca : Option Addr) (cc : Nat) (now : Int) (hR : SentR ok w sa sc sent)
  (hg : lineOk ⟨next, sent, high, e⟩ = true) (h1 : 0 ≤ now) (h2 : now ≤ 1099511627776) (h3 : sent.length = 8 ∨ next = 1099511627775) :
  Calls Tryz.prog 64 #[lineV next high sa sent.length sc e, frameV f la lc ga gc ca cc, .int .i64 now] w fun r w' => r = .returned (.tuple #[lineV next high sa sent.length sc e, frameZ, .int .i64 5]) ∧ Below w.heap.size w w' := by
 have hG := fun W (hW : SentR ok W sa sc sent) => line_Good ok W next high sa sc sent e hW
 obtain ⟨b3, b4, b1, b2, b5⟩ := lineOk_high hg
 rw [hg] at hG
 have HG := qh hG
 clear hG hg
 have d0 : decide (now < 0) = false := by simp; omega
 have d1 : decide (1099511627776 < now) = false := by simp; omega
 unfold lineV frameV frameZ at *
 have st := St.start w
 have hq : (8 : Int) ≤ (sent.length : Int) ∨ ((sent.length : Int) < 8 ∧ 1099511627775 ≤ next) := by omega
 clear h3
 rcases hq with hq | ⟨hq, hq2⟩
 all_goals
  first | (have dq : decide ((8 : Int) ≤ (sent.length : Int)) = true := by simp; omega) | (have dq : decide ((8 : Int) ≤ (sent.length : Int)) = false := by simp; omega)
  try (have dq2 : decide (1099511627775 ≤ next) = true := by simp; omega)
  go_enter Tryz.func64, Tryz.ntmps64
  go_wp2_with (first
   | (with_reducible refine mB 80 st ?_; clear st; intro g1 w1 hg1 st) | (with_reducible refine mB 110 st ?_; clear st; intro g2 w2 hg2 st) | (with_reducible refine mA st Tryz.zeroValue80 ?_; clear st; intro g3 w3 hg3 st) | (with_reducible refine mA st Tryz.zeroValue110 ?_; clear st; intro g4 w4 hg4 st) | (with_reducible refine mXA st Tryz.isAgg80 Tryz.sizeOf80 ?_) | (with_reducible refine mX st Tryz.isAgg77 ?_) | (with_reducible refine mX st Tryz.isAgg3 ?_) | (with_reducible refine mS 2 st Tryz.sizeOf80 ?_; clear st; intro w8 st hw8m hw8z) | (with_reducible refine mS 3 st Tryz.sizeOf110 ?_; clear st; intro w9 st hw9m hw9z)
   | (go_at_call 78; refine (HG.out _ (SentR.below hR st.below)).mono ?_; rintro r v1 ⟨rfl, hb1⟩; replace st := st.call hb1; clear hb1))
  have hc := fun j => st.cell (i := 2) rfl j
  have hc' := fun j => st.cell (i := 3) rfl j
  refine bodyPost_ret (v := _) ?hr rfl ⟨rfl, st.below⟩
  case hr => simp [results, Tryz.results64, go_sem, hc, hc', putL]
structure MailR (ok : Nat → Prop) (w : World) (m : Mail) (la : Option Addr) (lc : Nat) (ga : Option Addr) (gc : Nat) : Prop where
 label : SlR ok w 2 RLev la lc m.label
 grants : SlR ok w 1 RInt ga gc m.grants
theorem MailR.below {ok : Nat → Prop} {w w' : World} {m : Mail} {la : Option Addr} {lc : Nat} {ga : Option Addr} {gc : Nat} (h : MailR ok w m la lc ga gc) (hb : Below w.heap.size w w') : MailR ok w' m la lc ga gc := ⟨h.label.below hb, h.grants.below hb⟩
structure FrameR (ok : Nat → Prop) (w : World) (f : Frame) (la : Option Addr) (lc : Nat) (ga : Option Addr) (gc : Nat) (ca : Option Addr) (cc : Nat) : Prop where
 mail : MailR ok w f.mail la lc ga gc
 certs : SlR ok w 4 RCert ca cc f.certs
theorem FrameR.below {ok : Nat → Prop} {w w' : World} {f : Frame} {la : Option Addr} {lc : Nat} {ga : Option Addr} {gc : Nat} {ca : Option Addr} {cc : Nat} (h : FrameR ok w f la lc ga gc ca cc) (hb : Below w.heap.size w w') : FrameR ok w' f la lc ga gc ca cc := ⟨h.mail.below hb, h.certs.below hb⟩
theorem wire_host (h : Int) (w : World) : Calls Tryz.prog 88 #[.int .i64 h] w fun e w' => e = .returned (.bool (four h)) ∧ w = w' := by
 by_cases h1 : 0 ≤ h <;> by_cases h2 : h < 4
 all_goals
  go_enter Tryz.func88, Tryz.ntmps88
  go_wp2
  go_ret
  exact ⟨ret_bool (by simp [four, h1, h2]), rfl⟩
theorem wire_thread (h : Int) (w : World) : Calls Tryz.prog 89 #[.int .i64 h] w fun e w' => e = .returned (.bool (four h)) ∧ w = w' := by
 by_cases h1 : 0 ≤ h <;> by_cases h2 : h < 4
 all_goals
  go_enter Tryz.func89, Tryz.ntmps89
  go_wp2
  go_ret
  exact ⟨ret_bool (by simp [four, h1, h2]), rfl⟩
theorem cat_Category (c : Int) (w : World) : Calls Tryz.prog 91 #[.int .i64 c] w fun e w' => e = .returned (.bool (catOk c)) ∧ w = w' := label_Category c w
theorem risesI_bad {l : List Int} {k : Nat} (h : k < l.length) (hI : Hid (risesI (-1) l = risesI (prevI l k) (l.drop k))) (hb : ¬ (prevI l k < l[k] ∧ catOk l[k] = true)) (m : Int) : risingB l m = false := by
 unfold risingB
 rw [hI.out, risesI_step l k h, if_neg hb]
 rfl
theorem risesI_go {l : List Int} {k : Nat} (h : k < l.length) (hI : Hid (risesI (-1) l = risesI (prevI l k) (l.drop k))) (hb : prevI l k < l[k] ∧ catOk l[k] = true) : Hid (risesI (-1) l = risesI (prevI l (k + 1)) (l.drop (k + 1))) := by
 show _ = _
 rw [hI.out, risesI_step l k h, if_pos hb]
theorem wire_rising (ok : Nat → Prop) (w : World) (la : Option Addr) (lc : Nat) (l : List Int) (m : Int) (hl : l.length * 8 ≤ 140737488355328) (hR : SlR ok w 1 RInt la lc l) :
  Calls Tryz.prog 90 #[.slice la l.length lc, .int .i64 m] w fun e w' => e = .returned (.bool (risingB l m)) ∧ Below w.heap.size w w' := by
 go_enter Tryz.func90, Tryz.ntmps90
 go_wp2
 go_loopw [9] (fun i wr => ∃ k : Nat, k ≤ l.length ∧ i = .int .i64 k ∧ Below w.heap.size w wr ∧ Hid (risesI (-1) l = risesI (prevI l k) (l.drop k))) (fun i _ => l.length - (intOf i).toNat)
 case atStart => exact ⟨0, Nat.zero_le _, rfl, Below.refl _ _, by rw [prevI_zero]; rfl⟩
 case round =>
  obtain ⟨k, hk, rfl, hB, hI⟩ := hrel
  by_cases hlt : k < l.length
  ·obtain ⟨b, o, rfl, hb, h1⟩ := (hR.below hB).int_at k hlt
   have hbs := hB.size
   cases hcat : catOk l[k]
   ·have HE := qh (risesI_bad hlt hI (fun h => by rw [hcat] at h; simp at h) m)
    have HC := qh hcat
    clear hcat
    go_wp2_with (first | (go_at_call 91; refine (cat_Category _ _).mono ?_; rintro e w2 ⟨rfl, rfl⟩; rw [HC.out]))
    go_ret
    exact ⟨by rw [HE.out]; rfl, hB⟩
   ·have HC := qh hcat
    by_cases hk0 : k = 0
    ·have HG := risesI_go hlt hI ⟨by rw [show prevI l k = -1 by rw [hk0, prevI_zero]]; have := (catOk_iff _).1 hcat; omega, hcat⟩
     have d3 : decide ((0 : Int) < (k : Int)) = false := by simp; omega
     have d4 : ¬ 0 < k := by omega
     clear hcat hk0
     go_wp2_with (first | (go_at_call 91; refine (cat_Category _ _).mono ?_; rintro e w2 ⟨rfl, rfl⟩; rw [HC.out]))
     go_roundw
     case rel => exact ⟨k + 1, hlt, by go_num, hB, HG⟩
     case measure => simp [intOf]; omega
    ·have hk0' : 0 < k := by omega
     have hki : k - 1 < l.length := by omega
     obtain ⟨b', o', hbo, _, h1'⟩ := (hR.below hB).int_at (k - 1) hki
     simp only [Option.some.injEq, Addr.mk.injEq, and_true] at hbo
     obtain ⟨rfl, rfl⟩ := hbo
     have hp := prevI_pos l k hlt hk0'
     have HP := qh hp
     have d3 : decide ((0 : Int) < (k : Int)) = true := by simp; omega
     have hcast : ((k : Int) - 1).toNat = k - 1 := by omega
     clear hp hk0
     by_cases hpc : l[k - 1] < l[k]
     ·have HG := risesI_go hlt hI ⟨by rw [HP.out]; exact hpc, HC.out⟩
      have d4 : decide (l[k] ≤ l[k - 1]) = false := by simp; omega
      clear hcat
      go_wp2_with (first | (go_at_call 91; refine (cat_Category _ _).mono ?_; rintro e w2 ⟨rfl, rfl⟩; rw [HC.out]))
      go_roundw
      case rel => exact ⟨k + 1, by omega, by go_num, hB, HG⟩
      case measure => simp [intOf]; omega
     ·have HE := qh (risesI_bad hlt hI (fun h => hpc (by rw [← HP.out]; exact h.1)) m)
      have hpc' : l[k] ≤ l[k - 1] := by omega
      have d4 : decide (l[k] ≤ l[k - 1]) = true := by simp; omega
      clear hpc hcat
      go_wp2_with (first | (go_at_call 91; refine (cat_Category _ _).mono ?_; rintro e w2 ⟨rfl, rfl⟩; rw [HC.out]))
      go_ret
      exact ⟨by rw [HE.out]; rfl, hB⟩
  ·have hn : k = l.length := by omega
   have e : risingB l m = decide ((l.length : Int) ≤ m) := by unfold risingB; rw [hI.out, List.drop_of_length_le (by omega)]; simp [risesI]
   have HE := qh e
   clear e hn
   go_wp2
   go_ret
   exact ⟨by rw [HE.out]; rfl, hB⟩
theorem wire_GoodCert (c : Cert) (w : World) : Calls Tryz.prog 66 #[.agg #[.int .i64 c.c, .int .i64 c.by_, .int .i64 c.host, .int .i64 c.till]] w fun e w' => e = .returned (.bool (goodCertB c)) ∧ Below w.heap.size w w' := by
 rcases chain6 (catOk c.c) (four c.by_) (four c.host) ((c.by_ != c.host)) (decide (0 ≤ c.till)) (decide (c.till ≤ 1099511627776)) with h1 | ⟨h1, h2⟩ | ⟨h1, h2, h3⟩ | ⟨h1, h2, h3, h4⟩ | ⟨h1, h2, h3, h4, h5⟩ | ⟨h1, h2, h3, h4, h5, h6⟩ | ⟨h1, h2, h3, h4, h5, h6⟩
 ·have HE := qh (show goodCertB c = false by simp [goodCertB, h1])
  have H1 := qh h1; clear h1
  have st := St.start w
  go_enter Tryz.func66, Tryz.ntmps66
  go_wp2_with (first | go_skip | (with_reducible refine mB 47 st ?_; clear st; intro g1 w1 hg1 st) | (with_reducible refine mX st Tryz.isAgg3 ?_) | (go_at_call 91; refine (cat_Category _ _).mono ?_; rintro e v ⟨rfl, rfl⟩; first | rw [H1.out]))
  go_ret
  exact ⟨by rw [HE.out]; rfl, st.below⟩
 ·have HE := qh (show goodCertB c = false by simp [goodCertB, h1, h2])
  have H1 := qh h1; clear h1
  have H2 := qh h2; clear h2
  have st := St.start w
  go_enter Tryz.func66, Tryz.ntmps66
  go_wp2_with (first | go_skip | (with_reducible refine mB 47 st ?_; clear st; intro g1 w1 hg1 st) | (with_reducible refine mX st Tryz.isAgg3 ?_) | (go_at_call 91; refine (cat_Category _ _).mono ?_; rintro e v ⟨rfl, rfl⟩; first | rw [H1.out]) | (go_at_call 88; refine (wire_host _ _).mono ?_; rintro e v ⟨rfl, rfl⟩; first | rw [H2.out]))
  go_ret
  exact ⟨by rw [HE.out]; rfl, st.below⟩
 ·have HE := qh (show goodCertB c = false by simp [goodCertB, h1, h2, h3])
  have H1 := qh h1; clear h1
  have H2 := qh h2; clear h2
  have H3 := qh h3; clear h3
  have st := St.start w
  go_enter Tryz.func66, Tryz.ntmps66
  go_wp2_with (first | go_skip | (with_reducible refine mB 47 st ?_; clear st; intro g1 w1 hg1 st) | (with_reducible refine mX st Tryz.isAgg3 ?_) | (go_at_call 91; refine (cat_Category _ _).mono ?_; rintro e v ⟨rfl, rfl⟩; first | rw [H1.out]) | (go_at_call 88; refine (wire_host _ _).mono ?_; rintro e v ⟨rfl, rfl⟩; first | rw [H2.out] | rw [H3.out]))
  go_ret
  exact ⟨by rw [HE.out]; rfl, st.below⟩
 ·have HE := qh (show goodCertB c = false by simp [goodCertB, h1, h2, h3, h4])
  have H1 := qh h1; clear h1
  have H2 := qh h2; clear h2
  have H3 := qh h3; clear h3
  have st := St.start w
  go_enter Tryz.func66, Tryz.ntmps66
  go_wp2_with (first | go_skip | (with_reducible refine mB 47 st ?_; clear st; intro g1 w1 hg1 st) | (with_reducible refine mX st Tryz.isAgg3 ?_) | (go_at_call 91; refine (cat_Category _ _).mono ?_; rintro e v ⟨rfl, rfl⟩; first | rw [H1.out]) | (go_at_call 88; refine (wire_host _ _).mono ?_; rintro e v ⟨rfl, rfl⟩; first | rw [H2.out] | rw [H3.out]))
  go_ret
  exact ⟨by rw [HE.out]; rfl, st.below⟩
 ·have HE := qh (show goodCertB c = false by simp [goodCertB, h1, h2, h3, h4, h5])
  have H1 := qh h1; clear h1
  have H2 := qh h2; clear h2
  have H3 := qh h3; clear h3
  have st := St.start w
  go_enter Tryz.func66, Tryz.ntmps66
  go_wp2_with (first | go_skip | (with_reducible refine mB 47 st ?_; clear st; intro g1 w1 hg1 st) | (with_reducible refine mX st Tryz.isAgg3 ?_) | (go_at_call 91; refine (cat_Category _ _).mono ?_; rintro e v ⟨rfl, rfl⟩; first | rw [H1.out]) | (go_at_call 88; refine (wire_host _ _).mono ?_; rintro e v ⟨rfl, rfl⟩; first | rw [H2.out] | rw [H3.out]))
  go_ret
  exact ⟨by rw [HE.out]; rfl, st.below⟩
 ·have HE := qh (show goodCertB c = false by simp [goodCertB, h1, h2, h3, h4, h5, h6])
  have H1 := qh h1; clear h1
  have H2 := qh h2; clear h2
  have H3 := qh h3; clear h3
  have st := St.start w
  go_enter Tryz.func66, Tryz.ntmps66
  go_wp2_with (first | go_skip | (with_reducible refine mB 47 st ?_; clear st; intro g1 w1 hg1 st) | (with_reducible refine mX st Tryz.isAgg3 ?_) | (go_at_call 91; refine (cat_Category _ _).mono ?_; rintro e v ⟨rfl, rfl⟩; first | rw [H1.out]) | (go_at_call 88; refine (wire_host _ _).mono ?_; rintro e v ⟨rfl, rfl⟩; first | rw [H2.out] | rw [H3.out]))
  go_ret
  exact ⟨by rw [HE.out]; rfl, st.below⟩
 ·have HE := qh (show goodCertB c = true by simp [goodCertB, h1, h2, h3, h4, h5, h6])
  have H1 := qh h1; clear h1
  have H2 := qh h2; clear h2
  have H3 := qh h3; clear h3
  have st := St.start w
  go_enter Tryz.func66, Tryz.ntmps66
  go_wp2_with (first | go_skip | (with_reducible refine mB 47 st ?_; clear st; intro g1 w1 hg1 st) | (with_reducible refine mX st Tryz.isAgg3 ?_) | (go_at_call 91; refine (cat_Category _ _).mono ?_; rintro e v ⟨rfl, rfl⟩; first | rw [H1.out]) | (go_at_call 88; refine (wire_host _ _).mono ?_; rintro e v ⟨rfl, rfl⟩; first | rw [H2.out] | rw [H3.out]))
  go_ret
  exact ⟨by rw [HE.out]; rfl, st.below⟩
theorem wire_GoodMail (ok : Nat → Prop) (w : World) (m : Mail) (la : Option Addr) (lc : Nat) (ga : Option Addr) (gc : Nat) (hl : m.label.length * 16 ≤ 140737488355328) (hg : m.grants.length * 8 ≤ 140737488355328) (hR : MailR ok w m la lc ga gc) :
  Calls Tryz.prog 62 #[mailV m la lc ga gc] w fun e w' => e = .returned (.int .i64 (goodMailC m)) ∧ Below w.heap.size w w' := by
 unfold mailV
 obtain ⟨hA, hB⟩ := hR
 rcases chain4 (four m.host) (four m.thread) (goodL m.label) (risingB m.grants 8) with h1 | ⟨h1, h2⟩ | ⟨h1, h2, h3⟩ | ⟨h1, h2, h3, h4⟩ | ⟨h1, h2, h3, h4⟩
 ·have HE := qh (show goodMailC m = 2 by simp [goodMailC, h1])
  have H1 := qh h1; clear h1
  have st := St.start w
  go_enter Tryz.func62, Tryz.ntmps62
  go_wp2_with (first | go_skip | (with_reducible refine mB 42 st ?_; clear st; intro g1 w1 hg1 st) | (with_reducible refine mX st Tryz.isAgg3 ?_) | (with_reducible refine mX st Tryz.isAgg27 ?_) | (with_reducible refine mX st Tryz.isAgg28 ?_) | (with_reducible refine mX st Tryz.isAgg9 ?_) | (go_at_call 88; refine (wire_host _ _).mono ?_; rintro e v ⟨rfl, rfl⟩; rw [H1.out]))
  go_ret
  exact ⟨by rw [HE.out]; rfl, st.below⟩
 ·have HE := qh (show goodMailC m = 2 by simp [goodMailC, h1, h2])
  have H1 := qh h1; clear h1
  have H2 := qh h2; clear h2
  have st := St.start w
  go_enter Tryz.func62, Tryz.ntmps62
  go_wp2_with (first | go_skip | (with_reducible refine mB 42 st ?_; clear st; intro g1 w1 hg1 st) | (with_reducible refine mX st Tryz.isAgg3 ?_) | (with_reducible refine mX st Tryz.isAgg27 ?_) | (with_reducible refine mX st Tryz.isAgg28 ?_) | (with_reducible refine mX st Tryz.isAgg9 ?_) | (go_at_call 88; refine (wire_host _ _).mono ?_; rintro e v ⟨rfl, rfl⟩; rw [H1.out]) | (go_at_call 89; refine (wire_thread _ _).mono ?_; rintro e v ⟨rfl, rfl⟩; rw [H2.out]))
  go_ret
  exact ⟨by rw [HE.out]; rfl, st.below⟩
 ·have HE := qh (show goodMailC m = 2 by simp [goodMailC, h1, h2, h3])
  have H1 := qh h1; clear h1
  have H2 := qh h2; clear h2
  have H3 := qh h3; clear h3
  have st := St.start w
  go_enter Tryz.func62, Tryz.ntmps62
  go_wp2_with (first | go_skip | (with_reducible refine mB 42 st ?_; clear st; intro g1 w1 hg1 st) | (with_reducible refine mX st Tryz.isAgg3 ?_) | (with_reducible refine mX st Tryz.isAgg27 ?_) | (with_reducible refine mX st Tryz.isAgg28 ?_) | (with_reducible refine mX st Tryz.isAgg9 ?_) | (go_at_call 88; refine (wire_host _ _).mono ?_; rintro e v ⟨rfl, rfl⟩; rw [H1.out]) | (go_at_call 89; refine (wire_thread _ _).mono ?_; rintro e v ⟨rfl, rfl⟩; rw [H2.out]) | (go_at_call 70; refine (label_Good ok _ _ _ _ hl (hA.below st.below)).mono ?_; rintro e v2 ⟨rfl, hb2⟩; rw [H3.out]; replace st := st.call hb2; clear hb2))
  go_ret
  exact ⟨by rw [HE.out]; rfl, st.below⟩
 ·have HE := qh (show goodMailC m = 2 by simp [goodMailC, h1, h2, h3, h4])
  have H1 := qh h1; clear h1
  have H2 := qh h2; clear h2
  have H3 := qh h3; clear h3
  have H4 := qh h4; clear h4
  have st := St.start w
  go_enter Tryz.func62, Tryz.ntmps62
  go_wp2_with (first | go_skip | (with_reducible refine mB 42 st ?_; clear st; intro g1 w1 hg1 st) | (with_reducible refine mX st Tryz.isAgg3 ?_) | (with_reducible refine mX st Tryz.isAgg27 ?_) | (with_reducible refine mX st Tryz.isAgg28 ?_) | (with_reducible refine mX st Tryz.isAgg9 ?_) | (go_at_call 88; refine (wire_host _ _).mono ?_; rintro e v ⟨rfl, rfl⟩; rw [H1.out]) | (go_at_call 89; refine (wire_thread _ _).mono ?_; rintro e v ⟨rfl, rfl⟩; rw [H2.out]) | (go_at_call 70; refine (label_Good ok _ _ _ _ hl (hA.below st.below)).mono ?_; rintro e v2 ⟨rfl, hb2⟩; rw [H3.out]; replace st := st.call hb2; clear hb2) | (go_at_call 90; refine (wire_rising ok _ _ _ _ _ hg (hB.below st.below)).mono ?_; rintro e v3 ⟨rfl, hb3⟩; rw [H4.out]; replace st := st.call hb3; clear hb3))
  go_ret
  exact ⟨by rw [HE.out]; rfl, st.below⟩
 ·have HE := qh (show goodMailC m = if 64 < m.text.size then 9 else 0 by simp [goodMailC, h1, h2, h3, h4])
  have H1 := qh h1; clear h1
  have H2 := qh h2; clear h2
  have H3 := qh h3; clear h3
  have H4 := qh h4; clear h4
  have st := St.start w
  by_cases ht : 64 < m.text.size
  ·rw [if_pos ht] at HE
   go_enter Tryz.func62, Tryz.ntmps62
   go_wp2_with (first | go_skip | (with_reducible refine mB 42 st ?_; clear st; intro g1 w1 hg1 st) | (with_reducible refine mX st Tryz.isAgg3 ?_) | (with_reducible refine mX st Tryz.isAgg27 ?_) | (with_reducible refine mX st Tryz.isAgg28 ?_) | (with_reducible refine mX st Tryz.isAgg9 ?_) | (go_at_call 88; refine (wire_host _ _).mono ?_; rintro e v ⟨rfl, rfl⟩; rw [H1.out]) | (go_at_call 89; refine (wire_thread _ _).mono ?_; rintro e v ⟨rfl, rfl⟩; rw [H2.out]) | (go_at_call 70; refine (label_Good ok _ _ _ _ hl (hA.below st.below)).mono ?_; rintro e v2 ⟨rfl, hb2⟩; rw [H3.out]; replace st := st.call hb2; clear hb2) | (go_at_call 90; refine (wire_rising ok _ _ _ _ _ hg (hB.below st.below)).mono ?_; rintro e v3 ⟨rfl, hb3⟩; rw [H4.out]; replace st := st.call hb3; clear hb3))
   go_ret
   exact ⟨by rw [HE.out]; rfl, st.below⟩
  ·rw [if_neg ht] at HE
   go_enter Tryz.func62, Tryz.ntmps62
   go_wp2_with (first | go_skip | (with_reducible refine mB 42 st ?_; clear st; intro g1 w1 hg1 st) | (with_reducible refine mX st Tryz.isAgg3 ?_) | (with_reducible refine mX st Tryz.isAgg27 ?_) | (with_reducible refine mX st Tryz.isAgg28 ?_) | (with_reducible refine mX st Tryz.isAgg9 ?_) | (go_at_call 88; refine (wire_host _ _).mono ?_; rintro e v ⟨rfl, rfl⟩; rw [H1.out]) | (go_at_call 89; refine (wire_thread _ _).mono ?_; rintro e v ⟨rfl, rfl⟩; rw [H2.out]) | (go_at_call 70; refine (label_Good ok _ _ _ _ hl (hA.below st.below)).mono ?_; rintro e v2 ⟨rfl, hb2⟩; rw [H3.out]; replace st := st.call hb2; clear hb2) | (go_at_call 90; refine (wire_rising ok _ _ _ _ _ hg (hB.below st.below)).mono ?_; rintro e v3 ⟨rfl, hb3⟩; rw [H4.out]; replace st := st.call hb3; clear hb3))
   go_ret
   exact ⟨by rw [HE.out]; rfl, st.below⟩
theorem chain4n (a b c d : Bool) : a = true ∨ (a = false ∧ b = true) ∨ (a = false ∧ b = false ∧ c = true) ∨ (a = false ∧ b = false ∧ c = false ∧ d = true) ∨ (a = false ∧ b = false ∧ c = false ∧ d = false) := by
 cases a <;> cases b <;> cases c <;> cases d <;> simp
theorem ackPlain_bne (f : Frame) : ackPlain f = !((f.thread != 0) || (f.mail.host != 0) || (f.mail.thread != 0) || decide (0 < f.mail.label.length + f.mail.grants.length + f.mail.text.size + f.certs.length)) := by
 unfold ackPlain
 have e : decide (f.mail.label.length + f.mail.grants.length + f.mail.text.size + f.certs.length = 0) = !decide (0 < f.mail.label.length + f.mail.grants.length + f.mail.text.size + f.certs.length) := by
  rw [Bool.eq_iff_iff]; simp <;> omega
 rw [e]
 simp only [bne]
 cases (f.thread == 0) <;> cases (f.mail.host == 0) <;> cases (f.mail.thread == 0) <;> simp
structure Frame.FitsW (f : Frame) : Prop where
 label : f.mail.label.length * 16 ≤ 140737488355328
 grants : f.mail.grants.length * 8 ≤ 140737488355328
 certs : f.certs.length * 32 ≤ 140737488355328
 text : f.mail.text.size ≤ 140737488355328
theorem wire_Good_range (ok : Nat → Prop) (w : World) (f : Frame) (la : Option Addr) (lc : Nat) (ga : Option Addr) (gc : Nat) (ca : Option Addr) (cc : Nat) (hf : f.FitsW) (hR : FrameR ok w f la lc ga gc ca cc) (h : frameRange f = false) :
  Calls Tryz.prog 77 #[frameV f la lc ga gc ca cc] w fun e w' => e = .returned (.int .i64 2) ∧ Below w.heap.size w w' := by
 unfold frameV
 obtain ⟨f1, f2, f3, f4⟩ := hf
 obtain ⟨⟨hA, hB⟩, hC⟩ := hR
 clear hA hB hC
 unfold frameRange at h
 rcases chain6 (four f.src) (four f.dst) ((f.src != f.dst)) (decide (1 ≤ f.seq)) (decide (f.seq ≤ 1099511627776)) (four f.thread) with h1 | ⟨h1, h2⟩ | ⟨h1, h2, h3⟩ | ⟨h1, h2, h3, h4⟩ | ⟨h1, h2, h3, h4, h5⟩ | ⟨h1, h2, h3, h4, h5, h6⟩ | ⟨h1, h2, h3, h4, h5, h6⟩
 ·clear h
  have H1 := qh h1; clear h1
  have st := St.start w
  go_enter Tryz.func77, Tryz.ntmps77
  go_wp2_with (first | go_skip | (with_reducible refine mB 110 st ?_; clear st; intro g1 w1 hg1 st) | (with_reducible refine mX st Tryz.isAgg3 ?_) | (with_reducible refine mX st Tryz.isAgg4 ?_) | (go_at_call 88; refine (wire_host _ _).mono ?_; rintro e v ⟨rfl, rfl⟩; first | rw [H1.out]))
  go_ret
  exact ⟨rfl, st.below⟩
 ·clear h
  have H1 := qh h1; clear h1
  have H2 := qh h2; clear h2
  have st := St.start w
  go_enter Tryz.func77, Tryz.ntmps77
  go_wp2_with (first | go_skip | (with_reducible refine mB 110 st ?_; clear st; intro g1 w1 hg1 st) | (with_reducible refine mX st Tryz.isAgg3 ?_) | (with_reducible refine mX st Tryz.isAgg4 ?_) | (go_at_call 88; refine (wire_host _ _).mono ?_; rintro e v ⟨rfl, rfl⟩; first | rw [H1.out] | rw [H2.out]))
  go_ret
  exact ⟨rfl, st.below⟩
 ·clear h
  have H1 := qh h1; clear h1
  have H2 := qh h2; clear h2
  have h3a : (f.src == f.dst) = true := by simpa [bne] using h3
  have st := St.start w
  go_enter Tryz.func77, Tryz.ntmps77
  go_wp2_with (first | go_skip | (with_reducible refine mB 110 st ?_; clear st; intro g1 w1 hg1 st) | (with_reducible refine mX st Tryz.isAgg3 ?_) | (with_reducible refine mX st Tryz.isAgg4 ?_) | (go_at_call 88; refine (wire_host _ _).mono ?_; rintro e v ⟨rfl, rfl⟩; first | rw [H1.out] | rw [H2.out]))
  go_ret
  exact ⟨rfl, st.below⟩
 ·clear h
  have H1 := qh h1; clear h1
  have H2 := qh h2; clear h2
  have h3a : (f.src == f.dst) = false := by simpa [bne] using h3
  have h4a : decide (f.seq < 1) = true := by simp at h4 ⊢; omega
  have st := St.start w
  go_enter Tryz.func77, Tryz.ntmps77
  go_wp2_with (first | go_skip | (with_reducible refine mB 110 st ?_; clear st; intro g1 w1 hg1 st) | (with_reducible refine mX st Tryz.isAgg3 ?_) | (with_reducible refine mX st Tryz.isAgg4 ?_) | (go_at_call 88; refine (wire_host _ _).mono ?_; rintro e v ⟨rfl, rfl⟩; first | rw [H1.out] | rw [H2.out]))
  go_ret
  exact ⟨rfl, st.below⟩
 ·clear h
  have H1 := qh h1; clear h1
  have H2 := qh h2; clear h2
  have h3a : (f.src == f.dst) = false := by simpa [bne] using h3
  have h4a : decide (f.seq < 1) = false := by simp at h4 ⊢; omega
  have h5a : decide (1099511627776 < f.seq) = true := by simp at h5 ⊢; omega
  have st := St.start w
  go_enter Tryz.func77, Tryz.ntmps77
  go_wp2_with (first | go_skip | (with_reducible refine mB 110 st ?_; clear st; intro g1 w1 hg1 st) | (with_reducible refine mX st Tryz.isAgg3 ?_) | (with_reducible refine mX st Tryz.isAgg4 ?_) | (go_at_call 88; refine (wire_host _ _).mono ?_; rintro e v ⟨rfl, rfl⟩; first | rw [H1.out] | rw [H2.out]))
  go_ret
  exact ⟨rfl, st.below⟩
 ·clear h
  have H1 := qh h1; clear h1
  have H2 := qh h2; clear h2
  have h3a : (f.src == f.dst) = false := by simpa [bne] using h3
  have h4a : decide (f.seq < 1) = false := by simp at h4 ⊢; omega
  have h5a : decide (1099511627776 < f.seq) = false := by simp at h5 ⊢; omega
  have H6 := qh h6; clear h6
  have st := St.start w
  go_enter Tryz.func77, Tryz.ntmps77
  go_wp2_with (first | go_skip | (with_reducible refine mB 110 st ?_; clear st; intro g1 w1 hg1 st) | (with_reducible refine mX st Tryz.isAgg3 ?_) | (with_reducible refine mX st Tryz.isAgg4 ?_) | (go_at_call 88; refine (wire_host _ _).mono ?_; rintro e v ⟨rfl, rfl⟩; first | rw [H1.out] | rw [H2.out]) | (go_at_call 89; refine (wire_thread _ _).mono ?_; rintro e v ⟨rfl, rfl⟩; rw [H6.out]))
  go_ret
  exact ⟨rfl, st.below⟩
 ·simp [h1, h2, h3, h4, h5, h6] at h
theorem wire_Good_ack (ok : Nat → Prop) (w : World) (f : Frame) (la : Option Addr) (lc : Nat) (ga : Option Addr) (gc : Nat) (ca : Option Addr) (cc : Nat) (hf : f.FitsW) (hR : FrameR ok w f la lc ga gc ca cc) (h : frameRange f = true) (hk : f.ack = true) :
  Calls Tryz.prog 77 #[frameV f la lc ga gc ca cc] w fun e w' => e = .returned (.int .i64 (ackC f)) ∧ Below w.heap.size w w' := by
 unfold frameV
 obtain ⟨f1, f2, f3, f4⟩ := hf
 obtain ⟨⟨hA, hB⟩, hC⟩ := hR
 rw [hk]; clear hk
 unfold frameRange at h
 simp only [Bool.and_eq_true] at h
 obtain ⟨⟨⟨⟨⟨h1, h2⟩, h3⟩, h4⟩, h5⟩, h6⟩ := h
 have h3a : (f.src == f.dst) = false := by simpa [bne] using h3
 have h4a : decide (f.seq < 1) = false := by simp at h4 ⊢; omega
 have h5a : decide (1099511627776 < f.seq) = false := by simp at h5 ⊢; omega
 have H1 := qh h1; have H2 := qh h2; have H6 := qh h6
 clear h1 h2 h3 h4 h5 h6
 have HK := ackPlain_bne f
 have s1 : f.mail.label.length ≤ 9223372036854775807 := by omega
 rcases chain4n (f.thread != 0) (f.mail.host != 0) (f.mail.thread != 0) (decide (0 < f.mail.label.length + f.mail.grants.length + f.mail.text.size + f.certs.length)) with k1 | ⟨k1, k2⟩ | ⟨k1, k2, k3⟩ | ⟨k1, k2, k3, k4⟩ | ⟨k1, k2, k3, k4⟩
 ·simp only [k1] at HK
  have HE := qh (show ackC f = 1 by unfold ackC; rw [HK]; simp)
  clear HK
  have st := St.start w
  go_enter Tryz.func77, Tryz.ntmps77
  go_wp2_with (first | go_skip | (with_reducible refine mB 110 st ?_; clear st; intro g1 w1 hg1 st) | (with_reducible refine mX st Tryz.isAgg3 ?_) | (with_reducible refine mX st Tryz.isAgg4 ?_) | (with_reducible refine mX st Tryz.isAgg27 ?_) | (with_reducible refine mX st Tryz.isAgg28 ?_) | (with_reducible refine mX st Tryz.isAgg9 ?_) | (with_reducible refine mX st Tryz.isAgg44 ?_) | (with_reducible refine mXA st Tryz.isAgg42 Tryz.sizeOf42 ?_) | (with_reducible refine mA st Tryz.zeroValue42 ?_; clear st; intro g3 w3 hg3 st) | (with_reducible refine mS 1 st Tryz.sizeOf42 ?_; clear st; intro w4 st hw4m hw4z) | (go_at_call 88; refine (wire_host _ _).mono ?_; rintro e v ⟨rfl, rfl⟩; first | rw [H1.out] | rw [H2.out]) | (go_at_call 89; refine (wire_thread _ _).mono ?_; rintro e v ⟨rfl, rfl⟩; rw [H6.out]))
  go_ret
  exact ⟨by rw [HE.out]; rfl, st.below⟩
 ·simp only [k1, k2] at HK
  have HE := qh (show ackC f = 1 by unfold ackC; rw [HK]; simp)
  clear HK
  have st := St.start w
  go_enter Tryz.func77, Tryz.ntmps77
  go_wp2_with (first | go_skip | (with_reducible refine mB 110 st ?_; clear st; intro g1 w1 hg1 st) | (with_reducible refine mX st Tryz.isAgg3 ?_) | (with_reducible refine mX st Tryz.isAgg4 ?_) | (with_reducible refine mX st Tryz.isAgg27 ?_) | (with_reducible refine mX st Tryz.isAgg28 ?_) | (with_reducible refine mX st Tryz.isAgg9 ?_) | (with_reducible refine mX st Tryz.isAgg44 ?_) | (with_reducible refine mXA st Tryz.isAgg42 Tryz.sizeOf42 ?_) | (with_reducible refine mA st Tryz.zeroValue42 ?_; clear st; intro g3 w3 hg3 st) | (with_reducible refine mS 1 st Tryz.sizeOf42 ?_; clear st; intro w4 st hw4m hw4z) | (go_at_call 88; refine (wire_host _ _).mono ?_; rintro e v ⟨rfl, rfl⟩; first | rw [H1.out] | rw [H2.out]) | (go_at_call 89; refine (wire_thread _ _).mono ?_; rintro e v ⟨rfl, rfl⟩; rw [H6.out]))
  go_ret
  exact ⟨by rw [HE.out]; rfl, st.below⟩
 ·simp only [k1, k2, k3] at HK
  have HE := qh (show ackC f = 1 by unfold ackC; rw [HK]; simp)
  clear HK
  have st := St.start w
  go_enter Tryz.func77, Tryz.ntmps77
  go_wp2_with (first | go_skip | (with_reducible refine mB 110 st ?_; clear st; intro g1 w1 hg1 st) | (with_reducible refine mX st Tryz.isAgg3 ?_) | (with_reducible refine mX st Tryz.isAgg4 ?_) | (with_reducible refine mX st Tryz.isAgg27 ?_) | (with_reducible refine mX st Tryz.isAgg28 ?_) | (with_reducible refine mX st Tryz.isAgg9 ?_) | (with_reducible refine mX st Tryz.isAgg44 ?_) | (with_reducible refine mXA st Tryz.isAgg42 Tryz.sizeOf42 ?_) | (with_reducible refine mA st Tryz.zeroValue42 ?_; clear st; intro g3 w3 hg3 st) | (with_reducible refine mS 1 st Tryz.sizeOf42 ?_; clear st; intro w4 st hw4m hw4z) | (go_at_call 88; refine (wire_host _ _).mono ?_; rintro e v ⟨rfl, rfl⟩; first | rw [H1.out] | rw [H2.out]) | (go_at_call 89; refine (wire_thread _ _).mono ?_; rintro e v ⟨rfl, rfl⟩; rw [H6.out]))
  go_ret
  exact ⟨by rw [HE.out]; rfl, st.below⟩
 ·simp only [k1, k2, k3, k4] at HK
  have HE := qh (show ackC f = 1 by unfold ackC; rw [HK]; simp)
  have k4a : decide ((0 : Int) < (f.mail.label.length : Int) + f.mail.grants.length + f.mail.text.size + f.certs.length) = true := decide_eq_true (by have := of_decide_eq_true k4; omega)
  clear HK
  have st := St.start w
  go_enter Tryz.func77, Tryz.ntmps77
  go_wp2_with (first | go_skip | (with_reducible refine mB 110 st ?_; clear st; intro g1 w1 hg1 st) | (with_reducible refine mX st Tryz.isAgg3 ?_) | (with_reducible refine mX st Tryz.isAgg4 ?_) | (with_reducible refine mX st Tryz.isAgg27 ?_) | (with_reducible refine mX st Tryz.isAgg28 ?_) | (with_reducible refine mX st Tryz.isAgg9 ?_) | (with_reducible refine mX st Tryz.isAgg44 ?_) | (with_reducible refine mXA st Tryz.isAgg42 Tryz.sizeOf42 ?_) | (with_reducible refine mA st Tryz.zeroValue42 ?_; clear st; intro g3 w3 hg3 st) | (with_reducible refine mS 1 st Tryz.sizeOf42 ?_; clear st; intro w4 st hw4m hw4z) | (go_at_call 88; refine (wire_host _ _).mono ?_; rintro e v ⟨rfl, rfl⟩; first | rw [H1.out] | rw [H2.out]) | (go_at_call 89; refine (wire_thread _ _).mono ?_; rintro e v ⟨rfl, rfl⟩; rw [H6.out]))
  go_ret
  exact ⟨by rw [HE.out]; rfl, st.below⟩
 ·simp only [k1, k2, k3, k4] at HK
  have HE := qh (show ackC f = 0 by unfold ackC; rw [HK]; simp)
  have k4a : decide ((0 : Int) < (f.mail.label.length : Int) + f.mail.grants.length + f.mail.text.size + f.certs.length) = false := decide_eq_false (by have := of_decide_eq_false k4; omega)
  clear HK
  have st := St.start w
  go_enter Tryz.func77, Tryz.ntmps77
  go_wp2_with (first | go_skip | (with_reducible refine mB 110 st ?_; clear st; intro g1 w1 hg1 st) | (with_reducible refine mX st Tryz.isAgg3 ?_) | (with_reducible refine mX st Tryz.isAgg4 ?_) | (with_reducible refine mX st Tryz.isAgg27 ?_) | (with_reducible refine mX st Tryz.isAgg28 ?_) | (with_reducible refine mX st Tryz.isAgg9 ?_) | (with_reducible refine mX st Tryz.isAgg44 ?_) | (with_reducible refine mXA st Tryz.isAgg42 Tryz.sizeOf42 ?_) | (with_reducible refine mA st Tryz.zeroValue42 ?_; clear st; intro g3 w3 hg3 st) | (with_reducible refine mS 1 st Tryz.sizeOf42 ?_; clear st; intro w4 st hw4m hw4z) | (go_at_call 88; refine (wire_host _ _).mono ?_; rintro e v ⟨rfl, rfl⟩; first | rw [H1.out] | rw [H2.out]) | (go_at_call 89; refine (wire_thread _ _).mono ?_; rintro e v ⟨rfl, rfl⟩; rw [H6.out]))
  go_ret
  exact ⟨by rw [HE.out]; rfl, st.below⟩
theorem wire_Good_mail (ok : Nat → Prop) (w : World) (f : Frame) (la : Option Addr) (lc : Nat) (ga : Option Addr) (gc : Nat) (ca : Option Addr) (cc : Nat) (hf : f.FitsW) (hR : FrameR ok w f la lc ga gc ca cc) (h : frameRange f = true) (hk : f.ack = false) (hm : goodMailC f.mail ≠ 0) :
  Calls Tryz.prog 77 #[frameV f la lc ga gc ca cc] w fun e w' => e = .returned (.int .i64 (goodMailC f.mail)) ∧ Below w.heap.size w w' := by
 unfold frameV
 obtain ⟨f1, f2, f3, f4⟩ := hf
 obtain ⟨⟨hA, hB⟩, hC⟩ := hR
 rw [hk]; clear hk
 unfold frameRange at h
 simp only [Bool.and_eq_true] at h
 obtain ⟨⟨⟨⟨⟨h1, h2⟩, h3⟩, h4⟩, h5⟩, h6⟩ := h
 have h3a : (f.src == f.dst) = false := by simpa [bne] using h3
 have h4a : decide (f.seq < 1) = false := by simp at h4 ⊢; omega
 have h5a : decide (1099511627776 < f.seq) = false := by simp at h5 ⊢; omega
 have H1 := qh h1; have H2 := qh h2; have H6 := qh h6
 clear h1 h2 h3 h4 h5 h6
 generalize hq : goodMailC f.mail = q at hm ⊢
 have HM := qh hq
 have d1 : (q != 0) = true := by simpa using hm
 clear hq hm
 have st := St.start w
 go_enter Tryz.func77, Tryz.ntmps77
 go_wp2_with (first | go_skip | (with_reducible refine mB 110 st ?_; clear st; intro g1 w1 hg1 st) | (with_reducible refine mX st Tryz.isAgg3 ?_) | (with_reducible refine mX st Tryz.isAgg4 ?_) | (with_reducible refine mXA st Tryz.isAgg42 Tryz.sizeOf42 ?_) | (with_reducible refine mX st Tryz.isAgg44 ?_) | (go_at_call 62; refine (wire_GoodMail ok _ f.mail la lc ga gc f1 f2 ⟨hA.below st.below, hB.below st.below⟩).mono ?_; rintro e v5 ⟨rfl, hb5⟩; rw [HM.out]; replace st := st.call hb5; clear hb5) | (go_at_call 88; refine (wire_host _ _).mono ?_; rintro e v ⟨rfl, rfl⟩; first | rw [H1.out] | rw [H2.out]) | (go_at_call 89; refine (wire_thread _ _).mono ?_; rintro e v ⟨rfl, rfl⟩; rw [H6.out]))
 go_ret
 exact ⟨rfl, st.below⟩
theorem wire_Good_host (ok : Nat → Prop) (w : World) (f : Frame) (la : Option Addr) (lc : Nat) (ga : Option Addr) (gc : Nat) (ca : Option Addr) (cc : Nat) (hf : f.FitsW) (hR : FrameR ok w f la lc ga gc ca cc) (h : frameRange f = true) (hk : f.ack = false) (hm : goodMailC f.mail = 0) (hh : f.mail.host ≠ f.src) :
  Calls Tryz.prog 77 #[frameV f la lc ga gc ca cc] w fun e w' => e = .returned (.int .i64 1) ∧ Below w.heap.size w w' := by
 unfold frameV
 obtain ⟨f1, f2, f3, f4⟩ := hf
 obtain ⟨⟨hA, hB⟩, hC⟩ := hR
 rw [hk]; clear hk
 unfold frameRange at h
 simp only [Bool.and_eq_true] at h
 obtain ⟨⟨⟨⟨⟨h1, h2⟩, h3⟩, h4⟩, h5⟩, h6⟩ := h
 have h3a : (f.src == f.dst) = false := by simpa [bne] using h3
 have h4a : decide (f.seq < 1) = false := by simp at h4 ⊢; omega
 have h5a : decide (1099511627776 < f.seq) = false := by simp at h5 ⊢; omega
 have H1 := qh h1; have H2 := qh h2; have H6 := qh h6
 clear h1 h2 h3 h4 h5 h6
 have HM := qh hm
 have d1 : (f.mail.host != f.src) = true := by simpa using hh
 clear hm hh
 have st := St.start w
 go_enter Tryz.func77, Tryz.ntmps77
 go_wp2_with (first | go_skip | (with_reducible refine mB 110 st ?_; clear st; intro g1 w1 hg1 st) | (with_reducible refine mX st Tryz.isAgg3 ?_) | (with_reducible refine mX st Tryz.isAgg4 ?_) | (with_reducible refine mXA st Tryz.isAgg42 Tryz.sizeOf42 ?_) | (with_reducible refine mX st Tryz.isAgg44 ?_) | (go_at_call 62; refine (wire_GoodMail ok _ f.mail la lc ga gc f1 f2 ⟨hA.below st.below, hB.below st.below⟩).mono ?_; rintro e v5 ⟨rfl, hb5⟩; rw [HM.out]; replace st := st.call hb5; clear hb5) | (go_at_call 88; refine (wire_host _ _).mono ?_; rintro e v ⟨rfl, rfl⟩; first | rw [H1.out] | rw [H2.out]) | (go_at_call 89; refine (wire_thread _ _).mono ?_; rintro e v ⟨rfl, rfl⟩; rw [H6.out]))
 go_ret
 exact ⟨rfl, st.below⟩
theorem wire_Good_full (ok : Nat → Prop) (w : World) (f : Frame) (la : Option Addr) (lc : Nat) (ga : Option Addr) (gc : Nat) (ca : Option Addr) (cc : Nat) (hf : f.FitsW) (hR : FrameR ok w f la lc ga gc ca cc) (h : frameRange f = true) (hk : f.ack = false) (hm : goodMailC f.mail = 0) (hh : f.mail.host = f.src) (h24 : 24 < f.certs.length) :
  Calls Tryz.prog 77 #[frameV f la lc ga gc ca cc] w fun e w' => e = .returned (.int .i64 5) ∧ Below w.heap.size w w' := by
 unfold frameV
 obtain ⟨f1, f2, f3, f4⟩ := hf
 obtain ⟨⟨hA, hB⟩, hC⟩ := hR
 rw [hk]; clear hk
 unfold frameRange at h
 simp only [Bool.and_eq_true] at h
 obtain ⟨⟨⟨⟨⟨h1, h2⟩, h3⟩, h4⟩, h5⟩, h6⟩ := h
 have h3a : (f.src == f.dst) = false := by simpa [bne] using h3
 have h4a : decide (f.seq < 1) = false := by simp at h4 ⊢; omega
 have h5a : decide (1099511627776 < f.seq) = false := by simp at h5 ⊢; omega
 have H1 := qh h1; have H2 := qh h2; have H6 := qh h6
 clear h1 h2 h3 h4 h5 h6
 have HM := qh hm
 have d1 : (f.mail.host != f.src) = false := by simpa using hh
 clear hm hh
 have d2 : decide ((24 : Int) < f.certs.length) = true := by simp; omega
 have st := St.start w
 go_enter Tryz.func77, Tryz.ntmps77
 go_wp2_with (first | go_skip | (with_reducible refine mB 110 st ?_; clear st; intro g1 w1 hg1 st) | (with_reducible refine mX st Tryz.isAgg3 ?_) | (with_reducible refine mX st Tryz.isAgg4 ?_) | (with_reducible refine mXA st Tryz.isAgg42 Tryz.sizeOf42 ?_) | (with_reducible refine mX st Tryz.isAgg44 ?_) | (go_at_call 62; refine (wire_GoodMail ok _ f.mail la lc ga gc f1 f2 ⟨hA.below st.below, hB.below st.below⟩).mono ?_; rintro e v5 ⟨rfl, hb5⟩; rw [HM.out]; replace st := st.call hb5; clear hb5) | (go_at_call 88; refine (wire_host _ _).mono ?_; rintro e v ⟨rfl, rfl⟩; first | rw [H1.out] | rw [H2.out]) | (go_at_call 89; refine (wire_thread _ _).mono ?_; rintro e v ⟨rfl, rfl⟩; rw [H6.out]))
 go_ret
 exact ⟨rfl, st.below⟩
theorem all_step {l : List Cert} {k : Nat} (h : k < l.length) : (l.drop k).all goodCertB = (goodCertB l[k] && (l.drop (k + 1)).all goodCertB) := by
 rw [List.drop_eq_getElem_cons h, List.all_cons]
theorem wire_Good_certs (ok : Nat → Prop) (w : World) (f : Frame) (la : Option Addr) (lc : Nat) (ga : Option Addr) (gc : Nat) (ca : Option Addr) (cc : Nat) (hf : f.FitsW) (hR : FrameR ok w f la lc ga gc ca cc) (h : frameRange f = true) (hk : f.ack = false) (hm : goodMailC f.mail = 0) (hh : f.mail.host = f.src) (h24 : f.certs.length ≤ 24) :
  Calls Tryz.prog 77 #[frameV f la lc ga gc ca cc] w fun e w' => e = .returned (.int .i64 (certsC f)) ∧ Below w.heap.size w w' := by
 unfold frameV
 obtain ⟨f1, f2, f3, f4⟩ := hf
 obtain ⟨⟨hA, hB⟩, hC⟩ := hR
 rw [hk]; clear hk
 unfold frameRange at h
 simp only [Bool.and_eq_true] at h
 obtain ⟨⟨⟨⟨⟨h1, h2⟩, h3⟩, h4⟩, h5⟩, h6⟩ := h
 have h3a : (f.src == f.dst) = false := by simpa [bne] using h3
 have h4a : decide (f.seq < 1) = false := by simp at h4 ⊢; omega
 have h5a : decide (1099511627776 < f.seq) = false := by simp at h5 ⊢; omega
 have H1 := qh h1; have H2 := qh h2; have H6 := qh h6
 clear h1 h2 h3 h4 h5 h6
 have HM := qh hm
 have d1 : (f.mail.host != f.src) = false := by simpa using hh
 clear hm hh
 have d2 : decide ((24 : Int) < f.certs.length) = false := by simp; omega
 have E0 := qh (show f.certs.all goodCertB = (f.certs.drop 0).all goodCertB by rw [List.drop_zero])
 have st := St.start w
 go_enter Tryz.func77, Tryz.ntmps77
 go_wp2_with (first | go_skip | (with_reducible refine mB 110 st ?_; clear st; intro g1 w1 hg1 st) | (with_reducible refine mX st Tryz.isAgg3 ?_) | (with_reducible refine mX st Tryz.isAgg4 ?_) | (with_reducible refine mXA st Tryz.isAgg42 Tryz.sizeOf42 ?_) | (with_reducible refine mX st Tryz.isAgg44 ?_) | (go_at_call 62; refine (wire_GoodMail ok _ f.mail la lc ga gc f1 f2 ⟨hA.below st.below, hB.below st.below⟩).mono ?_; rintro e v5 ⟨rfl, hb5⟩; rw [HM.out]; replace st := st.call hb5; clear hb5) | (go_at_call 88; refine (wire_host _ _).mono ?_; rintro e v ⟨rfl, rfl⟩; first | rw [H1.out] | rw [H2.out]) | (go_at_call 89; refine (wire_thread _ _).mono ?_; rintro e v ⟨rfl, rfl⟩; rw [H6.out]))
 replace hC := hC.below st.below
 have st0 := st
 clear st hA hB HM H1 H2 H6 d1 d2 h3a h4a h5a
 go_loopw [94] (fun i wr => ∃ k : Nat, k ≤ f.certs.length ∧ i = .int .i64 k ∧ Below v5.heap.size v5 wr ∧ Hid (f.certs.all goodCertB = (f.certs.drop k).all goodCertB)) (fun i _ => f.certs.length - (intOf i).toNat)
 case atStart => exact ⟨0, Nat.zero_le _, rfl, Below.refl _ _, E0⟩
 case round =>
  obtain ⟨k, hk, rfl, hBk, hI⟩ := hrel
  have st := st0.call hBk
  by_cases hlt : k < f.certs.length
  ·obtain ⟨b, o, rfl, hb, c1, c2, c3, c4⟩ := (hC.below hBk).cert_at k hlt
   have hs := all_step hlt
   have str := st
   replace st := st.rebase
   cases hg : goodCertB f.certs[k]
   all_goals
    have HG := qh hg
    have HS := qh hs
    clear hg hs st0
    go_wp2_with (first | go_skip | (with_reducible refine mA st Tryz.zeroValue47 ?_; clear st; intro g6 w6 hg6 st) | (with_reducible refine mS 1 st Tryz.sizeOf47 ?_; clear st; intro w7 st hw7m hw7z) | (with_reducible refine mXA st Tryz.isAgg47 Tryz.sizeOf47 ?_) | (go_at_call 66; refine (wire_GoodCert f.certs[k] _).mono ?_; rintro e v8 ⟨rfl, hb8⟩; rw [HG.out]; replace st := st.call hb8; clear hb8))
   ·go_ret
    have e : certsC f = 2 := by unfold certsC; rw [hI.out, HS.out, HG.out]; rfl
    exact ⟨by rw [e]; rfl, str.below.keep (str.below2 st (by simp))⟩
   ·go_roundw
    case rel => exact ⟨k + 1, hlt, by go_num, hBk.keep (str.below2 st (by simp)), by rw [hI.out, HS.out, HG.out]; rfl⟩
    case measure => simp [intOf]; omega
  ·go_wp2_with fail
   go_ret
   have e : certsC f = 0 := by unfold certsC; rw [hI.out, List.drop_of_length_le (by omega)]; rfl
   exact ⟨by rw [e]; rfl, st.below⟩
theorem wire_Good (ok : Nat → Prop) (w : World) (f : Frame) (la : Option Addr) (lc : Nat) (ga : Option Addr) (gc : Nat) (ca : Option Addr) (cc : Nat) (hf : f.FitsW) (hR : FrameR ok w f la lc ga gc ca cc) :
  Calls Tryz.prog 77 #[frameV f la lc ga gc ca cc] w fun e w' => e = .returned (.int .i64 (goodFrameC f)) ∧ Below w.heap.size w w' := by
 unfold goodFrameC
 by_cases h : frameRange f = true
 ·rw [if_pos h]
  by_cases hk : f.ack = true
  ·rw [if_pos hk]; exact wire_Good_ack ok w f la lc ga gc ca cc hf hR h hk
  ·rw [if_neg hk]
   replace hk : f.ack = false := by simpa using hk
   by_cases hm : goodMailC f.mail ≠ 0
   ·rw [if_pos hm]; exact wire_Good_mail ok w f la lc ga gc ca cc hf hR h hk hm
   ·rw [if_neg hm]
    replace hm : goodMailC f.mail = 0 := Classical.not_not.1 hm
    by_cases hh : f.mail.host ≠ f.src
    ·rw [if_pos hh]; exact wire_Good_host ok w f la lc ga gc ca cc hf hR h hk hm hh
    ·rw [if_neg hh]
     replace hh : f.mail.host = f.src := Classical.not_not.1 hh
     by_cases h24 : 24 < f.certs.length
     ·rw [if_pos h24]; exact wire_Good_full ok w f la lc ga gc ca cc hf hR h hk hm hh h24
     ·rw [if_neg h24]; exact wire_Good_certs ok w f la lc ga gc ca cc hf hR h hk hm hh (by omega)
 ·rw [if_neg h]
  exact wire_Good_range ok w f la lc ga gc ca cc hf hR (by simpa using h)
theorem wire_Encode_bad (ok : Nat → Prop) (w : World) (f : Frame) (la : Option Addr) (lc : Nat) (ga : Option Addr) (gc : Nat) (ca : Option Addr) (cc : Nat) (hf : f.FitsW) (hR : FrameR ok w f la lc ga gc ca cc) (h : goodFrameC f ≠ 0) :
  Calls Tryz.prog 82 #[frameV f la lc ga gc ca cc] w fun e w' => e = .returned (.tuple #[.string ⟨#[]⟩, .int .i64 (goodFrameC f)]) ∧ Below w.heap.size w w' := by
 have HG := qh (fun (W : World) (hW : FrameR ok W f la lc ga gc ca cc) => wire_Good ok W f la lc ga gc ca cc hf hW)
 generalize goodFrameC f = q at h HG ⊢
 have d1 : (q != 0) = true := by simpa using h
 clear h
 unfold frameV at *
 have st := St.start w
 go_enter Tryz.func82, Tryz.ntmps82
 go_wp2_with (first | go_skip | (with_reducible refine mB 110 st ?_; clear st; intro g1 w1 hg1 st) | (with_reducible refine mXA st Tryz.isAgg110 Tryz.sizeOf110 ?_) | (go_at_call 77; refine (HG.out _ (hR.below st.below)).mono ?_; rintro e v2 ⟨rfl, hb2⟩; replace st := st.call hb2; clear hb2))
 go_ret2
 exact ⟨rfl, st.below⟩
theorem wire_Encode_ack (ok : Nat → Prop) (w : World) (f : Frame) (la : Option Addr) (lc : Nat) (ga : Option Addr) (gc : Nat) (ca : Option Addr) (cc : Nat) (hf : f.FitsW) (hR : FrameR ok w f la lc ga gc ca cc) (h : goodFrameC f = 0) (hk : f.ack = true) :
  Calls Tryz.prog 82 #[frameV f la lc ga gc ca cc] w fun e w' => e = .returned (.tuple #[.string ⟨(encL f).toArray⟩, .int .i64 0]) ∧ Below w.heap.size w w' := by
 obtain ⟨⟨s1, s2⟩, ⟨s3, s4⟩, _, ⟨s5, s6⟩, _⟩ := good_facts h
 have HG := qh (fun (W : World) (hW : FrameR ok W f la lc ga gc ca cc) => wire_Good ok W f la lc ga gc ca cc hf hW)
 have HK := qh hk
 have HE := qh (show encL f = 1 :: ([b1 f.src, b1 f.dst] ++ be f.seq 6) by unfold encL; rw [if_pos hk]; rfl)
 rw [h] at HG
 have hk1 : Value.bool f.ack = .bool true := by rw [hk]
 clear h hk
 unfold frameV at *
 rw [hk1] at HG ⊢
 clear hk1
 have st := St.start w
 go_enter Tryz.func82, Tryz.ntmps82
 go_wp2_with (first
  | go_skip | (with_reducible refine mB 110 st ?_; clear st; intro g1 w1 hg1 st) | (with_reducible refine mXA st Tryz.isAgg110 Tryz.sizeOf110 ?_) | (with_reducible refine mX st Tryz.isAgg3 ?_) | (with_reducible refine mX st Tryz.isAgg4 ?_)
  | (go_at_call 77; refine (HG.out _ (hR.below st.below)).mono ?_; rintro e v2 ⟨rfl, hb2⟩; replace st := st.call hb2; clear hb2)
  | (refine wpList_buildU3 st (wanted_none rfl) 89 5 _ _ _ rfl Tryz.underlying89 Tryz.sizeOf5 Tryz.zeroValue5 _ _ _ rfl rfl rfl ?_; have stw4 := st; clear st; intro g4 w4 hg4 hg4e st hg4b hg4z; clear hg4e; simp [Act.eval, Act.put, Value.cells, putL] at st))
 have hO4 : Own w.heap.size 5 w4 1 RU8 (some ⟨g4, 0, none⟩) 3 [0, b1 f.src, b1 f.dst] := Own.bytesBlk [0, b1 f.src, b1 f.dst] (st.blk _ (mgE (i := 1) rfl)) (by simp only [List.map, b1]; rw [← byteV_eq s1 (by omega), ← byteV_eq s3 (by omega)]; rfl) hg4 (by simp [maxLen])
 replace st := st.sub (own' := [(g1, 110, [.int .i64 f.src, .int .i64 f.dst, .int .i64 f.seq, .bool true, .int .i64 f.thread, .int .i64 f.mail.host, .int .i64 f.mail.thread, .slice la f.mail.label.length lc, .slice ga f.mail.grants.length gc, .string f.mail.text, .slice ca f.certs.length cc])]) (by simp) (by simp)
 refine (wire_put w.heap.size _ _ _ [0, b1 f.src, b1 f.dst] f.seq (by omega) (by omega) (by simp) st.size hO4).mono ?_
 rintro e v5 ⟨g5, c5, rfl, hO5, hg5, _⟩
 replace st := st.buf hO4 (Nat.le_refl _) hg5 (by simp)
 clear hO4 hg5
 have hc0 : v5.cell? ⟨g5, 0, none⟩ = some (.int .u8 0) := hO5.byteCell 0 (by simp)
 have hf0 := hO5.byteFree 0
 obtain ⟨hO6, hg6⟩ := hO5.set 0 1
 have st6 := st.buf hO5 (Nat.le_refl _) hg6 (by simp)
 have hcv := hO6.string (P := Tryz.prog) 89 9 5 Tryz.underlying89 Tryz.underlying5 Tryz.underlying9
 have e6 : ([0, b1 f.src, b1 f.dst] ++ be f.seq 6).set 0 1 = encL f := by rw [HE.out]; rfl
 have e7 : (([0, b1 f.src, b1 f.dst] ++ be f.seq 6).set 0 1).length = 9 := by simp [be_length]
 rw [e7, e6] at hcv
 replace hcv : (convert 89 9 (.slice (some ⟨g5, 0, none⟩) 9 c5)).run Tryz.prog (v5.setCell ⟨g5, 0, none⟩ (.int .u8 1)) = .ok (.string ⟨(encL f).toArray⟩) (v5.setCell ⟨g5, 0, none⟩ (.int .u8 1)) := hcv
 clear hO5 hO6 hg6 e6 e7 HE
 simp only [List.length_cons, List.length_nil, Nat.zero_add, Nat.reduceAdd]
 go_wp2_with (first | go_skip | (with_reducible refine mX st Tryz.isAgg4 ?_))
 go_ret2
 exact ⟨rfl, st6.below⟩


end Go.Proofs.YtnjjdpiofbajlaaGreat
