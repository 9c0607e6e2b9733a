/- Walks and plain laws that the claim rests on, part 16. -/
import Derived.Test.YtflfjpopfapogaaP15
import Derived.Test.YtflfjpopfapogaaP13
import Derived.Test.YtflfjpopfapogaaP14
import Derived.Test.YtflfjpopfapogaaP6
import Derived.Test.YtflfjpopfapogaaP11
set_option linter.unusedSimpArgs false
set_option linter.unusedVariables false
/- The walk through wire.Good. -/
namespace Go.Proofs.Ytflfjpopfapogaa
open Go.RowKit
theorem chain4n (a b c d : Bool) : a = true ∨ (a = false ∧ b = true) ∨ (a = false ∧ b = false ∧ c = true) ∨ (a = false ∧ b = false ∧ c = false ∧ d = true) ∨ (a = false ∧ b = false ∧ c = false ∧ d = false) := by
 cases a <;> cases b <;> cases c <;> cases d <;> simp
theorem ackPlain_bne (f : Frame) : ackPlain f = !((f.thread != 0) || (f.mail.host != 0) || (f.mail.thread != 0) || decide (0 < f.mail.label.length + f.mail.grants.length + f.mail.text.size + f.certs.length)) := by
 unfold ackPlain
 have e : decide (f.mail.label.length + f.mail.grants.length + f.mail.text.size + f.certs.length = 0) = !decide (0 < f.mail.label.length + f.mail.grants.length + f.mail.text.size + f.certs.length) := by
  rw [Bool.eq_iff_iff]; simp <;> omega
 rw [e]
 simp only [bne]
 cases (f.thread == 0) <;> cases (f.mail.host == 0) <;> cases (f.mail.thread == 0) <;> simp
structure Frame.FitsW (f : Frame) : Prop where
 label : f.mail.label.length * 16 ≤ 140737488355328
 grants : f.mail.grants.length * 8 ≤ 140737488355328
 certs : f.certs.length * 32 ≤ 140737488355328
 text : f.mail.text.size ≤ 140737488355328
set_option maxHeartbeats 3200000 in
theorem wire_Good_range (ok : Nat → Prop) (w : World) (f : Frame) (la : Option Addr) (lc : Nat) (ga : Option Addr) (gc : Nat) (ca : Option Addr) (cc : Nat) (hf : f.FitsW) (hR : FrameR ok w f la lc ga gc ca cc) (h : frameRange f = false) :
  Calls Try.prog 65 #[frameV f la lc ga gc ca cc] w fun e w' => e = .returned (.int .i64 2) ∧ Below w.heap.size w w' := by
 unfold frameV
 obtain ⟨f1, f2, f3, f4⟩ := hf
 obtain ⟨⟨hA, hB⟩, hC⟩ := hR
 clear hA hB hC
 unfold frameRange at h
 rcases chain6 (four f.src) (four f.dst) ((f.src != f.dst)) (decide (1 ≤ f.seq)) (decide (f.seq ≤ 1099511627776)) (four f.thread) with h1 | ⟨h1, h2⟩ | ⟨h1, h2, h3⟩ | ⟨h1, h2, h3, h4⟩ | ⟨h1, h2, h3, h4, h5⟩ | ⟨h1, h2, h3, h4, h5, h6⟩ | ⟨h1, h2, h3, h4, h5, h6⟩
 ·clear h
  have H1 := Lib.hid h1; clear h1
  have st := St.start w
  go_enter Try.func65, Try.ntmps65
  go_wp2_with (first | go_skip | (with_reducible refine at_box 105 ?_; refine mem_box st (wanted_none rfl) 105 _ rfl _ rfl _ rfl ?_; clear st; intro g1 w1 hg1 st hg1b; clear hg1b; simp [Act.eval, Act.put, Value.cells, putL] at st) | (with_reducible refine at_load 3 ?_; refine memX st 3 _ rfl Try.isAgg3 rfl ?_) | (with_reducible refine at_load 4 ?_; refine memX st 4 _ rfl Try.isAgg4 rfl ?_) | (go_at_call 85; refine (wire_host _ _).mono ?_; rintro e v ⟨rfl, rfl⟩; first | rw [H1.out]))
  go_ret
  exact ⟨rfl, st.below⟩
 ·clear h
  have H1 := Lib.hid h1; clear h1
  have H2 := Lib.hid h2; clear h2
  have st := St.start w
  go_enter Try.func65, Try.ntmps65
  go_wp2_with (first | go_skip | (with_reducible refine at_box 105 ?_; refine mem_box st (wanted_none rfl) 105 _ rfl _ rfl _ rfl ?_; clear st; intro g1 w1 hg1 st hg1b; clear hg1b; simp [Act.eval, Act.put, Value.cells, putL] at st) | (with_reducible refine at_load 3 ?_; refine memX st 3 _ rfl Try.isAgg3 rfl ?_) | (with_reducible refine at_load 4 ?_; refine memX st 4 _ rfl Try.isAgg4 rfl ?_) | (go_at_call 85; refine (wire_host _ _).mono ?_; rintro e v ⟨rfl, rfl⟩; first | rw [H1.out] | rw [H2.out]))
  go_ret
  exact ⟨rfl, st.below⟩
 ·clear h
  have H1 := Lib.hid h1; clear h1
  have H2 := Lib.hid h2; clear h2
  have h3a : (f.src == f.dst) = true := by simpa [bne] using h3
  have st := St.start w
  go_enter Try.func65, Try.ntmps65
  go_wp2_with (first | go_skip | (with_reducible refine at_box 105 ?_; refine mem_box st (wanted_none rfl) 105 _ rfl _ rfl _ rfl ?_; clear st; intro g1 w1 hg1 st hg1b; clear hg1b; simp [Act.eval, Act.put, Value.cells, putL] at st) | (with_reducible refine at_load 3 ?_; refine memX st 3 _ rfl Try.isAgg3 rfl ?_) | (with_reducible refine at_load 4 ?_; refine memX st 4 _ rfl Try.isAgg4 rfl ?_) | (go_at_call 85; refine (wire_host _ _).mono ?_; rintro e v ⟨rfl, rfl⟩; first | rw [H1.out] | rw [H2.out]))
  go_ret
  exact ⟨rfl, st.below⟩
 ·clear h
  have H1 := Lib.hid h1; clear h1
  have H2 := Lib.hid h2; clear h2
  have h3a : (f.src == f.dst) = false := by simpa [bne] using h3
  have h4a : decide (f.seq < 1) = true := by simp at h4 ⊢; omega
  have st := St.start w
  go_enter Try.func65, Try.ntmps65
  go_wp2_with (first | go_skip | (with_reducible refine at_box 105 ?_; refine mem_box st (wanted_none rfl) 105 _ rfl _ rfl _ rfl ?_; clear st; intro g1 w1 hg1 st hg1b; clear hg1b; simp [Act.eval, Act.put, Value.cells, putL] at st) | (with_reducible refine at_load 3 ?_; refine memX st 3 _ rfl Try.isAgg3 rfl ?_) | (with_reducible refine at_load 4 ?_; refine memX st 4 _ rfl Try.isAgg4 rfl ?_) | (go_at_call 85; refine (wire_host _ _).mono ?_; rintro e v ⟨rfl, rfl⟩; first | rw [H1.out] | rw [H2.out]))
  go_ret
  exact ⟨rfl, st.below⟩
 ·clear h
  have H1 := Lib.hid h1; clear h1
  have H2 := Lib.hid h2; clear h2
  have h3a : (f.src == f.dst) = false := by simpa [bne] using h3
  have h4a : decide (f.seq < 1) = false := by simp at h4 ⊢; omega
  have h5a : decide (1099511627776 < f.seq) = true := by simp at h5 ⊢; omega
  have st := St.start w
  go_enter Try.func65, Try.ntmps65
  go_wp2_with (first | go_skip | (with_reducible refine at_box 105 ?_; refine mem_box st (wanted_none rfl) 105 _ rfl _ rfl _ rfl ?_; clear st; intro g1 w1 hg1 st hg1b; clear hg1b; simp [Act.eval, Act.put, Value.cells, putL] at st) | (with_reducible refine at_load 3 ?_; refine memX st 3 _ rfl Try.isAgg3 rfl ?_) | (with_reducible refine at_load 4 ?_; refine memX st 4 _ rfl Try.isAgg4 rfl ?_) | (go_at_call 85; refine (wire_host _ _).mono ?_; rintro e v ⟨rfl, rfl⟩; first | rw [H1.out] | rw [H2.out]))
  go_ret
  exact ⟨rfl, st.below⟩
 ·clear h
  have H1 := Lib.hid h1; clear h1
  have H2 := Lib.hid h2; clear h2
  have h3a : (f.src == f.dst) = false := by simpa [bne] using h3
  have h4a : decide (f.seq < 1) = false := by simp at h4 ⊢; omega
  have h5a : decide (1099511627776 < f.seq) = false := by simp at h5 ⊢; omega
  have H6 := Lib.hid h6; clear h6
  have st := St.start w
  go_enter Try.func65, Try.ntmps65
  go_wp2_with (first | go_skip | (with_reducible refine at_box 105 ?_; refine mem_box st (wanted_none rfl) 105 _ rfl _ rfl _ rfl ?_; clear st; intro g1 w1 hg1 st hg1b; clear hg1b; simp [Act.eval, Act.put, Value.cells, putL] at st) | (with_reducible refine at_load 3 ?_; refine memX st 3 _ rfl Try.isAgg3 rfl ?_) | (with_reducible refine at_load 4 ?_; refine memX st 4 _ rfl Try.isAgg4 rfl ?_) | (go_at_call 85; refine (wire_host _ _).mono ?_; rintro e v ⟨rfl, rfl⟩; first | rw [H1.out] | rw [H2.out]) | (go_at_call 86; refine (wire_thread _ _).mono ?_; rintro e v ⟨rfl, rfl⟩; rw [H6.out]))
  go_ret
  exact ⟨rfl, st.below⟩
 ·simp [h1, h2, h3, h4, h5, h6] at h
set_option maxHeartbeats 3200000 in
theorem wire_Good_ack (ok : Nat → Prop) (w : World) (f : Frame) (la : Option Addr) (lc : Nat) (ga : Option Addr) (gc : Nat) (ca : Option Addr) (cc : Nat) (hf : f.FitsW) (hR : FrameR ok w f la lc ga gc ca cc) (h : frameRange f = true) (hk : f.ack = true) :
  Calls Try.prog 65 #[frameV f la lc ga gc ca cc] w fun e w' => e = .returned (.int .i64 (ackC f)) ∧ Below w.heap.size w w' := by
 unfold frameV
 obtain ⟨f1, f2, f3, f4⟩ := hf
 obtain ⟨⟨hA, hB⟩, hC⟩ := hR
 rw [hk]; clear hk
 unfold frameRange at h
 simp only [Bool.and_eq_true] at h
 obtain ⟨⟨⟨⟨⟨h1, h2⟩, h3⟩, h4⟩, h5⟩, h6⟩ := h
 have h3a : (f.src == f.dst) = false := by simpa [bne] using h3
 have h4a : decide (f.seq < 1) = false := by simp at h4 ⊢; omega
 have h5a : decide (1099511627776 < f.seq) = false := by simp at h5 ⊢; omega
 have H1 := Lib.hid h1; have H2 := Lib.hid h2; have H6 := Lib.hid h6
 clear h1 h2 h3 h4 h5 h6
 have HK := ackPlain_bne f
 have s1 : f.mail.label.length ≤ 9223372036854775807 := by omega
 rcases chain4n (f.thread != 0) (f.mail.host != 0) (f.mail.thread != 0) (decide (0 < f.mail.label.length + f.mail.grants.length + f.mail.text.size + f.certs.length)) with k1 | ⟨k1, k2⟩ | ⟨k1, k2, k3⟩ | ⟨k1, k2, k3, k4⟩ | ⟨k1, k2, k3, k4⟩
 ·simp only [k1] at HK
  have HE := Lib.hid (show ackC f = 1 by unfold ackC; rw [HK]; simp)
  clear HK
  have st := St.start w
  go_enter Try.func65, Try.ntmps65
  go_wp2_with (first | go_skip | (with_reducible refine at_box 105 ?_; refine mem_box st (wanted_none rfl) 105 _ rfl _ rfl _ rfl ?_; clear st; intro g1 w1 hg1 st hg1b; clear hg1b; simp [Act.eval, Act.put, Value.cells, putL] at st) | (with_reducible refine at_load 3 ?_; refine memX st 3 _ rfl Try.isAgg3 rfl ?_) | (with_reducible refine at_load 4 ?_; refine memX st 4 _ rfl Try.isAgg4 rfl ?_) | (with_reducible refine at_load 3 ?_; refine memX st 3 _ rfl Try.isAgg3 rfl ?_) | (with_reducible refine at_load 24 ?_; refine memX st 24 _ rfl Try.isAgg24 rfl ?_) | (with_reducible refine at_load 25 ?_; refine memX st 25 _ rfl Try.isAgg25 rfl ?_) | (with_reducible refine at_load 9 ?_; refine memX st 9 _ rfl Try.isAgg9 rfl ?_) | (with_reducible refine at_load 62 ?_; refine memX st 62 _ rfl Try.isAgg62 rfl ?_) | (with_reducible refine at_load 45 ?_; refine memXA st 45 _ rfl Try.isAgg45 _ Try.sizeOf45 rfl ?_) | (with_reducible refine at_alloc 45 ?_; refine mem_alloc st (wanted_none rfl) 45 rfl _ Try.zeroValue45 _ rfl ?_; clear st; intro g3 w3 hg3 st hg3b; clear hg3b; simp [Act.eval, Act.put, Value.cells, putL] at st) | (with_reducible refine at_store 45 ?_; refine memS st 45 _ _ rfl _ Try.sizeOf45 ⟨1, _, _, _, _, _, rfl, rfl, rfl, rfl, rfl, rfl, ?_⟩; clear st; intro w4 st hw4m hw4z; simp [Act.eval, Act.put, Value.cells, putL] at st) | (go_at_call 85; refine (wire_host _ _).mono ?_; rintro e v ⟨rfl, rfl⟩; first | rw [H1.out] | rw [H2.out]) | (go_at_call 86; refine (wire_thread _ _).mono ?_; rintro e v ⟨rfl, rfl⟩; rw [H6.out]))
  go_ret
  exact ⟨by rw [HE.out]; rfl, st.below⟩
 ·simp only [k1, k2] at HK
  have HE := Lib.hid (show ackC f = 1 by unfold ackC; rw [HK]; simp)
  clear HK
  have st := St.start w
  go_enter Try.func65, Try.ntmps65
  go_wp2_with (first | go_skip | (with_reducible refine at_box 105 ?_; refine mem_box st (wanted_none rfl) 105 _ rfl _ rfl _ rfl ?_; clear st; intro g1 w1 hg1 st hg1b; clear hg1b; simp [Act.eval, Act.put, Value.cells, putL] at st) | (with_reducible refine at_load 3 ?_; refine memX st 3 _ rfl Try.isAgg3 rfl ?_) | (with_reducible refine at_load 4 ?_; refine memX st 4 _ rfl Try.isAgg4 rfl ?_) | (with_reducible refine at_load 3 ?_; refine memX st 3 _ rfl Try.isAgg3 rfl ?_) | (with_reducible refine at_load 24 ?_; refine memX st 24 _ rfl Try.isAgg24 rfl ?_) | (with_reducible refine at_load 25 ?_; refine memX st 25 _ rfl Try.isAgg25 rfl ?_) | (with_reducible refine at_load 9 ?_; refine memX st 9 _ rfl Try.isAgg9 rfl ?_) | (with_reducible refine at_load 62 ?_; refine memX st 62 _ rfl Try.isAgg62 rfl ?_) | (with_reducible refine at_load 45 ?_; refine memXA st 45 _ rfl Try.isAgg45 _ Try.sizeOf45 rfl ?_) | (with_reducible refine at_alloc 45 ?_; refine mem_alloc st (wanted_none rfl) 45 rfl _ Try.zeroValue45 _ rfl ?_; clear st; intro g3 w3 hg3 st hg3b; clear hg3b; simp [Act.eval, Act.put, Value.cells, putL] at st) | (with_reducible refine at_store 45 ?_; refine memS st 45 _ _ rfl _ Try.sizeOf45 ⟨1, _, _, _, _, _, rfl, rfl, rfl, rfl, rfl, rfl, ?_⟩; clear st; intro w4 st hw4m hw4z; simp [Act.eval, Act.put, Value.cells, putL] at st) | (go_at_call 85; refine (wire_host _ _).mono ?_; rintro e v ⟨rfl, rfl⟩; first | rw [H1.out] | rw [H2.out]) | (go_at_call 86; refine (wire_thread _ _).mono ?_; rintro e v ⟨rfl, rfl⟩; rw [H6.out]))
  go_ret
  exact ⟨by rw [HE.out]; rfl, st.below⟩
 ·simp only [k1, k2, k3] at HK
  have HE := Lib.hid (show ackC f = 1 by unfold ackC; rw [HK]; simp)
  clear HK
  have st := St.start w
  go_enter Try.func65, Try.ntmps65
  go_wp2_with (first | go_skip | (with_reducible refine at_box 105 ?_; refine mem_box st (wanted_none rfl) 105 _ rfl _ rfl _ rfl ?_; clear st; intro g1 w1 hg1 st hg1b; clear hg1b; simp [Act.eval, Act.put, Value.cells, putL] at st) | (with_reducible refine at_load 3 ?_; refine memX st 3 _ rfl Try.isAgg3 rfl ?_) | (with_reducible refine at_load 4 ?_; refine memX st 4 _ rfl Try.isAgg4 rfl ?_) | (with_reducible refine at_load 3 ?_; refine memX st 3 _ rfl Try.isAgg3 rfl ?_) | (with_reducible refine at_load 24 ?_; refine memX st 24 _ rfl Try.isAgg24 rfl ?_) | (with_reducible refine at_load 25 ?_; refine memX st 25 _ rfl Try.isAgg25 rfl ?_) | (with_reducible refine at_load 9 ?_; refine memX st 9 _ rfl Try.isAgg9 rfl ?_) | (with_reducible refine at_load 62 ?_; refine memX st 62 _ rfl Try.isAgg62 rfl ?_) | (with_reducible refine at_load 45 ?_; refine memXA st 45 _ rfl Try.isAgg45 _ Try.sizeOf45 rfl ?_) | (with_reducible refine at_alloc 45 ?_; refine mem_alloc st (wanted_none rfl) 45 rfl _ Try.zeroValue45 _ rfl ?_; clear st; intro g3 w3 hg3 st hg3b; clear hg3b; simp [Act.eval, Act.put, Value.cells, putL] at st) | (with_reducible refine at_store 45 ?_; refine memS st 45 _ _ rfl _ Try.sizeOf45 ⟨1, _, _, _, _, _, rfl, rfl, rfl, rfl, rfl, rfl, ?_⟩; clear st; intro w4 st hw4m hw4z; simp [Act.eval, Act.put, Value.cells, putL] at st) | (go_at_call 85; refine (wire_host _ _).mono ?_; rintro e v ⟨rfl, rfl⟩; first | rw [H1.out] | rw [H2.out]) | (go_at_call 86; refine (wire_thread _ _).mono ?_; rintro e v ⟨rfl, rfl⟩; rw [H6.out]))
  go_ret
  exact ⟨by rw [HE.out]; rfl, st.below⟩
 ·simp only [k1, k2, k3, k4] at HK
  have HE := Lib.hid (show ackC f = 1 by unfold ackC; rw [HK]; simp)
  have k4a : decide ((0 : Int) < (f.mail.label.length : Int) + f.mail.grants.length + f.mail.text.size + f.certs.length) = true := decide_eq_true (by have := of_decide_eq_true k4; omega)
  clear HK
  have st := St.start w
  go_enter Try.func65, Try.ntmps65
  go_wp2_with (first | go_skip | (with_reducible refine at_box 105 ?_; refine mem_box st (wanted_none rfl) 105 _ rfl _ rfl _ rfl ?_; clear st; intro g1 w1 hg1 st hg1b; clear hg1b; simp [Act.eval, Act.put, Value.cells, putL] at st) | (with_reducible refine at_load 3 ?_; refine memX st 3 _ rfl Try.isAgg3 rfl ?_) | (with_reducible refine at_load 4 ?_; refine memX st 4 _ rfl Try.isAgg4 rfl ?_) | (with_reducible refine at_load 3 ?_; refine memX st 3 _ rfl Try.isAgg3 rfl ?_) | (with_reducible refine at_load 24 ?_; refine memX st 24 _ rfl Try.isAgg24 rfl ?_) | (with_reducible refine at_load 25 ?_; refine memX st 25 _ rfl Try.isAgg25 rfl ?_) | (with_reducible refine at_load 9 ?_; refine memX st 9 _ rfl Try.isAgg9 rfl ?_) | (with_reducible refine at_load 62 ?_; refine memX st 62 _ rfl Try.isAgg62 rfl ?_) | (with_reducible refine at_load 45 ?_; refine memXA st 45 _ rfl Try.isAgg45 _ Try.sizeOf45 rfl ?_) | (with_reducible refine at_alloc 45 ?_; refine mem_alloc st (wanted_none rfl) 45 rfl _ Try.zeroValue45 _ rfl ?_; clear st; intro g3 w3 hg3 st hg3b; clear hg3b; simp [Act.eval, Act.put, Value.cells, putL] at st) | (with_reducible refine at_store 45 ?_; refine memS st 45 _ _ rfl _ Try.sizeOf45 ⟨1, _, _, _, _, _, rfl, rfl, rfl, rfl, rfl, rfl, ?_⟩; clear st; intro w4 st hw4m hw4z; simp [Act.eval, Act.put, Value.cells, putL] at st) | (go_at_call 85; refine (wire_host _ _).mono ?_; rintro e v ⟨rfl, rfl⟩; first | rw [H1.out] | rw [H2.out]) | (go_at_call 86; refine (wire_thread _ _).mono ?_; rintro e v ⟨rfl, rfl⟩; rw [H6.out]))
  go_ret
  exact ⟨by rw [HE.out]; rfl, st.below⟩
 ·simp only [k1, k2, k3, k4] at HK
  have HE := Lib.hid (show ackC f = 0 by unfold ackC; rw [HK]; simp)
  have k4a : decide ((0 : Int) < (f.mail.label.length : Int) + f.mail.grants.length + f.mail.text.size + f.certs.length) = false := decide_eq_false (by have := of_decide_eq_false k4; omega)
  clear HK
  have st := St.start w
  go_enter Try.func65, Try.ntmps65
  go_wp2_with (first | go_skip | (with_reducible refine at_box 105 ?_; refine mem_box st (wanted_none rfl) 105 _ rfl _ rfl _ rfl ?_; clear st; intro g1 w1 hg1 st hg1b; clear hg1b; simp [Act.eval, Act.put, Value.cells, putL] at st) | (with_reducible refine at_load 3 ?_; refine memX st 3 _ rfl Try.isAgg3 rfl ?_) | (with_reducible refine at_load 4 ?_; refine memX st 4 _ rfl Try.isAgg4 rfl ?_) | (with_reducible refine at_load 3 ?_; refine memX st 3 _ rfl Try.isAgg3 rfl ?_) | (with_reducible refine at_load 24 ?_; refine memX st 24 _ rfl Try.isAgg24 rfl ?_) | (with_reducible refine at_load 25 ?_; refine memX st 25 _ rfl Try.isAgg25 rfl ?_) | (with_reducible refine at_load 9 ?_; refine memX st 9 _ rfl Try.isAgg9 rfl ?_) | (with_reducible refine at_load 62 ?_; refine memX st 62 _ rfl Try.isAgg62 rfl ?_) | (with_reducible refine at_load 45 ?_; refine memXA st 45 _ rfl Try.isAgg45 _ Try.sizeOf45 rfl ?_) | (with_reducible refine at_alloc 45 ?_; refine mem_alloc st (wanted_none rfl) 45 rfl _ Try.zeroValue45 _ rfl ?_; clear st; intro g3 w3 hg3 st hg3b; clear hg3b; simp [Act.eval, Act.put, Value.cells, putL] at st) | (with_reducible refine at_store 45 ?_; refine memS st 45 _ _ rfl _ Try.sizeOf45 ⟨1, _, _, _, _, _, rfl, rfl, rfl, rfl, rfl, rfl, ?_⟩; clear st; intro w4 st hw4m hw4z; simp [Act.eval, Act.put, Value.cells, putL] at st) | (go_at_call 85; refine (wire_host _ _).mono ?_; rintro e v ⟨rfl, rfl⟩; first | rw [H1.out] | rw [H2.out]) | (go_at_call 86; refine (wire_thread _ _).mono ?_; rintro e v ⟨rfl, rfl⟩; rw [H6.out]))
  go_ret
  exact ⟨by rw [HE.out]; rfl, st.below⟩
set_option maxHeartbeats 3200000 in
theorem wire_Good_mail (ok : Nat → Prop) (w : World) (f : Frame) (la : Option Addr) (lc : Nat) (ga : Option Addr) (gc : Nat) (ca : Option Addr) (cc : Nat) (hf : f.FitsW) (hR : FrameR ok w f la lc ga gc ca cc) (h : frameRange f = true) (hk : f.ack = false) (hm : goodMailC f.mail ≠ 0) :
  Calls Try.prog 65 #[frameV f la lc ga gc ca cc] w fun e w' => e = .returned (.int .i64 (goodMailC f.mail)) ∧ Below w.heap.size w w' := by
 unfold frameV
 obtain ⟨f1, f2, f3, f4⟩ := hf
 obtain ⟨⟨hA, hB⟩, hC⟩ := hR
 rw [hk]; clear hk
 unfold frameRange at h
 simp only [Bool.and_eq_true] at h
 obtain ⟨⟨⟨⟨⟨h1, h2⟩, h3⟩, h4⟩, h5⟩, h6⟩ := h
 have h3a : (f.src == f.dst) = false := by simpa [bne] using h3
 have h4a : decide (f.seq < 1) = false := by simp at h4 ⊢; omega
 have h5a : decide (1099511627776 < f.seq) = false := by simp at h5 ⊢; omega
 have H1 := Lib.hid h1; have H2 := Lib.hid h2; have H6 := Lib.hid h6
 clear h1 h2 h3 h4 h5 h6
 generalize hq : goodMailC f.mail = q at hm ⊢
 have HM := Lib.hid hq
 have d1 : (q != 0) = true := by simpa using hm
 clear hq hm
 have st := St.start w
 go_enter Try.func65, Try.ntmps65
 go_wp2_with (first | go_skip | (with_reducible refine at_box 105 ?_; refine mem_box st (wanted_none rfl) 105 _ rfl _ rfl _ rfl ?_; clear st; intro g1 w1 hg1 st hg1b; clear hg1b; simp [Act.eval, Act.put, Value.cells, putL] at st) | (with_reducible refine at_load 3 ?_; refine memX st 3 _ rfl Try.isAgg3 rfl ?_) | (with_reducible refine at_load 4 ?_; refine memX st 4 _ rfl Try.isAgg4 rfl ?_) | (with_reducible refine at_load 45 ?_; refine memXA st 45 _ rfl Try.isAgg45 _ Try.sizeOf45 rfl ?_) | (with_reducible refine at_load 62 ?_; refine memX st 62 _ rfl Try.isAgg62 rfl ?_) | (go_at_call 49; refine (wire_GoodMail ok _ f.mail la lc ga gc f1 f2 ⟨hA.below st.below, hB.below st.below⟩).mono ?_; rintro e v5 ⟨rfl, hb5⟩; rw [HM.out]; replace st := st.call hb5; clear hb5) | (go_at_call 85; refine (wire_host _ _).mono ?_; rintro e v ⟨rfl, rfl⟩; first | rw [H1.out] | rw [H2.out]) | (go_at_call 86; refine (wire_thread _ _).mono ?_; rintro e v ⟨rfl, rfl⟩; rw [H6.out]))
 go_ret
 exact ⟨rfl, st.below⟩
set_option maxHeartbeats 3200000 in
theorem wire_Good_host (ok : Nat → Prop) (w : World) (f : Frame) (la : Option Addr) (lc : Nat) (ga : Option Addr) (gc : Nat) (ca : Option Addr) (cc : Nat) (hf : f.FitsW) (hR : FrameR ok w f la lc ga gc ca cc) (h : frameRange f = true) (hk : f.ack = false) (hm : goodMailC f.mail = 0) (hh : f.mail.host ≠ f.src) :
  Calls Try.prog 65 #[frameV f la lc ga gc ca cc] w fun e w' => e = .returned (.int .i64 1) ∧ Below w.heap.size w w' := by
 unfold frameV
 obtain ⟨f1, f2, f3, f4⟩ := hf
 obtain ⟨⟨hA, hB⟩, hC⟩ := hR
 rw [hk]; clear hk
 unfold frameRange at h
 simp only [Bool.and_eq_true] at h
 obtain ⟨⟨⟨⟨⟨h1, h2⟩, h3⟩, h4⟩, h5⟩, h6⟩ := h
 have h3a : (f.src == f.dst) = false := by simpa [bne] using h3
 have h4a : decide (f.seq < 1) = false := by simp at h4 ⊢; omega
 have h5a : decide (1099511627776 < f.seq) = false := by simp at h5 ⊢; omega
 have H1 := Lib.hid h1; have H2 := Lib.hid h2; have H6 := Lib.hid h6
 clear h1 h2 h3 h4 h5 h6
 have HM := Lib.hid hm
 have d1 : (f.mail.host != f.src) = true := by simpa using hh
 clear hm hh
 have st := St.start w
 go_enter Try.func65, Try.ntmps65
 go_wp2_with (first | go_skip | (with_reducible refine at_box 105 ?_; refine mem_box st (wanted_none rfl) 105 _ rfl _ rfl _ rfl ?_; clear st; intro g1 w1 hg1 st hg1b; clear hg1b; simp [Act.eval, Act.put, Value.cells, putL] at st) | (with_reducible refine at_load 3 ?_; refine memX st 3 _ rfl Try.isAgg3 rfl ?_) | (with_reducible refine at_load 4 ?_; refine memX st 4 _ rfl Try.isAgg4 rfl ?_) | (with_reducible refine at_load 45 ?_; refine memXA st 45 _ rfl Try.isAgg45 _ Try.sizeOf45 rfl ?_) | (with_reducible refine at_load 62 ?_; refine memX st 62 _ rfl Try.isAgg62 rfl ?_) | (go_at_call 49; refine (wire_GoodMail ok _ f.mail la lc ga gc f1 f2 ⟨hA.below st.below, hB.below st.below⟩).mono ?_; rintro e v5 ⟨rfl, hb5⟩; rw [HM.out]; replace st := st.call hb5; clear hb5) | (go_at_call 85; refine (wire_host _ _).mono ?_; rintro e v ⟨rfl, rfl⟩; first | rw [H1.out] | rw [H2.out]) | (go_at_call 86; refine (wire_thread _ _).mono ?_; rintro e v ⟨rfl, rfl⟩; rw [H6.out]))
 go_ret
 exact ⟨rfl, st.below⟩
set_option maxHeartbeats 3200000 in
theorem wire_Good_full (ok : Nat → Prop) (w : World) (f : Frame) (la : Option Addr) (lc : Nat) (ga : Option Addr) (gc : Nat) (ca : Option Addr) (cc : Nat) (hf : f.FitsW) (hR : FrameR ok w f la lc ga gc ca cc) (h : frameRange f = true) (hk : f.ack = false) (hm : goodMailC f.mail = 0) (hh : f.mail.host = f.src) (h24 : 24 < f.certs.length) :
  Calls Try.prog 65 #[frameV f la lc ga gc ca cc] w fun e w' => e = .returned (.int .i64 5) ∧ Below w.heap.size w w' := by
 unfold frameV
 obtain ⟨f1, f2, f3, f4⟩ := hf
 obtain ⟨⟨hA, hB⟩, hC⟩ := hR
 rw [hk]; clear hk
 unfold frameRange at h
 simp only [Bool.and_eq_true] at h
 obtain ⟨⟨⟨⟨⟨h1, h2⟩, h3⟩, h4⟩, h5⟩, h6⟩ := h
 have h3a : (f.src == f.dst) = false := by simpa [bne] using h3
 have h4a : decide (f.seq < 1) = false := by simp at h4 ⊢; omega
 have h5a : decide (1099511627776 < f.seq) = false := by simp at h5 ⊢; omega
 have H1 := Lib.hid h1; have H2 := Lib.hid h2; have H6 := Lib.hid h6
 clear h1 h2 h3 h4 h5 h6
 have HM := Lib.hid hm
 have d1 : (f.mail.host != f.src) = false := by simpa using hh
 clear hm hh
 have d2 : decide ((24 : Int) < f.certs.length) = true := by simp; omega
 have st := St.start w
 go_enter Try.func65, Try.ntmps65
 go_wp2_with (first | go_skip | (with_reducible refine at_box 105 ?_; refine mem_box st (wanted_none rfl) 105 _ rfl _ rfl _ rfl ?_; clear st; intro g1 w1 hg1 st hg1b; clear hg1b; simp [Act.eval, Act.put, Value.cells, putL] at st) | (with_reducible refine at_load 3 ?_; refine memX st 3 _ rfl Try.isAgg3 rfl ?_) | (with_reducible refine at_load 4 ?_; refine memX st 4 _ rfl Try.isAgg4 rfl ?_) | (with_reducible refine at_load 45 ?_; refine memXA st 45 _ rfl Try.isAgg45 _ Try.sizeOf45 rfl ?_) | (with_reducible refine at_load 62 ?_; refine memX st 62 _ rfl Try.isAgg62 rfl ?_) | (go_at_call 49; refine (wire_GoodMail ok _ f.mail la lc ga gc f1 f2 ⟨hA.below st.below, hB.below st.below⟩).mono ?_; rintro e v5 ⟨rfl, hb5⟩; rw [HM.out]; replace st := st.call hb5; clear hb5) | (go_at_call 85; refine (wire_host _ _).mono ?_; rintro e v ⟨rfl, rfl⟩; first | rw [H1.out] | rw [H2.out]) | (go_at_call 86; refine (wire_thread _ _).mono ?_; rintro e v ⟨rfl, rfl⟩; rw [H6.out]))
 go_ret
 exact ⟨rfl, st.below⟩
theorem all_step {l : List Cert} {k : Nat} (h : k < l.length) : (l.drop k).all goodCertB = (goodCertB l[k] && (l.drop (k + 1)).all goodCertB) := by
 rw [List.drop_eq_getElem_cons h, List.all_cons]
set_option maxHeartbeats 3200000 in
theorem wire_Good_certs (ok : Nat → Prop) (w : World) (f : Frame) (la : Option Addr) (lc : Nat) (ga : Option Addr) (gc : Nat) (ca : Option Addr) (cc : Nat) (hf : f.FitsW) (hR : FrameR ok w f la lc ga gc ca cc) (h : frameRange f = true) (hk : f.ack = false) (hm : goodMailC f.mail = 0) (hh : f.mail.host = f.src) (h24 : f.certs.length ≤ 24) :
  Calls Try.prog 65 #[frameV f la lc ga gc ca cc] w fun e w' => e = .returned (.int .i64 (certsC f)) ∧ Below w.heap.size w w' := by
 unfold frameV
 obtain ⟨f1, f2, f3, f4⟩ := hf
 obtain ⟨⟨hA, hB⟩, hC⟩ := hR
 rw [hk]; clear hk
 unfold frameRange at h
 simp only [Bool.and_eq_true] at h
 obtain ⟨⟨⟨⟨⟨h1, h2⟩, h3⟩, h4⟩, h5⟩, h6⟩ := h
 have h3a : (f.src == f.dst) = false := by simpa [bne] using h3
 have h4a : decide (f.seq < 1) = false := by simp at h4 ⊢; omega
 have h5a : decide (1099511627776 < f.seq) = false := by simp at h5 ⊢; omega
 have H1 := Lib.hid h1; have H2 := Lib.hid h2; have H6 := Lib.hid h6
 clear h1 h2 h3 h4 h5 h6
 have HM := Lib.hid hm
 have d1 : (f.mail.host != f.src) = false := by simpa using hh
 clear hm hh
 have d2 : decide ((24 : Int) < f.certs.length) = false := by simp; omega
 have E0 := Lib.hid (show f.certs.all goodCertB = (f.certs.drop 0).all goodCertB by rw [List.drop_zero])
 have st := St.start w
 go_enter Try.func65, Try.ntmps65
 go_wp2_with (first | go_skip | (with_reducible refine at_box 105 ?_; refine mem_box st (wanted_none rfl) 105 _ rfl _ rfl _ rfl ?_; clear st; intro g1 w1 hg1 st hg1b; clear hg1b; simp [Act.eval, Act.put, Value.cells, putL] at st) | (with_reducible refine at_load 3 ?_; refine memX st 3 _ rfl Try.isAgg3 rfl ?_) | (with_reducible refine at_load 4 ?_; refine memX st 4 _ rfl Try.isAgg4 rfl ?_) | (with_reducible refine at_load 45 ?_; refine memXA st 45 _ rfl Try.isAgg45 _ Try.sizeOf45 rfl ?_) | (with_reducible refine at_load 62 ?_; refine memX st 62 _ rfl Try.isAgg62 rfl ?_) | (go_at_call 49; refine (wire_GoodMail ok _ f.mail la lc ga gc f1 f2 ⟨hA.below st.below, hB.below st.below⟩).mono ?_; rintro e v5 ⟨rfl, hb5⟩; rw [HM.out]; replace st := st.call hb5; clear hb5) | (go_at_call 85; refine (wire_host _ _).mono ?_; rintro e v ⟨rfl, rfl⟩; first | rw [H1.out] | rw [H2.out]) | (go_at_call 86; refine (wire_thread _ _).mono ?_; rintro e v ⟨rfl, rfl⟩; rw [H6.out]))
 replace hC := hC.below st.below
 have st0 := st
 clear st hA hB HM H1 H2 H6 d1 d2 h3a h4a h5a
 go_loopw [94] (fun i wr => ∃ k : Nat, k ≤ f.certs.length ∧ i = .int .i64 k ∧ Below v5.heap.size v5 wr ∧ Hid (f.certs.all goodCertB = (f.certs.drop k).all goodCertB)) (fun i _ => f.certs.length - (intOf i).toNat)
 case atStart => exact ⟨0, Nat.zero_le _, rfl, Below.refl _ _, E0⟩
 case round =>
  obtain ⟨k, hk, rfl, hBk, hI⟩ := hrel
  have st := st0.call hBk
  by_cases hlt : k < f.certs.length
  ·obtain ⟨b, o, rfl, hb, c1, c2, c3, c4⟩ := (hC.below hBk).cert_at k hlt
   have hs := all_step hlt
   have str := st
   replace st := st.rebase
   cases hg : goodCertB f.certs[k]
   all_goals
    have HG := Lib.hid hg
    have HS := Lib.hid hs
    clear hg hs st0
    go_wp2_with (first | go_skip | (with_reducible refine at_alloc 102 ?_; refine mem_alloc st (wanted_none rfl) 102 rfl _ Try.zeroValue102 _ rfl ?_; clear st; intro g6 w6 hg6 st hg6b; clear hg6b; simp [Act.eval, Act.put, Value.cells, putL] at st) | (with_reducible refine at_store 102 ?_; refine memS st 102 _ _ rfl _ Try.sizeOf102 ⟨1, _, _, _, _, _, rfl, rfl, rfl, rfl, rfl, rfl, ?_⟩; clear st; intro w7 st hw7m hw7z; simp [Act.eval, Act.put, Value.cells, putL] at st) | (with_reducible refine at_load 102 ?_; refine memXA st 102 _ rfl Try.isAgg102 _ Try.sizeOf102 rfl ?_) | (go_at_call 53; refine (wire_GoodCert f.certs[k] _).mono ?_; rintro e v8 ⟨rfl, hb8⟩; rw [HG.out]; replace st := st.call hb8; clear hb8))
   ·go_ret
    have e : certsC f = 2 := by unfold certsC; rw [hI.out, HS.out, HG.out]; rfl
    exact ⟨by rw [e]; rfl, str.below.keep (str.below2 st (by simp))⟩
   ·go_roundw
    case rel => exact ⟨k + 1, hlt, by go_num, hBk.keep (str.below2 st (by simp)), by rw [hI.out, HS.out, HG.out]; rfl⟩
    case measure => simp [intOf]; omega
  ·go_wp2_with fail
   go_ret
   have e : certsC f = 0 := by unfold certsC; rw [hI.out, List.drop_of_length_le (by omega)]; rfl
   exact ⟨by rw [e]; rfl, st.below⟩
theorem wire_Good (ok : Nat → Prop) (w : World) (f : Frame) (la : Option Addr) (lc : Nat) (ga : Option Addr) (gc : Nat) (ca : Option Addr) (cc : Nat) (hf : f.FitsW) (hR : FrameR ok w f la lc ga gc ca cc) :
  Calls Try.prog 65 #[frameV f la lc ga gc ca cc] w fun e w' => e = .returned (.int .i64 (goodFrameC f)) ∧ Below w.heap.size w w' := by
 unfold goodFrameC
 by_cases h : frameRange f = true
 ·rw [if_pos h]
  by_cases hk : f.ack = true
  ·rw [if_pos hk]; exact wire_Good_ack ok w f la lc ga gc ca cc hf hR h hk
  ·rw [if_neg hk]
   replace hk : f.ack = false := by simpa using hk
   by_cases hm : goodMailC f.mail ≠ 0
   ·rw [if_pos hm]; exact wire_Good_mail ok w f la lc ga gc ca cc hf hR h hk hm
   ·rw [if_neg hm]
    replace hm : goodMailC f.mail = 0 := Classical.not_not.1 hm
    by_cases hh : f.mail.host ≠ f.src
    ·rw [if_pos hh]; exact wire_Good_host ok w f la lc ga gc ca cc hf hR h hk hm hh
    ·rw [if_neg hh]
     replace hh : f.mail.host = f.src := Classical.not_not.1 hh
     by_cases h24 : 24 < f.certs.length
     ·rw [if_pos h24]; exact wire_Good_full ok w f la lc ga gc ca cc hf hR h hk hm hh h24
     ·rw [if_neg h24]; exact wire_Good_certs ok w f la lc ga gc ca cc hf hR h hk hm hh (by omega)
 ·rw [if_neg h]
  exact wire_Good_range ok w f la lc ga gc ca cc hf hR (by simpa using h)
open Go.RowKit
set_option maxRecDepth 100000 in
set_option maxHeartbeats 1600000 in
theorem wire_Encode_bad (ok : Nat → Prop) (w : World) (f : Frame) (la : Option Addr) (lc : Nat) (ga : Option Addr) (gc : Nat) (ca : Option Addr) (cc : Nat) (hf : f.FitsW) (hR : FrameR ok w f la lc ga gc ca cc) (h : goodFrameC f ≠ 0) :
  Calls Try.prog 70 #[frameV f la lc ga gc ca cc] w fun e w' => e = .returned (.tuple #[.string ⟨#[]⟩, .int .i64 (goodFrameC f)]) ∧ Below w.heap.size w w' := by
 have HG := Lib.hid (fun (W : World) (hW : FrameR ok W f la lc ga gc ca cc) => wire_Good ok W f la lc ga gc ca cc hf hW)
 generalize goodFrameC f = q at h HG ⊢
 have d1 : (q != 0) = true := by simpa using h
 clear h
 unfold frameV at *
 have st := St.start w
 go_enter Try.func70, Try.ntmps70
 go_wp2_with (first | go_skip | (with_reducible refine at_box 105 ?_; refine mem_box st (wanted_none rfl) 105 _ rfl _ rfl _ rfl ?_; clear st; intro g1 w1 hg1 st hg1b; clear hg1b; simp [Act.eval, Act.put, Value.cells, putL] at st) | (with_reducible refine at_load 105 ?_; refine memXA st 105 _ rfl Try.isAgg105 _ Try.sizeOf105 rfl ?_) | (go_at_call 65; refine (HG.out _ (hR.below st.below)).mono ?_; rintro e v2 ⟨rfl, hb2⟩; replace st := st.call hb2; clear hb2))
 go_ret2
 exact ⟨rfl, st.below⟩
set_option maxRecDepth 100000 in
set_option maxHeartbeats 1600000 in
theorem wire_Encode_ack (ok : Nat → Prop) (w : World) (f : Frame) (la : Option Addr) (lc : Nat) (ga : Option Addr) (gc : Nat) (ca : Option Addr) (cc : Nat) (hf : f.FitsW) (hR : FrameR ok w f la lc ga gc ca cc) (h : goodFrameC f = 0) (hk : f.ack = true) :
  Calls Try.prog 70 #[frameV f la lc ga gc ca cc] w fun e w' => e = .returned (.tuple #[.string ⟨(encL f).toArray⟩, .int .i64 0]) ∧ Below w.heap.size w w' := by
 obtain ⟨⟨s1, s2⟩, ⟨s3, s4⟩, _, ⟨s5, s6⟩, _⟩ := good_facts h
 have HG := Lib.hid (fun (W : World) (hW : FrameR ok W f la lc ga gc ca cc) => wire_Good ok W f la lc ga gc ca cc hf hW)
 have HK := Lib.hid hk
 have HE := Lib.hid (show encL f = 1 :: ([b1 f.src, b1 f.dst] ++ be f.seq 6) by unfold encL; rw [if_pos hk]; rfl)
 rw [h] at HG
 have hk1 : Value.bool f.ack = .bool true := by rw [hk]
 clear h hk
 unfold frameV at *
 rw [hk1] at HG ⊢
 clear hk1
 have st := St.start w
 go_enter Try.func70, Try.ntmps70
 go_wp2_with (first
  | go_skip | (with_reducible refine at_box 105 ?_; refine mem_box st (wanted_none rfl) 105 _ rfl _ rfl _ rfl ?_; clear st; intro g1 w1 hg1 st hg1b; clear hg1b; simp [Act.eval, Act.put, Value.cells, putL] at st) | (with_reducible refine at_load 105 ?_; refine memXA st 105 _ rfl Try.isAgg105 _ Try.sizeOf105 rfl ?_) | (with_reducible refine at_load 3 ?_; refine memX st 3 _ rfl Try.isAgg3 rfl ?_) | (with_reducible refine at_load 4 ?_; refine memX st 4 _ rfl Try.isAgg4 rfl ?_)
  | (go_at_call 65; refine (HG.out _ (hR.below st.below)).mono ?_; rintro e v2 ⟨rfl, hb2⟩; replace st := st.call hb2; clear hb2)
  | (refine wpList_buildU3 st (wanted_none rfl) 170 5 _ _ _ rfl Try.underlying170 Try.sizeOf5 Try.zeroValue5 _ _ _ rfl rfl rfl ?_; have stw4 := st; clear st; intro g4 w4 hg4 hg4e st hg4b hg4z; clear hg4e; simp [Act.eval, Act.put, Value.cells, putL] at st))
 have hO4 : Own w.heap.size 5 w4 1 RU8 (some ⟨g4, 0, none⟩) 3 [0, b1 f.src, b1 f.dst] := Own.bytesBlk [0, b1 f.src, b1 f.dst] (st.blk _ (List.mem_of_getElem? (i := 1) rfl)) (by simp only [List.map, b1]; rw [← byteV_eq s1 (by omega), ← byteV_eq s3 (by omega)]; rfl) hg4 (by simp [maxLen])
 replace st := st.sub (own' := [(g1, 105, [.int .i64 f.src, .int .i64 f.dst, .int .i64 f.seq, .bool true, .int .i64 f.thread, .int .i64 f.mail.host, .int .i64 f.mail.thread, .slice la f.mail.label.length lc, .slice ga f.mail.grants.length gc, .string f.mail.text, .slice ca f.certs.length cc])]) (by simp) (by simp)
 refine (wire_put w.heap.size _ _ _ [0, b1 f.src, b1 f.dst] f.seq (by omega) (by omega) (by simp) st.size hO4).mono ?_
 rintro e v5 ⟨g5, c5, rfl, hO5, hg5, _⟩
 replace st := st.buf hO4 (Nat.le_refl _) hg5 (by simp)
 clear hO4 hg5
 have hc0 : v5.cell? ⟨g5, 0, none⟩ = some (.int .u8 0) := hO5.byteCell 0 (by simp)
 have hf0 := hO5.byteFree 0
 obtain ⟨hO6, hg6⟩ := hO5.set 0 1
 have st6 := st.buf hO5 (Nat.le_refl _) hg6 (by simp)
 have hcv := hO6.string (P := Try.prog) 170 9 5 Try.underlying170 Try.underlying5 Try.underlying9
 have e6 : ([0, b1 f.src, b1 f.dst] ++ be f.seq 6).set 0 1 = encL f := by rw [HE.out]; rfl
 have e7 : (([0, b1 f.src, b1 f.dst] ++ be f.seq 6).set 0 1).length = 9 := by simp [be_length]
 rw [e7, e6] at hcv
 replace hcv : (convert 170 9 (.slice (some ⟨g5, 0, none⟩) 9 c5)).run Try.prog (v5.setCell ⟨g5, 0, none⟩ (.int .u8 1)) = .ok (.string ⟨(encL f).toArray⟩) (v5.setCell ⟨g5, 0, none⟩ (.int .u8 1)) := hcv
 clear hO5 hO6 hg6 e6 e7 HE
 simp only [List.length_cons, List.length_nil, Nat.zero_add, Nat.reduceAdd]
 go_wp2_with (first | go_skip | (with_reducible refine at_load 4 ?_; refine memX st 4 _ rfl Try.isAgg4 rfl ?_))
 go_ret2
 exact ⟨rfl, st6.below⟩
open Go.RowKit
open Go.RowKit
end Go.Proofs.Ytflfjpopfapogaa
