/- Walks and plain laws that the claim rests on, part 8. -/
import Derived.Test.YtnkfemjmfalamaaP2
import Derived.Test.YtnkfemjmfalamaaP1
import Derived.Test.YtnkfemjmfalamaaP5
import Derived.Deep.RegionLaw
set_option linter.unusedSimpArgs false
set_option linter.unusedVariables false
/- The walks through the references' copies of mail, frames, lines. -/
namespace Go.Proofs.Ytnkfemjmfalamaa
open Go.RowKit

def mailV (m : Mail) (la : Option Addr) (lc : Nat) (ga : Option Addr) (gc : Nat) : Value := .agg #[.int .i64 m.host, .int .i64 m.thread, .slice la m.label.length lc, .slice ga m.grants.length gc, .string m.text]

/-- New memory: blocks that did not lie in w. -/
abbrev newIn (w : World) : Nat → Prop := fun b => w.heap.size ≤ b

end Go.Proofs.Ytnkfemjmfalamaa

/- The walk through the reference's copy of a frame. -/
namespace Go.Proofs.Ytnkfemjmfalamaa
open Go.RowKit

def frameV (f : Frame) (la : Option Addr) (lc : Nat) (ga : Option Addr) (gc : Nat) (ca : Option Addr) (cc : Nat) : Value := .agg #[.int .i64 f.src, .int .i64 f.dst, .int .i64 f.seq, .bool f.ack, .int .i64 f.thread, .int .i64 f.mail.host, .int .i64 f.mail.thread, .slice la f.mail.label.length lc, .slice ga f.mail.grants.length gc, .string f.mail.text, .slice ca f.certs.length cc]

/-- What a frame holds lies within the bounds of append. -/
structure Frame.Fits (f : Frame) : Prop where
  label : f.mail.label.length * 16 ≤ 140737488355328
  grants : f.mail.grants.length * 8 ≤ 140737488355328
  certs : f.certs.length * 32 ≤ 140737488355328

end Go.Proofs.Ytnkfemjmfalamaa

/- The walk through the reference's copy of a line. -/
namespace Go.Proofs.Ytnkfemjmfalamaa
open Go.RowKit

def sentCells (s : Sent) (la : Option Addr) (lc : Nat) (ga : Option Addr) (gc : Nat) (ca : Option Addr) (cc : Nat) : List Value := [.int .i64 s.frame.src, .int .i64 s.frame.dst, .int .i64 s.frame.seq, .bool s.frame.ack, .int .i64 s.frame.thread, .int .i64 s.frame.mail.host, .int .i64 s.frame.mail.thread, .slice la s.frame.mail.label.length lc, .slice ga s.frame.mail.grants.length gc, .string s.frame.mail.text, .slice ca s.frame.certs.length cc, .int .i64 s.tries, .int .i64 s.due]

/-- Blocks from B on, but the one at o. -/
def besides (B : Nat) (o : Option Addr) (b : Nat) : Prop := B ≤ b ∧ o.map (·.block) ≠ some b

theorem RSent.move {ok ok' : Nat → Prop} {w w' : World} {cs : List Value} {s : Sent} (h : RSent ok w cs s) (hs : w.heap.size ≤ w'.heap.size) (hk : ∀ b, b < w.heap.size → ok b → ok' b ∧ w'.heap[b]? = w.heap[b]?) : RSent ok' w' cs s := by
  obtain ⟨la, lc, ga, gc, ca, cc, e, h1, h2, h3⟩ := h
  exact ⟨la, lc, ga, gc, ca, cc, e, h1.move hs hk fun _ _ h => h, h2.move hs hk fun _ _ h => h, h3.move hs hk fun _ _ h => h⟩

/-- One element more, whose own memory is new: what the elements hold still lies apart from the row. -/
theorem sents_push {B : Nat} {wr wa w' : World} {T : TypeId} {o : Option Addr} {c g : Nat} {l : List Sent} (hr : Below wr.heap.size wr wa) (hO : Own B T w' 13 (RSent (besides B o) wa) (some ⟨g, 0, none⟩) c l) (hg : wa.grownBy w' (o.map (·.block))) (hat : AtOrNew o g wa) :
    Own B T w' 13 (RSent (besides B (some ⟨g, 0, none⟩)) w') (some ⟨g, 0, none⟩) c l :=
  hO.mono fun _ _ h => h.move hg.size fun b hb ho => ⟨⟨ho.1, fun e => by
    simp only [Option.map_some, Option.some.injEq] at e
    subst e
    rcases hat with hat | hat
    · exact ho.2 hat
    · omega⟩, hg.block b hb fun e => ho.2 e.symm⟩

end Go.Proofs.Ytnkfemjmfalamaa

/- The walks through the library's clones of lists, and line's wait. -/
namespace Go.Proofs.Ytnkfemjmfalamaa
open Go.RowKit

set_option maxHeartbeats 400000 in
theorem slices_Clone_int {R : List Value → Int → Prop} (ok : Nat → Prop) (w : World) (a : Option Addr) (c : Nat) (l : List Int) (hl : l.length * 8 ≤ 140737488355328) (hR : SlR ok w 1 R a c l) :
    Calls Try.prog 38 #[.slice a l.length c] w fun e w' => ∃ a' c', e = .returned (.slice a' l.length c') ∧ Below w.heap.size w w' ∧ Own w.heap.size 3 w' 1 R a' c' l := by
  obtain ⟨i0, hi, hz0, hz1, hz2⟩ := info_parts info_int
  have hcmp := fun (ww : World) (a : Option Addr) (n c : Nat) => Lib.run_eql_slice_nil ww 25 _ a n c 0 0 Try.underlying25
  cases a with
  | none =>
    have h0 := hR.2.2.1 rfl
    have hn := hR.1
    obtain rfl : l = [] := List.eq_nil_of_length_eq_zero (by omega)
    clear hl hR hi hz0 hz1 hz2 h0 hn
    go_enter Try.func38, Try.ntmps38
    go_wp2
    go_ret
    exact ⟨none, 0, rfl, Below.refl _ _, Own.nil _ _ _ _ _⟩
  | some ad =>
    go_enter Try.func38, Try.ntmps38
    go_wp2_with (first | (at_builtin; refine wpList_app rfl _ _ 25 rfl 3 i0 _ 1 8 Try.underlying25 hi hz0 hz1 hz2 rfl (by decide) (base := w.heap.size) rfl rfl (Own.made (Nat.le_refl _)) rfl rfl (hR.below ((Below.refl _ _).alloc (Nat.le_refl _) _)) ?_ ?_ ?_ ?_))
    · simpa using hl
    · simp [maxLen]; omega
    · simp
    · intro a' c' w' hO hg _
      go_wp2
      go_ret
      exact ⟨a', c', rfl, ((Below.refl _ _).alloc (Nat.le_refl _) _).grown hg (by simp) (by simp), hO⟩

end Go.Proofs.Ytnkfemjmfalamaa

/- The walk through line.Send. -/
namespace Go.Proofs.Ytnkfemjmfalamaa
open Go.RowKit

/-- A frame of nothing, as a value. -/
def frameZ : Value := .agg #[.int .i64 0, .int .i64 0, .int .i64 0, .bool false, .int .i64 0, .int .i64 0, .int .i64 0, .slice none 0 0, .slice none 0 0, .string ⟨#[]⟩, .slice none 0 0]

end Go.Proofs.Ytnkfemjmfalamaa

/- The walks through the references' comparisons of mail, frames, lines that read alike. -/
namespace Go.Proofs.Ytnkfemjmfalamaa
open Go.RowKit

/-- Both lists that a mail holds. -/
structure MailR (ok : Nat → Prop) (w : World) (m : Mail) (la : Option Addr) (lc : Nat) (ga : Option Addr) (gc : Nat) : Prop where
  label : SlR ok w 2 RLev la lc m.label
  grants : SlR ok w 1 RInt ga gc m.grants
theorem MailR.below {ok : Nat → Prop} {w w' : World} {m : Mail} {la : Option Addr} {lc : Nat} {ga : Option Addr} {gc : Nat} (h : MailR ok w m la lc ga gc) (hb : Below w.heap.size w w') : MailR ok w' m la lc ga gc := ⟨h.label.below hb, h.grants.below hb⟩

structure FrameR (ok : Nat → Prop) (w : World) (f : Frame) (la : Option Addr) (lc : Nat) (ga : Option Addr) (gc : Nat) (ca : Option Addr) (cc : Nat) : Prop where
  mail : MailR ok w f.mail la lc ga gc
  certs : SlR ok w 4 RCert ca cc f.certs
theorem FrameR.below {ok : Nat → Prop} {w w' : World} {f : Frame} {la : Option Addr} {lc : Nat} {ga : Option Addr} {gc : Nat} {ca : Option Addr} {cc : Nat} (h : FrameR ok w f la lc ga gc ca cc) (hb : Below w.heap.size w w') : FrameR ok w' f la lc ga gc ca cc := ⟨h.mail.below hb, h.certs.below hb⟩

end Go.Proofs.Ytnkfemjmfalamaa

/- The walks through wire.host, thread, rising, GoodCert, GoodMail and Good. -/
namespace Go.Proofs.Ytnkfemjmfalamaa
open Go.RowKit

theorem wire_host (h : Int) (w : World) : Calls Try.prog 43 #[.int .i64 h] w fun e w' => e = .returned (.bool (four h)) ∧ w = w' := by
  by_cases h1 : 0 ≤ h <;> by_cases h2 : h < 4
  all_goals
    go_enter Try.func43, Try.ntmps43
    go_wp2
    go_ret
    exact ⟨ret_bool (by simp [four, h1, h2]), rfl⟩

theorem wire_thread (h : Int) (w : World) : Calls Try.prog 44 #[.int .i64 h] w fun e w' => e = .returned (.bool (four h)) ∧ w = w' := by
  by_cases h1 : 0 ≤ h <;> by_cases h2 : h < 4
  all_goals
    go_enter Try.func44, Try.ntmps44
    go_wp2
    go_ret
    exact ⟨ret_bool (by simp [four, h1, h2]), rfl⟩

theorem cat_Category (c : Int) (w : World) : Calls Try.prog 30 #[.int .i64 c] w fun e w' => e = .returned (.bool (catOk c)) ∧ w = w' := label_Category c w

theorem risesI_bad {l : List Int} {k : Nat} (h : k < l.length) (hI : Hid (risesI (-1) l = risesI (prevI l k) (l.drop k))) (hb : ¬ (prevI l k < l[k] ∧ catOk l[k] = true)) (m : Int) : risingB l m = false := by
  unfold risingB
  rw [hI.out, risesI_step l k h, if_neg hb]
  rfl
theorem risesI_go {l : List Int} {k : Nat} (h : k < l.length) (hI : Hid (risesI (-1) l = risesI (prevI l k) (l.drop k))) (hb : prevI l k < l[k] ∧ catOk l[k] = true) : Hid (risesI (-1) l = risesI (prevI l (k + 1)) (l.drop (k + 1))) := by
  show _ = _
  rw [hI.out, risesI_step l k h, if_pos hb]

set_option maxHeartbeats 1600000 in
theorem wire_rising (ok : Nat → Prop) (w : World) (la : Option Addr) (lc : Nat) (l : List Int) (m : Int) (hl : l.length * 8 ≤ 140737488355328) (hR : SlR ok w 1 RInt la lc l) :
    Calls Try.prog 45 #[.slice la l.length lc, .int .i64 m] w fun e w' => e = .returned (.bool (risingB l m)) ∧ Below w.heap.size w w' := by
  go_enter Try.func45, Try.ntmps45
  go_wp2
  go_loopw [9] (fun i wr => ∃ k : Nat, k ≤ l.length ∧ i = .int .i64 k ∧ Below w.heap.size w wr ∧ Hid (risesI (-1) l = risesI (prevI l k) (l.drop k))) (fun i _ => l.length - (intOf i).toNat)
  case atStart => exact ⟨0, Nat.zero_le _, rfl, Below.refl _ _, by rw [prevI_zero]; rfl⟩
  case round =>
    obtain ⟨k, hk, rfl, hB, hI⟩ := hrel
    by_cases hlt : k < l.length
    · obtain ⟨b, o, rfl, hb, h1⟩ := (hR.below hB).int_at k hlt
      have hbs := hB.size
      cases hcat : catOk l[k]
      · have HE := Lib.hid (risesI_bad hlt hI (fun h => by rw [hcat] at h; simp at h) m)
        have HC := Lib.hid hcat
        clear hcat
        go_wp2_with (first | (go_at_call 30; refine (cat_Category _ _).mono ?_; rintro e w2 ⟨rfl, rfl⟩; rw [HC.out]))
        go_ret
        exact ⟨by rw [HE.out]; rfl, hB⟩
      · have HC := Lib.hid hcat
        by_cases hk0 : k = 0
        · have HG := risesI_go hlt hI ⟨by rw [show prevI l k = -1 by rw [hk0, prevI_zero]]; have := (catOk_iff _).1 hcat; omega, hcat⟩
          have d3 : decide ((0 : Int) < (k : Int)) = false := by simp; omega
          have d4 : ¬ 0 < k := by omega
          clear hcat hk0
          go_wp2_with (first | (go_at_call 30; refine (cat_Category _ _).mono ?_; rintro e w2 ⟨rfl, rfl⟩; rw [HC.out]))
          go_roundw
          case rel => exact ⟨k + 1, hlt, by go_num, hB, HG⟩
          case measure => simp [intOf]; omega
        · have hk0' : 0 < k := by omega
          have hki : k - 1 < l.length := by omega
          obtain ⟨b', o', hbo, _, h1'⟩ := (hR.below hB).int_at (k - 1) hki
          simp only [Option.some.injEq, Addr.mk.injEq, and_true] at hbo
          obtain ⟨rfl, rfl⟩ := hbo
          have hp := prevI_pos l k hlt hk0'
          have HP := Lib.hid hp
          have d3 : decide ((0 : Int) < (k : Int)) = true := by simp; omega
          have hcast : ((k : Int) - 1).toNat = k - 1 := by omega
          clear hp hk0
          by_cases hpc : l[k - 1] < l[k]
          · have HG := risesI_go hlt hI ⟨by rw [HP.out]; exact hpc, HC.out⟩
            have d4 : decide (l[k] ≤ l[k - 1]) = false := by simp; omega
            clear hcat
            go_wp2_with (first | (go_at_call 30; refine (cat_Category _ _).mono ?_; rintro e w2 ⟨rfl, rfl⟩; rw [HC.out]))
            go_roundw
            case rel => exact ⟨k + 1, by omega, by go_num, hB, HG⟩
            case measure => simp [intOf]; omega
          · have HE := Lib.hid (risesI_bad hlt hI (fun h => hpc (by rw [← HP.out]; exact h.1)) m)
            have hpc' : l[k] ≤ l[k - 1] := by omega
            have d4 : decide (l[k] ≤ l[k - 1]) = true := by simp; omega
            clear hpc hcat
            go_wp2_with (first | (go_at_call 30; refine (cat_Category _ _).mono ?_; rintro e w2 ⟨rfl, rfl⟩; rw [HC.out]))
            go_ret
            exact ⟨by rw [HE.out]; rfl, hB⟩
    · have hn : k = l.length := by omega
      have e : risingB l m = decide ((l.length : Int) ≤ m) := by unfold risingB; rw [hI.out, List.drop_of_length_le (by omega)]; simp [risesI]
      have HE := Lib.hid e
      clear e hn
      go_wp2
      go_ret
      exact ⟨by rw [HE.out]; rfl, hB⟩

set_option maxHeartbeats 3200000 in
theorem wire_GoodMail (ok : Nat → Prop) (w : World) (m : Mail) (la : Option Addr) (lc : Nat) (ga : Option Addr) (gc : Nat) (hl : m.label.length * 16 ≤ 140737488355328) (hg : m.grants.length * 8 ≤ 140737488355328) (hR : MailR ok w m la lc ga gc) :
    Calls Try.prog 35 #[mailV m la lc ga gc] w fun e w' => e = .returned (.int .i64 (goodMailC m)) ∧ Below w.heap.size w w' := by
  unfold mailV
  obtain ⟨hA, hB⟩ := hR
  rcases chain4 (four m.host) (four m.thread) (goodL m.label) (risingB m.grants 8) with h1 | ⟨h1, h2⟩ | ⟨h1, h2, h3⟩ | ⟨h1, h2, h3, h4⟩ | ⟨h1, h2, h3, h4⟩
  · have HE := Lib.hid (show goodMailC m = 2 by simp [goodMailC, h1])
    have H1 := Lib.hid h1; clear h1
    have st := St.start w
    go_enter Try.func35, Try.ntmps35
    go_wp2_with (first | go_skip | (with_reducible refine at_box 35 ?_; refine mem_box st (wanted_none rfl) 35 _ rfl _ rfl _ rfl ?_; clear st; intro g1 w1 hg1 st hg1b; clear hg1b; simp [Act.eval, Act.put, Value.cells, putL] at st) | (with_reducible refine at_load 3 ?_; (first | refine mem_load' st 3 _ rfl (wanted_none rfl) Try.isAgg3 ?_ | (refine mem_load' st 3 _ rfl (wanted_some rfl ?_) Try.isAgg3 ?_; focus (simp [yielded, Act.put]; done))); refine ⟨0, _, _, _, _, _, rfl, rfl, rfl, ?_⟩) | (with_reducible refine at_load 24 ?_; (first | refine mem_load' st 24 _ rfl (wanted_none rfl) Try.isAgg24 ?_ | (refine mem_load' st 24 _ rfl (wanted_some rfl ?_) Try.isAgg24 ?_; focus (simp [yielded, Act.put]; done))); refine ⟨0, _, _, _, _, _, rfl, rfl, rfl, ?_⟩) | (with_reducible refine at_load 25 ?_; (first | refine mem_load' st 25 _ rfl (wanted_none rfl) Try.isAgg25 ?_ | (refine mem_load' st 25 _ rfl (wanted_some rfl ?_) Try.isAgg25 ?_; focus (simp [yielded, Act.put]; done))); refine ⟨0, _, _, _, _, _, rfl, rfl, rfl, ?_⟩) | (with_reducible refine at_load 9 ?_; (first | refine mem_load' st 9 _ rfl (wanted_none rfl) Try.isAgg9 ?_ | (refine mem_load' st 9 _ rfl (wanted_some rfl ?_) Try.isAgg9 ?_; focus (simp [yielded, Act.put]; done))); refine ⟨0, _, _, _, _, _, rfl, rfl, rfl, ?_⟩) | (go_at_call 43; refine (wire_host _ _).mono ?_; rintro e v ⟨rfl, rfl⟩; rw [H1.out]))
    go_ret
    exact ⟨by rw [HE.out]; rfl, st.below⟩
  · have HE := Lib.hid (show goodMailC m = 2 by simp [goodMailC, h1, h2])
    have H1 := Lib.hid h1; clear h1
    have H2 := Lib.hid h2; clear h2
    have st := St.start w
    go_enter Try.func35, Try.ntmps35
    go_wp2_with (first | go_skip | (with_reducible refine at_box 35 ?_; refine mem_box st (wanted_none rfl) 35 _ rfl _ rfl _ rfl ?_; clear st; intro g1 w1 hg1 st hg1b; clear hg1b; simp [Act.eval, Act.put, Value.cells, putL] at st) | (with_reducible refine at_load 3 ?_; (first | refine mem_load' st 3 _ rfl (wanted_none rfl) Try.isAgg3 ?_ | (refine mem_load' st 3 _ rfl (wanted_some rfl ?_) Try.isAgg3 ?_; focus (simp [yielded, Act.put]; done))); refine ⟨0, _, _, _, _, _, rfl, rfl, rfl, ?_⟩) | (with_reducible refine at_load 24 ?_; (first | refine mem_load' st 24 _ rfl (wanted_none rfl) Try.isAgg24 ?_ | (refine mem_load' st 24 _ rfl (wanted_some rfl ?_) Try.isAgg24 ?_; focus (simp [yielded, Act.put]; done))); refine ⟨0, _, _, _, _, _, rfl, rfl, rfl, ?_⟩) | (with_reducible refine at_load 25 ?_; (first | refine mem_load' st 25 _ rfl (wanted_none rfl) Try.isAgg25 ?_ | (refine mem_load' st 25 _ rfl (wanted_some rfl ?_) Try.isAgg25 ?_; focus (simp [yielded, Act.put]; done))); refine ⟨0, _, _, _, _, _, rfl, rfl, rfl, ?_⟩) | (with_reducible refine at_load 9 ?_; (first | refine mem_load' st 9 _ rfl (wanted_none rfl) Try.isAgg9 ?_ | (refine mem_load' st 9 _ rfl (wanted_some rfl ?_) Try.isAgg9 ?_; focus (simp [yielded, Act.put]; done))); refine ⟨0, _, _, _, _, _, rfl, rfl, rfl, ?_⟩) | (go_at_call 43; refine (wire_host _ _).mono ?_; rintro e v ⟨rfl, rfl⟩; rw [H1.out]) | (go_at_call 44; refine (wire_thread _ _).mono ?_; rintro e v ⟨rfl, rfl⟩; rw [H2.out]))
    go_ret
    exact ⟨by rw [HE.out]; rfl, st.below⟩
  · have HE := Lib.hid (show goodMailC m = 2 by simp [goodMailC, h1, h2, h3])
    have H1 := Lib.hid h1; clear h1
    have H2 := Lib.hid h2; clear h2
    have H3 := Lib.hid h3; clear h3
    have st := St.start w
    go_enter Try.func35, Try.ntmps35
    go_wp2_with (first | go_skip | (with_reducible refine at_box 35 ?_; refine mem_box st (wanted_none rfl) 35 _ rfl _ rfl _ rfl ?_; clear st; intro g1 w1 hg1 st hg1b; clear hg1b; simp [Act.eval, Act.put, Value.cells, putL] at st) | (with_reducible refine at_load 3 ?_; (first | refine mem_load' st 3 _ rfl (wanted_none rfl) Try.isAgg3 ?_ | (refine mem_load' st 3 _ rfl (wanted_some rfl ?_) Try.isAgg3 ?_; focus (simp [yielded, Act.put]; done))); refine ⟨0, _, _, _, _, _, rfl, rfl, rfl, ?_⟩) | (with_reducible refine at_load 24 ?_; (first | refine mem_load' st 24 _ rfl (wanted_none rfl) Try.isAgg24 ?_ | (refine mem_load' st 24 _ rfl (wanted_some rfl ?_) Try.isAgg24 ?_; focus (simp [yielded, Act.put]; done))); refine ⟨0, _, _, _, _, _, rfl, rfl, rfl, ?_⟩) | (with_reducible refine at_load 25 ?_; (first | refine mem_load' st 25 _ rfl (wanted_none rfl) Try.isAgg25 ?_ | (refine mem_load' st 25 _ rfl (wanted_some rfl ?_) Try.isAgg25 ?_; focus (simp [yielded, Act.put]; done))); refine ⟨0, _, _, _, _, _, rfl, rfl, rfl, ?_⟩) | (with_reducible refine at_load 9 ?_; (first | refine mem_load' st 9 _ rfl (wanted_none rfl) Try.isAgg9 ?_ | (refine mem_load' st 9 _ rfl (wanted_some rfl ?_) Try.isAgg9 ?_; focus (simp [yielded, Act.put]; done))); refine ⟨0, _, _, _, _, _, rfl, rfl, rfl, ?_⟩) | (go_at_call 43; refine (wire_host _ _).mono ?_; rintro e v ⟨rfl, rfl⟩; rw [H1.out]) | (go_at_call 44; refine (wire_thread _ _).mono ?_; rintro e v ⟨rfl, rfl⟩; rw [H2.out]) | (go_at_call 14; refine (label_Good ok _ _ _ _ hl (hA.below st.below)).mono ?_; rintro e v2 ⟨rfl, hb2⟩; rw [H3.out]; replace st := st.call hb2; clear hb2))
    go_ret
    exact ⟨by rw [HE.out]; rfl, st.below⟩
  · have HE := Lib.hid (show goodMailC m = 2 by simp [goodMailC, h1, h2, h3, h4])
    have H1 := Lib.hid h1; clear h1
    have H2 := Lib.hid h2; clear h2
    have H3 := Lib.hid h3; clear h3
    have H4 := Lib.hid h4; clear h4
    have st := St.start w
    go_enter Try.func35, Try.ntmps35
    go_wp2_with (first | go_skip | (with_reducible refine at_box 35 ?_; refine mem_box st (wanted_none rfl) 35 _ rfl _ rfl _ rfl ?_; clear st; intro g1 w1 hg1 st hg1b; clear hg1b; simp [Act.eval, Act.put, Value.cells, putL] at st) | (with_reducible refine at_load 3 ?_; (first | refine mem_load' st 3 _ rfl (wanted_none rfl) Try.isAgg3 ?_ | (refine mem_load' st 3 _ rfl (wanted_some rfl ?_) Try.isAgg3 ?_; focus (simp [yielded, Act.put]; done))); refine ⟨0, _, _, _, _, _, rfl, rfl, rfl, ?_⟩) | (with_reducible refine at_load 24 ?_; (first | refine mem_load' st 24 _ rfl (wanted_none rfl) Try.isAgg24 ?_ | (refine mem_load' st 24 _ rfl (wanted_some rfl ?_) Try.isAgg24 ?_; focus (simp [yielded, Act.put]; done))); refine ⟨0, _, _, _, _, _, rfl, rfl, rfl, ?_⟩) | (with_reducible refine at_load 25 ?_; (first | refine mem_load' st 25 _ rfl (wanted_none rfl) Try.isAgg25 ?_ | (refine mem_load' st 25 _ rfl (wanted_some rfl ?_) Try.isAgg25 ?_; focus (simp [yielded, Act.put]; done))); refine ⟨0, _, _, _, _, _, rfl, rfl, rfl, ?_⟩) | (with_reducible refine at_load 9 ?_; (first | refine mem_load' st 9 _ rfl (wanted_none rfl) Try.isAgg9 ?_ | (refine mem_load' st 9 _ rfl (wanted_some rfl ?_) Try.isAgg9 ?_; focus (simp [yielded, Act.put]; done))); refine ⟨0, _, _, _, _, _, rfl, rfl, rfl, ?_⟩) | (go_at_call 43; refine (wire_host _ _).mono ?_; rintro e v ⟨rfl, rfl⟩; rw [H1.out]) | (go_at_call 44; refine (wire_thread _ _).mono ?_; rintro e v ⟨rfl, rfl⟩; rw [H2.out]) | (go_at_call 14; refine (label_Good ok _ _ _ _ hl (hA.below st.below)).mono ?_; rintro e v2 ⟨rfl, hb2⟩; rw [H3.out]; replace st := st.call hb2; clear hb2) | (go_at_call 45; refine (wire_rising ok _ _ _ _ _ hg (hB.below st.below)).mono ?_; rintro e v3 ⟨rfl, hb3⟩; rw [H4.out]; replace st := st.call hb3; clear hb3))
    go_ret
    exact ⟨by rw [HE.out]; rfl, st.below⟩
  · have HE := Lib.hid (show goodMailC m = if 64 < m.text.size then 9 else 0 by simp [goodMailC, h1, h2, h3, h4])
    have H1 := Lib.hid h1; clear h1
    have H2 := Lib.hid h2; clear h2
    have H3 := Lib.hid h3; clear h3
    have H4 := Lib.hid h4; clear h4
    have st := St.start w
    by_cases ht : 64 < m.text.size
    · rw [if_pos ht] at HE
      go_enter Try.func35, Try.ntmps35
      go_wp2_with (first | go_skip | (with_reducible refine at_box 35 ?_; refine mem_box st (wanted_none rfl) 35 _ rfl _ rfl _ rfl ?_; clear st; intro g1 w1 hg1 st hg1b; clear hg1b; simp [Act.eval, Act.put, Value.cells, putL] at st) | (with_reducible refine at_load 3 ?_; (first | refine mem_load' st 3 _ rfl (wanted_none rfl) Try.isAgg3 ?_ | (refine mem_load' st 3 _ rfl (wanted_some rfl ?_) Try.isAgg3 ?_; focus (simp [yielded, Act.put]; done))); refine ⟨0, _, _, _, _, _, rfl, rfl, rfl, ?_⟩) | (with_reducible refine at_load 24 ?_; (first | refine mem_load' st 24 _ rfl (wanted_none rfl) Try.isAgg24 ?_ | (refine mem_load' st 24 _ rfl (wanted_some rfl ?_) Try.isAgg24 ?_; focus (simp [yielded, Act.put]; done))); refine ⟨0, _, _, _, _, _, rfl, rfl, rfl, ?_⟩) | (with_reducible refine at_load 25 ?_; (first | refine mem_load' st 25 _ rfl (wanted_none rfl) Try.isAgg25 ?_ | (refine mem_load' st 25 _ rfl (wanted_some rfl ?_) Try.isAgg25 ?_; focus (simp [yielded, Act.put]; done))); refine ⟨0, _, _, _, _, _, rfl, rfl, rfl, ?_⟩) | (with_reducible refine at_load 9 ?_; (first | refine mem_load' st 9 _ rfl (wanted_none rfl) Try.isAgg9 ?_ | (refine mem_load' st 9 _ rfl (wanted_some rfl ?_) Try.isAgg9 ?_; focus (simp [yielded, Act.put]; done))); refine ⟨0, _, _, _, _, _, rfl, rfl, rfl, ?_⟩) | (go_at_call 43; refine (wire_host _ _).mono ?_; rintro e v ⟨rfl, rfl⟩; rw [H1.out]) | (go_at_call 44; refine (wire_thread _ _).mono ?_; rintro e v ⟨rfl, rfl⟩; rw [H2.out]) | (go_at_call 14; refine (label_Good ok _ _ _ _ hl (hA.below st.below)).mono ?_; rintro e v2 ⟨rfl, hb2⟩; rw [H3.out]; replace st := st.call hb2; clear hb2) | (go_at_call 45; refine (wire_rising ok _ _ _ _ _ hg (hB.below st.below)).mono ?_; rintro e v3 ⟨rfl, hb3⟩; rw [H4.out]; replace st := st.call hb3; clear hb3))
      go_ret
      exact ⟨by rw [HE.out]; rfl, st.below⟩
    · rw [if_neg ht] at HE
      go_enter Try.func35, Try.ntmps35
      go_wp2_with (first | go_skip | (with_reducible refine at_box 35 ?_; refine mem_box st (wanted_none rfl) 35 _ rfl _ rfl _ rfl ?_; clear st; intro g1 w1 hg1 st hg1b; clear hg1b; simp [Act.eval, Act.put, Value.cells, putL] at st) | (with_reducible refine at_load 3 ?_; (first | refine mem_load' st 3 _ rfl (wanted_none rfl) Try.isAgg3 ?_ | (refine mem_load' st 3 _ rfl (wanted_some rfl ?_) Try.isAgg3 ?_; focus (simp [yielded, Act.put]; done))); refine ⟨0, _, _, _, _, _, rfl, rfl, rfl, ?_⟩) | (with_reducible refine at_load 24 ?_; (first | refine mem_load' st 24 _ rfl (wanted_none rfl) Try.isAgg24 ?_ | (refine mem_load' st 24 _ rfl (wanted_some rfl ?_) Try.isAgg24 ?_; focus (simp [yielded, Act.put]; done))); refine ⟨0, _, _, _, _, _, rfl, rfl, rfl, ?_⟩) | (with_reducible refine at_load 25 ?_; (first | refine mem_load' st 25 _ rfl (wanted_none rfl) Try.isAgg25 ?_ | (refine mem_load' st 25 _ rfl (wanted_some rfl ?_) Try.isAgg25 ?_; focus (simp [yielded, Act.put]; done))); refine ⟨0, _, _, _, _, _, rfl, rfl, rfl, ?_⟩) | (with_reducible refine at_load 9 ?_; (first | refine mem_load' st 9 _ rfl (wanted_none rfl) Try.isAgg9 ?_ | (refine mem_load' st 9 _ rfl (wanted_some rfl ?_) Try.isAgg9 ?_; focus (simp [yielded, Act.put]; done))); refine ⟨0, _, _, _, _, _, rfl, rfl, rfl, ?_⟩) | (go_at_call 43; refine (wire_host _ _).mono ?_; rintro e v ⟨rfl, rfl⟩; rw [H1.out]) | (go_at_call 44; refine (wire_thread _ _).mono ?_; rintro e v ⟨rfl, rfl⟩; rw [H2.out]) | (go_at_call 14; refine (label_Good ok _ _ _ _ hl (hA.below st.below)).mono ?_; rintro e v2 ⟨rfl, hb2⟩; rw [H3.out]; replace st := st.call hb2; clear hb2) | (go_at_call 45; refine (wire_rising ok _ _ _ _ _ hg (hB.below st.below)).mono ?_; rintro e v3 ⟨rfl, hb3⟩; rw [H4.out]; replace st := st.call hb3; clear hb3))
      go_ret
      exact ⟨by rw [HE.out]; rfl, st.below⟩

end Go.Proofs.Ytnkfemjmfalamaa

/- The walks through the keeper's comparisons, where both sides are alike. -/
namespace Go.Proofs.Ytnkfemjmfalamaa
open Go.RowKit

set_option maxHeartbeats 1000000 in
theorem keep_sameMail (ok ok' : Nat → Prop) (w : World) (m : Mail) (la : Option Addr) (lc : Nat) (ga : Option Addr) (gc : Nat) (la' : Option Addr) (lc' : Nat) (ga' : Option Addr) (gc' : Nat) (h : MailR ok w m la lc ga gc) (h' : MailR ok' w m la' lc' ga' gc') :
    Calls Try.prog 20 #[mailV m la lc ga gc, mailV m la' lc' ga' gc'] w fun e w' => e = .returned (.bool true) ∧ Below w.heap.size w w' := by
  unfold mailV
  have st := St.start w
  go_enter Try.func20, Try.ntmps20
  go_wp2_with (first
    | (refine mem_box st (wanted_none rfl) _ _ rfl _ rfl _ rfl ?_; clear st; intro g wx hgx st hbx; clear hgx hbx; simp [Act.eval, Act.put, Value.cells, putL] at st) | (with_reducible refine at_alloc 35 ?_; refine mem_alloc st (wanted_none rfl) 35 rfl _ Try.zeroValue35 _ rfl ?_; clear st; intro g wx hgx st hbx; clear hgx hbx; simp [Act.eval, Act.put, Value.cells, putL] at st) | (with_reducible refine at_alloc 3 ?_; refine mem_alloc st (wanted_none rfl) 3 rfl _ Try.zeroValue3 _ rfl ?_; clear st; intro g wx hgx st hbx; clear hgx hbx; simp [Act.eval, Act.put, Value.cells, putL] at st) | (with_reducible refine at_alloc 9 ?_; refine mem_alloc st (wanted_none rfl) 9 rfl _ Try.zeroValue9 _ rfl ?_; clear st; intro g wx hgx st hbx; clear hgx hbx; simp [Act.eval, Act.put, Value.cells, putL] at st) | (with_reducible refine at_alloc 24 ?_; refine mem_alloc st (wanted_none rfl) 24 rfl _ Try.zeroValue24 _ rfl ?_; clear st; intro g wx hgx st hbx; clear hgx hbx; simp [Act.eval, Act.put, Value.cells, putL] at st) | (with_reducible refine at_alloc 25 ?_; refine mem_alloc st (wanted_none rfl) 25 rfl _ Try.zeroValue25 _ rfl ?_; clear st; intro g wx hgx st hbx; clear hgx hbx; simp [Act.eval, Act.put, Value.cells, putL] at st) | (with_reducible refine at_load 35 ?_; (first | refine mem_load_agg' st 35 _ rfl (wanted_none rfl) Try.isAgg35 _ Try.sizeOf35 ?_ | (refine mem_load_agg' st 35 _ rfl (wanted_some rfl ?_) Try.isAgg35 _ Try.sizeOf35 ?_; focus (simp [yielded, Act.put]; done))); (first | (refine ⟨0, _, _, _, _, _, rfl, rfl, rfl, rfl, ?_⟩) | (refine ⟨1, _, _, _, _, _, rfl, rfl, rfl, rfl, ?_⟩) | (refine ⟨2, _, _, _, _, _, rfl, rfl, rfl, rfl, ?_⟩) | (refine ⟨3, _, _, _, _, _, rfl, rfl, rfl, rfl, ?_⟩) | (refine ⟨4, _, _, _, _, _, rfl, rfl, rfl, rfl, ?_⟩) | (refine ⟨5, _, _, _, _, _, rfl, rfl, rfl, rfl, ?_⟩) | (refine ⟨6, _, _, _, _, _, rfl, rfl, rfl, rfl, ?_⟩) | (refine ⟨7, _, _, _, _, _, rfl, rfl, rfl, rfl, ?_⟩))) | (with_reducible refine at_load 3 ?_; (first | refine mem_load' st 3 _ rfl (wanted_none rfl) Try.isAgg3 ?_ | (refine mem_load' st 3 _ rfl (wanted_some rfl ?_) Try.isAgg3 ?_; focus (simp [yielded, Act.put]; done))); (first | (refine ⟨0, _, _, _, _, _, rfl, rfl, rfl, ?_⟩) | (refine ⟨1, _, _, _, _, _, rfl, rfl, rfl, ?_⟩) | (refine ⟨2, _, _, _, _, _, rfl, rfl, rfl, ?_⟩) | (refine ⟨3, _, _, _, _, _, rfl, rfl, rfl, ?_⟩) | (refine ⟨4, _, _, _, _, _, rfl, rfl, rfl, ?_⟩) | (refine ⟨5, _, _, _, _, _, rfl, rfl, rfl, ?_⟩) | (refine ⟨6, _, _, _, _, _, rfl, rfl, rfl, ?_⟩) | (refine ⟨7, _, _, _, _, _, rfl, rfl, rfl, ?_⟩))) | (with_reducible refine at_load 9 ?_; (first | refine mem_load' st 9 _ rfl (wanted_none rfl) Try.isAgg9 ?_ | (refine mem_load' st 9 _ rfl (wanted_some rfl ?_) Try.isAgg9 ?_; focus (simp [yielded, Act.put]; done))); (first | (refine ⟨0, _, _, _, _, _, rfl, rfl, rfl, ?_⟩) | (refine ⟨1, _, _, _, _, _, rfl, rfl, rfl, ?_⟩) | (refine ⟨2, _, _, _, _, _, rfl, rfl, rfl, ?_⟩) | (refine ⟨3, _, _, _, _, _, rfl, rfl, rfl, ?_⟩) | (refine ⟨4, _, _, _, _, _, rfl, rfl, rfl, ?_⟩) | (refine ⟨5, _, _, _, _, _, rfl, rfl, rfl, ?_⟩) | (refine ⟨6, _, _, _, _, _, rfl, rfl, rfl, ?_⟩) | (refine ⟨7, _, _, _, _, _, rfl, rfl, rfl, ?_⟩))) | (with_reducible refine at_load 24 ?_; (first | refine mem_load' st 24 _ rfl (wanted_none rfl) Try.isAgg24 ?_ | (refine mem_load' st 24 _ rfl (wanted_some rfl ?_) Try.isAgg24 ?_; focus (simp [yielded, Act.put]; done))); (first | (refine ⟨0, _, _, _, _, _, rfl, rfl, rfl, ?_⟩) | (refine ⟨1, _, _, _, _, _, rfl, rfl, rfl, ?_⟩) | (refine ⟨2, _, _, _, _, _, rfl, rfl, rfl, ?_⟩) | (refine ⟨3, _, _, _, _, _, rfl, rfl, rfl, ?_⟩) | (refine ⟨4, _, _, _, _, _, rfl, rfl, rfl, ?_⟩) | (refine ⟨5, _, _, _, _, _, rfl, rfl, rfl, ?_⟩) | (refine ⟨6, _, _, _, _, _, rfl, rfl, rfl, ?_⟩) | (refine ⟨7, _, _, _, _, _, rfl, rfl, rfl, ?_⟩))) | (with_reducible refine at_load 25 ?_; (first | refine mem_load' st 25 _ rfl (wanted_none rfl) Try.isAgg25 ?_ | (refine mem_load' st 25 _ rfl (wanted_some rfl ?_) Try.isAgg25 ?_; focus (simp [yielded, Act.put]; done))); (first | (refine ⟨0, _, _, _, _, _, rfl, rfl, rfl, ?_⟩) | (refine ⟨1, _, _, _, _, _, rfl, rfl, rfl, ?_⟩) | (refine ⟨2, _, _, _, _, _, rfl, rfl, rfl, ?_⟩) | (refine ⟨3, _, _, _, _, _, rfl, rfl, rfl, ?_⟩) | (refine ⟨4, _, _, _, _, _, rfl, rfl, rfl, ?_⟩) | (refine ⟨5, _, _, _, _, _, rfl, rfl, rfl, ?_⟩) | (refine ⟨6, _, _, _, _, _, rfl, rfl, rfl, ?_⟩) | (refine ⟨7, _, _, _, _, _, rfl, rfl, rfl, ?_⟩))) | (with_reducible refine at_store 35 ?_; (first | refine mem_store' st 35 _ _ rfl (wanted_none rfl) _ Try.sizeOf35 ?_ | (refine mem_store' st 35 _ _ rfl (wanted_some rfl ?_) _ Try.sizeOf35 ?_; focus (simp [yielded, Act.put]; done))); (first | (refine ⟨0, _, _, _, _, _, rfl, rfl, rfl, rfl, rfl, rfl, ?_⟩) | (refine ⟨1, _, _, _, _, _, rfl, rfl, rfl, rfl, rfl, rfl, ?_⟩) | (refine ⟨2, _, _, _, _, _, rfl, rfl, rfl, rfl, rfl, rfl, ?_⟩) | (refine ⟨3, _, _, _, _, _, rfl, rfl, rfl, rfl, rfl, rfl, ?_⟩) | (refine ⟨4, _, _, _, _, _, rfl, rfl, rfl, rfl, rfl, rfl, ?_⟩) | (refine ⟨5, _, _, _, _, _, rfl, rfl, rfl, rfl, rfl, rfl, ?_⟩) | (refine ⟨6, _, _, _, _, _, rfl, rfl, rfl, rfl, rfl, rfl, ?_⟩) | (refine ⟨7, _, _, _, _, _, rfl, rfl, rfl, rfl, rfl, rfl, ?_⟩)); clear st; intro wx st _ _; simp [Act.eval, Act.put, Value.cells, putL] at st) | (with_reducible refine at_store 3 ?_; (first | refine mem_store' st 3 _ _ rfl (wanted_none rfl) _ Try.sizeOf3 ?_ | (refine mem_store' st 3 _ _ rfl (wanted_some rfl ?_) _ Try.sizeOf3 ?_; focus (simp [yielded, Act.put]; done))); (first | (refine ⟨0, _, _, _, _, _, rfl, rfl, rfl, rfl, rfl, rfl, ?_⟩) | (refine ⟨1, _, _, _, _, _, rfl, rfl, rfl, rfl, rfl, rfl, ?_⟩) | (refine ⟨2, _, _, _, _, _, rfl, rfl, rfl, rfl, rfl, rfl, ?_⟩) | (refine ⟨3, _, _, _, _, _, rfl, rfl, rfl, rfl, rfl, rfl, ?_⟩) | (refine ⟨4, _, _, _, _, _, rfl, rfl, rfl, rfl, rfl, rfl, ?_⟩) | (refine ⟨5, _, _, _, _, _, rfl, rfl, rfl, rfl, rfl, rfl, ?_⟩) | (refine ⟨6, _, _, _, _, _, rfl, rfl, rfl, rfl, rfl, rfl, ?_⟩) | (refine ⟨7, _, _, _, _, _, rfl, rfl, rfl, rfl, rfl, rfl, ?_⟩)); clear st; intro wx st _ _; simp [Act.eval, Act.put, Value.cells, putL] at st) | (with_reducible refine at_store 9 ?_; (first | refine mem_store' st 9 _ _ rfl (wanted_none rfl) _ Try.sizeOf9 ?_ | (refine mem_store' st 9 _ _ rfl (wanted_some rfl ?_) _ Try.sizeOf9 ?_; focus (simp [yielded, Act.put]; done))); (first | (refine ⟨0, _, _, _, _, _, rfl, rfl, rfl, rfl, rfl, rfl, ?_⟩) | (refine ⟨1, _, _, _, _, _, rfl, rfl, rfl, rfl, rfl, rfl, ?_⟩) | (refine ⟨2, _, _, _, _, _, rfl, rfl, rfl, rfl, rfl, rfl, ?_⟩) | (refine ⟨3, _, _, _, _, _, rfl, rfl, rfl, rfl, rfl, rfl, ?_⟩) | (refine ⟨4, _, _, _, _, _, rfl, rfl, rfl, rfl, rfl, rfl, ?_⟩) | (refine ⟨5, _, _, _, _, _, rfl, rfl, rfl, rfl, rfl, rfl, ?_⟩) | (refine ⟨6, _, _, _, _, _, rfl, rfl, rfl, rfl, rfl, rfl, ?_⟩) | (refine ⟨7, _, _, _, _, _, rfl, rfl, rfl, rfl, rfl, rfl, ?_⟩)); clear st; intro wx st _ _; simp [Act.eval, Act.put, Value.cells, putL] at st) | (with_reducible refine at_store 24 ?_; (first | refine mem_store' st 24 _ _ rfl (wanted_none rfl) _ Try.sizeOf24 ?_ | (refine mem_store' st 24 _ _ rfl (wanted_some rfl ?_) _ Try.sizeOf24 ?_; focus (simp [yielded, Act.put]; done))); (first | (refine ⟨0, _, _, _, _, _, rfl, rfl, rfl, rfl, rfl, rfl, ?_⟩) | (refine ⟨1, _, _, _, _, _, rfl, rfl, rfl, rfl, rfl, rfl, ?_⟩) | (refine ⟨2, _, _, _, _, _, rfl, rfl, rfl, rfl, rfl, rfl, ?_⟩) | (refine ⟨3, _, _, _, _, _, rfl, rfl, rfl, rfl, rfl, rfl, ?_⟩) | (refine ⟨4, _, _, _, _, _, rfl, rfl, rfl, rfl, rfl, rfl, ?_⟩) | (refine ⟨5, _, _, _, _, _, rfl, rfl, rfl, rfl, rfl, rfl, ?_⟩) | (refine ⟨6, _, _, _, _, _, rfl, rfl, rfl, rfl, rfl, rfl, ?_⟩) | (refine ⟨7, _, _, _, _, _, rfl, rfl, rfl, rfl, rfl, rfl, ?_⟩)); clear st; intro wx st _ _; simp [Act.eval, Act.put, Value.cells, putL] at st) | (with_reducible refine at_store 25 ?_; (first | refine mem_store' st 25 _ _ rfl (wanted_none rfl) _ Try.sizeOf25 ?_ | (refine mem_store' st 25 _ _ rfl (wanted_some rfl ?_) _ Try.sizeOf25 ?_; focus (simp [yielded, Act.put]; done))); (first | (refine ⟨0, _, _, _, _, _, rfl, rfl, rfl, rfl, rfl, rfl, ?_⟩) | (refine ⟨1, _, _, _, _, _, rfl, rfl, rfl, rfl, rfl, rfl, ?_⟩) | (refine ⟨2, _, _, _, _, _, rfl, rfl, rfl, rfl, rfl, rfl, ?_⟩) | (refine ⟨3, _, _, _, _, _, rfl, rfl, rfl, rfl, rfl, rfl, ?_⟩) | (refine ⟨4, _, _, _, _, _, rfl, rfl, rfl, rfl, rfl, rfl, ?_⟩) | (refine ⟨5, _, _, _, _, _, rfl, rfl, rfl, rfl, rfl, rfl, ?_⟩) | (refine ⟨6, _, _, _, _, _, rfl, rfl, rfl, rfl, rfl, rfl, ?_⟩) | (refine ⟨7, _, _, _, _, _, rfl, rfl, rfl, rfl, rfl, rfl, ?_⟩)); clear st; intro wx st _ _; simp [Act.eval, Act.put, Value.cells, putL] at st)
    | (go_at_call 16; refine (label_Same ok ok' _ _ _ _ _ _ _ (h.label.below st.below) (h'.label.below st.below)).mono ?_; rintro r v1 ⟨rfl, hb1⟩; replace st := st.call hb1; clear hb1)
    | (go_at_call 18; refine (keep_sameNumbers ok ok' _ _ _ _ _ _ _ (h.grants.below st.below) (h'.grants.below st.below)).mono ?_; rintro r v1 ⟨rfl, hb1⟩; replace st := st.call hb1; clear hb1))
  go_ret
  exact ⟨by simp, st.below⟩

end Go.Proofs.Ytnkfemjmfalamaa
