/- How often a frame is sent, in plain words. No program is in sight. -/
import Derived.Test.YtclocdhkpckolaaAgainB
import Derived.Test.YtclocdhkpckolaaSendB
set_option linter.unusedSimpArgs false
set_option linter.unusedVariables false
namespace Go.Proofs.Ytclocdhkpckolaa
open Go.RowKit

structure SOk (next p : Int) (s : Sent) : Prop where
  lo : 1 ≤ s.frame.seq
  past : p < s.frame.seq
  hi : s.frame.seq ≤ next
  t1 : 1 ≤ s.tries
  t5 : s.tries ≤ 5
  d0 : 0 ≤ s.due
  d1 : s.due ≤ 2199023255552

theorem sentOk_iff {next p : Int} {s : Sent} : sentOk next p s = true ↔ SOk next p s := by
  unfold sentOk
  rw [decide_eq_true_eq]
  exact ⟨fun ⟨a, b, c, d, e, f, g⟩ => ⟨a, b, c, d, e, f, g⟩, fun ⟨a, b, c, d, e, f, g⟩ => ⟨a, b, c, d, e, f, g⟩⟩

theorem sentsOk_iff : ∀ {next p : Int} {l : List Sent}, sentsOk next p l = true ↔ (∀ s ∈ l, SOk next p s) ∧ l.Pairwise (fun s t => s.frame.seq < t.frame.seq)
  | next, p, [] => by simp [sentsOk]
  | next, p, s :: l => by
    have ih := sentsOk_iff (next := next) (p := s.frame.seq) (l := l)
    unfold sentsOk
    by_cases hs : sentOk next p s = true
    · rw [if_pos hs, ih]
      have hs' := sentOk_iff.1 hs
      constructor
      · rintro ⟨h1, h2⟩
        refine ⟨fun t ht => ?_, List.pairwise_cons.2 ⟨fun t ht => (h1 t ht).past, h2⟩⟩
        rcases List.mem_cons.1 ht with rfl | ht
        · exact hs'
        · have := h1 t ht
          exact ⟨this.lo, by have := this.past; have := hs'.past; omega, this.hi, this.t1, this.t5, this.d0, this.d1⟩
      · rintro ⟨h1, h2⟩
        obtain ⟨h3, h4⟩ := List.pairwise_cons.1 h2
        refine ⟨fun t ht => ?_, h4⟩
        have := h1 t (by simp [ht])
        exact ⟨this.lo, h3 t ht, this.hi, this.t1, this.t5, this.d0, this.d1⟩
    · rw [if_neg hs]
      simp only [Bool.false_eq_true, false_iff]
      rintro ⟨h1, _⟩
      exact hs (sentOk_iff.2 (h1 s (by simp)))

theorem lineOk_iff {next high : Int} {sent : List Sent} {e : Eight} : lineOk ⟨next, sent, high, e⟩ = true ↔ headOk next high sent.length = true ∧ (∀ s ∈ sent, SOk next 0 s) ∧ sent.Pairwise (fun s t => s.frame.seq < t.frame.seq) := by
  rw [← sentsOk_iff]
  unfold lineOk
  by_cases h : headOk next high sent.length = true
  · simp [h]
  · simp [h]

/-- Behind a frame that was sent the line is good. -/
theorem send_good {next high now : Int} {sent : List Sent} {e : Eight} {f : Frame} (hg : lineOk ⟨next, sent, high, e⟩ = true) (h1 : 0 ≤ now) (h2 : now ≤ 1099511627776) (h3 : sent.length ≠ 8) (h4 : next ≠ 1099511627775) :
    lineOk ⟨next + 1, sent ++ [⟨{ f with seq := next + 1 }, 1, now + 2⟩], high, e⟩ = true := by
  obtain ⟨a1, a2, a3, a4, a5⟩ := lineOk_high hg
  obtain ⟨_, b1, b2⟩ := lineOk_iff.1 hg
  refine lineOk_iff.2 ⟨?_, fun s hs => ?_, List.pairwise_append.2 ⟨b2, by simp, fun s hs t ht => ?_⟩⟩
  · simp [headOk]; omega
  · rcases List.mem_append.1 hs with hs | hs
    · have := b1 s hs
      exact ⟨this.lo, this.past, by have := this.hi; omega, this.t1, this.t5, this.d0, this.d1⟩
    · simp at hs
      subst hs
      exact ⟨by show 1 ≤ next + 1; omega, by show 0 < next + 1; omega, by show next + 1 ≤ next + 1; omega, by show (1 : Int) ≤ 1; omega, by show (1 : Int) ≤ 5; omega, by show 0 ≤ now + 2; omega, by show now + 2 ≤ 2199023255552; omega⟩
  · simp at ht
    subst ht
    have := (b1 s hs).hi
    show s.frame.seq < next + 1
    omega

theorem keepS_frame {now : Int} {s t : Sent} (h : keepS now s = some t) : t.frame = s.frame := by
  unfold keepS at h
  split at h
  · cases h; rfl
  · split at h
    · cases h; rfl
    · cases h

theorem again_good {next high now : Int} {sent : List Sent} {e : Eight} (hg : lineOk ⟨next, sent, high, e⟩ = true) (h1 : 0 ≤ now) (h2 : now ≤ 1099511627776) : lineOk ⟨next, sent.filterMap (keepS now), high, e⟩ = true := by
  obtain ⟨a1, a2, a3, a4, a5⟩ := lineOk_high hg
  obtain ⟨_, b1, b2⟩ := lineOk_iff.1 hg
  have hlen := List.length_filterMap_le (keepS now) sent
  refine lineOk_iff.2 ⟨?_, fun t ht => ?_, List.Pairwise.filterMap _ (fun a a' h b hb b' hb' => ?_) b2⟩
  · simp [headOk]; omega
  · obtain ⟨s, hs, hk⟩ := List.mem_filterMap.1 ht
    have hf := keepS_frame hk
    have := b1 s hs
    refine ⟨by rw [hf]; exact this.lo, by rw [hf]; exact this.past, by rw [hf]; exact this.hi, ?_, ?_, ?_, ?_⟩
    all_goals
      unfold keepS at hk
      split at hk
      · cases hk
        first | exact this.t1 | exact this.t5 | exact this.d0 | exact this.d1
      · split at hk
        · cases hk
          have q1 := this.t1
          obtain ⟨p1, p2⟩ := two_pow (n := s.tries + 1) (by omega) (by omega)
          simp only
          omega
        · cases hk
  · rw [keepS_frame hb, keepS_frame hb']
    exact h

/-- The frame g: is it under way; how often was it sent. -/
structure TriesInv (sent : List Sent) (g : Frame) (cnt : Int) (there : Bool) : Prop where
  c1 : 1 ≤ cnt
  c5 : cnt ≤ 5
  yes : there = true → ∃ s ∈ sent, s.frame = g ∧ s.tries = cnt
  no : there = false → ∀ s ∈ sent, s.frame.seq ≠ g.seq

def hits (gs : Int) (l : List Frame) : Nat := (l.filter fun x => x.seq == gs).length

theorem outS_none {now gs : Int} {l : List Sent} (h : ∀ s ∈ l, s.frame.seq ≠ gs) : (l.filterMap (outS now)).filter (fun x => x.seq == gs) = [] := by
  rw [List.filter_eq_nil_iff]
  intro x hx
  obtain ⟨s, hs, ho⟩ := List.mem_filterMap.1 hx
  have : x = s.frame := by
    unfold outS at ho
    split at ho
    · cases ho
    · split at ho
      · cases ho; rfl
      · cases ho
  rw [this]
  simpa using h s hs

theorem keepS_none {now gs : Int} {l : List Sent} (h : ∀ s ∈ l, s.frame.seq ≠ gs) : ∀ t ∈ l.filterMap (keepS now), t.frame.seq ≠ gs := by
  intro t ht
  obtain ⟨s, hs, hk⟩ := List.mem_filterMap.1 ht
  rw [keepS_frame hk]
  exact h s hs

theorem split_at {l : List Sent} (hp : l.Pairwise (fun s t => s.frame.seq < t.frame.seq)) {s : Sent} (hs : s ∈ l) : ∃ l1 l2, l = l1 ++ s :: l2 ∧ (∀ t ∈ l1, t.frame.seq ≠ s.frame.seq) ∧ ∀ t ∈ l2, t.frame.seq ≠ s.frame.seq := by
  obtain ⟨l1, l2, rfl⟩ := List.append_of_mem hs
  obtain ⟨_, h2, h3⟩ := List.pairwise_append.1 hp
  refine ⟨l1, l2, rfl, fun t ht => ?_, fun t ht => ?_⟩
  · have := h3 t ht s (by simp)
    omega
  · have := (List.pairwise_cons.1 h2).1 t ht
    omega

theorem any_not {gs : Int} {l : List Sent} (h : ∀ s ∈ l, s.frame.seq ≠ gs) : l.any (fun s => s.frame.seq == gs) = false := by
  rw [List.any_eq_false]
  intro s hs
  simpa using h s hs

theorem tries_step {next high now : Int} {sent : List Sent} {e : Eight} {g : Frame} {cnt : Int} {there : Bool} (hg : lineOk ⟨next, sent, high, e⟩ = true) (hI : TriesInv sent g cnt there) :
    (∀ x ∈ sent.filterMap (outS now), x.seq = g.seq → there = true ∧ x = g) ∧
    TriesInv (sent.filterMap (keepS now)) g (cnt + hits g.seq (sent.filterMap (outS now))) ((sent.filterMap (keepS now)).any fun s => s.frame.seq == g.seq) := by
  obtain ⟨_, b1, b2⟩ := lineOk_iff.1 hg
  cases there with
  | false =>
    have hn := hI.no rfl
    have h1 := outS_none (now := now) hn
    have h2 := keepS_none (now := now) hn
    refine ⟨fun x hx hs => ?_, ?_⟩
    · exfalso
      have := List.filter_eq_nil_iff.1 h1 x hx
      simp [hs] at this
    · unfold hits
      rw [h1, any_not h2]
      exact ⟨by have := hI.c1; simp; omega, by have := hI.c5; simp; omega, fun h => by simp at h, fun _ => h2⟩
  | true =>
    obtain ⟨s, hs, rfl, rfl⟩ := hI.yes rfl
    have hso := b1 s hs
    obtain ⟨l1, l2, rfl, n1, n2⟩ := split_at b2 hs
    have o1 := outS_none (now := now) n1
    have o2 := outS_none (now := now) n2
    have k1 := keepS_none (now := now) n1
    have k2 := keepS_none (now := now) n2
    have hhit : hits s.frame.seq ((l1 ++ s :: l2).filterMap (outS now)) = ((outS now s).toList.filter fun x => x.seq == s.frame.seq).length := by
      unfold hits
      rw [List.filterMap_append, List.filter_append, o1, List.nil_append]
      cases ho : outS now s with
      | none => rw [List.filterMap_cons_none ho, o2]; rfl
      | some x => rw [List.filterMap_cons_some ho, List.filter_cons, o2]; simp [List.filter_cons]
    refine ⟨fun x hx hq => ⟨rfl, ?_⟩, ?_⟩
    · obtain ⟨t, ht, ho⟩ := List.mem_filterMap.1 hx
      have hxt : x = t.frame := by
        unfold outS at ho
        split at ho
        · cases ho
        · split at ho
          · cases ho; rfl
          · cases ho
      subst hxt
      rcases List.mem_append.1 ht with ht | ht
      · exact absurd hq (n1 t ht)
      · rcases List.mem_cons.1 ht with rfl | ht
        · rfl
        · exact absurd hq (n2 t ht)
    · rw [hhit]
      have c1 := hI.c1
      have c5 := hI.c5
      by_cases hd : now < s.due
      · have hk : keepS now s = some s := by simp [keepS, hd]
        have ho : outS now s = none := by simp [outS, hd]
        have hm : s ∈ (l1 ++ s :: l2).filterMap (keepS now) := List.mem_filterMap.2 ⟨s, by simp, hk⟩
        have ha : ((l1 ++ s :: l2).filterMap (keepS now)).any (fun t => t.frame.seq == s.frame.seq) = true := List.any_eq_true.2 ⟨s, hm, by simp⟩
        rw [ha, ho]
        exact ⟨by simp; omega, by simp; omega, fun _ => ⟨s, hm, rfl, by simp⟩, fun h => by simp at h⟩
      · by_cases h5 : s.tries < 5
        · have hk : keepS now s = some { s with tries := s.tries + 1, due := now + 2 ^ (s.tries + 1).toNat } := by simp [keepS, hd, h5]
          have ho : outS now s = some s.frame := by simp [outS, hd, h5]
          have hm : ({ s with tries := s.tries + 1, due := now + 2 ^ (s.tries + 1).toNat } : Sent) ∈ (l1 ++ s :: l2).filterMap (keepS now) := List.mem_filterMap.2 ⟨s, by simp, hk⟩
          have ha : ((l1 ++ s :: l2).filterMap (keepS now)).any (fun t => t.frame.seq == s.frame.seq) = true := List.any_eq_true.2 ⟨_, hm, by simp⟩
          rw [ha, ho]
          exact ⟨by simp; omega, by simp; omega, fun _ => ⟨_, hm, rfl, by simp⟩, fun h => by simp at h⟩
        · have hk : keepS now s = none := by simp [keepS, hd, h5]
          have ho : outS now s = none := by simp [outS, hd, h5]
          have hn : ∀ t ∈ (l1 ++ s :: l2).filterMap (keepS now), t.frame.seq ≠ s.frame.seq := by
            rw [List.filterMap_append, List.filterMap_cons_none hk]
            intro t ht
            rcases List.mem_append.1 ht with ht | ht
            · exact k1 t ht
            · exact k2 t ht
          rw [any_not hn, ho]
          exact ⟨by simp; omega, by simp; omega, fun h => by simp at h, fun _ => hn⟩

/-- Answered says whether it was there; behind it, it isn't. -/
theorem tries_end {sent : List Sent} {g : Frame} {cnt : Int} {there : Bool} (hI : TriesInv sent g cnt there) {r : Int × List Sent} (hr : answX true sent g.seq = r) : (r.1 == 0) = there ∧ ∀ s ∈ r.2, s.frame.seq ≠ g.seq := by
  unfold answX at hr
  rw [if_neg (by simp)] at hr
  cases there with
  | false =>
    have hn := hI.no rfl
    have hf : sent.filter (offSeq g.seq) = sent := List.filter_eq_self.2 fun x hx => by simpa [offSeq] using hn x hx
    rw [hf, if_pos rfl] at hr
    subst hr
    exact ⟨rfl, hn⟩
  | true =>
    obtain ⟨s, hs, rfl, rfl⟩ := hI.yes rfl
    rw [if_neg] at hr
    · subst hr
      refine ⟨rfl, fun t ht => ?_⟩
      have := (List.mem_filter.1 ht).2
      simpa [offSeq] using this
    · intro h
      have := (List.length_filter_eq_length_iff.1 h) s hs
      simp [offSeq] at this

end Go.Proofs.Ytclocdhkpckolaa
