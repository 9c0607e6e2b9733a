/- None is taken twice, in plain words; no program is in sight. -/
import Derived.Test.YtbngblmdcggfdaaLineT
import Derived.Test.YtbngblmdcggfdaaMaps
set_option linter.unusedSimpArgs false
set_option linter.unusedVariables false
namespace Go.Proofs.Ytbngblmdcggfdaa
open Go.RowKit

theorem Eight.get_of (f : Nat → Bool) {j : Nat} (h : j < 8) : (Eight.of f).get j = f j := by
  match j, h with
  | 0, _ => rfl
  | 1, _ => rfl
  | 2, _ => rfl
  | 3, _ => rfl
  | 4, _ => rfl
  | 5, _ => rfl
  | 6, _ => rfl
  | 7, _ => rfl

/-- Whatever was had is marked, or too old to be marked. -/
def OnceInv (good : Bool) (high : Int) (e : Eight) (f : Lit → Bool) : Prop :=
  ∀ x : Int, f (.int .i64 x) = true → good = true ∧ 1 ≤ x ∧ x ≤ high ∧ (high - 8 < x → e.get (high - x).toNat = true)

theorem sameKey_int (x y : Int) : (Lit.int .i64 x).sameKey (.int .i64 y) = (x == y) := by
  simp only [Lit.sameKey]
  by_cases h : x = y <;> simp [h]

theorem lineOk_take {next high high' : Int} {sent : List Sent} {e e' : Eight} (h0 : 0 ≤ high) (h1 : high ≤ 1099511627776) (h2 : 0 ≤ high') (h3 : high' ≤ 1099511627776) : lineOk ⟨next, sent, high', e'⟩ = lineOk ⟨next, sent, high, e⟩ := by
  unfold lineOk headOk
  simp only [h0, h1, h2, h3, true_and]

theorem once_step {good : Bool} {next high : Int} {sent : List Sent} {e : Eight} {f : Lit → Bool} (hg : lineOk ⟨next, sent, high, e⟩ = good) (hI : OnceInv good high e f) {s : Int} (s1 : 1 ≤ s) (s2 : s ≤ 60) {r : Int × Eight × Int} (hr : takeC good high s e = r) :
    lineOk ⟨next, sent, r.1, r.2.1⟩ = good ∧
    ((r.2.2 = 0 ∧ f (.int .i64 s) = false ∧ s ≤ r.1 ∧ OnceInv good r.1 r.2.1 (fun l => if l.sameKey (.int .i64 s) then true else f l)) ∨
     (r.1 = high ∧ r.2.1 = e ∧ (f (.int .i64 s) = false ∧ r.2.2 ≠ 0 ∨ f (.int .i64 s) = true ∧ r.2.2 = 10 ∨ f (.int .i64 s) = true ∧ r.2.2 = 11))) := by
  unfold takeC at hr
  have hf : ∀ b, f (.int .i64 s) = b → b = true → good = true ∧ 1 ≤ s ∧ s ≤ high ∧ (high - 8 < s → e.get (high - s).toNat = true) := fun b h1 h2 => hI s (h1.trans h2)
  by_cases c0 : good = false ∨ s < 1 ∨ 1099511627776 < s
  · rw [if_pos c0] at hr
    subst hr
    refine ⟨hg, .inr ⟨rfl, rfl, .inl ⟨?_, by simp⟩⟩⟩
    have : good = false := by
      rcases c0 with h | h | h
      · exact h
      · omega
      · omega
    cases h : f (.int .i64 s)
    · rfl
    · have := (hf true h rfl).1
      simp_all
  · rw [if_neg c0] at hr
    have hgt : good = true := by
      cases good
      · exact absurd (Or.inl rfl) c0
      · rfl
    subst hgt
    obtain ⟨_, _, b1, b2, _⟩ := lineOk_high hg
    by_cases c1 : s ≤ high - 8
    · rw [if_pos c1] at hr
      subst hr
      refine ⟨hg, .inr ⟨rfl, rfl, ?_⟩⟩
      cases h : f (.int .i64 s)
      · exact .inl ⟨rfl, by simp⟩
      · exact .inr (.inr ⟨rfl, rfl⟩)
    · rw [if_neg c1] at hr
      by_cases c2 : s ≤ high
      · rw [if_pos c2] at hr
        by_cases c3 : e.get (high - s).toNat = true
        · rw [if_pos c3] at hr
          subst hr
          refine ⟨hg, .inr ⟨rfl, rfl, ?_⟩⟩
          cases h : f (.int .i64 s)
          · exact .inl ⟨rfl, by simp⟩
          · exact .inr (.inl ⟨rfl, rfl⟩)
        · rw [if_neg c3] at hr
          subst hr
          have hfs : f (.int .i64 s) = false := by
            cases h : f (.int .i64 s)
            · rfl
            · exact absurd ((hf true h rfl).2.2.2 (by omega)) c3
          refine ⟨(lineOk_take b1 b2 b1 b2).trans hg, .inl ⟨rfl, hfs, c2, fun x hx => ?_⟩⟩
          replace hx : (if (Lit.int .i64 x).sameKey (.int .i64 s) = true then true else f (.int .i64 x)) = true := hx
          rw [sameKey_int] at hx
          show true = true ∧ 1 ≤ x ∧ x ≤ high ∧ (high - 8 < x → (Eight.of _).get (high - x).toNat = true)
          by_cases hxs : x = s
          · subst hxs
            refine ⟨rfl, s1, c2, fun h => ?_⟩
            rw [Eight.get_of _ (by omega), if_pos rfl]
          · rw [if_neg (by simpa using hxs)] at hx
            obtain ⟨_, h1, h2, h3⟩ := hI x hx
            refine ⟨rfl, h1, h2, fun h => ?_⟩
            rw [Eight.get_of _ (by omega), h3 h]
            simp
      · rw [if_neg c2] at hr
        subst hr
        have hfs : f (.int .i64 s) = false := by
          cases h : f (.int .i64 s)
          · rfl
          · exact absurd (hf true h rfl).2.2.1 c2
        refine ⟨(lineOk_take b1 b2 (by show 0 ≤ s; omega) (by show s ≤ _; omega)).trans hg, .inl ⟨rfl, hfs, Int.le_refl _, fun x hx => ?_⟩⟩
        replace hx : (if (Lit.int .i64 x).sameKey (.int .i64 s) = true then true else f (.int .i64 x)) = true := hx
        rw [sameKey_int] at hx
        show true = true ∧ 1 ≤ x ∧ x ≤ s ∧ (s - 8 < x → (Eight.of _).get (s - x).toNat = true)
        by_cases hxs : x = s
        · subst hxs
          refine ⟨rfl, s1, Int.le_refl _, fun h => ?_⟩
          rw [Eight.get_of _ (by omega), if_pos (by omega)]
        · rw [if_neg (by simpa using hxs)] at hx
          obtain ⟨_, h1, h2, h3⟩ := hI x hx
          refine ⟨rfl, h1, by omega, fun h => ?_⟩
          rw [Eight.get_of _ (by omega), if_neg (by omega), if_pos (by omega)]
          rw [show (s - x).toNat - (s - high).toNat = (high - x).toNat by omega]
          exact h3 (by omega)

end Go.Proofs.Ytbngblmdcggfdaa
