/- Walks and plain laws, part 10. -/
import Derived.Test.YtealbofmlieicaaP9
import Derived.Shelf.Abstract
set_option linter.unusedSimpArgs false
set_option linter.unusedVariables false
set_option maxHeartbeats 16000000
set_option maxRecDepth 100000
namespace Go.Proofs.Ytealbofmlieicaa
open Go.RowKit
theorem Own.open {base : Nat} {e : TypeId} {w : World} {α : Type} {sz : Nat} {R : List Value → α → Prop} {a : Option Addr} {c : Nat} {xs : List α} (h : Own base e w sz R a c xs) :
  (a = none ∧ xs = []) ∨ ∃ (g : Nat) (css : List (List Value)) (rest : List Value), a = some ⟨g, 0, none⟩ ∧ base ≤ g ∧ w.heap[g]? = some (.cells (css.flatten ++ rest).toArray e (0, 0)) ∧ css.length = xs.length ∧ (∀ cs ∈ css, cs.length = sz ∧ ∀ v ∈ cs, v.oneCell' = true) ∧
   (∀ (i : Nat) (x : α) (cs : List Value), xs[i]? = some x → css[i]? = some cs → R cs x) ∧ c ≤ maxLen ∧ xs.length ≤ c ∧ (css.flatten ++ rest).length = c * sz := by
 obtain ⟨css, h1, h2, h3, h4, h5⟩ := h
 rcases h5 with ⟨e1, e2⟩ | ⟨g, cap, cur, e1, hb, hg, hn, hm, hs, ht⟩
 ·simp at e1
  exact .inl ⟨e1.1, List.eq_nil_of_length_eq_zero e2⟩
 ·simp only [Value.slice.injEq] at e1
  obtain ⟨rfl, _, rfl⟩ := e1
  have hc : css.flatten ++ cur.toList.drop (xs.length * sz) = cur.toList := by rw [← ht, List.take_append_drop]
  refine .inr ⟨g, css, cur.toList.drop (xs.length * sz), rfl, hb, ?_, h1, h2, h3, hm, hn, ?_⟩
  ·rw [hc]; simpa using hg
  ·rw [hc]; simpa using hs
abbrev atSeq (seq : Int) (s : Sent) : Bool := s.frame.seq == seq
theorem putL_before : ∀ {cs : List Value} {o : Nat} {vs : List Value} {p : Nat}, p < o → (putL cs o vs)[p]? = cs[p]?
 | [], _, _, _, _ => by simp [putL]
 | c :: cs, 0, _, _, h => by omega
 | c :: cs, o + 1, vs, 0, _ => by simp [putL]
 | c :: cs, o + 1, vs, p + 1, h => by simp only [putL, List.getElem?_cons_succ]; exact putL_before (by omega)
theorem SlR.front {w : World} {g : Nat} {T : TypeId} {cells : List Value} {cur : List (List Value)} {sz c : Nat} {α : Type} {R : List Value → α → Prop} {xs : List α} (hg : w.heap[g]? = some (.cells cells.toArray T (0, 0))) (hc : ∀ cs ∈ cur, cs.length = sz ∧ ∀ v ∈ cs, v.oneCell' = true)
  (hn : xs.length ≤ cur.length) (hcell : ∀ p, p < xs.length * sz → cells[p]? = cur.flatten[p]?) (hR : ∀ (m : Nat) (x : α) (cs : List Value), xs[m]? = some x → cur[m]? = some cs → R cs x) (hxc : xs.length ≤ c) (hcm : c ≤ maxLen) {ok : Nat → Prop} (ho : ok g) : SlR ok w sz R (some ⟨g, 0, none⟩) c xs := by
 refine ⟨hxc, hcm, by simp, fun i x hx => ?_⟩
 have hi := (gEs hx).1
 have hcur : cur[i]? = some (cur[i]'(by omega)) := gEg _
 have hcs := hc _ (mgE hcur)
 refine ⟨g, 0, cur[i]'(by omega), rfl, ho, (Array.getElem?_eq_some_iff.1 hg).1, hR i x _ hx hcur, hcs.1, hcs.2, fun j v hv => ?_⟩
 have hj := (gEs hv).1
 rw [hcs.1] at hj
 rw [cell_of_row w g _ cells.toArray T (0, 0) hg, List.getElem?_toArray, Nat.zero_add, hcell _ (by
  have : (i + 1) * sz ≤ xs.length * sz := Nat.mul_le_mul_right _ hi
  rw [Nat.succ_mul] at this
  omega)]
 exact flatten_at (fun cs h => (hc cs h).1) hcur hv
abbrev offSeq (seq : Int) (s : Sent) : Bool := !(s.frame.seq == seq)
end Go.Proofs.Ytealbofmlieicaa
