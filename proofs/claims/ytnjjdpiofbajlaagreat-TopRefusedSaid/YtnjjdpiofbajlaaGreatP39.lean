/- Walks and plain laws that the claim rests on, part 39. -/
import Derived.Test.YtnjjdpiofbajlaaGreatP1
import Derived.Test.YtnjjdpiofbajlaaGreatP2
import Derived.Test.YtnjjdpiofbajlaaGreatP3
import Derived.Test.YtnjjdpiofbajlaaGreatP4
import Derived.Test.YtnjjdpiofbajlaaGreatP5
import Derived.Test.YtnjjdpiofbajlaaGreatP6
import Derived.Test.YtnjjdpiofbajlaaGreatP7
import Derived.Test.YtnjjdpiofbajlaaGreatP8
import Derived.Test.YtnjjdpiofbajlaaGreatP9
import Derived.Test.YtnjjdpiofbajlaaGreatP10
import Derived.Test.YtnjjdpiofbajlaaGreatP11
import Derived.Test.YtnjjdpiofbajlaaGreatP12
import Derived.Test.YtnjjdpiofbajlaaGreatP13
import Derived.Test.YtnjjdpiofbajlaaGreatP14
import Derived.Test.YtnjjdpiofbajlaaGreatP15
import Derived.Test.YtnjjdpiofbajlaaGreatP16
import Derived.Test.YtnjjdpiofbajlaaGreatP17
import Derived.Test.YtnjjdpiofbajlaaGreatP18
import Derived.Test.YtnjjdpiofbajlaaGreatP19
import Derived.Test.YtnjjdpiofbajlaaGreatP20
import Derived.Test.YtnjjdpiofbajlaaGreatP21
import Derived.Test.YtnjjdpiofbajlaaGreatP22
import Derived.Test.YtnjjdpiofbajlaaGreatP23
import Derived.Test.YtnjjdpiofbajlaaGreatP24
import Derived.Test.YtnjjdpiofbajlaaGreatP25
import Derived.Test.YtnjjdpiofbajlaaGreatP26
import Derived.Test.YtnjjdpiofbajlaaGreatP27
import Derived.Test.YtnjjdpiofbajlaaGreatP28
import Derived.Test.YtnjjdpiofbajlaaGreatP29
import Derived.Test.YtnjjdpiofbajlaaGreatP30
import Derived.Test.YtnjjdpiofbajlaaGreatP31
import Derived.Test.YtnjjdpiofbajlaaGreatP32
import Derived.Test.YtnjjdpiofbajlaaGreatP33
import Derived.Test.YtnjjdpiofbajlaaGreatP38
set_option linter.unusedSimpArgs false
set_option linter.unusedVariables false
/- What an act does to what threads own, and to their labels; the threads of a cluster as a row. No program, no memory. -/
namespace Go.Proofs.YtnjjdpiofbajlaaGreat
theorem thrsOf_len (C : Clu) : (thrsOf C).length = 16 := by simp [thrsOf]
theorem thrsOf_at (C : Clu) {h t : Nat} (hh : h < 4) (ht : t < 4) : (thrsOf C)[h * 4 + t]? = some (C.thr h t) := by
 unfold thrsOf
 rw [List.getElem?_map, List.getElem?_range (by omega)]
 simp only [Option.map_some]
 rw [show (h * 4 + t) / 4 = h by omega, show (h * 4 + t) % 4 = t by omega]
theorem thrsOf_new : thrsOf newC = List.replicate 16 zeroT := by rfl
theorem mixL_all {α : Type} {l l' : List α} (h : l.length = l'.length) : mixL l l' l.length = l' := by
 unfold mixL
 rw [List.take_of_length_le (by omega), List.drop_of_length_le (by omega), List.append_nil]
theorem mixL_len {α : Type} {l l' : List α} (h : l.length = l'.length) (k : Nat) : (mixL l l' k).length = l.length := by
 simp [mixL]; omega
theorem mixL_set {α : Type} {l l' : List α} (h : l.length = l'.length) {k : Nat} (hk : k < l.length) {x : α} (hx : l'[k]? = some x) : (mixL l l' k).set k x = mixL l l' (k + 1) := by
 unfold mixL
 refine List.ext_getElem? fun i => ?_
 rw [List.getElem?_set]
 have t1 : (l'.take k).length = k := by rw [List.length_take]; omega
 have t2 : (l'.take (k + 1)).length = k + 1 := by rw [List.length_take]; omega
 by_cases e : k = i
 ·subst e
  rw [if_pos rfl, if_pos (by rw [List.length_append, t1, List.length_drop]; omega), List.getElem?_append_left (by omega), List.getElem?_take_of_lt (by omega), hx]
 ·rw [if_neg e]
  by_cases e2 : i < k
  ·rw [List.getElem?_append_left (by omega), List.getElem?_append_left (by omega), List.getElem?_take_of_lt (by omega), List.getElem?_take_of_lt (by omega)]
  ·rw [List.getElem?_append_right (by omega), List.getElem?_append_right (by omega), List.getElem?_drop, List.getElem?_drop, t1, t2]
   congr 1
   omega
theorem thrsMix_len (C C' : Clu) (k : Nat) : (thrsMix C C' k).length = 16 := by
 unfold thrsMix
 rw [mixL_len (by simp [thrsOf_len]), List.length_map, thrsOf_len]
theorem thrsMix_set (C C' : Clu) {h t : Nat} (hh : h < 4) (ht : t < 4) : (thrsMix C C' (h * 4 + t)).set (h * 4 + t) (true, C'.thr h t) = thrsMix C C' (h * 4 + t + 1) := by
 unfold thrsMix
 exact mixL_set (by simp [thrsOf_len]) (by simp [thrsOf_len]; omega) (by rw [List.getElem?_map, thrsOf_at C' hh ht]; rfl)
theorem thrsMix_zero (C C' : Clu) : thrsMix C C' 0 = (thrsOf C).map (Prod.mk false) := rfl
theorem thrsMix_all (C C' : Clu) : thrsMix C C' 16 = (thrsOf C').map (Prod.mk true) := by
 have h := mixL_all (l := (thrsOf C).map (Prod.mk false)) (l' := (thrsOf C').map (Prod.mk true)) (by simp [thrsOf_len])
 rw [List.length_map, thrsOf_len] at h
 exact h
end Go.Proofs.YtnjjdpiofbajlaaGreat

/- What a refused act leaves, how many acts were done, what leaves a host, what comes: plain laws of an act. No program, no memory. -/
namespace Go.Proofs.YtnjjdpiofbajlaaGreat
section
variable {C : Clu}
theorem stepC_refused (k : Ker) (t : Int) (c : Req) (h7 : c.kind ≠ 7) : (stepC k t c).2.code = 0 ∨ ((stepC k t c).1 = k ∧ (stepC k t c).2.n = 0 ∧ (stepC k t c).2.text = ⟨#[]⟩) := by
 unfold stepC
 split
 ·exact .inr ⟨rfl, rfl, rfl⟩
 ·split
  ·exact .inr ⟨rfl, rfl, rfl⟩
  ·unfold callK
   dsimp only
   repeat' split
   all_goals first
    | exact .inr ⟨rfl, rfl, rfl⟩
    | exact .inl rfl
    | exact absurd (by assumption) h7
theorem setKer_self (h : Int) (v w : Int) : (C.setKer h (C.ker h)).thr v w = C.thr v w := by
 unfold Clu.thr
 congr 1
 unfold Clu.setKer Clu.ker
 simp only [List.getD_eq_getElem?_getD]
 rw [List.getElem?_set]
 by_cases e : h.toNat = v.toNat
 ·rw [if_pos e, ← e]
  by_cases q : h.toNat < C.kers.length
  ·rw [if_pos q, List.getElem?_eq_getElem q]; rfl
  ·rw [if_neg q, List.getElem?_eq_none (by omega)]
 ·rw [if_neg e]
theorem doC_refused (a : Deed) (h7 : ¬ (a.kind = 1 ∧ a.call.kind = 7)) : (doC C a).2.code = 0 ∨ Refused C (doC C a).1 (doC C a).2 := by
 have hI : ∀ e, Refused C { C with acts := C.acts + 1 } (errR e) := fun e => ⟨fun _ _ => rfl, rfl, rfl, rfl, rfl⟩
 unfold doC
 split
 ·exact .inr ⟨fun _ _ => rfl, rfl, rfl, rfl, rfl⟩
 unfold actC
 split
 ·rename_i k1
  split
  ·exact .inr (hI _)
  ·unfold callC
   split
   ·split
    ·exact .inr (hI _)
    ·split
     ·exact .inr (hI _)
     ·split
      ·exact .inr (hI _)
      ·unfold sendC
       split
       ·exact .inl rfl
       ·split
        ·exact .inr (hI _)
        ·split
         ·exact .inr (hI _)
         ·exact .inl rfl
   ·split
    ·split
     ·exact .inr (hI _)
     ·split
      ·exact .inr (hI _)
      ·split
       ·exact .inr (hI _)
       ·exact .inl rfl
    ·rcases stepC_refused (C.ker a.h) a.t a.call (fun h => h7 ⟨k1, h⟩) with h | ⟨h1, h2, h3⟩
     ·exact .inl h
     ·refine .inr ⟨fun v w => ?_, h2, h3, rfl, rfl⟩
      show (Clu.setKer { C with acts := C.acts + 1 } a.h (stepC (C.ker a.h) a.t a.call).1).thr v w = _
      rw [h1]
      exact setKer_self (C := { C with acts := C.acts + 1 }) a.h v w
 ·split
  ·split
   ·exact .inr (hI _)
   ·exact .inl rfl
  ·split
   ·unfold tickC
    split
    ·exact .inr (hI _)
    ·exact .inl rfl
   ·exact .inr (hI _)
/-! ### What leaves a host -/
end
end Go.Proofs.YtnjjdpiofbajlaaGreat

/- Records of one size, one behind the other, as a list of cells: one of them as a window. No program is in sight. -/
namespace Go.Proofs.YtnjjdpiofbajlaaGreat
open Go.RowKit
def Rec {α : Type} (sz : Nat) (R : List Value → α → Prop) (C : List Value) (xs : List α) : Prop :=
 ∃ css : List (List Value), C = css.flatten ∧ css.length = xs.length ∧ (∀ cs ∈ css, cs.length = sz) ∧ ∀ (i : Nat) (x : α) (cs : List Value), xs[i]? = some x → css[i]? = some cs → R cs x
section
variable {α : Type} {sz : Nat} {R R' : List Value → α → Prop} {C : List Value} {xs : List α}
theorem Rec.mono (h : Rec sz R C xs) (hR : ∀ cs x, R cs x → R' cs x) : Rec sz R' C xs := by
 obtain ⟨css, h1, h2, h3, h4⟩ := h
 exact ⟨css, h1, h2, h3, fun i x cs hx hc => hR _ _ (h4 i x cs hx hc)⟩
theorem Rec.length (h : Rec sz R C xs) : C.length = xs.length * sz := by
 obtain ⟨css, rfl, h2, h3, _⟩ := h
 rw [flatten_length h3, h2]
theorem Rec.same {x : α} {cs : List Value} (n : Nat) (hl : cs.length = sz) (h : R cs x) : Rec sz R (List.replicate n cs).flatten (List.replicate n x) :=
 ⟨List.replicate n cs, rfl, by simp, fun c hc => by rw [List.eq_of_mem_replicate hc]; exact hl, fun i y c hy hc => by
  rw [List.getElem?_replicate] at hy hc
  split at hy
  ·rename_i hi; rw [if_pos hi] at hc; cases hy; cases hc; exact h
  ·cases hy⟩
theorem Rec.win (h : Rec sz R C xs) {i : Nat} (hi : i < xs.length) : ∃ pre cs post, C = winC pre cs post ∧ pre.length = i * sz ∧ cs.length = sz ∧ R cs xs[i] ∧
  ∀ (R' : List Value → α → Prop) (cs' : List Value) (x' : α), (∀ c x, R c x → R' c x) → R' cs' x' → cs'.length = sz → Rec sz R' (winC pre cs' post) (xs.set i x') := by
 obtain ⟨css, rfl, h2, h3, h4⟩ := h
 have hil : i < css.length := by omega
 have e : css = css.take i ++ css[i] :: css.drop (i + 1) := by rw [← List.drop_eq_getElem_cons hil, List.take_append_drop]
 refine ⟨(css.take i).flatten, css[i], (css.drop (i + 1)).flatten, ?_, ?_, h3 _ (List.getElem_mem hil), h4 i _ _ (List.getElem?_eq_getElem hi) (List.getElem?_eq_getElem hil), fun R' cs' x' hm hR hl => ?_⟩
 ·have h5 := congrArg List.flatten e
  rw [List.flatten_append, List.flatten_cons] at h5
  exact h5
 ·rw [flatten_length fun cs hc => h3 cs (List.mem_of_mem_take hc), List.length_take, Nat.min_eq_left (by omega)]
 ·refine ⟨css.set i cs', ?_, by simp [h2], fun c hc => ?_, fun j y c hy hc => ?_⟩
  ·unfold winC
   rw [List.set_eq_take_append_cons_drop, if_pos hil]
   simp
  ·rcases List.mem_or_eq_of_mem_set hc with hc | rfl
   ·exact h3 c hc
   ·exact hl
  ·rw [List.getElem?_set] at hy hc
   by_cases hij : i = j
   ·subst hij
    rw [if_pos rfl, if_pos hi] at hy
    rw [if_pos rfl, if_pos hil] at hc
    cases hy; cases hc
    exact hR
   ·rw [if_neg hij] at hy hc
    exact hm _ _ (h4 j y c hy hc)
theorem Rec.win' (h : Rec sz R C xs) {i : Nat} {x : α} (hx : xs[i]? = some x) : ∃ pre cs post, C = winC pre cs post ∧ pre.length = i * sz ∧ cs.length = sz ∧ R cs x := by
 obtain ⟨hi, rfl⟩ := List.getElem?_eq_some_iff.1 hx
 obtain ⟨pre, cs, post, h1, h2, h3, h4, _⟩ := h.win hi
 exact ⟨pre, cs, post, h1, h2, h3, h4⟩
end
end Go.Proofs.YtnjjdpiofbajlaaGreat

/- Threads that were told, as cells of a record. -/
namespace Go.Proofs.YtnjjdpiofbajlaaGreat
open Go.RowKit
def ThrC (ok : Nat → Prop) (w : World) (cs : List Value) (x : Thr) : Prop :=
 ∃ la lc oa oc ba bc ma mc, cs = thrC x la lc oa oc ba bc ma mc ∧ ThrS ok w x la lc oa oc ba bc ma mc
theorem ThrC.move {ok ok' : Nat → Prop} {w w' : World} {cs : List Value} {x : Thr} (h : ThrC ok w cs x) (hs : w.heap.size ≤ w'.heap.size) (hk : ∀ b, b < w.heap.size → ok b → ok' b ∧ w'.heap[b]? = w.heap[b]?) : ThrC ok' w' cs x := by
 obtain ⟨la, lc, oa, oc, ba, bc, ma, mc, e, h⟩ := h
 exact ⟨la, lc, oa, oc, ba, bc, ma, mc, e, h.move hs hk⟩
theorem ThrC.zero (ok : Nat → Prop) (w : World) : ThrC ok w zeroC zeroT := ⟨none, 0, none, 0, none, 0, none, 0, rfl, ThrS.zero _ _⟩
end Go.Proofs.YtnjjdpiofbajlaaGreat

/- A thread as a cluster tells it, at a number that is one. -/
namespace Go.Proofs.YtnjjdpiofbajlaaGreat
open Go.RowKit
theorem thrC2_at (C : Clu) {h t : Nat} (hh : h < 4) (ht : t < 4) : thrC2 C h t = C.thr h t := by
 unfold thrC2 thrOf
 rw [if_pos (four_n hh), if_pos (four_n ht)]
 rfl
end Go.Proofs.YtnjjdpiofbajlaaGreat

/- The walk through the cluster's Now. -/
namespace Go.Proofs.YtnjjdpiofbajlaaGreat
open Go.RowKit
section
variable {w0 Wd W : World} {M0 : List Nat} {own : Blks} {X D : Nat → Prop} {gc : Nat} {kg : List Nat} {C : Clu}
set_option maxRecDepth 100000 in
theorem cluster_Now (P : Clus w0 M0 own X Wd D gc kg C W) : Calls Tryz.prog 29 #[.pointer (some ⟨gc, 0, none⟩)] W fun e W' => e = .returned (.int .i64 C.now) ∧ W = W' := by
 obtain ⟨ok, BB, na, nc, L, hA, -, -, -⟩ := P.open
 have f0 := hA.cell hA.cells.now
 clear hA P
 go_enter Tryz.func29, Tryz.ntmps29
 go_wp2_with (first | go_skip | fail)
 go_ret
 exact ⟨rfl, rfl⟩
end
end Go.Proofs.YtnjjdpiofbajlaaGreat
