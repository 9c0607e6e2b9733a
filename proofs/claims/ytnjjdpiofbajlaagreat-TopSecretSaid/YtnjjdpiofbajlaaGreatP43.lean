/- Walks and plain laws that the claim rests on, part 43. -/
import Derived.Test.YtnjjdpiofbajlaaGreatP1
import Derived.Test.YtnjjdpiofbajlaaGreatP2
import Derived.Test.YtnjjdpiofbajlaaGreatP3
import Derived.Test.YtnjjdpiofbajlaaGreatP4
import Derived.Test.YtnjjdpiofbajlaaGreatP5
import Derived.Test.YtnjjdpiofbajlaaGreatP6
import Derived.Test.YtnjjdpiofbajlaaGreatP7
import Derived.Test.YtnjjdpiofbajlaaGreatP8
import Derived.Test.YtnjjdpiofbajlaaGreatP9
import Derived.Test.YtnjjdpiofbajlaaGreatP10
import Derived.Test.YtnjjdpiofbajlaaGreatP11
import Derived.Test.YtnjjdpiofbajlaaGreatP12
import Derived.Test.YtnjjdpiofbajlaaGreatP13
import Derived.Test.YtnjjdpiofbajlaaGreatP14
import Derived.Test.YtnjjdpiofbajlaaGreatP15
import Derived.Test.YtnjjdpiofbajlaaGreatP16
import Derived.Test.YtnjjdpiofbajlaaGreatP17
import Derived.Test.YtnjjdpiofbajlaaGreatP18
import Derived.Test.YtnjjdpiofbajlaaGreatP19
import Derived.Test.YtnjjdpiofbajlaaGreatP20
import Derived.Test.YtnjjdpiofbajlaaGreatP21
import Derived.Test.YtnjjdpiofbajlaaGreatP22
import Derived.Test.YtnjjdpiofbajlaaGreatP23
import Derived.Test.YtnjjdpiofbajlaaGreatP24
import Derived.Test.YtnjjdpiofbajlaaGreatP25
import Derived.Test.YtnjjdpiofbajlaaGreatP26
import Derived.Test.YtnjjdpiofbajlaaGreatP27
import Derived.Test.YtnjjdpiofbajlaaGreatP28
import Derived.Test.YtnjjdpiofbajlaaGreatP29
import Derived.Test.YtnjjdpiofbajlaaGreatP30
import Derived.Test.YtnjjdpiofbajlaaGreatP31
import Derived.Test.YtnjjdpiofbajlaaGreatP32
import Derived.Test.YtnjjdpiofbajlaaGreatP33
import Derived.Test.YtnjjdpiofbajlaaGreatP34
import Derived.Test.YtnjjdpiofbajlaaGreatP35
import Derived.Test.YtnjjdpiofbajlaaGreatP42
set_option linter.unusedSimpArgs false
set_option linter.unusedVariables false
/- Small facts for TopSecret's walk: two clusters beside blocks of ours. -/
namespace Go.Proofs.YtnjjdpiofbajlaaGreat
open Go.RowKit
section
variable {C : Clu} {h t c : Int}
end
theorem Clu2.two1 {w0 Wd W : World} {own : Blks} {s : Two} {T1 T2 : TypeId} {D : Nat → Prop} {ga gb g : Nat} {cs : List Value} {ka kb : List Nat} {A B : Clu} (h : Clu2 w0 ((own ++ s.own T1 T2) ++ [(g, T1, cs)]) Wd D ga ka A gb kb B W) : Clu2 w0 (own ++ Two.own T1 T2 (some (g, cs), s.2)) Wd D ga ka A gb kb B W := by
 refine h.sub (fun x hx => ?_) ?_
 ·simp only [Two.own, Option.map_some, Option.toList_some, List.mem_append, List.mem_singleton] at hx ⊢
  rcases hx with h | h | h
  ·exact .inl (.inl h)
  ·exact .inr h
  ·exact .inl (.inr (.inr h))
 ·have h1 : (own ++ (s.2.map fun p => (p.1, T2, p.2)).toList ++ [(g, T1, cs)]).Pairwise fun x y => x.1 ≠ y.1 := h.st.ne.sublist (by
   unfold Two.own
   exact (List.Sublist.append ((List.Sublist.refl own).append (List.sublist_append_right _ _)) (List.Sublist.refl _)))
  refine List.Perm.pairwise ?_ h1 fun h => h.symm
  simp only [Two.own, Option.map_some, Option.toList_some, List.append_assoc]
  exact List.Perm.append_left own List.perm_append_comm
theorem Clu2.two2 {w0 Wd W : World} {own : Blks} {s : Two} {T1 T2 : TypeId} {D : Nat → Prop} {ga gb g : Nat} {cs : List Value} {ka kb : List Nat} {A B : Clu} (h : Clu2 w0 ((own ++ s.own T1 T2) ++ [(g, T2, cs)]) Wd D ga ka A gb kb B W) : Clu2 w0 (own ++ Two.own T1 T2 (s.1, some (g, cs))) Wd D ga ka A gb kb B W := by
 refine h.sub (fun x hx => ?_) ?_
 ·simp only [Two.own, Option.map_some, Option.toList_some, List.mem_append, List.mem_singleton] at hx ⊢
  rcases hx with h | h | h
  ·exact .inl (.inl h)
  ·exact .inl (.inr (.inl h))
  ·exact .inr h
 ·have h1 : (own ++ (s.1.map fun p => (p.1, T1, p.2)).toList ++ [(g, T2, cs)]).Pairwise fun x y => x.1 ≠ y.1 := h.st.ne.sublist (by
   unfold Two.own
   exact (List.Sublist.append ((List.Sublist.refl own).append (List.sublist_append_left _ _)) (List.Sublist.refl _)))
  simpa only [Two.own, Option.map_some, Option.toList_some, List.append_assoc] using h1
end Go.Proofs.YtnjjdpiofbajlaaGreat
