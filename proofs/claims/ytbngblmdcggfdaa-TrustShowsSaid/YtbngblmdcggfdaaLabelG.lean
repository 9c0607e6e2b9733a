/- The walk through label.Good. -/
import Derived.Test.YtbngblmdcggfdaaLabelC
set_option linter.unusedSimpArgs false
set_option linter.unusedVariables false
namespace Go.Proofs.Ytbngblmdcggfdaa
open Go.RowKit

theorem good_bad {l : List Lev} {k : Nat} (h : k < l.length) (hI : Hid (risesL (-1) l = risesL (prevC l k) (l.drop k))) (hb : ¬ (prevC l k < l[k].c ∧ lvOk l[k] = true)) : goodL l = false := by
  unfold goodL
  rw [hI.out, risesL_step l k h, if_neg hb]
  split <;> rfl

theorem good_go {l : List Lev} {k : Nat} (h : k < l.length) (hI : Hid (risesL (-1) l = risesL (prevC l k) (l.drop k))) (hb : prevC l k < l[k].c ∧ lvOk l[k] = true) : Hid (risesL (-1) l = risesL (prevC l (k + 1)) (l.drop (k + 1))) := by
  show _ = _
  rw [hI.out, risesL_step l k h, if_pos hb]

end Go.Proofs.Ytbngblmdcggfdaa
