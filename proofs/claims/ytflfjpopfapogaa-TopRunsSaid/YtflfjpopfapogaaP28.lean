/- Walks and plain laws that the claim rests on, part 28. -/
import Derived.Test.YtflfjpopfapogaaP27
set_option linter.unusedSimpArgs false
set_option linter.unusedVariables false
/- How long a frame's bytes are. -/
namespace Go.Proofs.Ytflfjpopfapogaa
theorem encL_len {f : Frame} (h : goodFrameC f = 0) : (encL f).length ≤ 100000 := by
 obtain ⟨_, _, _, _, _, hA, hM⟩ := good_facts h
 unfold encL
 split
 ·simp [headBytes, be_length]
 ·rename_i hk
  obtain ⟨m1, _, m3, _⟩ := hM (by simpa using hk)
  obtain ⟨_, _, q5, q6, q7⟩ := mail_facts m1
  obtain ⟨q8, _⟩ := grants_facts q6
  unfold goodL at q5
  by_cases hl : f.mail.label.length ≤ 8
  ·have e1 : ∀ l : List Lev, (l.flatMap levBytes).length = l.length * 2 := by
    intro l
    induction l with
    | nil => rfl
    | cons x l ih => simp [List.flatMap_cons, ih, levBytes]; omega
   have e2 : ∀ l : List Cert, (l.flatMap certBytes).length = l.length * 9 := by
    intro l
    induction l with
    | nil => rfl
    | cons x l ih => simp [List.flatMap_cons, ih, certBytes, be_length]; omega
   have e3 : f.mail.text.data.toList.length = f.mail.text.size := by rw [Array.length_toList]; rfl
   simp [headBytes, be_length, mailBytes, e1, e2]
   have : f.mail.text.data.size = f.mail.text.size := rfl
   omega
  ·rw [if_neg hl] at q5; simp at q5
end Go.Proofs.Ytflfjpopfapogaa
