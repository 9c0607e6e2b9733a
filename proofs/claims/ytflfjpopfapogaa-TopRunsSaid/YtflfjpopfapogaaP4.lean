/- Walks and plain laws that the claim rests on, part 4. -/
import Derived.Test.YtflfjpopfapogaaP1
import Derived.Test.YtflfjpopfapogaaP2
set_option linter.unusedSimpArgs false
set_option linter.unusedVariables false
/- What trust answers, in plain words; no program is in sight. -/
namespace Go.Proofs.Ytflfjpopfapogaa
open Go.RowKit
def certsOk : List Cert → List Cert → Bool
 | _, [] => true
 | pre, x :: l => goodCertB x && !(inL pre x) && certsOk (pre ++ [x]) l
def goodCerts (l : List Cert) : Bool := certsOk [] l && decide (l.length ≤ 24)
theorem certsOk_at {l : List Cert} {k : Nat} (h : k < l.length) : certsOk (l.take k) (l.drop k) = (goodCertB l[k] && !(inL (l.take k) l[k]) && certsOk (l.take (k + 1)) (l.drop (k + 1))) := by
 rw [drop_at h, certsOk, List.take_succ_eq_append_getElem h]
theorem certsOk_iff (l : List Cert) : ∀ pre, certsOk pre l = true ↔ (∀ x ∈ l, goodCertB x = true) ∧ l.Nodup ∧ ∀ x ∈ l, x ∉ pre := by
 induction l with
 | nil => simp [certsOk]
 | cons x l ih =>
  intro pre
  simp only [certsOk, Bool.and_eq_true, Bool.not_eq_true', inL_not, ih, List.mem_cons, List.nodup_cons, List.mem_append, List.not_mem_nil, or_false]
  constructor
  ·rintro ⟨⟨h1, h2⟩, h3, h4, h5⟩
   refine ⟨?_, ⟨fun hx => (h5 x hx) (.inr rfl), h4⟩, ?_⟩
   ·rintro y (rfl | hy)
    ·exact h1
    ·exact h3 y hy
   ·rintro y (rfl | hy)
    ·exact h2
    ·exact fun hp => h5 y hy (.inl hp)
  ·rintro ⟨h1, ⟨h2, h3⟩, h4⟩
   refine ⟨⟨h1 x (.inl rfl), h4 x (.inl rfl)⟩, fun y hy => h1 y (.inr hy), h3, ?_⟩
   rintro y hy (hp | rfl)
   ·exact h4 y (.inr hy) hp
   ·exact h2 hy
theorem goodCerts_iff (l : List Cert) : goodCerts l = true ↔ (∀ x ∈ l, goodCertB x = true) ∧ l.Nodup ∧ l.length ≤ 24 := by
 unfold goodCerts
 rw [Bool.and_eq_true, certsOk_iff]
 simp [and_assoc]
def addC (l : List Cert) (c : Cert) : List Cert × Int :=
 if (goodCerts l && goodCertB c) = false then ([], 2) else if inL l c = true then (l, 0) else if 24 ≤ l.length then ([], 5) else (l ++ [c], 0)
inductive Reach (l : List Cert) (c now : Int) : Int → Prop
 | home : Reach l c now ((c / 20))
 | step (x : Cert) : x ∈ l → x.c = c → now ≤ x.till → Reach l c now x.by_ → Reach l c now x.host
noncomputable def trustB (l : List Cert) (c now h : Int) : Bool := @decide (catOk c = true ∧ goodCerts l = true ∧ Reach l c now h) (Classical.propDecidable _)
theorem trustB_iff {l : List Cert} {c now h : Int} : trustB l c now h = true ↔ catOk c = true ∧ goodCerts l = true ∧ Reach l c now h := by
 unfold trustB
 exact @decide_eq_true_iff _ (Classical.propDecidable _)
theorem home_range {c : Int} (h : catOk c = true) : 0 ≤ c / 20 ∧ c / 20 < 4 := by
 have hc := (catOk_iff _).1 h
 omega
theorem goodCert_range {x : Cert} (h : goodCertB x = true) : (0 ≤ x.by_ ∧ x.by_ < 4) ∧ (0 ≤ x.host ∧ x.host < 4) := by
 unfold goodCertB at h
 simp only [Bool.and_eq_true, four_iff] at h
 exact ⟨h.1.1.1.1.2, h.1.1.1.2⟩
structure Four where
 b0 : Bool
 b1 : Bool
 b2 : Bool
 b3 : Bool
 deriving DecidableEq
def Four.get (e : Four) : Nat → Bool
 | 0 => e.b0
 | 1 => e.b1
 | 2 => e.b2
 | 3 => e.b3
 | _ => false
def Four.set (e : Four) : Nat → Four
 | 0 => { e with b0 := true }
 | 1 => { e with b1 := true }
 | 2 => { e with b2 := true }
 | 3 => { e with b3 := true }
 | _ => e
def Four.no (e : Four) : Nat := (if e.b0 then 0 else 1) + (if e.b1 then 0 else 1) + (if e.b2 then 0 else 1) + (if e.b3 then 0 else 1)
def fourL (e : Four) : List Value := [.bool e.b0, .bool e.b1, .bool e.b2, .bool e.b3]
theorem fourL_get (e : Four) {k : Nat} (h : k < 4) : (fourL e)[k]? = some (.bool (e.get k)) := by
 match k, h with
 | 0, _ => rfl
 | 1, _ => rfl
 | 2, _ => rfl
 | 3, _ => rfl
theorem fourL_put (e : Four) {k : Nat} (h : k < 4) : putL (fourL e) k [.bool true] = fourL (e.set k) := by
 match k, h with
 | 0, _ => rfl
 | 1, _ => rfl
 | 2, _ => rfl
 | 3, _ => rfl
theorem Four.get_set (e : Four) {k : Nat} (h : k < 4) (j : Nat) : (e.set k).get j = if j = k then true else e.get j := by
 match k, h with
 | 0, _ => match j with | 0 => rfl | 1 => rfl | 2 => rfl | 3 => rfl | n + 4 => rfl
 | 1, _ => match j with | 0 => rfl | 1 => rfl | 2 => rfl | 3 => rfl | n + 4 => rfl
 | 2, _ => match j with | 0 => rfl | 1 => rfl | 2 => rfl | 3 => rfl | n + 4 => rfl
 | 3, _ => match j with | 0 => rfl | 1 => rfl | 2 => rfl | 3 => rfl | n + 4 => rfl
theorem Four.no_set (e : Four) {k : Nat} (h : k < 4) (hk : e.get k = false) : (e.set k).no + 1 = e.no := by
 obtain ⟨b0, b1, b2, b3⟩ := e
 match k, h with
 | 0, _ => simp [Four.get] at hk; subst hk; cases b1 <;> cases b2 <;> cases b3 <;> rfl
 | 1, _ => simp [Four.get] at hk; subst hk; cases b0 <;> cases b2 <;> cases b3 <;> rfl
 | 2, _ => simp [Four.get] at hk; subst hk; cases b0 <;> cases b1 <;> cases b3 <;> rfl
 | 3, _ => simp [Four.get] at hk; subst hk; cases b0 <;> cases b1 <;> cases b2 <;> rfl
def live (c now : Int) (x : Cert) : Prop := x.c = c ∧ now ≤ x.till
structure TrInv (l : List Cert) (c now : Int) (e : Four) (work : List Int) (h : Int) (k : Nat) : Prop where
 sound : ∀ n : Nat, e.get n = true → Reach l c now n
 wait : ∀ x ∈ work, Reach l c now x ∧ 0 ≤ x ∧ x < 4
 edge : ∀ (i : Nat) (hi : i < l.length), live c now l[i] → (l[i].by_ ≠ h ∨ i < k) → e.get l[i].by_.toNat = true → e.get l[i].host.toNat = true ∨ l[i].host ∈ work
 home : e.get ((c / 20)).toNat = true ∨ (c / 20) ∈ work
def four0 : Four := ⟨false, false, false, false⟩
theorem four0_get (n : Nat) : four0.get n = false := by
 match n with
 | 0 => rfl
 | 1 => rfl
 | 2 => rfl
 | 3 => rfl
 | n + 4 => rfl
theorem TrInv.start {l : List Cert} {c now : Int} (hc : catOk c = true) : TrInv l c now four0 [(c / 20)] (-1) 0 :=
 ⟨fun n hn => absurd hn (by rw [four0_get]; simp), fun x hx => (by simp at hx; subst hx; exact ⟨.home, home_range hc⟩),
 fun i hi _ _ hh => absurd hh (by rw [four0_get]; simp), .inr (by simp)⟩
theorem TrInv.pop {l : List Cert} {c now : Int} {e : Four} {work : List Int} {n : Nat} {k : Nat} (hi : TrInv l c now e ((n : Int) :: work) (-1) k) (hn : e.get n = true) : TrInv l c now e work (-1) k := by
 refine ⟨hi.sound, fun x hx => hi.wait x (by simp [hx]), fun i h1 h2 h3 h4 => ?_, ?_⟩
 ·rcases hi.edge i h1 h2 h3 h4 with h | h
  ·exact .inl h
  ·rcases List.mem_cons.1 h with h | h
   ·exact .inl (by rw [h]; simpa using hn)
   ·exact .inr h
 ·rcases hi.home with h | h
  ·exact .inl h
  ·rcases List.mem_cons.1 h with h | h
   ·exact .inl (by rw [h]; simpa using hn)
   ·exact .inr h
theorem TrInv.enter {l : List Cert} {c now : Int} {e : Four} {work : List Int} {n : Nat} {k : Nat} (hl : ∀ x ∈ l, 0 ≤ x.by_ ∧ 0 ≤ x.host) (hc : 0 ≤ (c / 20)) (hn : n < 4) (hi : TrInv l c now e ((n : Int) :: work) (-1) k) : TrInv l c now (e.set n) work n 0 := by
 have hg : ∀ j, e.get j = true → (e.set n).get j = true := fun j hj => by rw [Four.get_set e hn]; split <;> simp_all
 refine ⟨fun j hj => ?_, fun x hx => hi.wait x (by simp [hx]), fun i h1 h2 h3 h4 => ?_, ?_⟩
 ·rw [Four.get_set e hn] at hj
  by_cases h : j = n
  ·subst h; exact (hi.wait _ (by simp)).1
  ·rw [if_neg h] at hj; exact hi.sound j hj
 ·have hb := hl _ (List.getElem_mem h1)
  have hne : l[i].by_ ≠ (n : Int) := by rcases h3 with h | h; exact h; omega
  rw [Four.get_set e hn, if_neg (by omega)] at h4
  rcases hi.edge i h1 h2 (.inl (by omega)) h4 with h | h
  ·exact .inl (hg _ h)
  ·rcases List.mem_cons.1 h with h | h
   ·exact .inl (by rw [h, Four.get_set e hn]; simp)
   ·exact .inr h
 ·rcases hi.home with h | h
  ·exact .inl (hg _ h)
  ·rcases List.mem_cons.1 h with h | h
   ·exact .inl (by rw [h, Four.get_set e hn]; simp)
   ·exact .inr h
theorem TrInv.push {l : List Cert} {c now : Int} {e : Four} {work : List Int} {n k : Nat} (hi : TrInv l c now e work n k) (hk : k < l.length) (hg : 0 ≤ l[k].host ∧ l[k].host < 4) (hn : e.get n = true) (h1 : l[k].c = c) (h2 : l[k].by_ = n) (h3 : now ≤ l[k].till) : TrInv l c now e (work ++ [l[k].host]) n (k + 1) := by
 refine ⟨hi.sound, fun x hx => ?_, fun i a1 a2 a3 a4 => ?_, ?_⟩
 ·rcases List.mem_append.1 hx with hx | hx
  ·exact hi.wait x hx
  ·simp at hx; subst hx
   exact ⟨.step l[k] (List.getElem_mem hk) h1 h3 (by rw [h2]; exact hi.sound n hn), hg⟩
 ·by_cases hik : i = k
  ·subst hik; exact .inr (by simp)
  ·rcases hi.edge i a1 a2 (by rcases a3 with h | h; exact .inl h; exact .inr (by omega)) a4 with h | h
   ·exact .inl h
   ·exact .inr (by simp [h])
 ·rcases hi.home with h | h
  ·exact .inl h
  ·exact .inr (by simp [h])
theorem TrInv.pass {l : List Cert} {c now : Int} {e : Four} {work : List Int} {n k : Nat} (hi : TrInv l c now e work n k) (hk : k < l.length) (h : ¬ (l[k].c = c ∧ l[k].by_ = n ∧ now ≤ l[k].till)) : TrInv l c now e work n (k + 1) := by
 refine ⟨hi.sound, hi.wait, fun i a1 a2 a3 a4 => ?_, hi.home⟩
 by_cases hik : i = k
 ·subst hik
  exact hi.edge i a1 a2 (.inl fun hb => h ⟨a2.1, hb, a2.2⟩) a4
 ·exact hi.edge i a1 a2 (by rcases a3 with h | h; exact .inl h; exact .inr (by omega)) a4
theorem TrInv.leave {l : List Cert} {c now : Int} {e : Four} {work : List Int} {n k : Nat} (hi : TrInv l c now e work n k) (hk : ¬ k < l.length) : TrInv l c now e work (-1) 0 :=
 ⟨hi.sound, hi.wait, fun i a1 a2 _ a4 => hi.edge i a1 a2 (.inr (by omega)) a4, hi.home⟩
theorem TrInv.done {l : List Cert} {c now : Int} {e : Four} {k : Nat} (hc : catOk c = true) (hg : goodCerts l = true) (hi : TrInv l c now e [] (-1) k) (n : Nat) : e.get n = trustB l c now n := by
 have hgl := ((goodCerts_iff l).1 hg).1
 have key : ∀ h : Int, Reach l c now h → e.get h.toNat = true := by
  intro h hr
  induction hr with
  | home => exact hi.home.resolve_right (by simp)
  | step x hx h1 h2 _ ih =>
   obtain ⟨i, hlt, rfl⟩ := List.mem_iff_getElem.1 hx
   exact (hi.edge i hlt ⟨h1, h2⟩ (.inl (by have := (goodCert_range (hgl _ hx)).1; omega)) ih).resolve_right (by simp)
 cases hb : trustB l c now n
 ·cases he : e.get n
  ·rfl
  ·exact absurd (trustB_iff.2 ⟨hc, hg, hi.sound n he⟩) (by rw [hb]; simp)
 ·have := key n (trustB_iff.1 hb).2.2
  simpa using this
noncomputable def trustF (l : List Cert) (c now : Int) : Four := ⟨trustB l c now 0, trustB l c now 1, trustB l c now 2, trustB l c now 3⟩
theorem trustF_get (l : List Cert) (c now : Int) {k : Nat} (h : k < 4) : (trustF l c now).get k = trustB l c now k := by
 match k, h with
 | 0, _ => rfl
 | 1, _ => rfl
 | 2, _ => rfl
 | 3, _ => rfl
theorem addC_ok {l : List Cert} {c : Cert} (h : (addC l c).2 = 0) : goodCerts l = true ∧ goodCerts (addC l c).1 = true ∧ (∀ x ∈ l, x ∈ (addC l c).1) ∧ (∀ x ∈ (addC l c).1, x ∈ l ∨ x = c) ∧ c ∈ (addC l c).1 ∧ goodCertB c = true := by
 unfold addC at h ⊢
 by_cases h1 : (goodCerts l && goodCertB c) = false
 ·rw [if_pos h1] at h; cases h
 ·rw [if_neg h1] at h ⊢
  simp only [Bool.not_eq_false, Bool.and_eq_true] at h1
  by_cases h2 : inL l c = true
  ·rw [if_pos h2] at h ⊢
   exact ⟨h1.1, h1.1, fun _ hx => hx, fun _ hx => .inl hx, (inL_iff l c).1 h2, h1.2⟩
  ·rw [if_neg h2] at h ⊢
   by_cases h3 : 24 ≤ l.length
   ·rw [if_pos h3] at h; cases h
   ·rw [if_neg h3] at h ⊢
    have hg := (goodCerts_iff l).1 h1.1
    have hn : c ∉ l := fun hc => h2 ((inL_iff l c).2 hc)
    refine ⟨h1.1, (goodCerts_iff _).2 ⟨?_, ?_, by simp; omega⟩, fun x hx => by simp [hx], fun x hx => by simpa using hx, by simp, h1.2⟩
    ·intro x hx
     rcases List.mem_append.1 hx with hx | hx
     ·exact hg.1 x hx
     ·simp at hx; subst hx; exact h1.2
    ·refine List.nodup_append.2 ⟨hg.2.1, by simp, ?_⟩
     intro a ha b hb
     simp at hb
     subst hb
     exact fun he => hn (he ▸ ha)
end Go.Proofs.Ytflfjpopfapogaa
