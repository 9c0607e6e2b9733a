/- Walks and plain laws, part 10. -/
import Derived.Test.YtnjjdpiofbajlaaGreatP4
import Derived.Test.YtnjjdpiofbajlaaGreatP7
import Derived.Lib.AppendStr
import Derived.Laws.IdiomStrings
import Derived.LoopN
set_option linter.unusedSimpArgs false
set_option linter.unusedVariables false
set_option maxHeartbeats 16000000
set_option maxRecDepth 100000
namespace Go.Proofs.YtnjjdpiofbajlaaGreat
open Go.RowKit
def RU8 (cs : List Value) (x : UInt8) : Prop := cs = [.int .u8 x.toNat]
theorem info_byte : (Tryz.prog.info? 5).map (fun i => (i.zero, i.size, i.bytes)) = some (some (.int .u8 0), 1, 1) := by kernel_rfl
def byteAt (v : Int) (k : Nat) : UInt8 := UInt8.ofNat (v.toNat / 256 ^ k % 256)
def be (v : Int) : Nat → List UInt8
 | 0 => []
 | n + 1 => byteAt v n :: be v n
theorem be_length (v : Int) (n : Nat) : (be v n).length = n := by
 induction n with
 | zero => rfl
 | succ n ih => simp [be, ih]
theorem byteAt_int {v : Int} (hv : 0 ≤ v) (k : Nat) : ((byteAt v k).toNat : Int) = v / ((256 ^ k : Nat) : Int) % 256 := by
 obtain ⟨n, rfl⟩ := Int.eq_ofNat_of_zero_le hv
 unfold byteAt
 rw [Int.toNat_natCast]
 generalize 256 ^ k = p
 have h : (UInt8.ofNat (n / p % 256)).toNat = n / p % 256 := by
  rw [UInt8.toNat_ofNat']
  exact Nat.mod_eq_of_lt (Nat.mod_lt _ (by decide))
 rw [h, Int.natCast_emod, Int.natCast_ediv]
 rfl
theorem RU8.byte {v : Int} (hv : 0 ≤ v) (k p : Nat) (hp : 256 ^ k = p) {x : Int} (hx : x = v / (p : Int) % 256) : RU8 [.int .u8 x] (byteAt v k) := by
 unfold RU8
 rw [byteAt_int hv, hp, hx]
theorem grown_step {w w1 w2 : World} {r r1 : Option Nat} (h : w.grownBy w1 r) (hl : ∀ j, r1 = some j → w.heap.size ≤ j ∨ r = some j) (o : Obj) (h2 : (w1.alloc o).grownBy w2 r1) : w.grownBy w2 r :=
 (h.trans (World.grownBy_alloc _ _ _)).andThen h2 hl
theorem atOrNew_step {w w1 : World} {r : Option Nat} {a : Option Addr} {g : Nat} {o : Obj} (hs : w.heap.size ≤ w1.heap.size) (hl : ∀ j, a.map (·.block) = some j → w.heap.size ≤ j ∨ r = some j) (h : AtOrNew a g (w1.alloc o)) : ∀ j, (some (⟨g, 0, none⟩ : Addr)).map (·.block) = some j → w.heap.size ≤ j ∨ r = some j := by
 intro j hj
 simp at hj
 subst hj
 rcases h with h | h
 ·exact hl _ h
 ·left; rw [h]; simp; omega
theorem wire_put (base : Nat) (w : World) (a : Option Addr) (c : Nat) (xs : List UInt8) (v : Int) (hv : 0 ≤ v) (hv' : v ≤ 1099511627776) (hx : xs.length + 6 ≤ 140737488355328) (hb : base ≤ w.heap.size) (hO : Own base 5 w 1 RU8 a c xs) :
  Calls Tryz.prog 97 #[.slice a xs.length c, .int .i64 v, .int .i64 6] w fun e w' => ∃ g c', e = .returned (.slice (some ⟨g, 0, none⟩) (xs.length + 6) c') ∧ Own base 5 w' 1 RU8 (some ⟨g, 0, none⟩) c' (xs ++ be v 6) ∧ w.grownBy w' (a.map (·.block)) ∧ (w.heap.size ≤ g ∨ a.map (·.block) = some g) := by
 obtain ⟨i0, hi, hz0, hz1, hz2⟩ := info_parts info_byte
 have G := World.grownBy.refl w (a.map (·.block))
 have hL : ∀ j, a.map (·.block) = some j → w.heap.size ≤ j ∨ a.map (·.block) = some j := fun _ h => .inr h
 have hs0 : w.heap.size ≤ w.heap.size := Nat.le_refl _
 have HX := qh (show xs.length = xs.length from rfl)
 go_enter Tryz.func97, Tryz.ntmps97
 go_wp2_with fail
 refine wp_loop_rounds 7 ?_
 rw [rounds_succ]
 go_wp2_with (first | (at_builtin; go_must (refine wpList_app1 (wanted_none rfl) _ _ 89 rfl 5 i0 _ 1 1 Tryz.underlying89 hi hz0 hz1 hz2 rfl (by decide) rfl ?n0 (hO.below ((Below.refl _ _).alloc (Nat.le_refl _) _)) rfl (SlR.one (ok := fun _ => True) _ _ (byteAt v 5) rfl ?k0 rfl (by simp [Value.oneCell']) trivial) ?l0 ?m0 ?b0 ?_)))
 case n0 => rfl
 case k0 => exact RU8.byte hv 5 1099511627776 (by decide) (by simp <;> omega)
 case l0 => simp; omega
 case m0 => simp [maxLen]; omega
 case b0 => simp; omega
 intro g0 c0 w0 hO0 hg0 hat0 _
 have hL0 := atOrNew_step hs0 hL hat0
 have G0 := grown_step G hL _ hg0
 have hs0' := G0.size
 clear hg0 hat0 hO G hL
 go_wp2_with fail
 rw [rounds_succ]
 go_wp2_with (first | (at_builtin; go_must (refine wpList_app1 (wanted_none rfl) _ _ 89 rfl 5 i0 _ 1 1 Tryz.underlying89 hi hz0 hz1 hz2 rfl (by decide) rfl ?n1 (hO0.below ((Below.refl _ _).alloc (Nat.le_refl _) _)) rfl (SlR.one (ok := fun _ => True) _ _ (byteAt v 4) rfl ?k1 rfl (by simp [Value.oneCell']) trivial) ?l1 ?m1 ?b1 ?_)))
 case n1 => simp
 case k1 => exact RU8.byte hv 4 4294967296 (by decide) (by simp <;> omega)
 case l1 => simp; omega
 case m1 => simp [maxLen]; omega
 case b1 => simp; omega
 intro g1 c1 w1 hO1 hg1 hat1 _
 have hL1 := atOrNew_step hs0' hL0 hat1
 have G1 := grown_step G0 hL0 _ hg1
 have hs1' := G1.size
 clear hg1 hat1 hO0 G0 hL0
 go_wp2_with fail
 rw [rounds_succ]
 go_wp2_with (first | (at_builtin; go_must (refine wpList_app1 (wanted_none rfl) _ _ 89 rfl 5 i0 _ 1 1 Tryz.underlying89 hi hz0 hz1 hz2 rfl (by decide) rfl ?n2 (hO1.below ((Below.refl _ _).alloc (Nat.le_refl _) _)) rfl (SlR.one (ok := fun _ => True) _ _ (byteAt v 3) rfl ?k2 rfl (by simp [Value.oneCell']) trivial) ?l2 ?m2 ?b2 ?_)))
 case n2 => simp
 case k2 => exact RU8.byte hv 3 16777216 (by decide) (by simp <;> omega)
 case l2 => simp; omega
 case m2 => simp [maxLen]; omega
 case b2 => simp; omega
 intro g2 c2 w2 hO2 hg2 hat2 _
 have hL2 := atOrNew_step hs1' hL1 hat2
 have G2 := grown_step G1 hL1 _ hg2
 have hs2' := G2.size
 clear hg2 hat2 hO1 G1 hL1
 go_wp2_with fail
 rw [rounds_succ]
 go_wp2_with (first | (at_builtin; go_must (refine wpList_app1 (wanted_none rfl) _ _ 89 rfl 5 i0 _ 1 1 Tryz.underlying89 hi hz0 hz1 hz2 rfl (by decide) rfl ?n3 (hO2.below ((Below.refl _ _).alloc (Nat.le_refl _) _)) rfl (SlR.one (ok := fun _ => True) _ _ (byteAt v 2) rfl ?k3 rfl (by simp [Value.oneCell']) trivial) ?l3 ?m3 ?b3 ?_)))
 case n3 => simp
 case k3 => exact RU8.byte hv 2 65536 (by decide) (by simp <;> omega)
 case l3 => simp; omega
 case m3 => simp [maxLen]; omega
 case b3 => simp; omega
 intro g3 c3 w3 hO3 hg3 hat3 _
 have hL3 := atOrNew_step hs2' hL2 hat3
 have G3 := grown_step G2 hL2 _ hg3
 have hs3' := G3.size
 clear hg3 hat3 hO2 G2 hL2
 go_wp2_with fail
 rw [rounds_succ]
 go_wp2_with (first | (at_builtin; go_must (refine wpList_app1 (wanted_none rfl) _ _ 89 rfl 5 i0 _ 1 1 Tryz.underlying89 hi hz0 hz1 hz2 rfl (by decide) rfl ?n4 (hO3.below ((Below.refl _ _).alloc (Nat.le_refl _) _)) rfl (SlR.one (ok := fun _ => True) _ _ (byteAt v 1) rfl ?k4 rfl (by simp [Value.oneCell']) trivial) ?l4 ?m4 ?b4 ?_)))
 case n4 => simp
 case k4 => exact RU8.byte hv 1 256 (by decide) (by simp <;> omega)
 case l4 => simp; omega
 case m4 => simp [maxLen]; omega
 case b4 => simp; omega
 intro g4 c4 w4 hO4 hg4 hat4 _
 have hL4 := atOrNew_step hs3' hL3 hat4
 have G4 := grown_step G3 hL3 _ hg4
 have hs4' := G4.size
 clear hg4 hat4 hO3 G3 hL3
 go_wp2_with fail
 rw [rounds_succ]
 go_wp2_with (first | (at_builtin; go_must (refine wpList_app1 (wanted_none rfl) _ _ 89 rfl 5 i0 _ 1 1 Tryz.underlying89 hi hz0 hz1 hz2 rfl (by decide) rfl ?n5 (hO4.below ((Below.refl _ _).alloc (Nat.le_refl _) _)) rfl (SlR.one (ok := fun _ => True) _ _ (byteAt v 0) rfl ?k5 rfl (by simp [Value.oneCell']) trivial) ?l5 ?m5 ?b5 ?_)))
 case n5 => simp
 case k5 => exact RU8.byte hv 0 1 (by decide) (by simp <;> omega)
 case l5 => simp; omega
 case m5 => simp [maxLen]; omega
 case b5 => simp; omega
 intro g5 c5 w5 hO5 hg5 hat5 _
 have hL5 := atOrNew_step hs4' hL4 hat5
 have G5 := grown_step G4 hL4 _ hg5
 have hs5' := G5.size
 clear hg5 hat5 hO4 G4 hL4
 have HO := qh hO5
 have HG := qh G5
 have HL := qh (hL5 g5 rfl)
 clear hO5 G5 hL5
 go_wp2_with fail
 rw [rounds_succ]
 go_wp2_with fail
 go_ret
 refine ⟨g5, c5, rfl, ?_, HG.out, HL.out⟩
 have e : be v 6 = [byteAt v 5, byteAt v 4, byteAt v 3, byteAt v 2, byteAt v 1, byteAt v 0] := rfl
 rw [e]
 exact HO.out
abbrev b1 (x : Int) : UInt8 := byteAt x 0
def levBytes (x : Lev) : List UInt8 := [b1 x.c, b1 x.l]
def certBytes (c : Cert) : List UInt8 := [b1 c.c, b1 c.by_, b1 c.host] ++ be c.till 6
def headBytes (f : Frame) : List UInt8 := [b1 f.src, b1 f.dst] ++ be f.seq 6
def mailBytes (f : Frame) : List UInt8 := [b1 f.thread, b1 f.mail.thread, b1 f.mail.label.length] ++ f.mail.label.flatMap levBytes ++ [b1 f.mail.grants.length] ++ f.mail.grants.map b1 ++ [b1 f.mail.text.size] ++ f.mail.text.data.toList ++ [b1 f.certs.length] ++ f.certs.flatMap certBytes
def encL (f : Frame) : List UInt8 := if f.ack = true then 1 :: headBytes f else 0 :: (headBytes f ++ mailBytes f)
def encR (f : Frame) : ByteArray × Int := if goodFrameC f = 0 then (⟨(encL f).toArray⟩, 0) else (⟨#[]⟩, goodFrameC f)
theorem good_facts {f : Frame} (h : goodFrameC f = 0) : (0 ≤ f.src ∧ f.src < 4) ∧ (0 ≤ f.dst ∧ f.dst < 4) ∧ f.src ≠ f.dst ∧ (1 ≤ f.seq ∧ f.seq ≤ 1099511627776) ∧ (0 ≤ f.thread ∧ f.thread < 4) ∧
  (f.ack = true → ackPlain f = true) ∧ (f.ack = false → goodMailC f.mail = 0 ∧ f.mail.host = f.src ∧ f.certs.length ≤ 24 ∧ ∀ c ∈ f.certs, goodCertB c = true) := by
 unfold goodFrameC at h
 by_cases hr : frameRange f = true
 ·rw [if_pos hr] at h
  have hr' := hr
  unfold frameRange at hr'
  simp only [Bool.and_eq_true, four_iff, bne_iff_ne, decide_eq_true_eq] at hr'
  obtain ⟨⟨⟨⟨⟨h1, h2⟩, h3⟩, h4⟩, h5⟩, h6⟩ := hr'
  refine ⟨h1, h2, h3, ⟨h4, h5⟩, h6, fun hk => ?_, fun hk => ?_⟩
  ·rw [if_pos hk] at h
   unfold ackC at h
   by_cases ha : ackPlain f = true
   ·exact ha
   ·rw [if_neg ha] at h; omega
  ·rw [if_neg (by rw [hk]; simp)] at h
   by_cases hm : goodMailC f.mail = 0
   ·rw [if_neg (by simpa using hm)] at h
    by_cases hh : f.mail.host = f.src
    ·rw [if_neg (by simpa using hh)] at h
     by_cases h24 : 24 < f.certs.length
     ·rw [if_pos h24] at h; omega
     ·rw [if_neg h24] at h
      unfold certsC at h
      by_cases hc : f.certs.all goodCertB = true
      ·exact ⟨hm, hh, by omega, List.all_eq_true.1 hc⟩
      ·rw [if_neg hc] at h; omega
    ·rw [if_pos hh] at h; omega
   ·rw [if_pos hm] at h; exact absurd h hm
 ·rw [if_neg hr] at h; omega
theorem mail_facts {m : Mail} (h : goodMailC m = 0) : (0 ≤ m.host ∧ m.host < 4) ∧ (0 ≤ m.thread ∧ m.thread < 4) ∧ goodL m.label = true ∧ risingB m.grants 8 = true ∧ m.text.size ≤ 64 := by
 unfold goodMailC at h
 by_cases hr : (four m.host && four m.thread && goodL m.label && risingB m.grants 8) = true
 ·rw [if_pos hr] at h
  simp only [Bool.and_eq_true, four_iff] at hr
  obtain ⟨⟨⟨h1, h2⟩, h3⟩, h4⟩ := hr
  refine ⟨h1, h2, h3, h4, ?_⟩
  by_cases ht : 64 < m.text.size
  ·rw [if_pos ht] at h; omega
  ·omega
 ·rw [if_neg hr] at h; omega
theorem risesI_mem {l : List Int} {p : Int} (h : risesI p l = true) : ∀ x ∈ l, 0 ≤ x ∧ x < 80 := by
 induction l generalizing p with
 | nil => simp
 | cons y l ih =>
  unfold risesI at h
  split at h
  ·rename_i hh
   intro x hx
   rcases List.mem_cons.1 hx with rfl | hx
   ·exact (catOk_iff _).1 hh.2
   ·exact ih h x hx
  ·simp at h
theorem grants_facts {l : List Int} (h : risingB l 8 = true) : l.length ≤ 8 ∧ ∀ x ∈ l, 0 ≤ x ∧ x < 80 := by
 unfold risingB at h
 simp only [Bool.and_eq_true, decide_eq_true_eq] at h
 exact ⟨by omega, risesI_mem h.1⟩
theorem cert_facts {c : Cert} (h : goodCertB c = true) : (0 ≤ c.c ∧ c.c < 80) ∧ (0 ≤ c.by_ ∧ c.by_ < 4) ∧ (0 ≤ c.host ∧ c.host < 4) ∧ c.by_ ≠ c.host ∧ (0 ≤ c.till ∧ c.till ≤ 1099511627776) := by
 unfold goodCertB at h
 simp only [Bool.and_eq_true, four_iff, catOk_iff, bne_iff_ne, decide_eq_true_eq] at h
 obtain ⟨⟨⟨⟨⟨h1, h2⟩, h3⟩, h4⟩, h5⟩, h6⟩ := h
 exact ⟨h1, h2, h3, h4, h5, h6⟩
abbrev Tk := Bool × List UInt8
def tkText (n : Nat) (t : Tk) : List UInt8 × Tk := if t.2.length < n then ([], (true, [])) else (t.2.take n, (t.1, t.2.drop n))
def numOf (l : List UInt8) : Int := l.foldl (fun (v : Int) (c : UInt8) => v * 256 + c.toNat) 0
def tkNum (n : Nat) (t : Tk) : Int × Tk := (numOf (tkText n t).1, (tkText n t).2)
def tkMany {α : Type} (g : Tk → α × Tk) : Nat → Tk → List α × Tk
 | 0, t => ([], t)
 | n + 1, t => if t.1 = true then ([], t) else ((g t).1 :: (tkMany g n (g t).2).1, (tkMany g n (g t).2).2)
def tkLev (t : Tk) : Lev × Tk := (⟨(tkNum 1 t).1, (tkNum 1 (tkNum 1 t).2).1⟩, (tkNum 1 (tkNum 1 t).2).2)
def tkCert (t : Tk) : Cert × Tk :=
 let a := tkNum 1 t
 let b := tkNum 1 a.2
 let c := tkNum 1 b.2
 let d := tkNum 6 c.2
 (⟨a.1, b.1, c.1, d.1⟩, d.2)
theorem numOf_nonneg (l : List UInt8) : 0 ≤ numOf l := by
 unfold numOf
 have : ∀ (l : List UInt8) (v : Int), 0 ≤ v → 0 ≤ l.foldl (fun (v : Int) (c : UInt8) => v * 256 + c.toNat) v := by
  intro l
  induction l with
  | nil => exact fun v h => h
  | cons c l ih => exact fun v h => ih _ (Int.add_nonneg (Int.mul_nonneg h (by decide)) (Int.natCast_nonneg _))
 exact this l 0 (by omega)
/-! ### Readers that may fail -/
abbrev Rd (α : Type) := List UInt8 → Option (α × List UInt8)
def pNum (n : Nat) : Rd Int := fun s => if s.length < n then none else some (numOf (s.take n), s.drop n)
def pText (n : Nat) : Rd (List UInt8) := fun s => if s.length < n then none else some (s.take n, s.drop n)
def pMany {α : Type} (p : Rd α) : Nat → Rd (List α)
 | 0, s => some ([], s)
 | n + 1, s => (p s).bind fun a => (pMany p n a.2).bind fun l => some (a.1 :: l.1, l.2)
def pLev : Rd Lev := fun s => (pNum 1 s).bind fun a => (pNum 1 a.2).bind fun b => some (⟨a.1, b.1⟩, b.2)
def pCert : Rd Cert := fun s => (pNum 1 s).bind fun a => (pNum 1 a.2).bind fun b => (pNum 1 b.2).bind fun c => (pNum 6 c.2).bind fun d => some (⟨a.1, b.1, c.1, d.1⟩, d.2)
structure Sim {α : Type} (g : Tk → α × Tk) (p : Rd α) : Prop where
 yes : ∀ s x r, p s = some (x, r) → g (false, s) = (x, (false, r))
 no : ∀ s, p s = none → (g (false, s)).2.1 = true
 bad : ∀ t : Tk, t.1 = true → (g t).2.1 = true
theorem Sim.cases {α : Type} {g : Tk → α × Tk} {p : Rd α} (h : Sim g p) (s : List UInt8) : (∃ x r, p s = some (x, r) ∧ g (false, s) = (x, (false, r))) ∨ (p s = none ∧ (g (false, s)).2.1 = true) := by
 cases hp : p s with
 | none => exact .inr ⟨rfl, h.no s hp⟩
 | some a => exact .inl ⟨a.1, a.2, rfl, h.yes s a.1 a.2 hp⟩
theorem sim_text (n : Nat) : Sim (tkText n) (pText n) := by
 refine ⟨fun s x r h => ?_, fun s h => ?_, fun t h => ?_⟩
 ·unfold pText at h
  split at h
  ·cases h
  ·rename_i hl
   simp only [Option.some.injEq, Prod.mk.injEq] at h
   unfold tkText
   rw [if_neg hl, h.1, h.2]
 ·unfold pText at h
  split at h
  ·rename_i hl
   unfold tkText
   rw [if_pos hl]
  ·cases h
 ·unfold tkText
  split
  ·rfl
  ·exact h
theorem pNum_text (n : Nat) (s : List UInt8) : pNum n s = (pText n s).map fun a => (numOf a.1, a.2) := by
 unfold pNum pText
 split <;> rfl
theorem sim_num (n : Nat) : Sim (tkNum n) (pNum n) := by
 refine ⟨fun s x r h => ?_, fun s h => ?_, fun t h => (sim_text n).bad t h⟩
 ·rw [pNum_text] at h
  cases hp : pText n s with
  | none => rw [hp] at h; cases h
  | some a =>
   rw [hp] at h
   simp only [Option.map_some, Option.some.injEq, Prod.mk.injEq] at h
   unfold tkNum
   rw [(sim_text n).yes s a.1 a.2 hp, ← h.1, ← h.2]
 ·rw [pNum_text] at h
  cases hp : pText n s with
  | none => exact (sim_text n).no s hp
  | some a => rw [hp] at h; cases h
theorem tkMany_bad {α : Type} {g : Tk → α × Tk} : ∀ (n : Nat) (t : Tk), t.1 = true → (tkMany g n t).2.1 = true
 | 0, t, h => h
 | n + 1, t, h => by unfold tkMany; rw [if_pos h]; exact h
theorem sim_many {α : Type} {g : Tk → α × Tk} {p : Rd α} (h : Sim g p) : ∀ n, Sim (tkMany g n) (pMany p n)
 | 0 => ⟨fun s x r hh => by simp only [pMany, Option.some.injEq, Prod.mk.injEq] at hh; rw [← hh.1, ← hh.2]; rfl, fun s hh => by simp [pMany] at hh, fun t ht => ht⟩
 | n + 1 => by
  have ih := sim_many h n
  refine ⟨fun s x r hh => ?_, fun s hh => ?_, fun t ht => tkMany_bad _ _ ht⟩
  ·unfold pMany at hh
   rcases h.cases s with ⟨a, q, h1, h2⟩ | ⟨h1, -⟩
   ·rw [h1] at hh
    simp only [Option.bind_some] at hh
    rcases ih.cases q with ⟨l, q2, h3, h4⟩ | ⟨h3, -⟩
    ·rw [h3] at hh
     simp only [Option.bind_some, Option.some.injEq, Prod.mk.injEq] at hh
     unfold tkMany
     rw [if_neg (by simp), h2]
     simp only
     rw [h4, ← hh.1, ← hh.2]
    ·rw [h3] at hh; simp at hh
   ·rw [h1] at hh; simp at hh
  ·unfold pMany at hh
   unfold tkMany
   rw [if_neg (by simp)]
   simp only
   rcases h.cases s with ⟨a, q, h1, h2⟩ | ⟨h1, h2⟩
   ·rw [h1] at hh
    simp only [Option.bind_some] at hh
    rw [h2]
    rcases ih.cases q with ⟨l, q2, h3, h4⟩ | ⟨h3, h4⟩
    ·rw [h3] at hh; simp at hh
    ·exact h4
   ·exact tkMany_bad _ _ h2
theorem sim_lev : Sim tkLev pLev := by
 refine ⟨fun s x r hh => ?_, fun s hh => ?_, fun t ht => (sim_num 1).bad _ ((sim_num 1).bad _ ht)⟩
 ·unfold pLev at hh
  rcases (sim_num 1).cases s with ⟨a, q, h1, h2⟩ | ⟨h1, -⟩
  ·rw [h1] at hh
   simp only [Option.bind_some] at hh
   rcases (sim_num 1).cases q with ⟨b, q2, h3, h4⟩ | ⟨h3, -⟩
   ·rw [h3] at hh
    simp only [Option.bind_some, Option.some.injEq, Prod.mk.injEq] at hh
    unfold tkLev
    rw [h2]; simp only; rw [h4, ← hh.1, ← hh.2]
   ·rw [h3] at hh; simp at hh
  ·rw [h1] at hh; simp at hh
 ·unfold pLev at hh
  rcases (sim_num 1).cases s with ⟨a, q, h1, h2⟩ | ⟨h1, h2⟩
  ·rw [h1] at hh
   simp only [Option.bind_some] at hh
   rcases (sim_num 1).cases q with ⟨b, q2, h3, h4⟩ | ⟨h3, h4⟩
   ·rw [h3] at hh; simp at hh
   ·unfold tkLev; simp only; rw [h2]; exact h4
  ·exact (sim_num 1).bad _ h2
theorem sim_cert : Sim tkCert pCert := by
 have N := sim_num 1
 refine ⟨fun s x r hh => ?_, fun s hh => ?_, fun t ht => (sim_num 6).bad _ (N.bad _ (N.bad _ (N.bad _ ht)))⟩
 ·unfold pCert at hh
  rcases N.cases s with ⟨a, q, h1, h2⟩ | ⟨h1, -⟩
  ·rw [h1] at hh
   simp only [Option.bind_some] at hh
   rcases N.cases q with ⟨b, q2, h3, h4⟩ | ⟨h3, -⟩
   ·rw [h3] at hh
    simp only [Option.bind_some] at hh
    rcases N.cases q2 with ⟨c, q3, h5, h6⟩ | ⟨h5, -⟩
    ·rw [h5] at hh
     simp only [Option.bind_some] at hh
     rcases (sim_num 6).cases q3 with ⟨d, q4, h7, h8⟩ | ⟨h7, -⟩
     ·rw [h7] at hh
      simp only [Option.bind_some, Option.some.injEq, Prod.mk.injEq] at hh
      unfold tkCert
      simp only [h2, h4, h6, h8, ← hh.1, ← hh.2]
     ·rw [h7] at hh; simp at hh
    ·rw [h5] at hh; simp at hh
   ·rw [h3] at hh; simp at hh
  ·rw [h1] at hh; simp at hh
 ·unfold pCert at hh
  rcases N.cases s with ⟨a, q, h1, h2⟩ | ⟨h1, h2⟩
  ·rw [h1] at hh
   simp only [Option.bind_some] at hh
   rcases N.cases q with ⟨b, q2, h3, h4⟩ | ⟨h3, h4⟩
   ·rw [h3] at hh
    simp only [Option.bind_some] at hh
    rcases N.cases q2 with ⟨c, q3, h5, h6⟩ | ⟨h5, h6⟩
    ·rw [h5] at hh
     simp only [Option.bind_some] at hh
     rcases (sim_num 6).cases q3 with ⟨d, q4, h7, h8⟩ | ⟨h7, h8⟩
     ·rw [h7] at hh; simp at hh
     ·unfold tkCert; simp only [h2, h4, h6]; exact h8
    ·unfold tkCert; simp only [h2, h4]; exact (sim_num 6).bad _ h6
   ·unfold tkCert; simp only [h2]; exact (sim_num 6).bad _ (N.bad _ h4)
  ·exact (sim_num 6).bad _ (N.bad _ (N.bad _ h2))
/-! ### The whole frame -/
def tkHead (t : Tk) : (Int × Int × Int × Int) × Tk :=
 let k := tkNum 1 t
 let a := tkNum 1 k.2
 let b := tkNum 1 a.2
 let q := tkNum 6 b.2
 ((k.1, a.1, b.1, q.1), q.2)
structure Body where
 thread : Int
 mthread : Int
 label : List Lev
 grants : List Int
 text : List UInt8
 certs : List Cert
def tkBody (t : Tk) : Body × Tk :=
 let a := tkNum 1 t
 let b := tkNum 1 a.2
 let n := tkNum 1 b.2
 let l := tkMany tkLev n.1.toNat n.2
 let m := tkNum 1 l.2
 let g := tkMany (tkNum 1) m.1.toNat m.2
 let k := tkNum 1 g.2
 let x := tkText k.1.toNat k.2
 let j := tkNum 1 x.2
 let c := tkMany tkCert j.1.toNat j.2
 (⟨a.1, b.1, l.1, g.1, x.1, c.1⟩, c.2)
def pHead : Rd (Int × Int × Int × Int) := fun s =>
 (pNum 1 s).bind fun k => (pNum 1 k.2).bind fun a => (pNum 1 a.2).bind fun b => (pNum 6 b.2).bind fun q => some ((k.1, a.1, b.1, q.1), q.2)
def pBody : Rd Body := fun s =>
 (pNum 1 s).bind fun a => (pNum 1 a.2).bind fun b => (pNum 1 b.2).bind fun n => (pMany pLev n.1.toNat n.2).bind fun l => (pNum 1 l.2).bind fun m => (pMany (pNum 1) m.1.toNat m.2).bind fun g =>
  (pNum 1 g.2).bind fun k => (pText k.1.toNat k.2).bind fun x => (pNum 1 x.2).bind fun j => (pMany pCert j.1.toNat j.2).bind fun c => some (⟨a.1, b.1, l.1, g.1, x.1, c.1⟩, c.2)
theorem Sim.step {α β : Type} {g : Tk → α × Tk} {p : Rd α} (h : Sim g p) {G : α × Tk → β × Tk} {P : α × List UInt8 → Option (β × List UInt8)}
  (h1 : ∀ a s x r, P (a, s) = some (x, r) → G (a, (false, s)) = (x, (false, r))) (h2 : ∀ a s, P (a, s) = none → (G (a, (false, s))).2.1 = true) (h3 : ∀ a (t : Tk), t.1 = true → (G (a, t)).2.1 = true) :
  Sim (fun t => G (g t)) (fun s => (p s).bind P) := by
 refine ⟨fun s x r hh => ?_, fun s hh => ?_, fun t ht => h3 _ _ (h.bad t ht)⟩
 ·rcases h.cases s with ⟨a, q, e1, e2⟩ | ⟨e1, -⟩
  ·rw [e1] at hh
   show G (g (false, s)) = _
   rw [e2]
   exact h1 a q x r hh
  ·rw [e1] at hh; cases hh
 ·rcases h.cases s with ⟨a, q, e1, e2⟩ | ⟨e1, e2⟩
  ·rw [e1] at hh
   show (G (g (false, s))).2.1 = true
   rw [e2]
   exact h2 a q hh
  ·exact h3 _ _ e2
theorem Sim.then {α β : Type} {g : Tk → α × Tk} {p : Rd α} (h : Sim g p) {G : α → Tk → β × Tk} {P : α → Rd β} (hG : ∀ a, Sim (G a) (P a)) : Sim (fun t => G (g t).1 (g t).2) (fun s => (p s).bind fun a => P a.1 a.2) :=
 h.step (G := fun a => G a.1 a.2) (P := fun a => P a.1 a.2) (fun a => (hG a).yes) (fun a => (hG a).no) (fun a => (hG a).bad)
theorem Sim.ret {α : Type} (x : α) : Sim (fun t => (x, t)) (fun s => some (x, s)) :=
 ⟨fun s y r h => by simp only [Option.some.injEq, Prod.mk.injEq] at h; rw [h.1, h.2], fun s h => (by cases h), fun t h => h⟩
theorem sim_head : Sim tkHead pHead :=
 (sim_num 1).then (G := fun k t => (((k, (tkNum 1 t).1, (tkNum 1 (tkNum 1 t).2).1, (tkNum 6 (tkNum 1 (tkNum 1 t).2).2).1) : Int × Int × Int × Int), (tkNum 6 (tkNum 1 (tkNum 1 t).2).2).2))
  (P := fun k s => (pNum 1 s).bind fun a => (pNum 1 a.2).bind fun b => (pNum 6 b.2).bind fun q => some ((k, a.1, b.1, q.1), q.2)) fun k =>
 (sim_num 1).then (G := fun a t => (((k, a, (tkNum 1 t).1, (tkNum 6 (tkNum 1 t).2).1) : Int × Int × Int × Int), (tkNum 6 (tkNum 1 t).2).2))
  (P := fun a s => (pNum 1 s).bind fun b => (pNum 6 b.2).bind fun q => some ((k, a, b.1, q.1), q.2)) fun a =>
 (sim_num 1).then (G := fun b t => (((k, a, b, (tkNum 6 t).1) : Int × Int × Int × Int), (tkNum 6 t).2)) (P := fun b s => (pNum 6 s).bind fun q => some ((k, a, b, q.1), q.2)) fun b =>
 (sim_num 6).then (G := fun q t => ((k, a, b, q), t)) (P := fun q s => some ((k, a, b, q), s)) fun q => Sim.ret _
def tkBody3 (a b : Int) (l : List Lev) (g : List Int) (x : List UInt8) (t : Tk) : Body × Tk :=
 (⟨a, b, l, g, x, (tkMany tkCert (tkNum 1 t).1.toNat (tkNum 1 t).2).1⟩, (tkMany tkCert (tkNum 1 t).1.toNat (tkNum 1 t).2).2)
def tkBody2 (a b : Int) (l : List Lev) (g : List Int) (t : Tk) : Body × Tk := tkBody3 a b l g (tkText (tkNum 1 t).1.toNat (tkNum 1 t).2).1 (tkText (tkNum 1 t).1.toNat (tkNum 1 t).2).2
def tkBody1 (a b : Int) (l : List Lev) (t : Tk) : Body × Tk := tkBody2 a b l (tkMany (tkNum 1) (tkNum 1 t).1.toNat (tkNum 1 t).2).1 (tkMany (tkNum 1) (tkNum 1 t).1.toNat (tkNum 1 t).2).2
def tkBody0 (a b : Int) (t : Tk) : Body × Tk := tkBody1 a b (tkMany tkLev (tkNum 1 t).1.toNat (tkNum 1 t).2).1 (tkMany tkLev (tkNum 1 t).1.toNat (tkNum 1 t).2).2
theorem sim_body3 (a b : Int) (l : List Lev) (g : List Int) (x : List UInt8) : Sim (tkBody3 a b l g x) (fun s => (pNum 1 s).bind fun j => (pMany pCert j.1.toNat j.2).bind fun c => some (⟨a, b, l, g, x, c.1⟩, c.2)) :=
 (sim_num 1).then (G := fun j t => ((⟨a, b, l, g, x, (tkMany tkCert j.toNat t).1⟩ : Body), (tkMany tkCert j.toNat t).2)) (P := fun j s => (pMany pCert j.toNat s).bind fun c => some (⟨a, b, l, g, x, c.1⟩, c.2)) fun j =>
 (sim_many sim_cert j.toNat).then (G := fun c t => ((⟨a, b, l, g, x, c⟩ : Body), t)) (P := fun c s => some (⟨a, b, l, g, x, c⟩, s)) fun c => Sim.ret _
theorem sim_body : Sim tkBody pBody :=
 (sim_num 1).then (G := fun a t => tkBody0 a (tkNum 1 t).1 (tkNum 1 t).2)
  (P := fun a s => (pNum 1 s).bind fun b => (pNum 1 b.2).bind fun n => (pMany pLev n.1.toNat n.2).bind fun l => (pNum 1 l.2).bind fun m => (pMany (pNum 1) m.1.toNat m.2).bind fun g =>
   (pNum 1 g.2).bind fun k => (pText k.1.toNat k.2).bind fun x => (pNum 1 x.2).bind fun j => (pMany pCert j.1.toNat j.2).bind fun c => some (⟨a, b.1, l.1, g.1, x.1, c.1⟩, c.2)) fun a =>
 (sim_num 1).then (G := fun b t => tkBody0 a b t)
  (P := fun b s => (pNum 1 s).bind fun n => (pMany pLev n.1.toNat n.2).bind fun l => (pNum 1 l.2).bind fun m => (pMany (pNum 1) m.1.toNat m.2).bind fun g =>
   (pNum 1 g.2).bind fun k => (pText k.1.toNat k.2).bind fun x => (pNum 1 x.2).bind fun j => (pMany pCert j.1.toNat j.2).bind fun c => some (⟨a, b, l.1, g.1, x.1, c.1⟩, c.2)) fun b =>
 (sim_num 1).then (G := fun n t => tkBody1 a b (tkMany tkLev n.toNat t).1 (tkMany tkLev n.toNat t).2)
  (P := fun n s => (pMany pLev n.toNat s).bind fun l => (pNum 1 l.2).bind fun m => (pMany (pNum 1) m.1.toNat m.2).bind fun g =>
   (pNum 1 g.2).bind fun k => (pText k.1.toNat k.2).bind fun x => (pNum 1 x.2).bind fun j => (pMany pCert j.1.toNat j.2).bind fun c => some (⟨a, b, l.1, g.1, x.1, c.1⟩, c.2)) fun n =>
 (sim_many sim_lev n.toNat).then (G := fun l t => tkBody1 a b l t)
  (P := fun l s => (pNum 1 s).bind fun m => (pMany (pNum 1) m.1.toNat m.2).bind fun g =>
   (pNum 1 g.2).bind fun k => (pText k.1.toNat k.2).bind fun x => (pNum 1 x.2).bind fun j => (pMany pCert j.1.toNat j.2).bind fun c => some (⟨a, b, l, g.1, x.1, c.1⟩, c.2)) fun l =>
 (sim_num 1).then (G := fun m t => tkBody2 a b l (tkMany (tkNum 1) m.toNat t).1 (tkMany (tkNum 1) m.toNat t).2)
  (P := fun m s => (pMany (pNum 1) m.toNat s).bind fun g =>
   (pNum 1 g.2).bind fun k => (pText k.1.toNat k.2).bind fun x => (pNum 1 x.2).bind fun j => (pMany pCert j.1.toNat j.2).bind fun c => some (⟨a, b, l, g.1, x.1, c.1⟩, c.2)) fun m =>
 (sim_many (sim_num 1) m.toNat).then (G := fun g t => tkBody2 a b l g t)
  (P := fun g s => (pNum 1 s).bind fun k => (pText k.1.toNat k.2).bind fun x => (pNum 1 x.2).bind fun j => (pMany pCert j.1.toNat j.2).bind fun c => some (⟨a, b, l, g, x.1, c.1⟩, c.2)) fun g =>
 (sim_num 1).then (G := fun k t => tkBody3 a b l g (tkText k.toNat t).1 (tkText k.toNat t).2)
  (P := fun k s => (pText k.toNat s).bind fun x => (pNum 1 x.2).bind fun j => (pMany pCert j.1.toNat j.2).bind fun c => some (⟨a, b, l, g, x.1, c.1⟩, c.2)) fun k =>
 (sim_text k.toNat).then (G := fun x t => tkBody3 a b l g x t)
  (P := fun x s => (pNum 1 s).bind fun j => (pMany pCert j.1.toNat j.2).bind fun c => some (⟨a, b, l, g, x, c.1⟩, c.2)) fun x => sim_body3 a b l g x
structure Code {α : Type} (p : Rd α) (e : α → List UInt8) (o : α → Prop) : Prop where
 unp : ∀ s x r, p s = some (x, r) → s = e x ++ r ∧ o x
 par : ∀ x r, o x → p (e x ++ r) = some (x, r)
theorem Code.ext {α : Type} {p : Rd α} {e : α → List UInt8} {o : α → Prop} (h : Code p e o) {s r : List UInt8} {x : α} (hs : p s = some (x, r)) (q : List UInt8) : p (s ++ q) = some (x, r ++ q) := by
 obtain ⟨h1, h2⟩ := h.unp s x r hs
 rw [h1, List.append_assoc]
 exact h.par x _ h2
theorem Code.ret {α : Type} (x : α) : Code (fun s => some (x, s)) (fun _ => []) (fun y => y = x) :=
 ⟨fun s y r h => by simp only [Option.some.injEq, Prod.mk.injEq] at h; exact ⟨by simp [h.2], h.1.symm⟩, fun y r h => by subst h; rfl⟩
theorem Code.bind {α β : Type} {p : Rd α} {e : α → List UInt8} {o : α → Prop} (h : Code p e o) {P : α → Rd β} {E : β → List UInt8} {O : α → β → Prop} (π : β → α) (H : ∀ a, o a → Code (P a) E (O a)) (hπ : ∀ a x, o a → O a x → π x = a) :
  Code (fun s => (p s).bind fun a => P a.1 a.2) (fun x => e (π x) ++ E x) (fun x => o (π x) ∧ O (π x) x) := by
 refine ⟨fun s x r hh => ?_, fun x r hh => ?_⟩
 ·cases hp : p s with
  | none => rw [hp] at hh; cases hh
  | some a =>
   rw [hp] at hh
   obtain ⟨h1, h2⟩ := h.unp s a.1 a.2 hp
   obtain ⟨h3, h4⟩ := (H a.1 h2).unp a.2 x r hh
   have h5 := hπ _ _ h2 h4
   rw [h5]
   exact ⟨by rw [h1, h3, List.append_assoc], h2, h4⟩
 ·show (p (e (π x) ++ E x ++ r)).bind _ = _
  rw [List.append_assoc, h.par _ _ hh.1]
  exact (H _ hh.1).par x r hh.2
theorem Code.as {α : Type} {p : Rd α} {e e' : α → List UInt8} {o o' : α → Prop} (h : Code p e o) (he : ∀ x, o x → e' x = e x) (ho : ∀ x, o x ↔ o' x) : Code p e' o' :=
 ⟨fun s x r hh => by obtain ⟨h1, h2⟩ := h.unp s x r hh; exact ⟨by rw [he x h2]; exact h1, (ho x).1 h2⟩, fun x r hh => by rw [he x ((ho x).2 hh)]; exact h.par x r ((ho x).2 hh)⟩
theorem numOf_snoc (l : List UInt8) (c : UInt8) : numOf (l ++ [c]) = numOf l * 256 + c.toNat := by simp [numOf]
theorem be_snoc (v : Int) (hv : 0 ≤ v) (n : Nat) : be v (n + 1) = be (v / 256) n ++ [byteAt v 0] := by
 induction n with
 | zero => simp [be]
 | succ n ih =>
  rw [be, ih]
  have : byteAt v (n + 1) = byteAt (v / 256) n := by
   unfold byteAt
   obtain ⟨k, rfl⟩ := Int.eq_ofNat_of_zero_le hv
   have e : ((k : Int) / 256).toNat = k / 256 := by omega
   rw [e, Int.toNat_natCast, Nat.pow_succ, Nat.mul_comm, Nat.div_div_eq_div_mul]
  rw [this]
  rfl
theorem byteAt_zero (c : UInt8) (v : Int) (hv : 0 ≤ v) : byteAt (v * 256 + c.toNat) 0 = c := by
 unfold byteAt
 have e : ((v * 256 + (c.toNat : Int)).toNat) / 256 ^ 0 % 256 = c.toNat := by
  have := c.toNat_lt
  simp only [Nat.pow_zero, Nat.div_one]
  omega
 rw [e]
 exact UInt8.ofNat_toNat
theorem snoc_ind {α : Type} (l : List α) : l = [] ∨ ∃ t c, l = t ++ [c] ∧ t.length + 1 = l.length := by
 rcases List.eq_nil_or_concat l with h | ⟨t, c, h⟩
 ·exact .inl h
 ·exact .inr ⟨t, c, by simpa using h, by simp [h]⟩
theorem be_numOf (l : List UInt8) : be (numOf l) l.length = l := by
 have : ∀ n (l : List UInt8), l.length = n → be (numOf l) n = l := by
  intro n
  induction n with
  | zero => intro l h; rw [List.length_eq_zero_iff.1 h]; rfl
  | succ n ih =>
   intro l h
   rcases snoc_ind l with rfl | ⟨t, c, rfl, ht⟩
   ·simp at h
   ·have htl : t.length = n := by omega
    have h0 := numOf_nonneg t
    rw [numOf_snoc, be_snoc _ (by have := c.toNat_lt; omega), byteAt_zero c _ h0]
    have e : (numOf t * 256 + (c.toNat : Int)) / 256 = numOf t := by have := c.toNat_lt; omega
    rw [e, ih t htl]
 exact this _ l rfl
theorem numOf_lt (l : List UInt8) : numOf l < 256 ^ l.length := by
 have : ∀ n (l : List UInt8), l.length = n → numOf l < 256 ^ n := by
  intro n
  induction n with
  | zero => intro l h; rw [List.length_eq_zero_iff.1 h]; decide
  | succ n ih =>
   intro l h
   rcases snoc_ind l with rfl | ⟨t, c, rfl, ht⟩
   ·simp at h
   ·have h1 := ih t (by omega)
    have := c.toNat_lt
    rw [numOf_snoc, Int.pow_succ]
    omega
 exact this _ l rfl
theorem numOf_be (n : Nat) : ∀ (v : Int), 0 ≤ v → v < 256 ^ n → numOf (be v n) = v := by
 induction n with
 | zero => intro v h0 h1; simp at h1; have : v = 0 := (by omega); subst this; rfl
 | succ n ih =>
  intro v h0 h1
  rw [be_snoc v h0, numOf_snoc, ih (v / 256) (by omega) (by rw [Int.pow_succ] at h1; omega), byteAt_int h0]
  simp
  omega
theorem code_num (n : Nat) : Code (pNum n) (fun v => be v n) (fun v => 0 ≤ v ∧ v < 256 ^ n) := by
 refine ⟨fun s x r h => ?_, fun x r h => ?_⟩
 ·unfold pNum at h
  split at h
  ·cases h
  ·rename_i hl
   simp only [Option.some.injEq, Prod.mk.injEq] at h
   obtain ⟨rfl, rfl⟩ := h
   have e : (s.take n).length = n := by simp; omega
   refine ⟨?_, numOf_nonneg _, ?_⟩
   ·have := be_numOf (s.take n)
    rw [e] at this
    rw [this, List.take_append_drop]
   ·have := numOf_lt (s.take n)
    rw [e] at this
    exact this
 ·unfold pNum
  have e := be_length x n
  rw [if_neg (by simp [e])]
  rw [List.take_left' e, List.drop_left' e, numOf_be n x h.1 h.2]
theorem code_text (n : Nat) : Code (pText n) (fun x => x) (fun x => x.length = n) := by
 refine ⟨fun s x r h => ?_, fun x r h => ?_⟩
 ·unfold pText at h
  split at h
  ·cases h
  ·rename_i hl
   simp only [Option.some.injEq, Prod.mk.injEq] at h
   obtain ⟨rfl, rfl⟩ := h
   exact ⟨by simp, by simp; omega⟩
 ·unfold pText
  rw [if_neg (by simp [h]), List.take_left' h, List.drop_left' h]
def byteOk (v : Int) : Prop := 0 ≤ v ∧ v < 256
theorem code_byte : Code (pNum 1) (fun v => [b1 v]) byteOk := (code_num 1).as (fun _ _ => rfl) fun x => by simp [byteOk]
theorem code_many {α : Type} {p : Rd α} {e : α → List UInt8} {o : α → Prop} (h : Code p e o) : ∀ n, Code (pMany p n) (fun l => l.flatMap e) (fun l => l.length = n ∧ ∀ x ∈ l, o x)
 | 0 => (Code.ret []).as (fun x hx => by subst hx; rfl) fun x => by
   constructor
   ·rintro rfl; simp
   ·intro hx; exact List.length_eq_zero_iff.1 hx.1
 | n + 1 => by
  have ih := code_many h n
  refine ⟨fun s x r hh => ?_, fun x r hh => ?_⟩
  ·unfold pMany at hh
   cases hp : p s with
   | none => rw [hp] at hh; cases hh
   | some a =>
    rw [hp] at hh
    simp only [Option.bind_some] at hh
    cases hq : pMany p n a.2 with
    | none => rw [hq] at hh; cases hh
    | some b =>
     rw [hq] at hh
     simp only [Option.bind_some, Option.some.injEq, Prod.mk.injEq] at hh
     obtain ⟨rfl, rfl⟩ := hh
     obtain ⟨h1, h2⟩ := h.unp s a.1 a.2 hp
     obtain ⟨h3, h4, h5⟩ := ih.unp a.2 b.1 b.2 hq
     refine ⟨by rw [h1, h3]; simp, by simp [h4], fun y hy => ?_⟩
     rcases List.mem_cons.1 hy with rfl | hy
     ·exact h2
     ·exact h5 y hy
  ·obtain ⟨h1, h2⟩ := hh
   cases x with
   | nil => simp at h1
   | cons y l =>
    unfold pMany
    rw [List.flatMap_cons, List.append_assoc, h.par y _ (h2 y (by simp))]
    simp only [Option.bind_some]
    rw [ih.par l r ⟨by simpa using h1, fun z hz => h2 z (by simp [hz])⟩]
    rfl
def levOk (x : Lev) : Prop := byteOk x.c ∧ byteOk x.l
theorem code_lev : Code pLev levBytes levOk :=
 (code_byte.bind (fun x : Lev => x.c) (fun a ha => code_byte.bind (P := fun b s => some ((⟨a, b⟩ : Lev), s)) (O := fun b y => y = ⟨a, b⟩) (fun x : Lev => x.l) (fun b _ => Code.ret (⟨a, b⟩ : Lev)) (by rintro b x _ rfl; rfl)) (by rintro a x _ ⟨_, h⟩; rw [h])).as
  (fun x _ => by simp [levBytes]) fun x => by
   obtain ⟨c, l⟩ := x
   simp [levOk]
def certOk (x : Cert) : Prop := byteOk x.c ∧ byteOk x.by_ ∧ byteOk x.host ∧ 0 ≤ x.till ∧ x.till < 256 ^ 6
theorem code_cert : Code pCert certBytes certOk :=
 (code_byte.bind (fun x : Cert => x.c) (fun a ha => code_byte.bind (fun x : Cert => x.by_) (fun b hb => code_byte.bind (fun x : Cert => x.host) (fun c hc =>
  (code_num 6).bind (P := fun d s => some ((⟨a, b, c, d⟩ : Cert), s)) (O := fun d y => y = ⟨a, b, c, d⟩) (fun x : Cert => x.till) (fun d _ => Code.ret (⟨a, b, c, d⟩ : Cert)) (by rintro d x _ rfl; rfl))
   (by rintro c x _ ⟨_, h⟩; rw [h])) (by rintro b x _ ⟨_, _, h⟩; rw [h])) (by rintro a x _ ⟨_, _, _, h⟩; rw [h])).as
  (fun x _ => by simp [certBytes]) fun x => by
   obtain ⟨c, b, h, t⟩ := x
   simp [certOk]
def bodyBytes (b : Body) : List UInt8 :=
 [b1 b.thread, b1 b.mthread, b1 b.label.length] ++ b.label.flatMap levBytes ++ [b1 b.grants.length] ++ b.grants.map b1 ++ [b1 b.text.length] ++ b.text ++ [b1 b.certs.length] ++ b.certs.flatMap certBytes
def BodyOk (b : Body) : Prop :=
 byteOk b.thread ∧ byteOk b.mthread ∧ (b.label.length < 256 ∧ ∀ x ∈ b.label, levOk x) ∧ (b.grants.length < 256 ∧ ∀ x ∈ b.grants, byteOk x) ∧ b.text.length < 256 ∧ (b.certs.length < 256 ∧ ∀ x ∈ b.certs, certOk x)
theorem flatMap_b1 (l : List Int) : l.flatMap (fun v => [b1 v]) = l.map b1 := by
 induction l with
 | nil => rfl
 | cons x l ih => simp [List.flatMap_cons, ih]
def O3 (a b : Int) (l : List Lev) (g : List Int) (x : List UInt8) (y : Body) : Prop := y.thread = a ∧ y.mthread = b ∧ y.label = l ∧ y.grants = g ∧ y.text = x
theorem len_toNat {n : Nat} {j : Int} (h : n = j.toNat) (hj : byteOk j) : (n : Int) = j := by have := hj.1; omega
theorem code_body3 (a b : Int) (l : List Lev) (g : List Int) (x : List UInt8) :
  Code (fun s => (pNum 1 s).bind fun j => (pMany pCert j.1.toNat j.2).bind fun c => some ((⟨a, b, l, g, x, c.1⟩ : Body), c.2)) (fun y => [b1 y.certs.length] ++ y.certs.flatMap certBytes) (fun y => O3 a b l g x y ∧ y.certs.length < 256 ∧ ∀ z ∈ y.certs, certOk z) :=
 (code_byte.bind (P := fun j s => (pMany pCert j.toNat s).bind fun c => some ((⟨a, b, l, g, x, c.1⟩ : Body), c.2)) (fun y : Body => (y.certs.length : Int)) (fun j _ =>
  (code_many code_cert j.toNat).bind (P := fun c s => some ((⟨a, b, l, g, x, c⟩ : Body), s)) (O := fun c y => y = ⟨a, b, l, g, x, c⟩) (fun y : Body => y.certs) (fun c _ => Code.ret _) (by rintro c y _ rfl; rfl))
  (by rintro j y hj ⟨⟨h, _⟩, _⟩; exact len_toNat h hj)).as (fun y _ => by simp) fun y => by
   obtain ⟨a', b', l', g', x', c'⟩ := y
   simp [O3, byteOk]
   constructor
   ·rintro ⟨h1, h2, h3, h4, h5, h6, h7⟩; exact ⟨⟨h3, h4, h5, h6, h7⟩, by omega, h2⟩
   ·rintro ⟨⟨h3, h4, h5, h6, h7⟩, h1, h2⟩; exact ⟨by omega, h2, h3, h4, h5, h6, h7⟩
def O2 (a b : Int) (l : List Lev) (g : List Int) (y : Body) : Prop := y.thread = a ∧ y.mthread = b ∧ y.label = l ∧ y.grants = g
theorem code_body2 (a b : Int) (l : List Lev) (g : List Int) :
  Code (fun s => (pNum 1 s).bind fun k => (pText k.1.toNat k.2).bind fun x => (pNum 1 x.2).bind fun j => (pMany pCert j.1.toNat j.2).bind fun c => some ((⟨a, b, l, g, x.1, c.1⟩ : Body), c.2))
   (fun y => [b1 y.text.length] ++ (y.text ++ ([b1 y.certs.length] ++ y.certs.flatMap certBytes))) (fun y => O2 a b l g y ∧ y.text.length < 256 ∧ y.certs.length < 256 ∧ ∀ z ∈ y.certs, certOk z) :=
 (code_byte.bind (P := fun k s => (pText k.toNat s).bind fun x => (pNum 1 x.2).bind fun j => (pMany pCert j.1.toNat j.2).bind fun c => some ((⟨a, b, l, g, x.1, c.1⟩ : Body), c.2)) (fun y : Body => (y.text.length : Int)) (fun k _ =>
  (code_text k.toNat).bind (P := fun x s => (pNum 1 s).bind fun j => (pMany pCert j.1.toNat j.2).bind fun c => some ((⟨a, b, l, g, x, c.1⟩ : Body), c.2)) (fun y : Body => y.text) (fun x _ => code_body3 a b l g x) (by rintro x y _ ⟨h, _⟩; exact h.2.2.2.2))
  (by rintro j y hj ⟨h, _⟩; exact len_toNat h hj)).as (fun y _ => rfl) fun y => by
   obtain ⟨a', b', l', g', x', c'⟩ := y
   simp [O3, O2, byteOk]
   constructor
   ·rintro ⟨h1, h2⟩; exact ⟨h2.1, by omega, h2.2⟩
   ·rintro ⟨h1, h2, h3⟩; exact ⟨by omega, h1, h3⟩
def O1 (a b : Int) (l : List Lev) (y : Body) : Prop := y.thread = a ∧ y.mthread = b ∧ y.label = l
theorem code_body1 (a b : Int) (l : List Lev) :
  Code (fun s => (pNum 1 s).bind fun m => (pMany (pNum 1) m.1.toNat m.2).bind fun g => (pNum 1 g.2).bind fun k => (pText k.1.toNat k.2).bind fun x => (pNum 1 x.2).bind fun j => (pMany pCert j.1.toNat j.2).bind fun c => some ((⟨a, b, l, g.1, x.1, c.1⟩ : Body), c.2))
   (fun y => [b1 y.grants.length] ++ (y.grants.map b1 ++ ([b1 y.text.length] ++ (y.text ++ ([b1 y.certs.length] ++ y.certs.flatMap certBytes))))) (fun y => O1 a b l y ∧ (y.grants.length < 256 ∧ ∀ x ∈ y.grants, byteOk x) ∧ y.text.length < 256 ∧ y.certs.length < 256 ∧ ∀ z ∈ y.certs, certOk z) :=
 (code_byte.bind (P := fun m s => (pMany (pNum 1) m.toNat s).bind fun g => (pNum 1 g.2).bind fun k => (pText k.1.toNat k.2).bind fun x => (pNum 1 x.2).bind fun j => (pMany pCert j.1.toNat j.2).bind fun c => some ((⟨a, b, l, g.1, x.1, c.1⟩ : Body), c.2)) (fun y : Body => (y.grants.length : Int)) (fun m _ =>
  (code_many code_byte m.toNat).bind (P := fun g s => (pNum 1 s).bind fun k => (pText k.1.toNat k.2).bind fun x => (pNum 1 x.2).bind fun j => (pMany pCert j.1.toNat j.2).bind fun c => some ((⟨a, b, l, g, x.1, c.1⟩ : Body), c.2)) (fun y : Body => y.grants) (fun g _ => code_body2 a b l g) (by rintro x y _ ⟨h, _⟩; exact h.2.2.2))
  (by rintro j y hj ⟨⟨h, _⟩, _⟩; exact len_toNat h hj)).as (fun y _ => by rw [flatMap_b1]) fun y => by
   obtain ⟨a', b', l', g', x', c'⟩ := y
   simp [O1, O2, byteOk]
   constructor
   ·rintro ⟨h1, h2, h3⟩; exact ⟨h3.1, ⟨by omega, h2⟩, h3.2⟩
   ·rintro ⟨h1, h2, h3⟩; exact ⟨by omega, h2.2, h1, h3⟩
theorem code_body : Code pBody bodyBytes BodyOk :=
 (code_byte.bind (P := fun a s => (pNum 1 s).bind fun b => (pNum 1 b.2).bind fun n => (pMany pLev n.1.toNat n.2).bind fun l => (pNum 1 l.2).bind fun m => (pMany (pNum 1) m.1.toNat m.2).bind fun g => (pNum 1 g.2).bind fun k => (pText k.1.toNat k.2).bind fun x => (pNum 1 x.2).bind fun j => (pMany pCert j.1.toNat j.2).bind fun c => some ((⟨a, b.1, l.1, g.1, x.1, c.1⟩ : Body), c.2)) (fun y : Body => y.thread) (fun a _ =>
  code_byte.bind (P := fun b s => (pNum 1 s).bind fun n => (pMany pLev n.1.toNat n.2).bind fun l => (pNum 1 l.2).bind fun m => (pMany (pNum 1) m.1.toNat m.2).bind fun g => (pNum 1 g.2).bind fun k => (pText k.1.toNat k.2).bind fun x => (pNum 1 x.2).bind fun j => (pMany pCert j.1.toNat j.2).bind fun c => some ((⟨a, b, l.1, g.1, x.1, c.1⟩ : Body), c.2)) (fun y : Body => y.mthread) (fun b _ =>
  code_byte.bind (P := fun n s => (pMany pLev n.toNat s).bind fun l => (pNum 1 l.2).bind fun m => (pMany (pNum 1) m.1.toNat m.2).bind fun g => (pNum 1 g.2).bind fun k => (pText k.1.toNat k.2).bind fun x => (pNum 1 x.2).bind fun j => (pMany pCert j.1.toNat j.2).bind fun c => some ((⟨a, b, l.1, g.1, x.1, c.1⟩ : Body), c.2)) (fun y : Body => (y.label.length : Int)) (fun n _ =>
  (code_many code_lev n.toNat).bind (P := fun l s => (pNum 1 s).bind fun m => (pMany (pNum 1) m.1.toNat m.2).bind fun g => (pNum 1 g.2).bind fun k => (pText k.1.toNat k.2).bind fun x => (pNum 1 x.2).bind fun j => (pMany pCert j.1.toNat j.2).bind fun c => some ((⟨a, b, l, g.1, x.1, c.1⟩ : Body), c.2)) (fun y : Body => y.label) (fun l _ => code_body1 a b l) (by rintro x y _ ⟨h, _⟩; exact h.2.2))
   (by rintro j y hj ⟨⟨h, _⟩, _⟩; exact len_toNat h hj)) (by rintro b y _ ⟨_, _, h, _⟩; exact h.2.1)) (by rintro a y _ ⟨_, _, _, h, _⟩; exact h.1)).as
  (fun y _ => by simp [bodyBytes]) fun y => by
   obtain ⟨a', b', l', g', x', c'⟩ := y
   simp [O1, byteOk, BodyOk]
   intro _ _ _ _
   constructor
   ·rintro ⟨h1, h4, h5⟩; exact ⟨⟨by omega, h4⟩, h5⟩
   ·rintro ⟨h3, h4⟩; exact ⟨by omega, h3.2, h4⟩
def HeadOk (h : Int × Int × Int × Int) : Prop := byteOk h.1 ∧ byteOk h.2.1 ∧ byteOk h.2.2.1 ∧ 0 ≤ h.2.2.2 ∧ h.2.2.2 < 256 ^ 6
theorem code_head : Code pHead (fun h => [b1 h.1, b1 h.2.1, b1 h.2.2.1] ++ be h.2.2.2 6) HeadOk :=
 (code_byte.bind (fun h : Int × Int × Int × Int => h.1) (fun k _ => code_byte.bind (fun h : Int × Int × Int × Int => h.2.1) (fun a _ => code_byte.bind (fun h : Int × Int × Int × Int => h.2.2.1) (fun b _ =>
  (code_num 6).bind (P := fun q s => some ((k, a, b, q), s)) (O := fun q y => y = (k, a, b, q)) (fun h : Int × Int × Int × Int => h.2.2.2) (fun q _ => Code.ret _) (by rintro d x _ rfl; rfl))
   (by rintro c x _ ⟨_, h⟩; rw [h])) (by rintro b x _ ⟨_, _, h⟩; rw [h])) (by rintro a x _ ⟨_, _, _, h⟩; rw [h])).as
  (fun x _ => by simp) fun x => by
   obtain ⟨k, a, b, q⟩ := x
   simp [HeadOk]
abbrev zeroF : Frame := ⟨0, 0, 0, false, 0, ⟨0, 0, [], [], ⟨#[]⟩⟩, []⟩
def ackFrame (h : Int × Int × Int × Int) (k : Bool) : Frame := ⟨h.2.1, h.2.2.1, h.2.2.2, k, 0, ⟨0, 0, [], [], ⟨#[]⟩⟩, []⟩
def mailFrame (h : Int × Int × Int × Int) (k : Bool) (b : Body) : Frame := ⟨h.2.1, h.2.2.1, h.2.2.2, k, b.thread, ⟨h.2.1, b.mthread, b.label, b.grants, ⟨b.text.toArray⟩⟩, b.certs⟩
def codeT (s : List UInt8) : Tk := if (tkHead (false, s)).1.1 = 0 then (tkBody (tkHead (false, s)).2).2 else (tkHead (false, s)).2
def codeF (s : List UInt8) : Frame :=
 if (tkHead (false, s)).1.1 = 0 then mailFrame (tkHead (false, s)).1 false (tkBody (tkHead (false, s)).2).1 else ackFrame (tkHead (false, s)).1 (decide ((tkHead (false, s)).1.1 = 1))
def codeR (s : List UInt8) : Frame × Int :=
 if (codeT s).1 = true ∨ (codeT s).2 ≠ [] ∨ 1 < (tkHead (false, s)).1.1 then (zeroF, 1) else if goodFrameC (codeF s) ≠ 0 then (zeroF, goodFrameC (codeF s)) else (codeF s, 0)
def pFrame : Rd Frame := fun s => (pHead s).bind fun h => if h.1.1 = 0 then (pBody h.2).bind fun b => some (mailFrame h.1 false b.1, b.2) else if h.1.1 = 1 then some (ackFrame h.1 true, h.2) else none
def decR (s : List UInt8) : Frame × Int :=
 match pFrame s with
 | some (f, []) => if goodFrameC f = 0 then (f, 0) else (zeroF, goodFrameC f)
 | _ => (zeroF, 1)
theorem decR_some {s : List UInt8} {f : Frame} (h : pFrame s = some (f, [])) : decR s = if goodFrameC f = 0 then (f, 0) else (zeroF, goodFrameC f) := by unfold decR; rw [h]
theorem decR_more {s : List UInt8} {f : Frame} {c : UInt8} {r : List UInt8} (h : pFrame s = some (f, c :: r)) : decR s = (zeroF, 1) := by unfold decR; rw [h]
theorem decR_none {s : List UInt8} (h : pFrame s = none) : decR s = (zeroF, 1) := by unfold decR; rw [h]
theorem codeR_eq (s : List UInt8) : codeR s = decR s := by
 rcases sim_head.cases s with ⟨h, q, e1, e2⟩ | ⟨e1, e2⟩
 ·have hk := (code_head.unp s h q e1).2.1.1
  by_cases h0 : h.1 = 0
  ·rcases sim_body.cases q with ⟨b, r, e3, e4⟩ | ⟨e3, e4⟩
   ·have ep : pFrame s = some (mailFrame h false b, r) := by unfold pFrame; rw [e1]; simp only [Option.bind_some]; rw [if_pos h0, e3]; rfl
    have ec : codeT s = (false, r) := by unfold codeT; rw [e2]; simp only; rw [if_pos h0, e4]
    have ef : codeF s = mailFrame h false b := by unfold codeF; rw [e2]; simp only; rw [if_pos h0, e4]
    unfold codeR
    rw [ec, ef, e2]
    simp only [h0]
    cases r with
    | nil =>
     rw [decR_some ep, if_neg (by simp)]
     by_cases hg : goodFrameC (mailFrame h false b) = 0
     ·rw [if_neg (by simpa using hg), if_pos hg]
     ·rw [if_pos hg, if_neg hg]
    | cons c r => rw [decR_more ep, if_pos (by simp)]
   ·have ep : pFrame s = none := by unfold pFrame; rw [e1]; simp only [Option.bind_some]; rw [if_pos h0, e3]; rfl
    have ec : (codeT s).1 = true := by unfold codeT; rw [e2]; simp only; rw [if_pos h0]; exact e4
    unfold codeR
    rw [if_pos (.inl ec), decR_none ep]
  ·have ec : codeT s = (false, q) := by unfold codeT; rw [e2]; simp only; rw [if_neg h0]
   by_cases h1 : h.1 = 1
   ·have ep : pFrame s = some (ackFrame h true, q) := by unfold pFrame; rw [e1]; simp only [Option.bind_some]; rw [if_neg h0, if_pos h1]
    have ef : codeF s = ackFrame h true := by unfold codeF; rw [e2]; simp only; rw [if_neg h0, h1]; rfl
    unfold codeR
    rw [ec, ef, e2]
    simp only [h1]
    cases q with
    | nil =>
     rw [decR_some ep, if_neg (by simp)]
     by_cases hg : goodFrameC (ackFrame h true) = 0
     ·rw [if_neg (by simpa using hg), if_pos hg]
     ·rw [if_pos hg, if_neg hg]
    | cons c r => rw [decR_more ep, if_pos (by simp)]
   ·have ep : pFrame s = none := by unfold pFrame; rw [e1]; simp only [Option.bind_some]; rw [if_neg h0, if_neg h1]
    unfold codeR
    rw [e2, decR_none ep, if_pos (.inr (.inr (by simp only; omega)))]
 ·have ep : pFrame s = none := by unfold pFrame; rw [e1]; rfl
  have ec : (codeT s).1 = true := by
   unfold codeT
   split
   ·exact sim_body.bad _ e2
   ·exact e2
  unfold codeR
  rw [if_pos (.inl ec), decR_none ep]
theorem pFrame_unp {s : List UInt8} {f : Frame} {r : List UInt8} (h : pFrame s = some (f, r)) : s = encL f ++ r := by
 unfold pFrame at h
 cases hh : pHead s with
 | none => rw [hh] at h; cases h
 | some a =>
  rw [hh] at h
  simp only [Option.bind_some] at h
  obtain ⟨e1, e2⟩ := code_head.unp s a.1 a.2 hh
  by_cases h0 : a.1.1 = 0
  ·rw [if_pos h0] at h
   cases hb : pBody a.2 with
   | none => rw [hb] at h; cases h
   | some b =>
    rw [hb] at h
    simp only [Option.bind_some, Option.some.injEq, Prod.mk.injEq] at h
    obtain ⟨rfl, rfl⟩ := h
    obtain ⟨e3, e4⟩ := code_body.unp a.2 b.1 b.2 hb
    rw [e1, e3, h0]
    have ets : (⟨b.1.text.toArray⟩ : ByteArray).size = b.1.text.length := by show b.1.text.toArray.size = _; simp
    unfold encL
    rw [if_neg (by simp [mailFrame])]
    simp [mailFrame, headBytes, mailBytes, bodyBytes, b1, byteAt, ets]
  ·rw [if_neg h0] at h
   by_cases h1 : a.1.1 = 1
   ·rw [if_pos h1] at h
    simp only [Option.some.injEq, Prod.mk.injEq] at h
    obtain ⟨rfl, rfl⟩ := h
    rw [e1, h1]
    unfold encL
    rw [if_pos (by simp [ackFrame])]
    simp [ackFrame, headBytes, b1, byteAt]
   ·rw [if_neg h1] at h; cases h
theorem risesL_mem {l : List Lev} {p : Int} (h : risesL p l = true) : ∀ x ∈ l, lvOk x = true := by
 induction l generalizing p with
 | nil => simp
 | cons y l ih =>
  unfold risesL at h
  split at h
  ·rename_i hh
   intro x hx
   rcases List.mem_cons.1 hx with rfl | hx
   ·exact hh.2
   ·exact ih h x hx
  ·simp at h
theorem ba_nil {s : ByteArray} (h : s.size = 0) : s = ⟨#[]⟩ := by
 apply ByteArray.ext
 exact Array.size_eq_zero_iff.1 h
theorem pFrame_par {f : Frame} (h : goodFrameC f = 0) (r : List UInt8) : pFrame (encL f ++ r) = some (f, r) := by
 obtain ⟨⟨s1, s2⟩, ⟨s3, s4⟩, _, ⟨s5, s6⟩, ⟨s7, s8⟩, hA, hM⟩ := good_facts h
 clear h
 obtain ⟨src, dst, seq, ack, thread, ⟨host, mthread, label, grants, text⟩, certs⟩ := f
 simp only at s1 s2 s3 s4 s5 s6 s7 s8 hA hM
 have hp : ∀ k : Int, byteOk k → HeadOk (k, src, dst, seq) := fun k hk => ⟨hk, ⟨s1, show src < 256 by omega⟩, ⟨s3, show dst < 256 by omega⟩, show 0 ≤ seq by omega, show seq < 256 ^ 6 by omega⟩
 cases ack with
 | true =>
  have h2 := hA rfl
  unfold ackPlain at h2
  simp only [Bool.and_eq_true, beq_iff_eq, decide_eq_true_eq] at h2
  obtain ⟨⟨⟨rfl, rfl⟩, rfl⟩, h3⟩ := h2
  have e1 : label = [] := List.length_eq_zero_iff.1 (by omega)
  have e2 : grants = [] := List.length_eq_zero_iff.1 (by omega)
  have e3 : certs = [] := List.length_eq_zero_iff.1 (by omega)
  have e4 : text = ⟨#[]⟩ := ba_nil (by omega)
  subst e1 e2 e3 e4
  have hh := code_head.par (1, src, dst, seq) r (hp 1 ⟨by omega, by omega⟩)
  have e : encL ⟨src, dst, seq, true, 0, ⟨0, 0, [], [], ⟨#[]⟩⟩, []⟩ ++ r = [b1 1, b1 src, b1 dst] ++ be seq 6 ++ r := by
   unfold encL; rw [if_pos rfl]; simp [headBytes, b1, byteAt]
  rw [e]
  unfold pFrame
  simp only at hh
  rw [hh]
  simp [ackFrame]
 | false =>
  obtain ⟨m1, m2, m3, m4⟩ := hM rfl
  obtain ⟨⟨q1, q2⟩, ⟨q3, q4⟩, q5, q6, q7⟩ := mail_facts m1
  simp only at q1 q2 q3 q4 q5 q6 q7
  subst m2
  obtain ⟨q8, q9⟩ := grants_facts q6
  unfold goodL at q5
  by_cases hl8 : label.length ≤ 8
  ·rw [if_pos hl8] at q5
   have hlev := risesL_mem q5
   have etx : (⟨text.data.toList.toArray⟩ : ByteArray) = text := by apply ByteArray.ext; simp
   have ets : text.data.toList.length = text.size := by rw [Array.length_toList]; rfl
   have hbo : BodyOk ⟨thread, mthread, label, grants, text.data.toList, certs⟩ := by
    refine ⟨⟨s7, by simp only; omega⟩, ⟨q3, by simp only; omega⟩, ⟨by simp only; omega, fun x hx => ?_⟩, ⟨by simp only; omega, fun x hx => ?_⟩, by simp only; omega, by simp only; omega, fun x hx => ?_⟩
    ·have := hlev x hx
     unfold lvOk at this
     simp only [decide_eq_true_eq] at this
     exact ⟨⟨by omega, by omega⟩, ⟨by omega, by omega⟩⟩
    ·have := q9 x hx
     exact ⟨by omega, by omega⟩
    ·obtain ⟨c1, c2, c3, _, c5⟩ := cert_facts (m4 x hx)
     exact ⟨⟨by omega, by omega⟩, ⟨by omega, by omega⟩, ⟨by omega, by omega⟩, by omega, by omega⟩
   have hh := code_head.par (0, host, dst, seq) (bodyBytes ⟨thread, mthread, label, grants, text.data.toList, certs⟩ ++ r) (hp 0 ⟨by omega, by omega⟩)
   have hb := code_body.par ⟨thread, mthread, label, grants, text.data.toList, certs⟩ r hbo
   have e : encL ⟨host, dst, seq, false, thread, ⟨host, mthread, label, grants, text⟩, certs⟩ ++ r = [b1 0, b1 host, b1 dst] ++ be seq 6 ++ (bodyBytes ⟨thread, mthread, label, grants, text.data.toList, certs⟩ ++ r) := by
    unfold encL; rw [if_neg (by simp)]; simp [headBytes, mailBytes, bodyBytes, b1, byteAt, ets]
   rw [e]
   unfold pFrame
   simp only at hh
   rw [hh]
   simp only [Option.bind_some, if_true]
   rw [hb]
   simp [mailFrame, etx]
  ·rw [if_neg hl8] at q5; simp at q5
/-! ### The laws -/
theorem dec_enc {f : Frame} (h : goodFrameC f = 0) : decR (encL f) = (f, 0) := by
 have hp := pFrame_par h []
 rw [List.append_nil] at hp
 rw [decR_some hp, if_pos h]
theorem dec_only {s : List UInt8} {f : Frame} (h : decR s = (f, 0)) : s = encL f ∧ goodFrameC f = 0 := by
 cases hp : pFrame s with
 | none => rw [decR_none hp] at h; simp at h
 | some a =>
  obtain ⟨g, r⟩ := a
  cases r with
  | cons c r => rw [decR_more hp] at h; simp at h
  | nil =>
   rw [decR_some hp] at h
   by_cases hg : goodFrameC g = 0
   ·rw [if_pos hg] at h
    simp only [Prod.mk.injEq, and_true] at h
    subst h
    have := pFrame_unp hp
    rw [List.append_nil] at this
    exact ⟨this, hg⟩
   ·rw [if_neg hg] at h
    simp only [Prod.mk.injEq] at h
    exact absurd h.2 hg
def chunks (size : Nat) : Nat → List UInt8 → List (List UInt8)
 | 0, _ => []
 | n + 1, t => t.take size :: chunks size n (t.drop size)
def pRows (size : Nat) : Rd (List (List UInt8)) := fun s =>
 match s with
 | [] => none
 | c :: t => if t.length < c.toNat * size then none else some (chunks size c.toNat t, t.drop (c.toNat * size))
def dLev (x : List UInt8) : Lev := ⟨numOf (x.take 1), numOf ((x.drop 1).take 1)⟩
def dNum (x : List UInt8) : Int := numOf (x.take 1)
def dCert (x : List UInt8) : Cert := ⟨numOf (x.take 1), numOf ((x.drop 1).take 1), numOf ((x.drop 2).take 1), numOf ((x.drop 3).take 6)⟩
def refBody : Rd Body := fun s =>
 (pNum 1 s).bind fun a => (pNum 1 a.2).bind fun b => (pRows 2 b.2).bind fun l => (pRows 1 l.2).bind fun g => (pRows 1 g.2).bind fun x => (pRows 9 x.2).bind fun c => some (⟨a.1, b.1, l.1.map dLev, g.1.map dNum, x.1.flatten, c.1.map dCert⟩, c.2)
theorem Own.apartT {base : Nat} {e : TypeId} {w : World} {α : Type} {sz : Nat} {R : List Value → α → Prop} {a : Option Addr} {c : Nat} {xs : List α} (h : Own base e w sz R a c xs) {g : Nat} {cs : Array Value} {T : TypeId} {fr : Nat × Nat} (hb : w.heap[g]? = some (.cells cs T fr)) (hT : T ≠ e) : a.map (·.block) ≠ some g := by
 obtain ⟨css, _, _, _, h4⟩ := h
 intro he
 rcases h4.2 with ⟨hv, _⟩ | ⟨g', cap, cur, hv, _, hh, _⟩
 ·simp only [Value.slice.injEq] at hv
  obtain ⟨rfl, _⟩ := hv
  simp at he
 ·simp only [Value.slice.injEq] at hv
  obtain ⟨rfl, _⟩ := hv
  simp at he
  subst he
  rw [hb] at hh
  simp at hh
  exact hT hh.2.1
theorem St.buf {w0 wx w' : World} {own : Blks} {base : Nat} {e : TypeId} {α : Type} {sz : Nat} {R : List Value → α → Prop} {a : Option Addr} {c : Nat} {xs : List α} (st : St [] w0 wx own) (hO : Own base e wx sz R a c xs) (hb : w0.heap.size ≤ base) (hg : wx.grownBy w' (a.map (·.block))) (hT : ∀ x ∈ own, x.2.1 ≠ e) : St [] w0 w' own := by
 obtain ⟨css, h1, h2, h3, h4⟩ := id hO
 refine ⟨hg.os.trans st.os, hg.tape.trans st.tape, hg.output.trans st.output, Nat.le_trans st.size hg.size, fun b hb' _ => ?_, fun x hx => ?_, st.mine, st.ne⟩
 ·rw [hg.block b (Nat.lt_of_lt_of_le hb' st.size) fun e => ?_]
  ·exact st.frame b hb' (by simp)
  ·have := (hO.blockLt b e.symm).1
   omega
 ·rw [hg.block x.1 (st.lt hx) fun e => hO.apartT (st.blk x hx) (hT x hx) e.symm]
  exact st.blk x hx
theorem wpList_buildU3 {P : Program} {w0 w : World} {M : List Nat} {own : Blks} {ops : Array Oper} {rest : List Oper} {o : Oper} {A : Act} {Q : Exit → Act → World → Prop} (st : St M w0 w own) (hgd : Region.wanted o (yielded ops A.tmps) = true) (T T' : TypeId) (x0 x1 x2 : Operand) (ho : o.op = .buildSlice T 3 #[(0, x0), (1, x1), (2, x2)]) (ht : P.underlying T = some (.slice T')) (hsz : ∀ w, (sizeOf T').run P w = .ok 1 w) (hz : ∀ w, (zeroValue T').run P w = .ok (.int .u8 0) w) (n0 n1 n2 : Int) (hx0 : A.eval x0 = .int .u8 n0) (hx1 : A.eval x1 = .int .u8 n1) (hx2 : A.eval x2 = .int .u8 n2)
  (h : ∀ g w', w0.heap.size ≤ g → g = w.heap.size → St M w0 w' (own ++ [(g, T', [.int .u8 n0, .int .u8 n1, .int .u8 n2])]) → Below w.heap.size w w' → w'.heap.size = w.heap.size + 1 → wpList P ops Q rest (A.put o.dst (.slice (some ⟨g, 0, none⟩) 3 3)) w') : wpList P ops Q (o :: rest) A w := by
 refine wpList_wanted hgd fun K hK => ?_
 have hs := st.new T' [.int .u8 n0, .int .u8 n1, .int .u8 n2]
 have h2 := hK _ _ (h w.heap.size _ st.size rfl hs ((Below.refl _ _).alloc (Nat.le_refl _) _) (by simp))
 unfold Oper.wp
 simp [execOp, ho, Instr.buildSlice, run_underlying ht, hsz, hz, newRow, newObj, hx0, hx1, hx2, Instr.fill, Value.cells, Array.range, Result.andThen] at h2 ⊢
 exact h2
def byteV (b : UInt8) : Value := .int .u8 b.toNat
theorem byteV_eq {x : Int} (h0 : 0 ≤ x) (h1 : x < 256) : Value.int .u8 x = byteV (byteAt x 0) := by
 unfold byteV
 rw [byteAt_int h0]
 simp
 omega
theorem bytes_rows (xs : List UInt8) : (xs.map fun b => [byteV b]).flatten = xs.map byteV := by
 induction xs with
 | nil => rfl
 | cons x xs ih => simp [ih]
theorem SlR.bytes {ok : Nat → Prop} {w : World} {g : Nat} {e : TypeId} {cs : List Value} (xs : List UInt8) (hg : w.heap[g]? = some (.cells cs.toArray e (0, 0))) (hcs : cs = xs.map byteV) (ho : ok g) (hm : xs.length ≤ maxLen) : SlR ok w 1 RU8 (some ⟨g, 0, none⟩) xs.length xs := by
 refine ⟨Nat.le_refl _, hm, by simp, fun i y hy => ?_⟩
 have hi := (gEs hy).1
 refine ⟨g, 0, [byteV y], rfl, ho, (Array.getElem?_eq_some_iff.1 hg).1, rfl, rfl, by simp [byteV, Value.oneCell'], fun j v hv => ?_⟩
 have hj : j = 0 := by have := (gEs hv).1; simp at this; exact this
 subst hj
 simp at hv
 subst hv
 rw [cell_of_row w g _ cs.toArray e (0, 0) hg]
 simp [hcs, hy]
theorem Own.ofBytes {base : Nat} {w : World} {e : TypeId} {a : Option Addr} {c : Nat} {xs : List UInt8} (h : w.ownsRow base e 1 (.slice a xs.length c) xs.length (xs.map byteV)) : Own base e w 1 RU8 a c xs := by
 refine ⟨xs.map fun b => [byteV b], by simp, ?_, fun i x cs hx hc => ?_, ?_⟩
 ·intro cs hcs
  obtain ⟨b, _, rfl⟩ := List.mem_map.1 hcs
  simp [byteV, Value.oneCell']
 ·simp only [List.getElem?_map, hx, Option.map_some, Option.some.injEq] at hc
  exact hc.symm
 ·rw [bytes_rows]
  exact h
theorem Own.toBytes {base : Nat} {w : World} {e : TypeId} {a : Option Addr} {c : Nat} {xs : List UInt8} (h : Own base e w 1 RU8 a c xs) : w.ownsRow base e 1 (.slice a xs.length c) xs.length (xs.map byteV) := by
 obtain ⟨css, h1, h2, h3, h4⟩ := h
 have e1 : css = xs.map fun b => [byteV b] := by
  apply List.ext_getElem?
  intro i
  by_cases hi : i < xs.length
  ·have := h3 i xs[i] css[i] (by simp [hi]) (by simp [h1, hi])
   simp only [List.getElem?_map]
   rw [gEg (by omega), gEg hi, this]
   rfl
  ·simp [hi, h1, Nat.not_lt.1 hi]
 rw [e1, bytes_rows] at h4
 exact h4
theorem Own.bytesBlk {base : Nat} {w : World} {e : TypeId} {cs : List Value} {g : Nat} (xs : List UInt8) (hg : w.heap[g]? = some (.cells cs.toArray e (0, 0))) (hcs : cs = xs.map byteV) (hb : base ≤ g) (hm : xs.length ≤ maxLen) : Own base e w 1 RU8 (some ⟨g, 0, none⟩) xs.length xs :=
 Own.ofBytes ⟨by simp, .inr ⟨g, xs.length, cs.toArray, rfl, hb, hg, Nat.le_refl _, hm, by simp [hcs], by rw [hcs]; exact List.take_of_length_le (by simp)⟩⟩
theorem Own.byteFree {base : Nat} {e : TypeId} {w : World} {g c : Nat} {xs : List UInt8} (h : Own base e w 1 RU8 (some ⟨g, 0, none⟩) c xs) (j : Nat) : w.frozen? ⟨g, j, none⟩ = false := World.ownsRow.frozenAt h.toBytes j
theorem Own.byteCell {base : Nat} {e : TypeId} {w : World} {g c : Nat} {xs : List UInt8} (h : Own base e w 1 RU8 (some ⟨g, 0, none⟩) c xs) (j : Nat) (hj : j < xs.length) : w.cell? ((⟨g, 0, none⟩ : Addr).add j) = some (.int .u8 (xs[j].toNat : Int)) := by
 obtain ⟨b, o, cs, ha, _, _, hr, _, _, hc⟩ := (h.slr (ok := fun _ => True) fun _ _ => trivial).2.2.2 j xs[j] (by simp [hj])
 simp at ha
 obtain ⟨rfl, rfl⟩ := ha
 rw [hr] at hc
 have := hc 0 _ rfl
 simpa [add_plain] using this
theorem Own.string {P : Program} {base : Nat} {e : TypeId} {w : World} {g c : Nat} {xs : List UInt8} (h : Own base e w 1 RU8 (some ⟨g, 0, none⟩) c xs) (src dst e' : TypeId) (hs : P.underlying src = some (.slice e')) (he : P.underlying e' = some (.int .u8)) (hd : P.underlying dst = some .string) :
  (convert src dst (.slice (some ⟨g, 0, none⟩) xs.length c)).run P w = .ok (.string ⟨xs.toArray⟩) w :=
 run_convert_bytes_back (P := P) w src dst e' ⟨g, 0, none⟩ c xs hs he hd fun j hj => h.byteCell j hj
theorem Own.set {base : Nat} {e : TypeId} {w : World} {g c : Nat} {xs : List UInt8} (h : Own base e w 1 RU8 (some ⟨g, 0, none⟩) c xs) (j : Nat) (y : UInt8) : Own base e (w.setCell ⟨g, j, none⟩ (byteV y)) 1 RU8 (some ⟨g, 0, none⟩) c (xs.set j y) ∧ w.grownBy (w.setCell ⟨g, j, none⟩ (byteV y)) (some g) := by
 obtain ⟨s1, s2⟩ := World.ownsRow.stored h.toBytes j (byteV y)
 exact ⟨Own.ofBytes (by simpa [List.map_set] using s1), s2⟩
theorem strCells_bytes (s : ByteArray) : Lib.strCells s = s.data.toList.map byteV := by
 simp [Lib.strCells, byteV]
theorem kernel_levels (ok : Nat → Prop) (w : World) (a : Option Addr) (c : Nat) (l : List Lev) (hl : l.length * 16 ≤ 140737488355328) (hR : SlR ok w 2 RLev a c l) :
  Calls Tryz.prog 43 #[.slice a l.length c] w fun e w' => ∃ a' c', e = .returned (.slice a' l.length c') ∧ Below w.heap.size w w' ∧ Own w.heap.size 73 w' 2 RLev a' c' l := by
 obtain ⟨i0, hi, hz0, hz1, hz2⟩ := info_parts info_Level
 go_enter Tryz.func43, Tryz.ntmps43
 go_wp2_with (first | go_skip | (at_builtin; go_must (refine wpList_copy (wanted_none rfl) _ _ 27 rfl 73 i0 _ 2 16 Tryz.underlying27 hi hz0 hz1 hz2 rfl (by decide) rfl rfl rfl hR hl ?_; intro a' c' w' hO hb)))
 go_ret
 exact ⟨a', c', rfl, hb, hO⟩
theorem kernel_numbers (ok : Nat → Prop) (w : World) (a : Option Addr) (c : Nat) (l : List Int) (hl : l.length * 8 ≤ 140737488355328) (hR : SlR ok w 1 RInt a c l) :
  Calls Tryz.prog 44 #[.slice a l.length c] w fun e w' => ∃ a' c', e = .returned (.slice a' l.length c') ∧ Below w.heap.size w w' ∧ Own w.heap.size 3 w' 1 RInt a' c' l := by
 obtain ⟨i0, hi, hz0, hz1, hz2⟩ := info_parts info_int
 go_enter Tryz.func44, Tryz.ntmps44
 go_wp2_with (first | go_skip | (at_builtin; go_must (refine wpList_copy (wanted_none rfl) _ _ 28 rfl 3 i0 _ 1 8 Tryz.underlying28 hi hz0 hz1 hz2 rfl (by decide) rfl rfl rfl hR hl ?_; intro a' c' w' hO hb)))
 go_ret
 exact ⟨a', c', rfl, hb, hO⟩
theorem Own.turn {base : Nat} {e : TypeId} {w w' : World} {α : Type} {sz : Nat} {R : List Value → α → Prop} {a : Option Addr} {c : Nat} {xs : List α} {g : Nat} {own : Blks} (h : Own base e w sz R a c xs) (ht : St [g] w w' own) {cs : Array Value} {T : TypeId} {fr : Nat × Nat} (hg : w.heap[g]? = some (.cells cs T fr)) (hT : T ≠ e) : Own base e w' sz R a c xs := by
 have hne := h.apartT hg hT
 obtain ⟨css, h1, h2, h3, h4⟩ := h
 refine ⟨css, h1, h2, h3, h4.1, ?_⟩
 rcases h4.2 with h | ⟨k, cap, cur, hv, hk, hh, r⟩
 ·exact .inl h
 ·refine .inr ⟨k, cap, cur, hv, hk, ?_, r⟩
  have hkl := (Array.getElem?_eq_some_iff.1 hh).1
  rw [ht.frame k hkl (by
   simp only [Value.slice.injEq] at hv
   obtain ⟨rfl, _⟩ := hv
   simp at hne ⊢
   exact hne)]
  exact hh
theorem Own.stored {base : Nat} {e : TypeId} {w w' : World} {α : Type} {sz : Nat} {R : List Value → α → Prop} {a : Option Addr} {c : Nat} {xs : List α} {g : Nat} (h : Own base e w sz R a c xs) {cs : Array Value} {T : TypeId} {fr : Nat × Nat} (hg : w.heap[g]? = some (.cells cs T fr)) (hT : T ≠ e) (hm : ∀ b, b ≠ g → w'.heap[b]? = w.heap[b]?) : Own base e w' sz R a c xs := by
 have hne := h.apartT hg hT
 obtain ⟨css, h1, h2, h3, h4⟩ := h
 refine ⟨css, h1, h2, h3, h4.1, ?_⟩
 rcases h4.2 with h | ⟨k, cap, cur, hv, hk, hh, r⟩
 ·exact .inl h
 ·refine .inr ⟨k, cap, cur, hv, hk, ?_, r⟩
  rw [hm k (by
   simp only [Value.slice.injEq] at hv
   obtain ⟨rfl, _⟩ := hv
   simp at hne ⊢
   exact hne)]
  exact hh
theorem Own.through {base : Nat} {e : TypeId} {v w : World} {α : Type} {sz : Nat} {R : List Value → α → Prop} {a : Option Addr} {c : Nat} {xs : List α} {M : List Nat} {w0 : World} {own0 own : Blks} (h : Own base e v sz R a c xs) (h0 : St M w0 v own0) (st : St (own0.map (·.1)) v w own) (hT : ∀ x ∈ own0, x.2.1 ≠ e) : Own base e w sz R a c xs := by
 have hne := fun x (hx : x ∈ own0) => h.apartT (h0.blk x hx) (hT x hx)
 obtain ⟨css, h1, h2, h3, h4⟩ := h
 refine ⟨css, h1, h2, h3, h4.1, ?_⟩
 rcases h4.2 with h | ⟨k, cap, cur, hv, hk, hh, r⟩
 ·exact .inl h
 ·refine .inr ⟨k, cap, cur, hv, hk, ?_, r⟩
  rw [st.frame k (Array.getElem?_eq_some_iff.1 hh).1 (fun hm => by
   obtain ⟨x, hx, rfl⟩ := List.mem_map.1 hm
   simp only [Value.slice.injEq] at hv
   obtain ⟨rfl, _⟩ := hv
   exact hne x hx rfl)]
  exact hh
theorem Own.slrN {base : Nat} {e : TypeId} {w : World} {α : Type} {sz : Nat} {R : List Value → α → Prop} {a : Option Addr} {c : Nat} {xs : List α} {g : Nat} (h : Own base e w sz R a c xs) {cs : Array Value} {T : TypeId} {fr : Nat × Nat} (hg : w.heap[g]? = some (.cells cs T fr)) (hT : T ≠ e) : SlR (fun b => base ≤ b ∧ b ≠ g) w sz R a c xs := by
 have hne := h.apartT hg hT
 have s := h.slr (ok := fun b => base ≤ b) fun _ h => h
 refine ⟨s.1, s.2.1, s.2.2.1, fun i x hx => ?_⟩
 obtain ⟨b, o, cs, ha, hb, r⟩ := s.2.2.2 i x hx
 exact ⟨b, o, cs, ha, ⟨hb, fun e => hne (by rw [ha, ← e]; rfl)⟩, r⟩
end Go.Proofs.YtnjjdpiofbajlaaGreat
