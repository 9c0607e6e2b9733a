/- Walks and plain laws, part 19. -/
import Derived.Test.YtealbofmlieicaaP18
set_option linter.unusedSimpArgs false
set_option linter.unusedVariables false
set_option maxHeartbeats 16000000
set_option maxRecDepth 100000
namespace Go.Proofs.Ytealbofmlieicaa
theorem lastB_size (s : ByteArray) : (lastB s).size ≤ 64 := by
 unfold lastB
 rw [ByteArray.size_extract]
 omega
theorem knowT_size (a b : ByteArray) : (knowT a b).size ≤ 64 := lastB_size _
theorem ownAll_ok (gs : List Int) : ∀ {l : List Int}, Rising l → l.length ≤ 8 → Rising (ownAll l gs) ∧ (ownAll l gs).length ≤ 8 := by
 induction gs with
 | nil => exact fun hr hl => ⟨hr, hl⟩
 | cons g gs ih =>
  intro l hr hl
  unfold ownAll
  split
  ·exact ih (ownC_ok hr hl g).1 (ownC_ok hr hl g).2
  ·exact ⟨hr, hl⟩
theorem takeM_sub (label : List Lev) (own : List Int) (l : List Mail) : (∀ m ∈ (takeM label own l).2, m ∈ l) ∧ (takeM label own l).2.length ≤ l.length ∧ ∀ m, (takeM label own l).1 = some m → m ∈ l ∧ flowsL m.label label own = true := by
 induction l with
 | nil => exact ⟨fun _ h => h, Nat.le_refl _, fun m h => by simp [takeM] at h⟩
 | cons m l ih =>
  unfold takeM
  split
  ·rename_i hf
   exact ⟨fun x h => List.mem_cons_of_mem _ h, by simp, fun x h => by cases h; exact ⟨by simp, hf⟩⟩
  ·exact ⟨fun x h => List.mem_cons_of_mem _ (ih.1 x h), by have := ih.2.1; simp; omega, fun x h => ⟨List.mem_cons_of_mem _ (ih.2.2 x h).1, (ih.2.2 x h).2⟩⟩
theorem takeX_ok {x : Thr} (h : x.ok) : (takeX x).1.ok := by
 obtain ⟨h1, h2, h3⟩ := takeM_sub x.label x.own x.mails
 unfold takeX
 generalize takeM x.label x.own x.mails = r at *
 obtain ⟨o, l⟩ := r
 cases o with
 | none => exact ⟨h.good, h.own, h.ownL, h.text, h.objs, h.obj, Nat.le_trans h2 h.mailN, fun m hm => h.mail m (h1 m hm)⟩
 | some m => exact ⟨h.good, (ownAll_ok _ h.own h.ownL).1, (ownAll_ok _ h.own h.ownL).2, knowT_size _ _, h.objs, h.obj, Nat.le_trans h2 h.mailN, fun m hm => h.mail m (h1 m hm)⟩
theorem zeroT_ok : zeroT.ok := ⟨rfl, List.Pairwise.nil, by decide, by decide, by decide, by simp [zeroT], by decide, by simp [zeroT]⟩
theorem newK_ok {h : Int} (h0 : 0 ≤ h) (h4 : h < 4) : (newK h).ok := ⟨⟨h0, h4⟩, rfl, ⟨Int.le_refl _, by simp [newK]⟩, by simp [newK, zeroT_ok]⟩
theorem Ker.ok.at {k : Ker} (h : k.ok) (t : Int) : (k.thr t).ok := by
 unfold Ker.thr
 rw [List.getD_eq_getElem?_getD]
 cases e : k.threads[t.toNat]? with
 | none => exact zeroT_ok
 | some x => exact h.thr x (mgE e)
theorem Ker.ok.put {k : Ker} (h : k.ok) (t : Int) {x : Thr} (hx : x.ok) : (k.put t x).ok :=
 ⟨h.host, by simp [Ker.put, h.four], h.made, fun y hy => by
  rcases List.mem_or_eq_of_mem_set hy with hy | rfl
  ·exact h.thr y hy
  ·exact hx⟩
theorem Ker.ok.obj {k : Ker} (h : k.ok) {t n : Int} {o : KObj} (ho : k.obj t n = some o) : goodL o.label = true ∧ o.text.size ≤ 64 := by
 unfold Ker.obj at ho
 split at ho
 ·exact (h.at t).obj o (mgE ho)
 ·cases ho
theorem setR_good {l : List Lev} {c n : Int} (h : (setR l c n).2 = 0) : goodL (setR l c n).1 = true := by
 rcases setR_cases l c n with ⟨k, e, hk⟩ | ⟨e, h1, h2, h3, h4⟩
 ·rw [e] at h; exact absurd h hk
 ·rw [e]; exact set_good h1 h2 h3 h4
theorem callK_ok {k : Ker} (h : k.ok) (t : Int) (c : Req) (hc : c.text.size ≤ 64) : (callK k t c).1.ok := by
 have hx := h.at t
 unfold callK
 dsimp only
 split
 ·split
  ·exact h
  ·split
   ·exact h
   ·have hp := h.put t (x := { k.thr t with own := (ownC (k.thr t).own (k.host * 20 + k.made)).1 }) ⟨hx.good, (ownC_ok hx.own hx.ownL _).1, (ownC_ok hx.own hx.ownL _).2, hx.text, hx.objs, hx.obj, hx.mailN, hx.mail⟩
    exact ⟨hp.host, hp.four, ⟨by have := h.made.1; simp only; omega, by have := h.made.2; simp only; omega⟩, hp.thr⟩
 split
 ·split
  ·exact h
  ·rename_i hg
   split
   ·exact h
   ·split
    ·exact h
    ·rename_i h4
     exact h.put t ⟨hx.good, hx.own, hx.ownL, hx.text, by simp; omega, fun o ho => by
      rcases List.mem_append.1 ho with ho | ho
      ·exact hx.obj o ho
      ·simp only [List.mem_singleton] at ho
       subst ho
       exact ⟨by simpa using hg, Nat.zero_le _⟩, hx.mailN, hx.mail⟩
 split
 ·cases e : k.obj c.t c.n with
  | none => exact h
  | some o =>
   dsimp only
   split
   ·have hy := h.at c.t
    exact h.put c.t ⟨hy.good, hy.own, hy.ownL, hy.text, by simpa [Thr.putObj] using hy.objs, fun o' ho => by
     rcases List.mem_or_eq_of_mem_set ho with ho | rfl
     ·exact hy.obj o' ho
     ·exact ⟨(h.obj e).1, knowT_size _ _⟩, hy.mailN, hy.mail⟩
   ·exact h
 split
 ·cases e : k.obj c.t c.n with
  | none => exact h
  | some o =>
   dsimp only
   split
   ·exact h.put t ⟨hx.good, hx.own, hx.ownL, knowT_size _ _, hx.objs, hx.obj, hx.mailN, hx.mail⟩
   ·exact h
 split
 ·split
  ·exact h
  ·rename_i he
   split
   ·exact h
   ·exact h.put t ⟨setR_good (by simpa using he), hx.own, hx.ownL, hx.text, hx.objs, hx.obj, hx.mailN, hx.mail⟩
 split
 ·exact h.put t (takeX_ok hx)
 split
 ·exact h.put t ⟨hx.good, hx.own, hx.ownL, hc, hx.objs, hx.obj, hx.mailN, hx.mail⟩
 split
 ·exact h
 ·exact h
theorem stepC_ok {k : Ker} (h : k.ok) (t : Int) (c : Req) : (stepC k t c).1.ok := by
 unfold stepC
 split
 ·exact h
 ·split
  ·exact h
  ·exact callK_ok h t c (by omega)
theorem deliverK_ok {k : Ker} (h : k.ok) (t : Int) (m : Mail) : (deliverK k t m).ok := by
 have hx := h.at t
 unfold deliverK
 split
 ·exact h
 ·split
  ·exact h
  ·rename_i hm
   split
   ·rename_i hf
    exact h.put t ⟨hx.good, hx.own, hx.ownL, hx.text, hx.objs, hx.obj, by simp; omega, fun m' hm' => by
     rcases List.mem_append.1 hm' with hm' | hm'
     ·exact hx.mail m' hm'
     ·simp only [List.mem_singleton] at hm'
      subst hm'
      simpa using hm⟩
   ·exact h
open Go.RowKit
def zeroC : List Value := [.slice none 0 0, .slice none 0 0, .string ⟨#[]⟩, .slice none 0 0, .slice none 0 0]
theorem kernel_New (w : World) (h : Int) (h0 : 0 ≤ h) (h4 : h < 4) : Calls Try.prog 4 #[.int .i64 h] w fun e w' => ∃ g, e = .returned (.tuple #[.pointer (some ⟨g, 0, none⟩), .int .i64 0]) ∧ w.heap.size ≤ g ∧
  St [] w w' [(g, 58, .int .i64 h :: (([zeroC, zeroC, zeroC, zeroC] : List (List Value)).flatten ++ [.int .i64 0]))] := by
 have d1 : decide (h < 0) = false := by simp; omega
 have d2 : decide ((4 : Int) ≤ h) = false := by simp; omega
 have st := St.start w
 go_enter Try.func4, Try.ntmps4
 go_wp2_with (first | go_skip | (with_reducible refine mB 58 st ?_; clear st; intro g1 w1 hg1 st))
 go_ret2
 exact ⟨g1, rfl, hg1, st⟩
theorem KerAt.new {w0 w : World} {g : Nat} {h : Int} {own : Blks} {M : List Nat} (st : St M w0 w own) (hm : (g, 58, .int .i64 h :: (([zeroC, zeroC, zeroC, zeroC] : List (List Value)).flatten ++ [.int .i64 0])) ∈ own) (ok : Nat → Prop) (hg : ¬ ok g) : KerAt ok w g (newK h) [zeroC, zeroC, zeroC, zeroC] [[], [], [], []] := by
 have hz : ∀ i : Nat, ([zeroT, zeroT, zeroT, zeroT] : List Thr)[i]? = if i < 4 then some zeroT else none := fun i => by
  match i with | 0 => rfl | 1 => rfl | 2 => rfl | 3 => rfl | i + 4 => simp
 have hc : ∀ i : Nat, ([zeroC, zeroC, zeroC, zeroC] : List (List Value))[i]? = if i < 4 then some zeroC else none := fun i => by
  match i with | 0 => rfl | 1 => rfl | 2 => rfl | 3 => rfl | i + 4 => simp
 have hB : ∀ i : Nat, ([[], [], [], []] : List (List Nat))[i]? = if i < 4 then some [] else none := fun i => by
  match i with | 0 => rfl | 1 => rfl | 2 => rfl | 3 => rfl | i + 4 => simp
 refine ⟨rfl, rfl, rfl, fun i x cs B e1 e2 e3 => ?_, st.blk _ hm, by simp, by simpa using hg⟩
 unfold newK at e1
 simp only at e1
 rw [hz] at e1
 rw [hc] at e2
 rw [hB] at e3
 split at e1
 ·rename_i hi
  rw [if_pos hi] at e2 e3
  cases e1; cases e2; cases e3
  exact ⟨none, 0, none, 0, none, 0, none, 0, rfl, ⟨SlR.nil _ _ _ _, SlR.nil _ _ _ _, RowAt.nil _ _ _ _, RowAt.nil _ _ _ _⟩, rfl⟩
 ·cases e1
theorem St.callK {M M' : List Nat} {w0 w w' : World} {own : Blks} (h : St M w0 w own) (h' : St M' w w' []) (hn : ∀ x ∈ own, x.1 ∉ M') (hM : ∀ b ∈ M', b ∈ M ∨ w0.heap.size ≤ b) : St M w0 w' own :=
 ⟨h'.os.trans h.os, h'.tape.trans h.tape, h'.output.trans h.output, Nat.le_trans h.size h'.size, fun b hb hm => by
  rw [h'.frame b (Nat.lt_of_lt_of_le hb h.size) fun hm' => ?_, h.frame b hb hm]
  rcases hM b hm' with h1 | h1
  ·exact hm h1
  ·omega, fun x hx => by
  have := h.blk x hx
  rw [h'.frame x.1 (Array.getElem?_eq_some_iff.1 this).1 (hn x hx), this], h.mine, h.ne⟩
def reqV (c : Req) (la : Option Addr) (lc : Nat) (ga : Option Addr) (gc : Nat) : Value := .agg #[.int .i64 c.kind, .int .i64 c.h, .int .i64 c.t, .int .i64 c.n, .int .i64 c.c, .slice la c.label.length lc, .slice ga c.grants.length gc, .string c.text]
def CallPost (ok : Nat → Prop) (w : World) (g : Nat) (Bs : List (List Nat)) (r : Ker × Rep) (e : Ending) (w' : World) : Prop := e = .returned (RepV r.2) ∧ KerTo ok w g Bs w' r.1
theorem call_no (w : World) (n : Int) : Calls Try.prog 32 #[.int .i64 n] w fun e w' => e = .returned (.agg #[.int .i64 n, .int .i64 0, .string ⟨#[]⟩]) ∧ Below w.heap.size w w' := by
 have st := St.start w
 go_enter Try.func32, Try.ntmps32
 go_wp2_with (first | go_skip | (with_reducible refine mA st Try.zeroValue52 ?_; clear st; intro g2 w2 hg2 st) | (with_reducible refine mS 0 st Try.sizeOf52 ?_; clear st; intro w3 st hw3m hw3z))
 have hc := fun j => st.cell (i := 0) rfl j
 refine bodyPost_ret (v := _) ?hr rfl ⟨rfl, st.below⟩
 case hr => simp [results, Try.results32, go_sem, hc]; try rfl
theorem text_size {s : ByteArray} (h : ¬ 64 < s.size) : decide (64 < (s.size : Int)) = false := by simp; omega
theorem Ker.put_self {k : Ker} {n : Nat} {x : Thr} (e : k.threads[n]? = some x) : ({ k.put n x with made := k.made } : Ker) = k := by
 obtain ⟨hl, rfl⟩ := gEs e
 simp [Ker.put]
section
variable (ok okc : Nat → Prop) (w : World) (g : Nat) (k : Ker) (css : List (List Value)) (Bs : List (List Nat)) (n : Nat) (c : Req) (la : Option Addr) (lc : Nat) (ga : Option Addr) (gc : Nat)
theorem kernel_Call_say (h : KerAt ok w g k css Bs) (hk : ∀ x ∈ k.threads, x.ok) (hn : n < 4) (hx64 : ¬ 64 < c.text.size) (hkd : c.kind = 10) :
  Calls Try.prog 13 #[.pointer (some ⟨g, 0, none⟩), .int .i64 n, reqV c la lc ga gc] w (CallPost ok w g Bs (callK k n c)) := by
 obtain ⟨x, xa, xc, oa, oc, ba, bc, ma, mc, ex, ec, eB, hT, hb⟩ := h.open hn
 have hx := hk x (mgE ex)
 have hpre := h.preLen hn
 have hth := Ker.thr_at ex
 have st0 := St.hand hb
 unfold thrC at st0
 have d1 : decide ((n : Int) < 0) = false := by simp
 have d2 : decide ((4 : Int) ≤ n) = false := by simp; omega
 have d64 := text_size hx64
 have hgg : ¬ ok g := h.apart g (by simp)
 have HKp := qh (show ∀ (W : World) (bl : Blks), St [g] w W bl → Keeps ok w W from fun W bl s => s.keeps (by simpa using hgg))
 have HB := qh (show ∀ (W : World) (bl : Blks), St [g] w W bl → (g, 58, winC (preC k css n) [.slice xa x.label.length xc, .slice oa x.own.length oc, .string x.text, .slice ba x.objects.length bc, .slice ma x.mails.length mc] (postC k css n)) ∈ bl → Below w.heap.size w W from fun W bl s hm => st0.below2 s (by simpa using hm))
 have hxl := goodL_len hx.good; have hxo := hx.ownL; have hxm := hx.mailN; have hxb := hx.objs; have hxt := hx.text
 have st := st0
 clear st0
 unfold reqV
 have HE := qh (show callK k (n : Int) c = (k, ⟨0, 0, x.text⟩) by unfold callK; simp [hkd, hth])
 rw [hkd]
 clear hkd
 go_enter Try.func13, Try.ntmps13
 go_wp2_with (first | go_skip | (with_reducible refine at_load 9 ?_; (first | refine mem_loadW st 9 _ rfl (wanted_none rfl) Try.isAgg9 2 ?_ | (refine mem_loadW st 9 _ rfl (wanted_some rfl ?_) Try.isAgg9 2 ?_; focus (simp [yielded, Act.put]; done))); refine ⟨0, _, _, _, _, _, _, _, hpre, rfl, rfl, rfl, ?_⟩) | (with_reducible refine mB 40 st ?_; clear st; intro g5 w5 hg5 st) | (with_reducible refine mA st Try.zeroValue52 ?_; clear st; intro g6 w6 hg6 st) | (with_reducible refine mX st Try.isAgg9 ?_) | (with_reducible refine mX st Try.isAgg3 ?_) | (go_at_call 32; go_must (refine (call_no _ _).mono ?_; rintro e vn ⟨rfl, hbn⟩; replace st := st.call hbn; clear hbn)) | (with_reducible refine mS 2 st Try.sizeOf52 ?_; clear st; intro w7 st hw7m hw7z))
 have hc := fun j => st.cell (i := 2) rfl j
 refine bodyPost_ret (v := RepV (⟨0, 0, x.text⟩)) ?hr rfl ?_
 case hr => simp [results, Try.results13, go_sem, hc, RepV, errR]; try rfl
 rw [HE.out]
 exact ⟨rfl, KerTo.none h (HB.out _ _ st (by simp))⟩
theorem kernel_Call_other (h : KerAt ok w g k css Bs) (hk : ∀ x ∈ k.threads, x.ok) (hn : n < 4) (hx64 : ¬ 64 < c.text.size) (hkd : c.kind ≠ 1 ∧ c.kind ≠ 2 ∧ c.kind ≠ 3 ∧ c.kind ≠ 4 ∧ c.kind ≠ 5 ∧ c.kind ≠ 7 ∧ c.kind ≠ 9 ∧ c.kind ≠ 10) :
  Calls Try.prog 13 #[.pointer (some ⟨g, 0, none⟩), .int .i64 n, reqV c la lc ga gc] w (CallPost ok w g Bs (callK k n c)) := by
 obtain ⟨x, xa, xc, oa, oc, ba, bc, ma, mc, ex, ec, eB, hT, hb⟩ := h.open hn
 have hx := hk x (mgE ex)
 have hpre := h.preLen hn
 have hth := Ker.thr_at ex
 have st0 := St.hand hb
 unfold thrC at st0
 have d1 : decide ((n : Int) < 0) = false := by simp
 have d2 : decide ((4 : Int) ≤ n) = false := by simp; omega
 have d64 := text_size hx64
 have hgg : ¬ ok g := h.apart g (by simp)
 have HKp := qh (show ∀ (W : World) (bl : Blks), St [g] w W bl → Keeps ok w W from fun W bl s => s.keeps (by simpa using hgg))
 have HB := qh (show ∀ (W : World) (bl : Blks), St [g] w W bl → (g, 58, winC (preC k css n) [.slice xa x.label.length xc, .slice oa x.own.length oc, .string x.text, .slice ba x.objects.length bc, .slice ma x.mails.length mc] (postC k css n)) ∈ bl → Below w.heap.size w W from fun W bl s hm => st0.below2 s (by simpa using hm))
 have hxl := goodL_len hx.good; have hxo := hx.ownL; have hxm := hx.mailN; have hxb := hx.objs; have hxt := hx.text
 have st := st0
 clear st0
 unfold reqV
 obtain ⟨k1, k2, k3, k4, k5, k7, k9, k10⟩ := hkd
 have HE := qh (show callK k (n : Int) c = (k, errR 3) by unfold callK; simp [k1, k2, k3, k4, k5, k7, k9, k10])
 have e1 : (c.kind == 1) = false := by simpa using k1
 have e2 : (c.kind == 2) = false := by simpa using k2
 have e3 : (c.kind == 3) = false := by simpa using k3
 have e4 : (c.kind == 4) = false := by simpa using k4
 have e5 : (c.kind == 5) = false := by simpa using k5
 have e7 : (c.kind == 7) = false := by simpa using k7
 have e9 : (c.kind == 9) = false := by simpa using k9
 have e10 : (c.kind == 10) = false := by simpa using k10
 clear k1 k2 k3 k4 k5 k7 k9 k10
 go_enter Try.func13, Try.ntmps13
 go_wp2_with (first | go_skip | (with_reducible refine mB 40 st ?_; clear st; intro g5 w5 hg5 st) | (with_reducible refine mA st Try.zeroValue52 ?_; clear st; intro g6 w6 hg6 st) | (with_reducible refine mX st Try.isAgg9 ?_) | (with_reducible refine mX st Try.isAgg3 ?_) | (go_at_call 32; go_must (refine (call_no _ _).mono ?_; rintro e vn ⟨rfl, hbn⟩; replace st := st.call hbn; clear hbn)) | (with_reducible refine mS 2 st Try.sizeOf52 ?_; clear st; intro w7 st hw7m hw7z))
 have hc := fun j => st.cell (i := 2) rfl j
 refine bodyPost_ret (v := RepV (errR 3)) ?hr rfl ?_
 case hr => simp [results, Try.results13, go_sem, hc, RepV, errR]; try rfl
 rw [HE.out]
 exact ⟨rfl, KerTo.none h (HB.out _ _ st (by simp))⟩
theorem kernel_Call_forget (h : KerAt ok w g k css Bs) (hk : ∀ x ∈ k.threads, x.ok) (hn : n < 4) (hx64 : ¬ 64 < c.text.size) (hkd : c.kind = 9) :
  Calls Try.prog 13 #[.pointer (some ⟨g, 0, none⟩), .int .i64 n, reqV c la lc ga gc] w (CallPost ok w g Bs (callK k n c)) := by
 obtain ⟨x, xa, xc, oa, oc, ba, bc, ma, mc, ex, ec, eB, hT, hb⟩ := h.open hn
 have hx := hk x (mgE ex)
 have hpre := h.preLen hn
 have hth := Ker.thr_at ex
 have st0 := St.hand hb
 unfold thrC at st0
 have d1 : decide ((n : Int) < 0) = false := by simp
 have d2 : decide ((4 : Int) ≤ n) = false := by simp; omega
 have d64 := text_size hx64
 have hgg : ¬ ok g := h.apart g (by simp)
 have HKp := qh (show ∀ (W : World) (bl : Blks), St [g] w W bl → Keeps ok w W from fun W bl s => s.keeps (by simpa using hgg))
 have HB := qh (show ∀ (W : World) (bl : Blks), St [g] w W bl → (g, 58, winC (preC k css n) [.slice xa x.label.length xc, .slice oa x.own.length oc, .string x.text, .slice ba x.objects.length bc, .slice ma x.mails.length mc] (postC k css n)) ∈ bl → Below w.heap.size w W from fun W bl s hm => st0.below2 s (by simpa using hm))
 have hxl := goodL_len hx.good; have hxo := hx.ownL; have hxm := hx.mailN; have hxb := hx.objs; have hxt := hx.text
 have st := st0
 clear st0
 unfold reqV
 have HE := qh (show callK k (n : Int) c = (k.put n { x with text := c.text }, errR 0) by unfold callK; simp [hkd, hth])
 rw [hkd]
 clear hkd
 go_enter Try.func13, Try.ntmps13
 go_wp2_with (first | go_skip | (with_reducible refine at_store 9 ?_; refine mem_storeW st 9 _ _ rfl (wanted_none rfl) _ Try.sizeOf9 2 ?_; refine ⟨0, _, _, _, _, _, _, _, hpre, rfl, rfl, rfl, rfl, rfl, rfl, ?_⟩; clear st; intro w8 st hw8m hw8z; simp [Act.eval, Act.put, Value.cells, putL] at st) | (with_reducible refine mB 40 st ?_; clear st; intro g5 w5 hg5 st) | (with_reducible refine mA st Try.zeroValue52 ?_; clear st; intro g6 w6 hg6 st) | (with_reducible refine mX st Try.isAgg9 ?_) | (with_reducible refine mX st Try.isAgg3 ?_) | (go_at_call 32; go_must (refine (call_no _ _).mono ?_; rintro e vn ⟨rfl, hbn⟩; replace st := st.call hbn; clear hbn)) | (with_reducible refine mS 2 st Try.sizeOf52 ?_; clear st; intro w7 st hw7m hw7z))
 have hc := fun j => st.cell (i := 2) rfl j
 refine bodyPost_ret (v := RepV (errR 0)) ?hr rfl ?_
 case hr => simp [results, Try.results13, go_sem, hc, RepV, errR]; try rfl
 rw [HE.out]
 exact ⟨rfl, h.closeSame (made' := k.made) (x' := { x with text := c.text }) hn ec eB hT (st.sub (by simp [thrC]) (by simp)) rfl rfl (h.fine eB ((hT.label.keep (HKp.out _ _ st)).okay fun _ r => .inl r)) (h.fine eB ((hT.own.keep (HKp.out _ _ st)).okay fun _ r => .inl r))⟩
theorem kernel_Call_take (h : KerAt ok w g k css Bs) (hk : ∀ x ∈ k.threads, x.ok) (hn : n < 4) (hx64 : ¬ 64 < c.text.size) (hkd : c.kind = 7) :
  Calls Try.prog 13 #[.pointer (some ⟨g, 0, none⟩), .int .i64 n, reqV c la lc ga gc] w (CallPost ok w g Bs (callK k n c)) := by
 obtain ⟨x, xa, xc, oa, oc, ba, bc, ma, mc, ex, ec, eB, hT, hb⟩ := h.open hn
 have hx := hk x (mgE ex)
 have hpre := h.preLen hn
 have hth := Ker.thr_at ex
 have st0 := St.hand hb
 unfold thrC at st0
 have d1 : decide ((n : Int) < 0) = false := by simp
 have d2 : decide ((4 : Int) ≤ n) = false := by simp; omega
 have d64 := text_size hx64
 have hgg : ¬ ok g := h.apart g (by simp)
 have HKp := qh (show ∀ (W : World) (bl : Blks), St [g] w W bl → Keeps ok w W from fun W bl s => s.keeps (by simpa using hgg))
 have HB := qh (show ∀ (W : World) (bl : Blks), St [g] w W bl → (g, 58, winC (preC k css n) [.slice xa x.label.length xc, .slice oa x.own.length oc, .string x.text, .slice ba x.objects.length bc, .slice ma x.mails.length mc] (postC k css n)) ∈ bl → Below w.heap.size w W from fun W bl s hm => st0.below2 s (by simpa using hm))
 have hxl := goodL_len hx.good; have hxo := hx.ownL; have hxm := hx.mailN; have hxb := hx.objs; have hxt := hx.text
 have st := st0
 clear st0
 unfold reqV
 have HE := qh (show callK k (n : Int) c = (k.put n (takeX x).1, (takeX x).2) by unfold callK takeK; simp [hkd, hth])
 rw [hkd]
 clear hkd
 have hmne : ma.map (·.block) ≠ some g := fun e => h.gOut eB (mem_rows2.2 (.inr e))
 have HT := qh (fun (W : World) (hB : Below w.heap.size w W) (hb : W.heap[g]? = some (.cells (winC (preC k css n) (thrC x xa xc oa oc ba bc ma mc) (postC k css n)).toArray 58 (0, 0))) => kernel_take (fun b => ok b ∧ b < w.heap.size) W g _ _ _ x xa xc oa oc ba bc ma mc hpre hx (hT.later hB) (fun h => hgg h.1) hmne hb)
 obtain ⟨hrl, hro⟩ := takeX_same x
 generalize takeX x = r at HT HE hrl hro
 have HRl := qh hrl
 have HRo := qh hro
 clear hrl hro
 have hgw := h.lt g (by simp)
 unfold thrC at HT
 go_enter Try.func13, Try.ntmps13
 go_wp2_with (first | go_skip | (with_reducible refine mB 40 st ?_; clear st; intro g5 w5 hg5 st) | (with_reducible refine mA st Try.zeroValue52 ?_; clear st; intro g6 w6 hg6 st) | (with_reducible refine mX st Try.isAgg9 ?_) | (with_reducible refine mX st Try.isAgg3 ?_) | (go_at_call 32; go_must (refine (call_no _ _).mono ?_; rintro e vn ⟨rfl, hbn⟩; replace st := st.call hbn; clear hbn)) | (with_reducible refine mS 2 st Try.sizeOf52 ?_; clear st; intro w7 st hw7m hw7z))
 have hl5 := st.ltAt (i := 1) rfl
 have hl6 := st.ltAt (i := 2) rfl
 have hBW := HB.out _ _ st (by simp)
 have hsW := hBW.size
 refine (HT.out _ hBW (st.blk _ (mgE (i := 0) rfl))).mono ?_
 rintro e W1 ⟨oa', oc', ma', mc', rfl, hk1, hown, hrow, hblk⟩
 have hzW := hk1.size
 replace st := st.turn (i := 0) rfl hk1
 simp only [List.set_cons_zero] at st
 unfold RepV
 go_wp2_with (first | go_skip | (with_reducible refine mS 2 st Try.sizeOf52 ?_; clear st; intro w7 st hw7m hw7z))
 have hc := fun j => st.cell (i := 2) rfl j
 refine bodyPost_ret (v := RepV r.2) ?hr rfl ?_
 case hr => simp [results, Try.results13, go_sem, hc, RepV]; try rfl
 rw [HE.out]
 refine ⟨rfl, h.closeMails (made' := k.made) (x' := r.1) (x := x) (la' := xa) (lc' := xc) (oa' := oa') (oc' := oc') (ma' := ma') (mc' := mc') hn ec eB hT (st.sub (by simp [thrC]) (by simp)) HRo.out (h.fine eB ?_) (h.fine eB ?_) ?_ hblk⟩
 ·rw [HRl.out]; exact (hT.label.keep (HKp.out _ _ st)).okay fun _ r => .inl r
 ·refine (hown.move (by omega) (fun b hb ho => ⟨ho, hw7m b ?_⟩) fun _ _ r => r).okay fun b ho => ?_
  ·rcases ho with ho | ho
   ·have := ho.2; omega
   ·omega
  ·rcases ho with ho | ho
   ·exact .inl ho.1
   ·exact .inr (by omega)
 ·refine hrow.kept (fun b e => hw7m b ?_) fun _ _ r => r.move (by omega) fun b hb ho => ⟨⟨.inl ho.1, fun hm => ?_⟩, ?_⟩
  ·have := hT.mails.lt (hblk b e); omega
  ·rcases List.mem_cons.1 hm with rfl | hm
   ·exact hgg ho.1
   ·exact h.apartAt eB hm ho.1
  ·exact ((HKp.out _ _ st).block b ho.2 ho.1).trans (hBW.block b ho.2).symm
theorem kernel_Call_cat_full (h : KerAt ok w g k css Bs) (hk : ∀ x ∈ k.threads, x.ok) (hn : n < 4) (hx64 : ¬ 64 < c.text.size) (hkd : c.kind = 1) (hh0 : 0 ≤ k.host) (hh4 : k.host < 4) (hm0 : 0 ≤ k.made) (hm20 : k.made ≤ 20) (hf : 20 ≤ k.made) :
  Calls Try.prog 13 #[.pointer (some ⟨g, 0, none⟩), .int .i64 n, reqV c la lc ga gc] w (CallPost ok w g Bs (callK k n c)) := by
 obtain ⟨x, xa, xc, oa, oc, ba, bc, ma, mc, ex, ec, eB, hT, hb⟩ := h.open hn
 have hx := hk x (mgE ex)
 have hpre := h.preLen hn
 have hth := Ker.thr_at ex
 have st0 := St.hand hb
 unfold thrC at st0
 have d1 : decide ((n : Int) < 0) = false := by simp
 have d2 : decide ((4 : Int) ≤ n) = false := by simp; omega
 have d64 := text_size hx64
 have hgg : ¬ ok g := h.apart g (by simp)
 have HKp := qh (show ∀ (W : World) (bl : Blks), St [g] w W bl → Keeps ok w W from fun W bl s => s.keeps (by simpa using hgg))
 have HB := qh (show ∀ (W : World) (bl : Blks), St [g] w W bl → (g, 58, winC (preC k css n) [.slice xa x.label.length xc, .slice oa x.own.length oc, .string x.text, .slice ba x.objects.length bc, .slice ma x.mails.length mc] (postC k css n)) ∈ bl → Below w.heap.size w W from fun W bl s hm => st0.below2 s (by simpa using hm))
 have hxl := goodL_len hx.good; have hxo := hx.ownL; have hxm := hx.mailN; have hxb := hx.objs; have hxt := hx.text
 have st := st0
 clear st0
 unfold reqV
 have hmade := h.madeAt hn
 have hhost := h.host n
 have hlen := h.len22 hn
 have hput := h.madePut hn
 have hx8 := hx.ownL
 have HO := qh (fun (W : World) (hB : Below w.heap.size w W) (hb : W.heap[g]? = some (.cells (winC (preC k css n) [.slice xa x.label.length xc, .slice oa x.own.length oc, .string x.text, .slice ba x.objects.length bc, .slice ma x.mails.length mc] (postC k css n)).toArray 58 (0, 0))) => kernel_own (fun b => ok b ∧ b < w.heap.size) W g _ _ _ _ _ _ _ oa oc x.own (k.host * 20 + k.made) hpre hx.own hx8 (hT.later hB).own (fun h => hgg h.1) hb)
 have HE := qh (show callK k (n : Int) c = (k, errR 5) by unfold callK; simp [hkd, hf])
 have d5 : decide (20 ≤ k.made) = true := by simp; omega
 rw [hkd]
 clear hkd
 go_enter Try.func13, Try.ntmps13
 go_wp2_with (first | go_skip | (with_reducible refine mB 40 st ?_; clear st; intro g5 w5 hg5 st) | (with_reducible refine mA st Try.zeroValue52 ?_; clear st; intro g6 w6 hg6 st) | (with_reducible refine mX st Try.isAgg9 ?_) | (with_reducible refine mX st Try.isAgg3 ?_) | (go_at_call 32; go_must (refine (call_no _ _).mono ?_; rintro e vn ⟨rfl, hbn⟩; replace st := st.call hbn; clear hbn)) | (with_reducible refine mS 2 st Try.sizeOf52 ?_; clear st; intro w7 st hw7m hw7z) | (with_reducible refine at_load 3 ?_; refine mem_load' st 3 _ rfl (wanted_none rfl) Try.isAgg3 ?_; refine ⟨0, _, _, _, _, _, rfl, rfl, hmade _ _ _ _ _, ?_⟩))
 have hc := fun j => st.cell (i := 2) rfl j
 refine bodyPost_ret (v := RepV (errR 5)) ?hr rfl ?_
 case hr => simp [results, Try.results13, go_sem, hc, RepV, errR]; try rfl
 rw [HE.out]
 exact ⟨rfl, KerTo.none h (HB.out _ _ st (by simp))⟩
theorem kernel_Call_cat_room (h : KerAt ok w g k css Bs) (hk : ∀ x ∈ k.threads, x.ok) (hn : n < 4) (hx64 : ¬ 64 < c.text.size) (hkd : c.kind = 1) (hh0 : 0 ≤ k.host) (hh4 : k.host < 4) (hm0 : 0 ≤ k.made) (hm20 : k.made ≤ 20) (hf : k.made < 20) (hof : (ownC (k.thr n).own (k.host * 20 + k.made)).2 ≠ 0) :
  Calls Try.prog 13 #[.pointer (some ⟨g, 0, none⟩), .int .i64 n, reqV c la lc ga gc] w (CallPost ok w g Bs (callK k n c)) := by
 obtain ⟨x, xa, xc, oa, oc, ba, bc, ma, mc, ex, ec, eB, hT, hb⟩ := h.open hn
 have hx := hk x (mgE ex)
 have hpre := h.preLen hn
 have hth := Ker.thr_at ex
 have st0 := St.hand hb
 unfold thrC at st0
 have d1 : decide ((n : Int) < 0) = false := by simp
 have d2 : decide ((4 : Int) ≤ n) = false := by simp; omega
 have d64 := text_size hx64
 have hgg : ¬ ok g := h.apart g (by simp)
 have HKp := qh (show ∀ (W : World) (bl : Blks), St [g] w W bl → Keeps ok w W from fun W bl s => s.keeps (by simpa using hgg))
 have HB := qh (show ∀ (W : World) (bl : Blks), St [g] w W bl → (g, 58, winC (preC k css n) [.slice xa x.label.length xc, .slice oa x.own.length oc, .string x.text, .slice ba x.objects.length bc, .slice ma x.mails.length mc] (postC k css n)) ∈ bl → Below w.heap.size w W from fun W bl s hm => st0.below2 s (by simpa using hm))
 have hxl := goodL_len hx.good; have hxo := hx.ownL; have hxm := hx.mailN; have hxb := hx.objs; have hxt := hx.text
 have st := st0
 clear st0
 unfold reqV
 have hmade := h.madeAt hn
 have hhost := h.host n
 have hlen := h.len22 hn
 have hput := h.madePut hn
 have hx8 := hx.ownL
 have HO := qh (fun (W : World) (hB : Below w.heap.size w W) (hb : W.heap[g]? = some (.cells (winC (preC k css n) [.slice xa x.label.length xc, .slice oa x.own.length oc, .string x.text, .slice ba x.objects.length bc, .slice ma x.mails.length mc] (postC k css n)).toArray 58 (0, 0))) => kernel_own (fun b => ok b ∧ b < w.heap.size) W g _ _ _ _ _ _ _ oa oc x.own (k.host * 20 + k.made) hpre hx.own hx8 (hT.later hB).own (fun h => hgg h.1) hb)
 rw [hth] at hof
 obtain ⟨⟨o2, e2⟩, HP⟩ : ∃ r, Hid (ownC x.own (k.host * 20 + k.made) = r) := ⟨_, rfl⟩
 rw [HP.out] at HO
 have hlo := ownC_lo x.own (k.host * 20 + k.made)
 rw [HP.out] at hlo
 have d5 : decide (20 ≤ k.made) = false := by simp; omega
 have hf' : ¬ 20 ≤ k.made := by omega
 rw [HP.out] at hof
 have HE := qh (show callK k (n : Int) c = (k, errR 5) by unfold callK; simp [hkd, hf', hth, HP.out, hof])
 rcases hlo with hlo | ⟨hlo, hlo2⟩
 ·exact absurd hlo hof
 obtain rfl : e2 = 5 := hlo
 obtain rfl : o2 = x.own := hlo2
 clear hof hf'
 rw [hkd]
 clear hkd
 go_enter Try.func13, Try.ntmps13
 go_wp2_with (first | go_skip | (with_reducible refine mB 40 st ?_; clear st; intro g5 w5 hg5 st) | (with_reducible refine mA st Try.zeroValue52 ?_; clear st; intro g6 w6 hg6 st) | (with_reducible refine mX st Try.isAgg9 ?_) | (with_reducible refine mX st Try.isAgg3 ?_) | (go_at_call 32; go_must (refine (call_no _ _).mono ?_; rintro e vn ⟨rfl, hbn⟩; replace st := st.call hbn; clear hbn)) | (with_reducible refine mS 2 st Try.sizeOf52 ?_; clear st; intro w7 st hw7m hw7z) | (with_reducible refine at_load 3 ?_; refine mem_load' st 3 _ rfl (wanted_none rfl) Try.isAgg3 ?_; refine ⟨0, _, _, _, _, _, rfl, rfl, hmade _ _ _ _ _, ?_⟩))
 have e20 : IntKind.i64.wrap (k.host * 20) = k.host * 20 := IntWalk.i64_in _ (by omega)
 have e21 : IntKind.i64.wrap (k.host * 20 + k.made) = k.host * 20 + k.made := IntWalk.i64_in _ (by omega)
 refine det_region (by kernel_rfl) 11 rfl (fun W => St [g] w W [(g, 58, winC (preC k css n) [.slice xa x.label.length xc, .slice oa x.own.length oc, .string x.text, .slice ba x.objects.length bc, .slice ma x.mails.length mc] (postC k css n)), (g5, 40, [.int .i64 1, .int .i64 c.h, .int .i64 c.t, .int .i64 c.n, .int .i64 c.c, .slice la c.label.length lc, .slice ga c.grants.length gc, .string c.text]), (g6, 52, [.int .i64 0, .int .i64 0, .string ⟨#[]⟩])]) (st.drew) (by decide +kernel) ?_
 refine detS 0 rfl ?_; refine detS 1 rfl ?_; refine detS 2 rfl ?_
 refine det_take (v := .int .i64 k.host) 3 rfl (by decide +kernel) (wanted_none rfl) (fun W hW => St.run_load hW 0 3 _ rfl Try.isAgg3 rfl rfl (hhost _ _)) ?_; simp only [kP, kA, kS, kZ]
 refine detT (v := .int .i64 (k.host * 20)) 4 rfl (fun W hW => by (go_simp; done)) ?_
 refine detS 5 rfl ?_; refine detS 6 rfl ?_; refine detS 7 rfl ?_
 refine det_take (v := .int .i64 k.made) 8 rfl (by decide +kernel) (wanted_none rfl) (fun W hW => St.run_load hW 0 3 _ rfl Try.isAgg3 rfl rfl (hmade _ _ _ _ _)) ?_; simp only [kP, kA, kS, kZ]
 refine detT (v := .int .i64 (k.host * 20 + k.made)) 9 rfl (fun W hW => by (go_simp; done)) ?_
 refine detS 10 rfl ?_
 refine det_done (by decide +kernel) ?_
 clear st e20 e21
 intro W st
 have hBW := HB.out _ _ st (by simp)
 have hsW := hBW.size
 have hl5 := st.ltAt (i := 1) rfl
 have hl6 := st.ltAt (i := 2) rfl
 have hgw := h.lt g (by simp)
 go_wp2_with fail
 refine (HO.out _ hBW (st.blk _ (mgE (i := 0) rfl))).mono ?_
 rintro e W1 ⟨oa', oc', rfl, hk1, hown⟩
 have hzW := hk1.size
 replace st := st.turn (i := 0) rfl hk1
 simp only [List.set_cons_zero] at st
 go_wp2_with (first | go_skip | (go_at_call 32; go_must (refine (call_no _ _).mono ?_; rintro e vn ⟨rfl, hbv⟩; replace st := st.call hbv; have hvs := hbv.size)) | (with_reducible refine mS 2 st Try.sizeOf52 ?_; clear st; intro w7 st hw7m hw7z))
 have hc := fun j => st.cell (i := 2) rfl j
 refine bodyPost_ret (v := RepV (errR 5)) ?hr rfl ?_
 case hr => simp [results, Try.results13, go_sem, hc, RepV, errR]; try rfl
 rw [HE.out]
 have hcl : KerTo ok w g Bs w7 { k.put n x with made := k.made } := h.closeSame (made' := k.made) (x' := x) (x := x) (la' := xa) (lc' := xc) (oa' := oa') (oc' := oc') hn ec eB hT (st.sub (by simp [thrC]) (by simp)) rfl rfl (h.fine eB ((hT.label.keep (HKp.out _ _ st)).okay fun _ r => .inl r)) (h.fine eB ((hown.move (by omega) (fun b hb ho => ⟨ho, (hw7m b (by rcases ho with ho | ho <;> omega)).trans (hbv.block b hb)⟩) fun _ _ r => r).okay fun b ho => by
  rcases ho with ho | ho
  ·exact .inl ho.1
  ·exact .inr (by omega)))
 rw [Ker.put_self ex] at hcl
 exact ⟨rfl, hcl⟩
theorem kernel_Call_cat (h : KerAt ok w g k css Bs) (hk : ∀ x ∈ k.threads, x.ok) (hn : n < 4) (hx64 : ¬ 64 < c.text.size) (hkd : c.kind = 1) (hh0 : 0 ≤ k.host) (hh4 : k.host < 4) (hm0 : 0 ≤ k.made) (hm20 : k.made ≤ 20)  (hf : k.made < 20) (hof : (ownC (k.thr n).own (k.host * 20 + k.made)).2 = 0) :
  Calls Try.prog 13 #[.pointer (some ⟨g, 0, none⟩), .int .i64 n, reqV c la lc ga gc] w (CallPost ok w g Bs (callK k n c)) := by
 obtain ⟨x, xa, xc, oa, oc, ba, bc, ma, mc, ex, ec, eB, hT, hb⟩ := h.open hn
 have hx := hk x (mgE ex)
 have hpre := h.preLen hn
 have hth := Ker.thr_at ex
 have st0 := St.hand hb
 unfold thrC at st0
 have d1 : decide ((n : Int) < 0) = false := by simp
 have d2 : decide ((4 : Int) ≤ n) = false := by simp; omega
 have d64 := text_size hx64
 have hgg : ¬ ok g := h.apart g (by simp)
 have HKp := qh (show ∀ (W : World) (bl : Blks), St [g] w W bl → Keeps ok w W from fun W bl s => s.keeps (by simpa using hgg))
 have HB := qh (show ∀ (W : World) (bl : Blks), St [g] w W bl → (g, 58, winC (preC k css n) [.slice xa x.label.length xc, .slice oa x.own.length oc, .string x.text, .slice ba x.objects.length bc, .slice ma x.mails.length mc] (postC k css n)) ∈ bl → Below w.heap.size w W from fun W bl s hm => st0.below2 s (by simpa using hm))
 have hxl := goodL_len hx.good; have hxo := hx.ownL; have hxm := hx.mailN; have hxb := hx.objs; have hxt := hx.text
 have st := st0
 clear st0
 unfold reqV
 have hmade := h.madeAt hn
 have hhost := h.host n
 have hlen := h.len22 hn
 have hput := h.madePut hn
 have hx8 := hx.ownL
 have HO := qh (fun (W : World) (hB : Below w.heap.size w W) (hb : W.heap[g]? = some (.cells (winC (preC k css n) [.slice xa x.label.length xc, .slice oa x.own.length oc, .string x.text, .slice ba x.objects.length bc, .slice ma x.mails.length mc] (postC k css n)).toArray 58 (0, 0))) => kernel_own (fun b => ok b ∧ b < w.heap.size) W g _ _ _ _ _ _ _ oa oc x.own (k.host * 20 + k.made) hpre hx.own hx8 (hT.later hB).own (fun h => hgg h.1) hb)
 rw [hth] at hof
 obtain ⟨⟨o2, e2⟩, HP⟩ : ∃ r, Hid (ownC x.own (k.host * 20 + k.made) = r) := ⟨_, rfl⟩
 rw [HP.out] at HO
 have hlo := ownC_lo x.own (k.host * 20 + k.made)
 rw [HP.out] at hlo
 have d5 : decide (20 ≤ k.made) = false := by simp; omega
 have hf' : ¬ 20 ≤ k.made := by omega
 rw [HP.out] at hof
 obtain rfl : e2 = 0 := hof
 have HE := qh (show callK k (n : Int) c = ({ k.put n { x with own := o2 } with made := k.made + 1 }, ⟨0, k.host * 20 + k.made, ⟨#[]⟩⟩) by unfold callK; simp [hkd, hf', hth, HP.out])
 clear hlo hf'
 rw [hkd]
 clear hkd
 go_enter Try.func13, Try.ntmps13
 go_wp2_with (first | go_skip | (with_reducible refine mB 40 st ?_; clear st; intro g5 w5 hg5 st) | (with_reducible refine mA st Try.zeroValue52 ?_; clear st; intro g6 w6 hg6 st) | (with_reducible refine mX st Try.isAgg9 ?_) | (with_reducible refine mX st Try.isAgg3 ?_) | (go_at_call 32; go_must (refine (call_no _ _).mono ?_; rintro e vn ⟨rfl, hbn⟩; replace st := st.call hbn; clear hbn)) | (with_reducible refine mS 2 st Try.sizeOf52 ?_; clear st; intro w7 st hw7m hw7z) | (with_reducible refine at_load 3 ?_; refine mem_load' st 3 _ rfl (wanted_none rfl) Try.isAgg3 ?_; refine ⟨0, _, _, _, _, _, rfl, rfl, hmade _ _ _ _ _, ?_⟩))
 have e20 : IntKind.i64.wrap (k.host * 20) = k.host * 20 := IntWalk.i64_in _ (by omega)
 have e21 : IntKind.i64.wrap (k.host * 20 + k.made) = k.host * 20 + k.made := IntWalk.i64_in _ (by omega)
 refine det_region (by kernel_rfl) 11 rfl (fun W => St [g] w W [(g, 58, winC (preC k css n) [.slice xa x.label.length xc, .slice oa x.own.length oc, .string x.text, .slice ba x.objects.length bc, .slice ma x.mails.length mc] (postC k css n)), (g5, 40, [.int .i64 1, .int .i64 c.h, .int .i64 c.t, .int .i64 c.n, .int .i64 c.c, .slice la c.label.length lc, .slice ga c.grants.length gc, .string c.text]), (g6, 52, [.int .i64 0, .int .i64 0, .string ⟨#[]⟩])]) (st.drew) (by decide +kernel) ?_
 refine detS 0 rfl ?_; refine detS 1 rfl ?_; refine detS 2 rfl ?_
 refine det_take (v := .int .i64 k.host) 3 rfl (by decide +kernel) (wanted_none rfl) (fun W hW => St.run_load hW 0 3 _ rfl Try.isAgg3 rfl rfl (hhost _ _)) ?_; simp only [kP, kA, kS, kZ]
 refine detT (v := .int .i64 (k.host * 20)) 4 rfl (fun W hW => by (go_simp; done)) ?_
 refine detS 5 rfl ?_; refine detS 6 rfl ?_; refine detS 7 rfl ?_
 refine det_take (v := .int .i64 k.made) 8 rfl (by decide +kernel) (wanted_none rfl) (fun W hW => St.run_load hW 0 3 _ rfl Try.isAgg3 rfl rfl (hmade _ _ _ _ _)) ?_; simp only [kP, kA, kS, kZ]
 refine detT (v := .int .i64 (k.host * 20 + k.made)) 9 rfl (fun W hW => by (go_simp; done)) ?_
 refine detS 10 rfl ?_
 refine det_done (by decide +kernel) ?_
 clear st e20 e21
 intro W st
 have hBW := HB.out _ _ st (by simp)
 have hsW := hBW.size
 have hl5 := st.ltAt (i := 1) rfl
 have hl6 := st.ltAt (i := 2) rfl
 have hgw := h.lt g (by simp)
 go_wp2_with fail
 refine (HO.out _ hBW (st.blk _ (mgE (i := 0) rfl))).mono ?_
 rintro e W1 ⟨oa', oc', rfl, hk1, hown⟩
 have hzW := hk1.size
 replace st := st.turn (i := 0) rfl hk1
 simp only [List.set_cons_zero] at st
 go_wp2_with (first
  | go_skip | (with_reducible refine at_load 3 ?_; refine mem_load' st 3 _ rfl (wanted_none rfl) Try.isAgg3 ?_; refine ⟨0, _, _, _, _, _, rfl, rfl, hmade _ _ _ _ _, ?_⟩)
  | ((with_reducible refine at_store 3 ?_); refine mem_store st (wanted_none rfl) 3 _ _ rfl g 21 rfl _ rfl [.int .i64 (k.made + 1)] rfl Try.sizeOf3 (by simp [Value.oneCell']) 0 _ _ rfl (by rw [hlen]; simp) ?_; clear st; intro w8 st hw8m hw8z; rw [hput] at st; simp only [List.set_cons_zero] at st)
  | (with_reducible refine mS 2 st Try.sizeOf52 ?_; clear st; intro w7 st hw7m hw7z))
 have hc := fun j => st.cell (i := 2) rfl j
 refine bodyPost_ret (v := RepV ⟨0, k.host * 20 + k.made, ⟨#[]⟩⟩) ?hr rfl ?_
 case hr => simp [results, Try.results13, go_sem, hc, RepV, errR]; try rfl
 rw [HE.out]
 exact ⟨rfl, h.closeSame (made' := k.made + 1) (x' := { x with own := o2 }) (x := x) (la' := xa) (lc' := xc) (oa' := oa') (oc' := oc') hn ec eB hT (st.sub (by simp [thrC]) (by simp)) rfl rfl (h.fine eB ((hT.label.keep (HKp.out _ _ st)).okay fun _ r => .inl r)) (h.fine eB ((hown.move (by omega) (fun b hb ho => ⟨ho, (hw7m b (by rcases ho with ho | ho <;> omega)).trans (hw8m b (by rcases ho with ho | ho; exact fun e => hgg (e ▸ ho.1); omega))⟩) fun _ _ r => r).okay fun b ho => by
  rcases ho with ho | ho
  ·exact .inl ho.1
  ·exact .inr (by omega)))⟩
end
section
variable (ok okc : Nat → Prop) (w : World) (g : Nat) (k : Ker) (css : List (List Value)) (Bs : List (List Nat)) (n : Nat) (c : Req) (la : Option Addr) (lc : Nat) (ga : Option Addr) (gc : Nat)
theorem setR_len (l : List Lev) (c n : Int) : (setR l c n).1.length ≤ 8 := by
 rcases setR_cases l c n with ⟨k, h, _⟩ | ⟨h, _, _, _, h8⟩ <;> rw [h]
 ·simp
 ·exact h8
theorem kernel_Call_level_no (h : KerAt ok w g k css Bs) (hk : ∀ x ∈ k.threads, x.ok) (hn : n < 4) (hx64 : ¬ 64 < c.text.size) (hkd : c.kind = 5) (he : (setR (k.thr n).label c.c c.n).2 ≠ 0) :
  Calls Try.prog 13 #[.pointer (some ⟨g, 0, none⟩), .int .i64 n, reqV c la lc ga gc] w (CallPost ok w g Bs (callK k n c)) := by
 obtain ⟨x, xa, xc, oa, oc, ba, bc, ma, mc, ex, ec, eB, hT, hb⟩ := h.open hn
 have hx := hk x (mgE ex)
 have hpre := h.preLen hn
 have hth := Ker.thr_at ex
 have st0 := St.hand hb
 unfold thrC at st0
 have d1 : decide ((n : Int) < 0) = false := by simp
 have d2 : decide ((4 : Int) ≤ n) = false := by simp; omega
 have d64 := text_size hx64
 have hgg : ¬ ok g := h.apart g (by simp)
 have HKp := qh (show ∀ (W : World) (bl : Blks), St [g] w W bl → Keeps ok w W from fun W bl s => s.keeps (by simpa using hgg))
 have HB := qh (show ∀ (W : World) (bl : Blks), St [g] w W bl → (g, 58, winC (preC k css n) [.slice xa x.label.length xc, .slice oa x.own.length oc, .string x.text, .slice ba x.objects.length bc, .slice ma x.mails.length mc] (postC k css n)) ∈ bl → Below w.heap.size w W from fun W bl s hm => st0.below2 s (by simpa using hm))
 have hxl := goodL_len hx.good; have hxo := hx.ownL; have hxm := hx.mailN; have hxb := hx.objs; have hxt := hx.text
 have st := st0
 clear st0
 unfold reqV
 have hlen := setR_len x.label c.c c.n
 have HS := qh (fun (W : World) (bl : Blks) (hW : St [g] w W bl) => label_Set ok W xa xc x.label c.c c.n (by omega) (hT.label.keep (HKp.out W _ hW)))
 have hgw := h.lt g (by simp)
 have HE := qh (show callK k (n : Int) c = (k, errR (setR x.label c.c c.n).2) by unfold callK; rw [hth] at he; simp [hkd, hth, he])
 rw [hth] at he
 have hq : ((setR x.label c.c c.n).2 != 0) = true := by simpa using he
 clear he
 generalize setR x.label c.c c.n = r at *
 rw [hkd]
 clear hkd
 go_enter Try.func13, Try.ntmps13
 go_wp2_with (first | go_skip | (with_reducible refine mB 40 st ?_; clear st; intro g5 w5 hg5 st) | (with_reducible refine mA st Try.zeroValue52 ?_; clear st; intro g6 w6 hg6 st) | (with_reducible refine mX st Try.isAgg9 ?_) | (with_reducible refine mX st Try.isAgg3 ?_) | (go_at_call 32; go_must (refine (call_no _ _).mono ?_; rintro e vn ⟨rfl, hbn⟩; replace st := st.call hbn; clear hbn)) | (with_reducible refine mS 2 st Try.sizeOf52 ?_; clear st; intro w7 st hw7m hw7z))
 have st := st.drew
 have hI := st
 refine lex_region (by kernel_rfl) 14 rfl (fun W => St [g] w W [(g, 58, winC (preC k css n) [.slice xa x.label.length xc, .slice oa x.own.length oc, .string x.text, .slice ba x.objects.length bc, .slice ma x.mails.length mc] (postC k css n)), (g5, 40, [.int .i64 5, .int .i64 c.h, .int .i64 c.t, .int .i64 c.n, .int .i64 c.c, .slice la c.label.length lc, .slice ga c.grants.length gc, .string c.text]), (g6, 52, [.int .i64 0, .int .i64 0, .string ⟨#[]⟩])]) ?_
 refine lexS 0 rfl hI ?_
 refine lexS 1 rfl hI ?_
 refine lexS 2 rfl hI ?_
 refine lexT 3 rfl hI (fun W hW => St.run_loadW hW 0 30 _ rfl Try.isAgg30 0 hpre rfl rfl rfl) ?_
 refine lexS 4 rfl hI ?_
 refine lexT 5 rfl hI (fun W hW => St.run_load hW 1 3 _ rfl Try.isAgg3 rfl rfl rfl) ?_
 refine lexS 6 rfl hI ?_
 refine lexT 7 rfl hI (fun W hW => St.run_load hW 1 3 _ rfl Try.isAgg3 rfl rfl rfl) ?_
 clear hI
 refine lexO 8 rfl fun K hK => ?_
 refine wp_callee (f := 37) (by first | (go_simp; done) | (go_simp; rfl)) ?_
 refine (HS.out _ _ st).mono ?_
 rintro e v1 ⟨a1, k1, rfl, hb1, hO⟩
 have hl5 := st.ltAt (i := 1) rfl
 have hl6 := st.ltAt (i := 2) rfl
 have hbs := st.size
 have hbz := hb1.size
 refine ⟨_, rfl, ?_⟩
 replace st := st.call hb1
 clear hb1
 refine hK _ _ (st) ?_; clear hK; simp only [kP, kA, kS, kZ]
 have hI := st
 refine lexS 9 rfl hI ?_
 refine lexS 10 rfl hI ?_
 refine lexS 11 rfl hI ?_
 refine lexS 12 rfl hI ?_
 refine lexS 13 rfl hI ?_
 clear hI
 refine lex_done (by decide +kernel) ?_
 go_wp2_with (first | go_skip | (go_at_call 32; go_must (refine (call_no _ _).mono ?_; rintro e vn ⟨rfl, hbn⟩; replace st := st.call hbn; clear hbn)) | (with_reducible refine mS 2 st Try.sizeOf52 ?_; clear st; intro w7 st hw7m hw7z))
 have hc := fun j => st.cell (i := 2) rfl j
 refine bodyPost_ret (v := RepV (errR r.2)) ?hr rfl ?_
 case hr => simp [results, Try.results13, go_sem, hc, RepV, errR]; try rfl
 rw [HE.out]
 exact ⟨rfl, KerTo.none h (HB.out _ _ st (by simp))⟩
theorem kernel_Call_level_low (h : KerAt ok w g k css Bs) (hk : ∀ x ∈ k.threads, x.ok) (hn : n < 4) (hx64 : ¬ 64 < c.text.size) (hkd : c.kind = 5) (he : (setR (k.thr n).label c.c c.n).2 = 0) (hf : flowsL (k.thr n).label (setR (k.thr n).label c.c c.n).1 (k.thr n).own = false) :
  Calls Try.prog 13 #[.pointer (some ⟨g, 0, none⟩), .int .i64 n, reqV c la lc ga gc] w (CallPost ok w g Bs (callK k n c)) := by
 obtain ⟨x, xa, xc, oa, oc, ba, bc, ma, mc, ex, ec, eB, hT, hb⟩ := h.open hn
 have hx := hk x (mgE ex)
 have hpre := h.preLen hn
 have hth := Ker.thr_at ex
 have st0 := St.hand hb
 unfold thrC at st0
 have d1 : decide ((n : Int) < 0) = false := by simp
 have d2 : decide ((4 : Int) ≤ n) = false := by simp; omega
 have d64 := text_size hx64
 have hgg : ¬ ok g := h.apart g (by simp)
 have HKp := qh (show ∀ (W : World) (bl : Blks), St [g] w W bl → Keeps ok w W from fun W bl s => s.keeps (by simpa using hgg))
 have HB := qh (show ∀ (W : World) (bl : Blks), St [g] w W bl → (g, 58, winC (preC k css n) [.slice xa x.label.length xc, .slice oa x.own.length oc, .string x.text, .slice ba x.objects.length bc, .slice ma x.mails.length mc] (postC k css n)) ∈ bl → Below w.heap.size w W from fun W bl s hm => st0.below2 s (by simpa using hm))
 have hxl := goodL_len hx.good; have hxo := hx.ownL; have hxm := hx.mailN; have hxb := hx.objs; have hxt := hx.text
 have st := st0
 clear st0
 unfold reqV
 have hlen := setR_len x.label c.c c.n
 have HS := qh (fun (W : World) (bl : Blks) (hW : St [g] w W bl) => label_Set ok W xa xc x.label c.c c.n (by omega) (hT.label.keep (HKp.out W _ hW)))
 have hgw := h.lt g (by simp)
 rw [hth] at he hf
 have HE := qh (show callK k (n : Int) c = (k, errR 6) by unfold callK; simp [hkd, hth, he, hf])
 have HL := qh hf
 have hq : ((setR x.label c.c c.n).2 != 0) = false := by simpa using he
 clear he hf
 generalize setR x.label c.c c.n = r at *
 rw [hkd]
 clear hkd
 go_enter Try.func13, Try.ntmps13
 go_wp2_with (first | go_skip | (with_reducible refine mB 40 st ?_; clear st; intro g5 w5 hg5 st) | (with_reducible refine mA st Try.zeroValue52 ?_; clear st; intro g6 w6 hg6 st) | (with_reducible refine mX st Try.isAgg9 ?_) | (with_reducible refine mX st Try.isAgg3 ?_) | (go_at_call 32; go_must (refine (call_no _ _).mono ?_; rintro e vn ⟨rfl, hbn⟩; replace st := st.call hbn; clear hbn)) | (with_reducible refine mS 2 st Try.sizeOf52 ?_; clear st; intro w7 st hw7m hw7z))
 have st := st.drew
 have hI := st
 refine lex_region (by kernel_rfl) 14 rfl (fun W => St [g] w W [(g, 58, winC (preC k css n) [.slice xa x.label.length xc, .slice oa x.own.length oc, .string x.text, .slice ba x.objects.length bc, .slice ma x.mails.length mc] (postC k css n)), (g5, 40, [.int .i64 5, .int .i64 c.h, .int .i64 c.t, .int .i64 c.n, .int .i64 c.c, .slice la c.label.length lc, .slice ga c.grants.length gc, .string c.text]), (g6, 52, [.int .i64 0, .int .i64 0, .string ⟨#[]⟩])]) ?_
 refine lexS 0 rfl hI ?_
 refine lexS 1 rfl hI ?_
 refine lexS 2 rfl hI ?_
 refine lexT 3 rfl hI (fun W hW => St.run_loadW hW 0 30 _ rfl Try.isAgg30 0 hpre rfl rfl rfl) ?_
 refine lexS 4 rfl hI ?_
 refine lexT 5 rfl hI (fun W hW => St.run_load hW 1 3 _ rfl Try.isAgg3 rfl rfl rfl) ?_
 refine lexS 6 rfl hI ?_
 refine lexT 7 rfl hI (fun W hW => St.run_load hW 1 3 _ rfl Try.isAgg3 rfl rfl rfl) ?_
 clear hI
 refine lexO 8 rfl fun K hK => ?_
 refine wp_callee (f := 37) (by first | (go_simp; done) | (go_simp; rfl)) ?_
 refine (HS.out _ _ st).mono ?_
 rintro e v1 ⟨a1, k1, rfl, hb1, hO⟩
 have hl5 := st.ltAt (i := 1) rfl
 have hl6 := st.ltAt (i := 2) rfl
 have hbs := st.size
 have hbz := hb1.size
 refine ⟨_, rfl, ?_⟩
 replace st := st.call hb1
 clear hb1
 refine hK _ _ (st) ?_; clear hK; simp only [kP, kA, kS, kZ]
 have hI := st
 refine lexS 9 rfl hI ?_
 refine lexS 10 rfl hI ?_
 refine lexS 11 rfl hI ?_
 refine lexS 12 rfl hI ?_
 refine lexS 13 rfl hI ?_
 clear hI
 refine lex_done (by decide +kernel) ?_
 have str := st.rebase
 have HF := qh (fun (W : World) (hB : Below v1.heap.size v1 W) => label_Flows (fun _ => True) W xa a1 oa xc k1 oc x.label r.1 x.own (by omega) (by omega) (((hT.label.keep (HKp.out _ _ st)).below hB).okay fun _ _ => trivial) ((hO.slr (ok := fun _ => True) fun _ _ => trivial).below hB) (((hT.own.keep (HKp.out _ _ st)).below hB).okay fun _ _ => trivial))
 rw [HL.out] at HF
 go_wp2_with (first | go_skip | fail)
 refine det_region (by kernel_rfl) 11 rfl (fun W => St [g, g5, g6] v1 W [(g, 58, winC (preC k css n) [.slice xa x.label.length xc, .slice oa x.own.length oc, .string x.text, .slice ba x.objects.length bc, .slice ma x.mails.length mc] (postC k css n)), (g5, 40, [.int .i64 5, .int .i64 c.h, .int .i64 c.t, .int .i64 c.n, .int .i64 c.c, .slice la c.label.length lc, .slice ga c.grants.length gc, .string c.text]), (g6, 52, [.int .i64 0, .int .i64 0, .string ⟨#[]⟩])]) (str.drew) (by decide +kernel) ?_
 refine detS 0 rfl ?_; refine detS 1 rfl ?_; refine detS 2 rfl ?_
 refine detT 3 rfl (fun W hW => St.run_loadW hW 0 30 _ rfl Try.isAgg30 0 hpre rfl rfl rfl) ?_
 refine detS 4 rfl ?_; refine detS 5 rfl ?_; refine detS 6 rfl ?_; refine detS 7 rfl ?_
 refine detT 8 rfl (fun W hW => St.run_loadW hW 0 31 _ rfl Try.isAgg31 1 hpre rfl rfl rfl) ?_
 refine det_call (fn := 21) 9 rfl (by decide +kernel) (by first | exact wanted_none rfl | exact wanted_some rfl rfl) (fun W => by first | (go_simp; done) | (go_simp; rfl)) (fun W hW => (HF.out W (str.below2 hW (by simp))).mono fun e w' h => ⟨h.1, hW.call h.2⟩) ?_; simp only [kP, kA, kS, kZ]
 refine detS 10 rfl ?_
 refine det_done (by decide +kernel) ?_
 intro W st2
 have hB2 := str.below2 st2 (by simp)
 replace st := st.call hB2
 replace hO := hO.below hB2
 have hb2z := hB2.size
 clear str st2 hB2
 go_wp2_with (first | go_skip | (go_at_call 32; go_must (refine (call_no _ _).mono ?_; rintro e vn ⟨rfl, hbn⟩; replace st := st.call hbn; clear hbn)) | (with_reducible refine mS 2 st Try.sizeOf52 ?_; clear st; intro w7 st hw7m hw7z))
 have hc := fun j => st.cell (i := 2) rfl j
 refine bodyPost_ret (v := RepV (errR 6)) ?hr rfl ?_
 case hr => simp [results, Try.results13, go_sem, hc, RepV, errR]; try rfl
 rw [HE.out]
 exact ⟨rfl, KerTo.none h (HB.out _ _ st (by simp))⟩
theorem kernel_Call_level_yes (h : KerAt ok w g k css Bs) (hk : ∀ x ∈ k.threads, x.ok) (hn : n < 4) (hx64 : ¬ 64 < c.text.size) (hkd : c.kind = 5) (he : (setR (k.thr n).label c.c c.n).2 = 0) (hf : flowsL (k.thr n).label (setR (k.thr n).label c.c c.n).1 (k.thr n).own = true) :
  Calls Try.prog 13 #[.pointer (some ⟨g, 0, none⟩), .int .i64 n, reqV c la lc ga gc] w (CallPost ok w g Bs (callK k n c)) := by
 obtain ⟨x, xa, xc, oa, oc, ba, bc, ma, mc, ex, ec, eB, hT, hb⟩ := h.open hn
 have hx := hk x (mgE ex)
 have hpre := h.preLen hn
 have hth := Ker.thr_at ex
 have st0 := St.hand hb
 unfold thrC at st0
 have d1 : decide ((n : Int) < 0) = false := by simp
 have d2 : decide ((4 : Int) ≤ n) = false := by simp; omega
 have d64 := text_size hx64
 have hgg : ¬ ok g := h.apart g (by simp)
 have HKp := qh (show ∀ (W : World) (bl : Blks), St [g] w W bl → Keeps ok w W from fun W bl s => s.keeps (by simpa using hgg))
 have HB := qh (show ∀ (W : World) (bl : Blks), St [g] w W bl → (g, 58, winC (preC k css n) [.slice xa x.label.length xc, .slice oa x.own.length oc, .string x.text, .slice ba x.objects.length bc, .slice ma x.mails.length mc] (postC k css n)) ∈ bl → Below w.heap.size w W from fun W bl s hm => st0.below2 s (by simpa using hm))
 have hxl := goodL_len hx.good; have hxo := hx.ownL; have hxm := hx.mailN; have hxb := hx.objs; have hxt := hx.text
 have st := st0
 clear st0
 unfold reqV
 have hlen := setR_len x.label c.c c.n
 have HS := qh (fun (W : World) (bl : Blks) (hW : St [g] w W bl) => label_Set ok W xa xc x.label c.c c.n (by omega) (hT.label.keep (HKp.out W _ hW)))
 have hgw := h.lt g (by simp)
 rw [hth] at he hf
 have HE := qh (show callK k (n : Int) c = (k.put n { x with label := (setR x.label c.c c.n).1 }, errR 0) by unfold callK; simp [hkd, hth, he, hf])
 have HL := qh hf
 have hq : ((setR x.label c.c c.n).2 != 0) = false := by simpa using he
 clear he hf
 generalize setR x.label c.c c.n = r at *
 rw [hkd]
 clear hkd
 go_enter Try.func13, Try.ntmps13
 go_wp2_with (first | go_skip | (with_reducible refine mB 40 st ?_; clear st; intro g5 w5 hg5 st) | (with_reducible refine mA st Try.zeroValue52 ?_; clear st; intro g6 w6 hg6 st) | (with_reducible refine mX st Try.isAgg9 ?_) | (with_reducible refine mX st Try.isAgg3 ?_) | (go_at_call 32; go_must (refine (call_no _ _).mono ?_; rintro e vn ⟨rfl, hbn⟩; replace st := st.call hbn; clear hbn)) | (with_reducible refine mS 2 st Try.sizeOf52 ?_; clear st; intro w7 st hw7m hw7z))
 have st := st.drew
 have hI := st
 refine lex_region (by kernel_rfl) 14 rfl (fun W => St [g] w W [(g, 58, winC (preC k css n) [.slice xa x.label.length xc, .slice oa x.own.length oc, .string x.text, .slice ba x.objects.length bc, .slice ma x.mails.length mc] (postC k css n)), (g5, 40, [.int .i64 5, .int .i64 c.h, .int .i64 c.t, .int .i64 c.n, .int .i64 c.c, .slice la c.label.length lc, .slice ga c.grants.length gc, .string c.text]), (g6, 52, [.int .i64 0, .int .i64 0, .string ⟨#[]⟩])]) ?_
 refine lexS 0 rfl hI ?_
 refine lexS 1 rfl hI ?_
 refine lexS 2 rfl hI ?_
 refine lexT 3 rfl hI (fun W hW => St.run_loadW hW 0 30 _ rfl Try.isAgg30 0 hpre rfl rfl rfl) ?_
 refine lexS 4 rfl hI ?_
 refine lexT 5 rfl hI (fun W hW => St.run_load hW 1 3 _ rfl Try.isAgg3 rfl rfl rfl) ?_
 refine lexS 6 rfl hI ?_
 refine lexT 7 rfl hI (fun W hW => St.run_load hW 1 3 _ rfl Try.isAgg3 rfl rfl rfl) ?_
 clear hI
 refine lexO 8 rfl fun K hK => ?_
 refine wp_callee (f := 37) (by first | (go_simp; done) | (go_simp; rfl)) ?_
 refine (HS.out _ _ st).mono ?_
 rintro e v1 ⟨a1, k1, rfl, hb1, hO⟩
 have hl5 := st.ltAt (i := 1) rfl
 have hl6 := st.ltAt (i := 2) rfl
 have hbs := st.size
 have hbz := hb1.size
 refine ⟨_, rfl, ?_⟩
 replace st := st.call hb1
 clear hb1
 refine hK _ _ (st) ?_; clear hK; simp only [kP, kA, kS, kZ]
 have hI := st
 refine lexS 9 rfl hI ?_
 refine lexS 10 rfl hI ?_
 refine lexS 11 rfl hI ?_
 refine lexS 12 rfl hI ?_
 refine lexS 13 rfl hI ?_
 clear hI
 refine lex_done (by decide +kernel) ?_
 have str := st.rebase
 have HF := qh (fun (W : World) (hB : Below v1.heap.size v1 W) => label_Flows (fun _ => True) W xa a1 oa xc k1 oc x.label r.1 x.own (by omega) (by omega) (((hT.label.keep (HKp.out _ _ st)).below hB).okay fun _ _ => trivial) ((hO.slr (ok := fun _ => True) fun _ _ => trivial).below hB) (((hT.own.keep (HKp.out _ _ st)).below hB).okay fun _ _ => trivial))
 rw [HL.out] at HF
 go_wp2_with (first | go_skip | fail)
 refine det_region (by kernel_rfl) 11 rfl (fun W => St [g, g5, g6] v1 W [(g, 58, winC (preC k css n) [.slice xa x.label.length xc, .slice oa x.own.length oc, .string x.text, .slice ba x.objects.length bc, .slice ma x.mails.length mc] (postC k css n)), (g5, 40, [.int .i64 5, .int .i64 c.h, .int .i64 c.t, .int .i64 c.n, .int .i64 c.c, .slice la c.label.length lc, .slice ga c.grants.length gc, .string c.text]), (g6, 52, [.int .i64 0, .int .i64 0, .string ⟨#[]⟩])]) (str.drew) (by decide +kernel) ?_
 refine detS 0 rfl ?_; refine detS 1 rfl ?_; refine detS 2 rfl ?_
 refine detT 3 rfl (fun W hW => St.run_loadW hW 0 30 _ rfl Try.isAgg30 0 hpre rfl rfl rfl) ?_
 refine detS 4 rfl ?_; refine detS 5 rfl ?_; refine detS 6 rfl ?_; refine detS 7 rfl ?_
 refine detT 8 rfl (fun W hW => St.run_loadW hW 0 31 _ rfl Try.isAgg31 1 hpre rfl rfl rfl) ?_
 refine det_call (fn := 21) 9 rfl (by decide +kernel) (by first | exact wanted_none rfl | exact wanted_some rfl rfl) (fun W => by first | (go_simp; done) | (go_simp; rfl)) (fun W hW => (HF.out W (str.below2 hW (by simp))).mono fun e w' h => ⟨h.1, hW.call h.2⟩) ?_; simp only [kP, kA, kS, kZ]
 refine detS 10 rfl ?_
 refine det_done (by decide +kernel) ?_
 intro W st2
 have hB2 := str.below2 st2 (by simp)
 replace st := st.call hB2
 replace hO := hO.below hB2
 have hb2z := hB2.size
 clear str st2 hB2
 have hO2 := hO.slr (ok := fun b => g6 < b) fun b hb => by omega
 go_wp2_with (first | go_skip | (with_reducible refine at_store 30 ?_; refine mem_storeW st 30 _ _ rfl (wanted_none rfl) _ Try.sizeOf30 0 ?_; refine ⟨0, _, _, _, _, _, _, _, hpre, rfl, rfl, rfl, rfl, rfl, rfl, ?_⟩; clear st; intro w8 st hw8m hw8z; simp [Act.eval, Act.put, Value.cells, putL] at st) | (go_at_call 32; go_must (refine (call_no _ _).mono ?_; rintro e vn ⟨rfl, hbv⟩; replace st := st.call hbv; have hvs := hbv.size)) | (with_reducible refine mS 2 st Try.sizeOf52 ?_; clear st; intro w7 st hw7m hw7z))
 have hc := fun j => st.cell (i := 2) rfl j
 refine bodyPost_ret (v := RepV (errR 0)) ?hr rfl ?_
 case hr => simp [results, Try.results13, go_sem, hc, RepV, errR]; try rfl
 rw [HE.out]
 exact ⟨rfl, h.closeSame (made' := k.made) (x' := { x with label := r.1 }) (x := x) (la' := a1) (lc' := k1) hn ec eB hT (st.sub (by simp [thrC]) (by simp)) rfl rfl (h.fine eB ((hO2.move (by omega) (fun b hb ho => ⟨ho, (hw7m b (by omega)).trans ((hbv.block b (by omega)).trans (hw8m b (by omega)))⟩) fun _ _ r => r).okay fun b ho => .inr (by omega))) (h.fine eB ((hT.own.keep (HKp.out _ _ st)).okay fun _ r => .inl r))⟩
end
section
variable (ok okc : Nat → Prop) (w : World) (g : Nat) (k : Ker) (css : List (List Value)) (Bs : List (List Nat)) (n : Nat) (c : Req) (la : Option Addr) (lc : Nat) (ga : Option Addr) (gc : Nat)
theorem kernel_Call_put_none (h : KerAt ok w g k css Bs) (hk : ∀ x ∈ k.threads, x.ok) (hn : n < 4) (hx64 : ¬ 64 < c.text.size) (hkd : c.kind = 3) (hob : k.obj c.t c.n = none) :
  Calls Try.prog 13 #[.pointer (some ⟨g, 0, none⟩), .int .i64 n, reqV c la lc ga gc] w (CallPost ok w g Bs (callK k n c)) := by
 obtain ⟨x, xa, xc, oa, oc, ba, bc, ma, mc, ex, ec, eB, hT, hb⟩ := h.open hn
 have hx := hk x (mgE ex)
 have hpre := h.preLen hn
 have hth := Ker.thr_at ex
 have st0 := St.hand hb
 unfold thrC at st0
 have d1 : decide ((n : Int) < 0) = false := by simp
 have d2 : decide ((4 : Int) ≤ n) = false := by simp; omega
 have d64 := text_size hx64
 have hgg : ¬ ok g := h.apart g (by simp)
 have HKp := qh (show ∀ (W : World) (bl : Blks), St [g] w W bl → Keeps ok w W from fun W bl s => s.keeps (by simpa using hgg))
 have HB := qh (show ∀ (W : World) (bl : Blks), St [g] w W bl → (g, 58, winC (preC k css n) [.slice xa x.label.length xc, .slice oa x.own.length oc, .string x.text, .slice ba x.objects.length bc, .slice ma x.mails.length mc] (postC k css n)) ∈ bl → Below w.heap.size w W from fun W bl s hm => st0.below2 s (by simpa using hm))
 have hxl := goodL_len hx.good; have hxo := hx.ownL; have hxm := hx.mailN; have hxb := hx.objs; have hxt := hx.text
 have st := st0
 clear st0
 unfold reqV
 have HE := qh (show callK k (n : Int) c = (k, errR 0) by unfold callK; simp [hkd, hob])
 have HOb : Hid (∀ W, Below w.heap.size w W → Calls Try.prog 35 #[.pointer (some ⟨g, 0, none⟩), .int .i64 c.t, .int .i64 c.n] W fun e w' => e = .returned (.pointer none) ∧ W = w') := by
  rcases h.object c.t c.n with ⟨_, H⟩ | ⟨_, _, _, _, _, _, _, _, _, _, _, _, _, _, _, _, _, _, _, _, _, e, _⟩
  ·exact qh H
  ·rw [hob] at e; cases e
 clear hob
 rw [hkd]
 clear hkd
 go_enter Try.func13, Try.ntmps13
 go_wp2_with (first | go_skip | (go_at_call 35; go_must (refine (HOb.out _ (HB.out _ _ st (by simp))).mono ?_; rintro e wo ⟨rfl, rfl⟩)) | (with_reducible refine mB 40 st ?_; clear st; intro g5 w5 hg5 st) | (with_reducible refine mA st Try.zeroValue52 ?_; clear st; intro g6 w6 hg6 st) | (with_reducible refine mX st Try.isAgg9 ?_) | (with_reducible refine mX st Try.isAgg3 ?_) | (go_at_call 32; go_must (refine (call_no _ _).mono ?_; rintro e vn ⟨rfl, hbn⟩; replace st := st.call hbn; clear hbn)) | (with_reducible refine mS 2 st Try.sizeOf52 ?_; clear st; intro w7 st hw7m hw7z))
 refine det_region (by kernel_rfl) 17 rfl (fun W => St [g] w W [(g, 58, winC (preC k css n) [.slice xa x.label.length xc, .slice oa x.own.length oc, .string x.text, .slice ba x.objects.length bc, .slice ma x.mails.length mc] (postC k css n)), (g5, 40, [.int .i64 3, .int .i64 c.h, .int .i64 c.t, .int .i64 c.n, .int .i64 c.c, .slice la c.label.length lc, .slice ga c.grants.length gc, .string c.text]), (g6, 52, [.int .i64 0, .int .i64 0, .string ⟨#[]⟩])]) (st.drew) (by decide +kernel) ?_
 refine detS 0 rfl ?_; refine detS 1 rfl ?_; refine detS 2 rfl ?_
 refine detK 3 rfl ?_; refine detK 4 rfl ?_; refine detK 5 rfl ?_; refine detK 6 rfl ?_; refine detK 7 rfl ?_; refine detK 8 rfl ?_; refine detK 9 rfl ?_; refine detK 10 rfl ?_; refine detK 11 rfl ?_; refine detK 12 rfl ?_; refine detK 13 rfl ?_; refine detK 14 rfl ?_; refine detK 15 rfl ?_
 refine detS 16 rfl ?_
 refine det_done (by decide +kernel) ?_
 clear st
 intro W st
 go_wp2_with (first | go_skip | (go_at_call 32; go_must (refine (call_no _ _).mono ?_; rintro e vn ⟨rfl, hbn⟩; replace st := st.call hbn; clear hbn)) | (with_reducible refine mS 2 st Try.sizeOf52 ?_; clear st; intro w7 st hw7m hw7z))
 have hc := fun j => st.cell (i := 2) rfl j
 refine bodyPost_ret (v := RepV (errR 0)) ?hr rfl ?_
 case hr => simp [results, Try.results13, go_sem, hc, RepV, errR]; try rfl
 rw [HE.out]
 exact ⟨rfl, KerTo.none h (HB.out _ _ st (by simp))⟩
theorem kernel_Call_get_none (h : KerAt ok w g k css Bs) (hk : ∀ x ∈ k.threads, x.ok) (hn : n < 4) (hx64 : ¬ 64 < c.text.size) (hkd : c.kind = 4) (hob : k.obj c.t c.n = none) :
  Calls Try.prog 13 #[.pointer (some ⟨g, 0, none⟩), .int .i64 n, reqV c la lc ga gc] w (CallPost ok w g Bs (callK k n c)) := by
 obtain ⟨x, xa, xc, oa, oc, ba, bc, ma, mc, ex, ec, eB, hT, hb⟩ := h.open hn
 have hx := hk x (mgE ex)
 have hpre := h.preLen hn
 have hth := Ker.thr_at ex
 have st0 := St.hand hb
 unfold thrC at st0
 have d1 : decide ((n : Int) < 0) = false := by simp
 have d2 : decide ((4 : Int) ≤ n) = false := by simp; omega
 have d64 := text_size hx64
 have hgg : ¬ ok g := h.apart g (by simp)
 have HKp := qh (show ∀ (W : World) (bl : Blks), St [g] w W bl → Keeps ok w W from fun W bl s => s.keeps (by simpa using hgg))
 have HB := qh (show ∀ (W : World) (bl : Blks), St [g] w W bl → (g, 58, winC (preC k css n) [.slice xa x.label.length xc, .slice oa x.own.length oc, .string x.text, .slice ba x.objects.length bc, .slice ma x.mails.length mc] (postC k css n)) ∈ bl → Below w.heap.size w W from fun W bl s hm => st0.below2 s (by simpa using hm))
 have hxl := goodL_len hx.good; have hxo := hx.ownL; have hxm := hx.mailN; have hxb := hx.objs; have hxt := hx.text
 have st := st0
 clear st0
 unfold reqV
 have HE := qh (show callK k (n : Int) c = (k, errR 4) by unfold callK; simp [hkd, hob])
 have HOb : Hid (∀ W, Below w.heap.size w W → Calls Try.prog 35 #[.pointer (some ⟨g, 0, none⟩), .int .i64 c.t, .int .i64 c.n] W fun e w' => e = .returned (.pointer none) ∧ W = w') := by
  rcases h.object c.t c.n with ⟨_, H⟩ | ⟨_, _, _, _, _, _, _, _, _, _, _, _, _, _, _, _, _, _, _, _, _, e, _⟩
  ·exact qh H
  ·rw [hob] at e; cases e
 clear hob
 rw [hkd]
 clear hkd
 go_enter Try.func13, Try.ntmps13
 go_wp2_with (first | go_skip | (go_at_call 35; go_must (refine (HOb.out _ (HB.out _ _ st (by simp))).mono ?_; rintro e wo ⟨rfl, rfl⟩)) | (with_reducible refine mB 40 st ?_; clear st; intro g5 w5 hg5 st) | (with_reducible refine mA st Try.zeroValue52 ?_; clear st; intro g6 w6 hg6 st) | (with_reducible refine mX st Try.isAgg9 ?_) | (with_reducible refine mX st Try.isAgg3 ?_) | (go_at_call 32; go_must (refine (call_no _ _).mono ?_; rintro e vn ⟨rfl, hbn⟩; replace st := st.call hbn; clear hbn)) | (with_reducible refine mS 2 st Try.sizeOf52 ?_; clear st; intro w7 st hw7m hw7z))
 refine det_region (by kernel_rfl) 18 rfl (fun W => St [g] w W [(g, 58, winC (preC k css n) [.slice xa x.label.length xc, .slice oa x.own.length oc, .string x.text, .slice ba x.objects.length bc, .slice ma x.mails.length mc] (postC k css n)), (g5, 40, [.int .i64 4, .int .i64 c.h, .int .i64 c.t, .int .i64 c.n, .int .i64 c.c, .slice la c.label.length lc, .slice ga c.grants.length gc, .string c.text]), (g6, 52, [.int .i64 0, .int .i64 0, .string ⟨#[]⟩])]) (st.drew) (by decide +kernel) ?_
 refine detS 0 rfl ?_; refine detS 1 rfl ?_; refine detS 2 rfl ?_
 refine detK 3 rfl ?_; refine detK 4 rfl ?_; refine detK 5 rfl ?_; refine detK 6 rfl ?_; refine detK 7 rfl ?_; refine detK 8 rfl ?_; refine detK 9 rfl ?_; refine detK 10 rfl ?_; refine detK 11 rfl ?_; refine detK 12 rfl ?_; refine detK 13 rfl ?_; refine detK 14 rfl ?_; refine detK 15 rfl ?_; refine detK 16 rfl ?_
 refine detS 17 rfl ?_
 refine det_done (by decide +kernel) ?_
 clear st
 intro W st
 go_wp2_with (first | go_skip | (go_at_call 32; go_must (refine (call_no _ _).mono ?_; rintro e vn ⟨rfl, hbn⟩; replace st := st.call hbn; clear hbn)) | (with_reducible refine mS 2 st Try.sizeOf52 ?_; clear st; intro w7 st hw7m hw7z))
 have hc := fun j => st.cell (i := 2) rfl j
 refine bodyPost_ret (v := RepV (errR 4)) ?hr rfl ?_
 case hr => simp [results, Try.results13, go_sem, hc, RepV, errR]; try rfl
 rw [HE.out]
 exact ⟨rfl, KerTo.none h (HB.out _ _ st (by simp))⟩
end
end Go.Proofs.Ytealbofmlieicaa
