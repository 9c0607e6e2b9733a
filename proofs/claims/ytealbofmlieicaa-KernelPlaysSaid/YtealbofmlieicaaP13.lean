/- Walks and plain laws, part 13. -/
import Derived.Test.YtealbofmlieicaaP12
import Derived.Maps.RangeWalk
import Derived.IntWalk
import Derived.DeepKeys4
set_option linter.unusedSimpArgs false
set_option linter.unusedVariables false
set_option maxHeartbeats 16000000
set_option maxRecDepth 100000
namespace Go.Proofs.Ytealbofmlieicaa
open Go.RowKit
open Go.Maps (Keyed IsMap)
theorem wfI {n : Int} (h : fitI n) : (Lit.int .i64 n).wf = true := by
 unfold fitI at h
 simp only [Lit.wf, decide_eq_true_eq, Bool.and_eq_true]
 exact h
section
variable {P : Program} {k e t : TypeId} {w w' : World} {b r n cnt : Nat} {l seen : List Int}
def SetB (P : Program) (k e : TypeId) (w : World) (b n : Nat) (l : List Int) : Prop :=
 ∃ D : DataW Unit, w.ownsMap P k (plainElem P e) b n D ∧ IsMap D ∧ ∀ x : Int, (Lit.int .i64 x).wf = true → Maps.has D (.int .i64 x) = inL l x ∧ D.atKey (.int .i64 x) (.lit (.bool false)) = .lit (.bool (inL l x))
theorem SetB.made (P : Program) (k e : TypeId) (w : World) : SetB P k e (w.alloc (.map #[] 0)) w.heap.size 0 [] :=
 ⟨.map [], World.ownsMap_made w P k _, Maps.isMap_empty, fun _ _ => ⟨rfl, rfl⟩⟩
theorem SetB.kept {row : Option Nat} (h : SetB P k e w b n l) (hg : w.grownBy w' row) (hne : row ≠ some b) : SetB P k e w' b n l := by
 obtain ⟨D, h1, h2⟩ := h
 exact ⟨D, h1.kept hg fun e => hne e.symm, h2⟩
theorem SetB.below (h : SetB P k e w b n l) (hb : Below w.heap.size w w') : SetB P k e w' b n l := h.kept (World.grownBy.ofBelow hb none) (by simp)
theorem SetB.lt (h : SetB P k e w b n l) : b < w.heap.size := by
 obtain ⟨D, h1, _⟩ := h
 exact h1.lt
theorem SetB.same {l' : List Int} (h : SetB P k e w b n l) (hl : ∀ x, inL l x = inL l' x) : SetB P k e w b n l' := by
 obtain ⟨D, h1, h2, h3⟩ := h
 exact ⟨D, h1, h2, fun x hx => by rw [← hl]; exact h3 x hx⟩
theorem inL_snoc (l : List Int) (x y : Int) : inL (l ++ [x]) y = if y = x then true else inL l y := by
 by_cases h : y = x
 ·subst h
  rw [if_pos rfl, inL_iff]
  simp
 ·rw [if_neg h, Bool.eq_iff_iff, inL_iff, inL_iff]
  simp [h]
theorem SetB.update (h : SetB P k e w b n l) (K : Keyed P k) (hk : P.underlying k = some (.int .i64)) (ht : P.underlying t = some (.map k e)) (he : P.underlying e = some .bool) (hn : n < maxLen) {z : Int} (hf : fitI z) :
  ∃ w', (Instr.mapUpdate t (.map (some b)) (.int .i64 z) (.bool true)).run P w = .ok () w' ∧ SetB P k e w' b (n + 1) (l ++ [z]) ∧ w.grownBy w' (some b) := by
 obtain ⟨D, h1, h2, h3⟩ := h
 have hkey : keyOf P k (.int .i64 z) = some (.int .i64 z) := Maps.keyOf_int_mk hk (wfI hf)
 obtain ⟨w', hrun, h4, h5⟩ := h1.update K ht hn hkey (plainElem_bool he true)
 refine ⟨w', hrun, ⟨_, h4, h2.put _ _, fun x hx => ?_⟩, h5⟩
 rw [inL_snoc]
 by_cases hxz : x = z
 ·subst hxz
  rw [if_pos rfl]
  exact ⟨Maps.has_put_same h2 (K.key hkey) _, Maps.atKey_put_same h2 (K.key hkey) _ _⟩
 ·have hne : (Lit.int .i64 x) ≠ .int .i64 z := fun h => hxz (by injection h)
  rw [if_neg hxz]
  exact ⟨(Maps.has_put_other hne _).trans (h3 x hx).1, (Maps.atKey_put_other hne _ _).trans (h3 x hx).2⟩
def RangeB (P : Program) (k e : TypeId) (w : World) (b r n : Nat) (l seen : List Int) (cnt : Nat) : Prop :=
 ∃ (D : DataW Unit) (left : Lit → Bool), w.ranges P k (plainElem P e) b r n D left cnt ∧ ∀ x : Int, (Lit.int .i64 x).wf = true → left (.int .i64 x) = (inL l x && !inL seen x)
theorem RangeB.left_eq (h : RangeB P k e w b r n l seen cnt) : w.rangeLeft b r = cnt := by
 obtain ⟨D, left, h1, _⟩ := h
 exact h1.left_eq
theorem RangeB.kept {row : Option Nat} (h : RangeB P k e w b r n l seen cnt) (hg : w.grownBy w' row) (hb' : some b ≠ row) (hr' : some r ≠ row) : RangeB P k e w' b r n l seen cnt := by
 obtain ⟨D, left, h1, h2⟩ := h
 exact ⟨D, left, h1.kept hg hb' hr', h2⟩
theorem RangeB.below (h : RangeB P k e w b r n l seen cnt) (hb : Below w.heap.size w w') : RangeB P k e w' b r n l seen cnt := h.kept (World.grownBy.ofBelow hb none) (by simp) (by simp)
theorem RangeB.lt (h : RangeB P k e w b r n l seen cnt) : r < w.heap.size ∧ b < w.heap.size := by
 obtain ⟨D, left, h1, _⟩ := h
 exact ⟨h1.lt, h1.owns.lt⟩
variable {ops : Array Oper} {rest : List Oper} {o : Oper} {A : Act} {Q : Exit → Act → World → Prop} {K' : Act → World → Prop}
theorem wpList_setMake (k e : TypeId) (hgd : Region.wanted o (yielded ops A.tmps) = true) (t : TypeId) (hop : o.op = Op.makeMap t none)
  (hK : ∀ b w', w.heap.size ≤ b → SetB P k e w' b 0 [] → Below w.heap.size w w' → wpList P ops Q rest (A.put o.dst (.map (some b))) w') : wpList P ops Q (o :: rest) A w := by
 refine wpList_wanted hgd fun K1 h' => ?_
 have hrun := run_makeMap (P := P) t w
 unfold Oper.wp
 simp [execOp, hop, hrun, Result.andThen]
 exact h' _ _ (hK _ _ (Nat.le_refl _) (SetB.made P k e w) ((Below.refl _ _).alloc (Nat.le_refl _) _))
theorem wpList_setUpdate (h : SetB P k e w b n l) (K : Keyed P k) (hk : P.underlying k = some (.int .i64)) (hgd : Region.wanted o (yielded ops A.tmps) = true) (m x v : Operand) (t : TypeId) (hop : o.op = Op.mapUpdate t m x v) (ht : P.underlying t = some (.map k e)) (he : P.underlying e = some .bool) (hn : n < maxLen)
  (hm : A.eval m = .map (some b)) (z : Int) (hx : A.eval x = .int .i64 z) (hf : fitI z) (hv : A.eval v = .bool true)
  (hK : ∀ w', SetB P k e w' b (n + 1) (l ++ [z]) → w.grownBy w' (some b) → wpList P ops Q rest (A.put o.dst undef) w') : wpList P ops Q (o :: rest) A w := by
 refine wpList_wanted hgd fun K1 h' => ?_
 obtain ⟨w', hrun, h1, h2⟩ := h.update K hk ht he hn hf
 unfold Oper.wp
 simp [execOp, hop, hm, hx, hv, hrun, Result.andThen]
 exact h' _ _ (hK w' h1 h2)
theorem wpList_setRange (h : SetB P k e w b n l) (K : Keyed P k) (hgd : o.guard = none) (m : Operand) (t : TypeId) (hop : o.op = Op.range t m) (ht : P.underlying t = some (.map k e)) (hm : A.eval m = .map (some b))
  (hK : ∀ r w' cnt, w.heap.size ≤ r → RangeB P k e w' b r n l [] cnt → Below w.heap.size w w' → wpList P ops Q rest (A.put o.dst (.pointer (some ⟨r, 0, none⟩))) w') : wpList P ops Q (o :: rest) A w := by
 obtain ⟨D, h1, h2, h3⟩ := h
 refine wpList_range_own w hgd m t hop k e K ht (plainElem P e) b n D hm h1 fun w' r1 r2 r3 => ?_
 refine hK _ w' _ (Nat.le_refl _) ⟨D, _, r1, fun x hx => ?_⟩ ⟨r2.os, r2.tape, r2.output, r2.size, fun q hq => r2.block q hq (by simp)⟩
 rw [(h3 x hx).1]
 simp [inL]
theorem wpList_setNext (h : RangeB P k e w b r n l seen cnt) (K : Keyed P k) (hk : P.underlying k = some (.int .i64)) (he : P.underlying e = some .bool) (hgd : o.guard = none) (it : Operand) (hop : o.op = Op.next it false) (hit : A.eval it = .pointer (some ⟨r, 0, none⟩))
  (hDone : Hid (∀ x : Int, fitI x → inL l x = true → inL seen x = true) → wpList P ops Q rest (A.put o.dst (.tuple #[.bool false])) w)
  (hMore : ∀ (x : Int) (c : Bool) (w' : World) (cnt' : Nat), fitI x → inL l x = true → RangeB P k e w' b r n l (seen ++ [x]) cnt' → cnt' < cnt → w.grownBy w' (some r) → w'.heap.size = w.heap.size →
   (Instr.entry (.pointer (some ⟨r, 0, none⟩))).run P w' = .ok (.tuple #[.int .i64 x, .bool c]) w' → wpList P ops Q rest (A.put o.dst (.tuple #[.bool true, .int .i64 x, .bool c])) w') : wpList P ops Q (o :: rest) A w := by
 obtain ⟨D, left, h1, h2⟩ := h
 refine wpList_next_ranges w hgd it hop k K (plainElem P e) (Value.int .i64) Value.bool (fun key kl hkey => by obtain ⟨x, rfl, _⟩ := Maps.keyOf_int_inv hk hkey; exact ⟨x, rfl⟩)
  (fun v y hv => by
   unfold plainElem at hv
   rw [he] at hv
   cases v <;> simp at hv
   exact ⟨_, rfl⟩) b r n D left cnt hit h1 (fun h0 hl => hDone (qh fun x hx hin => ?_)) (fun x c kl y w' cnt' hkey hlk hv hat hrg hlt hgr hsz hen => ?_)
 ·have := h2 x (wfI hx)
  rw [hl, hin] at this
  cases hs : inL seen x
  ·rw [hs] at this; simp at this
  ·rfl
 ·obtain ⟨x', ex, rfl, hwx⟩ := Maps.keyOf_int_inv hk hkey
  cases ex
  have hfx : fitI x := by
   simp only [Lit.wf, decide_eq_true_eq, Bool.and_eq_true] at hwx
   exact hwx
  have h3 := h2 x hwx
  rw [hlk] at h3
  have h4 : inL l x = true := by
   cases hl : inL l x
   ·rw [hl] at h3; simp at h3
   ·rfl
  refine hMore x c w' cnt' hfx h4 ⟨D, _, hrg, fun z hz => ?_⟩ hlt hgr hsz hen
  rw [inL_snoc, h2 z hz]
  by_cases hzx : z = x
  ·subst hzx
   rw [if_pos rfl, WideAt.sameKey_self (K.key hkey)]
   simp
  ·have hne : (Lit.int .i64 z) ≠ .int .i64 x := fun h => hzx (by injection h)
   rw [if_neg hzx, Maps.sameKey_ne hne]
   simp
end
open Go.Maps (Keyed IsMap int_keyed)
def RLabel (ok : Nat → Prop) (w : World) (cs : List Value) (x : List Lev) : Prop := ∃ la lc, cs = [.slice la x.length lc] ∧ SlR ok w 2 RLev la lc x
theorem RLabel.keep {ok : Nat → Prop} {w w' : World} (hk : Keeps ok w w') {cs : List Value} {x : List Lev} (h : RLabel ok w cs x) : RLabel ok w' cs x := by
 obtain ⟨la, lc, e, h1⟩ := h
 exact ⟨la, lc, e, h1.keep hk⟩
abbrev LabelsR (ok : Nat → Prop) (w : World) (a : Option Addr) (c : Nat) (ls : List (List Lev)) : Prop := SlR ok w 1 (RLabel ok w) a c ls
theorem LabelsR.below {ok : Nat → Prop} {w w' : World} {a : Option Addr} {c : Nat} {ls : List (List Lev)} (h : LabelsR ok w a c ls) (hb : Below w.heap.size w w') : LabelsR ok w' a c ls := h.mono (.of_below hb) fun _ _ => RLabel.keep (.of_below hb)
def namesL (ls : List (List Lev)) : List Int := ls.flatMap fun x => x.map (·.c)
theorem namesL_take {ls : List (List Lev)} {k : Nat} (h : k < ls.length) : namesL (ls.take (k + 1)) = namesL (ls.take k) ++ (ls[k].map (·.c)) := by
 unfold namesL
 rw [List.take_succ_eq_append_getElem h, List.flatMap_append]
 simp
theorem ref_names (ok : Nat → Prop) (w : World) (a : Option Addr) (c : Nat) (ls : List (List Lev)) (hfit : ∀ x ∈ ls, ∀ y ∈ x, fitI y.c) (hn : (namesL ls).length < maxLen) (hR : LabelsR ok w a c ls) :
  Calls Try.prog 49 #[.slice a ls.length c] w fun e w' => ∃ b, e = .returned (.map (some b)) ∧ w.heap.size ≤ b ∧ Below w.heap.size w w' ∧ SetB Try.prog 3 4 w' b (namesL ls).length (namesL ls) := by
 have hl : ls.length ≤ 9223372036854775807 := by have h1 := hR.1; have h2 := hR.2.1; unfold maxLen at h2; omega
 have HF := qh hfit
 clear hfit
 go_enter Try.func49, Try.ntmps49
 go_wp2_with (first | go_skip | (refine wpList_setMake 3 4 (wanted_none rfl) _ rfl ?_; intro bm w1 hbm hM hb1))
 go_loopw [11] (fun i wr => ∃ k : Nat, k ≤ ls.length ∧ i = .int .i64 k ∧ Below w.heap.size w wr ∧ SetB Try.prog 3 4 wr bm (namesL (ls.take k)).length (namesL (ls.take k))) (fun i _ => ls.length - (intOf i).toNat)
 case atStart => exact ⟨0, Nat.zero_le _, rfl, hb1, hM⟩
 case round =>
  clear hM hb1
  obtain ⟨k, hk, rfl, hB, hM⟩ := hrel
  by_cases hlt : k < ls.length
  ·obtain ⟨b, o, cs, rfl, _, hb, ⟨la, lc, rfl, hL⟩, _, _, hc⟩ := hR.2.2.2 k ls[k] (by simp [hlt])
   have h1 : wr.cell? ⟨b, o + k, none⟩ = some (.slice la ls[k].length lc) := (hB.cell (p := ⟨b, o + k, none⟩) hb).trans (by simpa using hc 0 _ rfl)
   have hll : ls[k].length ≤ 9223372036854775807 := by have h1 := hL.1; have h2 := hL.2.1; unfold maxLen at h2; omega
   have HT := qh (namesL_take hlt)
   have HFk := qh (HF.out ls[k] (List.getElem_mem hlt))
   have hnk : (namesL (ls.take k)).length + ls[k].length ≤ (namesL ls).length := by
    have e : namesL ls = namesL (ls.take (k + 1)) ++ namesL (ls.drop (k + 1)) := by
     unfold namesL
     rw [← List.flatMap_append, List.take_append_drop]
    rw [e, HT.out]
    simp
   generalize namesL (ls.take k) = done at hM hnk HT
   generalize hx : ls[k] = x at hL h1 hll HFk hnk HT
   clear hx hc
   go_wp2
   go_loopw [17] (fun i wj => ∃ j : Nat, j ≤ x.length ∧ i = .int .i64 j ∧ Below w.heap.size w wj ∧ SetB Try.prog 3 4 wj bm (done.length + j) (done ++ (x.map (·.c)).take j)) (fun i _ => x.length - (intOf i).toNat)
   case atStart => exact ⟨0, Nat.zero_le _, rfl, hB, by simpa using hM⟩
   case round =>
    clear hM
    obtain ⟨j, hj, rfl, hBj, hM⟩ := hrel
    by_cases hlj : j < x.length
    ·obtain ⟨b2, o2, rfl, hb2, h21, h22⟩ := (hL.below hBj).lev_at j hlj
     have hrow : ∀ (q : Nat) (v : Value), [Value.int .i64 x[j].c, .int .i64 x[j].l][q]? = some v → wr.cell? ⟨b2, o2 + j * 2 + q, none⟩ = some v := fun q v hq => by
      rcases q with _ | _ | q
      ·simp at hq; subst hq; exact h21
      ·simp at hq; subst hq; exact h22
      ·simp at hq
     have hfj := HFk.out x[j] (List.getElem_mem hlj)
     have htk : (x.map (·.c)).take (j + 1) = (x.map (·.c)).take j ++ [x[j].c] := by
      rw [List.take_succ_eq_append_getElem (by simpa using hlj)]; simp
     have HTK := qh htk
     have hmm : done.length + j < maxLen := by omega
     clear htk h21 h22
     have st := St.start wr
     go_wp2_with (first
      | go_skip | (with_reducible refine at_load 88 ?_; refine wpList_load_cells (wanted_none rfl) 88 _ rfl Try.isAgg88 _ Try.sizeOf88 b2 (o2 + j * 2) rfl [.int .i64 x[j].c, .int .i64 x[j].l] rfl hrow ?_)
      | (with_reducible refine mA st Try.zeroValue88 ?_; clear st; intro g5 w5 hg5 st) | (with_reducible refine mS 0 st Try.sizeOf88 ?_; clear st; intro w6 st hw6m hw6z) | (with_reducible refine mX st Try.isAgg3 ?_)
      | (at_mapUpdate; go_must (refine wpList_setUpdate (hM.below st.below) (int_keyed Try.underlying3) Try.underlying3 (wanted_none rfl) _ _ _ 85 rfl Try.underlying85 Try.underlying4 hmm rfl _ rfl hfj rfl ?_; intro w7 hM7 hg7)))
     go_roundw
     case rel =>
      have hbz := hM.lt
      refine ⟨j + 1, hlj, by go_num, (hBj.keep st.below).grown hg7 (Nat.le_trans hBj.size st.size) fun q hq => by simp at hq; omega, by rw [HTK.out, ← List.append_assoc]; exact hM7⟩
     case measure => simp [intOf]; omega
    ·have hjx : j = x.length := by omega
     subst hjx
     have e : (x.map (·.c)).take x.length = x.map (·.c) := List.take_of_length_le (by simp)
     rw [e] at hM
     go_wp2
     go_roundw
     case rel => exact ⟨k + 1, hlt, by go_num, hBj, by rw [HT.out]; simpa using hM⟩
     case measure => simp [intOf]; omega
  ·have e : ls.take k = ls := List.take_of_length_le (by omega)
   rw [e] at hM
   go_wp2
   go_ret
   exact ⟨bm, rfl, hbm, hB, hM⟩
open Go.Maps (Keyed IsMap int_keyed)
theorem wpList_buildV2 {P : Program} {w0 w : World} {M : List Nat} {own : Blks} {ops : Array Oper} {rest : List Oper} {o : Oper} {A : Act} {Q : Exit → Act → World → Prop} (st : St M w0 w own) (hgd : Region.wanted o (yielded ops A.tmps) = true) (T T' : TypeId) (x0 x1 : Operand) (ho : o.op = .buildSlice T 2 #[(0, x0), (1, x1)]) (ht : P.underlying T = some (.slice T')) (hsz : ∀ w, (sizeOf T').run P w = .ok 1 w) (hz : ∀ w, (zeroValue T').run P w = .ok (.slice none 0 0) w) (a0 a1 : Option Addr) (n0 n1 c0 c1 : Nat) (hx0 : A.eval x0 = .slice a0 n0 c0) (hx1 : A.eval x1 = .slice a1 n1 c1)
  (h : ∀ g w', w0.heap.size ≤ g → St M w0 w' (own ++ [(g, T', [.slice a0 n0 c0, .slice a1 n1 c1])]) → Below w.heap.size w w' → wpList P ops Q rest (A.put o.dst (.slice (some ⟨g, 0, none⟩) 2 2)) w') : wpList P ops Q (o :: rest) A w := by
 refine wpList_wanted hgd fun K hK => ?_
 have hs := st.new T' [.slice a0 n0 c0, .slice a1 n1 c1]
 have h2 := hK _ _ (h w.heap.size _ st.size hs ((Below.refl _ _).alloc (Nat.le_refl _) _))
 unfold Oper.wp
 simp [execOp, ho, Instr.buildSlice, run_underlying ht, hsz, hz, newRow, newObj, hx0, hx1, Instr.fill, Value.cells, Array.range, Result.andThen] at h2 ⊢
 exact h2
theorem labels2 {w : World} {g : Nat} {T : TypeId} {a b : List Lev} {la lb : Option Addr} {ca cb : Nat} (h : w.heap[g]? = some (.cells [Value.slice la a.length ca, .slice lb b.length cb].toArray T (0, 0))) {ok : Nat → Prop} (hA : SlR ok w 2 RLev la ca a) (hB : SlR ok w 2 RLev lb cb b) : LabelsR (fun _ => True) w (some ⟨g, 0, none⟩) 2 [a, b] := by
 refine ⟨by simp, by decide, by simp, fun i x hx => ?_⟩
 have hg := (Array.getElem?_eq_some_iff.1 h).1
 have hcell : ∀ (j : Nat) (v : Value), [Value.slice la a.length ca, .slice lb b.length cb][j]? = some v → w.cell? ⟨g, 0 + j, none⟩ = some v := fun j v hj => by
  rw [Nat.zero_add, cell_of_row w g _ _ T (0, 0) h]
  simpa using hj
 rcases i with _ | _ | i
 ·simp at hx
  subst hx
  refine ⟨g, 0, [.slice la a.length ca], rfl, trivial, hg, ⟨la, ca, rfl, hA.okay fun _ _ => trivial⟩, rfl, by simp [Value.oneCell'], fun j v hj => ?_⟩
  rcases j with _ | j
  ·simp at hj; subst hj; exact hcell 0 _ rfl
  ·simp at hj
 ·simp at hx
  subst hx
  refine ⟨g, 0, [.slice lb b.length cb], rfl, trivial, hg, ⟨lb, cb, rfl, hB.okay fun _ _ => trivial⟩, rfl, by simp [Value.oneCell'], fun j v hj => ?_⟩
  rcases j with _ | j
  ·simp at hj; subst hj; exact hcell 1 _ rfl
  ·simp at hj
 ·simp at hx
theorem ref_in (ok : Nat → Prop) (w : World) (a : Option Addr) (c : Nat) (l : List Int) (v : Int) (hR : SlR ok w 1 RInt a c l) :
  Calls Try.prog 27 #[.slice a l.length c, .int .i64 v] w fun e w' => e = .returned (.bool (inL l v)) ∧ w = w' := by
 have hl : l.length ≤ 9223372036854775807 := by have h1 := hR.1; have h2 := hR.2.1; unfold maxLen at h2; omega
 go_enter Try.func27, Try.ntmps27
 go_wp2
 go_loop [9] (fun i => ∃ k : Nat, k ≤ l.length ∧ i = .int .i64 k ∧ Hid (inL l v = inL (l.drop k) v)) (fun i => l.length - (intOf i).toNat)
 case atStart => exact ⟨0, Nat.zero_le _, rfl, rfl⟩
 case round =>
  obtain ⟨k, hk, rfl, hI⟩ := hrel
  by_cases hlt : k < l.length
  ·obtain ⟨b, o, rfl, hb, h1⟩ := hR.int_at k hlt
   by_cases he : l[k] = v
   ·have d1 : (l[k] == v) = true := by simpa using he
    have HE := qh (show inL l v = true by rw [hI.out, inL_hit hlt he.symm])
    clear he
    go_wp2
    go_ret
    exact ⟨ret_bool HE.out.symm, rfl⟩
   ·have d1 : (l[k] == v) = false := by simpa using he
    have HE := qh (show inL l v = inL (l.drop (k + 1)) v by rw [hI.out, inL_pass hlt fun h => he h.symm])
    clear he
    go_wp2
    go_round
    case rel => exact ⟨k + 1, hlt, by go_num, HE⟩
    case measure => simp [intOf]; omega
  ·have HE := qh (show inL l v = false by rw [hI.out, inL_end hlt])
   go_wp2
   go_ret
   exact ⟨ret_bool HE.out.symm, rfl⟩
theorem ref_At (ok : Nat → Prop) (w : World) (la : Option Addr) (lc : Nat) (l : List Lev) (c : Int) (hR : SlR ok w 2 RLev la lc l) :
  Calls Try.prog 50 #[.slice la l.length lc, .int .i64 c] w fun e w' => e = .returned (.int .i64 (lAt l c)) ∧ Below w.heap.size w w' := by
 have hl : l.length ≤ 9223372036854775807 := by have h1 := hR.1; have h2 := hR.2.1; unfold maxLen at h2; omega
 go_enter Try.func50, Try.ntmps50
 go_wp2
 go_loopw [9] (fun i wr => ∃ k : Nat, k ≤ l.length ∧ i = .int .i64 k ∧ Below w.heap.size w wr ∧ Hid (lAt l c = lAt (l.drop k) c)) (fun i _ => l.length - (intOf i).toNat)
 case atStart => exact ⟨0, Nat.zero_le _, rfl, Below.refl _ _, rfl⟩
 case round =>
  obtain ⟨k, hk, rfl, hB, hI⟩ := hrel
  by_cases hlt : k < l.length
  ·obtain ⟨b, o, rfl, hb, _⟩ := hR.lev_at k hlt
   have hrow := (hR.below hB).lev_row k hlt
   have HD := qh (drop_at hlt)
   have st := St.start wr
   by_cases he : l[k].c = c
   ·have d1 : (l[k].c == c) = true := by simpa using he
    have HE := qh (show lAt l c = l[k].l by rw [hI.out, HD.out, lAt, if_pos he])
    clear he
    go_wp2_with (first | go_skip | (with_reducible refine at_load 88 ?_; refine wpList_load_cells (wanted_none rfl) 88 _ rfl Try.isAgg88 _ Try.sizeOf88 b (o + k * 2) rfl [.int .i64 l[k].c, .int .i64 l[k].l] rfl hrow ?_) | (with_reducible refine mA st Try.zeroValue88 ?_; clear st; intro g1 w1 hg1 st) | (with_reducible refine mS 0 st Try.sizeOf88 ?_; clear st; intro w2 st hw2m hw2z) | (with_reducible refine mX st Try.isAgg3 ?_))
    go_ret
    exact ⟨ret_int HE.out.symm, hB.keep st.below⟩
   ·have d1 : (l[k].c == c) = false := by simpa using he
    have HE := qh (show lAt l c = lAt (l.drop (k + 1)) c by rw [hI.out, HD.out, lAt, if_neg he])
    clear he
    go_wp2_with (first | go_skip | (with_reducible refine at_load 88 ?_; refine wpList_load_cells (wanted_none rfl) 88 _ rfl Try.isAgg88 _ Try.sizeOf88 b (o + k * 2) rfl [.int .i64 l[k].c, .int .i64 l[k].l] rfl hrow ?_) | (with_reducible refine mA st Try.zeroValue88 ?_; clear st; intro g1 w1 hg1 st) | (with_reducible refine mS 0 st Try.sizeOf88 ?_; clear st; intro w2 st hw2m hw2z) | (with_reducible refine mX st Try.isAgg3 ?_))
    go_roundw
    case rel => exact ⟨k + 1, hlt, by go_num, hB.keep st.below, HE⟩
    case measure => simp [intOf]; omega
  ·have HE := qh (show lAt l c = 1 by rw [hI.out, List.drop_of_length_le (by omega)]; rfl)
   go_wp2
   go_ret
   exact ⟨ret_int HE.out.symm, hB⟩
theorem ref_Flows (ok : Nat → Prop) (w : World) (la lb lo : Option Addr) (ca cb co : Nat) (a b : List Lev) (own : List Int) (hfa : ∀ y ∈ a, fitI y.c) (hfb : ∀ y ∈ b, fitI y.c) (hn : a.length + b.length < maxLen)
  (hA : SlR ok w 2 RLev la ca a) (hB' : SlR ok w 2 RLev lb cb b) (hC : SlR ok w 1 RInt lo co own) :
  Calls Try.prog 28 #[.slice la a.length ca, .slice lb b.length cb, .slice lo own.length co] w fun e w' => e = .returned (.bool (flowsL a b own)) ∧ Below w.heap.size w w' := by
 have HNm := qh (fun (W : World) (g : Nat) (h : LabelsR (fun _ => True) W (some ⟨g, 0, none⟩) 2 [a, b]) => ref_names (fun _ => True) W (some ⟨g, 0, none⟩) 2 [a, b] (fun x hx y hy => by
  simp at hx
  rcases hx with rfl | rfl
  ·exact hfa y hy
  ·exact hfb y hy) (by simpa [namesL] using hn) h)
 have hmem : ∀ x, inL (namesL [a, b]) x = true ↔ x ∈ eachL a b := fun x => by
  rw [inL_iff, eachL_mem]
  simp [namesL, catsOf]
 have HF := qh (flowsFrom_iff a b own (eachL a b))
 have HMem := qh hmem
 have HFit := qh (show ∀ x ∈ eachL a b, fitI x from fun x hx => by
  rcases eachL_mem.1 hx with h | h
  ·obtain ⟨y, hy, rfl⟩ := List.mem_map.1 h
   exact hfa y hy
  ·obtain ⟨y, hy, rfl⟩ := List.mem_map.1 h
   exact hfb y hy)
 clear hfa hfb hn hmem
 have st := St.start w
 go_enter Try.func28, Try.ntmps28
 go_wp2_with (first
  | go_skip | (refine wpList_buildV2 st (wanted_none rfl) 95 30 _ _ rfl Try.underlying95 Try.sizeOf30 Try.zeroValue30 _ _ _ _ _ _ rfl rfl ?_; clear st; intro g1 w1 hg1 st hb1; simp at st)
  | (go_at_call 49; go_must (refine (HNm.out _ g1 (labels2 (st.blk _ (mgE (i := 0) rfl)) (hA.below st.below) (hB'.below st.below))).mono ?_; rintro e v2 ⟨bm, rfl, hbm, hb2, hM⟩; replace st := st.call hb2; clear hb2))
  | (at_range; go_must (refine wpList_setRange hM (int_keyed Try.underlying3) rfl _ 85 rfl Try.underlying85 rfl ?_; intro r w3 cnt0 hr0 hrg hb3; have hs2 := st.size; replace st := st.call hb3; clear hb3)))
 go_frame
 have hbw : w.heap.size ≤ r := Nat.le_trans hs2 hr0
 have hB0 := st.below
 clear st hM hg1 hbm hr0
 go_loopw [7] (fun _ wr => ∃ seen cnt, RangeB Try.prog 3 4 wr bm r (namesL [a, b]).length (namesL [a, b]) seen cnt ∧ Below w.heap.size w wr ∧ Hid (∀ x ∈ seen, x ∉ own → lAt a x ≤ lAt b x)) (fun _ wr => wr.rangeLeft bm r)
 case atStart => exact ⟨[], _, hrg, hB0, fun x hx => by simp at hx⟩
 case round =>
  clear hrg hB0
  obtain ⟨seen, cnt, hrg, hB, hI⟩ := hrel
  have hm0 := hrg.left_eq
  go_wp2_with (first | go_skip | (at_next; refine wpList_setNext hrg (int_keyed Try.underlying3) Try.underlying3 Try.underlying4 rfl _ rfl rfl (fun hD => ?_) (fun x c w4 cnt4 hfx hx hrg4 hcnt hg4 hz4 hen => ?_)))
  ·have HE := qh (show flowsL a b own = true from HF.out.2 fun x hx hxo => by
    by_cases hfx : fitI x
    ·exact hI.out x ((inL_iff _ _).1 (hD.out x hfx ((HMem.out x).2 hx))) hxo
    ·exact absurd (HFit.out x hx) hfx)
   go_ret
   exact ⟨ret_bool HE.out.symm, hB⟩
  ·have hB4 : Below w.heap.size w w4 := hB.grown hg4 hB.size fun q hq => by simp at hq; omega
   have hxe := (HMem.out x).1 hx
   have st := St.start w4
   have HA := qh (fun (W : World) (h : Below w.heap.size w W) => ref_At ok W la ca a x (hA.below h))
   have HB := qh (fun (W : World) (h : Below w.heap.size w W) => ref_At ok W lb cb b x (hB'.below h))
   have HI := qh (fun (W : World) (h : Below w.heap.size w W) => ref_in ok W lo co own x (hC.below h))
   clear hrg hx hg4
   cases ho : inL own x
   ·have hno : x ∉ own := (inL_not own x).1 ho
    by_cases hgt : lAt b x < lAt a x
    ·have HE := qh (show flowsL a b own = false by
      rw [Bool.eq_false_iff]
      intro h
      have := HF.out.1 h x hxe hno
      omega)
     have d1 : decide (lAt b x < lAt a x) = true := by simpa using hgt
     have HO := qh ho
     clear ho hgt hno
     have tk := trivial
     go_wp2_with (first
      | go_skip
      | (go_at_call 27; go_must (refine (HI.out _ (hB4.keep st.below)).mono ?_; rintro e v5 ⟨rfl, rfl⟩; rw [HO.out]))
      | (go_at_call 50; clear tk; go_must (refine (HA.out _ (hB4.keep st.below)).mono ?_; rintro e v6 ⟨rfl, hb6⟩; replace st := st.call hb6; clear hb6))
      | (go_at_call 50; go_must (refine (HB.out _ (hB4.keep st.below)).mono ?_; rintro e v7 ⟨rfl, hb7⟩; replace st := st.call hb7; clear hb7)))
     go_ret
     exact ⟨ret_bool HE.out.symm, hB4.keep st.below⟩
    ·have HE := qh (show ∀ y ∈ seen ++ [x], y ∉ own → lAt a y ≤ lAt b y from fun y hy hyo => by
      rcases List.mem_append.1 hy with hy | hy
      ·exact hI.out y hy hyo
      ·simp at hy; subst hy; omega)
     have d1 : decide (lAt b x < lAt a x) = false := by simpa using hgt
     have HO := qh ho
     clear ho hgt hno
     have tk := trivial
     go_wp2_with (first
      | go_skip
      | (go_at_call 27; go_must (refine (HI.out _ (hB4.keep st.below)).mono ?_; rintro e v5 ⟨rfl, rfl⟩; rw [HO.out]))
      | (go_at_call 50; clear tk; go_must (refine (HA.out _ (hB4.keep st.below)).mono ?_; rintro e v6 ⟨rfl, hb6⟩; replace st := st.call hb6; clear hb6))
      | (go_at_call 50; go_must (refine (HB.out _ (hB4.keep st.below)).mono ?_; rintro e v7 ⟨rfl, hb7⟩; replace st := st.call hb7; clear hb7)))
     go_roundw
     case rel => exact ⟨_, _, hrg4.below st.below, hB4.keep st.below, HE⟩
     case measure => rw [(hrg4.below st.below).left_eq, hm0]; exact hcnt
   ·have hyes : x ∈ own := (inL_iff own x).1 ho
    have HE := qh (show ∀ y ∈ seen ++ [x], y ∉ own → lAt a y ≤ lAt b y from fun y hy hyo => by
     rcases List.mem_append.1 hy with hy | hy
     ·exact hI.out y hy hyo
     ·simp at hy; subst hy; exact absurd hyes hyo)
    have HO := qh ho
    clear ho hyes
    go_wp2_with (first
     | go_skip
     | (go_at_call 27; go_must (refine (HI.out _ (hB4.keep st.below)).mono ?_; rintro e v5 ⟨rfl, rfl⟩; rw [HO.out])))
    go_roundw
    case rel => exact ⟨_, _, hrg4.below st.below, hB4.keep st.below, HE⟩
    case measure => rw [(hrg4.below st.below).left_eq, hm0]; exact hcnt
def mailHead (f : Frame) : List UInt8 := 0 :: headBytes f ++ [b1 f.thread, b1 f.mail.thread, b1 f.mail.label.length]
def mailMid (f : Frame) : List UInt8 := mailHead f ++ f.mail.label.flatMap levBytes ++ [b1 f.mail.grants.length]
def mailText (f : Frame) : List UInt8 := mailMid f ++ f.mail.grants.map b1 ++ [b1 f.mail.text.size] ++ f.mail.text.data.toList ++ [b1 f.certs.length]
theorem prevC_ge {l : List Lev} {k : Nat} (h : -1 ≤ prevC l k) (hk : k < l.length) (hc : 0 ≤ l[k].c) : -1 ≤ prevC l (k + 1) := by
 rw [prevC_succ l k hk]
 omega
theorem ref_GoodLabel (ok : Nat → Prop) (w : World) (la : Option Addr) (lc : Nat) (l : List Lev) (hR : SlR ok w 2 RLev la lc l) :
  Calls Try.prog 41 #[.slice la l.length lc] w fun e w' => e = .returned (.bool (goodL l)) ∧ Below w.heap.size w w' := by
 have hl : l.length ≤ 9223372036854775807 := by have h1 := hR.1; have h2 := hR.2.1; unfold maxLen at h2; omega
 go_enter Try.func41, Try.ntmps41
 go_wp2
 go_loopw [8, 3] (fun i p wr => ∃ k : Nat, k ≤ l.length ∧ i = .int .i64 k ∧ p = .int .i64 (prevC l k) ∧ Below w.heap.size w wr ∧ Hid (risesL (-1) l = risesL (prevC l k) (l.drop k)) ∧ -1 ≤ prevC l k) (fun i _ _ => l.length - (intOf i).toNat)
 case atStart => exact ⟨0, Nat.zero_le _, rfl, by rw [prevC_zero], Below.refl _ _, by rw [prevC_zero]; rfl, by rw [prevC_zero]; decide⟩
 case round =>
  obtain ⟨k, hk, rfl, rfl, hB, hI, hge⟩ := hrel
  by_cases hlt : k < l.length
  ·obtain ⟨b, o, rfl, hb, _⟩ := hR.lev_at k hlt
   have hrow := (hR.below hB).lev_row k hlt
   have hbad := @good_bad l k hlt hI
   have hgo := @good_go l k hlt hI
   have hps := prevC_succ l k hlt
   have hpg := @prevC_ge l k hge hlt
   generalize prevC l k = p at hbad hgo hge hpg ⊢
   generalize hx : l[k] = x at hrow hbad hgo hps hpg
   have HBad := qh hbad
   have HGo := qh hgo
   have HPs := qh hps
   have HPg := qh hpg
   clear hx hbad hgo hI hps hpg
   have st := St.start wr
   by_cases e1 : x.c ≤ p
   ·have d1 : decide (x.c ≤ p) = true := by simpa using e1
    have HE := qh (HBad.out fun h => by omega)
    clear e1
    go_wp2_with (first | go_skip | (with_reducible refine at_load 88 ?_; refine wpList_load_cells (wanted_none rfl) 88 _ rfl Try.isAgg88 _ Try.sizeOf88 b (o + k * 2) rfl [.int .i64 x.c, .int .i64 x.l] rfl hrow ?_) | (with_reducible refine mA st Try.zeroValue88 ?_; clear st; intro g1 w1 hg1 st) | (with_reducible refine mS 0 st Try.sizeOf88 ?_; clear st; intro w2 st hw2m hw2z) | (with_reducible refine mX st Try.isAgg3 ?_))
    go_ret
    exact ⟨ret_bool HE.out.symm, hB.keep st.below⟩
   ·have d1 : decide (x.c ≤ p) = false := by simpa using e1
    by_cases e2 : 79 < x.c
    ·have d2 : decide (79 < x.c) = true := by simpa using e2
     have HE := qh (HBad.out fun h => by have := h.2; simp only [lvOk, decide_eq_true_eq] at this; omega)
     clear e1 e2
     go_wp2_with (first | go_skip | (with_reducible refine at_load 88 ?_; refine wpList_load_cells (wanted_none rfl) 88 _ rfl Try.isAgg88 _ Try.sizeOf88 b (o + k * 2) rfl [.int .i64 x.c, .int .i64 x.l] rfl hrow ?_) | (with_reducible refine mA st Try.zeroValue88 ?_; clear st; intro g1 w1 hg1 st) | (with_reducible refine mS 0 st Try.sizeOf88 ?_; clear st; intro w2 st hw2m hw2z) | (with_reducible refine mX st Try.isAgg3 ?_))
     go_ret
     exact ⟨ret_bool HE.out.symm, hB.keep st.below⟩
    ·have d2 : decide (79 < x.c) = false := by simpa using e2
     rcases (show x.l = 0 ∨ (x.l ≠ 0 ∧ x.l = 2) ∨ (x.l ≠ 0 ∧ x.l ≠ 2 ∧ x.l = 3) ∨ (x.l ≠ 0 ∧ x.l ≠ 2 ∧ x.l ≠ 3) by omega) with h3 | ⟨h4, h5⟩ | ⟨h4, h5, h6⟩ | ⟨h4, h5, h6⟩
     ·have HOk := qh (show p < x.c ∧ lvOk x = true from ⟨by omega, by simp only [lvOk, decide_eq_true_eq]; omega⟩)
      have hx0 : 0 ≤ x.c := by omega
      have d3 : (x.l != 0) = false := by simp; omega
      skip
      clear e1 e2 h3
      go_wp2_with (first | go_skip | (with_reducible refine at_load 88 ?_; refine wpList_load_cells (wanted_none rfl) 88 _ rfl Try.isAgg88 _ Try.sizeOf88 b (o + k * 2) rfl [.int .i64 x.c, .int .i64 x.l] rfl hrow ?_) | (with_reducible refine mA st Try.zeroValue88 ?_; clear st; intro g1 w1 hg1 st) | (with_reducible refine mS 0 st Try.sizeOf88 ?_; clear st; intro w2 st hw2m hw2z) | (with_reducible refine mX st Try.isAgg3 ?_))
      go_roundw
      case rel => exact ⟨k + 1, hlt, by go_num, by rw [HPs.out], hB.keep st.below, HGo.out HOk.out, HPg.out hx0⟩
      case measure => simp [intOf]; omega
     ·have HOk := qh (show p < x.c ∧ lvOk x = true from ⟨by omega, by simp only [lvOk, decide_eq_true_eq]; omega⟩)
      have hx0 : 0 ≤ x.c := by omega
      have d3 : (x.l != 0) = true := by simp; omega
      have d4 : (x.l != 2) = false := by simp; omega
      clear e1 e2 h4 h5
      go_wp2_with (first | go_skip | (with_reducible refine at_load 88 ?_; refine wpList_load_cells (wanted_none rfl) 88 _ rfl Try.isAgg88 _ Try.sizeOf88 b (o + k * 2) rfl [.int .i64 x.c, .int .i64 x.l] rfl hrow ?_) | (with_reducible refine mA st Try.zeroValue88 ?_; clear st; intro g1 w1 hg1 st) | (with_reducible refine mS 0 st Try.sizeOf88 ?_; clear st; intro w2 st hw2m hw2z) | (with_reducible refine mX st Try.isAgg3 ?_))
      go_roundw
      case rel => exact ⟨k + 1, hlt, by go_num, by rw [HPs.out], hB.keep st.below, HGo.out HOk.out, HPg.out hx0⟩
      case measure => simp [intOf]; omega
     ·have HOk := qh (show p < x.c ∧ lvOk x = true from ⟨by omega, by simp only [lvOk, decide_eq_true_eq]; omega⟩)
      have hx0 : 0 ≤ x.c := by omega
      have d3 : (x.l != 0) = true := by simp; omega
      have d4 : (x.l != 2) = true := by simp; omega
      have d5 : (x.l != 3) = false := by simp; omega
      clear e1 e2 h4 h5 h6
      go_wp2_with (first | go_skip | (with_reducible refine at_load 88 ?_; refine wpList_load_cells (wanted_none rfl) 88 _ rfl Try.isAgg88 _ Try.sizeOf88 b (o + k * 2) rfl [.int .i64 x.c, .int .i64 x.l] rfl hrow ?_) | (with_reducible refine mA st Try.zeroValue88 ?_; clear st; intro g1 w1 hg1 st) | (with_reducible refine mS 0 st Try.sizeOf88 ?_; clear st; intro w2 st hw2m hw2z) | (with_reducible refine mX st Try.isAgg3 ?_))
      go_roundw
      case rel => exact ⟨k + 1, hlt, by go_num, by rw [HPs.out], hB.keep st.below, HGo.out HOk.out, HPg.out hx0⟩
      case measure => simp [intOf]; omega
     ·have HE := qh (HBad.out fun h => by have := h.2; simp only [lvOk, decide_eq_true_eq] at this; omega)
      have d3 : (x.l != 0) = true := by simp; omega
      have d4 : (x.l != 2) = true := by simp; omega
      have d5 : (x.l != 3) = true := by simp; omega
      clear e1 e2 h4 h5 h6
      go_wp2_with (first | go_skip | (with_reducible refine at_load 88 ?_; refine wpList_load_cells (wanted_none rfl) 88 _ rfl Try.isAgg88 _ Try.sizeOf88 b (o + k * 2) rfl [.int .i64 x.c, .int .i64 x.l] rfl hrow ?_) | (with_reducible refine mA st Try.zeroValue88 ?_; clear st; intro g1 w1 hg1 st) | (with_reducible refine mS 0 st Try.sizeOf88 ?_; clear st; intro w2 st hw2m hw2z) | (with_reducible refine mX st Try.isAgg3 ?_))
      go_ret
      exact ⟨ret_bool HE.out.symm, hB.keep st.below⟩
  ·have HE := qh (show goodL l = decide (l.length ≤ 8) by
    unfold goodL
    rw [hI.out, List.drop_of_length_le (by omega)]
    by_cases h8 : l.length ≤ 8 <;> simp [h8, risesL])
   go_wp2
   go_ret
   exact ⟨ret_bool (by rw [HE.out]; simp; omega), hB⟩
abbrev certV (x : Cert) : Value := .agg #[.int .i64 x.c, .int .i64 x.by_, .int .i64 x.host, .int .i64 x.till]
open Go.Maps (Keyed)
def certLit (x : Cert) : Lit := .string (keyBytes [.int .i64 x.c, .int .i64 x.by_, .int .i64 x.host, .int .i64 x.till])
open Go.Maps (Keyed)
theorem goodMail_bad {m : Mail} (h : (four m.host && four m.thread && goodL m.label && risingB m.grants 8) = false) : goodMailC m = 2 := by
 unfold goodMailC; rw [h]; rfl
theorem ref_GoodMail (ok : Nat → Prop) (w : World) (m : Mail) (la : Option Addr) (lc : Nat) (ga : Option Addr) (gc : Nat) (ht : m.text.size ≤ 140737488355328) (hR : MailR ok w m la lc ga gc) :
  Calls Try.prog 26 #[mailV m la lc ga gc] w fun e w' => e = .returned (.int .i64 (goodMailC m)) ∧ Below w.heap.size w w' := by
 obtain ⟨hL, hGr⟩ := hR
 have HG := qh (fun (W : World) (h : Below w.heap.size w W) => ref_GoodLabel ok W la lc m.label (hL.below h))
 have hgl : m.grants.length ≤ 9223372036854775807 := by have h1 := hGr.1; have h2 := hGr.2.1; unfold maxLen at h2; omega
 have st := St.start w
 unfold mailV
 go_enter Try.func26, Try.ntmps26
 go_wp2_with (first | go_skip | (with_reducible refine mB 42 st ?_; clear st; intro g1 w1 hg1 st) | (with_reducible refine mX st Try.isAgg31 ?_))
 go_loopw [9, 3, 5] (fun i p _ wr => ∃ k : Nat, k ≤ m.grants.length ∧ i = .int .i64 k ∧ p = .int .i64 (prevI m.grants k) ∧ St [] w wr [(g1, 42, [.int .i64 m.host, .int .i64 m.thread, .slice la m.label.length lc, .slice ga m.grants.length gc, .string m.text])] ∧ Hid (risesI (-1) m.grants = risesI (prevI m.grants k) (m.grants.drop k)) ∧ -1 ≤ prevI m.grants k) (fun i _ _ _ => m.grants.length - (intOf i).toNat)
 case atStart => exact ⟨0, Nat.zero_le _, rfl, by rw [prevI_zero], st, by rw [prevI_zero]; rfl, by rw [prevI_zero]; decide⟩
 case round =>
  clear st
  obtain ⟨k, hk, rfl, rfl, st, hI, hge⟩ := hrel
  by_cases hlt : k < m.grants.length
  ·obtain ⟨b, o, rfl, hb, h1⟩ := (hGr.below st.below).int_at k hlt
   have HBad := qh (fun h => goodMail_bad (m := m) (by rw [risesI_bad hlt hI h 8]; simp))
   have HGo := qh (@risesI_go _ _ hlt hI)
   have HPs := qh (prevI_succ m.grants k hlt)
   generalize prevI m.grants k = p at HBad HGo hge ⊢
   generalize m.grants[k] = x at h1 HBad HGo HPs
   clear hI
   by_cases e1 : x ≤ p
   ·have d1 : decide (x ≤ p) = true := by simpa using e1
    have HE := qh (HBad.out fun h => by omega)
    clear e1
    go_wp2_with (first | go_skip)
    go_ret
    exact ⟨by rw [HE.out]; rfl, st.below⟩
   ·have d1 : decide (x ≤ p) = false := by simpa using e1
    by_cases e2 : 79 < x
    ·have d2 : decide (79 < x) = true := by simpa using e2
     have HE := qh (HBad.out fun h => by have := (catOk_iff _).1 h.2; omega)
     clear e1 e2
     go_wp2_with (first | go_skip)
     go_ret
     exact ⟨by rw [HE.out]; rfl, st.below⟩
    ·have d2 : decide (79 < x) = false := by simpa using e2
     have HN := qh (HGo.out ⟨by omega, (catOk_iff _).2 ⟨by omega, by omega⟩⟩)
     have hx0 : -1 ≤ x := by omega
     clear e1 e2
     go_wp2_with (first | go_skip)
     go_roundw
     case rel => exact ⟨k + 1, hlt, by go_num, by rw [HPs.out], st, HN.out, by rw [HPs.out]; exact hx0⟩
     case measure => simp [intOf]; omega
  ·have hri : risesI (-1) m.grants = true := by rw [hI.out, List.drop_of_length_le (by omega)]; rfl
   have HX : ∀ b, decide ((m.grants.length : Int) ≤ 8) = b → risingB m.grants 8 = b := fun b hb => by unfold risingB; rw [hri, hb]; rfl
   have HRi := qh HX
   have hB := st.below
   have st0 := st
   replace st := st.rebase
   clear hI HX hri hge
   cases h1 : four m.host
   ·have H1 := qh h1
    have HE := qh (goodMail_bad (m := m) (by simp [h1]))
    clear h1
    go_wp2_with (first
     | go_skip | (with_reducible refine mX st Try.isAgg3 ?_) | (with_reducible refine mX st Try.isAgg30 ?_) | (with_reducible refine mX st Try.isAgg31 ?_) | (with_reducible refine mX st Try.isAgg9 ?_)
     | (go_at_call 24; go_must (refine (ref_four _ _).mono ?_; rintro e v ⟨rfl, rfl⟩; first | rw [H1.out] | rw [H2.out]))
     | (go_at_call 41; go_must (refine (HG.out _ (hB.keep (st0.below2 st (by simp)))).mono ?_; rintro e v2 ⟨rfl, hb2⟩; rw [H3.out]; replace st := st.call hb2; clear hb2)))
    go_ret
    exact ⟨by rw [HE.out]; rfl, hB.keep (st0.below2 st (by simp))⟩
   ·have H1 := qh h1
    cases h2 : four m.thread
    ·have H2 := qh h2
     have HE := qh (goodMail_bad (m := m) (by simp [h1, h2]))
     clear h1 h2
     go_wp2_with (first
      | go_skip | (with_reducible refine mX st Try.isAgg3 ?_) | (with_reducible refine mX st Try.isAgg30 ?_) | (with_reducible refine mX st Try.isAgg31 ?_) | (with_reducible refine mX st Try.isAgg9 ?_)
      | (go_at_call 24; go_must (refine (ref_four _ _).mono ?_; rintro e v ⟨rfl, rfl⟩; first | rw [H1.out] | rw [H2.out]))
      | (go_at_call 41; go_must (refine (HG.out _ (hB.keep (st0.below2 st (by simp)))).mono ?_; rintro e v2 ⟨rfl, hb2⟩; rw [H3.out]; replace st := st.call hb2; clear hb2)))
     go_ret
     exact ⟨by rw [HE.out]; rfl, hB.keep (st0.below2 st (by simp))⟩
    ·have H2 := qh h2
     cases h3 : goodL m.label
     ·have H3 := qh h3
      have HE := qh (goodMail_bad (m := m) (by simp [h1, h2, h3]))
      clear h1 h2 h3
      go_wp2_with (first
       | go_skip | (with_reducible refine mX st Try.isAgg3 ?_) | (with_reducible refine mX st Try.isAgg30 ?_) | (with_reducible refine mX st Try.isAgg31 ?_) | (with_reducible refine mX st Try.isAgg9 ?_)
       | (go_at_call 24; go_must (refine (ref_four _ _).mono ?_; rintro e v ⟨rfl, rfl⟩; first | rw [H1.out] | rw [H2.out]))
       | (go_at_call 41; go_must (refine (HG.out _ (hB.keep (st0.below2 st (by simp)))).mono ?_; rintro e v2 ⟨rfl, hb2⟩; rw [H3.out]; replace st := st.call hb2; clear hb2)))
      go_ret
      exact ⟨by rw [HE.out]; rfl, hB.keep (st0.below2 st (by simp))⟩
     ·have H3 := qh h3
      by_cases h8 : (m.grants.length : Int) ≤ 8
      ·have d8 : decide ((8 : Int) < (m.grants.length : Int)) = false := by simp; omega
       have HC := qh (show goodMailC m = if 64 < m.text.size then 9 else 0 by unfold goodMailC; rw [HRi.out true (by simpa using h8), h1, h2, h3]; rfl)
       by_cases h64 : 64 < m.text.size
       ·have d9 : decide ((64 : Int) < (m.text.size : Int)) = true := by simp; omega
        have HE := qh (show goodMailC m = 9 by rw [HC.out, if_pos h64])
        clear h1 h2 h3 h8 h64
        go_wp2_with (first
         | go_skip | (with_reducible refine mX st Try.isAgg3 ?_) | (with_reducible refine mX st Try.isAgg30 ?_) | (with_reducible refine mX st Try.isAgg31 ?_) | (with_reducible refine mX st Try.isAgg9 ?_)
         | (go_at_call 24; go_must (refine (ref_four _ _).mono ?_; rintro e v ⟨rfl, rfl⟩; first | rw [H1.out] | rw [H2.out]))
         | (go_at_call 41; go_must (refine (HG.out _ (hB.keep (st0.below2 st (by simp)))).mono ?_; rintro e v2 ⟨rfl, hb2⟩; rw [H3.out]; replace st := st.call hb2; clear hb2)))
        go_ret
        exact ⟨by rw [HE.out]; rfl, hB.keep (st0.below2 st (by simp))⟩
       ·have d9 : decide ((64 : Int) < (m.text.size : Int)) = false := by simp; omega
        have HE := qh (show goodMailC m = 0 by rw [HC.out, if_neg h64])
        clear h1 h2 h3 h8 h64
        go_wp2_with (first
         | go_skip | (with_reducible refine mX st Try.isAgg3 ?_) | (with_reducible refine mX st Try.isAgg30 ?_) | (with_reducible refine mX st Try.isAgg31 ?_) | (with_reducible refine mX st Try.isAgg9 ?_)
         | (go_at_call 24; go_must (refine (ref_four _ _).mono ?_; rintro e v ⟨rfl, rfl⟩; first | rw [H1.out] | rw [H2.out]))
         | (go_at_call 41; go_must (refine (HG.out _ (hB.keep (st0.below2 st (by simp)))).mono ?_; rintro e v2 ⟨rfl, hb2⟩; rw [H3.out]; replace st := st.call hb2; clear hb2)))
        go_ret
        exact ⟨by rw [HE.out]; rfl, hB.keep (st0.below2 st (by simp))⟩
      ·have d8 : decide ((8 : Int) < (m.grants.length : Int)) = true := by simp; omega
       have HE := qh (goodMail_bad (m := m) (by rw [HRi.out false (by simpa using h8)]; simp))
       clear h1 h2 h3 h8
       go_wp2_with (first
        | go_skip | (with_reducible refine mX st Try.isAgg3 ?_) | (with_reducible refine mX st Try.isAgg30 ?_) | (with_reducible refine mX st Try.isAgg31 ?_) | (with_reducible refine mX st Try.isAgg9 ?_)
        | (go_at_call 24; go_must (refine (ref_four _ _).mono ?_; rintro e v ⟨rfl, rfl⟩; first | rw [H1.out] | rw [H2.out]))
        | (go_at_call 41; go_must (refine (HG.out _ (hB.keep (st0.below2 st (by simp)))).mono ?_; rintro e v2 ⟨rfl, hb2⟩; rw [H3.out]; replace st := st.call hb2; clear hb2)))
       go_ret
       exact ⟨by rw [HE.out]; rfl, hB.keep (st0.below2 st (by simp))⟩
def noMail : Mail := ⟨0, 0, [], [], ⟨#[]⟩⟩
open Go.Maps (Keyed IsMap)
section
variable {P : Program} {k e t : TypeId} {w w' : World} {b r n cnt : Nat} {keys seen : List Int} {val : Int → Int}
def MapZ (P : Program) (k e : TypeId) (w : World) (b n : Nat) (keys : List Int) (val : Int → Int) : Prop :=
 ∃ D : DataW Unit, w.ownsMap P k (plainElem P e) b n D ∧ IsMap D ∧ ∀ x : Int, (Lit.int .i64 x).wf = true → Maps.has D (.int .i64 x) = inL keys x ∧ (inL keys x = true → ∀ zd, D.atKey (.int .i64 x) zd = .lit (.int .i64 (val x)))
theorem MapZ.made (P : Program) (k e : TypeId) (w : World) (val : Int → Int) : MapZ P k e (w.alloc (.map #[] 0)) w.heap.size 0 [] val :=
 ⟨.map [], World.ownsMap_made w P k _, Maps.isMap_empty, fun _ _ => ⟨rfl, fun h => by cases h⟩⟩
theorem MapZ.kept {row : Option Nat} (h : MapZ P k e w b n keys val) (hg : w.grownBy w' row) (hne : row ≠ some b) : MapZ P k e w' b n keys val := by
 obtain ⟨D, h1, h2⟩ := h
 exact ⟨D, h1.kept hg fun e => hne e.symm, h2⟩
theorem MapZ.below (h : MapZ P k e w b n keys val) (hb : Below w.heap.size w w') : MapZ P k e w' b n keys val := h.kept (World.grownBy.ofBelow hb none) (by simp)
theorem MapZ.lt (h : MapZ P k e w b n keys val) : b < w.heap.size := by
 obtain ⟨D, h1, _⟩ := h
 exact h1.lt
theorem MapZ.congr {val' : Int → Int} (h : MapZ P k e w b n keys val) (hv : ∀ x, inL keys x = true → val x = val' x) : MapZ P k e w b n keys val' := by
 obtain ⟨D, h1, h2, h3⟩ := h
 exact ⟨D, h1, h2, fun x hx => ⟨(h3 x hx).1, fun hk zd => by rw [(h3 x hx).2 hk zd, hv x hk]⟩⟩
theorem MapZ.update (h : MapZ P k e w b n keys val) (K : Keyed P k) (hk : P.underlying k = some (.int .i64)) (ht : P.underlying t = some (.map k e)) (he : P.underlying e = some (.int .i64)) (hn : n < maxLen) {z c : Int} (hf : fitI z) (hc : fitI c) :
  ∃ w', (Instr.mapUpdate t (.map (some b)) (.int .i64 z) (.int .i64 c)).run P w = .ok () w' ∧ MapZ P k e w' b (n + 1) (keys ++ [z]) (fun x => if x = z then c else val x) ∧ w.grownBy w' (some b) := by
 obtain ⟨D, h1, h2, h3⟩ := h
 have hkey : keyOf P k (.int .i64 z) = some (.int .i64 z) := Maps.keyOf_int_mk hk (wfI hf)
 obtain ⟨w', hrun, h4, h5⟩ := h1.update K ht hn hkey (plainElem_int he (wfI hc))
 refine ⟨w', hrun, ⟨_, h4, h2.put _ _, fun x hx => ?_⟩, h5⟩
 rw [inL_snoc]
 by_cases hxz : x = z
 ·subst hxz
  rw [if_pos rfl]
  exact ⟨Maps.has_put_same h2 (K.key hkey) _, fun _ zd => by show _ = DataW.lit (Lit.int .i64 (if x = x then c else val x)); rw [if_pos rfl]; exact Maps.atKey_put_same h2 (K.key hkey) _ _⟩
 ·have hne : (Lit.int .i64 x) ≠ .int .i64 z := fun h => hxz (by injection h)
  rw [if_neg hxz]
  exact ⟨(Maps.has_put_other hne _).trans (h3 x hx).1, fun hk zd => by show _ = DataW.lit (Lit.int .i64 (if x = z then c else val x)); rw [if_neg hxz]; exact (Maps.atKey_put_other hne _ _).trans ((h3 x hx).2 hk zd)⟩
def RangeZ (P : Program) (k e : TypeId) (w : World) (b r n : Nat) (keys : List Int) (val : Int → Int) (seen : List Int) (cnt : Nat) : Prop :=
 ∃ (D : DataW Unit) (left : Lit → Bool), w.ranges P k (plainElem P e) b r n D left cnt ∧ (∀ x : Int, (Lit.int .i64 x).wf = true → left (.int .i64 x) = (inL keys x && !inL seen x)) ∧ ∀ x : Int, (Lit.int .i64 x).wf = true → inL keys x = true → ∀ zd, D.atKey (.int .i64 x) zd = .lit (.int .i64 (val x))
theorem RangeZ.left_eq (h : RangeZ P k e w b r n keys val seen cnt) : w.rangeLeft b r = cnt := by
 obtain ⟨D, left, h1, _⟩ := h
 exact h1.left_eq
theorem RangeZ.kept {row : Option Nat} (h : RangeZ P k e w b r n keys val seen cnt) (hg : w.grownBy w' row) (hb' : some b ≠ row) (hr' : some r ≠ row) : RangeZ P k e w' b r n keys val seen cnt := by
 obtain ⟨D, left, h1, h2⟩ := h
 exact ⟨D, left, h1.kept hg hb' hr', h2⟩
theorem RangeZ.below (h : RangeZ P k e w b r n keys val seen cnt) (hb : Below w.heap.size w w') : RangeZ P k e w' b r n keys val seen cnt := h.kept (World.grownBy.ofBelow hb none) (by simp) (by simp)
theorem RangeZ.lt (h : RangeZ P k e w b r n keys val seen cnt) : r < w.heap.size ∧ b < w.heap.size := by
 obtain ⟨D, left, h1, _⟩ := h
 exact ⟨h1.lt, h1.owns.lt⟩
variable {ops : Array Oper} {rest : List Oper} {o : Oper} {A : Act} {Q : Exit → Act → World → Prop} {K' : Act → World → Prop}
theorem wpList_zMake (k e : TypeId) (val : Int → Int) (hgd : Region.wanted o (yielded ops A.tmps) = true) (t : TypeId) (hop : o.op = Op.makeMap t none)
  (hK : ∀ b w', w.heap.size ≤ b → MapZ P k e w' b 0 [] val → Below w.heap.size w w' → wpList P ops Q rest (A.put o.dst (.map (some b))) w') : wpList P ops Q (o :: rest) A w := by
 refine wpList_wanted hgd fun K1 h' => ?_
 have hrun := run_makeMap (P := P) t w
 unfold Oper.wp
 simp [execOp, hop, hrun, Result.andThen]
 exact h' _ _ (hK _ _ (Nat.le_refl _) (MapZ.made P k e w val) ((Below.refl _ _).alloc (Nat.le_refl _) _))
theorem wpList_zUpdate (h : MapZ P k e w b n keys val) (K : Keyed P k) (hk : P.underlying k = some (.int .i64)) (hgd : Region.wanted o (yielded ops A.tmps) = true) (m x v : Operand) (t : TypeId) (hop : o.op = Op.mapUpdate t m x v) (ht : P.underlying t = some (.map k e)) (he : P.underlying e = some (.int .i64)) (hn : n < maxLen)
  (hm : A.eval m = .map (some b)) (z c : Int) (hx : A.eval x = .int .i64 z) (hf : fitI z) (hv : A.eval v = .int .i64 c) (hc : fitI c)
  (hK : ∀ w', MapZ P k e w' b (n + 1) (keys ++ [z]) (fun x => if x = z then c else val x) → w.grownBy w' (some b) → wpList P ops Q rest (A.put o.dst undef) w') : wpList P ops Q (o :: rest) A w := by
 refine wpList_wanted hgd fun K1 h' => ?_
 obtain ⟨w', hrun, h1, h2⟩ := h.update K hk ht he hn hf hc
 unfold Oper.wp
 simp [execOp, hop, hm, hx, hv, hrun, Result.andThen]
 exact h' _ _ (hK w' h1 h2)
theorem wpList_zRange (h : MapZ P k e w b n keys val) (K : Keyed P k) (hgd : o.guard = none) (m : Operand) (t : TypeId) (hop : o.op = Op.range t m) (ht : P.underlying t = some (.map k e)) (hm : A.eval m = .map (some b))
  (hK : ∀ r w' cnt, w.heap.size ≤ r → RangeZ P k e w' b r n keys val [] cnt → Below w.heap.size w w' → wpList P ops Q rest (A.put o.dst (.pointer (some ⟨r, 0, none⟩))) w') : wpList P ops Q (o :: rest) A w := by
 obtain ⟨D, h1, h2, h3⟩ := h
 refine wpList_range_own w hgd m t hop k e K ht (plainElem P e) b n D hm h1 fun w' r1 r2 r3 => ?_
 refine hK _ w' _ (Nat.le_refl _) ⟨D, _, r1, fun x hx => ?_, fun x hx => (h3 x hx).2⟩ ⟨r2.os, r2.tape, r2.output, r2.size, fun q hq => r2.block q hq (by simp)⟩
 rw [(h3 x hx).1]
 simp [inL]
theorem wpList_zNext (h : RangeZ P k e w b r n keys val seen cnt) (K : Keyed P k) (hk : P.underlying k = some (.int .i64)) (he : P.underlying e = some (.int .i64)) (hgd : o.guard = none) (it : Operand) (hop : o.op = Op.next it false) (hit : A.eval it = .pointer (some ⟨r, 0, none⟩))
  (hDone : Hid (∀ x : Int, fitI x → inL keys x = true → inL seen x = true) → wpList P ops Q rest (A.put o.dst (.tuple #[.bool false])) w)
  (hMore : ∀ (x : Int) (w' : World) (cnt' : Nat), fitI x → fitI (val x) → inL keys x = true → inL seen x = false → RangeZ P k e w' b r n keys val (seen ++ [x]) cnt' → cnt' < cnt → w.grownBy w' (some r) → w'.heap.size = w.heap.size →
   (Instr.entry (.pointer (some ⟨r, 0, none⟩))).run P w' = .ok (.tuple #[.int .i64 x, .int .i64 (val x)]) w' → wpList P ops Q rest (A.put o.dst (.tuple #[.bool true, .int .i64 x, .int .i64 (val x)])) w') : wpList P ops Q (o :: rest) A w := by
 obtain ⟨D, left, h1, h2, hval⟩ := h
 refine wpList_next_ranges_ii w hgd it hop k e .i64 .i64 K hk he b r n D left cnt hit h1 (fun h0 hl => hDone (qh fun x hx hin => ?_)) (fun x c w' cnt' hwx hwc hlk hat hrg hlt hgr hsz hen => ?_)
 ·have := h2 x (wfI hx)
  rw [hl, hin] at this
  cases hs : inL seen x
  ·rw [hs] at this; simp at this
  ·rfl
 ·have fit_of : ∀ z : Int, (Lit.int .i64 z).wf = true → fitI z := fun z hz => by
   simp only [Lit.wf, decide_eq_true_eq, Bool.and_eq_true] at hz
   exact hz
  have h3 := h2 x hwx
  rw [hlk] at h3
  have h4 : inL keys x = true := by
   cases hl : inL keys x
   ·rw [hl] at h3; simp at h3
   ·rfl
  have h5 : inL seen x = false := by
   cases hl : inL seen x
   ·rfl
   ·rw [hl, h4] at h3; simp at h3
  obtain rfl : c = val x := by
   have := (hat (.lit (.int .i64 0))).symm.trans (hval x hwx h4 _)
   simpa using this
  refine hMore x w' cnt' (fit_of x hwx) (fit_of _ hwc) h4 h5 ⟨D, _, hrg, fun z hz => ?_, hval⟩ hlt hgr hsz hen
  rw [inL_snoc, h2 z hz]
  by_cases hzx : z = x
  ·subst hzx
   rw [if_pos rfl, WideAt.sameKey_self (K.key (Maps.keyOf_int_mk hk hwx))]
   simp
  ·have hne : (Lit.int .i64 z) ≠ .int .i64 x := fun h => hzx (by injection h)
   rw [if_neg hzx, Maps.sameKey_ne hne]
   simp
variable {l : List Int}
end
end Go.Proofs.Ytealbofmlieicaa
