/- Walks and plain laws, part 14. -/
import Derived.Test.YtnjjdpiofbajlaaGreatP12
import Derived.Shelf.Abstract
set_option linter.unusedSimpArgs false
set_option linter.unusedVariables false
set_option maxHeartbeats 16000000
set_option maxRecDepth 100000
namespace Go.Proofs.YtnjjdpiofbajlaaGreat
open Go.RowKit
theorem Own.open {base : Nat} {e : TypeId} {w : World} {α : Type} {sz : Nat} {R : List Value → α → Prop} {a : Option Addr} {c : Nat} {xs : List α} (h : Own base e w sz R a c xs) :
  (a = none ∧ xs = []) ∨ ∃ (g : Nat) (css : List (List Value)) (rest : List Value), a = some ⟨g, 0, none⟩ ∧ base ≤ g ∧ w.heap[g]? = some (.cells (css.flatten ++ rest).toArray e (0, 0)) ∧ css.length = xs.length ∧ (∀ cs ∈ css, cs.length = sz ∧ ∀ v ∈ cs, v.oneCell' = true) ∧
   (∀ (i : Nat) (x : α) (cs : List Value), xs[i]? = some x → css[i]? = some cs → R cs x) ∧ c ≤ maxLen ∧ xs.length ≤ c ∧ (css.flatten ++ rest).length = c * sz := by
 obtain ⟨css, h1, h2, h3, h4, h5⟩ := h
 rcases h5 with ⟨e1, e2⟩ | ⟨g, cap, cur, e1, hb, hg, hn, hm, hs, ht⟩
 ·simp at e1
  exact .inl ⟨e1.1, List.eq_nil_of_length_eq_zero e2⟩
 ·simp only [Value.slice.injEq] at e1
  obtain ⟨rfl, _, rfl⟩ := e1
  have hc : css.flatten ++ cur.toList.drop (xs.length * sz) = cur.toList := by rw [← ht, List.take_append_drop]
  refine .inr ⟨g, css, cur.toList.drop (xs.length * sz), rfl, hb, ?_, h1, h2, h3, hm, hn, ?_⟩
  ·rw [hc]; simpa using hg
  ·rw [hc]; simpa using hs
theorem line_Answered1 (w : World) (s : Sent) (la : Option Addr) (lc : Nat) (ga : Option Addr) (gc : Nat) (ca : Option Addr) (cc : Nat) (g : Nat) (seq : Int) (hg : g < w.heap.size) (hc : w.cell? ⟨g, 0, none⟩ = some (.int .i64 seq)) :
  Calls Tryz.prog 81 #[.agg (sentCells s la lc ga gc ca cc).toArray, .pointer (some ⟨g, 0, none⟩)] w fun r w' => r = .returned (.bool (s.frame.seq == seq)) ∧ Below w.heap.size w w' := by
 unfold sentCells
 have st := St.start w
 go_enter Tryz.func81, Tryz.ntmps81
 go_wp2_with (first | ((with_reducible refine mB 148 st ?_; clear st; intro g1 w1 hg1 st); have hc1 := (st.below.cell (p := ⟨g, 0, none⟩) hg).trans hc) | (with_reducible refine mX st Tryz.isAgg3 ?_))
 go_ret
 exact ⟨rfl, st.below⟩
abbrev atSeq (seq : Int) (s : Sent) : Bool := s.frame.seq == seq
theorem slices_IndexFunc_Sent (ok : Nat → Prop) (w : World) (a : Option Addr) (c : Nat) (l : List Sent) (g : Nat) (seq : Int) (hl : l.length * 160 ≤ 140737488355328) (hR : SentR ok w a c l) (hg : g < w.heap.size) (hc : w.cell? ⟨g, 0, none⟩ = some (.int .i64 seq)) :
  Calls Tryz.prog 96 #[.slice a l.length c, .func (.func 81) #[] #[.pointer (some ⟨g, 0, none⟩)]] w fun e w' => ∃ n : Int, e = .returned (.int .i64 n) ∧ Below w.heap.size w w' ∧ (l.findIdx (atSeq seq) < l.length → n = l.findIdx (atSeq seq)) ∧ (¬ l.findIdx (atSeq seq) < l.length → n = -1) := by
 have eg : ∀ args w, (callFunc 81 args).run Tryz.prog w = .ok (.enter 81 args) w := enters_of Tryz.func81 (by kernel_rfl) rfl
 go_enter Tryz.func96, Tryz.ntmps96
 go_wp2
 go_loopw [8] (fun i wr => ∃ k : Nat, k ≤ l.length ∧ i = .int .i64 k ∧ Hid (∀ j (h : j < l.length), j < k → atSeq seq l[j] = false) ∧ Below w.heap.size w wr) (fun i _ => l.length - (intOf i).toNat)
 case atStart => exact ⟨0, Nat.zero_le _, rfl, fun j _ h => by omega, Below.refl _ _⟩
 case round =>
  obtain ⟨k, hk, rfl, hI, hB⟩ := hrel
  by_cases hlt : k < l.length
  ·obtain ⟨b, o', la, lc, ga, gc, ca, cc, rfl, hb, ⟨hA1, hA2, hA3⟩, f0, f1, f2, f3, f4, f5, f6, f7, f8, f9, f10, f11, f12⟩ := SlR.sent_at (SentR.below hR hB) k hlt
   have hcl := line_Answered1 wr l[k] la lc ga gc ca cc g seq (Nat.lt_of_lt_of_le hg hB.size) ((hB.cell (p := ⟨g, 0, none⟩) hg).trans hc)
   unfold sentCells at hcl
   go_wp2_with (first | (go_at_call 81; refine hcl.mono ?_; rintro r v1 ⟨rfl, hb1⟩))
   ·have hq : (l[k].frame.seq == seq) = true := by assumption
    have hx : l.findIdx (atSeq seq) = k := (List.findIdx_eq hlt).2 ⟨hq, fun j hj => hI.out j (by omega) hj⟩
    go_ret
    exact ⟨k, rfl, hB.keep hb1, fun _ => by rw [hx], fun h => absurd (by rw [hx]; exact hlt) h⟩
   ·have hq : (l[k].frame.seq == seq) = false := by assumption
    go_roundw
    case rel => exact ⟨k + 1, hlt, by go_num, fun j h hj => (by
     rcases Nat.lt_succ_iff_lt_or_eq.1 hj with h1 | rfl
     ·exact hI.out j h h1
     ·exact hq), hB.keep hb1⟩
    case measure => simp [intOf]; omega
  ·go_wp2
   go_ret
   have hx : ¬ l.findIdx (atSeq seq) < l.length := fun h => by
    have := List.findIdx_getElem (w := h)
    rw [hI.out _ h (by omega)] at this
    simp at this
   exact ⟨-1, rfl, hB, fun h => absurd h hx, fun _ => rfl⟩
theorem flat_at {sz : Nat} {rest : List Value} : ∀ {css : List (List Value)}, (∀ cs ∈ css, cs.length = sz) → ∀ {i : Nat} {cs : List Value}, css[i]? = some cs → ((css.flatten ++ rest).drop (i * sz)).take sz = cs
 | [], _, i, cs, h => by simp at h
 | c0 :: css, hs, 0, cs, h => by
  simp at h
  subst h
  have := hs c0 (by simp)
  simp [List.take_append_of_le_length, ← this]
 | c0 :: css, hs, i + 1, cs, h => by
  have hc := hs c0 (by simp)
  have := flat_at (rest := rest) (css := css) (fun c hc => hs c (by simp [hc])) (i := i) (cs := cs) (by simpa using h)
  rw [← this]
  simp only [List.flatten_cons, List.append_assoc]
  rw [show (i + 1) * sz = c0.length + i * sz by rw [hc, Nat.succ_mul]; omega, ← List.drop_drop, List.drop_left]
theorem putL_skip : ∀ (us : List Value) {cs vs : List Value} (o : Nat), putL (us ++ cs) (us.length + o) vs = us ++ putL cs o vs
 | [], _, _, o => by simp
 | u :: us, cs, vs, o => by
  have := putL_skip us (cs := cs) (vs := vs) o
  simp only [List.cons_append, List.length_cons]
  rw [show us.length + 1 + o = us.length + o + 1 by omega]
  simp only [putL, this]
theorem putL_front : ∀ {cs vs rest : List Value}, vs.length = cs.length → putL (cs ++ rest) 0 vs = vs ++ rest
 | [], [], rest, _ => by cases rest <;> rfl
 | [], _ :: _, _, h => by simp at h
 | _ :: _, [], _, h => by simp at h
 | c :: cs, v :: vs, rest, h => by simp only [List.cons_append, putL]; rw [putL_front (by simpa using h)]
theorem flat_put {sz : Nat} {rest vs : List Value} (hv : vs.length = sz) : ∀ {css : List (List Value)}, (∀ cs ∈ css, cs.length = sz) → ∀ {i : Nat}, i < css.length → putL (css.flatten ++ rest) (i * sz) vs = (css.set i vs).flatten ++ rest
 | [], _, i, h => by simp at h
 | c0 :: css, hs, 0, h => by
  have hc := hs c0 (by simp)
  simp only [List.flatten_cons, List.append_assoc, Nat.zero_mul, List.set_cons_zero]
  exact putL_front (by omega)
 | c0 :: css, hs, i + 1, h => by
  have hc := hs c0 (by simp)
  have := flat_put (rest := rest) hv (css := css) (fun c hc => hs c (by simp [hc])) (i := i) (by simpa using h)
  simp only [List.flatten_cons, List.append_assoc, List.set_cons_succ]
  rw [show (i + 1) * sz = c0.length + i * sz by rw [hc, Nat.succ_mul]; omega, putL_skip, this]
theorem flat_len {sz : Nat} {css : List (List Value)} (h : ∀ cs ∈ css, cs.length = sz) : css.flatten.length = css.length * sz := flatten_length h
theorem zero_cells (z : Array Value) (hz : 0 < z.size) (n : Nat) : (Builtin.zeroCells z n).toList = (List.replicate n z.toList).flatten := by
 apply List.ext_getElem?
 intro i
 have hl : ∀ cs ∈ List.replicate n z.toList, cs.length = z.size := fun cs h => by rw [List.eq_of_mem_replicate h]; simp
 by_cases hi : i < n * z.size
 ·have h1 : i / z.size < n := Nat.div_lt_of_lt_mul (by rwa [Nat.mul_comm])
  have h2 := flatten_at hl (i := i / z.size) (cs := z.toList) (by rw [List.getElem?_replicate, if_pos h1]) (j := i % z.size) (v := z[i % z.size]'(Nat.mod_lt _ hz)) (by simp [gEg, Nat.mod_lt _ hz])
  rw [Nat.mul_comm, Nat.div_add_mod] at h2
  rw [h2]
  simp [Builtin.zeroCells, Array.getElem?_ofFn, hi, Nat.mod_lt _ hz]
 ·rw [List.getElem?_eq_none, List.getElem?_eq_none]
  ·rw [flatten_length hl]; simp; omega
  ·simp [Builtin.zeroCells]; omega
theorem wpList_clear {P : Program} {w0 w : World} {M : List Nat} {own : Blks} {ops : Array Oper} {rest : List Oper} {o : Oper} {A : Act} {Q : Exit → Act → World → Prop} (st : St M w0 w own) (hgd : Region.wanted o (yielded ops A.tmps) = true) (x : Operand) (t e : TypeId)
  (ho : o.op = .call { callee := .builtin .clear, args := #[x], argTypes := #[t] }) (ht : P.underlying t = some (.slice e)) (z : Value) (hz : ∀ w, (zeroValue e).run P w = .ok z w) (zs : List Value) (hzs : z.cells.toList = zs) (hz0 : 0 < zs.length) (h1 : zs.all Value.oneCell' = true)
  (g off n c : Nat) (hx : A.eval x = .slice (some ⟨g, off, none⟩) n c) (hn : 0 < n) (i : Nat) (T : TypeId) (cs : List Value) (hi : own[i]? = some (g, T, cs)) (hle : off + n * zs.length ≤ cs.length)
  (h : ∀ w', St M w0 w' (own.set i (g, T, putL cs off (List.replicate n zs).flatten)) → w'.heap.size = w.heap.size → wpList P ops Q rest (A.put o.dst (.tuple #[])) w') : wpList P ops Q (o :: rest) A w := by
 have hsz : z.cells.size = zs.length := by rw [← hzs]; simp
 have hlz : ∀ cs ∈ List.replicate n zs, cs.length = zs.length := fun cs h => by rw [List.eq_of_mem_replicate h]
 have hvl : (List.replicate n zs).flatten.length = n * zs.length := by rw [flatten_length hlz]; simp
 have hzc : (Builtin.zeroCells z.cells n).toList = (List.replicate n zs).flatten := by rw [zero_cells _ (by omega), hzs]
 have hone : ∀ u ∈ (List.replicate n zs).flatten, u.oneCell' = true := fun u hu => by
  obtain ⟨cs, hcs, hu⟩ := List.mem_flatten.1 hu
  rw [List.eq_of_mem_replicate hcs] at hu
  exact List.all_eq_true.1 h1 u hu
 have hst : (storeCells ⟨g, off, none⟩ (List.replicate n zs).flatten 0).run P w = .ok () (w.setCells g off (List.replicate n zs).flatten) := run_storeCells_cells (P := P) g off _ 0 w
  (fun j hj => by rw [Nat.add_zero, st.cell hi]; rw [gEg (by omega)]; rfl) (fun j hj => by rw [Nat.add_zero]; exact st.free hi _) hone
 obtain ⟨a1, a2, a3, a4, a5, a6⟩ := setCells_block (w := w) (List.replicate n zs).flatten off cs (st.blk _ (mgE hi))
 have hs' := st.put hi a1 a2 a3 a4 a5 a6
 obtain ⟨m, rfl⟩ : ∃ m, n = m + 1 := ⟨n - 1, by omega⟩
 have hrun : ∀ ty, (Builtin.clear_ #[t] ty #[.slice (some ⟨g, off, none⟩) (m + 1) c]).run P w = .ok (.tuple #[]) (w.setCells g off (List.replicate (m + 1) zs).flatten) := fun ty => by
  simp [Builtin.clear_, run_underlying ht, hz, hzc, hst]
 refine wpList_wanted hgd fun K hK => ?_
 unfold Oper.wp
 simp [execOp, ho, resolve, invoke, builtin, hx, hrun, Result.andThen]
 exact hK _ _ (h _ hs' a3)
theorem putL_before : ∀ {cs : List Value} {o : Nat} {vs : List Value} {p : Nat}, p < o → (putL cs o vs)[p]? = cs[p]?
 | [], _, _, _, _ => by simp [putL]
 | c :: cs, 0, _, _, h => by omega
 | c :: cs, o + 1, vs, 0, _ => by simp [putL]
 | c :: cs, o + 1, vs, p + 1, h => by simp only [putL, List.getElem?_cons_succ]; exact putL_before (by omega)
theorem SlR.front {w : World} {g : Nat} {T : TypeId} {cells : List Value} {cur : List (List Value)} {sz c : Nat} {α : Type} {R : List Value → α → Prop} {xs : List α} (hg : w.heap[g]? = some (.cells cells.toArray T (0, 0))) (hc : ∀ cs ∈ cur, cs.length = sz ∧ ∀ v ∈ cs, v.oneCell' = true)
  (hn : xs.length ≤ cur.length) (hcell : ∀ p, p < xs.length * sz → cells[p]? = cur.flatten[p]?) (hR : ∀ (m : Nat) (x : α) (cs : List Value), xs[m]? = some x → cur[m]? = some cs → R cs x) (hxc : xs.length ≤ c) (hcm : c ≤ maxLen) {ok : Nat → Prop} (ho : ok g) : SlR ok w sz R (some ⟨g, 0, none⟩) c xs := by
 refine ⟨hxc, hcm, by simp, fun i x hx => ?_⟩
 have hi := (gEs hx).1
 have hcur : cur[i]? = some (cur[i]'(by omega)) := gEg _
 have hcs := hc _ (mgE hcur)
 refine ⟨g, 0, cur[i]'(by omega), rfl, ho, (Array.getElem?_eq_some_iff.1 hg).1, hR i x _ hx hcur, hcs.1, hcs.2, fun j v hv => ?_⟩
 have hj := (gEs hv).1
 rw [hcs.1] at hj
 rw [cell_of_row w g _ cells.toArray T (0, 0) hg, List.getElem?_toArray, Nat.zero_add, hcell _ (by
  have : (i + 1) * sz ≤ xs.length * sz := Nat.mul_le_mul_right _ hi
  rw [Nat.succ_mul] at this
  omega)]
 exact flatten_at (fun cs h => (hc cs h).1) hcur hv
abbrev offSeq (seq : Int) (s : Sent) : Bool := !(s.frame.seq == seq)
theorem del_keep {R : List Value → Sent → Prop} {q : Sent → Bool} {l : List Sent} {cur css : List (List Value)} {i j : Nat} (hjl : j < l.length) (hjc : j < css.length) (hq : q l[j] = true) (hi : i = ((l.take j).filter q).length) (hij : i < j) (hl : cur.length = l.length)
  (hB : ∀ (m : Nat) (x : Sent) (cs : List Value), ((l.take j).filter q)[m]? = some x → cur[m]? = some cs → R cs x) (hC : ∀ m, j ≤ m → cur[m]? = css[m]?) (hR : R css[j] l[j]) :
  i + 1 = ((l.take (j + 1)).filter q).length ∧ (∀ (m : Nat) (x : Sent) (cs : List Value), ((l.take (j + 1)).filter q)[m]? = some x → (cur.set i css[j])[m]? = some cs → R cs x) ∧ (∀ m, j + 1 ≤ m → (cur.set i css[j])[m]? = css[m]?) := by
 have e : (l.take (j + 1)).filter q = (l.take j).filter q ++ [l[j]] := by
  rw [List.take_succ_eq_append_getElem hjl, List.filter_append]
  simp [hq]
 rw [e]
 refine ⟨by simp [← hi], fun m x cs hx hc => ?_, fun m hm => ?_⟩
 ·by_cases hm : m < i
  ·rw [List.getElem?_append_left (by omega)] at hx
   rw [List.getElem?_set_ne (by omega)] at hc
   exact hB m x cs hx hc
  ·have hlen := (gEs hx).1
   rw [List.length_append, ← hi, List.length_singleton] at hlen
   obtain rfl : m = i := by omega
   rw [List.getElem?_append_right (by omega), ← hi] at hx
   simp at hx
   rw [List.getElem?_set_self (by omega)] at hc
   simp at hc
   rw [← hx, ← hc]
   exact hR
 ·rw [List.getElem?_set_ne (by omega)]
  exact hC m (by omega)
theorem del_drop {q : Sent → Bool} {l : List Sent} {j : Nat} (hjl : j < l.length) (hq : q l[j] = false) : (l.take (j + 1)).filter q = (l.take j).filter q := by
 rw [List.take_succ_eq_append_getElem hjl, List.filter_append]
 simp [hq]
theorem slices_DeleteFunc_Sent {R : List Value → Sent → Prop} (ok : Nat → Prop) (base : Nat) (w : World) (a : Option Addr) (c : Nat) (l : List Sent) (g : Nat) (seq : Int) (hl : l.length * 160 ≤ 140737488355328) (hRS : ∀ cs s, R cs s → RSent ok w cs s) (hO : Own base 148 w 13 R a c l) (hb : base ≤ w.heap.size) (hg : g < base) (hc : w.cell? ⟨g, 0, none⟩ = some (.int .i64 seq)) :
  Calls Tryz.prog 79 #[.slice a l.length c, .func (.func 81) #[] #[.pointer (some ⟨g, 0, none⟩)]] w fun e w' => e = .returned (.slice a (l.filter (offSeq seq)).length c) ∧ Below base w w' ∧ SlR (fun b => base ≤ b) w' 13 R a c (l.filter (offSeq seq)) := by
 have eg : ∀ args w, (callFunc 81 args).run Tryz.prog w = .ok (.enter 81 args) w := enters_of Tryz.func81 (by kernel_rfl) rfl
 have hS : SentR (fun _ => True) w a c l := (hO.slr (ok := fun _ => True) fun _ _ => trivial).mono (.refl _ _) fun _ _ h => (hRS _ _ h).move (Nat.le_refl _) fun _ _ _ => ⟨trivial, rfl⟩
 have hI := slices_IndexFunc_Sent (fun _ => True) w a c l g seq hl hS (by omega) hc
 by_cases hlt : l.findIdx (atSeq seq) < l.length
 case neg =>
  have hf : l.filter (offSeq seq) = l := List.filter_eq_self.2 fun x hx => by
   obtain ⟨i, hi, rfl⟩ := List.mem_iff_getElem.1 hx
   have : ∀ h, atSeq seq (l[i]'h) = false := fun h => by
    by_cases h' : atSeq seq l[i] = true
    ·exact absurd (List.findIdx_lt_length_of_exists ⟨_, List.getElem_mem h, h'⟩) hlt
    ·simpa using h'
   simpa [offSeq, atSeq] using this hi
  rw [hf]
  have hR := hO.slr (ok := fun b => base ≤ b) fun _ h => h
  clear hO hS hf
  go_enter Tryz.func79, Tryz.ntmps79
  go_wp2_with (first | (go_at_call 96; refine hI.mono ?_; rintro r v1 ⟨n, rfl, hb1, _, hn⟩; obtain rfl := hn hlt))
  go_ret
  exact ⟨rfl, hb1.mono hb, hR.below (hb1)⟩
 case pos =>
  rcases hO.open with ⟨_, rfl⟩ | ⟨g0, css, rest, rfl, hb0, hblk, hcl, hcs, hcR, hcm, hcn, hct⟩
  ·simp at hlt
  generalize hk : l.findIdx (atSeq seq) = k at hI hlt
  have hkp : ∀ j (h : j < l.length), j < k → offSeq seq l[j] = true := fun j h hj => by
   have := List.not_of_lt_findIdx (by rw [hk]; exact hj : j < l.findIdx (atSeq seq))
   simpa [offSeq, atSeq] using this
  have hkk : offSeq seq l[k] = false := by
   have := List.findIdx_getElem (p := atSeq seq) (w := by rw [hk]; exact hlt)
   simp only [hk] at this
   simpa [offSeq, atSeq] using this
  have st0 : St [g0] w w [(g0, 148, css.flatten ++ rest)] := ⟨rfl, rfl, rfl, Nat.le_refl _, fun _ _ _ => rfl, by simpa using hblk, by simp, by simp⟩
  have hf0 : (l.take (k + 1)).filter (offSeq seq) = l.take k := by
   rw [List.take_succ_eq_append_getElem hlt, List.filter_append]
   have h1 : (l.take k).filter (offSeq seq) = l.take k := List.filter_eq_self.2 fun x hx => by
    obtain ⟨i, hi, rfl⟩ := List.mem_iff_getElem.1 hx
    simp only [List.length_take] at hi
    rw [List.getElem_take]
    exact hkp i (by omega) (by omega)
   simp [h1, hkk]
  clear hO hS hkp hkk hk
  go_enter Tryz.func79, Tryz.ntmps79
  go_wp2_with (first | (go_at_call 96; refine hI.mono ?_; rintro r v1 ⟨n, rfl, hb1, hn, _⟩; obtain rfl := hn hlt))
  have hb1s := hb1.size
  have st1 := st0.call hb1
  have hcv : v1.cell? ⟨g, 0, none⟩ = some (.int .i64 seq) := (hb1.cell (p := ⟨g, 0, none⟩) (show g < w.heap.size by omega)).trans hc
  go_loopw [5, 6] (fun vi vj wr => ∃ (j : Nat) (i : Nat) (cur : List (List Value)), vi = .int .i64 i ∧ vj = .int .i64 j ∧ j ≤ l.length ∧ i < j ∧ Hid (i = ((l.take j).filter (offSeq seq)).length) ∧ Hid (cur.length = l.length) ∧ Hid (∀ cs ∈ cur, cs.length = 13 ∧ ∀ v ∈ cs, v.oneCell' = true) ∧
    (∀ (m : Nat) (x : Sent) (cs : List Value), ((l.take j).filter (offSeq seq))[m]? = some x → cur[m]? = some cs → R cs x) ∧ (∀ m, j ≤ m → cur[m]? = css[m]?) ∧ St [g0] v1 wr [(g0, 148, cur.flatten ++ rest)]) (fun _ vj _ => l.length - (intOf vj).toNat)
  case atStart =>
   refine ⟨k + 1, k, css, rfl, rfl, hlt, by omega, ?_, hcl, hcs, ?_, fun _ _ => rfl, ?_⟩
   ·refine qh ?_; rw [hf0]; simp; omega
   ·intro m x cs hx hc
    rw [hf0] at hx
    have hm := (gEs hx).1
    simp at hm
    rw [List.getElem?_take_of_lt (by omega)] at hx
    exact hcR m x cs hx hc
   ·exact st1.rebase
  case round =>
   obtain ⟨j, i, cur, rfl, rfl, hj, hij, hi, hcl', hcs', hcB, hcC, st⟩ := hrel
   by_cases hjl : j < l.length
   ·have hcj : cur[j]? = some (css[j]'(by omega)) := by rw [hcC j (Nat.le_refl _), gEg]
    obtain ⟨la, lc, ga, gc, ca, cc, e, hr⟩ := hRS _ _ (hcR j l[j] _ (gEg hjl) (gEg (by omega)))
    have hv := flat_at (rest := rest) (fun cs h => (hcs'.out cs h).1) hcj
    rw [e] at hv
    have hcv' := fun (W : World) own (hW : St [g0] v1 W own) => line_Answered1 W l[j] la lc ga gc ca cc g seq (by have := hW.size; omega) ((World.cell?_of_block (a := ⟨g, 0, none⟩) (hW.frame g (by omega) (by simp; omega))).trans hcv)
    unfold sentCells at hcv'
    have hle : i * 13 + 13 ≤ (cur.flatten ++ rest).length := by
     have h1 := flat_len (fun cs h => (hcs'.out cs h).1)
     have h2 := hcl'.out
     rw [List.length_append, h1, h2]
     omega
    have HCV := qh hcv'
    clear hcv' hI
    go_wp2_with (first
     | (refine mem_load_agg' st 148 _ rfl (wanted_none rfl) Tryz.isAgg148 _ Tryz.sizeOf148 ?_; refine ⟨0, _, _, _, _, _, rfl, rfl, hv, rfl, ?_⟩)
     | (with_reducible refine mA st Tryz.zeroValue148 ?_; clear st; intro g7 w7 hg7 st) | (with_reducible refine mS 1 st Tryz.sizeOf148 ?_; clear st; intro w8 st hw8m hw8z) | (with_reducible refine mXA st Tryz.isAgg148 Tryz.sizeOf148 ?_)
     | (go_at_call 81; refine (HCV.out _ _ st).mono ?_; rintro r v2 ⟨rfl, hb2⟩; replace st := st.call hb2)
     | (refine mem_store' st 148 _ _ rfl (wanted_none rfl) _ Tryz.sizeOf148 ?_; refine ⟨0, _, _, _, _, _, rfl, rfl, rfl, rfl, rfl, Nat.ble_eq_true_of_le hle, ?_⟩; clear st; intro w9 st hm hz; simp [Act.eval, Value.cells] at st))
    ·have hq : (!(l[j].frame.seq == seq)) = true := by assumption
     obtain ⟨h1, h2, h3⟩ := del_keep (q := offSeq seq) (R := R) (css := css) hjl (by omega) hq hi.out hij hcl'.out hcB hcC (hcR j l[j] _ (gEg hjl) (gEg (by omega)))
     rw [← e, flat_put (by rw [e]; rfl) (fun cs h => (hcs'.out cs h).1) (by have := hcl'.out; omega)] at st
     clear HCV hv
     refine ⟨⟨_, _, _, _, _, _, _, _, _, _, _, _, _, _, _, _, _, _, _, _, _, _, _, ?rel, rfl⟩, ?measure⟩
     case rel =>
      refine ⟨j + 1, i + 1, cur.set i css[j], by go_num, by go_num, hjl, by omega, h1, ?_, fun cs h => ?_, h2, h3, ?_⟩
      ·refine qh ?_; rw [List.length_set]; exact hcl'.out
      ·rcases List.mem_or_eq_of_mem_set h with h | rfl
       ·exact hcs'.out cs h
       ·exact hcs _ (List.getElem_mem _)
      ·exact st.sub (by simp) (by simp)
     case measure => simp [intOf]; omega
    ·have hq : (!(l[j].frame.seq == seq)) = false := by assumption
     have h1 := del_drop (q := offSeq seq) hjl hq
     clear HCV hv
     refine ⟨⟨_, _, _, _, _, _, _, _, _, _, _, _, _, _, _, _, _, _, _, _, _, _, _, ?rel, rfl⟩, ?measure⟩
     case rel =>
      refine ⟨j + 1, i, cur, rfl, by go_num, hjl, by omega, by rw [h1]; exact hi.out, hcl'.out, hcs'.out, by rw [h1]; exact hcB, fun m hm => hcC m (by omega), ?_⟩
      exact st.sub (by simp) (by simp)
     case measure => simp [intOf]; omega
   ·obtain rfl : j = l.length := by omega
    have hlen := flat_len (fun cs h => (hcs'.out cs h).1)
    rw [hcl'.out] at hlen
    rw [List.take_length] at hcB
    have hi' := hi
    rw [List.take_length] at hi'
    have hin : i < l.length := hij
    clear hi hcC hI
    go_wp2_with (first | go_skip | (refine wpList_clear st (wanted_none rfl) _ 77 148 rfl Tryz.underlying77 _ Tryz.zeroValue148 _ rfl (by decide) rfl g0 (i * 13) (l.length - i) (c - i) ?x1 (by omega) 0 _ _ rfl ?x2 ?_))
    case x1 => rfl
    case x2 =>
     rw [List.length_append, hlen]
     show i * 13 + (l.length - i) * 13 ≤ _
     omega
    intro w9 st' hz
    clear st
    go_wp2
    go_ret
    refine ⟨by rw [← hi'.out]; rfl, (hb1.mono hb).trans (st'.belowB (by omega) (by simp; omega)), ?_⟩
    refine SlR.front (cur := cur) (st'.blk _ (by simp; rfl)) hcs'.out (by rw [← hi'.out, hcl'.out]; omega) (fun p hp => ?_) hcB (by rw [← hi'.out]; omega) hcm hb0
    rw [← hi'.out] at hp
    rw [putL_before hp, List.getElem?_append_left (by rw [hlen]; omega)]
end Go.Proofs.YtnjjdpiofbajlaaGreat
