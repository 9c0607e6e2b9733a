/- Walks and plain laws, part 3. -/
import Derived.Test.YtealbofmlieicaaP1
import Derived.ProofKit
import Derived.OpenShut
import Derived.Deep.CondSized
set_option linter.unusedSimpArgs false
set_option linter.unusedVariables false
set_option maxHeartbeats 16000000
set_option maxRecDepth 100000
namespace Go.Proofs.Ytealbofmlieicaa
open Go.ChangeShapes Go.WideShapes Go.RowKit
section
variable {H : Type} {enc : TypeId × Value → H} {P : Program}
theorem post_of_below {f : Func} {s : ChangeSpec} {apart fresh handsOn again : Bool} {W W' : World} {args : Array Value} {v : Value} {ds gs : List (DataW H)} {before pa pv : List MemPlace}
  (hW : DataW.Whole enc P f.params.toList s.vars apart W args.toList ds gs before)
  (hres : ∀ (b : Nat) (sp : Nat → Bool) (hd : Bool), DataW.TrodAll enc P W' b sp hd f.resultTypes.toList (v.resultList f.resultTypes.size) (s.fn H (ds ++ gs)).results [])
  (hargs : ∀ sp : Nat → Bool, (∀ p ∈ before, sp p.block = true) → DataW.TrodAll enc P W' 0 sp true f.params.toList args.toList (s.fn H (ds ++ gs)).args pa)
  (hvars : ∀ sp : Nat → Bool, (∀ p ∈ before, sp p.block = true) → DataW.TrodVars enc P W' sp s.vars (s.fn H (ds ++ gs)).vars pv)
  (hps : before = pa ++ pv) (hb : Below W.heap.size W W')
  (hok : ∀ (j : Nat) (t : TypeId) (r : Value), f.resultTypes[j]? = some t → (v.resultList f.resultTypes.size)[j]? = some r → Value.okWide P W' .any 0 t r) :
  s.post enc P f apart fresh handsOn again W args v W' := by
 have hlt : ∀ p ∈ before, p.block < W.heap.size := fun p hp => hW.lt p hp
 have hold : ∀ p ∈ before, (fun b => decide (b < W.heap.size)) p.block = true := fun p hp => by simpa using hlt p hp
 refine ⟨ds, gs, before, [], pa, pv, hW, hres _ _ _, hargs _ hold, hvars _ hold, World.keptBut_mono (fun p hp => ⟨hp, ?_⟩) (hb.frame (·∈ before)), fun _ => ?_⟩
 ·rw [hps, List.mem_append] at hp
  exact Or.inr hp
 ·obtain ⟨_, _, _, _, _, hz, hn⟩ := hW
  refine ⟨hok, _, _, ([] ++ pa) ++ pv, ⟨[] ++ pa, pv, trodAll_append (hargs _ (fun _ _ => rfl)) (hres _ _ _), hvars _ (fun _ _ => rfl), rfl, ?_, ?_⟩, ?_⟩
  ·intro b off hp
   have hin : MemPlace.cell b off ∈ before := by rw [hps]; simpa using hp
   rw [hb.frozen (hlt _ hin)]
   exact hz b off hin
  ·intro ha
   have := hn ha
   rw [hps] at this
   simpa using this
  ·intro p hp _
   rw [hps]
   simpa using hp
theorem args_again (hl : laidOutB P = true) {W W' : World} (hb : Below W.heap.size W W') (sp : Nat → Bool) : ∀ {ts : List TypeId} {vs : List Value} {ds : List (DataW H)} {ps : List MemPlace}, (∀ t ∈ ts, P.readableRec t = true ∧ t < P.types.size) →
  DataW.TrodAll enc P W 0 (fun _ => true) true ts vs ds ps → (∀ x ∈ ps, x.block < W.heap.size) → (∀ x ∈ ps, sp x.block = true) → DataW.TrodAll enc P W' 0 sp true ts vs ds ps
 | [], _, _, _, _, h, _, _ => by
  obtain ⟨rfl, rfl, rfl⟩ := trodAll_nil h
  exact trodAll_mk0
 | t :: ts, _, _, _, ht, h, hlt, hs => by
  obtain ⟨v, vs, d, ds, p, q, rfl, rfl, rfl, h1, h2⟩ := trodAll_cons h
  refine trodAll_cons_mk (WideElems.Trod_stays hl (ht t (by simp)).1 (ht t (by simp)).2 h1 (fun x hx => hb.same (hlt x (by simp [hx]))) fun x hx => hs x (by simp [hx])) ?_
  exact args_again hl hb sp (fun t h => ht t (by simp [h])) h2 (fun x hx => hlt x (by simp [hx])) fun x hx => hs x (by simp [hx])
theorem law_post {f : Func} {s : ChangeSpec} {W W' : World} {args : Array Value} {ds gs : List (DataW H)} {before : List MemPlace} {tb : TypeId} (hl : laidOutB P = true) (htb : (f.params.toList.all fun t => P.readableRec t && decide (t < P.types.size)) = true)
  (hW : DataW.Whole enc P f.params.toList s.vars false W args.toList ds gs before) (hv : s.vars = []) (hfn : s.fn H (ds ++ gs) = { results := [.lit (.bool true)], args := ds })
  (hr : f.resultTypes = #[tb]) (hu : P.underlying tb = some .bool) (hb : Below W.heap.size W W') :
  s.post enc P f false true false false W args (.bool true) W' := by
 have hts : ∀ t ∈ f.params.toList, P.readableRec t = true ∧ t < P.types.size := fun t ht => by
  have := List.all_eq_true.1 htb t ht
  simpa using this
 have hW' := hW
 obtain ⟨p, q, hA, hV, rfl, hfz, hnd⟩ := hW
 rw [hv] at hV
 obtain ⟨rfl, rfl⟩ := trodVars_none hV
 have hlt : ∀ x ∈ p, x.block < W.heap.size := fun x hx => hW'.lt x (by simp [hx])
 refine post_of_below (pa := p) (pv := []) hW' (fun b sp hd => ?_) (fun sp hs => ?_) (fun sp hs => ?_) rfl hb ?_
 ·rw [hfn, hr]
  exact trodAll_cons_mk (shut_bool hu _) trodAll_mk0
 ·rw [hfn]
  exact args_again hl hb sp hts hA hlt fun x hx => hs x (by simp [hx])
 ·rw [hfn, hv]
  rfl
 ·exact ok_one hr rfl (okWide_bool_mk hu _)
end
open Go.ChangeShapes Go.WideShapes Go.RowKit
mutual
def bk {H : Type} : DataW H → Nat
 | .lit (.string bytes) => bytes.length + 1
 | .lit _ => 1
 | .nil => 1
 | .ptr d => bk d + 1
 | .slice elems spare => bkAll elems + bkAll spare + 1
 | .agg parts => bkAll parts + 1
 | .iface _ d => bk d + 1
 | .map _ => 0
 | .held _ => 1
def bkAll {H : Type} : List (DataW H) → Nat
 | [] => 0
 | d :: r => bk d + bkAll r
end
def Reads (P : Program) (t : TypeId) (sz : Nat) {α : Type} (R : World → List Value → α → Prop) (fit : α → Prop) (mass : α → Nat) : Prop :=
 ∀ (H : Type) (enc : TypeId × Value → H) (w : World) (fuel : Nat) (cs : List Value) (x : DataW H × List MemPlace),
  DataW.trod enc P w 0 (fun _ => true) true fuel t cs = some x → (∀ n ∈ x.1.weights P t, n ≤ reachBytes) →
  ∃ y : α, R w cs y ∧ cs.length = sz ∧ (∀ v ∈ cs, v.oneCell' = true) ∧ fit y ∧ mass y ≤ bk x.1
def fitI (n : Int) : Prop := -9223372036854775808 ≤ n ∧ n ≤ 9223372036854775807
theorem len2 {α : Type} {l : List α} (h : l.length = 2) : ∃ a0 a1, l = [a0, a1] := by
 match l, h with
 | [a0, a1], _ => exact ⟨a0, a1, rfl⟩
theorem len4 {α : Type} {l : List α} (h : l.length = 4) : ∃ a0 a1 a2 a3, l = [a0, a1, a2, a3] := by
 match l, h with
 | [a0, a1, a2, a3], _ => exact ⟨a0, a1, a2, a3, rfl⟩
theorem len5 {α : Type} {l : List α} (h : l.length = 5) : ∃ a0 a1 a2 a3 a4, l = [a0, a1, a2, a3, a4] := by
 match l, h with
 | [a0, a1, a2, a3, a4], _ => exact ⟨a0, a1, a2, a3, a4, rfl⟩
theorem len8 {α : Type} {l : List α} (h : l.length = 8) : ∃ a0 a1 a2 a3 a4 a5 a6 a7, l = [a0, a1, a2, a3, a4, a5, a6, a7] := by
 match l, h with
 | [a0, a1, a2, a3, a4, a5, a6, a7], _ => exact ⟨a0, a1, a2, a3, a4, a5, a6, a7, rfl⟩
theorem len15 {α : Type} {l : List α} (h : l.length = 15) : ∃ a0 a1 a2 a3 a4 a5 a6 a7 a8 a9 a10 a11 a12 a13 a14, l = [a0, a1, a2, a3, a4, a5, a6, a7, a8, a9, a10, a11, a12, a13, a14] := by
 match l, h with
 | [a0, a1, a2, a3, a4, a5, a6, a7, a8, a9, a10, a11, a12, a13, a14], _ => exact ⟨a0, a1, a2, a3, a4, a5, a6, a7, a8, a9, a10, a11, a12, a13, a14, rfl⟩
section
variable {P : Program} {t : TypeId}
theorem reads_int (ht : P.underlying t = some (.int .i64)) : Reads P t 1 (fun _ cs (n : Int) => cs = [.int .i64 n]) fitI (fun _ => 1) := by
 intro H enc w fuel cs x hx _
 obtain ⟨n, rfl, rfl, hw⟩ := DataW.trod_int ht hx
 exact ⟨n, rfl, rfl, by simp [Value.oneCell'], bounds_i64 hw, by simp [bk]⟩
theorem reads_string (ht : P.underlying t = some .string) : Reads P t 1 (fun _ cs (s : ByteArray) => cs = [.string s]) (fun s => s.size ≤ 140737488351232) (fun s => s.size + 1) := by
 intro H enc w fuel cs x hx hw
 obtain ⟨s, rfl, rfl, _⟩ := DataW.trod_string ht hx
 have e : s.data.toList.length = s.size := by rw [Array.length_toList]; rfl
 refine ⟨s, rfl, rfl, by simp [Value.oneCell'], ?_, by simp only [bk, e]; omega⟩
 have := hw s.data.toList.length (by simp [DataW.weights])
 rw [e] at this
 exact this
theorem exists_list {α : Type} {Q : Nat → α → Prop} : ∀ {n : Nat}, (∀ i, i < n → ∃ y, Q i y) → ∃ l : List α, l.length = n ∧ ∀ i y, l[i]? = some y → Q i y := by
 intro n
 induction n with
 | zero => exact fun _ => ⟨[], rfl, by simp⟩
 | succ n ih =>
  intro h
  obtain ⟨l, h1, h2⟩ := ih fun i hi => h i (by omega)
  obtain ⟨y, hy⟩ := h n (by omega)
  refine ⟨l ++ [y], by simp [h1], fun i z hz => ?_⟩
  by_cases hi : i < n
  ·rw [List.getElem?_append_left (by omega)] at hz
   exact h2 i z hz
  ·have hl := (gEs hz).1
   simp [h1] at hl
   obtain rfl : i = n := by omega
   rw [List.getElem?_append_right (by omega), h1] at hz
   simp at hz
   subst hz
   exact hy
theorem cell_lt {w : World} {b o : Nat} {v : Value} (h : w.cell? ⟨b, o, none⟩ = some v) : b < w.heap.size := by
 rcases Nat.lt_or_ge b w.heap.size with hb | hb
 ·exact hb
 ·have e : w.heap[b]? = none := by simp [hb]
  simp [World.cell?, e] at h
theorem mass_le {α H : Type} {mass : α → Nat} : ∀ {l : List α} {es : List (DataW H × List MemPlace)}, l.length = es.length → (∀ (i : Nat) (y : α) (e : DataW H × List MemPlace), l[i]? = some y → es[i]? = some e → mass y ≤ bk e.1) → (l.map mass).sum ≤ bkAll (es.map (·.1)) := by
 intro l
 induction l with
 | nil => intro es _ _; simp
 | cons y l ih =>
  intro es hl h
  cases es with
  | nil => simp at hl
  | cons e es =>
   have h0 := h 0 y e rfl rfl
   have := ih (es := es) (by simpa using hl) fun i z d hz hd => h (i + 1) z d (by simpa using hz) (by simpa using hd)
   simp only [List.map_cons, List.sum_cons, bkAll]
   omega
theorem weights_all {H : Type} {e : TypeId} : ∀ {l : List (DataW H)} {d : DataW H}, d ∈ l → ∀ n ∈ d.weights P e, n ∈ DataW.weightsAll P e l := by
 intro l
 induction l with
 | nil => intro d hd; simp at hd
 | cons x l ih =>
  intro d hd n hn
  simp only [DataW.weightsAll, List.mem_append]
  rcases List.mem_cons.1 hd with rfl | hd
  ·exact .inl hn
  ·exact .inr (ih hd n hn)
theorem reads_slice {e : TypeId} {sz bytes : Nat} {α : Type} {R : World → List Value → α → Prop} {fit : α → Prop} {mass : α → Nat} (h : Reads P e sz R fit mass) (ht : P.underlying t = some (.slice e)) (hsz : P.cellsOf e = sz) (hpos : 0 < sz) (hb : P.bytesOf e = bytes) :
  Reads P t 1 (fun w cs (l : List α) => ∃ a c, cs = [.slice a l.length c] ∧ SlR (fun _ => True) w sz (R w) a c l) (fun l => l.length * bytes ≤ 140737488351232 ∧ ∀ x ∈ l, fit x) (fun l => (l.map mass).sum + 1) := by
 intro H enc w fuel cs x hx hw
 rcases DataW.trod_slice ht hx with ⟨rfl, rfl⟩ | ⟨a, len, cap, elems, rest, n, rfl, rfl, rfl, _, hle, hcap, hlen, hel, _, _⟩
 ·exact ⟨[], ⟨none, 0, rfl, SlR.nil _ _ _ _⟩, rfl, by simp [Value.oneCell'], ⟨by simp, by simp⟩, by simp [bk]⟩
 ·have hw0 : (elems.length + rest.length) * bytes ≤ 140737488351232 := by
   have := hw ((elems.length + rest.length) * P.bytesOf e) (by simp [DataW.weights, ht])
   rw [hb] at this
   exact this
  have hw1 : ∀ d ∈ elems.map (·.1), ∀ n ∈ d.weights P e, n ≤ reachBytes := fun d hd n hn => hw n (by
   simp only [DataW.weights, ht, List.mem_cons, List.mem_append]
   exact .inr (.inl (weights_all hd n hn)))
  have key : ∀ i, i < len → ∃ y, ∃ cs, w.cells? 0 (a.add (i * sz)) sz = some cs ∧ R w cs y ∧ cs.length = sz ∧ (∀ v ∈ cs, v.oneCell' = true) ∧ fit y ∧ ∀ d, elems[i]? = some d → mass y ≤ bk d.1 := by
   intro i hi
   have h1 := hel i hi
   rw [hsz] at h1
   have hi' : i < elems.length := by omega
   rw [gEg hi'] at h1
   obtain ⟨cs, hc, hd⟩ := Option.bind_eq_some_iff.1 h1
   obtain ⟨y, r1, r2, r3, r4, r5⟩ := h H enc w _ cs _ hd (hw1 _ (List.mem_map.2 ⟨_, List.getElem_mem hi', rfl⟩))
   refine ⟨y, cs, hc, r1, r2, r3, r4, fun d hd => ?_⟩
   rw [gEg hi'] at hd
   simp only [Option.some.injEq] at hd
   subst hd
   exact r5
  obtain ⟨l, hl, hq⟩ := exists_list key
  subst hl
  refine ⟨l, ⟨some a, cap, rfl, hle, hcap, by simp, fun i y hy => ?_⟩, rfl, by simp [Value.oneCell'], ⟨?_, fun y hy => ?_⟩, ?_⟩
  ·obtain ⟨cs, hc, r1, r2, r3, r4, r5⟩ := hq i y hy
   obtain ⟨_, hcl, hcell⟩ := World.cells?_some hc
   have hspot : a.spot = none := by
    have h0l : 0 < l.length := by have := (gEs hy).1; omega
    obtain ⟨cs0, hc0, _, q2, _⟩ := hq 0 l[0] (by simp [h0l])
    obtain ⟨_, hcl0, hcell0⟩ := World.cells?_some hc0
    have h0 := hcell0 0 hpos
    rw [gEg (by omega)] at h0
    have := World.cell?_spot h0
    simpa [Addr.add] using this
   obtain ⟨b, off, spot⟩ := a
   simp only at hspot
   subst hspot
   have hcell' : ∀ j v, cs[j]? = some v → w.cell? ⟨b, off + i * sz + j, none⟩ = some v := by
    intro j v hj
    have hjl := (gEs hj).1
    have := hcell j (by omega)
    rw [Go.WideShapes.add_plain, Go.WideShapes.add_plain] at this
    rw [this]
    exact hj
   have hb0 := hcell' 0 cs[0] (by simp)
   exact ⟨b, off, cs, rfl, trivial, cell_lt hb0, r1, r2, r3, hcell'⟩
  ·have : l.length * bytes ≤ (elems.length + rest.length) * bytes := Nat.mul_le_mul_right _ (by omega)
   omega
  ·obtain ⟨i, hi⟩ := List.mem_iff_getElem?.1 hy
   obtain ⟨cs, hc, r1, r2, r3, r4, r5⟩ := hq i y hi
   exact r4
  ·have := mass_le (mass := mass) (l := l) (es := elems) (by omega) fun i y d hy hd => by
    obtain ⟨cs, hc, r1, r2, r3, r4, r5⟩ := hq i y hy
    exact r5 d hd
   simp only [bk]
   omega
theorem reads_fields {fs : Array Field} {α : Type} {sz : Nat} {R : World → List Value → α → Prop} {fit : α → Prop} {mass : α → Nat} (ht : P.underlying t = some (.struct fs)) (hsz : P.cellsOf t = sz)
  (h : ∀ (H : Type) (enc : TypeId × Value → H) (w : World) (n : Nat) (cs : List Value) (xs : List (DataW H × List MemPlace)), cs.length = sz → xs.length = fs.size →
   (∀ (i : Nat) (f : Field), fs[i]? = some f → DataW.trod enc P w 0 (fun _ => true) true n f.type ((cs.drop f.offset).take (P.cellsOf f.type)) = xs[i]?) →
   (∀ (i : Nat) (f : Field) (x : DataW H × List MemPlace), fs[i]? = some f → xs[i]? = some x → ∀ n ∈ x.1.weights P f.type, n ≤ reachBytes) →
   ∃ y : α, R w cs y ∧ (∀ v ∈ cs, v.oneCell' = true) ∧ fit y ∧ mass y ≤ bkAll (xs.map (·.1)) + 1) : Reads P t sz R fit mass := by
 intro H enc w fuel cs x hx hw
 obtain ⟨xs, n, rfl, rfl, hl, hn, hf⟩ := DataW.trod_struct ht hx
 rw [hsz] at hl
 have hw' : ∀ n ∈ DataW.weightsEach P (fs.toList.map (·.type)) (xs.map (·.1)), n ≤ reachBytes := fun n hn => hw n (by simp only [DataW.weights, ht]; exact hn)
 obtain ⟨y, r1, r2, r3, r4⟩ := h H enc w n cs xs hl hn hf fun i f x hfi hx m hm => hw' m (DataW.weights_mem_each (j := i) (t := f.type) (d := x.1) (by simp only [List.getElem?_map, Array.getElem?_toList, hfi]; rfl) (by simp only [List.getElem?_map, hx]; rfl) m hm)
 exact ⟨y, r1, hl, r2, r3, by simp only [bk]; exact r4⟩
/-! ### Arguments -/
theorem arg_int {H : Type} {enc : TypeId × Value → H} {w : World} {r : _} {b0 : Nat} {v : Value} {d : DataW H} {p : List MemPlace} (ht : P.underlying t = some (.int .i64)) (hval : Value.okWide P w r b0 t v) (hd : DataW.Trod enc P w 0 (fun _ => true) true t v d p) :
  ∃ n : Int, v = .int .i64 n ∧ fitI n := by
 obtain ⟨n, rfl⟩ := okWide_int ht hval
 obtain ⟨fuel, hf⟩ := hd
 obtain ⟨m, hm, _, hw⟩ := DataW.trod_int ht hf
 simp only [Value.cells, List.cons.injEq, Value.int.injEq, and_true, true_and] at hm
 subst hm
 exact ⟨n, rfl, bounds_i64 hw⟩
theorem arg_slice {H : Type} {enc : TypeId × Value → H} {w : World} {r : _} {b0 : Nat} {v : Value} {d : DataW H} {p : List MemPlace} {e : TypeId} {sz bytes : Nat} {α : Type} {R : World → List Value → α → Prop} {fit : α → Prop} {mass : α → Nat}
  (h : Reads P e sz R fit mass) (ht : P.underlying t = some (.slice e)) (hsz : P.cellsOf e = sz) (hpos : 0 < sz) (hb : P.bytesOf e = bytes) (hval : Value.okWide P w r b0 t v) (hd : DataW.Trod enc P w 0 (fun _ => true) true t v d p) (hw : ∀ n ∈ d.weights P t, n ≤ reachBytes) :
  ∃ (l : List α) (a : Option Addr) (c : Nat), v = .slice a l.length c ∧ SlR (fun _ => True) w sz (R w) a c l ∧ l.length * bytes ≤ 140737488351232 ∧ (∀ x ∈ l, fit x) ∧ (l.map mass).sum + 1 ≤ bk d := by
 obtain ⟨a, n, c, rfl⟩ := okWide_slice ht hval
 obtain ⟨fuel, hf⟩ := hd
 obtain ⟨l, ⟨a', c', h1, h2⟩, _, _, ⟨h4, h5⟩, h6⟩ := reads_slice h ht hsz hpos hb H enc w fuel _ _ hf hw
 simp only [Value.cells, List.cons.injEq, Value.slice.injEq, and_true] at h1
 obtain ⟨rfl, rfl, rfl⟩ := h1
 exact ⟨l, a, c, rfl, h2, h4, h5, h6⟩
end
end Go.Proofs.Ytealbofmlieicaa
