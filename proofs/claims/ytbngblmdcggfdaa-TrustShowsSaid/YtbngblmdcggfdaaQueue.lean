/- A row of the call's own that begins anywhere in its block: 'work = work[1:]', 'work = append(work, x)'. No program is in sight. -/
import Derived.Test.YtbngblmdcggfdaaTurned
import Derived.Test.YtbngblmdcggfdaaLex
import Derived.ArgAppend
set_option linter.unusedSimpArgs false
set_option linter.unusedVariables false
namespace Go.Proofs.Ytbngblmdcggfdaa
open Go.RowKit

def Queue (base : Nat) (e : TypeId) (w : World) {α : Type} (sz : Nat) (R : List Value → α → Prop) (a : Option Addr) (c : Nat) (xs : List α) : Prop :=
  SlR (fun b => base ≤ b) w sz R a c xs ∧ (0 < c → ∃ g off cur, a = some ⟨g, off, none⟩ ∧ base ≤ g ∧ w.heap[g]? = some (.cells cur e (0, 0)) ∧ off + c * sz ≤ cur.size)

section
variable {base : Nat} {e : TypeId} {w w' : World} {α : Type} {sz : Nat} {R : List Value → α → Prop} {a : Option Addr} {c : Nat} {xs : List α}

theorem putL_at : ∀ {vs cs : List Value} {o j : Nat} {v : Value}, o + vs.length ≤ cs.length → vs[j]? = some v → (putL cs o vs)[o + j]? = some v := by
  intro vs
  induction vs with
  | nil => intro cs o j v _ h; simp at h
  | cons u vs ih =>
    intro cs o j v hl hj
    rw [putL_cons]
    cases j with
    | zero =>
      simp at hj
      subst hj
      simp only [List.length_cons] at hl
      rw [putL_before (by omega)]
      show (cs.set o u)[o]? = some u
      rw [List.getElem?_set_self (by omega)]
    | succ j =>
      have := ih (cs := cs.set o u) (o := o + 1) (j := j) (v := v) (by simp at hl ⊢; omega) (by simpa using hj)
      rw [← this]
      congr 1
      omega

theorem Queue.slr (h : Queue base e w sz R a c xs) : SlR (fun b => base ≤ b) w sz R a c xs := h.1

theorem Queue.move (h : Queue base e w sz R a c xs) (hs : w.heap.size ≤ w'.heap.size) (hk : ∀ b, base ≤ b → b < w.heap.size → w'.heap[b]? = w.heap[b]?) : Queue base e w' sz R a c xs := by
  refine ⟨h.1.keep ⟨hs, fun b hb ho => hk b ho hb⟩, fun hc => ?_⟩
  obtain ⟨g, off, cur, h1, h2, h3, h4⟩ := h.2 hc
  exact ⟨g, off, cur, h1, h2, by rw [hk g h2 (Array.getElem?_eq_some_iff.1 h3).1]; exact h3, h4⟩

theorem Queue.below (h : Queue base e w sz R a c xs) (hb : Below w.heap.size w w') : Queue base e w' sz R a c xs := h.move hb.size fun b _ hb' => hb.block b hb'

theorem Queue.ofBlk {g : Nat} {cs : List Value} {x : α} (h : w.heap[g]? = some (.cells cs.toArray e (0, 0))) (hR : R cs x) (hl : cs.length = sz) (h1 : cs.all Value.oneCell' = true) (hb : base ≤ g) : Queue base e w sz R (some ⟨g, 0, none⟩) 1 [x] :=
  ⟨SlR.ofBlk h hR hl h1 hb, fun _ => ⟨g, 0, cs.toArray, rfl, hb, h, by simp; omega⟩⟩

theorem Queue.ofOwn {b : Nat} (h : Own b e w sz R a c xs) (hb : base ≤ b) : Queue base e w sz R a c xs := by
  refine ⟨h.slr fun k hk => Nat.le_trans hb hk, fun hc => ?_⟩
  obtain ⟨css, _, _, _, h4⟩ := h
  rcases h4.2 with ⟨hv, _⟩ | ⟨g, cap, cur, hv, hg, hh, _, _, hs, _⟩
  · simp only [Value.slice.injEq] at hv
    omega
  · simp only [Value.slice.injEq] at hv
    obtain ⟨rfl, _, rfl⟩ := hv
    exact ⟨g, 0, cur, rfl, by omega, hh, by omega⟩

/-- 'l[1:]', where there is room behind. -/
theorem Queue.tail {g off : Nat} {x : α} (h : Queue base e w sz R (some ⟨g, off, none⟩) c (x :: xs)) : Queue base e w sz R (some ⟨g, off + sz, none⟩) (c - 1) xs := by
  refine ⟨by have := h.1.drop 1; simpa using this, fun hc => ?_⟩
  obtain ⟨g', off', cur, h1, h2, h3, h4⟩ := h.2 (by omega)
  simp only [Option.some.injEq, Addr.mk.injEq, and_true] at h1
  obtain ⟨rfl, rfl⟩ := h1
  refine ⟨g, off + sz, cur, rfl, h2, h3, ?_⟩
  have : c * sz = sz + (c - 1) * sz := by
    obtain ⟨k, rfl⟩ : ∃ k, c = k + 1 := ⟨c - 1, by omega⟩
    rw [Nat.add_sub_cancel, Nat.add_mul]; omega
  omega

/-- .. where there is none. -/
theorem Queue.none_left (a : Option Addr) : Queue base e w sz R a 0 ([] : List α) :=
  ⟨⟨Nat.le_refl _, Nat.zero_le _, fun _ => rfl, fun i x hx => by simp at hx⟩, fun h => absurd h (Nat.lt_irrefl 0)⟩

end

theorem wp_appQ {P : Program} {w : World} {o : Oper} {A : Act} {Q : Exit → Act → World → Prop} {K : Act → World → Prop} (s x : Operand) (t : TypeId)
    (ho : o.op = .call { callee := .builtin .append, args := #[s, x], argTypes := #[t, t] })
    (e : TypeId) (i : TypeInfo) (z : Value) (sz bytes : Nat) (ht : P.underlying t = some (.slice e)) (hi : P.info? e = some i) (hz : i.zero = some z) (hsize : i.size = sz) (hby : i.bytes = bytes) (hzs : z.cells.size = sz) (hsz : 0 < sz)
    {α : Type} {R : List Value → α → Prop} {base : Nat} {ok : Nat → Prop} {a : Option Addr} {c n : Nat} {xs : List α} (hs : A.eval s = .slice a n c) (hn : n = xs.length) (hO : Queue base e w sz R a c xs)
    {b : Option Addr} {d : Nat} {y : α} (hx : A.eval x = .slice b 1 d) (hR : SlR ok w sz R b d [y]) (hl : (xs.length + 1) * bytes ≤ 140737488355328) (h63 : xs.length + 1 ≤ maxLen) (hbase : base ≤ w.heap.size)
    (h : ∀ a' c' w' row, Queue base e w' sz R a' c' (xs ++ [y]) → w.grownBy w' row → (∀ k, row = some k → base ≤ k) → K (A.put o.dst (.slice a' (n + 1) c')) w') : Oper.wp P o A w K Q := by
  subst hn
  obtain ⟨hS, hsp⟩ := hO
  obtain ⟨css, g1, g2, g3, g4⟩ := hS.all
  obtain ⟨dss, f1, f2, f3, f4⟩ := hR.all
  match dss, f1 with
  | [ds], _ =>
    have hds := f2 ds (by simp)
    obtain ⟨b0, o0, rfl, _, _, hc⟩ := f4 0 ds rfl
    have hnews : ∀ (j : Nat) (u : Value), ds[j]? = some u → w.cell? ((⟨b0, o0, none⟩ : Addr).add j) = some u := fun j u hj => by
      rw [Addr.add_lit, ← hc j u hj]
      congr 2
      omega
    by_cases hr : xs.length + 1 ≤ c
    · obtain ⟨g, off, cur, rfl, k1, k2, k3⟩ := hsp (by omega)
      subst hsize
      have hmul : (xs.length + 1) * i.size ≤ c * i.size := Nat.mul_le_mul_right _ hr
      have hadd : (xs.length + 1) * i.size = xs.length * i.size + i.size := by rw [Nat.add_mul, Nat.one_mul]
      have k2' : w.heap[g]? = some (.cells cur.toList.toArray e (0, 0)) := by simpa using k2
      have hcs : cur.toList.length = cur.size := by simp
      have hrun := run_append_room_cells (P := P) w t o.type e i ht hi g off xs.length c ⟨b0, o0, none⟩ 1 d ds (by rw [hds.1]; omega) hnews hds.2 hr
        (fun j hj => by rw [cell_of_row w g _ cur e (0, 0) k2]; simp; have := hds.1; omega) (fun j hj => by simp [World.frozen?, k2])
      obtain ⟨a1, a2, a3, a4, a5, a6⟩ := setCells_block (w := w) ds (off + xs.length * i.size) cur.toList k2'
      unfold Oper.wp
      simp [execOp, ho, resolve, invoke, builtin, hs, hx, hrun, Result.andThen]
      refine h _ _ _ (some g) ⟨⟨by simp; omega, hS.2.1, by simp, fun j u hj => ?_⟩, fun _ => ⟨g, off, _, rfl, k1, a1, by simp [putL_length]; omega⟩⟩ ⟨a4, a5, a6, by rw [a3]; exact Nat.le_refl _, fun k _ hk => a2 k fun he => hk (by rw [he])⟩ (fun k hk => by simp at hk; omega)
      have hg : g < w.heap.size := (Array.getElem?_eq_some_iff.1 k2).1
      by_cases hj' : j < xs.length
      · rw [List.getElem?_append_left hj'] at hj
        obtain ⟨g', o', cs, ha, h1, h2, h3, h4, h5, h6⟩ := hS.2.2.2 j u hj
        simp only [Option.some.injEq, Addr.mk.injEq, and_true] at ha
        obtain ⟨rfl, rfl⟩ := ha
        refine ⟨g, off, cs, rfl, h1, by rw [a3]; exact hg, h3, h4, h5, fun q v hv => ?_⟩
        have hq : q < i.size := by rw [← h4]; exact (List.getElem?_eq_some_iff.1 hv).1
        have hle : (j + 1) * i.size ≤ xs.length * i.size := Nat.mul_le_mul_right _ hj'
        rw [Nat.add_mul, Nat.one_mul] at hle
        rw [cell_of_row _ g _ _ e (0, 0) a1]
        simp only [List.getElem?_toArray]
        rw [putL_before (by omega)]
        have := h6 q v hv
        rw [cell_of_row w g _ cur e (0, 0) k2] at this
        simpa using this
      · have hjx : j = xs.length := by
          have := (List.getElem?_eq_some_iff.1 hj).1
          simp at this
          omega
        subst hjx
        simp at hj
        subst hj
        refine ⟨g, off, ds, rfl, k1, by rw [a3]; exact hg, f3 0 y ds rfl rfl, hds.1, hds.2, fun q v hv => ?_⟩
        rw [cell_of_row _ g _ _ e (0, 0) a1]
        simp only [List.getElem?_toArray]
        exact putL_at (by rw [hds.1, hcs]; omega) hv
    · have key : ∀ v' w', w'.ownsRow w.heap.size e sz v' (xs.length + 1) (css.flatten ++ ds) → w.grownBy w' none → K (A.put o.dst v') w' := by
        intro v' w' hown hgr
        have hO : ∀ a' c', v' = .slice a' (xs.length + 1) c' → Own w.heap.size e w' sz R a' c' (xs ++ [y]) := by
          rintro a' c' rfl
          refine ⟨css ++ [ds], by simp [g1], ?_, ?_, by simpa using hown⟩
          · intro cs hcs
            rcases List.mem_append.1 hcs with hcs | hcs
            · exact g2 cs hcs
            · simp at hcs; subst hcs; exact hds
          · intro i x cs hx hc
            by_cases hi : i < xs.length
            · rw [List.getElem?_append_left hi] at hx
              rw [List.getElem?_append_left (by omega)] at hc
              exact g3 i x cs hx hc
            · rw [List.getElem?_append_right (by omega)] at hx
              rw [List.getElem?_append_right (by omega), g1] at hc
              exact f3 _ x cs hx hc
        obtain ⟨hlen, ⟨rfl, h0⟩ | ⟨g, cap, cur, rfl, _⟩⟩ := hown
        · omega
        · exact h _ _ w' none (Queue.ofOwn (hO _ _ rfl) hbase) hgr (by simp)
      cases a with
      | some ad =>
        have hfl : css.flatten.length = xs.length * sz := by rw [flatten_length fun cs h => (g2 cs h).1, g1]
        obtain ⟨v', w', hrun, r1, r2⟩ := run_append_arg_grows (P := P) w t o.type e i z sz bytes ht hi hz hsize hby hzs hsz ad xs.length c css.flatten hfl (fun j u hj => by
          obtain ⟨p, q, cs, rfl, hq, hp, hv⟩ := flatten_inv (fun cs h => (g2 cs h).1) hj
          obtain ⟨b, o, ha, _, _, hc⟩ := g4 p cs hp
          simp only [Option.some.injEq] at ha
          subst ha
          rw [Addr.add_lit, ← hc q u hv]
          congr 2
          omega) ⟨b0, o0, none⟩ 1 d ds (by rw [hds.1]; omega) hnews (by omega) h63 hl
        unfold Oper.wp
        simp [execOp, ho, resolve, invoke, builtin, hs, hx, hrun, Result.andThen]
        exact key v' w' r1 r2
      | none =>
        have hc0 := hS.2.2.1 rfl
        have hx0 : xs = [] := List.eq_nil_of_length_eq_zero (by have := hS.1; omega)
        subst hc0
        subst hx0
        have hcss : css = [] := List.eq_nil_of_length_eq_zero (by simpa using g1)
        subst hcss
        obtain ⟨v', w', hrun, r1, r2, _⟩ := run_append_own (P := P) w w.heap.size t o.type e i z sz bytes ht hi hz hsize hby hzs hsz (.slice none 0 0) 0 [] (World.ownsRow_nil w _ e sz) ⟨b0, o0, none⟩ 1 d ds (by rw [hds.1]; omega) hnews hds.2 h63 hl (Nat.le_refl _)
        unfold Oper.wp
        simp only [List.length_nil] at hs
        simp [execOp, ho, resolve, invoke, builtin, hs, hx, hrun, Result.andThen]
        exact key v' w' (by simpa using r1) r2

theorem wpList_appQ {P : Program} {w : World} {ops : Array Oper} {rest : List Oper} {o : Oper} {A : Act} {Q : Exit → Act → World → Prop} (hgd : Region.wanted o (yielded ops A.tmps) = true) (s x : Operand) (t : TypeId)
    (ho : o.op = .call { callee := .builtin .append, args := #[s, x], argTypes := #[t, t] })
    (e : TypeId) (i : TypeInfo) (z : Value) (sz bytes : Nat) (ht : P.underlying t = some (.slice e)) (hi : P.info? e = some i) (hz : i.zero = some z) (hsize : i.size = sz) (hby : i.bytes = bytes) (hzs : z.cells.size = sz) (hsz : 0 < sz)
    {α : Type} {R : List Value → α → Prop} {base : Nat} {ok : Nat → Prop} {a : Option Addr} {c n : Nat} {xs : List α} (hs : A.eval s = .slice a n c) (hn : n = xs.length) (hO : Queue base e w sz R a c xs)
    {b : Option Addr} {d : Nat} {y : α} (hx : A.eval x = .slice b 1 d) (hR : SlR ok w sz R b d [y]) (hl : (xs.length + 1) * bytes ≤ 140737488355328) (h63 : xs.length + 1 ≤ maxLen) (hbase : base ≤ w.heap.size)
    (h : ∀ a' c' w' row, Queue base e w' sz R a' c' (xs ++ [y]) → w.grownBy w' row → (∀ k, row = some k → base ≤ k) → wpList P ops Q rest (A.put o.dst (.slice a' (n + 1) c')) w') : wpList P ops Q (o :: rest) A w :=
  wpList_wanted hgd fun _ hK => wp_appQ s x t ho e i z sz bytes ht hi hz hsize hby hzs hsz hs hn hO hx hR hl h63 hbase fun a' c' w' row h1 h2 h3 => hK _ _ (h a' c' w' row h1 h2 h3)

end Go.Proofs.Ytbngblmdcggfdaa
