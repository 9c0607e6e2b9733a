/- 'append' of one element to a row of the call's own, up to the model's own bound. No program is in sight. -/
import Derived.Test.YtbngblmdcggfdaaApp
import Derived.Laws.OwnMore
set_option linter.unusedSimpArgs false
set_option linter.unusedVariables false
namespace Go.Proofs.Ytbngblmdcggfdaa
open Go.RowKit

theorem one_grows (old : Nat) : Builtin.nextslicecap (old + 1) old * 4 ≤ 5 * old + 3000 := by
  unfold Builtin.nextslicecap
  split
  · omega
  · split
    · omega
    · rw [growBy_four]
      repeat' split
      all_goals omega

theorem wp_appBig {P : Program} {w : World} {o : Oper} {A : Act} {Q : Exit → Act → World → Prop} {K : Act → World → Prop} (s x : Operand) (t : TypeId)
    (ho : o.op = .call { callee := .builtin .append, args := #[s, x], argTypes := #[t, t] })
    (e : TypeId) (i : TypeInfo) (z : Value) (sz bytes : Nat) (ht : P.underlying t = some (.slice e)) (hi : P.info? e = some i) (hz : i.zero = some z) (hsize : i.size = sz) (hby : i.bytes = bytes) (hzs : z.cells.size = sz) (hsz : 0 < sz)
    {α : Type} {R : List Value → α → Prop} {base : Nat} {ok : Nat → Prop} {a : Option Addr} {c n : Nat} {xs : List α} (hs : A.eval s = .slice a n c) (hn : n = xs.length) (hO : Own base e w sz R a c xs)
    {b : Option Addr} {d : Nat} {y : α} (hx : A.eval x = .slice b 1 d) (hR : SlR ok w sz R b d [y]) (hl : (5 * xs.length + 3000) * bytes ≤ 1125899906842624) (h63 : xs.length + 1 ≤ maxLen) (hbase : base ≤ w.heap.size)
    (h : ∀ g c' w', Own base e w' sz R (some ⟨g, 0, none⟩) c' (xs ++ [y]) → w.grownBy w' (a.map (·.block)) → K (A.put o.dst (.slice (some ⟨g, 0, none⟩) (n + 1) c')) w') : Oper.wp P o A w K Q := by
  by_cases hsmall : (xs.length + 1) * bytes ≤ 140737488355328
  · exact wp_app1 s x t ho e i z sz bytes ht hi hz hsize hby hzs hsz hs hn hO hx hR hsmall h63 hbase fun g c' w' h1 h2 _ _ => h g c' w' h1 h2
  subst hn
  obtain ⟨css, h1, h2, h3, hown⟩ := hO
  obtain ⟨dss, g1, g2, g3, g4⟩ := hR.all
  match dss, g1 with
  | [ds], _ =>
    have hds := g2 ds (by simp)
    obtain ⟨b0, o0, rfl, _, _, hc⟩ := g4 0 ds rfl
    have hnews : ∀ (j : Nat) (u : Value), ds[j]? = some u → w.cell? ((⟨b0, o0, none⟩ : Addr).add j) = some u := fun j u hj => by
      rw [Addr.add_lit, ← hc j u hj]
      congr 2
      omega
    have hfl : css.flatten.length = xs.length * sz := by rw [flatten_length fun cs h => (h2 cs h).1, h1]
    have key : ∀ g c' w', w'.ownsRow base e sz (.slice (some ⟨g, 0, none⟩) (xs.length + 1) c') (xs.length + 1) (css.flatten ++ ds) → w.grownBy w' (a.map (·.block)) → K (A.put o.dst (.slice (some ⟨g, 0, none⟩) (xs.length + 1) c')) w' := by
      intro g c' w' hown' hgr
      refine h g c' w' ⟨css ++ [ds], by simp [h1], ?_, ?_, by simpa using hown'⟩ hgr
      · intro cs hcs
        rcases List.mem_append.1 hcs with hcs | hcs
        · exact h2 cs hcs
        · simp at hcs; subst hcs; exact hds
      · intro i x cs hx hc
        by_cases hi : i < xs.length
        · rw [List.getElem?_append_left hi] at hx
          rw [List.getElem?_append_left (by omega)] at hc
          exact h3 i x cs hx hc
        · rw [List.getElem?_append_right (by omega)] at hx
          rw [List.getElem?_append_right (by omega), h1] at hc
          exact g3 _ x cs hx hc
    have hown0 := hown
    rcases hown.2 with ⟨hv, h0⟩ | ⟨g, cap, cur, hv, hbg, hh, hnc, hcm, hcs, htake⟩
    · exfalso
      rw [h0] at hsmall hl
      omega
    · simp only [Value.slice.injEq] at hv
      obtain ⟨rfl, _, rfl⟩ := hv
      by_cases hroom : xs.length + 1 ≤ c
      · obtain ⟨w', hrun, r1, r2⟩ := run_append_fits (P := P) w base t o.type e i sz ht hi hsize g xs.length c css.flatten hown0 ⟨b0, o0, none⟩ 1 d ds (by rw [hds.1]; omega) hnews hds.2 hroom
        unfold Oper.wp
        simp [execOp, ho, resolve, invoke, builtin, hs, hx, hrun, Result.andThen]
        exact key _ _ _ r1 r2
      · have hce : c = xs.length := by omega
        subst hce
        subst hsize
        subst hby
        have hfit : Builtin.nextslicecap (xs.length + 1) xs.length * i.bytes ≤ 281474976710656 := by
          have h4 := Nat.mul_le_mul_right i.bytes (one_grows xs.length)
          have e4 : Builtin.nextslicecap (xs.length + 1) xs.length * 4 * i.bytes = 4 * (Builtin.nextslicecap (xs.length + 1) xs.length * i.bytes) := by
            rw [Nat.mul_comm _ 4, Nat.mul_assoc]
          omega
        have hrun := run_append_grow (P := P) w t o.type e i z ht hi hz ⟨g, 0, none⟩ xs.length xs.length css.flatten hfl (hown0.cells (g := g) rfl) ⟨b0, o0, none⟩ 1 d ds (by rw [hds.1]; omega) hnews (by omega) (by unfold maxLen at h63; omega) hfit
        have hge := grownCap_ge w (xs.length + 1) xs.length e
        have hgm := grownCap_le_maxLen w (xs.length + 1) xs.length e h63
        unfold Oper.wp
        simp [execOp, ho, resolve, invoke, builtin, hs, hx, hrun, Result.andThen]
        have hlen : (css.flatten ++ ds).length = (xs.length + 1) * i.size := by rw [List.length_append, hfl, hds.1, Nat.add_mul, Nat.one_mul]
        refine key _ _ _ ⟨hlen, .inr ⟨w.heap.size, _, _, rfl, hbase, heap_alloc_new w.drew _, hge, hgm, ?_, ?_⟩⟩ ⟨rfl, rfl, rfl, by simp, fun k hk _ => ((Below.refl w.heap.size w).drew.alloc (Nat.le_refl _) _).block k hk⟩
        · simp only [Array.size_append, List.size_toArray, size_zeroCells, hzs, hfl, hds.1]
          have : grownCap w (xs.length + 1) xs.length e = xs.length + 1 + (grownCap w (xs.length + 1) xs.length e - (xs.length + 1)) := by omega
          generalize grownCap w (xs.length + 1) xs.length e - (xs.length + 1) = q at this ⊢
          rw [this, Nat.add_mul, hlen]
        · simp only [Array.toList_append, List.append_assoc]
          rw [← List.append_assoc, ← hlen]
          exact List.take_left

theorem wpList_appBig {P : Program} {w : World} {ops : Array Oper} {rest : List Oper} {o : Oper} {A : Act} {Q : Exit → Act → World → Prop} (hgd : Region.wanted o (yielded ops A.tmps) = true) (s x : Operand) (t : TypeId)
    (ho : o.op = .call { callee := .builtin .append, args := #[s, x], argTypes := #[t, t] })
    (e : TypeId) (i : TypeInfo) (z : Value) (sz bytes : Nat) (ht : P.underlying t = some (.slice e)) (hi : P.info? e = some i) (hz : i.zero = some z) (hsize : i.size = sz) (hby : i.bytes = bytes) (hzs : z.cells.size = sz) (hsz : 0 < sz)
    {α : Type} {R : List Value → α → Prop} {base : Nat} {ok : Nat → Prop} {a : Option Addr} {c n : Nat} {xs : List α} (hs : A.eval s = .slice a n c) (hn : n = xs.length) (hO : Own base e w sz R a c xs)
    {b : Option Addr} {d : Nat} {y : α} (hx : A.eval x = .slice b 1 d) (hR : SlR ok w sz R b d [y]) (hl : (5 * xs.length + 3000) * bytes ≤ 1125899906842624) (h63 : xs.length + 1 ≤ maxLen) (hbase : base ≤ w.heap.size)
    (h : ∀ g c' w', Own base e w' sz R (some ⟨g, 0, none⟩) c' (xs ++ [y]) → w.grownBy w' (a.map (·.block)) → wpList P ops Q rest (A.put o.dst (.slice (some ⟨g, 0, none⟩) (n + 1) c')) w') : wpList P ops Q (o :: rest) A w :=
  wpList_wanted hgd fun _ hK => wp_appBig s x t ho e i z sz bytes ht hi hz hsize hby hzs hsz hs hn hO hx hR hl h63 hbase fun g c' w' h1 h2 => hK _ _ (h g c' w' h1 h2)

end Go.Proofs.Ytbngblmdcggfdaa
