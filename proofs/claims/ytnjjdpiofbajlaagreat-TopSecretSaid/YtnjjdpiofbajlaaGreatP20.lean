/- Walks and plain laws, part 20. -/
import Derived.Test.YtnjjdpiofbajlaaGreatP16
import Derived.Test.YtnjjdpiofbajlaaGreatP5
import Derived.Deep.DeepCutAuto
set_option linter.unusedSimpArgs false
set_option linter.unusedVariables false
set_option maxHeartbeats 16000000
set_option maxRecDepth 100000
namespace Go.Proofs.YtnjjdpiofbajlaaGreat
open Go.RowKit
theorem run_sl {P : Program} {w : World} {o : Oper} {A : Act} (T e : TypeId) (x : Operand) (lo hi mx : Option Operand) (ho : o.op = .slice T x lo hi mx) (hT : P.underlying T = some (.slice e)) {sz : Nat} (hsz : ∀ w, (sizeOf e).run P w = .ok sz w) {a : Option Addr} {n c : Nat} (hx : A.eval x = .slice a n c) (l h m : Nat)
  (hlo : lo.map A.eval = (if lo.isSome then some (.int .i64 l) else none)) (hlo0 : lo = none → l = 0) (hhi : hi.map A.eval = (if hi.isSome then some (.int .i64 h) else none)) (hhi0 : hi = none → h = n) (hmx : mx.map A.eval = (if mx.isSome then some (.int .i64 m) else none)) (hmx0 : mx = none → m = c) (hst : hi = none → mx = none)
  (h1 : l ≤ h) (h2 : h ≤ m) (h3 : m ≤ c) : (execOp A.eval o).run P w = .ok (.value (.slice (if m = l then a else a.map (·.add (l * sz))) (h - l) (m - l))) w := by
 have key : (Instr.slice T (.slice a n c) (lo.map A.eval) (hi.map A.eval) (mx.map A.eval)).run P w = .ok (.slice (if m = l then a else a.map (·.add (l * sz))) (h - l) (m - l)) w := by
  rw [hlo, hhi, hmx]
  cases mx with
  | none =>
   have e3 := hmx0 rfl
   subst e3
   cases hi with
   | none =>
    have e2 := hhi0 rfl
    subst e2
    cases lo with
    | none => have e1 := hlo0 rfl; subst e1; simp [Instr.slice, run_underlying hT, Instr.sliceBounds, hsz, Result.andThen]
    | some y => simp [Instr.slice, run_underlying hT, Instr.sliceBounds, Instr.sliceBound, asIntOf, hsz, h1, Result.andThen]
   | some z =>
    cases lo with
    | none => have e1 := hlo0 rfl; subst e1; simp [Instr.slice, run_underlying hT, Instr.sliceBounds, Instr.sliceBound, asIntOf, hsz, h2, Result.andThen]
    | some y => simp [Instr.slice, run_underlying hT, Instr.sliceBounds, Instr.sliceBound, asIntOf, hsz, h1, h2, Result.andThen]
  | some u =>
   cases hi with
   | none => exact absurd (hst rfl) (by simp)
   | some z =>
    cases lo with
    | none => have e1 := hlo0 rfl; subst e1; simp [Instr.slice, run_underlying hT, Instr.sliceBounds, Instr.sliceBound, asIntOf, hsz, h2, h3, Result.andThen]
    | some y => simp [Instr.slice, run_underlying hT, Instr.sliceBounds, Instr.sliceBound, asIntOf, hsz, h1, h2, h3, Result.andThen]
 simp only [execOp, ho, hx, Instr.sliceAt, Sem.run_bind, run_underlying hT, Result.andThen_ok, key, Sem.run_pure]
theorem wp_appRoom {P : Program} {w : World} {o : Oper} {A : Act} {Q : Exit → Act → World → Prop} {K : Act → World → Prop} (s x : Operand) (t e : TypeId) (ho : o.op = .call { callee := .builtin .append, args := #[s, x], argTypes := #[t, t] }) (i : TypeInfo) (ht : P.underlying t = some (.slice e)) (hi : P.info? e = some i)
  {g off n c m d : Nat} (hs : A.eval s = .slice (some ⟨g, off, none⟩) n c) {b : Addr} (hx : A.eval x = .slice (some b) m d) (news : List Value) (hl : news.length = m * i.size) (hnews : ∀ j u, news[j]? = some u → w.cell? (b.add j) = some u) (h1 : ∀ u ∈ news, u.oneCell' = true) (hroom : n + m ≤ c)
  (hc : ∀ j, j < news.length → (w.cell? ⟨g, off + n * i.size + j, none⟩).isSome = true) (hf : ∀ j, j < news.length → w.frozen? ⟨g, off + n * i.size + j, none⟩ = false) (h : K (A.put o.dst (.slice (some ⟨g, off, none⟩) (n + m) c)) (w.setCells g (off + n * i.size) news)) : Oper.wp P o A w K Q := by
 have hrun := run_append_room_cells (P := P) (w := w) t o.type e i ht hi g off n c b m d news hl hnews h1 hroom hc hf
 unfold Oper.wp
 simp [execOp, ho, resolve, invoke, builtin, hs, hx, hrun, Result.andThen]
 exact h
theorem slices_Delete_string (w : World) (a : Option Addr) (c : Nat) (xs : List ByteArray) (hR : RowAt 9 w 1 RStr a c xs) (i : Nat) (hi : i < xs.length) (hl : xs.length ≤ 9223372036854775800) :
  Calls Tryz.prog 35 #[.slice a xs.length c, .int .i64 i, .int .i64 ((i : Int) + 1)] w fun e w' => ∃ g, a.map (·.block) = some g ∧ e = .returned (.slice a (xs.length - 1) c) ∧ RowAt 9 w' 1 RStr a c (xs.eraseIdx i) ∧ St [g] w w' [] := by
 have hnc := hR.1
 have hcm := hR.2.1
 rcases hR.2.2 with ⟨_, hc0⟩ | ⟨g, off, cells, rfl, hg, hle, hx2⟩
 ·omega
 have hcell : ∀ k, (hk : k < xs.length) → cells[off + k]? = some (.string xs[k]) := fun k hk => by
  obtain ⟨cs, rfl, _, _, h4⟩ := hx2 k xs[k] (by simp [hk])
  simpa using h4 0 _ rfl
 obtain ⟨n, hn⟩ : ∃ n, xs.length = n := ⟨_, rfl⟩
 have st := St.hand hg
 have dij : ((i : Int) == (i : Int) + 1) = false := by simp; omega
 obtain ⟨i0, hi0, hz0, hz1, hz2⟩ := info_parts (show (Tryz.prog.info? 9).map (fun i => (i.zero, i.size, i.bytes)) = some (some (.string .empty), 1, 16) by kernel_rfl)
 have hin : i < n := by omega
 rw [hn] at hnc ⊢
 have HN := qh hn
 have HC := qh hcell
 have HIN := qh (show i + 1 ≤ n ∧ n ≤ c from ⟨hin, hnc⟩)
 clear hcell hx2 hR hi hl hn
 have hw1 : ((i : Int) + 1) = ((i + 1 : Nat) : Int) := by push_cast; rfl
 rw [hw1] at dij ⊢
 clear hw1
 go_enter Tryz.func35, Tryz.ntmps35
 go_upto_region 5 with (first
  | go_skip
  | ((with_reducible refine at_slice 63 ?_); refine wpList_value (wanted_none rfl) (run_sl 63 9 _ _ _ _ rfl Tryz.underlying63 Tryz.sizeOf9 rfl i (i + 1) n rfl (by simp) rfl (by simp) rfl (by simp) (by simp) (by omega) HIN.out.1 HIN.out.2) ?_))
 try simp only [kP, kA, kS, kZ]
 replace st := st.drew
 have hI : True := trivial
 refine lex_region (by kernel_rfl) 8 rfl (fun _ => True) ?_
 refine lexS 0 rfl hI ?_
 refine lexS 1 rfl hI ?_
 refine lexT (v := .slice (some ⟨g, off, none⟩) i c) 2 rfl hI (fun W hW => by (refine (run_sl 63 9 _ _ _ _ rfl Tryz.underlying63 Tryz.sizeOf9 rfl 0 i c rfl (fun _ => rfl) rfl (by simp) rfl (fun _ => rfl) (by simp) (Nat.zero_le _) (by omega) (Nat.le_refl _)).trans ?_; simp [add_plain])) ?_
 refine lexS 3 rfl hI ?_
 refine lexS 4 rfl hI ?_
 obtain ⟨b5, hb5⟩ : ∃ b5, (if c = i + 1 then some (⟨g, off, none⟩ : Addr) else (some (⟨g, off, none⟩ : Addr)).map (·.add ((i + 1) * 1))) = some b5 := by split <;> exact ⟨_, rfl⟩
 have HB5 := qh hb5
 clear hb5
 refine lexT (v := .slice (some b5) (n - (i + 1)) (c - (i + 1))) 5 rfl hI (fun W hW => by (refine (run_sl 63 9 _ _ _ _ rfl Tryz.underlying63 Tryz.sizeOf9 rfl (i + 1) n c rfl (by simp) rfl (fun _ => rfl) rfl (fun _ => rfl) (fun _ => rfl) HIN.out.1 HIN.out.2 (Nat.le_refl _)).trans ?_; rw [HB5.out])) ?_
 refine lexO 6 rfl fun K hK => ?_
 have hnl : ((xs.drop (i + 1)).map Value.string).length = n - (i + 1) := by rw [List.length_map, List.length_drop, HN.out]
 have hbl := st.blk _ (mgE (i := 0) rfl)
 have hcl : ∀ j, (World.drew w).cell? ⟨g, j, none⟩ = cells[j]? := fun j => st.cell (i := 0) rfl j
 refine wp_appRoom _ _ 63 9 rfl i0 Tryz.underlying63 hi0 rfl rfl ((xs.drop (i + 1)).map Value.string) (by rw [hnl, hz1, Nat.mul_one]) (fun j u hj => ?_) (fun u hu => ?_) (by omega) (fun j hj => ?_) (fun j hj => ?_) ?_
 ·have hjl : j < n - (i + 1) := by rw [← hnl]; exact (gEs hj).1
  have e5 : b5 = ⟨g, off + (i + 1), none⟩ := by
   have h := HB5.out
   rw [if_neg (by omega)] at h
   simp only [Option.map_some, Option.some.injEq, add_plain, Nat.mul_one] at h
   exact h.symm
  rw [e5, add_plain, hcl, show off + (i + 1) + j = off + (i + 1 + j) by omega, HC.out (i + 1 + j) (by rw [HN.out]; omega)]
  rw [List.getElem?_map, List.getElem?_drop, gEg (by rw [HN.out]; omega)] at hj
  exact hj
 ·obtain ⟨y, _, rfl⟩ := List.mem_map.1 hu
  rfl
 ·rw [hnl] at hj
  rw [hz1, Nat.mul_one, hcl, gEg (by have := HIN.out.2; omega)]; rfl
 ·exact st.free (i := 0) rfl _
 rw [hz1, Nat.mul_one]
 obtain ⟨a1, a2, a3, a4, a5, a6⟩ := setCells_block (w := World.drew w) ((xs.drop (i + 1)).map Value.string) (off + i) cells hbl
 replace st := st.put (i := 0) rfl a1 a2 a3 a4 a5 a6
 simp only [List.set_cons_zero] at st
 clear a1 a2 a3 a4 a5 a6 hbl hcl
 generalize World.setCells _ _ _ _ = w7 at st ⊢
 rw [show i + (n - (i + 1)) = n - 1 by omega]
 have hI : True := trivial
 refine hK _ _ (trivial) ?_; clear hK; simp only [kP, kA, kS, kZ]
 refine lexS 7 rfl hI ?_
 refine lex_done (by decide +kernel) ?_
 have HV := qh (show (if c = n - 1 then some (⟨g, off, none⟩ : Addr) else (some (⟨g, off, none⟩ : Addr)).map (·.add ((n - 1) * 1))) = some ⟨g, off + (n - 1), none⟩ by
  rw [if_neg (by have := HIN.out.2; omega)]
  simp [add_plain])
 have hlen : (putL cells (off + i) ((xs.drop (i + 1)).map Value.string)).length = cells.length := putL_length _ _ _
 go_wp2_with (first
  | go_skip
  | ((with_reducible refine at_slice 63 ?_); refine wpList_value (wanted_none rfl) (run_sl 63 9 _ _ _ _ rfl Tryz.underlying63 Tryz.sizeOf9 rfl (n - 1) n c rfl (by simp) rfl (by simp) rfl (fun _ => rfl) (by simp) (by omega) HIN.out.2 (Nat.le_refl _)) ?_; rw [HV.out])
  | (refine wpList_clear st (wanted_none rfl) _ 63 9 rfl Tryz.underlying63 _ Tryz.zeroValue9 _ rfl (by decide) rfl g (off + (n - 1)) (n - (n - 1)) (c - (n - 1)) ?x1 (by omega) 0 _ _ rfl ?x2 ?_))
 case x2 =>
  rw [hlen]
  show off + (n - 1) + (n - (n - 1)) * 1 ≤ _
  have := HIN.out.2
  omega
 intro w8 st' hz8
 clear st
 have st := st'
 clear st'
 go_wp2
 go_ret
 refine ⟨g, rfl, rfl, ⟨?_, hcm, .inr ⟨g, off, _, rfl, st.blk _ (mgE (i := 0) rfl), ?_, fun k y hk => ?_⟩⟩, st.sub (own' := []) (by simp) List.Pairwise.nil⟩
 ·rw [List.length_eraseIdx, HN.out, if_pos hin]; omega
 ·rw [putL_length, putL_length]; exact hle
 ·have hkl : k < n - 1 := by
   have := (gEs hk).1
   rw [List.length_eraseIdx, HN.out, if_pos hin] at this
   exact this
  refine ⟨[.string y], rfl, rfl, by simp [Value.oneCell'], fun j v hv => ?_⟩
  obtain rfl : j = 0 := by have := (gEs hv).1; simp at this; exact this
  simp only [List.getElem?_cons_zero, Option.some.injEq] at hv
  subst hv
  rw [Nat.mul_one, Nat.add_zero (off + k), putL_ahead (by omega)]
  rw [List.getElem?_eraseIdx] at hk
  split at hk
  ·rename_i hki
   rw [putL_ahead (by omega)]
   first | rw [HC.out k (by rw [HN.out]; omega)] | (rw [Nat.add_zero, HC.out k (by rw [HN.out]; omega)])
   rw [gEg (by rw [HN.out]; omega)] at hk
   cases hk; rfl
  ·rename_i hki
   have := putL_at (cs := cells) (o := off + i) (vs := (xs.drop (i + 1)).map Value.string) (j := k - i) (v := .string y) (by
    rw [List.length_map, List.length_drop, HN.out]; have := HIN.out.2; omega) (by
    rw [List.getElem?_map, List.getElem?_drop, show i + 1 + (k - i) = k + 1 by omega, hk]; rfl)
   rw [show off + i + (k - i) = off + k by omega] at this
   first | exact this | (rw [List.map_drop] at this; exact this)
end Go.Proofs.YtnjjdpiofbajlaaGreat
