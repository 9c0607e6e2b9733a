/- Walks and plain laws, part 11. -/
import Derived.Test.YtnjjdpiofbajlaaGreatP10
set_option linter.unusedSimpArgs false
set_option linter.unusedVariables false
set_option maxHeartbeats 16000000
set_option maxRecDepth 100000
namespace Go.Proofs.YtnjjdpiofbajlaaGreat
open Go.RowKit
abbrev by1 (x : Int) : UInt8 := byteAt x 0
theorem Own.isSome {base : Nat} {e : TypeId} {w : World} {α : Type} {sz : Nat} {R : List Value → α → Prop} {a : Option Addr} {c : Nat} {xs : List α} (h : Own base e w sz R a c xs) (hx : xs ≠ []) : ∃ g, a = some ⟨g, 0, none⟩ := by
 obtain ⟨css, _, _, _, h4⟩ := h
 rcases h4.2 with ⟨_, hn⟩ | ⟨g, cap, cur, hv, _⟩
 ·exact absurd (List.eq_nil_of_length_eq_zero hn) hx
 ·simp only [Value.slice.injEq] at hv
  exact ⟨g, hv.1⟩
section
variable {P : Program} {w : World} {ops : Array Oper} {rest : List Oper} {o : Oper} {A : Act} {Q : Exit → Act → World → Prop} {K : Act → World → Prop}
theorem bytes_new {w : World} {T : TypeId} {cs : List Value} (xs : List UInt8) (h : cs = xs.map byteV) (hm : xs.length ≤ maxLen) : SlR (fun _ => True) (w.alloc (.cells cs.toArray T)) 1 RU8 (some ⟨w.heap.size, 0, none⟩) xs.length xs :=
 SlR.bytes xs (heap_alloc_new w _) h trivial hm
theorem wp_bytes1 (T T' : TypeId) (x0 : Operand) (ho : o.op = .buildSlice T 1 #[(0, x0)]) (ht : P.underlying T = some (.slice T')) (hsz : ∀ w, (sizeOf T').run P w = .ok 1 w) (hz : ∀ w, (zeroValue T').run P w = .ok (.int .u8 0) w) (n0 : Int) (hx0 : A.eval x0 = .int .u8 n0) (h0 : 0 ≤ n0 ∧ n0 < 256)
  (h : ∀ g w', SlR (fun _ => True) w' 1 RU8 (some ⟨g, 0, none⟩) 1 [by1 n0] → Below w.heap.size w w' → K (A.put o.dst (.slice (some ⟨g, 0, none⟩) 1 1)) w') : Oper.wp P o A w K Q := by
 have h2 := h w.heap.size _ (bytes_new (w := w) (T := T') [by1 n0] (cs := [.int .u8 n0]) (by simp [byteV_eq h0.1 h0.2]) (by simp [maxLen])) ((Below.refl _ _).alloc (Nat.le_refl _) _)
 unfold Oper.wp
 simp [execOp, ho, Instr.buildSlice, run_underlying ht, hsz, hz, newRow, newObj, hx0, Instr.fill, Value.cells, Array.range, Result.andThen] at h2 ⊢
 exact h2
theorem wp_bytes2 (T T' : TypeId) (x0 x1 : Operand) (ho : o.op = .buildSlice T 2 #[(0, x0), (1, x1)]) (ht : P.underlying T = some (.slice T')) (hsz : ∀ w, (sizeOf T').run P w = .ok 1 w) (hz : ∀ w, (zeroValue T').run P w = .ok (.int .u8 0) w) (n0 n1 : Int) (hx0 : A.eval x0 = .int .u8 n0) (h0 : 0 ≤ n0 ∧ n0 < 256) (hx1 : A.eval x1 = .int .u8 n1) (h1 : 0 ≤ n1 ∧ n1 < 256)
  (h : ∀ g w', SlR (fun _ => True) w' 1 RU8 (some ⟨g, 0, none⟩) 2 [by1 n0, by1 n1] → Below w.heap.size w w' → K (A.put o.dst (.slice (some ⟨g, 0, none⟩) 2 2)) w') : Oper.wp P o A w K Q := by
 have h2 := h w.heap.size _ (bytes_new (w := w) (T := T') [by1 n0, by1 n1] (cs := [.int .u8 n0, .int .u8 n1]) (by simp [byteV_eq h0.1 h0.2, byteV_eq h1.1 h1.2]) (by simp [maxLen])) ((Below.refl _ _).alloc (Nat.le_refl _) _)
 unfold Oper.wp
 simp [execOp, ho, Instr.buildSlice, run_underlying ht, hsz, hz, newRow, newObj, hx0, hx1, Instr.fill, Value.cells, Array.range, Result.andThen] at h2 ⊢
 exact h2
theorem wp_bytes3 (T T' : TypeId) (x0 x1 x2 : Operand) (ho : o.op = .buildSlice T 3 #[(0, x0), (1, x1), (2, x2)]) (ht : P.underlying T = some (.slice T')) (hsz : ∀ w, (sizeOf T').run P w = .ok 1 w) (hz : ∀ w, (zeroValue T').run P w = .ok (.int .u8 0) w) (n0 n1 n2 : Int) (hx0 : A.eval x0 = .int .u8 n0) (h0 : 0 ≤ n0 ∧ n0 < 256) (hx1 : A.eval x1 = .int .u8 n1) (h1 : 0 ≤ n1 ∧ n1 < 256) (hx2 : A.eval x2 = .int .u8 n2) (h2' : 0 ≤ n2 ∧ n2 < 256)
  (h : ∀ g w', SlR (fun _ => True) w' 1 RU8 (some ⟨g, 0, none⟩) 3 [by1 n0, by1 n1, by1 n2] → Below w.heap.size w w' → K (A.put o.dst (.slice (some ⟨g, 0, none⟩) 3 3)) w') : Oper.wp P o A w K Q := by
 have h2 := h w.heap.size _ (bytes_new (w := w) (T := T') [by1 n0, by1 n1, by1 n2] (cs := [.int .u8 n0, .int .u8 n1, .int .u8 n2]) (by simp [byteV_eq h0.1 h0.2, byteV_eq h1.1 h1.2, byteV_eq h2'.1 h2'.2]) (by simp [maxLen])) ((Below.refl _ _).alloc (Nat.le_refl _) _)
 unfold Oper.wp
 simp [execOp, ho, Instr.buildSlice, run_underlying ht, hsz, hz, newRow, newObj, hx0, hx1, hx2, Instr.fill, Value.cells, Array.range, Result.andThen] at h2 ⊢
 exact h2
theorem at_buildU {P : Program} {ops : Array Oper} {Q : Exit → Act → World → Prop} {rest : List Oper} {A : Act} {w : World} {d : Option Tmp} {ty : TypeId} {p : String} {af : Array Edge} {g : Option (Nat × Bool)} {n : Nat} {xs : Array (Nat × Operand)} (T : TypeId)
  (h : wpList P ops Q (⟨d, .buildSlice T n xs, ty, p, af, g⟩ :: rest) A w) : wpList P ops Q (⟨d, .buildSlice T n xs, ty, p, af, g⟩ :: rest) A w := h
theorem wp_appStr (hgd : o.guard = none) (sl x : Operand) (t u : TypeId)
  (ho : o.op = .call { callee := .builtin .append, args := #[sl, x], argTypes := #[t, u] })
  (base : Nat) (e : TypeId) (i : TypeInfo) (ht : P.underlying t = some (.slice e)) (hu : P.underlying u = some .string) (hi : P.info? e = some i) (hz : i.zero = some (.int .u8 0)) (hsize : i.size = 1) (hby : i.bytes = 1)
  {a : Option Addr} {c n : Nat} {xs : List UInt8} (hs : A.eval sl = .slice a n c) (hn : n = xs.length) (hO : Own base e w 1 RU8 a c xs) (s : ByteArray) (hx : A.eval x = .string s) (hl : xs.length + s.size ≤ 140737488355328) (hbase : base ≤ w.heap.size)
  (h : ∀ a' c' w', Own base e w' 1 RU8 a' c' (xs ++ s.data.toList) → w.grownBy w' (a.map (·.block)) → K (A.put o.dst (.slice a' (n + s.size) c')) w') : Oper.wp P o A w K Q := by
 subst hn
 have hob : (Value.slice a xs.length c).ownBlock = a.map (·.block) := by cases a <;> rfl
 obtain ⟨v', w', hr, g1, g2, _⟩ := Lib.run_append_own_string (P := P) w base t u o.type e i ht hu hi hz hsize hby _ xs.length _ hO.toBytes s (by unfold maxLen; omega) hl hbase
 rw [strCells_bytes, ← List.map_append] at g1
 rw [hob] at g2
 have hsz : s.data.toList.length = s.size := by rw [Array.length_toList]; rfl
 have hl2 : xs.length + s.size = (xs ++ s.data.toList).length := by rw [List.length_append, hsz]
 rw [hl2] at g1
 have key : ∀ a' c', v' = .slice a' (xs.length + s.size) c' → Own base e w' 1 RU8 a' c' (xs ++ s.data.toList) := by
  rintro a' c' rfl
  rw [hl2] at g1
  exact Own.ofBytes g1
 unfold Oper.wp execOp
 simp only [ho, resolve, invoke, builtin, Sem.run_bind, Sem.run_pure, Result.andThen_ok, List.map_toArray, List.map_cons, List.map_nil, hs, hx, hr]
 rcases g1.2 with ⟨rfl, hn⟩ | ⟨g, cap, cur, rfl, _⟩
 ·have := h none 0 w' (key _ _ (by rw [hl2, hn])) g2
  rw [hl2, hn] at this
  exact this
 ·rw [← hl2]
  exact h _ _ w' (key _ _ (by rw [hl2])) g2
end
end Go.Proofs.YtnjjdpiofbajlaaGreat
