/- A cert as a map's key. -/
import Derived.Test.YtdjgfedccacbiaaMaps
import Derived.Test.YtdjgfedccacbiaaOpens
import Derived.DeepKeys4
set_option linter.unusedSimpArgs false
set_option linter.unusedVariables false
namespace Go.Proofs.Ytdjgfedccacbiaa
open Go.RowKit
open Go.Maps (Keyed)

def certLit (x : Cert) : Lit := .string (keyBytes [.int .i64 x.c, .int .i64 x.by_, .int .i64 x.host, .int .i64 x.till])

theorem wf_i64 {n : Int} (h : fitI n) : (Lit.int .i64 n).wf = true := by
  unfold fitI at h
  simp only [Lit.wf, decide_eq_true_eq, Bool.and_eq_true]
  exact h

theorem cert_keyed : Keyed Try.prog 24 :=
  Keyed.of_law (deep_law_laid (by kernel_rfl) (m := 2) (by decide) (of_decide_eq_true (by kernel_rfl)) (by kernel_rfl) (by kernel_rfl))

theorem cert_key (x : Cert) (hx : x.fit) : keyOf Try.prog 24 (.agg #[.int .i64 x.c, .int .i64 x.by_, .int .i64 x.host, .int .i64 x.till]) = some (certLit x) := by
  obtain ⟨h1, h2, h3, h4⟩ := hx
  have w1 := wf_i64 h1; have w2 := wf_i64 h2; have w3 := wf_i64 h3; have w4 := wf_i64 h4
  have hU := Try.underlying24
  have hI := Try.underlying3
  have hkt : Try.prog.keyType 24 = true := by kernel_rfl
  have hc1 : Try.prog.cellsOf 3 = 1 := by kernel_rfl
  have hc4 : Try.prog.cellsOf 24 = 4 := by kernel_rfl
  have hsz : 2 ≤ Try.prog.types.size := of_decide_eq_true (by kernel_rfl)
  obtain ⟨m, hm⟩ := Nat.exists_eq_add_of_le hsz
  unfold keyOf
  simp only [hU]
  rw [if_pos (by simp [hkt, Value.formed, hU, hc4]), hm, show 2 + m + 1 = (m + 1 + 1) + 1 by omega]
  unfold Program.keyLits
  simp only [hU, Value.cells]
  rw [if_pos (by rw [hc4]; simp)]
  simp [List.mapM_cons, Program.keyLits, hI, hc1, w1, w2, w3, w4, certLit]

theorem certLit_inj {x y : Cert} (hx : x.fit) (hy : y.fit) (h : certLit x = certLit y) : x = y := by
  have := cert_keyed.inj (cert_key x hx) (h ▸ cert_key y hy)
  simp only [Value.agg.injEq, Array.mk.injEq, List.cons.injEq, Value.int.injEq, true_and, and_true] at this
  obtain ⟨a, b, c, d⟩ := x
  obtain ⟨a', b', c', d'⟩ := y
  simp at this
  simp [this]

end Go.Proofs.Ytdjgfedccacbiaa
