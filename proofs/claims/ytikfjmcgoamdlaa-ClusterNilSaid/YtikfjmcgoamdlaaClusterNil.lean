/- For every act, a cluster that is nil answers as P6.1 says. No condition. -/
import Derived.Test.YtikfjmcgoamdlaaRows
import Derived.WalkKit
import Derived.ProofKit
import Derived.OpenShut
import Derived.SizedLaws
import Derived.Test.YtikfjmcgoamdlaaOpensK
import Derived.Test.YtikfjmcgoamdlaaLines
import Derived.Test.YtikfjmcgoamdlaaThreadNil
set_option linter.unusedSimpArgs false
set_option linter.unusedVariables false
namespace Go.Proofs.Ytikfjmcgoamdlaa.clusterNil
open Go.ChangeShapes Go.WideShapes Go.ChangeAt Go.RowKit

theorem now (w : World) (h : Int) : Calls Try.prog 13 #[.pointer none] w fun e w' => e = .returned (.int .i64 0) ∧ w = w' := by
  go_enter Try.func13, Try.ntmps13
  go_wp2
  go_ret
  exact ⟨rfl, rfl⟩

theorem certs (w : World) (h : Int) : Calls Try.prog 15 #[.pointer none, .int .i64 h] w fun e w' => e = .returned (.slice none 0 0) ∧ w = w' := by
  go_enter Try.func15, Try.ntmps15
  go_wp2
  go_ret
  exact ⟨rfl, rfl⟩

theorem net (w : World) (h : Int) : Calls Try.prog 16 #[.pointer none] w fun e w' => e = .returned (.slice none 0 0) ∧ w = w' := by
  go_enter Try.func16, Try.ntmps16
  go_wp2
  go_ret
  exact ⟨rfl, rfl⟩

theorem thread (w : World) (h t : Int) : Calls Try.prog 14 #[.pointer none, .int .i64 h, .int .i64 t] w fun e w' => e = .returned (.agg #[.slice none 0 0, .slice none 0 0, .string .empty, .slice none 0 0, .slice none 0 0]) ∧ Below w.heap.size w w' := by
  have st := St.start w
  go_enter Try.func14, Try.ntmps14
  go_wp2_with (first | go_skip | (refine mem_alloc st (wanted_none rfl) 42 rfl _ Try.zeroValue42 _ rfl ?_; clear st; intro g1 w1 hg1 st hg1b; clear hg1b; simp [Act.eval, Act.put, Value.cells, putL] at st) | ((first | refine mem_store' st 42 _ _ rfl (wanted_none rfl) _ Try.sizeOf42 ?_ | (refine mem_store' st 42 _ _ rfl (wanted_some rfl ?_) _ Try.sizeOf42 ?_; focus (simp [yielded, Act.put]; done))); refine ⟨0, _, _, _, _, _, rfl, rfl, rfl, rfl, rfl, rfl, ?_⟩; clear st; intro w2 st hw2m hw2z; simp [Act.eval, Act.put, Value.cells, putL] at st))
  have hc := fun j => st.cell (i := 0) rfl j
  refine bodyPost_ret (v := _) ?hr rfl ⟨rfl, st.below⟩
  case hr => simp [results, Try.results14, go_sem, hc]; try rfl

set_option maxRecDepth 100000 in
set_option maxHeartbeats 1000000 in
theorem done (w : World) (k h t n ck ch ct cn cc : Int) (la ga : Option Addr) (ln lc gn gc : Nat) (s : ByteArray) : Calls Try.prog 12 #[.pointer none, .agg #[.int .i64 k, .int .i64 h, .int .i64 t, .int .i64 n, .int .i64 ck, .int .i64 ch, .int .i64 ct, .int .i64 cn, .int .i64 cc, .slice la ln lc, .slice ga gn gc, .string s]] w fun e w' => e = .returned (.agg #[.int .i64 4, .int .i64 0, .string .empty]) ∧ Below w.heap.size w w' := by
  have st := St.start w
  go_enter Try.func12, Try.ntmps12
  go_wp2_with (first | go_skip | (refine mem_box st (wanted_none rfl) 47 _ rfl _ rfl _ rfl ?_; clear st; intro g1 w1 hg1 st hg1b; clear hg1b; simp [Act.eval, Act.put, Value.cells, putL] at st) | (refine mem_alloc st (wanted_none rfl) 35 rfl _ Try.zeroValue35 _ rfl ?_; clear st; intro g2 w2 hg2 st hg2b; clear hg2b; simp [Act.eval, Act.put, Value.cells, putL] at st) | ((first | refine mem_store' st 35 _ _ rfl (wanted_none rfl) _ Try.sizeOf35 ?_ | (refine mem_store' st 35 _ _ rfl (wanted_some rfl ?_) _ Try.sizeOf35 ?_; focus (simp [yielded, Act.put]; done))); refine ⟨1, _, _, _, _, _, rfl, rfl, rfl, rfl, rfl, rfl, ?_⟩; clear st; intro w3 st hw3m hw3z; simp [Act.eval, Act.put, Value.cells, putL] at st))
  have hc := fun j => st.cell (i := 1) rfl j
  refine bodyPost_ret (v := _) ?hr rfl ⟨rfl, st.below⟩
  case hr => simp [results, Try.results12, go_sem, hc]; try rfl

set_option maxRecDepth 100000 in
set_option maxHeartbeats 1600000 in
theorem walk (w : World) (a : Deed) (la ga : Option Addr) (lc gc : Nat) (h t : Int) :
    Calls Try.prog 4 #[.agg #[.int .i64 a.kind, .int .i64 a.h, .int .i64 a.t, .int .i64 a.n, .int .i64 a.call.kind, .int .i64 a.call.h, .int .i64 a.call.t, .int .i64 a.call.n, .int .i64 a.call.c, .slice la a.call.label.length lc, .slice ga a.call.grants.length gc, .string a.call.text], .int .i64 h, .int .i64 t] w fun r w' => r = .returned (.bool true) ∧ Below w.heap.size w w' := by
  have st := St.start w
  go_enter Try.func4, Try.ntmps4
  go_wp2_with (first
    | go_skip | (refine mem_box st (wanted_none rfl) 47 _ rfl _ rfl _ rfl ?_; clear st; intro g1 w1 hg1 st hg1b; clear hg1b; simp [Act.eval, Act.put, Value.cells, putL] at st) | ((first | refine mem_load_agg' st 47 _ rfl (wanted_none rfl) Try.isAgg47 _ Try.sizeOf47 ?_ | (refine mem_load_agg' st 47 _ rfl (wanted_some rfl ?_) Try.isAgg47 _ Try.sizeOf47 ?_; focus (simp [yielded, Act.put]; done))); refine ⟨0, _, _, _, _, _, rfl, rfl, rfl, rfl, ?_⟩)
    | (go_at_call 12; refine (done _ _ _ _ _ _ _ _ _ _ _ _ _ _ _ _ _).mono ?_; rintro e v1 ⟨rfl, hb1⟩; replace st := st.call hb1; clear hb1)
    | (go_at_call 13; refine (now _ 0).mono ?_; rintro e v1 ⟨rfl, rfl⟩)
    | (go_at_call 14; refine (thread _ _ _).mono ?_; rintro e v1 ⟨rfl, hb1⟩; replace st := st.call hb1; clear hb1)
    | (go_at_call 9; refine (ref_SameThread_nil _).mono ?_; rintro e v1 ⟨rfl, hb1⟩; replace st := st.call hb1; clear hb1)
    | (go_at_call 15; refine (certs _ _).mono ?_; rintro e v1 ⟨rfl, rfl⟩)
    | (go_at_call 16; refine (net _ 0).mono ?_; rintro e v1 ⟨rfl, rfl⟩))
  go_ret
  exact ⟨rfl, st.below⟩

theorem own : ownKnob Try.prog.godebug = none := by kernel_rfl
theorem laid : laidOutB Try.prog = true := by kernel_rfl

set_option maxRecDepth 100000 in
theorem contract (H : Type) (enc : TypeId × Value → H) (W : World) (base : Nat) (args : Array Value) (ds gs : List (DataW H)) (before : List MemPlace)
    (hval : ∀ (j : Nat) t v, Try.f4.params[j]? = some t → args[j]? = some v → Value.okWide Try.prog W .any base t v)
    (hW : DataW.Whole enc Try.prog Try.f4.params.toList Rows.clusterNilSpec.vars false W args.toList ds gs before)
    (hsz : (DataW.weightsEach Try.prog (Try.f4.params.toList ++ Rows.clusterNilSpec.plain.varTypes Try.prog) (ds ++ gs)).all (· ≤ reachBytes) = true) :
    Calls Try.prog 4 args W fun e W' => ∃ v, e = .returned v ∧ Rows.clusterNilSpec.post enc Try.prog Try.f4 false true false false W args v W' := by
  have hW' := hW
  obtain ⟨p, q, hA0, hV, rfl, hfz, hnd⟩ := hW
  have hA : DataW.TrodAll enc Try.prog W 0 (fun _ => true) true Try.f4.params.toList args.toList ds p := hA0
  have hpar := Try.params4
  rw [hpar] at hA hval hsz
  obtain ⟨v0, vs0, d0, ds0, p0, q0, hargs0, rfl, rfl, h0, r0⟩ := trodAll_cons hA
  obtain ⟨v1, vs1, d1, ds1, p1, q1, hargs1, rfl, rfl, h1, r1⟩ := trodAll_cons r0
  obtain ⟨v2, vs2, d2, ds2, p2, q2, hargs2, rfl, rfl, h2, r2⟩ := trodAll_cons r1
  obtain ⟨hnil, rfl, rfl⟩ := trodAll_nil r2
  obtain rfl : args = #[v0, v1, v2] := by cases args; simp_all
  obtain ⟨rfl, rfl⟩ := trodVars_none hV
  have w0 : ∀ n ∈ d0.weights Try.prog 47, n ≤ reachBytes := fun n hn => by simpa using List.all_eq_true.1 hsz n (DataW.weights_mem_each (j := 0) (t := 47) (d := d0) rfl rfl n hn)
  obtain ⟨x0, cs0, rfl, ⟨la0, lc0, ga0, gc0, rfl, hA0, hB0⟩, hx0, hm0⟩ := arg_struct reads_Deed Try.underlying47 (hval 0 _ v0 rfl rfl) h0 w0
  have w1 : ∀ n ∈ d1.weights Try.prog 3, n ≤ reachBytes := fun n hn => by simpa using List.all_eq_true.1 hsz n (DataW.weights_mem_each (j := 1) (t := 3) (d := d1) rfl rfl n hn)
  obtain ⟨x1, rfl, hx1⟩ := arg_int Try.underlying3 (hval 1 _ v1 rfl rfl) h1
  have w2 : ∀ n ∈ d2.weights Try.prog 3, n ≤ reachBytes := fun n hn => by simpa using List.all_eq_true.1 hsz n (DataW.weights_mem_each (j := 2) (t := 3) (d := d2) rfl rfl n hn)
  obtain ⟨x2, rfl, hx2⟩ := arg_int Try.underlying3 (hval 2 _ v2 rfl rfl) h2
  refine (walk W x0 la0 ga0 lc0 gc0 x1 x2).mono fun e W' ⟨he, hb⟩ => ?_
  exact ⟨_, he, law_post laid (by kernel_rfl) hW' rfl rfl (by kernel_rfl) Try.underlying4 hb⟩

set_option maxRecDepth 100000 in
theorem lifted (os : Os) (started : os.Started) (H : Type) (enc : TypeId × Value → H) :
    ReturnsInHanded {} Try.checked os 4 .any (Rows.clusterNilSpec.pre6 enc Try.prog Try.f4 Rows.clusterNilRow.domain false) (Rows.clusterNilSpec.post enc Try.prog Try.f4 false true false false) := by
  refine returnsInHanded_of_change_sized (C := Try.checked) own started (by kernel_rfl) Try.func4
    (ChangeSpec.witness6 (enc := enc) (C := Try.checked) false ⟨#[], #[.agg #[.int .i64 0, .int .i64 0, .int .i64 0, .int .i64 0, .int .i64 0, .int .i64 0, .int .i64 0, .int .i64 0, .int .i64 0, .slice none 0 0, .slice none 0 0, .string .empty], .int .i64 0, .int .i64 0], []⟩ 12 (by kernel_rfl) (by kernel_rfl) (by kernel_rfl) (by kernel_rfl)) ?_
  intro W base args ds gs before hval hW _ hsz _
  exact contract H enc W base args ds gs before hval hW hsz

theorem proved : Rows.ClusterNilSaid :=
  OpenClaim.holds_of_wide 4 Try.f4 rfl rfl rfl rfl rfl rfl rfl ⟨rfl, rfl, rfl, rfl, rfl⟩ rfl rfl rfl rfl rfl (by kernel_rfl) Try.func4 (by kernel_rfl)
    (of_decide_eq_true (by kernel_rfl)) (by unfold Func.isWrapper; first | (rw [if_pos (by decide +kernel)]; kernel_rfl) | (rw [if_neg (by decide +kernel)]; exact ⟨rfl, rfl⟩))
    (fun os started H enc _ => lifted os started H enc)

end Go.Proofs.Ytikfjmcgoamdlaa.clusterNil
