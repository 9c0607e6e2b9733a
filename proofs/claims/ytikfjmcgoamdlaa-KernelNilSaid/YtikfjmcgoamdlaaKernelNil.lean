/- For all calls and mail, a kernel that is nil answers as P3.1 says. No condition. -/
import Derived.Test.YtikfjmcgoamdlaaRows
import Derived.WalkKit
import Derived.ProofKit
import Derived.OpenShut
import Derived.SizedLaws
import Derived.Test.YtikfjmcgoamdlaaOpensK
import Derived.Test.YtikfjmcgoamdlaaLines
import Derived.Test.YtikfjmcgoamdlaaThreadNil
import Derived.Test.YtikfjmcgoamdlaaKer0
set_option linter.unusedSimpArgs false
set_option linter.unusedVariables false
namespace Go.Proofs.Ytikfjmcgoamdlaa.kernelNil
open Go.ChangeShapes Go.WideShapes Go.ChangeAt Go.RowKit

set_option maxRecDepth 100000 in
set_option maxHeartbeats 1000000 in
theorem deliver (w : World) (t h th : Int) (la ga : Option Addr) (ln lc gn gc : Nat) (s : ByteArray) : Calls Try.prog 5 #[.pointer none, .int .i64 t, .agg #[.int .i64 h, .int .i64 th, .slice la ln lc, .slice ga gn gc, .string s]] w fun e w' => (∃ u, e = .returned u) ∧ Below w.heap.size w w' := by
  have st := St.start w
  go_enter Try.func5, Try.ntmps5
  go_wp2_with (first | go_skip | (refine mem_box st (wanted_none rfl) 28 _ rfl _ rfl _ rfl ?_; clear st; intro g1 w1 hg1 st hg1b; clear hg1b; simp [Act.eval, Act.put, Value.cells, putL] at st))
  first | (go_end0; exact ⟨⟨_, rfl⟩, st.below⟩) | (refine bodyPost_ret (v := .tuple #[]) (by simp [results, Try.results5, go_sem]) rfl ⟨⟨_, rfl⟩, st.below⟩)

set_option maxRecDepth 100000 in
set_option maxHeartbeats 1000000 in
theorem letter (w : World) (tt k h t n c : Int) (la ga : Option Addr) (ln lc gn gc : Nat) (s : ByteArray) : Calls Try.prog 6 #[.pointer none, .int .i64 tt, .agg #[.int .i64 k, .int .i64 h, .int .i64 t, .int .i64 n, .int .i64 c, .slice la ln lc, .slice ga gn gc, .string s]] w fun e w' => e = .returned (.tuple #[.agg #[.int .i64 0, .int .i64 0, .slice none 0 0, .slice none 0 0, .string ⟨#[]⟩], .int .i64 4]) ∧ Below w.heap.size w w' := by
  have st := St.start w
  go_enter Try.func6, Try.ntmps6
  go_wp2_with (first | go_skip | (refine mem_box st (wanted_none rfl) 26 _ rfl _ rfl _ rfl ?_; clear st; intro g1 w1 hg1 st hg1b; clear hg1b; simp [Act.eval, Act.put, Value.cells, putL] at st) | (refine mem_alloc st (wanted_none rfl) 28 rfl _ Try.zeroValue28 _ rfl ?_; clear st; intro g2 w2 hg2 st hg2b; clear hg2b; simp [Act.eval, Act.put, Value.cells, putL] at st) | ((first | refine mem_store' st 28 _ _ rfl (wanted_none rfl) _ Try.sizeOf28 ?_ | (refine mem_store' st 28 _ _ rfl (wanted_some rfl ?_) _ Try.sizeOf28 ?_; focus (simp [yielded, Act.put]; done))); refine ⟨1, _, _, _, _, _, rfl, rfl, rfl, rfl, rfl, rfl, ?_⟩; clear st; intro w3 st hw3m hw3z; simp [Act.eval, Act.put, Value.cells, putL] at st))
  have hc := fun j => st.cell (i := 1) rfl j
  refine bodyPost_ret (v := _) ?hr rfl ⟨rfl, st.below⟩
  case hr => simp [results, Try.results6, go_sem, hc]; try rfl

set_option maxRecDepth 100000 in
theorem no (w : World) (n : Int) : Calls Try.prog 23 #[.int .i64 n] w fun e w' => e = .returned (.agg #[.int .i64 n, .int .i64 0, .string ⟨#[]⟩]) ∧ Below w.heap.size w w' := by
  have st := St.start w
  go_enter Try.func23, Try.ntmps23
  go_wp2_with (first | go_skip | (refine mem_alloc st (wanted_none rfl) 35 rfl _ Try.zeroValue35 _ rfl ?_; clear st; intro g2 w2 hg2 st hg2b; clear hg2b; simp [Act.eval, Act.put, Value.cells, putL] at st) | ((first | refine mem_store' st 35 _ _ rfl (wanted_none rfl) _ Try.sizeOf35 ?_ | (refine mem_store' st 35 _ _ rfl (wanted_some rfl ?_) _ Try.sizeOf35 ?_; focus (simp [yielded, Act.put]; done))); refine ⟨0, _, _, _, _, _, rfl, rfl, rfl, rfl, rfl, rfl, ?_⟩; clear st; intro w3 st hw3m hw3z; simp [Act.eval, Act.put, Value.cells, putL] at st))
  have hc := fun j => st.cell (i := 0) rfl j
  refine bodyPost_ret (v := _) ?hr rfl ⟨rfl, st.below⟩
  case hr => simp [results, Try.results23, go_sem, hc]; try rfl

set_option maxRecDepth 100000 in
set_option maxHeartbeats 1000000 in
theorem call (w : World) (tt k h t n c : Int) (la ga : Option Addr) (ln lc gn gc : Nat) (s : ByteArray) : Calls Try.prog 7 #[.pointer none, .int .i64 tt, .agg #[.int .i64 k, .int .i64 h, .int .i64 t, .int .i64 n, .int .i64 c, .slice la ln lc, .slice ga gn gc, .string s]] w fun e w' => e = .returned (.agg #[.int .i64 4, .int .i64 0, .string ⟨#[]⟩]) ∧ Below w.heap.size w w' := by
  have st := St.start w
  go_enter Try.func7, Try.ntmps7
  go_wp2_with (first | go_skip | (refine mem_box st (wanted_none rfl) 26 _ rfl _ rfl _ rfl ?_; clear st; intro g1 w1 hg1 st hg1b; clear hg1b; simp [Act.eval, Act.put, Value.cells, putL] at st) | (refine mem_alloc st (wanted_none rfl) 35 rfl _ Try.zeroValue35 _ rfl ?_; clear st; intro g2 w2 hg2 st hg2b; clear hg2b; simp [Act.eval, Act.put, Value.cells, putL] at st) | (go_at_call 23; go_must (refine (no _ 4).mono ?_; rintro e v1 ⟨rfl, hb1⟩; replace st := st.call hb1; clear hb1)) | ((first | refine mem_store' st 35 _ _ rfl (wanted_none rfl) _ Try.sizeOf35 ?_ | (refine mem_store' st 35 _ _ rfl (wanted_some rfl ?_) _ Try.sizeOf35 ?_; focus (simp [yielded, Act.put]; done))); refine ⟨1, _, _, _, _, _, rfl, rfl, rfl, rfl, rfl, rfl, ?_⟩; clear st; intro w3 st hw3m hw3z; simp [Act.eval, Act.put, Value.cells, putL] at st))
  have hc := fun j => st.cell (i := 1) rfl j
  refine bodyPost_ret (v := _) ?hr rfl ⟨rfl, st.below⟩
  case hr => simp [results, Try.results7, go_sem, hc]; try rfl

set_option maxRecDepth 100000 in
theorem thread (w : World) (t : Int) : Calls Try.prog 10 #[.pointer none, .int .i64 t] w fun e w' => e = .returned (.agg #[.slice none 0 0, .slice none 0 0, .string .empty, .slice none 0 0, .slice none 0 0]) ∧ Below w.heap.size w w' := by
  have st := St.start w
  go_enter Try.func10, Try.ntmps10
  go_wp2_with (first | go_skip | (refine mem_alloc st (wanted_none rfl) 42 rfl _ Try.zeroValue42 _ rfl ?_; clear st; intro g1 w1 hg1 st hg1b; clear hg1b; simp [Act.eval, Act.put, Value.cells, putL] at st) | ((first | refine mem_store' st 42 _ _ rfl (wanted_none rfl) _ Try.sizeOf42 ?_ | (refine mem_store' st 42 _ _ rfl (wanted_some rfl ?_) _ Try.sizeOf42 ?_; focus (simp [yielded, Act.put]; done))); refine ⟨0, _, _, _, _, _, rfl, rfl, rfl, rfl, rfl, rfl, ?_⟩; clear st; intro w2 st hw2m hw2z; simp [Act.eval, Act.put, Value.cells, putL] at st))
  have hc := fun j => st.cell (i := 0) rfl j
  refine bodyPost_ret (v := _) ?hr rfl ⟨rfl, st.below⟩
  case hr => simp [results, Try.results10, go_sem, hc]; try rfl

set_option maxRecDepth 100000 in
set_option maxHeartbeats 3000000 in
theorem walk (w : World) (t : Int) (c : Req) (la ga : Option Addr) (lc gc : Nat) (m : Mail) (la' ga' : Option Addr) (lc' gc' : Nat) :
    Calls Try.prog 3 #[.int .i64 t, .agg #[.int .i64 c.kind, .int .i64 c.h, .int .i64 c.t, .int .i64 c.n, .int .i64 c.c, .slice la c.label.length lc, .slice ga c.grants.length gc, .string c.text], .agg #[.int .i64 m.host, .int .i64 m.thread, .slice la' m.label.length lc', .slice ga' m.grants.length gc', .string m.text]] w fun r w' => r = .returned (.bool true) ∧ Below w.heap.size w w' := by
  have HM := Lib.hid (fun (W : World) => ref_SameMail (fun _ => True) (fun _ => True) W ⟨0, 0, [], [], ⟨#[]⟩⟩ none 0 none 0 none 0 none 0 ⟨SlR.nil _ _ _ _, SlR.nil _ _ _ _⟩ ⟨SlR.nil _ _ _ _, SlR.nil _ _ _ _⟩)
  unfold mailV at HM
  have st := St.start w
  go_enter Try.func3, Try.ntmps3
  go_wp2_with (first
    | go_skip | (refine mem_box st (wanted_none rfl) 26 _ rfl _ rfl _ rfl ?_; clear st; intro g1 w1 hg1 st hg1b; clear hg1b; simp [Act.eval, Act.put, Value.cells, putL] at st) | (refine mem_box st (wanted_none rfl) 28 _ rfl _ rfl _ rfl ?_; clear st; intro g2 w2 hg2 st hg2b; clear hg2b; simp [Act.eval, Act.put, Value.cells, putL] at st) | ((first | refine mem_load_agg' st 26 _ rfl (wanted_none rfl) Try.isAgg26 _ Try.sizeOf26 ?_ | (refine mem_load_agg' st 26 _ rfl (wanted_some rfl ?_) Try.isAgg26 _ Try.sizeOf26 ?_; focus (simp [yielded, Act.put]; done))); refine ⟨0, _, _, _, _, _, rfl, rfl, rfl, rfl, ?_⟩) | ((first | refine mem_load_agg' st 28 _ rfl (wanted_none rfl) Try.isAgg28 _ Try.sizeOf28 ?_ | (refine mem_load_agg' st 28 _ rfl (wanted_some rfl ?_) Try.isAgg28 _ Try.sizeOf28 ?_; focus (simp [yielded, Act.put]; done))); refine ⟨1, _, _, _, _, _, rfl, rfl, rfl, rfl, ?_⟩)
    | (go_at_call 5; go_must (refine (deliver _ _ _ _ _ _ _ _ _ _ _).mono ?_; rintro e v1 ⟨⟨u, rfl⟩, hb1⟩; replace st := st.call hb1; clear hb1))
    | (go_at_call 6; go_must (refine (letter _ _ _ _ _ _ _ _ _ _ _ _ _ _).mono ?_; rintro e v1 ⟨rfl, hb1⟩; replace st := st.call hb1; clear hb1))
    | (refine mem_alloc st (wanted_none rfl) 28 rfl _ Try.zeroValue28 _ rfl ?_; clear st; intro g3 w3 hg3 st hg3b; clear hg3b; simp [Act.eval, Act.put, Value.cells, putL] at st) | ((first | refine mem_store' st 28 _ _ rfl (wanted_none rfl) _ Try.sizeOf28 ?_ | (refine mem_store' st 28 _ _ rfl (wanted_some rfl ?_) _ Try.sizeOf28 ?_; focus (simp [yielded, Act.put]; done))); refine ⟨2, _, _, _, _, _, rfl, rfl, rfl, rfl, rfl, rfl, ?_⟩; clear st; intro w4 st hw4m hw4z; simp [Act.eval, Act.put, Value.cells, putL] at st)
    | (go_at_call 7; go_must (refine (call _ _ _ _ _ _ _ _ _ _ _ _ _ _).mono ?_; rintro e v1 ⟨rfl, hb1⟩; replace st := st.call hb1; clear hb1))
    | ((first | refine mem_load_agg' st 28 _ rfl (wanted_none rfl) Try.isAgg28 _ Try.sizeOf28 ?_ | (refine mem_load_agg' st 28 _ rfl (wanted_some rfl ?_) Try.isAgg28 _ Try.sizeOf28 ?_; focus (simp [yielded, Act.put]; done))); refine ⟨2, _, _, _, _, _, rfl, rfl, rfl, rfl, ?_⟩)
    | (go_at_call 8; go_must (refine (HM.out _).mono ?_; rintro e v1 ⟨rfl, hb1⟩; replace st := st.call hb1; clear hb1))
    | (go_at_call 10; go_must (refine (thread _ _).mono ?_; rintro e v1 ⟨rfl, hb1⟩; replace st := st.call hb1; clear hb1))
    | (go_at_call 9; go_must (refine (ref_SameThread_nil _).mono ?_; rintro e v1 ⟨rfl, hb1⟩; replace st := st.call hb1; clear hb1))
    | (go_at_call 11; go_must (refine (calls_yes _).mono ?_; rintro e v1 ⟨rfl, hb1⟩; replace st := st.call hb1; clear hb1)))
  go_ret
  exact ⟨rfl, st.below⟩

theorem own : ownKnob Try.prog.godebug = none := by kernel_rfl
theorem laid : laidOutB Try.prog = true := by kernel_rfl

set_option maxRecDepth 100000 in
theorem contract (H : Type) (enc : TypeId × Value → H) (W : World) (base : Nat) (args : Array Value) (ds gs : List (DataW H)) (before : List MemPlace)
    (hval : ∀ (j : Nat) t v, Try.f3.params[j]? = some t → args[j]? = some v → Value.okWide Try.prog W .any base t v)
    (hW : DataW.Whole enc Try.prog Try.f3.params.toList Rows.kernelNilSpec.vars false W args.toList ds gs before)
    (hsz : (DataW.weightsEach Try.prog (Try.f3.params.toList ++ Rows.kernelNilSpec.plain.varTypes Try.prog) (ds ++ gs)).all (· ≤ reachBytes) = true) :
    Calls Try.prog 3 args W fun e W' => ∃ v, e = .returned v ∧ Rows.kernelNilSpec.post enc Try.prog Try.f3 false true false false W args v W' := by
  have hW' := hW
  obtain ⟨p, q, hA0, hV, rfl, hfz, hnd⟩ := hW
  have hA : DataW.TrodAll enc Try.prog W 0 (fun _ => true) true Try.f3.params.toList args.toList ds p := hA0
  have hpar := Try.params3
  rw [hpar] at hA hval hsz
  obtain ⟨v0, vs0, d0, ds0, p0, q0, hargs0, rfl, rfl, h0, r0⟩ := trodAll_cons hA
  obtain ⟨v1, vs1, d1, ds1, p1, q1, hargs1, rfl, rfl, h1, r1⟩ := trodAll_cons r0
  obtain ⟨v2, vs2, d2, ds2, p2, q2, hargs2, rfl, rfl, h2, r2⟩ := trodAll_cons r1
  obtain ⟨hnil, rfl, rfl⟩ := trodAll_nil r2
  obtain rfl : args = #[v0, v1, v2] := by cases args; simp_all
  obtain ⟨rfl, rfl⟩ := trodVars_none hV
  have w0 : ∀ n ∈ d0.weights Try.prog 3, n ≤ reachBytes := fun n hn => by simpa using List.all_eq_true.1 hsz n (DataW.weights_mem_each (j := 0) (t := 3) (d := d0) rfl rfl n hn)
  obtain ⟨x0, rfl, hx0⟩ := arg_int Try.underlying3 (hval 0 _ v0 rfl rfl) h0
  have w1 : ∀ n ∈ d1.weights Try.prog 26, n ≤ reachBytes := fun n hn => by simpa using List.all_eq_true.1 hsz n (DataW.weights_mem_each (j := 1) (t := 26) (d := d1) rfl rfl n hn)
  obtain ⟨x1, cs1, rfl, ⟨la1, lc1, ga1, gc1, rfl, hA1, hB1⟩, hx1, hm1⟩ := arg_struct reads_Req Try.underlying26 (hval 1 _ v1 rfl rfl) h1 w1
  have w2 : ∀ n ∈ d2.weights Try.prog 28, n ≤ reachBytes := fun n hn => by simpa using List.all_eq_true.1 hsz n (DataW.weights_mem_each (j := 2) (t := 28) (d := d2) rfl rfl n hn)
  obtain ⟨x2, cs2, rfl, ⟨la2, lc2, ga2, gc2, rfl, hA2, hB2⟩, hx2, hm2⟩ := arg_struct reads_Mail Try.underlying28 (hval 2 _ v2 rfl rfl) h2 w2
  refine (walk W x0 x1 la1 ga1 lc1 gc1 x2 la2 ga2 lc2 gc2).mono fun e W' ⟨he, hb⟩ => ?_
  exact ⟨_, he, law_post laid (by kernel_rfl) hW' rfl rfl (by kernel_rfl) Try.underlying4 hb⟩

set_option maxRecDepth 100000 in
theorem lifted (os : Os) (started : os.Started) (H : Type) (enc : TypeId × Value → H) :
    ReturnsInHanded {} Try.checked os 3 .any (Rows.kernelNilSpec.pre6 enc Try.prog Try.f3 Rows.kernelNilRow.domain false) (Rows.kernelNilSpec.post enc Try.prog Try.f3 false true false false) := by
  refine returnsInHanded_of_change_sized (C := Try.checked) own started (by kernel_rfl) Try.func3
    (ChangeSpec.witness6 (enc := enc) (C := Try.checked) false ⟨#[], #[.int .i64 0, .agg #[.int .i64 0, .int .i64 0, .int .i64 0, .int .i64 0, .int .i64 0, .slice none 0 0, .slice none 0 0, .string .empty], .agg #[.int .i64 0, .int .i64 0, .slice none 0 0, .slice none 0 0, .string .empty]], []⟩ 12 (by kernel_rfl) (by kernel_rfl) (by kernel_rfl) (by kernel_rfl)) ?_
  intro W base args ds gs before hval hW _ hsz _
  exact contract H enc W base args ds gs before hval hW hsz

theorem proved : Rows.KernelNilSaid :=
  OpenClaim.holds_of_wide 3 Try.f3 rfl rfl rfl rfl rfl rfl rfl ⟨rfl, rfl, rfl, rfl, rfl⟩ rfl rfl rfl rfl rfl (by kernel_rfl) Try.func3 (by kernel_rfl)
    (of_decide_eq_true (by kernel_rfl)) (by unfold Func.isWrapper; first | (rw [if_pos (by decide +kernel)]; kernel_rfl) | (rw [if_neg (by decide +kernel)]; exact ⟨rfl, rfl⟩))
    (fun os started H enc _ => lifted os started H enc)

end Go.Proofs.Ytikfjmcgoamdlaa.kernelNil
