/- For every line and number Take answers exactly what the document's reference says, errors too. No condition. -/
import Derived.Test.YtclocdhkpckolaaRows
import Derived.Test.YtclocdhkpckolaaTakeM
import Derived.Test.YtclocdhkpckolaaSameL
import Derived.Test.YtclocdhkpckolaaLines
import Derived.Test.YtclocdhkpckolaaOpens
import Derived.SizedLaws
namespace Go.Proofs.Ytclocdhkpckolaa.lineTakes
open Go.ChangeShapes Go.WideShapes Go.ChangeAt Go.RowKit

theorem fits {L : Line} (h : L.fit) : L.sent.length * 160 ≤ 140737488355328 ∧ ∀ s ∈ L.sent, s.frame.Fits := by
  obtain ⟨_, ⟨h1, h2⟩, _⟩ := h
  refine ⟨by omega, fun s hs => ?_⟩
  obtain ⟨⟨_, _, _, _, _, ⟨_, _, ⟨h3, _⟩, ⟨h4, _⟩, _⟩, ⟨h5, _⟩⟩, _⟩ := h2 s hs
  exact ⟨by omega, by omega, by omega⟩

set_option maxHeartbeats 2000000 in
theorem walk (w : World) (L : Line) (sa : Option Addr) (sc : Nat) (seq : Int) (hR : SentR (fun _ => True) w sa sc L.sent) (hf : L.fit) :
    Calls Try.prog 4 #[lineV L.next L.high sa L.sent.length sc L.seen, .int .i64 seq] w fun r w' => r = .returned (.bool true) ∧ Below w.heap.size w w' := by
  obtain ⟨hl, hff⟩ := fits hf
  obtain ⟨next, sent, high, e⟩ := L
  simp only at hl hff hR ⊢
  generalize hg : lineOk ⟨next, sent, high, e⟩ = good
  generalize hr : takeC good high seq e = r
  have HG := Lib.hid hg
  have HR := Lib.hid hr
  have HF := Lib.hid hff
  clear hg hr hff hf
  have h1 := Lib.hid (fun (W : World) (h : SentR (fun _ => True) W sa sc sent) => ref_CopyLine (fun _ => True) W next high sa sc sent e h hl HF.out)
  have h3 := Lib.hid (fun (W : World) (h : SentR (fun _ => True) W sa sc sent) => ref_TakeOn (fun _ => True) W next high sa sc sent e seq h good HG.out r HR.out)
  unfold lineV at *
  have st := St.start w
  go_enter Try.func4, Try.ntmps4
  go_wp2_with (first
    | (refine mem_box st (wanted_none rfl) 25 _ rfl _ rfl _ rfl ?_; clear st; intro g1 w1 hg1 st hg1b; clear hg1b; simp [Act.eval, Act.put, Value.cells, putL] at st) | ((first | refine mem_load_agg' st 25 _ rfl (wanted_none rfl) Try.isAgg25 _ Try.sizeOf25 ?_ | (refine mem_load_agg' st 25 _ rfl (wanted_some rfl ?_) Try.isAgg25 _ Try.sizeOf25 ?_; focus (simp [yielded, Act.put]; done))); refine ⟨0, _, _, _, _, _, rfl, rfl, rfl, rfl, ?_⟩) | (refine mem_alloc st (wanted_none rfl) 25 rfl _ Try.zeroValue25 _ rfl ?_; clear st; intro g2 w2 hg2 st hg2b; clear hg2b; simp [Act.eval, Act.put, Value.cells, putL] at st)
    | (go_at_call 9; refine (h1.out _ (SentR.below hR st.below)).mono ?_; rintro x v1 ⟨a1, k1, rfl, hb1, hR1⟩; replace st := st.call hb1; clear hb1)
    | (go_at_call 18; refine (line_Take _ _ next high a1 k1 sent e seq hR1 good HG.out r HR.out).mono ?_; rintro x v2 ⟨rfl, hb2⟩; unfold lineV; replace st := st.call hb2; replace hR1 := SentR.below hR1 hb2; clear hb2; have hR2 := SentR.below hR st.below; have st2 := st; replace st := st.rebase)
    | (go_at_call 19; refine (h3.out _ (SentR.below hR2 (st2.below2 st (by simp)))).mono ?_; rintro x v3 ⟨rfl, hb3⟩; replace st := st.call hb3; clear hb3)
    | ((first | refine mem_store' st 25 _ _ rfl (wanted_none rfl) _ Try.sizeOf25 ?_ | (refine mem_store' st 25 _ _ rfl (wanted_some rfl ?_) _ Try.sizeOf25 ?_; focus (simp [yielded, Act.put]; done))); refine ⟨1, _, _, _, _, _, rfl, rfl, rfl, rfl, rfl, rfl, ?_⟩; clear st; intro w3 st hw3m hw3z; simp [Act.eval, Act.put, Value.cells, putL] at st) | ((first | refine mem_store' st 25 _ _ rfl (wanted_none rfl) _ Try.sizeOf25 ?_ | (refine mem_store' st 25 _ _ rfl (wanted_some rfl ?_) _ Try.sizeOf25 ?_; focus (simp [yielded, Act.put]; done))); refine ⟨2, _, _, _, _, _, rfl, rfl, rfl, rfl, rfl, rfl, ?_⟩; clear st; intro w4 st hw4m hw4z; simp [Act.eval, Act.put, Value.cells, putL] at st) | ((first | refine mem_load_agg' st 25 _ rfl (wanted_none rfl) Try.isAgg25 _ Try.sizeOf25 ?_ | (refine mem_load_agg' st 25 _ rfl (wanted_some rfl ?_) Try.isAgg25 _ Try.sizeOf25 ?_; focus (simp [yielded, Act.put]; done))); refine ⟨1, _, _, _, _, _, rfl, rfl, rfl, rfl, ?_⟩) | ((first | refine mem_load_agg' st 25 _ rfl (wanted_none rfl) Try.isAgg25 _ Try.sizeOf25 ?_ | (refine mem_load_agg' st 25 _ rfl (wanted_some rfl ?_) Try.isAgg25 _ Try.sizeOf25 ?_; focus (simp [yielded, Act.put]; done))); refine ⟨2, _, _, _, _, _, rfl, rfl, rfl, rfl, ?_⟩)
    | (go_at_call 13; refine (ref_SameLine _ (fun _ => True) _ next r.1 sent r.2.1 a1 k1 sa sc (SentR.below hR1 (st2.below2 st (by simp))) (SentR.below hR2 (st2.below2 st (by simp)))).mono ?_; rintro x v5 ⟨rfl, hb5⟩; replace st := st.call hb5; clear hb5)
    | (go_at_call 17; refine (lines_yes _).mono ?_; rintro x v6 ⟨rfl, hb6⟩; replace st := st.call hb6; clear hb6))
  go_ret
  exact ⟨by simp, st2.below.keep (st2.below2 st (by simp))⟩

theorem own : ownKnob Try.prog.godebug = none := by kernel_rfl
theorem laid : laidOutB Try.prog = true := by kernel_rfl

set_option maxRecDepth 100000 in
theorem contract (H : Type) (enc : TypeId × Value → H) (W : World) (base : Nat) (args : Array Value) (ds gs : List (DataW H)) (before : List MemPlace)
    (hval : ∀ (j : Nat) t v, Try.f4.params[j]? = some t → args[j]? = some v → Value.okWide Try.prog W .any base t v)
    (hW : DataW.Whole enc Try.prog Try.f4.params.toList Rows.lineTakesSpec.vars false W args.toList ds gs before)
    (hsz : (DataW.weightsEach Try.prog (Try.f4.params.toList ++ Rows.lineTakesSpec.plain.varTypes Try.prog) (ds ++ gs)).all (· ≤ reachBytes) = true) :
    Calls Try.prog 4 args W fun e W' => ∃ v, e = .returned v ∧ Rows.lineTakesSpec.post enc Try.prog Try.f4 false true false false W args v W' := by
  have hW' := hW
  obtain ⟨p, q, hA0, hV, rfl, hfz, hnd⟩ := hW
  have hA : DataW.TrodAll enc Try.prog W 0 (fun _ => true) true Try.f4.params.toList args.toList ds p := hA0
  have hpar := Try.params4
  rw [hpar] at hA hval hsz
  obtain ⟨v0, vs0, d0, ds0, p0, q0, hargs0, rfl, rfl, h0, r0⟩ := trodAll_cons hA
  obtain ⟨v1, vs1, d1, ds1, p1, q1, hargs1, rfl, rfl, h1, r1⟩ := trodAll_cons r0
  obtain ⟨hnil, rfl, rfl⟩ := trodAll_nil r1
  obtain rfl : args = #[v0, v1] := by cases args; simp_all
  obtain ⟨rfl, rfl⟩ := trodVars_none hV
  have w0 : ∀ n ∈ d0.weights Try.prog 25, n ≤ reachBytes := fun n hn => by simpa using List.all_eq_true.1 hsz n (DataW.weights_mem_each (j := 0) (t := 25) (d := d0) rfl rfl n hn)
  obtain ⟨x0, cs0, rfl, ⟨a0, c0, rfl, hR0⟩, hx0, hm0⟩ := arg_struct reads_Line Try.underlying25 (hval 0 _ v0 rfl rfl) h0 w0
  have w1 : ∀ n ∈ d1.weights Try.prog 3, n ≤ reachBytes := fun n hn => by simpa using List.all_eq_true.1 hsz n (DataW.weights_mem_each (j := 1) (t := 3) (d := d1) rfl rfl n hn)
  obtain ⟨x1, rfl, hx1⟩ := arg_int Try.underlying3 (hval 1 _ v1 rfl rfl) h1
  refine (walk W x0 a0 c0 x1 hR0 hx0).mono fun e W' ⟨he, hb⟩ => ?_
  exact ⟨_, he, law_post laid (by kernel_rfl) hW' rfl rfl (by kernel_rfl) Try.underlying4 hb⟩

set_option maxRecDepth 100000 in
theorem lifted (os : Os) (started : os.Started) (H : Type) (enc : TypeId × Value → H) :
    ReturnsInHanded {} Try.checked os 4 .any (Rows.lineTakesSpec.pre6 enc Try.prog Try.f4 Rows.lineTakesRow.domain false) (Rows.lineTakesSpec.post enc Try.prog Try.f4 false true false false) := by
  refine returnsInHanded_of_change_sized (C := Try.checked) own started (by kernel_rfl) Try.func4
    (ChangeSpec.witness6 (enc := enc) (C := Try.checked) false ⟨#[], #[.agg #[.int .i64 0, .slice none 0 0, .int .i64 0, .bool false, .bool false, .bool false, .bool false, .bool false, .bool false, .bool false, .bool false], .int .i64 0], []⟩ 12 (by kernel_rfl) (by kernel_rfl) (by kernel_rfl) (by kernel_rfl)) ?_
  intro W base args ds gs before hval hW _ hsz _
  exact contract H enc W base args ds gs before hval hW hsz

theorem proved : Rows.LineTakesSaid :=
  OpenClaim.holds_of_wide 4 Try.f4 rfl rfl rfl rfl rfl rfl rfl ⟨rfl, rfl, rfl, rfl, rfl⟩ rfl rfl rfl rfl rfl (by kernel_rfl) Try.func4 (by kernel_rfl)
    (of_decide_eq_true (by kernel_rfl)) (by unfold Func.isWrapper; first | (rw [if_pos (by decide +kernel)]; kernel_rfl) | (rw [if_neg (by decide +kernel)]; exact ⟨rfl, rfl⟩))
    (fun os started H enc _ => lifted os started H enc)

end Go.Proofs.Ytclocdhkpckolaa.lineTakes
