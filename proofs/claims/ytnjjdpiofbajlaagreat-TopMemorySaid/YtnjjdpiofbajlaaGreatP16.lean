/- Walks and plain laws, part 16. -/
import Derived.Test.YtnjjdpiofbajlaaGreatP14
import Derived.Test.YtnjjdpiofbajlaaGreatP15
import Derived.Maps.OwnSet
import Derived.ArgAppend
set_option linter.unusedSimpArgs false
set_option linter.unusedVariables false
set_option maxHeartbeats 16000000
set_option maxRecDepth 100000
namespace Go.Proofs.YtnjjdpiofbajlaaGreat
open Go.RowKit
theorem St.callB {M : List Nat} {w0 w w' : World} {own : Blks} (h : St M w0 w own) {B : Nat} (hb : Below B w w') (h0 : w0.heap.size ≤ B) (hlt : ∀ x ∈ own, x.1 < B) : St M w0 w' own :=
 ⟨hb.os.trans h.os, hb.tape.trans h.tape, hb.output.trans h.output, Nat.le_trans h.size hb.size, fun b hb' hM => (hb.block b (by omega)).trans (h.frame b hb' hM), fun x hx => (hb.block x.1 (hlt x hx)).trans (h.blk x hx), h.mine, h.ne⟩
def answX (g : Bool) (sent : List Sent) (seq : Int) : Int × List Sent :=
 if g = false then (2, sent) else if (sent.filter (offSeq seq)).length = sent.length then (4, sent) else (0, sent.filter (offSeq seq))
theorem line_Answered (ok : Nat → Prop) (w : World) (hok : ∀ b, w.heap.size ≤ b → ok b) (next high : Int) (sa : Option Addr) (sc : Nat) (sent : List Sent) (e : Eight) (seq : Int) (hR : SentR ok w sa sc sent) (hl : sent.length * 160 ≤ 140737488355328) (g : Bool) (hg : lineOk ⟨next, sent, high, e⟩ = g) (r : Int × List Sent) (hr : answX g sent seq = r) :
  Calls Tryz.prog 52 #[lineV next high sa sent.length sc e, .int .i64 seq] w fun v w' => ∃ a' c', v = .returned (.tuple #[lineV next high a' r.2.length c' e, .int .i64 r.1]) ∧ Below w.heap.size w w' ∧ SentR ok w' a' c' r.2 := by
 have HG := qh (fun W (hW : SentR ok W sa sc sent) => line_Good ok W next high sa sc sent e hW)
 rw [hg] at HG
 clear hg
 have hmf : ∀ (fn : Fn) (first cap : Array Value) (w : World), (Instr.makeFunc fn first cap).run Tryz.prog w = .ok (.func fn first cap) w := fun _ _ _ _ => rfl
 have HC := qh (fun (W : World) (h : SlR ok W 13 (RSent ok w) sa sc sent) => slices_Clone_Sent ok W sa sc sent hl h)
 unfold lineV at *
 unfold answX at hr
 cases g
 ·rw [if_pos rfl] at hr
  subst hr
  have st := St.start w
  go_enter Tryz.func52, Tryz.ntmps52
  go_wp2_with (first
   | go_skip | (with_reducible refine mB 80 st ?_; clear st; intro g1 w1 hg1 st) | (with_reducible refine mB 3 st ?_; clear st; intro g2 w2 hg2 st) | (with_reducible refine mA st Tryz.zeroValue80 ?_; clear st; intro g3 w3 hg3 st) | (with_reducible refine mXA st Tryz.isAgg80 Tryz.sizeOf80 ?_) | (with_reducible refine mS 2 st Tryz.sizeOf80 ?_; clear st; intro w8 st hw8m hw8z)
   | (go_at_call 78; refine (HG.out _ (SentR.below hR st.below)).mono ?_; rintro r v1 ⟨rfl, hb1⟩; replace st := st.call hb1; clear hb1))
  have hc := fun j => st.cell (i := 2) rfl j
  refine bodyPost_ret (v := _) ?hr rfl ⟨sa, sc, rfl, st.below, SentR.below hR st.below⟩
  case hr => simp [results, Tryz.results52, go_sem, hc, putL]
 ·rw [if_neg (by simp)] at hr
  have st := St.start w
  go_enter Tryz.func52, Tryz.ntmps52
  go_wp2_with (first
   | go_skip | (with_reducible refine mB 80 st ?_; clear st; intro g1 w1 hg1 st) | (with_reducible refine mB 3 st ?_; clear st; intro g2 w2 hg2 st) | (with_reducible refine mA st Tryz.zeroValue80 ?_; clear st; intro g3 w3 hg3 st) | (with_reducible refine mXA st Tryz.isAgg80 Tryz.sizeOf80 ?_) | (with_reducible refine mX st Tryz.isAgg77 ?_)
   | (go_at_call 78; refine (HG.out _ (SentR.below hR st.below)).mono ?_; rintro r v1 ⟨rfl, hb1⟩; replace st := st.call hb1; clear hb1)
   | (go_at_call 80; refine (HC.out _ (SlR.below hR st.below)).mono ?_; rintro r v2 ⟨a2, k2, rfl, hb2, hO2⟩; have z0 := st.size; have z1 := st.ltAt (i := 0) rfl; have z2 := st.ltAt (i := 1) rfl; have z3 := st.ltAt (i := 2) rfl; replace st := st.call hb2)
   | (go_at_call 79; refine (slices_DeleteFunc_Sent (R := RSent ok w) ok _ _ _ _ sent g2 seq hl (fun _ _ h => RSent.keep (.of_below st.below) h) hO2 hb2.size z2 (st.cell (i := 1) rfl 0)).mono ?_; rintro r v3 ⟨rfl, hb3, hS3⟩; replace st := st.callB hb3 z0 (by simp; omega); have st3 := st; replace st := st.rebase; refine RowKit.Hid.out ?_))
  generalize hfs : sent.filter (offSeq seq) = fs at hr hS3
  have hwB := st3.below
  have hh : ∃ k, r = (k, fs) ∧ (k = 4 ∧ fs.length = sent.length ∨ k = 0 ∧ fs.length ≠ sent.length) := by
   by_cases h : fs.length = sent.length
   ·rw [if_pos h] at hr
    refine ⟨4, ?_, .inl ⟨rfl, h⟩⟩
    rw [← hr, ← hfs]
    rw [← hfs] at h
    rw [List.filter_eq_self.2 (List.length_filter_eq_length_iff.1 h)]
   ·rw [if_neg h] at hr
    exact ⟨0, hr.symm, .inr ⟨rfl, h⟩⟩
  obtain ⟨k, rfl, hh⟩ := hh
  clear hr hfs HC hO2 HG
  rcases hh with ⟨rfl, h4⟩ | ⟨rfl, h4⟩
  all_goals
   first | (have dq : ((fs.length : Int) == sent.length) = false := by simp; omega) | (have dq : ((fs.length : Int) == sent.length) = true := by simp; omega)
   clear h4
   refine qh ?_
   go_wp2_with (first | go_skip | (with_reducible refine mS 0 st Tryz.sizeOf77 ?_; clear st; intro w4 st hw4m hw4z) | (with_reducible refine mX st Tryz.isAgg77 ?_) | (with_reducible refine mXA st Tryz.isAgg80 Tryz.sizeOf80 ?_) | (with_reducible refine mS 2 st Tryz.sizeOf80 ?_; clear st; intro w5 st hw5m hw5z))
   have hc := fun j => st.cell (i := 2) rfl j
   have hw := hwB.trans (st.belowB hwB.size (by have m := st3.mine; simp at m; simp; omega))
   refine bodyPost_ret (v := _) ?hr rfl ⟨a2, k2, rfl, hw, ?_⟩
   case hr => simp [results, Tryz.results52, go_sem, hc, putL]
   exact SlR.move hS3 st.size (fun b hb ho => ⟨hok b (by omega), st.frame b hb (by simp; omega)⟩) fun _ _ h => RSent.keep (.of_below hw) h
theorem St.grownNew {M : List Nat} {w0 w w' : World} {own : Blks} {row : Option Nat} (st : St M w0 w own) (hg : w.grownBy w' row) (hrow : ∀ k, row = some k → w0.heap.size ≤ k) (hn : ∀ x ∈ own, row ≠ some x.1) : St M w0 w' own := by
 refine ⟨hg.os.trans st.os, hg.tape.trans st.tape, hg.output.trans st.output, Nat.le_trans st.size hg.size, fun b hb hM => ?_, fun x hx => ?_, st.mine, st.ne⟩
 ·rw [hg.block b (Nat.lt_of_lt_of_le hb st.size) (fun e => by have := hrow _ e.symm; omega), st.frame b hb hM]
 ·rw [hg.block _ (st.lt hx) fun e => hn x hx e.symm]
  exact st.blk x hx
theorem St.comp {M : List Nat} {w0 w1 w2 : World} {own1 own2 : Blks} (h1 : St M w0 w1 own1) (h2 : St M w1 w2 own2) : St M w0 w2 own2 :=
 ⟨h2.os.trans h1.os, h2.tape.trans h1.tape, h2.output.trans h1.output, Nat.le_trans h1.size h2.size, fun b hb hM => (h2.frame b (Nat.lt_of_lt_of_le hb h1.size) hM).trans (h1.frame b hb hM), h2.blk,
  fun x hx => (h2.mine x hx).imp id fun h => Nat.le_trans h1.size h, h2.ne⟩
theorem sentsOk_mem : ∀ {next prev : Int} {l : List Sent}, sentsOk next prev l = true → ∀ s ∈ l, 1 ≤ s.tries ∧ s.tries ≤ 5 ∧ 0 ≤ s.due ∧ s.due ≤ 2199023255552
 | _, _, [], _, _, h => by simp at h
 | next, prev, x :: l, h, s, hs => by
  unfold sentsOk at h
  by_cases hx : sentOk next prev x = true
  ·rw [if_pos hx] at h
   rcases List.mem_cons.1 hs with rfl | hs
   ·simp only [sentOk, decide_eq_true_eq] at hx
    omega
   ·exact sentsOk_mem h s hs
  ·rw [if_neg hx] at h
   simp at h
theorem lineOk_mem {next high : Int} {sent : List Sent} {e : Eight} (h : lineOk ⟨next, sent, high, e⟩ = true) : ∀ s ∈ sent, 1 ≤ s.tries ∧ s.tries ≤ 5 ∧ 0 ≤ s.due ∧ s.due ≤ 2199023255552 := by
 unfold lineOk at h
 by_cases hh : headOk next high sent.length = true
 ·rw [if_pos hh] at h
  exact sentsOk_mem h
 ·rw [if_neg hh] at h
  simp at h
def keepS (now : Int) (s : Sent) : Option Sent := if now < s.due then some s else if s.tries < 5 then some { s with tries := s.tries + 1, due := now + 2 ^ (s.tries + 1).toNat } else none
def outS (now : Int) (s : Sent) : Option Frame := if now < s.due then none else if s.tries < 5 then some s.frame else none
structure AgainX where
 k : Int
 sent : List Sent
 out : List Frame
def againX (g : Bool) (sent : List Sent) (now : Int) : AgainX :=
 if g = false ∨ now < 0 ∨ 1099511627776 < now then ⟨2, sent, []⟩ else ⟨0, sent.filterMap (keepS now), sent.filterMap (outS now)⟩
theorem fm_step {α β : Type} {f : α → Option β} {l : List α} {k : Nat} (h : k < l.length) : (l.take (k + 1)).filterMap f = (l.take k).filterMap f ++ (f l[k]).toList := by
 rw [List.take_succ_eq_append_getElem h, List.filterMap_append]
 cases hx : f l[k] <;> simp [hx]
theorem World.grownBy.ofBelow {w w' : World} (h : Below w.heap.size w w') (row : Option Nat) : w.grownBy w' row := ⟨h.os, h.tape, h.output, h.size, fun k hk _ => h.block k hk⟩
theorem info_Frame : (Tryz.prog.info? 110).map (fun i => (i.zero, i.size, i.bytes)) = some (some (.agg #[.int .i64 0, .int .i64 0, .int .i64 0, .bool false, .int .i64 0, .int .i64 0, .int .i64 0, .slice none 0 0, .slice none 0 0, .string .empty, .slice none 0 0]), 11, 144) := by kernel_rfl
structure Aside (r1 r2 : Option Nat) (w w' : World) : Prop where
 os : w'.os = w.os
 tape : w'.tape = w.tape
 output : w'.output = w.output
 size : w.heap.size ≤ w'.heap.size
 block : ∀ b, b < w.heap.size → r1 ≠ some b → r2 ≠ some b → w'.heap[b]? = w.heap[b]?
theorem Aside.refl (r1 r2 : Option Nat) (w : World) : Aside r1 r2 w w := ⟨rfl, rfl, rfl, Nat.le_refl _, fun _ _ _ _ => rfl⟩
theorem Aside.grown {r1 r2 r : Option Nat} {w w' w'' : World} (h : Aside r1 r2 w w') (hg : w'.grownBy w'' r) (hr : r = none ∨ r = r1 ∨ r = r2) : Aside r1 r2 w w'' :=
 ⟨hg.os.trans h.os, hg.tape.trans h.tape, hg.output.trans h.output, Nat.le_trans h.size hg.size, fun b hb h1 h2 => (hg.block b (Nat.lt_of_lt_of_le hb h.size) (by
  rcases hr with rfl | rfl | rfl
  ·simp
  ·exact fun e => h1 e.symm
  ·exact fun e => h2 e.symm)).trans (h.block b hb h1 h2)⟩
theorem Aside.drew {r1 r2 : Option Nat} {w w' : World} (h : Aside r1 r2 w w') : Aside r1 r2 w w'.drew := h.grown (World.grownBy.ofBelow (Below.refl _ _).drew none) (.inl rfl)
theorem Own.drew {b : Nat} {e : TypeId} {w : World} {α : Type} {sz : Nat} {R : List Value → α → Prop} {a : Option Addr} {c : Nat} {xs : List α} (h : Own b e w sz R a c xs) : Own b e w.drew sz R a c xs := h.below (Below.refl _ _).drew
theorem St.aside {M : List Nat} {w0 w w' : World} {own : Blks} {r1 r2 : Option Nat} (st : St M w0 w own) (ha : Aside r1 r2 w w') (h1 : ∀ k, r1 = some k → w0.heap.size ≤ k) (h2 : ∀ k, r2 = some k → w0.heap.size ≤ k) (h3 : ∀ x ∈ own, r1 ≠ some x.1 ∧ r2 ≠ some x.1) : St M w0 w' own :=
 ⟨ha.os.trans st.os, ha.tape.trans st.tape, ha.output.trans st.output, Nat.le_trans st.size ha.size,
  fun b hb hM => (ha.block b (Nat.lt_of_lt_of_le hb st.size) (fun e => by have := h1 b e; omega) (fun e => by have := h2 b e; omega)).trans (st.frame b hb hM),
  fun x hx => (ha.block x.1 (st.lt hx) (h3 x hx).1 (h3 x hx).2).trans (st.blk x hx), st.mine, st.ne⟩
theorem two_pow {n : Int} (h1 : 1 ≤ n) (h2 : n ≤ 5) : 2 ≤ (2 : Int) ^ n.toNat ∧ (2 : Int) ^ n.toNat ≤ 32 := by
 rcases (show n = 1 ∨ n = 2 ∨ n = 3 ∨ n = 4 ∨ n = 5 by omega) with rfl | rfl | rfl | rfl | rfl <;> decide
theorem line_Again_ok (ok : Nat → Prop) (w : World) (hok : ∀ b, w.heap.size ≤ b → ok b) (next high : Int) (sa : Option Addr) (sc : Nat) (sent : List Sent) (e : Eight) (now : Int) (hR : SentR ok w sa sc sent) (hg : lineOk ⟨next, sent, high, e⟩ = true) (h1 : 0 ≤ now) (h2 : now ≤ 1099511627776) :
  Calls Tryz.prog 57 #[lineV next high sa sent.length sc e, .int .i64 now] w fun v w' => ∃ a' c' a2 c2, v = .returned (.tuple #[lineV next high a' (sent.filterMap (keepS now)).length c' e, .slice a2 (sent.filterMap (outS now)).length c2, .int .i64 0]) ∧ Below w.heap.size w w' ∧ SentR ok w' a' c' (sent.filterMap (keepS now)) ∧ SlR ok w' 11 (RFrame ok w') a2 c2 (sent.filterMap (outS now)) := by
 have hG := fun W (hW : SentR ok W sa sc sent) => line_Good ok W next high sa sc sent e hW
 obtain ⟨b3, b4, b1, b2, b5⟩ := lineOk_high hg
 have hmem := qh (lineOk_mem hg)
 obtain ⟨i0, hi, hz0, hz1, hz2⟩ := info_parts info_Sent
 obtain ⟨j0, ji, jz0, jz1, jz2⟩ := info_parts info_Frame
 rw [hg] at hG
 have HG := qh hG
 clear hG hg
 have d0 : decide (now < 0) = false := by simp; omega
 have d1 : decide (1099511627776 < now) = false := by simp; omega
 have hsl : sent.length ≤ 9223372036854775807 := by omega
 unfold lineV at *
 have st := St.start w
 go_enter Tryz.func57, Tryz.ntmps57
 go_wp2_with (first
  | go_skip | (with_reducible refine mB 80 st ?_; clear st; intro g1 w1 hg1 st) | (with_reducible refine mA st Tryz.zeroValue80 ?_; clear st; intro g2 w2 hg2 st) | (with_reducible refine mXA st Tryz.isAgg80 Tryz.sizeOf80 ?_) | (with_reducible refine mX st Tryz.isAgg77 ?_)
  | (go_at_call 78; refine (HG.out _ (SentR.below hR st.below)).mono ?_; rintro r v1 ⟨rfl, hb1⟩; replace st := st.call hb1; clear hb1))
 have st0 := st
 clear st HG
 have hw5 := st0.below
 have hw5s := hw5.size
 have u1 := st0.ltAt (i := 0) rfl
 have u2 := st0.ltAt (i := 1) rfl
 have m1 := st0.mine _ (mgE (i := 0) rfl)
 have m2 := st0.mine _ (mgE (i := 1) rfl)
 simp at m1 m2
 go_loopw [7, 8, 26] (fun vl vo i wr => ∃ (k : Nat) (o : Option Addr) (c : Nat) (o2 : Option Addr) (c2 : Nat), k ≤ sent.length ∧ i = .int .i64 k ∧ vl = .slice o ((sent.take k).filterMap (keepS now)).length c ∧ vo = .slice o2 ((sent.take k).filterMap (outS now)).length c2 ∧ Own v1.heap.size 148 wr 13 (RSent ok w) o c ((sent.take k).filterMap (keepS now)) ∧ Own v1.heap.size 110 wr 11 (RFrame ok w) o2 c2 ((sent.take k).filterMap (outS now)) ∧ St [g1, g2] v1 wr [(g1, 80, [.int .i64 next, .slice sa sent.length sc, .int .i64 high, .bool e.s0, .bool e.s1, .bool e.s2, .bool e.s3, .bool e.s4, .bool e.s5, .bool e.s6, .bool e.s7]), (g2, 80, [.int .i64 0, .slice none 0 0, .int .i64 0, .bool false, .bool false, .bool false, .bool false, .bool false, .bool false, .bool false, .bool false])]) (fun _ _ i _ => sent.length - (intOf i).toNat)
 case atStart => exact ⟨0, none, 0, none, 0, Nat.zero_le _, rfl, rfl, rfl, Own.nil _ _ _ _ _, Own.nil _ _ _ _ _, st0.rebase⟩
 case round =>
  obtain ⟨k, o, c, o2, c2, hk, rfl, rfl, rfl, hO, hP, st⟩ := hrel
  have hBw : Below w.heap.size w wr := hw5.trans (st.belowB hw5s (by simp; omega))
  by_cases hlt : k < sent.length
  ·obtain ⟨b, o', la, lc, ga, gc, ca, cc, hsa, hb, hA, f0, f1, f2, f3, f4, f5, f6, f7, f8, f9, f10, f11, f12⟩ := SlR.sent_at hR k hlt
   have tr := fun (p : Nat) (v : Option Value) (h : w.cell? ⟨b, p, none⟩ = v) => (hBw.cell (p := ⟨b, p, none⟩) hb).trans h
   replace f0 := tr _ _ f0; replace f1 := tr _ _ f1; replace f2 := tr _ _ f2; replace f3 := tr _ _ f3; replace f4 := tr _ _ f4; replace f5 := tr _ _ f5; replace f6 := tr _ _ f6
   replace f7 := tr _ _ f7; replace f8 := tr _ _ f8; replace f9 := tr _ _ f9; replace f10 := tr _ _ f10; replace f11 := tr _ _ f11; replace f12 := tr _ _ f12
   clear tr
   subst hsa
   obtain ⟨t1, t2, t3, t4⟩ := hmem.out _ (List.getElem_mem hlt)
   have hxl : ((sent.take k).filterMap (keepS now)).length ≤ k := by
    have := List.length_filterMap_le (keepS now) (sent.take k)
    simp at this
    omega
   have hyl : ((sent.take k).filterMap (outS now)).length ≤ k := by
    have := List.length_filterMap_le (outS now) (sent.take k)
    simp at this
    omega
   have ek := qh (fm_step (f := keepS now) hlt)
   have eo := qh (fm_step (f := outS now) hlt)
   generalize hfl : ((sent.take k).filterMap (keepS now)) = fl at hO st hxl ek
   generalize hfo : ((sent.take k).filterMap (outS now)) = fo at hP st hyl eo
   have str := st
   replace st := st.rebase
   by_cases hd : now < sent[k].due
   ·have dd : decide (now < sent[k].due) = true := by simpa using hd
    have ek1 : keepS now sent[k] = some sent[k] := by simp [keepS, hd]
    have eo1 : outS now sent[k] = none := by simp [outS, hd]
    go_wp2_with (first
     | go_skip | (with_reducible refine mA st Tryz.zeroValue148 ?_; clear st; intro g7 w7 hg7 st) | (with_reducible refine mS 2 st Tryz.sizeOf148 ?_; clear st; intro w8 st hw8m hw8z) | (with_reducible refine mX st Tryz.isAgg3 ?_) | (with_reducible refine mXA st Tryz.isAgg148 Tryz.sizeOf148 ?_) | (with_reducible refine at_build1 77 ?_; refine wpList_build1 st (wanted_none rfl) 77 148 _ rfl Tryz.underlying77 13 Tryz.sizeOf148 (by decide) (by decide) _ Tryz.zeroValue148 _ rfl rfl ?_; have stw9 := st; clear st; intro g8 w9 hg8 hg8e st hw9b hw9z; simp [Act.eval, Act.put, Value.cells, putL] at st)
     | (at_builtin; go_must (refine wpList_app1 (wanted_none rfl) _ _ 77 rfl 148 i0 _ 13 160 Tryz.underlying77 hi hz0 hz1 hz2 rfl (by decide) (y := sent[k]) rfl rfl (hO.below (str.below2 st (by simp))) rfl (SlR.ofBlk (ok := fun _ => True) (st.blk _ (mgE (i := 3) rfl)) ⟨la, lc, ga, gc, ca, cc, rfl, hA⟩ rfl rfl trivial) ?_ ?_ ?_ ?_)))
    ·omega
    ·simp [maxLen]; omega
    ·have := st.size; have := str.size; omega
    ·intro g9 c9 w10 hO10 hgr hat hlt10
     have hP10 := (hP.below (str.below2 st (by simp))).aside hgr (fun b e e' => hO.apart hP (by decide) b e' e)
     replace st := (St.comp str st).grownNew hgr (fun b e => (hO.blockLt b e).1) (by intro x hx e; have h1 := hO.blockLt _ e; have h2 := str.size; simp at hx; rcases hx with rfl | rfl | rfl | rfl <;> simp at h1 <;> omega)
     clear hO hP hgr hat str hA f0 f1 f2 f3 f4 f5 f6 f7 f8 f9 f10 f11 f12
     have e1 : (sent.take (k + 1)).filterMap (keepS now) = fl ++ [sent[k]] := by rw [ek.out, ek1]; rfl
     have e2 : (sent.take (k + 1)).filterMap (outS now) = fo := by rw [eo.out, eo1]; simp
     go_wp2
     refine ⟨⟨k + 1, some ⟨g9, 0, none⟩, c9, o2, c2, hlt, by go_num, ?_⟩, ?_⟩
     ·rw [e1, e2]
      refine ⟨by simp, rfl, hO10, hP10, st.sub (by simp) (by have := st.ne; simp at this; simp [this])⟩
     ·simp [intOf]; omega
   ·have dd : decide (now < sent[k].due) = false := by simpa using hd
    by_cases h5 : sent[k].tries < 5
    ·have d5 : decide (sent[k].tries < 5) = true := by simpa using h5
     have hwt := fun W => line_wait (sent[k].tries + 1) W (by omega) (by omega)
     have ek1 : keepS now sent[k] = some { sent[k] with tries := sent[k].tries + 1, due := now + 2 ^ (sent[k].tries + 1).toNat } := by simp [keepS, hd, h5]
     have eo1 : outS now sent[k] = some sent[k].frame := by simp [outS, hd, h5]
     obtain ⟨p1, p2⟩ := two_pow (n := sent[k].tries + 1) (by omega) (by omega)
     generalize (2 : Int) ^ (sent[k].tries + 1).toNat = p at hwt ek1 p1 p2
     go_wp2_with (first | go_skip | (with_reducible refine mA st Tryz.zeroValue148 ?_; clear st; intro g7 w7 hg7 st) | (with_reducible refine mS 2 st Tryz.sizeOf148 ?_; clear st; intro w8 st hw8m hw8z) | (with_reducible refine mX st Tryz.isAgg3 ?_) | (with_reducible refine mS 2 st Tryz.sizeOf3 ?_; clear st; intro w9 st hw9m hw9z) | (go_at_call 85; refine (hwt _).mono ?_; rintro r v2 ⟨rfl, rfl⟩))
     have hB9 := str.below2 st (by simp)
     have hB9s := hB9.size
     have strs := str.size
     have hO9 := hO.below hB9
     have hP9 := hP.below hB9
     have hor : ∀ q, o.map (·.block) = some q → v1.heap.size ≤ q ∧ q < wr.heap.size := hO.blockLt
     have hpr : ∀ q, o2.map (·.block) = some q → v1.heap.size ≤ q ∧ q < wr.heap.size := hP.blockLt
     have hap := hO.apart hP (by decide)
     have l7 := st.ltAt (i := 2) rfl
     have m7 := st.mine _ (mgE (i := 2) rfl)
     simp at m7
     have n7 : wr.heap.size ≤ g7 := by
      have hne := st.ne
      simp at hne
      rcases m7 with h | h
      ·rcases h with h | h
       ·exact absurd h.symm hne.1.2
       ·exact absurd h.symm hne.2
      ·exact h
     have st9 := St.comp str st
     have hrel : ∀ (i : Nat) q, (if i = 3 then o.map (·.block) else if i = 8 then o2.map (·.block) else none) = some q → q < wr.heap.size := by
      intro i q hq
      split at hq
      ·exact (hor q hq).2
      ·split at hq
       ·exact (hpr q hq).2
       ·simp at hq
     have hside : ∀ {W : World}, Aside (o.map (·.block)) (o2.map (·.block)) w9 W → St [g1, g2] v1 W [(g1, 80, [.int .i64 next, .slice (some ⟨b, o', none⟩) sent.length sc, .int .i64 high, .bool e.s0, .bool e.s1, .bool e.s2, .bool e.s3, .bool e.s4, .bool e.s5, .bool e.s6, .bool e.s7]), (g2, 80, [.int .i64 0, .slice none 0 0, .int .i64 0, .bool false, .bool false, .bool false, .bool false, .bool false, .bool false, .bool false, .bool false]), (g7, 148, [.int .i64 sent[k].frame.src, .int .i64 sent[k].frame.dst, .int .i64 sent[k].frame.seq, .bool sent[k].frame.ack, .int .i64 sent[k].frame.thread, .int .i64 sent[k].frame.mail.host, .int .i64 sent[k].frame.mail.thread, .slice la sent[k].frame.mail.label.length lc, .slice ga sent[k].frame.mail.grants.length gc, .string sent[k].frame.mail.text, .slice ca sent[k].frame.certs.length cc, .int .i64 (sent[k].tries + 1), .int .i64 (now + p)])] := fun ha => st9.aside ha (fun q h => (hor q h).1) (fun q h => (hpr q h).1) (by
      intro x hx
      simp at hx
      rcases hx with rfl | rfl | rfl <;> exact ⟨fun e => by have := hor _ e; simp at this; omega, fun e => by have := hpr _ e; simp at this; omega⟩)
     have hgb : ∀ {W W' : World} (i : Nat), Below W.heap.size W W' → W.grownBy W' (if i = 3 then o.map (·.block) else if i = 8 then o2.map (·.block) else none) := fun i h => World.grownBy.ofBelow h _
     simp only [kP, kA, kS, kZ]
     refine wp_region_done (by kernel_rfl) [(0, some 53), (1, some 54), (2, some 55), (3, some 56), (4, some 57), (5, some 58), (6, some 59), (7, some 60), (8, some 61)] [0, 1, 2, 3, 4, 5, 6, 7, 8] rfl 2 (by decide +kernel) rfl (fun i (_ : Unit) W _ W' => W.grownBy W' (if i = 3 then o.map (·.block) else if i = 8 then o2.map (·.block) else none)) (fun i v _ W => match i with
      | 0 => v = .slice o fl.length c
      | 1 => v = .agg #[.int .i64 sent[k].frame.src, .int .i64 sent[k].frame.dst, .int .i64 sent[k].frame.seq, .bool sent[k].frame.ack, .int .i64 sent[k].frame.thread, .int .i64 sent[k].frame.mail.host, .int .i64 sent[k].frame.mail.thread, .slice la sent[k].frame.mail.label.length lc, .slice ga sent[k].frame.mail.grants.length gc, .string sent[k].frame.mail.text, .slice ca sent[k].frame.certs.length cc, .int .i64 (sent[k].tries + 1), .int .i64 (now + p)]
      | 2 => ∃ q, v = .slice (some ⟨q, 0, none⟩) 1 1 ∧ w9.heap.size ≤ q ∧ W.heap[q]? = some (.cells #[.int .i64 sent[k].frame.src, .int .i64 sent[k].frame.dst, .int .i64 sent[k].frame.seq, .bool sent[k].frame.ack, .int .i64 sent[k].frame.thread, .int .i64 sent[k].frame.mail.host, .int .i64 sent[k].frame.mail.thread, .slice la sent[k].frame.mail.label.length lc, .slice ga sent[k].frame.mail.grants.length gc, .string sent[k].frame.mail.text, .slice ca sent[k].frame.certs.length cc, .int .i64 (sent[k].tries + 1), .int .i64 (now + p)] 148 (0, 0))
      | 3 => ∃ g c', v = .slice (some ⟨g, 0, none⟩) (fl.length + 1) c' ∧ Own v1.heap.size 148 W 13 (RSent ok w) (some ⟨g, 0, none⟩) c' (fl ++ [{ sent[k] with tries := sent[k].tries + 1, due := now + p }]) ∧ (o.map (·.block) = some g ∨ w9.heap.size ≤ g)
      | 4 => v = .slice o2 fo.length c2
      | 5 => v = .pointer (some ⟨g7, 0, none⟩)
      | 6 => v = .agg #[.int .i64 sent[k].frame.src, .int .i64 sent[k].frame.dst, .int .i64 sent[k].frame.seq, .bool sent[k].frame.ack, .int .i64 sent[k].frame.thread, .int .i64 sent[k].frame.mail.host, .int .i64 sent[k].frame.mail.thread, .slice la sent[k].frame.mail.label.length lc, .slice ga sent[k].frame.mail.grants.length gc, .string sent[k].frame.mail.text, .slice ca sent[k].frame.certs.length cc]
      | 7 => ∃ q, v = .slice (some ⟨q, 0, none⟩) 1 1 ∧ w9.heap.size ≤ q ∧ W.heap[q]? = some (.cells #[.int .i64 sent[k].frame.src, .int .i64 sent[k].frame.dst, .int .i64 sent[k].frame.seq, .bool sent[k].frame.ack, .int .i64 sent[k].frame.thread, .int .i64 sent[k].frame.mail.host, .int .i64 sent[k].frame.mail.thread, .slice la sent[k].frame.mail.label.length lc, .slice ga sent[k].frame.mail.grants.length gc, .string sent[k].frame.mail.text, .slice ca sent[k].frame.certs.length cc] 110 (0, 0))
      | _ => ∃ g c', v = .slice (some ⟨g, 0, none⟩) (fo.length + 1) c' ∧ Own v1.heap.size 110 W 11 (RFrame ok w) (some ⟨g, 0, none⟩) c' (fo ++ [sent[k].frame]) ∧ (o2.map (·.block) = some g ∨ w9.heap.size ≤ g))
      (fun L _ W => (3 ∉ L → Own v1.heap.size 148 W 13 (RSent ok w) o c fl) ∧ (8 ∉ L → Own v1.heap.size 110 W 11 (RFrame ok w) o2 c2 fo) ∧ Aside (o.map (·.block)) (o2.map (·.block)) w9 W) () ⟨fun _ => hO9.drew, fun _ => hP9.drew, (Aside.refl _ _ _).drew⟩ ?mono ?step ?fin
     case mono =>
      intro i j v _ W _ W' hi hj hne hp hr h
      have hkeep : ∀ q, w9.heap.size ≤ q → ∀ {x}, W.heap[q]? = some x → W'.heap[q]? = some x := fun q hq x hx => (hr.block q (Array.getElem?_eq_some_iff.1 hx).1 (fun e => by have := hrel j q e.symm; omega)).trans hx
      have hO3 : j ≠ 3 → ∀ {v : Value}, (∃ g c', v = .slice (some ⟨g, 0, none⟩) (fl.length + 1) c' ∧ Own v1.heap.size 148 W 13 (RSent ok w) (some ⟨g, 0, none⟩) c' (fl ++ [{ sent[k] with tries := sent[k].tries + 1, due := now + p }]) ∧ (o.map (·.block) = some g ∨ w9.heap.size ≤ g)) → (∃ g c', v = .slice (some ⟨g, 0, none⟩) (fl.length + 1) c' ∧ Own v1.heap.size 148 W' 13 (RSent ok w) (some ⟨g, 0, none⟩) c' (fl ++ [{ sent[k] with tries := sent[k].tries + 1, due := now + p }]) ∧ (o.map (·.block) = some g ∨ w9.heap.size ≤ g)) := by
       rintro hj3 v ⟨q, c', e, h1, h2⟩
       refine ⟨q, c', e, h1.aside hr fun q' e1 e2 => ?_, h2⟩
       simp at e1
       subst e1
       rw [if_neg hj3] at e2
       split at e2
       ·rcases h2 with h2 | h2
        ·exact hap _ h2 e2
        ·have := hpr _ e2; omega
       ·simp at e2
      have hO8 : j ≠ 8 → ∀ {v : Value}, (∃ g c', v = .slice (some ⟨g, 0, none⟩) (fo.length + 1) c' ∧ Own v1.heap.size 110 W 11 (RFrame ok w) (some ⟨g, 0, none⟩) c' (fo ++ [sent[k].frame]) ∧ (o2.map (·.block) = some g ∨ w9.heap.size ≤ g)) → (∃ g c', v = .slice (some ⟨g, 0, none⟩) (fo.length + 1) c' ∧ Own v1.heap.size 110 W' 11 (RFrame ok w) (some ⟨g, 0, none⟩) c' (fo ++ [sent[k].frame]) ∧ (o2.map (·.block) = some g ∨ w9.heap.size ≤ g)) := by
       rintro hj8 v ⟨q, c', e, h1, h2⟩
       refine ⟨q, c', e, h1.aside hr fun q' e1 e2 => ?_, h2⟩
       simp at e1
       subst e1
       split at e2
       ·rcases h2 with h2 | h2
        ·exact hap _ e2 h2
        ·have := hor _ e2; omega
       ·first | (rw [if_neg hj8] at e2; simp at e2) | simp at e2
      simp only [List.mem_cons, List.not_mem_nil, or_false] at hi
      rcases hi with rfl | rfl | rfl | rfl | rfl | rfl | rfl | rfl | rfl
      ·exact h
      ·exact h
      ·obtain ⟨q, e, h1, h2⟩ := h; exact ⟨q, e, h1, hkeep q h1 h2⟩
      ·exact hO3 hne.symm h
      ·exact h
      ·exact h
      ·exact h
      ·obtain ⟨q, e, h1, h2⟩ := h; exact ⟨q, e, h1, hkeep q h1 h2⟩
      ·exact hO8 hne.symm h
     case step =>
      intro i t hi' L x _ W hnd hL hI hp K hK
      obtain ⟨hI1, hI2, hI3⟩ := hI
      have stW := hside hI3
      have hWs := hI3.size
      simp only [List.mem_cons, List.not_mem_nil, or_false, Prod.mk.injEq] at hi'
      rcases hi' with ⟨rfl, rfl⟩ | ⟨rfl, rfl⟩ | ⟨rfl, rfl⟩ | ⟨rfl, rfl⟩ | ⟨rfl, rfl⟩ | ⟨rfl, rfl⟩ | ⟨rfl, rfl⟩ | ⟨rfl, rfl⟩ | ⟨rfl, rfl⟩
      all_goals simp only [putAll, Act.put, List.setIfInBounds_toArray, List.set_cons_succ, List.set_cons_zero] at hK ⊢
      all_goals refine wpOp_at rfl rfl ?_
      ·exact wp_value (v := .slice o fl.length c) (by go_simp) (hK _ () _ (hgb 0 (Below.refl _ _)) ⟨fun h => hI1 (fun h' => h (List.mem_cons_of_mem _ h')), fun h => hI2 (fun h' => h (List.mem_cons_of_mem _ h')), hI3⟩ rfl)
      ·exact wp_load_agg' stW 148 _ rfl Tryz.isAgg148 _ Tryz.sizeOf148 ⟨2, g7, 0, _, _, _, rfl, rfl, rfl, rfl, hK _ () _ (hgb 1 (Below.refl _ _)) ⟨fun h => hI1 (fun h' => h (List.mem_cons_of_mem _ h')), fun h => hI2 (fun h' => h (List.mem_cons_of_mem _ h')), hI3⟩ rfl⟩
      ·have p1 : x 1 = _ := hp 1 (by decide +kernel)
       simp only [p1] at hK ⊢
       exact wp_build1 (St.start W) 77 148 _ rfl Tryz.underlying77 13 Tryz.sizeOf148 (by decide) (by decide) _ Tryz.zeroValue148 _ rfl rfl fun q W' h1 h2 h3 h4 h5 =>
        hK _ () _ (hgb 2 h4) ⟨fun h => (hI1 (fun h' => h (List.mem_cons_of_mem _ h'))).below h4, fun h => (hI2 (fun h' => h (List.mem_cons_of_mem _ h'))).below h4, hI3.grown (World.grownBy.ofBelow h4 none) (.inl rfl)⟩ ⟨q, rfl, by omega, h3.blk _ (mgE (i := 0) rfl)⟩
      ·have p0 : x 0 = _ := hp 0 (by decide +kernel)
       obtain ⟨q, p2, hq, hqb⟩ := hp 2 (by decide +kernel)
       refine wp_app1 _ _ 77 rfl 148 i0 _ 13 160 Tryz.underlying77 hi hz0 hz1 hz2 rfl (by decide) (y := ({ sent[k] with tries := sent[k].tries + 1, due := now + p } : Sent)) p0 rfl (hI1 hnd) p2 (SlR.ofBlk (ok := fun _ => True) hqb ⟨la, lc, ga, gc, ca, cc, rfl, hA⟩ rfl rfl trivial) (by omega) (by unfold maxLen; omega) (by omega) ?_
       intro g9 c9 W' hO' hgr hat hlt9
       exact hK _ () _ hgr ⟨fun h => absurd (List.mem_cons_self ..) h, fun h => (hI2 (fun h' => h (List.mem_cons_of_mem _ h'))).aside hgr fun q h1 h2 => hap q h2 h1, hI3.grown hgr (.inr (.inl rfl))⟩ ⟨g9, c9, rfl, hO', hat.imp id fun h => by omega⟩
      ·exact wp_value (v := .slice o2 fo.length c2) (by go_simp) (hK _ () _ (hgb 4 (Below.refl _ _)) ⟨fun h => hI1 (fun h' => h (List.mem_cons_of_mem _ h')), fun h => hI2 (fun h' => h (List.mem_cons_of_mem _ h')), hI3⟩ rfl)
      ·exact wp_value (v := .pointer (some ⟨g7, 0, none⟩)) (by go_simp) (hK _ () _ (hgb 5 (Below.refl _ _)) ⟨fun h => hI1 (fun h' => h (List.mem_cons_of_mem _ h')), fun h => hI2 (fun h' => h (List.mem_cons_of_mem _ h')), hI3⟩ rfl)
      ·have p5 : x 5 = _ := hp 5 (by decide +kernel)
       exact wp_load_agg' stW 110 _ rfl Tryz.isAgg110 _ Tryz.sizeOf110 ⟨2, g7, 0, _, _, _, p5, rfl, rfl, rfl, hK _ () _ (hgb 6 (Below.refl _ _)) ⟨fun h => hI1 (fun h' => h (List.mem_cons_of_mem _ h')), fun h => hI2 (fun h' => h (List.mem_cons_of_mem _ h')), hI3⟩ rfl⟩
      ·have p6 : x 6 = _ := hp 6 (by decide +kernel)
       simp only [p6] at hK ⊢
       exact wp_build1 (St.start W) 118 110 _ rfl Tryz.underlying118 11 Tryz.sizeOf110 (by decide) (by decide) _ Tryz.zeroValue110 _ rfl rfl fun q W' h1 h2 h3 h4 h5 =>
        hK _ () _ (hgb 7 h4) ⟨fun h => (hI1 (fun h' => h (List.mem_cons_of_mem _ h'))).below h4, fun h => (hI2 (fun h' => h (List.mem_cons_of_mem _ h'))).below h4, hI3.grown (World.grownBy.ofBelow h4 none) (.inl rfl)⟩ ⟨q, rfl, by omega, h3.blk _ (mgE (i := 0) rfl)⟩
      ·have p4 : x 4 = _ := hp 4 (by decide +kernel)
       obtain ⟨q, p7, hq, hqb⟩ := hp 7 (by decide +kernel)
       refine wp_app1 _ _ 118 rfl 110 j0 _ 11 144 Tryz.underlying118 ji jz0 jz1 jz2 rfl (by decide) (y := sent[k].frame) p4 rfl (hI2 hnd) p7 (SlR.ofBlk (ok := fun _ => True) hqb ⟨la, lc, ga, gc, ca, cc, rfl, hA⟩ rfl rfl trivial) (by omega) (by unfold maxLen; omega) (by omega) ?_
       intro g9 c9 W' hO' hgr hat hlt9
       exact hK _ () _ hgr ⟨fun h => (hI1 (fun h' => h (List.mem_cons_of_mem _ h'))).aside hgr fun q h1 h2 => hap q h1 h2, fun h => absurd (List.mem_cons_self ..) h, hI3.grown hgr (.inr (.inr rfl))⟩ ⟨g9, c9, rfl, hO', hat.imp id fun h => by omega⟩
     case fin =>
      intro L x _ W _ hI hG
      obtain ⟨_, _, hI3⟩ := hI
      obtain ⟨q1, c1', p9, hO', _⟩ := hG 3 (by simp)
      obtain ⟨q2, c2', p10, hP', _⟩ := hG 8 (by simp)
      have stW := hside hI3
      simp only [putAll, Act.put, List.setIfInBounds_toArray, List.set_cons_succ, List.set_cons_zero, p9, p10]
      refine wpAny_at (i := 9) rfl rfl (by decide +kernel) fun K hK => ?_
      refine wp_value (w' := W) (v := .slice (some ⟨q1, 0, none⟩) (fl.length + 1) c1') (by go_simp) (hK _ _ ?_)
      clear hK
      simp only [kP, kA, kS, kZ]
      refine wpAny_at (i := 10) rfl rfl (by decide +kernel) fun K hK => ?_
      refine wp_value (w' := W) (v := .slice (some ⟨q2, 0, none⟩) (fo.length + 1) c2') (by go_simp) (hK _ _ ?_)
      clear hK
      simp only [kP, kA, kS, kZ]
      refine wpAny_done (by decide +kernel) ?_ 0
      have e1 : (sent.take (k + 1)).filterMap (keepS now) = fl ++ [{ sent[k] with tries := sent[k].tries + 1, due := now + p }] := by rw [ek.out, ek1]; rfl
      have e2 : (sent.take (k + 1)).filterMap (outS now) = fo ++ [sent[k].frame] := by rw [eo.out, eo1]; rfl
      clear hI3 hG hO hP hO9 hP9 str st st9 hside hA f0 f1 f2 f3 f4 f5 f6 f7 f8 f9 f10 f11 f12
      go_wp2
      refine ⟨⟨k + 1, some ⟨q1, 0, none⟩, c1', some ⟨q2, 0, none⟩, c2', hlt, by go_num, ?_⟩, ?_⟩
      ·rw [e1, e2]
       refine ⟨by simp, by simp, hO', hP', stW.sub (by simp) (by have := stW.ne; simp at this; simp [this])⟩
      ·simp [intOf]; omega
    ·have d5 : decide (sent[k].tries < 5) = false := by simpa using h5
     have ek1 : keepS now sent[k] = none := by simp [keepS, hd, h5]
     have eo1 : outS now sent[k] = none := by simp [outS, hd, h5]
     have e1 : (sent.take (k + 1)).filterMap (keepS now) = fl := by rw [ek.out, ek1]; simp
     have e2 : (sent.take (k + 1)).filterMap (outS now) = fo := by rw [eo.out, eo1]; simp
     go_wp2_with (first | go_skip | (with_reducible refine mA st Tryz.zeroValue148 ?_; clear st; intro g7 w7 hg7 st) | (with_reducible refine mS 2 st Tryz.sizeOf148 ?_; clear st; intro w8 st hw8m hw8z) | (with_reducible refine mX st Tryz.isAgg3 ?_))
     have hB := str.below2 st (by simp)
     refine ⟨⟨k + 1, o, c, o2, c2, hlt, by go_num, ?_⟩, ?_⟩
     ·rw [e1, e2]
      refine ⟨rfl, rfl, hO.below hB, hP.below hB, (St.comp str st).sub (by simp) (by have := str.ne; simp at this; simp [this])⟩
     ·simp [intOf]; omega
  ·obtain rfl : k = sent.length := by omega
   rw [List.take_length] at hO hP
   simp only [List.take_length]
   have hS := hO.slr (ok := fun b => v1.heap.size ≤ b) fun _ h => h
   have hT := hP.slr (ok := fun b => v1.heap.size ≤ b) fun _ h => h
   clear hO hP hmem
   have str := st
   replace st := st.rebase
   go_wp2_with (first | go_skip | (with_reducible refine mS 0 st Tryz.sizeOf77 ?_; clear st; intro w8 st hw8m hw8z) | (with_reducible refine mXA st Tryz.isAgg80 Tryz.sizeOf80 ?_) | (with_reducible refine mS 1 st Tryz.sizeOf80 ?_; clear st; intro w9 st hw9m hw9z))
   have hc := fun j => st.cell (i := 1) rfl j
   have hw := hBw.trans (st.belowB hBw.size (by simp; omega))
   have hmv : ∀ b, b < wr.heap.size → v1.heap.size ≤ b → ok b ∧ w9.heap[b]? = wr.heap[b]? := fun b hb ho => ⟨hok b (by omega), st.frame b hb (by simp; omega)⟩
   refine bodyPost_ret (v := _) ?hr rfl ⟨o, c, o2, c2, rfl, hw, ?_, ?_⟩
   case hr => simp [results, Tryz.results57, go_sem, hc, putL]
   ·exact SlR.move hS st.size hmv fun _ _ h => RSent.keep (.of_below hw) h
   ·exact SlR.move hT st.size hmv fun _ _ h => RFrame.keep (.of_below hw) h
open Go.Maps (Keyed IsMap)
section
variable {P : Program} {k e t : TypeId} {w w' : World} {b n : Nat} {f : Lit → Bool}
def MapB (P : Program) (k e : TypeId) (w : World) (b n : Nat) (f : Lit → Bool) : Prop :=
 ∃ D : DataW Unit, w.ownsMap P k (plainElem P e) b n D ∧ IsMap D ∧ ∀ kl, WideAt.IsKeyLit kl → D.atKey kl (.lit (.bool false)) = .lit (.bool (f kl))
theorem MapB.made (P : Program) (k e : TypeId) (w : World) : MapB P k e (w.alloc (.map #[] 0)) w.heap.size 0 fun _ => false :=
 ⟨.map [], World.ownsMap_made w P k _, Maps.isMap_empty, fun _ _ => rfl⟩
theorem MapB.kept {row : Option Nat} (h : MapB P k e w b n f) (hg : w.grownBy w' row) (hne : row ≠ some b) : MapB P k e w' b n f := by
 obtain ⟨D, h1, h2⟩ := h
 exact ⟨D, h1.kept hg fun e => hne e.symm, h2⟩
theorem MapB.below (h : MapB P k e w b n f) (hb : Below w.heap.size w w') : MapB P k e w' b n f := h.kept (World.grownBy.ofBelow hb none) (by simp)
theorem MapB.lt (h : MapB P k e w b n f) : b < w.heap.size := by
 obtain ⟨D, h1, _⟩ := h
 exact h1.lt
theorem MapB.block (h : MapB P k e w b n f) (hs : w.heap.size ≤ w'.heap.size) (hb : w'.heap[b]? = w.heap[b]?) : MapB P k e w' b n f := by
 obtain ⟨D, ⟨es, clock, h1, h2⟩, h3⟩ := h
 exact ⟨D, ⟨es, clock, hb.trans h1, h2⟩, h3⟩
variable {ops : Array Oper} {rest : List Oper} {o : Oper} {A : Act} {Q : Exit → Act → World → Prop} {K' : Act → World → Prop}
end
theorem St.map {M : List Nat} {w0 w w' : World} {own : Blks} {b : Nat} (st : St M w0 w own) (hg : w.grownBy w' (some b)) (hb : w0.heap.size ≤ b) (hn : ∀ x ∈ own, x.1 ≠ b) : St M w0 w' own :=
 st.grownNew hg (fun k e => by simp at e; omega) fun x hx e => hn x hx (by simpa using e.symm)
theorem St.back {M : List Nat} {a w0 w : World} {own0 own : Blks} (h0 : St M a w0 own0) (h : St (own0.map (·.1)) w0 w own) : St M a w own := by
 refine ⟨h.os.trans h0.os, h.tape.trans h0.tape, h.output.trans h0.output, Nat.le_trans h0.size h.size, fun b hb hM => ?_, h.blk, fun x hx => ?_, h.ne⟩
 ·refine (h.frame b (Nat.lt_of_lt_of_le hb h0.size) fun hm => ?_).trans (h0.frame b hb hM)
  obtain ⟨x, hx, rfl⟩ := List.mem_map.1 hm
  rcases h0.mine x hx with h1 | h1
  ·exact hM h1
  ·omega
 ·rcases h.mine x hx with h1 | h1
  ·obtain ⟨y, hy, e⟩ := List.mem_map.1 h1
   rw [← e]
   exact h0.mine y hy
  ·exact .inr (Nat.le_trans h0.size h1)
theorem Eight.get_of (f : Nat → Bool) {j : Nat} (h : j < 8) : (Eight.of f).get j = f j := by
 match j, h with
 | 0, _ => rfl
 | 1, _ => rfl
 | 2, _ => rfl
 | 3, _ => rfl
 | 4, _ => rfl
 | 5, _ => rfl
 | 6, _ => rfl
 | 7, _ => rfl
def OnceInv (good : Bool) (high : Int) (e : Eight) (f : Lit → Bool) : Prop :=
 ∀ x : Int, f (.int .i64 x) = true → good = true ∧ 1 ≤ x ∧ x ≤ high ∧ (high - 8 < x → e.get (high - x).toNat = true)
structure TurnInv (left : List Int) (high : Int) (e : Eight) : Prop where
 nd : left.Nodup
 rng : ∀ x ∈ left, 1 ≤ x ∧ x ≤ 8
 lo : 0 ≤ high
 hi : high ≤ 8
 yes : ∀ x, 1 ≤ x → x ≤ 8 → x ∉ left → x ≤ high ∧ e.get (high - x).toNat = true
 no : ∀ x ∈ left, x ≤ high → e.get (high - x).toNat = false
theorem TurnInv.start : TurnInv [1, 2, 3, 4, 5, 6, 7, 8] 0 ⟨false, false, false, false, false, false, false, false⟩ := by
 refine ⟨by decide, by decide, by decide, by decide, fun x h1 h2 h3 => ?_, fun x h1 h2 => ?_⟩
 ·exfalso
  apply h3
  rcases (show x = 1 ∨ x = 2 ∨ x = 3 ∨ x = 4 ∨ x = 5 ∨ x = 6 ∨ x = 7 ∨ x = 8 by omega) with rfl | rfl | rfl | rfl | rfl | rfl | rfl | rfl <;> decide
 ·have : ∀ x ∈ [1, 2, 3, 4, 5, 6, 7, (8 : Int)], 1 ≤ x := by decide
  have := this x h1
  omega
theorem TurnInv.done {high : Int} {e : Eight} (h : TurnInv [] high e) : high = 8 := by
 have := (h.yes 8 (by omega) (by omega) (by simp)).1
 have := h.hi
 omega
theorem SlR.take {ok : Nat → Prop} {w : World} {α : Type} {sz : Nat} {R : List Value → α → Prop} {a : Option Addr} {c : Nat} {xs : List α} (h : SlR ok w sz R a c xs) (k : Nat) : SlR ok w sz R a c (xs.take k) := by
 refine ⟨Nat.le_trans (by simp; omega) h.1, h.2.1, h.2.2.1, fun i x hx => h.2.2.2 i x ?_⟩
 rw [List.getElem?_take] at hx
 split at hx
 ·exact hx
 ·cases hx
theorem SlR.drop {ok : Nat → Prop} {w : World} {α : Type} {sz : Nat} {R : List Value → α → Prop} {b o c : Nat} {xs : List α} (h : SlR ok w sz R (some ⟨b, o, none⟩) c xs) (k : Nat) : SlR ok w sz R (some ⟨b, o + k * sz, none⟩) (c - k) (xs.drop k) := by
 refine ⟨by have := h.1; simp; omega, by have := h.2.1; omega, by simp, fun i x hx => ?_⟩
 rw [List.getElem?_drop] at hx
 obtain ⟨b', o', cs, ha, h1, h2, h3, h4, h5, h6⟩ := h.2.2.2 (k + i) x hx
 simp at ha
 obtain ⟨rfl, rfl⟩ := ha
 refine ⟨b, o + k * sz, cs, rfl, h1, h2, h3, h4, h5, fun j v hv => ?_⟩
 rw [← h6 j v hv]
 congr 2
 rw [Nat.add_mul]
 omega
def Queue (base : Nat) (e : TypeId) (w : World) {α : Type} (sz : Nat) (R : List Value → α → Prop) (a : Option Addr) (c : Nat) (xs : List α) : Prop :=
 SlR (fun b => base ≤ b) w sz R a c xs ∧ (0 < c → ∃ g off cur, a = some ⟨g, off, none⟩ ∧ base ≤ g ∧ w.heap[g]? = some (.cells cur e (0, 0)) ∧ off + c * sz ≤ cur.size)
section
variable {base : Nat} {e : TypeId} {w w' : World} {α : Type} {sz : Nat} {R : List Value → α → Prop} {a : Option Addr} {c : Nat} {xs : List α}
theorem putL_at : ∀ {vs cs : List Value} {o j : Nat} {v : Value}, o + vs.length ≤ cs.length → vs[j]? = some v → (putL cs o vs)[o + j]? = some v := by
 intro vs
 induction vs with
 | nil => intro cs o j v _ h; simp at h
 | cons u vs ih =>
  intro cs o j v hl hj
  rw [putL_cons]
  cases j with
  | zero =>
   simp at hj
   subst hj
   simp only [List.length_cons] at hl
   rw [putL_before (by omega)]
   show (cs.set o u)[o]? = some u
   rw [List.getElem?_set_self (by omega)]
  | succ j =>
   have := ih (cs := cs.set o u) (o := o + 1) (j := j) (v := v) (by simp at hl ⊢; omega) (by simpa using hj)
   rw [← this]
   congr 1
   omega
theorem Queue.slr (h : Queue base e w sz R a c xs) : SlR (fun b => base ≤ b) w sz R a c xs := h.1
theorem Queue.move (h : Queue base e w sz R a c xs) (hs : w.heap.size ≤ w'.heap.size) (hk : ∀ b, base ≤ b → b < w.heap.size → w'.heap[b]? = w.heap[b]?) : Queue base e w' sz R a c xs := by
 refine ⟨h.1.keep ⟨hs, fun b hb ho => hk b ho hb⟩, fun hc => ?_⟩
 obtain ⟨g, off, cur, h1, h2, h3, h4⟩ := h.2 hc
 exact ⟨g, off, cur, h1, h2, by rw [hk g h2 (Array.getElem?_eq_some_iff.1 h3).1]; exact h3, h4⟩
theorem Queue.below (h : Queue base e w sz R a c xs) (hb : Below w.heap.size w w') : Queue base e w' sz R a c xs := h.move hb.size fun b _ hb' => hb.block b hb'
theorem Queue.ofBlk {g : Nat} {cs : List Value} {x : α} (h : w.heap[g]? = some (.cells cs.toArray e (0, 0))) (hR : R cs x) (hl : cs.length = sz) (h1 : cs.all Value.oneCell' = true) (hb : base ≤ g) : Queue base e w sz R (some ⟨g, 0, none⟩) 1 [x] :=
 ⟨SlR.ofBlk h hR hl h1 hb, fun _ => ⟨g, 0, cs.toArray, rfl, hb, h, by simp; omega⟩⟩
theorem Queue.ofOwn {b : Nat} (h : Own b e w sz R a c xs) (hb : base ≤ b) : Queue base e w sz R a c xs := by
 refine ⟨h.slr fun k hk => Nat.le_trans hb hk, fun hc => ?_⟩
 obtain ⟨css, _, _, _, h4⟩ := h
 rcases h4.2 with ⟨hv, _⟩ | ⟨g, cap, cur, hv, hg, hh, _, _, hs, _⟩
 ·simp only [Value.slice.injEq] at hv
  omega
 ·simp only [Value.slice.injEq] at hv
  obtain ⟨rfl, _, rfl⟩ := hv
  exact ⟨g, 0, cur, rfl, by omega, hh, by omega⟩
theorem Queue.tail {g off : Nat} {x : α} (h : Queue base e w sz R (some ⟨g, off, none⟩) c (x :: xs)) : Queue base e w sz R (some ⟨g, off + sz, none⟩) (c - 1) xs := by
 refine ⟨by have := h.1.drop 1; simpa using this, fun hc => ?_⟩
 obtain ⟨g', off', cur, h1, h2, h3, h4⟩ := h.2 (by omega)
 simp only [Option.some.injEq, Addr.mk.injEq, and_true] at h1
 obtain ⟨rfl, rfl⟩ := h1
 refine ⟨g, off + sz, cur, rfl, h2, h3, ?_⟩
 have : c * sz = sz + (c - 1) * sz := by
  obtain ⟨k, rfl⟩ : ∃ k, c = k + 1 := ⟨c - 1, by omega⟩
  rw [Nat.add_sub_cancel, Nat.add_mul]; omega
 omega
theorem Queue.none_left (a : Option Addr) : Queue base e w sz R a 0 ([] : List α) :=
 ⟨⟨Nat.le_refl _, Nat.zero_le _, fun _ => rfl, fun i x hx => by simp at hx⟩, fun h => absurd h (Nat.lt_irrefl 0)⟩
end
theorem wp_appQ {P : Program} {w : World} {o : Oper} {A : Act} {Q : Exit → Act → World → Prop} {K : Act → World → Prop} (s x : Operand) (t : TypeId)
  (ho : o.op = .call { callee := .builtin .append, args := #[s, x], argTypes := #[t, t] })
  (e : TypeId) (i : TypeInfo) (z : Value) (sz bytes : Nat) (ht : P.underlying t = some (.slice e)) (hi : P.info? e = some i) (hz : i.zero = some z) (hsize : i.size = sz) (hby : i.bytes = bytes) (hzs : z.cells.size = sz) (hsz : 0 < sz)
  {α : Type} {R : List Value → α → Prop} {base : Nat} {ok : Nat → Prop} {a : Option Addr} {c n : Nat} {xs : List α} (hs : A.eval s = .slice a n c) (hn : n = xs.length) (hO : Queue base e w sz R a c xs)
  {b : Option Addr} {d : Nat} {y : α} (hx : A.eval x = .slice b 1 d) (hR : SlR ok w sz R b d [y]) (hl : (xs.length + 1) * bytes ≤ 140737488355328) (h63 : xs.length + 1 ≤ maxLen) (hbase : base ≤ w.heap.size)
  (h : ∀ a' c' w' row, Queue base e w' sz R a' c' (xs ++ [y]) → w.grownBy w' row → (∀ k, row = some k → base ≤ k) → K (A.put o.dst (.slice a' (n + 1) c')) w') : Oper.wp P o A w K Q := by
 subst hn
 obtain ⟨hS, hsp⟩ := hO
 obtain ⟨css, g1, g2, g3, g4⟩ := hS.all
 obtain ⟨dss, f1, f2, f3, f4⟩ := hR.all
 match dss, f1 with
 | [ds], _ =>
  have hds := f2 ds (by simp)
  obtain ⟨b0, o0, rfl, _, _, hc⟩ := f4 0 ds rfl
  have hnews : ∀ (j : Nat) (u : Value), ds[j]? = some u → w.cell? ((⟨b0, o0, none⟩ : Addr).add j) = some u := fun j u hj => by
   rw [Addr.add_lit, ← hc j u hj]
   congr 2
   omega
  by_cases hr : xs.length + 1 ≤ c
  ·obtain ⟨g, off, cur, rfl, k1, k2, k3⟩ := hsp (by omega)
   subst hsize
   have hmul : (xs.length + 1) * i.size ≤ c * i.size := Nat.mul_le_mul_right _ hr
   have hadd : (xs.length + 1) * i.size = xs.length * i.size + i.size := by rw [Nat.add_mul, Nat.one_mul]
   have k2' : w.heap[g]? = some (.cells cur.toList.toArray e (0, 0)) := by simpa using k2
   have hcs : cur.toList.length = cur.size := by simp
   have hrun := run_append_room_cells (P := P) w t o.type e i ht hi g off xs.length c ⟨b0, o0, none⟩ 1 d ds (by rw [hds.1]; omega) hnews hds.2 hr
    (fun j hj => by rw [cell_of_row w g _ cur e (0, 0) k2]; simp; have := hds.1; omega) (fun j hj => by simp [World.frozen?, k2])
   obtain ⟨a1, a2, a3, a4, a5, a6⟩ := setCells_block (w := w) ds (off + xs.length * i.size) cur.toList k2'
   unfold Oper.wp
   simp [execOp, ho, resolve, invoke, builtin, hs, hx, hrun, Result.andThen]
   refine h _ _ _ (some g) ⟨⟨by simp; omega, hS.2.1, by simp, fun j u hj => ?_⟩, fun _ => ⟨g, off, _, rfl, k1, a1, by simp [putL_length]; omega⟩⟩ ⟨a4, a5, a6, by rw [a3]; exact Nat.le_refl _, fun k _ hk => a2 k fun he => hk (by rw [he])⟩ (fun k hk => by simp at hk; omega)
   have hg : g < w.heap.size := (Array.getElem?_eq_some_iff.1 k2).1
   by_cases hj' : j < xs.length
   ·rw [List.getElem?_append_left hj'] at hj
    obtain ⟨g', o', cs, ha, h1, h2, h3, h4, h5, h6⟩ := hS.2.2.2 j u hj
    simp only [Option.some.injEq, Addr.mk.injEq, and_true] at ha
    obtain ⟨rfl, rfl⟩ := ha
    refine ⟨g, off, cs, rfl, h1, by rw [a3]; exact hg, h3, h4, h5, fun q v hv => ?_⟩
    have hq : q < i.size := by rw [← h4]; exact (gEs hv).1
    have hle : (j + 1) * i.size ≤ xs.length * i.size := Nat.mul_le_mul_right _ hj'
    rw [Nat.add_mul, Nat.one_mul] at hle
    rw [cell_of_row _ g _ _ e (0, 0) a1]
    simp only [List.getElem?_toArray]
    rw [putL_before (by omega)]
    have := h6 q v hv
    rw [cell_of_row w g _ cur e (0, 0) k2] at this
    simpa using this
   ·have hjx : j = xs.length := by
     have := (gEs hj).1
     simp at this
     omega
    subst hjx
    simp at hj
    subst hj
    refine ⟨g, off, ds, rfl, k1, by rw [a3]; exact hg, f3 0 y ds rfl rfl, hds.1, hds.2, fun q v hv => ?_⟩
    rw [cell_of_row _ g _ _ e (0, 0) a1]
    simp only [List.getElem?_toArray]
    exact putL_at (by rw [hds.1, hcs]; omega) hv
  ·have key : ∀ v' w', w'.ownsRow w.heap.size e sz v' (xs.length + 1) (css.flatten ++ ds) → w.grownBy w' none → K (A.put o.dst v') w' := by
    intro v' w' hown hgr
    have hO : ∀ a' c', v' = .slice a' (xs.length + 1) c' → Own w.heap.size e w' sz R a' c' (xs ++ [y]) := by
     rintro a' c' rfl
     refine ⟨css ++ [ds], by simp [g1], ?_, ?_, by simpa using hown⟩
     ·intro cs hcs
      rcases List.mem_append.1 hcs with hcs | hcs
      ·exact g2 cs hcs
      ·simp at hcs; subst hcs; exact hds
     ·intro i x cs hx hc
      by_cases hi : i < xs.length
      ·rw [List.getElem?_append_left hi] at hx
       rw [List.getElem?_append_left (by omega)] at hc
       exact g3 i x cs hx hc
      ·rw [List.getElem?_append_right (by omega)] at hx
       rw [List.getElem?_append_right (by omega), g1] at hc
       exact f3 _ x cs hx hc
    obtain ⟨hlen, ⟨rfl, h0⟩ | ⟨g, cap, cur, rfl, _⟩⟩ := hown
    ·omega
    ·exact h _ _ w' none (Queue.ofOwn (hO _ _ rfl) hbase) hgr (by simp)
   cases a with
   | some ad =>
    have hfl : css.flatten.length = xs.length * sz := by rw [flatten_length fun cs h => (g2 cs h).1, g1]
    obtain ⟨v', w', hrun, r1, r2⟩ := run_append_arg_grows (P := P) w t o.type e i z sz bytes ht hi hz hsize hby hzs hsz ad xs.length c css.flatten hfl (fun j u hj => by
     obtain ⟨p, q, cs, rfl, hq, hp, hv⟩ := flatten_inv (fun cs h => (g2 cs h).1) hj
     obtain ⟨b, o, ha, _, _, hc⟩ := g4 p cs hp
     simp only [Option.some.injEq] at ha
     subst ha
     rw [Addr.add_lit, ← hc q u hv]
     congr 2
     omega) ⟨b0, o0, none⟩ 1 d ds (by rw [hds.1]; omega) hnews (by omega) h63 hl
    unfold Oper.wp
    simp [execOp, ho, resolve, invoke, builtin, hs, hx, hrun, Result.andThen]
    exact key v' w' r1 r2
   | none =>
    have hc0 := hS.2.2.1 rfl
    have hx0 : xs = [] := List.eq_nil_of_length_eq_zero (by have := hS.1; omega)
    subst hc0
    subst hx0
    have hcss : css = [] := List.eq_nil_of_length_eq_zero (by simpa using g1)
    subst hcss
    obtain ⟨v', w', hrun, r1, r2, _⟩ := run_append_own (P := P) w w.heap.size t o.type e i z sz bytes ht hi hz hsize hby hzs hsz (.slice none 0 0) 0 [] (World.ownsRow_nil w _ e sz) ⟨b0, o0, none⟩ 1 d ds (by rw [hds.1]; omega) hnews hds.2 h63 hl (Nat.le_refl _)
    unfold Oper.wp
    simp only [List.length_nil] at hs
    simp [execOp, ho, resolve, invoke, builtin, hs, hx, hrun, Result.andThen]
    exact key v' w' (by simpa using r1) r2
theorem wpList_appQ {P : Program} {w : World} {ops : Array Oper} {rest : List Oper} {o : Oper} {A : Act} {Q : Exit → Act → World → Prop} (hgd : Region.wanted o (yielded ops A.tmps) = true) (s x : Operand) (t : TypeId)
  (ho : o.op = .call { callee := .builtin .append, args := #[s, x], argTypes := #[t, t] })
  (e : TypeId) (i : TypeInfo) (z : Value) (sz bytes : Nat) (ht : P.underlying t = some (.slice e)) (hi : P.info? e = some i) (hz : i.zero = some z) (hsize : i.size = sz) (hby : i.bytes = bytes) (hzs : z.cells.size = sz) (hsz : 0 < sz)
  {α : Type} {R : List Value → α → Prop} {base : Nat} {ok : Nat → Prop} {a : Option Addr} {c n : Nat} {xs : List α} (hs : A.eval s = .slice a n c) (hn : n = xs.length) (hO : Queue base e w sz R a c xs)
  {b : Option Addr} {d : Nat} {y : α} (hx : A.eval x = .slice b 1 d) (hR : SlR ok w sz R b d [y]) (hl : (xs.length + 1) * bytes ≤ 140737488355328) (h63 : xs.length + 1 ≤ maxLen) (hbase : base ≤ w.heap.size)
  (h : ∀ a' c' w' row, Queue base e w' sz R a' c' (xs ++ [y]) → w.grownBy w' row → (∀ k, row = some k → base ≤ k) → wpList P ops Q rest (A.put o.dst (.slice a' (n + 1) c')) w') : wpList P ops Q (o :: rest) A w :=
 wpList_wanted hgd fun _ hK => wp_appQ s x t ho e i z sz bytes ht hi hz hsize hby hzs hsz hs hn hO hx hR hl h63 hbase fun a' c' w' row h1 h2 h3 => hK _ _ (h a' c' w' row h1 h2 h3)
theorem wp_appFull {P : Program} {w : World} {o : Oper} {A : Act} {Q : Exit → Act → World → Prop} {K : Act → World → Prop} (s x : Operand) (t : TypeId)
  (ho : o.op = .call { callee := .builtin .append, args := #[s, x], argTypes := #[t, t] })
  (e : TypeId) (i : TypeInfo) (z : Value) (sz bytes : Nat) (ht : P.underlying t = some (.slice e)) (hi : P.info? e = some i) (hz : i.zero = some z) (hsize : i.size = sz) (hby : i.bytes = bytes) (hzs : z.cells.size = sz) (hsz : 0 < sz)
  {α : Type} {R : List Value → α → Prop} {ok ok' : Nat → Prop} {a : Option Addr} {c n : Nat} {xs : List α} (hs : A.eval s = .slice a n c) (hn : n = xs.length) (hS : SlR ok w sz R a c xs)
  {b : Option Addr} {m d : Nat} {ys : List α} (hx : A.eval x = .slice b m d) (hm : m = ys.length) (hR : SlR ok' w sz R b d ys) (hroom : c < xs.length + ys.length) (hl : (xs.length + ys.length) * bytes ≤ 140737488355328) (h63 : xs.length + ys.length ≤ maxLen)
  (h : ∀ a' c' w', Own w.heap.size e w' sz R (some ⟨a', 0, none⟩) c' (xs ++ ys) → Below w.heap.size w w' → K (A.put o.dst (.slice (some ⟨a', 0, none⟩) (n + m) c')) w') : Oper.wp P o A w K Q := by
 subst hn hm
 obtain ⟨css, g1, g2, g3, g4⟩ := hS.all
 obtain ⟨dss, f1, f2, f3, f4⟩ := hR.all
 have hcx := hS.1
 have hy0 : 0 < ys.length := by omega
 have hfl : css.flatten.length = xs.length * sz := by rw [flatten_length fun cs h => (g2 cs h).1, g1]
 have hfy : dss.flatten.length = ys.length * sz := by rw [flatten_length fun cs h => (f2 cs h).1, f1]
 obtain ⟨b0, o0, rfl, _, _, _⟩ := f4 0 (dss[0]'(by omega)) (by simp)
 have hnews : ∀ (j : Nat) (u : Value), dss.flatten[j]? = some u → w.cell? ((⟨b0, o0, none⟩ : Addr).add j) = some u := fun j u hj => by
  obtain ⟨p, q, cs, rfl, hq, hp, hv⟩ := flatten_inv (fun cs h => (f2 cs h).1) hj
  obtain ⟨b, o, ha, _, _, hc⟩ := f4 p cs hp
  simp only [Option.some.injEq, Addr.mk.injEq, and_true] at ha
  obtain ⟨rfl, rfl⟩ := ha
  rw [Addr.add_lit, ← hc q u hv]
  congr 2
  omega
 have key : ∀ v' w', w'.ownsRow w.heap.size e sz v' (xs.length + ys.length) (css.flatten ++ dss.flatten) → w.grownBy w' none → K (A.put o.dst v') w' := by
  intro v' w' hown hgr
  have hO : ∀ a' c', v' = .slice a' (xs.length + ys.length) c' → Own w.heap.size e w' sz R a' c' (xs ++ ys) := by
   rintro a' c' rfl
   refine ⟨css ++ dss, by simp [g1, f1], ?_, ?_, by simpa using hown⟩
   ·intro cs hcs
    rcases List.mem_append.1 hcs with hcs | hcs
    ·exact g2 cs hcs
    ·exact f2 cs hcs
   ·intro i x cs hx hc
    by_cases hi : i < xs.length
    ·rw [List.getElem?_append_left hi] at hx
     rw [List.getElem?_append_left (by omega)] at hc
     exact g3 i x cs hx hc
    ·rw [List.getElem?_append_right (by omega)] at hx
     rw [List.getElem?_append_right (by omega), g1] at hc
     exact f3 _ x cs hx hc
  obtain ⟨hlen, ⟨rfl, h0⟩ | ⟨g, cap, cur, rfl, _⟩⟩ := hown
  ·omega
  ·exact h _ _ w' (hO _ _ rfl) ⟨hgr.os, hgr.tape, hgr.output, hgr.size, fun q hq => hgr.block q hq (by simp)⟩
 cases a with
 | some ad =>
  obtain ⟨v', w', hrun, r1, r2⟩ := run_append_arg_grows (P := P) w t o.type e i z sz bytes ht hi hz hsize hby hzs hsz ad xs.length c css.flatten hfl (fun j u hj => by
   obtain ⟨p, q, cs, rfl, hq, hp, hv⟩ := flatten_inv (fun cs h => (g2 cs h).1) hj
   obtain ⟨b, o, ha, _, _, hc⟩ := g4 p cs hp
   simp only [Option.some.injEq] at ha
   subst ha
   rw [Addr.add_lit, ← hc q u hv]
   congr 2
   omega) ⟨b0, o0, none⟩ ys.length d dss.flatten hfy hnews (by omega) h63 hl
  unfold Oper.wp
  simp [execOp, ho, resolve, invoke, builtin, hs, hx, hrun, Result.andThen]
  exact key v' w' r1 r2
 | none =>
  have hc0 := hS.2.2.1 rfl
  have hx0 : xs = [] := List.eq_nil_of_length_eq_zero (by omega)
  subst hc0
  subst hx0
  have hcss : css = [] := List.eq_nil_of_length_eq_zero (by simpa using g1)
  subst hcss
  obtain ⟨v', w', hrun, r1, r2, _⟩ := run_append_own (P := P) w w.heap.size t o.type e i z sz bytes ht hi hz hsize hby hzs hsz (.slice none 0 0) 0 [] (World.ownsRow_nil w _ e sz) ⟨b0, o0, none⟩ ys.length d dss.flatten hfy hnews (fun u hu => by
   obtain ⟨cs, hcs, huc⟩ := List.mem_flatten.1 hu
   exact (f2 cs hcs).2 u huc) (by simpa using h63) (by simpa using hl) (Nat.le_refl _)
  unfold Oper.wp
  simp only [List.length_nil] at hs
  simp [execOp, ho, resolve, invoke, builtin, hs, hx, hrun, Result.andThen]
  exact key v' w' (by simpa using r1) r2
theorem putL_after : ∀ {cs : List Value} {o : Nat} {vs : List Value} {p : Nat}, o + vs.length ≤ p → (putL cs o vs)[p]? = cs[p]?
 | [], o, vs, p, _ => by simp [putL]
 | c :: cs, 0, [], p, _ => by simp [putL]
 | c :: cs, 0, v :: vs, 0, h => by simp at h
 | c :: cs, 0, v :: vs, p + 1, h => by
  simp only [putL, List.getElem?_cons_succ]
  exact putL_after (by simp at h; omega)
 | c :: cs, o + 1, vs, 0, h => by omega
 | c :: cs, o + 1, vs, p + 1, h => by
  simp only [putL, List.getElem?_cons_succ]
  exact putL_after (by omega)
theorem putL_ahead : ∀ {cs : List Value} {o : Nat} {vs : List Value} {p : Nat}, p < o → (putL cs o vs)[p]? = cs[p]?
 | [], o, vs, p, _ => by simp [putL]
 | c :: cs, 0, vs, p, h => by omega
 | c :: cs, o + 1, vs, 0, h => by simp [putL]
 | c :: cs, o + 1, vs, p + 1, h => by
  simp only [putL, List.getElem?_cons_succ]
  exact putL_ahead (by omega)
def RowAt (e : TypeId) (w : World) {α : Type} (sz : Nat) (R : List Value → α → Prop) (a : Option Addr) (c : Nat) (xs : List α) : Prop :=
 xs.length ≤ c ∧ c ≤ maxLen ∧
 ((a = none ∧ c = 0) ∨ ∃ g off cells, a = some ⟨g, off, none⟩ ∧ w.heap[g]? = some (.cells (List.toArray cells) e (0, 0)) ∧ off + c * sz ≤ cells.length ∧
  ∀ i x, xs[i]? = some x → ∃ cs, R cs x ∧ cs.length = sz ∧ (∀ v ∈ cs, v.oneCell' = true) ∧ ∀ j v, cs[j]? = some v → cells[off + i * sz + j]? = some v)
section
variable {e : TypeId} {w w' : World} {α : Type} {sz : Nat} {R R' : List Value → α → Prop} {a : Option Addr} {c : Nat} {xs : List α}
theorem RowAt.nil (e : TypeId) (w : World) {α : Type} (sz : Nat) (R : List Value → α → Prop) : RowAt e w sz R none 0 ([] : List α) := ⟨Nat.le_refl _, Nat.zero_le _, .inl ⟨rfl, rfl⟩⟩
theorem RowAt.lt (h : RowAt e w sz R a c xs) {b : Nat} (hb : a.map (·.block) = some b) : b < w.heap.size := by
 rcases h.2.2 with ⟨rfl, _⟩ | ⟨g, off, cells, rfl, hg, _⟩
 ·simp at hb
 ·simp at hb; subst hb; exact (Array.getElem?_eq_some_iff.1 hg).1
theorem RowAt.slr (h : RowAt e w sz R a c xs) {ok : Nat → Prop} (hok : ∀ b, a.map (·.block) = some b → ok b) : SlR ok w sz R a c xs := by
 refine ⟨h.1, h.2.1, fun ha => ?_, fun i x hx => ?_⟩
 ·rcases h.2.2 with ⟨_, h⟩ | ⟨g, off, cells, rfl, _⟩
  ·exact h
  ·cases ha
 ·rcases h.2.2 with ⟨_, hc⟩ | ⟨g, off, cells, rfl, hg, hle, hx2⟩
  ·have := (gEs hx).1
   have := h.1
   omega
  ·obtain ⟨cs, h1, h2, h3, h4⟩ := hx2 i x hx
   refine ⟨g, off, cs, rfl, hok g rfl, (Array.getElem?_eq_some_iff.1 hg).1, h1, h2, h3, fun j v hv => ?_⟩
   rw [cell_of_row w g _ cells.toArray e (0, 0) hg]
   simpa using h4 j v hv
theorem RowAt.kept (h : RowAt e w sz R a c xs) (hk : ∀ b, a.map (·.block) = some b → w'.heap[b]? = w.heap[b]?) (hR : ∀ cs x, R cs x → R' cs x) : RowAt e w' sz R' a c xs := by
 refine ⟨h.1, h.2.1, ?_⟩
 rcases h.2.2 with h | ⟨g, off, cells, rfl, hg, hle, hx2⟩
 ·exact .inl h
 ·refine .inr ⟨g, off, cells, rfl, by rw [hk g rfl]; exact hg, hle, fun i x hx => ?_⟩
  obtain ⟨cs, h1, h2⟩ := hx2 i x hx
  exact ⟨cs, hR _ _ h1, h2⟩
theorem RowAt.below (h : RowAt e w sz R a c xs) (hb : Below w.heap.size w w') (hR : ∀ cs x, R cs x → R' cs x) : RowAt e w' sz R' a c xs :=
 h.kept (fun b hb' => hb.block b (h.lt hb')) hR
theorem Own.row {base : Nat} (h : Own base e w sz R a c xs) : RowAt e w sz R a c xs := by
 obtain ⟨css, h1, h2, h3, h4⟩ := h
 obtain ⟨hl, ⟨hv, hn⟩ | ⟨g, cap, cur, hv, hg, hh, hnc, hm, hs, ht⟩⟩ := h4
 ·simp only [Value.slice.injEq] at hv
  obtain ⟨rfl, _, rfl⟩ := hv
  have : xs = [] := List.eq_nil_of_length_eq_zero hn
  subst this
  exact RowAt.nil _ _ _ _
 ·simp only [Value.slice.injEq] at hv
  obtain ⟨rfl, _, rfl⟩ := hv
  refine ⟨hnc, hm, .inr ⟨g, 0, cur.toList, rfl, by simpa using hh, by simp [hs], fun i x hx => ?_⟩⟩
  have hi : i < css.length := by rw [h1]; exact (gEs hx).1
  have hcs := h2 css[i] (by simp)
  refine ⟨css[i], h3 i x _ hx (by simp [hi]), hcs.1, hcs.2, fun j v hv => ?_⟩
  have := flatten_at (fun cs h => (h2 cs h).1) (i := i) (cs := css[i]) (by simp [hi]) hv
  have hj : i * sz + j < xs.length * sz := by
   have := (gEs this).1
   rw [flatten_length fun cs h => (h2 cs h).1, h1] at this
   exact this
  rw [← ht, List.getElem?_take_of_lt hj] at this
  simpa using this
theorem RowAt.tail {x : α} {g off : Nat} (h : RowAt e w sz R (some ⟨g, off, none⟩) c (x :: xs)) : RowAt e w sz R (some ⟨g, off + sz, none⟩) (c - 1) xs ∧ (c = 1 → RowAt e w sz R (some ⟨g, off, none⟩) 0 xs) := by
 have h1 := h.1
 simp only [List.length_cons] at h1
 rcases h.2.2 with ⟨h, _⟩ | ⟨g', off', cells, ha, hg, hle, hx2⟩
 ·cases h
 ·simp only [Option.some.injEq, Addr.mk.injEq, and_true] at ha
  obtain ⟨rfl, rfl⟩ := ha
  obtain ⟨k, rfl⟩ : ∃ k, c = k + 1 := ⟨c - 1, by omega⟩
  refine ⟨⟨by omega, by have := h.2.1; omega, .inr ⟨g, off + sz, cells, rfl, hg, by rw [Nat.add_mul] at hle; simp; omega, fun i y hy => ?_⟩⟩, fun hc => ?_⟩
  ·obtain ⟨cs, h3, h4, h5, h6⟩ := hx2 (i + 1) y (by simpa using hy)
   refine ⟨cs, h3, h4, h5, fun j v hv => ?_⟩
   have := h6 j v hv
   rw [Nat.add_mul] at this
   rw [← this]
   congr 1
   omega
  ·have hxs : xs = [] := List.eq_nil_of_length_eq_zero (by omega)
   subst hxs
   exact ⟨Nat.le_refl _, Nat.zero_le _, .inr ⟨g, off, cells, rfl, hg, by omega, fun i x hx => by simp at hx⟩⟩
theorem RowAt.set {g off i : Nat} {y : α} {cs' : List Value} (h : RowAt e w sz R (some ⟨g, off, none⟩) c xs) (hi : i < xs.length) (hR : ∀ cs x, R cs x → R' cs x) (hy : R' cs' y) (hl : cs'.length = sz) (h1 : ∀ v ∈ cs', v.oneCell' = true)
  (hw : ∀ cells, w.heap[g]? = some (.cells (List.toArray cells) e (0, 0)) → w'.heap[g]? = some (.cells (putL cells (off + i * sz) cs').toArray e (0, 0))) : RowAt e w' sz R' (some ⟨g, off, none⟩) c (xs.set i y) := by
 refine ⟨by simpa using h.1, h.2.1, ?_⟩
 rcases h.2.2 with ⟨h, _⟩ | ⟨g', off', cells, ha, hg, hle, hx2⟩
 ·cases h
 ·simp only [Option.some.injEq, Addr.mk.injEq, and_true] at ha
  obtain ⟨rfl, rfl⟩ := ha
  refine .inr ⟨g, off, putL cells (off + i * sz) cs', rfl, hw _ hg, by rw [putL_length]; exact hle, fun j x hx => ?_⟩
  have hin : i * sz + sz ≤ c * sz := by
   have : (i + 1) * sz ≤ c * sz := Nat.mul_le_mul_right _ (by have := h.1; omega)
   rwa [Nat.succ_mul] at this
  rw [List.getElem?_set] at hx
  by_cases hij : i = j
  ·subst hij
   simp [hi] at hx
   subst hx
   exact ⟨cs', hy, hl, h1, fun j v hv => putL_at (by omega) hv⟩
  ·rw [if_neg hij] at hx
   obtain ⟨cs, h3, h4, h5, h6⟩ := hx2 j x hx
   refine ⟨cs, hR _ _ h3, h4, h5, fun k v hv => ?_⟩
   have hk : k < sz := by rw [← h4]; exact (gEs hv).1
   rw [← h6 k v hv]
   rcases Nat.lt_or_gt_of_ne hij with hlt | hlt
   ·have : (i + 1) * sz ≤ j * sz := Nat.mul_le_mul_right _ hlt
    rw [Nat.succ_mul] at this
    exact putL_after (by omega)
   ·have : (j + 1) * sz ≤ i * sz := Nat.mul_le_mul_right _ hlt
    rw [Nat.succ_mul] at this
    exact putL_ahead (by omega)
theorem wp_rowApp {P : Program} {o : Oper} {A : Act} {Q : Exit → Act → World → Prop} {K : Act → World → Prop} (s x : Operand) (t : TypeId)
  (ho : o.op = .call { callee := .builtin .append, args := #[s, x], argTypes := #[t, t] })
  (i : TypeInfo) (z : Value) (bytes : Nat) (ht : P.underlying t = some (.slice e)) (hi : P.info? e = some i) (hz : i.zero = some z) (hsize : i.size = sz) (hby : i.bytes = bytes) (hzs : z.cells.size = sz) (hsz : 0 < sz)
  {ok : Nat → Prop} {n : Nat} (hs : A.eval s = .slice a n c) (hn : n = xs.length) (hO : RowAt e w sz R a c xs)
  {b : Option Addr} {d : Nat} {y : α} (hx : A.eval x = .slice b 1 d) (hR : SlR ok w sz R b d [y]) (hl : (xs.length + 1) * bytes ≤ 140737488355328) (h63 : xs.length + 1 ≤ maxLen)
  (h : ∀ g off c' w', RowAt e w' sz R (some ⟨g, off, none⟩) c' (xs ++ [y]) → w.grownBy w' (a.map (·.block)) → (a.map (·.block) = some g ∨ w.heap.size ≤ g) → K (A.put o.dst (.slice (some ⟨g, off, none⟩) (n + 1) c')) w') : Oper.wp P o A w K Q := by
 by_cases hroom : c < xs.length + 1
 ·refine wp_appFull s x t ho e i z sz bytes ht hi hz hsize hby hzs hsz hs hn (hO.slr (ok := fun _ => True) fun _ _ => trivial) hx rfl hR (by simpa using hroom) (by simpa using hl) (by simpa using h63) ?_
  intro g c' w' hO' hb
  exact h g 0 c' w' hO'.row (World.grownBy.ofBelow hb _) (.inr (hO'.blockLt g rfl).1)
 ·subst hn
  obtain ⟨dss, g1, g2, g3, g4⟩ := hR.all
  match dss, g1 with
  | [ds], _ =>
   have hds := g2 ds (by simp)
   obtain ⟨b0, o0, rfl, _, _, hc⟩ := g4 0 ds rfl
   have hO2 := hO
   rcases hO.2.2 with ⟨_, hc0⟩ | ⟨g, off, cells, rfl, hg, hle, hx2⟩
   ·omega
   ·have hin : xs.length * sz + sz ≤ c * sz := by
     have : (xs.length + 1) * sz ≤ c * sz := Nat.mul_le_mul_right _ (by omega)
     rwa [Nat.succ_mul] at this
    have hcell : ∀ j, w.cell? ⟨g, j, none⟩ = cells[j]? := fun j => by rw [cell_of_row w g _ cells.toArray e (0, 0) hg]; simp
    have hrun := run_append_room_cells (P := P) w t o.type e i ht hi g off xs.length c ⟨b0, o0, none⟩ 1 d ds (by rw [hds.1, hsize, Nat.one_mul]) (fun j u hj => by
     have := hc j u hj
     rw [Addr.add_lit, ← this]
     congr 2
     omega) hds.2 (by omega) (fun j hj => by
      rw [hsize, hcell, gEg (by rw [hds.1] at hj; omega)]; rfl) (fun j hj => by
      exact frozen_of_row w g _ cells.toArray e hg)
    obtain ⟨a1, a2, a3, a4, a5, a6⟩ := setCells_block (w := w) ds (off + xs.length * sz) cells hg
    unfold Oper.wp
    simp [execOp, ho, resolve, invoke, builtin, hs, hx, hrun, Result.andThen]
    rw [hsize]
    refine h g off c _ ⟨by simp; omega, hO2.2.1, .inr ⟨g, off, _, rfl, a1, by rw [putL_length]; exact hle, fun j x hx => ?_⟩⟩ ⟨a4, a5, a6, by rw [a3]; exact Nat.le_refl _, fun k _ hk => a2 k (fun e => hk (by rw [e]; rfl))⟩ (.inl rfl)
    by_cases hj : j < xs.length
    ·rw [List.getElem?_append_left hj] at hx
     obtain ⟨cs, h3, h4, h5, h6⟩ := hx2 j x hx
     refine ⟨cs, h3, h4, h5, fun k v hv => ?_⟩
     have hk : k < sz := by rw [← h4]; exact (gEs hv).1
     have : (j + 1) * sz ≤ xs.length * sz := Nat.mul_le_mul_right _ hj
     rw [Nat.succ_mul] at this
     rw [putL_ahead (by omega)]
     exact h6 k v hv
    ·rw [List.getElem?_append_right (by omega)] at hx
     have hj0 : j = xs.length := by
      have := (gEs hx).1
      simp at this
      omega
     subst hj0
     simp at hx
     subst hx
     exact ⟨ds, g3 0 y ds rfl rfl, hds.1, hds.2, fun k v hv => putL_at (by rw [hds.1]; omega) hv⟩
end
end Go.Proofs.YtnjjdpiofbajlaaGreat
