/- Walks and plain laws that the claim rests on, part 44. -/
import Derived.Test.YtflfjpopfapogaaP43
import Derived.Test.YtflfjpopfapogaaP20
import Derived.Test.YtflfjpopfapogaaP38
import Derived.Test.YtflfjpopfapogaaP41
set_option linter.unusedSimpArgs false
set_option linter.unusedVariables false
/- A cluster in a walk with its blocks by name: what is read from it goes on to be read while only those turn. -/
namespace Go.Proofs.Ytflfjpopfapogaa
open Go.RowKit
structure ClusA (w0 : World) (M0 : List Nat) (own : Blks) (X : Nat → Prop) (Wd : World) (D : Nat → Prop) (gc : Nat) (kg : List Nat) (C : Clu) (W : World) (ok : Nat → Prop) (BB : List (List Nat)) (na : Option Addr) (nc : Nat) (L : List Value) : Prop where
 st : St M0 w0 W own
 okC : C.ok
 kept : Keeps D Wd W
 ownD : ∀ x ∈ own, ¬ (D x.1 ∧ x.1 < Wd.heap.size)
 old : ∀ b, X b → b < w0.heap.size
 at_ : CluAt ok W gc C kg BB na nc L
 mine : ∀ b ∈ cluB gc na BB, (b ∈ M0 ∨ w0.heap.size ≤ b) ∧ (∀ x ∈ own, x.1 ≠ b) ∧ ¬ (D b ∧ b < Wd.heap.size)
 data : ∀ b, ok b → b < W.heap.size ∧ (∀ x ∈ own, x.1 ≠ b) ∧ ¬ X b
section
variable {w0 Wd W : World} {M0 : List Nat} {own : Blks} {X D : Nat → Prop} {gc : Nat} {kg : List Nat} {C : Clu} {ok : Nat → Prop} {BB : List (List Nat)} {na : Option Addr} {nc : Nat} {L : List Value}
theorem Clus.raw (h : Clus w0 M0 own X Wd D gc kg C W) : ∃ ok BB na nc L, ClusA w0 M0 own X Wd D gc kg C W ok BB na nc L := by
 obtain ⟨st, hok, hD, hDo, hX, ok, BB, na, nc, L, hA, hB, hO⟩ := h
 exact ⟨ok, BB, na, nc, L, st, hok, hD, hDo, hX, hA, hB, hO⟩
theorem ClusA.clus (h : ClusA w0 M0 own X Wd D gc kg C W ok BB na nc L) : Clus w0 M0 own X Wd D gc kg C W := ⟨h.st, h.okC, h.kept, h.ownD, h.old, ok, BB, na, nc, L, h.at_, h.mine, h.data⟩
theorem ClusA.cells (h : ClusA w0 M0 own X Wd D gc kg C W ok BB na nc L) {V : World} {C' : Clu} {L' : List Value} {bl : Blks} (hok' : C'.ok) (st : St [gc] W V bl) (hb : (gc, 72, L') ∈ bl) (hL : CluL (okB ok W gc na BB) V C' kg na nc L') (hk : C'.kers = C.kers) (hn : C'.net = C.net) :
  ∃ ok', ClusA w0 M0 own X Wd D gc kg C' V ok' BB na nc L' := by
 have hA := h.at_
 have hnd := hA.nodup
 unfold cluB at hnd
 obtain ⟨hn1, hn2⟩ := List.nodup_cons.1 hnd
 have hgl := hA.lt
 have hnat : ∀ b, na.map (·.block) = some b → b ≠ gc := fun b e e2 => hn1 (List.mem_append.2 (.inl (by subst e2; simpa using e)))
 have hkb : ∀ B ∈ BB, ∀ b ∈ B, b ≠ gc := fun B hB b hbb e => hn1 (List.mem_append.2 (.inr (List.mem_flatten.2 ⟨B, hB, e ▸ hbb⟩)))
 have hfr : ∀ b, b < W.heap.size → b ≠ gc → V.heap[b]? = W.heap[b]? := fun b hb' hne => st.frame b hb' (by simpa using hne)
 have hA' : CluAt (okB ok W gc na BB) V gc C' kg BB na nc L' := by
  refine ⟨st.blk _ hb, hL, by rw [hk]; exact hA.kerN, hA.BBn, fun i k g B e1 e2 e3 => ?_, by rw [hn]; exact hA.net.kept (fun b e => hfr b (hA.net.lt e) (hnat b e)) fun _ _ r => r, hA.nodup, fun b hb hh => hh.2 hb⟩
  rw [hk] at e1
  obtain ⟨css, Bs, hK, rfl⟩ := hA.ker i k g B e1 e2 e3
  have hBm := List.mem_of_getElem? e3
  exact ⟨css, Bs, hK.move st.size (fun b hb' ho => ⟨⟨.inl ho, fun hm => hA.apart b hm ho⟩, hfr b hb' fun e => hA.apart b (mem_cluB.2 (.inl e)) ho⟩) fun b hb' => ⟨hfr b (hK.lt b hb') (hkb _ hBm b hb'), fun hh => hh.2 (mem_cluB.2 (.inr (.inr ⟨_, hBm, hb'⟩)))⟩, rfl⟩
 have hgm := h.mine gc (mem_cluB.2 (.inl rfl))
 have stE : St [gc] W V [] := st.sub (own' := []) (by simp) List.Pairwise.nil
 refine ⟨fun b => okB ok W gc na BB b ∧ b < V.heap.size, ⟨h.st.callK stE (fun x hx hm => hgm.2.1 x hx (by simpa using hm)) (fun b hb => by simp only [List.mem_singleton] at hb; subst hb; exact hgm.1), hok', ⟨Nat.le_trans h.kept.size st.size, fun b hbw hd => (hfr b (Nat.lt_of_lt_of_le hbw h.kept.size) fun e => hgm.2.2 (by subst e; exact ⟨hd, hbw⟩)).trans (h.kept.block b hbw hd)⟩, h.ownD, h.old,
  hA'.move (Nat.le_refl _) (fun b hb ho => ⟨⟨ho, hb⟩, rfl⟩) (fun b hb => ⟨rfl, fun hh => hA'.apart b hb hh.1⟩), h.mine, fun b hb => ⟨hb.2, fun x hx e => ?_, fun hx => ?_⟩⟩⟩
 ·rcases hb.1.1 with h1 | h1
  ·exact (h.data b h1).2.1 x hx e
  ·have := h.st.lt hx; omega
 ·rcases hb.1.1 with h1 | h1
  ·exact (h.data b h1).2.2 hx
  ·have := h.old b hx; have := h.st.size; omega
theorem ClusA.enter (h : ClusA w0 M0 own X Wd D gc kg C W ok BB na nc L) : ∃ Y, Clus W (cluB gc na BB) [] Y W (fun b => b ∉ cluB gc na BB) gc kg C W ∧ ∀ (C' : Clu) (V : World) (own' : Blks), Clus W (cluB gc na BB) own' Y W (fun b => b ∉ cluB gc na BB) gc kg C' V → Clus w0 M0 own X Wd D gc kg C' V := by
 obtain ⟨st, hok, hD, hDo, hX, hA, hB, hO⟩ := h
 refine ⟨fun b => X b ∨ ∃ x ∈ own, x.1 = b, ⟨⟨rfl, rfl, rfl, Nat.le_refl _, fun _ _ _ => rfl, by simp, by simp, List.Pairwise.nil⟩, hok, ⟨Nat.le_refl _, fun _ _ _ => rfl⟩, by simp, fun b hb => ?_, ok, BB, na, nc, L, hA, fun b hb => ⟨.inl hb, by simp, fun hh => hh.1 hb⟩, fun b hb => ⟨(hO b hb).1, by simp, fun hh => ?_⟩⟩, fun C' V own' hP => ?_⟩
 ·rcases hb with hb | ⟨x, hx, rfl⟩
  ·have := hX b hb; have := st.size; omega
  ·exact st.lt hx
 ·rcases hh with hh | ⟨x, hx, e⟩
  ·exact (hO b hb).2.2 hh
  ·exact (hO b hb).2.1 x hx e
 obtain ⟨st', hok', hD', hDo', hX', ok', BB', na', nc', L', hA', hB', hO'⟩ := hP
 have stE : St (cluB gc na BB) W V [] := st'.sub (own' := []) (by simp) List.Pairwise.nil
 refine ⟨st.callK stE (fun x hx hm => (hB _ hm).2.1 x hx rfl) fun b hb => (hB b hb).1, hok', ⟨Nat.le_trans hD.size hD'.size, fun b hb hd => (hD'.block b (Nat.lt_of_lt_of_le hb hD.size) fun hm => (hB b hm).2.2 ⟨hd, hb⟩).trans (hD.block b hb hd)⟩, hDo, hX, ok', BB', na', nc', L', hA', fun b hb => ?_, fun b hb => ⟨(hO' b hb).1, fun x hx e => (hO' b hb).2.2 (.inr ⟨x, hx, e⟩), fun hx => (hO' b hb).2.2 (.inl hx)⟩⟩
 rcases (hB' b hb).1 with h1 | h1
 ·exact hB b h1
 ·refine ⟨.inr (Nat.le_trans st.size h1), fun x hx e => ?_, fun hd => ?_⟩
  ·have := st.lt hx; omega
  ·have := hD.size; omega
end
open Go.RowKit
theorem againLn_eq {L : Line} {now : Int} (h : lineOk L = true) (h0 : 0 ≤ now) (h1 : now ≤ 1099511627776) : againLn L now = ({ L with sent := L.sent.filterMap (keepS now) }, L.sent.filterMap (outS now)) := by
 unfold againLn againX
 rw [if_neg (by simp [h]; omega)]
theorem tickAll_succ (n i : Nat) (C : Clu) (L' : Line) (out : List Frame) (h : againLn (C.lines.getD i zeroL) C.now = (L', out)) : tickAll (n + 1) i C = ((tickAll n (i + 1) (pushAll { C with lines := C.lines.set i L' } out)).1, out.length + (tickAll n (i + 1) (pushAll { C with lines := C.lines.set i L' } out)).2) := by
 conv => lhs; unfold tickAll
 rw [h]
def TickInv (T : Clu × Nat) (i mm : Nat) (Ci : Clu) : Prop := T.1 = (tickAll (16 - i) i Ci).1 ∧ T.2 = mm + (tickAll (16 - i) i Ci).2
theorem TickInv.start {T : Clu × Nat} {C : Clu} (h : tickAll 16 0 C = T) : TickInv T 0 0 C := by
 unfold TickInv
 rw [Nat.sub_zero, h]
 exact ⟨rfl, by omega⟩
theorem TickInv.step {T : Clu × Nat} {i mm : Nat} {C : Clu} (h : TickInv T i mm C) (hi : i < 16) {L' : Line} {out : List Frame} (ha : againLn (C.lines.getD i zeroL) C.now = (L', out)) : TickInv T (i + 1) (mm + out.length) (pushAll { C with lines := C.lines.set i L' } out) := by
 obtain ⟨k, hk⟩ : ∃ k, 16 - i = k + 1 := ⟨16 - i - 1, by omega⟩
 have hk2 : 16 - (i + 1) = k := by omega
 unfold TickInv at h ⊢
 rw [hk, tickAll_succ k i C L' out ha] at h
 rw [hk2]
 exact ⟨h.1, by rw [h.2]; simp only; omega⟩
theorem TickInv.done {T : Clu × Nat} {mm : Nat} {C : Clu} (h : TickInv T 16 mm C) : T = (C, mm) := by
 obtain ⟨h1, h2⟩ := h
 have e : tickAll (16 - 16) 16 C = (C, 0) := rfl
 rw [e] at h1 h2
 exact Prod.ext h1 h2
theorem pushAll_snoc (C : Clu) (fs : List Frame) (k : Nat) (h : k < fs.length) : pushAll C (fs.take (k + 1)) = pushC (pushAll C (fs.take k)) fs[k] := by
 unfold pushAll
 rw [List.take_succ_eq_append_getElem h, List.foldl_append]
 rfl
theorem RFrame.moveB {ok ok' : Nat → Prop} {w w' : World} {cs : List Value} {f : Frame} (h : RFrame ok w cs f) (hs : w.heap.size ≤ w'.heap.size) (hk : ∀ b, b < w.heap.size → ok b → ok' b ∧ w'.heap[b]? = w.heap[b]?) : RFrame ok' w' cs f := by
 obtain ⟨la, lc, ga, gc, ca, cc, e, h1, h2, h3⟩ := h
 exact ⟨la, lc, ga, gc, ca, cc, e, h1.move hs hk fun _ _ r => r, h2.move hs hk fun _ _ r => r, h3.move hs hk fun _ _ r => r⟩
abbrev FramesR (ok : Nat → Prop) (w : World) (a : Option Addr) (c : Nat) (l : List Frame) : Prop := SlR ok w 11 (RFrame ok w) a c l
theorem FramesR.move {ok ok' : Nat → Prop} {w w' : World} {a : Option Addr} {c : Nat} {l : List Frame} (h : FramesR ok w a c l) (hs : w.heap.size ≤ w'.heap.size) (hk : ∀ b, b < w.heap.size → ok b → ok' b ∧ w'.heap[b]? = w.heap[b]?) : FramesR ok' w' a c l := SlR.move h hs hk fun _ _ r => r.moveB hs hk
section
variable {w0 Wd W : World} {M0 : List Nat} {own : Blks} {X D : Nat → Prop} {gc : Nat} {kg : List Nat} {C : Clu}
set_option maxRecDepth 100000 in
set_option maxHeartbeats 8000000 in
theorem cluster_tick (P : Clus w0 M0 own X Wd D gc kg C W) (n : Int) :
  Calls Try.prog 26 #[.pointer (some ⟨gc, 0, none⟩), .int .i64 n] W fun e W' => e = .returned (RepV (tickC C n).2) ∧ Clus w0 M0 own X Wd D gc kg (tickC C n).1 W' := by
 have hnow := P.okC.now
 obtain ⟨ok0, BB0, na0, nc0, L0, hA0, -, -, -⟩ := P.open
 have HC0 := Lib.hid (fun (U : World) (hb : Below W.heap.size W U) => hA0.cellB hb hA0.cells.now)
 have hgcW := hA0.gcLt
 clear hA0
 have st := St.start W
 by_cases hn : n < 1 ∨ 1099511627776 - C.now < n
 case pos =>
  have e : tickC C n = (C, errR 2) := by unfold tickC; rw [if_pos hn]
  rw [e]
  clear e
  obtain d | ⟨d0, d1⟩ : decide (n < 1) = true ∨ (decide (n < 1) = false ∧ decide (1099511627776 - C.now < n) = true) := by
   by_cases h1 : n < 1
   ·exact .inl (by simpa using h1)
   ·exact .inr ⟨by simpa using h1, by simpa using hn.resolve_left h1⟩
  all_goals
   clear hn
   go_enter Try.func26, Try.ntmps26
   go_upto_region 1 with (first | go_skip | (with_reducible refine at_alloc 41 ?_; refine mem_alloc st (wanted_none rfl) 41 rfl _ Try.zeroValue41 _ rfl ?_; clear st; intro g4 w1 hg4 st hg4b; clear hg4b; simp [Act.eval, Act.put, Value.cells, putL] at st))
   have f0 := HC0.out _ st.below
   go_wp2_with (first | go_skip | (with_reducible refine at_store 41 ?_; refine memS st 41 _ _ rfl _ Try.sizeOf41 ⟨0, _, _, _, _, _, rfl, rfl, rfl, rfl, rfl, rfl, ?_⟩; clear st; intro w2 st hw2m hw2z; simp [Act.eval, Act.put, Value.cells, putL] at st))
   have hc := fun j => st.cell (i := 0) rfl j
   refine bodyPost_ret (v := RepV (errR 2)) ?hr rfl ⟨?_, ?_⟩
   case hr => simp [results, Try.results26, go_sem, hc, RepV, errR]; try rfl
   ·rfl
   ·exact P.below st.below
 have hn1 : ¬ n < 1 := fun h => hn (.inl h)
 have hn2 : ¬ 1099511627776 - C.now < n := fun h => hn (.inr h)
 obtain ⟨C2, hC2⟩ : ∃ C2 : Clu, C2 = { C with now := C.now + n } := ⟨_, rfl⟩
 have e : tickC C n = ((tickAll 16 0 C2).1, ⟨0, (tickAll 16 0 C2).2, ⟨#[]⟩⟩) := by unfold tickC; rw [if_neg hn, hC2]
 rw [e]
 have hok2 : C2.ok := by
  have h := P.okC
  rw [hC2]
  exact ⟨⟨by simp only; omega, by simp only; omega⟩, h.kerN, h.ker, h.certN, h.cert, h.lineN, h.line, h.netN, h.net, h.acts⟩
 obtain ⟨T, hT⟩ : ∃ T, tickAll 16 0 C2 = T := ⟨_, rfl⟩
 rw [hT]
 have HT0 := Lib.hid (TickInv.start hT)
 clear hT
 have d0 : decide (n < 1) = false := by simpa using hn1
 have d1 : decide (1099511627776 - C.now < n) = false := by simpa using hn2
 clear e hn
 obtain ⟨B0, Y, Q, hB0, back⟩ := P.enter
 go_enter Try.func26, Try.ntmps26
 go_upto_region 1 with (first | go_skip | (with_reducible refine at_alloc 41 ?_; refine mem_alloc st (wanted_none rfl) 41 rfl _ Try.zeroValue41 _ rfl ?_; clear st; intro g4 w1 hg4 st hg4b; clear hg4b; simp [Act.eval, Act.put, Value.cells, putL] at st))
 have Q1 := Q.walk st
 have hg4 : W.heap.size ≤ g4 := by have := st.mine _ (List.mem_of_getElem? (i := 0) rfl); simpa using this
 have f0 := HC0.out _ st.below
 obtain ⟨ok, BB, na, nc, L, hQ⟩ := Q1.raw
 have hA := hQ.at_
 have hlen := hA.cells.len
 have stc := St.hand hA.blk
 clear Q Q1 st HC0
 go_wp2_with (first
  | go_skip
  | ((with_reducible refine at_store 3 ?_); go_must (refine mem_store stc (wanted_none rfl) 3 _ _ rfl gc 0 rfl (.int .i64 (C.now + n)) rfl [.int .i64 (C.now + n)] rfl Try.sizeOf3 (by simp [Value.oneCell']) 0 _ _ rfl (by simp only [List.length_cons, List.length_nil]; omega) ?_; intro w2 st2 hm2 hz2)))
 obtain ⟨ok2, hQ2⟩ := hQ.cells (C' := C2) hok2 st2 (List.mem_of_getElem? (i := 0) rfl) (by rw [hC2]; exact (hA.old st2).setNow (C.now + n)) (by rw [hC2]) (by rw [hC2])
 have P2 := hQ2.clus
 clear hQ hQ2 hA stc st2 hm2 hz2 hlen f0 d0 d1 hn1 hn2 hok2 hC2 P
 go_loopw [5, 33] (fun m hh wr => ∃ (i mm : Nat) (Ci : Clu), i ≤ 4 ∧ hh = .int .i64 i ∧ m = .int .i64 mm ∧ mm ≤ i * 32 ∧ Clus W B0 [(g4, 41, [.int .i64 0, .int .i64 0, .string ⟨#[]⟩])] Y W (fun b => b ∉ B0) gc kg Ci wr ∧ Hid (TickInv T (i * 4) mm Ci)) (fun _ hh _ => 4 - (intOf hh).toNat)
 case atStart => exact ⟨0, 0, C2, Nat.zero_le _, rfl, rfl, Nat.zero_le _, P2, HT0⟩
 case round =>
  clear P2
  obtain ⟨i, m0, Ci, hi, rfl, rfl, hmm, Pi, HI⟩ := hrel
  by_cases hi4 : i < 4
  case neg =>
   obtain rfl : i = 4 := by omega
   have HE := Lib.hid (show T = (Ci, m0) from HI.out.done)
   have st := Pi.st.rebase
   have hgl := Pi.st.size
   go_wp2_with (first | go_skip | (with_reducible refine at_store 41 ?_; refine memS st 41 _ _ rfl _ Try.sizeOf41 ⟨0, _, _, _, _, _, rfl, rfl, rfl, rfl, rfl, rfl, ?_⟩; clear st; intro w9 st hw9m hw9z; simp [Act.eval, Act.put, Value.cells, putL] at st))
   have hc := fun j => st.cell (i := 0) rfl j
   refine bodyPost_ret (v := RepV (⟨0, m0, ⟨#[]⟩⟩)) ?hr rfl ⟨?_, ?_⟩
   case hr => simp [results, Try.results26, go_sem, hc, RepV, errR]; try rfl
   ·rw [HE.out]
   ·rw [HE.out]
    exact back _ _ _ (Pi.walk st)
  have di : decide ((i : Int) < 4) = true := by simp; omega
  obtain ⟨wq, rfl⟩ : ∃ V, V = wr := ⟨_, rfl⟩
  go_wp2_with (first | go_skip | fail)
  go_loopw [5, 36] (fun m tt wr => ∃ (j mm : Nat) (Cj : Clu), j ≤ 4 ∧ tt = .int .i64 j ∧ m = .int .i64 mm ∧ mm ≤ (i * 4 + j) * 8 ∧ Clus W B0 [(g4, 41, [.int .i64 0, .int .i64 0, .string ⟨#[]⟩])] Y W (fun b => b ∉ B0) gc kg Cj wr ∧ Hid (TickInv T (i * 4 + j) mm Cj)) (fun _ tt _ => 4 - (intOf tt).toNat)
  case atStart => exact ⟨0, m0, Ci, Nat.zero_le _, rfl, rfl, by omega, Pi, HI⟩
  case round =>
   clear Pi HI hmm
   obtain ⟨j, mm, Cj, hj, rfl, rfl, hmm, Pj, HJ⟩ := hrel
   by_cases hj4 : j < 4
   case neg =>
    obtain rfl : j = 4 := by omega
    go_wp2_with (first | go_skip | fail)
    go_roundw
    case rel => exact ⟨i + 1, mm, Cj, hi4, by go_num, rfl, by omega, Pj, by have h := HJ.out; rw [show i * 4 + 4 = (i + 1) * 4 by omega] at h; exact Lib.hid h⟩
    case measure => simp [intOf] <;> omega
   have dj : decide ((j : Int) < 4) = true := by simp; omega
   obtain ⟨ok, BB, na, nc, L, hQ⟩ := Pj.raw
   have hA := hQ.at_
   have hlen := hA.cells.len
   have hokj := Pj.okC
   have hnow2 := hokj.now
   obtain ⟨sa, sc, hs, hlc⟩ := hA.lineB hi4 hj4
   obtain ⟨ln, eL, e3, hL, hsg⟩ := hokj.lineAt hi4 hj4
   rw [← e3] at hL hsg
   have HAG := Lib.hid (fun (U : World) (okS : Nat → Prop) (h1 : ∀ b, U.heap.size ≤ b → okS b) (h2 : SentR okS U sa sc (Cj.line i j).sent) => line_Again_ok okS U h1 (Cj.line i j).next (Cj.line i j).high sa sc (Cj.line i j).sent (Cj.line i j).seen Cj.now h2 hL hnow2.1 hnow2.2)
   have HLC := Lib.hid hlc
   have HSV := Lib.hid hs
   have HCN := Lib.hid (fun (U : World) (hb : Below wr.heap.size wr U) => hA.cellB hb hA.cells.now)
   have hagl := againLn_eq hL hnow2.1 hnow2.2
   have hag := againLn_ok hL hnow2.1 hnow2.2
   rw [hagl] at hag
   have HST := Lib.hid (TickInv.step HJ.out (by omega) hagl)
   have hokn := hokj.setLineN (i := i * 4 + j) hag.1 (fun x hx => by
    obtain ⟨x', hx', e'⟩ := hag.2.1 x hx
    rw [e']; exact hsg x' hx')
   have hfit : ∀ f ∈ (Cj.line i j).sent.filterMap (outS Cj.now), f.FitsW := fun f hf => by
    obtain ⟨x, hx, e'⟩ := hag.2.2.1 f hf
    rw [e']; exact good_fitsW (hsg x hx)
   have hol := hag.2.2.2
   clear hs hlc hagl hag eL e3 hL hsg HJ hokj
   unfold lineV at HAG
   have st := St.start wr
   go_upto_region 11 with (first | go_skip | fail)
   try simp only [kP, kA, kS, kZ]
   go_cut [8, 9, 10] (fun s8 s9 s10 wx => ∃ (g8 : Nat) (sa2 : Option Addr) (sc2 : Nat) (a2 : Option Addr) (c2 : Nat), s8 = .pointer (some ⟨g8, 0, none⟩) ∧ s9 = .slice a2 ((Cj.line i j).sent.filterMap (outS Cj.now)).length c2 ∧ s10 = .int .i64 0 ∧ St [] wr wx [(g8, 67, lineC { Cj.line i j with sent := (Cj.line i j).sent.filterMap (keepS Cj.now) } sa2 sc2)] ∧
    SentR (fun b => (ok b ∨ wr.heap.size ≤ b) ∧ b ∉ [g8]) wx sa2 sc2 ((Cj.line i j).sent.filterMap (keepS Cj.now)) ∧ FramesR (fun b => (ok b ∨ wr.heap.size ≤ b) ∧ b ∉ [g8]) wx a2 c2 ((Cj.line i j).sent.filterMap (outS Cj.now)))
   case first =>
    replace st := st.drew
    have hI := st
    refine lex_region (by kernel_rfl) 21 rfl (fun U => St [] wr U []) ?_
    refine lexS 0 rfl hI ?_; simp only [kP, kA, kS, kZ]
    refine lexS 1 rfl hI ?_; simp only [kP, kA, kS, kZ]
    refine lexS 2 rfl hI ?_; simp only [kP, kA, kS, kZ]
    refine lexS 3 rfl hI ?_; simp only [kP, kA, kS, kZ]
    refine lexS 4 rfl hI ?_; simp only [kP, kA, kS, kZ]
    refine lexT (v := .pointer (some ⟨gc, 9 + i * 44, none⟩)) 5 rfl hI (fun W hW => by (first | (go_simp; done) | (go_simp; omega) | (go_simp; intro h; omega))) ?_; simp only [kP, kA, kS, kZ]
    refine lexT (v := .pointer (some ⟨gc, 9 + i * 44 + j * 11, none⟩)) 6 rfl hI (fun W hW => by (first | (go_simp; done) | (go_simp; omega) | (go_simp; intro h; omega))) ?_; simp only [kP, kA, kS, kZ]
    refine lexT 7 rfl hI (fun U hU => run_load_at 67 _ rfl Try.isAgg67 _ Try.sizeOf67 gc (9 + i * 44 + j * 11) rfl (lineC (Cj.line i j) sa sc) rfl (HLC.out U hU.below)) ?_; simp only [kP, kA, kS, kZ]
    refine lexS 8 rfl hI ?_; simp only [kP, kA, kS, kZ]
    refine lexS 9 rfl hI ?_; simp only [kP, kA, kS, kZ]
    refine lexS 10 rfl hI ?_; simp only [kP, kA, kS, kZ]
    refine lexT 11 rfl hI (fun U hU => run_cell_one 3 _ rfl Try.isAgg3 gc 0 rfl _ (HCN.out U hU.below)) ?_; simp only [kP, kA, kS, kZ]
    clear hI
    refine lex_each [12, 17] (by decide +kernel) (by decide) ?_; intro i hi K hK; simp only [List.mem_cons, List.not_mem_nil, or_false] at hi; rcases hi with rfl | rfl <;> refine ⟨_, rfl, (by first | exact wanted_none rfl | exact wanted_some rfl rfl), ?_⟩
    ·refine wp_callee (f := 46) (by first | (go_simp; done) | (go_simp; rfl)) ?_
     have hzc := st.size
     refine (HAG.out _ (fun b => ok b ∨ wr.heap.size ≤ b) (fun b hb => .inr (Nat.le_trans hzc hb)) ((HSV.out.below st.below).move (Nat.le_refl _) fun b _ ho => ⟨.inl ho, rfl⟩)).mono ?_
     rintro e v6 ⟨sa2, sc2, a2, c2, rfl, hb6, hS8, hO8⟩
     refine ⟨_, rfl, ?_⟩
     replace st := st.call hb6
     refine hK _ _ (st.take 0) ?_; clear hK; simp only [kP, kA, kS, kZ]
     have hI := st.take 0
     refine lexS 13 rfl hI ?_; simp only [kP, kA, kS, kZ]
     refine lexS 14 rfl hI ?_; simp only [kP, kA, kS, kZ]
     refine lexS 15 rfl hI ?_; simp only [kP, kA, kS, kZ]
     refine lexS 16 rfl hI ?_; simp only [kP, kA, kS, kZ]
     clear hI
     refine lexO 17 rfl fun K hK => ?_
     have stB := st
     replace st := st.rebase
     simp only [List.map_cons, List.map_nil] at st
     refine wp_alloc st 67 rfl _ Try.zeroValue67 _ rfl ?_; clear st; intro g8 w8 hg8 st hg8b; simp [Act.eval, Act.put, Value.cells, putL] at st
     replace st := St.back stB st
     replace hS8 := hS8.move (ok' := (fun b => (ok b ∨ wr.heap.size ≤ b) ∧ b ∉ [g8])) hg8b.size (fun b hb ho => ⟨⟨ho, by simp; omega⟩, hg8b.block b hb⟩)
     replace hO8 := FramesR.move hO8 (ok' := (fun b => (ok b ∨ wr.heap.size ≤ b) ∧ b ∉ [g8])) hg8b.size (fun b hb ho => ⟨⟨ho, by simp; omega⟩, hg8b.block b hb⟩)
     refine hK _ _ (st.take 0) ?_; clear hK; simp only [kP, kA, kS, kZ]
     refine lexO 18 rfl fun K hK => ?_
     refine wp_store' st 67 _ _ rfl _ Try.sizeOf67 ⟨0, _, _, _, _, _, rfl, rfl, rfl, rfl, rfl, rfl, ?_⟩; clear st; intro w7 st hw7m hw7z; simp [Act.eval, Act.put, Value.cells, putL] at st
     replace hS8 := hS8.move (by omega) (fun b hb ho => ⟨ho, hw7m b (by have := ho.2; simp at this; exact this)⟩)
     replace hO8 := FramesR.move hO8 (by omega) (fun b hb ho => ⟨ho, hw7m b (by have := ho.2; simp at this; exact this)⟩)
     have hI := st.take 0
     refine hK _ _ (hI) ?_; clear hK; simp only [kP, kA, kS, kZ]
     refine lexS 19 rfl hI ?_; simp only [kP, kA, kS, kZ]
     refine lexS 20 rfl hI ?_; simp only [kP, kA, kS, kZ]
     clear hI
     refine lex_done (by decide +kernel) ?_
     go_wp2_with fail
     go_meet
     exact ⟨g8, sa2, sc2, a2, c2, rfl, rfl, rfl, st, hS8, hO8⟩
    ·refine wp_alloc st 67 rfl _ Try.zeroValue67 _ rfl ?_; clear st; intro g8 w8 hg8 st hg8b; simp [Act.eval, Act.put, Value.cells, putL] at st
     have h8c := st.ltAt (i := 0) rfl
     have hb8 := st.below
     refine hK _ _ (st.take 0) ?_; clear hK; simp only [kP, kA, kS, kZ]
     refine lexO 12 rfl fun K hK => ?_
     refine wp_callee (f := 46) (by first | (go_simp; done) | (go_simp; rfl)) ?_
     have hzc := st.size
     refine (HAG.out _ (fun b => (ok b ∨ wr.heap.size ≤ b) ∧ b ∉ [g8]) (fun b hb => ⟨.inr (Nat.le_trans hzc hb), by simp; omega⟩) ((HSV.out.below hb8).move (Nat.le_refl _) fun b hbb ho => ⟨⟨.inl ho, by simp; rintro rfl; exact absurd (hQ.data _ ho).1 (by omega)⟩, rfl⟩)).mono ?_
     rintro e v6 ⟨sa2, sc2, a2, c2, rfl, hb6, hS8, hO8⟩
     refine ⟨_, rfl, ?_⟩
     replace st := st.call hb6
     refine hK _ _ (st.take 0) ?_; clear hK; simp only [kP, kA, kS, kZ]
     have hI := st.take 0
     refine lexS 13 rfl hI ?_; simp only [kP, kA, kS, kZ]
     refine lexS 14 rfl hI ?_; simp only [kP, kA, kS, kZ]
     refine lexS 15 rfl hI ?_; simp only [kP, kA, kS, kZ]
     refine lexS 16 rfl hI ?_; simp only [kP, kA, kS, kZ]
     clear hI
     refine lexO 18 rfl fun K hK => ?_
     refine wp_store' st 67 _ _ rfl _ Try.sizeOf67 ⟨0, _, _, _, _, _, rfl, rfl, rfl, rfl, rfl, rfl, ?_⟩; clear st; intro w7 st hw7m hw7z; simp [Act.eval, Act.put, Value.cells, putL] at st
     replace hS8 := hS8.move (by omega) (fun b hb ho => ⟨ho, hw7m b (by have := ho.2; simp at this; exact this)⟩)
     replace hO8 := FramesR.move hO8 (by omega) (fun b hb ho => ⟨ho, hw7m b (by have := ho.2; simp at this; exact this)⟩)
     have hI := st.take 0
     refine hK _ _ (hI) ?_; clear hK; simp only [kP, kA, kS, kZ]
     refine lexS 19 rfl hI ?_; simp only [kP, kA, kS, kZ]
     refine lexS 20 rfl hI ?_; simp only [kP, kA, kS, kZ]
     clear hI
     refine lex_done (by decide +kernel) ?_
     go_wp2_with fail
     go_meet
     exact ⟨g8, sa2, sc2, a2, c2, rfl, rfl, rfl, st, hS8, hO8⟩
   case rest =>
    clear st
    obtain ⟨g8, sa2, sc2, a2, c2, rfl, rfl, rfl, st, hS8, hO8⟩ := hcut
    go_upto_region 12 with (first | go_skip | fail)
    try simp only [kP, kA, kS, kZ]
    replace st := st.drew
    have hS8 := hS8.move (Nat.le_refl _) (w' := World.drew _) (fun b hb ho => ⟨ho, rfl⟩)
    have hO8 := FramesR.move hO8 (Nat.le_refl _) (w' := World.drew _) (fun b hb ho => ⟨ho, rfl⟩)
    have hg8 : wr.heap.size ≤ g8 := by have := st.mine _ (List.mem_of_getElem? (i := 0) rfl); simpa using this
    have hgb := hA.blkB st.below
    have hgcl := hA.gcLt
    have stc := st.holding hgb (by intro x hx; simp only [List.mem_cons, List.not_mem_nil, or_false] at hx; subst hx; simp only; omega)
    simp only [List.cons_append, List.nil_append] at stc
    have hI := stc.take 1
    refine lex_region (by kernel_rfl) 9 rfl (fun U => St [gc] wr U [(g8, 67, lineC { Cj.line i j with sent := (Cj.line i j).sent.filterMap (keepS Cj.now) } sa2 sc2)]) ?_
    refine lexS 0 rfl hI ?_; simp only [kP, kA, kS, kZ]
    refine lexS 1 rfl hI ?_; simp only [kP, kA, kS, kZ]
    refine lexS 2 rfl hI ?_; simp only [kP, kA, kS, kZ]
    refine lexT 3 rfl hI (fun W hW => St.run_load_agg hW 0 67 _ rfl Try.isAgg67 _ Try.sizeOf67 rfl rfl rfl rfl) ?_; simp only [kP, kA, kS, kZ]
    refine lexS 4 rfl hI ?_; simp only [kP, kA, kS, kZ]
    refine lexS 5 rfl hI ?_; simp only [kP, kA, kS, kZ]
    refine lexT (v := .pointer (some ⟨gc, 9 + i * 44, none⟩)) 6 rfl hI (fun W hW => by (first | (go_simp; done) | (go_simp; omega) | (go_simp; intro h; omega))) ?_; simp only [kP, kA, kS, kZ]
    refine lexT (v := .pointer (some ⟨gc, 9 + i * 44 + j * 11, none⟩)) 7 rfl hI (fun W hW => by (first | (go_simp; done) | (go_simp; omega) | (go_simp; intro h; omega))) ?_; simp only [kP, kA, kS, kZ]
    clear hI
    refine lexO 8 rfl fun K hK => ?_
    refine wp_store stc 67 _ _ rfl gc (9 + i * 44 + j * 11) rfl _ rfl (lineC { Cj.line i j with sent := (Cj.line i j).sent.filterMap (keepS Cj.now) } sa2 sc2) rfl Try.sizeOf67 (by simp [lineC, Value.oneCell']) 1 _ _ rfl (by simp only [lineC, List.length_cons, List.length_nil]; omega) ?_
    intro U1 stu hm8 hz8
    refine hK _ _ (stu.take 1) ?_; clear hK; simp only [kP, kA, kS, kZ]
    refine lex_done (by decide +kernel) ?_
    have hnb : ∀ b, (ok b ∨ wr.heap.size ≤ b) → b ∉ cluB gc na BB := fun b ho hm => by
     rcases ho with h1 | h1
     ·exact hA.apart b hm h1
     ·have := hA.lt b hm; omega
    have hS9 : SentR (okB ok wr gc na BB) U1 sa2 sc2 ((Cj.line i j).sent.filterMap (keepS Cj.now)) := hS8.move (by omega) (fun b hb ho => ⟨⟨ho.1, hnb b ho.1⟩, hm8 b fun e => hnb b ho.1 (mem_cluB.2 (.inl e))⟩)
    have hO9 : FramesR (fun b => b ∉ cluB gc na BB) U1 a2 c2 ((Cj.line i j).sent.filterMap (outS Cj.now)) := FramesR.move hO8 (by omega) (fun b hb ho => ⟨hnb b ho.1, hm8 b fun e => hnb b ho.1 (mem_cluB.2 (.inl e))⟩)
    obtain ⟨ok1, hQ1⟩ := hQ.cells (C' := { Cj with lines := Cj.lines.set (i * 4 + j) { Cj.line i j with sent := (Cj.line i j).sent.filterMap (keepS Cj.now) } }) hokn stu (List.mem_of_getElem? (i := 1) rfl) (by
     have h := (hA.old stu).setLineN (n := i * 4 + j) (by omega) (ln := { Cj.line i j with sent := (Cj.line i j).sent.filterMap (keepS Cj.now) }) (cs := lineC { Cj.line i j with sent := (Cj.line i j).sent.filterMap (keepS Cj.now) } sa2 sc2) ⟨sa2, sc2, rfl, hS9⟩
     rw [show 9 + (i * 4 + j) * 11 = 9 + i * 44 + j * 11 by omega] at h
     exact h) rfl rfl
    obtain ⟨Y1, Q1, back1⟩ := hQ1.enter
    clear hQ1 hQ hA stc stu st hS8 hO8 hS9 hgb hm8 hz8 Pj HAG HLC HSV HCN hokn hnb
    generalize ({ Cj with lines := Cj.lines.set (i * 4 + j) { Cj.line i j with sent := (Cj.line i j).sent.filterMap (keepS Cj.now) } } : Clu) = C1 at HST Q1
    generalize (Cj.line i j).sent.filterMap (outS Cj.now) = out at HST hfit hol hO9 ⊢
    obtain ⟨wq2, rfl⟩ : ∃ V, V = wr := ⟨_, rfl⟩
    go_wp2_with (first | go_skip | fail)
    go_loopw [5, 66] (fun m q wr => ∃ k, k ≤ out.length ∧ q = .int .i64 k ∧ m = .int .i64 ((mm + k : Nat) : Int) ∧ Clus U1 (cluB gc na BB) [] Y1 U1 (fun b => b ∉ cluB gc na BB) gc kg (pushAll C1 (out.take k)) wr) (fun _ q _ => out.length - (intOf q).toNat)
    case atStart => exact ⟨0, Nat.zero_le _, rfl, rfl, by rw [List.take_zero]; exact Q1⟩
    case round =>
     clear Q1
     obtain ⟨k, hk, rfl, rfl, Pk⟩ := hrel
     by_cases hkl : k < out.length
     ·have hkp := Pk.kept
      have hOw : FramesR (fun b => b ∉ cluB gc na BB) wr a2 c2 out := hO9.move hkp.size (fun b hb ho => ⟨ho, hkp.block b hb ho⟩)
      obtain ⟨bb, oo, cs, hre, -, hbl, hrf, -, -, hcc⟩ := hOw.2.2.2 k out[k] (by simp [hkl])
      obtain ⟨la, lc, ga, gx, ca, cc, rfl, f1, f2, f3⟩ := hrf
      have hff := hfit out[k] (List.getElem_mem _)
      have SN := Lib.hid (pushAll_snoc C1 out k hkl)
      generalize out[k] = f at f1 f2 f3 hff SN hcc
      have HPU := Lib.hid (fun (V : World) (hb : Below wr.heap.size wr V) => cluster_push (Pk.below hb) f (fun b => b ∉ cluB gc na BB) la lc ga gx ca cc hff ⟨⟨f1.below hb, f2.below hb⟩, f3.below hb⟩)
      unfold frameV at HPU
      have st := St.start wr
      clear f1 f2 f3 hff hOw hkp
      subst hre
      go_wp2_with (first
       | go_skip
       | (with_reducible refine at_load 105 ?_; refine wpList_load_cells (wanted_none rfl) 105 _ rfl Try.isAgg105 _ Try.sizeOf105 bb (oo + k * 11) rfl [.int .i64 f.src, .int .i64 f.dst, .int .i64 f.seq, .bool f.ack, .int .i64 f.thread, .int .i64 f.mail.host, .int .i64 f.mail.thread, .slice la f.mail.label.length lc, .slice ga f.mail.grants.length gx, .string f.mail.text, .slice ca f.certs.length cc] rfl hcc ?_)
       | (with_reducible refine at_alloc 105 ?_; refine mem_alloc st (wanted_none rfl) 105 rfl _ Try.zeroValue105 _ rfl ?_; clear st; intro g12 w12 hg12 st hg12b; clear hg12b; simp [Act.eval, Act.put, Value.cells, putL] at st) | (with_reducible refine at_store 105 ?_; refine memS st 105 _ _ rfl _ Try.sizeOf105 ⟨0, _, _, _, _, _, rfl, rfl, rfl, rfl, rfl, rfl, ?_⟩; clear st; intro w13 st hw13m hw13z; simp [Act.eval, Act.put, Value.cells, putL] at st) | (with_reducible refine at_load 105 ?_; refine memXA st 105 _ rfl Try.isAgg105 _ Try.sizeOf105 rfl ?_)
       | (go_at_call 43; go_must (refine (HPU.out _ st.below).mono ?_; rintro e w14 ⟨⟨u, rfl⟩, P14⟩)))
      go_roundw
      case rel => exact ⟨k + 1, hkl, by go_num, congrArg (Value.int .i64) (by push_cast; omega), by rw [SN.out]; exact P14⟩
      case measure => simp [intOf] <;> omega
     ·obtain rfl : k = out.length := by omega
      rw [List.take_of_length_le (Nat.le_refl _)] at Pk
      have P5 := back1 _ _ _ Pk
      clear Pk
      go_wp2_with (first | go_skip | fail)
      go_roundw
      case rel => exact ⟨j + 1, mm + out.length, _, hj4, by go_num, rfl, by omega, P5, HST⟩
      case measure => simp [intOf] <;> omega
end
open Go.RowKit
set_option maxRecDepth 100000 in
theorem cluster_no (W : World) (e : Int) : Calls Try.prog 35 #[.int .i64 e] W fun r W' => r = .returned (.agg #[.int .i64 e, .int .i64 0, .string ⟨#[]⟩]) ∧ Below W.heap.size W W' := by
 have st := St.start W
 go_enter Try.func35, Try.ntmps35
 go_wp2_with (first | go_skip | (with_reducible refine at_alloc 41 ?_; refine mem_alloc st (wanted_none rfl) 41 rfl _ Try.zeroValue41 _ rfl ?_; clear st; intro g2 w2 hg2 st hg2b; clear hg2b; simp [Act.eval, Act.put, Value.cells, putL] at st) | (with_reducible refine at_store 41 ?_; refine memS st 41 _ _ rfl _ Try.sizeOf41 ⟨0, _, _, _, _, _, rfl, rfl, rfl, rfl, rfl, rfl, ?_⟩; clear st; intro w3 st hw3m hw3z; simp [Act.eval, Act.put, Value.cells, putL] at st))
 have hc := fun j => st.cell (i := 0) rfl j
 refine bodyPost_ret (v := .agg #[.int .i64 e, .int .i64 0, .string ⟨#[]⟩]) ?hr rfl ⟨rfl, st.below⟩
 case hr => simp [results, Try.results35, go_sem, hc]; try rfl
section
variable {w0 Wd W : World} {M0 : List Nat} {own : Blks} {X D : Nat → Prop} {gc : Nat} {kg : List Nat} {C : Clu}
set_option maxRecDepth 100000 in
set_option maxHeartbeats 4000000 in
theorem cluster_call_long (P : Clus w0 M0 own X Wd D gc kg C W) (h t : Int) (x : Req) (la : Option Addr) (lc : Nat) (ga : Option Addr) (gx : Nat) (hk : x.kind = 6) (hl : 64 < x.text.size) :
  Calls Try.prog 23 #[.pointer (some ⟨gc, 0, none⟩), .int .i64 h, .int .i64 t, reqV x la lc ga gx] W fun e W' => e = .returned (RepV (errR 9)) ∧ Clus w0 M0 own X Wd D gc kg C W' := by
 have st := St.start W
 have dk : (x.kind == 6) = true := by simpa using hk
 have dl : decide ((64 : Int) < (x.text.size : Int)) = true := by simp; omega
 clear hk hl
 unfold reqV
 go_enter Try.func23, Try.ntmps23
 go_wp2_with (first | go_skip | (with_reducible refine at_box 36 ?_; refine mem_box st (wanted_none rfl) 36 _ rfl _ rfl _ rfl ?_; clear st; intro g7 w7 hg7 st hg7b; clear hg7b; simp [Act.eval, Act.put, Value.cells, putL] at st) | (with_reducible refine at_alloc 41 ?_; refine mem_alloc st (wanted_none rfl) 41 rfl _ Try.zeroValue41 _ rfl ?_; clear st; intro g8 w8 hg8 st hg8b; clear hg8b; simp [Act.eval, Act.put, Value.cells, putL] at st) | (with_reducible refine at_load 3 ?_; refine memX st 3 _ rfl Try.isAgg3 rfl ?_) | (with_reducible refine at_load 9 ?_; refine memX st 9 _ rfl Try.isAgg9 rfl ?_) | (go_at_call 35; go_must (refine (cluster_no _ _).mono ?_; rintro e w20 ⟨rfl, hb20⟩; replace st := st.call hb20; clear hb20)) | (with_reducible refine at_store 41 ?_; refine memS st 41 _ _ rfl _ Try.sizeOf41 ⟨1, _, _, _, _, _, rfl, rfl, rfl, rfl, rfl, rfl, ?_⟩; clear st; intro w9 st hw9m hw9z; simp [Act.eval, Act.put, Value.cells, putL] at st))
 have hc := fun j => st.cell (i := 1) rfl j
 refine bodyPost_ret (v := RepV (errR 9)) ?hr rfl ⟨rfl, P.below st.below⟩
 case hr => simp [results, Try.results23, go_sem, hc, RepV, errR]; try rfl
set_option maxRecDepth 100000 in
set_option maxHeartbeats 4000000 in
theorem cluster_call_nowhere (P : Clus w0 M0 own X Wd D gc kg C W) (h t : Int) (x : Req) (la : Option Addr) (lc : Nat) (ga : Option Addr) (gx : Nat) (hk : x.kind = 6) (hl : ¬ 64 < x.text.size) (h4 : four x.h = false ∨ four x.t = false) :
  Calls Try.prog 23 #[.pointer (some ⟨gc, 0, none⟩), .int .i64 h, .int .i64 t, reqV x la lc ga gx] W fun e W' => e = .returned (RepV (errR 4)) ∧ Clus w0 M0 own X Wd D gc kg C W' := by
 have st := St.start W
 have dk : (x.kind == 6) = true := by simpa using hk
 have dl : decide ((64 : Int) < (x.text.size : Int)) = false := by simp; omega
 have hd : decide (x.h < 0) = true ∨ (decide (x.h < 0) = false ∧ decide ((4 : Int) ≤ x.h) = true) ∨ (decide (x.h < 0) = false ∧ decide ((4 : Int) ≤ x.h) = false ∧ decide (x.t < 0) = true) ∨ (decide (x.h < 0) = false ∧ decide ((4 : Int) ≤ x.h) = false ∧ decide (x.t < 0) = false ∧ decide ((4 : Int) ≤ x.t) = true) := by
  simp only [decide_eq_true_eq, decide_eq_false_iff_not]
  have e1 := four_iff x.h
  have e2 := four_iff x.t
  rcases h4 with h4 | h4
  ·rw [h4] at e1; simp at e1; omega
  ·rw [h4] at e2; simp at e2; omega
 clear hk hl h4
 unfold reqV
 rcases hd with d1 | ⟨d1, d2⟩ | ⟨d1, d2, d3⟩ | ⟨d1, d2, d3, d4⟩
 all_goals
  go_enter Try.func23, Try.ntmps23
  go_wp2_with (first | go_skip | (with_reducible refine at_box 36 ?_; refine mem_box st (wanted_none rfl) 36 _ rfl _ rfl _ rfl ?_; clear st; intro g7 w7 hg7 st hg7b; clear hg7b; simp [Act.eval, Act.put, Value.cells, putL] at st) | (with_reducible refine at_alloc 41 ?_; refine mem_alloc st (wanted_none rfl) 41 rfl _ Try.zeroValue41 _ rfl ?_; clear st; intro g8 w8 hg8 st hg8b; clear hg8b; simp [Act.eval, Act.put, Value.cells, putL] at st) | (with_reducible refine at_load 3 ?_; refine memX st 3 _ rfl Try.isAgg3 rfl ?_) | (with_reducible refine at_load 9 ?_; refine memX st 9 _ rfl Try.isAgg9 rfl ?_) | (go_at_call 35; go_must (refine (cluster_no _ _).mono ?_; rintro e w20 ⟨rfl, hb20⟩; replace st := st.call hb20; clear hb20)) | (with_reducible refine at_store 41 ?_; refine memS st 41 _ _ rfl _ Try.sizeOf41 ⟨1, _, _, _, _, _, rfl, rfl, rfl, rfl, rfl, rfl, ?_⟩; clear st; intro w9 st hw9m hw9z; simp [Act.eval, Act.put, Value.cells, putL] at st))
  have hc := fun j => st.cell (i := 1) rfl j
  refine bodyPost_ret (v := RepV (errR 4)) ?hr rfl ⟨rfl, P.below st.below⟩
  case hr => simp [results, Try.results23, go_sem, hc, RepV, errR]; try rfl
set_option maxRecDepth 100000 in
set_option maxHeartbeats 4000000 in
theorem cluster_call_range (P : Clus w0 M0 own X Wd D gc kg C W) (h t : Int) (x : Req) (la : Option Addr) (lc : Nat) (ga : Option Addr) (gx : Nat) (hk : x.kind = 8) (hb : four x.h = false ∨ x.h = h ∨ x.n < 0 ∨ 1099511627776 < x.n) :
  Calls Try.prog 23 #[.pointer (some ⟨gc, 0, none⟩), .int .i64 h, .int .i64 t, reqV x la lc ga gx] W fun e W' => e = .returned (RepV (errR 2)) ∧ Clus w0 M0 own X Wd D gc kg C W' := by
 have st := St.start W
 have dk0 : (x.kind == 6) = false := by rw [hk]; rfl
 have dk : (x.kind == 8) = true := by simpa using hk
 have hd : decide (x.h < 0) = true ∨ (decide (x.h < 0) = false ∧ decide ((4 : Int) ≤ x.h) = true) ∨ (decide (x.h < 0) = false ∧ decide ((4 : Int) ≤ x.h) = false ∧ (x.h == h) = true) ∨ (decide (x.h < 0) = false ∧ decide ((4 : Int) ≤ x.h) = false ∧ (x.h == h) = false ∧ decide (x.n < 0) = true) ∨ (decide (x.h < 0) = false ∧ decide ((4 : Int) ≤ x.h) = false ∧ (x.h == h) = false ∧ decide (x.n < 0) = false ∧ decide (1099511627776 < x.n) = true) := by
  simp only [decide_eq_true_eq, decide_eq_false_iff_not, beq_iff_eq, beq_eq_false_iff_ne, ne_eq]
  have e1 := four_iff x.h
  rcases hb with h4 | h4
  ·rw [h4] at e1; simp at e1; omega
  ·omega
 clear hk hb
 unfold reqV
 rcases hd with d1 | ⟨d1, d2⟩ | ⟨d1, d2, d3⟩ | ⟨d1, d2, d3, d4⟩ | ⟨d1, d2, d3, d4, d5⟩
 all_goals
  go_enter Try.func23, Try.ntmps23
  go_wp2_with (first | go_skip | (with_reducible refine at_box 36 ?_; refine mem_box st (wanted_none rfl) 36 _ rfl _ rfl _ rfl ?_; clear st; intro g7 w7 hg7 st hg7b; clear hg7b; simp [Act.eval, Act.put, Value.cells, putL] at st) | (with_reducible refine at_alloc 41 ?_; refine mem_alloc st (wanted_none rfl) 41 rfl _ Try.zeroValue41 _ rfl ?_; clear st; intro g8 w8 hg8 st hg8b; clear hg8b; simp [Act.eval, Act.put, Value.cells, putL] at st) | (with_reducible refine at_load 3 ?_; refine memX st 3 _ rfl Try.isAgg3 rfl ?_) | (with_reducible refine at_load 9 ?_; refine memX st 9 _ rfl Try.isAgg9 rfl ?_) | (go_at_call 35; go_must (refine (cluster_no _ _).mono ?_; rintro e w20 ⟨rfl, hb20⟩; replace st := st.call hb20; clear hb20)) | (with_reducible refine at_store 41 ?_; refine memS st 41 _ _ rfl _ Try.sizeOf41 ⟨1, _, _, _, _, _, rfl, rfl, rfl, rfl, rfl, rfl, ?_⟩; clear st; intro w9 st hw9m hw9z; simp [Act.eval, Act.put, Value.cells, putL] at st))
  have hc := fun j => st.cell (i := 1) rfl j
  refine bodyPost_ret (v := RepV (errR 2)) ?hr rfl ⟨rfl, P.below st.below⟩
  case hr => simp [results, Try.results23, go_sem, hc, RepV, errR]; try rfl
end
end Go.Proofs.Ytflfjpopfapogaa
