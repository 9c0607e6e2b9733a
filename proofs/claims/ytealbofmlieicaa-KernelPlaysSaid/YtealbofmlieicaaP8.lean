/- Walks and plain laws, part 8. -/
import Derived.Test.YtealbofmlieicaaP4
import Derived.Test.YtealbofmlieicaaP6
import Derived.Lib.AppendStr
import Derived.Laws.IdiomStrings
import Derived.LoopN
set_option linter.unusedSimpArgs false
set_option linter.unusedVariables false
set_option maxHeartbeats 16000000
set_option maxRecDepth 100000
namespace Go.Proofs.Ytealbofmlieicaa
open Go.RowKit
def RU8 (cs : List Value) (x : UInt8) : Prop := cs = [.int .u8 x.toNat]
def byteAt (v : Int) (k : Nat) : UInt8 := UInt8.ofNat (v.toNat / 256 ^ k % 256)
def be (v : Int) : Nat → List UInt8
 | 0 => []
 | n + 1 => byteAt v n :: be v n
abbrev b1 (x : Int) : UInt8 := byteAt x 0
def levBytes (x : Lev) : List UInt8 := [b1 x.c, b1 x.l]
def certBytes (c : Cert) : List UInt8 := [b1 c.c, b1 c.by_, b1 c.host] ++ be c.till 6
def headBytes (f : Frame) : List UInt8 := [b1 f.src, b1 f.dst] ++ be f.seq 6
def mailBytes (f : Frame) : List UInt8 := [b1 f.thread, b1 f.mail.thread, b1 f.mail.label.length] ++ f.mail.label.flatMap levBytes ++ [b1 f.mail.grants.length] ++ f.mail.grants.map b1 ++ [b1 f.mail.text.size] ++ f.mail.text.data.toList ++ [b1 f.certs.length] ++ f.certs.flatMap certBytes
def encL (f : Frame) : List UInt8 := if f.ack = true then 1 :: headBytes f else 0 :: (headBytes f ++ mailBytes f)
def encR (f : Frame) : ByteArray × Int := if goodFrameC f = 0 then (⟨(encL f).toArray⟩, 0) else (⟨#[]⟩, goodFrameC f)
theorem mail_facts {m : Mail} (h : goodMailC m = 0) : (0 ≤ m.host ∧ m.host < 4) ∧ (0 ≤ m.thread ∧ m.thread < 4) ∧ goodL m.label = true ∧ risingB m.grants 8 = true ∧ m.text.size ≤ 64 := by
 unfold goodMailC at h
 by_cases hr : (four m.host && four m.thread && goodL m.label && risingB m.grants 8) = true
 ·rw [if_pos hr] at h
  simp only [Bool.and_eq_true, four_iff] at hr
  obtain ⟨⟨⟨h1, h2⟩, h3⟩, h4⟩ := hr
  refine ⟨h1, h2, h3, h4, ?_⟩
  by_cases ht : 64 < m.text.size
  ·rw [if_pos ht] at h; omega
  ·omega
 ·rw [if_neg hr] at h; omega
theorem risesI_mem {l : List Int} {p : Int} (h : risesI p l = true) : ∀ x ∈ l, 0 ≤ x ∧ x < 80 := by
 induction l generalizing p with
 | nil => simp
 | cons y l ih =>
  unfold risesI at h
  split at h
  ·rename_i hh
   intro x hx
   rcases List.mem_cons.1 hx with rfl | hx
   ·exact (catOk_iff _).1 hh.2
   ·exact ih h x hx
  ·simp at h
theorem grants_facts {l : List Int} (h : risingB l 8 = true) : l.length ≤ 8 ∧ ∀ x ∈ l, 0 ≤ x ∧ x < 80 := by
 unfold risingB at h
 simp only [Bool.and_eq_true, decide_eq_true_eq] at h
 exact ⟨by omega, risesI_mem h.1⟩
theorem Own.apartT {base : Nat} {e : TypeId} {w : World} {α : Type} {sz : Nat} {R : List Value → α → Prop} {a : Option Addr} {c : Nat} {xs : List α} (h : Own base e w sz R a c xs) {g : Nat} {cs : Array Value} {T : TypeId} {fr : Nat × Nat} (hb : w.heap[g]? = some (.cells cs T fr)) (hT : T ≠ e) : a.map (·.block) ≠ some g := by
 obtain ⟨css, _, _, _, h4⟩ := h
 intro he
 rcases h4.2 with ⟨hv, _⟩ | ⟨g', cap, cur, hv, _, hh, _⟩
 ·simp only [Value.slice.injEq] at hv
  obtain ⟨rfl, _⟩ := hv
  simp at he
 ·simp only [Value.slice.injEq] at hv
  obtain ⟨rfl, _⟩ := hv
  simp at he
  subst he
  rw [hb] at hh
  simp at hh
  exact hT hh.2.1
def byteV (b : UInt8) : Value := .int .u8 b.toNat
theorem bytes_rows (xs : List UInt8) : (xs.map fun b => [byteV b]).flatten = xs.map byteV := by
 induction xs with
 | nil => rfl
 | cons x xs ih => simp [ih]
theorem SlR.bytes {ok : Nat → Prop} {w : World} {g : Nat} {e : TypeId} {cs : List Value} (xs : List UInt8) (hg : w.heap[g]? = some (.cells cs.toArray e (0, 0))) (hcs : cs = xs.map byteV) (ho : ok g) (hm : xs.length ≤ maxLen) : SlR ok w 1 RU8 (some ⟨g, 0, none⟩) xs.length xs := by
 refine ⟨Nat.le_refl _, hm, by simp, fun i y hy => ?_⟩
 have hi := (gEs hy).1
 refine ⟨g, 0, [byteV y], rfl, ho, (Array.getElem?_eq_some_iff.1 hg).1, rfl, rfl, by simp [byteV, Value.oneCell'], fun j v hv => ?_⟩
 have hj : j = 0 := by have := (gEs hv).1; simp at this; exact this
 subst hj
 simp at hv
 subst hv
 rw [cell_of_row w g _ cs.toArray e (0, 0) hg]
 simp [hcs, hy]
theorem Own.ofBytes {base : Nat} {w : World} {e : TypeId} {a : Option Addr} {c : Nat} {xs : List UInt8} (h : w.ownsRow base e 1 (.slice a xs.length c) xs.length (xs.map byteV)) : Own base e w 1 RU8 a c xs := by
 refine ⟨xs.map fun b => [byteV b], by simp, ?_, fun i x cs hx hc => ?_, ?_⟩
 ·intro cs hcs
  obtain ⟨b, _, rfl⟩ := List.mem_map.1 hcs
  simp [byteV, Value.oneCell']
 ·simp only [List.getElem?_map, hx, Option.map_some, Option.some.injEq] at hc
  exact hc.symm
 ·rw [bytes_rows]
  exact h
theorem Own.toBytes {base : Nat} {w : World} {e : TypeId} {a : Option Addr} {c : Nat} {xs : List UInt8} (h : Own base e w 1 RU8 a c xs) : w.ownsRow base e 1 (.slice a xs.length c) xs.length (xs.map byteV) := by
 obtain ⟨css, h1, h2, h3, h4⟩ := h
 have e1 : css = xs.map fun b => [byteV b] := by
  apply List.ext_getElem?
  intro i
  by_cases hi : i < xs.length
  ·have := h3 i xs[i] css[i] (by simp [hi]) (by simp [h1, hi])
   simp only [List.getElem?_map]
   rw [gEg (by omega), gEg hi, this]
   rfl
  ·simp [hi, h1, Nat.not_lt.1 hi]
 rw [e1, bytes_rows] at h4
 exact h4
theorem Own.byteCell {base : Nat} {e : TypeId} {w : World} {g c : Nat} {xs : List UInt8} (h : Own base e w 1 RU8 (some ⟨g, 0, none⟩) c xs) (j : Nat) (hj : j < xs.length) : w.cell? ((⟨g, 0, none⟩ : Addr).add j) = some (.int .u8 (xs[j].toNat : Int)) := by
 obtain ⟨b, o, cs, ha, _, _, hr, _, _, hc⟩ := (h.slr (ok := fun _ => True) fun _ _ => trivial).2.2.2 j xs[j] (by simp [hj])
 simp at ha
 obtain ⟨rfl, rfl⟩ := ha
 rw [hr] at hc
 have := hc 0 _ rfl
 simpa [add_plain] using this
theorem Own.string {P : Program} {base : Nat} {e : TypeId} {w : World} {g c : Nat} {xs : List UInt8} (h : Own base e w 1 RU8 (some ⟨g, 0, none⟩) c xs) (src dst e' : TypeId) (hs : P.underlying src = some (.slice e')) (he : P.underlying e' = some (.int .u8)) (hd : P.underlying dst = some .string) :
  (convert src dst (.slice (some ⟨g, 0, none⟩) xs.length c)).run P w = .ok (.string ⟨xs.toArray⟩) w :=
 run_convert_bytes_back (P := P) w src dst e' ⟨g, 0, none⟩ c xs hs he hd fun j hj => h.byteCell j hj
theorem Own.set {base : Nat} {e : TypeId} {w : World} {g c : Nat} {xs : List UInt8} (h : Own base e w 1 RU8 (some ⟨g, 0, none⟩) c xs) (j : Nat) (y : UInt8) : Own base e (w.setCell ⟨g, j, none⟩ (byteV y)) 1 RU8 (some ⟨g, 0, none⟩) c (xs.set j y) ∧ w.grownBy (w.setCell ⟨g, j, none⟩ (byteV y)) (some g) := by
 obtain ⟨s1, s2⟩ := World.ownsRow.stored h.toBytes j (byteV y)
 exact ⟨Own.ofBytes (by simpa [List.map_set] using s1), s2⟩
theorem St.callM {M : List Nat} {w0 w w' : World} {own : Blks} (h : St M w0 w own) {i g : Nat} {T : TypeId} {cs cs' : List Value} (hi : own[i]? = some (g, T, cs)) (h' : St [g] w w' [(g, T, cs')]) : St M w0 w' (own.set i (g, T, cs')) := by
 have hin : (g, T, cs) ∈ own := mgE hi
 have hilt : i < own.length := (gEs hi).1
 have hget : own[i] = (g, T, cs) := (gEs hi).2
 have hids : (own.set i (g, T, cs')).map (·.1) = own.map (·.1) := by
  apply List.ext_getElem?
  intro j
  simp only [List.getElem?_map, List.getElem?_set]
  by_cases hj : i = j
  ·subst hj; simp [hilt, hget]
  ·simp [hj]
 refine ⟨h'.os.trans h.os, h'.tape.trans h.tape, h'.output.trans h.output, Nat.le_trans h.size h'.size, ?_, ?_, ?_, ?_⟩
 ·intro b hb hM
  have hbg : b ≠ g := by
   rintro rfl
   rcases h.mine _ hin with hm | hm
   ·exact hM hm
   ·simp at hm; omega
  rw [h'.frame b (Nat.lt_of_lt_of_le hb h.size) (by simp [hbg])]; exact h.frame b hb hM
 ·intro x hx
  obtain ⟨j, hj⟩ := List.mem_iff_getElem?.1 hx
  rw [List.getElem?_set] at hj
  by_cases hij : i = j
  ·subst hij; simp [hilt] at hj; subst hj; exact h'.blk _ (by simp)
  ·rw [if_neg hij] at hj
   have hxin := mgE hj
   have hne : x.1 ≠ g := by
    have hp := List.pairwise_iff_getElem.1 h.ne
    have hjl := (gEs hj).1
    have hjx := (gEs hj).2
    rcases Nat.lt_or_gt_of_ne hij with hlt | hlt
    ·have := hp i j hilt hjl hlt; rw [hget, hjx] at this; exact fun e => this e.symm
    ·have := hp j i hjl hilt hlt; rw [hget, hjx] at this; exact this
   rw [h'.frame _ (h.lt hxin) (by simp [hne])]; exact h.blk x hxin
 ·intro x hx
  have : x.1 ∈ (own.set i (g, T, cs')).map (·.1) := List.mem_map.2 ⟨x, hx, rfl⟩
  rw [hids] at this
  obtain ⟨y, hy, e⟩ := List.mem_map.1 this
  rw [← e]; exact h.mine y hy
 ·have : ((own.set i (g, T, cs')).map (·.1)).Pairwise (·≠ ·) := by rw [hids]; exact List.pairwise_map.2 h.ne
  exact List.pairwise_map.1 this
theorem kernel_New2 (w : World) : Calls Try.prog 4 #[.int .i64 2] w fun e w' => ∃ g, e = .returned (.tuple #[.pointer (some ⟨g, 0, none⟩), .int .i64 0]) ∧ w.heap.size ≤ g ∧ St [] w w' [(g, 58, [.int .i64 2, .slice none 0 0, .slice none 0 0, .string ⟨#[]⟩, .slice none 0 0, .slice none 0 0, .slice none 0 0, .slice none 0 0, .string ⟨#[]⟩, .slice none 0 0, .slice none 0 0, .slice none 0 0, .slice none 0 0, .string ⟨#[]⟩, .slice none 0 0, .slice none 0 0, .slice none 0 0, .slice none 0 0, .string ⟨#[]⟩, .slice none 0 0, .slice none 0 0, .int .i64 0])] := by
 have st := St.start w
 go_enter Try.func4, Try.ntmps4
 go_wp2_with (first | go_skip | (with_reducible refine mB 58 st ?_; clear st; intro g1 w1 hg1 st))
 go_ret2
 exact ⟨g1, rfl, hg1, st⟩
theorem search_none (w : World) (c : Int) : Calls Try.prog 51 #[.slice none 0 0, .int .i64 c] w fun e w' => e = .returned (.tuple #[.int .i64 0, .bool false]) ∧ w = w' := by
 go_enter Try.func51, Try.ntmps51
 go_wp2
 refine wp_loop_rounds 1 ?_
 rw [rounds_succ]
 go_wp2
 go_ret2
 exact ⟨rfl, rfl⟩
theorem clone_none (w : World) : Calls Try.prog 53 #[.slice none 0 0] w fun e w' => e = .returned (.slice none 0 0) ∧ w = w' := by
 have hcmp := fun (ww : World) (a : Option Addr) (n c : Nat) => Lib.run_eql_slice_nil ww 31 _ a n c 0 0 Try.underlying31
 go_enter Try.func53, Try.ntmps53
 go_wp2
 go_ret
 exact ⟨rfl, rfl⟩
theorem insert_none (ok : Nat → Prop) (w : World) (b : Addr) (c : Int) (hR : SlR ok w 1 RInt (some b) 1 [c]) : Calls Try.prog 52 #[.slice none 0 0, .int .i64 0, .slice (some b) 1 1] w fun e w' => ∃ a k, e = .returned (.slice a 1 k) ∧ Below w.heap.size w w' ∧ Own w.heap.size 3 w' 1 RInt a k [c] := by
 obtain ⟨i0, hi, hz0, hz1, hz2⟩ := info_parts info_int
 go_enter Try.func52, Try.ntmps52
 go_wp2_with (first | go_skip | (at_builtin; go_must (refine wpList_copy (wanted_none rfl) _ _ 31 rfl 3 i0 _ 1 8 Try.underlying31 hi hz0 hz1 hz2 rfl (by decide) (ys := [c]) rfl rfl rfl hR (by simp) ?_; intro a k w' hO hb)))
 go_ret
 exact ⟨a, k, rfl, hb, hO⟩
theorem own_first (w : World) (g : Nat) (hb : w.heap[g]? = some (.cells ([.int .i64 2, .slice none 0 0, .slice none 0 0, .string ⟨#[]⟩, .slice none 0 0, .slice none 0 0, .slice none 0 0, .slice none 0 0, .string ⟨#[]⟩, .slice none 0 0, .slice none 0 0, .slice none 0 0, .slice none 0 0, .string ⟨#[]⟩, .slice none 0 0, .slice none 0 0, .slice none 0 0, .slice none 0 0, .string ⟨#[]⟩, .slice none 0 0, .slice none 0 0, .int .i64 0]).toArray 58 (0, 0))) (c : Int) :
  Calls Try.prog 33 #[.pointer (some ⟨g, 6, none⟩), .int .i64 c] w fun e w' => ∃ a k, e = .returned (.int .i64 0) ∧ St [g] w w' [(g, 58, [.int .i64 2, .slice none 0 0, .slice none 0 0, .string ⟨#[]⟩, .slice none 0 0, .slice none 0 0, .slice none 0 0, .slice a 1 k, .string ⟨#[]⟩, .slice none 0 0, .slice none 0 0, .slice none 0 0, .slice none 0 0, .string ⟨#[]⟩, .slice none 0 0, .slice none 0 0, .slice none 0 0, .slice none 0 0, .string ⟨#[]⟩, .slice none 0 0, .slice none 0 0, .int .i64 0])] ∧ Own w.heap.size 3 w' 1 RInt a k [c] := by
 have hlt : g < w.heap.size := (Array.getElem?_eq_some_iff.1 hb).1
 have st : St [g] w w [(g, 58, [.int .i64 2, .slice none 0 0, .slice none 0 0, .string ⟨#[]⟩, .slice none 0 0, .slice none 0 0, .slice none 0 0, .slice none 0 0, .string ⟨#[]⟩, .slice none 0 0, .slice none 0 0, .slice none 0 0, .slice none 0 0, .string ⟨#[]⟩, .slice none 0 0, .slice none 0 0, .slice none 0 0, .slice none 0 0, .string ⟨#[]⟩, .slice none 0 0, .slice none 0 0, .int .i64 0])] := ⟨rfl, rfl, rfl, Nat.le_refl _, fun _ _ _ => rfl, by simp; exact hb, by simp, by simp⟩
 clear hb
 go_enter Try.func33, Try.ntmps33
 go_wp2_with (first
  | go_skip | (with_reducible refine mX st Try.isAgg31 ?_)
  | (go_at_call 51; refine (search_none _ _).mono ?_; rintro e v1 ⟨rfl, rfl⟩)
  | (go_at_call 53; refine (clone_none _).mono ?_; rintro e v1 ⟨rfl, rfl⟩)
  | ((with_reducible refine at_build1 31 ?_; refine wpList_build1 st (wanted_none rfl) 31 3 _ rfl Try.underlying31 1 Try.sizeOf3 (by decide) (by decide) _ Try.zeroValue3 _ rfl rfl ?_; have stw2 := st; clear st; intro g2 w2 hg2 hg2e st hw2b hw2z; simp [Act.eval, Act.put, Value.cells, putL] at st); clear hg2e)
  | (go_at_call 52; go_must (have sz3 := st.size; refine (insert_none (fun _ => True) _ _ c (SlR.ofBlk (R := RInt) (sz := 1) (x := c) (st.blk _ (mgE (i := 1) rfl)) rfl rfl rfl trivial)).mono ?_; rintro e v3 ⟨a, k, rfl, hb3, hO⟩; replace st := st.call hb3))
  | (with_reducible refine mS 0 st Try.sizeOf31 ?_; clear st; intro w4 st hw4m hw4z))
 go_ret
 refine ⟨a, k, rfl, st.sub (by simp) (by simp), ?_⟩
 have hO' := hO.le sz3
 exact hO'.move (fun b h1 h2 => hw4m b (by omega)) (fun _ _ h => h)
theorem call_first (w : World) (g : Nat) (hb : w.heap[g]? = some (.cells ([.int .i64 2, .slice none 0 0, .slice none 0 0, .string ⟨#[]⟩, .slice none 0 0, .slice none 0 0, .slice none 0 0, .slice none 0 0, .string ⟨#[]⟩, .slice none 0 0, .slice none 0 0, .slice none 0 0, .slice none 0 0, .string ⟨#[]⟩, .slice none 0 0, .slice none 0 0, .slice none 0 0, .slice none 0 0, .string ⟨#[]⟩, .slice none 0 0, .slice none 0 0, .int .i64 0]).toArray 58 (0, 0))) :
  Calls Try.prog 13 #[.pointer (some ⟨g, 0, none⟩), .int .i64 1, .agg #[.int .i64 1, .int .i64 0, .int .i64 0, .int .i64 0, .int .i64 0, .slice none 0 0, .slice none 0 0, .string .empty]] w fun e w' => ∃ a k, e = .returned (.agg #[.int .i64 0, .int .i64 40, .string ⟨#[]⟩]) ∧ St [g] w w' [(g, 58, [.int .i64 2, .slice none 0 0, .slice none 0 0, .string ⟨#[]⟩, .slice none 0 0, .slice none 0 0, .slice none 0 0, .slice a 1 k, .string ⟨#[]⟩, .slice none 0 0, .slice none 0 0, .slice none 0 0, .slice none 0 0, .string ⟨#[]⟩, .slice none 0 0, .slice none 0 0, .slice none 0 0, .slice none 0 0, .string ⟨#[]⟩, .slice none 0 0, .slice none 0 0, .int .i64 1])] ∧ Own w.heap.size 3 w' 1 RInt a k [40] := by
 have hlt : g < w.heap.size := (Array.getElem?_eq_some_iff.1 hb).1
 have st : St [g] w w [(g, 58, [.int .i64 2, .slice none 0 0, .slice none 0 0, .string ⟨#[]⟩, .slice none 0 0, .slice none 0 0, .slice none 0 0, .slice none 0 0, .string ⟨#[]⟩, .slice none 0 0, .slice none 0 0, .slice none 0 0, .slice none 0 0, .string ⟨#[]⟩, .slice none 0 0, .slice none 0 0, .slice none 0 0, .slice none 0 0, .string ⟨#[]⟩, .slice none 0 0, .slice none 0 0, .int .i64 0])] := ⟨rfl, rfl, rfl, Nat.le_refl _, fun _ _ _ => rfl, by simp; exact hb, by simp, by simp⟩
 clear hb
 go_enter Try.func13, Try.ntmps13
 go_wp2_with (first
  | go_skip | (with_reducible refine mB 40 st ?_; clear st; intro g1 w1 hg1 st) | (with_reducible refine mA st Try.zeroValue52 ?_; clear st; intro g2 w2 hg2 st) | (with_reducible refine mX st Try.isAgg9 ?_) | (with_reducible refine mX st Try.isAgg3 ?_)
  | (go_at_call 33; go_must (refine (own_first _ g (st.blk _ (mgE (i := 0) rfl)) 40).mono ?_; rintro e v3 ⟨a, k, rfl, st3, hO⟩; have sz3 := st.size; have l0 := st.ltAt (i := 0) rfl; have l2 := st.ltAt (i := 2) rfl; replace st := st.callM (i := 0) rfl st3; simp only [List.set_cons_zero] at st))
  | (with_reducible refine mS 0 st Try.sizeOf3 ?_; clear st; intro w4 st hw4m hw4z) | (with_reducible refine mS 2 st Try.sizeOf52 ?_; clear st; intro w5 st hw5m hw5z))
 refine lex_still st (by kernel_rfl) 11 rfl ?_; clear st; intro hI
 refine lexS 0 rfl hI ?_
 refine lexS 1 rfl hI ?_
 refine lexS 2 rfl hI ?_
 refine lexT 3 rfl hI (fun W hW => St.run_load hW 0 3 _ rfl Try.isAgg3 rfl rfl rfl) ?_
 refine lexS 4 rfl hI ?_
 refine lexS 5 rfl hI ?_
 refine lexS 6 rfl hI ?_
 refine lexS 7 rfl hI ?_
 refine lexT 8 rfl hI (fun W hW => St.run_load hW 0 3 _ rfl Try.isAgg3 rfl rfl rfl) ?_
 refine lexS 9 rfl hI ?_
 refine lexS 10 rfl hI ?_
 refine lex_done (by decide +kernel) ?_
 have st := hI
 clear hI
 go_wp2_with (first
  | go_skip | (with_reducible refine mX st Try.isAgg3 ?_)
  | (go_at_call 33; go_must (refine (own_first _ g (st.blk _ (mgE (i := 0) rfl)) 40).mono ?_; rintro e v3 ⟨a, k, rfl, st3, hO⟩; have sz3 := st.size; have l0 := st.ltAt (i := 0) rfl; have l2 := st.ltAt (i := 2) rfl; replace st := st.callM (i := 0) rfl st3; simp only [List.set_cons_zero] at st))
  | (with_reducible refine mS 0 st Try.sizeOf3 ?_; clear st; intro w4 st hw4m hw4z) | (with_reducible refine mS 2 st Try.sizeOf52 ?_; clear st; intro w5 st hw5m hw5z))
 have hc := fun j => st.cell (i := 2) rfl j
 refine bodyPost_ret (v := _) ?hr rfl ⟨a, k, rfl, st.sub (by simp) (by simp), (hO.move (fun b h1 h2 => (hw5m b (by omega)).trans (hw4m b (by omega))) fun _ _ h => h).le sz3⟩
 case hr => simp [results, Try.results13, go_sem, hc]; try rfl
theorem kernel_levels (ok : Nat → Prop) (w : World) (a : Option Addr) (c : Nat) (l : List Lev) (hl : l.length * 16 ≤ 140737488355328) (hR : SlR ok w 2 RLev a c l) :
  Calls Try.prog 17 #[.slice a l.length c] w fun e w' => ∃ a' c', e = .returned (.slice a' l.length c') ∧ Below w.heap.size w w' ∧ Own w.heap.size 88 w' 2 RLev a' c' l := by
 obtain ⟨i0, hi, hz0, hz1, hz2⟩ := info_parts info_Level
 go_enter Try.func17, Try.ntmps17
 go_wp2_with (first | go_skip | (at_builtin; go_must (refine wpList_copy (wanted_none rfl) _ _ 30 rfl 88 i0 _ 2 16 Try.underlying30 hi hz0 hz1 hz2 rfl (by decide) rfl rfl rfl hR hl ?_; intro a' c' w' hO hb)))
 go_ret
 exact ⟨a', c', rfl, hb, hO⟩
theorem kernel_numbers (ok : Nat → Prop) (w : World) (a : Option Addr) (c : Nat) (l : List Int) (hl : l.length * 8 ≤ 140737488355328) (hR : SlR ok w 1 RInt a c l) :
  Calls Try.prog 18 #[.slice a l.length c] w fun e w' => ∃ a' c', e = .returned (.slice a' l.length c') ∧ Below w.heap.size w w' ∧ Own w.heap.size 3 w' 1 RInt a' c' l := by
 obtain ⟨i0, hi, hz0, hz1, hz2⟩ := info_parts info_int
 go_enter Try.func18, Try.ntmps18
 go_wp2_with (first | go_skip | (at_builtin; go_must (refine wpList_copy (wanted_none rfl) _ _ 31 rfl 3 i0 _ 1 8 Try.underlying31 hi hz0 hz1 hz2 rfl (by decide) rfl rfl rfl hR hl ?_; intro a' c' w' hO hb)))
 go_ret
 exact ⟨a', c', rfl, hb, hO⟩
theorem thread_first (w : World) (g : Nat) (a : Option Addr) (k : Nat) (hb : w.heap[g]? = some (.cells ([.int .i64 2, .slice none 0 0, .slice none 0 0, .string ⟨#[]⟩, .slice none 0 0, .slice none 0 0, .slice none 0 0, .slice a 1 k, .string ⟨#[]⟩, .slice none 0 0, .slice none 0 0, .slice none 0 0, .slice none 0 0, .string ⟨#[]⟩, .slice none 0 0, .slice none 0 0, .slice none 0 0, .slice none 0 0, .string ⟨#[]⟩, .slice none 0 0, .slice none 0 0, .int .i64 1]).toArray 58 (0, 0))) (x : Int) (hR : SlR (fun b => b ≠ g) w 1 RInt a k [x]) :
  Calls Try.prog 16 #[.pointer (some ⟨g, 0, none⟩), .int .i64 1] w fun e w' => ∃ v a' k', e = .returned (.agg #[v, .slice a' 1 k', .string ⟨#[]⟩, .slice none 0 0, .slice none 0 0]) ∧ Below w.heap.size w w' := by
 have hlt : g < w.heap.size := (Array.getElem?_eq_some_iff.1 hb).1
 have st : St [] w w [] := St.start w
 have hg : ∀ W, Below w.heap.size w W → W.heap[g]? = some (.cells ([.int .i64 2, .slice none 0 0, .slice none 0 0, .string ⟨#[]⟩, .slice none 0 0, .slice none 0 0, .slice none 0 0, .slice a 1 k, .string ⟨#[]⟩, .slice none 0 0, .slice none 0 0, .slice none 0 0, .slice none 0 0, .string ⟨#[]⟩, .slice none 0 0, .slice none 0 0, .slice none 0 0, .slice none 0 0, .string ⟨#[]⟩, .slice none 0 0, .slice none 0 0, .int .i64 1]).toArray 58 (0, 0)) := fun W h => (h.block g hlt).trans hb
 have HL := qh (fun (W : World) => kernel_levels (fun _ => True) W none 0 [] (by simp) (SlR.nil _ _ _ _))
 have HN := qh (fun (W : World) (h : Below w.heap.size w W) => kernel_numbers (fun b => b ≠ g) W a k [x] (by simp) (hR.below h))
 have HC := qh hg
 clear hb hg
 go_enter Try.func16, Try.ntmps16
 go_wp2_with (first
  | go_skip | (with_reducible refine mA st Try.zeroValue35 ?_; clear st; intro g1 w1 hg1 st)
  | (with_reducible refine at_load 35 ?_; refine wpList_load_cells (wanted_none rfl) 35 _ rfl Try.isAgg35 _ Try.sizeOf35 g 6 rfl [.slice none 0 0, .slice a 1 k, .string ⟨#[]⟩, .slice none 0 0, .slice none 0 0] rfl (cells_at (HC.out _ st.below) 6 5 _ rfl rfl) ?_)
  | (with_reducible refine mA st Try.zeroValue35 ?_; clear st; intro g2 w2 hg2 st) | (with_reducible refine mS 1 st Try.sizeOf35 ?_; clear st; intro w3 st hw3m hw3z))
 refine lex_still st (by kernel_rfl) 11 rfl ?_; clear st; intro hI
 refine lexS 0 rfl hI ?_
 refine lexT 1 rfl hI (fun W hW => St.run_load hW 1 30 _ rfl Try.isAgg30 rfl rfl rfl) ?_
 refine lexS 3 rfl hI ?_
 refine lexT 4 rfl hI (fun W hW => St.run_load hW 1 31 _ rfl Try.isAgg31 rfl rfl rfl) ?_
 refine lexS 6 rfl hI ?_
 refine lexT 7 rfl hI (fun W hW => St.run_load hW 1 9 _ rfl Try.isAgg9 rfl rfl rfl) ?_
 have st := hI
 refine lex_each [2, 9] (by decide +kernel) (by decide) ?_; intro i hi K hK; simp only [List.mem_cons, List.not_mem_nil, or_false] at hi; rcases hi with rfl | rfl <;> refine ⟨_, rfl, (by first | exact wanted_none rfl | exact wanted_some rfl rfl), ?_⟩
 ·refine wp_callee (f := 17) (by first | (go_simp; done) | (go_simp; rfl)) ?_
  refine (HL.out _).mono ?_
  rintro e v4 ⟨a4, k4, rfl, hb4, -⟩
  refine ⟨_, rfl, ?_⟩
  replace st := st.call hb4
  clear hb4
  refine hK _ _ (st.take 2) ?_; clear hK; simp only [kP, kA, kS, kZ]
  have hI := st.take 2
  refine lex_each [5, 9] (by decide +kernel) (by decide) ?_; intro i hi K hK; simp only [List.mem_cons, List.not_mem_nil, or_false] at hi; rcases hi with rfl | rfl <;> refine ⟨_, rfl, (by first | exact wanted_none rfl | exact wanted_some rfl rfl), ?_⟩
  ·refine wp_callee (f := 18) (by first | (go_simp; done) | (go_simp; rfl)) ?_
   refine (HN.out _ st.below).mono ?_
   rintro e v5 ⟨a5, k5, rfl, hb5, -⟩
   refine ⟨_, rfl, ?_⟩
   replace st := st.call hb5
   clear hb5
   refine hK _ _ (st.take 2) ?_; clear hK; simp only [kP, kA, kS, kZ]
   have hI := st.take 2
   refine lexS 8 rfl hI ?_
   refine lexO 9 rfl fun K hK => ?_
   refine wp_alloc st 35 rfl _ Try.zeroValue35 _ rfl ?_; clear st; intro g6 w6 hg6 st hg6b; simp [Act.eval, Act.put, Value.cells, putL] at st
   refine hK _ _ (st.take 2) ?_; clear hK; simp only [kP, kA, kS, kZ]
   have hI := st.take 2
   refine lexO 10 rfl fun K hK => ?_
   refine wp_store' st 35 _ _ rfl _ Try.sizeOf35 ⟨2, _, _, _, _, _, rfl, rfl, rfl, rfl, rfl, rfl, ?_⟩; clear st; intro w7 st hw7m hw7z; simp [Act.eval, Act.put, Value.cells, putL] at st
   refine hK _ _ (st.take 2) ?_; clear hK; simp only [kP, kA, kS, kZ]
   have hI := st.take 2
   refine lex_done (by decide +kernel) ?_
   go_wp2_with (first | go_skip | (with_reducible refine mX st Try.isAgg32 ?_))
   refine wp_loop_rounds 1 ?_
   rw [rounds_succ]
   go_wp2_with (first | go_skip | (with_reducible refine mX st Try.isAgg33 ?_))
   refine wp_loop_rounds 1 ?_
   rw [rounds_succ]
   go_wp2_with (first | go_skip | (with_reducible refine mXA st Try.isAgg35 Try.sizeOf35 ?_) | (with_reducible refine mS 0 st Try.sizeOf35 ?_; clear st; intro w8 st hw8m hw8z))
   have hc := fun j => st.cell (i := 0) rfl j
   refine bodyPost_ret (v := .agg #[.slice a4 0 k4, .slice a5 1 k5, .string ⟨#[]⟩, .slice none 0 0, .slice none 0 0]) (by simp [results, Try.results16, go_sem, hc]; try rfl) rfl ⟨_, _, _, rfl, st.below⟩
  ·refine wp_alloc st 35 rfl _ Try.zeroValue35 _ rfl ?_; clear st; intro g6 w6 hg6 st hg6b; simp [Act.eval, Act.put, Value.cells, putL] at st
   refine hK _ _ (st.take 2) ?_; clear hK; simp only [kP, kA, kS, kZ]
   have hI := st.take 2
   refine lexO 5 rfl fun K hK => ?_
   refine wp_callee (f := 18) (by first | (go_simp; done) | (go_simp; rfl)) ?_
   refine (HN.out _ st.below).mono ?_
   rintro e v5 ⟨a5, k5, rfl, hb5, -⟩
   refine ⟨_, rfl, ?_⟩
   replace st := st.call hb5
   clear hb5
   refine hK _ _ (st.take 2) ?_; clear hK; simp only [kP, kA, kS, kZ]
   have hI := st.take 2
   refine lexS 8 rfl hI ?_
   refine lexO 10 rfl fun K hK => ?_
   refine wp_store' st 35 _ _ rfl _ Try.sizeOf35 ⟨2, _, _, _, _, _, rfl, rfl, rfl, rfl, rfl, rfl, ?_⟩; clear st; intro w7 st hw7m hw7z; simp [Act.eval, Act.put, Value.cells, putL] at st
   refine hK _ _ (st.take 2) ?_; clear hK; simp only [kP, kA, kS, kZ]
   have hI := st.take 2
   refine lex_done (by decide +kernel) ?_
   go_wp2_with (first | go_skip | (with_reducible refine mX st Try.isAgg32 ?_))
   refine wp_loop_rounds 1 ?_
   rw [rounds_succ]
   go_wp2_with (first | go_skip | (with_reducible refine mX st Try.isAgg33 ?_))
   refine wp_loop_rounds 1 ?_
   rw [rounds_succ]
   go_wp2_with (first | go_skip | (with_reducible refine mXA st Try.isAgg35 Try.sizeOf35 ?_) | (with_reducible refine mS 0 st Try.sizeOf35 ?_; clear st; intro w8 st hw8m hw8z))
   have hc := fun j => st.cell (i := 0) rfl j
   refine bodyPost_ret (v := .agg #[.slice a4 0 k4, .slice a5 1 k5, .string ⟨#[]⟩, .slice none 0 0, .slice none 0 0]) (by simp [results, Try.results16, go_sem, hc]; try rfl) rfl ⟨_, _, _, rfl, st.below⟩
 ·refine wp_alloc st 35 rfl _ Try.zeroValue35 _ rfl ?_; clear st; intro g6 w6 hg6 st hg6b; simp [Act.eval, Act.put, Value.cells, putL] at st
  refine hK _ _ (st.take 2) ?_; clear hK; simp only [kP, kA, kS, kZ]
  have hI := st.take 2
  refine lexO 2 rfl fun K hK => ?_
  refine wp_callee (f := 17) (by first | (go_simp; done) | (go_simp; rfl)) ?_
  refine (HL.out _).mono ?_
  rintro e v4 ⟨a4, k4, rfl, hb4, -⟩
  refine ⟨_, rfl, ?_⟩
  replace st := st.call hb4
  clear hb4
  refine hK _ _ (st.take 2) ?_; clear hK; simp only [kP, kA, kS, kZ]
  have hI := st.take 2
  refine lexO 5 rfl fun K hK => ?_
  refine wp_callee (f := 18) (by first | (go_simp; done) | (go_simp; rfl)) ?_
  refine (HN.out _ st.below).mono ?_
  rintro e v5 ⟨a5, k5, rfl, hb5, -⟩
  refine ⟨_, rfl, ?_⟩
  replace st := st.call hb5
  clear hb5
  refine hK _ _ (st.take 2) ?_; clear hK; simp only [kP, kA, kS, kZ]
  have hI := st.take 2
  refine lexS 8 rfl hI ?_
  refine lexO 10 rfl fun K hK => ?_
  refine wp_store' st 35 _ _ rfl _ Try.sizeOf35 ⟨2, _, _, _, _, _, rfl, rfl, rfl, rfl, rfl, rfl, ?_⟩; clear st; intro w7 st hw7m hw7z; simp [Act.eval, Act.put, Value.cells, putL] at st
  refine hK _ _ (st.take 2) ?_; clear hK; simp only [kP, kA, kS, kZ]
  have hI := st.take 2
  refine lex_done (by decide +kernel) ?_
  go_wp2_with (first | go_skip | (with_reducible refine mX st Try.isAgg32 ?_))
  refine wp_loop_rounds 1 ?_
  rw [rounds_succ]
  go_wp2_with (first | go_skip | (with_reducible refine mX st Try.isAgg33 ?_))
  refine wp_loop_rounds 1 ?_
  rw [rounds_succ]
  go_wp2_with (first | go_skip | (with_reducible refine mXA st Try.isAgg35 Try.sizeOf35 ?_) | (with_reducible refine mS 0 st Try.sizeOf35 ?_; clear st; intro w8 st hw8m hw8z))
  have hc := fun j => st.cell (i := 0) rfl j
  refine bodyPost_ret (v := .agg #[.slice a4 0 k4, .slice a5 1 k5, .string ⟨#[]⟩, .slice none 0 0, .slice none 0 0]) (by simp [results, Try.results16, go_sem, hc]; try rfl) rfl ⟨_, _, _, rfl, st.below⟩
theorem calls_yes (w : World) : Calls Try.prog 5 #[] w fun e w' => e = .returned (.bool true) ∧ Below w.heap.size w w' := by
 have hf1 : ∀ W : World, (Instr.field 52 (.agg #[.int .i64 0, .int .i64 40, .string ⟨#[]⟩]) 1).run Try.prog W = .ok (.int .i64 40) W := fun _ => by kernel_rfl
 have hf2 : ∀ (v : Value) (a' : Option Addr) (k' : Nat) (W : World), (Instr.field 35 (.agg #[v, .slice a' 1 k', .string ⟨#[]⟩, .slice none 0 0, .slice none 0 0]) 1).run Try.prog W = .ok (.slice a' 1 k') W := fun _ _ _ _ => by kernel_rfl
 have st := St.start w
 go_enter Try.func5, Try.ntmps5
 go_wp2_with (first
  | go_skip
  | (go_at_call 4; go_must (refine (kernel_New2 _).mono ?_; rintro e v1 ⟨g, rfl, hg, st1⟩; replace st := st.join st1; simp only [List.nil_append] at st; clear st1))
  | (go_at_call 13; go_must (have lg := st.ltAt (i := 0) rfl; refine (call_first _ g (st.blk _ (mgE (i := 0) rfl))).mono ?_; rintro e v2 ⟨a, k, rfl, st2, hO⟩; replace st := st.callM (i := 0) rfl st2; simp only [List.set_cons_zero] at st))
  | (go_at_call 16; go_must (refine (thread_first _ g a k (st.blk _ (mgE (i := 0) rfl)) 40 (hO.slr fun b hb => by omega)).mono ?_; rintro e v3 ⟨v, a', k', rfl, hb3⟩; replace st := st.call hb3; clear hb3)))
 go_ret
 exact ⟨rfl, st.below⟩
theorem Own.turn {base : Nat} {e : TypeId} {w w' : World} {α : Type} {sz : Nat} {R : List Value → α → Prop} {a : Option Addr} {c : Nat} {xs : List α} {g : Nat} {own : Blks} (h : Own base e w sz R a c xs) (ht : St [g] w w' own) {cs : Array Value} {T : TypeId} {fr : Nat × Nat} (hg : w.heap[g]? = some (.cells cs T fr)) (hT : T ≠ e) : Own base e w' sz R a c xs := by
 have hne := h.apartT hg hT
 obtain ⟨css, h1, h2, h3, h4⟩ := h
 refine ⟨css, h1, h2, h3, h4.1, ?_⟩
 rcases h4.2 with h | ⟨k, cap, cur, hv, hk, hh, r⟩
 ·exact .inl h
 ·refine .inr ⟨k, cap, cur, hv, hk, ?_, r⟩
  have hkl := (Array.getElem?_eq_some_iff.1 hh).1
  rw [ht.frame k hkl (by
   simp only [Value.slice.injEq] at hv
   obtain ⟨rfl, _⟩ := hv
   simp at hne ⊢
   exact hne)]
  exact hh
theorem Own.stored {base : Nat} {e : TypeId} {w w' : World} {α : Type} {sz : Nat} {R : List Value → α → Prop} {a : Option Addr} {c : Nat} {xs : List α} {g : Nat} (h : Own base e w sz R a c xs) {cs : Array Value} {T : TypeId} {fr : Nat × Nat} (hg : w.heap[g]? = some (.cells cs T fr)) (hT : T ≠ e) (hm : ∀ b, b ≠ g → w'.heap[b]? = w.heap[b]?) : Own base e w' sz R a c xs := by
 have hne := h.apartT hg hT
 obtain ⟨css, h1, h2, h3, h4⟩ := h
 refine ⟨css, h1, h2, h3, h4.1, ?_⟩
 rcases h4.2 with h | ⟨k, cap, cur, hv, hk, hh, r⟩
 ·exact .inl h
 ·refine .inr ⟨k, cap, cur, hv, hk, ?_, r⟩
  rw [hm k (by
   simp only [Value.slice.injEq] at hv
   obtain ⟨rfl, _⟩ := hv
   simp at hne ⊢
   exact hne)]
  exact hh
def FreeB (w : World) (b : Nat) : Prop := ∃ cs e, w.heap[b]? = some (.cells cs e (0, 0))
theorem FreeB.at {w w' : World} {b : Nat} (h : FreeB w b) (e : w'.heap[b]? = w.heap[b]?) : FreeB w' b := by
 obtain ⟨cs, t, h⟩ := h
 exact ⟨cs, t, e.trans h⟩
theorem Own.slrF {base : Nat} {e : TypeId} {w : World} {α : Type} {sz : Nat} {R : List Value → α → Prop} {a : Option Addr} {c : Nat} {xs : List α} (h : Own base e w sz R a c xs) : SlR (fun b => base ≤ b ∧ FreeB w b) w sz R a c xs := by
 have s := h.slr (ok := fun b => base ≤ b) fun _ h => h
 obtain ⟨css, h1, h2, h3, h4⟩ := h
 rcases h4.2 with ⟨hv, hn⟩ | ⟨g, cap, cur, hv, hg, hh, hnc, hm, hs, ht⟩
 ·simp only [Value.slice.injEq] at hv
  obtain ⟨rfl, _, rfl⟩ := hv
  have : xs = [] := List.eq_nil_of_length_eq_zero hn
  subst this
  exact SlR.nil _ _ _ _
 ·simp only [Value.slice.injEq] at hv
  obtain ⟨rfl, _, rfl⟩ := hv
  refine ⟨s.1, s.2.1, s.2.2.1, fun i x hx => ?_⟩
  obtain ⟨b, o, cs, ha, hb, r⟩ := s.2.2.2 i x hx
  have hbg : g = b := by simp at ha; exact ha.1
  exact ⟨b, o, cs, ha, ⟨hb, hbg ▸ ⟨_, _, hh⟩⟩, r⟩
theorem Own.slrFS {base : Nat} {e : TypeId} {M : List Nat} {w0 w : World} {α : Type} {sz : Nat} {R : List Value → α → Prop} {a : Option Addr} {c : Nat} {xs : List α} {own : Blks} (h : Own base e w sz R a c xs) (st : St M w0 w own) (hT : ∀ x ∈ own, x.2.1 ≠ e) :
  SlR (fun b => base ≤ b ∧ b < w.heap.size ∧ b ∉ own.map (·.1) ∧ FreeB w b) w sz R a c xs := by
 have hne := fun x (hx : x ∈ own) => h.apartT (st.blk x hx) (hT x hx)
 have s := h.slrF
 refine ⟨s.1, s.2.1, s.2.2.1, fun i x hx => ?_⟩
 obtain ⟨b, o, cs, ha, hb, hlt, r⟩ := s.2.2.2 i x hx
 refine ⟨b, o, cs, ha, ⟨hb.1, hlt, fun hm => ?_, hb.2⟩, hlt, r⟩
 obtain ⟨y, hy, e2⟩ := List.mem_map.1 hm
 exact hne y hy (by rw [ha, ← e2]; rfl)
abbrev by1 (x : Int) : UInt8 := byteAt x 0
theorem Own.isSome {base : Nat} {e : TypeId} {w : World} {α : Type} {sz : Nat} {R : List Value → α → Prop} {a : Option Addr} {c : Nat} {xs : List α} (h : Own base e w sz R a c xs) (hx : xs ≠ []) : ∃ g, a = some ⟨g, 0, none⟩ := by
 obtain ⟨css, _, _, _, h4⟩ := h
 rcases h4.2 with ⟨_, hn⟩ | ⟨g, cap, cur, hv, _⟩
 ·exact absurd (List.eq_nil_of_length_eq_zero hn) hx
 ·simp only [Value.slice.injEq] at hv
  exact ⟨g, hv.1⟩
section
variable {P : Program} {w : World} {ops : Array Oper} {rest : List Oper} {o : Oper} {A : Act} {Q : Exit → Act → World → Prop} {K : Act → World → Prop}
end
end Go.Proofs.Ytealbofmlieicaa
