/- Walks and plain laws, part 13. -/
import Derived.Test.YtnjjdpiofbajlaaGreatP10
import Derived.Lib.ConvBytes
set_option linter.unusedSimpArgs false
set_option linter.unusedVariables false
set_option maxHeartbeats 16000000
set_option maxRecDepth 100000
namespace Go.Proofs.YtnjjdpiofbajlaaGreat
open Go.RowKit
abbrev takerC (t : Tk) : List Value := [.string ⟨t.2.toArray⟩, .bool t.1]
theorem wp_toBytes {P : Program} {w : World} {o : Oper} {A : Act} {Q : Exit → Act → World → Prop} {K : Act → World → Prop} (src dst e : TypeId) (x : Operand) (ho : o.op = .convert src dst x) (hs : P.underlying src = some .string) (hd : P.underlying dst = some (.slice e)) (he : P.underlying e = some (.int .u8)) (s : List UInt8) (hl : s.length ≤ maxLen) (hx : A.eval x = .string ⟨s.toArray⟩)
  (h : ∀ g c w', SlR (fun _ => True) w' 1 RU8 (some ⟨g, 0, none⟩) s.length s → Below w.heap.size w w' → K (A.put o.dst (.slice (some ⟨g, 0, none⟩) s.length c)) w') : Oper.wp P o A w K Q := by
 have hrun := Lib.run_convert_string_bytes (P := P) w src dst e ⟨s.toArray⟩ hs hd he
 have hsz : (⟨s.toArray⟩ : ByteArray).size = s.length := by show s.toArray.size = _; simp
 have hS : SlR (fun _ => True) (Lib.bytesWorld w e ⟨s.toArray⟩) 1 RU8 (some ⟨w.heap.size, 0, none⟩) s.length s := by
  refine ⟨Nat.le_refl _, hl, by simp, fun i y hy => ?_⟩
  have hi := (gEs hy).1
  refine ⟨w.heap.size, 0, [.int .u8 y.toNat], rfl, trivial, by rw [Lib.bytesWorld_size]; omega, rfl, rfl, by simp [Value.oneCell'], fun j v hv => ?_⟩
  rcases j with _ | j
  ·simp at hv
   subst hv
   have := Lib.bytesWorld_cell w e ⟨s.toArray⟩ i (by rw [hsz]; exact hi)
   simp only [Nat.zero_add, Nat.mul_one, Nat.add_zero]
   rw [this]
   simp [List.getD, hy]
  ·simp at hv
 have hB : Below w.heap.size w (Lib.bytesWorld w e ⟨s.toArray⟩) := ⟨rfl, rfl, rfl, by rw [Lib.bytesWorld_size]; omega, fun b hb => Lib.bytesWorld_at_old w e _ b hb⟩
 unfold Oper.wp
 simp [execOp, ho, hx, hrun, Result.andThen]
 rw [hsz]
 exact h _ _ _ hS hB
theorem at_convert {P : Program} {ops : Array Oper} {Q : Exit → Act → World → Prop} {rest : List Oper} {A : Act} {w : World} {d : Option Tmp} {ty : TypeId} {p : String} {af : Array Edge} {g : Option (Nat × Bool)} {x : Operand} (S T : TypeId)
  (h : wpList P ops Q (⟨d, .convert S T x, ty, p, af, g⟩ :: rest) A w) : wpList P ops Q (⟨d, .convert S T x, ty, p, af, g⟩ :: rest) A w := h
theorem wpList_toBytes {P : Program} {w : World} {ops : Array Oper} {rest : List Oper} {o : Oper} {A : Act} {Q : Exit → Act → World → Prop} (hgd : Region.wanted o (yielded ops A.tmps) = true) (src dst e : TypeId) (x : Operand) (ho : o.op = .convert src dst x) (hs : P.underlying src = some .string) (hd : P.underlying dst = some (.slice e)) (he : P.underlying e = some (.int .u8)) (s : List UInt8) (hl : s.length ≤ maxLen) (hx : A.eval x = .string ⟨s.toArray⟩)
  (h : ∀ g c w', SlR (fun _ => True) w' 1 RU8 (some ⟨g, 0, none⟩) s.length s → Below w.heap.size w w' → wpList P ops Q rest (A.put o.dst (.slice (some ⟨g, 0, none⟩) s.length c)) w') : wpList P ops Q (o :: rest) A w :=
 wpList_wanted hgd fun K hK => wp_toBytes src dst e x ho hs hd he s hl hx fun g c w' h1 h2 => hK _ _ (h g c w' h1 h2)
theorem ba_take (xs : List UInt8) (n : Nat) : (⟨xs.toArray⟩ : ByteArray).extract 0 n = ⟨(xs.take n).toArray⟩ := by
 apply ByteArray.ext
 simp
theorem ba_drop (xs : List UInt8) (n : Nat) : (⟨xs.toArray⟩ : ByteArray).extract n xs.length = ⟨(xs.drop n).toArray⟩ := by
 apply ByteArray.ext
 simp
 exact List.take_of_length_le (by simp)
theorem taker_text (w : World) (g n : Nat) (t : Tk) (hn : n ≤ 1000) (hl : t.2.length ≤ 9223372036854775807) (hg : w.heap[g]? = some (.cells (takerC t).toArray 141 (0, 0))) :
  Calls Tryz.prog 76 #[.pointer (some ⟨g, 0, none⟩), .int .i64 n] w fun e w' => e = .returned (.string ⟨(tkText n t).1.toArray⟩) ∧ St [g] w w' [(g, 141, takerC (tkText n t).2)] := by
 obtain ⟨bad, s⟩ := t
 have st := St.hand hg
 clear hg
 by_cases h : s.length < n
 ·have HE := qh (show tkText n (bad, s) = ([], (true, [])) by unfold tkText; rw [if_pos h])
  go_enter Tryz.func76, Tryz.ntmps76
  go_wp2_with (first | go_skip | (with_reducible refine mX st Tryz.isAgg9 ?_) | (with_reducible refine mS 0 st Tryz.sizeOf4 ?_; clear st; intro w1 st hw1m hw1z) | (with_reducible refine mS 0 st Tryz.sizeOf9 ?_; clear st; intro w2 st hw2m hw2z))
  go_ret
  rw [HE.out]
  exact ⟨rfl, st⟩
 ·have HE := qh (show tkText n (bad, s) = (s.take n, (bad, s.drop n)) by unfold tkText; rw [if_neg h])
  have hx1 := ba_take s n
  have hx2 := ba_drop s n
  go_enter Tryz.func76, Tryz.ntmps76
  go_wp2_with (first | go_skip | (with_reducible refine mX st Tryz.isAgg9 ?_) | (with_reducible refine mS 0 st Tryz.sizeOf4 ?_; clear st; intro w1 st hw1m hw1z) | (with_reducible refine mS 0 st Tryz.sizeOf9 ?_; clear st; intro w2 st hw2m hw2z))
  go_ret
  rw [HE.out]
  exact ⟨rfl, st⟩
def natOf (l : List UInt8) : Nat := l.foldl (fun v c => v * 256 + c.toNat) 0
theorem natOf_snoc (l : List UInt8) (c : UInt8) : natOf (l ++ [c]) = natOf l * 256 + c.toNat := by simp [natOf]
theorem numOf_nat (l : List UInt8) : numOf l = (natOf l : Int) := by
 have : ∀ (l : List UInt8) (v : Nat), l.foldl (fun (v : Int) (c : UInt8) => v * 256 + c.toNat) (v : Int) = ((l.foldl (fun v c => v * 256 + c.toNat) v : Nat) : Int) := by
  intro l
  induction l with
  | nil => intro v; rfl
  | cons c l ih =>
   intro v
   simp only [List.foldl_cons]
   rw [← ih]
   congr 1
   
 exact this l 0
theorem natOf_lt (l : List UInt8) : natOf l < 256 ^ l.length := by
 have := numOf_lt l
 rw [numOf_nat] at this
 refine Int.ofNat_lt.1 ?_
 rw [Int.natCast_pow]
 exact this
theorem i64_or_byte (a b : Nat) (ha : a < 1099511627776) (hb : b < 256) : bits .or .i64 ((a : Int) * 256) (b : Int) = ((a * 256 + b : Nat) : Int) := by
 have h1 : (BitVec.ofInt 64 ((a : Int) * 256)).toNat = a * 256 := by
  rw [show (a : Int) * 256 = ((a * 256 : Nat) : Int) by omega, BitVec.ofInt_natCast, BitVec.toNat_ofNat]; exact Nat.mod_eq_of_lt (by omega)
 have h2 : (BitVec.ofInt 64 (b : Int)).toNat = b := by
  rw [BitVec.ofInt_natCast, BitVec.toNat_ofNat]; exact Nat.mod_eq_of_lt (by omega)
 have h3 : a * 256 ||| b = a * 256 + b := by
  have := Nat.shiftLeft_add_eq_or_of_lt (i := 8) (b := b) (by omega) a
  rw [Nat.shiftLeft_eq] at this
  exact this.symm
 show IntKind.i64.wrap ((BitVec.ofInt 64 ((a : Int) * 256) ||| BitVec.ofInt 64 (b : Int)).toNat : Int) = _
 rw [BitVec.toNat_or, h1, h2, h3]
 simp [IntKind.wrap, IntKind.bits, IntKind.signed]
 omega
theorem SlR.byte_at {ok : Nat → Prop} {w : World} {a : Option Addr} {c : Nat} {xs : List UInt8} (h : SlR ok w 1 RU8 a c xs) (i : Nat) (hi : i < xs.length) :
  ∃ b o, a = some ⟨b, o, none⟩ ∧ b < w.heap.size ∧ w.cell? ⟨b, o + i, none⟩ = some (.int .u8 xs[i].toNat) := by
 obtain ⟨b, o, cs, ha, _, hb, rfl, _, _, hc⟩ := h.2.2.2 i xs[i] (by simp [hi])
 exact ⟨b, o, ha, hb, by simpa using hc 0 _ rfl⟩
theorem tkText_le (n : Nat) (t : Tk) : (tkText n t).1.length ≤ n ∧ (tkText n t).2.2.length ≤ t.2.length := by
 unfold tkText
 split
 ·simp
 ·simp; omega
theorem taker_number (w : World) (g n : Nat) (t : Tk) (hn : n ≤ 6) (hl : t.2.length ≤ 9223372036854775807) (hg : w.heap[g]? = some (.cells (takerC t).toArray 141 (0, 0))) :
  Calls Tryz.prog 75 #[.pointer (some ⟨g, 0, none⟩), .int .i64 n] w fun e w' => e = .returned (.int .i64 (tkNum n t).1) ∧ St [g] w w' [(g, 141, takerC (tkNum n t).2)] := by
 have HT := qh (taker_text w g n t (by omega) hl hg)
 have hle := (tkText_le n t).1
 unfold tkNum
 simp only
 generalize tkText n t = r at HT hle ⊢
 obtain ⟨bs, t'⟩ := r
 simp only at hle
 have hbl : bs.length ≤ maxLen := by unfold maxLen; omega
 go_enter Tryz.func75, Tryz.ntmps75
 go_wp2_with (first
  | go_skip | (go_at_call 76; go_must (refine HT.out.mono ?_; rintro e w1 ⟨rfl, st⟩))
  | (with_reducible refine at_convert 9 89 ?_; refine wpList_toBytes (wanted_none rfl) _ _ _ _ rfl Tryz.underlying9 Tryz.underlying89 Tryz.underlying5 bs hbl rfl ?_; intro g2 c2 w2 hS hb2; replace st := st.call hb2; clear hb2))
 have HS := qh hS
 clear hS
 go_loop [5, 13] (fun v i => ∃ k : Nat, k ≤ bs.length ∧ i = .int .i64 k ∧ v = .int .i64 (natOf (bs.take k) : Nat)) (fun _ i => bs.length - (intOf i).toNat)
 case atStart => exact ⟨0, Nat.zero_le _, rfl, rfl⟩
 case round =>
  obtain ⟨k, hk, rfl, rfl⟩ := hrel
  have hlt2 := natOf_lt (bs.take k)
  have htl : (bs.take k).length = k := by simp; omega
  rw [htl] at hlt2
  have hle2 : 256 ^ k ≤ 256 ^ 6 := Nat.pow_le_pow_right (by decide) (by omega)
  by_cases hlt : k < bs.length
  ·obtain ⟨b, o, hb, hbl, hc⟩ := SlR.byte_at HS.out k hlt
   simp only [Option.some.injEq, Addr.mk.injEq, and_true] at hb
   obtain ⟨rfl, rfl⟩ := hb
   simp only [Nat.zero_add] at hc
   have h5 : 256 ^ k ≤ 256 ^ 5 := Nat.pow_le_pow_right (by decide) (by omega)
   have hv5 : natOf (bs.take k) < 1099511627776 := by omega
   have hb8 := bs[k].toNat_lt
   have HO := qh (i64_or_byte (natOf (bs.take k)) bs[k].toNat hv5 (by omega))
   have HN := qh (show natOf (bs.take (k + 1)) = natOf (bs.take k) * 256 + bs[k].toNat by rw [List.take_succ_eq_append_getElem hlt, natOf_snoc])
   clear h5 hle2 hlt2 htl
   go_wp2
   go_round
   case rel =>
    exact ⟨k + 1, hlt, by go_num, by rw [HO.out, HN.out]⟩
   case measure => simp [intOf]; omega
  ·have hkn : k = bs.length := by omega
   have HE := qh (show natOf (bs.take k) = natOf bs by rw [List.take_of_length_le (by omega)])
   clear hle2 hlt2 htl
   have HN := qh hkn
   clear hkn
   go_wp2
   go_ret
   exact ⟨by rw [HE.out, numOf_nat]; rfl, st⟩
theorem tkText_len (n : Nat) (t : Tk) : (tkText n t).2.2.length ≤ t.2.length := (tkText_le n t).2
theorem tkNum_len (n : Nat) (t : Tk) : (tkNum n t).2.2.length ≤ t.2.length := (tkText_le n t).2
theorem tkNum_lo (n : Nat) (t : Tk) : 0 ≤ (tkNum n t).1 := numOf_nonneg _
theorem tkNum_hi (n : Nat) (t : Tk) : (tkNum n t).1 < 256 ^ n := by
 have h1 := numOf_lt (tkText n t).1
 have h2 := (tkText_le n t).1
 have h3 : (256 : Nat) ^ (tkText n t).1.length ≤ 256 ^ n := Nat.pow_le_pow_right (by decide) h2
 have h4 : ((256 ^ (tkText n t).1.length : Nat) : Int) ≤ ((256 ^ n : Nat) : Int) := Int.ofNat_le.2 h3
 rw [Int.natCast_pow, Int.natCast_pow] at h4
 exact Int.lt_of_lt_of_le h1 h4
theorem taker_one (w : World) (g : Nat) (t t' : Tk) (v : Int) (h : tkNum 1 t = (v, t')) (hl : t.2.length ≤ 9223372036854775807) (hg : w.heap[g]? = some (.cells (takerC t).toArray 141 (0, 0))) :
  Calls Tryz.prog 75 #[.pointer (some ⟨g, 0, none⟩), .int .i64 1] w fun e w' => e = .returned (.int .i64 v) ∧ St [g] w w' [(g, 141, takerC t')] := by
 have := taker_number w g 1 t (by decide) hl hg
 rw [h] at this
 exact this
theorem taker_six (w : World) (g : Nat) (t t' : Tk) (v : Int) (h : tkNum 6 t = (v, t')) (hl : t.2.length ≤ 9223372036854775807) (hg : w.heap[g]? = some (.cells (takerC t).toArray 141 (0, 0))) :
  Calls Tryz.prog 75 #[.pointer (some ⟨g, 0, none⟩), .int .i64 6] w fun e w' => e = .returned (.int .i64 v) ∧ St [g] w w' [(g, 141, takerC t')] := by
 have := taker_number w g 6 t (by decide) hl hg
 rw [h] at this
 exact this
theorem taker_txt (w : World) (g : Nat) (t t' : Tk) (n : Int) (x : List UInt8) (h : tkText n.toNat t = (x, t')) (h0 : 0 ≤ n) (h1 : n ≤ 1000) (hl : t.2.length ≤ 9223372036854775807) (hg : w.heap[g]? = some (.cells (takerC t).toArray 141 (0, 0))) :
  Calls Tryz.prog 76 #[.pointer (some ⟨g, 0, none⟩), .int .i64 n] w fun e w' => e = .returned (.string ⟨x.toArray⟩) ∧ St [g] w w' [(g, 141, takerC t')] := by
 have := taker_text w g n.toNat t (by omega) hl hg
 rw [h, Int.toNat_of_nonneg h0] at this
 exact this
end Go.Proofs.YtnjjdpiofbajlaaGreat
