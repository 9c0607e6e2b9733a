/- Walks and plain laws, part 18. -/
import Derived.Test.YtnjjdpiofbajlaaGreatP11
import Derived.IntWalk
import Derived.Maps.RangeWalk
import Derived.DeepKeys4
import Derived.Test.YtnjjdpiofbajlaaGreatP17
set_option linter.unusedSimpArgs false
set_option linter.unusedVariables false
set_option maxHeartbeats 16000000
set_option maxRecDepth 100000
namespace Go.Proofs.YtnjjdpiofbajlaaGreat
open Go.RowKit
def mailHead (f : Frame) : List UInt8 := 0 :: headBytes f ++ [b1 f.thread, b1 f.mail.thread, b1 f.mail.label.length]
def mailMid (f : Frame) : List UInt8 := mailHead f ++ f.mail.label.flatMap levBytes ++ [b1 f.mail.grants.length]
def mailText (f : Frame) : List UInt8 := mailMid f ++ f.mail.grants.map b1 ++ [b1 f.mail.text.size] ++ f.mail.text.data.toList ++ [b1 f.certs.length]
theorem mailHead_len (f : Frame) : (mailHead f).length = 12 := by simp [mailHead, headBytes, be_length]
theorem flat_lev_len (l : List Lev) : (l.flatMap levBytes).length = 2 * l.length := by
 induction l with
 | nil => rfl
 | cons x l ih => simp only [List.flatMap_cons, List.length_append, ih, levBytes, List.length_cons, List.length_nil]; omega
theorem flat_cert_len (l : List Cert) : (l.flatMap certBytes).length = 9 * l.length := by
 induction l with
 | nil => rfl
 | cons x l ih => simp only [List.flatMap_cons, List.length_append, ih, certBytes, List.length_cons, List.length_nil, be_length]; omega
theorem text_len (s : ByteArray) : s.data.toList.length = s.size := by rw [Array.length_toList]; rfl
theorem mailMid_len (f : Frame) : (mailMid f).length = 13 + 2 * f.mail.label.length := by
 simp only [mailMid, List.length_append, mailHead_len, flat_lev_len, List.length_cons, List.length_nil]; omega
theorem mailText_len (f : Frame) : (mailText f).length = 15 + 2 * f.mail.label.length + f.mail.grants.length + f.mail.text.size := by
 simp only [mailText, List.length_append, mailMid_len, List.length_map, text_len, List.length_cons, List.length_nil]; omega
theorem encL_mail {f : Frame} (h : f.ack = false) : encL f = mailText f ++ f.certs.flatMap certBytes := by
 unfold encL
 rw [if_neg (by rw [h]; simp)]
 simp only [mailText, mailMid, mailHead, mailBytes, List.append_assoc, List.cons_append]
theorem flatMap_take {α : Type} (g : α → List UInt8) (l : List α) (k : Nat) (h : k < l.length) : (l.take (k + 1)).flatMap g = (l.take k).flatMap g ++ g l[k] := by
 rw [List.take_succ_eq_append_getElem h, List.flatMap_append]; simp
theorem map_take {α : Type} (g : α → UInt8) (l : List α) (k : Nat) (h : k < l.length) : (l.take (k + 1)).map g = (l.take k).map g ++ [g l[k]] := by
 rw [List.take_succ_eq_append_getElem h, List.map_append]; simp
theorem wire_Encode_mail (ok : Nat → Prop) (w : World) (f : Frame) (la : Option Addr) (lc : Nat) (ga : Option Addr) (gc : Nat) (ca : Option Addr) (cc : Nat) (hf : f.FitsW) (hR : FrameR ok w f la lc ga gc ca cc) (h : goodFrameC f = 0) (hk : f.ack = false) :
  Calls Tryz.prog 82 #[frameV f la lc ga gc ca cc] w fun e w' => e = .returned (.tuple #[.string ⟨(encL f).toArray⟩, .int .i64 0]) ∧ Below w.heap.size w w' := by
 obtain ⟨⟨s1, s2⟩, ⟨s3, s4⟩, -, ⟨s5, s6⟩, ⟨s7, s8⟩, -, hm⟩ := good_facts h
 obtain ⟨hm1, -, hc24, hcs⟩ := hm hk
 obtain ⟨-, ⟨s9, s10⟩, hgl, hgr, ht⟩ := mail_facts hm1
 obtain ⟨hl8, hlv, -⟩ := (goodL_iff _).1 hgl
 obtain ⟨hg8, hgv⟩ := grants_facts hgr
 have HG := qh (fun (W : World) (hW : FrameR ok W f la lc ga gc ca cc) => wire_Good ok W f la lc ga gc ca cc hf hW)
 have HLV := qh hlv; have HGV := qh hgv; have HCS := qh hcs
 have HE := qh (encL_mail hk)
 have HH := qh (show mailHead f = ([0, b1 f.src, b1 f.dst] ++ be f.seq 6) ++ [b1 f.thread, b1 f.mail.thread, b1 f.mail.label.length] from rfl)
 have HN1 := qh (mailHead_len f)
 have HN2 := qh (mailMid_len f)
 have HN3 := qh (mailText_len f)
 rw [h] at HG
 have hk1 : Value.bool f.ack = .bool false := by rw [hk]
 obtain ⟨⟨hA, hB⟩, hC⟩ := id hR
 obtain ⟨i0, hi, hz0, hz1, hz2⟩ := info_parts info_byte
 clear h hk hm hm1 hgl hgr hlv hgv hcs
 unfold frameV at *
 rw [hk1] at HG ⊢
 clear hk1
 have st := St.start w
 go_enter Tryz.func82, Tryz.ntmps82
 go_wp2_with (first
  | go_skip | (with_reducible refine mB 110 st ?_; clear st; intro g1 w1 hg1 st) | (with_reducible refine mXA st Tryz.isAgg110 Tryz.sizeOf110 ?_) | (with_reducible refine mX st Tryz.isAgg3 ?_) | (with_reducible refine mX st Tryz.isAgg4 ?_)
  | (go_at_call 77; go_must (refine (HG.out _ (hR.below st.below)).mono ?_; rintro e v2 ⟨rfl, hb2⟩; replace st := st.call hb2; clear hb2))
  | (with_reducible refine at_buildU 89 ?_; (refine wpList_buildU3 st (wanted_none rfl) 89 5 _ _ _ rfl Tryz.underlying89 Tryz.sizeOf5 Tryz.zeroValue5 _ _ _ rfl rfl rfl ?_; have stw4 := st; clear st; intro g4 w4 hg4 hg4e st hg4b hg4z; clear hg4e; simp [Act.eval, Act.put, Value.cells, putL] at st)))
 have hO4 : Own w.heap.size 5 w4 1 RU8 (some ⟨g4, 0, none⟩) 3 [0, b1 f.src, b1 f.dst] := Own.bytesBlk [0, b1 f.src, b1 f.dst] (st.blk _ (mgE (i := 1) rfl)) (by simp only [List.map, b1]; rw [← byteV_eq s1 (by omega), ← byteV_eq s3 (by omega)]; rfl) hg4 (by simp [maxLen])
 replace st := st.take 1
 simp only [List.take_succ_cons, List.take_zero] at st
 refine (wire_put w.heap.size _ _ _ [0, b1 f.src, b1 f.dst] f.seq (by omega) (by omega) (by simp) st.size hO4).mono ?_
 rintro e v5 ⟨g5, c5, rfl, hO, hg5, _⟩
 replace st := st.buf hO4 (Nat.le_refl _) hg5 (by simp)
 clear hO4 hg5 HG hg4 hg1
 simp only [List.length_cons, List.length_nil, Nat.zero_add, Nat.reduceAdd]
 have stb := st
 replace st := st.rebase
 go_wp2_with (first
  | go_skip | (with_reducible refine mX st Tryz.isAgg4 ?_) | (with_reducible refine mXA st Tryz.isAgg42 Tryz.sizeOf42 ?_) | (with_reducible refine mA st Tryz.zeroValue42 ?_; clear st; intro g6 w6 hg6 st) | (with_reducible refine mS 1 st Tryz.sizeOf42 ?_; clear st; intro w7 st hw7m hw7z) | (with_reducible refine mX st Tryz.isAgg3 ?_) | (with_reducible refine mX st Tryz.isAgg27 ?_)
  | (with_reducible refine at_buildU 89 ?_; refine wpList_wanted (wanted_none rfl) fun K9 hK9 => wp_bytes3 89 5 _ _ _ rfl Tryz.underlying89 Tryz.sizeOf5 Tryz.zeroValue5 _ _ _ rfl (by omega) rfl (by omega) rfl (by omega) fun g9 w9 hS9 hb9 => hK9 _ _ ?_; clear hK9 K9; replace st := st.call hb9; clear hb9)
  | (at_builtin; have hOx := hO.below (stb.below2 st (by simp)); go_must (refine wpList_app rfl _ _ 89 rfl 5 i0 _ 1 1 Tryz.underlying89 hi hz0 hz1 hz2 rfl (by decide) rfl (by simp [be_length]) hOx rfl rfl hS9 (by simp [be_length]) (by simp [be_length, maxLen]) (St.back stb st).size ?_; intro a10 c10 w10 hO10 hg10 _; have stn := (St.back stb st).buf hOx (Nat.le_refl _) hg10 (by simp); clear stb st hO hOx hg10 hS9; have hO := hO10; have st := stn; clear hO10 stn)))
 rw [← HH.out] at hO
 have HL1 := qh (flat_lev_len f.mail.label)
 have hstart : 12 = (mailHead f ++ (f.mail.label.take 0).flatMap levBytes).length := by simp [HN1.out]
 go_loopw [52, 5, 8] (fun i p _ wr => ∃ (k : Nat) (a : Option Addr) (n c : Nat), k ≤ f.mail.label.length ∧ i = .int .i64 k ∧ p = .slice a n c ∧ St [] w wr [(g1, 110, [.int .i64 f.src, .int .i64 f.dst, .int .i64 f.seq, .bool false, .int .i64 f.thread, .int .i64 f.mail.host, .int .i64 f.mail.thread, .slice la f.mail.label.length lc, .slice ga f.mail.grants.length gc, .string f.mail.text, .slice ca f.certs.length cc]), (g6, 42, [.int .i64 f.mail.host, .int .i64 f.mail.thread, .slice la f.mail.label.length lc, .slice ga f.mail.grants.length gc, .string f.mail.text])] ∧ Own w.heap.size 5 wr 1 RU8 a c (mailHead f ++ (f.mail.label.take k).flatMap levBytes) ∧ Hid (n = (mailHead f ++ (f.mail.label.take k).flatMap levBytes).length)) (fun i _ _ _ => f.mail.label.length - (intOf i).toNat)
 case atStart => exact ⟨0, a10, _, c10, Nat.zero_le _, rfl, rfl, st, by simpa using hO, hstart⟩
 case round =>
  clear st hO hstart
  obtain ⟨k, a, n, c, hk, rfl, rfl, st, hO, HN⟩ := hrel
  have hln : (mailHead f ++ (f.mail.label.take k).flatMap levBytes).length ≤ 12 + 2 * k := by
   rw [List.length_append, HN1.out, flat_lev_len, List.length_take]; omega
  by_cases hlt : k < f.mail.label.length
  ·obtain ⟨b, o, rfl, hb, _⟩ := (hA.below st.below).lev_at k hlt
   have hrow := (hA.below st.below).lev_row k hlt
   have hlv := HLV.out _ (List.getElem_mem hlt)
   rw [lvOk_iff] at hlv
   obtain ⟨q1, q2, q3, q4, -⟩ := hlv
   have HT := qh (show mailHead f ++ (f.mail.label.take (k + 1)).flatMap levBytes = (mailHead f ++ (f.mail.label.take k).flatMap levBytes) ++ levBytes f.mail.label[k] by rw [flatMap_take levBytes f.mail.label k hlt, List.append_assoc])
   generalize hx : f.mail.label[k] = x at hrow q1 q2 q3 q4 HT
   generalize mailHead f ++ (f.mail.label.take k).flatMap levBytes = xs at hO HN hln HT
   clear hx
   have stb := st
   replace st := st.rebase
   go_wp2_with (first
    | go_skip | (with_reducible refine at_load 73 ?_; refine wpList_load_cells (wanted_none rfl) 73 _ rfl Tryz.isAgg73 _ Tryz.sizeOf73 b (o + k * 2) rfl [.int .i64 x.c, .int .i64 x.l] rfl hrow ?_) | (with_reducible refine mA st Tryz.zeroValue73 ?_; clear st; intro g11 w11 hg11 st) | (with_reducible refine mS 2 st Tryz.sizeOf73 ?_; clear st; intro w12 st hw12m hw12z) | (with_reducible refine mX st Tryz.isAgg3 ?_)
    | (with_reducible refine at_buildU 89 ?_; refine wpList_wanted (wanted_none rfl) fun K13 hK13 => wp_bytes2 89 5 _ _ rfl Tryz.underlying89 Tryz.sizeOf5 Tryz.zeroValue5 _ _ rfl (by omega) rfl (by omega) fun g13 w13 hS13 hb13 => hK13 _ _ ?_; clear hK13 K13; replace st := st.call hb13; clear hb13)
    | (at_builtin; have hOx := hO.below (stb.below2 st (by simp)); go_must (refine wpList_app rfl _ _ 89 rfl 5 i0 _ 1 1 Tryz.underlying89 hi hz0 hz1 hz2 rfl (by decide) rfl (HN.out) hOx rfl rfl hS13 (by simp; omega) (by simp [maxLen]; omega) (St.back stb st).size ?_; intro a14 c14 w14 hO14 hg14 _; have stn := (St.back stb st).buf hOx (Nat.le_refl _) hg14 (by simp); clear stb st hO hOx hg14 hS13; have hO := hO14; have st := stn; clear hO14 stn)))
   replace st := st.take 2
   simp only [List.take_succ_cons, List.take_zero] at st
   go_roundw
   case rel => exact ⟨k + 1, a14, _, c14, hlt, by go_num, rfl, st, by rw [HT.out]; exact hO, qh (by rw [HT.out, List.length_append, HN.out]; rfl)⟩
   case measure => simp [intOf]; omega
  ·obtain rfl : k = f.mail.label.length := by omega
   have ht0 : f.mail.label.take f.mail.label.length = f.mail.label := List.take_length
   rw [ht0] at hO HN hln
   clear ht0
   have HM := qh (show mailMid f = (mailHead f ++ f.mail.label.flatMap levBytes) ++ [b1 f.mail.grants.length] from rfl)
   generalize mailHead f ++ f.mail.label.flatMap levBytes = xs at hO HN hln HM
   have stb := st
   replace st := st.rebase
   go_wp2_with (first
    | go_skip | (with_reducible refine mX st Tryz.isAgg28 ?_)
    | (with_reducible refine at_buildU 89 ?_; refine wpList_wanted (wanted_none rfl) fun K15 hK15 => wp_bytes1 89 5 _ rfl Tryz.underlying89 Tryz.sizeOf5 Tryz.zeroValue5 _ rfl (by omega) fun g15 w15 hS15 hb15 => hK15 _ _ ?_; clear hK15 K15; replace st := st.call hb15; clear hb15)
    | (at_builtin; have hOx := hO.below (stb.below2 st (by simp)); go_must (refine wpList_app rfl _ _ 89 rfl 5 i0 _ 1 1 Tryz.underlying89 hi hz0 hz1 hz2 rfl (by decide) rfl (HN.out) hOx rfl rfl hS15 (by simp; omega) (by simp [maxLen]; omega) (St.back stb st).size ?_; intro a16 c16 w16 hO16 hg16 _; have stn := (St.back stb st).buf hOx (Nat.le_refl _) hg16 (by simp); clear stb st hO hOx hg16 hS15; have hO := hO16; have st := stn; clear hO16 stn)))
   have HN2' := qh (show n + 1 = (mailMid f ++ (f.mail.grants.take 0).map b1).length by rw [HM.out, HN.out]; simp)
   rw [← HM.out] at hO
   clear HN hln HM
   go_loopw [76, 5, 10] (fun i p _ wr => ∃ (k : Nat) (a : Option Addr) (n c : Nat), k ≤ f.mail.grants.length ∧ i = .int .i64 k ∧ p = .slice a n c ∧ St [] w wr [(g1, 110, [.int .i64 f.src, .int .i64 f.dst, .int .i64 f.seq, .bool false, .int .i64 f.thread, .int .i64 f.mail.host, .int .i64 f.mail.thread, .slice la f.mail.label.length lc, .slice ga f.mail.grants.length gc, .string f.mail.text, .slice ca f.certs.length cc]), (g6, 42, [.int .i64 f.mail.host, .int .i64 f.mail.thread, .slice la f.mail.label.length lc, .slice ga f.mail.grants.length gc, .string f.mail.text])] ∧ Own w.heap.size 5 wr 1 RU8 a c (mailMid f ++ (f.mail.grants.take k).map b1) ∧ Hid (n = (mailMid f ++ (f.mail.grants.take k).map b1).length)) (fun i _ _ _ => f.mail.grants.length - (intOf i).toNat)
   case atStart => exact ⟨0, a16, _, c16, Nat.zero_le _, rfl, rfl, st, by simpa using hO, HN2'⟩
   case round =>
    clear st hO HN2'
    obtain ⟨k, a, n, c, hk, rfl, rfl, st, hO, HN⟩ := hrel
    have hln : (mailMid f ++ (f.mail.grants.take k).map b1).length ≤ 13 + 2 * f.mail.label.length + k := by
     rw [List.length_append, HN2.out, List.length_map, List.length_take]; omega
    by_cases hlt : k < f.mail.grants.length
    ·obtain ⟨b, o, rfl, hb, hc1⟩ := (hB.below st.below).int_at k hlt
     obtain ⟨q1, q2⟩ := HGV.out _ (List.getElem_mem hlt)
     have HT := qh (show mailMid f ++ (f.mail.grants.take (k + 1)).map b1 = (mailMid f ++ (f.mail.grants.take k).map b1) ++ [b1 f.mail.grants[k]] by rw [map_take b1 f.mail.grants k hlt, List.append_assoc])
     generalize hx : f.mail.grants[k] = x at hc1 q1 q2 HT
     generalize mailMid f ++ (f.mail.grants.take k).map b1 = xs at hO HN hln HT
     clear hx
     have stb := st
     replace st := st.rebase
     go_wp2_with (first
      | go_skip
      | (with_reducible refine at_buildU 89 ?_; refine wpList_wanted (wanted_none rfl) fun K17 hK17 => wp_bytes1 89 5 _ rfl Tryz.underlying89 Tryz.sizeOf5 Tryz.zeroValue5 _ rfl (by omega) fun g17 w17 hS17 hb17 => hK17 _ _ ?_; clear hK17 K17; replace st := st.call hb17; clear hb17)
      | (at_builtin; have hOx := hO.below (stb.below2 st (by simp)); go_must (refine wpList_app rfl _ _ 89 rfl 5 i0 _ 1 1 Tryz.underlying89 hi hz0 hz1 hz2 rfl (by decide) rfl (HN.out) hOx rfl rfl hS17 (by simp; omega) (by simp [maxLen]; omega) (St.back stb st).size ?_; intro a18 c18 w18 hO18 hg18 _; have stn := (St.back stb st).buf hOx (Nat.le_refl _) hg18 (by simp); clear stb st hO hOx hg18 hS17; have hO := hO18; have st := stn; clear hO18 stn)))
     go_roundw
     case rel => exact ⟨k + 1, a18, _, c18, hlt, by go_num, rfl, st, by rw [HT.out]; exact hO, qh (by rw [HT.out, List.length_append, HN.out]; rfl)⟩
     case measure => simp [intOf]; omega
    ·obtain rfl : k = f.mail.grants.length := by omega
     have ht0 : f.mail.grants.take f.mail.grants.length = f.mail.grants := List.take_length
     rw [ht0] at hO HN hln
     clear ht0
     have HM := qh (show mailText f = (((mailMid f ++ f.mail.grants.map b1) ++ [b1 f.mail.text.size]) ++ f.mail.text.data.toList) ++ [b1 f.certs.length] from rfl)
     have HTL := qh (text_len f.mail.text)
     generalize mailMid f ++ f.mail.grants.map b1 = xs at hO HN hln HM
     go_wp2
     have hO0 := hO.below (Below.refl _ _).drew
     have hwr : IntKind.u8.wrap (f.mail.text.size : Int) = f.mail.text.size := IntWalk.u8_in _ (by omega)
     refine lex_still st (by kernel_rfl) 11 rfl ?_; clear st; intro hI
     refine lexS 0 rfl hI ?_
     refine lexS 1 rfl hI ?_
     refine lexT 2 rfl hI (fun W hW => St.run_load hW 1 9 _ rfl Tryz.isAgg9 rfl rfl rfl) ?_
     refine lexS 3 rfl hI ?_
     refine lexS 4 rfl hI ?_
     refine lexS 7 rfl hI ?_
     refine lexT 8 rfl hI (fun W hW => St.run_load hW 1 9 _ rfl Tryz.isAgg9 rfl rfl rfl) ?_
     refine lexO 5 rfl fun K hK => ?_
     refine wp_bytes1 89 5 _ rfl Tryz.underlying89 Tryz.sizeOf5 Tryz.zeroValue5 _ rfl (by omega) ?_
     intro g20 w20 hS20 hb20
     refine hK _ _ (hI.call hb20) ?_; clear hK; simp only [kP, kA, kS, kZ]
     replace hI := hI.call hb20
     replace hO0 := hO0.below hb20
     refine lexO 6 rfl fun K hK => ?_
     refine wp_app _ _ 89 rfl 5 i0 _ 1 1 Tryz.underlying89 hi hz0 hz1 hz2 rfl (by decide) rfl HN.out hO0 rfl rfl hS20 (by simp; omega) (by simp [maxLen]; omega) hI.size ?_
     intro a21 c21 w21 hO21 hg21 _
     have hI21 := hI.buf hO0 (Nat.le_refl _) hg21 (by simp)
     refine hK _ _ (hI21) ?_; clear hK; simp only [kP, kA, kS, kZ]
     refine lexO 9 rfl fun K hK => ?_
     refine wp_appStr rfl _ _ 89 9 rfl w.heap.size 5 i0 Tryz.underlying89 Tryz.underlying9 hi hz0 hz1 hz2 rfl (by rw [List.length_append, HN.out]; rfl) hO21 f.mail.text rfl (by simp; omega) hI21.size ?_
     intro a22 c22 w22 hO22 hg22
     have hI22 := hI21.buf hO21 (Nat.le_refl _) hg22 (by simp)
     refine hK _ _ (hI22) ?_; clear hK; simp only [kP, kA, kS, kZ]
     clear hI
     have hI := hI22
     refine lexS 10 rfl hI ?_
     refine lex_done (by decide +kernel) ?_
     have st := hI22
     have HN22 := qh (show n + 1 + f.mail.text.size = (((xs ++ [b1 f.mail.text.size]) ++ f.mail.text.data.toList)).length by rw [List.length_append, HTL.out, List.length_append, HN.out]; rfl)
     have hln22 : (((xs ++ [b1 f.mail.text.size]) ++ f.mail.text.data.toList)).length ≤ 14 + 2 * f.mail.label.length + f.mail.grants.length + f.mail.text.size := by rw [List.length_append, HTL.out, List.length_append]; simp; omega
     clear hwr hO hO0 hO21 hg21 hg22 hI hI21 hI22 hS20 HN hln
     have hO := hO22
     clear hO22
     generalize ((xs ++ [b1 f.mail.text.size]) ++ f.mail.text.data.toList) = ys at hO HN22 hln22 HM
     have stb := st
     replace st := st.rebase
     go_wp2_with (first
      | go_skip | (with_reducible refine mX st Tryz.isAgg44 ?_)
      | (with_reducible refine at_buildU 89 ?_; refine wpList_wanted (wanted_none rfl) fun K23 hK23 => wp_bytes1 89 5 _ rfl Tryz.underlying89 Tryz.sizeOf5 Tryz.zeroValue5 _ rfl (by omega) fun g23 w23 hS23 hb23 => hK23 _ _ ?_; clear hK23 K23; replace st := st.call hb23; clear hb23)
      | (at_builtin; have hOx := hO.below (stb.below2 st (by simp)); go_must (refine wpList_app rfl _ _ 89 rfl 5 i0 _ 1 1 Tryz.underlying89 hi hz0 hz1 hz2 rfl (by decide) rfl (HN22.out) hOx rfl rfl hS23 (by simp; omega) (by simp [maxLen]; omega) (St.back stb st).size ?_; intro a24 c24 w24 hO24 hg24 _; have stn := (St.back stb st).buf hOx (Nat.le_refl _) hg24 (by simp); clear stb st hO hOx hg24 hS23; have hO := hO24; have st := stn; clear hO24 stn)))
     have HN3' := qh (show n + 1 + f.mail.text.size + 1 = (mailText f ++ (f.certs.take 0).flatMap certBytes).length by rw [HM.out, List.take_zero, List.flatMap_nil, List.append_nil, List.length_append, HN22.out]; rfl)
     rw [← HM.out] at hO
     clear HN22 hln22 HM
     go_loopw [106, 5, 12] (fun i p _ wr => ∃ (k : Nat) (a : Option Addr) (n c : Nat), k ≤ f.certs.length ∧ i = .int .i64 k ∧ p = .slice a n c ∧ St [] w wr [(g1, 110, [.int .i64 f.src, .int .i64 f.dst, .int .i64 f.seq, .bool false, .int .i64 f.thread, .int .i64 f.mail.host, .int .i64 f.mail.thread, .slice la f.mail.label.length lc, .slice ga f.mail.grants.length gc, .string f.mail.text, .slice ca f.certs.length cc]), (g6, 42, [.int .i64 f.mail.host, .int .i64 f.mail.thread, .slice la f.mail.label.length lc, .slice ga f.mail.grants.length gc, .string f.mail.text])] ∧ Own w.heap.size 5 wr 1 RU8 a c (mailText f ++ (f.certs.take k).flatMap certBytes) ∧ Hid (n = (mailText f ++ (f.certs.take k).flatMap certBytes).length)) (fun i _ _ _ => f.certs.length - (intOf i).toNat)
     case atStart => exact ⟨0, a24, _, c24, Nat.zero_le _, rfl, rfl, st, by simpa using hO, HN3'⟩
     case round =>
      clear st hO HN3'
      obtain ⟨k, a, n, c, hk, rfl, rfl, st, hO, HN⟩ := hrel
      have hln : (mailText f ++ (f.certs.take k).flatMap certBytes).length ≤ 15 + 2 * f.mail.label.length + f.mail.grants.length + f.mail.text.size + 9 * k := by
       rw [List.length_append, HN3.out, flat_cert_len, List.length_take]; omega
      by_cases hlt : k < f.certs.length
      ·obtain ⟨b, o, rfl, hb, _⟩ := (hC.below st.below).cert_at k hlt
       have hrow := (hC.below st.below).cert_row k hlt
       have hgc := cert_facts (HCS.out _ (List.getElem_mem hlt))
       obtain ⟨⟨q1, q2⟩, ⟨q3, q4⟩, ⟨q5, q6⟩, -, q7, q8⟩ := hgc
       have HT := qh (show mailText f ++ (f.certs.take (k + 1)).flatMap certBytes = (mailText f ++ (f.certs.take k).flatMap certBytes) ++ certBytes f.certs[k] by rw [flatMap_take certBytes f.certs k hlt, List.append_assoc])
       generalize hx : f.certs[k] = x at hrow q1 q2 q3 q4 q5 q6 q7 q8 HT
       generalize mailText f ++ (f.certs.take k).flatMap certBytes = xs at hO HN hln HT
       clear hx
       have stb := st
       replace st := st.rebase
       go_wp2_with (first | go_skip | (with_reducible refine at_load 47 ?_; refine wpList_load_cells (wanted_none rfl) 47 _ rfl Tryz.isAgg47 _ Tryz.sizeOf47 b (o + k * 4) rfl [.int .i64 x.c, .int .i64 x.by_, .int .i64 x.host, .int .i64 x.till] rfl hrow ?_) | (with_reducible refine mA st Tryz.zeroValue47 ?_; clear st; intro g31 w31 hg31 st) | (with_reducible refine mS 2 st Tryz.sizeOf47 ?_; clear st; intro w32 st hw32m hw32z))
       have hO0 := (hO.below (stb.below2 st (by simp))).below (Below.refl _ _).drew
       have stn := St.back stb st
       clear st hO
       have st := stn
       clear stn
       have hw1 : IntKind.u8.wrap x.c = x.c := IntWalk.u8_in _ (by omega)
       have hw2 : IntKind.u8.wrap x.by_ = x.by_ := IntWalk.u8_in _ (by omega)
       have hw3 : IntKind.u8.wrap x.host = x.host := IntWalk.u8_in _ (by omega)
       refine lex_still st (by kernel_rfl) 16 rfl ?_; clear st; intro hI
       refine lexS 0 rfl hI ?_
       refine lexS 1 rfl hI ?_
       refine lexT 2 rfl hI (fun W hW => St.run_load hW 2 3 _ rfl Tryz.isAgg3 rfl rfl rfl) ?_
       refine lexS 3 rfl hI ?_
       refine lexS 4 rfl hI ?_
       refine lexT 5 rfl hI (fun W hW => St.run_load hW 2 3 _ rfl Tryz.isAgg3 rfl rfl rfl) ?_
       refine lexS 6 rfl hI ?_
       refine lexS 7 rfl hI ?_
       refine lexT 8 rfl hI (fun W hW => St.run_load hW 2 3 _ rfl Tryz.isAgg3 rfl rfl rfl) ?_
       refine lexS 9 rfl hI ?_
       refine lexS 12 rfl hI ?_
       refine lexT 13 rfl hI (fun W hW => St.run_load hW 2 3 _ rfl Tryz.isAgg3 rfl rfl rfl) ?_
       refine lexO 10 rfl fun K hK => ?_
       refine wp_bytes3 89 5 _ _ _ rfl Tryz.underlying89 Tryz.sizeOf5 Tryz.zeroValue5 _ _ _ rfl (by omega) rfl (by omega) rfl (by omega) ?_
       intro g33 w33 hS33 hb33
       refine hK _ _ (hI.call hb33) ?_; clear hK; simp only [kP, kA, kS, kZ]
       replace hI := hI.call hb33
       replace hO0 := hO0.below hb33
       refine lexO 11 rfl fun K hK => ?_
       refine wp_app _ _ 89 rfl 5 i0 _ 1 1 Tryz.underlying89 hi hz0 hz1 hz2 rfl (by decide) rfl HN.out hO0 rfl rfl hS33 (by simp; omega) (by simp [maxLen]; omega) hI.size ?_
       intro a34 c34 w34 hO34 hg34 _
       have hI34 := hI.buf hO0 (Nat.le_refl _) hg34 (by simp)
       refine hK _ _ (hI34) ?_; clear hK; simp only [kP, kA, kS, kZ]
       refine lexO 14 rfl fun K hK => ?_
       refine wp_callee (f := 97) (by first | (go_simp; done) | (go_simp; rfl)) ?_
       rw [show n + 3 = (xs ++ [by1 x.c, by1 x.by_, by1 x.host]).length by rw [List.length_append, HN.out]; rfl]
       refine (wire_put w.heap.size _ _ _ (xs ++ [by1 x.c, by1 x.by_, by1 x.host]) x.till q7 q8 (by simp; omega) hI34.size hO34).mono ?_
       rintro e w35 ⟨g35, c35, rfl, hO35, hg35, _⟩
       refine ⟨_, rfl, ?_⟩
       have hI35 := hI34.buf hO34 (Nat.le_refl _) hg35 (by simp)
       refine hK _ _ (hI35) ?_; clear hK; simp only [kP, kA, kS, kZ]
       clear hI
       have hI := hI35
       refine lexS 15 rfl hI ?_
       refine lex_done (by decide +kernel) ?_
       have st := hI.take 2
       simp only [List.take_succ_cons, List.take_zero] at st
       clear hw1 hw2 hw3 hI hI35 hI34 hg35 hg34 hO34 hO0 hS33
       go_wp2
       go_roundw
       case rel => exact ⟨k + 1, _, _, c35, hlt, by go_num, rfl, st, by rw [HT.out, show certBytes x = [by1 x.c, by1 x.by_, by1 x.host] ++ be x.till 6 from rfl, ← List.append_assoc]; exact hO35, qh (by rw [HT.out, show certBytes x = [by1 x.c, by1 x.by_, by1 x.host] ++ be x.till 6 from rfl, ← List.append_assoc, List.length_append, be_length]; simp [List.length_append])⟩
       case measure => simp [intOf]; omega
      ·obtain rfl : k = f.certs.length := by omega
       have ht0 : f.certs.take f.certs.length = f.certs := List.take_length
       rw [ht0, ← HE.out] at hO HN hln
       clear ht0
       have hlen0 : encL f ≠ [] := by rw [HE.out]; intro h; have := congrArg List.length h; rw [List.length_append, HN3.out] at this; simp only [List.length_nil] at this; omega
       obtain ⟨g, rfl⟩ := hO.isSome hlen0
       have hcv := hO.string (P := Tryz.prog) 89 9 5 Tryz.underlying89 Tryz.underlying5 Tryz.underlying9
       rw [← HN.out] at hcv
       replace hcv : (convert 89 9 (.slice (some ⟨g, 0, none⟩) n c)).run Tryz.prog wr = .ok (.string ⟨(encL f).toArray⟩) wr := hcv
       clear hlen0 hln HN
       go_wp2
       go_ret2
       exact ⟨rfl, st.below⟩
open Go.Maps (Keyed IsMap)
section
variable {P : Program} {k e t : TypeId} {w w' : World} {b r n cnt : Nat} {l seen : List Int}
def SetB (P : Program) (k e : TypeId) (w : World) (b n : Nat) (l : List Int) : Prop :=
 ∃ D : DataW Unit, w.ownsMap P k (plainElem P e) b n D ∧ IsMap D ∧ ∀ x : Int, (Lit.int .i64 x).wf = true → Maps.has D (.int .i64 x) = inL l x ∧ D.atKey (.int .i64 x) (.lit (.bool false)) = .lit (.bool (inL l x))
theorem SetB.made (P : Program) (k e : TypeId) (w : World) : SetB P k e (w.alloc (.map #[] 0)) w.heap.size 0 [] :=
 ⟨.map [], World.ownsMap_made w P k _, Maps.isMap_empty, fun _ _ => ⟨rfl, rfl⟩⟩
theorem SetB.kept {row : Option Nat} (h : SetB P k e w b n l) (hg : w.grownBy w' row) (hne : row ≠ some b) : SetB P k e w' b n l := by
 obtain ⟨D, h1, h2⟩ := h
 exact ⟨D, h1.kept hg fun e => hne e.symm, h2⟩
theorem SetB.below (h : SetB P k e w b n l) (hb : Below w.heap.size w w') : SetB P k e w' b n l := h.kept (World.grownBy.ofBelow hb none) (by simp)
theorem SetB.lt (h : SetB P k e w b n l) : b < w.heap.size := by
 obtain ⟨D, h1, _⟩ := h
 exact h1.lt
theorem SetB.same {l' : List Int} (h : SetB P k e w b n l) (hl : ∀ x, inL l x = inL l' x) : SetB P k e w b n l' := by
 obtain ⟨D, h1, h2, h3⟩ := h
 exact ⟨D, h1, h2, fun x hx => by rw [← hl]; exact h3 x hx⟩
def RangeB (P : Program) (k e : TypeId) (w : World) (b r n : Nat) (l seen : List Int) (cnt : Nat) : Prop :=
 ∃ (D : DataW Unit) (left : Lit → Bool), w.ranges P k (plainElem P e) b r n D left cnt ∧ ∀ x : Int, (Lit.int .i64 x).wf = true → left (.int .i64 x) = (inL l x && !inL seen x)
theorem RangeB.kept {row : Option Nat} (h : RangeB P k e w b r n l seen cnt) (hg : w.grownBy w' row) (hb' : some b ≠ row) (hr' : some r ≠ row) : RangeB P k e w' b r n l seen cnt := by
 obtain ⟨D, left, h1, h2⟩ := h
 exact ⟨D, left, h1.kept hg hb' hr', h2⟩
theorem RangeB.below (h : RangeB P k e w b r n l seen cnt) (hb : Below w.heap.size w w') : RangeB P k e w' b r n l seen cnt := h.kept (World.grownBy.ofBelow hb none) (by simp) (by simp)
theorem RangeB.lt (h : RangeB P k e w b r n l seen cnt) : r < w.heap.size ∧ b < w.heap.size := by
 obtain ⟨D, left, h1, _⟩ := h
 exact ⟨h1.lt, h1.owns.lt⟩
variable {ops : Array Oper} {rest : List Oper} {o : Oper} {A : Act} {Q : Exit → Act → World → Prop} {K' : Act → World → Prop}
end
open Go.Maps (Keyed IsMap int_keyed)
def RLabel (ok : Nat → Prop) (w : World) (cs : List Value) (x : List Lev) : Prop := ∃ la lc, cs = [.slice la x.length lc] ∧ SlR ok w 2 RLev la lc x
theorem RLabel.keep {ok : Nat → Prop} {w w' : World} (hk : Keeps ok w w') {cs : List Value} {x : List Lev} (h : RLabel ok w cs x) : RLabel ok w' cs x := by
 obtain ⟨la, lc, e, h1⟩ := h
 exact ⟨la, lc, e, h1.keep hk⟩
abbrev LabelsR (ok : Nat → Prop) (w : World) (a : Option Addr) (c : Nat) (ls : List (List Lev)) : Prop := SlR ok w 1 (RLabel ok w) a c ls
theorem LabelsR.below {ok : Nat → Prop} {w w' : World} {a : Option Addr} {c : Nat} {ls : List (List Lev)} (h : LabelsR ok w a c ls) (hb : Below w.heap.size w w') : LabelsR ok w' a c ls := h.mono (.of_below hb) fun _ _ => RLabel.keep (.of_below hb)
def namesL (ls : List (List Lev)) : List Int := ls.flatMap fun x => x.map (·.c)
open Go.Maps (Keyed IsMap int_keyed)

open Go.Maps (Keyed)
def certLit (x : Cert) : Lit := .string (keyBytes [.int .i64 x.c, .int .i64 x.by_, .int .i64 x.host, .int .i64 x.till])
open Go.Maps (Keyed)
def noMail : Mail := ⟨0, 0, [], [], ⟨#[]⟩⟩

theorem wire_Encode (ok : Nat → Prop) (w : World) (f : Frame) (la : Option Addr) (lc : Nat) (ga : Option Addr) (gc : Nat) (ca : Option Addr) (cc : Nat) (hf : f.FitsW) (hR : FrameR ok w f la lc ga gc ca cc) :
  Calls Tryz.prog 82 #[frameV f la lc ga gc ca cc] w fun e w' => e = .returned (.tuple #[.string (encR f).1, .int .i64 (encR f).2]) ∧ Below w.heap.size w w' := by
 unfold encR
 by_cases h : goodFrameC f = 0
 ·rw [if_pos h]
  cases hk : f.ack
  ·exact wire_Encode_mail ok w f la lc ga gc ca cc hf hR h hk
  ·exact wire_Encode_ack ok w f la lc ga gc ca cc hf hR h hk
 ·rw [if_neg h]
  exact wire_Encode_bad ok w f la lc ga gc ca cc hf hR h
def frame9 : Frame := ⟨0, 1, 1, true, 0, ⟨0, 0, [], [], ⟨#[]⟩⟩, []⟩
end Go.Proofs.YtnjjdpiofbajlaaGreat
