/- For every list of acts, plain mail that was sent comes to a thread that may have it, if one of five frames is not lost. No condition. -/
import Derived.Test.YtnjjdpiofbajlaaGreatRows
import Derived.WalkKit
import Derived.ProofKit
import Derived.OpenShut
import Derived.SizedLaws
import Derived.Test.YtnjjdpiofbajlaaGreatP41
import Derived.Test.YtnjjdpiofbajlaaGreatP36
import Derived.Test.YtnjjdpiofbajlaaGreatP38
set_option linter.unusedSimpArgs false
set_option linter.unusedVariables false
set_option maxHeartbeats 16000000
set_option maxRecDepth 100000
namespace Go.Proofs.YtnjjdpiofbajlaaGreat.topArrives
open Go.ChangeShapes Go.WideShapes Go.ChangeAt Go.RowKit

theorem walk (w : World) (l : List Deed) (la : Option Addr) (lc : Nat) (ih it itz iu ilo : Int) (text : ByteArray) (hR : SlR (fun _ => True) w 12 (RDeed (fun _ => True) w) la lc l) (hlen : l.length * 136 ≤ 140737488355328) (hB : ∀ a ∈ l, a.call.label.length * 16 ≤ 140737488351232 ∧ a.call.grants.length * 8 ≤ 140737488351232)
    (rh : -9223372036854775808 ≤ ih ∧ ih ≤ 9223372036854775807) (rt : -9223372036854775808 ≤ it ∧ it ≤ 9223372036854775807) (rz : -9223372036854775808 ≤ itz ∧ itz ≤ 9223372036854775807) (ru : -9223372036854775808 ≤ iu ∧ iu ≤ 9223372036854775807) (rl : -9223372036854775808 ≤ ilo ∧ ilo ≤ 9223372036854775807) :
    Calls Tryz.prog 5 #[.slice la l.length lc, .int .i64 ih, .int .i64 it, .int .i64 itz, .int .i64 iu, .int .i64 ilo, .string text] w fun r w' => r = .returned (.bool true) ∧ Below w.heap.size w w' := by
  obtain ⟨h, eh, hh⟩ := pkC_nat ih (n := 4) (by decide)
  obtain ⟨t, et, ht⟩ := pkC_nat it (n := 4) (by decide)
  obtain ⟨tz, ez, hz⟩ := pkC_nat itz (n := 4) (by decide)
  obtain ⟨u, eu, hu⟩ := pkC_nat iu (n := 4) (by decide)
  obtain ⟨lost, el, hl⟩ := pkC_nat ilo (n := 5) (by decide)
  simp only [Int.cast_ofNat_Int] at eh et ez eu el
  have HE := qh (And.intro eh (And.intro et (And.intro ez (And.intro eu el))))
  have HPk := qh (fun (V : World) (k n : Int) (hn : 0 < n) (hn2 : n ≤ 4611686018427387904) (hk : -9223372036854775808 ≤ k ∧ k ≤ 9223372036854775807) => top_pickC V k n hn hn2 hk)
  have HLA := qh (show (if lc = 0 then la else la.map (·.add (0 * 12))) = la by
    split
    · rfl
    · cases la with
      | none => rfl
      | some ad => simp [Addr.add])
  clear eh et ez eu el
  have h60 : ∃ (l' : List Deed) (d : Bool), decide ((60 : Int) < (l.length : Int)) = d ∧ SlR (fun _ => True) w 12 (RDeed (fun _ => True) w) la lc l' ∧ (∀ a ∈ l', a.call.label.length * 16 ≤ 140737488351232 ∧ a.call.grants.length * 8 ≤ 140737488351232) ∧ l'.length ≤ 60 ∧ (if d = true then l'.length = 60 ∧ 60 < l.length else l' = l) := by
    by_cases q : 60 < l.length
    · exact ⟨l.take 60, true, by simp; omega, hR.take 60, fun a ha => hB a (List.take_subset _ _ ha), by rw [List.length_take]; omega, by rw [if_pos rfl, List.length_take]; exact ⟨by omega, q⟩⟩
    · exact ⟨l, false, by simp; omega, hR, hB, by omega, by rw [if_neg (by simp)]⟩
  obtain ⟨l', d, hd, hR', hB', hl60, hc⟩ := h60
  have hlc : l.length ≤ lc := hR.1
  have HPq := qh (play_quiet w _ l' la lc hR' (by omega) hB')
  have hlp : l'.take 120 = l' := List.take_of_length_le (by omega)
  rw [hlp] at HPq
  have hH0 := high_play l'
  generalize doAll newC l' = C0 at HPq hH0
  clear hR hB hR' hB' hl60 hlp hlen
  go_enter Tryz.func5, Tryz.ntmps5
  go_upto_if 31 with (first | go_skip | fail)
  go_cut [0] (fun s0 wx => s0 = .slice la l'.length lc ∧ wx = w)
  case first =>
    cases d with
    | true =>
      rw [if_pos rfl] at hc
      obtain ⟨hc1, hc2⟩ := hc
      go_wp2_with (first
        | go_skip
        | ((with_reducible refine at_slice 22 ?_); refine wpList_value (wanted_none rfl) (run_sl 22 32 _ _ _ _ rfl Tryz.underlying22 Tryz.sizeOf32 rfl 0 60 lc rfl (fun _ => rfl) rfl (by simp) rfl (fun _ => rfl) (by simp) (Nat.zero_le _) (by omega) (Nat.le_refl _)) ?_; rw [HLA.out, Nat.sub_zero, Nat.sub_zero]))
      go_meet
      exact ⟨by rw [hc1], rfl⟩
    | false =>
      rw [if_neg (by simp)] at hc
      subst hc
      go_wp2_with (first | go_skip | fail)
      go_meet
      exact ⟨rfl, rfl⟩
  case rest =>
  obtain ⟨rfl, hwx⟩ := hcut
  have hwx2 := hwx.symm
  subst hwx2
  clear hwx
  clear hc hd HLA hlc
  go_upto_region 7 with (first
    | go_skip
    | (go_at_call 9; go_must (refine HPq.out.mono ?_; rintro e v2 ⟨gc, kg, rfl, hgc, P⟩))
    | (go_at_call 24; go_must (refine (HPk.out _ _ _ (by decide) (by decide) (by first | exact rh | exact rt | exact rz | exact ru | exact rl)).mono ?_; rintro e v3 ⟨rfl, rfl⟩)))
  try simp only [kP, kA, kS, kZ]
  obtain ⟨eh, et, ez, eu, el⟩ := HE.out
  simp only [eh, et, ez, eu, el]
  clear eh et ez eu el HE HPk HPq rh rt rz ru rl
  have HP0 := qh P
  clear P
  by_cases h64 : 64 < text.size
  case pos =>
    have d1 : decide ((64 : Int) < (text.size : Int)) = true := by simp; omega
    go_wp2_with (first | go_skip | fail)
    go_ret
    exact ⟨rfl, HP0.out.st.below⟩
  have d1 : decide ((64 : Int) < (text.size : Int)) = false := by simp; omega
  by_cases hne : h = tz
  case pos =>
    have e1 : ((h : Int) == (tz : Int)) = true := by simp [hne]
    clear hne
    go_wp2_with (first | go_skip | fail)
    go_ret
    exact ⟨rfl, HP0.out.st.below⟩
  have e1 : ((h : Int) == (tz : Int)) = false := by simp; omega
  have HEm := qh (top_emptied HP0.out)
  go_wp2_with (first
    | go_skip
    | (go_at_call 25; go_must (refine HEm.out.mono ?_; rintro e v4 ⟨b, rfl, k, hk, hak, P4, hb⟩; refine RowKit.Hid.out ?_)))
  refine qh ?_
  clear HEm
  cases b
  case false =>
    go_wp2_with (first | go_skip | fail)
    go_ret
    exact ⟨rfl, P4.st.below⟩
  obtain rfl := hb rfl
  have hnet : (dropK C0 C0.net.length).net = [] := by unfold dropK; simp
  have hH1 : HighI (dropK C0 C0.net.length) := fun p q hp hq hn => hH0 p q hp hq hn
  have hok1 := P4.okC
  generalize dropK C0 C0.net.length = C1 at P4 hnet hH1 hok1
  have HDo := qh (cluster_Do P4 (sendD h t tz u text) (fun _ => False) (fun _ h => h.elim) none 0 none 0 (by simp [sendD]) (by simp [sendD]) (SlR.nil _ _ _ _) (SlR.nil _ _ _ _))
  have hsn := fun h0 => send_no (C := C1) (h := h) (t := t) (tz := tz) (u := u) (text := text) h0
  have hsd := fun h0 => arr_send hok1 hH1 hnet hh ht hz hu hne text (by omega) h0
  obtain ⟨C2, rc, rn, rtx, hs⟩ : ∃ C2 rc rn rtx, doC C1 (sendD h t tz u text) = (C2, ⟨rc, rn, rtx⟩) := ⟨_, _, _, _, rfl⟩
  rw [hs] at HDo hsn hsd
  dsimp only at HDo hsn hsd
  have HSn := qh hsn
  have HSd := qh hsd
  have HNt0 := qh hnet
  clear hs hsn hsd hH1 hH0 hok1 hk hak hb hnet P4 HP0 hne
  unfold deedV RepV sendD at HDo
  go_upto_region 12 with (first
    | go_skip
    | (go_at_call 18; go_must (refine HDo.out.mono ?_; rintro e v5 ⟨rfl, P5⟩; have st := St.start v5))
    | (with_reducible refine mA st Tryz.zeroValue35 ?_; clear st; intro g1 w5 hg1 st) | (with_reducible refine mS 0 st Tryz.sizeOf35 ?_; clear st; intro w6 st hw6m hw6z))
  try simp only [kP, kA, kS, kZ]
  have HP6 := qh (P5.walk st)
  replace st := st.rebase
  simp only [List.map_cons, List.map_nil] at st
  clear P5 HDo
  have HNt := qh (cluster_Net HP6.out)
  by_cases hc0 : rc = 0
  case neg =>
    have e2 : (rc != 0) = true := by simpa using hc0
    have hn2 : C2.net = [] := (HSn.out hc0).trans HNt0.out
    rw [hn2] at HNt
    clear hc0 HSn HSd hn2
    go_wp2_with (first
      | go_skip | (with_reducible refine mX st Tryz.isAgg33 ?_)
      | (go_at_call 26; go_must (refine HNt.out.mono ?_; rintro e v7 ⟨na, nc, rfl, hb7, -⟩; replace st := st.call hb7)))
    go_ret
    exact ⟨by first | rfl | simp, HP6.out.st.below.keep hb7⟩
  subst hc0
  obtain ⟨F, hA, hn2, hsrc, hdst, hthr, hmh, hmt, hml, hmg⟩ := HSd.out rfl
  rw [hn2] at HNt
  obtain ⟨s, hs⟩ : ∃ s, (⟨(encL F).toArray⟩ : ByteArray) = s := ⟨_, rfl⟩
  rw [hs] at HNt hn2
  have HS := qh hs
  have HA0 := qh hA
  have HI0 := qh (show InOr s C2 from .inl (by rw [hn2]; simp))
  have HF := qh (And.intro hsrc (And.intro hdst (And.intro hthr (And.intro hmh (And.intro hmt (And.intro hml hmg))))))
  clear hA hn2 hs hsrc hdst hthr hmh hmt hml hmg HSn HSd HNt0
  go_upto_region 17 with (first
    | go_skip | (with_reducible refine mX st Tryz.isAgg33 ?_)
    | (go_at_call 26; go_must (refine HNt.out.mono ?_; rintro e v7 ⟨na, nc, rfl, hb7, hO7⟩; replace st := st.call hb7)))
  try simp only [kP, kA, kS, kZ]
  obtain ⟨b7, o7, hna, hb7', hc7⟩ := (hO7.slr (ok := fun _ => True) fun _ _ => trivial).str_at 0 (by simp)
  simp only [Nat.add_zero, List.getElem_cons_zero] at hc7
  subst hna
  go_wp2_with (first | go_skip | fail)
  have HP7 := qh (HP6.out.walk st)
  clear st hO7 HNt HP6 hc7 hb7'
  go_loopw [20, 21] (fun v20 v21 wr => ∃ (i : Nat) (C : Clu) (wt : Int), i ≤ lost ∧ v21 = .int .i64 i ∧ v20 = .int .i64 wt ∧ wt = 2 ^ (i + 1) ∧ Hid (ArrI C F i) ∧ Hid (InOr s C) ∧ Clus w [] [(g1, 35, [.int .i64 0, .int .i64 rn, .string rtx])] (fun _ => False) v2 (fun _ => False) gc kg C wr) (fun _ v21 => fun _ => lost - (intOf v21).toNat)
  case atStart => exact ⟨0, C2, 2, by omega, rfl, rfl, rfl, HA0, HI0, HP7.out⟩
  case round =>
    clear HA0 HI0 HP7
    obtain ⟨V9, rfl⟩ : ∃ V, V = wr := ⟨_, rfl⟩
    obtain ⟨i, C, wt, hi, rfl, rfl, hwt, HA, HI, Pk⟩ := hrel
    by_cases hil : i < lost
    case pos =>
      have d2 : decide ((i : Int) < (lost : Int)) = true := by simp; omega
      have HEm := qh (top_emptied Pk)
      have hwb : 0 < wt ∧ wt ≤ 16 := by
        rcases (by omega : i = 0 ∨ i = 1 ∨ i = 2 ∨ i = 3) with rfl | rfl | rfl | rfl <;> rw [hwt] <;> decide
      have HWt := qh hwt
      clear hwt Pk
      go_wp2_with (first
        | go_skip
        | (go_at_call 25; go_must (refine HEm.out.mono ?_; rintro e v8 ⟨b, rfl, k, hk, hak, P8, hb⟩; refine RowKit.Hid.out ?_)))
      refine qh ?_
      clear HEm
      cases b
      case false =>
        go_wp2_with (first | go_skip | fail)
        go_ret
        exact ⟨rfl, P8.st.below⟩
      obtain rfl := hb rfl
      have hA8 : ArrI (dropK C C.net.length) F i := HA.out.drop P8.okC
      clear HA HI hb hk hak
      generalize dropK C C.net.length = C8 at P8 hA8
      have HDo := qh (cluster_Do P8 (tickD wt) (fun _ => False) (fun _ h => h.elim) none 0 none 0 (by simp [tickD, zeroQ]) (by simp [tickD, zeroQ]) (SlR.nil _ _ _ _) (SlR.nil _ _ _ _))
      have hft := doC_full0 P8.okC (tickD wt)
      have htk : C8.acts < 300 → (doC C8 (tickD wt)).2.code = 0 → ArrI (doC C8 (tickD wt)).1 F (i + 1) ∧ InOr ⟨(encL F).toArray⟩ (doC C8 (tickD wt)).1 := fun a b => by
        rw [HWt.out] at b ⊢
        exact hA8.tick (by omega) a b
      obtain ⟨C9, qc, qn, qt, hs⟩ : ∃ C9 qc qn qt, doC C8 (tickD wt) = (C9, ⟨qc, qn, qt⟩) := ⟨_, _, _, _, rfl⟩
      rw [hs] at HDo htk hft
      dsimp only at HDo htk hft
      have HTk := qh htk
      have HFt := qh hft
      unfold deedV RepV tickD zeroQ at HDo
      clear hs htk hft hA8 P8
      go_wp2_with (first
        | go_skip
        | (go_at_call 18; go_must (refine HDo.out.mono ?_; rintro e v9 ⟨rfl, P9⟩)))
      refine wp_value (v := .int .i64 qc) (w' := v9) rfl ?_
      by_cases hq : qc = 0
      case neg =>
        have e2 : (qc != 0) = true := by simpa using hq
        clear hq
        go_wp2_with (first | go_skip | fail)
        go_ret
        exact ⟨rfl, P9.st.below⟩
      subst hq
      have hac : C8.acts < 300 := Classical.byContradiction fun hn => by
        have := HFt.out (by omega)
        simp [errR] at this
      obtain ⟨hA9, hI9⟩ := HTk.out hac rfl
      rw [HS.out] at hI9
      have HA9 := qh hA9
      have HI9 := qh hI9
      clear hA9 hI9 HTk HFt hac
      go_wp2_with (first | go_skip | fail)
      go_roundw
      case rel => exact ⟨i + 1, C9, wt * 2, by omega, by go_num, by go_num, by rw [HWt.out, ← Int.pow_succ], HA9, HI9, P9⟩
      case measure => simp [intOf] <;> omega
    case neg =>
      have d2 : decide ((i : Int) < (lost : Int)) = false := by simp; omega
      have hokC := Pk.okC
      have hxo : (C.thr tz u).ok := by
        obtain ⟨k, ek, e2, hk, hkh⟩ := hokC.kerAt hz
        unfold Clu.thr; rw [e2]; exact hk.at u
      have HTh := qh ((show ThreadPost V9 (thrC2 C tz u) = ThreadPost V9 (C.thr tz u) by rw [thrC2_at C hz hu]) ▸ cluster_Thread Pk tz u)
      obtain ⟨x, hx⟩ : ∃ x, C.thr tz u = x := ⟨_, rfl⟩
      rw [hx] at HTh hxo
      have HX := qh hx
      have HP := qh Pk
      have st := Pk.st.rebase
      simp only [List.map_cons, List.map_nil] at st
      clear Pk hx hwt
      go_upto_region 26 with (first
        | go_skip
        | (go_at_call 11; go_must (refine HTh.out.mono ?_; rintro e v8 ⟨xa, xc, xo, xd, xb, xe, xm, xf, rfl, hb8, hT⟩; have hst := st.call hb8; clear st; have st := hst.rebase; simp only [List.map_cons, List.map_nil] at st; unfold thrV))
        | (with_reducible refine mA st Tryz.zeroValue39 ?_; clear st; intro g2 w8 hg2 st) | (with_reducible refine mS 1 st Tryz.sizeOf39 ?_; clear st; intro w9 st hw9m hw9z))
      try simp only [kP, kA, kS, kZ]
      have hg1 := hst.ltAt (i := 0) rfl
      have hg19 : g1 < V9.heap.size := HP.out.st.ltAt (i := 0) rfl
      have hg2 : v8.heap.size ≤ g2 := by
        rcases (by simpa using st.mine _ (mgE (i := 1) rfl) : g2 = g1 ∨ v8.heap.size ≤ g2) with h | h
        · have hne := st.ne
          simp at hne
          exact absurd h.symm hne
        · exact h
      have HT9 := qh (show ThrS (fun b => V9.heap.size ≤ b ∧ ∀ y ∈ ([(g1, 35, [.int .i64 0, .int .i64 rn, .string rtx]), (g2, 39, [.slice xa x.label.length xc, .slice xo x.own.length xd, .string x.text, .slice xb x.objects.length xe, .slice xm x.mails.length xf])] : Blks), y.1 ≠ b) w9 x xa xc xo xd xb xe xm xf from hT.move st.size fun b hb ho => ⟨⟨ho, fun y hy e => by simp at hy; rcases hy with rfl | rfl <;> simp at e <;> omega⟩, st.frame b hb (by simp; omega)⟩)
      have HP9 := qh (HP.out.told (St.back hst st))
      replace st := st.rebase
      simp only [List.map_cons, List.map_nil] at st
      have hlx := goodL_len hxo.good
      have hox := hxo.ownL
      have HFl := qh (label_Flows _ w9 none xa xo 0 xc xd [] x.label x.own (by simp; omega) (by omega) (SlR.nil _ _ _ _) HT9.out.label HT9.out.own)
      simp only [List.length_nil] at HFl
      obtain ⟨q, hq⟩ : ∃ q, (decide (x.mails.length < 6) && flowsL [] x.label x.own) = q := ⟨_, rfl⟩
      have HQ := qh hq
      have hmx := hxo.mailN
      clear hst hT HTh hb8 hxo hq hlx hox HP
      go_cut [23] (fun s23 wx => s23 = .bool q ∧ Below w9.heap.size w9 wx)
      case first =>
        by_cases h6 : x.mails.length < 6
        · have d6 : decide ((x.mails.length : Int) < 6) = true := by simp; omega
          have hq := HQ.out
          simp only [h6, decide_true, Bool.true_and] at hq
          rw [hq] at HFl
          clear h6 hq
          go_wp2_with (first
            | go_skip | (with_reducible refine mX st Tryz.isAgg37 ?_) | (with_reducible refine mX st Tryz.isAgg27 ?_) | (with_reducible refine mX st Tryz.isAgg28 ?_)
            | (go_at_call 27; go_must (refine HFl.out.mono ?_; rintro e v7 ⟨rfl, hb7⟩)))
          go_meet
          exact ⟨rfl, hb7⟩
        · have d6 : decide ((x.mails.length : Int) < 6) = false := by simp; omega
          have hq := HQ.out
          simp only [h6, decide_false, Bool.false_and] at hq
          subst hq
          clear h6
          go_wp2_with (first | go_skip | (with_reducible refine mX st Tryz.isAgg37 ?_) | (with_reducible refine mX st Tryz.isAgg27 ?_) | (with_reducible refine mX st Tryz.isAgg28 ?_))
          go_meet
          exact ⟨rfl, Below.refl _ _⟩
      case rest =>
      obtain ⟨rfl, hbq⟩ := hcut
      replace st := st.call hbq
      have HP10 := qh (HP9.out.below hbq)
      have HNt := qh (cluster_Net HP10.out)
      clear HFl HP9 hbq
      go_wp2_with (first
        | go_skip
        | (go_at_call 26; go_must (refine HNt.out.mono ?_; rintro e v7 ⟨na2, nc2, rfl, hb7, hO7⟩; replace st := st.call hb7)))
      have HN7 := qh (hO7.slr (ok := fun _ => True) fun _ _ => trivial)
      have HP7 := qh (HP10.out.below hb7)
      have ST7 := qh st
      have hnn : C.net.length ≤ 60 := hokC.netN
      clear hO7 HNt HP10 hb7 st
      go_loopw [121] (fun v121 wr => ∃ k : Nat, k ≤ C.net.length ∧ v121 = .int .i64 k ∧ s ∉ C.net.take k ∧ Below v7.heap.size v7 wr) (fun v121 _ => C.net.length - (intOf v121).toNat)
      case atStart => exact ⟨0, Nat.zero_le _, rfl, by simp, Below.refl _ _⟩
      case round =>
        obtain ⟨V6, rfl⟩ : ∃ V, V = wr := ⟨_, rfl⟩
        obtain ⟨k, hk, rfl, hnk, hB6⟩ := hrel
        have HNK := qh hnk
        clear hnk
        by_cases hkl : k < C.net.length
        case neg =>
          have d3 : decide ((k : Int) < (C.net.length : Int)) = false := by simp; omega
          have hge : 60 ≤ C.net.length := by
            rcases HI.out with h | h
            · exact absurd h (by have := HNK.out; rwa [List.take_of_length_le (by omega)] at this)
            · exact h
          have d4 : decide ((60 : Int) ≤ (C.net.length : Int)) = true := by simp; omega
          have HNt := qh (cluster_Net (HP7.out.below hB6))
          clear HNK HI
          go_wp2_with (first
            | go_skip
            | (go_at_call 26; go_must (refine HNt.out.mono ?_; rintro e v5 ⟨na3, nc3, rfl, hb5, -⟩)))
          go_ret
          exact ⟨by first | rfl | simp, (HP7.out.below hB6).st.below.keep hb5⟩
        have d3 : decide ((k : Int) < (C.net.length : Int)) = true := by simp; omega
        obtain ⟨b7, o7, hna, hb7', hc7⟩ := (HN7.out.below hB6).str_at k hkl
        have hks : C.net[k]? = some C.net[k] := gEg hkl
        have htk : C.net.take (k + 1) = C.net.take k ++ [C.net[k]] := List.take_succ_eq_append_getElem hkl
        generalize C.net[k] = z at hc7 hks htk
        subst hna
        by_cases hzs : z = s
        case neg =>
          have e3 : (z.toList == s.toList) = false := by
            simpa using (show ¬ z.toList = s.toList from fun h => hzs (by rw [ByteArray.toList_eq, ByteArray.toList_eq] at h; exact (ByteArray.ext (Array.toList_inj.1 h))))
          have HNS := qh (show s ∉ C.net.take (k + 1) by rw [htk]; simp; exact ⟨HNK.out, fun e => hzs e.symm⟩)
          clear hzs htk hks HNK
          go_wp2_with (first | go_skip | fail)
          go_roundw
          case rel => exact ⟨k + 1, by omega, by go_num, HNS.out, hB6⟩
          case measure => simp [intOf] <;> omega
        subst hzs
        have e3 : (z.toList == z.toList) = true := by simp
        obtain ⟨hsrc, hdst, hthr, hmh, hmt, hml, hmg⟩ := HF.out
        have hft := doC_full0 hokC (comeD k)
        have hto : C.acts < 300 → _ := fun ha => arr_told HA.out (k := k) (by rw [HS.out]; exact hks) ha hml hmg
        rw [hdst, hthr, HX.out] at hto
        have HDo := qh (cluster_Do (HP7.out.below hB6) (comeD k) (fun _ => False) (fun _ h => h.elim) none 0 none 0 (by simp [comeD, zeroQ]) (by simp [comeD, zeroQ]) (SlR.nil _ _ _ _) (SlR.nil _ _ _ _))
        obtain ⟨C9, qc, qn, qt, hs⟩ : ∃ C9 qc qn qt, doC C (comeD k) = (C9, ⟨qc, qn, qt⟩) := ⟨_, _, _, _, rfl⟩
        rw [hs] at HDo hto hft
        dsimp only at HDo hto hft
        unfold deedV RepV comeD zeroQ at HDo
        have HTo := qh hto
        have HFt := qh hft
        have HM := qh (And.intro hmh (And.intro hmt (And.intro hml hmg)))
        clear hs hto hft htk hks HNK hsrc hdst hthr hmh hmt hml hmg HF HI HN7 ST7
        go_wp2_with (first
          | go_skip
          | (go_at_call 18; go_must (refine HDo.out.mono ?_; rintro e v5 ⟨rfl, P5⟩)))
        refine wp_value (v := .int .i64 qc) (w' := v5) rfl ?_
        by_cases hq0 : qc = 0
        case neg =>
          have e4 : (qc != 0) = true := by simpa using hq0
          have e5 : (qc == 5) = true := by
            by_cases ha : C.acts < 300
            · exact absurd (HTo.out ha).1 hq0
            · have := HFt.out (by omega)
              simp [errR] at this
              simp [this.2]
          clear hq0
          go_wp2_with (first | go_skip | fail)
          go_ret
          exact ⟨rfl, P5.st.below⟩
        subst hq0
        have hac : C.acts < 300 := Classical.byContradiction fun hn => by
          have := HFt.out (by omega)
          simp [errR] at this
        obtain ⟨-, hy⟩ := HTo.out hac
        have hyo : (C9.thr tz u).ok := by
          obtain ⟨k, ek, e2, hk, hkh⟩ := P5.okC.kerAt hz
          unfold Clu.thr; rw [e2]; exact hk.at u
        have HTh := qh ((show ThreadPost v5 (thrC2 C9 tz u) = ThreadPost v5 (C9.thr tz u) by rw [thrC2_at C9 hz hu]) ▸ cluster_Thread P5 tz u)
        generalize C9.thr tz u = y at HTh hy hyo
        have hmy := hyo.mailN
        have HY := qh hy
        have HS5 := qh P5.st
        have hg15 := P5.st.ltAt (i := 0) rfl
        have hg25 := P5.st.ltAt (i := 1) rfl
        have st := P5.st.rebase
        simp only [List.map_cons, List.map_nil] at st
        have HT5 := qh (show ThrS (fun b => b < w9.heap.size ∧ V9.heap.size ≤ b ∧ b ≠ g2) v5 x xa xc xo xd xb xe xm xf from HT9.out.move P5.kept.size fun b hb ho => ⟨⟨hb, ho.1, fun e => ho.2 _ (mgE (i := 1) rfl) e.symm⟩, P5.kept.block b hb ho⟩)
        have hz59 := P5.kept.size
        clear HTo HFt hac hy hyo P5 HDo HT9 HP7
        go_upto_region 35 with (first
          | go_skip
          | (go_at_call 11; go_must (refine HTh.out.mono ?_; rintro e v4 ⟨ya, yc, yo, yd, yb, ye, ym, yf, rfl, hb4, hT⟩; have hst := st.call hb4; clear st; have st := hst.rebase; simp only [List.map_cons, List.map_nil] at st; unfold thrV))
          | (with_reducible refine mA st Tryz.zeroValue39 ?_; clear st; intro g3 w4 hg3 st) | (with_reducible refine mS 2 st Tryz.sizeOf39 ?_; clear st; intro w3 st hw3m hw3z))
        try simp only [kP, kA, kS, kZ]
        have HTy := qh (hT.move (ok' := fun b => v5.heap.size ≤ b) st.size fun b hb ho => ⟨ho, st.frame b hb (by simp; omega)⟩)
        have HTx := qh ((HT5.out.below hb4).move (ok' := fun b => V9.heap.size ≤ b) st.size fun b hb ho => ⟨ho.2.1, st.frame b hb (by simp; exact ⟨by have := ho.2.1; omega, ho.2.2⟩)⟩)
        have HSW := qh (St.back HS5.out (St.back hst st))
        replace st := st.rebase
        simp only [List.map_cons, List.map_nil] at st
        clear hT HT5 HS5 hst hb4 HTh
        cases q with
        | false =>
          have hyx : y = x := by
            have h1 := HY.out
            have h2 := HQ.out
            rw [if_neg (by rintro ⟨a, b⟩; simp [a, b] at h2)] at h1
            exact h1
          subst hyx
          have HSa := qh (top_sameThread _ _ w3 y xa xc xo xd xb xe xm xf ya yc yo yd yb ye ym yf HTx.out HTy.out)
          unfold thrV at HSa
          clear HTx HTy HY HQ
          go_wp2_with (first
            | go_skip | (with_reducible refine mXA st Tryz.isAgg39 Tryz.sizeOf39 ?_) | (with_reducible refine mXA st Tryz.isAgg39 Tryz.sizeOf39 ?_)
            | (go_at_call 28; go_must (refine HSa.out.mono ?_; rintro e v2 ⟨rfl, hb2⟩)))
          go_ret
          exact ⟨rfl, HSW.out.below.keep hb2⟩
        | true =>
          have hq := HQ.out
          simp only [Bool.and_eq_true, decide_eq_true_eq] at hq
          have hyx := HY.out
          rw [if_pos hq] at hyx
          obtain ⟨hmh, hmt, hml, hmg⟩ := HM.out
          generalize F.mail = fm at hmh hmt hml hmg hyx
          obtain ⟨mh, mt, ml, mg, mx⟩ := fm
          dsimp only at hmh hmt hml hmg
          subst hmh hmt hml hmg
          have hyl : y.mails.length = x.mails.length + 1 := by rw [hyx]; simp
          have hlt : x.mails.length < y.mails.length := by omega
          have hget : y.mails[x.mails.length] = ⟨h, t, [], [], mx⟩ := by simp [hyx]
          obtain ⟨b2, o2, la2, lc2, ga2, gc2, hna, -, hb2, hL2, hG2, hC2⟩ := HTy.out.mails.mail_at x.mails.length hlt
          rw [hget] at hC2 hL2 hG2
          have d5 : IntKind.i64.wrap ((y.mails.length : Int) - 1) = (x.mails.length : Int) := by rw [hyl]; push_cast; rw [show ((x.mails.length : Int) + 1 - 1) = x.mails.length by omega]; exact IntWalk.i64_in _ (by omega)
          have d6 : IntKind.i64.wrap ((y.mails.length : Int) - (x.mails.length : Int)) = 1 := by rw [hyl]; push_cast; rw [show ((x.mails.length : Int) + 1 - x.mails.length) = 1 by omega]; exact IntWalk.i64_in _ (by omega)
          have HC2 := qh hC2
          dsimp only at hL2 hG2
          have e6 : ((h : Int) == (h : Int)) = true := by simp
          have e7 : ((t : Int) == (t : Int)) = true := by simp
          clear hyx hyl hget HTx HTy HY HQ hq hC2 hL2 hG2 HM
          subst hna
          go_wp2_with (first
            | go_skip | (with_reducible refine mX st Tryz.isAgg37 ?_) | (with_reducible refine mX st Tryz.isAgg3 ?_) | (with_reducible refine mX st Tryz.isAgg27 ?_) | (with_reducible refine mX st Tryz.isAgg28 ?_)
            | ((with_reducible refine at_load 42 ?_); refine wpList_load_cells (wanted_none rfl) 42 _ rfl Tryz.isAgg42 _ Tryz.sizeOf42 b2 (o2 + x.mails.length * 5) rfl [.int .i64 h, .int .i64 t, .slice la2 0 lc2, .slice ga2 0 gc2, .string mx] rfl HC2.out ?_)
            | (with_reducible refine mA st Tryz.zeroValue42 ?_; clear st; intro g4 w1 hg4 st) | (with_reducible refine mS 3 st Tryz.sizeOf42 ?_; clear st; intro w0 st hw0m hw0z))
          go_ret
          exact ⟨by first | rfl | simp, (St.back HSW.out st).below⟩

theorem own : ownKnob Tryz.prog.godebug = none := by kernel_rfl
theorem laid : laidOutB Tryz.prog = true := by kernel_rfl

theorem contract (H : Type) (enc : TypeId × Value → H) (W : World) (base : Nat) (args : Array Value) (ds gs : List (DataW H)) (before : List MemPlace)
    (hval : ∀ (j : Nat) t v, Tryz.f5.params[j]? = some t → args[j]? = some v → Value.okWide Tryz.prog W .any base t v)
    (hW : DataW.Whole enc Tryz.prog Tryz.f5.params.toList Rows.topArrivesSpec.vars false W args.toList ds gs before)
    (hsz : (DataW.weightsEach Tryz.prog (Tryz.f5.params.toList ++ Rows.topArrivesSpec.plain.varTypes Tryz.prog) (ds ++ gs)).all (· ≤ reachBytes) = true) :
    Calls Tryz.prog 5 args W fun e W' => ∃ v, e = .returned v ∧ Rows.topArrivesSpec.post enc Tryz.prog Tryz.f5 false true false false W args v W' := by
  have hW' := hW
  obtain ⟨p, q, hTrd, hV, rfl, hfz, hnd⟩ := hW
  have hA : DataW.TrodAll enc Tryz.prog W 0 (fun _ => true) true Tryz.f5.params.toList args.toList ds p := hTrd
  have hpar := Tryz.params5
  rw [hpar] at hA hval hsz
  obtain ⟨v0, vs0, d0, ds0, p0, q0, hargs0, rfl, rfl, h0, r0⟩ := trodAll_cons hA
  obtain ⟨v1, vs1, d1, ds1, p1, q1, hargs1, rfl, rfl, h1, r1⟩ := trodAll_cons r0
  obtain ⟨v2, vs2, d2, ds2, p2, q2, hargs2, rfl, rfl, h2, r2⟩ := trodAll_cons r1
  obtain ⟨v3, vs3, d3, ds3, p3, q3, hargs3, rfl, rfl, h3, r3⟩ := trodAll_cons r2
  obtain ⟨v4, vs4, d4, ds4, p4, q4, hargs4, rfl, rfl, h4, r4⟩ := trodAll_cons r3
  obtain ⟨v5, vs5, d5, ds5, p5, q5, hargs5, rfl, rfl, h5, r5⟩ := trodAll_cons r4
  obtain ⟨v6, vs6, d6, ds6, p6, q6, hargs6, rfl, rfl, h6, r6⟩ := trodAll_cons r5
  obtain ⟨hnil, rfl, rfl⟩ := trodAll_nil r6
  obtain rfl : args = #[v0, v1, v2, v3, v4, v5, v6] := by cases args; simp_all
  obtain ⟨rfl, rfl⟩ := trodVars_none hV
  have w0 : ∀ n ∈ d0.weights Tryz.prog 22, n ≤ reachBytes := fun n hn => by simpa using List.all_eq_true.1 hsz n (DataW.weights_mem_each (j := 0) (t := 22) (d := d0) rfl rfl n hn)
  obtain ⟨x0, a0, c0, rfl, hR0, hl0, hx0, hm0⟩ := arg_slice (fit := Deed.fit) (mass := Deed.mass) reads_Deed Tryz.underlying22 (by kernel_rfl : Tryz.prog.cellsOf _ = 12) (by decide) (by kernel_rfl : Tryz.prog.bytesOf _ = 136) (hval 0 _ v0 rfl rfl) h0 w0
  have w1 : ∀ n ∈ d1.weights Tryz.prog 3, n ≤ reachBytes := fun n hn => by simpa using List.all_eq_true.1 hsz n (DataW.weights_mem_each (j := 1) (t := 3) (d := d1) rfl rfl n hn)
  obtain ⟨x1, rfl, hx1⟩ := arg_int Tryz.underlying3 (hval 1 _ v1 rfl rfl) h1
  have w2 : ∀ n ∈ d2.weights Tryz.prog 3, n ≤ reachBytes := fun n hn => by simpa using List.all_eq_true.1 hsz n (DataW.weights_mem_each (j := 2) (t := 3) (d := d2) rfl rfl n hn)
  obtain ⟨x2, rfl, hx2⟩ := arg_int Tryz.underlying3 (hval 2 _ v2 rfl rfl) h2
  have w3 : ∀ n ∈ d3.weights Tryz.prog 3, n ≤ reachBytes := fun n hn => by simpa using List.all_eq_true.1 hsz n (DataW.weights_mem_each (j := 3) (t := 3) (d := d3) rfl rfl n hn)
  obtain ⟨x3, rfl, hx3⟩ := arg_int Tryz.underlying3 (hval 3 _ v3 rfl rfl) h3
  have w4 : ∀ n ∈ d4.weights Tryz.prog 3, n ≤ reachBytes := fun n hn => by simpa using List.all_eq_true.1 hsz n (DataW.weights_mem_each (j := 4) (t := 3) (d := d4) rfl rfl n hn)
  obtain ⟨x4, rfl, hx4⟩ := arg_int Tryz.underlying3 (hval 4 _ v4 rfl rfl) h4
  have w5 : ∀ n ∈ d5.weights Tryz.prog 3, n ≤ reachBytes := fun n hn => by simpa using List.all_eq_true.1 hsz n (DataW.weights_mem_each (j := 5) (t := 3) (d := d5) rfl rfl n hn)
  obtain ⟨x5, rfl, hx5⟩ := arg_int Tryz.underlying3 (hval 5 _ v5 rfl rfl) h5
  have w6 : ∀ n ∈ d6.weights Tryz.prog 9, n ≤ reachBytes := fun n hn => by simpa using List.all_eq_true.1 hsz n (DataW.weights_mem_each (j := 6) (t := 9) (d := d6) rfl rfl n hn)
  obtain ⟨x6, rfl, hx6, hm6⟩ := arg_string Tryz.underlying9 (hval 6 _ v6 rfl rfl) h6 w6
  refine (walk W x0 a0 c0 x1 x2 x3 x4 x5 x6 hR0 (by omega) (fun a ha => ⟨by have := (hx0 a ha).2.2.2.2.2.2.2.2.2.1.1; omega, by have := (hx0 a ha).2.2.2.2.2.2.2.2.2.2.1.1; omega⟩) hx1 hx2 hx3 hx4 hx5).mono fun e W' ⟨he, hb⟩ => ?_
  exact ⟨_, he, law_post laid (by kernel_rfl) hW' rfl rfl (by kernel_rfl) Tryz.underlying4 hb⟩

theorem lifted (os : Os) (started : os.Started) (H : Type) (enc : TypeId × Value → H) :
    ReturnsInHanded {} Tryz.checked os 5 .any (Rows.topArrivesSpec.pre6 enc Tryz.prog Tryz.f5 Rows.topArrivesRow.domain false) (Rows.topArrivesSpec.post enc Tryz.prog Tryz.f5 false true false false) := by
  refine returnsInHanded_of_change_sized (C := Tryz.checked) own started (by kernel_rfl) Tryz.func5
    (ChangeSpec.witness6 (enc := enc) (C := Tryz.checked) false ⟨#[], #[.slice none 0 0, .int .i64 0, .int .i64 0, .int .i64 0, .int .i64 0, .int .i64 0, .string .empty], []⟩ 12 (by kernel_rfl) (by kernel_rfl) (by kernel_rfl) (by kernel_rfl)) ?_
  intro W base args ds gs before hval hW _ hsz _
  exact contract H enc W base args ds gs before hval hW hsz

theorem proved : Rows.TopArrivesSaid :=
  OpenClaim.holds_of_wide 5 Tryz.f5 rfl rfl rfl rfl rfl rfl rfl ⟨rfl, rfl, rfl, rfl, rfl⟩ rfl rfl rfl rfl rfl (by kernel_rfl) Tryz.func5 (by kernel_rfl)
    (of_decide_eq_true (by kernel_rfl)) (by unfold Func.isWrapper; first | (rw [if_pos (by decide +kernel)]; kernel_rfl) | (rw [if_neg (by decide +kernel)]; exact ⟨rfl, rfl⟩))
    (fun os started H enc _ => lifted os started H enc)

end Go.Proofs.YtnjjdpiofbajlaaGreat.topArrives
