/- For every list of acts, one more that is refused changes nothing (but what a box loses by asking). No condition. -/
import Derived.Test.YtnjjdpiofbajlaaGreatRows
import Derived.WalkKit
import Derived.ProofKit
import Derived.OpenShut
import Derived.SizedLaws
import Derived.Test.YtnjjdpiofbajlaaGreatP3
import Derived.Test.YtnjjdpiofbajlaaGreatP8
import Derived.Test.YtnjjdpiofbajlaaGreatP33
import Derived.Test.YtnjjdpiofbajlaaGreatP36
import Derived.Test.YtnjjdpiofbajlaaGreatP38
import Derived.Test.YtnjjdpiofbajlaaGreatP39
set_option linter.unusedSimpArgs false
set_option linter.unusedVariables false
namespace Go.Proofs.YtnjjdpiofbajlaaGreat.topRefused
open Go.ChangeShapes Go.WideShapes Go.ChangeAt Go.RowKit

theorem toMap' {α β : Type} {sz : Nat} {R : List Value → β → Prop} {cs : List Value} {xs : List α} {f : α → β} (h : Rec sz (fun c x => R c (f x)) cs xs) : Rec sz R cs (xs.map f) := by
  obtain ⟨css, h1, h2, h3, h4⟩ := h
  refine ⟨css, h1, by simpa using h2, h3, fun i x c hx hc => ?_⟩
  rw [List.getElem?_map] at hx
  cases e : xs[i]? with
  | none => rw [e] at hx; simp at hx
  | some y => rw [e] at hx; cases hx; exact h4 i y c e hc

theorem ofMap' {α β : Type} {sz : Nat} {R : List Value → β → Prop} {cs : List Value} {xs : List α} {f : α → β} (h : Rec sz R cs (xs.map f)) : Rec sz (fun c x => R c (f x)) cs xs := by
  obtain ⟨css, h1, h2, h3, h4⟩ := h
  exact ⟨css, h1, by simpa using h2, h3, fun i x c hx hc => h4 i (f x) c (by rw [List.getElem?_map, hx]; rfl) hc⟩

theorem len5 {α : Type} {l : List α} (h : l.length = 5) : ∃ a b c d e, l = [a, b, c, d, e] := by
  match l, h with
  | [a, b, c, d, e], _ => exact ⟨a, b, c, d, e, rfl⟩

set_option maxRecDepth 100000 in
set_option maxHeartbeats 8000000 in
theorem walk (w : World) (l : List Deed) (la : Option Addr) (lc : Nat) (a : Deed) (la1 : Option Addr) (lc1 : Nat) (ga1 : Option Addr) (gx1 : Nat) (hR : SlR (fun _ => True) w 12 (RDeed (fun _ => True) w) la lc l) (hlen : l.length * 136 ≤ 140737488355328) (hB : ∀ a ∈ l, a.call.label.length * 16 ≤ 140737488351232 ∧ a.call.grants.length * 8 ≤ 140737488351232)
    (hll : a.call.label.length * 16 ≤ 140737488351232) (hgl : a.call.grants.length * 8 ≤ 140737488351232) (hA1 : SlR (fun _ => True) w 2 RLev la1 lc1 a.call.label) (hA2 : SlR (fun _ => True) w 1 RInt ga1 gx1 a.call.grants) :
    Calls Tryz.prog 7 #[.slice la l.length lc, .agg #[.int .i64 a.kind, .int .i64 a.h, .int .i64 a.t, .int .i64 a.n, .int .i64 a.call.kind, .int .i64 a.call.h, .int .i64 a.call.t, .int .i64 a.call.n, .int .i64 a.call.c, .slice la1 a.call.label.length lc1, .slice ga1 a.call.grants.length gx1, .string a.call.text]] w fun r w' => r = .returned (.bool true) ∧ Below w.heap.size w w' := by
  have st := St.start w
  have HPq := Lib.hid (fun (V : World) (hV : Below w.heap.size w V) => play_quiet V _ l la lc (acts_later hR hV) (by omega) hB)
  go_enter Tryz.func7, Tryz.ntmps7
  go_upto_region 4 with (first
    | go_skip | (with_reducible refine mB 32 st ?_; clear st; intro g3 w3 hg3 st)
    | (go_at_call 9; go_must (have hB3 := st.below; have st3 := st; refine (HPq.out _ st.below).mono ?_; rintro e v2 ⟨gc, kg, rfl, hgc, P⟩)))
  have HB3 := Lib.hid hB3
  have HC3 := Lib.hid (fun (U : World) (hU : Below w3.heap.size w3 U) => (show ∀ (j : Nat) (v : Value), ([.int .i64 a.kind, .int .i64 a.h, .int .i64 a.t, .int .i64 a.n, .int .i64 a.call.kind, .int .i64 a.call.h, .int .i64 a.call.t, .int .i64 a.call.n, .int .i64 a.call.c, .slice la1 a.call.label.length lc1, .slice ga1 a.call.grants.length gx1, .string a.call.text])[j]? = some v → U.cell? ⟨g3, 0 + j, none⟩ = some v from fun j v hv => by
    have hl := st3.ltAt (i := 0) rfl
    have := (hU.cell (p := ⟨g3, 0 + j, none⟩) hl).trans (st3.cell (i := 0) rfl (0 + j))
    rw [this, Nat.zero_add]; exact hv))
  have hwg : w.heap.size ≤ gc := Nat.le_trans hB3.size hgc
  have hw3 : w.heap.size ≤ w3.heap.size := hB3.size
  generalize doAll newC (l.take 120) = C0 at P
  clear st st3 hB3 HPq
  have st := St.start v2
  go_upto_region 5 with (first | go_skip | (with_reducible refine mA st Tryz.zeroValue70 ?_; clear st; intro gW w4 hgW st))
  try simp only [kP, kA, kS, kZ]
  have HP4 := Lib.hid (P.walk st)
  have hgW := st.ltAt (i := 0) rfl
  have st4 := st.rebase
  simp only [List.map_cons, List.map_nil] at st4
  clear P st
  have hR0 : Rec 5 (fun c (x : Bool × Thr) => ThrC (fun b => w4.heap.size ≤ b) w4 c x.2) (List.replicate 16 zeroC).flatten (thrsMix newC C0 0) := by
    rw [thrsMix_zero, thrsOf_new]
    exact toMap' (Rec.same (cs := zeroC) 16 rfl (ThrC.zero _ _))
  have HA1 := Lib.hid (hA1.fit (ok' := fun b => b < w.heap.size) fun b hb _ => hb)
  have HA2 := Lib.hid (hA2.fit (ok' := fun b => b < w.heap.size) fun b hb _ => hb)
  clear hA1 hA2
  go_wp2_with (first | go_skip | fail)
  go_loopw [22] (fun v22 wr => ∃ (h : Nat) (cw : List Value), h ≤ 4 ∧ v22 = .int .i64 h ∧ St [gW] w4 wr [(gW, 70, cw)] ∧ Rec 5 (fun c (x : Bool × Thr) => ThrC (fun b => w4.heap.size ≤ b) wr c x.2) cw (thrsMix newC C0 (h * 4))) (fun v22 _ => 4 - (intOf v22).toNat)
  case atStart => exact ⟨0, _, by omega, rfl, st4, hR0⟩
  case round =>
    clear st4 hR0
    obtain ⟨V9, rfl⟩ : ∃ V, V = wr := ⟨_, rfl⟩
    obtain ⟨h, cw, hh, rfl, st, hRec⟩ := hrel
    by_cases hh4 : h < 4
    case pos =>
      have d1 : decide ((h : Int) < 4) = true := by simp; omega
      go_wp2_with (first | go_skip | fail)
      go_loopw [25] (fun v25 wr => ∃ (t : Nat) (cw : List Value), t ≤ 4 ∧ v25 = .int .i64 t ∧ St [gW] w4 wr [(gW, 70, cw)] ∧ Rec 5 (fun c (x : Bool × Thr) => ThrC (fun b => w4.heap.size ≤ b) wr c x.2) cw (thrsMix newC C0 (h * 4 + t))) (fun v25 _ => 4 - (intOf v25).toNat)
      case atStart => exact ⟨0, cw, by omega, rfl, st, hRec⟩
      case round =>
        clear st hRec
        obtain ⟨V0, rfl⟩ : ∃ V, V = wr := ⟨_, rfl⟩
        obtain ⟨t, cw, ht, rfl, st, hRec⟩ := hrel
        by_cases ht4 : t < 4
        case neg =>
          have d2 : decide ((t : Int) < 4) = false := by simp; omega
          obtain rfl : t = 4 := by omega
          go_wp2_with (first | go_skip | fail)
          go_roundw
          case rel => exact ⟨h + 1, cw, by omega, by go_num, st, by rw [show (h + 1) * 4 = h * 4 + 4 by omega]; exact hRec⟩
          case measure => simp [intOf]; omega
        have d2 : decide ((t : Int) < 4) = true := by simp; omega
        obtain ⟨pre, cs, post, rfl, hpre0, hcl, hcs, hset⟩ := hRec.win (i := h * 4 + t) (by rw [thrsMix_len]; omega)
        have hpre : pre.length = h * 20 + t * 5 := by omega
        obtain ⟨q1, q2, q3, q4, q5, rfl⟩ := len5 hcl
        have HA := Lib.hid st
        replace st := st.rebase
        simp only [List.map_cons, List.map_nil] at st
        have HTh := Lib.hid (fun (V : World) (own2 : Blks) (hV : St [gW] V0 V own2) => (show ThreadPost V (thrC2 C0 h t) = ThreadPost V (C0.thr h t) by rw [thrC2_at C0 hh4 ht4]) ▸ cluster_Thread (HP4.out.walk (St.back HA.out hV)) h t)
        have HST := Lib.hid (fun (R' : List Value → Bool × Thr → Prop) (cs' : List Value) (hm : ∀ c x, (fun c (x : Bool × Thr) => ThrC (fun b => w4.heap.size ≤ b) V0 c x.2) c x → R' c x) (hR : R' cs' (true, C0.thr h t)) (hl : cs'.length = 5) => (thrsMix_set newC C0 hh4 ht4) ▸ hset R' cs' (true, C0.thr h t) hm hR hl)
        generalize C0.thr h t = y at HTh HST
        have hz0 := HA.out.size
        clear hset hRec hpre0 hcs
        go_upto_region 11 with (first | go_skip | fail)
        try simp only [kP, kA, kS, kZ]
        have hI := st.drew
        clear st
        refine lex_tail (by kernel_rfl) 8 1 [8] rfl (by decide +kernel) (fun U => St [gW] V0 U [(gW, 70, winC pre [q1, q2, q3, q4, q5] post)]) ?_
        refine lexS 0 rfl hI ?_
        refine lexS 1 rfl hI ?_
        refine lexS 2 rfl hI ?_
        refine lexS 3 rfl hI ?_
        refine lexS 4 rfl hI ?_
        refine lexT (v := .pointer (some ⟨gW, h * 20, none⟩)) 6 rfl hI (fun W hW => by (first | (go_simp; done) | (go_simp; omega) | (go_simp; intro h; omega))) ?_
        refine lexO 5 rfl fun K hK => ?_
        refine wp_callee (f := 11) (by first | (go_simp; done) | (go_simp; rfl)) ?_
        have hzU := hI.size
        refine (HTh.out _ _ hI).mono ?_
        rintro e V5 ⟨ta, tc, oa, oc, ba, bc, ma, mc, rfl, hb5, hT⟩
        refine ⟨_, rfl, ?_⟩
        unfold thrV
        have st := hI.call hb5
        clear hI
        have hI := st
        refine hK _ _ (hI) ?_; clear hK; simp only [kP, kA, kS, kZ]
        refine lexT (v := .pointer (some ⟨gW, h * 20 + t * 5, none⟩)) 7 rfl hI (fun W hW => by (first | (go_simp; done) | (go_simp; omega) | (go_simp; intro h; omega))) ?_
        clear hI
        refine lex_done (by decide +kernel) ?_
        refine tail_last 8 rfl (by first | exact wanted_none rfl | exact wanted_some rfl rfl) (by decide +kernel) (by decide +kernel) fun K hK => ?_
        have hz5 := hb5.size
        refine wp_storeW st 39 _ _ rfl _ Tryz.sizeOf39 0 ?_; refine ⟨0, _, _, _, _, _, _, _, hpre, rfl, rfl, rfl, rfl, rfl, rfl, ?_⟩; clear st; intro w9 st hw9m hw9z; simp [Act.eval, Act.put, Value.cells, putL] at st
        refine hK _ _ ?_; clear hK
        have HR9 := Lib.hid (HST.out (fun c (x : Bool × Thr) => ThrC (fun b => w4.heap.size ≤ b) w9 c x.2) [.slice ta y.label.length tc, .slice oa y.own.length oc, .string y.text, .slice ba y.objects.length bc, .slice ma y.mails.length mc] (fun c xx hh => ThrC.move hh st.size fun b hb ho => ⟨ho, st.frame b hb (by simp; omega)⟩)
          ⟨ta, tc, oa, oc, ba, bc, ma, mc, rfl, hT.move (by omega) fun b hb ho => ⟨by omega, hw9m b (by omega)⟩⟩ rfl)
        have ST9 := Lib.hid (St.back HA.out st)
        clear HST HTh hT st HA
        go_wp2_with (first | go_skip | fail)
        go_roundw
        case rel => exact ⟨t + 1, _, by omega, by go_num, ST9.out, HR9.out⟩
        case measure => simp [intOf]; omega
    case neg =>
      have d1 : decide ((h : Int) < 4) = false := by simp; omega
      obtain rfl : h = 4 := by omega
      rw [thrsMix_all] at hRec
      have HRc := Lib.hid (ofMap' hRec)
      have HP5 := Lib.hid (HP4.out.told st)
      have HBV := Lib.hid (HP4.out.walk st).st.below
      have hz4 := st.size
      have HNt := Lib.hid (cluster_Net HP5.out)
      have HNw := Lib.hid (fun (U : World) (hU : Below V9.heap.size V9 U) => cluster_Now (HP5.out.below hU))
      have HDo := Lib.hid (fun (U : World) (hU : Below V9.heap.size V9 U) => cluster_Do (HP5.out.below hU) a (fun b => b < w.heap.size) (fun b hb => by omega) la1 lc1 ga1 gx1 hll hgl (HA1.out.below (HB3.out.keep (HBV.out.keep hU))) (HA2.out.below (HB3.out.keep (HBV.out.keep hU))))
      have hRf := doC_refused (C := C0) a
      obtain ⟨C1, rc, rn, rt, hs⟩ : ∃ C1 rc rn rt, doC C0 a = (C1, ⟨rc, rn, rt⟩) := ⟨_, _, _, _, rfl⟩
      rw [hs] at HDo hRf
      dsimp only at HDo hRf
      have HRf := Lib.hid hRf
      clear hRf hs hRec st
      unfold deedV RepV at HDo
      go_upto_region 16 with (first
        | go_skip
        | (go_at_call 26; go_must (refine HNt.out.mono ?_; rintro e v5 ⟨na, nc, rfl, hb5, -⟩))
        | (go_at_call 29; go_must (refine (HNw.out _ hb5).mono ?_; rintro e v6 ⟨rfl, rfl⟩))
        | ((with_reducible refine at_load 32 ?_); refine wpList_load_cells (wanted_none rfl) 32 _ rfl Tryz.isAgg32 _ Tryz.sizeOf32 g3 0 rfl [.int .i64 a.kind, .int .i64 a.h, .int .i64 a.t, .int .i64 a.n, .int .i64 a.call.kind, .int .i64 a.call.h, .int .i64 a.call.t, .int .i64 a.call.n, .int .i64 a.call.c, .slice la1 a.call.label.length lc1, .slice ga1 a.call.grants.length gx1, .string a.call.text] rfl (HC3.out _ (HBV.out.keep hb5)) ?_)
        | (go_at_call 18; go_must (refine (HDo.out _ hb5).mono ?_; rintro e v7 ⟨rfl, P7⟩; have st := P7.st.rebase; simp only [List.map_cons, List.map_nil] at st))
        | (with_reducible refine mA st Tryz.zeroValue35 ?_; clear st; intro g8 w8 hg8 st) | (with_reducible refine mS 1 st Tryz.sizeOf35 ?_; clear st; intro w9 st hw9m hw9z))
      try simp only [kP, kA, kS, kZ]
      have HP9 := Lib.hid (P7.walk st)
      have hz7 := P7.kept.size
      have hg8 : v7.heap.size ≤ g8 := by
        rcases (by simpa using st.mine _ (List.mem_of_getElem? (i := 1) rfl) : g8 = gW ∨ v7.heap.size ≤ g8) with h | h
        · have hne := st.ne
          simp at hne
          exact absurd h.symm hne
        · exact h
      have HR9 := Lib.hid (HRc.out.mono (R' := fun c x => ThrC (fun b => w4.heap.size ≤ b ∧ b < V9.heap.size) w9 c x) fun c x hx => hx.move (Nat.le_trans hz7 st.size) fun b hb ho => ⟨⟨ho, hb⟩, (st.frame b (Nat.lt_of_lt_of_le hb hz7) (by simp; omega)).trans (P7.kept.block b hb ⟨ho, fun x hx e => by simp at hx; subst hx; simp at e; omega⟩)⟩)
      have hB9 := HP9.out.st.below
      have f30 : w9.cell? ⟨g3, 0, none⟩ = some (.int .i64 a.kind) := HC3.out w9 hB9 0 _ rfl
      have f34 : w9.cell? ⟨g3, 4, none⟩ = some (.int .i64 a.call.kind) := HC3.out w9 hB9 4 _ rfl
      have HBE := Lib.hid (HB3.out.keep hB9)
      clear P7 HDo HNw HNt HRc HP5 HP4 HBV HC3 HA1 HA2 hB9
      by_cases hc : rc = 0
      case pos =>
        have e1 : (rc == 0) = true := by simp [hc]
        have HX := Lib.hid HRf
        clear hc HRf
        go_wp2_with (first | go_skip | (with_reducible refine mX st Tryz.isAgg33 ?_) | (with_reducible refine mX st Tryz.isAgg3 ?_))
        go_ret
        exact ⟨rfl, HBE.out⟩
      have e1 : (rc == 0) = false := by simp [hc]
      by_cases h7 : a.kind = 1 ∧ a.call.kind = 7
      case pos =>
        have e2 : (a.kind == 1) = true := by simp [h7.1]
        have e3 : (a.call.kind == 7) = true := by simp [h7.2]
        clear h7 hc HRf
        go_wp2_with (first | go_skip | (with_reducible refine mX st Tryz.isAgg33 ?_) | (with_reducible refine mX st Tryz.isAgg3 ?_))
        go_ret
        exact ⟨rfl, HBE.out⟩
      have HF := Lib.hid ((HRf.out h7).resolve_left hc)
      have HH := Lib.hid h7
      obtain rfl : rn = 0 := HF.out.n
      obtain rfl : rt = ⟨#[]⟩ := HF.out.text
      have st9 := st.rebase
      simp only [List.map_cons, List.map_nil] at st9
      have ST9 := Lib.hid st9
      clear hc h7 HRf st9
      by_cases hk : a.kind = 1
      case pos =>
        have e2 : (a.kind == 1) = true := by simp [hk]
        have e3 : (a.call.kind == 7) = false := by simp; exact fun e => HH.out ⟨hk, e⟩
        clear hk
        go_wp2_with (first | go_skip | (with_reducible refine mX st Tryz.isAgg33 ?_) | (with_reducible refine mX st Tryz.isAgg3 ?_))
        go_loopw [59] (fun v59 wr => ∃ h : Nat, h ≤ 4 ∧ v59 = .int .i64 h ∧ St [gW, g8] w9 wr [(gW, 70, cw), (g8, 35, [.int .i64 rc, .int .i64 0, .string ⟨#[]⟩])]) (fun v59 _ => 4 - (intOf v59).toNat)
        case atStart => exact ⟨0, by omega, rfl, ST9.out⟩
        case round =>
          clear ST9 f30 f34
          obtain ⟨V8, rfl⟩ : ∃ V, V = wr := ⟨_, rfl⟩
          obtain ⟨h, hh, rfl, st⟩ := hrel
          by_cases hh4 : h < 4
          case neg =>
            have d1 : decide ((h : Int) < 4) = false := by simp; omega
            have HPE := Lib.hid (HP9.out.walk st)
            have HNt := Lib.hid (fun (U : World) (hU : Below V8.heap.size V8 U) => cluster_Net (HPE.out.below hU))
            have HNw := Lib.hid (fun (U : World) (hU : Below V8.heap.size V8 U) => cluster_Now (HPE.out.below hU))
            rw [HF.out.net] at HNt
            rw [HF.out.now] at HNw
            have HBF := Lib.hid (HB3.out.keep HPE.out.st.below)
            have st2 := st.rebase
            simp only [List.map_cons, List.map_nil] at st2
            have hb0 := Below.refl V8.heap.size V8
            clear st
            have st := st2
            clear st2 HF
            go_wp2_with (first
              | go_skip | (with_reducible refine mX st Tryz.isAgg3 ?_) | (with_reducible refine mX st Tryz.isAgg9 ?_)
              | (go_at_call 26; go_must (refine (HNt.out _ hb0).mono ?_; rintro e v5 ⟨na2, nc2, rfl, hb5, -⟩))
              | (go_at_call 29; go_must (refine (HNw.out _ hb5).mono ?_; rintro e v6 ⟨rfl, rfl⟩)))
            go_ret
            exact ⟨by first | rfl | simp, HBF.out.keep hb5⟩
          case pos =>
            have d1 : decide ((h : Int) < 4) = true := by simp; omega
            go_wp2_with (first | go_skip | fail)
            go_loopw [62] (fun v62 wr => ∃ t : Nat, t ≤ 4 ∧ v62 = .int .i64 t ∧ St [gW, g8] w9 wr [(gW, 70, cw), (g8, 35, [.int .i64 rc, .int .i64 0, .string ⟨#[]⟩])]) (fun v62 _ => 4 - (intOf v62).toNat)
            case atStart => exact ⟨0, by omega, rfl, st⟩
            case round =>
              clear st
              obtain ⟨V7, rfl⟩ : ∃ V, V = wr := ⟨_, rfl⟩
              obtain ⟨t, ht, rfl, st⟩ := hrel
              by_cases ht4 : t < 4
              case neg =>
                have d2 : decide ((t : Int) < 4) = false := by simp; omega
                go_wp2_with (first | go_skip | fail)
                go_roundw
                case rel => exact ⟨h + 1, by omega, by go_num, st⟩
                case measure => simp [intOf] <;> omega
              have d2 : decide ((t : Int) < 4) = true := by simp; omega
              have hthr := HF.out.thr h t
              obtain ⟨pre, cs, post, hcw, hpre0, hcl, hcs⟩ := HR9.out.win' (thrsOf_at C0 hh4 ht4)
              have hpre : pre.length = h * 20 + t * 5 := by omega
              have HTh := Lib.hid (fun (U : World) (hU : St [gW, g8] w9 U [(gW, 70, cw), (g8, 35, [.int .i64 rc, .int .i64 0, .string ⟨#[]⟩])]) => (show ThreadPost U (thrC2 C1 h t) = ThreadPost U (C0.thr h t) by rw [thrC2_at C1 hh4 ht4, hthr]) ▸ cluster_Thread (HP9.out.walk hU) h t)
              clear hthr
              generalize C0.thr h t = x at HTh hcs
              obtain ⟨a1, c1, a2, c2, a3, c3, a4, c4, rfl, hTx⟩ := hcs
              unfold thrC at hcw
              have HTx := Lib.hid hTx
              clear hTx hcl hpre0
              go_upto_region 24 with (first | go_skip | fail)
              try simp only [kP, kA, kS, kZ]
              have hI := st.drew
              rw [hcw] at hI HTh
              clear st
              refine lex_region (by kernel_rfl) 11 rfl (fun U => St [gW, g8] w9 U [(gW, 70, winC pre [.slice a1 x.label.length c1, .slice a2 x.own.length c2, .string x.text, .slice a3 x.objects.length c3, .slice a4 x.mails.length c4] post), (g8, 35, [.int .i64 rc, .int .i64 0, .string ⟨#[]⟩])]) ?_
              refine lexS 0 rfl hI ?_
              refine lexS 1 rfl hI ?_
              refine lexT (v := .pointer (some ⟨gW, h * 20, none⟩)) 2 rfl hI (fun W hW => by (first | (go_simp; done) | (go_simp; omega) | (go_simp; intro h; omega))) ?_
              refine lexT (v := .pointer (some ⟨gW, h * 20 + t * 5, none⟩)) 3 rfl hI (fun W hW => by (first | (go_simp; done) | (go_simp; omega) | (go_simp; intro h; omega))) ?_
              refine lexT 4 rfl hI (fun U hU => St.run_loadWin hU 0 39 _ rfl Tryz.isAgg39 _ Tryz.sizeOf39 hpre rfl rfl rfl) ?_
              refine lexS 5 rfl hI ?_
              refine lexS 6 rfl hI ?_
              refine lexS 7 rfl hI ?_
              refine lexO 8 rfl fun K hK => ?_
              refine wp_callee (f := 11) (by first | (go_simp; done) | (go_simp; rfl)) ?_
              refine (HTh.out _ hI).mono ?_
              rintro e V5 ⟨ta, tc, oa, oc, ba, bc, ma, mc, rfl, hb5, hT⟩
              refine ⟨_, rfl, ?_⟩
              have st := hI.call hb5
              unfold thrV
              clear hI
              have hI := st
              refine hK _ _ (hI) ?_; clear hK; simp only [kP, kA, kS, kZ]
              refine lexO 9 rfl fun K hK => ?_
              refine wp_callee (f := 28) (by first | (go_simp; done) | (go_simp; rfl)) ?_
              have hq := top_sameThread _ _ V5 x a1 c1 a2 c2 a3 c3 a4 c4 ta tc oa oc ba bc ma mc (HTx.out.move st.size fun b hb ho => ⟨ho, st.frame b hb (by simp; omega)⟩) hT
              unfold thrV at hq
              refine hq.mono ?_
              rintro e V4 ⟨rfl, hb4⟩
              refine ⟨_, rfl, ?_⟩
              clear hI
              have hI := st.call hb4
              refine hK _ _ (hI) ?_; clear hK; simp only [kP, kA, kS, kZ]
              refine lexS 10 rfl hI ?_
              clear st hq
              have st := hI
              clear hI
              refine lex_done (by decide +kernel) ?_
              rw [← hcw] at st
              have ST := Lib.hid st
              clear st hT HTh
              go_wp2_with (first | go_skip | fail)
              go_roundw
              case rel => exact ⟨t + 1, by omega, by go_num, ST.out⟩
              case measure => simp [intOf] <;> omega
      case neg =>
        have e2 : (a.kind == 1) = false := by simp [hk]
        clear hk
        go_wp2_with (first | go_skip | (with_reducible refine mX st Tryz.isAgg33 ?_) | (with_reducible refine mX st Tryz.isAgg3 ?_))
        go_loopw [59] (fun v59 wr => ∃ h : Nat, h ≤ 4 ∧ v59 = .int .i64 h ∧ St [gW, g8] w9 wr [(gW, 70, cw), (g8, 35, [.int .i64 rc, .int .i64 0, .string ⟨#[]⟩])]) (fun v59 _ => 4 - (intOf v59).toNat)
        case atStart => exact ⟨0, by omega, rfl, ST9.out⟩
        case round =>
          clear ST9 f30 f34
          obtain ⟨V8, rfl⟩ : ∃ V, V = wr := ⟨_, rfl⟩
          obtain ⟨h, hh, rfl, st⟩ := hrel
          by_cases hh4 : h < 4
          case neg =>
            have d1 : decide ((h : Int) < 4) = false := by simp; omega
            have HPE := Lib.hid (HP9.out.walk st)
            have HNt := Lib.hid (fun (U : World) (hU : Below V8.heap.size V8 U) => cluster_Net (HPE.out.below hU))
            have HNw := Lib.hid (fun (U : World) (hU : Below V8.heap.size V8 U) => cluster_Now (HPE.out.below hU))
            rw [HF.out.net] at HNt
            rw [HF.out.now] at HNw
            have HBF := Lib.hid (HB3.out.keep HPE.out.st.below)
            have st2 := st.rebase
            simp only [List.map_cons, List.map_nil] at st2
            have hb0 := Below.refl V8.heap.size V8
            clear st
            have st := st2
            clear st2 HF
            go_wp2_with (first
              | go_skip | (with_reducible refine mX st Tryz.isAgg3 ?_) | (with_reducible refine mX st Tryz.isAgg9 ?_)
              | (go_at_call 26; go_must (refine (HNt.out _ hb0).mono ?_; rintro e v5 ⟨na2, nc2, rfl, hb5, -⟩))
              | (go_at_call 29; go_must (refine (HNw.out _ hb5).mono ?_; rintro e v6 ⟨rfl, rfl⟩)))
            go_ret
            exact ⟨by first | rfl | simp, HBF.out.keep hb5⟩
          case pos =>
            have d1 : decide ((h : Int) < 4) = true := by simp; omega
            go_wp2_with (first | go_skip | fail)
            go_loopw [62] (fun v62 wr => ∃ t : Nat, t ≤ 4 ∧ v62 = .int .i64 t ∧ St [gW, g8] w9 wr [(gW, 70, cw), (g8, 35, [.int .i64 rc, .int .i64 0, .string ⟨#[]⟩])]) (fun v62 _ => 4 - (intOf v62).toNat)
            case atStart => exact ⟨0, by omega, rfl, st⟩
            case round =>
              clear st
              obtain ⟨V7, rfl⟩ : ∃ V, V = wr := ⟨_, rfl⟩
              obtain ⟨t, ht, rfl, st⟩ := hrel
              by_cases ht4 : t < 4
              case neg =>
                have d2 : decide ((t : Int) < 4) = false := by simp; omega
                go_wp2_with (first | go_skip | fail)
                go_roundw
                case rel => exact ⟨h + 1, by omega, by go_num, st⟩
                case measure => simp [intOf] <;> omega
              have d2 : decide ((t : Int) < 4) = true := by simp; omega
              have hthr := HF.out.thr h t
              obtain ⟨pre, cs, post, hcw, hpre0, hcl, hcs⟩ := HR9.out.win' (thrsOf_at C0 hh4 ht4)
              have hpre : pre.length = h * 20 + t * 5 := by omega
              have HTh := Lib.hid (fun (U : World) (hU : St [gW, g8] w9 U [(gW, 70, cw), (g8, 35, [.int .i64 rc, .int .i64 0, .string ⟨#[]⟩])]) => (show ThreadPost U (thrC2 C1 h t) = ThreadPost U (C0.thr h t) by rw [thrC2_at C1 hh4 ht4, hthr]) ▸ cluster_Thread (HP9.out.walk hU) h t)
              clear hthr
              generalize C0.thr h t = x at HTh hcs
              obtain ⟨a1, c1, a2, c2, a3, c3, a4, c4, rfl, hTx⟩ := hcs
              unfold thrC at hcw
              have HTx := Lib.hid hTx
              clear hTx hcl hpre0
              go_upto_region 24 with (first | go_skip | fail)
              try simp only [kP, kA, kS, kZ]
              have hI := st.drew
              rw [hcw] at hI HTh
              clear st
              refine lex_region (by kernel_rfl) 11 rfl (fun U => St [gW, g8] w9 U [(gW, 70, winC pre [.slice a1 x.label.length c1, .slice a2 x.own.length c2, .string x.text, .slice a3 x.objects.length c3, .slice a4 x.mails.length c4] post), (g8, 35, [.int .i64 rc, .int .i64 0, .string ⟨#[]⟩])]) ?_
              refine lexS 0 rfl hI ?_
              refine lexS 1 rfl hI ?_
              refine lexT (v := .pointer (some ⟨gW, h * 20, none⟩)) 2 rfl hI (fun W hW => by (first | (go_simp; done) | (go_simp; omega) | (go_simp; intro h; omega))) ?_
              refine lexT (v := .pointer (some ⟨gW, h * 20 + t * 5, none⟩)) 3 rfl hI (fun W hW => by (first | (go_simp; done) | (go_simp; omega) | (go_simp; intro h; omega))) ?_
              refine lexT 4 rfl hI (fun U hU => St.run_loadWin hU 0 39 _ rfl Tryz.isAgg39 _ Tryz.sizeOf39 hpre rfl rfl rfl) ?_
              refine lexS 5 rfl hI ?_
              refine lexS 6 rfl hI ?_
              refine lexS 7 rfl hI ?_
              refine lexO 8 rfl fun K hK => ?_
              refine wp_callee (f := 11) (by first | (go_simp; done) | (go_simp; rfl)) ?_
              refine (HTh.out _ hI).mono ?_
              rintro e V5 ⟨ta, tc, oa, oc, ba, bc, ma, mc, rfl, hb5, hT⟩
              refine ⟨_, rfl, ?_⟩
              have st := hI.call hb5
              unfold thrV
              clear hI
              have hI := st
              refine hK _ _ (hI) ?_; clear hK; simp only [kP, kA, kS, kZ]
              refine lexO 9 rfl fun K hK => ?_
              refine wp_callee (f := 28) (by first | (go_simp; done) | (go_simp; rfl)) ?_
              have hq := top_sameThread _ _ V5 x a1 c1 a2 c2 a3 c3 a4 c4 ta tc oa oc ba bc ma mc (HTx.out.move st.size fun b hb ho => ⟨ho, st.frame b hb (by simp; omega)⟩) hT
              unfold thrV at hq
              refine hq.mono ?_
              rintro e V4 ⟨rfl, hb4⟩
              refine ⟨_, rfl, ?_⟩
              clear hI
              have hI := st.call hb4
              refine hK _ _ (hI) ?_; clear hK; simp only [kP, kA, kS, kZ]
              refine lexS 10 rfl hI ?_
              clear st hq
              have st := hI
              clear hI
              refine lex_done (by decide +kernel) ?_
              rw [← hcw] at st
              have ST := Lib.hid st
              clear st hT HTh
              go_wp2_with (first | go_skip | fail)
              go_roundw
              case rel => exact ⟨t + 1, by omega, by go_num, ST.out⟩
              case measure => simp [intOf] <;> omega

theorem own : ownKnob Tryz.prog.godebug = none := by kernel_rfl
theorem laid : laidOutB Tryz.prog = true := by kernel_rfl

set_option maxRecDepth 100000 in
theorem contract (H : Type) (enc : TypeId × Value → H) (W : World) (base : Nat) (args : Array Value) (ds gs : List (DataW H)) (before : List MemPlace)
    (hval : ∀ (j : Nat) t v, Tryz.f7.params[j]? = some t → args[j]? = some v → Value.okWide Tryz.prog W .any base t v)
    (hW : DataW.Whole enc Tryz.prog Tryz.f7.params.toList Rows.topRefusedSpec.vars false W args.toList ds gs before)
    (hsz : (DataW.weightsEach Tryz.prog (Tryz.f7.params.toList ++ Rows.topRefusedSpec.plain.varTypes Tryz.prog) (ds ++ gs)).all (· ≤ reachBytes) = true) :
    Calls Tryz.prog 7 args W fun e W' => ∃ v, e = .returned v ∧ Rows.topRefusedSpec.post enc Tryz.prog Tryz.f7 false true false false W args v W' := by
  have hW' := hW
  obtain ⟨p, q, hTrd, hV, rfl, hfz, hnd⟩ := hW
  have hA : DataW.TrodAll enc Tryz.prog W 0 (fun _ => true) true Tryz.f7.params.toList args.toList ds p := hTrd
  have hpar := Tryz.params7
  rw [hpar] at hA hval hsz
  obtain ⟨v0, vs0, d0, ds0, p0, q0, hargs0, rfl, rfl, h0, r0⟩ := trodAll_cons hA
  obtain ⟨v1, vs1, d1, ds1, p1, q1, hargs1, rfl, rfl, h1, r1⟩ := trodAll_cons r0
  obtain ⟨hnil, rfl, rfl⟩ := trodAll_nil r1
  obtain rfl : args = #[v0, v1] := by cases args; simp_all
  obtain ⟨rfl, rfl⟩ := trodVars_none hV
  have w0 : ∀ n ∈ d0.weights Tryz.prog 22, n ≤ reachBytes := fun n hn => by simpa using List.all_eq_true.1 hsz n (DataW.weights_mem_each (j := 0) (t := 22) (d := d0) rfl rfl n hn)
  obtain ⟨x0, a0, c0, rfl, hR0, hl0, hx0, hm0⟩ := arg_slice (fit := Deed.fit) (mass := Deed.mass) reads_Deed Tryz.underlying22 (by kernel_rfl : Tryz.prog.cellsOf _ = 12) (by decide) (by kernel_rfl : Tryz.prog.bytesOf _ = 136) (hval 0 _ v0 rfl rfl) h0 w0
  have w1 : ∀ n ∈ d1.weights Tryz.prog 32, n ≤ reachBytes := fun n hn => by simpa using List.all_eq_true.1 hsz n (DataW.weights_mem_each (j := 1) (t := 32) (d := d1) rfl rfl n hn)
  obtain ⟨x1, cs1, rfl, ⟨la1, lc1, ga1, gc1, rfl, hA1, hB1⟩, hx1, hm1⟩ := arg_struct reads_Deed Tryz.underlying32 (hval 1 _ v1 rfl rfl) h1 w1
  refine (walk W x0 a0 c0 x1 la1 lc1 ga1 gc1 hR0 (by omega) (fun a ha => ⟨by have := (hx0 a ha).2.2.2.2.2.2.2.2.2.1.1; omega, by have := (hx0 a ha).2.2.2.2.2.2.2.2.2.2.1.1; omega⟩) (by have := hx1.2.2.2.2.2.2.2.2.2.1.1; omega) (by have := hx1.2.2.2.2.2.2.2.2.2.2.1.1; omega) hA1 hB1).mono fun e W' ⟨he, hb⟩ => ?_
  exact ⟨_, he, law_post laid (by kernel_rfl) hW' rfl rfl (by kernel_rfl) Tryz.underlying4 hb⟩

set_option maxRecDepth 100000 in
theorem lifted (os : Os) (started : os.Started) (H : Type) (enc : TypeId × Value → H) :
    ReturnsInHanded {} Tryz.checked os 7 .any (Rows.topRefusedSpec.pre6 enc Tryz.prog Tryz.f7 Rows.topRefusedRow.domain false) (Rows.topRefusedSpec.post enc Tryz.prog Tryz.f7 false true false false) := by
  refine returnsInHanded_of_change_sized (C := Tryz.checked) own started (by kernel_rfl) Tryz.func7
    (ChangeSpec.witness6 (enc := enc) (C := Tryz.checked) false ⟨#[], #[.slice none 0 0, .agg #[.int .i64 0, .int .i64 0, .int .i64 0, .int .i64 0, .int .i64 0, .int .i64 0, .int .i64 0, .int .i64 0, .int .i64 0, .slice none 0 0, .slice none 0 0, .string .empty]], []⟩ 12 (by kernel_rfl) (by kernel_rfl) (by kernel_rfl) (by kernel_rfl)) ?_
  intro W base args ds gs before hval hW _ hsz _
  exact contract H enc W base args ds gs before hval hW hsz

theorem proved : Rows.TopRefusedSaid :=
  OpenClaim.holds_of_wide 7 Tryz.f7 rfl rfl rfl rfl rfl rfl rfl ⟨rfl, rfl, rfl, rfl, rfl⟩ rfl rfl rfl rfl rfl (by kernel_rfl) Tryz.func7 (by kernel_rfl)
    (of_decide_eq_true (by kernel_rfl)) (by unfold Func.isWrapper; first | (rw [if_pos (by decide +kernel)]; kernel_rfl) | (rw [if_neg (by decide +kernel)]; exact ⟨rfl, rfl⟩))
    (fun os started H enc _ => lifted os started H enc)

end Go.Proofs.YtnjjdpiofbajlaaGreat.topRefused
