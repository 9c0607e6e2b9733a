/- Walks and plain laws, part 29. -/
import Derived.Test.YtnjjdpiofbajlaaGreatP28
set_option linter.unusedSimpArgs false
set_option linter.unusedVariables false
set_option maxHeartbeats 16000000
set_option maxRecDepth 100000
namespace Go.Proofs.YtnjjdpiofbajlaaGreat
open Go.RowKit
def LetPost (w : World) (r : Mail × Int) (e : Ending) (w' : World) : Prop :=
 ∃ la lc ga gc, e = .returned (.tuple #[mailV r.1 la lc ga gc, .int .i64 r.2]) ∧ Below w.heap.size w w' ∧ MailR (fun b => w.heap.size ≤ b) w' r.1 la lc ga gc
theorem kernel_Letter_out (w : World) (g : Nat) (t : Int) (c : Req) (la : Option Addr) (lc : Nat) (ga : Option Addr) (gc : Nat) (h4 : four t = false) :
  Calls Tryz.prog 47 #[.pointer (some ⟨g, 0, none⟩), .int .i64 t, reqV c la lc ga gc] w (LetPost w (zeroM, 4)) := by
 have st := St.start w
 unfold reqV
 rcases four_no h4 with d | ⟨d0, d⟩
 all_goals
  clear h4
  go_enter Tryz.func47, Tryz.ntmps47
  go_wp2_with (first | go_skip | (with_reducible refine mB 30 st ?_; clear st; intro g5 w5 hg5 st) | (with_reducible refine mA st Tryz.zeroValue42 ?_; clear st; intro g6 w6 hg6 st) | (with_reducible refine mS 1 st Tryz.sizeOf42 ?_; clear st; intro w7 st hw7m hw7z))
  have hc := fun j => st.cell (i := 1) rfl j
  refine bodyPost_ret (v := .tuple #[mailV zeroM none 0 none 0, .int .i64 4]) ?hr rfl ⟨none, 0, none, 0, rfl, st.below, ⟨SlR.nil .., SlR.nil ..⟩⟩
  case hr => simp [results, Tryz.results47, go_sem, hc, mailV, zeroM]; try rfl
theorem kernel_Letter (ok okc : Nat → Prop) (w : World) (g : Nat) (k : Ker) (css : List (List Value)) (Bs : List (List Nat)) (h : KerAt ok w g k css Bs) (hk : ∀ x ∈ k.threads, x.ok) (t : Int) (c : Req) (la : Option Addr) (lc : Nat) (ga : Option Addr) (gc : Nat)
  (hll : c.label.length * 16 ≤ 140737488351232) (hgl : c.grants.length * 8 ≤ 140737488351232) (hct : c.text.size ≤ 140737488351232) (hcl : SlR okc w 2 RLev la lc c.label) (hcg : SlR okc w 1 RInt ga gc c.grants) :
  Calls Tryz.prog 47 #[.pointer (some ⟨g, 0, none⟩), .int .i64 t, reqV c la lc ga gc] w (LetPost w (letterK k t c)) := by
 by_cases h4 : four t = true
 case neg =>
  have h4 : four t = false := by simpa using h4
  unfold letterK
  rw [if_pos h4]
  exact kernel_Letter_out w g t c la lc ga gc h4
 have HE := qh (show letterK k t c = if goodMailC (letterM k t c) ≠ 0 then (zeroM, goodMailC (letterM k t c)) else if ¬ (∀ g ∈ c.grants, g ∈ (k.thr t).own) then (zeroM, 7) else if flowsL (k.thr t).label c.label (k.thr t).own = false then (zeroM, 6) else (letterM k t c, 0) by unfold letterK; rw [if_neg (by simp [h4])])
 obtain ⟨n, rfl, hn⟩ := four_nat h4
 obtain ⟨x, xa, xc, oa, oc, ba, bc, ma, mc, ex, ec, eB, hT, hb⟩ := h.open hn
 have hx := hk x (mgE ex)
 have hpre := h.preLen hn
 have HX := qh (show (k.thr n) = x from Ker.thr_at ex)
 rw [HX.out] at HE
 replace HE := HE.out
 have st0 := St.hand hb
 unfold thrC at st0 hb
 have d1 : decide ((n : Int) < 0) = false := by simp
 have d2 : decide ((4 : Int) ≤ n) = false := by simp; omega
 have hgw := h.lt g (by simp)
 have hxl := goodL_len hx.good; have hxo := hx.ownL; have hxt := hx.text
 have HB := qh (show ∀ (W : World) (bl : Blks), St [g] w W bl → (g, 98, winC (preC k css n) [.slice xa x.label.length xc, .slice oa x.own.length oc, .string x.text, .slice ba x.objects.length bc, .slice ma x.mails.length mc] (postC k css n)) ∈ bl → Below w.heap.size w W from fun W bl s hm => st0.below2 s (by simpa using hm))
 have HL := qh (fun (W : World) (bl : Blks) (hW : St [g] w W bl) (hm : (g, 98, winC (preC k css n) [.slice xa x.label.length xc, .slice oa x.own.length oc, .string x.text, .slice ba x.objects.length bc, .slice ma x.mails.length mc] (postC k css n)) ∈ bl) => kernel_levels okc W la lc c.label (by omega) (hcl.below (HB.out W _ hW hm)))
 have HN := qh (fun (W : World) (bl : Blks) (hW : St [g] w W bl) (hm : (g, 98, winC (preC k css n) [.slice xa x.label.length xc, .slice oa x.own.length oc, .string x.text, .slice ba x.objects.length bc, .slice ma x.mails.length mc] (postC k css n)) ∈ bl) => kernel_numbers okc W ga gc c.grants (by omega) (hcg.below (HB.out W _ hW hm)))
 have HF := qh (fun (W : World) (bl : Blks) (hW : St [g] w W bl) (hm : (g, 98, winC (preC k css n) [.slice xa x.label.length xc, .slice oa x.own.length oc, .string x.text, .slice ba x.objects.length bc, .slice ma x.mails.length mc] (postC k css n)) ∈ bl) => And.intro (hT.label.below (HB.out W _ hW hm)) (hT.own.below (HB.out W _ hW hm)))
 have st := st0
 have HS0 := qh st0
 clear st0 hb hT h ex ec eB hx hk h4
 unfold reqV
 go_enter Tryz.func47, Tryz.ntmps47
 go_upto_region 4 with (first | go_skip | (with_reducible refine mB 30 st ?_; clear st; intro g5 w5 hg5 st) | (with_reducible refine mA st Tryz.zeroValue42 ?_; clear st; intro g6 w6 hg6 st))
 try simp only [kP, kA, kS, kZ]
 go_cut [9] (fun s9 wx => ∃ (g9 : Nat) (a4 : Option Addr) (k4 : Nat) (a5 : Option Addr) (k5 : Nat), s9 = .pointer (some ⟨g9, 0, none⟩) ∧ St [g] w wx [(g, 98, winC (preC k css n) [.slice xa x.label.length xc, .slice oa x.own.length oc, .string x.text, .slice ba x.objects.length bc, .slice ma x.mails.length mc] (postC k css n)), (g5, 30, [.int .i64 c.kind, .int .i64 c.h, .int .i64 c.t, .int .i64 c.n, .int .i64 c.c, .slice la c.label.length lc, .slice ga c.grants.length gc, .string c.text]), (g6, 42, [.int .i64 0, .int .i64 0, .slice none 0 0, .slice none 0 0, .string ⟨#[]⟩]), (g9, 42, [.int .i64 k.host, .int .i64 n, .slice a4 c.label.length k4, .slice a5 c.grants.length k5, .string (x.text ++ c.text)])] ∧ SlR (fun b => w.heap.size ≤ b ∧ b < wx.heap.size ∧ b ∉ [g, g5, g6, g9]) wx 2 RLev a4 k4 c.label ∧ SlR (fun b => w.heap.size ≤ b ∧ b < wx.heap.size ∧ b ∉ [g, g5, g6, g9]) wx 1 RInt a5 k5 c.grants)
 case first =>
  have st := st.drew
  have hI := st
  refine lex_region (by kernel_rfl) 21 rfl (fun W => St [g] w W [(g, 98, winC (preC k css n) [.slice xa x.label.length xc, .slice oa x.own.length oc, .string x.text, .slice ba x.objects.length bc, .slice ma x.mails.length mc] (postC k css n)), (g5, 30, [.int .i64 c.kind, .int .i64 c.h, .int .i64 c.t, .int .i64 c.n, .int .i64 c.c, .slice la c.label.length lc, .slice ga c.grants.length gc, .string c.text]), (g6, 42, [.int .i64 0, .int .i64 0, .slice none 0 0, .slice none 0 0, .string ⟨#[]⟩])]) ?_
  refine lexS 0 rfl hI ?_
  refine lexS 1 rfl hI ?_
  refine lexS 2 rfl hI ?_
  refine lexT 3 rfl hI (fun W hW => St.run_load hW 0 3 _ rfl Tryz.isAgg3 rfl rfl rfl) ?_
  refine lexS 4 rfl hI ?_
  refine lexS 5 rfl hI ?_
  refine lexT 6 rfl hI (fun W hW => St.run_load hW 1 27 _ rfl Tryz.isAgg27 rfl rfl rfl) ?_
  refine lexS 8 rfl hI ?_
  refine lexT 9 rfl hI (fun W hW => St.run_load hW 1 28 _ rfl Tryz.isAgg28 rfl rfl rfl) ?_
  refine lexS 11 rfl hI ?_
  refine lexS 12 rfl hI ?_
  refine lexS 13 rfl hI ?_
  refine lexT 14 rfl hI (fun W hW => St.run_loadW hW 0 9 _ rfl Tryz.isAgg9 2 hpre rfl rfl rfl) ?_
  refine lexS 15 rfl hI ?_
  refine lexT 16 rfl hI (fun W hW => St.run_load hW 1 9 _ rfl Tryz.isAgg9 rfl rfl rfl) ?_
  refine lexT (v := .string (x.text ++ c.text)) 17 rfl hI (fun W hW => by (go_simp; first | done | omega)) ?_
  clear hI
  refine lex_each [7, 19] (by decide +kernel) (by decide) ?_; intro i hi K hK; simp only [List.mem_cons, List.not_mem_nil, or_false] at hi; rcases hi with rfl | rfl <;> refine ⟨_, rfl, (by first | exact wanted_none rfl | exact wanted_some rfl rfl), ?_⟩
  ·refine wp_callee (f := 43) (by first | (go_simp; done) | (go_simp; rfl)) ?_
   refine (HL.out _ _ st (by simp)).mono ?_
   rintro e v4 ⟨a4, k4, rfl, hb4, hO4⟩
   have hz4 := st.size
   refine ⟨_, rfl, ?_⟩
   replace st := st.call hb4
   clear hb4
   refine hK _ _ (st) ?_; clear hK; simp only [kP, kA, kS, kZ]
   refine lex_each [10, 19] (by decide +kernel) (by decide) ?_; intro i hi K hK; simp only [List.mem_cons, List.not_mem_nil, or_false] at hi; rcases hi with rfl | rfl <;> refine ⟨_, rfl, (by first | exact wanted_none rfl | exact wanted_some rfl rfl), ?_⟩
   ·refine wp_callee (f := 44) (by first | (go_simp; done) | (go_simp; rfl)) ?_
    refine (HN.out _ _ st (by simp)).mono ?_
    rintro e v5 ⟨a5, k5, rfl, hb5, hO5⟩
    have hz5 := st.size
    refine ⟨_, rfl, ?_⟩
    replace st := st.call hb5
    replace hO4 := hO4.below hb5
    clear hb5
    have hI := st
    refine hK _ _ (hI) ?_; clear hK; simp only [kP, kA, kS, kZ]
    refine lexS 18 rfl hI ?_
    clear hI
    refine lexO 19 rfl fun K hK => ?_
    refine wp_alloc st 42 rfl _ Tryz.zeroValue42 _ rfl ?_; clear st; intro g9 w9 hg9 st hg9b; simp [Act.eval, Act.put, Value.cells, putL] at st
    replace hO4 := hO4.below hg9b
    replace hO5 := hO5.below hg9b
    clear hg9b
    refine hK _ _ (st.take 3) ?_; clear hK; simp only [kP, kA, kS, kZ]
    refine lexO 20 rfl fun K hK => ?_
    have h9b := st.blk _ (mgE (i := 3) rfl)
    refine wp_store' st 42 _ _ rfl _ Tryz.sizeOf42 ⟨3, _, _, _, _, _, rfl, rfl, rfl, rfl, rfl, rfl, ?_⟩; clear st; intro w7 st hw7m hw7z; simp [Act.eval, Act.put, Value.cells, putL] at st
    replace hO4 := hO4.stored h9b (by simp) hw7m
    replace hO5 := hO5.stored h9b (by simp) hw7m
    clear h9b hw7m hw7z
    refine hK _ _ (st.take 3) ?_; clear hK; simp only [kP, kA, kS, kZ]
    refine lex_done (by decide +kernel) ?_
    go_wp2_with fail
    go_meet
    exact ⟨g9, a4, k4, a5, k5, rfl, st, (hO4.slrS st (by simp)).okay fun b hb => ⟨by omega, hb.2.1, by simpa using hb.2.2⟩, (hO5.slrS st (by simp)).okay fun b hb => ⟨by omega, hb.2.1, by simpa using hb.2.2⟩⟩
   ·refine wp_alloc st 42 rfl _ Tryz.zeroValue42 _ rfl ?_; clear st; intro g9 w9 hg9 st hg9b; simp [Act.eval, Act.put, Value.cells, putL] at st
    replace hO4 := hO4.below hg9b
    clear hg9b
    refine hK _ _ (st.take 3) ?_; clear hK; simp only [kP, kA, kS, kZ]
    refine lexO 10 rfl fun K hK => ?_
    refine wp_callee (f := 44) (by first | (go_simp; done) | (go_simp; rfl)) ?_
    refine (HN.out _ _ st (by simp)).mono ?_
    rintro e v5 ⟨a5, k5, rfl, hb5, hO5⟩
    have hz5 := st.size
    refine ⟨_, rfl, ?_⟩
    replace st := st.call hb5
    replace hO4 := hO4.below hb5
    clear hb5
    have hI := st.take 3
    refine hK _ _ (hI) ?_; clear hK; simp only [kP, kA, kS, kZ]
    refine lexS 18 rfl hI ?_
    clear hI
    refine lexO 20 rfl fun K hK => ?_
    have h9b := st.blk _ (mgE (i := 3) rfl)
    refine wp_store' st 42 _ _ rfl _ Tryz.sizeOf42 ⟨3, _, _, _, _, _, rfl, rfl, rfl, rfl, rfl, rfl, ?_⟩; clear st; intro w7 st hw7m hw7z; simp [Act.eval, Act.put, Value.cells, putL] at st
    replace hO4 := hO4.stored h9b (by simp) hw7m
    replace hO5 := hO5.stored h9b (by simp) hw7m
    clear h9b hw7m hw7z
    refine hK _ _ (st.take 3) ?_; clear hK; simp only [kP, kA, kS, kZ]
    refine lex_done (by decide +kernel) ?_
    go_wp2_with fail
    go_meet
    exact ⟨g9, a4, k4, a5, k5, rfl, st, (hO4.slrS st (by simp)).okay fun b hb => ⟨by omega, hb.2.1, by simpa using hb.2.2⟩, (hO5.slrS st (by simp)).okay fun b hb => ⟨by omega, hb.2.1, by simpa using hb.2.2⟩⟩
  ·refine wp_alloc st 42 rfl _ Tryz.zeroValue42 _ rfl ?_; clear st; intro g9 w9 hg9 st hg9b; simp [Act.eval, Act.put, Value.cells, putL] at st
   clear hg9b
   refine hK _ _ (st.take 3) ?_; clear hK; simp only [kP, kA, kS, kZ]
   refine lexO 7 rfl fun K hK => ?_
   refine wp_callee (f := 43) (by first | (go_simp; done) | (go_simp; rfl)) ?_
   refine (HL.out _ _ st (by simp)).mono ?_
   rintro e v4 ⟨a4, k4, rfl, hb4, hO4⟩
   have hz4 := st.size
   refine ⟨_, rfl, ?_⟩
   replace st := st.call hb4
   clear hb4
   refine hK _ _ (st.take 3) ?_; clear hK; simp only [kP, kA, kS, kZ]
   refine lexO 10 rfl fun K hK => ?_
   refine wp_callee (f := 44) (by first | (go_simp; done) | (go_simp; rfl)) ?_
   refine (HN.out _ _ st (by simp)).mono ?_
   rintro e v5 ⟨a5, k5, rfl, hb5, hO5⟩
   have hz5 := st.size
   refine ⟨_, rfl, ?_⟩
   replace st := st.call hb5
   replace hO4 := hO4.below hb5
   clear hb5
   have hI := st.take 3
   refine hK _ _ (hI) ?_; clear hK; simp only [kP, kA, kS, kZ]
   refine lexS 18 rfl hI ?_
   clear hI
   refine lexO 20 rfl fun K hK => ?_
   have h9b := st.blk _ (mgE (i := 3) rfl)
   refine wp_store' st 42 _ _ rfl _ Tryz.sizeOf42 ⟨3, _, _, _, _, _, rfl, rfl, rfl, rfl, rfl, rfl, ?_⟩; clear st; intro w7 st hw7m hw7z; simp [Act.eval, Act.put, Value.cells, putL] at st
   replace hO4 := hO4.stored h9b (by simp) hw7m
   replace hO5 := hO5.stored h9b (by simp) hw7m
   clear h9b hw7m hw7z
   refine hK _ _ (st.take 3) ?_; clear hK; simp only [kP, kA, kS, kZ]
   refine lex_done (by decide +kernel) ?_
   go_wp2_with fail
   go_meet
   exact ⟨g9, a4, k4, a5, k5, rfl, st, (hO4.slrS st (by simp)).okay fun b hb => ⟨by omega, hb.2.1, by simpa using hb.2.2⟩, (hO5.slrS st (by simp)).okay fun b hb => ⟨by omega, hb.2.1, by simpa using hb.2.2⟩⟩
 case rest =>
  obtain ⟨g9, a4, k4, a5, k5, rfl, st, hRl, hRn⟩ := hcut
  have hwz := st.size
  have hwg : g < wc.heap.size ∧ g5 < wc.heap.size ∧ g6 < wc.heap.size ∧ g9 < wc.heap.size := ⟨st.ltAt (i := 0) rfl, st.ltAt (i := 1) rfl, st.ltAt (i := 2) rfl, st.ltAt (i := 3) rfl⟩
  have stK := st
  have hsz : (x.text ++ c.text).size = x.text.size + c.text.size := ByteArray.size_append
  have HKt := qh (show knowT x.text c.text = (x.text ++ c.text).extract ((x.text ++ c.text).size - 64) (x.text ++ c.text).size from rfl)
  generalize hS : x.text ++ c.text = S at *
  replace hS := qh hS
  obtain ⟨m, hm⟩ : ∃ m, m = S.size - 64 := ⟨_, rfl⟩
  have hw1 : IntKind.i64.wrap ((S.size : Int) - 64) = (S.size : Int) - 64 := IntWalk.i64_in _ (by omega)
  have hml : m ≤ S.size := by omega
  have HM := qh hm
  have h64 : ((if 64 < (S.size : Int) then (S.size : Int) - 64 else 0) : Int) = (m : Int) := by split <;> omega
  clear hm
  go_upto_region 6 with (first | go_skip | (with_reducible refine mX st Tryz.isAgg9 ?_) | (with_reducible refine mS 3 st Tryz.sizeOf9 ?_; clear st; intro w7 st hw7m hw7z))
  have hT0 : S.extract (max 0 ((x.text.size : Int) + c.text.size - 64)).toNat (x.text.size + c.text.size) = knowT x.text c.text := by rw [HKt.out, hsz]; congr 1; omega
  rw [hT0] at st
  clear hT0
  generalize hT : knowT x.text c.text = T at *
  have hMe : letterM k n c = ⟨k.host, n, c.label, c.grants, T⟩ := by unfold letterM; rw [HX.out, hT]
  rw [hMe] at HE
  clear hMe hT HX
  have st7 := st
  have hz7 := st7.size
  have HR := qh (show ∀ (W : World) (bl : Blks), St [g, g5, g6, g9] w7 W bl → MailR (fun b => w.heap.size ≤ b) W ⟨k.host, n, c.label, c.grants, T⟩ a4 k4 a5 k5 from fun W bl s =>
   ⟨hRl.move (by have := s.size; omega) (fun b hb ho => ⟨ho.1, (s.frame b (by omega) ho.2.2).trans (hw7m b (fun e => ho.2.2 (by simp [e])))⟩) fun _ _ r => r,
   hRn.move (by have := s.size; omega) (fun b hb ho => ⟨ho.1, (s.frame b (by omega) ho.2.2).trans (hw7m b (fun e => ho.2.2 (by simp [e])))⟩) fun _ _ r => r⟩)
  have HBw := qh (show ∀ (W : World) (bl : Blks), St [g, g5, g6, g9] w7 W bl → (g, 98, winC (preC k css n) [.slice xa x.label.length xc, .slice oa x.own.length oc, .string x.text, .slice ba x.objects.length bc, .slice ma x.mails.length mc] (postC k css n)) ∈ bl → St [g] w W bl ∧ Below w.heap.size w W from fun W bl s hm => ⟨St.back st7 s, HB.out W _ (St.back st7 s) hm⟩)
  have HG := qh (show ∀ (W : World) (bl : Blks), St [g, g5, g6, g9] w7 W bl → Calls Tryz.prog 62 #[.agg #[.int .i64 k.host, .int .i64 n, .slice a4 c.label.length k4, .slice a5 c.grants.length k5, .string T]] W fun e w' => e = .returned (.int .i64 (goodMailC ⟨k.host, n, c.label, c.grants, T⟩)) ∧ Below W.heap.size W w' from fun W bl s => wire_GoodMail _ W ⟨k.host, n, c.label, c.grants, T⟩ a4 k4 a5 k5 (by simp only; omega) (by simp only; omega) (HR.out W bl s))
  generalize hq : goodMailC ⟨k.host, n, c.label, c.grants, T⟩ = q at HG HE
  clear hq hRl hRn hw7m hw7z HM
  have st := st7.rebase
  simp only [List.map_cons, List.map_nil] at st
  by_cases hq0 : q = 0
  case neg =>
   have hqn : (q == 0) = false := by simpa using hq0
   rw [if_pos hq0] at HE
   replace HE := qh HE
   clear hq0
   go_wp2_with (first | go_skip | (with_reducible refine mXA st Tryz.isAgg42 Tryz.sizeOf42 ?_) | (go_at_call 62; go_must (refine (HG.out _ _ st).mono ?_; rintro e v8 ⟨rfl, hb8⟩; replace st := st.call hb8; clear hb8)) | (with_reducible refine mS 2 st Tryz.sizeOf42 ?_; clear st; intro w8 st hw8m hw8z))
   have hc := fun j => st.cell (i := 2) rfl j
   refine bodyPost_ret (v := .tuple #[mailV zeroM none 0 none 0, .int .i64 q]) ?hr rfl (by rw [HE.out]; exact ⟨none, 0, none, 0, rfl, (HBw.out _ _ st (by simp)).2, ⟨SlR.nil .., SlR.nil ..⟩⟩)
   case hr => simp [results, Tryz.results47, go_sem, hc, mailV, zeroM]; try rfl
  subst hq0
  rw [if_neg (by simp)] at HE
  go_wp2_with (first | go_skip | (with_reducible refine mXA st Tryz.isAgg42 Tryz.sizeOf42 ?_) | (with_reducible refine mX st Tryz.isAgg28 ?_) | (go_at_call 62; go_must (refine (HG.out _ _ st).mono ?_; rintro e v8 ⟨rfl, hb8⟩; replace st := st.call hb8; clear hb8)))
  obtain ⟨wq, rfl⟩ : ∃ V, V = w7 := ⟨_, rfl⟩
  go_loopw [66] (fun v66 wr => ∃ (j : Nat), j ≤ c.grants.length ∧ v66 = .int .i64 j ∧ St [g, g5, g6, g9] wq wr [(g, 98, winC (preC k css n) [.slice xa x.label.length xc, .slice oa x.own.length oc, .string x.text, .slice ba x.objects.length bc, .slice ma x.mails.length mc] (postC k css n)), (g5, 30, [.int .i64 c.kind, .int .i64 c.h, .int .i64 c.t, .int .i64 c.n, .int .i64 c.c, .slice la c.label.length lc, .slice ga c.grants.length gc, .string c.text]), (g6, 42, [.int .i64 0, .int .i64 0, .slice none 0 0, .slice none 0 0, .string ⟨#[]⟩]), (g9, 42, [.int .i64 k.host, .int .i64 n, .slice a4 c.label.length k4, .slice a5 c.grants.length k5, .string (T)])] ∧ Hid (∀ v ∈ c.grants.take j, v ∈ x.own)) (fun v66 _ => c.grants.length - (intOf v66).toNat)
  case atStart => exact ⟨0, Nat.zero_le _, rfl, st, qh (by simp)⟩
  case round =>
   clear st
   obtain ⟨j, hj, rfl, st, HJ⟩ := hrel
   by_cases hlt : j < c.grants.length
   ·have hd : decide ((j : Int) < c.grants.length) = true := by simp; omega
    obtain ⟨b, o, rfl, hbw, hcell⟩ := (HR.out _ _ st).grants.int_at j hlt
    have HO := qh ((HF.out _ _ (HBw.out _ _ st (by simp)).1 (by simp)).2)
    have HI := qh (inL_iff x.own c.grants[j])
    have HI2 := qh (slices_Contains_int _ wr oa oc x.own c.grants[j] (by omega) HO.out)
    generalize hi : inL x.own c.grants[j] = q at HI HI2
    clear hi HO
    cases q
    ·have HE2 := qh (show letterK k n c = (zeroM, 7) by rw [HE, if_pos (fun hh => by have := HI.out.2 (hh _ (List.getElem_mem hlt)); simp at this)])
     clear HE
     go_wp2_with (first | go_skip | (with_reducible refine at_load 28 ?_; (first | refine mem_loadW st 28 _ rfl (wanted_none rfl) Tryz.isAgg28 1 ?_ | (refine mem_loadW st 28 _ rfl (wanted_some rfl ?_) Tryz.isAgg28 1 ?_; focus (simp [yielded, Act.put]; done))); refine ⟨0, _, _, _, _, _, _, _, hpre, rfl, rfl, rfl, ?_⟩) | (go_at_call 41; go_must (refine (HI2.out).mono ?_; rintro e v8 ⟨rfl, rfl⟩)) | (with_reducible refine mS 2 st Tryz.sizeOf42 ?_; clear st; intro w8 st hw8m hw8z))
     have hc := fun j => st.cell (i := 2) rfl j
     refine bodyPost_ret (v := .tuple #[mailV zeroM none 0 none 0, .int .i64 7]) ?hr rfl (by rw [HE2.out]; exact ⟨none, 0, none, 0, rfl, (HBw.out _ _ st (by simp)).2, ⟨SlR.nil .., SlR.nil ..⟩⟩)
     case hr => simp [results, Tryz.results47, go_sem, hc, mailV, zeroM]; try rfl
    ·have HJ2 := qh (show ∀ v ∈ c.grants.take (j + 1), v ∈ x.own from fun v hv => by
      rw [List.take_add_one, gEg hlt] at hv
      rcases List.mem_append.1 hv with hv | hv
      ·exact HJ.out v hv
      ·obtain rfl : v = c.grants[j] := by simpa using hv
       exact HI.out.1 rfl)
     replace HE := qh HE
     go_wp2_with (first | go_skip | (with_reducible refine at_load 28 ?_; (first | refine mem_loadW st 28 _ rfl (wanted_none rfl) Tryz.isAgg28 1 ?_ | (refine mem_loadW st 28 _ rfl (wanted_some rfl ?_) Tryz.isAgg28 1 ?_; focus (simp [yielded, Act.put]; done))); refine ⟨0, _, _, _, _, _, _, _, hpre, rfl, rfl, rfl, ?_⟩) | (go_at_call 41; go_must (refine (HI2.out).mono ?_; rintro e v8 ⟨rfl, rfl⟩)))
     go_roundw
     case rel => exact ⟨j + 1, hlt, by go_num, st, HJ2⟩
     case measure => simp [intOf]; omega
   ·have hd : decide ((j : Int) < c.grants.length) = false := by simp; omega
    have hall : ¬ ¬ (∀ g ∈ c.grants, g ∈ x.own) := fun hh => hh (by have := HJ.out; rwa [List.take_of_length_le (by omega)] at this)
    rw [if_neg hall] at HE
    clear hall HJ
    have HF2 := qh (fun (W : World) (bl : Blks) (hW : St [g, g5, g6, g9] wq W bl) (hm : (g, 98, winC (preC k css n) [.slice xa x.label.length xc, .slice oa x.own.length oc, .string x.text, .slice ba x.objects.length bc, .slice ma x.mails.length mc] (postC k css n)) ∈ bl) => label_Flows (fun _ => True) W xa a4 oa xc k4 oc x.label c.label x.own (by omega) (by omega) ((HF.out _ _ (HBw.out _ _ hW hm).1 hm).1.okay fun _ _ => trivial) ((HR.out _ _ hW).label.okay fun _ _ => trivial) ((HF.out _ _ (HBw.out _ _ hW hm).1 hm).2.okay fun _ _ => trivial))
    generalize hf : flowsL x.label c.label x.own = q at HF2 HE
    clear hf
    replace HE := qh HE
    go_wp2_with fail
    refine det_region (by kernel_rfl) 12 rfl (fun W => St [g, g5, g6, g9] wq W [(g, 98, winC (preC k css n) [.slice xa x.label.length xc, .slice oa x.own.length oc, .string x.text, .slice ba x.objects.length bc, .slice ma x.mails.length mc] (postC k css n)), (g5, 30, [.int .i64 c.kind, .int .i64 c.h, .int .i64 c.t, .int .i64 c.n, .int .i64 c.c, .slice la c.label.length lc, .slice ga c.grants.length gc, .string c.text]), (g6, 42, [.int .i64 0, .int .i64 0, .slice none 0 0, .slice none 0 0, .string ⟨#[]⟩]), (g9, 42, [.int .i64 k.host, .int .i64 n, .slice a4 c.label.length k4, .slice a5 c.grants.length k5, .string (T)])]) (st.drew) (by decide +kernel) ?_
    refine detS 0 rfl ?_; refine detS 1 rfl ?_; refine detS 2 rfl ?_
    refine detT 3 rfl (fun W hW => St.run_loadW hW 0 27 _ rfl Tryz.isAgg27 0 hpre rfl rfl rfl) ?_
    refine detS 4 rfl ?_
    refine detT 5 rfl (fun W hW => St.run_load hW 3 27 _ rfl Tryz.isAgg27 rfl rfl rfl) ?_
    refine detS 6 rfl ?_; refine detS 7 rfl ?_; refine detS 8 rfl ?_
    refine detT 9 rfl (fun W hW => St.run_loadW hW 0 28 _ rfl Tryz.isAgg28 1 hpre rfl rfl rfl) ?_
    refine det_call (fn := 27) 10 rfl (by decide +kernel) (by first | exact wanted_none rfl | exact wanted_some rfl rfl) (fun W => by first | (go_simp; done) | (go_simp; rfl)) (fun W hW => (HF2.out W _ hW (by simp)).mono fun e w' h => ⟨h.1, hW.call h.2⟩) ?_; simp only [kP, kA, kS, kZ]
    refine detS 11 rfl ?_
    refine det_done (by decide +kernel) ?_
    clear st
    intro W st
    cases q
    ·go_wp2_with (first | go_skip | (with_reducible refine mS 2 st Tryz.sizeOf42 ?_; clear st; intro w8 st hw8m hw8z))
     have hc := fun j => st.cell (i := 2) rfl j
     refine bodyPost_ret (v := .tuple #[mailV zeroM none 0 none 0, .int .i64 6]) ?hr rfl (by rw [HE.out, if_pos (by simp)]; exact ⟨none, 0, none, 0, rfl, (HBw.out _ _ st (by simp)).2, ⟨SlR.nil .., SlR.nil ..⟩⟩)
     case hr => simp [results, Tryz.results47, go_sem, hc, mailV, zeroM]; try rfl
    ·go_wp2_with (first | go_skip | (with_reducible refine mXA st Tryz.isAgg42 Tryz.sizeOf42 ?_) | (with_reducible refine mS 2 st Tryz.sizeOf42 ?_; clear st; intro w8 st hw8m hw8z))
     have hc := fun j => st.cell (i := 2) rfl j
     refine bodyPost_ret (v := .tuple #[mailV ⟨k.host, n, c.label, c.grants, T⟩ a4 k4 a5 k5, .int .i64 0]) ?hr rfl (by rw [HE.out, if_neg (by simp)]; exact ⟨_, _, _, _, rfl, (HBw.out _ _ st (by simp)).2, HR.out _ _ st⟩)
     case hr => simp [results, Tryz.results47, go_sem, hc, mailV]; try rfl
section
variable (ok okc : Nat → Prop) (w : World) (g : Nat) (k : Ker) (css : List (List Value)) (Bs : List (List Nat)) (n : Nat) (c : Req) (la : Option Addr) (lc : Nat) (ga : Option Addr) (gc : Nat)
theorem setR_len (l : List Lev) (c n : Int) : (setR l c n).1.length ≤ 8 := by
 rcases setR_cases l c n with ⟨k, h, _⟩ | ⟨h, _, _, _, h8⟩ <;> rw [h]
 ·simp
 ·exact h8
theorem kernel_Call_level_no (h : KerAt ok w g k css Bs) (hk : ∀ x ∈ k.threads, x.ok) (hn : n < 4) (hx64 : ¬ 64 < c.text.size) (hkd : c.kind = 5) (he : (setR (k.thr n).label c.c c.n).2 ≠ 0) :
  Calls Tryz.prog 50 #[.pointer (some ⟨g, 0, none⟩), .int .i64 n, reqV c la lc ga gc] w (CallPost ok w g Bs (callK k n c)) := by
 obtain ⟨x, xa, xc, oa, oc, ba, bc, ma, mc, ex, ec, eB, hT, hb⟩ := h.open hn
 have hx := hk x (mgE ex)
 have hpre := h.preLen hn
 have hth := Ker.thr_at ex
 have st0 := St.hand hb
 unfold thrC at st0
 have d1 : decide ((n : Int) < 0) = false := by simp
 have d2 : decide ((4 : Int) ≤ n) = false := by simp; omega
 have d64 := text_size hx64
 have hgg : ¬ ok g := h.apart g (by simp)
 have HKp := qh (show ∀ (W : World) (bl : Blks), St [g] w W bl → Keeps ok w W from fun W bl s => s.keeps (by simpa using hgg))
 have HB := qh (show ∀ (W : World) (bl : Blks), St [g] w W bl → (g, 98, winC (preC k css n) [.slice xa x.label.length xc, .slice oa x.own.length oc, .string x.text, .slice ba x.objects.length bc, .slice ma x.mails.length mc] (postC k css n)) ∈ bl → Below w.heap.size w W from fun W bl s hm => st0.below2 s (by simpa using hm))
 have hxl := goodL_len hx.good; have hxo := hx.ownL; have hxm := hx.mailN; have hxb := hx.objs; have hxt := hx.text
 have st := st0
 clear st0
 unfold reqV
 have hlen := setR_len x.label c.c c.n
 have HS := qh (fun (W : World) (bl : Blks) (hW : St [g] w W bl) => label_Set ok W xa xc x.label c.c c.n (by omega) (hT.label.keep (HKp.out W _ hW)))
 have hgw := h.lt g (by simp)
 have HE := qh (show callK k (n : Int) c = (k, errR (setR x.label c.c c.n).2) by unfold callK; rw [hth] at he; simp [hkd, hth, he])
 rw [hth] at he
 have hq : ((setR x.label c.c c.n).2 != 0) = true := by simpa using he
 clear he
 generalize setR x.label c.c c.n = r at *
 rw [hkd]
 clear hkd
 go_enter Tryz.func50, Tryz.ntmps50
 go_wp2_with (first | go_skip | (with_reducible refine mB 30 st ?_; clear st; intro g5 w5 hg5 st) | (with_reducible refine mA st Tryz.zeroValue35 ?_; clear st; intro g6 w6 hg6 st) | (with_reducible refine mX st Tryz.isAgg9 ?_) | (with_reducible refine mX st Tryz.isAgg3 ?_) | (go_at_call 68; go_must (refine (call_no _ _).mono ?_; rintro e vn ⟨rfl, hbn⟩; replace st := st.call hbn; clear hbn)) | (with_reducible refine mS 2 st Tryz.sizeOf35 ?_; clear st; intro w7 st hw7m hw7z))
 have st := st.drew
 have hI := st
 refine lex_region (by kernel_rfl) 14 rfl (fun W => St [g] w W [(g, 98, winC (preC k css n) [.slice xa x.label.length xc, .slice oa x.own.length oc, .string x.text, .slice ba x.objects.length bc, .slice ma x.mails.length mc] (postC k css n)), (g5, 30, [.int .i64 5, .int .i64 c.h, .int .i64 c.t, .int .i64 c.n, .int .i64 c.c, .slice la c.label.length lc, .slice ga c.grants.length gc, .string c.text]), (g6, 35, [.int .i64 0, .int .i64 0, .string ⟨#[]⟩])]) ?_
 refine lexS 0 rfl hI ?_
 refine lexS 1 rfl hI ?_
 refine lexS 2 rfl hI ?_
 refine lexT 3 rfl hI (fun W hW => St.run_loadW hW 0 27 _ rfl Tryz.isAgg27 0 hpre rfl rfl rfl) ?_
 refine lexS 4 rfl hI ?_
 refine lexT 5 rfl hI (fun W hW => St.run_load hW 1 3 _ rfl Tryz.isAgg3 rfl rfl rfl) ?_
 refine lexS 6 rfl hI ?_
 refine lexT 7 rfl hI (fun W hW => St.run_load hW 1 3 _ rfl Tryz.isAgg3 rfl rfl rfl) ?_
 clear hI
 refine lexO 8 rfl fun K hK => ?_
 refine wp_callee (f := 73) (by first | (go_simp; done) | (go_simp; rfl)) ?_
 refine (HS.out _ _ st).mono ?_
 rintro e v1 ⟨a1, k1, rfl, hb1, hO⟩
 have hl5 := st.ltAt (i := 1) rfl
 have hl6 := st.ltAt (i := 2) rfl
 have hbs := st.size
 have hbz := hb1.size
 refine ⟨_, rfl, ?_⟩
 replace st := st.call hb1
 clear hb1
 refine hK _ _ (st) ?_; clear hK; simp only [kP, kA, kS, kZ]
 have hI := st
 refine lexS 9 rfl hI ?_
 refine lexS 10 rfl hI ?_
 refine lexS 11 rfl hI ?_
 refine lexS 12 rfl hI ?_
 refine lexS 13 rfl hI ?_
 clear hI
 refine lex_done (by decide +kernel) ?_
 go_wp2_with (first | go_skip | (go_at_call 68; go_must (refine (call_no _ _).mono ?_; rintro e vn ⟨rfl, hbn⟩; replace st := st.call hbn; clear hbn)) | (with_reducible refine mS 2 st Tryz.sizeOf35 ?_; clear st; intro w7 st hw7m hw7z))
 have hc := fun j => st.cell (i := 2) rfl j
 refine bodyPost_ret (v := RepV (errR r.2)) ?hr rfl ?_
 case hr => simp [results, Tryz.results50, go_sem, hc, RepV, errR]; try rfl
 rw [HE.out]
 exact ⟨rfl, KerTo.none h (HB.out _ _ st (by simp))⟩
theorem kernel_Call_level_low (h : KerAt ok w g k css Bs) (hk : ∀ x ∈ k.threads, x.ok) (hn : n < 4) (hx64 : ¬ 64 < c.text.size) (hkd : c.kind = 5) (he : (setR (k.thr n).label c.c c.n).2 = 0) (hf : flowsL (k.thr n).label (setR (k.thr n).label c.c c.n).1 (k.thr n).own = false) :
  Calls Tryz.prog 50 #[.pointer (some ⟨g, 0, none⟩), .int .i64 n, reqV c la lc ga gc] w (CallPost ok w g Bs (callK k n c)) := by
 obtain ⟨x, xa, xc, oa, oc, ba, bc, ma, mc, ex, ec, eB, hT, hb⟩ := h.open hn
 have hx := hk x (mgE ex)
 have hpre := h.preLen hn
 have hth := Ker.thr_at ex
 have st0 := St.hand hb
 unfold thrC at st0
 have d1 : decide ((n : Int) < 0) = false := by simp
 have d2 : decide ((4 : Int) ≤ n) = false := by simp; omega
 have d64 := text_size hx64
 have hgg : ¬ ok g := h.apart g (by simp)
 have HKp := qh (show ∀ (W : World) (bl : Blks), St [g] w W bl → Keeps ok w W from fun W bl s => s.keeps (by simpa using hgg))
 have HB := qh (show ∀ (W : World) (bl : Blks), St [g] w W bl → (g, 98, winC (preC k css n) [.slice xa x.label.length xc, .slice oa x.own.length oc, .string x.text, .slice ba x.objects.length bc, .slice ma x.mails.length mc] (postC k css n)) ∈ bl → Below w.heap.size w W from fun W bl s hm => st0.below2 s (by simpa using hm))
 have hxl := goodL_len hx.good; have hxo := hx.ownL; have hxm := hx.mailN; have hxb := hx.objs; have hxt := hx.text
 have st := st0
 clear st0
 unfold reqV
 have hlen := setR_len x.label c.c c.n
 have HS := qh (fun (W : World) (bl : Blks) (hW : St [g] w W bl) => label_Set ok W xa xc x.label c.c c.n (by omega) (hT.label.keep (HKp.out W _ hW)))
 have hgw := h.lt g (by simp)
 rw [hth] at he hf
 have HE := qh (show callK k (n : Int) c = (k, errR 6) by unfold callK; simp [hkd, hth, he, hf])
 have HL := qh hf
 have hq : ((setR x.label c.c c.n).2 != 0) = false := by simpa using he
 clear he hf
 generalize setR x.label c.c c.n = r at *
 rw [hkd]
 clear hkd
 go_enter Tryz.func50, Tryz.ntmps50
 go_wp2_with (first | go_skip | (with_reducible refine mB 30 st ?_; clear st; intro g5 w5 hg5 st) | (with_reducible refine mA st Tryz.zeroValue35 ?_; clear st; intro g6 w6 hg6 st) | (with_reducible refine mX st Tryz.isAgg9 ?_) | (with_reducible refine mX st Tryz.isAgg3 ?_) | (go_at_call 68; go_must (refine (call_no _ _).mono ?_; rintro e vn ⟨rfl, hbn⟩; replace st := st.call hbn; clear hbn)) | (with_reducible refine mS 2 st Tryz.sizeOf35 ?_; clear st; intro w7 st hw7m hw7z))
 have st := st.drew
 have hI := st
 refine lex_region (by kernel_rfl) 14 rfl (fun W => St [g] w W [(g, 98, winC (preC k css n) [.slice xa x.label.length xc, .slice oa x.own.length oc, .string x.text, .slice ba x.objects.length bc, .slice ma x.mails.length mc] (postC k css n)), (g5, 30, [.int .i64 5, .int .i64 c.h, .int .i64 c.t, .int .i64 c.n, .int .i64 c.c, .slice la c.label.length lc, .slice ga c.grants.length gc, .string c.text]), (g6, 35, [.int .i64 0, .int .i64 0, .string ⟨#[]⟩])]) ?_
 refine lexS 0 rfl hI ?_
 refine lexS 1 rfl hI ?_
 refine lexS 2 rfl hI ?_
 refine lexT 3 rfl hI (fun W hW => St.run_loadW hW 0 27 _ rfl Tryz.isAgg27 0 hpre rfl rfl rfl) ?_
 refine lexS 4 rfl hI ?_
 refine lexT 5 rfl hI (fun W hW => St.run_load hW 1 3 _ rfl Tryz.isAgg3 rfl rfl rfl) ?_
 refine lexS 6 rfl hI ?_
 refine lexT 7 rfl hI (fun W hW => St.run_load hW 1 3 _ rfl Tryz.isAgg3 rfl rfl rfl) ?_
 clear hI
 refine lexO 8 rfl fun K hK => ?_
 refine wp_callee (f := 73) (by first | (go_simp; done) | (go_simp; rfl)) ?_
 refine (HS.out _ _ st).mono ?_
 rintro e v1 ⟨a1, k1, rfl, hb1, hO⟩
 have hl5 := st.ltAt (i := 1) rfl
 have hl6 := st.ltAt (i := 2) rfl
 have hbs := st.size
 have hbz := hb1.size
 refine ⟨_, rfl, ?_⟩
 replace st := st.call hb1
 clear hb1
 refine hK _ _ (st) ?_; clear hK; simp only [kP, kA, kS, kZ]
 have hI := st
 refine lexS 9 rfl hI ?_
 refine lexS 10 rfl hI ?_
 refine lexS 11 rfl hI ?_
 refine lexS 12 rfl hI ?_
 refine lexS 13 rfl hI ?_
 clear hI
 refine lex_done (by decide +kernel) ?_
 have str := st.rebase
 have HF := qh (fun (W : World) (hB : Below v1.heap.size v1 W) => label_Flows (fun _ => True) W xa a1 oa xc k1 oc x.label r.1 x.own (by omega) (by omega) (((hT.label.keep (HKp.out _ _ st)).below hB).okay fun _ _ => trivial) ((hO.slr (ok := fun _ => True) fun _ _ => trivial).below hB) (((hT.own.keep (HKp.out _ _ st)).below hB).okay fun _ _ => trivial))
 rw [HL.out] at HF
 go_wp2_with (first | go_skip | fail)
 refine det_region (by kernel_rfl) 11 rfl (fun W => St [g, g5, g6] v1 W [(g, 98, winC (preC k css n) [.slice xa x.label.length xc, .slice oa x.own.length oc, .string x.text, .slice ba x.objects.length bc, .slice ma x.mails.length mc] (postC k css n)), (g5, 30, [.int .i64 5, .int .i64 c.h, .int .i64 c.t, .int .i64 c.n, .int .i64 c.c, .slice la c.label.length lc, .slice ga c.grants.length gc, .string c.text]), (g6, 35, [.int .i64 0, .int .i64 0, .string ⟨#[]⟩])]) (str.drew) (by decide +kernel) ?_
 refine detS 0 rfl ?_; refine detS 1 rfl ?_; refine detS 2 rfl ?_
 refine detT 3 rfl (fun W hW => St.run_loadW hW 0 27 _ rfl Tryz.isAgg27 0 hpre rfl rfl rfl) ?_
 refine detS 4 rfl ?_; refine detS 5 rfl ?_; refine detS 6 rfl ?_; refine detS 7 rfl ?_
 refine detT 8 rfl (fun W hW => St.run_loadW hW 0 28 _ rfl Tryz.isAgg28 1 hpre rfl rfl rfl) ?_
 refine det_call (fn := 27) 9 rfl (by decide +kernel) (by first | exact wanted_none rfl | exact wanted_some rfl rfl) (fun W => by first | (go_simp; done) | (go_simp; rfl)) (fun W hW => (HF.out W (str.below2 hW (by simp))).mono fun e w' h => ⟨h.1, hW.call h.2⟩) ?_; simp only [kP, kA, kS, kZ]
 refine detS 10 rfl ?_
 refine det_done (by decide +kernel) ?_
 intro W st2
 have hB2 := str.below2 st2 (by simp)
 replace st := st.call hB2
 replace hO := hO.below hB2
 have hb2z := hB2.size
 clear str st2 hB2
 go_wp2_with (first | go_skip | (go_at_call 68; go_must (refine (call_no _ _).mono ?_; rintro e vn ⟨rfl, hbn⟩; replace st := st.call hbn; clear hbn)) | (with_reducible refine mS 2 st Tryz.sizeOf35 ?_; clear st; intro w7 st hw7m hw7z))
 have hc := fun j => st.cell (i := 2) rfl j
 refine bodyPost_ret (v := RepV (errR 6)) ?hr rfl ?_
 case hr => simp [results, Tryz.results50, go_sem, hc, RepV, errR]; try rfl
 rw [HE.out]
 exact ⟨rfl, KerTo.none h (HB.out _ _ st (by simp))⟩
theorem kernel_Call_level_yes (h : KerAt ok w g k css Bs) (hk : ∀ x ∈ k.threads, x.ok) (hn : n < 4) (hx64 : ¬ 64 < c.text.size) (hkd : c.kind = 5) (he : (setR (k.thr n).label c.c c.n).2 = 0) (hf : flowsL (k.thr n).label (setR (k.thr n).label c.c c.n).1 (k.thr n).own = true) :
  Calls Tryz.prog 50 #[.pointer (some ⟨g, 0, none⟩), .int .i64 n, reqV c la lc ga gc] w (CallPost ok w g Bs (callK k n c)) := by
 obtain ⟨x, xa, xc, oa, oc, ba, bc, ma, mc, ex, ec, eB, hT, hb⟩ := h.open hn
 have hx := hk x (mgE ex)
 have hpre := h.preLen hn
 have hth := Ker.thr_at ex
 have st0 := St.hand hb
 unfold thrC at st0
 have d1 : decide ((n : Int) < 0) = false := by simp
 have d2 : decide ((4 : Int) ≤ n) = false := by simp; omega
 have d64 := text_size hx64
 have hgg : ¬ ok g := h.apart g (by simp)
 have HKp := qh (show ∀ (W : World) (bl : Blks), St [g] w W bl → Keeps ok w W from fun W bl s => s.keeps (by simpa using hgg))
 have HB := qh (show ∀ (W : World) (bl : Blks), St [g] w W bl → (g, 98, winC (preC k css n) [.slice xa x.label.length xc, .slice oa x.own.length oc, .string x.text, .slice ba x.objects.length bc, .slice ma x.mails.length mc] (postC k css n)) ∈ bl → Below w.heap.size w W from fun W bl s hm => st0.below2 s (by simpa using hm))
 have hxl := goodL_len hx.good; have hxo := hx.ownL; have hxm := hx.mailN; have hxb := hx.objs; have hxt := hx.text
 have st := st0
 clear st0
 unfold reqV
 have hlen := setR_len x.label c.c c.n
 have HS := qh (fun (W : World) (bl : Blks) (hW : St [g] w W bl) => label_Set ok W xa xc x.label c.c c.n (by omega) (hT.label.keep (HKp.out W _ hW)))
 have hgw := h.lt g (by simp)
 rw [hth] at he hf
 have HE := qh (show callK k (n : Int) c = (k.put n { x with label := (setR x.label c.c c.n).1 }, errR 0) by unfold callK; simp [hkd, hth, he, hf])
 have HL := qh hf
 have hq : ((setR x.label c.c c.n).2 != 0) = false := by simpa using he
 clear he hf
 generalize setR x.label c.c c.n = r at *
 rw [hkd]
 clear hkd
 go_enter Tryz.func50, Tryz.ntmps50
 go_wp2_with (first | go_skip | (with_reducible refine mB 30 st ?_; clear st; intro g5 w5 hg5 st) | (with_reducible refine mA st Tryz.zeroValue35 ?_; clear st; intro g6 w6 hg6 st) | (with_reducible refine mX st Tryz.isAgg9 ?_) | (with_reducible refine mX st Tryz.isAgg3 ?_) | (go_at_call 68; go_must (refine (call_no _ _).mono ?_; rintro e vn ⟨rfl, hbn⟩; replace st := st.call hbn; clear hbn)) | (with_reducible refine mS 2 st Tryz.sizeOf35 ?_; clear st; intro w7 st hw7m hw7z))
 have st := st.drew
 have hI := st
 refine lex_region (by kernel_rfl) 14 rfl (fun W => St [g] w W [(g, 98, winC (preC k css n) [.slice xa x.label.length xc, .slice oa x.own.length oc, .string x.text, .slice ba x.objects.length bc, .slice ma x.mails.length mc] (postC k css n)), (g5, 30, [.int .i64 5, .int .i64 c.h, .int .i64 c.t, .int .i64 c.n, .int .i64 c.c, .slice la c.label.length lc, .slice ga c.grants.length gc, .string c.text]), (g6, 35, [.int .i64 0, .int .i64 0, .string ⟨#[]⟩])]) ?_
 refine lexS 0 rfl hI ?_
 refine lexS 1 rfl hI ?_
 refine lexS 2 rfl hI ?_
 refine lexT 3 rfl hI (fun W hW => St.run_loadW hW 0 27 _ rfl Tryz.isAgg27 0 hpre rfl rfl rfl) ?_
 refine lexS 4 rfl hI ?_
 refine lexT 5 rfl hI (fun W hW => St.run_load hW 1 3 _ rfl Tryz.isAgg3 rfl rfl rfl) ?_
 refine lexS 6 rfl hI ?_
 refine lexT 7 rfl hI (fun W hW => St.run_load hW 1 3 _ rfl Tryz.isAgg3 rfl rfl rfl) ?_
 clear hI
 refine lexO 8 rfl fun K hK => ?_
 refine wp_callee (f := 73) (by first | (go_simp; done) | (go_simp; rfl)) ?_
 refine (HS.out _ _ st).mono ?_
 rintro e v1 ⟨a1, k1, rfl, hb1, hO⟩
 have hl5 := st.ltAt (i := 1) rfl
 have hl6 := st.ltAt (i := 2) rfl
 have hbs := st.size
 have hbz := hb1.size
 refine ⟨_, rfl, ?_⟩
 replace st := st.call hb1
 clear hb1
 refine hK _ _ (st) ?_; clear hK; simp only [kP, kA, kS, kZ]
 have hI := st
 refine lexS 9 rfl hI ?_
 refine lexS 10 rfl hI ?_
 refine lexS 11 rfl hI ?_
 refine lexS 12 rfl hI ?_
 refine lexS 13 rfl hI ?_
 clear hI
 refine lex_done (by decide +kernel) ?_
 have str := st.rebase
 have HF := qh (fun (W : World) (hB : Below v1.heap.size v1 W) => label_Flows (fun _ => True) W xa a1 oa xc k1 oc x.label r.1 x.own (by omega) (by omega) (((hT.label.keep (HKp.out _ _ st)).below hB).okay fun _ _ => trivial) ((hO.slr (ok := fun _ => True) fun _ _ => trivial).below hB) (((hT.own.keep (HKp.out _ _ st)).below hB).okay fun _ _ => trivial))
 rw [HL.out] at HF
 go_wp2_with (first | go_skip | fail)
 refine det_region (by kernel_rfl) 11 rfl (fun W => St [g, g5, g6] v1 W [(g, 98, winC (preC k css n) [.slice xa x.label.length xc, .slice oa x.own.length oc, .string x.text, .slice ba x.objects.length bc, .slice ma x.mails.length mc] (postC k css n)), (g5, 30, [.int .i64 5, .int .i64 c.h, .int .i64 c.t, .int .i64 c.n, .int .i64 c.c, .slice la c.label.length lc, .slice ga c.grants.length gc, .string c.text]), (g6, 35, [.int .i64 0, .int .i64 0, .string ⟨#[]⟩])]) (str.drew) (by decide +kernel) ?_
 refine detS 0 rfl ?_; refine detS 1 rfl ?_; refine detS 2 rfl ?_
 refine detT 3 rfl (fun W hW => St.run_loadW hW 0 27 _ rfl Tryz.isAgg27 0 hpre rfl rfl rfl) ?_
 refine detS 4 rfl ?_; refine detS 5 rfl ?_; refine detS 6 rfl ?_; refine detS 7 rfl ?_
 refine detT 8 rfl (fun W hW => St.run_loadW hW 0 28 _ rfl Tryz.isAgg28 1 hpre rfl rfl rfl) ?_
 refine det_call (fn := 27) 9 rfl (by decide +kernel) (by first | exact wanted_none rfl | exact wanted_some rfl rfl) (fun W => by first | (go_simp; done) | (go_simp; rfl)) (fun W hW => (HF.out W (str.below2 hW (by simp))).mono fun e w' h => ⟨h.1, hW.call h.2⟩) ?_; simp only [kP, kA, kS, kZ]
 refine detS 10 rfl ?_
 refine det_done (by decide +kernel) ?_
 intro W st2
 have hB2 := str.below2 st2 (by simp)
 replace st := st.call hB2
 replace hO := hO.below hB2
 have hb2z := hB2.size
 clear str st2 hB2
 have hO2 := hO.slr (ok := fun b => g6 < b) fun b hb => by omega
 go_wp2_with (first | go_skip | (with_reducible refine at_store 27 ?_; refine mem_storeW st 27 _ _ rfl (wanted_none rfl) _ Tryz.sizeOf27 0 ?_; refine ⟨0, _, _, _, _, _, _, _, hpre, rfl, rfl, rfl, rfl, rfl, rfl, ?_⟩; clear st; intro w8 st hw8m hw8z; simp [Act.eval, Act.put, Value.cells, putL] at st) | (go_at_call 68; go_must (refine (call_no _ _).mono ?_; rintro e vn ⟨rfl, hbv⟩; replace st := st.call hbv; have hvs := hbv.size)) | (with_reducible refine mS 2 st Tryz.sizeOf35 ?_; clear st; intro w7 st hw7m hw7z))
 have hc := fun j => st.cell (i := 2) rfl j
 refine bodyPost_ret (v := RepV (errR 0)) ?hr rfl ?_
 case hr => simp [results, Tryz.results50, go_sem, hc, RepV, errR]; try rfl
 rw [HE.out]
 exact ⟨rfl, h.closeSame (made' := k.made) (x' := { x with label := r.1 }) (x := x) (la' := a1) (lc' := k1) hn ec eB hT (st.sub (by simp [thrC]) (by simp)) rfl rfl (h.fine eB ((hO2.move (by omega) (fun b hb ho => ⟨ho, (hw7m b (by omega)).trans ((hbv.block b (by omega)).trans (hw8m b (by omega)))⟩) fun _ _ r => r).okay fun b ho => .inr (by omega))) (h.fine eB ((hT.own.keep (HKp.out _ _ st)).okay fun _ r => .inl r))⟩
end
section
variable (ok okc : Nat → Prop) (w : World) (g : Nat) (k : Ker) (css : List (List Value)) (Bs : List (List Nat)) (n : Nat) (c : Req) (la : Option Addr) (lc : Nat) (ga : Option Addr) (gc : Nat)
theorem kernel_Call_put_none (h : KerAt ok w g k css Bs) (hk : ∀ x ∈ k.threads, x.ok) (hn : n < 4) (hx64 : ¬ 64 < c.text.size) (hkd : c.kind = 3) (hob : k.obj c.t c.n = none) :
  Calls Tryz.prog 50 #[.pointer (some ⟨g, 0, none⟩), .int .i64 n, reqV c la lc ga gc] w (CallPost ok w g Bs (callK k n c)) := by
 obtain ⟨x, xa, xc, oa, oc, ba, bc, ma, mc, ex, ec, eB, hT, hb⟩ := h.open hn
 have hx := hk x (mgE ex)
 have hpre := h.preLen hn
 have hth := Ker.thr_at ex
 have st0 := St.hand hb
 unfold thrC at st0
 have d1 : decide ((n : Int) < 0) = false := by simp
 have d2 : decide ((4 : Int) ≤ n) = false := by simp; omega
 have d64 := text_size hx64
 have hgg : ¬ ok g := h.apart g (by simp)
 have HKp := qh (show ∀ (W : World) (bl : Blks), St [g] w W bl → Keeps ok w W from fun W bl s => s.keeps (by simpa using hgg))
 have HB := qh (show ∀ (W : World) (bl : Blks), St [g] w W bl → (g, 98, winC (preC k css n) [.slice xa x.label.length xc, .slice oa x.own.length oc, .string x.text, .slice ba x.objects.length bc, .slice ma x.mails.length mc] (postC k css n)) ∈ bl → Below w.heap.size w W from fun W bl s hm => st0.below2 s (by simpa using hm))
 have hxl := goodL_len hx.good; have hxo := hx.ownL; have hxm := hx.mailN; have hxb := hx.objs; have hxt := hx.text
 have st := st0
 clear st0
 unfold reqV
 have HE := qh (show callK k (n : Int) c = (k, errR 0) by unfold callK; simp [hkd, hob])
 have HOb : Hid (∀ W, Below w.heap.size w W → Calls Tryz.prog 71 #[.pointer (some ⟨g, 0, none⟩), .int .i64 c.t, .int .i64 c.n] W fun e w' => e = .returned (.pointer none) ∧ W = w') := by
  rcases h.object c.t c.n with ⟨_, H⟩ | ⟨_, _, _, _, _, _, _, _, _, _, _, _, _, _, _, _, _, _, _, _, _, e, _⟩
  ·exact qh H
  ·rw [hob] at e; cases e
 clear hob
 rw [hkd]
 clear hkd
 go_enter Tryz.func50, Tryz.ntmps50
 go_wp2_with (first | go_skip | (go_at_call 71; go_must (refine (HOb.out _ (HB.out _ _ st (by simp))).mono ?_; rintro e wo ⟨rfl, rfl⟩)) | (with_reducible refine mB 30 st ?_; clear st; intro g5 w5 hg5 st) | (with_reducible refine mA st Tryz.zeroValue35 ?_; clear st; intro g6 w6 hg6 st) | (with_reducible refine mX st Tryz.isAgg9 ?_) | (with_reducible refine mX st Tryz.isAgg3 ?_) | (go_at_call 68; go_must (refine (call_no _ _).mono ?_; rintro e vn ⟨rfl, hbn⟩; replace st := st.call hbn; clear hbn)) | (with_reducible refine mS 2 st Tryz.sizeOf35 ?_; clear st; intro w7 st hw7m hw7z))
 refine det_region (by kernel_rfl) 17 rfl (fun W => St [g] w W [(g, 98, winC (preC k css n) [.slice xa x.label.length xc, .slice oa x.own.length oc, .string x.text, .slice ba x.objects.length bc, .slice ma x.mails.length mc] (postC k css n)), (g5, 30, [.int .i64 3, .int .i64 c.h, .int .i64 c.t, .int .i64 c.n, .int .i64 c.c, .slice la c.label.length lc, .slice ga c.grants.length gc, .string c.text]), (g6, 35, [.int .i64 0, .int .i64 0, .string ⟨#[]⟩])]) (st.drew) (by decide +kernel) ?_
 refine detS 0 rfl ?_; refine detS 1 rfl ?_; refine detS 2 rfl ?_
 refine detK 3 rfl ?_; refine detK 4 rfl ?_; refine detK 5 rfl ?_; refine detK 6 rfl ?_; refine detK 7 rfl ?_; refine detK 8 rfl ?_; refine detK 9 rfl ?_; refine detK 10 rfl ?_; refine detK 11 rfl ?_; refine detK 12 rfl ?_; refine detK 13 rfl ?_; refine detK 14 rfl ?_; refine detK 15 rfl ?_
 refine detS 16 rfl ?_
 refine det_done (by decide +kernel) ?_
 clear st
 intro W st
 go_wp2_with (first | go_skip | (go_at_call 68; go_must (refine (call_no _ _).mono ?_; rintro e vn ⟨rfl, hbn⟩; replace st := st.call hbn; clear hbn)) | (with_reducible refine mS 2 st Tryz.sizeOf35 ?_; clear st; intro w7 st hw7m hw7z))
 have hc := fun j => st.cell (i := 2) rfl j
 refine bodyPost_ret (v := RepV (errR 0)) ?hr rfl ?_
 case hr => simp [results, Tryz.results50, go_sem, hc, RepV, errR]; try rfl
 rw [HE.out]
 exact ⟨rfl, KerTo.none h (HB.out _ _ st (by simp))⟩
theorem kernel_Call_get_none (h : KerAt ok w g k css Bs) (hk : ∀ x ∈ k.threads, x.ok) (hn : n < 4) (hx64 : ¬ 64 < c.text.size) (hkd : c.kind = 4) (hob : k.obj c.t c.n = none) :
  Calls Tryz.prog 50 #[.pointer (some ⟨g, 0, none⟩), .int .i64 n, reqV c la lc ga gc] w (CallPost ok w g Bs (callK k n c)) := by
 obtain ⟨x, xa, xc, oa, oc, ba, bc, ma, mc, ex, ec, eB, hT, hb⟩ := h.open hn
 have hx := hk x (mgE ex)
 have hpre := h.preLen hn
 have hth := Ker.thr_at ex
 have st0 := St.hand hb
 unfold thrC at st0
 have d1 : decide ((n : Int) < 0) = false := by simp
 have d2 : decide ((4 : Int) ≤ n) = false := by simp; omega
 have d64 := text_size hx64
 have hgg : ¬ ok g := h.apart g (by simp)
 have HKp := qh (show ∀ (W : World) (bl : Blks), St [g] w W bl → Keeps ok w W from fun W bl s => s.keeps (by simpa using hgg))
 have HB := qh (show ∀ (W : World) (bl : Blks), St [g] w W bl → (g, 98, winC (preC k css n) [.slice xa x.label.length xc, .slice oa x.own.length oc, .string x.text, .slice ba x.objects.length bc, .slice ma x.mails.length mc] (postC k css n)) ∈ bl → Below w.heap.size w W from fun W bl s hm => st0.below2 s (by simpa using hm))
 have hxl := goodL_len hx.good; have hxo := hx.ownL; have hxm := hx.mailN; have hxb := hx.objs; have hxt := hx.text
 have st := st0
 clear st0
 unfold reqV
 have HE := qh (show callK k (n : Int) c = (k, errR 4) by unfold callK; simp [hkd, hob])
 have HOb : Hid (∀ W, Below w.heap.size w W → Calls Tryz.prog 71 #[.pointer (some ⟨g, 0, none⟩), .int .i64 c.t, .int .i64 c.n] W fun e w' => e = .returned (.pointer none) ∧ W = w') := by
  rcases h.object c.t c.n with ⟨_, H⟩ | ⟨_, _, _, _, _, _, _, _, _, _, _, _, _, _, _, _, _, _, _, _, _, e, _⟩
  ·exact qh H
  ·rw [hob] at e; cases e
 clear hob
 rw [hkd]
 clear hkd
 go_enter Tryz.func50, Tryz.ntmps50
 go_wp2_with (first | go_skip | (go_at_call 71; go_must (refine (HOb.out _ (HB.out _ _ st (by simp))).mono ?_; rintro e wo ⟨rfl, rfl⟩)) | (with_reducible refine mB 30 st ?_; clear st; intro g5 w5 hg5 st) | (with_reducible refine mA st Tryz.zeroValue35 ?_; clear st; intro g6 w6 hg6 st) | (with_reducible refine mX st Tryz.isAgg9 ?_) | (with_reducible refine mX st Tryz.isAgg3 ?_) | (go_at_call 68; go_must (refine (call_no _ _).mono ?_; rintro e vn ⟨rfl, hbn⟩; replace st := st.call hbn; clear hbn)) | (with_reducible refine mS 2 st Tryz.sizeOf35 ?_; clear st; intro w7 st hw7m hw7z))
 refine det_region (by kernel_rfl) 18 rfl (fun W => St [g] w W [(g, 98, winC (preC k css n) [.slice xa x.label.length xc, .slice oa x.own.length oc, .string x.text, .slice ba x.objects.length bc, .slice ma x.mails.length mc] (postC k css n)), (g5, 30, [.int .i64 4, .int .i64 c.h, .int .i64 c.t, .int .i64 c.n, .int .i64 c.c, .slice la c.label.length lc, .slice ga c.grants.length gc, .string c.text]), (g6, 35, [.int .i64 0, .int .i64 0, .string ⟨#[]⟩])]) (st.drew) (by decide +kernel) ?_
 refine detS 0 rfl ?_; refine detS 1 rfl ?_; refine detS 2 rfl ?_
 refine detK 3 rfl ?_; refine detK 4 rfl ?_; refine detK 5 rfl ?_; refine detK 6 rfl ?_; refine detK 7 rfl ?_; refine detK 8 rfl ?_; refine detK 9 rfl ?_; refine detK 10 rfl ?_; refine detK 11 rfl ?_; refine detK 12 rfl ?_; refine detK 13 rfl ?_; refine detK 14 rfl ?_; refine detK 15 rfl ?_; refine detK 16 rfl ?_
 refine detS 17 rfl ?_
 refine det_done (by decide +kernel) ?_
 clear st
 intro W st
 go_wp2_with (first | go_skip | (go_at_call 68; go_must (refine (call_no _ _).mono ?_; rintro e vn ⟨rfl, hbn⟩; replace st := st.call hbn; clear hbn)) | (with_reducible refine mS 2 st Tryz.sizeOf35 ?_; clear st; intro w7 st hw7m hw7z))
 have hc := fun j => st.cell (i := 2) rfl j
 refine bodyPost_ret (v := RepV (errR 4)) ?hr rfl ?_
 case hr => simp [results, Tryz.results50, go_sem, hc, RepV, errR]; try rfl
 rw [HE.out]
 exact ⟨rfl, KerTo.none h (HB.out _ _ st (by simp))⟩
end
section
variable (ok okc : Nat → Prop) (w : World) (g : Nat) (k : Ker) (css : List (List Value)) (Bs : List (List Nat)) (n : Nat) (c : Req) (la : Option Addr) (lc : Nat) (ga : Option Addr) (gc : Nat)
theorem kernel_Call_get_no (h : KerAt ok w g k css Bs) (hk : ∀ x ∈ k.threads, x.ok) (hn : n < 4) (hx64 : ¬ 64 < c.text.size) (hkd : c.kind = 4) (o : KObj) (hob : k.obj c.t c.n = some o) (hf : flowsL o.label (k.thr n).label (k.thr n).own = false) :
  Calls Tryz.prog 50 #[.pointer (some ⟨g, 0, none⟩), .int .i64 n, reqV c la lc ga gc] w (CallPost ok w g Bs (callK k n c)) := by
 obtain ⟨x, xa, xc, oa, oc, ba, bc, ma, mc, ex, ec, eB, hT, hb⟩ := h.open hn
 have hx := hk x (mgE ex)
 have hpre := h.preLen hn
 have hth := Ker.thr_at ex
 rcases h.object c.t c.n with ⟨e, _⟩ | ⟨m, j, y, ya, yc, qa, qc, gb, off, bc2, ma2, mc2, o2, hm, et, en, ey, ecy, eBy, hTy, hoy, hob2, HOb⟩
 ·rw [hob] at e; cases e
 rw [hob] at hob2
 cases hob2
 replace et := qh et
 replace en := qh en
 obtain ⟨pre2, cs2, post2, hb2, hpre2, ⟨la2, lc2, rfl, hlo⟩, _, _⟩ := hTy.objs.window hoy
 have HQ := qh (show ∃ q, q = off + j * 2 from ⟨_, rfl⟩)
 obtain ⟨q, hq⟩ := HQ.out
 rw [← hq] at hpre2 HOb
 replace HOb := qh HOb
 clear HQ
 replace hq := qh hq
 have hgb : g ≠ gb := fun e => h.gOut eBy (e ▸ mem_rows2.2 (.inl rfl))
 have hgbo : ¬ ok gb := h.apartAt eBy (mem_rows2.2 (.inl rfl))
 have hgbl : gb < w.heap.size := hTy.objs.lt rfl
 have ho := (hk y (mgE ey)).obj o (mgE hoy)
 have hol := goodL_len ho.1
 have hot := ho.2
 have st0 := St.hand2 hb hb2 hgb
 unfold thrC at st0
 have d1 : decide ((n : Int) < 0) = false := by simp
 have d2 : decide ((4 : Int) ≤ n) = false := by simp; omega
 have d64 := text_size hx64
 have hgg : ¬ ok g := h.apart g (by simp)
 have HKp := qh (show ∀ (W : World) (bl : Blks), St [g, gb] w W bl → Keeps ok w W from fun W bl s => s.keeps (by simpa using ⟨hgg, hgbo⟩))
 have HB := qh (show ∀ (W : World) (bl : Blks), St [g, gb] w W bl → (g, 98, winC (preC k css n) [.slice xa x.label.length xc, .slice oa x.own.length oc, .string x.text, .slice ba x.objects.length bc, .slice ma x.mails.length mc] (postC k css n)) ∈ bl → (gb, 58, winC pre2 [.slice la2 o.label.length lc2, .string o.text] post2) ∈ bl → Below w.heap.size w W from fun W bl s hm1 hm2 => st0.below2 s (by simpa using ⟨hm1, hm2⟩))
 have hxl := goodL_len hx.good; have hxo := hx.ownL; have hxm := hx.mailN; have hxb := hx.objs; have hxt := hx.text
 have st := st0
 clear st0
 unfold reqV
 have HE := qh (show callK k (n : Int) c = (k, errR 4) by unfold callK; simp [hkd, hob, hf])
 rw [hth] at hf
 have HF := qh (fun (W : World) (bl : Blks) (hW : St [g, gb] w W bl) => label_Flows (fun _ => True) W la2 xa oa lc2 xc oc o.label x.label x.own (by omega) (by omega) ((hlo.keep (HKp.out W _ hW)).okay fun _ _ => trivial) ((hT.label.keep (HKp.out W _ hW)).okay fun _ _ => trivial) ((hT.own.keep (HKp.out W _ hW)).okay fun _ _ => trivial))
 rw [hf] at HF
 clear hob hf
 rw [hkd]
 clear hkd
 go_enter Tryz.func50, Tryz.ntmps50
 go_wp2_with (first | go_skip | (go_at_call 71; go_must (refine (HOb.out _ (HB.out _ _ st (by simp) (by simp))).mono ?_; rintro e wo ⟨rfl, rfl⟩)) | (with_reducible refine mB 30 st ?_; clear st; intro g5 w5 hg5 st) | (with_reducible refine mA st Tryz.zeroValue35 ?_; clear st; intro g6 w6 hg6 st) | (with_reducible refine mX st Tryz.isAgg9 ?_) | (with_reducible refine mX st Tryz.isAgg3 ?_) | (go_at_call 68; go_must (refine (call_no _ _).mono ?_; rintro e vn ⟨rfl, hbn⟩; replace st := st.call hbn; clear hbn)) | (with_reducible refine mS 3 st Tryz.sizeOf35 ?_; clear st; intro w7 st hw7m hw7z))
 refine det_region (by kernel_rfl) 18 rfl (fun W => St [g, gb] w W [(g, 98, winC (preC k css n) [.slice xa x.label.length xc, .slice oa x.own.length oc, .string x.text, .slice ba x.objects.length bc, .slice ma x.mails.length mc] (postC k css n)), (gb, 58, winC pre2 [.slice la2 o.label.length lc2, .string o.text] post2), (g5, 30, [.int .i64 4, .int .i64 c.h, .int .i64 c.t, .int .i64 c.n, .int .i64 c.c, .slice la c.label.length lc, .slice ga c.grants.length gc, .string c.text]), (g6, 35, [.int .i64 0, .int .i64 0, .string ⟨#[]⟩])]) (st.drew) (by decide +kernel) ?_
 refine detS 0 rfl ?_; refine detS 1 rfl ?_; refine detS 2 rfl ?_; refine detS 3 rfl ?_; refine detS 4 rfl ?_; refine detS 5 rfl ?_
 refine detT 6 rfl (fun W hW => St.run_loadW hW 1 27 _ rfl Tryz.isAgg27 0 hpre2 rfl rfl rfl) ?_
 refine detS 7 rfl ?_; refine detS 8 rfl ?_; refine detS 9 rfl ?_
 refine detT 10 rfl (fun W hW => St.run_loadW hW 0 27 _ rfl Tryz.isAgg27 0 hpre rfl rfl rfl) ?_
 refine detS 11 rfl ?_; refine detS 12 rfl ?_; refine detS 13 rfl ?_
 refine detT 14 rfl (fun W hW => St.run_loadW hW 0 28 _ rfl Tryz.isAgg28 1 hpre rfl rfl rfl) ?_
 refine det_call (fn := 27) 15 rfl (by decide +kernel) (by first | exact wanted_none rfl | exact wanted_some rfl rfl) (fun W => by first | (go_simp; done) | (go_simp; rfl)) (fun W hW => (HF.out W _ hW).mono fun e w' h => ⟨h.1, hW.call h.2⟩) ?_; simp only [kP, kA, kS, kZ]
 refine detS 16 rfl ?_; refine detS 17 rfl ?_
 refine det_done (by decide +kernel) ?_
 clear st
 intro W st
 go_wp2_with (first | go_skip | (go_at_call 68; go_must (refine (call_no _ _).mono ?_; rintro e vn ⟨rfl, hbn⟩; replace st := st.call hbn; clear hbn)) | (with_reducible refine mS 3 st Tryz.sizeOf35 ?_; clear st; intro w7 st hw7m hw7z))
 have hc := fun j => st.cell (i := 3) rfl j
 refine bodyPost_ret (v := RepV (errR 4)) ?hr rfl ?_
 case hr => simp [results, Tryz.results50, go_sem, hc, RepV, errR]; try rfl
 rw [HE.out]
 exact ⟨rfl, KerTo.none h (HB.out _ _ st (by simp) (by simp))⟩
theorem kernel_Call_get_yes (h : KerAt ok w g k css Bs) (hk : ∀ x ∈ k.threads, x.ok) (hn : n < 4) (hx64 : ¬ 64 < c.text.size) (hkd : c.kind = 4) (o : KObj) (hob : k.obj c.t c.n = some o) (hf : flowsL o.label (k.thr n).label (k.thr n).own = true) :
  Calls Tryz.prog 50 #[.pointer (some ⟨g, 0, none⟩), .int .i64 n, reqV c la lc ga gc] w (CallPost ok w g Bs (callK k n c)) := by
 obtain ⟨x, xa, xc, oa, oc, ba, bc, ma, mc, ex, ec, eB, hT, hb⟩ := h.open hn
 have hx := hk x (mgE ex)
 have hpre := h.preLen hn
 have hth := Ker.thr_at ex
 rcases h.object c.t c.n with ⟨e, _⟩ | ⟨m, j, y, ya, yc, qa, qc, gb, off, bc2, ma2, mc2, o2, hm, et, en, ey, ecy, eBy, hTy, hoy, hob2, HOb⟩
 ·rw [hob] at e; cases e
 rw [hob] at hob2
 cases hob2
 replace et := qh et
 replace en := qh en
 obtain ⟨pre2, cs2, post2, hb2, hpre2, ⟨la2, lc2, rfl, hlo⟩, _, _⟩ := hTy.objs.window hoy
 have HQ := qh (show ∃ q, q = off + j * 2 from ⟨_, rfl⟩)
 obtain ⟨q, hq⟩ := HQ.out
 rw [← hq] at hpre2 HOb
 replace HOb := qh HOb
 clear HQ
 replace hq := qh hq
 have hgb : g ≠ gb := fun e => h.gOut eBy (e ▸ mem_rows2.2 (.inl rfl))
 have hgbo : ¬ ok gb := h.apartAt eBy (mem_rows2.2 (.inl rfl))
 have hgbl : gb < w.heap.size := hTy.objs.lt rfl
 have ho := (hk y (mgE ey)).obj o (mgE hoy)
 have hol := goodL_len ho.1
 have hot := ho.2
 have st0 := St.hand2 hb hb2 hgb
 unfold thrC at st0
 have d1 : decide ((n : Int) < 0) = false := by simp
 have d2 : decide ((4 : Int) ≤ n) = false := by simp; omega
 have d64 := text_size hx64
 have hgg : ¬ ok g := h.apart g (by simp)
 have HKp := qh (show ∀ (W : World) (bl : Blks), St [g, gb] w W bl → Keeps ok w W from fun W bl s => s.keeps (by simpa using ⟨hgg, hgbo⟩))
 have HB := qh (show ∀ (W : World) (bl : Blks), St [g, gb] w W bl → (g, 98, winC (preC k css n) [.slice xa x.label.length xc, .slice oa x.own.length oc, .string x.text, .slice ba x.objects.length bc, .slice ma x.mails.length mc] (postC k css n)) ∈ bl → (gb, 58, winC pre2 [.slice la2 o.label.length lc2, .string o.text] post2) ∈ bl → Below w.heap.size w W from fun W bl s hm1 hm2 => st0.below2 s (by simpa using ⟨hm1, hm2⟩))
 have hxl := goodL_len hx.good; have hxo := hx.ownL; have hxm := hx.mailN; have hxb := hx.objs; have hxt := hx.text
 have st := st0
 clear st0
 unfold reqV
 have HE := qh (show callK k (n : Int) c = (k.put n { x with text := knowT x.text o.text }, ⟨0, o.text.size, ⟨#[]⟩⟩) by rw [hth] at hf; unfold callK; simp [hkd, hob, hf, hth])
 rw [hth] at hf
 have HF := qh (fun (W : World) (bl : Blks) (hW : St [g, gb] w W bl) => label_Flows (fun _ => True) W la2 xa oa lc2 xc oc o.label x.label x.own (by omega) (by omega) ((hlo.keep (HKp.out W _ hW)).okay fun _ _ => trivial) ((hT.label.keep (HKp.out W _ hW)).okay fun _ _ => trivial) ((hT.own.keep (HKp.out W _ hW)).okay fun _ _ => trivial))
 rw [hf] at HF
 clear hob hf
 rw [hkd]
 clear hkd
 go_enter Tryz.func50, Tryz.ntmps50
 go_wp2_with (first | go_skip | (go_at_call 71; go_must (refine (HOb.out _ (HB.out _ _ st (by simp) (by simp))).mono ?_; rintro e wo ⟨rfl, rfl⟩)) | (with_reducible refine mB 30 st ?_; clear st; intro g5 w5 hg5 st) | (with_reducible refine mA st Tryz.zeroValue35 ?_; clear st; intro g6 w6 hg6 st) | (with_reducible refine mX st Tryz.isAgg9 ?_) | (with_reducible refine mX st Tryz.isAgg3 ?_) | (go_at_call 68; go_must (refine (call_no _ _).mono ?_; rintro e vn ⟨rfl, hbn⟩; replace st := st.call hbn; clear hbn)) | (with_reducible refine mS 3 st Tryz.sizeOf35 ?_; clear st; intro w7 st hw7m hw7z))
 refine det_region (by kernel_rfl) 18 rfl (fun W => St [g, gb] w W [(g, 98, winC (preC k css n) [.slice xa x.label.length xc, .slice oa x.own.length oc, .string x.text, .slice ba x.objects.length bc, .slice ma x.mails.length mc] (postC k css n)), (gb, 58, winC pre2 [.slice la2 o.label.length lc2, .string o.text] post2), (g5, 30, [.int .i64 4, .int .i64 c.h, .int .i64 c.t, .int .i64 c.n, .int .i64 c.c, .slice la c.label.length lc, .slice ga c.grants.length gc, .string c.text]), (g6, 35, [.int .i64 0, .int .i64 0, .string ⟨#[]⟩])]) (st.drew) (by decide +kernel) ?_
 refine detS 0 rfl ?_; refine detS 1 rfl ?_; refine detS 2 rfl ?_; refine detS 3 rfl ?_; refine detS 4 rfl ?_; refine detS 5 rfl ?_
 refine detT 6 rfl (fun W hW => St.run_loadW hW 1 27 _ rfl Tryz.isAgg27 0 hpre2 rfl rfl rfl) ?_
 refine detS 7 rfl ?_; refine detS 8 rfl ?_; refine detS 9 rfl ?_
 refine detT 10 rfl (fun W hW => St.run_loadW hW 0 27 _ rfl Tryz.isAgg27 0 hpre rfl rfl rfl) ?_
 refine detS 11 rfl ?_; refine detS 12 rfl ?_; refine detS 13 rfl ?_
 refine detT 14 rfl (fun W hW => St.run_loadW hW 0 28 _ rfl Tryz.isAgg28 1 hpre rfl rfl rfl) ?_
 refine det_call (fn := 27) 15 rfl (by decide +kernel) (by first | exact wanted_none rfl | exact wanted_some rfl rfl) (fun W => by first | (go_simp; done) | (go_simp; rfl)) (fun W hW => (HF.out W _ hW).mono fun e w' h => ⟨h.1, hW.call h.2⟩) ?_; simp only [kP, kA, kS, kZ]
 refine detS 16 rfl ?_; refine detS 17 rfl ?_
 refine det_done (by decide +kernel) ?_
 clear st
 intro W st
 go_wp2_with (first | go_skip | ((with_reducible refine at_load 9 ?_); refine mem_loadW st 9 _ rfl (wanted_none rfl) Tryz.isAgg9 1 ?_; refine ⟨1, _, _, _, _, _, _, _, hpre2, rfl, rfl, rfl, ?_⟩) | (go_at_call 72; go_must (refine (kernel_know _ g _ _ _ _ _ _ _ x.text o.text hpre (by omega) (by omega) (st.blk _ (mgE (i := 0) rfl))).mono ?_; rintro e W1 ⟨⟨u, rfl⟩, hk1⟩; replace st := st.turn (i := 0) rfl hk1; clear hk1; simp only [List.set_cons_zero] at st)) | (with_reducible refine mS 3 st Tryz.sizeOf35 ?_; clear st; intro w7 st hw7m hw7z))
 have hc := fun j => st.cell (i := 3) rfl j
 refine bodyPost_ret (v := RepV (⟨0, o.text.size, ⟨#[]⟩⟩)) ?hr rfl ?_
 case hr => simp [results, Tryz.results50, go_sem, hc, RepV, errR]; try rfl
 rw [HE.out]
 exact ⟨rfl, h.closeSame (made' := k.made) (x' := { x with text := knowT x.text o.text }) hn ec eB hT (st.drop2 (mgE (i := 1) rfl) hb2 (by simpa [thrC] using hgb) (by simp)) rfl rfl (h.fine eB ((hT.label.keep (HKp.out _ _ st)).okay fun _ r => .inl r)) (h.fine eB ((hT.own.keep (HKp.out _ _ st)).okay fun _ r => .inl r))⟩
end
end Go.Proofs.YtnjjdpiofbajlaaGreat
