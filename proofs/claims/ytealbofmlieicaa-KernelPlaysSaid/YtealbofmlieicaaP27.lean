/- Walks and plain laws, part 27. -/
import Derived.Test.YtealbofmlieicaaP20
import Derived.Deep.DeepCutAuto
set_option linter.unusedSimpArgs false
set_option linter.unusedVariables false
set_option maxHeartbeats 16000000
set_option maxRecDepth 100000
namespace Go.Proofs.Ytealbofmlieicaa
open Go.RowKit
theorem Own.slrS {base : Nat} {e : TypeId} {M : List Nat} {w0 w : World} {α : Type} {sz : Nat} {R : List Value → α → Prop} {a : Option Addr} {c : Nat} {xs : List α} {own : Blks} (h : Own base e w sz R a c xs) (st : St M w0 w own) (hT : ∀ x ∈ own, x.2.1 ≠ e) :
  SlR (fun b => base ≤ b ∧ b < w.heap.size ∧ b ∉ own.map (·.1)) w sz R a c xs := by
 have hne := fun x (hx : x ∈ own) => h.apartT (st.blk x hx) (hT x hx)
 have s := h.slr (ok := fun b => base ≤ b) fun _ h => h
 refine ⟨s.1, s.2.1, s.2.2.1, fun i x hx => ?_⟩
 obtain ⟨b, o, cs, ha, hb, hlt, r⟩ := s.2.2.2 i x hx
 refine ⟨b, o, cs, ha, ⟨hb, hlt, fun hm => ?_⟩, hlt, r⟩
 obtain ⟨y, hy, e2⟩ := List.mem_map.1 hm
 exact hne y hy (by rw [ha, ← e2]; rfl)
theorem SlR.fit {ok ok' : Nat → Prop} {w : World} {α : Type} {sz : Nat} {R : List Value → α → Prop} {a : Option Addr} {c : Nat} {xs : List α} (h : SlR ok w sz R a c xs) (hok : ∀ b, b < w.heap.size → ok b → ok' b) : SlR ok' w sz R a c xs :=
 h.move (Nat.le_refl _) (fun b hb ho => ⟨hok b hb ho, rfl⟩) fun _ _ r => r
theorem SlR.obj_at {ok ok' : Nat → Prop} {w w' : World} {a : Option Addr} {c : Nat} {xs : List KObj} (h : SlR ok w 2 (RObj ok' w') a c xs) (i : Nat) (hi : i < xs.length) :
  ∃ b o la lc, a = some ⟨b, o, none⟩ ∧ ok b ∧ b < w.heap.size ∧ SlR ok' w' 2 RLev la lc xs[i].label ∧ ∀ (j : Nat) (v : Value), [Value.slice la xs[i].label.length lc, .string xs[i].text][j]? = some v → w.cell? ⟨b, o + i * 2 + j, none⟩ = some v := by
 obtain ⟨b, o, cs, ha, ho, hb, ⟨la, lc, rfl, r1⟩, _, _, hc⟩ := h.2.2.2 i xs[i] (by simp [hi])
 exact ⟨b, o, la, lc, ha, ho, hb, r1, hc⟩
theorem SlR.mail_at {ok ok' : Nat → Prop} {w w' : World} {a : Option Addr} {c : Nat} {xs : List Mail} (h : SlR ok w 5 (RMail ok' w') a c xs) (i : Nat) (hi : i < xs.length) :
  ∃ b o la lc ga gc, a = some ⟨b, o, none⟩ ∧ ok b ∧ b < w.heap.size ∧ SlR ok' w' 2 RLev la lc xs[i].label ∧ SlR ok' w' 1 RInt ga gc xs[i].grants ∧ ∀ (j : Nat) (v : Value), [Value.int .i64 xs[i].host, .int .i64 xs[i].thread, .slice la xs[i].label.length lc, .slice ga xs[i].grants.length gc, .string xs[i].text][j]? = some v → w.cell? ⟨b, o + i * 5 + j, none⟩ = some v := by
 obtain ⟨b, o, cs, ha, ho, hb, ⟨la, lc, ga, gc, rfl, r1, r2⟩, _, _, hc⟩ := h.2.2.2 i xs[i] (by simp [hi])
 exact ⟨b, o, la, lc, ga, gc, ha, ho, hb, r1, r2, hc⟩
theorem MailR.keepF {B : Nat} {w w' : World} {m : Mail} {la : Option Addr} {lc : Nat} {ga : Option Addr} {gc : Nat} (h : MailR (fun b => B ≤ b ∧ FreeB w b) w m la lc ga gc) (hb : Below w.heap.size w w') : MailR (fun b => B ≤ b ∧ FreeB w' b) w' m la lc ga gc :=
 ⟨h.label.move hb.size (fun b hb' ho => ⟨⟨ho.1, ho.2.at (hb.block b hb')⟩, hb.block b hb'⟩) fun _ _ r => r, h.grants.move hb.size (fun b hb' ho => ⟨⟨ho.1, ho.2.at (hb.block b hb')⟩, hb.block b hb'⟩) fun _ _ r => r⟩
structure ThrS (ok : Nat → Prop) (w : World) (x : Thr) (la : Option Addr) (lc : Nat) (oa : Option Addr) (oc : Nat) (ba : Option Addr) (bc : Nat) (ma : Option Addr) (mc : Nat) : Prop where
 label : SlR ok w 2 RLev la lc x.label
 own : SlR ok w 1 RInt oa oc x.own
 objs : SlR ok w 2 (RObj ok w) ba bc x.objects
 mails : SlR ok w 5 (RMail ok w) ma mc x.mails
theorem ThrS.move {ok ok' : Nat → Prop} {w w' : World} {x : Thr} {la : Option Addr} {lc : Nat} {oa : Option Addr} {oc : Nat} {ba : Option Addr} {bc : Nat} {ma : Option Addr} {mc : Nat} (h : ThrS ok w x la lc oa oc ba bc ma mc) (hs : w.heap.size ≤ w'.heap.size) (hk : ∀ b, b < w.heap.size → ok b → ok' b ∧ w'.heap[b]? = w.heap[b]?) : ThrS ok' w' x la lc oa oc ba bc ma mc :=
 ⟨h.label.move hs hk fun _ _ h => h, h.own.move hs hk fun _ _ h => h, h.objs.move hs hk fun _ _ h => h.move hs hk, h.mails.move hs hk fun _ _ h => h.move hs hk⟩
theorem ThrS.below {ok : Nat → Prop} {w w' : World} {x : Thr} {la : Option Addr} {lc : Nat} {oa : Option Addr} {oc : Nat} {ba : Option Addr} {bc : Nat} {ma : Option Addr} {mc : Nat} (h : ThrS ok w x la lc oa oc ba bc ma mc) (hb : Below w.heap.size w w') : ThrS ok w' x la lc oa oc ba bc ma mc :=
 h.move hb.size fun b hb' ho => ⟨ho, hb.block b hb'⟩
theorem ThrS.zero (ok : Nat → Prop) (w : World) : ThrS ok w zeroT none 0 none 0 none 0 none 0 := ⟨SlR.nil _ _ _ _, SlR.nil _ _ _ _, SlR.nil _ _ _ _, SlR.nil _ _ _ _⟩
def thrV (x : Thr) (la : Option Addr) (lc : Nat) (oa : Option Addr) (oc : Nat) (ba : Option Addr) (bc : Nat) (ma : Option Addr) (mc : Nat) : Value :=
 .agg #[.slice la x.label.length lc, .slice oa x.own.length oc, .string x.text, .slice ba x.objects.length bc, .slice ma x.mails.length mc]
def thrOf (k : Ker) (t : Int) : Thr := if four t = true then k.thr t else zeroT
def besF (B : Nat) (o : Option Addr) (W : World) (b : Nat) : Prop := besides B o b ∧ FreeB W b
def ThreadPostF (w : World) (x : Thr) (e : Ending) (w' : World) : Prop :=
 ∃ la lc oa oc ba bc ma mc, e = .returned (thrV x la lc oa oc ba bc ma mc) ∧ Below w.heap.size w w' ∧ ThrS (fun b => w.heap.size ≤ b ∧ FreeB w' b) w' x la lc oa oc ba bc ma mc
def ThreadPost (w : World) (x : Thr) (e : Ending) (w' : World) : Prop :=
 ∃ la lc oa oc ba bc ma mc, e = .returned (thrV x la lc oa oc ba bc ma mc) ∧ Below w.heap.size w w' ∧ ThrS (fun b => w.heap.size ≤ b) w' x la lc oa oc ba bc ma mc
theorem kernel_Thread_outF (w : World) (g : Nat) (t : Int) (h4 : four t = false) :
  Calls Try.prog 16 #[.pointer (some ⟨g, 0, none⟩), .int .i64 t] w (ThreadPostF w zeroT) := by
 have st := St.start w
 rcases four_no h4 with d | ⟨d0, d⟩
 all_goals
  clear h4
  go_enter Try.func16, Try.ntmps16
  go_wp2_with (first | go_skip | (with_reducible refine mA st Try.zeroValue35 ?_; clear st; intro g1 w1 hg1 st) | (with_reducible refine mS 0 st Try.sizeOf35 ?_; clear st; intro w2 st hw2m hw2z))
  have hc := fun j => st.cell (i := 0) rfl j
  refine bodyPost_ret (v := thrV zeroT none 0 none 0 none 0 none 0) ?hr rfl ⟨none, 0, none, 0, none, 0, none, 0, rfl, st.below, ThrS.zero _ _⟩
  case hr => simp [results, Try.results16, go_sem, hc, thrV, zeroT]; try rfl
theorem kernel_ThreadF (ok : Nat → Prop) (w : World) (g : Nat) (k : Ker) (css : List (List Value)) (Bs : List (List Nat)) (h : KerAt ok w g k css Bs) (hk : ∀ x ∈ k.threads, x.ok) (t : Int) :
  Calls Try.prog 16 #[.pointer (some ⟨g, 0, none⟩), .int .i64 t] w (ThreadPostF w (thrOf k t)) := by
 unfold thrOf
 by_cases h4 : four t = true
 case neg => rw [if_neg h4]; exact kernel_Thread_outF w g t (by simpa using h4)
 rw [if_pos h4]
 obtain ⟨n, rfl, hn⟩ := four_nat h4
 obtain ⟨x, xa, xc, oa, oc, ba, bc, ma, mc, ex, ec, eB, hT, hb⟩ := h.open hn
 have hx := hk x (mgE ex)
 have hpre := h.preLen hn
 rw [Ker.thr_at ex]
 have st0 := St.hand hb
 unfold thrC at st0 hb
 have d1 : decide ((n : Int) < 0) = false := by simp
 have d2 : decide ((4 : Int) ≤ n) = false := by simp; omega
 have hgg : ¬ ok g := h.apart g (by simp)
 have hgw := h.lt g (by simp)
 have hxl := goodL_len hx.good; have hxo := hx.ownL; have hxb := hx.objs; have hxm := hx.mailN
 have HX := qh (fun o (ho : o ∈ x.objects) => goodL_len (hx.obj o ho).1)
 have HY := qh (fun m (hm : m ∈ x.mails) => (show m.label.length ≤ 8 ∧ m.grants.length ≤ 8 from ⟨goodL_len (mail_facts (hx.mail m hm)).2.2.1, (grants_facts (mail_facts (hx.mail m hm)).2.2.2.1).1⟩))
 have hT := hT.later (Below.refl _ _)
 have HKp := qh (show ∀ (W : World) (bl : Blks), St [g] w W bl → Keeps (fun b => ok b ∧ b < w.heap.size) w W from fun W bl s => s.keeps (by simp; intro h; exact absurd h hgg))
 have HB := qh (show ∀ (W : World) (bl : Blks), St [g] w W bl → (g, 58, winC (preC k css n) [.slice xa x.label.length xc, .slice oa x.own.length oc, .string x.text, .slice ba x.objects.length bc, .slice ma x.mails.length mc] (postC k css n)) ∈ bl → Below w.heap.size w W from fun W bl s hm => st0.below2 s (by simpa using hm))
 have HO := qh (show ∀ (W : World) (bl : Blks), St [g] w W bl → SlR (fun b => b < w.heap.size) W 2 (RObj (fun b => ok b ∧ b < w.heap.size) w) ba bc x.objects from fun W bl s => (hT.objs.slr (ok := fun b => ba.map (·.block) = some b) fun _ h => h).move s.size (fun b hb' ho => ⟨hb', s.frame b hb' (by simp; rintro rfl; exact h.gOut eB (mem_rows2.2 (.inl ho)))⟩) fun _ _ r => r)
 have HM := qh (show ∀ (W : World) (bl : Blks), St [g] w W bl → SlR (fun b => b < w.heap.size) W 5 (RMail (fun b => ok b ∧ b < w.heap.size) w) ma mc x.mails from fun W bl s => (hT.mails.slr (ok := fun b => ma.map (·.block) = some b) fun _ h => h).move s.size (fun b hb' ho => ⟨hb', s.frame b hb' (by simp; rintro rfl; exact h.gOut eB (mem_rows2.2 (.inr ho)))⟩) fun _ _ r => r)
 have HL := qh (fun (W : World) (bl : Blks) (hW : St [g] w W bl) => kernel_levels (fun b => ok b ∧ b < w.heap.size) W xa xc x.label (by omega) (hT.label.keep (HKp.out W _ hW)))
 have HN := qh (fun (W : World) (bl : Blks) (hW : St [g] w W bl) => kernel_numbers (fun b => ok b ∧ b < w.heap.size) W oa oc x.own (by omega) (hT.own.keep (HKp.out W _ hW)))
 have st := st0
 clear st0 hb hT h ex ec eB hx hk h4 hxo hxl
 go_enter Try.func16, Try.ntmps16
 go_upto_region 3 with (first | go_skip | (with_reducible refine mA st Try.zeroValue35 ?_; clear st; intro g1 w1 hg1 st))
 go_upto_region 4 with (first | go_skip | (with_reducible refine at_load 35 ?_; refine mem_loadWin st 35 _ rfl (wanted_none rfl) Try.isAgg35 _ Try.sizeOf35 ?_; refine ⟨0, _, _, _, _, _, _, hpre, rfl, rfl, rfl, ?_⟩) | (with_reducible refine mA st Try.zeroValue35 ?_; clear st; intro g2 w2 hg2 st) | (with_reducible refine mS 2 st Try.sizeOf35 ?_; clear st; intro w3 st hw3m hw3z))
 clear hw3m hw3z
 simp only [kP, kA, kS, kZ]
 go_cut [6] (fun s6 wx => ∃ (g6 : Nat) (la : Option Addr) (lc : Nat) (na : Option Addr) (nc : Nat), s6 = .pointer (some ⟨g6, 0, none⟩) ∧ St [g] w wx [(g, 58, winC (preC k css n) [.slice xa x.label.length xc, .slice oa x.own.length oc, .string x.text, .slice (ba) x.objects.length bc, .slice (ma) x.mails.length mc] (postC k css n)), (g1, 35, [.slice none 0 0, .slice none 0 0, .string ⟨#[]⟩, .slice none 0 0, .slice none 0 0]), (g2, 35, [.slice xa x.label.length xc, .slice oa x.own.length oc, .string x.text, .slice (ba) x.objects.length bc, .slice (ma) x.mails.length mc]), (g6, 35, [.slice la x.label.length lc, .slice na x.own.length nc, .string x.text, .slice none 0 0, .slice none 0 0])] ∧ SlR (fun b => w.heap.size ≤ b ∧ b < wx.heap.size ∧ b ∉ [g, g1, g2, g6] ∧ FreeB wx b) wx 2 RLev la lc x.label ∧ SlR (fun b => w.heap.size ≤ b ∧ b < wx.heap.size ∧ b ∉ [g, g1, g2, g6] ∧ FreeB wx b) wx 1 RInt na nc x.own)
 case first =>
  have st := st.drew
  have hI := st
  refine lex_region (by kernel_rfl) 11 rfl (fun W => St [g] w W [(g, 58, winC (preC k css n) [.slice xa x.label.length xc, .slice oa x.own.length oc, .string x.text, .slice (ba) x.objects.length bc, .slice (ma) x.mails.length mc] (postC k css n)), (g1, 35, [.slice none 0 0, .slice none 0 0, .string ⟨#[]⟩, .slice none 0 0, .slice none 0 0]), (g2, 35, [.slice xa x.label.length xc, .slice oa x.own.length oc, .string x.text, .slice (ba) x.objects.length bc, .slice (ma) x.mails.length mc])]) ?_
  refine lexS 0 rfl hI ?_
  refine lexT 1 rfl hI (fun W hW => St.run_load hW 2 30 _ rfl Try.isAgg30 rfl rfl rfl) ?_
  refine lexS 3 rfl hI ?_
  refine lexT 4 rfl hI (fun W hW => St.run_load hW 2 31 _ rfl Try.isAgg31 rfl rfl rfl) ?_
  refine lexS 6 rfl hI ?_
  refine lexT 7 rfl hI (fun W hW => St.run_load hW 2 9 _ rfl Try.isAgg9 rfl rfl rfl) ?_
  clear hI
  refine lex_each [2, 9] (by decide +kernel) (by decide) ?_; intro i hi K hK; simp only [List.mem_cons, List.not_mem_nil, or_false] at hi; rcases hi with rfl | rfl <;> refine ⟨_, rfl, (by first | exact wanted_none rfl | exact wanted_some rfl rfl), ?_⟩
  ·refine wp_callee (f := 17) (by first | (go_simp; done) | (go_simp; rfl)) ?_
   refine (HL.out _ _ st).mono ?_
   rintro e v4 ⟨a4, k4, rfl, hb4, hO4⟩
   have hz4 := st.size
   refine ⟨_, rfl, ?_⟩
   replace st := st.call hb4
   clear hb4
   refine hK _ _ (st) ?_; clear hK; simp only [kP, kA, kS, kZ]
   refine lex_each [5, 9] (by decide +kernel) (by decide) ?_; intro i hi K hK; simp only [List.mem_cons, List.not_mem_nil, or_false] at hi; rcases hi with rfl | rfl <;> refine ⟨_, rfl, (by first | exact wanted_none rfl | exact wanted_some rfl rfl), ?_⟩
   ·refine wp_callee (f := 18) (by first | (go_simp; done) | (go_simp; rfl)) ?_
    refine (HN.out _ _ st).mono ?_
    rintro e v5 ⟨a5, k5, rfl, hb5, hO5⟩
    have hz5 := st.size
    refine ⟨_, rfl, ?_⟩
    replace st := st.call hb5
    replace hO4 := hO4.below hb5
    clear hb5
    have hI := st
    refine hK _ _ (hI) ?_; clear hK; simp only [kP, kA, kS, kZ]
    refine lexS 8 rfl hI ?_
    clear hI
    refine lexO 9 rfl fun K hK => ?_
    refine wp_alloc st 35 rfl _ Try.zeroValue35 _ rfl ?_; clear st; intro g6 w6 hg6 st hg6b; simp [Act.eval, Act.put, Value.cells, putL] at st
    replace hO4 := hO4.below hg6b
    replace hO5 := hO5.below hg6b
    clear hg6b
    refine hK _ _ (st.take 3) ?_; clear hK; simp only [kP, kA, kS, kZ]
    refine lexO 10 rfl fun K hK => ?_
    have hn : (g : Nat) ≠ g6 ∧ g1 ≠ g6 ∧ g2 ≠ g6 := by
     have := st.ne
     simp only [List.pairwise_cons, List.mem_cons, List.not_mem_nil, or_false, forall_eq_or_imp, forall_eq] at this
     exact ⟨this.1.2.2, this.2.1.2, this.2.2.1⟩
    have h6b := st.blk _ (mgE (i := 3) rfl)
    refine wp_store' st 35 _ _ rfl _ Try.sizeOf35 ⟨3, _, _, _, _, _, rfl, rfl, rfl, rfl, rfl, rfl, ?_⟩; clear st; intro w7 st hw7m hw7z; simp [Act.eval, Act.put, Value.cells, putL] at st
    replace hO4 := hO4.stored h6b (by simp) hw7m
    replace hO5 := hO5.stored h6b (by simp) hw7m
    clear h6b hw7m hw7z
    refine hK _ _ (st.take 3) ?_; clear hK; simp only [kP, kA, kS, kZ]
    refine lex_done (by decide +kernel) ?_
    go_wp2_with fail
    go_meet
    exact ⟨g6, a4, k4, a5, k5, rfl, st, (hO4.slrFS st (by simp)).okay fun b hb => ⟨by omega, hb.2.1, by simpa using hb.2.2.1, hb.2.2.2⟩, (hO5.slrFS st (by simp)).okay fun b hb => ⟨by omega, hb.2.1, by simpa using hb.2.2.1, hb.2.2.2⟩⟩
   ·refine wp_alloc st 35 rfl _ Try.zeroValue35 _ rfl ?_; clear st; intro g6 w6 hg6 st hg6b; simp [Act.eval, Act.put, Value.cells, putL] at st
    replace hO4 := hO4.below hg6b
    clear hg6b
    refine hK _ _ (st.take 3) ?_; clear hK; simp only [kP, kA, kS, kZ]
    refine lexO 5 rfl fun K hK => ?_
    refine wp_callee (f := 18) (by first | (go_simp; done) | (go_simp; rfl)) ?_
    refine (HN.out _ _ st).mono ?_
    rintro e v5 ⟨a5, k5, rfl, hb5, hO5⟩
    have hz5 := st.size
    refine ⟨_, rfl, ?_⟩
    replace st := st.call hb5
    replace hO4 := hO4.below hb5
    clear hb5
    have hI := st.take 3
    refine hK _ _ (hI) ?_; clear hK; simp only [kP, kA, kS, kZ]
    refine lexS 8 rfl hI ?_
    clear hI
    refine lexO 10 rfl fun K hK => ?_
    have hn : (g : Nat) ≠ g6 ∧ g1 ≠ g6 ∧ g2 ≠ g6 := by
     have := st.ne
     simp only [List.pairwise_cons, List.mem_cons, List.not_mem_nil, or_false, forall_eq_or_imp, forall_eq] at this
     exact ⟨this.1.2.2, this.2.1.2, this.2.2.1⟩
    have h6b := st.blk _ (mgE (i := 3) rfl)
    refine wp_store' st 35 _ _ rfl _ Try.sizeOf35 ⟨3, _, _, _, _, _, rfl, rfl, rfl, rfl, rfl, rfl, ?_⟩; clear st; intro w7 st hw7m hw7z; simp [Act.eval, Act.put, Value.cells, putL] at st
    replace hO4 := hO4.stored h6b (by simp) hw7m
    replace hO5 := hO5.stored h6b (by simp) hw7m
    clear h6b hw7m hw7z
    refine hK _ _ (st.take 3) ?_; clear hK; simp only [kP, kA, kS, kZ]
    refine lex_done (by decide +kernel) ?_
    go_wp2_with fail
    go_meet
    exact ⟨g6, a4, k4, a5, k5, rfl, st, (hO4.slrFS st (by simp)).okay fun b hb => ⟨by omega, hb.2.1, by simpa using hb.2.2.1, hb.2.2.2⟩, (hO5.slrFS st (by simp)).okay fun b hb => ⟨by omega, hb.2.1, by simpa using hb.2.2.1, hb.2.2.2⟩⟩
  ·refine wp_alloc st 35 rfl _ Try.zeroValue35 _ rfl ?_; clear st; intro g6 w6 hg6 st hg6b; simp [Act.eval, Act.put, Value.cells, putL] at st
   clear hg6b
   refine hK _ _ (st.take 3) ?_; clear hK; simp only [kP, kA, kS, kZ]
   refine lexO 2 rfl fun K hK => ?_
   refine wp_callee (f := 17) (by first | (go_simp; done) | (go_simp; rfl)) ?_
   refine (HL.out _ _ st).mono ?_
   rintro e v4 ⟨a4, k4, rfl, hb4, hO4⟩
   have hz4 := st.size
   refine ⟨_, rfl, ?_⟩
   replace st := st.call hb4
   clear hb4
   refine hK _ _ (st.take 3) ?_; clear hK; simp only [kP, kA, kS, kZ]
   refine lexO 5 rfl fun K hK => ?_
   refine wp_callee (f := 18) (by first | (go_simp; done) | (go_simp; rfl)) ?_
   refine (HN.out _ _ st).mono ?_
   rintro e v5 ⟨a5, k5, rfl, hb5, hO5⟩
   have hz5 := st.size
   refine ⟨_, rfl, ?_⟩
   replace st := st.call hb5
   replace hO4 := hO4.below hb5
   clear hb5
   have hI := st.take 3
   refine hK _ _ (hI) ?_; clear hK; simp only [kP, kA, kS, kZ]
   refine lexS 8 rfl hI ?_
   clear hI
   refine lexO 10 rfl fun K hK => ?_
   have hn : (g : Nat) ≠ g6 ∧ g1 ≠ g6 ∧ g2 ≠ g6 := by
    have := st.ne
    simp only [List.pairwise_cons, List.mem_cons, List.not_mem_nil, or_false, forall_eq_or_imp, forall_eq] at this
    exact ⟨this.1.2.2, this.2.1.2, this.2.2.1⟩
   have h6b := st.blk _ (mgE (i := 3) rfl)
   refine wp_store' st 35 _ _ rfl _ Try.sizeOf35 ⟨3, _, _, _, _, _, rfl, rfl, rfl, rfl, rfl, rfl, ?_⟩; clear st; intro w7 st hw7m hw7z; simp [Act.eval, Act.put, Value.cells, putL] at st
   replace hO4 := hO4.stored h6b (by simp) hw7m
   replace hO5 := hO5.stored h6b (by simp) hw7m
   clear h6b hw7m hw7z
   refine hK _ _ (st.take 3) ?_; clear hK; simp only [kP, kA, kS, kZ]
   refine lex_done (by decide +kernel) ?_
   go_wp2_with fail
   go_meet
   exact ⟨g6, a4, k4, a5, k5, rfl, st, (hO4.slrFS st (by simp)).okay fun b hb => ⟨by omega, hb.2.1, by simpa using hb.2.2.1, hb.2.2.2⟩, (hO5.slrFS st (by simp)).okay fun b hb => ⟨by omega, hb.2.1, by simpa using hb.2.2.1, hb.2.2.2⟩⟩
 case rest =>
  obtain ⟨g6, la, lc, na, nc, rfl, st, hRl, hRn⟩ := hcut
  have hwz := st.size
  have hwg : g < wc.heap.size ∧ g1 < wc.heap.size ∧ g2 < wc.heap.size ∧ g6 < wc.heap.size := ⟨st.ltAt (i := 0) rfl, st.ltAt (i := 1) rfl, st.ltAt (i := 2) rfl, st.ltAt (i := 3) rfl⟩
  have stK := st
  have st := st.rebase
  simp only [List.map_cons, List.map_nil] at st
  obtain ⟨i0, hi, hz0, hz1, hz2⟩ := info_parts info_Object
  go_wp2_with (first | go_skip | (with_reducible refine mX st Try.isAgg32 ?_))
  go_loopw [40] (fun v40 wr => ∃ (j : Nat) (o : Option Addr) (c : Nat), j ≤ x.objects.length ∧ v40 = .int .i64 j ∧ St [g, g1, g2, g6] wc wr [(g, 58, winC (preC k css n) [.slice xa x.label.length xc, .slice oa x.own.length oc, .string x.text, .slice (ba) x.objects.length bc, .slice (ma) x.mails.length mc] (postC k css n)), (g1, 35, [.slice none 0 0, .slice none 0 0, .string ⟨#[]⟩, .slice none 0 0, .slice none 0 0]), (g2, 35, [.slice xa x.label.length xc, .slice oa x.own.length oc, .string x.text, .slice (ba) x.objects.length bc, .slice (ma) x.mails.length mc]), (g6, 35, [.slice la x.label.length lc, .slice na x.own.length nc, .string x.text, .slice o j c, .slice none 0 0])] ∧ Own wc.heap.size 73 wr 2 (RObj (besF wc.heap.size o wr) wr) o c (x.objects.take j)) (fun v40 _ => x.objects.length - (intOf v40).toNat)
  case atStart => exact ⟨0, none, 0, Nat.zero_le _, rfl, st, Own.nil _ _ _ _ _⟩
  case round =>
   clear st
   obtain ⟨j, o, c, hj, rfl, st, hO⟩ := hrel
   by_cases hlt : j < x.objects.length
   ·have stW := St.back stK st
    obtain ⟨b, o1, la1, lc1, rfl, hbw, hb, hA, hC⟩ := (HO.out _ _ stW).obj_at j hlt
    have stR := st
    have st := st.rebase
    simp only [List.map_cons, List.map_nil] at st
    have HC := qh hC
    have h8 := HX.out _ (List.getElem_mem hlt)
    have HLv := qh (fun (W : World) (bl : Blks) (hW : St [g] w W bl) => kernel_levels (fun b => ok b ∧ b < w.heap.size) W la1 lc1 x.objects[j].label (by omega) (hA.keep (HKp.out W _ hW)))
    have hwr := stR.size
    have hd : decide ((j : Int) < x.objects.length) = true := by simp; omega
    clear hC
    go_wp2_with (first | go_skip | (with_reducible refine at_load 73 ?_; refine wpList_load_cells (wanted_none rfl) 73 _ rfl Try.isAgg73 _ Try.sizeOf73 b (o1 + j * 2) rfl [.slice la1 x.objects[j].label.length lc1, .string x.objects[j].text] rfl HC.out ?_) | (with_reducible refine mA st Try.zeroValue73 ?_; clear st; intro g8 w8 hg8 st) | (with_reducible refine mS 4 st Try.sizeOf73 ?_; clear st; intro w9 st hw9m hw9z))
    clear hw9m hw9z
    have st := st.drew
    have hI := St.back stR st
    refine lex_tail (by kernel_rfl) 11 1 [11] rfl (by decide +kernel) (fun W => St [g, g1, g2, g6] wc W [(g, 58, winC (preC k css n) [.slice xa x.label.length xc, .slice oa x.own.length oc, .string x.text, .slice (some ⟨b, o1, none⟩) x.objects.length bc, .slice (ma) x.mails.length mc] (postC k css n)), (g1, 35, [.slice none 0 0, .slice none 0 0, .string ⟨#[]⟩, .slice none 0 0, .slice none 0 0]), (g2, 35, [.slice xa x.label.length xc, .slice oa x.own.length oc, .string x.text, .slice (some ⟨b, o1, none⟩) x.objects.length bc, .slice (ma) x.mails.length mc]), (g6, 35, [.slice la x.label.length lc, .slice na x.own.length nc, .string x.text, .slice o j c, .slice none 0 0]), (g8, 73, [.slice la1 x.objects[j].label.length lc1, .string x.objects[j].text])]) ?_
    refine lexS 0 rfl hI ?_
    refine lexT 1 rfl hI (fun W hW => St.run_load hW 3 32 _ rfl Try.isAgg32 rfl rfl rfl) ?_
    refine lexS 2 rfl hI ?_
    refine lexT 3 rfl hI (fun W hW => St.run_load hW 4 30 _ rfl Try.isAgg30 rfl rfl rfl) ?_
    refine lexS 5 rfl hI ?_
    refine lexT 6 rfl hI (fun W hW => St.run_load hW 4 9 _ rfl Try.isAgg9 rfl rfl rfl) ?_
    clear hI
    refine lexO 4 rfl fun K hK => ?_
    refine wp_callee (f := 17) (by first | (go_simp; done) | (go_simp; rfl)) ?_
    have hz4 := st.size
    refine (HLv.out _ _ (St.back stK (St.back stR st))).mono ?_
    rintro e v4 ⟨a4, k4, rfl, hb4, hO4⟩
    refine ⟨_, rfl, ?_⟩
    replace st := st.call hb4
    clear hb4
    have hI := St.back stR st
    refine hK _ _ (hI) ?_; clear hK; simp only [kP, kA, kS, kZ]
    refine lexS 7 rfl hI ?_
    clear hI
    refine lexO 8 rfl fun K hK => ?_
    refine wp_build1 st 32 73 _ rfl Try.underlying32 2 Try.sizeOf73 (by decide) (by decide) _ Try.zeroValue73 _ rfl rfl ?_; clear st; intro g10 w10 hg10 hg10e st hg10b hw10z; clear hg10e; simp [Act.eval, Act.put, Value.cells, putL] at st
    replace hO4 := hO4.below hg10b
    clear hg10b hw10z
    have hz10 := st.size
    have hBw : Below wr.heap.size wr w10 := stR.below2 st (by simp)
    have stD := St.back stR st
    clear st
    have st := stD
    clear stD
    refine hK _ _ (st.take 5) ?_; clear hK; simp only [kP, kA, kS, kZ]
    refine lexO 9 rfl fun K hK => ?_
    have hOw : Own wc.heap.size 73 w10 2 (RObj (besF wc.heap.size o w10) w10) o c (x.objects.take j) := (hO.below hBw).mono fun _ _ r => r.move hBw.size fun b hb ho => ⟨⟨ho.1, ho.2.at (hBw.block b hb)⟩, hBw.block b hb⟩
    refine wp_app1 _ _ 32 rfl 73 i0 _ 2 40 Try.underlying32 hi hz0 hz1 hz2 rfl (by decide) (y := x.objects[j]) rfl (by simp; omega) hOw rfl (SlR.ofBlk (ok := fun _ => True) (st.blk _ (mgE (i := 5) rfl)) ⟨a4, k4, rfl, hO4.slrF.okay fun b hb => ⟨⟨by omega, fun e => by have := (hO.blockLt _ e).2; omega⟩, hb.2⟩⟩ rfl rfl trivial) (by simp; omega) (by simp [maxLen]; omega) (by omega) ?_
    intro g11 c11 w11 hO11 hgr hat hlt11
    replace st := (st.take 5).grownNew hgr (fun k hk => (hOw.blockLt k hk).1) (by
     intro y hy e
     have := (hOw.blockLt _ e).1
     simp only [List.take_succ_cons, List.take_zero, List.mem_cons, List.not_mem_nil, or_false] at hy
     rcases hy with rfl | rfl | rfl | rfl | rfl
     ·simp only at this; omega
     ·simp only at this; omega
     ·simp only at this; omega
     ·simp only at this; omega
     ·have h2 := (hO.blockLt _ e).2
      simp only at h2; omega)
    simp only [List.take_succ_cons, List.take_zero] at st
    replace hO11 : Own wc.heap.size 73 w11 2 (RObj (besF wc.heap.size (some ⟨g11, 0, none⟩) w11) w11) (some ⟨g11, 0, none⟩) c11 (x.objects.take (j + 1)) := by
     rw [List.take_succ_eq_append_getElem hlt]
     exact hO11.mono fun _ _ r => r.move hgr.size fun b hb ho => ⟨⟨⟨ho.1.1, fun e => by
      simp only [Option.map_some, Option.some.injEq] at e
      subst e
      rcases hat with hat | hat
      ·exact ho.1.2 hat
      ·omega⟩, ho.2.at (hgr.block b hb fun e => ho.1.2 e.symm)⟩, hgr.block b hb fun e => ho.1.2 e.symm⟩
    clear hOw hO4 hO hgr hat
    have hI := st
    refine hK _ _ (hI) ?_; clear hK; simp only [kP, kA, kS, kZ]
    refine lexS 10 rfl hI ?_
    clear hI
    refine lex_done (by decide +kernel) ?_
    refine tail_last 11 rfl (by first | exact wanted_none rfl | exact wanted_some rfl rfl) (by decide +kernel) (by decide +kernel) fun K hK => ?_
    have h6b := st.blk _ (mgE (i := 3) rfl)
    refine wp_store' st 32 _ _ rfl _ Try.sizeOf32 ⟨3, _, _, _, _, _, rfl, rfl, rfl, rfl, rfl, rfl, ?_⟩; clear st; intro w12 st hw12m hw12z; simp [Act.eval, Act.put, Value.cells, putL] at st
    replace hO11 := (hO11.stored h6b (by simp) hw12m).mono fun _ _ r => r.move (w' := w12) (by omega) fun b hb ho => (⟨⟨ho.1, ho.2.at (hw12m b (by have := ho.1.1; omega))⟩, hw12m b (by have := ho.1.1; omega)⟩ : (besF wc.heap.size (some ⟨g11, 0, none⟩) w12) b ∧ _)
    refine hK _ _ ?_; clear hK
    go_wp2
    go_roundw
    case rel => exact ⟨j + 1, some ⟨g11, 0, none⟩, c11, hlt, by go_num, st.sub (by simp) (by simpa [List.pairwise_cons] using stK.ne), hO11⟩
    case measure => simp [intOf]; omega
   ·obtain ⟨wm, rfl⟩ : ∃ W, W = wr := ⟨_, rfl⟩
    obtain rfl : j = x.objects.length := by omega
    have hd : decide ((x.objects.length : Int) < x.objects.length) = false := by simp
    have stW := St.back stK st
    rw [List.take_of_length_le (Nat.le_refl _)] at hO
    have hS := hO.slrFS st (by simp)
    have hzr := st.size
    have hRo : SlR (fun b => w.heap.size ≤ b ∧ b < wm.heap.size ∧ b ∉ [g, g1, g2, g6] ∧ FreeB wm b) wm 2 (RObj (fun b => w.heap.size ≤ b ∧ b < wm.heap.size ∧ b ∉ [g, g1, g2, g6] ∧ FreeB wm b) wm) o c x.objects :=
     hS.okayR (fun b hb => ⟨by omega, hb.2.1, by simpa using hb.2.2.1, hb.2.2.2⟩) fun _ _ r => r.move (Nat.le_refl _) fun b hb ho => ⟨⟨by have := ho.1.1; omega, hb, by have := ho.1.1; simp; omega, ho.2⟩, rfl⟩
    have st1 := st
    have st := st.rebase
    simp only [List.map_cons, List.map_nil] at st
    have hwg2 : g < wm.heap.size ∧ g1 < wm.heap.size ∧ g2 < wm.heap.size ∧ g6 < wm.heap.size := by omega
    clear hO hS hz0 hz1 hz2 hi i0
    obtain ⟨i0, hi, hz0, hz1, hz2⟩ := info_parts info_Mail
    go_wp2_with (first | go_skip | (with_reducible refine mX st Try.isAgg33 ?_))
    go_loopw [59] (fun v59 wt => ∃ (j : Nat) (p : Option Addr) (d : Nat), j ≤ x.mails.length ∧ v59 = .int .i64 j ∧ St [g, g1, g2, g6] wm wt [(g, 58, winC (preC k css n) [.slice xa x.label.length xc, .slice oa x.own.length oc, .string x.text, .slice (ba) x.objects.length bc, .slice (ma) x.mails.length mc] (postC k css n)), (g1, 35, [.slice none 0 0, .slice none 0 0, .string ⟨#[]⟩, .slice none 0 0, .slice none 0 0]), (g2, 35, [.slice xa x.label.length xc, .slice oa x.own.length oc, .string x.text, .slice (ba) x.objects.length bc, .slice (ma) x.mails.length mc]), (g6, 35, [.slice la x.label.length lc, .slice na x.own.length nc, .string x.text, .slice o x.objects.length c, .slice p j d])] ∧ Own wm.heap.size 42 wt 5 (RMail (besF wm.heap.size p wt) wt) p d (x.mails.take j)) (fun v59 _ => x.mails.length - (intOf v59).toNat)
    case atStart => exact ⟨0, none, 0, Nat.zero_le _, rfl, st, Own.nil _ _ _ _ _⟩
    case round =>
     clear st
     obtain ⟨j, p, d, hj, rfl, st, hO⟩ := hrel
     by_cases hlt : j < x.mails.length
     ·have stW2 := St.back stW st
      obtain ⟨b, o1, la1, lc1, ga1, gc1, rfl, hbw, hb, hA, hA2, hC⟩ := (HM.out _ _ stW2).mail_at j hlt
      have stR := st
      have st := st.rebase
      simp only [List.map_cons, List.map_nil] at st
      have HC := qh hC
      have h8 := HY.out _ (List.getElem_mem hlt)
      have HLv := qh (fun (W : World) (bl : Blks) (hW : St [g] w W bl) => kernel_mailF (fun b => ok b ∧ b < w.heap.size) W x.mails[j] la1 lc1 ga1 gc1 (by omega) (by omega) ⟨hA.keep (HKp.out W _ hW), hA2.keep (HKp.out W _ hW)⟩)
      have hwt := stR.size
      have hd : decide ((j : Int) < x.mails.length) = true := by simp; omega
      clear hC
      go_wp2_with (first | go_skip | (with_reducible refine at_load 42 ?_; refine wpList_load_cells (wanted_none rfl) 42 _ rfl Try.isAgg42 _ Try.sizeOf42 b (o1 + j * 5) rfl [.int .i64 x.mails[j].host, .int .i64 x.mails[j].thread, .slice la1 x.mails[j].label.length lc1, .slice ga1 x.mails[j].grants.length gc1, .string x.mails[j].text] rfl HC.out ?_) | (with_reducible refine mA st Try.zeroValue42 ?_; clear st; intro g8 w8 hg8 st) | (with_reducible refine mS 4 st Try.sizeOf42 ?_; clear st; intro w9 st hw9m hw9z))
      clear hw9m hw9z
      have st := st.drew
      have hI := St.back stR st
      refine lex_tail (by kernel_rfl) 7 1 [7] rfl (by decide +kernel) (fun W => St [g, g1, g2, g6] wm W [(g, 58, winC (preC k css n) [.slice xa x.label.length xc, .slice oa x.own.length oc, .string x.text, .slice (ba) x.objects.length bc, .slice (some ⟨b, o1, none⟩) x.mails.length mc] (postC k css n)), (g1, 35, [.slice none 0 0, .slice none 0 0, .string ⟨#[]⟩, .slice none 0 0, .slice none 0 0]), (g2, 35, [.slice xa x.label.length xc, .slice oa x.own.length oc, .string x.text, .slice (ba) x.objects.length bc, .slice (some ⟨b, o1, none⟩) x.mails.length mc]), (g6, 35, [.slice la x.label.length lc, .slice na x.own.length nc, .string x.text, .slice o x.objects.length c, .slice p j d]), (g8, 42, [.int .i64 x.mails[j].host, .int .i64 x.mails[j].thread, .slice la1 x.mails[j].label.length lc1, .slice ga1 x.mails[j].grants.length gc1, .string x.mails[j].text])]) ?_
      refine lexS 0 rfl hI ?_
      refine lexT 1 rfl hI (fun W hW => St.run_load hW 3 33 _ rfl Try.isAgg33 rfl rfl rfl) ?_
      refine lexT 2 rfl hI (fun W hW => St.run_load_agg hW 4 42 _ rfl Try.isAgg42 _ Try.sizeOf42 rfl rfl rfl rfl) ?_
      clear hI
      refine lexO 3 rfl fun K hK => ?_
      refine wp_callee (f := 31) (by first | (go_simp; done) | (go_simp; rfl)) ?_
      have hz4 := st.size
      refine (HLv.out _ _ (St.back stW (St.back stR st))).mono ?_
      rintro e v4 ⟨a4, k4, a5, k5, rfl, hb4, hO4⟩
      refine ⟨_, rfl, ?_⟩
      replace st := st.call hb4
      clear hb4
      have hI := St.back stR st
      refine hK _ _ (hI) ?_; clear hK; simp only [kP, kA, kS, kZ]
      clear hI
      refine lexO 4 rfl fun K hK => ?_
      refine wp_build1 st 33 42 _ rfl Try.underlying33 5 Try.sizeOf42 (by decide) (by decide) _ Try.zeroValue42 _ rfl rfl ?_; clear st; intro g10 w10 hg10 hg10e st hg10b hw10z; clear hg10e; simp [Act.eval, Act.put, Value.cells, putL] at st
      replace hO4 := hO4.keepF hg10b
      clear hg10b hw10z
      have hz10 := st.size
      have hBw : Below wr.heap.size wr w10 := stR.below2 st (by simp)
      have stD := St.back stR st
      clear st
      have st := stD
      clear stD
      refine hK _ _ (st.take 5) ?_; clear hK; simp only [kP, kA, kS, kZ]
      refine lexO 5 rfl fun K hK => ?_
      have hOw : Own wm.heap.size 42 w10 5 (RMail (besF wm.heap.size p w10) w10) p d (x.mails.take j) := (hO.below hBw).mono fun _ _ r => r.move hBw.size fun b hb ho => ⟨⟨ho.1, ho.2.at (hBw.block b hb)⟩, hBw.block b hb⟩
      have hne : ∀ b, w9.drew.heap.size ≤ b ∧ FreeB w10 b → besF wm.heap.size p w10 b := fun b hb => ⟨⟨by omega, fun e => by have := (hO.blockLt _ e).2; omega⟩, hb.2⟩
      refine wp_app1 _ _ 33 rfl 42 i0 _ 5 80 Try.underlying33 hi hz0 hz1 hz2 rfl (by decide) (y := x.mails[j]) rfl (by simp; omega) hOw rfl (SlR.ofBlk (ok := fun _ => True) (st.blk _ (mgE (i := 5) rfl)) ⟨a4, k4, a5, k5, rfl, hO4.label.okay hne, hO4.grants.okay hne⟩ rfl rfl trivial) (by simp; omega) (by simp [maxLen]; omega) (by omega) ?_
      intro g11 c11 w11 hO11 hgr hat hlt11
      replace st := (st.take 5).grownNew hgr (fun k hk => (hOw.blockLt k hk).1) (by
       intro y hy e
       have := (hOw.blockLt _ e).1
       simp only [List.take_succ_cons, List.take_zero, List.mem_cons, List.not_mem_nil, or_false] at hy
       rcases hy with rfl | rfl | rfl | rfl | rfl
       ·simp only at this; omega
       ·simp only at this; omega
       ·simp only at this; omega
       ·simp only at this; omega
       ·have h2 := (hO.blockLt _ e).2
        simp only at h2; omega)
      simp only [List.take_succ_cons, List.take_zero] at st
      replace hO11 : Own wm.heap.size 42 w11 5 (RMail (besF wm.heap.size (some ⟨g11, 0, none⟩) w11) w11) (some ⟨g11, 0, none⟩) c11 (x.mails.take (j + 1)) := by
       rw [List.take_succ_eq_append_getElem hlt]
       exact hO11.mono fun _ _ r => r.move hgr.size fun b hb ho => ⟨⟨⟨ho.1.1, fun e => by
        simp only [Option.map_some, Option.some.injEq] at e
        subst e
        rcases hat with hat | hat
        ·exact ho.1.2 hat
        ·omega⟩, ho.2.at (hgr.block b hb fun e => ho.1.2 e.symm)⟩, hgr.block b hb fun e => ho.1.2 e.symm⟩
      clear hOw hO4 hO hgr hat hne
      have hI := st
      refine hK _ _ (hI) ?_; clear hK; simp only [kP, kA, kS, kZ]
      refine lexS 6 rfl hI ?_
      clear hI
      refine lex_done (by decide +kernel) ?_
      refine tail_last 7 rfl (by first | exact wanted_none rfl | exact wanted_some rfl rfl) (by decide +kernel) (by decide +kernel) fun K hK => ?_
      have h6b := st.blk _ (mgE (i := 3) rfl)
      refine wp_store' st 33 _ _ rfl _ Try.sizeOf33 ⟨3, _, _, _, _, _, rfl, rfl, rfl, rfl, rfl, rfl, ?_⟩; clear st; intro w12 st hw12m hw12z; simp [Act.eval, Act.put, Value.cells, putL] at st
      replace hO11 := (hO11.stored h6b (by simp) hw12m).mono fun _ _ r => r.move (w' := w12) (by omega) fun b hb ho => (⟨⟨ho.1, ho.2.at (hw12m b (by have := ho.1.1; omega))⟩, hw12m b (by have := ho.1.1; omega)⟩ : (besF wm.heap.size (some ⟨g11, 0, none⟩) w12) b ∧ _)
      refine hK _ _ ?_; clear hK
      go_wp2
      go_roundw
      case rel => exact ⟨j + 1, some ⟨g11, 0, none⟩, c11, hlt, by go_num, st.sub (by simp) (by simpa [List.pairwise_cons] using stK.ne), hO11⟩
      case measure => simp [intOf]; omega
     ·obtain rfl : j = x.mails.length := by omega
      have hd : decide ((x.mails.length : Int) < x.mails.length) = false := by simp
      rw [List.take_of_length_le (Nat.le_refl _)] at hO
      have hS2 := hO.slrFS st (by simp)
      have hzt := st.size
      have hne := stK.ne
      simp only [List.pairwise_cons, List.mem_cons, List.not_mem_nil, or_false, forall_eq_or_imp, forall_eq] at hne
      have hRm : SlR (fun b => w.heap.size ≤ b ∧ b < wr.heap.size ∧ b ∉ [g, g1, g2, g6] ∧ FreeB wr b) wr 5 (RMail (fun b => w.heap.size ≤ b ∧ b < wr.heap.size ∧ b ∉ [g, g1, g2, g6] ∧ FreeB wr b) wr) p d x.mails :=
       hS2.okayR (fun b hb => ⟨by omega, hb.2.1, by simpa using hb.2.2.1, hb.2.2.2⟩) fun _ _ r => r.move (Nat.le_refl _) fun b hb ho => ⟨⟨by have := ho.1.1; omega, hb, by have := ho.1.1; simp; omega, ho.2⟩, rfl⟩
      have hk1 : ∀ b, b < wc.heap.size → b ∉ [g, g1, g2, g6] → wr.heap[b]? = wc.heap[b]? := fun b hb hn => (st.frame b (by have := st1.size; omega) hn).trans (st1.frame b hb hn)
      have hk2 : ∀ b, b < wm.heap.size → b ∉ [g, g1, g2, g6] → wr.heap[b]? = wm.heap[b]? := fun b hb hn => st.frame b hb hn
      have hz1 := st1.size
      have hT1 : ThrS (fun b => w.heap.size ≤ b ∧ b < wr.heap.size ∧ b ∉ [g, g1, g2, g6] ∧ FreeB wr b) wr x la lc na nc o c p d :=
       ⟨hRl.move (by omega) (fun b hb ho => ⟨⟨ho.1, by omega, ho.2.2.1, ho.2.2.2.at (hk1 b hb ho.2.2.1)⟩, hk1 b hb ho.2.2.1⟩) fun _ _ r => r, hRn.move (by omega) (fun b hb ho => ⟨⟨ho.1, by omega, ho.2.2.1, ho.2.2.2.at (hk1 b hb ho.2.2.1)⟩, hk1 b hb ho.2.2.1⟩) fun _ _ r => r,
        hRo.move (by omega) (fun b hb ho => ⟨⟨ho.1, by omega, ho.2.2.1, ho.2.2.2.at (hk2 b hb ho.2.2.1)⟩, hk2 b hb ho.2.2.1⟩) fun _ _ r => r.move (by omega) fun b hb ho => ⟨⟨ho.1, by omega, ho.2.2.1, ho.2.2.2.at (hk2 b hb ho.2.2.1)⟩, hk2 b hb ho.2.2.1⟩, hRm⟩
      have stF := St.back stW st
      clear hS2 hO st hRl hRn hRo hRm hk1 hk2
      have st := stF
      clear stF
      have HT1 := qh hT1
      go_wp2_with (first | go_skip | (with_reducible refine mXA st Try.isAgg35 Try.sizeOf35 ?_) | (with_reducible refine mS 1 st Try.sizeOf35 ?_; clear st; intro w13 st hw13m hw13z))
      have hc := fun j => st.cell (i := 1) rfl j
      refine bodyPost_ret (v := thrV x la lc na nc o c p d) ?hr rfl ⟨la, lc, na, nc, o, c, p, d, rfl, HB.out _ _ st (by simp), HT1.out.move (by omega) fun b hb ho => ⟨⟨ho.1, ho.2.2.2.at (hw13m b fun e => ho.2.2.1 (by simp [e]))⟩, hw13m b fun e => ho.2.2.1 (by simp [e])⟩⟩
      case hr => simp [results, Try.results16, go_sem, hc, thrV, putL]; try rfl
theorem ThreadPostF.plain {w : World} {x : Thr} {e : Ending} {w' : World} (h : ThreadPostF w x e w') : ThreadPost w x e w' := by
 obtain ⟨la, lc, oa, oc, ba, bc, ma, mc, e1, h1, h2⟩ := h
 exact ⟨la, lc, oa, oc, ba, bc, ma, mc, e1, h1, h2.move (Nat.le_refl _) fun b _ ho => ⟨ho.1, rfl⟩⟩
theorem kernel_Thread (ok : Nat → Prop) (w : World) (g : Nat) (k : Ker) (css : List (List Value)) (Bs : List (List Nat)) (h : KerAt ok w g k css Bs) (hk : ∀ x ∈ k.threads, x.ok) (t : Int) :
  Calls Try.prog 16 #[.pointer (some ⟨g, 0, none⟩), .int .i64 t] w (ThreadPost w (thrOf k t)) :=
 (kernel_ThreadF ok w g k css Bs h hk t).mono fun _ _ h => h.plain
def LetPost (w : World) (r : Mail × Int) (e : Ending) (w' : World) : Prop :=
 ∃ la lc ga gc, e = .returned (.tuple #[mailV r.1 la lc ga gc, .int .i64 r.2]) ∧ Below w.heap.size w w' ∧ MailR (fun b => w.heap.size ≤ b) w' r.1 la lc ga gc
theorem kernel_Letter_out (w : World) (g : Nat) (t : Int) (c : Req) (la : Option Addr) (lc : Nat) (ga : Option Addr) (gc : Nat) (h4 : four t = false) :
  Calls Try.prog 6 #[.pointer (some ⟨g, 0, none⟩), .int .i64 t, reqV c la lc ga gc] w (LetPost w (zeroM, 4)) := by
 have st := St.start w
 unfold reqV
 rcases four_no h4 with d | ⟨d0, d⟩
 all_goals
  clear h4
  go_enter Try.func6, Try.ntmps6
  go_wp2_with (first | go_skip | (with_reducible refine mB 40 st ?_; clear st; intro g5 w5 hg5 st) | (with_reducible refine mA st Try.zeroValue42 ?_; clear st; intro g6 w6 hg6 st) | (with_reducible refine mS 1 st Try.sizeOf42 ?_; clear st; intro w7 st hw7m hw7z))
  have hc := fun j => st.cell (i := 1) rfl j
  refine bodyPost_ret (v := .tuple #[mailV zeroM none 0 none 0, .int .i64 4]) ?hr rfl ⟨none, 0, none, 0, rfl, st.below, ⟨SlR.nil .., SlR.nil ..⟩⟩
  case hr => simp [results, Try.results6, go_sem, hc, mailV, zeroM]; try rfl
theorem kernel_Letter (ok okc : Nat → Prop) (w : World) (g : Nat) (k : Ker) (css : List (List Value)) (Bs : List (List Nat)) (h : KerAt ok w g k css Bs) (hk : ∀ x ∈ k.threads, x.ok) (t : Int) (c : Req) (la : Option Addr) (lc : Nat) (ga : Option Addr) (gc : Nat)
  (hll : c.label.length * 16 ≤ 140737488351232) (hgl : c.grants.length * 8 ≤ 140737488351232) (hct : c.text.size ≤ 140737488351232) (hcl : SlR okc w 2 RLev la lc c.label) (hcg : SlR okc w 1 RInt ga gc c.grants) :
  Calls Try.prog 6 #[.pointer (some ⟨g, 0, none⟩), .int .i64 t, reqV c la lc ga gc] w (LetPost w (letterK k t c)) := by
 by_cases h4 : four t = true
 case neg =>
  have h4 : four t = false := by simpa using h4
  unfold letterK
  rw [if_pos h4]
  exact kernel_Letter_out w g t c la lc ga gc h4
 have HE := qh (show letterK k t c = if goodMailC (letterM k t c) ≠ 0 then (zeroM, goodMailC (letterM k t c)) else if ¬ (∀ g ∈ c.grants, g ∈ (k.thr t).own) then (zeroM, 7) else if flowsL (k.thr t).label c.label (k.thr t).own = false then (zeroM, 6) else (letterM k t c, 0) by unfold letterK; rw [if_neg (by simp [h4])])
 obtain ⟨n, rfl, hn⟩ := four_nat h4
 obtain ⟨x, xa, xc, oa, oc, ba, bc, ma, mc, ex, ec, eB, hT, hb⟩ := h.open hn
 have hx := hk x (mgE ex)
 have hpre := h.preLen hn
 have HX := qh (show (k.thr n) = x from Ker.thr_at ex)
 rw [HX.out] at HE
 replace HE := HE.out
 have st0 := St.hand hb
 unfold thrC at st0 hb
 have d1 : decide ((n : Int) < 0) = false := by simp
 have d2 : decide ((4 : Int) ≤ n) = false := by simp; omega
 have hgw := h.lt g (by simp)
 have hxl := goodL_len hx.good; have hxo := hx.ownL; have hxt := hx.text
 have HB := qh (show ∀ (W : World) (bl : Blks), St [g] w W bl → (g, 58, winC (preC k css n) [.slice xa x.label.length xc, .slice oa x.own.length oc, .string x.text, .slice ba x.objects.length bc, .slice ma x.mails.length mc] (postC k css n)) ∈ bl → Below w.heap.size w W from fun W bl s hm => st0.below2 s (by simpa using hm))
 have HL := qh (fun (W : World) (bl : Blks) (hW : St [g] w W bl) (hm : (g, 58, winC (preC k css n) [.slice xa x.label.length xc, .slice oa x.own.length oc, .string x.text, .slice ba x.objects.length bc, .slice ma x.mails.length mc] (postC k css n)) ∈ bl) => kernel_levels okc W la lc c.label (by omega) (hcl.below (HB.out W _ hW hm)))
 have HN := qh (fun (W : World) (bl : Blks) (hW : St [g] w W bl) (hm : (g, 58, winC (preC k css n) [.slice xa x.label.length xc, .slice oa x.own.length oc, .string x.text, .slice ba x.objects.length bc, .slice ma x.mails.length mc] (postC k css n)) ∈ bl) => kernel_numbers okc W ga gc c.grants (by omega) (hcg.below (HB.out W _ hW hm)))
 have HF := qh (fun (W : World) (bl : Blks) (hW : St [g] w W bl) (hm : (g, 58, winC (preC k css n) [.slice xa x.label.length xc, .slice oa x.own.length oc, .string x.text, .slice ba x.objects.length bc, .slice ma x.mails.length mc] (postC k css n)) ∈ bl) => And.intro (hT.label.below (HB.out W _ hW hm)) (hT.own.below (HB.out W _ hW hm)))
 have st := st0
 have HS0 := qh st0
 clear st0 hb hT h ex ec eB hx hk h4
 unfold reqV
 go_enter Try.func6, Try.ntmps6
 go_upto_region 4 with (first | go_skip | (with_reducible refine mB 40 st ?_; clear st; intro g5 w5 hg5 st) | (with_reducible refine mA st Try.zeroValue42 ?_; clear st; intro g6 w6 hg6 st))
 try simp only [kP, kA, kS, kZ]
 go_cut [9] (fun s9 wx => ∃ (g9 : Nat) (a4 : Option Addr) (k4 : Nat) (a5 : Option Addr) (k5 : Nat), s9 = .pointer (some ⟨g9, 0, none⟩) ∧ St [g] w wx [(g, 58, winC (preC k css n) [.slice xa x.label.length xc, .slice oa x.own.length oc, .string x.text, .slice ba x.objects.length bc, .slice ma x.mails.length mc] (postC k css n)), (g5, 40, [.int .i64 c.kind, .int .i64 c.h, .int .i64 c.t, .int .i64 c.n, .int .i64 c.c, .slice la c.label.length lc, .slice ga c.grants.length gc, .string c.text]), (g6, 42, [.int .i64 0, .int .i64 0, .slice none 0 0, .slice none 0 0, .string ⟨#[]⟩]), (g9, 42, [.int .i64 k.host, .int .i64 n, .slice a4 c.label.length k4, .slice a5 c.grants.length k5, .string (x.text ++ c.text)])] ∧ SlR (fun b => w.heap.size ≤ b ∧ b < wx.heap.size ∧ b ∉ [g, g5, g6, g9]) wx 2 RLev a4 k4 c.label ∧ SlR (fun b => w.heap.size ≤ b ∧ b < wx.heap.size ∧ b ∉ [g, g5, g6, g9]) wx 1 RInt a5 k5 c.grants)
 case first =>
  have st := st.drew
  have hI := st
  refine lex_region (by kernel_rfl) 21 rfl (fun W => St [g] w W [(g, 58, winC (preC k css n) [.slice xa x.label.length xc, .slice oa x.own.length oc, .string x.text, .slice ba x.objects.length bc, .slice ma x.mails.length mc] (postC k css n)), (g5, 40, [.int .i64 c.kind, .int .i64 c.h, .int .i64 c.t, .int .i64 c.n, .int .i64 c.c, .slice la c.label.length lc, .slice ga c.grants.length gc, .string c.text]), (g6, 42, [.int .i64 0, .int .i64 0, .slice none 0 0, .slice none 0 0, .string ⟨#[]⟩])]) ?_
  refine lexS 0 rfl hI ?_
  refine lexS 1 rfl hI ?_
  refine lexS 2 rfl hI ?_
  refine lexT 3 rfl hI (fun W hW => St.run_load hW 0 3 _ rfl Try.isAgg3 rfl rfl rfl) ?_
  refine lexS 4 rfl hI ?_
  refine lexS 5 rfl hI ?_
  refine lexT 6 rfl hI (fun W hW => St.run_load hW 1 30 _ rfl Try.isAgg30 rfl rfl rfl) ?_
  refine lexS 8 rfl hI ?_
  refine lexT 9 rfl hI (fun W hW => St.run_load hW 1 31 _ rfl Try.isAgg31 rfl rfl rfl) ?_
  refine lexS 11 rfl hI ?_
  refine lexS 12 rfl hI ?_
  refine lexS 13 rfl hI ?_
  refine lexT 14 rfl hI (fun W hW => St.run_loadW hW 0 9 _ rfl Try.isAgg9 2 hpre rfl rfl rfl) ?_
  refine lexS 15 rfl hI ?_
  refine lexT 16 rfl hI (fun W hW => St.run_load hW 1 9 _ rfl Try.isAgg9 rfl rfl rfl) ?_
  refine lexT (v := .string (x.text ++ c.text)) 17 rfl hI (fun W hW => by (go_simp; first | done | omega)) ?_
  clear hI
  refine lex_each [7, 19] (by decide +kernel) (by decide) ?_; intro i hi K hK; simp only [List.mem_cons, List.not_mem_nil, or_false] at hi; rcases hi with rfl | rfl <;> refine ⟨_, rfl, (by first | exact wanted_none rfl | exact wanted_some rfl rfl), ?_⟩
  ·refine wp_callee (f := 17) (by first | (go_simp; done) | (go_simp; rfl)) ?_
   refine (HL.out _ _ st (by simp)).mono ?_
   rintro e v4 ⟨a4, k4, rfl, hb4, hO4⟩
   have hz4 := st.size
   refine ⟨_, rfl, ?_⟩
   replace st := st.call hb4
   clear hb4
   refine hK _ _ (st) ?_; clear hK; simp only [kP, kA, kS, kZ]
   refine lex_each [10, 19] (by decide +kernel) (by decide) ?_; intro i hi K hK; simp only [List.mem_cons, List.not_mem_nil, or_false] at hi; rcases hi with rfl | rfl <;> refine ⟨_, rfl, (by first | exact wanted_none rfl | exact wanted_some rfl rfl), ?_⟩
   ·refine wp_callee (f := 18) (by first | (go_simp; done) | (go_simp; rfl)) ?_
    refine (HN.out _ _ st (by simp)).mono ?_
    rintro e v5 ⟨a5, k5, rfl, hb5, hO5⟩
    have hz5 := st.size
    refine ⟨_, rfl, ?_⟩
    replace st := st.call hb5
    replace hO4 := hO4.below hb5
    clear hb5
    have hI := st
    refine hK _ _ (hI) ?_; clear hK; simp only [kP, kA, kS, kZ]
    refine lexS 18 rfl hI ?_
    clear hI
    refine lexO 19 rfl fun K hK => ?_
    refine wp_alloc st 42 rfl _ Try.zeroValue42 _ rfl ?_; clear st; intro g9 w9 hg9 st hg9b; simp [Act.eval, Act.put, Value.cells, putL] at st
    replace hO4 := hO4.below hg9b
    replace hO5 := hO5.below hg9b
    clear hg9b
    refine hK _ _ (st.take 3) ?_; clear hK; simp only [kP, kA, kS, kZ]
    refine lexO 20 rfl fun K hK => ?_
    have h9b := st.blk _ (mgE (i := 3) rfl)
    refine wp_store' st 42 _ _ rfl _ Try.sizeOf42 ⟨3, _, _, _, _, _, rfl, rfl, rfl, rfl, rfl, rfl, ?_⟩; clear st; intro w7 st hw7m hw7z; simp [Act.eval, Act.put, Value.cells, putL] at st
    replace hO4 := hO4.stored h9b (by simp) hw7m
    replace hO5 := hO5.stored h9b (by simp) hw7m
    clear h9b hw7m hw7z
    refine hK _ _ (st.take 3) ?_; clear hK; simp only [kP, kA, kS, kZ]
    refine lex_done (by decide +kernel) ?_
    go_wp2_with fail
    go_meet
    exact ⟨g9, a4, k4, a5, k5, rfl, st, (hO4.slrS st (by simp)).okay fun b hb => ⟨by omega, hb.2.1, by simpa using hb.2.2⟩, (hO5.slrS st (by simp)).okay fun b hb => ⟨by omega, hb.2.1, by simpa using hb.2.2⟩⟩
   ·refine wp_alloc st 42 rfl _ Try.zeroValue42 _ rfl ?_; clear st; intro g9 w9 hg9 st hg9b; simp [Act.eval, Act.put, Value.cells, putL] at st
    replace hO4 := hO4.below hg9b
    clear hg9b
    refine hK _ _ (st.take 3) ?_; clear hK; simp only [kP, kA, kS, kZ]
    refine lexO 10 rfl fun K hK => ?_
    refine wp_callee (f := 18) (by first | (go_simp; done) | (go_simp; rfl)) ?_
    refine (HN.out _ _ st (by simp)).mono ?_
    rintro e v5 ⟨a5, k5, rfl, hb5, hO5⟩
    have hz5 := st.size
    refine ⟨_, rfl, ?_⟩
    replace st := st.call hb5
    replace hO4 := hO4.below hb5
    clear hb5
    have hI := st.take 3
    refine hK _ _ (hI) ?_; clear hK; simp only [kP, kA, kS, kZ]
    refine lexS 18 rfl hI ?_
    clear hI
    refine lexO 20 rfl fun K hK => ?_
    have h9b := st.blk _ (mgE (i := 3) rfl)
    refine wp_store' st 42 _ _ rfl _ Try.sizeOf42 ⟨3, _, _, _, _, _, rfl, rfl, rfl, rfl, rfl, rfl, ?_⟩; clear st; intro w7 st hw7m hw7z; simp [Act.eval, Act.put, Value.cells, putL] at st
    replace hO4 := hO4.stored h9b (by simp) hw7m
    replace hO5 := hO5.stored h9b (by simp) hw7m
    clear h9b hw7m hw7z
    refine hK _ _ (st.take 3) ?_; clear hK; simp only [kP, kA, kS, kZ]
    refine lex_done (by decide +kernel) ?_
    go_wp2_with fail
    go_meet
    exact ⟨g9, a4, k4, a5, k5, rfl, st, (hO4.slrS st (by simp)).okay fun b hb => ⟨by omega, hb.2.1, by simpa using hb.2.2⟩, (hO5.slrS st (by simp)).okay fun b hb => ⟨by omega, hb.2.1, by simpa using hb.2.2⟩⟩
  ·refine wp_alloc st 42 rfl _ Try.zeroValue42 _ rfl ?_; clear st; intro g9 w9 hg9 st hg9b; simp [Act.eval, Act.put, Value.cells, putL] at st
   clear hg9b
   refine hK _ _ (st.take 3) ?_; clear hK; simp only [kP, kA, kS, kZ]
   refine lexO 7 rfl fun K hK => ?_
   refine wp_callee (f := 17) (by first | (go_simp; done) | (go_simp; rfl)) ?_
   refine (HL.out _ _ st (by simp)).mono ?_
   rintro e v4 ⟨a4, k4, rfl, hb4, hO4⟩
   have hz4 := st.size
   refine ⟨_, rfl, ?_⟩
   replace st := st.call hb4
   clear hb4
   refine hK _ _ (st.take 3) ?_; clear hK; simp only [kP, kA, kS, kZ]
   refine lexO 10 rfl fun K hK => ?_
   refine wp_callee (f := 18) (by first | (go_simp; done) | (go_simp; rfl)) ?_
   refine (HN.out _ _ st (by simp)).mono ?_
   rintro e v5 ⟨a5, k5, rfl, hb5, hO5⟩
   have hz5 := st.size
   refine ⟨_, rfl, ?_⟩
   replace st := st.call hb5
   replace hO4 := hO4.below hb5
   clear hb5
   have hI := st.take 3
   refine hK _ _ (hI) ?_; clear hK; simp only [kP, kA, kS, kZ]
   refine lexS 18 rfl hI ?_
   clear hI
   refine lexO 20 rfl fun K hK => ?_
   have h9b := st.blk _ (mgE (i := 3) rfl)
   refine wp_store' st 42 _ _ rfl _ Try.sizeOf42 ⟨3, _, _, _, _, _, rfl, rfl, rfl, rfl, rfl, rfl, ?_⟩; clear st; intro w7 st hw7m hw7z; simp [Act.eval, Act.put, Value.cells, putL] at st
   replace hO4 := hO4.stored h9b (by simp) hw7m
   replace hO5 := hO5.stored h9b (by simp) hw7m
   clear h9b hw7m hw7z
   refine hK _ _ (st.take 3) ?_; clear hK; simp only [kP, kA, kS, kZ]
   refine lex_done (by decide +kernel) ?_
   go_wp2_with fail
   go_meet
   exact ⟨g9, a4, k4, a5, k5, rfl, st, (hO4.slrS st (by simp)).okay fun b hb => ⟨by omega, hb.2.1, by simpa using hb.2.2⟩, (hO5.slrS st (by simp)).okay fun b hb => ⟨by omega, hb.2.1, by simpa using hb.2.2⟩⟩
 case rest =>
  obtain ⟨g9, a4, k4, a5, k5, rfl, st, hRl, hRn⟩ := hcut
  have hwz := st.size
  have hwg : g < wc.heap.size ∧ g5 < wc.heap.size ∧ g6 < wc.heap.size ∧ g9 < wc.heap.size := ⟨st.ltAt (i := 0) rfl, st.ltAt (i := 1) rfl, st.ltAt (i := 2) rfl, st.ltAt (i := 3) rfl⟩
  have stK := st
  have hsz : (x.text ++ c.text).size = x.text.size + c.text.size := ByteArray.size_append
  have HKt := qh (show knowT x.text c.text = (x.text ++ c.text).extract ((x.text ++ c.text).size - 64) (x.text ++ c.text).size from rfl)
  generalize hS : x.text ++ c.text = S at *
  replace hS := qh hS
  obtain ⟨m, hm⟩ : ∃ m, m = S.size - 64 := ⟨_, rfl⟩
  have hw1 : IntKind.i64.wrap ((S.size : Int) - 64) = (S.size : Int) - 64 := IntWalk.i64_in _ (by omega)
  have hml : m ≤ S.size := by omega
  have HM := qh hm
  have h64 : ((if 64 < (S.size : Int) then (S.size : Int) - 64 else 0) : Int) = (m : Int) := by split <;> omega
  clear hm
  go_upto_region 6 with (first | go_skip | (with_reducible refine mX st Try.isAgg9 ?_) | (with_reducible refine mS 3 st Try.sizeOf9 ?_; clear st; intro w7 st hw7m hw7z))
  have hT0 : S.extract (max 0 ((x.text.size : Int) + c.text.size - 64)).toNat (x.text.size + c.text.size) = knowT x.text c.text := by rw [HKt.out, hsz]; congr 1; omega
  rw [hT0] at st
  clear hT0
  generalize hT : knowT x.text c.text = T at *
  have hMe : letterM k n c = ⟨k.host, n, c.label, c.grants, T⟩ := by unfold letterM; rw [HX.out, hT]
  rw [hMe] at HE
  clear hMe hT HX
  have st7 := st
  have hz7 := st7.size
  have HR := qh (show ∀ (W : World) (bl : Blks), St [g, g5, g6, g9] w7 W bl → MailR (fun b => w.heap.size ≤ b) W ⟨k.host, n, c.label, c.grants, T⟩ a4 k4 a5 k5 from fun W bl s =>
   ⟨hRl.move (by have := s.size; omega) (fun b hb ho => ⟨ho.1, (s.frame b (by omega) ho.2.2).trans (hw7m b (fun e => ho.2.2 (by simp [e])))⟩) fun _ _ r => r,
   hRn.move (by have := s.size; omega) (fun b hb ho => ⟨ho.1, (s.frame b (by omega) ho.2.2).trans (hw7m b (fun e => ho.2.2 (by simp [e])))⟩) fun _ _ r => r⟩)
  have HBw := qh (show ∀ (W : World) (bl : Blks), St [g, g5, g6, g9] w7 W bl → (g, 58, winC (preC k css n) [.slice xa x.label.length xc, .slice oa x.own.length oc, .string x.text, .slice ba x.objects.length bc, .slice ma x.mails.length mc] (postC k css n)) ∈ bl → St [g] w W bl ∧ Below w.heap.size w W from fun W bl s hm => ⟨St.back st7 s, HB.out W _ (St.back st7 s) hm⟩)
  have HG := qh (show ∀ (W : World) (bl : Blks), St [g, g5, g6, g9] w7 W bl → Calls Try.prog 19 #[.agg #[.int .i64 k.host, .int .i64 n, .slice a4 c.label.length k4, .slice a5 c.grants.length k5, .string T]] W fun e w' => e = .returned (.int .i64 (goodMailC ⟨k.host, n, c.label, c.grants, T⟩)) ∧ Below W.heap.size W w' from fun W bl s => wire_GoodMail _ W ⟨k.host, n, c.label, c.grants, T⟩ a4 k4 a5 k5 (by simp only; omega) (by simp only; omega) (HR.out W bl s))
  generalize hq : goodMailC ⟨k.host, n, c.label, c.grants, T⟩ = q at HG HE
  clear hq hRl hRn hw7m hw7z HM
  have st := st7.rebase
  simp only [List.map_cons, List.map_nil] at st
  by_cases hq0 : q = 0
  case neg =>
   have hqn : (q == 0) = false := by simpa using hq0
   rw [if_pos hq0] at HE
   replace HE := qh HE
   clear hq0
   go_wp2_with (first | go_skip | (with_reducible refine mXA st Try.isAgg42 Try.sizeOf42 ?_) | (go_at_call 19; go_must (refine (HG.out _ _ st).mono ?_; rintro e v8 ⟨rfl, hb8⟩; replace st := st.call hb8; clear hb8)) | (with_reducible refine mS 2 st Try.sizeOf42 ?_; clear st; intro w8 st hw8m hw8z))
   have hc := fun j => st.cell (i := 2) rfl j
   refine bodyPost_ret (v := .tuple #[mailV zeroM none 0 none 0, .int .i64 q]) ?hr rfl (by rw [HE.out]; exact ⟨none, 0, none, 0, rfl, (HBw.out _ _ st (by simp)).2, ⟨SlR.nil .., SlR.nil ..⟩⟩)
   case hr => simp [results, Try.results6, go_sem, hc, mailV, zeroM]; try rfl
  subst hq0
  rw [if_neg (by simp)] at HE
  go_wp2_with (first | go_skip | (with_reducible refine mXA st Try.isAgg42 Try.sizeOf42 ?_) | (with_reducible refine mX st Try.isAgg31 ?_) | (go_at_call 19; go_must (refine (HG.out _ _ st).mono ?_; rintro e v8 ⟨rfl, hb8⟩; replace st := st.call hb8; clear hb8)))
  obtain ⟨wq, rfl⟩ : ∃ V, V = w7 := ⟨_, rfl⟩
  go_loopw [66] (fun v66 wr => ∃ (j : Nat), j ≤ c.grants.length ∧ v66 = .int .i64 j ∧ St [g, g5, g6, g9] wq wr [(g, 58, winC (preC k css n) [.slice xa x.label.length xc, .slice oa x.own.length oc, .string x.text, .slice ba x.objects.length bc, .slice ma x.mails.length mc] (postC k css n)), (g5, 40, [.int .i64 c.kind, .int .i64 c.h, .int .i64 c.t, .int .i64 c.n, .int .i64 c.c, .slice la c.label.length lc, .slice ga c.grants.length gc, .string c.text]), (g6, 42, [.int .i64 0, .int .i64 0, .slice none 0 0, .slice none 0 0, .string ⟨#[]⟩]), (g9, 42, [.int .i64 k.host, .int .i64 n, .slice a4 c.label.length k4, .slice a5 c.grants.length k5, .string (T)])] ∧ Hid (∀ v ∈ c.grants.take j, v ∈ x.own)) (fun v66 _ => c.grants.length - (intOf v66).toNat)
  case atStart => exact ⟨0, Nat.zero_le _, rfl, st, qh (by simp)⟩
  case round =>
   clear st
   obtain ⟨j, hj, rfl, st, HJ⟩ := hrel
   by_cases hlt : j < c.grants.length
   ·have hd : decide ((j : Int) < c.grants.length) = true := by simp; omega
    obtain ⟨b, o, rfl, hbw, hcell⟩ := (HR.out _ _ st).grants.int_at j hlt
    have HO := qh ((HF.out _ _ (HBw.out _ _ st (by simp)).1 (by simp)).2)
    have HI := qh (inL_iff x.own c.grants[j])
    have HI2 := qh (slices_Contains_int _ wr oa oc x.own c.grants[j] (by omega) HO.out)
    generalize hi : inL x.own c.grants[j] = q at HI HI2
    clear hi HO
    cases q
    ·have HE2 := qh (show letterK k n c = (zeroM, 7) by rw [HE, if_pos (fun hh => by have := HI.out.2 (hh _ (List.getElem_mem hlt)); simp at this)])
     clear HE
     go_wp2_with (first | go_skip | (with_reducible refine at_load 31 ?_; (first | refine mem_loadW st 31 _ rfl (wanted_none rfl) Try.isAgg31 1 ?_ | (refine mem_loadW st 31 _ rfl (wanted_some rfl ?_) Try.isAgg31 1 ?_; focus (simp [yielded, Act.put]; done))); refine ⟨0, _, _, _, _, _, _, _, hpre, rfl, rfl, rfl, ?_⟩) | (go_at_call 20; go_must (refine (HI2.out).mono ?_; rintro e v8 ⟨rfl, rfl⟩)) | (with_reducible refine mS 2 st Try.sizeOf42 ?_; clear st; intro w8 st hw8m hw8z))
     have hc := fun j => st.cell (i := 2) rfl j
     refine bodyPost_ret (v := .tuple #[mailV zeroM none 0 none 0, .int .i64 7]) ?hr rfl (by rw [HE2.out]; exact ⟨none, 0, none, 0, rfl, (HBw.out _ _ st (by simp)).2, ⟨SlR.nil .., SlR.nil ..⟩⟩)
     case hr => simp [results, Try.results6, go_sem, hc, mailV, zeroM]; try rfl
    ·have HJ2 := qh (show ∀ v ∈ c.grants.take (j + 1), v ∈ x.own from fun v hv => by
      rw [List.take_add_one, gEg hlt] at hv
      rcases List.mem_append.1 hv with hv | hv
      ·exact HJ.out v hv
      ·obtain rfl : v = c.grants[j] := by simpa using hv
       exact HI.out.1 rfl)
     replace HE := qh HE
     go_wp2_with (first | go_skip | (with_reducible refine at_load 31 ?_; (first | refine mem_loadW st 31 _ rfl (wanted_none rfl) Try.isAgg31 1 ?_ | (refine mem_loadW st 31 _ rfl (wanted_some rfl ?_) Try.isAgg31 1 ?_; focus (simp [yielded, Act.put]; done))); refine ⟨0, _, _, _, _, _, _, _, hpre, rfl, rfl, rfl, ?_⟩) | (go_at_call 20; go_must (refine (HI2.out).mono ?_; rintro e v8 ⟨rfl, rfl⟩)))
     go_roundw
     case rel => exact ⟨j + 1, hlt, by go_num, st, HJ2⟩
     case measure => simp [intOf]; omega
   ·have hd : decide ((j : Int) < c.grants.length) = false := by simp; omega
    have hall : ¬ ¬ (∀ g ∈ c.grants, g ∈ x.own) := fun hh => hh (by have := HJ.out; rwa [List.take_of_length_le (by omega)] at this)
    rw [if_neg hall] at HE
    clear hall HJ
    have HF2 := qh (fun (W : World) (bl : Blks) (hW : St [g, g5, g6, g9] wq W bl) (hm : (g, 58, winC (preC k css n) [.slice xa x.label.length xc, .slice oa x.own.length oc, .string x.text, .slice ba x.objects.length bc, .slice ma x.mails.length mc] (postC k css n)) ∈ bl) => label_Flows (fun _ => True) W xa a4 oa xc k4 oc x.label c.label x.own (by omega) (by omega) ((HF.out _ _ (HBw.out _ _ hW hm).1 hm).1.okay fun _ _ => trivial) ((HR.out _ _ hW).label.okay fun _ _ => trivial) ((HF.out _ _ (HBw.out _ _ hW hm).1 hm).2.okay fun _ _ => trivial))
    generalize hf : flowsL x.label c.label x.own = q at HF2 HE
    clear hf
    replace HE := qh HE
    go_wp2_with fail
    refine det_region (by kernel_rfl) 12 rfl (fun W => St [g, g5, g6, g9] wq W [(g, 58, winC (preC k css n) [.slice xa x.label.length xc, .slice oa x.own.length oc, .string x.text, .slice ba x.objects.length bc, .slice ma x.mails.length mc] (postC k css n)), (g5, 40, [.int .i64 c.kind, .int .i64 c.h, .int .i64 c.t, .int .i64 c.n, .int .i64 c.c, .slice la c.label.length lc, .slice ga c.grants.length gc, .string c.text]), (g6, 42, [.int .i64 0, .int .i64 0, .slice none 0 0, .slice none 0 0, .string ⟨#[]⟩]), (g9, 42, [.int .i64 k.host, .int .i64 n, .slice a4 c.label.length k4, .slice a5 c.grants.length k5, .string (T)])]) (st.drew) (by decide +kernel) ?_
    refine detS 0 rfl ?_; refine detS 1 rfl ?_; refine detS 2 rfl ?_
    refine detT 3 rfl (fun W hW => St.run_loadW hW 0 30 _ rfl Try.isAgg30 0 hpre rfl rfl rfl) ?_
    refine detS 4 rfl ?_
    refine detT 5 rfl (fun W hW => St.run_load hW 3 30 _ rfl Try.isAgg30 rfl rfl rfl) ?_
    refine detS 6 rfl ?_; refine detS 7 rfl ?_; refine detS 8 rfl ?_
    refine detT 9 rfl (fun W hW => St.run_loadW hW 0 31 _ rfl Try.isAgg31 1 hpre rfl rfl rfl) ?_
    refine det_call (fn := 21) 10 rfl (by decide +kernel) (by first | exact wanted_none rfl | exact wanted_some rfl rfl) (fun W => by first | (go_simp; done) | (go_simp; rfl)) (fun W hW => (HF2.out W _ hW (by simp)).mono fun e w' h => ⟨h.1, hW.call h.2⟩) ?_; simp only [kP, kA, kS, kZ]
    refine detS 11 rfl ?_
    refine det_done (by decide +kernel) ?_
    clear st
    intro W st
    cases q
    ·go_wp2_with (first | go_skip | (with_reducible refine mS 2 st Try.sizeOf42 ?_; clear st; intro w8 st hw8m hw8z))
     have hc := fun j => st.cell (i := 2) rfl j
     refine bodyPost_ret (v := .tuple #[mailV zeroM none 0 none 0, .int .i64 6]) ?hr rfl (by rw [HE.out, if_pos (by simp)]; exact ⟨none, 0, none, 0, rfl, (HBw.out _ _ st (by simp)).2, ⟨SlR.nil .., SlR.nil ..⟩⟩)
     case hr => simp [results, Try.results6, go_sem, hc, mailV, zeroM]; try rfl
    ·go_wp2_with (first | go_skip | (with_reducible refine mXA st Try.isAgg42 Try.sizeOf42 ?_) | (with_reducible refine mS 2 st Try.sizeOf42 ?_; clear st; intro w8 st hw8m hw8z))
     have hc := fun j => st.cell (i := 2) rfl j
     refine bodyPost_ret (v := .tuple #[mailV ⟨k.host, n, c.label, c.grants, T⟩ a4 k4 a5 k5, .int .i64 0]) ?hr rfl (by rw [HE.out, if_neg (by simp)]; exact ⟨_, _, _, _, rfl, (HBw.out _ _ st (by simp)).2, HR.out _ _ st⟩)
     case hr => simp [results, Try.results6, go_sem, hc, mailV]; try rfl
end Go.Proofs.Ytealbofmlieicaa
