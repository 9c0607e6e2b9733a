/- Walks and plain laws, part 28. -/
import Derived.Test.YtnjjdpiofbajlaaGreatP27
import Derived.Deep.DeepCutAuto
import Derived.Test.YtnjjdpiofbajlaaGreatP18
import Derived.Test.YtnjjdpiofbajlaaGreatP5
set_option linter.unusedSimpArgs false
set_option linter.unusedVariables false
set_option maxHeartbeats 16000000
set_option maxRecDepth 100000
namespace Go.Proofs.YtnjjdpiofbajlaaGreat
open Go.RowKit
theorem Own.slrS {base : Nat} {e : TypeId} {M : List Nat} {w0 w : World} {α : Type} {sz : Nat} {R : List Value → α → Prop} {a : Option Addr} {c : Nat} {xs : List α} {own : Blks} (h : Own base e w sz R a c xs) (st : St M w0 w own) (hT : ∀ x ∈ own, x.2.1 ≠ e) :
  SlR (fun b => base ≤ b ∧ b < w.heap.size ∧ b ∉ own.map (·.1)) w sz R a c xs := by
 have hne := fun x (hx : x ∈ own) => h.apartT (st.blk x hx) (hT x hx)
 have s := h.slr (ok := fun b => base ≤ b) fun _ h => h
 refine ⟨s.1, s.2.1, s.2.2.1, fun i x hx => ?_⟩
 obtain ⟨b, o, cs, ha, hb, hlt, r⟩ := s.2.2.2 i x hx
 refine ⟨b, o, cs, ha, ⟨hb, hlt, fun hm => ?_⟩, hlt, r⟩
 obtain ⟨y, hy, e2⟩ := List.mem_map.1 hm
 exact hne y hy (by rw [ha, ← e2]; rfl)
theorem SlR.fit {ok ok' : Nat → Prop} {w : World} {α : Type} {sz : Nat} {R : List Value → α → Prop} {a : Option Addr} {c : Nat} {xs : List α} (h : SlR ok w sz R a c xs) (hok : ∀ b, b < w.heap.size → ok b → ok' b) : SlR ok' w sz R a c xs :=
 h.move (Nat.le_refl _) (fun b hb ho => ⟨hok b hb ho, rfl⟩) fun _ _ r => r
theorem SlR.obj_at {ok ok' : Nat → Prop} {w w' : World} {a : Option Addr} {c : Nat} {xs : List KObj} (h : SlR ok w 2 (RObj ok' w') a c xs) (i : Nat) (hi : i < xs.length) :
  ∃ b o la lc, a = some ⟨b, o, none⟩ ∧ ok b ∧ b < w.heap.size ∧ SlR ok' w' 2 RLev la lc xs[i].label ∧ ∀ (j : Nat) (v : Value), [Value.slice la xs[i].label.length lc, .string xs[i].text][j]? = some v → w.cell? ⟨b, o + i * 2 + j, none⟩ = some v := by
 obtain ⟨b, o, cs, ha, ho, hb, ⟨la, lc, rfl, r1⟩, _, _, hc⟩ := h.2.2.2 i xs[i] (by simp [hi])
 exact ⟨b, o, la, lc, ha, ho, hb, r1, hc⟩
theorem SlR.mail_at {ok ok' : Nat → Prop} {w w' : World} {a : Option Addr} {c : Nat} {xs : List Mail} (h : SlR ok w 5 (RMail ok' w') a c xs) (i : Nat) (hi : i < xs.length) :
  ∃ b o la lc ga gc, a = some ⟨b, o, none⟩ ∧ ok b ∧ b < w.heap.size ∧ SlR ok' w' 2 RLev la lc xs[i].label ∧ SlR ok' w' 1 RInt ga gc xs[i].grants ∧ ∀ (j : Nat) (v : Value), [Value.int .i64 xs[i].host, .int .i64 xs[i].thread, .slice la xs[i].label.length lc, .slice ga xs[i].grants.length gc, .string xs[i].text][j]? = some v → w.cell? ⟨b, o + i * 5 + j, none⟩ = some v := by
 obtain ⟨b, o, cs, ha, ho, hb, ⟨la, lc, ga, gc, rfl, r1, r2⟩, _, _, hc⟩ := h.2.2.2 i xs[i] (by simp [hi])
 exact ⟨b, o, la, lc, ga, gc, ha, ho, hb, r1, r2, hc⟩
structure ThrS (ok : Nat → Prop) (w : World) (x : Thr) (la : Option Addr) (lc : Nat) (oa : Option Addr) (oc : Nat) (ba : Option Addr) (bc : Nat) (ma : Option Addr) (mc : Nat) : Prop where
 label : SlR ok w 2 RLev la lc x.label
 own : SlR ok w 1 RInt oa oc x.own
 objs : SlR ok w 2 (RObj ok w) ba bc x.objects
 mails : SlR ok w 5 (RMail ok w) ma mc x.mails
theorem ThrS.move {ok ok' : Nat → Prop} {w w' : World} {x : Thr} {la : Option Addr} {lc : Nat} {oa : Option Addr} {oc : Nat} {ba : Option Addr} {bc : Nat} {ma : Option Addr} {mc : Nat} (h : ThrS ok w x la lc oa oc ba bc ma mc) (hs : w.heap.size ≤ w'.heap.size) (hk : ∀ b, b < w.heap.size → ok b → ok' b ∧ w'.heap[b]? = w.heap[b]?) : ThrS ok' w' x la lc oa oc ba bc ma mc :=
 ⟨h.label.move hs hk fun _ _ h => h, h.own.move hs hk fun _ _ h => h, h.objs.move hs hk fun _ _ h => h.move hs hk, h.mails.move hs hk fun _ _ h => h.move hs hk⟩
theorem ThrS.below {ok : Nat → Prop} {w w' : World} {x : Thr} {la : Option Addr} {lc : Nat} {oa : Option Addr} {oc : Nat} {ba : Option Addr} {bc : Nat} {ma : Option Addr} {mc : Nat} (h : ThrS ok w x la lc oa oc ba bc ma mc) (hb : Below w.heap.size w w') : ThrS ok w' x la lc oa oc ba bc ma mc :=
 h.move hb.size fun b hb' ho => ⟨ho, hb.block b hb'⟩
theorem ThrS.zero (ok : Nat → Prop) (w : World) : ThrS ok w zeroT none 0 none 0 none 0 none 0 := ⟨SlR.nil _ _ _ _, SlR.nil _ _ _ _, SlR.nil _ _ _ _, SlR.nil _ _ _ _⟩
def thrV (x : Thr) (la : Option Addr) (lc : Nat) (oa : Option Addr) (oc : Nat) (ba : Option Addr) (bc : Nat) (ma : Option Addr) (mc : Nat) : Value :=
 .agg #[.slice la x.label.length lc, .slice oa x.own.length oc, .string x.text, .slice ba x.objects.length bc, .slice ma x.mails.length mc]
def thrOf (k : Ker) (t : Int) : Thr := if four t = true then k.thr t else zeroT
def ThreadPost (w : World) (x : Thr) (e : Ending) (w' : World) : Prop :=
 ∃ la lc oa oc ba bc ma mc, e = .returned (thrV x la lc oa oc ba bc ma mc) ∧ Below w.heap.size w w' ∧ ThrS (fun b => w.heap.size ≤ b) w' x la lc oa oc ba bc ma mc
theorem kernel_Thread_out (w : World) (g : Nat) (t : Int) (h4 : four t = false) :
  Calls Tryz.prog 31 #[.pointer (some ⟨g, 0, none⟩), .int .i64 t] w (ThreadPost w zeroT) := by
 have st := St.start w
 rcases four_no h4 with d | ⟨d0, d⟩
 all_goals
  clear h4
  go_enter Tryz.func31, Tryz.ntmps31
  go_wp2_with (first | go_skip | (with_reducible refine mA st Tryz.zeroValue39 ?_; clear st; intro g1 w1 hg1 st) | (with_reducible refine mS 0 st Tryz.sizeOf39 ?_; clear st; intro w2 st hw2m hw2z))
  have hc := fun j => st.cell (i := 0) rfl j
  refine bodyPost_ret (v := thrV zeroT none 0 none 0 none 0 none 0) ?hr rfl ⟨none, 0, none, 0, none, 0, none, 0, rfl, st.below, ThrS.zero _ _⟩
  case hr => simp [results, Tryz.results31, go_sem, hc, thrV, zeroT]; try rfl
theorem kernel_Thread (ok : Nat → Prop) (w : World) (g : Nat) (k : Ker) (css : List (List Value)) (Bs : List (List Nat)) (h : KerAt ok w g k css Bs) (hk : ∀ x ∈ k.threads, x.ok) (t : Int) :
  Calls Tryz.prog 31 #[.pointer (some ⟨g, 0, none⟩), .int .i64 t] w (ThreadPost w (thrOf k t)) := by
 unfold thrOf
 by_cases h4 : four t = true
 case neg => rw [if_neg h4]; exact kernel_Thread_out w g t (by simpa using h4)
 rw [if_pos h4]
 obtain ⟨n, rfl, hn⟩ := four_nat h4
 obtain ⟨x, xa, xc, oa, oc, ba, bc, ma, mc, ex, ec, eB, hT, hb⟩ := h.open hn
 have hx := hk x (mgE ex)
 have hpre := h.preLen hn
 rw [Ker.thr_at ex]
 have st0 := St.hand hb
 unfold thrC at st0 hb
 have d1 : decide ((n : Int) < 0) = false := by simp
 have d2 : decide ((4 : Int) ≤ n) = false := by simp; omega
 have hgg : ¬ ok g := h.apart g (by simp)
 have hgw := h.lt g (by simp)
 have hxl := goodL_len hx.good; have hxo := hx.ownL; have hxb := hx.objs; have hxm := hx.mailN
 have HX := qh (fun o (ho : o ∈ x.objects) => goodL_len (hx.obj o ho).1)
 have HY := qh (fun m (hm : m ∈ x.mails) => (show m.label.length ≤ 8 ∧ m.grants.length ≤ 8 from ⟨goodL_len (mail_facts (hx.mail m hm)).2.2.1, (grants_facts (mail_facts (hx.mail m hm)).2.2.2.1).1⟩))
 have hT := hT.later (Below.refl _ _)
 have HKp := qh (show ∀ (W : World) (bl : Blks), St [g] w W bl → Keeps (fun b => ok b ∧ b < w.heap.size) w W from fun W bl s => s.keeps (by simp; intro h; exact absurd h hgg))
 have HB := qh (show ∀ (W : World) (bl : Blks), St [g] w W bl → (g, 98, winC (preC k css n) [.slice xa x.label.length xc, .slice oa x.own.length oc, .string x.text, .slice ba x.objects.length bc, .slice ma x.mails.length mc] (postC k css n)) ∈ bl → Below w.heap.size w W from fun W bl s hm => st0.below2 s (by simpa using hm))
 have HO := qh (show ∀ (W : World) (bl : Blks), St [g] w W bl → SlR (fun b => b < w.heap.size) W 2 (RObj (fun b => ok b ∧ b < w.heap.size) w) ba bc x.objects from fun W bl s => (hT.objs.slr (ok := fun b => ba.map (·.block) = some b) fun _ h => h).move s.size (fun b hb' ho => ⟨hb', s.frame b hb' (by simp; rintro rfl; exact h.gOut eB (mem_rows2.2 (.inl ho)))⟩) fun _ _ r => r)
 have HM := qh (show ∀ (W : World) (bl : Blks), St [g] w W bl → SlR (fun b => b < w.heap.size) W 5 (RMail (fun b => ok b ∧ b < w.heap.size) w) ma mc x.mails from fun W bl s => (hT.mails.slr (ok := fun b => ma.map (·.block) = some b) fun _ h => h).move s.size (fun b hb' ho => ⟨hb', s.frame b hb' (by simp; rintro rfl; exact h.gOut eB (mem_rows2.2 (.inr ho)))⟩) fun _ _ r => r)
 have HL := qh (fun (W : World) (bl : Blks) (hW : St [g] w W bl) => kernel_levels (fun b => ok b ∧ b < w.heap.size) W xa xc x.label (by omega) (hT.label.keep (HKp.out W _ hW)))
 have HN := qh (fun (W : World) (bl : Blks) (hW : St [g] w W bl) => kernel_numbers (fun b => ok b ∧ b < w.heap.size) W oa oc x.own (by omega) (hT.own.keep (HKp.out W _ hW)))
 have st := st0
 clear st0 hb hT h ex ec eB hx hk h4 hxo hxl
 go_enter Tryz.func31, Tryz.ntmps31
 go_upto_region 3 with (first | go_skip | (with_reducible refine mA st Tryz.zeroValue39 ?_; clear st; intro g1 w1 hg1 st))
 go_upto_region 4 with (first | go_skip | (with_reducible refine at_load 39 ?_; refine mem_loadWin st 39 _ rfl (wanted_none rfl) Tryz.isAgg39 _ Tryz.sizeOf39 ?_; refine ⟨0, _, _, _, _, _, _, hpre, rfl, rfl, rfl, ?_⟩) | (with_reducible refine mA st Tryz.zeroValue39 ?_; clear st; intro g2 w2 hg2 st) | (with_reducible refine mS 2 st Tryz.sizeOf39 ?_; clear st; intro w3 st hw3m hw3z))
 clear hw3m hw3z
 simp only [kP, kA, kS, kZ]
 go_cut [6] (fun s6 wx => ∃ (g6 : Nat) (la : Option Addr) (lc : Nat) (na : Option Addr) (nc : Nat), s6 = .pointer (some ⟨g6, 0, none⟩) ∧ St [g] w wx [(g, 98, winC (preC k css n) [.slice xa x.label.length xc, .slice oa x.own.length oc, .string x.text, .slice (ba) x.objects.length bc, .slice (ma) x.mails.length mc] (postC k css n)), (g1, 39, [.slice none 0 0, .slice none 0 0, .string ⟨#[]⟩, .slice none 0 0, .slice none 0 0]), (g2, 39, [.slice xa x.label.length xc, .slice oa x.own.length oc, .string x.text, .slice (ba) x.objects.length bc, .slice (ma) x.mails.length mc]), (g6, 39, [.slice la x.label.length lc, .slice na x.own.length nc, .string x.text, .slice none 0 0, .slice none 0 0])] ∧ SlR (fun b => w.heap.size ≤ b ∧ b < wx.heap.size ∧ b ∉ [g, g1, g2, g6]) wx 2 RLev la lc x.label ∧ SlR (fun b => w.heap.size ≤ b ∧ b < wx.heap.size ∧ b ∉ [g, g1, g2, g6]) wx 1 RInt na nc x.own)
 case first =>
  have st := st.drew
  have hI := st
  refine lex_region (by kernel_rfl) 11 rfl (fun W => St [g] w W [(g, 98, winC (preC k css n) [.slice xa x.label.length xc, .slice oa x.own.length oc, .string x.text, .slice (ba) x.objects.length bc, .slice (ma) x.mails.length mc] (postC k css n)), (g1, 39, [.slice none 0 0, .slice none 0 0, .string ⟨#[]⟩, .slice none 0 0, .slice none 0 0]), (g2, 39, [.slice xa x.label.length xc, .slice oa x.own.length oc, .string x.text, .slice (ba) x.objects.length bc, .slice (ma) x.mails.length mc])]) ?_
  refine lexS 0 rfl hI ?_
  refine lexT 1 rfl hI (fun W hW => St.run_load hW 2 27 _ rfl Tryz.isAgg27 rfl rfl rfl) ?_
  refine lexS 3 rfl hI ?_
  refine lexT 4 rfl hI (fun W hW => St.run_load hW 2 28 _ rfl Tryz.isAgg28 rfl rfl rfl) ?_
  refine lexS 6 rfl hI ?_
  refine lexT 7 rfl hI (fun W hW => St.run_load hW 2 9 _ rfl Tryz.isAgg9 rfl rfl rfl) ?_
  clear hI
  refine lex_each [2, 9] (by decide +kernel) (by decide) ?_; intro i hi K hK; simp only [List.mem_cons, List.not_mem_nil, or_false] at hi; rcases hi with rfl | rfl <;> refine ⟨_, rfl, (by first | exact wanted_none rfl | exact wanted_some rfl rfl), ?_⟩
  ·refine wp_callee (f := 43) (by first | (go_simp; done) | (go_simp; rfl)) ?_
   refine (HL.out _ _ st).mono ?_
   rintro e v4 ⟨a4, k4, rfl, hb4, hO4⟩
   have hz4 := st.size
   refine ⟨_, rfl, ?_⟩
   replace st := st.call hb4
   clear hb4
   refine hK _ _ (st) ?_; clear hK; simp only [kP, kA, kS, kZ]
   refine lex_each [5, 9] (by decide +kernel) (by decide) ?_; intro i hi K hK; simp only [List.mem_cons, List.not_mem_nil, or_false] at hi; rcases hi with rfl | rfl <;> refine ⟨_, rfl, (by first | exact wanted_none rfl | exact wanted_some rfl rfl), ?_⟩
   ·refine wp_callee (f := 44) (by first | (go_simp; done) | (go_simp; rfl)) ?_
    refine (HN.out _ _ st).mono ?_
    rintro e v5 ⟨a5, k5, rfl, hb5, hO5⟩
    have hz5 := st.size
    refine ⟨_, rfl, ?_⟩
    replace st := st.call hb5
    replace hO4 := hO4.below hb5
    clear hb5
    have hI := st
    refine hK _ _ (hI) ?_; clear hK; simp only [kP, kA, kS, kZ]
    refine lexS 8 rfl hI ?_
    clear hI
    refine lexO 9 rfl fun K hK => ?_
    refine wp_alloc st 39 rfl _ Tryz.zeroValue39 _ rfl ?_; clear st; intro g6 w6 hg6 st hg6b; simp [Act.eval, Act.put, Value.cells, putL] at st
    replace hO4 := hO4.below hg6b
    replace hO5 := hO5.below hg6b
    clear hg6b
    refine hK _ _ (st.take 3) ?_; clear hK; simp only [kP, kA, kS, kZ]
    refine lexO 10 rfl fun K hK => ?_
    have hn : (g : Nat) ≠ g6 ∧ g1 ≠ g6 ∧ g2 ≠ g6 := by
     have := st.ne
     simp only [List.pairwise_cons, List.mem_cons, List.not_mem_nil, or_false, forall_eq_or_imp, forall_eq] at this
     exact ⟨this.1.2.2, this.2.1.2, this.2.2.1⟩
    have h6b := st.blk _ (mgE (i := 3) rfl)
    refine wp_store' st 39 _ _ rfl _ Tryz.sizeOf39 ⟨3, _, _, _, _, _, rfl, rfl, rfl, rfl, rfl, rfl, ?_⟩; clear st; intro w7 st hw7m hw7z; simp [Act.eval, Act.put, Value.cells, putL] at st
    replace hO4 := hO4.stored h6b (by simp) hw7m
    replace hO5 := hO5.stored h6b (by simp) hw7m
    clear h6b hw7m hw7z
    refine hK _ _ (st.take 3) ?_; clear hK; simp only [kP, kA, kS, kZ]
    refine lex_done (by decide +kernel) ?_
    go_wp2_with fail
    go_meet
    exact ⟨g6, a4, k4, a5, k5, rfl, st, (hO4.slrS st (by simp)).okay fun b hb => ⟨by omega, hb.2.1, by simpa using hb.2.2⟩, (hO5.slrS st (by simp)).okay fun b hb => ⟨by omega, hb.2.1, by simpa using hb.2.2⟩⟩
   ·refine wp_alloc st 39 rfl _ Tryz.zeroValue39 _ rfl ?_; clear st; intro g6 w6 hg6 st hg6b; simp [Act.eval, Act.put, Value.cells, putL] at st
    replace hO4 := hO4.below hg6b
    clear hg6b
    refine hK _ _ (st.take 3) ?_; clear hK; simp only [kP, kA, kS, kZ]
    refine lexO 5 rfl fun K hK => ?_
    refine wp_callee (f := 44) (by first | (go_simp; done) | (go_simp; rfl)) ?_
    refine (HN.out _ _ st).mono ?_
    rintro e v5 ⟨a5, k5, rfl, hb5, hO5⟩
    have hz5 := st.size
    refine ⟨_, rfl, ?_⟩
    replace st := st.call hb5
    replace hO4 := hO4.below hb5
    clear hb5
    have hI := st.take 3
    refine hK _ _ (hI) ?_; clear hK; simp only [kP, kA, kS, kZ]
    refine lexS 8 rfl hI ?_
    clear hI
    refine lexO 10 rfl fun K hK => ?_
    have hn : (g : Nat) ≠ g6 ∧ g1 ≠ g6 ∧ g2 ≠ g6 := by
     have := st.ne
     simp only [List.pairwise_cons, List.mem_cons, List.not_mem_nil, or_false, forall_eq_or_imp, forall_eq] at this
     exact ⟨this.1.2.2, this.2.1.2, this.2.2.1⟩
    have h6b := st.blk _ (mgE (i := 3) rfl)
    refine wp_store' st 39 _ _ rfl _ Tryz.sizeOf39 ⟨3, _, _, _, _, _, rfl, rfl, rfl, rfl, rfl, rfl, ?_⟩; clear st; intro w7 st hw7m hw7z; simp [Act.eval, Act.put, Value.cells, putL] at st
    replace hO4 := hO4.stored h6b (by simp) hw7m
    replace hO5 := hO5.stored h6b (by simp) hw7m
    clear h6b hw7m hw7z
    refine hK _ _ (st.take 3) ?_; clear hK; simp only [kP, kA, kS, kZ]
    refine lex_done (by decide +kernel) ?_
    go_wp2_with fail
    go_meet
    exact ⟨g6, a4, k4, a5, k5, rfl, st, (hO4.slrS st (by simp)).okay fun b hb => ⟨by omega, hb.2.1, by simpa using hb.2.2⟩, (hO5.slrS st (by simp)).okay fun b hb => ⟨by omega, hb.2.1, by simpa using hb.2.2⟩⟩
  ·refine wp_alloc st 39 rfl _ Tryz.zeroValue39 _ rfl ?_; clear st; intro g6 w6 hg6 st hg6b; simp [Act.eval, Act.put, Value.cells, putL] at st
   clear hg6b
   refine hK _ _ (st.take 3) ?_; clear hK; simp only [kP, kA, kS, kZ]
   refine lexO 2 rfl fun K hK => ?_
   refine wp_callee (f := 43) (by first | (go_simp; done) | (go_simp; rfl)) ?_
   refine (HL.out _ _ st).mono ?_
   rintro e v4 ⟨a4, k4, rfl, hb4, hO4⟩
   have hz4 := st.size
   refine ⟨_, rfl, ?_⟩
   replace st := st.call hb4
   clear hb4
   refine hK _ _ (st.take 3) ?_; clear hK; simp only [kP, kA, kS, kZ]
   refine lexO 5 rfl fun K hK => ?_
   refine wp_callee (f := 44) (by first | (go_simp; done) | (go_simp; rfl)) ?_
   refine (HN.out _ _ st).mono ?_
   rintro e v5 ⟨a5, k5, rfl, hb5, hO5⟩
   have hz5 := st.size
   refine ⟨_, rfl, ?_⟩
   replace st := st.call hb5
   replace hO4 := hO4.below hb5
   clear hb5
   have hI := st.take 3
   refine hK _ _ (hI) ?_; clear hK; simp only [kP, kA, kS, kZ]
   refine lexS 8 rfl hI ?_
   clear hI
   refine lexO 10 rfl fun K hK => ?_
   have hn : (g : Nat) ≠ g6 ∧ g1 ≠ g6 ∧ g2 ≠ g6 := by
    have := st.ne
    simp only [List.pairwise_cons, List.mem_cons, List.not_mem_nil, or_false, forall_eq_or_imp, forall_eq] at this
    exact ⟨this.1.2.2, this.2.1.2, this.2.2.1⟩
   have h6b := st.blk _ (mgE (i := 3) rfl)
   refine wp_store' st 39 _ _ rfl _ Tryz.sizeOf39 ⟨3, _, _, _, _, _, rfl, rfl, rfl, rfl, rfl, rfl, ?_⟩; clear st; intro w7 st hw7m hw7z; simp [Act.eval, Act.put, Value.cells, putL] at st
   replace hO4 := hO4.stored h6b (by simp) hw7m
   replace hO5 := hO5.stored h6b (by simp) hw7m
   clear h6b hw7m hw7z
   refine hK _ _ (st.take 3) ?_; clear hK; simp only [kP, kA, kS, kZ]
   refine lex_done (by decide +kernel) ?_
   go_wp2_with fail
   go_meet
   exact ⟨g6, a4, k4, a5, k5, rfl, st, (hO4.slrS st (by simp)).okay fun b hb => ⟨by omega, hb.2.1, by simpa using hb.2.2⟩, (hO5.slrS st (by simp)).okay fun b hb => ⟨by omega, hb.2.1, by simpa using hb.2.2⟩⟩
 case rest =>
  obtain ⟨g6, la, lc, na, nc, rfl, st, hRl, hRn⟩ := hcut
  have hwz := st.size
  have hwg : g < wc.heap.size ∧ g1 < wc.heap.size ∧ g2 < wc.heap.size ∧ g6 < wc.heap.size := ⟨st.ltAt (i := 0) rfl, st.ltAt (i := 1) rfl, st.ltAt (i := 2) rfl, st.ltAt (i := 3) rfl⟩
  have stK := st
  have st := st.rebase
  simp only [List.map_cons, List.map_nil] at st
  obtain ⟨i0, hi, hz0, hz1, hz2⟩ := info_parts info_Object
  go_wp2_with (first | go_skip | (with_reducible refine mX st Tryz.isAgg36 ?_))
  go_loopw [40] (fun v40 wr => ∃ (j : Nat) (o : Option Addr) (c : Nat), j ≤ x.objects.length ∧ v40 = .int .i64 j ∧ St [g, g1, g2, g6] wc wr [(g, 98, winC (preC k css n) [.slice xa x.label.length xc, .slice oa x.own.length oc, .string x.text, .slice (ba) x.objects.length bc, .slice (ma) x.mails.length mc] (postC k css n)), (g1, 39, [.slice none 0 0, .slice none 0 0, .string ⟨#[]⟩, .slice none 0 0, .slice none 0 0]), (g2, 39, [.slice xa x.label.length xc, .slice oa x.own.length oc, .string x.text, .slice (ba) x.objects.length bc, .slice (ma) x.mails.length mc]), (g6, 39, [.slice la x.label.length lc, .slice na x.own.length nc, .string x.text, .slice o j c, .slice none 0 0])] ∧ Own wc.heap.size 58 wr 2 (RObj (besides wc.heap.size o) wr) o c (x.objects.take j)) (fun v40 _ => x.objects.length - (intOf v40).toNat)
  case atStart => exact ⟨0, none, 0, Nat.zero_le _, rfl, st, Own.nil _ _ _ _ _⟩
  case round =>
   clear st
   obtain ⟨j, o, c, hj, rfl, st, hO⟩ := hrel
   by_cases hlt : j < x.objects.length
   ·have stW := St.back stK st
    obtain ⟨b, o1, la1, lc1, rfl, hbw, hb, hA, hC⟩ := (HO.out _ _ stW).obj_at j hlt
    have stR := st
    have st := st.rebase
    simp only [List.map_cons, List.map_nil] at st
    have HC := qh hC
    have h8 := HX.out _ (List.getElem_mem hlt)
    have HLv := qh (fun (W : World) (bl : Blks) (hW : St [g] w W bl) => kernel_levels (fun b => ok b ∧ b < w.heap.size) W la1 lc1 x.objects[j].label (by omega) (hA.keep (HKp.out W _ hW)))
    have hwr := stR.size
    have hd : decide ((j : Int) < x.objects.length) = true := by simp; omega
    clear hC
    go_wp2_with (first | go_skip | (with_reducible refine at_load 58 ?_; refine wpList_load_cells (wanted_none rfl) 58 _ rfl Tryz.isAgg58 _ Tryz.sizeOf58 b (o1 + j * 2) rfl [.slice la1 x.objects[j].label.length lc1, .string x.objects[j].text] rfl HC.out ?_) | (with_reducible refine mA st Tryz.zeroValue58 ?_; clear st; intro g8 w8 hg8 st) | (with_reducible refine mS 4 st Tryz.sizeOf58 ?_; clear st; intro w9 st hw9m hw9z))
    clear hw9m hw9z
    have st := st.drew
    have hI := St.back stR st
    refine lex_tail (by kernel_rfl) 11 1 [11] rfl (by decide +kernel) (fun W => St [g, g1, g2, g6] wc W [(g, 98, winC (preC k css n) [.slice xa x.label.length xc, .slice oa x.own.length oc, .string x.text, .slice (some ⟨b, o1, none⟩) x.objects.length bc, .slice (ma) x.mails.length mc] (postC k css n)), (g1, 39, [.slice none 0 0, .slice none 0 0, .string ⟨#[]⟩, .slice none 0 0, .slice none 0 0]), (g2, 39, [.slice xa x.label.length xc, .slice oa x.own.length oc, .string x.text, .slice (some ⟨b, o1, none⟩) x.objects.length bc, .slice (ma) x.mails.length mc]), (g6, 39, [.slice la x.label.length lc, .slice na x.own.length nc, .string x.text, .slice o j c, .slice none 0 0]), (g8, 58, [.slice la1 x.objects[j].label.length lc1, .string x.objects[j].text])]) ?_
    refine lexS 0 rfl hI ?_
    refine lexT 1 rfl hI (fun W hW => St.run_load hW 3 36 _ rfl Tryz.isAgg36 rfl rfl rfl) ?_
    refine lexS 2 rfl hI ?_
    refine lexT 3 rfl hI (fun W hW => St.run_load hW 4 27 _ rfl Tryz.isAgg27 rfl rfl rfl) ?_
    refine lexS 5 rfl hI ?_
    refine lexT 6 rfl hI (fun W hW => St.run_load hW 4 9 _ rfl Tryz.isAgg9 rfl rfl rfl) ?_
    clear hI
    refine lexO 4 rfl fun K hK => ?_
    refine wp_callee (f := 43) (by first | (go_simp; done) | (go_simp; rfl)) ?_
    have hz4 := st.size
    refine (HLv.out _ _ (St.back stK (St.back stR st))).mono ?_
    rintro e v4 ⟨a4, k4, rfl, hb4, hO4⟩
    refine ⟨_, rfl, ?_⟩
    replace st := st.call hb4
    clear hb4
    have hI := St.back stR st
    refine hK _ _ (hI) ?_; clear hK; simp only [kP, kA, kS, kZ]
    refine lexS 7 rfl hI ?_
    clear hI
    refine lexO 8 rfl fun K hK => ?_
    refine wp_build1 st 36 58 _ rfl Tryz.underlying36 2 Tryz.sizeOf58 (by decide) (by decide) _ Tryz.zeroValue58 _ rfl rfl ?_; clear st; intro g10 w10 hg10 hg10e st hg10b hw10z; clear hg10e; simp [Act.eval, Act.put, Value.cells, putL] at st
    replace hO4 := hO4.below hg10b
    clear hg10b hw10z
    have hz10 := st.size
    have hBw : Below wr.heap.size wr w10 := stR.below2 st (by simp)
    have stD := St.back stR st
    clear st
    have st := stD
    clear stD
    refine hK _ _ (st.take 5) ?_; clear hK; simp only [kP, kA, kS, kZ]
    refine lexO 9 rfl fun K hK => ?_
    have hOw : Own wc.heap.size 58 w10 2 (RObj (besides wc.heap.size o) w10) o c (x.objects.take j) := (hO.below hBw).mono fun _ _ r => r.move hBw.size fun b hb ho => ⟨ho, hBw.block b hb⟩
    refine wp_app1 _ _ 36 rfl 58 i0 _ 2 40 Tryz.underlying36 hi hz0 hz1 hz2 rfl (by decide) (y := x.objects[j]) rfl (by simp; omega) hOw rfl (SlR.ofBlk (ok := fun _ => True) (st.blk _ (mgE (i := 5) rfl)) ⟨a4, k4, rfl, hO4.slr fun b hb => ⟨by omega, fun e => by have := (hO.blockLt _ e).2; omega⟩⟩ rfl rfl trivial) (by simp; omega) (by simp [maxLen]; omega) (by omega) ?_
    intro g11 c11 w11 hO11 hgr hat hlt11
    replace st := (st.take 5).grownNew hgr (fun k hk => (hOw.blockLt k hk).1) (by
     intro y hy e
     have := (hOw.blockLt _ e).1
     simp only [List.take_succ_cons, List.take_zero, List.mem_cons, List.not_mem_nil, or_false] at hy
     rcases hy with rfl | rfl | rfl | rfl | rfl
     ·simp only at this; omega
     ·simp only at this; omega
     ·simp only at this; omega
     ·simp only at this; omega
     ·have h2 := (hO.blockLt _ e).2
      simp only at h2; omega)
    simp only [List.take_succ_cons, List.take_zero] at st
    replace hO11 : Own wc.heap.size 58 w11 2 (RObj (besides wc.heap.size (some ⟨g11, 0, none⟩)) w11) (some ⟨g11, 0, none⟩) c11 (x.objects.take (j + 1)) := by
     rw [List.take_succ_eq_append_getElem hlt]
     exact hO11.mono fun _ _ r => r.move hgr.size fun b hb ho => ⟨⟨ho.1, fun e => by
      simp only [Option.map_some, Option.some.injEq] at e
      subst e
      rcases hat with hat | hat
      ·exact ho.2 hat
      ·omega⟩, hgr.block b hb fun e => ho.2 e.symm⟩
    clear hOw hO4 hO hgr hat
    have hI := st
    refine hK _ _ (hI) ?_; clear hK; simp only [kP, kA, kS, kZ]
    refine lexS 10 rfl hI ?_
    clear hI
    refine lex_done (by decide +kernel) ?_
    refine tail_last 11 rfl (by first | exact wanted_none rfl | exact wanted_some rfl rfl) (by decide +kernel) (by decide +kernel) fun K hK => ?_
    have h6b := st.blk _ (mgE (i := 3) rfl)
    refine wp_store' st 36 _ _ rfl _ Tryz.sizeOf36 ⟨3, _, _, _, _, _, rfl, rfl, rfl, rfl, rfl, rfl, ?_⟩; clear st; intro w12 st hw12m hw12z; simp [Act.eval, Act.put, Value.cells, putL] at st
    replace hO11 := (hO11.stored h6b (by simp) hw12m).mono fun _ _ r => r.move (w' := w12) (by omega) fun b hb ho => (⟨ho, hw12m b (by have := ho.1; omega)⟩ : (besides wc.heap.size (some ⟨g11, 0, none⟩)) b ∧ _)
    refine hK _ _ ?_; clear hK
    go_wp2
    go_roundw
    case rel => exact ⟨j + 1, some ⟨g11, 0, none⟩, c11, hlt, by go_num, st.sub (by simp) (by simpa [List.pairwise_cons] using stK.ne), hO11⟩
    case measure => simp [intOf]; omega
   ·obtain ⟨wm, rfl⟩ : ∃ W, W = wr := ⟨_, rfl⟩
    obtain rfl : j = x.objects.length := by omega
    have hd : decide ((x.objects.length : Int) < x.objects.length) = false := by simp
    have stW := St.back stK st
    rw [List.take_of_length_le (Nat.le_refl _)] at hO
    have hS := hO.slrS st (by simp)
    have hzr := st.size
    have hRo : SlR (fun b => w.heap.size ≤ b ∧ b < wm.heap.size ∧ b ∉ [g, g1, g2, g6]) wm 2 (RObj (fun b => w.heap.size ≤ b ∧ b < wm.heap.size ∧ b ∉ [g, g1, g2, g6]) wm) o c x.objects :=
     hS.okayR (fun b hb => ⟨by omega, hb.2.1, by simpa using hb.2.2⟩) fun _ _ r => r.move (Nat.le_refl _) fun b hb ho => ⟨⟨by have := ho.1; omega, hb, by have := ho.1; simp; omega⟩, rfl⟩
    have st1 := st
    have st := st.rebase
    simp only [List.map_cons, List.map_nil] at st
    have hwg2 : g < wm.heap.size ∧ g1 < wm.heap.size ∧ g2 < wm.heap.size ∧ g6 < wm.heap.size := by omega
    clear hO hS hz0 hz1 hz2 hi i0
    obtain ⟨i0, hi, hz0, hz1, hz2⟩ := info_parts info_Mail
    go_wp2_with (first | go_skip | (with_reducible refine mX st Tryz.isAgg37 ?_))
    go_loopw [59] (fun v59 wt => ∃ (j : Nat) (p : Option Addr) (d : Nat), j ≤ x.mails.length ∧ v59 = .int .i64 j ∧ St [g, g1, g2, g6] wm wt [(g, 98, winC (preC k css n) [.slice xa x.label.length xc, .slice oa x.own.length oc, .string x.text, .slice (ba) x.objects.length bc, .slice (ma) x.mails.length mc] (postC k css n)), (g1, 39, [.slice none 0 0, .slice none 0 0, .string ⟨#[]⟩, .slice none 0 0, .slice none 0 0]), (g2, 39, [.slice xa x.label.length xc, .slice oa x.own.length oc, .string x.text, .slice (ba) x.objects.length bc, .slice (ma) x.mails.length mc]), (g6, 39, [.slice la x.label.length lc, .slice na x.own.length nc, .string x.text, .slice o x.objects.length c, .slice p j d])] ∧ Own wm.heap.size 42 wt 5 (RMail (besides wm.heap.size p) wt) p d (x.mails.take j)) (fun v59 _ => x.mails.length - (intOf v59).toNat)
    case atStart => exact ⟨0, none, 0, Nat.zero_le _, rfl, st, Own.nil _ _ _ _ _⟩
    case round =>
     clear st
     obtain ⟨j, p, d, hj, rfl, st, hO⟩ := hrel
     by_cases hlt : j < x.mails.length
     ·have stW2 := St.back stW st
      obtain ⟨b, o1, la1, lc1, ga1, gc1, rfl, hbw, hb, hA, hA2, hC⟩ := (HM.out _ _ stW2).mail_at j hlt
      have stR := st
      have st := st.rebase
      simp only [List.map_cons, List.map_nil] at st
      have HC := qh hC
      have h8 := HY.out _ (List.getElem_mem hlt)
      have HLv := qh (fun (W : World) (bl : Blks) (hW : St [g] w W bl) => kernel_mail (fun b => ok b ∧ b < w.heap.size) W x.mails[j] la1 lc1 ga1 gc1 (by omega) (by omega) ⟨hA.keep (HKp.out W _ hW), hA2.keep (HKp.out W _ hW)⟩)
      have hwt := stR.size
      have hd : decide ((j : Int) < x.mails.length) = true := by simp; omega
      clear hC
      go_wp2_with (first | go_skip | (with_reducible refine at_load 42 ?_; refine wpList_load_cells (wanted_none rfl) 42 _ rfl Tryz.isAgg42 _ Tryz.sizeOf42 b (o1 + j * 5) rfl [.int .i64 x.mails[j].host, .int .i64 x.mails[j].thread, .slice la1 x.mails[j].label.length lc1, .slice ga1 x.mails[j].grants.length gc1, .string x.mails[j].text] rfl HC.out ?_) | (with_reducible refine mA st Tryz.zeroValue42 ?_; clear st; intro g8 w8 hg8 st) | (with_reducible refine mS 4 st Tryz.sizeOf42 ?_; clear st; intro w9 st hw9m hw9z))
      clear hw9m hw9z
      have st := st.drew
      have hI := St.back stR st
      refine lex_tail (by kernel_rfl) 7 1 [7] rfl (by decide +kernel) (fun W => St [g, g1, g2, g6] wm W [(g, 98, winC (preC k css n) [.slice xa x.label.length xc, .slice oa x.own.length oc, .string x.text, .slice (ba) x.objects.length bc, .slice (some ⟨b, o1, none⟩) x.mails.length mc] (postC k css n)), (g1, 39, [.slice none 0 0, .slice none 0 0, .string ⟨#[]⟩, .slice none 0 0, .slice none 0 0]), (g2, 39, [.slice xa x.label.length xc, .slice oa x.own.length oc, .string x.text, .slice (ba) x.objects.length bc, .slice (some ⟨b, o1, none⟩) x.mails.length mc]), (g6, 39, [.slice la x.label.length lc, .slice na x.own.length nc, .string x.text, .slice o x.objects.length c, .slice p j d]), (g8, 42, [.int .i64 x.mails[j].host, .int .i64 x.mails[j].thread, .slice la1 x.mails[j].label.length lc1, .slice ga1 x.mails[j].grants.length gc1, .string x.mails[j].text])]) ?_
      refine lexS 0 rfl hI ?_
      refine lexT 1 rfl hI (fun W hW => St.run_load hW 3 37 _ rfl Tryz.isAgg37 rfl rfl rfl) ?_
      refine lexT 2 rfl hI (fun W hW => St.run_load_agg hW 4 42 _ rfl Tryz.isAgg42 _ Tryz.sizeOf42 rfl rfl rfl rfl) ?_
      clear hI
      refine lexO 3 rfl fun K hK => ?_
      refine wp_callee (f := 45) (by first | (go_simp; done) | (go_simp; rfl)) ?_
      have hz4 := st.size
      refine (HLv.out _ _ (St.back stW (St.back stR st))).mono ?_
      rintro e v4 ⟨a4, k4, a5, k5, rfl, hb4, hO4⟩
      refine ⟨_, rfl, ?_⟩
      replace st := st.call hb4
      clear hb4
      have hI := St.back stR st
      refine hK _ _ (hI) ?_; clear hK; simp only [kP, kA, kS, kZ]
      clear hI
      refine lexO 4 rfl fun K hK => ?_
      refine wp_build1 st 37 42 _ rfl Tryz.underlying37 5 Tryz.sizeOf42 (by decide) (by decide) _ Tryz.zeroValue42 _ rfl rfl ?_; clear st; intro g10 w10 hg10 hg10e st hg10b hw10z; clear hg10e; simp [Act.eval, Act.put, Value.cells, putL] at st
      replace hO4 := hO4.below hg10b
      clear hg10b hw10z
      have hz10 := st.size
      have hBw : Below wr.heap.size wr w10 := stR.below2 st (by simp)
      have stD := St.back stR st
      clear st
      have st := stD
      clear stD
      refine hK _ _ (st.take 5) ?_; clear hK; simp only [kP, kA, kS, kZ]
      refine lexO 5 rfl fun K hK => ?_
      have hOw : Own wm.heap.size 42 w10 5 (RMail (besides wm.heap.size p) w10) p d (x.mails.take j) := (hO.below hBw).mono fun _ _ r => r.move hBw.size fun b hb ho => ⟨ho, hBw.block b hb⟩
      have hne : ∀ b, w9.drew.heap.size ≤ b → besides wm.heap.size p b := fun b hb => ⟨by omega, fun e => by have := (hO.blockLt _ e).2; omega⟩
      refine wp_app1 _ _ 37 rfl 42 i0 _ 5 80 Tryz.underlying37 hi hz0 hz1 hz2 rfl (by decide) (y := x.mails[j]) rfl (by simp; omega) hOw rfl (SlR.ofBlk (ok := fun _ => True) (st.blk _ (mgE (i := 5) rfl)) ⟨a4, k4, a5, k5, rfl, hO4.label.okay hne, hO4.grants.okay hne⟩ rfl rfl trivial) (by simp; omega) (by simp [maxLen]; omega) (by omega) ?_
      intro g11 c11 w11 hO11 hgr hat hlt11
      replace st := (st.take 5).grownNew hgr (fun k hk => (hOw.blockLt k hk).1) (by
       intro y hy e
       have := (hOw.blockLt _ e).1
       simp only [List.take_succ_cons, List.take_zero, List.mem_cons, List.not_mem_nil, or_false] at hy
       rcases hy with rfl | rfl | rfl | rfl | rfl
       ·simp only at this; omega
       ·simp only at this; omega
       ·simp only at this; omega
       ·simp only at this; omega
       ·have h2 := (hO.blockLt _ e).2
        simp only at h2; omega)
      simp only [List.take_succ_cons, List.take_zero] at st
      replace hO11 : Own wm.heap.size 42 w11 5 (RMail (besides wm.heap.size (some ⟨g11, 0, none⟩)) w11) (some ⟨g11, 0, none⟩) c11 (x.mails.take (j + 1)) := by
       rw [List.take_succ_eq_append_getElem hlt]
       exact hO11.mono fun _ _ r => r.move hgr.size fun b hb ho => ⟨⟨ho.1, fun e => by
        simp only [Option.map_some, Option.some.injEq] at e
        subst e
        rcases hat with hat | hat
        ·exact ho.2 hat
        ·omega⟩, hgr.block b hb fun e => ho.2 e.symm⟩
      clear hOw hO4 hO hgr hat hne
      have hI := st
      refine hK _ _ (hI) ?_; clear hK; simp only [kP, kA, kS, kZ]
      refine lexS 6 rfl hI ?_
      clear hI
      refine lex_done (by decide +kernel) ?_
      refine tail_last 7 rfl (by first | exact wanted_none rfl | exact wanted_some rfl rfl) (by decide +kernel) (by decide +kernel) fun K hK => ?_
      have h6b := st.blk _ (mgE (i := 3) rfl)
      refine wp_store' st 37 _ _ rfl _ Tryz.sizeOf37 ⟨3, _, _, _, _, _, rfl, rfl, rfl, rfl, rfl, rfl, ?_⟩; clear st; intro w12 st hw12m hw12z; simp [Act.eval, Act.put, Value.cells, putL] at st
      replace hO11 := (hO11.stored h6b (by simp) hw12m).mono fun _ _ r => r.move (w' := w12) (by omega) fun b hb ho => (⟨ho, hw12m b (by have := ho.1; omega)⟩ : (besides wm.heap.size (some ⟨g11, 0, none⟩)) b ∧ _)
      refine hK _ _ ?_; clear hK
      go_wp2
      go_roundw
      case rel => exact ⟨j + 1, some ⟨g11, 0, none⟩, c11, hlt, by go_num, st.sub (by simp) (by simpa [List.pairwise_cons] using stK.ne), hO11⟩
      case measure => simp [intOf]; omega
     ·obtain rfl : j = x.mails.length := by omega
      have hd : decide ((x.mails.length : Int) < x.mails.length) = false := by simp
      rw [List.take_of_length_le (Nat.le_refl _)] at hO
      have hS2 := hO.slrS st (by simp)
      have hzt := st.size
      have hne := stK.ne
      simp only [List.pairwise_cons, List.mem_cons, List.not_mem_nil, or_false, forall_eq_or_imp, forall_eq] at hne
      have hRm : SlR (fun b => w.heap.size ≤ b ∧ b < wr.heap.size ∧ b ∉ [g, g1, g2, g6]) wr 5 (RMail (fun b => w.heap.size ≤ b ∧ b < wr.heap.size ∧ b ∉ [g, g1, g2, g6]) wr) p d x.mails :=
       hS2.okayR (fun b hb => ⟨by omega, hb.2.1, by simpa using hb.2.2⟩) fun _ _ r => r.move (Nat.le_refl _) fun b hb ho => ⟨⟨by have := ho.1; omega, hb, by have := ho.1; simp; omega⟩, rfl⟩
      have hk1 : ∀ b, b < wc.heap.size → b ∉ [g, g1, g2, g6] → wr.heap[b]? = wc.heap[b]? := fun b hb hn => (st.frame b (by have := st1.size; omega) hn).trans (st1.frame b hb hn)
      have hk2 : ∀ b, b < wm.heap.size → b ∉ [g, g1, g2, g6] → wr.heap[b]? = wm.heap[b]? := fun b hb hn => st.frame b hb hn
      have hz1 := st1.size
      have hT1 : ThrS (fun b => w.heap.size ≤ b ∧ b < wr.heap.size ∧ b ∉ [g, g1, g2, g6]) wr x la lc na nc o c p d :=
       ⟨hRl.move (by omega) (fun b hb ho => ⟨⟨ho.1, by omega, ho.2.2⟩, hk1 b hb ho.2.2⟩) fun _ _ r => r, hRn.move (by omega) (fun b hb ho => ⟨⟨ho.1, by omega, ho.2.2⟩, hk1 b hb ho.2.2⟩) fun _ _ r => r,
        hRo.move (by omega) (fun b hb ho => ⟨⟨ho.1, by omega, ho.2.2⟩, hk2 b hb ho.2.2⟩) fun _ _ r => r.move (by omega) fun b hb ho => ⟨⟨ho.1, by omega, ho.2.2⟩, hk2 b hb ho.2.2⟩, hRm⟩
      have stF := St.back stW st
      clear hS2 hO st hRl hRn hRo hRm hk1 hk2
      have st := stF
      clear stF
      have HT1 := qh hT1
      go_wp2_with (first | go_skip | (with_reducible refine mXA st Tryz.isAgg39 Tryz.sizeOf39 ?_) | (with_reducible refine mS 1 st Tryz.sizeOf39 ?_; clear st; intro w13 st hw13m hw13z))
      have hc := fun j => st.cell (i := 1) rfl j
      refine bodyPost_ret (v := thrV x la lc na nc o c p d) ?hr rfl ⟨la, lc, na, nc, o, c, p, d, rfl, HB.out _ _ st (by simp), HT1.out.move (by omega) fun b hb ho => ⟨ho.1, hw13m b fun e => ho.2.2 (by simp [e])⟩⟩
      case hr => simp [results, Tryz.results31, go_sem, hc, thrV, putL]; try rfl
theorem info_string : (Tryz.prog.info? 9).map (fun i => (i.zero, i.size, i.bytes)) = some (some (.string .empty), 1, 16) := by kernel_rfl
theorem slices_Clone_string {R : List Value → ByteArray → Prop} (ok : Nat → Prop) (w : World) (a : Option Addr) (c : Nat) (l : List ByteArray) (hl : l.length * 16 ≤ 140737488355328) (hR : SlR ok w 1 R a c l) :
  Calls Tryz.prog 39 #[.slice a l.length c] w fun e w' => ∃ a' c', e = .returned (.slice a' l.length c') ∧ Below w.heap.size w w' ∧ Own w.heap.size 9 w' 1 R a' c' l := by
 obtain ⟨i0, hi, hz0, hz1, hz2⟩ := info_parts info_string
 have hcmp := fun (ww : World) (a : Option Addr) (n c : Nat) => Lib.run_eql_slice_nil ww 63 _ a n c 0 0 Tryz.underlying63
 cases a with
 | none =>
  have h0 := hR.2.2.1 rfl
  have hn := hR.1
  obtain rfl : l = [] := List.eq_nil_of_length_eq_zero (by omega)
  clear hl hR hi hz0 hz1 hz2 h0 hn
  go_enter Tryz.func39, Tryz.ntmps39
  go_wp2
  go_ret
  exact ⟨none, 0, rfl, Below.refl _ _, Own.nil _ _ _ _ _⟩
 | some ad =>
  go_enter Tryz.func39, Tryz.ntmps39
  go_wp2_with (first | (at_builtin; refine wpList_app rfl _ _ 63 rfl 9 i0 _ 1 16 Tryz.underlying63 hi hz0 hz1 hz2 rfl (by decide) (base := w.heap.size) rfl rfl (Own.made (Nat.le_refl _)) rfl rfl (hR.below ((Below.refl _ _).alloc (Nat.le_refl _) _)) ?_ ?_ ?_ ?_))
  ·simpa using hl
  ·simp [maxLen]; omega
  ·simp
  ·intro a' c' w' hO hg _
   go_wp2
   go_ret
   exact ⟨a', c', rfl, ((Below.refl _ _).alloc (Nat.le_refl _) _).grown hg (by simp) (by simp), hO⟩
section
variable {w0 Wd W : World} {M0 : List Nat} {own : Blks} {X D : Nat → Prop} {gc : Nat} {kg : List Nat} {C : Clu}
theorem CluAt.cell {ok : Nat → Prop} {BB : List (List Nat)} {na : Option Addr} {nc : Nat} {L : List Value} (hA : CluAt ok W gc C kg BB na nc L) {j : Nat} {v : Value} (hv : L[j]? = some v) : W.cell? ⟨gc, j, none⟩ = some v := by
 rw [cell_of_row W gc _ L.toArray _ (0, 0) hA.blk]
 simpa using hv
theorem cluster_Net (P : Clus w0 M0 own X Wd D gc kg C W) : Calls Tryz.prog 26 #[.pointer (some ⟨gc, 0, none⟩)] W fun e W' => ∃ a c, e = .returned (.slice a C.net.length c) ∧ Below W.heap.size W W' ∧ Own W.heap.size 9 W' 1 RStr a c C.net := by
 have hl := P.okC.netN
 obtain ⟨ok, BB, na, nc, L, hA, -, -, -⟩ := P.open
 have f0 := hA.cell hA.cells.net
 have HC := qh (slices_Clone_string (fun _ => True) W na nc C.net (by omega) (hA.net.slr fun _ _ => trivial))
 clear hA P
 go_enter Tryz.func26, Tryz.ntmps26
 go_wp2_with (first | go_skip | (go_at_call 39; go_must (refine HC.out.mono ?_; rintro e v1 ⟨a, c, rfl, hb, hO⟩)))
 go_ret
 exact ⟨a, c, rfl, hb, hO⟩
end
section
variable {w0 Wd W : World} {M0 : List Nat} {own : Blks} {X D : Nat → Prop} {gc : Nat} {kg : List Nat} {C : Clu}
theorem cluster_push (P : Clus w0 M0 own X Wd D gc kg C W) (f : Frame) (okf : Nat → Prop) (la : Option Addr) (lc : Nat) (ga : Option Addr) (gc' : Nat) (ca : Option Addr) (cc : Nat) (hf : f.FitsW) (hR : FrameR okf W f la lc ga gc' ca cc) :
  Calls Tryz.prog 54 #[.pointer (some ⟨gc, 0, none⟩), frameV f la lc ga gc' ca cc] W fun e W' => (∃ u, e = .returned u) ∧ Clus w0 M0 own X Wd D gc kg (pushC C f) W' := by
 have HE := qh (fun (V : World) (h : Below W.heap.size W V) => wire_Encode okf V f la lc ga gc' ca cc hf (hR.below h))
 have HP := qh (show pushC C f = if (encR f).2 = 0 ∧ C.net.length < 60 then { C with net := C.net ++ [(encR f).1] } else C from rfl)
 have hok := P.okC.push f
 have hn60 := P.okC.netN
 generalize encR f = r at HE HP
 obtain ⟨s, q⟩ := r
 have st := St.start W
 unfold frameV at *
 by_cases hq : q = 0
 case neg =>
  have HP2 := qh (show pushC C f = C by rw [HP.out, if_neg (fun h => hq h.1)])
  have d1 : (q == 0) = false := by simpa using hq
  clear hq HP
  go_enter Tryz.func54, Tryz.ntmps54
  go_wp2_with (first
   | go_skip | (with_reducible refine mB 110 st ?_; clear st; intro g3 w3 hg3 st) | (with_reducible refine mXA st Tryz.isAgg110 Tryz.sizeOf110 ?_)
   | (go_at_call 82; go_must (refine (HE.out _ st.below).mono ?_; rintro e v1 ⟨rfl, hb1⟩; replace st := st.call hb1; clear hb1)))
  go_end0
  rw [HP2.out]
  exact ⟨⟨_, rfl⟩, P.below st.below⟩
 subst hq
 by_cases h60 : C.net.length < 60
 case neg =>
  have HP2 := qh (show pushC C f = C by rw [HP.out, if_neg (fun h => h60 h.2)])
  have d2 : decide ((C.net.length : Int) < 60) = false := by simp; omega
  clear HP
  go_enter Tryz.func54, Tryz.ntmps54
  go_upto_region 2 with (first
   | go_skip | (with_reducible refine mB 110 st ?_; clear st; intro g3 w3 hg3 st) | (with_reducible refine mXA st Tryz.isAgg110 Tryz.sizeOf110 ?_)
   | (go_at_call 82; go_must (refine (HE.out _ st.below).mono ?_; rintro e v1 ⟨rfl, hb1⟩; replace st := st.call hb1; clear hb1)))
  have P2 := P.below st.below
  obtain ⟨ok, BB, na, nc, L, hA, -, -, -⟩ := P2.open
  have f0 := hA.cell hA.cells.net
  clear hA st
  go_wp2_with (first | go_skip | fail)
  go_end0
  rw [HP2.out]
  exact ⟨⟨_, rfl⟩, P2⟩
 have HP2 := qh (show pushC C f = { C with net := C.net ++ [s] } by rw [HP.out, if_pos ⟨rfl, h60⟩])
 rw [HP2.out] at hok
 have d2 : decide ((C.net.length : Int) < 60) = true := by simp; omega
 clear HP
 go_enter Tryz.func54, Tryz.ntmps54
 go_upto_region 2 with (first
  | go_skip | (with_reducible refine mB 110 st ?_; clear st; intro g3 w3 hg3 st) | (with_reducible refine mXA st Tryz.isAgg110 Tryz.sizeOf110 ?_)
  | (go_at_call 82; go_must (refine (HE.out _ st.below).mono ?_; rintro e v1 ⟨rfl, hb1⟩; replace st := st.call hb1; clear hb1)))
 have P2 := P.below st.below
 clear st P
 obtain ⟨ok, BB, na, nc, L, hA, hn, -, hTo⟩ := P2.open
 have f0 := hA.cell hA.cells.net
 obtain ⟨i0, hi, hz0, hz1, hz2⟩ := info_parts info_string
 have hgw := hA.lt gc (mem_cluB.2 (.inl rfl))
 have hnal : ∀ b, na.map (·.block) = some b → b < v1.heap.size ∧ b ≠ gc := fun b e => ⟨hA.net.lt e, fun e2 => by
  have := hA.nodup
  unfold cluB at this
  subst e2
  exact (List.nodup_cons.1 this).1 (List.mem_append.2 (.inl (by simpa using e)))⟩
 have st := St.start v1
 go_wp2_with (first
  | go_skip | (with_reducible refine at_build1 63 ?_; refine wpList_build1 st (wanted_none rfl) 63 9 _ rfl Tryz.underlying63 1 Tryz.sizeOf9 (by decide) (by decide) _ Tryz.zeroValue9 _ rfl rfl ?_; have stw4 := st; clear st; intro g4 w4 hg4 hg4e st hw4b hw4z; simp [Act.eval, Act.put, Value.cells, putL] at st)
  | (at_builtin; go_must (refine wpList_wanted (wanted_none rfl) fun K' hK' => ?_; refine wp_rowApp _ _ 63 rfl i0 _ 16 Tryz.underlying63 hi hz0 hz1 hz2 rfl (by decide) (y := s) rfl rfl (hA.net.below (R' := RStr) hw4b fun _ _ r => r) rfl (SlR.ofBlk (ok := fun _ => True) (R := RStr) (sz := 1) (x := s) (st.blk _ (mgE (i := 0) rfl)) rfl rfl rfl trivial) (by omega) (by unfold maxLen; omega) ?_; intro g5 off5 c5 w5 hO5 hgr hat; refine hK' _ _ ?_; clear hK'; refine RowKit.Hid.out ?_)))
 refine qh ?_
 have hb5 : w5.heap[gc]? = some (.cells L.toArray 84 (0, 0)) := (hgr.block gc (by omega) fun e => (hnal gc e.symm).2 rfl).trans ((hw4b.block gc hgw).trans hA.blk)
 have st5 := St.hand hb5
 go_wp2_with (first
  | go_skip
  | ((with_reducible refine at_store 63 ?_); go_must (refine mem_store st5 (wanted_none rfl) 63 _ _ rfl gc 185 rfl (.slice (some ⟨g5, off5, none⟩) (C.net.length + 1) c5) rfl [.slice (some ⟨g5, off5, none⟩) (C.net.length + 1) c5] rfl Tryz.sizeOf63 (by simp [Value.oneCell']) 0 _ _ rfl (by have := hA.cells.len; show 185 + 1 ≤ L.length; omega) ?_; intro w6 st6 h6m h6z)))
 go_end0
 refine ⟨⟨_, rfl⟩, ?_⟩
 rw [HP2.out]
 have hs5 := hgr.size
 have hs4 := hw4b.size
 have hch : ∀ b, b < v1.heap.size → b ≠ gc → na.map (·.block) ≠ some b → w6.heap[b]? = v1.heap[b]? := fun b hb h1 h2 => (h6m b h1).trans ((hgr.block b (by omega) fun e => h2 e.symm).trans (hw4b.block b hb))
 have hall : ∀ b, ok b → b < v1.heap.size → b ∉ cluB gc (some ⟨g5, off5, none⟩) BB := fun b ho hb hm => by
  rcases mem_cluB.1 hm with h1 | h1 | h1
  ·exact hA.apart b (mem_cluB.2 (.inl h1)) ho
  ·obtain rfl : g5 = b := Option.some.inj h1
   rcases hat with hat | hat
   ·exact hA.apart _ (mem_cluB.2 (.inr (.inl hat))) ho
   ·omega
  ·exact hA.apart b (mem_cluB.2 (.inr (.inr h1))) ho
 have hcells : CluL (fun b => (ok b ∨ v1.heap.size ≤ b) ∧ b ∉ cluB gc (some ⟨g5, off5, none⟩) BB) w6 C kg na nc L := hA.cells.move (by omega) fun b hb ho => ⟨⟨.inl ho, hall b ho hb⟩, hch b hb (fun e => hA.apart b (mem_cluB.2 (.inl e)) ho) fun e => hA.apart b (mem_cluB.2 (.inr (.inl e))) ho⟩
 have hlen : (C.net ++ [s]).length = C.net.length + 1 := by simp
 have hL := hcells.setNet (C.net ++ [s]) (some ⟨g5, off5, none⟩) c5
 rw [hlen] at hL
 refine hTo w6 _ hok (hA.close (L' := putL L 185 [.slice (some ⟨g5, off5, none⟩) (C.net.length + 1) c5]) ⟨?_, ?_, ?_, ?_, fun b hb hm => hch b hb (fun e => hm (by simp [e])) fun e => hm (by simp [e]), by simp, by simp, by simp⟩ (st6.blk _ (mgE (i := 0) rfl)) hL rfl (hO5.kept (fun b e => h6m b ?_) fun _ _ r => r) fun b e => ?_)
 ·exact st6.os.trans (hgr.os.trans hw4b.os)
 ·exact st6.tape.trans (hgr.tape.trans hw4b.tape)
 ·exact st6.output.trans (hgr.output.trans hw4b.output)
 ·omega
 ·obtain rfl : g5 = b := Option.some.inj e
  rcases hat with hat | hat
  ·exact (hnal _ hat).2
  ·omega
 ·obtain rfl : g5 = b := Option.some.inj e
  exact hat.imp id fun h => by omega
end
section
variable {w0 Wd W : World} {M0 : List Nat} {own : Blks} {X D : Nat → Prop} {gc : Nat} {kg : List Nat} {C : Clu}
theorem CluAt.kerOf {ok : Nat → Prop} {BB : List (List Nat)} {na : Option Addr} {nc : Nat} {L : List Value} (hA : CluAt ok W gc C kg BB na nc L) {n : Nat} (hn : n < 4) : ∃ g css Bs, C.kers[n]? = some (C.ker n) ∧ kg[n]? = some g ∧ BB[n]? = some (g :: Bs.flatten) ∧ KerAt ok W g (C.ker n) css Bs ∧ L[1 + n]? = some (.pointer (some ⟨g, 0, none⟩)) := by
 have h1 := hA.kerN; have h2 := hA.BBn; have h3 := hA.cells.kgN
 have ek : C.kers[n]? = some (C.ker n) := by unfold Clu.ker; simp only [Int.toNat_natCast]; rw [List.getD_eq_getElem?_getD, gEg (by omega)]; rfl
 obtain ⟨g, eg⟩ : ∃ g, kg[n]? = some g := ⟨_, gEg (by omega)⟩
 obtain ⟨B, eB⟩ : ∃ B, BB[n]? = some B := ⟨_, gEg (by omega)⟩
 obtain ⟨css, Bs, hK, rfl⟩ := hA.ker n _ g B ek eg eB
 exact ⟨g, css, Bs, ek, eg, eB, hK, hA.cells.ptr n g eg⟩
theorem cluster_send_self (P : Clus w0 M0 own X Wd D gc kg C W) (okf : Nat → Prop) (h t : Int) (m : Mail) (la : Option Addr) (lc : Nat) (ga : Option Addr) (gc' : Nat) (hh : four h = true) (hl : m.label.length * 16 ≤ 140737488351232) (hg : m.grants.length * 8 ≤ 140737488351232) (hR : MailR okf W m la lc ga gc')
  (hok' : (C.setKer h (deliverK (C.ker h) t m)).ok) (hks : ∀ x ∈ (C.ker h).threads, x.ok) :
  Calls Tryz.prog 48 #[.pointer (some ⟨gc, 0, none⟩), .int .i64 h, .int .i64 h, .int .i64 t, mailV m la lc ga gc'] W fun e W' => e = .returned (.int .i64 0) ∧ Clus w0 M0 own X Wd D gc kg (C.setKer h (deliverK (C.ker h) t m)) W' := by
 obtain ⟨n, rfl, hn⟩ := four_nat hh
 clear hh
 have HD := qh (fun (V : World) (g : Nat) (ok : Nat → Prop) css Bs (hb : Below W.heap.size W V) (hK : KerAt ok V g (C.ker n) css Bs) => kernel_Deliver ok okf V g (C.ker n) css Bs hK hks t m la lc ga gc' hl (by omega) (hR.below hb))
 have st := St.start W
 unfold mailV at *
 go_enter Tryz.func48, Tryz.ntmps48
 go_upto_region 2 with (first | go_skip | (with_reducible refine mB 42 st ?_; clear st; intro g9 w9 hg9 st))
 have st := st.drew
 have HBl := qh st.below
 have P2 := P.below st.below
 have hgW : gc < W.heap.size := by
  obtain ⟨_, _, _, _, _, hA, _⟩ := P.open
  exact hA.lt gc (mem_cluB.2 (.inl rfl))
 clear P
 obtain ⟨ok, BB, na, nc, L, hA, hno, -, hTo⟩ := P2.open
 obtain ⟨g, css, Bs, ek, eg, eB, hK0, f1⟩ := hA.kerOf hn
 have hg9 : W.heap.size ≤ g9 := by have := st.mine _ (mgE (i := 0) rfl); simpa using this
 have HC := qh (show ∀ (V : World) (bl : Blks), St [g9] w9.drew V bl → V.cell? ⟨gc, 1 + n, none⟩ = some (.pointer (some ⟨g, 0, none⟩)) from fun V bl s => by
  have hb : V.heap[gc]? = some (.cells L.toArray 84 (0, 0)) := (s.frame gc (hA.lt gc (mem_cluB.2 (.inl rfl))) (by simp; omega)).trans hA.blk
  rw [cell_of_row V gc _ L.toArray _ (0, 0) hb]
  simpa using f1)
 have HT := qh (fun V k' (hT : KerTo ok w9.drew g Bs V k') (h : (C.setKer n k').ok) => hTo V _ h (hA.kernel hn ek eg eB hK0 hT))
 have hI := st.rebase
 simp only [List.map_cons, List.map_nil] at hI
 clear f1
 refine lex_tail (by kernel_rfl) 8 1 [8] rfl (by decide +kernel) (fun V => St [g9] w9.drew V [(g9, 42, [.int .i64 m.host, .int .i64 m.thread, .slice la m.label.length lc, .slice ga m.grants.length gc', .string m.text])]) ?_
 refine lexS 0 rfl hI ?_
 refine lexS 1 rfl hI ?_
 refine lexS 2 rfl hI ?_
 refine lexS 3 rfl hI ?_
 refine lexT (v := .pointer (some ⟨gc, 1 + n, none⟩)) 4 rfl hI (fun W hW => by (first | (go_simp; done) | (go_simp; omega) | (go_simp; intro h; omega))) ?_
 refine lexT 5 rfl hI (fun W hW => run_cell_one 74 _ rfl Tryz.isAgg74 gc (1 + n) rfl _ (HC.out W _ hW)) ?_
 refine lexS 6 rfl hI ?_
 refine lexT 7 rfl hI (fun W hW => St.run_load_agg hW 0 42 _ rfl Tryz.isAgg42 _ Tryz.sizeOf42 rfl rfl rfl rfl) ?_
 refine lex_done (by decide +kernel) ?_
 refine tail_last 8 rfl (by first | exact wanted_none rfl | exact wanted_some rfl rfl) (by decide +kernel) (by decide +kernel) fun K hK => ?_
 refine wp_callee (f := 56) (by first | (go_simp; done) | (go_simp; rfl)) ?_
 refine (HD.out _ g ok css Bs HBl.out hK0).mono ?_
 rintro e V ⟨⟨u, rfl⟩, hT⟩
 have P3 := HT.out _ _ hT hok'
 refine ⟨_, rfl, ?_⟩
 refine hK _ _ ?_; clear hK
 clear hT st hI hA hK0 ek eg eB
 go_wp2_with fail
 go_ret
 exact ⟨rfl, P3⟩
theorem CluAt.certsOf {ok : Nat → Prop} {BB : List (List Nat)} {na : Option Addr} {nc : Nat} {L : List Value} (hA : CluAt ok W gc C kg BB na nc L) {n : Nat} (hn : n < 4) : ∃ a c, L[5 + n]? = some (.slice a (C.cert n).length c) ∧ SlR ok W 4 RCert a c (C.cert n) := by
 have h1 := hA.cells.certN
 have ek : C.certs[n]? = some (C.cert n) := by unfold Clu.cert; simp only [Int.toNat_natCast]; rw [List.getD_eq_getElem?_getD, gEg (by omega)]; rfl
 obtain ⟨v, e, a, c, rfl, hc⟩ := hA.cells.cert n _ ek
 exact ⟨a, c, e, hc⟩
theorem cluster_send_not (P : Clus w0 M0 own X Wd D gc kg C W) (okf : Nat → Prop) (h v t : Int) (m : Mail) (la : Option Addr) (lc : Nat) (ga : Option Addr) (gc' : Nat) (hh : four h = true) (hne : h ≠ v) (hl : m.label.length * 16 ≤ 140737488351232) (hg : m.grants.length * 8 ≤ 140737488351232) (hR : MailR okf W m la lc ga gc')
  (hm : mayB (C.cert h) v m C.now = false) :
  Calls Tryz.prog 48 #[.pointer (some ⟨gc, 0, none⟩), .int .i64 h, .int .i64 v, .int .i64 t, mailV m la lc ga gc'] W fun e W' => e = .returned (.int .i64 8) ∧ Clus w0 M0 own X Wd D gc kg C W' := by
 obtain ⟨n, rfl, hn⟩ := four_nat hh
 clear hh
 have dne : ((n : Int) == v) = false := by simpa using hne
 clear hne
 obtain ⟨ok, BB, na, nc, L, hA, hno, -, -⟩ := P.open
 obtain ⟨ca, cc, f1, hcs⟩ := hA.certsOf hn
 have hgW := hA.lt gc (mem_cluB.2 (.inl rfl))
 have HM := qh (fun (V : World) (hb : Below W.heap.size W V) => trust_May (fun _ => True) V (C.cert n) ca cc v m la lc ga gc' C.now ⟨hg, hl⟩ ((hcs.below hb).okay fun _ _ => trivial) ⟨((hR.below hb).label).okay fun _ _ => trivial, ((hR.below hb).grants).okay fun _ _ => trivial⟩)
 rw [hm] at HM
 have HC := qh (show ∀ (V : World) (bl : Blks), St [] W V bl → V.cell? ⟨gc, 5 + n, none⟩ = some (.slice ca (C.cert n).length cc) ∧ V.cell? ⟨gc, 0, none⟩ = some (.int .i64 C.now) from fun V bl s => by
  have hb : V.heap[gc]? = some (.cells L.toArray 84 (0, 0)) := (s.frame gc hgW (by simp)).trans hA.blk
  rw [cell_of_row V gc _ L.toArray _ (0, 0) hb, cell_of_row V gc _ L.toArray _ (0, 0) hb]
  exact ⟨by simpa using f1, by simpa using hA.cells.now⟩)
 clear f1 hA hcs hno hm hR
 have st := St.start W
 unfold mailV at *
 go_enter Tryz.func48, Tryz.ntmps48
 go_upto_region 4 with (first | go_skip | (with_reducible refine mB 42 st ?_; clear st; intro g9 w9 hg9 st))
 refine det_region (by kernel_rfl) 14 rfl (fun V => St [] W V [(g9, 42, [.int .i64 m.host, .int .i64 m.thread, .slice la m.label.length lc, .slice ga m.grants.length gc', .string m.text])]) (st.drew) (by decide +kernel) ?_
 refine detS 0 rfl ?_; refine detS 1 rfl ?_; refine detS 2 rfl ?_; refine detS 3 rfl ?_
 refine detT (v := .pointer (some ⟨gc, 5 + n, none⟩)) 4 rfl (fun W hW => by (first | (go_simp; done) | (go_simp; omega) | (go_simp; intro h; omega))) ?_
 refine detT 5 rfl (fun W hW => run_cell_one 44 _ rfl Tryz.isAgg44 gc (5 + n) rfl _ (HC.out W _ hW).1) ?_
 refine detS 6 rfl ?_
 refine detT 7 rfl (fun W hW => St.run_load_agg hW 0 42 _ rfl Tryz.isAgg42 _ Tryz.sizeOf42 rfl rfl rfl rfl) ?_
 refine detS 8 rfl ?_; refine detS 9 rfl ?_; refine detS 10 rfl ?_
 refine detT 11 rfl (fun W hW => run_cell_one 3 _ rfl Tryz.isAgg3 gc 0 rfl _ (HC.out W _ hW).2) ?_
 refine det_call (fn := 55) 12 rfl (by decide +kernel) (by first | exact wanted_none rfl | exact wanted_some rfl rfl) (fun W => by first | (go_simp; done) | (go_simp; rfl)) (fun W hW => (HM.out W hW.below).mono fun e w' h => ⟨h.1, hW.call h.2⟩) ?_; simp only [kP, kA, kS, kZ]
 refine detS 13 rfl ?_
 refine det_done (by decide +kernel) ?_
 clear st
 intro V st
 go_wp2_with fail
 go_ret
 exact ⟨rfl, P.below st.below⟩
theorem CluAt.lineOf {ok : Nat → Prop} {BB : List (List Nat)} {na : Option Addr} {nc : Nat} {L : List Value} (hA : CluAt ok W gc C kg BB na nc L) {n v : Nat} (hn : n < 4) (hv : v < 4) :
  ∃ sa sc, SentR ok W sa sc (C.line n v).sent ∧ ∀ (j : Nat) (x : Value), [Value.int .i64 (C.line n v).next, .slice sa (C.line n v).sent.length sc, .int .i64 (C.line n v).high, .bool (C.line n v).seen.s0, .bool (C.line n v).seen.s1, .bool (C.line n v).seen.s2, .bool (C.line n v).seen.s3, .bool (C.line n v).seen.s4, .bool (C.line n v).seen.s5, .bool (C.line n v).seen.s6, .bool (C.line n v).seen.s7][j]? = some x → L[9 + n * 44 + v * 11 + j]? = some x := by
 have h1 := hA.cells.lineN
 have ek : C.lines[n * 4 + v]? = some (C.line n v) := by
  unfold Clu.line lineAt
  simp only [Int.toNat_natCast]
  rw [List.getD_eq_getElem?_getD, gEg (by omega)]; rfl
 obtain ⟨cs, ⟨sa, sc, rfl, hs⟩, hc⟩ := hA.cells.line _ _ ek
 exact ⟨sa, sc, hs, fun j x hx => by
  have := hc j x hx
  rwa [show 9 + (n * 4 + v) * 11 + j = 9 + n * 44 + v * 11 + j by omega] at this⟩
end
end Go.Proofs.YtnjjdpiofbajlaaGreat
