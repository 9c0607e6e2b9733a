/- Walks and plain laws that the claim rests on, part 44. -/
import Derived.Deep.DeepCutAuto
import Derived.Test.YtnjjdpiofbajlaaGreatP1
import Derived.Test.YtnjjdpiofbajlaaGreatP2
import Derived.Test.YtnjjdpiofbajlaaGreatP3
import Derived.Test.YtnjjdpiofbajlaaGreatP4
import Derived.Test.YtnjjdpiofbajlaaGreatP5
import Derived.Test.YtnjjdpiofbajlaaGreatP6
import Derived.Test.YtnjjdpiofbajlaaGreatP7
import Derived.Test.YtnjjdpiofbajlaaGreatP8
import Derived.Test.YtnjjdpiofbajlaaGreatP9
import Derived.Test.YtnjjdpiofbajlaaGreatP10
import Derived.Test.YtnjjdpiofbajlaaGreatP11
import Derived.Test.YtnjjdpiofbajlaaGreatP12
import Derived.Test.YtnjjdpiofbajlaaGreatP13
import Derived.Test.YtnjjdpiofbajlaaGreatP14
import Derived.Test.YtnjjdpiofbajlaaGreatP15
import Derived.Test.YtnjjdpiofbajlaaGreatP16
import Derived.Test.YtnjjdpiofbajlaaGreatP17
import Derived.Test.YtnjjdpiofbajlaaGreatP18
import Derived.Test.YtnjjdpiofbajlaaGreatP19
import Derived.Test.YtnjjdpiofbajlaaGreatP20
import Derived.Test.YtnjjdpiofbajlaaGreatP21
import Derived.Test.YtnjjdpiofbajlaaGreatP22
import Derived.Test.YtnjjdpiofbajlaaGreatP23
import Derived.Test.YtnjjdpiofbajlaaGreatP24
import Derived.Test.YtnjjdpiofbajlaaGreatP25
import Derived.Test.YtnjjdpiofbajlaaGreatP26
import Derived.Test.YtnjjdpiofbajlaaGreatP27
import Derived.Test.YtnjjdpiofbajlaaGreatP28
import Derived.Test.YtnjjdpiofbajlaaGreatP29
import Derived.Test.YtnjjdpiofbajlaaGreatP30
import Derived.Test.YtnjjdpiofbajlaaGreatP31
import Derived.Test.YtnjjdpiofbajlaaGreatP32
import Derived.Test.YtnjjdpiofbajlaaGreatP33
import Derived.Test.YtnjjdpiofbajlaaGreatP34
import Derived.Test.YtnjjdpiofbajlaaGreatP35
set_option linter.unusedSimpArgs false
set_option linter.unusedVariables false
set_option maxHeartbeats 16000000
set_option maxRecDepth 100000
/- Blocks that may be written: told memory that is free. No program is in sight. -/
namespace Go.Proofs.YtnjjdpiofbajlaaGreat
open Go.RowKit
def FreeB (w : World) (b : Nat) : Prop := ∃ cs e, w.heap[b]? = some (.cells cs e (0, 0))
theorem FreeB.at {w w' : World} {b : Nat} (h : FreeB w b) (e : w'.heap[b]? = w.heap[b]?) : FreeB w' b := by
 obtain ⟨cs, t, h⟩ := h
 exact ⟨cs, t, e.trans h⟩
theorem Own.slrF {base : Nat} {e : TypeId} {w : World} {α : Type} {sz : Nat} {R : List Value → α → Prop} {a : Option Addr} {c : Nat} {xs : List α} (h : Own base e w sz R a c xs) : SlR (fun b => base ≤ b ∧ FreeB w b) w sz R a c xs := by
 have s := h.slr (ok := fun b => base ≤ b) fun _ h => h
 obtain ⟨css, h1, h2, h3, h4⟩ := h
 rcases h4.2 with ⟨hv, hn⟩ | ⟨g, cap, cur, hv, hg, hh, hnc, hm, hs, ht⟩
 ·simp only [Value.slice.injEq] at hv
  obtain ⟨rfl, _, rfl⟩ := hv
  have : xs = [] := List.eq_nil_of_length_eq_zero hn
  subst this
  exact SlR.nil _ _ _ _
 ·simp only [Value.slice.injEq] at hv
  obtain ⟨rfl, _, rfl⟩ := hv
  refine ⟨s.1, s.2.1, s.2.2.1, fun i x hx => ?_⟩
  obtain ⟨b, o, cs, ha, hb, r⟩ := s.2.2.2 i x hx
  have hbg : g = b := by simp at ha; exact ha.1
  exact ⟨b, o, cs, ha, ⟨hb, hbg ▸ ⟨_, _, hh⟩⟩, r⟩
theorem Own.slrFS {base : Nat} {e : TypeId} {M : List Nat} {w0 w : World} {α : Type} {sz : Nat} {R : List Value → α → Prop} {a : Option Addr} {c : Nat} {xs : List α} {own : Blks} (h : Own base e w sz R a c xs) (st : St M w0 w own) (hT : ∀ x ∈ own, x.2.1 ≠ e) :
  SlR (fun b => base ≤ b ∧ b < w.heap.size ∧ b ∉ own.map (·.1) ∧ FreeB w b) w sz R a c xs := by
 have hne := fun x (hx : x ∈ own) => h.apartT (st.blk x hx) (hT x hx)
 have s := h.slrF
 refine ⟨s.1, s.2.1, s.2.2.1, fun i x hx => ?_⟩
 obtain ⟨b, o, cs, ha, hb, hlt, r⟩ := s.2.2.2 i x hx
 refine ⟨b, o, cs, ha, ⟨hb.1, hlt, fun hm => ?_, hb.2⟩, hlt, r⟩
 obtain ⟨y, hy, e2⟩ := List.mem_map.1 hm
 exact hne y hy (by rw [ha, ← e2]; rfl)
end Go.Proofs.YtnjjdpiofbajlaaGreat

/- The walks through the kernel's mail and Deliver. -/
namespace Go.Proofs.YtnjjdpiofbajlaaGreat
open Go.RowKit
theorem kernel_mailF (ok : Nat → Prop) (w : World) (m : Mail) (la : Option Addr) (lc : Nat) (ga : Option Addr) (gc : Nat) (hl : m.label.length * 16 ≤ 140737488355328) (hg : m.grants.length * 8 ≤ 140737488355328) (hR : MailR ok w m la lc ga gc) :
  Calls Tryz.prog 45 #[mailV m la lc ga gc] w fun e w' => ∃ a1 k1 a2 k2, e = .returned (mailV m a1 k1 a2 k2) ∧ Below w.heap.size w w' ∧ MailR (fun b => w.heap.size ≤ b ∧ FreeB w' b) w' m a1 k1 a2 k2 := by
 unfold mailV
 have HL := qh (fun (W : World) (h : Below w.heap.size w W) => kernel_levels ok W la lc m.label hl (hR.label.below h))
 have HN := qh (fun (W : World) (h : Below w.heap.size w W) => kernel_numbers ok W ga gc m.grants hg (hR.grants.below h))
 have st := St.start w
 go_enter Tryz.func45, Tryz.ntmps45
 go_wp2_with (first | go_skip | (with_reducible refine mB 42 st ?_; clear st; intro g1 w1 hg1 st) | (with_reducible refine mA st Tryz.zeroValue42 ?_; clear st; intro g2 w2 hg2 st))
 have st := st.drew
 have hI := St.hand (st.blk _ (mgE (i := 0) rfl))
 refine lex_tail (by kernel_rfl) 7 3 [7, 8, 9] rfl (by decide +kernel) (fun W => St [g1] W W [(g1, 42, [.int .i64 m.host, .int .i64 m.thread, .slice la m.label.length lc, .slice ga m.grants.length gc, .string m.text])]) ?_
 refine lexS 0 rfl hI ?_
 refine lexT 1 rfl hI (fun W hW => St.run_load hW 0 27 _ rfl Tryz.isAgg27 rfl rfl rfl) ?_
 refine lexS 3 rfl hI ?_
 refine lexT 4 rfl hI (fun W hW => St.run_load hW 0 28 _ rfl Tryz.isAgg28 rfl rfl rfl) ?_
 clear hI
 refine lexO 2 rfl fun K hK => ?_
 refine wp_callee (f := 43) (by first | (go_simp; done) | (go_simp; rfl)) ?_
 refine (HL.out _ st.below).mono ?_
 rintro e v1 ⟨a1, k1, rfl, hb1, hO1⟩
 have hz1 := st.size
 refine ⟨_, rfl, ?_⟩
 replace st := st.call hb1
 clear hb1
 have hI := St.hand (st.blk _ (mgE (i := 0) rfl))
 refine hK _ _ (hI) ?_; clear hK; simp only [kP, kA, kS, kZ]
 refine lexS 6 rfl hI ?_
 clear hI
 refine lexO 5 rfl fun K hK => ?_
 refine wp_callee (f := 44) (by first | (go_simp; done) | (go_simp; rfl)) ?_
 refine (HN.out _ st.below).mono ?_
 rintro e v2 ⟨a2, k2, rfl, hb2, hO2⟩
 have hz2 := st.size
 refine ⟨_, rfl, ?_⟩
 replace st := st.call hb2
 replace hO1 := hO1.below hb2
 clear hb2
 refine hK _ _ (St.hand (st.blk _ (mgE (i := 0) rfl))) ?_; clear hK; simp only [kP, kA, kS, kZ]
 refine lex_done (by decide +kernel) ?_
 have h1b := st.blk _ (mgE (i := 0) rfl)
 refine tail_next 7 rfl (by first | exact wanted_none rfl | exact wanted_some rfl rfl) (by decide +kernel) fun K hK => ?_
 refine wp_store' st 27 _ _ rfl _ Tryz.sizeOf27 ⟨0, _, _, _, _, _, rfl, rfl, rfl, rfl, rfl, rfl, ?_⟩; clear st; intro w3 st hw3m hw3z; simp [Act.eval, Act.put, Value.cells, putL] at st
 refine hK _ _ ?_; clear hK
 replace hO1 := hO1.stored h1b (by simp) hw3m
 replace hO2 := hO2.stored h1b (by simp) hw3m
 clear h1b hw3m hw3z
 refine tail_take 8 rfl (by first | exact wanted_none rfl | exact wanted_some rfl rfl) (by decide +kernel) (by first | (go_simp; done) | (go_simp; rfl)) ?_; simp only [kP, kA, kS, kZ]
 have h1b := st.blk _ (mgE (i := 0) rfl)
 refine tail_last 9 rfl (by first | exact wanted_none rfl | exact wanted_some rfl rfl) (by decide +kernel) (by decide +kernel) fun K hK => ?_
 refine wp_store' st 28 _ _ rfl _ Tryz.sizeOf28 ⟨0, _, _, _, _, _, rfl, rfl, rfl, rfl, rfl, rfl, ?_⟩; clear st; intro w4 st hw4m hw4z; simp [Act.eval, Act.put, Value.cells, putL] at st
 refine hK _ _ ?_; clear hK
 replace hO1 := hO1.stored h1b (by simp) hw4m
 replace hO2 := hO2.stored h1b (by simp) hw4m
 clear h1b hw4m hw4z
 have h2b := st.blk _ (mgE (i := 1) rfl)
 have HO := qh (show ∀ W, (∀ b, b ≠ g2 → W.heap[b]? = w4.heap[b]?) → MailR (fun b => w.heap.size ≤ b ∧ FreeB W b) W m a1 k1 a2 k2 from fun W h => ⟨((hO1.stored h2b (by simp) h).slrF).okay fun b hb => ⟨by have := hb.1; omega, hb.2⟩, ((hO2.stored h2b (by simp) h).slrF).okay fun b hb => ⟨by have := hb.1; omega, hb.2⟩⟩)
 clear hO1 hO2 h2b
 go_wp2_with (first | go_skip | (with_reducible refine mXA st Tryz.isAgg42 Tryz.sizeOf42 ?_) | (with_reducible refine mS 1 st Tryz.sizeOf42 ?_; clear st; intro w5 st hw5m hw5z))
 have hc := fun j => st.cell (i := 1) rfl j
 refine bodyPost_ret (v := mailV m a1 k1 a2 k2) ?hr rfl ⟨_, _, _, _, rfl, st.below, HO.out _ hw5m⟩
 case hr => simp [results, Tryz.results45, go_sem, hc, mailV, putL]; try rfl
end Go.Proofs.YtnjjdpiofbajlaaGreat

/- The walk through the kernel's Thread: a copy of a thread, of its own memory. -/
namespace Go.Proofs.YtnjjdpiofbajlaaGreat
open Go.RowKit
theorem MailR.keepF {B : Nat} {w w' : World} {m : Mail} {la : Option Addr} {lc : Nat} {ga : Option Addr} {gc : Nat} (h : MailR (fun b => B ≤ b ∧ FreeB w b) w m la lc ga gc) (hb : Below w.heap.size w w') : MailR (fun b => B ≤ b ∧ FreeB w' b) w' m la lc ga gc :=
 ⟨h.label.move hb.size (fun b hb' ho => ⟨⟨ho.1, ho.2.at (hb.block b hb')⟩, hb.block b hb'⟩) fun _ _ r => r, h.grants.move hb.size (fun b hb' ho => ⟨⟨ho.1, ho.2.at (hb.block b hb')⟩, hb.block b hb'⟩) fun _ _ r => r⟩
def besF (B : Nat) (o : Option Addr) (W : World) (b : Nat) : Prop := besides B o b ∧ FreeB W b
def ThreadPostF (w : World) (x : Thr) (e : Ending) (w' : World) : Prop :=
 ∃ la lc oa oc ba bc ma mc, e = .returned (thrV x la lc oa oc ba bc ma mc) ∧ Below w.heap.size w w' ∧ ThrS (fun b => w.heap.size ≤ b ∧ FreeB w' b) w' x la lc oa oc ba bc ma mc
theorem kernel_Thread_outF (w : World) (g : Nat) (t : Int) (h4 : four t = false) :
  Calls Tryz.prog 31 #[.pointer (some ⟨g, 0, none⟩), .int .i64 t] w (ThreadPostF w zeroT) := by
 have st := St.start w
 rcases four_no h4 with d | ⟨d0, d⟩
 all_goals
  clear h4
  go_enter Tryz.func31, Tryz.ntmps31
  go_wp2_with (first | go_skip | (with_reducible refine mA st Tryz.zeroValue39 ?_; clear st; intro g1 w1 hg1 st) | (with_reducible refine mS 0 st Tryz.sizeOf39 ?_; clear st; intro w2 st hw2m hw2z))
  have hc := fun j => st.cell (i := 0) rfl j
  refine bodyPost_ret (v := thrV zeroT none 0 none 0 none 0 none 0) ?hr rfl ⟨none, 0, none, 0, none, 0, none, 0, rfl, st.below, ThrS.zero _ _⟩
  case hr => simp [results, Tryz.results31, go_sem, hc, thrV, zeroT]; try rfl
theorem kernel_ThreadF (ok : Nat → Prop) (w : World) (g : Nat) (k : Ker) (css : List (List Value)) (Bs : List (List Nat)) (h : KerAt ok w g k css Bs) (hk : ∀ x ∈ k.threads, x.ok) (t : Int) :
  Calls Tryz.prog 31 #[.pointer (some ⟨g, 0, none⟩), .int .i64 t] w (ThreadPostF w (thrOf k t)) := by
 unfold thrOf
 by_cases h4 : four t = true
 case neg => rw [if_neg h4]; exact kernel_Thread_outF w g t (by simpa using h4)
 rw [if_pos h4]
 obtain ⟨n, rfl, hn⟩ := four_nat h4
 obtain ⟨x, xa, xc, oa, oc, ba, bc, ma, mc, ex, ec, eB, hT, hb⟩ := h.open hn
 have hx := hk x (mgE ex)
 have hpre := h.preLen hn
 rw [Ker.thr_at ex]
 have st0 := St.hand hb
 unfold thrC at st0 hb
 have d1 : decide ((n : Int) < 0) = false := by simp
 have d2 : decide ((4 : Int) ≤ n) = false := by simp; omega
 have hgg : ¬ ok g := h.apart g (by simp)
 have hgw := h.lt g (by simp)
 have hxl := goodL_len hx.good; have hxo := hx.ownL; have hxb := hx.objs; have hxm := hx.mailN
 have HX := qh (fun o (ho : o ∈ x.objects) => goodL_len (hx.obj o ho).1)
 have HY := qh (fun m (hm : m ∈ x.mails) => (show m.label.length ≤ 8 ∧ m.grants.length ≤ 8 from ⟨goodL_len (mail_facts (hx.mail m hm)).2.2.1, (grants_facts (mail_facts (hx.mail m hm)).2.2.2.1).1⟩))
 have hT := hT.later (Below.refl _ _)
 have HKp := qh (show ∀ (W : World) (bl : Blks), St [g] w W bl → Keeps (fun b => ok b ∧ b < w.heap.size) w W from fun W bl s => s.keeps (by simp; intro h; exact absurd h hgg))
 have HB := qh (show ∀ (W : World) (bl : Blks), St [g] w W bl → (g, 98, winC (preC k css n) [.slice xa x.label.length xc, .slice oa x.own.length oc, .string x.text, .slice ba x.objects.length bc, .slice ma x.mails.length mc] (postC k css n)) ∈ bl → Below w.heap.size w W from fun W bl s hm => st0.below2 s (by simpa using hm))
 have HO := qh (show ∀ (W : World) (bl : Blks), St [g] w W bl → SlR (fun b => b < w.heap.size) W 2 (RObj (fun b => ok b ∧ b < w.heap.size) w) ba bc x.objects from fun W bl s => (hT.objs.slr (ok := fun b => ba.map (·.block) = some b) fun _ h => h).move s.size (fun b hb' ho => ⟨hb', s.frame b hb' (by simp; rintro rfl; exact h.gOut eB (mem_rows2.2 (.inl ho)))⟩) fun _ _ r => r)
 have HM := qh (show ∀ (W : World) (bl : Blks), St [g] w W bl → SlR (fun b => b < w.heap.size) W 5 (RMail (fun b => ok b ∧ b < w.heap.size) w) ma mc x.mails from fun W bl s => (hT.mails.slr (ok := fun b => ma.map (·.block) = some b) fun _ h => h).move s.size (fun b hb' ho => ⟨hb', s.frame b hb' (by simp; rintro rfl; exact h.gOut eB (mem_rows2.2 (.inr ho)))⟩) fun _ _ r => r)
 have HL := qh (fun (W : World) (bl : Blks) (hW : St [g] w W bl) => kernel_levels (fun b => ok b ∧ b < w.heap.size) W xa xc x.label (by omega) (hT.label.keep (HKp.out W _ hW)))
 have HN := qh (fun (W : World) (bl : Blks) (hW : St [g] w W bl) => kernel_numbers (fun b => ok b ∧ b < w.heap.size) W oa oc x.own (by omega) (hT.own.keep (HKp.out W _ hW)))
 have st := st0
 clear st0 hb hT h ex ec eB hx hk h4 hxo hxl
 go_enter Tryz.func31, Tryz.ntmps31
 go_upto_region 3 with (first | go_skip | (with_reducible refine mA st Tryz.zeroValue39 ?_; clear st; intro g1 w1 hg1 st))
 go_upto_region 4 with (first | go_skip | (with_reducible refine at_load 39 ?_; refine mem_loadWin st 39 _ rfl (wanted_none rfl) Tryz.isAgg39 _ Tryz.sizeOf39 ?_; refine ⟨0, _, _, _, _, _, _, hpre, rfl, rfl, rfl, ?_⟩) | (with_reducible refine mA st Tryz.zeroValue39 ?_; clear st; intro g2 w2 hg2 st) | (with_reducible refine mS 2 st Tryz.sizeOf39 ?_; clear st; intro w3 st hw3m hw3z))
 clear hw3m hw3z
 simp only [kP, kA, kS, kZ]
 go_cut [6] (fun s6 wx => ∃ (g6 : Nat) (la : Option Addr) (lc : Nat) (na : Option Addr) (nc : Nat), s6 = .pointer (some ⟨g6, 0, none⟩) ∧ St [g] w wx [(g, 98, winC (preC k css n) [.slice xa x.label.length xc, .slice oa x.own.length oc, .string x.text, .slice (ba) x.objects.length bc, .slice (ma) x.mails.length mc] (postC k css n)), (g1, 39, [.slice none 0 0, .slice none 0 0, .string ⟨#[]⟩, .slice none 0 0, .slice none 0 0]), (g2, 39, [.slice xa x.label.length xc, .slice oa x.own.length oc, .string x.text, .slice (ba) x.objects.length bc, .slice (ma) x.mails.length mc]), (g6, 39, [.slice la x.label.length lc, .slice na x.own.length nc, .string x.text, .slice none 0 0, .slice none 0 0])] ∧ SlR (fun b => w.heap.size ≤ b ∧ b < wx.heap.size ∧ b ∉ [g, g1, g2, g6] ∧ FreeB wx b) wx 2 RLev la lc x.label ∧ SlR (fun b => w.heap.size ≤ b ∧ b < wx.heap.size ∧ b ∉ [g, g1, g2, g6] ∧ FreeB wx b) wx 1 RInt na nc x.own)
 case first =>
  have st := st.drew
  have hI := st
  refine lex_region (by kernel_rfl) 11 rfl (fun W => St [g] w W [(g, 98, winC (preC k css n) [.slice xa x.label.length xc, .slice oa x.own.length oc, .string x.text, .slice (ba) x.objects.length bc, .slice (ma) x.mails.length mc] (postC k css n)), (g1, 39, [.slice none 0 0, .slice none 0 0, .string ⟨#[]⟩, .slice none 0 0, .slice none 0 0]), (g2, 39, [.slice xa x.label.length xc, .slice oa x.own.length oc, .string x.text, .slice (ba) x.objects.length bc, .slice (ma) x.mails.length mc])]) ?_
  refine lexS 0 rfl hI ?_
  refine lexT 1 rfl hI (fun W hW => St.run_load hW 2 27 _ rfl Tryz.isAgg27 rfl rfl rfl) ?_
  refine lexS 3 rfl hI ?_
  refine lexT 4 rfl hI (fun W hW => St.run_load hW 2 28 _ rfl Tryz.isAgg28 rfl rfl rfl) ?_
  refine lexS 6 rfl hI ?_
  refine lexT 7 rfl hI (fun W hW => St.run_load hW 2 9 _ rfl Tryz.isAgg9 rfl rfl rfl) ?_
  clear hI
  refine lex_each [2, 9] (by decide +kernel) (by decide) ?_; intro i hi K hK; simp only [List.mem_cons, List.not_mem_nil, or_false] at hi; rcases hi with rfl | rfl <;> refine ⟨_, rfl, (by first | exact wanted_none rfl | exact wanted_some rfl rfl), ?_⟩
  ·refine wp_callee (f := 43) (by first | (go_simp; done) | (go_simp; rfl)) ?_
   refine (HL.out _ _ st).mono ?_
   rintro e v4 ⟨a4, k4, rfl, hb4, hO4⟩
   have hz4 := st.size
   refine ⟨_, rfl, ?_⟩
   replace st := st.call hb4
   clear hb4
   refine hK _ _ (st) ?_; clear hK; simp only [kP, kA, kS, kZ]
   refine lex_each [5, 9] (by decide +kernel) (by decide) ?_; intro i hi K hK; simp only [List.mem_cons, List.not_mem_nil, or_false] at hi; rcases hi with rfl | rfl <;> refine ⟨_, rfl, (by first | exact wanted_none rfl | exact wanted_some rfl rfl), ?_⟩
   ·refine wp_callee (f := 44) (by first | (go_simp; done) | (go_simp; rfl)) ?_
    refine (HN.out _ _ st).mono ?_
    rintro e v5 ⟨a5, k5, rfl, hb5, hO5⟩
    have hz5 := st.size
    refine ⟨_, rfl, ?_⟩
    replace st := st.call hb5
    replace hO4 := hO4.below hb5
    clear hb5
    have hI := st
    refine hK _ _ (hI) ?_; clear hK; simp only [kP, kA, kS, kZ]
    refine lexS 8 rfl hI ?_
    clear hI
    refine lexO 9 rfl fun K hK => ?_
    refine wp_alloc st 39 rfl _ Tryz.zeroValue39 _ rfl ?_; clear st; intro g6 w6 hg6 st hg6b; simp [Act.eval, Act.put, Value.cells, putL] at st
    replace hO4 := hO4.below hg6b
    replace hO5 := hO5.below hg6b
    clear hg6b
    refine hK _ _ (st.take 3) ?_; clear hK; simp only [kP, kA, kS, kZ]
    refine lexO 10 rfl fun K hK => ?_
    have hn : (g : Nat) ≠ g6 ∧ g1 ≠ g6 ∧ g2 ≠ g6 := by
     have := st.ne
     simp only [List.pairwise_cons, List.mem_cons, List.not_mem_nil, or_false, forall_eq_or_imp, forall_eq] at this
     exact ⟨this.1.2.2, this.2.1.2, this.2.2.1⟩
    have h6b := st.blk _ (mgE (i := 3) rfl)
    refine wp_store' st 39 _ _ rfl _ Tryz.sizeOf39 ⟨3, _, _, _, _, _, rfl, rfl, rfl, rfl, rfl, rfl, ?_⟩; clear st; intro w7 st hw7m hw7z; simp [Act.eval, Act.put, Value.cells, putL] at st
    replace hO4 := hO4.stored h6b (by simp) hw7m
    replace hO5 := hO5.stored h6b (by simp) hw7m
    clear h6b hw7m hw7z
    refine hK _ _ (st.take 3) ?_; clear hK; simp only [kP, kA, kS, kZ]
    refine lex_done (by decide +kernel) ?_
    go_wp2_with fail
    go_meet
    exact ⟨g6, a4, k4, a5, k5, rfl, st, (hO4.slrFS st (by simp)).okay fun b hb => ⟨by omega, hb.2.1, by simpa using hb.2.2.1, hb.2.2.2⟩, (hO5.slrFS st (by simp)).okay fun b hb => ⟨by omega, hb.2.1, by simpa using hb.2.2.1, hb.2.2.2⟩⟩
   ·refine wp_alloc st 39 rfl _ Tryz.zeroValue39 _ rfl ?_; clear st; intro g6 w6 hg6 st hg6b; simp [Act.eval, Act.put, Value.cells, putL] at st
    replace hO4 := hO4.below hg6b
    clear hg6b
    refine hK _ _ (st.take 3) ?_; clear hK; simp only [kP, kA, kS, kZ]
    refine lexO 5 rfl fun K hK => ?_
    refine wp_callee (f := 44) (by first | (go_simp; done) | (go_simp; rfl)) ?_
    refine (HN.out _ _ st).mono ?_
    rintro e v5 ⟨a5, k5, rfl, hb5, hO5⟩
    have hz5 := st.size
    refine ⟨_, rfl, ?_⟩
    replace st := st.call hb5
    replace hO4 := hO4.below hb5
    clear hb5
    have hI := st.take 3
    refine hK _ _ (hI) ?_; clear hK; simp only [kP, kA, kS, kZ]
    refine lexS 8 rfl hI ?_
    clear hI
    refine lexO 10 rfl fun K hK => ?_
    have hn : (g : Nat) ≠ g6 ∧ g1 ≠ g6 ∧ g2 ≠ g6 := by
     have := st.ne
     simp only [List.pairwise_cons, List.mem_cons, List.not_mem_nil, or_false, forall_eq_or_imp, forall_eq] at this
     exact ⟨this.1.2.2, this.2.1.2, this.2.2.1⟩
    have h6b := st.blk _ (mgE (i := 3) rfl)
    refine wp_store' st 39 _ _ rfl _ Tryz.sizeOf39 ⟨3, _, _, _, _, _, rfl, rfl, rfl, rfl, rfl, rfl, ?_⟩; clear st; intro w7 st hw7m hw7z; simp [Act.eval, Act.put, Value.cells, putL] at st
    replace hO4 := hO4.stored h6b (by simp) hw7m
    replace hO5 := hO5.stored h6b (by simp) hw7m
    clear h6b hw7m hw7z
    refine hK _ _ (st.take 3) ?_; clear hK; simp only [kP, kA, kS, kZ]
    refine lex_done (by decide +kernel) ?_
    go_wp2_with fail
    go_meet
    exact ⟨g6, a4, k4, a5, k5, rfl, st, (hO4.slrFS st (by simp)).okay fun b hb => ⟨by omega, hb.2.1, by simpa using hb.2.2.1, hb.2.2.2⟩, (hO5.slrFS st (by simp)).okay fun b hb => ⟨by omega, hb.2.1, by simpa using hb.2.2.1, hb.2.2.2⟩⟩
  ·refine wp_alloc st 39 rfl _ Tryz.zeroValue39 _ rfl ?_; clear st; intro g6 w6 hg6 st hg6b; simp [Act.eval, Act.put, Value.cells, putL] at st
   clear hg6b
   refine hK _ _ (st.take 3) ?_; clear hK; simp only [kP, kA, kS, kZ]
   refine lexO 2 rfl fun K hK => ?_
   refine wp_callee (f := 43) (by first | (go_simp; done) | (go_simp; rfl)) ?_
   refine (HL.out _ _ st).mono ?_
   rintro e v4 ⟨a4, k4, rfl, hb4, hO4⟩
   have hz4 := st.size
   refine ⟨_, rfl, ?_⟩
   replace st := st.call hb4
   clear hb4
   refine hK _ _ (st.take 3) ?_; clear hK; simp only [kP, kA, kS, kZ]
   refine lexO 5 rfl fun K hK => ?_
   refine wp_callee (f := 44) (by first | (go_simp; done) | (go_simp; rfl)) ?_
   refine (HN.out _ _ st).mono ?_
   rintro e v5 ⟨a5, k5, rfl, hb5, hO5⟩
   have hz5 := st.size
   refine ⟨_, rfl, ?_⟩
   replace st := st.call hb5
   replace hO4 := hO4.below hb5
   clear hb5
   have hI := st.take 3
   refine hK _ _ (hI) ?_; clear hK; simp only [kP, kA, kS, kZ]
   refine lexS 8 rfl hI ?_
   clear hI
   refine lexO 10 rfl fun K hK => ?_
   have hn : (g : Nat) ≠ g6 ∧ g1 ≠ g6 ∧ g2 ≠ g6 := by
    have := st.ne
    simp only [List.pairwise_cons, List.mem_cons, List.not_mem_nil, or_false, forall_eq_or_imp, forall_eq] at this
    exact ⟨this.1.2.2, this.2.1.2, this.2.2.1⟩
   have h6b := st.blk _ (mgE (i := 3) rfl)
   refine wp_store' st 39 _ _ rfl _ Tryz.sizeOf39 ⟨3, _, _, _, _, _, rfl, rfl, rfl, rfl, rfl, rfl, ?_⟩; clear st; intro w7 st hw7m hw7z; simp [Act.eval, Act.put, Value.cells, putL] at st
   replace hO4 := hO4.stored h6b (by simp) hw7m
   replace hO5 := hO5.stored h6b (by simp) hw7m
   clear h6b hw7m hw7z
   refine hK _ _ (st.take 3) ?_; clear hK; simp only [kP, kA, kS, kZ]
   refine lex_done (by decide +kernel) ?_
   go_wp2_with fail
   go_meet
   exact ⟨g6, a4, k4, a5, k5, rfl, st, (hO4.slrFS st (by simp)).okay fun b hb => ⟨by omega, hb.2.1, by simpa using hb.2.2.1, hb.2.2.2⟩, (hO5.slrFS st (by simp)).okay fun b hb => ⟨by omega, hb.2.1, by simpa using hb.2.2.1, hb.2.2.2⟩⟩
 case rest =>
  obtain ⟨g6, la, lc, na, nc, rfl, st, hRl, hRn⟩ := hcut
  have hwz := st.size
  have hwg : g < wc.heap.size ∧ g1 < wc.heap.size ∧ g2 < wc.heap.size ∧ g6 < wc.heap.size := ⟨st.ltAt (i := 0) rfl, st.ltAt (i := 1) rfl, st.ltAt (i := 2) rfl, st.ltAt (i := 3) rfl⟩
  have stK := st
  have st := st.rebase
  simp only [List.map_cons, List.map_nil] at st
  obtain ⟨i0, hi, hz0, hz1, hz2⟩ := info_parts info_Object
  go_wp2_with (first | go_skip | (with_reducible refine mX st Tryz.isAgg36 ?_))
  go_loopw [40] (fun v40 wr => ∃ (j : Nat) (o : Option Addr) (c : Nat), j ≤ x.objects.length ∧ v40 = .int .i64 j ∧ St [g, g1, g2, g6] wc wr [(g, 98, winC (preC k css n) [.slice xa x.label.length xc, .slice oa x.own.length oc, .string x.text, .slice (ba) x.objects.length bc, .slice (ma) x.mails.length mc] (postC k css n)), (g1, 39, [.slice none 0 0, .slice none 0 0, .string ⟨#[]⟩, .slice none 0 0, .slice none 0 0]), (g2, 39, [.slice xa x.label.length xc, .slice oa x.own.length oc, .string x.text, .slice (ba) x.objects.length bc, .slice (ma) x.mails.length mc]), (g6, 39, [.slice la x.label.length lc, .slice na x.own.length nc, .string x.text, .slice o j c, .slice none 0 0])] ∧ Own wc.heap.size 58 wr 2 (RObj (besF wc.heap.size o wr) wr) o c (x.objects.take j)) (fun v40 _ => x.objects.length - (intOf v40).toNat)
  case atStart => exact ⟨0, none, 0, Nat.zero_le _, rfl, st, Own.nil _ _ _ _ _⟩
  case round =>
   clear st
   obtain ⟨j, o, c, hj, rfl, st, hO⟩ := hrel
   by_cases hlt : j < x.objects.length
   ·have stW := St.back stK st
    obtain ⟨b, o1, la1, lc1, rfl, hbw, hb, hA, hC⟩ := (HO.out _ _ stW).obj_at j hlt
    have stR := st
    have st := st.rebase
    simp only [List.map_cons, List.map_nil] at st
    have HC := qh hC
    have h8 := HX.out _ (List.getElem_mem hlt)
    have HLv := qh (fun (W : World) (bl : Blks) (hW : St [g] w W bl) => kernel_levels (fun b => ok b ∧ b < w.heap.size) W la1 lc1 x.objects[j].label (by omega) (hA.keep (HKp.out W _ hW)))
    have hwr := stR.size
    have hd : decide ((j : Int) < x.objects.length) = true := by simp; omega
    clear hC
    go_wp2_with (first | go_skip | (with_reducible refine at_load 58 ?_; refine wpList_load_cells (wanted_none rfl) 58 _ rfl Tryz.isAgg58 _ Tryz.sizeOf58 b (o1 + j * 2) rfl [.slice la1 x.objects[j].label.length lc1, .string x.objects[j].text] rfl HC.out ?_) | (with_reducible refine mA st Tryz.zeroValue58 ?_; clear st; intro g8 w8 hg8 st) | (with_reducible refine mS 4 st Tryz.sizeOf58 ?_; clear st; intro w9 st hw9m hw9z))
    clear hw9m hw9z
    have st := st.drew
    have hI := St.back stR st
    refine lex_tail (by kernel_rfl) 11 1 [11] rfl (by decide +kernel) (fun W => St [g, g1, g2, g6] wc W [(g, 98, winC (preC k css n) [.slice xa x.label.length xc, .slice oa x.own.length oc, .string x.text, .slice (some ⟨b, o1, none⟩) x.objects.length bc, .slice (ma) x.mails.length mc] (postC k css n)), (g1, 39, [.slice none 0 0, .slice none 0 0, .string ⟨#[]⟩, .slice none 0 0, .slice none 0 0]), (g2, 39, [.slice xa x.label.length xc, .slice oa x.own.length oc, .string x.text, .slice (some ⟨b, o1, none⟩) x.objects.length bc, .slice (ma) x.mails.length mc]), (g6, 39, [.slice la x.label.length lc, .slice na x.own.length nc, .string x.text, .slice o j c, .slice none 0 0]), (g8, 58, [.slice la1 x.objects[j].label.length lc1, .string x.objects[j].text])]) ?_
    refine lexS 0 rfl hI ?_
    refine lexT 1 rfl hI (fun W hW => St.run_load hW 3 36 _ rfl Tryz.isAgg36 rfl rfl rfl) ?_
    refine lexS 2 rfl hI ?_
    refine lexT 3 rfl hI (fun W hW => St.run_load hW 4 27 _ rfl Tryz.isAgg27 rfl rfl rfl) ?_
    refine lexS 5 rfl hI ?_
    refine lexT 6 rfl hI (fun W hW => St.run_load hW 4 9 _ rfl Tryz.isAgg9 rfl rfl rfl) ?_
    clear hI
    refine lexO 4 rfl fun K hK => ?_
    refine wp_callee (f := 43) (by first | (go_simp; done) | (go_simp; rfl)) ?_
    have hz4 := st.size
    refine (HLv.out _ _ (St.back stK (St.back stR st))).mono ?_
    rintro e v4 ⟨a4, k4, rfl, hb4, hO4⟩
    refine ⟨_, rfl, ?_⟩
    replace st := st.call hb4
    clear hb4
    have hI := St.back stR st
    refine hK _ _ (hI) ?_; clear hK; simp only [kP, kA, kS, kZ]
    refine lexS 7 rfl hI ?_
    clear hI
    refine lexO 8 rfl fun K hK => ?_
    refine wp_build1 st 36 58 _ rfl Tryz.underlying36 2 Tryz.sizeOf58 (by decide) (by decide) _ Tryz.zeroValue58 _ rfl rfl ?_; clear st; intro g10 w10 hg10 hg10e st hg10b hw10z; clear hg10e; simp [Act.eval, Act.put, Value.cells, putL] at st
    replace hO4 := hO4.below hg10b
    clear hg10b hw10z
    have hz10 := st.size
    have hBw : Below wr.heap.size wr w10 := stR.below2 st (by simp)
    have stD := St.back stR st
    clear st
    have st := stD
    clear stD
    refine hK _ _ (st.take 5) ?_; clear hK; simp only [kP, kA, kS, kZ]
    refine lexO 9 rfl fun K hK => ?_
    have hOw : Own wc.heap.size 58 w10 2 (RObj (besF wc.heap.size o w10) w10) o c (x.objects.take j) := (hO.below hBw).mono fun _ _ r => r.move hBw.size fun b hb ho => ⟨⟨ho.1, ho.2.at (hBw.block b hb)⟩, hBw.block b hb⟩
    refine wp_app1 _ _ 36 rfl 58 i0 _ 2 40 Tryz.underlying36 hi hz0 hz1 hz2 rfl (by decide) (y := x.objects[j]) rfl (by simp; omega) hOw rfl (SlR.ofBlk (ok := fun _ => True) (st.blk _ (mgE (i := 5) rfl)) ⟨a4, k4, rfl, hO4.slrF.okay fun b hb => ⟨⟨by omega, fun e => by have := (hO.blockLt _ e).2; omega⟩, hb.2⟩⟩ rfl rfl trivial) (by simp; omega) (by simp [maxLen]; omega) (by omega) ?_
    intro g11 c11 w11 hO11 hgr hat hlt11
    replace st := (st.take 5).grownNew hgr (fun k hk => (hOw.blockLt k hk).1) (by
     intro y hy e
     have := (hOw.blockLt _ e).1
     simp only [List.take_succ_cons, List.take_zero, List.mem_cons, List.not_mem_nil, or_false] at hy
     rcases hy with rfl | rfl | rfl | rfl | rfl
     ·simp only at this; omega
     ·simp only at this; omega
     ·simp only at this; omega
     ·simp only at this; omega
     ·have h2 := (hO.blockLt _ e).2
      simp only at h2; omega)
    simp only [List.take_succ_cons, List.take_zero] at st
    replace hO11 : Own wc.heap.size 58 w11 2 (RObj (besF wc.heap.size (some ⟨g11, 0, none⟩) w11) w11) (some ⟨g11, 0, none⟩) c11 (x.objects.take (j + 1)) := by
     rw [List.take_succ_eq_append_getElem hlt]
     exact hO11.mono fun _ _ r => r.move hgr.size fun b hb ho => ⟨⟨⟨ho.1.1, fun e => by
      simp only [Option.map_some, Option.some.injEq] at e
      subst e
      rcases hat with hat | hat
      ·exact ho.1.2 hat
      ·omega⟩, ho.2.at (hgr.block b hb fun e => ho.1.2 e.symm)⟩, hgr.block b hb fun e => ho.1.2 e.symm⟩
    clear hOw hO4 hO hgr hat
    have hI := st
    refine hK _ _ (hI) ?_; clear hK; simp only [kP, kA, kS, kZ]
    refine lexS 10 rfl hI ?_
    clear hI
    refine lex_done (by decide +kernel) ?_
    refine tail_last 11 rfl (by first | exact wanted_none rfl | exact wanted_some rfl rfl) (by decide +kernel) (by decide +kernel) fun K hK => ?_
    have h6b := st.blk _ (mgE (i := 3) rfl)
    refine wp_store' st 36 _ _ rfl _ Tryz.sizeOf36 ⟨3, _, _, _, _, _, rfl, rfl, rfl, rfl, rfl, rfl, ?_⟩; clear st; intro w12 st hw12m hw12z; simp [Act.eval, Act.put, Value.cells, putL] at st
    replace hO11 := (hO11.stored h6b (by simp) hw12m).mono fun _ _ r => r.move (w' := w12) (by omega) fun b hb ho => (⟨⟨ho.1, ho.2.at (hw12m b (by have := ho.1.1; omega))⟩, hw12m b (by have := ho.1.1; omega)⟩ : (besF wc.heap.size (some ⟨g11, 0, none⟩) w12) b ∧ _)
    refine hK _ _ ?_; clear hK
    go_wp2
    go_roundw
    case rel => exact ⟨j + 1, some ⟨g11, 0, none⟩, c11, hlt, by go_num, st.sub (by simp) (by simpa [List.pairwise_cons] using stK.ne), hO11⟩
    case measure => simp [intOf]; omega
   ·obtain ⟨wm, rfl⟩ : ∃ W, W = wr := ⟨_, rfl⟩
    obtain rfl : j = x.objects.length := by omega
    have hd : decide ((x.objects.length : Int) < x.objects.length) = false := by simp
    have stW := St.back stK st
    rw [List.take_of_length_le (Nat.le_refl _)] at hO
    have hS := hO.slrFS st (by simp)
    have hzr := st.size
    have hRo : SlR (fun b => w.heap.size ≤ b ∧ b < wm.heap.size ∧ b ∉ [g, g1, g2, g6] ∧ FreeB wm b) wm 2 (RObj (fun b => w.heap.size ≤ b ∧ b < wm.heap.size ∧ b ∉ [g, g1, g2, g6] ∧ FreeB wm b) wm) o c x.objects :=
     hS.okayR (fun b hb => ⟨by omega, hb.2.1, by simpa using hb.2.2.1, hb.2.2.2⟩) fun _ _ r => r.move (Nat.le_refl _) fun b hb ho => ⟨⟨by have := ho.1.1; omega, hb, by have := ho.1.1; simp; omega, ho.2⟩, rfl⟩
    have st1 := st
    have st := st.rebase
    simp only [List.map_cons, List.map_nil] at st
    have hwg2 : g < wm.heap.size ∧ g1 < wm.heap.size ∧ g2 < wm.heap.size ∧ g6 < wm.heap.size := by omega
    clear hO hS hz0 hz1 hz2 hi i0
    obtain ⟨i0, hi, hz0, hz1, hz2⟩ := info_parts info_Mail
    go_wp2_with (first | go_skip | (with_reducible refine mX st Tryz.isAgg37 ?_))
    go_loopw [59] (fun v59 wt => ∃ (j : Nat) (p : Option Addr) (d : Nat), j ≤ x.mails.length ∧ v59 = .int .i64 j ∧ St [g, g1, g2, g6] wm wt [(g, 98, winC (preC k css n) [.slice xa x.label.length xc, .slice oa x.own.length oc, .string x.text, .slice (ba) x.objects.length bc, .slice (ma) x.mails.length mc] (postC k css n)), (g1, 39, [.slice none 0 0, .slice none 0 0, .string ⟨#[]⟩, .slice none 0 0, .slice none 0 0]), (g2, 39, [.slice xa x.label.length xc, .slice oa x.own.length oc, .string x.text, .slice (ba) x.objects.length bc, .slice (ma) x.mails.length mc]), (g6, 39, [.slice la x.label.length lc, .slice na x.own.length nc, .string x.text, .slice o x.objects.length c, .slice p j d])] ∧ Own wm.heap.size 42 wt 5 (RMail (besF wm.heap.size p wt) wt) p d (x.mails.take j)) (fun v59 _ => x.mails.length - (intOf v59).toNat)
    case atStart => exact ⟨0, none, 0, Nat.zero_le _, rfl, st, Own.nil _ _ _ _ _⟩
    case round =>
     clear st
     obtain ⟨j, p, d, hj, rfl, st, hO⟩ := hrel
     by_cases hlt : j < x.mails.length
     ·have stW2 := St.back stW st
      obtain ⟨b, o1, la1, lc1, ga1, gc1, rfl, hbw, hb, hA, hA2, hC⟩ := (HM.out _ _ stW2).mail_at j hlt
      have stR := st
      have st := st.rebase
      simp only [List.map_cons, List.map_nil] at st
      have HC := qh hC
      have h8 := HY.out _ (List.getElem_mem hlt)
      have HLv := qh (fun (W : World) (bl : Blks) (hW : St [g] w W bl) => kernel_mailF (fun b => ok b ∧ b < w.heap.size) W x.mails[j] la1 lc1 ga1 gc1 (by omega) (by omega) ⟨hA.keep (HKp.out W _ hW), hA2.keep (HKp.out W _ hW)⟩)
      have hwt := stR.size
      have hd : decide ((j : Int) < x.mails.length) = true := by simp; omega
      clear hC
      go_wp2_with (first | go_skip | (with_reducible refine at_load 42 ?_; refine wpList_load_cells (wanted_none rfl) 42 _ rfl Tryz.isAgg42 _ Tryz.sizeOf42 b (o1 + j * 5) rfl [.int .i64 x.mails[j].host, .int .i64 x.mails[j].thread, .slice la1 x.mails[j].label.length lc1, .slice ga1 x.mails[j].grants.length gc1, .string x.mails[j].text] rfl HC.out ?_) | (with_reducible refine mA st Tryz.zeroValue42 ?_; clear st; intro g8 w8 hg8 st) | (with_reducible refine mS 4 st Tryz.sizeOf42 ?_; clear st; intro w9 st hw9m hw9z))
      clear hw9m hw9z
      have st := st.drew
      have hI := St.back stR st
      refine lex_tail (by kernel_rfl) 7 1 [7] rfl (by decide +kernel) (fun W => St [g, g1, g2, g6] wm W [(g, 98, winC (preC k css n) [.slice xa x.label.length xc, .slice oa x.own.length oc, .string x.text, .slice (ba) x.objects.length bc, .slice (some ⟨b, o1, none⟩) x.mails.length mc] (postC k css n)), (g1, 39, [.slice none 0 0, .slice none 0 0, .string ⟨#[]⟩, .slice none 0 0, .slice none 0 0]), (g2, 39, [.slice xa x.label.length xc, .slice oa x.own.length oc, .string x.text, .slice (ba) x.objects.length bc, .slice (some ⟨b, o1, none⟩) x.mails.length mc]), (g6, 39, [.slice la x.label.length lc, .slice na x.own.length nc, .string x.text, .slice o x.objects.length c, .slice p j d]), (g8, 42, [.int .i64 x.mails[j].host, .int .i64 x.mails[j].thread, .slice la1 x.mails[j].label.length lc1, .slice ga1 x.mails[j].grants.length gc1, .string x.mails[j].text])]) ?_
      refine lexS 0 rfl hI ?_
      refine lexT 1 rfl hI (fun W hW => St.run_load hW 3 37 _ rfl Tryz.isAgg37 rfl rfl rfl) ?_
      refine lexT 2 rfl hI (fun W hW => St.run_load_agg hW 4 42 _ rfl Tryz.isAgg42 _ Tryz.sizeOf42 rfl rfl rfl rfl) ?_
      clear hI
      refine lexO 3 rfl fun K hK => ?_
      refine wp_callee (f := 45) (by first | (go_simp; done) | (go_simp; rfl)) ?_
      have hz4 := st.size
      refine (HLv.out _ _ (St.back stW (St.back stR st))).mono ?_
      rintro e v4 ⟨a4, k4, a5, k5, rfl, hb4, hO4⟩
      refine ⟨_, rfl, ?_⟩
      replace st := st.call hb4
      clear hb4
      have hI := St.back stR st
      refine hK _ _ (hI) ?_; clear hK; simp only [kP, kA, kS, kZ]
      clear hI
      refine lexO 4 rfl fun K hK => ?_
      refine wp_build1 st 37 42 _ rfl Tryz.underlying37 5 Tryz.sizeOf42 (by decide) (by decide) _ Tryz.zeroValue42 _ rfl rfl ?_; clear st; intro g10 w10 hg10 hg10e st hg10b hw10z; clear hg10e; simp [Act.eval, Act.put, Value.cells, putL] at st
      replace hO4 := hO4.keepF hg10b
      clear hg10b hw10z
      have hz10 := st.size
      have hBw : Below wr.heap.size wr w10 := stR.below2 st (by simp)
      have stD := St.back stR st
      clear st
      have st := stD
      clear stD
      refine hK _ _ (st.take 5) ?_; clear hK; simp only [kP, kA, kS, kZ]
      refine lexO 5 rfl fun K hK => ?_
      have hOw : Own wm.heap.size 42 w10 5 (RMail (besF wm.heap.size p w10) w10) p d (x.mails.take j) := (hO.below hBw).mono fun _ _ r => r.move hBw.size fun b hb ho => ⟨⟨ho.1, ho.2.at (hBw.block b hb)⟩, hBw.block b hb⟩
      have hne : ∀ b, w9.drew.heap.size ≤ b ∧ FreeB w10 b → besF wm.heap.size p w10 b := fun b hb => ⟨⟨by omega, fun e => by have := (hO.blockLt _ e).2; omega⟩, hb.2⟩
      refine wp_app1 _ _ 37 rfl 42 i0 _ 5 80 Tryz.underlying37 hi hz0 hz1 hz2 rfl (by decide) (y := x.mails[j]) rfl (by simp; omega) hOw rfl (SlR.ofBlk (ok := fun _ => True) (st.blk _ (mgE (i := 5) rfl)) ⟨a4, k4, a5, k5, rfl, hO4.label.okay hne, hO4.grants.okay hne⟩ rfl rfl trivial) (by simp; omega) (by simp [maxLen]; omega) (by omega) ?_
      intro g11 c11 w11 hO11 hgr hat hlt11
      replace st := (st.take 5).grownNew hgr (fun k hk => (hOw.blockLt k hk).1) (by
       intro y hy e
       have := (hOw.blockLt _ e).1
       simp only [List.take_succ_cons, List.take_zero, List.mem_cons, List.not_mem_nil, or_false] at hy
       rcases hy with rfl | rfl | rfl | rfl | rfl
       ·simp only at this; omega
       ·simp only at this; omega
       ·simp only at this; omega
       ·simp only at this; omega
       ·have h2 := (hO.blockLt _ e).2
        simp only at h2; omega)
      simp only [List.take_succ_cons, List.take_zero] at st
      replace hO11 : Own wm.heap.size 42 w11 5 (RMail (besF wm.heap.size (some ⟨g11, 0, none⟩) w11) w11) (some ⟨g11, 0, none⟩) c11 (x.mails.take (j + 1)) := by
       rw [List.take_succ_eq_append_getElem hlt]
       exact hO11.mono fun _ _ r => r.move hgr.size fun b hb ho => ⟨⟨⟨ho.1.1, fun e => by
        simp only [Option.map_some, Option.some.injEq] at e
        subst e
        rcases hat with hat | hat
        ·exact ho.1.2 hat
        ·omega⟩, ho.2.at (hgr.block b hb fun e => ho.1.2 e.symm)⟩, hgr.block b hb fun e => ho.1.2 e.symm⟩
      clear hOw hO4 hO hgr hat hne
      have hI := st
      refine hK _ _ (hI) ?_; clear hK; simp only [kP, kA, kS, kZ]
      refine lexS 6 rfl hI ?_
      clear hI
      refine lex_done (by decide +kernel) ?_
      refine tail_last 7 rfl (by first | exact wanted_none rfl | exact wanted_some rfl rfl) (by decide +kernel) (by decide +kernel) fun K hK => ?_
      have h6b := st.blk _ (mgE (i := 3) rfl)
      refine wp_store' st 37 _ _ rfl _ Tryz.sizeOf37 ⟨3, _, _, _, _, _, rfl, rfl, rfl, rfl, rfl, rfl, ?_⟩; clear st; intro w12 st hw12m hw12z; simp [Act.eval, Act.put, Value.cells, putL] at st
      replace hO11 := (hO11.stored h6b (by simp) hw12m).mono fun _ _ r => r.move (w' := w12) (by omega) fun b hb ho => (⟨⟨ho.1, ho.2.at (hw12m b (by have := ho.1.1; omega))⟩, hw12m b (by have := ho.1.1; omega)⟩ : (besF wm.heap.size (some ⟨g11, 0, none⟩) w12) b ∧ _)
      refine hK _ _ ?_; clear hK
      go_wp2
      go_roundw
      case rel => exact ⟨j + 1, some ⟨g11, 0, none⟩, c11, hlt, by go_num, st.sub (by simp) (by simpa [List.pairwise_cons] using stK.ne), hO11⟩
      case measure => simp [intOf]; omega
     ·obtain rfl : j = x.mails.length := by omega
      have hd : decide ((x.mails.length : Int) < x.mails.length) = false := by simp
      rw [List.take_of_length_le (Nat.le_refl _)] at hO
      have hS2 := hO.slrFS st (by simp)
      have hzt := st.size
      have hne := stK.ne
      simp only [List.pairwise_cons, List.mem_cons, List.not_mem_nil, or_false, forall_eq_or_imp, forall_eq] at hne
      have hRm : SlR (fun b => w.heap.size ≤ b ∧ b < wr.heap.size ∧ b ∉ [g, g1, g2, g6] ∧ FreeB wr b) wr 5 (RMail (fun b => w.heap.size ≤ b ∧ b < wr.heap.size ∧ b ∉ [g, g1, g2, g6] ∧ FreeB wr b) wr) p d x.mails :=
       hS2.okayR (fun b hb => ⟨by omega, hb.2.1, by simpa using hb.2.2.1, hb.2.2.2⟩) fun _ _ r => r.move (Nat.le_refl _) fun b hb ho => ⟨⟨by have := ho.1.1; omega, hb, by have := ho.1.1; simp; omega, ho.2⟩, rfl⟩
      have hk1 : ∀ b, b < wc.heap.size → b ∉ [g, g1, g2, g6] → wr.heap[b]? = wc.heap[b]? := fun b hb hn => (st.frame b (by have := st1.size; omega) hn).trans (st1.frame b hb hn)
      have hk2 : ∀ b, b < wm.heap.size → b ∉ [g, g1, g2, g6] → wr.heap[b]? = wm.heap[b]? := fun b hb hn => st.frame b hb hn
      have hz1 := st1.size
      have hT1 : ThrS (fun b => w.heap.size ≤ b ∧ b < wr.heap.size ∧ b ∉ [g, g1, g2, g6] ∧ FreeB wr b) wr x la lc na nc o c p d :=
       ⟨hRl.move (by omega) (fun b hb ho => ⟨⟨ho.1, by omega, ho.2.2.1, ho.2.2.2.at (hk1 b hb ho.2.2.1)⟩, hk1 b hb ho.2.2.1⟩) fun _ _ r => r, hRn.move (by omega) (fun b hb ho => ⟨⟨ho.1, by omega, ho.2.2.1, ho.2.2.2.at (hk1 b hb ho.2.2.1)⟩, hk1 b hb ho.2.2.1⟩) fun _ _ r => r,
        hRo.move (by omega) (fun b hb ho => ⟨⟨ho.1, by omega, ho.2.2.1, ho.2.2.2.at (hk2 b hb ho.2.2.1)⟩, hk2 b hb ho.2.2.1⟩) fun _ _ r => r.move (by omega) fun b hb ho => ⟨⟨ho.1, by omega, ho.2.2.1, ho.2.2.2.at (hk2 b hb ho.2.2.1)⟩, hk2 b hb ho.2.2.1⟩, hRm⟩
      have stF := St.back stW st
      clear hS2 hO st hRl hRn hRo hRm hk1 hk2
      have st := stF
      clear stF
      have HT1 := qh hT1
      go_wp2_with (first | go_skip | (with_reducible refine mXA st Tryz.isAgg39 Tryz.sizeOf39 ?_) | (with_reducible refine mS 1 st Tryz.sizeOf39 ?_; clear st; intro w13 st hw13m hw13z))
      have hc := fun j => st.cell (i := 1) rfl j
      refine bodyPost_ret (v := thrV x la lc na nc o c p d) ?hr rfl ⟨la, lc, na, nc, o, c, p, d, rfl, HB.out _ _ st (by simp), HT1.out.move (by omega) fun b hb ho => ⟨⟨ho.1, ho.2.2.2.at (hw13m b fun e => ho.2.2.1 (by simp [e]))⟩, hw13m b fun e => ho.2.2.1 (by simp [e])⟩⟩
      case hr => simp [results, Tryz.results31, go_sem, hc, thrV, putL]; try rfl
theorem ThreadPostF.plain {w : World} {x : Thr} {e : Ending} {w' : World} (h : ThreadPostF w x e w') : ThreadPost w x e w' := by
 obtain ⟨la, lc, oa, oc, ba, bc, ma, mc, e1, h1, h2⟩ := h
 exact ⟨la, lc, oa, oc, ba, bc, ma, mc, e1, h1, h2.move (Nat.le_refl _) fun b _ ho => ⟨ho.1, rfl⟩⟩
end Go.Proofs.YtnjjdpiofbajlaaGreat

/- Two clusters side by side in a walk, beside blocks of ours. -/
namespace Go.Proofs.YtnjjdpiofbajlaaGreat
open Go.RowKit
structure Clu2 (w0 : World) (own : Blks) (Wd : World) (D : Nat → Prop) (ga : Nat) (ka : List Nat) (A : Clu) (gb : Nat) (kb : List Nat) (B : Clu) (W : World) : Prop where
 st : St [] w0 W own
 okA : A.ok
 okB : B.ok
 kept : Keeps D Wd W
 ownD : ∀ x ∈ own, ¬ (D x.1 ∧ x.1 < Wd.heap.size)
 at_ : ∃ oa BA na ca LA ob BB nb cb LB, CluAt oa W ga A ka BA na ca LA ∧ CluAt ob W gb B kb BB nb cb LB ∧
  (∀ b ∈ cluB ga na BA, w0.heap.size ≤ b ∧ (∀ x ∈ own, x.1 ≠ b) ∧ ¬ (D b ∧ b < Wd.heap.size) ∧ b ∉ cluB gb nb BB ∧ ¬ ob b) ∧
  (∀ b ∈ cluB gb nb BB, w0.heap.size ≤ b ∧ (∀ x ∈ own, x.1 ≠ b) ∧ ¬ (D b ∧ b < Wd.heap.size) ∧ b ∉ cluB ga na BA ∧ ¬ oa b) ∧
  (∀ b, oa b → b < W.heap.size ∧ ∀ x ∈ own, x.1 ≠ b) ∧ ∀ b, ob b → b < W.heap.size ∧ ∀ x ∈ own, x.1 ≠ b
section
variable {w0 Wd W : World} {own : Blks} {D : Nat → Prop} {ga gb : Nat} {ka kb : List Nat} {A B : Clu}
theorem Clu2.swap (h : Clu2 w0 own Wd D ga ka A gb kb B W) : Clu2 w0 own Wd D gb kb B ga ka A W := by
 obtain ⟨st, okA, okB, kept, ownD, oa, BA, na, ca, LA, ob, BB, nb, cb, LB, hA, hB, mA, mB, oA, oB⟩ := h
 exact ⟨st, okB, okA, kept, ownD, ob, BB, nb, cb, LB, oa, BA, na, ca, LA, hB, hA, mB, mA, oB, oA⟩
theorem Clu2.fst (h : Clu2 w0 own Wd D ga ka A gb kb B W) : Clus w0 [] own (fun _ => False) Wd D ga ka A W := by
 obtain ⟨st, okA, okB, kept, ownD, oa, BA, na, ca, LA, ob, BB, nb, cb, LB, hA, hB, mA, mB, oA, oB⟩ := h
 exact ⟨st, okA, kept, ownD, fun _ h => h.elim, oa, BA, na, ca, LA, hA, fun b hb => ⟨.inr (mA b hb).1, (mA b hb).2.1, (mA b hb).2.2.1⟩, fun b hb => ⟨(oA b hb).1, (oA b hb).2, fun h => h⟩⟩
theorem Clu2.snd (h : Clu2 w0 own Wd D ga ka A gb kb B W) : Clus w0 [] own (fun _ => False) Wd D gb kb B W := h.swap.fst
theorem Clu2.walk (h : Clu2 w0 own Wd D ga ka A gb kb B W) {V : World} {own2 : Blks} (st : St (own.map (·.1)) W V own2) : Clu2 w0 own2 Wd D ga ka A gb kb B V := by
 obtain ⟨st0, okA, okB, hD, hDo, oa, BA, na, ca, LA, ob, BB, nb, cb, LB, hA, hB, mA, mB, oA, oB⟩ := h
 have hmine : ∀ x ∈ own2, x.1 ∈ own.map (·.1) ∨ W.heap.size ≤ x.1 := st.mine
 have hnot : ∀ b, (∀ x ∈ own, x.1 ≠ b) → b ∉ own.map (·.1) := fun b hb hm => by
  obtain ⟨x, hx, e⟩ := List.mem_map.1 hm
  exact hb x hx e
 have hnot2 : ∀ b, b < W.heap.size → (∀ x ∈ own, x.1 ≠ b) → ∀ x ∈ own2, x.1 ≠ b := fun b hb hn x hx e => by
  rcases hmine x hx with h1 | h1
  ·exact hnot b hn (e ▸ h1)
  ·omega
 refine ⟨St.back st0 st, okA, okB, ⟨Nat.le_trans hD.size st.size, fun b hb hd => (st.frame b (Nat.lt_of_lt_of_le hb hD.size) fun hm => ?_).trans (hD.block b hb hd)⟩, fun x hx hd => ?_, oa, BA, na, ca, LA, ob, BB, nb, cb, LB, ?_, ?_, fun b hb => ?_, fun b hb => ?_, fun b hb => ⟨Nat.lt_of_lt_of_le (oA b hb).1 st.size, hnot2 b (oA b hb).1 (oA b hb).2⟩, fun b hb => ⟨Nat.lt_of_lt_of_le (oB b hb).1 st.size, hnot2 b (oB b hb).1 (oB b hb).2⟩⟩
 ·obtain ⟨x, hx, e⟩ := List.mem_map.1 hm
  subst e
  exact hDo x hx ⟨hd, hb⟩
 ·rcases hmine x hx with h1 | h1
  ·obtain ⟨y, hy, e⟩ := List.mem_map.1 h1
   rw [← e] at hd
   exact hDo y hy hd
  ·have := hD.size; omega
 ·exact hA.move st.size (fun b hb ho => ⟨ho, st.frame b hb (hnot b (oA b ho).2)⟩) fun b hb => ⟨st.frame b (hA.lt b hb) (hnot b (mA b hb).2.1), hA.apart b hb⟩
 ·exact hB.move st.size (fun b hb ho => ⟨ho, st.frame b hb (hnot b (oB b ho).2)⟩) fun b hb => ⟨st.frame b (hB.lt b hb) (hnot b (mB b hb).2.1), hB.apart b hb⟩
 ·exact ⟨(mA b hb).1, hnot2 b (hA.lt b hb) (mA b hb).2.1, (mA b hb).2.2⟩
 ·exact ⟨(mB b hb).1, hnot2 b (hB.lt b hb) (mB b hb).2.1, (mB b hb).2.2⟩
theorem Clu2.below (h : Clu2 w0 own Wd D ga ka A gb kb B W) {V : World} (hb : Below W.heap.size W V) : Clu2 w0 own Wd D ga ka A gb kb B V := h.walk (h.st.rebase.call hb)
theorem Clu2.sub (h : Clu2 w0 own Wd D ga ka A gb kb B W) {own2 : Blks} (hs : ∀ x ∈ own2, x ∈ own) (hn : own2.Pairwise fun x y => x.1 ≠ y.1) : Clu2 w0 own2 Wd D ga ka A gb kb B W := by
 obtain ⟨st0, okA, okB, hD, hDo, oa, BA, na, ca, LA, ob, BB, nb, cb, LB, hA, hB, mA, mB, oA, oB⟩ := h
 exact ⟨st0.sub hs hn, okA, okB, hD, fun x hx => hDo x (hs x hx), oa, BA, na, ca, LA, ob, BB, nb, cb, LB, hA, hB, fun b hb => ⟨(mA b hb).1, fun x hx => (mA b hb).2.1 x (hs x hx), (mA b hb).2.2⟩, fun b hb => ⟨(mB b hb).1, fun x hx => (mB b hb).2.1 x (hs x hx), (mB b hb).2.2⟩, fun b hb => ⟨(oA b hb).1, fun x hx => (oA b hb).2 x (hs x hx)⟩, fun b hb => ⟨(oB b hb).1, fun x hx => (oB b hb).2 x (hs x hx)⟩⟩
theorem Clu2.enter (h : Clu2 w0 own Wd D ga ka A gb kb B W) : ∃ B0 Y, Clus W B0 [] Y W (fun b => b ∉ B0) ga ka A W ∧ ∀ (A' : Clu) (V : World), Clus W B0 [] Y W (fun b => b ∉ B0) ga ka A' V → Clu2 w0 own Wd D ga ka A' gb kb B V := by
 obtain ⟨st, okA, okB, hD, hDo, oa, BA, na, ca, LA, ob, BB, nb, cb, LB, hA, hB, mA, mB, oA, oB⟩ := h
 refine ⟨cluB ga na BA, fun b => b < W.heap.size ∧ ¬ oa b, ⟨⟨rfl, rfl, rfl, Nat.le_refl _, fun _ _ _ => rfl, by simp, by simp, List.Pairwise.nil⟩, okA, ⟨Nat.le_refl _, fun _ _ _ => rfl⟩, by simp, fun b hb => hb.1, oa, BA, na, ca, LA, hA, fun b hb => ⟨.inl hb, by simp, fun hh => hh.1 hb⟩, fun b hb => ⟨(oA b hb).1, by simp, fun hh => hh.2 hb⟩⟩, fun A' V hP => ?_⟩
 obtain ⟨st', hok', hD', -, -, oa', BA', na', ca', LA', hA', hB', hO'⟩ := hP
 have hin : ∀ b ∈ cluB ga na' BA', b ∈ cluB ga na BA ∨ W.heap.size ≤ b := fun b hb => (hB' b hb).1
 have hown : ∀ x ∈ own, x.1 < W.heap.size := fun x hx => st.lt hx
 refine ⟨st.callK st' (fun x hx hm => (mA _ hm).2.1 x hx rfl) fun b hb => .inr (mA b hb).1, hok', okB, ⟨Nat.le_trans hD.size hD'.size, fun b hb hd => (hD'.block b (Nat.lt_of_lt_of_le hb hD.size) fun hm => (mA b hm).2.2.1 ⟨hd, hb⟩).trans (hD.block b hb hd)⟩, hDo, oa', BA', na', ca', LA', ob, BB, nb, cb, LB, hA', ?_, fun b hb => ?_, fun b hb => ⟨(mB b hb).1, (mB b hb).2.1, (mB b hb).2.2.1, fun hm => ?_, fun ho => ?_⟩, fun b hb => ⟨(hO' b hb).1, fun x hx e => ?_⟩, fun b hb => ⟨Nat.lt_of_lt_of_le (oB b hb).1 hD'.size, (oB b hb).2⟩⟩
 ·exact hB.move hD'.size (fun b hb ho => ⟨ho, hD'.block b hb fun hm => (mA b hm).2.2.2.2 ho⟩) fun b hb => ⟨hD'.block b (hB.lt b hb) (mB b hb).2.2.2.1, hB.apart b hb⟩
 ·rcases hin b hb with h1 | h1
  ·exact mA b h1
  ·refine ⟨Nat.le_trans st.size h1, fun x hx e => ?_, fun hd => ?_, fun hm => ?_, fun ho => ?_⟩
   ·have := hown x hx; omega
   ·have := hD.size; omega
   ·have := hB.lt b hm; omega
   ·have := (oB b ho).1; omega
 ·rcases hin b hm with h1 | h1
  ·exact (mB b hb).2.2.2.1 h1
  ·have := hB.lt b hb; omega
 ·exact (hO' b ho).2.2 ⟨hB.lt b hb, (mB b hb).2.2.2.2⟩
 ·refine (hO' b hb).2.2 ⟨e ▸ hown x hx, fun ho => (oA b ho).2 x hx e⟩
theorem Clus.second {V : World} (P : Clus w0 [] own (fun _ => False) Wd D ga ka A V) (Q : Clus V [] [] (fun b => b < V.heap.size) V (fun _ => True) gb kb B W) : Clu2 w0 own Wd D ga ka A gb kb B W := by
 have P2 := P.below Q.st.below
 have hD2 := P2.kept
 have hDv := P.kept.size
 have hoV : ∀ x ∈ own, x.1 < V.heap.size := fun x hx => P.st.lt hx
 have hwV := P.st.size
 obtain ⟨st1, okA, hD, hDo, -, oa, BA, na, ca, LA, hA, mA, oA⟩ := P
 have stQ := Q.st
 obtain ⟨-, okB, -, -, -, ob, BB, nb, cb, LB, hB, mB, oB⟩ := Q
 have hb : ∀ b ∈ cluB gb nb BB, V.heap.size ≤ b := fun b hb => by
  rcases (mB b hb).1 with h | h
  ·simp at h
  ·exact h
 have ho : ∀ b, ob b → V.heap.size ≤ b := fun b h => Nat.le_of_not_lt (oB b h).2.2
 have hlt : ∀ b ∈ cluB ga na BA, b < V.heap.size := hA.lt
 refine ⟨P2.st, okA, okB, hD2, hDo, oa, BA, na, ca, LA, ob, BB, nb, cb, LB, ?_, hB, fun b h => ⟨?_, (mA b h).2.1, (mA b h).2.2, fun hm => ?_, fun hm => ?_⟩, fun b h => ⟨Nat.le_trans hwV (hb b h), fun x hx e => ?_, fun hd => ?_, fun hm => ?_, fun hm => ?_⟩, fun b h => ⟨Nat.lt_of_lt_of_le (oA b h).1 stQ.size, (oA b h).2.1⟩, fun b h => ⟨(oB b h).1, fun x hx e => ?_⟩⟩
 ·exact hA.move stQ.size (fun b hb' ho' => ⟨ho', stQ.frame b hb' (by simp)⟩) fun b hb' => ⟨stQ.frame b (hA.lt b hb') (by simp), hA.apart b hb'⟩
 ·rcases (mA b h).1 with h1 | h1
  ·simp at h1
  ·exact h1
 ·have := hb b hm; have := hlt b h; omega
 ·have := ho b hm; have := hlt b h; omega
 ·have := hb b h; have := hoV x hx; omega
 ·have := hb b h; omega
 ·have := hb b h; have := hlt b hm; omega
 ·have := hb b h; have := (oA b hm).1; omega
 ·have := ho b h; have := hoV x hx; omega
theorem clu2_Do (P : Clu2 w0 own Wd D ga ka A gb kb B W) (a : Deed) (okc : Nat → Prop) (hgo : ∀ b, okc b → b ≠ ga) (la : Option Addr) (lc : Nat) (la2 : Option Addr) (lc2 : Nat) (hll : a.call.label.length * 16 ≤ 140737488351232) (hgl : a.call.grants.length * 8 ≤ 140737488351232) (hcl : SlR okc W 2 RLev la lc a.call.label) (hcg : SlR okc W 1 RInt la2 lc2 a.call.grants) :
  Calls Tryz.prog 18 #[.pointer (some ⟨ga, 0, none⟩), deedV a la lc la2 lc2] W fun e W' => e = .returned (RepV (doC A a).2) ∧ Clu2 w0 own Wd D ga ka (doC A a).1 gb kb B W' := by
 obtain ⟨B0, Y, Q, back⟩ := P.enter
 exact (cluster_Do Q a okc hgo la lc la2 lc2 hll hgl hcl hcg).mono fun e W' h => ⟨h.1, back _ _ h.2⟩
end
end Go.Proofs.YtnjjdpiofbajlaaGreat

/- Two clusters that differ in what stands above the plain level of a category: what an act makes of them. No program, no memory. -/
namespace Go.Proofs.YtnjjdpiofbajlaaGreat
/-! ### Rows, element by element -/
inductive All2 {α β : Type} (R : α → β → Prop) : List α → List β → Prop
 | nil : All2 R [] []
 | cons {x : α} {y : β} {l : List α} {m : List β} (h : R x y) (t : All2 R l m) : All2 R (x :: l) (y :: m)
section
variable {α β : Type} {R : α → β → Prop}
theorem All2.length {l : List α} {m : List β} (h : All2 R l m) : m.length = l.length := by
 induction h with
 | nil => rfl
 | cons _ _ ih => simp [ih]
theorem All2.refl {R : α → α → Prop} (hR : ∀ x, R x x) : ∀ l : List α, All2 R l l
 | [] => .nil
 | x :: l => .cons (hR x) (All2.refl hR l)
theorem All2.append {l l' : List α} {m m' : List β} (h : All2 R l m) (h' : All2 R l' m') : All2 R (l ++ l') (m ++ m') := by
 induction h with
 | nil => exact h'
 | cons hx _ ih => exact .cons hx ih
theorem All2.at {l : List α} {m : List β} (h : All2 R l m) : ∀ (i : Nat), (l[i]? = none ∧ m[i]? = none) ∨ ∃ x y, l[i]? = some x ∧ m[i]? = some y ∧ R x y := by
 induction h with
 | nil => exact fun i => .inl ⟨by simp, by simp⟩
 | cons hx _ ih =>
  intro i
  cases i with
  | zero => exact .inr ⟨_, _, rfl, rfl, hx⟩
  | succ i => simpa using ih i
theorem All2.getD {l : List α} {m : List β} (h : All2 R l m) {x : α} {y : β} (hd : R x y) (i : Nat) : R (l.getD i x) (m.getD i y) := by
 rw [List.getD_eq_getElem?_getD, List.getD_eq_getElem?_getD]
 rcases h.at i with ⟨h1, h2⟩ | ⟨a, b, h1, h2, h3⟩
 ·rw [h1, h2]; exact hd
 ·rw [h1, h2]; exact h3
theorem All2.set {l : List α} {m : List β} (h : All2 R l m) {x : α} {y : β} (hd : R x y) : ∀ i : Nat, All2 R (l.set i x) (m.set i y) := by
 induction h with
 | nil => exact fun i => by simpa using All2.nil
 | cons hx ht ih =>
  intro i
  cases i with
  | zero => exact .cons hd ht
  | succ i => exact .cons hx (ih i)
theorem All2.eraseIdx {l : List α} {m : List β} (h : All2 R l m) : ∀ i : Nat, All2 R (l.eraseIdx i) (m.eraseIdx i) := by
 induction h with
 | nil => exact fun i => by simpa using All2.nil
 | cons hx ht ih =>
  intro i
  cases i with
  | zero => exact ht
  | succ i => exact .cons hx (ih i)
theorem All2.filterMap {γ δ : Type} {S : γ → δ → Prop} {l : List α} {m : List β} (h : All2 R l m) {f : α → Option γ} {g : β → Option δ} (hfg : ∀ x y, R x y → (f x = none ∧ g y = none) ∨ ∃ u v, f x = some u ∧ g y = some v ∧ S u v) : All2 S (l.filterMap f) (m.filterMap g) := by
 induction h with
 | nil => exact .nil
 | cons hx _ ih =>
  rcases hfg _ _ hx with ⟨h1, h2⟩ | ⟨u, v, h1, h2, h3⟩
  ·rw [List.filterMap_cons_none h1, List.filterMap_cons_none h2]; exact ih
  ·rw [List.filterMap_cons_some h1, List.filterMap_cons_some h2]; exact .cons h3 ih
theorem All2.filter {l : List α} {m : List β} (h : All2 R l m) {f : α → Bool} {g : β → Bool} (hfg : ∀ x y, R x y → g y = f x) : All2 R (l.filter f) (m.filter g) := by
 induction h with
 | nil => exact .nil
 | cons hx _ ih =>
  have := hfg _ _ hx
  cases e : f _ with
  | true => rw [List.filter_cons_of_pos e, List.filter_cons_of_pos (by rw [this, e])]; exact .cons hx ih
  | false => rw [List.filter_cons_of_neg (by rw [e]; simp), List.filter_cons_of_neg (by rw [this, e]; simp)]; exact ih
end
/-! ### What is alike -/
def TxS (c : Int) (lab : List Lev) (s s' : ByteArray) : Prop := s'.size = s.size ∧ (lAt lab c ≤ 1 → s' = s)
structure MailS (c : Int) (m m' : Mail) : Prop where
 host : m'.host = m.host
 thread : m'.thread = m.thread
 label : m'.label = m.label
 grants : m'.grants = m.grants
 text : TxS c m.label m.text m'.text
structure ObjS (c : Int) (o o' : KObj) : Prop where
 label : o'.label = o.label
 text : TxS c o.label o.text o'.text
structure ThrSe (c : Int) (x x' : Thr) : Prop where
 label : x'.label = x.label
 own : x'.own = x.own
 size : x'.text.size = x.text.size
 text : lAt x.label c ≤ 1 → c ∉ x.own → x'.text = x.text
 objects : All2 (ObjS c) x.objects x'.objects
 mails : All2 (MailS c) x.mails x'.mails
structure KerS (c : Int) (k k' : Ker) : Prop where
 host : k'.host = k.host
 made : k'.made = k.made
 threads : All2 (ThrSe c) k.threads k'.threads
structure FrameS (c : Int) (f f' : Frame) : Prop where
 src : f'.src = f.src
 dst : f'.dst = f.dst
 seq : f'.seq = f.seq
 ack : f'.ack = f.ack
 thread : f'.thread = f.thread
 mail : MailS c f.mail f'.mail
 certs : f'.certs = f.certs
structure SentSe (c : Int) (s s' : Sent) : Prop where
 frame : FrameS c s.frame s'.frame
 tries : s'.tries = s.tries
 due : s'.due = s.due
structure LineSe (c : Int) (L L' : Line) : Prop where
 next : L'.next = L.next
 high : L'.high = L.high
 seen : L'.seen = L.seen
 sent : All2 (SentSe c) L.sent L'.sent
def NetS (c : Int) (s s' : ByteArray) : Prop := ∃ f f', goodFrameC f = 0 ∧ goodFrameC f' = 0 ∧ s = ⟨(encL f).toArray⟩ ∧ s' = ⟨(encL f').toArray⟩ ∧ FrameS c f f'
structure CluSe (c : Int) (C C' : Clu) : Prop where
 now : C'.now = C.now
 acts : C'.acts = C.acts
 kers : All2 (KerS c) C.kers C'.kers
 certs : C'.certs = C.certs
 lines : All2 (LineSe c) C.lines C'.lines
 net : All2 (NetS c) C.net C'.net
section
variable {c : Int}
theorem TxS.refl (lab : List Lev) (s : ByteArray) : TxS c lab s s := ⟨rfl, fun _ => rfl⟩
theorem MailS.refl (m : Mail) : MailS c m m := ⟨rfl, rfl, rfl, rfl, TxS.refl _ _⟩
theorem ThrSe.refl (x : Thr) : ThrSe c x x := ⟨rfl, rfl, rfl, fun _ _ => rfl, All2.refl (fun o => ⟨rfl, TxS.refl _ _⟩) _, All2.refl MailS.refl _⟩
theorem FrameS.refl (f : Frame) : FrameS c f f := ⟨rfl, rfl, rfl, rfl, rfl, MailS.refl _, rfl⟩
theorem LineSe.refl (L : Line) : LineSe c L L := ⟨rfl, rfl, rfl, All2.refl (fun s => ⟨FrameS.refl _, rfl, rfl⟩) _⟩
theorem KerS.refl (k : Ker) : KerS c k k := ⟨rfl, rfl, All2.refl ThrSe.refl _⟩
theorem goodMail_same {m m' : Mail} (h : MailS c m m') : goodMailC m' = goodMailC m := by
 unfold goodMailC
 rw [h.host, h.thread, h.label, h.grants, h.text.1]
theorem goodFrame_same {f f' : Frame} (h : FrameS c f f') : goodFrameC f' = goodFrameC f := by
 unfold goodFrameC frameRange ackC ackPlain certsC
 rw [h.src, h.dst, h.seq, h.ack, h.thread, goodMail_same h.mail, h.mail.host, h.mail.thread, h.mail.label, h.mail.grants, h.mail.text.1, h.certs]
end
end Go.Proofs.YtnjjdpiofbajlaaGreat

/- Two kernels that differ in what stands above the plain level of a category: what a call makes of them. No program, no memory. -/
namespace Go.Proofs.YtnjjdpiofbajlaaGreat
section
variable {c : Int}
theorem KerS.thr {k k' : Ker} (h : KerS c k k') (t : Int) : ThrSe c (k.thr t) (k'.thr t) := h.threads.getD (ThrSe.refl _) _
theorem KerS.put {k k' : Ker} (h : KerS c k k') (t : Int) {x x' : Thr} (hx : ThrSe c x x') : KerS c (k.put t x) (k'.put t x') := ⟨h.host, h.made, h.threads.set hx _⟩
theorem KerS.obj {k k' : Ker} (h : KerS c k k') (t n : Int) : (k.obj t n = none ∧ k'.obj t n = none) ∨ ∃ o o', k.obj t n = some o ∧ k'.obj t n = some o' ∧ ObjS c o o' := by
 unfold Ker.obj
 split
 ·rcases (h.thr t).objects.at n.toNat with h1 | ⟨x, y, h1, h2, h3⟩
  ·exact .inl h1
  ·exact .inr ⟨x, y, h1, h2, h3⟩
 ·exact .inl ⟨rfl, rfl⟩
def TextS (c : Int) (lab : List Lev) (s s' : ByteArray) : Prop := s'.size = s.size ∧ (s' = s ∨ 1 < lAt lab c)
structure RepS (c : Int) (lab : List Lev) (r r' : Rep) : Prop where
 code : r'.code = r.code
 n : r'.n = r.n
 text : r'.text = r.text ∨ 1 < lAt lab c
theorem RepS.refl (lab : List Lev) (r : Rep) : RepS c lab r r := ⟨rfl, rfl, .inl rfl⟩
end
end Go.Proofs.YtnjjdpiofbajlaaGreat

/- Two clusters that differ in what stands above the plain level of a category: what an act makes of them. No program, no memory. -/
namespace Go.Proofs.YtnjjdpiofbajlaaGreat
section
variable {c : Int} {C C' : Clu}
theorem CluSe.refl (C : Clu) (hok : C.ok) : CluSe c C C := ⟨rfl, rfl, All2.refl KerS.refl _, rfl, All2.refl LineSe.refl _, by
 have : ∀ l : List ByteArray, (∀ s ∈ l, ∃ f, goodFrameC f = 0 ∧ s = ⟨(encL f).toArray⟩) → All2 (NetS c) l l := by
  intro l
  induction l with
  | nil => exact fun _ => .nil
  | cons s l ih =>
   intro h
   obtain ⟨f, h1, h2⟩ := h s (by simp)
   exact .cons ⟨f, f, h1, h1, h2, h2, FrameS.refl f⟩ (ih fun s' hs => h s' (by simp [hs]))
 exact this C.net hok.net⟩
theorem CluSe.ker (h : CluSe c C C') (u : Int) : KerS c (C.ker u) (C'.ker u) := h.kers.getD (KerS.refl _) _
theorem CluSe.line (h : CluSe c C C') (u v : Int) : LineSe c (C.line u v) (C'.line u v) := h.lines.getD (LineSe.refl _) _
theorem CluSe.cert (h : CluSe c C C') (u : Int) : C'.cert u = C.cert u := by unfold Clu.cert; rw [h.certs]
theorem CluSe.thr (h : CluSe c C C') (u v : Int) : ThrSe c (C.thr u v) (C'.thr u v) := (h.ker u).thr v
theorem CluSe.setKer (h : CluSe c C C') (u : Int) {k k' : Ker} (hk : KerS c k k') : CluSe c (C.setKer u k) (C'.setKer u k') := ⟨h.now, h.acts, h.kers.set hk _, h.certs, h.lines, h.net⟩
theorem CluSe.setLine (h : CluSe c C C') (u v : Int) {L L' : Line} (hL : LineSe c L L') : CluSe c (C.setLine u v L) (C'.setLine u v L') := ⟨h.now, h.acts, h.kers, h.certs, h.lines.set hL _, h.net⟩
theorem CluSe.setCert (h : CluSe c C C') (u : Int) (l : List Cert) : CluSe c (C.setCert u l) (C'.setCert u l) := ⟨h.now, h.acts, h.kers, by unfold Clu.setCert; simp only; rw [h.certs], h.lines, h.net⟩
theorem CluSe.push (h : CluSe c C C') {f f' : Frame} (hf : FrameS c f f') : CluSe c (pushC C f) (pushC C' f') := by
 have hg := goodFrame_same hf
 unfold pushC encR
 rw [hg, h.net.length]
 by_cases q : goodFrameC f = 0
 ·rw [if_pos q, if_pos q]
  split
  ·exact ⟨h.now, h.acts, h.kers, h.certs, h.lines, h.net.append (.cons ⟨f, f', q, hg.trans q, rfl, rfl, hf⟩ .nil)⟩
  ·exact h
 ·rw [if_neg q, if_neg q]
  rw [if_neg (fun hh => q hh.1), if_neg (fun hh => q hh.1)]
  exact h
end
end Go.Proofs.YtnjjdpiofbajlaaGreat

/- The walk through the cluster's Thread. -/
namespace Go.Proofs.YtnjjdpiofbajlaaGreat
open Go.RowKit
section
variable {w0 Wd W : World} {M0 : List Nat} {own : Blks} {X D : Nat → Prop} {gc : Nat} {kg : List Nat} {C : Clu}
theorem cluster_ThreadF (P : Clus w0 M0 own X Wd D gc kg C W) (h t : Int) : Calls Tryz.prog 11 #[.pointer (some ⟨gc, 0, none⟩), .int .i64 h, .int .i64 t] W (ThreadPostF W (thrC2 C h t)) := by
 have st := St.start W
 unfold thrC2
 by_cases h4 : four h = true
 case neg =>
  rw [if_neg h4]
  clear P
  rcases four_no (by simpa using h4) with d | ⟨d0, d⟩
  all_goals
   clear h4
   go_enter Tryz.func11, Tryz.ntmps11
   go_wp2_with (first | go_skip | (with_reducible refine mA st Tryz.zeroValue39 ?_; clear st; intro g1 w1 hg1 st) | (with_reducible refine mS 0 st Tryz.sizeOf39 ?_; clear st; intro w2 st hw2m hw2z))
   have hc := fun j => st.cell (i := 0) rfl j
   refine bodyPost_ret (v := thrV zeroT none 0 none 0 none 0 none 0) ?hr rfl ⟨none, 0, none, 0, none, 0, none, 0, rfl, st.below, ThrS.zero _ _⟩
   case hr => simp [results, Tryz.results11, go_sem, hc, thrV, zeroT]; try rfl
 rw [if_pos h4]
 obtain ⟨n, rfl, hn⟩ := four_nat h4
 obtain ⟨k, ek, e1, hk, hkh⟩ := P.okC.kerAt hn
 obtain ⟨ok, BB, na, nc, L, hA, -, -, -⟩ := P.open
 obtain ⟨k', g, css, Bs, ek', eg, eB, hK, ep⟩ := hA.kerAt hn
 rw [ek] at ek'
 cases ek'
 rw [e1]
 have f0 := hA.cell ep
 have hgl := (Array.getElem?_eq_some_iff.1 hA.blk).1
 have HT := qh (fun (V : World) (hV : Below W.heap.size W V) => kernel_ThreadF ok V g k css Bs (hK.below hV) hk.thr t)
 have HC := qh (fun (V : World) (hV : Below W.heap.size W V) => (hV.cell (p := ⟨gc, 1 + n, none⟩) hgl).trans f0)
 have d1 : decide ((n : Int) < 0) = false := by simp
 have d2 : decide ((4 : Int) ≤ n) = false := by simp; omega
 clear hA P hK h4 ek eg eB ep e1 f0
 go_enter Tryz.func11, Tryz.ntmps11
 go_upto_region 3 with (first | go_skip | (with_reducible refine mA st Tryz.zeroValue39 ?_; clear st; intro g1 w1 hg1 st))
 have f1 := HC.out _ st.below
 go_wp2_with (first
  | go_skip
  | (go_at_call 31; go_must (have hl1 := st.ltAt (i := 0) rfl; have hz0 := st.size; refine (HT.out _ st.below).mono ?_; rintro e v3 ⟨la, lc, oa, oc, ba, bc, ma, mc, rfl, hb3, hT⟩; replace st := st.call hb3; have hz1 := hb3.size; unfold thrV))
  | (with_reducible refine mS 0 st Tryz.sizeOf39 ?_; clear st; intro w4 st hw4m hw4z))
 have hc := fun j => st.cell (i := 0) rfl j
 have hg1w := st.ltAt (i := 0) rfl
 refine bodyPost_ret (v := thrV (thrOf k t) la lc oa oc ba bc ma mc) ?hr rfl ⟨la, lc, oa, oc, ba, bc, ma, mc, rfl, st.below, ?_⟩
 case hr => simp [results, Tryz.results11, go_sem, hc, thrV]; try rfl
 exact hT.move (by omega) fun b hb ho => ⟨⟨by have := ho.1; omega, ho.2.at (hw4m b (by have := ho.1; omega))⟩, hw4m b (by have := ho.1; omega)⟩
end
end Go.Proofs.YtnjjdpiofbajlaaGreat

/- Small facts for TopSecret's walk: two clusters beside blocks of ours. -/
namespace Go.Proofs.YtnjjdpiofbajlaaGreat
open Go.RowKit
theorem Clu2.anyD {w0 Wd W : World} {own : Blks} {D : Nat → Prop} {ga gb : Nat} {ka kb : List Nat} {A B : Clu} (h : Clu2 w0 own Wd D ga ka A gb kb B W) : Clu2 w0 own W (fun _ => False) ga ka A gb kb B W := by
 obtain ⟨st, okA, okB, kept, ownD, oa, BA, na, ca, LA, ob, BB, nb, cb, LB, hA, hB, mA, mB, oA, oB⟩ := h
 exact ⟨st, okA, okB, ⟨Nat.le_refl _, fun _ _ _ => rfl⟩, fun _ _ h => h.1.elim, oa, BA, na, ca, LA, ob, BB, nb, cb, LB, hA, hB, fun b hb => ⟨(mA b hb).1, (mA b hb).2.1, fun h => h.1.elim, (mA b hb).2.2.2⟩, fun b hb => ⟨(mB b hb).1, (mB b hb).2.1, fun h => h.1.elim, (mB b hb).2.2.2⟩, oA, oB⟩
section
variable {C : Clu} {h t c : Int}
end
end Go.Proofs.YtnjjdpiofbajlaaGreat

/- The walk through play beside another cluster that its look turns. -/
namespace Go.Proofs.YtnjjdpiofbajlaaGreat
open Go.RowKit
def LookAt2 (f : Nat) (caps : Array Value) (w0 : World) (own : Blks) (gb : Nat) (kb : List Nat) (l : List Deed) : Prop :=
 ∀ (n : Nat) (a : Deed), l[n]? = some a → n < 120 → ∀ (gc : Nat) (kg : List Nat) (V : World) (la : Option Addr) (lc : Nat) (ga : Option Addr) (gx : Nat),
  w0.heap.size ≤ gc → Clu2 w0 own V (fun _ => False) gc kg (doAll newC (l.take (n + 1))) gb kb (doAll newC (l.take n)) V → SlR (fun b => b < w0.heap.size) V 2 RLev la lc a.call.label → SlR (fun b => b < w0.heap.size) V 1 RInt ga gx a.call.grants →
  Calls Tryz.prog f (#[.pointer (some ⟨gc, 0, none⟩), deedV a la lc ga gx, RepV (doC (doAll newC (l.take n)) a).2] ++ caps) V fun e V' => e = .returned (.bool true) ∧ Clu2 w0 own V' (fun _ => False) gc kg (doAll newC (l.take (n + 1))) gb kb (doAll newC (l.take (n + 1))) V'
theorem top_play2 (f : Nat) (caps : Array Value) (eg : ∀ args w, (callFunc f args).run Tryz.prog w = .ok (.enter f args) w) (w0 w : World) (own : Blks) (gb : Nat) (kb : List Nat) (l : List Deed) (la : Option Addr) (lc : Nat)
  (hR : SlR (fun _ => True) w0 12 (RDeed (fun _ => True) w0) la lc l) (hlen : l.length ≤ 4611686018427387904) (hB : ∀ a ∈ l, a.call.label.length * 16 ≤ 140737488351232 ∧ a.call.grants.length * 8 ≤ 140737488351232)
  (P : Clus w0 [] own (fun _ => False) w (fun _ => False) gb kb newC w) (HL : LookAt2 f caps w0 own gb kb l) :
  Calls Tryz.prog 9 #[.slice la l.length lc, .func (.func f) #[] caps] w fun e w' => ∃ gc, e = .returned (.tuple #[.pointer (some ⟨gc, 0, none⟩), .bool true]) ∧ Below w0.heap.size w0 w' := by
 have HA := qh (fun V : World => top_alive V)
 have st := St.start w
 have HP0 := qh P
 have HLo := qh HL
 have HRl := qh hR
 have HBl := qh hB
 clear hR hB P HL
 go_enter Tryz.func9, Tryz.ntmps9
 go_wp2_with (first
  | go_skip
  | (go_at_call 14; go_must (refine (HA.out _).mono ?_; rintro e v1 ⟨rfl, hb1⟩))
  | (go_at_call 15; go_must (refine (cluster_NewX _).mono ?_; rintro e v2 ⟨gc, kg, rfl, P1⟩)))
 have hgc : w0.heap.size ≤ gc := Nat.le_trans (Nat.le_trans HP0.out.st.size hb1.size) P1.gcNew
 have P2 := qh (((HP0.out.below hb1).second P1).swap).anyD
 clear P1 hb1 st HP0
 go_loopw [7] (fun j wr => ∃ (k : Nat), k ≤ l.length ∧ k ≤ 120 ∧ j = .int .i64 k ∧ Clu2 w0 own wr (fun _ => False) gc kg (doAll newC (l.take k)) gb kb (doAll newC (l.take k)) wr) (fun j _ => 120 - (intOf j).toNat)
 case atStart => exact ⟨0, Nat.zero_le _, by omega, rfl, P2.out⟩
 case round =>
  clear P2
  obtain ⟨k, hk, hk120, rfl, Pk⟩ := hrel
  have PK := qh Pk
  clear Pk
  by_cases hkl : k < l.length
  case neg =>
   have d1 : decide ((k : Int) < (l.length : Int)) = false := by simp; omega
   obtain rfl : k = l.length := by omega
   go_wp2_with (first | go_skip | fail)
   go_ret2
   exact ⟨gc, rfl, PK.out.st.below⟩
  by_cases h120 : k < 120
  case neg =>
   have d1 : decide ((k : Int) < (l.length : Int)) = true := by simp; omega
   have d2 : decide ((k : Int) < 120) = false := by simp; omega
   obtain rfl : k = 120 := by omega
   go_wp2_with (first | go_skip | fail)
   go_ret2
   exact ⟨gc, rfl, PK.out.st.below⟩
  have d1 : decide ((k : Int) < (l.length : Int)) = true := by simp; omega
  have d2 : decide ((k : Int) < 120) = true := by simp; omega
  obtain ⟨bb, oo, cs, hre, hok, hbb, hrd, -, -, hcc⟩ := HRl.out.2.2.2 k l[k] (by simp [hkl])
  obtain ⟨la1, lc1, ga1, gx1, rfl, h1, h2⟩ := hrd
  obtain ⟨hll, hgl⟩ := HBl.out l[k] (List.getElem_mem _)
  have HLk := qh (HLo.out k l[k] (by simp [hkl]) h120)
  have hst := (doAll_take hkl newC).1
  rw [hst] at HLk
  have HST := qh hst
  clear hst
  obtain ⟨Ck, hCk⟩ : ∃ Ck, doAll newC (l.take k) = Ck := ⟨_, rfl⟩
  rw [hCk] at PK HLk HST
  clear hCk
  generalize l[k] = a at h1 h2 hcc hll hgl HST HLk
  obtain ⟨s2, hs2⟩ : ∃ s2, doC Ck a = s2 := ⟨_, rfl⟩
  rw [hs2] at HST HLk
  have HS2 := qh hs2
  clear hs2
  have hkp : Below w0.heap.size w0 wr := PK.out.st.below
  have hcw : ∀ (j : Nat) (v : Value), ([.int .i64 a.kind, .int .i64 a.h, .int .i64 a.t, .int .i64 a.n, .int .i64 a.call.kind, .int .i64 a.call.h, .int .i64 a.call.t, .int .i64 a.call.n, .int .i64 a.call.c, .slice la1 a.call.label.length lc1, .slice ga1 a.call.grants.length gx1, .string a.call.text])[j]? = some v → wr.cell? ⟨bb, oo + k * 12 + j, none⟩ = some v := fun j v hv => (hkp.cell (p := ⟨bb, oo + k * 12 + j, none⟩) hbb).trans (hcc j v hv)
  have HD1 := qh (h1.fit (ok' := fun b => b < w0.heap.size) fun b hb _ => hb)
  have HD2 := qh (h2.fit (ok' := fun b => b < w0.heap.size) fun b hb _ => hb)
  have HDo := qh (clu2_Do PK.out a (fun b => b < w0.heap.size) (fun b hb => by omega) la1 lc1 ga1 gx1 hll hgl (HD1.out.below hkp) (HD2.out.below hkp))
  rw [HS2.out] at HDo
  unfold deedV RepV at HDo
  have HCW := qh hcw
  have HC0 := qh hcc
  clear h1 h2 hkp hok hcc hcw hll hgl
  subst hre
  go_upto_region 8 with (first
   | go_skip
   | (with_reducible refine at_load 32 ?_; refine wpList_load_cells (wanted_none rfl) 32 _ rfl Tryz.isAgg32 _ Tryz.sizeOf32 bb (oo + k * 12) rfl [.int .i64 a.kind, .int .i64 a.h, .int .i64 a.t, .int .i64 a.n, .int .i64 a.call.kind, .int .i64 a.call.h, .int .i64 a.call.t, .int .i64 a.call.n, .int .i64 a.call.c, .slice la1 a.call.label.length lc1, .slice ga1 a.call.grants.length gx1, .string a.call.text] rfl HCW.out ?_)
   | (go_at_call 18; go_must (refine HDo.out.mono ?_; rintro e V ⟨rfl, P9⟩; have st := St.start V))
   | (with_reducible refine mA st Tryz.zeroValue35 ?_; clear st; intro g8 w8 hg8 st) | (with_reducible refine mS 0 st Tryz.sizeOf35 ?_; clear st; intro w9 st hw9m hw9z))
  try simp only [kP, kA, kS, kZ]
  have hkp9 : Below w0.heap.size w0 V := P9.st.below
  have HP9 := qh P9
  clear P9
  replace st := st.drew
  have P10 := qh (HP9.out.below st.below).anyD
  have hk10 : Below w0.heap.size w0 w9.drew := hkp9.keep st.below
  have HLL := qh (HLk.out gc kg _ la1 lc1 ga1 gx1 hgc P10.out (HD1.out.below hk10) (HD2.out.below hk10))
  unfold deedV RepV at HLL
  have HCU := qh (show ∀ U, St [g8] w9.drew U [(g8, 35, [.int .i64 s2.2.code, .int .i64 s2.2.n, .string s2.2.text])] → ∀ (j : Nat) (v : Value), ([.int .i64 a.kind, .int .i64 a.h, .int .i64 a.t, .int .i64 a.n, .int .i64 a.call.kind, .int .i64 a.call.h, .int .i64 a.call.t, .int .i64 a.call.n, .int .i64 a.call.c, .slice la1 a.call.label.length lc1, .slice ga1 a.call.grants.length gx1, .string a.call.text])[j]? = some v → U.cell? ⟨bb, oo + k * 12 + j, none⟩ = some v from fun U hU j v hv => by
   have hz9 : w0.heap.size ≤ V.heap.size := hkp9.size
   have hg8 : V.heap.size ≤ g8 := by simpa using st.mine _ (mgE (i := 0) rfl)
   exact (World.cell?_of_block (w := w9.drew) (a := ⟨bb, oo + k * 12 + j, none⟩) (hU.frame bb (Nat.lt_of_lt_of_le hbb hk10.size) (by simp; omega))).trans ((hk10.cell (p := ⟨bb, oo + k * 12 + j, none⟩) hbb).trans (HC0.out j v hv)))
  have hI := st.rebase
  simp only [List.map_cons, List.map_nil] at hI
  clear st hkp9 hk10
  refine lex_tail (by kernel_rfl) 7 2 [7, 8] rfl (by decide +kernel) (fun U => St [g8] w9.drew U [(g8, 35, [.int .i64 s2.2.code, .int .i64 s2.2.n, .string s2.2.text])]) ?_
  refine lexS 0 rfl hI ?_
  refine lexS 1 rfl hI ?_
  refine lexS 2 rfl hI ?_
  refine lexS 3 rfl hI ?_
  refine lexT (v := .pointer (some ⟨bb, oo + k * 12, none⟩)) 4 rfl hI (fun W hW => by (first | (go_simp; done) | (go_simp; omega) | (go_simp; intro h; omega))) ?_
  refine lexT 5 rfl hI (fun U hU => run_load_at 32 _ rfl Tryz.isAgg32 _ Tryz.sizeOf32 bb (oo + k * 12) rfl [.int .i64 a.kind, .int .i64 a.h, .int .i64 a.t, .int .i64 a.n, .int .i64 a.call.kind, .int .i64 a.call.h, .int .i64 a.call.t, .int .i64 a.call.n, .int .i64 a.call.c, .slice la1 a.call.label.length lc1, .slice ga1 a.call.grants.length gx1, .string a.call.text] rfl (HCU.out U hU)) ?_
  refine lexT 6 rfl hI (fun W hW => St.run_load_agg hW 0 35 _ rfl Tryz.isAgg35 _ Tryz.sizeOf35 rfl rfl rfl rfl) ?_
  clear hI
  refine lex_done (by decide +kernel) ?_
  refine tail_next 7 rfl (by first | exact wanted_none rfl | exact wanted_some rfl rfl) (by decide +kernel) fun K hK => ?_
  refine wp_callee (f := f) (by first | (go_simp; done) | (go_simp; rfl)) ?_
  refine HLL.out.mono ?_
  rintro e V2 ⟨rfl, PN⟩
  refine ⟨_, rfl, ?_⟩
  refine hK _ _ ?_; clear hK
  refine tail_last 8 rfl (by first | exact wanted_none rfl | exact wanted_some rfl rfl) (by decide +kernel) (by decide +kernel) fun K hK => ?_
  refine wp_value (v := .bool false) (w' := V2) (by first | (go_simp; done) | (go_simp; rfl)) ?_
  refine hK _ _ ?_; clear hK
  have PN2 := qh PN
  have HST2 := qh HST.out
  clear PN HLL HCU P10 HP9 HDo HD1 HD2 HCW HC0
  go_wp2_with (first | go_skip | fail)
  go_roundw
  case rel => exact ⟨k + 1, hkl, by omega, by go_num, by rw [HST2.out]; exact PN2.out⟩
  case measure => simp [intOf] <;> omega
end Go.Proofs.YtnjjdpiofbajlaaGreat

/- What was told is written over: what stays. No program is in sight. -/
namespace Go.Proofs.YtnjjdpiofbajlaaGreat
open Go.RowKit
structure Spoil (base : Nat) (w U : World) : Prop where
 os : U.os = w.os
 tape : U.tape = w.tape
 output : U.output = w.output
 size : w.heap.size ≤ U.heap.size
 old : ∀ b, b < base → U.heap[b]? = w.heap[b]?
 block : ∀ b cs e, base ≤ b → w.heap[b]? = some (.cells cs e (0, 0)) → ∃ cs', U.heap[b]? = some (.cells cs' e (0, 0)) ∧ cs'.size = cs.size ∧ ∀ (j : Nat) (a : Option Addr) (n c : Nat), cs[j]? = some (.slice a n c) → cs'[j]? = some (.slice a n c)
section
variable {base : Nat} {w U V : World}
theorem Spoil.refl (base : Nat) (w : World) : Spoil base w w := ⟨rfl, rfl, rfl, Nat.le_refl _, fun _ _ => rfl, fun _ cs _ _ h => ⟨cs, h, rfl, fun _ _ _ _ h => h⟩⟩
theorem Spoil.below (h : Spoil base w U) (hw : base ≤ w.heap.size) (hb : Below U.heap.size U V) : Spoil base w V :=
 ⟨hb.os.trans h.os, hb.tape.trans h.tape, hb.output.trans h.output, Nat.le_trans h.size hb.size, fun b hb' => (hb.block b (by have := h.size; omega)).trans (h.old b hb'), fun b cs e h1 h2 => by
  obtain ⟨cs', h3, h4, h5⟩ := h.block b cs e h1 h2
  exact ⟨cs', (hb.block b (Array.getElem?_eq_some_iff.1 h3).1).trans h3, h4, h5⟩⟩
theorem Spoil.onto (h : Spoil base w U) {n : Nat} {w0 : World} (hB : Below n w0 w) (hn : n ≤ base) : Below n w0 U :=
 ⟨h.os.trans hB.os, h.tape.trans hB.tape, h.output.trans hB.output, Nat.le_trans hB.size h.size, fun b hb => (h.old b (by omega)).trans (hB.block b hb)⟩
theorem Spoil.store (h : Spoil base w U) {b j : Nat} (hb : base ≤ b) (hf : FreeB w b) {v : Value} (hc : w.cell? ⟨b, j, none⟩ = some v) (hn : ∀ a n c, v ≠ .slice a n c) (u : Value) :
  Spoil base w (U.setCell ⟨b, j, none⟩ u) ∧ (U.cell? ⟨b, j, none⟩).isSome = true ∧ U.frozen? ⟨b, j, none⟩ = false := by
 obtain ⟨cs, e, hf⟩ := hf
 obtain ⟨cs', h3, h4, h5⟩ := h.block b cs e hb hf
 have hcj : cs[j]? = some v := by simpa [World.cell?, hf] using hc
 have hjl := (Array.getElem?_eq_some_iff.1 hcj).1
 refine ⟨⟨h.os, h.tape, h.output, by simpa [World.setCell] using h.size, fun b' hb' => ?_, fun b' cs2 e2 h1 h2 => ?_⟩, ?_, ?_⟩
 ·exact (heap_setCell_other U ⟨b, j, none⟩ b' _ (by show b' ≠ b; omega)).trans (h.old b' hb')
 ·by_cases e1 : b' = b
  ·subst e1
   rw [hf] at h2
   simp only [Option.some.injEq, Obj.cells.injEq] at h2
   obtain ⟨rfl, rfl, -⟩ := h2
   refine ⟨cs'.setIfInBounds j u, ?_, by simpa using h4, fun i a n c hi => ?_⟩
   ·simp [World.setCell, h3, Array.getElem?_modify]
   ·have hne : j ≠ i := by
     rintro rfl
     rw [hcj] at hi
     cases hi
     exact hn a n c rfl
    rw [Array.getElem?_setIfInBounds, if_neg hne]
    exact h5 i a n c hi
  ·obtain ⟨cs3, q1, q2, q3⟩ := h.block b' cs2 e2 h1 h2
   exact ⟨cs3, (heap_setCell_other U ⟨b, j, none⟩ b' _ e1).trans q1, q2, q3⟩
 ·simp only [World.cell?, h3, Option.isSome_none, Bool.false_eq_true, if_false]
  rw [Array.getElem?_eq_getElem (by omega)]
  rfl
 ·simp [World.frozen?, h3]
theorem Spoil.slice (h : Spoil base w U) {b j : Nat} (hb : base ≤ b) (hf : FreeB w b) {a : Option Addr} {n c : Nat} (hc : w.cell? ⟨b, j, none⟩ = some (.slice a n c)) : U.cell? ⟨b, j, none⟩ = some (.slice a n c) := by
 obtain ⟨cs, e, hf⟩ := hf
 obtain ⟨cs', h3, h4, h5⟩ := h.block b cs e hb hf
 have hcj : cs[j]? = some (.slice a n c) := by simpa [World.cell?, hf] using hc
 simp only [World.cell?, h3, Option.isSome_none, Bool.false_eq_true, if_false]
 exact h5 j a n c hcj
theorem St.spoil {M : List Nat} {w0 w : World} {own : Blks} (st : St M w0 w own) {b j : Nat} (hb : w0.heap.size ≤ b) (hn : ∀ x ∈ own, x.1 ≠ b) (u : Value) : St M w0 (w.setCell ⟨b, j, none⟩ u) own :=
 ⟨st.os, st.tape, st.output, by simpa [World.setCell] using st.size, fun b' hb' hm => (heap_setCell_other w ⟨b, j, none⟩ b' _ (by show b' ≠ b; omega)).trans (st.frame b' hb' hm), fun x hx => (heap_setCell_other w ⟨b, j, none⟩ x.1 _ (hn x hx)).trans (st.blk x hx), st.mine, st.ne⟩
end
theorem wpList_storeP {P : Program} {ops : Array Oper} {rest : List Oper} {o : Oper} {A : Act} {w : World} {Q : Exit → Act → World → Prop} (T : TypeId) (x y : Operand) (ho : o.op = .store T x y) (hgd : Region.wanted o (yielded ops A.tmps) = true) (hsz : ∀ w, (sizeOf T).run P w = .ok 1 w) (g off : Nat) (hx : A.eval x = .pointer (some ⟨g, off, none⟩)) (v : Value) (hy : A.eval y = v) (h1 : v.cells = #[v]) (h1' : v.oneCell' = true)
  (hc : (w.cell? ⟨g, off, none⟩).isSome = true) (hf : w.frozen? ⟨g, off, none⟩ = false) (h : wpList P ops Q rest (A.put o.dst undef) (w.setCell ⟨g, off, none⟩ v)) : wpList P ops Q (o :: rest) A w := by
 refine wpList_wanted hgd fun K hK => ?_
 have hst := run_storeCells_cells (P := P) g off [v] 0 w
  (fun i hi => by
   simp at hi; subst hi
   rw [Nat.add_zero]; exact hc) (fun i hi => by
   simp at hi; subst hi
   rw [Nat.add_zero]; exact hf) (by simpa using h1')
 unfold Oper.wp
 simp only [execOp, ho, hx, hy, Instr.storeAt, Instr.sureAddr, storeVar, Sem.run_bind, Sem.run_pure, Result.andThen_ok, hsz, h1, List.size_toArray, List.length_cons, List.length_nil, ne_eq, not_true, if_false, hst]
 exact hK _ _ h
end Go.Proofs.YtnjjdpiofbajlaaGreat

/- The walk through the cluster's Certs. -/
namespace Go.Proofs.YtnjjdpiofbajlaaGreat
open Go.RowKit
section
variable {w0 Wd W : World} {M0 : List Nat} {own : Blks} {X D : Nat → Prop} {gc : Nat} {kg : List Nat} {C : Clu}
def certOf (C : Clu) (h : Int) : List Cert := if four h = true then C.cert h else []
theorem cluster_Certs (P : Clus w0 M0 own X Wd D gc kg C W) (h : Int) : Calls Tryz.prog 13 #[.pointer (some ⟨gc, 0, none⟩), .int .i64 h] W fun e W' => ∃ a c, e = .returned (.slice a (certOf C h).length c) ∧ Below W.heap.size W W' ∧ Own W.heap.size 47 W' 4 RCert a c (certOf C h) := by
 unfold certOf
 by_cases h4 : four h = true
 case neg =>
  rw [if_neg h4]
  clear P
  rcases four_no (by simpa using h4) with d | ⟨d0, d⟩
  all_goals
   clear h4
   go_enter Tryz.func13, Tryz.ntmps13
   go_wp2_with (first | go_skip | fail)
   go_ret
   exact ⟨none, 0, rfl, Below.refl _ _, Own.nil _ _ _ _ _⟩
 rw [if_pos h4]
 obtain ⟨n, rfl, hn⟩ := four_nat h4
 obtain ⟨l, el, e1, hl⟩ := P.okC.certAt hn
 obtain ⟨ok, BB, na, nc, L, hA, -, -, -⟩ := P.open
 obtain ⟨v, ev, a0, c0, rfl, hR⟩ := hA.cells.cert n l el
 have f0 := hA.cell ev
 have hl24 := ((goodCerts_iff l).1 hl).2.2
 rw [e1]
 have HC := qh (slices_Clone_Cert ok W a0 c0 l (by omega) hR)
 have d1 : decide ((n : Int) < 0) = false := by simp
 have d2 : decide ((4 : Int) ≤ n) = false := by simp; omega
 clear hA P hR h4 el ev e1 hl
 go_enter Tryz.func13, Tryz.ntmps13
 go_wp2_with (first | go_skip | (go_at_call 32; go_must (refine HC.out.mono ?_; rintro e v1 ⟨a, c, rfl, hb, hO⟩)))
 go_ret
 exact ⟨a, c, rfl, hb, hO⟩
end
end Go.Proofs.YtnjjdpiofbajlaaGreat

/- '==' and '!=' on replies. -/
namespace Go.Proofs.YtnjjdpiofbajlaaGreat
open Go.RowKit
theorem rep_ext {a b : Rep} : a = b ↔ a.code = b.code ∧ a.n = b.n ∧ a.text = b.text := by
 obtain ⟨x, y, z⟩ := a
 obtain ⟨x', y', z'⟩ := b
 simp
theorem eqin_Reply (d : Nat) (a b : Rep) (W : World) : (Op.equalIn (d + 2) 35 (RepV a) (RepV b)).run Tryz.prog W = .ok (decide (a = b)) W := by
 have h1 : Tryz.prog.underlying 35 = some (.struct (Tryz.prog.fieldsOf 35)) := by kernel_rfl
 have h2 : Tryz.prog.stoodInHeld 35 = false := by kernel_rfl
 have hU := Tryz.underlying35
 have hz : ∀ W, (sizeOf 3).run Tryz.prog W = .ok 1 W := Tryz.sizeOf3
 have ha : ∀ W, (isAgg 3).run Tryz.prog W = .ok false W := Tryz.isAgg3
 have hz2 : ∀ W, (sizeOf 33).run Tryz.prog W = .ok 1 W := Tryz.sizeOf33
 have ha2 : ∀ W, (isAgg 33).run Tryz.prog W = .ok false W := Tryz.isAgg33
 have hz3 : ∀ W, (sizeOf 9).run Tryz.prog W = .ok 1 W := Tryz.sizeOf9
 have ha3 : ∀ W, (isAgg 9).run Tryz.prog W = .ok false W := Tryz.isAgg9
 have e : ∀ d a b W, (Op.equalIn (d + 1) 3 (.int .i64 a) (.int .i64 b)).run Tryz.prog W = .ok (a == b) W := fun d a b W => run_equalIn_int W d _ _ _ a b Tryz.underlying3
 have e2 : ∀ d a b W, (Op.equalIn (d + 1) 33 (.int .i64 a) (.int .i64 b)).run Tryz.prog W = .ok (a == b) W := fun d a b W => run_equalIn_int W d _ _ _ a b Tryz.underlying33
 have e3 : ∀ d a b W, (Op.equalIn (d + 1) 9 (.string a) (.string b)).run Tryz.prog W = .ok (a.toList == b.toList) W := fun d a b W => run_equalIn_string W d _ a b Tryz.underlying9
 unfold RepV
 rw [run_equalIn_agg W (d + 1) _ _ _ h1 h2]
 have hx := rep_ext (a := a) (b := b)
 obtain ⟨x, y, z⟩ := a
 obtain ⟨x', y', z'⟩ := b
 simp [Program.fieldsOf, hU, Op.eqFields, part, ha, hz, ha2, hz2, ha3, hz3, e _ _ _ W, e2 _ _ _ W, e3 _ _ _ W, Result.andThen]
 by_cases q3 : z = z'
 ·subst q3
  by_cases q1 : x = x' <;> by_cases q2 : y = y' <;> simp [q1, q2]
 ·have q4 : ¬ z.toList = z'.toList := by
   intro h
   rw [ByteArray.toList_eq, ByteArray.toList_eq] at h
   exact q3 (ByteArray.ext (Array.toList_inj.1 h))
  by_cases q1 : x = x' <;> by_cases q2 : y = y' <;> simp [q1, q2, q3, q4]
theorem neq_Reply (a b : Rep) (r : Bool) (h : decide (a = b) = r) (W : World) : (binOp .neq 35 (RepV a) (RepV b)).run Tryz.prog W = .ok (.bool (!r)) W := by
 unfold RepV
 rw [run_neq_struct]
 have := eqin_Reply 9998 a b W
 unfold RepV at this
 rw [this, h]
 rfl
theorem guard_Reply (op : BinOp) (x y : Operand) (xs ys : Array Value) (W : World) : (eqGuard op 35 x y (.agg xs) (.agg ys)).run Tryz.prog W = .ok () W := run_eqGuard_agg W op _ x y xs ys (by kernel_rfl)
end Go.Proofs.YtnjjdpiofbajlaaGreat

/- What is looked at behind an act of a cluster: the walk through TopMemory's closure, which writes over all that it was told. -/
namespace Go.Proofs.YtnjjdpiofbajlaaGreat
open Go.RowKit
theorem run_neqRep2 {w : World} {o : Oper} {A : Act} (T' : TypeId) (x y : Operand) (ho : o.op = .binOp .neq 35 x y T') (r : Rep) (hx : A.eval x = .agg #[.int .i64 r.code, .int .i64 r.n, .string r.text]) (hy : A.eval y = .agg #[.int .i64 r.code, .int .i64 r.n, .string r.text]) : (execOp A.eval o).run Tryz.prog w = .ok (.value (.bool false)) w := by
 have h := neq_Reply r r true (by simp) w
 unfold RepV at h
 simp only [execOp, ho, hx, hy, Sem.run_bind, guard_Reply, Result.andThen_ok, h, Sem.run_pure]
 rfl
theorem cells3 {M : List Nat} {w0 w : World} {own : Blks} (st : St M w0 w own) {g h k : Nat} {T T' T2 : TypeId} {xs ys zs : List Value} (h0 : own[0]? = some (g, T, xs)) (h1 : own[1]? = some (h, T', ys)) (h2 : own[2]? = some (k, T2, zs)) :
  (∀ (j : Nat) (v : Value), xs[j]? = some v → w.cell? ⟨g, 0 + j, none⟩ = some v) ∧ (∀ (j : Nat) (v : Value), ys[j]? = some v → w.cell? ⟨h, 0 + j, none⟩ = some v) ∧ ∀ (j : Nat) (v : Value), zs[j]? = some v → w.cell? ⟨k, 0 + j, none⟩ = some v :=
 ⟨fun j v hv => (st.cell h0 (0 + j)).trans (by rw [Nat.zero_add]; exact hv), fun j v hv => (st.cell h1 (0 + j)).trans (by rw [Nat.zero_add]; exact hv), fun j v hv => (st.cell h2 (0 + j)).trans (by rw [Nat.zero_add]; exact hv)⟩
theorem look_memory {w0 : World} {gV gb : Nat} {kb : List Nat} {C C' : Clu} {a : Deed} {rc rn : Int} {rt : ByteArray} (hs : doC C a = (C', ⟨rc, rn, rt⟩)) (hll : a.call.label.length * 16 ≤ 140737488351232) (hgl : a.call.grants.length * 8 ≤ 140737488351232) (hgb : w0.heap.size ≤ gb)
  (gc : Nat) (kg : List Nat) (V : World) (la : Option Addr) (lc : Nat) (ga1 : Option Addr) (gx : Nat) (P : Clu2 w0 [(gV, 23, [.pointer (some ⟨gb, 0, none⟩)])] V (fun _ => False) gc kg C' gb kb C V) (h1 : SlR (fun b => b < w0.heap.size) V 2 RLev la lc a.call.label) (h2 : SlR (fun b => b < w0.heap.size) V 1 RInt ga1 gx a.call.grants) :
  Calls Tryz.prog 30 #[.pointer (some ⟨gc, 0, none⟩), .agg #[.int .i64 a.kind, .int .i64 a.h, .int .i64 a.t, .int .i64 a.n, .int .i64 a.call.kind, .int .i64 a.call.h, .int .i64 a.call.t, .int .i64 a.call.n, .int .i64 a.call.c, .slice la a.call.label.length lc, .slice ga1 a.call.grants.length gx, .string a.call.text], .agg #[.int .i64 rc, .int .i64 rn, .string rt], .pointer (some ⟨gV, 0, none⟩)] V fun e V' => e = .returned (.bool true) ∧ Clu2 w0 [(gV, 23, [.pointer (some ⟨gb, 0, none⟩)])] V' (fun _ => False) gc kg C' gb kb C' V' := by
 have hokC' := P.okA
 have HY := qh (fun (h t : Nat) (hh : h < 4) (ht : t < 4) => (show (C'.thr h t).ok from by
  obtain ⟨k, ek, e2, hk, hkh⟩ := hokC'.kerAt hh
  unfold Clu.thr; rw [e2]; exact hk.at t))
 have st := P.st.rebase
 simp only [List.map_cons, List.map_nil] at st
 have HP := qh P
 have hgV := P.st.ltAt (i := 0) rfl
 clear P
 go_enter Tryz.func30, Tryz.ntmps30
 go_upto_region 1 with (first | go_skip | (with_reducible refine mB 32 st ?_; clear st; intro g5 w5 hg5 st) | (with_reducible refine mB 35 st ?_; clear st; intro g6 w6 hg6 st))
 try simp only [kP, kA, kS, kZ]
 have hQ := (HP.out.walk st).below (Below.refl _ _).drew
 have hI := cells3 hQ.st rfl rfl rfl
 have hz6 := st.size
 have HD1 := qh (h1.fit (ok' := fun b => b < w0.heap.size) fun b hb ho => ho)
 have HD2 := qh (h2.fit (ok' := fun b => b < w0.heap.size) fun b hb ho => ho)
 clear h1 h2
 refine lex_region (by kernel_rfl) 5 rfl (fun U => (∀ (j : Nat) (v : Value), ([.pointer (some ⟨gb, 0, none⟩)] : List Value)[j]? = some v → U.cell? ⟨gV, 0 + j, none⟩ = some v) ∧ (∀ (j : Nat) (v : Value), ([.int .i64 a.kind, .int .i64 a.h, .int .i64 a.t, .int .i64 a.n, .int .i64 a.call.kind, .int .i64 a.call.h, .int .i64 a.call.t, .int .i64 a.call.n, .int .i64 a.call.c, .slice la a.call.label.length lc, .slice ga1 a.call.grants.length gx, .string a.call.text])[j]? = some v → U.cell? ⟨g5, 0 + j, none⟩ = some v) ∧ ∀ (j : Nat) (v : Value), ([.int .i64 rc, .int .i64 rn, .string rt])[j]? = some v → U.cell? ⟨g6, 0 + j, none⟩ = some v) ?_
 refine lexT 0 rfl hI (fun U hU => run_cell_one 23 _ rfl Tryz.isAgg23 gV 0 rfl _ (hU.1 0 _ rfl)) ?_
 refine lexT 1 rfl hI (fun U hU => run_load_at 32 _ rfl Tryz.isAgg32 _ Tryz.sizeOf32 g5 0 rfl [.int .i64 a.kind, .int .i64 a.h, .int .i64 a.t, .int .i64 a.n, .int .i64 a.call.kind, .int .i64 a.call.h, .int .i64 a.call.t, .int .i64 a.call.n, .int .i64 a.call.c, .slice la a.call.label.length lc, .slice ga1 a.call.grants.length gx, .string a.call.text] rfl hU.2.1) ?_
 refine lexT 3 rfl hI (fun U hU => run_load_at 35 _ rfl Tryz.isAgg35 _ Tryz.sizeOf35 g6 0 rfl [.int .i64 rc, .int .i64 rn, .string rt] rfl hU.2.2) ?_
 clear hI
 refine lexO 2 rfl fun K hK => ?_
 refine wp_callee (f := 18) (by first | (go_simp; done) | (go_simp; rfl)) ?_
 have hDo := clu2_Do hQ.swap a (fun b => b < w0.heap.size) (fun b hb => by omega) la lc ga1 gx hll hgl
  (HD1.out.move (by have := hz6; show _ ≤ w6.heap.size; exact hz6) (fun b hb ho => ⟨ho, st.frame b hb (by simp; have := HP.out.st.mine _ (mgE (i := 0) rfl); simp at this; omega)⟩) fun _ _ r => r)
  (HD2.out.move (by show _ ≤ w6.heap.size; exact hz6) (fun b hb ho => ⟨ho, st.frame b hb (by simp; have := HP.out.st.mine _ (mgE (i := 0) rfl); simp at this; omega)⟩) fun _ _ r => r)
 rw [hs] at hDo
 unfold deedV RepV at hDo
 refine hDo.mono ?_
 rintro e V3 ⟨rfl, P3⟩
 refine ⟨_, rfl, ?_⟩
 have hI := cells3 P3.st rfl rfl rfl
 refine hK _ _ (hI) ?_; clear hK; simp only [kP, kA, kS, kZ]
 refine lexT 4 rfl hI (fun U hU => run_neqRep2 _ _ _ rfl ⟨rc, rn, rt⟩ rfl rfl) ?_
 clear hI
 refine lex_done (by decide +kernel) ?_
 have P4 := qh ((P3.swap.sub (own2 := [(gV, 23, [.pointer (some ⟨gb, 0, none⟩)])]) (by simp) (by simp)).anyD)
 clear P3 hDo hQ HP st HD1 HD2 hs
 generalize V3 = V0 at P4
 have hgV0 := P4.out.st.ltAt (i := 0) rfl
 have HGV := qh (fun (U : World) (hU : Below V0.heap.size V0 U) => (show U.cell? ⟨gV, 0, none⟩ = some (.pointer (some ⟨gb, 0, none⟩)) from (hU.cell (p := ⟨gV, 0, none⟩) hgV0).trans (P4.out.st.cell (i := 0) rfl 0)))
 have HTA := qh (fun (U : World) (hU : Below V0.heap.size V0 U) (h t : Nat) (hh : h < 4) (ht : t < 4) => ((show ThreadPostF U (thrC2 C' h t) = ThreadPostF U (C'.thr h t) by rw [thrC2_at C' hh ht]) ▸ cluster_ThreadF (P4.out.below hU).fst h t))
 have HTB := qh (fun (U : World) (hU : Below V0.heap.size V0 U) (h t : Nat) (hh : h < 4) (ht : t < 4) => ((show ThreadPost U (thrC2 C' h t) = ThreadPost U (C'.thr h t) by rw [thrC2_at C' hh ht]) ▸ cluster_Thread (P4.out.below hU).snd h t))
 go_wp2_with (first | go_skip | fail)
 go_loopw [8] (fun v8 wr => ∃ h : Nat, h ≤ 4 ∧ v8 = .int .i64 h ∧ Below V0.heap.size V0 wr) (fun v8 _ => 4 - (intOf v8).toNat)
 case atStart => exact ⟨0, by omega, rfl, Below.refl _ _⟩
 case round =>
  obtain ⟨V9, rfl⟩ : ∃ V, V = wr := ⟨_, rfl⟩
  obtain ⟨h, hh, rfl, hB⟩ := hrel
  have hB0 := hB.size
  by_cases hh4 : h < 4
  case neg =>
   have d1 : decide ((h : Int) < 4) = false := by simp; omega
   -- the net
   have HNt := qh (cluster_Net (P4.out.below hB).fst)
   go_wp2_with (first | go_skip | (go_at_call 26; go_must (refine HNt.out.mono ?_; rintro e v1 ⟨na, nc, rfl, hb1, hO⟩)))
   have HS := qh hO.slrF
   have hB1 := hB.keep hb1
   have hz1 := hb1.size
   have hnl : C'.net.length ≤ 60 := hokC'.netN
   clear hO HNt hB hb1
   go_loopw [164] (fun v164 wr => ∃ k : Nat, k ≤ C'.net.length ∧ v164 = .int .i64 k ∧ Spoil V9.heap.size v1 wr) (fun v164 _ => C'.net.length - (intOf v164).toNat)
   case atStart => exact ⟨0, Nat.zero_le _, rfl, Spoil.refl _ _⟩
   case round =>
    obtain ⟨V7, rfl⟩ : ∃ V, V = wr := ⟨_, rfl⟩
    obtain ⟨k, hk, rfl, hS⟩ := hrel
    by_cases hkl : k < C'.net.length
    case neg =>
     have d3 : decide ((k : Int) < (C'.net.length : Int)) = false := by simp; omega
     have HBE := qh (P4.out.below (hS.onto hB1 hB0)).anyD
     clear hS
     go_wp2_with (first | go_skip | fail)
     go_ret
     exact ⟨rfl, HBE.out⟩
    have d3 : decide ((k : Int) < (C'.net.length : Int)) = true := by simp; omega
    obtain ⟨b, o, cs, hna, hok, hbb, hrd, -, -, hcc⟩ := HS.out.2.2.2 k C'.net[k] (by simp [hkl])
    have hc0 := hcc 0 (.string C'.net[k]) (by rw [hrd]; rfl)
    try simp only [Nat.mul_one, Nat.add_zero] at hc0
    obtain ⟨hS2, hc, hf⟩ := hS.store (b := b) (j := o + k) hok.1 hok.2 hc0 (by simp) (.string ⟨#[115, 112, 111, 105, 108, 116]⟩)
    have HS2 := qh hS2
    clear hS hS2 hc0 hcc hrd hok
    subst hna
    go_wp2_with (first | go_skip | ((with_reducible refine at_store 9 ?_); refine wpList_storeP 9 _ _ rfl (wanted_none rfl) Tryz.sizeOf9 b (o + k) rfl _ rfl rfl rfl hc hf ?_))
    go_roundw
    case rel => exact ⟨k + 1, hkl, by go_num, HS2.out⟩
    case measure => simp [intOf] <;> omega
  have d1 : decide ((h : Int) < 4) = true := by simp; omega
  go_wp2_with (first | go_skip | fail)
  go_loopw [9] (fun v9 wr => ∃ t : Nat, t ≤ 4 ∧ v9 = .int .i64 t ∧ Below V0.heap.size V0 wr) (fun v9 _ => 4 - (intOf v9).toNat)
  case atStart => exact ⟨0, by omega, rfl, hB⟩
  case round =>
   clear hB
   obtain ⟨V8, rfl⟩ : ∃ V, V = wr := ⟨_, rfl⟩
   obtain ⟨t, ht, rfl, hB⟩ := hrel
   have hB0 := hB.size
   by_cases ht4 : t < 4
   case neg =>
    have d2 : decide ((t : Int) < 4) = false := by simp; omega
    -- the certs
    have hce : certOf C' h = C'.cert h := by unfold certOf; rw [if_pos (four_n hh4)]
    have HCe := qh (show _ from hce ▸ cluster_Certs (P4.out.below hB).fst h)
    generalize C'.cert h = ce at HCe
    go_wp2_with (first
     | go_skip
     | (go_at_call 13; go_must (refine HCe.out.mono ?_; rintro e v1 ⟨ca, cc, rfl, hb1, hO⟩)))
    have HS := qh hO.slrF
    have hcl : ce.length ≤ 9223372036854775807 := by have h1 := HS.out.1; have h2 := HS.out.2.1; unfold maxLen at h2; omega
    have hB1 := hB.keep hb1
    clear hB hb1 hO HCe hce
    go_loopw [152] (fun v152 wr => ∃ k : Nat, k ≤ ce.length ∧ v152 = .int .i64 k ∧ Spoil V8.heap.size v1 wr) (fun v152 _ => ce.length - (intOf v152).toNat)
    case atStart => exact ⟨0, Nat.zero_le _, rfl, Spoil.refl _ _⟩
    case round =>
     obtain ⟨V7, rfl⟩ : ∃ V, V = wr := ⟨_, rfl⟩
     obtain ⟨k, hk, rfl, hS⟩ := hrel
     by_cases hkl : k < ce.length
     case neg =>
      have d3 : decide ((k : Int) < (ce.length : Int)) = false := by simp; omega
      have HBE := qh (hS.onto hB1 hB0)
      clear hS
      go_wp2_with (first | go_skip | fail)
      go_roundw
      case rel => exact ⟨h + 1, by omega, by go_num, HBE.out⟩
      case measure => simp [intOf] <;> omega
     have d3 : decide ((k : Int) < (ce.length : Int)) = true := by simp; omega
     obtain ⟨b, o, cs, hna, hok, hbb, hrd, -, -, hcc⟩ := HS.out.2.2.2 k ce[k] (by simp [hkl])
     have hc0 := hcc 0 (.int .i64 ce[k].c) (by rw [hrd]; rfl)
     simp only [Nat.add_zero] at hc0
     obtain ⟨hS2, hc, hf⟩ := hS.store (b := b) (j := o + k * 4) hok.1 hok.2 hc0 (by simp) (.int .i64 (-1))
     have HS2 := qh hS2
     clear hS hS2 hc0 hcc hrd hok
     subst hna
     go_wp2_with (first | go_skip | ((with_reducible refine at_store 3 ?_); refine wpList_storeP 3 _ _ rfl (wanted_none rfl) Tryz.sizeOf3 b (o + k * 4) rfl _ rfl rfl rfl hc hf ?_))
     go_roundw
     case rel => exact ⟨k + 1, hkl, by go_num, HS2.out⟩
     case measure => simp [intOf] <;> omega
   have d2 : decide ((t : Int) < 4) = true := by simp; omega
   have HTa := qh (HTA.out V8 hB h t hh4 ht4)
   have HTb := qh (fun (U : World) (hU : Below V8.heap.size V8 U) => HTB.out U (hB.keep hU) h t hh4 ht4)
   have hx := HY.out h t hh4 ht4
   generalize C'.thr h t = x at HTa HTb hx
   go_upto_region 10 with (first
    | go_skip
    | (go_at_call 11; go_must (refine HTa.out.mono ?_; rintro e v3 ⟨a1, a2, b1, b2, c1, c2, m1, m2, rfl, hb3, hT⟩; have st := St.start v3; unfold thrV))
    | (with_reducible refine mA st Tryz.zeroValue39 ?_; clear st; intro g10 w9 hg10 st) | (with_reducible refine mS 0 st Tryz.sizeOf39 ?_; clear st; intro w10 st hw10m hw10z))
   try simp only [kP, kA, kS, kZ]
   have hg10 : v3.heap.size ≤ g10 := by simpa using st.mine _ (mgE (i := 0) rfl)
   have HT := qh (hT.move (ok' := fun b => V8.heap.size ≤ b ∧ b < v3.heap.size ∧ FreeB w10 b) st.size fun b hb ho => ⟨⟨ho.1, hb, ho.2.at (st.frame b hb (by simp))⟩, st.frame b hb (by simp)⟩)
   have stV := St.back ((St.start V8).call hb3) st
   have hB10 := stV.below
   have stR := st.rebase
   simp only [List.map_cons, List.map_nil] at stR
   have hz3 := hb3.size
   have hz10 := stV.size
   have hlx := goodL_len hx.good
   have hox := hx.ownL
   have hobx := hx.objs
   have hmx := hx.mailN
   have hI := stR.drew
   clear hT st hb3 HTa
   refine lex_region (by kernel_rfl) 7 rfl (fun U => St [g10] w10 U [(g10, 39, [.slice a1 x.label.length a2, .slice b1 x.own.length b2, .string x.text, .slice c1 x.objects.length c2, .slice m1 x.mails.length m2])]) ?_
   refine lexT 0 rfl hI (fun W hW => St.run_load_agg hW 0 39 _ rfl Tryz.isAgg39 _ Tryz.sizeOf39 rfl rfl rfl rfl) ?_
   refine lexT 1 rfl hI (fun U hU => run_cell_one 23 _ rfl Tryz.isAgg23 gV 0 rfl _ (HGV.out U (hB.keep (hB10.keep (stR.below2 hU (by simp)))))) ?_
   refine lexS 2 rfl hI ?_
   refine lexS 3 rfl hI ?_
   refine lexO 4 rfl fun K hK => ?_
   refine wp_callee (f := 11) (by first | (go_simp; done) | (go_simp; rfl)) ?_
   refine (HTb.out _ (hB10.keep (stR.below2 hI (by simp)))).mono ?_
   rintro e V5 ⟨ta, tc, oa, oc, ba, bc, ma, mc, rfl, hb5, hT5⟩
   refine ⟨_, rfl, ?_⟩
   unfold thrV
   have hI2 := hI.call hb5
   clear hI
   have hI := hI2
   clear hI2
   refine hK _ _ (hI) ?_; clear hK; simp only [kP, kA, kS, kZ]
   refine lexO 5 rfl fun K hK => ?_
   refine wp_callee (f := 28) (by first | (go_simp; done) | (go_simp; rfl)) ?_
   have hq := top_sameThread _ _ V5 x a1 a2 b1 b2 c1 c2 m1 m2 ta tc oa oc ba bc ma mc (HT.out.move hI.size fun b hb ho => ⟨ho, hI.frame b hb (by simp; omega)⟩) hT5
   unfold thrV at hq
   refine hq.mono ?_
   rintro e V4 ⟨rfl, hb4⟩
   refine ⟨_, rfl, ?_⟩
   have hI2 := hI.call hb4
   clear hI hq
   have hI := hI2
   clear hI2
   refine hK _ _ (hI) ?_; clear hK; simp only [kP, kA, kS, kZ]
   refine lexS 6 rfl hI ?_
   have hS := (Spoil.refl V8.heap.size w10).below hz10 (stR.below2 hI (by simp))
   have st := St.back stV hI
   clear hI hT5 hb5 stR stV hB10 HTb
   refine lex_done (by decide +kernel) ?_
   go_wp2_with (first | go_skip | (with_reducible refine mX st Tryz.isAgg27 ?_))
   go_loopw [49] (fun v49 wr => ∃ k : Nat, k ≤ x.label.length ∧ v49 = .int .i64 k ∧ St [] V8 wr [(g10, 39, [.slice a1 x.label.length a2, .slice b1 x.own.length b2, .string x.text, .slice c1 x.objects.length c2, .slice m1 x.mails.length m2])] ∧ Spoil V8.heap.size w10 wr) (fun v49 _ => x.label.length - (intOf v49).toNat)
   case atStart => exact ⟨0, Nat.zero_le _, rfl, st, hS⟩
   case round =>
    clear st hS
    obtain ⟨W49, rfl⟩ : ∃ V, V = wr := ⟨_, rfl⟩
    obtain ⟨k49, hk49, rfl, st, hS⟩ := hrel
    by_cases hkl49 : k49 < x.label.length
    case pos =>
     have d49 : decide ((k49 : Int) < (x.label.length : Int)) = true := by simp; omega
     obtain ⟨b49, o49, cs49, hna49, hok49, hbb49, hrd49, -, -, hcc49⟩ := HT.out.label.2.2.2 k49 x.label[k49] (by simp [hkl49])
     have hc0 := hcc49 1 (.int .i64 x.label[k49].l) (by rw [hrd49]; rfl)
     try simp only [Nat.mul_one, Nat.add_zero] at hc0
     obtain ⟨hS2, hc, hf⟩ := hS.store (b := b49) (j := o49 + k49 * 2 + 1) hok49.1 hok49.2.2 hc0 (by simp) (.int .i64 (-1))
     have HS2 := qh (And.intro (st.spoil (b := b49) (j := o49 + k49 * 2 + 1) hok49.1 (by simp; omega) (.int .i64 (-1))) hS2)
     clear hS2 hc0 hcc49 hrd49 hok49 hbb49 hS
     subst hna49
     go_wp2_with (first | go_skip | (with_reducible refine mX st Tryz.isAgg27 ?_) | ((with_reducible refine at_store 3 ?_); refine wpList_storeP 3 _ _ rfl (wanted_none rfl) Tryz.sizeOf3 b49 (o49 + k49 * 2 + 1) rfl _ rfl rfl rfl hc hf ?_))
     clear st
     go_roundw
     case rel => exact ⟨k49 + 1, hkl49, by go_num, HS2.out.1, HS2.out.2⟩
     case measure => simp [intOf] <;> omega
    case neg =>
     have d49 : decide ((k49 : Int) < (x.label.length : Int)) = false := by simp; omega
     go_wp2_with (first | go_skip | (with_reducible refine mX st Tryz.isAgg28 ?_))
     go_loopw [61] (fun v61 wr => ∃ k : Nat, k ≤ x.own.length ∧ v61 = .int .i64 k ∧ St [] V8 wr [(g10, 39, [.slice a1 x.label.length a2, .slice b1 x.own.length b2, .string x.text, .slice c1 x.objects.length c2, .slice m1 x.mails.length m2])] ∧ Spoil V8.heap.size w10 wr) (fun v61 _ => x.own.length - (intOf v61).toNat)
     case atStart => exact ⟨0, Nat.zero_le _, rfl, st, hS⟩
     case round =>
      clear st hS
      obtain ⟨W61, rfl⟩ : ∃ V, V = wr := ⟨_, rfl⟩
      obtain ⟨k61, hk61, rfl, st, hS⟩ := hrel
      by_cases hkl61 : k61 < x.own.length
      case pos =>
       have d61 : decide ((k61 : Int) < (x.own.length : Int)) = true := by simp; omega
       obtain ⟨b61, o61, cs61, hna61, hok61, hbb61, hrd61, -, -, hcc61⟩ := HT.out.own.2.2.2 k61 x.own[k61] (by simp [hkl61])
       have hc0 := hcc61 0 (.int .i64 x.own[k61]) (by rw [hrd61]; rfl)
       try simp only [Nat.mul_one, Nat.add_zero] at hc0
       obtain ⟨hS2, hc, hf⟩ := hS.store (b := b61) (j := o61 + k61) hok61.1 hok61.2.2 hc0 (by simp) (.int .i64 (-1))
       have HS2 := qh (And.intro (st.spoil (b := b61) (j := o61 + k61) hok61.1 (by simp; omega) (.int .i64 (-1))) hS2)
       clear hS2 hc0 hcc61 hrd61 hok61 hbb61 hS
       subst hna61
       go_wp2_with (first | go_skip | (with_reducible refine mX st Tryz.isAgg28 ?_) | ((with_reducible refine at_store 3 ?_); refine wpList_storeP 3 _ _ rfl (wanted_none rfl) Tryz.sizeOf3 b61 (o61 + k61) rfl _ rfl rfl rfl hc hf ?_))
       clear st
       go_roundw
       case rel => exact ⟨k61 + 1, hkl61, by go_num, HS2.out.1, HS2.out.2⟩
       case measure => simp [intOf] <;> omega
      case neg =>
       have d61 : decide ((k61 : Int) < (x.own.length : Int)) = false := by simp; omega
       go_wp2_with (first | go_skip | (with_reducible refine mX st Tryz.isAgg36 ?_))
       go_loopw [72] (fun v72 wr => ∃ k : Nat, k ≤ x.objects.length ∧ v72 = .int .i64 k ∧ St [] V8 wr [(g10, 39, [.slice a1 x.label.length a2, .slice b1 x.own.length b2, .string x.text, .slice c1 x.objects.length c2, .slice m1 x.mails.length m2])] ∧ Spoil V8.heap.size w10 wr) (fun v72 _ => x.objects.length - (intOf v72).toNat)
       case atStart => exact ⟨0, Nat.zero_le _, rfl, st, hS⟩
       case round =>
        clear st hS
        obtain ⟨W72, rfl⟩ : ∃ V, V = wr := ⟨_, rfl⟩
        obtain ⟨k72, hk72, rfl, st, hS⟩ := hrel
        by_cases hkl72 : k72 < x.objects.length
        case pos =>
         have d72 : decide ((k72 : Int) < (x.objects.length : Int)) = true := by simp; omega
         obtain ⟨p1, q1, l1, r1, hna72, hok72, hb72, hL, hC⟩ := HT.out.objs.obj_at k72 hkl72
         have hC0 := hC 0 _ rfl
         have hC1 := hC 1 _ rfl
         simp only [Nat.add_zero] at hC0
         have hgo := goodL_len (hx.obj _ (List.getElem_mem hkl72)).1
         generalize x.objects[k72] = ob at hL hC0 hC1 hgo
         clear hC
         subst hna72
         have f0 := hS.slice (b := p1) (j := q1 + k72 * 2) hok72.1 hok72.2.2 hC0
         go_wp2_with (first | go_skip | (with_reducible refine mX st Tryz.isAgg36 ?_) | ((with_reducible refine at_load 27 ?_); refine wpList_value (wanted_none rfl) (run_cell_one 27 _ rfl Tryz.isAgg27 p1 (q1 + k72 * 2) rfl _ f0) ?_))
         clear f0
         go_loopw [82] (fun v82 wr => ∃ k : Nat, k ≤ ob.label.length ∧ v82 = .int .i64 k ∧ St [] V8 wr [(g10, 39, [.slice a1 x.label.length a2, .slice b1 x.own.length b2, .string x.text, .slice (some ⟨p1, q1, none⟩) x.objects.length c2, .slice m1 x.mails.length m2])] ∧ Spoil V8.heap.size w10 wr) (fun v82 _ => ob.label.length - (intOf v82).toNat)
         case atStart => exact ⟨0, Nat.zero_le _, rfl, st, hS⟩
         case round =>
          clear st hS
          obtain ⟨W82, rfl⟩ : ∃ V, V = wr := ⟨_, rfl⟩
          obtain ⟨k82, hk82, rfl, st, hS⟩ := hrel
          by_cases hkl82 : k82 < ob.label.length
          case pos =>
           have d82 : decide ((k82 : Int) < (ob.label.length : Int)) = true := by simp; omega
           have f0 := hS.slice (b := p1) (j := q1 + k72 * 2) hok72.1 hok72.2.2 hC0
           obtain ⟨b82, o82, cs82, hna82, hok82, hbb82, hrd82, -, -, hcc82⟩ := hL.2.2.2 k82 ob.label[k82] (by simp [hkl82])
           have hc0 := hcc82 0 (.int .i64 ob.label[k82].c) (by rw [hrd82]; rfl)
           try simp only [Nat.mul_one, Nat.add_zero] at hc0
           obtain ⟨hS2, hc, hf⟩ := hS.store (b := b82) (j := o82 + k82 * 2) hok82.1 hok82.2.2 hc0 (by simp) (.int .i64 (-1))
           have HS2 := qh (And.intro (st.spoil (b := b82) (j := o82 + k82 * 2) hok82.1 (by simp; omega) (.int .i64 (-1))) hS2)
           clear hS2 hc0 hcc82 hrd82 hok82 hbb82 hS
           subst hna82
           go_wp2_with (first | go_skip | (with_reducible refine mX st Tryz.isAgg36 ?_) | ((with_reducible refine at_load 27 ?_); refine wpList_value (wanted_none rfl) (run_cell_one 27 _ rfl Tryz.isAgg27 p1 (q1 + k72 * 2) rfl _ f0) ?_) | ((with_reducible refine at_store 3 ?_); refine wpList_storeP 3 _ _ rfl (wanted_none rfl) Tryz.sizeOf3 b82 (o82 + k82 * 2) rfl _ rfl rfl rfl hc hf ?_))
           clear st
           go_roundw
           case rel => exact ⟨k82 + 1, hkl82, by go_num, HS2.out.1, HS2.out.2⟩
           case measure => simp [intOf] <;> omega
          case neg =>
           have d82 : decide ((k82 : Int) < (ob.label.length : Int)) = false := by simp; omega
           obtain ⟨hS2, hc, hf⟩ := hS.store (b := p1) (j := q1 + k72 * 2 + 1) hok72.1 hok72.2.2 hC1 (by simp) (.string ⟨#[115, 112, 111, 105, 108, 116]⟩)
           have HS2 := qh (And.intro (st.spoil (b := p1) (j := q1 + k72 * 2 + 1) hok72.1 (by simp; omega) (.string ⟨#[115, 112, 111, 105, 108, 116]⟩)) hS2)
           clear hS2 hS
           go_wp2_with (first | go_skip | (with_reducible refine mX st Tryz.isAgg36 ?_) | ((with_reducible refine at_store 9 ?_); refine wpList_storeP 9 _ _ rfl (wanted_none rfl) Tryz.sizeOf9 p1 (q1 + k72 * 2 + 1) rfl _ rfl rfl rfl hc hf ?_))
           clear st
           go_roundw
           case rel => exact ⟨k72 + 1, hkl72, by go_num, HS2.out.1, HS2.out.2⟩
           case measure => simp [intOf] <;> omega
        case neg =>
         have d72 : decide ((k72 : Int) < (x.objects.length : Int)) = false := by simp; omega
         go_wp2_with (first | go_skip | (with_reducible refine mX st Tryz.isAgg37 ?_))
         go_loopw [104] (fun v104 wr => ∃ k : Nat, k ≤ x.mails.length ∧ v104 = .int .i64 k ∧ St [] V8 wr [(g10, 39, [.slice a1 x.label.length a2, .slice b1 x.own.length b2, .string x.text, .slice c1 x.objects.length c2, .slice m1 x.mails.length m2])] ∧ Spoil V8.heap.size w10 wr) (fun v104 _ => x.mails.length - (intOf v104).toNat)
         case atStart => exact ⟨0, Nat.zero_le _, rfl, st, hS⟩
         case round =>
          clear st hS
          obtain ⟨W104, rfl⟩ : ∃ V, V = wr := ⟨_, rfl⟩
          obtain ⟨k104, hk104, rfl, st, hS⟩ := hrel
          by_cases hkl104 : k104 < x.mails.length
          case pos =>
           have d104 : decide ((k104 : Int) < (x.mails.length : Int)) = true := by simp; omega
           obtain ⟨p1, q1, l1, r1, n1, s1, hna104, hok104, hb104, hL, hG, hC⟩ := HT.out.mails.mail_at k104 hkl104
           have hC2 := hC 2 _ rfl
           have hC3 := hC 3 _ rfl
           have hgm := goodM_len (hx.mail _ (List.getElem_mem hkl104))
           generalize x.mails[k104] = m at hL hG hC2 hC3 hgm
           obtain ⟨hgm1, hgm2, -⟩ := hgm
           clear hC
           subst hna104
           have f0 := hS.slice (b := p1) (j := q1 + k104 * 5 + 2) hok104.1 hok104.2.2 hC2
           go_wp2_with (first | go_skip | (with_reducible refine mX st Tryz.isAgg37 ?_) | ((with_reducible refine at_load 27 ?_); refine wpList_value (wanted_none rfl) (run_cell_one 27 _ rfl Tryz.isAgg27 p1 (q1 + k104 * 5 + 2) rfl _ f0) ?_))
           clear f0
           go_loopw [114] (fun v114 wr => ∃ k : Nat, k ≤ m.label.length ∧ v114 = .int .i64 k ∧ St [] V8 wr [(g10, 39, [.slice a1 x.label.length a2, .slice b1 x.own.length b2, .string x.text, .slice c1 x.objects.length c2, .slice (some ⟨p1, q1, none⟩) x.mails.length m2])] ∧ Spoil V8.heap.size w10 wr) (fun v114 _ => m.label.length - (intOf v114).toNat)
           case atStart => exact ⟨0, Nat.zero_le _, rfl, st, hS⟩
           case round =>
            clear st hS
            obtain ⟨W114, rfl⟩ : ∃ V, V = wr := ⟨_, rfl⟩
            obtain ⟨k114, hk114, rfl, st, hS⟩ := hrel
            by_cases hkl114 : k114 < m.label.length
            case pos =>
             have d114 : decide ((k114 : Int) < (m.label.length : Int)) = true := by simp; omega
             have f0 := hS.slice (b := p1) (j := q1 + k104 * 5 + 2) hok104.1 hok104.2.2 hC2
             obtain ⟨b114, o114, cs114, hna114, hok114, hbb114, hrd114, -, -, hcc114⟩ := hL.2.2.2 k114 m.label[k114] (by simp [hkl114])
             have hc0 := hcc114 0 (.int .i64 m.label[k114].c) (by rw [hrd114]; rfl)
             try simp only [Nat.mul_one, Nat.add_zero] at hc0
             obtain ⟨hS2, hc, hf⟩ := hS.store (b := b114) (j := o114 + k114 * 2) hok114.1 hok114.2.2 hc0 (by simp) (.int .i64 (-1))
             have HS2 := qh (And.intro (st.spoil (b := b114) (j := o114 + k114 * 2) hok114.1 (by simp; omega) (.int .i64 (-1))) hS2)
             clear hS2 hc0 hcc114 hrd114 hok114 hbb114 hS
             subst hna114
             go_wp2_with (first | go_skip | (with_reducible refine mX st Tryz.isAgg37 ?_) | ((with_reducible refine at_load 27 ?_); refine wpList_value (wanted_none rfl) (run_cell_one 27 _ rfl Tryz.isAgg27 p1 (q1 + k104 * 5 + 2) rfl _ f0) ?_) | ((with_reducible refine at_store 3 ?_); refine wpList_storeP 3 _ _ rfl (wanted_none rfl) Tryz.sizeOf3 b114 (o114 + k114 * 2) rfl _ rfl rfl rfl hc hf ?_))
             clear st
             go_roundw
             case rel => exact ⟨k114 + 1, hkl114, by go_num, HS2.out.1, HS2.out.2⟩
             case measure => simp [intOf] <;> omega
            case neg =>
             have d114 : decide ((k114 : Int) < (m.label.length : Int)) = false := by simp; omega
             have f0 := hS.slice (b := p1) (j := q1 + k104 * 5 + 3) hok104.1 hok104.2.2 hC3
             go_wp2_with (first | go_skip | (with_reducible refine mX st Tryz.isAgg37 ?_) | ((with_reducible refine at_load 28 ?_); refine wpList_value (wanted_none rfl) (run_cell_one 28 _ rfl Tryz.isAgg28 p1 (q1 + k104 * 5 + 3) rfl _ f0) ?_))
             clear f0
             go_loopw [134] (fun v134 wr => ∃ k : Nat, k ≤ m.grants.length ∧ v134 = .int .i64 k ∧ St [] V8 wr [(g10, 39, [.slice a1 x.label.length a2, .slice b1 x.own.length b2, .string x.text, .slice c1 x.objects.length c2, .slice (some ⟨p1, q1, none⟩) x.mails.length m2])] ∧ Spoil V8.heap.size w10 wr) (fun v134 _ => m.grants.length - (intOf v134).toNat)
             case atStart => exact ⟨0, Nat.zero_le _, rfl, st, hS⟩
             case round =>
              clear st hS
              obtain ⟨W134, rfl⟩ : ∃ V, V = wr := ⟨_, rfl⟩
              obtain ⟨k134, hk134, rfl, st, hS⟩ := hrel
              by_cases hkl134 : k134 < m.grants.length
              case pos =>
               have d134 : decide ((k134 : Int) < (m.grants.length : Int)) = true := by simp; omega
               have f0 := hS.slice (b := p1) (j := q1 + k104 * 5 + 3) hok104.1 hok104.2.2 hC3
               obtain ⟨b134, o134, cs134, hna134, hok134, hbb134, hrd134, -, -, hcc134⟩ := hG.2.2.2 k134 m.grants[k134] (by simp [hkl134])
               have hc0 := hcc134 0 (.int .i64 m.grants[k134]) (by rw [hrd134]; rfl)
               try simp only [Nat.mul_one, Nat.add_zero] at hc0
               obtain ⟨hS2, hc, hf⟩ := hS.store (b := b134) (j := o134 + k134) hok134.1 hok134.2.2 hc0 (by simp) (.int .i64 (-1))
               have HS2 := qh (And.intro (st.spoil (b := b134) (j := o134 + k134) hok134.1 (by simp; omega) (.int .i64 (-1))) hS2)
               clear hS2 hc0 hcc134 hrd134 hok134 hbb134 hS
               subst hna134
               go_wp2_with (first | go_skip | (with_reducible refine mX st Tryz.isAgg37 ?_) | ((with_reducible refine at_load 28 ?_); refine wpList_value (wanted_none rfl) (run_cell_one 28 _ rfl Tryz.isAgg28 p1 (q1 + k104 * 5 + 3) rfl _ f0) ?_) | ((with_reducible refine at_store 3 ?_); refine wpList_storeP 3 _ _ rfl (wanted_none rfl) Tryz.sizeOf3 b134 (o134 + k134) rfl _ rfl rfl rfl hc hf ?_))
               clear st
               go_roundw
               case rel => exact ⟨k134 + 1, hkl134, by go_num, HS2.out.1, HS2.out.2⟩
               case measure => simp [intOf] <;> omega
              case neg =>
               have d134 : decide ((k134 : Int) < (m.grants.length : Int)) = false := by simp; omega
               have HSS := qh (And.intro st hS)
               clear st hS
               go_wp2_with (first | go_skip | fail)
               go_roundw
               case rel => exact ⟨k104 + 1, hkl104, by go_num, HSS.out.1, HSS.out.2⟩
               case measure => simp [intOf] <;> omega
          case neg =>
           have d104 : decide ((k104 : Int) < (x.mails.length : Int)) = false := by simp; omega
           have HBE := qh (hB.keep st.below)
           clear st hS
           go_wp2_with (first | go_skip | fail)
           go_roundw
           case rel => exact ⟨t + 1, by omega, by go_num, HBE.out⟩
           case measure => simp [intOf] <;> omega
end Go.Proofs.YtnjjdpiofbajlaaGreat

/- A cluster, whatever was protected beside it. -/
namespace Go.Proofs.YtnjjdpiofbajlaaGreat
open Go.RowKit
theorem Clus.anyD {w0 Wd W : World} {M0 : List Nat} {own : Blks} {X D : Nat → Prop} {gc : Nat} {kg : List Nat} {C : Clu} (P : Clus w0 M0 own X Wd D gc kg C W) : Clus w0 M0 own X W (fun _ => False) gc kg C W := by
 obtain ⟨st, hok, hD, hDo, hX, ok, BB, na, nc, L, hA, hB, hO⟩ := P
 exact ⟨st, hok, ⟨Nat.le_refl _, fun _ _ _ => rfl⟩, fun _ _ h => h.1.elim, hX, ok, BB, na, nc, L, hA, fun b hb => ⟨(hB b hb).1, (hB b hb).2.1, fun h => h.1.elim⟩, hO⟩
end Go.Proofs.YtnjjdpiofbajlaaGreat
