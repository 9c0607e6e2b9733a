/- Walks and plain laws, part 17. -/
import Derived.Test.YtnjjdpiofbajlaaGreatP16
set_option linter.unusedSimpArgs false
set_option linter.unusedVariables false
set_option maxHeartbeats 16000000
set_option maxRecDepth 100000
namespace Go.Proofs.YtnjjdpiofbajlaaGreat
open Go.RowKit
def winC (pre win post : List Value) : List Value := pre ++ (win ++ post)
theorem winC_get {pre win post : List Value} {p j : Nat} {v : Value} (hp : pre.length = p) (h : win[j]? = some v) : (winC pre win post)[p + j]? = some v := by
 subst hp
 unfold winC
 have := (gEs h).1
 rw [List.getElem?_append_right (by omega), Nat.add_sub_cancel_left, List.getElem?_append_left this, h]
theorem winC_length (pre win post : List Value) : (winC pre win post).length = pre.length + win.length + post.length := by unfold winC; simp; omega
theorem putL_pre : ∀ (pre rest : List Value) (j : Nat) (vs : List Value), putL (pre ++ rest) (pre.length + j) vs = pre ++ putL rest j vs
 | [], rest, j, vs => by simp
 | c :: pre, rest, j, vs => by
  simp only [List.cons_append, List.length_cons]
  rw [Nat.add_right_comm]
  simp only [putL]
  rw [putL_pre]
theorem putL_win : ∀ (win post : List Value) (j : Nat) (vs : List Value), j + vs.length ≤ win.length → putL (win ++ post) j vs = putL win j vs ++ post
 | [], post, j, vs, h => by
  have : vs = [] := List.eq_nil_of_length_eq_zero (by simp only [List.length_nil] at h; omega)
  subst this
  rw [putL_nil]; simp [putL]
 | c :: win, post, 0, [], h => by simp [putL]
 | c :: win, post, 0, v :: vs, h => by
  simp only [List.cons_append, putL]
  rw [putL_win win post 0 vs (by simpa using h)]
 | c :: win, post, j + 1, vs, h => by
  simp only [List.cons_append, putL]
  rw [putL_win win post j vs (by simp only [List.length_cons] at h; omega)]
theorem putL_winC {pre win post : List Value} {p j : Nat} {vs : List Value} (hp : pre.length = p) (h : j + vs.length ≤ win.length) : putL (winC pre win post) (p + j) vs = winC pre (putL win j vs) post := by
 subst hp
 unfold winC
 rw [putL_pre, putL_win _ _ _ _ h]
section
variable {P : Program} {w0 w : World} {M : List Nat} {own : Blks} {ops : Array Oper} {rest : List Oper} {o : Oper} {A : Act} {Q : Exit → Act → World → Prop} {K : Act → World → Prop}
theorem mem_loadW (st : St M w0 w own) (T : TypeId) (x : Operand) (ho : o.op = .load T x) (hgd : Region.wanted o (yielded ops A.tmps) = true) (hagg : ∀ w, (isAgg T).run P w = .ok false w) (j : Nat)
  (h : ∃ (i g p : Nat) (T' : TypeId) (pre win post : List Value) (v : Value), pre.length = p ∧ own[i]? = some (g, T', winC pre win post) ∧ A.eval x = .pointer (some ⟨g, p + j, none⟩) ∧ win[j]? = some v ∧ wpList P ops Q rest (A.put o.dst v) w) : wpList P ops Q (o :: rest) A w := by
 obtain ⟨i, g, p, T', pre, win, post, v, hp, hi, hx, hv, h⟩ := h
 exact mem_load st hgd T x ho g (p + j) hx hagg i T' _ hi v (winC_get hp hv) h
theorem mem_storeW (st : St M w0 w own) (T : TypeId) (x y : Operand) (ho : o.op = .store T x y) (hgd : Region.wanted o (yielded ops A.tmps) = true) (n : Nat) (hsz : ∀ w, (sizeOf T).run P w = .ok n w) (j : Nat)
  (h : ∃ (i g p : Nat) (T' : TypeId) (pre win post vs : List Value), pre.length = p ∧ own[i]? = some (g, T', winC pre win post) ∧ A.eval x = .pointer (some ⟨g, p + j, none⟩) ∧ (A.eval y).cells.toList = vs ∧ vs.length = n ∧ vs.all Value.oneCell' = true ∧ Nat.ble (j + vs.length) win.length = true ∧
   ∀ w', St M w0 w' (own.set i (g, T', winC pre (putL win j vs) post)) → (∀ b, b ≠ g → w'.heap[b]? = w.heap[b]?) → w'.heap.size = w.heap.size → wpList P ops Q rest (A.put o.dst undef) w') : wpList P ops Q (o :: rest) A w := by
 obtain ⟨i, g, p, T', pre, win, post, vs, hp, hi, hx, hv, hl, h1, hle, h⟩ := h
 have hle' := Nat.le_of_ble_eq_true hle
 refine mem_store st hgd T x y ho g (p + j) hx _ rfl vs hv (by rw [hl]; exact hsz) (by simpa using h1) i T' _ hi (by rw [winC_length, hp]; omega) fun w' st' hm hz => ?_
 rw [putL_winC hp hle'] at st'
 exact h w' st' hm hz
theorem wp_storeW (st : St M w0 w own) (T : TypeId) (x y : Operand) (ho : o.op = .store T x y) (n : Nat) (hsz : ∀ w, (sizeOf T).run P w = .ok n w) (j : Nat)
  (h : ∃ (i g p : Nat) (T' : TypeId) (pre win post vs : List Value), pre.length = p ∧ own[i]? = some (g, T', winC pre win post) ∧ A.eval x = .pointer (some ⟨g, p + j, none⟩) ∧ (A.eval y).cells.toList = vs ∧ vs.length = n ∧ vs.all Value.oneCell' = true ∧ Nat.ble (j + vs.length) win.length = true ∧
   ∀ w', St M w0 w' (own.set i (g, T', winC pre (putL win j vs) post)) → (∀ b, b ≠ g → w'.heap[b]? = w.heap[b]?) → w'.heap.size = w.heap.size → K (A.put o.dst undef) w') : Oper.wp P o A w K Q := by
 obtain ⟨i, g, p, T', pre, win, post, vs, hp, hi, hx, hv, hl, h1, hle, h⟩ := h
 have hle' := Nat.le_of_ble_eq_true hle
 refine wp_store st T x y ho g (p + j) hx _ rfl vs hv (by rw [hl]; exact hsz) (by simpa using h1) i T' _ hi (by rw [winC_length, hp]; omega) fun w' st' hm hz => ?_
 rw [putL_winC hp hle'] at st'
 exact h w' st' hm hz
theorem St.run_loadW (st : St M w0 w own) (i : Nat) (T : TypeId) (x : Operand) (ho : o.op = .load T x) (hagg : ∀ w, (isAgg T).run P w = .ok false w) (j : Nat) {g p : Nat} {T' : TypeId} {pre win post : List Value} {v : Value} (hp : pre.length = p) (hi : own[i]? = some (g, T', winC pre win post)) (hx : A.eval x = .pointer (some ⟨g, p + j, none⟩)) (hv : win[j]? = some v) :
  (execOp A.eval o).run P w = .ok (.value v) w := st.run_load i T x ho hagg hx hi (winC_get hp hv)
theorem St.run_loadWin (st : St M w0 w own) (i : Nat) (T : TypeId) (x : Operand) (ho : o.op = .load T x) (hagg : ∀ w, (isAgg T).run P w = .ok true w) (n : Nat) (hsz : ∀ w, (sizeOf T).run P w = .ok n w) {g p : Nat} {T' : TypeId} {pre win post : List Value} (hp : pre.length = p) (hi : own[i]? = some (g, T', winC pre win post)) (hx : A.eval x = .pointer (some ⟨g, p, none⟩)) (hl : win.length = n) :
  (execOp A.eval o).run P w = .ok (.value (.agg win.toArray)) w :=
 st.run_load_agg i T x ho hagg n hsz hx hi (by subst hp; unfold winC; simp [← hl]) hl
theorem mem_loadWin (st : St M w0 w own) (T : TypeId) (x : Operand) (ho : o.op = .load T x) (hgd : Region.wanted o (yielded ops A.tmps) = true) (hagg : ∀ w, (isAgg T).run P w = .ok true w) (n : Nat) (hsz : ∀ w, (sizeOf T).run P w = .ok n w)
  (h : ∃ (i g p : Nat) (T' : TypeId) (pre win post : List Value), pre.length = p ∧ own[i]? = some (g, T', winC pre win post) ∧ A.eval x = .pointer (some ⟨g, p, none⟩) ∧ win.length = n ∧ wpList P ops Q rest (A.put o.dst (.agg win.toArray)) w) : wpList P ops Q (o :: rest) A w := by
 obtain ⟨i, g, p, T', pre, win, post, hp, hi, hx, hl, h⟩ := h
 refine wpList_wanted hgd fun K hK => ?_
 have hr := st.run_loadWin (P := P) i T x ho hagg n hsz hp hi hx hl
 unfold Oper.wp
 rw [hr]
 exact hK _ _ h
end
def RObj (ok : Nat → Prop) (w : World) (cs : List Value) (o : KObj) : Prop := ∃ la lc, cs = [.slice la o.label.length lc, .string o.text] ∧ SlR ok w 2 RLev la lc o.label
theorem RObj.move {ok ok' : Nat → Prop} {w w' : World} {cs : List Value} {o : KObj} (h : RObj ok w cs o) (hs : w.heap.size ≤ w'.heap.size) (hk : ∀ b, b < w.heap.size → ok b → ok' b ∧ w'.heap[b]? = w.heap[b]?) : RObj ok' w' cs o := by
 obtain ⟨la, lc, e, h1⟩ := h
 exact ⟨la, lc, e, h1.move hs hk fun _ _ h => h⟩
theorem RMail.move {ok ok' : Nat → Prop} {w w' : World} {cs : List Value} {m : Mail} (h : RMail ok w cs m) (hs : w.heap.size ≤ w'.heap.size) (hk : ∀ b, b < w.heap.size → ok b → ok' b ∧ w'.heap[b]? = w.heap[b]?) : RMail ok' w' cs m := by
 obtain ⟨la, lc, ga, gc, e, h1, h2⟩ := h
 exact ⟨la, lc, ga, gc, e, h1.move hs hk fun _ _ h => h, h2.move hs hk fun _ _ h => h⟩
structure ThrR (ok : Nat → Prop) (w : World) (x : Thr) (la : Option Addr) (lc : Nat) (oa : Option Addr) (oc : Nat) (ba : Option Addr) (bc : Nat) (ma : Option Addr) (mc : Nat) : Prop where
 label : SlR ok w 2 RLev la lc x.label
 own : SlR ok w 1 RInt oa oc x.own
 objs : RowAt 58 w 2 (RObj ok w) ba bc x.objects
 mails : RowAt 42 w 5 (RMail ok w) ma mc x.mails
def thrC (x : Thr) (la : Option Addr) (lc : Nat) (oa : Option Addr) (oc : Nat) (ba : Option Addr) (bc : Nat) (ma : Option Addr) (mc : Nat) : List Value :=
 [.slice la x.label.length lc, .slice oa x.own.length oc, .string x.text, .slice ba x.objects.length bc, .slice ma x.mails.length mc]
def rows2 (ba ma : Option Addr) : List Nat := (ba.map (·.block)).toList ++ (ma.map (·.block)).toList
def ThrAt (ok : Nat → Prop) (w : World) (cs : List Value) (x : Thr) (B : List Nat) : Prop :=
 ∃ la lc oa oc ba bc ma mc, cs = thrC x la lc oa oc ba bc ma mc ∧ ThrR ok w x la lc oa oc ba bc ma mc ∧ B = rows2 ba ma
theorem mem_rows2 {ba ma : Option Addr} {b : Nat} : b ∈ rows2 ba ma ↔ ba.map (·.block) = some b ∨ ma.map (·.block) = some b := by
 unfold rows2
 cases ba <;> cases ma <;> simp [eq_comm]
theorem ThrAt.move {ok ok' : Nat → Prop} {w w' : World} {cs : List Value} {x : Thr} {B : List Nat} (h : ThrAt ok w cs x B) (hs : w.heap.size ≤ w'.heap.size) (hk : ∀ b, b < w.heap.size → ok b → ok' b ∧ w'.heap[b]? = w.heap[b]?) (hB : ∀ b ∈ B, w'.heap[b]? = w.heap[b]?) : ThrAt ok' w' cs x B := by
 obtain ⟨la, lc, oa, oc, ba, bc, ma, mc, e, ⟨h1, h2, h3, h4⟩, rfl⟩ := h
 exact ⟨la, lc, oa, oc, ba, bc, ma, mc, e, ⟨h1.move hs hk fun _ _ h => h, h2.move hs hk fun _ _ h => h, h3.kept (fun b hb => hB b (mem_rows2.2 (.inl hb))) fun _ _ h => h.move hs hk, h4.kept (fun b hb => hB b (mem_rows2.2 (.inr hb))) fun _ _ h => h.move hs hk⟩, rfl⟩
theorem ThrR.move {ok ok' : Nat → Prop} {w w' : World} {x : Thr} {la : Option Addr} {lc : Nat} {oa : Option Addr} {oc : Nat} {ba : Option Addr} {bc : Nat} {ma : Option Addr} {mc : Nat} (h : ThrR ok w x la lc oa oc ba bc ma mc) (hs : w.heap.size ≤ w'.heap.size) (hk : ∀ b, b < w.heap.size → ok b → ok' b ∧ w'.heap[b]? = w.heap[b]?) (hB : ∀ b ∈ rows2 ba ma, w'.heap[b]? = w.heap[b]?) : ThrR ok' w' x la lc oa oc ba bc ma mc :=
 ⟨h.label.move hs hk fun _ _ h => h, h.own.move hs hk fun _ _ h => h, h.objs.kept (fun b hb => hB b (mem_rows2.2 (.inl hb))) fun _ _ h => h.move hs hk, h.mails.kept (fun b hb => hB b (mem_rows2.2 (.inr hb))) fun _ _ h => h.move hs hk⟩
theorem ThrR.ltB {ok : Nat → Prop} {w : World} {x : Thr} {la : Option Addr} {lc : Nat} {oa : Option Addr} {oc : Nat} {ba : Option Addr} {bc : Nat} {ma : Option Addr} {mc : Nat} (h : ThrR ok w x la lc oa oc ba bc ma mc) : ∀ b ∈ rows2 ba ma, b < w.heap.size := fun b hb => by
 rcases mem_rows2.1 hb with hb | hb
 ·exact h.objs.lt hb
 ·exact h.mails.lt hb
theorem ThrR.later {ok : Nat → Prop} {w w' : World} {x : Thr} {la : Option Addr} {lc : Nat} {oa : Option Addr} {oc : Nat} {ba : Option Addr} {bc : Nat} {ma : Option Addr} {mc : Nat} (h : ThrR ok w x la lc oa oc ba bc ma mc) (hb : Below w.heap.size w w') : ThrR (fun b => ok b ∧ b < w.heap.size) w' x la lc oa oc ba bc ma mc :=
 h.move hb.size (fun b hb' ho => ⟨⟨ho, hb'⟩, hb.block b hb'⟩) fun b hb' => hb.block b (h.ltB b hb')
theorem ThrAt.len {ok : Nat → Prop} {w : World} {cs : List Value} {x : Thr} {B : List Nat} (h : ThrAt ok w cs x B) : cs.length = 5 := by
 obtain ⟨la, lc, oa, oc, ba, bc, ma, mc, rfl, _⟩ := h
 rfl
theorem ThrAt.ltB {ok : Nat → Prop} {w : World} {cs : List Value} {x : Thr} {B : List Nat} (h : ThrAt ok w cs x B) : ∀ b ∈ B, b < w.heap.size := by
 obtain ⟨la, lc, oa, oc, ba, bc, ma, mc, _, ⟨_, _, h3, h4⟩, rfl⟩ := h
 intro b hb
 rcases mem_rows2.1 hb with hb | hb
 ·exact h3.lt hb
 ·exact h4.lt hb
theorem St.wider2 {M M' : List Nat} {w0 w : World} {own : Blks} (h : St M w0 w own) (hM : ∀ b ∈ M, b ∈ M') : St M' w0 w own :=
 ⟨h.os, h.tape, h.output, h.size, fun b hb hm => h.frame b hb fun hm2 => hm (hM b hm2), h.blk, fun x hx => (h.mine x hx).imp (hM _) id, h.ne⟩
structure KerAt (ok : Nat → Prop) (w : World) (g : Nat) (k : Ker) (css : List (List Value)) (Bs : List (List Nat)) : Prop where
 n1 : css.length = 4
 n2 : Bs.length = 4
 n3 : k.threads.length = 4
 thr : ∀ (i : Nat) (x : Thr) (cs : List Value) (B : List Nat), k.threads[i]? = some x → css[i]? = some cs → Bs[i]? = some B → ThrAt ok w cs x B
 blk : w.heap[g]? = some (.cells (.int .i64 k.host :: (css.flatten ++ [.int .i64 k.made])).toArray 98 (0, 0))
 nodup : (g :: Bs.flatten).Nodup
 apart : ∀ b ∈ g :: Bs.flatten, ¬ ok b
theorem KerAt.lt {ok : Nat → Prop} {w : World} {g : Nat} {k : Ker} {css : List (List Value)} {Bs : List (List Nat)} (h : KerAt ok w g k css Bs) : ∀ b ∈ g :: Bs.flatten, b < w.heap.size := by
 intro b hb
 rcases List.mem_cons.1 hb with rfl | hb
 ·exact (Array.getElem?_eq_some_iff.1 h.blk).1
 ·obtain ⟨B, hB, hb⟩ := List.mem_flatten.1 hb
  obtain ⟨i, hi⟩ := List.mem_iff_getElem?.1 hB
  have hil : i < 4 := by have := (gEs hi).1; rw [h.n2] at this; exact this
  have e1 : k.threads[i]? = some (k.threads[i]'(by rw [h.n3]; exact hil)) := gEg _
  have e2 : css[i]? = some (css[i]'(by rw [h.n1]; exact hil)) := gEg _
  exact (h.thr i _ _ _ e1 e2 hi).ltB b hb
theorem KerAt.move {ok ok' : Nat → Prop} {w w' : World} {g : Nat} {k : Ker} {css : List (List Value)} {Bs : List (List Nat)} (h : KerAt ok w g k css Bs) (hs : w.heap.size ≤ w'.heap.size) (hk : ∀ b, b < w.heap.size → ok b → ok' b ∧ w'.heap[b]? = w.heap[b]?) (hB : ∀ b ∈ g :: Bs.flatten, w'.heap[b]? = w.heap[b]? ∧ ¬ ok' b) : KerAt ok' w' g k css Bs :=
 ⟨h.n1, h.n2, h.n3, fun i x cs B e1 e2 e3 => (h.thr i x cs B e1 e2 e3).move hs hk fun b hb => (hB b (List.mem_cons_of_mem _ (List.mem_flatten.2 ⟨B, mgE e3, hb⟩))).1, by rw [(hB g (by simp)).1]; exact h.blk, h.nodup, fun b hb => (hB b hb).2⟩
theorem KerAt.below {ok : Nat → Prop} {w w' : World} {g : Nat} {k : Ker} {css : List (List Value)} {Bs : List (List Nat)} (h : KerAt ok w g k css Bs) (hb : Below w.heap.size w w') : KerAt ok w' g k css Bs :=
 h.move hb.size (fun b hb' ho => ⟨ho, hb.block b hb'⟩) fun b hb' => ⟨hb.block b (h.lt b hb'), h.apart b hb'⟩
def preC (k : Ker) (css : List (List Value)) (t : Nat) : List Value := .int .i64 k.host :: (css.take t).flatten
def postC (k : Ker) (css : List (List Value)) (t : Nat) : List Value := (css.drop (t + 1)).flatten ++ [.int .i64 k.made]
theorem flatten5 : ∀ (css : List (List Value)), (∀ cs ∈ css, cs.length = 5) → css.flatten.length = 5 * css.length
 | [], _ => rfl
 | c :: css, h => by
  simp only [List.flatten_cons, List.length_append, List.length_cons, h c (by simp), flatten5 css fun cs hc => h cs (by simp [hc])]
  omega
section
variable {ok : Nat → Prop} {w : World} {g : Nat} {k : Ker} {css : List (List Value)} {Bs : List (List Nat)}
theorem KerAt.five (h : KerAt ok w g k css Bs) : ∀ cs ∈ css, cs.length = 5 := by
 intro cs hcs
 obtain ⟨i, hi⟩ := List.mem_iff_getElem?.1 hcs
 have hil : i < 4 := by have := (gEs hi).1; rw [h.n1] at this; exact this
 have e1 : k.threads[i]? = some (k.threads[i]'(by rw [h.n3]; exact hil)) := gEg _
 have e2 : Bs[i]? = some (Bs[i]'(by rw [h.n2]; exact hil)) := gEg _
 exact (h.thr i _ _ _ e1 hi e2).len
theorem KerAt.preLen (h : KerAt ok w g k css Bs) {t : Nat} (ht : t < 4) : (preC k css t).length = 1 + t * 5 := by
 unfold preC
 rw [List.length_cons, flatten5 _ fun cs hc => h.five cs (List.mem_of_mem_take hc), List.length_take, h.n1]
 omega
theorem KerAt.cells (h : KerAt ok w g k css Bs) {t : Nat} (ht : t < 4) {cs : List Value} (hc : css[t]? = some cs) : .int .i64 k.host :: (css.flatten ++ [.int .i64 k.made]) = winC (preC k css t) cs (postC k css t) := by
 unfold winC preC postC
 have hl : t < css.length := by rw [h.n1]; exact ht
 have e : css = css.take t ++ cs :: css.drop (t + 1) := by
  have hcs : css[t] = cs := by rw [gEg hl] at hc; exact Option.some.inj hc
  rw [← hcs, ← List.drop_eq_getElem_cons hl, List.take_append_drop]
 conv => lhs; rw [e]
 simp
theorem KerAt.open (h : KerAt ok w g k css Bs) {t : Nat} (ht : t < 4) : ∃ x la lc oa oc ba bc ma mc, k.threads[t]? = some x ∧ css[t]? = some (thrC x la lc oa oc ba bc ma mc) ∧ Bs[t]? = some (rows2 ba ma) ∧ ThrR ok w x la lc oa oc ba bc ma mc ∧
  w.heap[g]? = some (.cells (winC (preC k css t) (thrC x la lc oa oc ba bc ma mc) (postC k css t)).toArray 98 (0, 0)) := by
 have e1 : k.threads[t]? = some (k.threads[t]'(by rw [h.n3]; exact ht)) := gEg _
 have e2 : css[t]? = some (css[t]'(by rw [h.n1]; exact ht)) := gEg _
 have e3 : Bs[t]? = some (Bs[t]'(by rw [h.n2]; exact ht)) := gEg _
 obtain ⟨la, lc, oa, oc, ba, bc, ma, mc, h1, h2, h3⟩ := h.thr t _ _ _ e1 e2 e3
 rw [h1] at e2
 rw [h3] at e3
 refine ⟨_, la, lc, oa, oc, ba, bc, ma, mc, e1, e2, e3, h2, ?_⟩
 rw [← h.cells ht e2]
 exact h.blk
theorem flatten_set_mem {α : Type} : ∀ {L : List (List α)} {i : Nat} {B : List α} {b : α}, b ∈ (L.set i B).flatten → b ∈ B ∨ ∃ j C, j ≠ i ∧ L[j]? = some C ∧ b ∈ C := by
 intro L i B b h
 obtain ⟨C, hC, hb⟩ := List.mem_flatten.1 h
 obtain ⟨j, hj⟩ := List.mem_iff_getElem?.1 hC
 rw [List.getElem?_set] at hj
 by_cases hij : i = j
 ·subst hij
  rw [if_pos rfl] at hj
  split at hj
  ·exact .inl (Option.some.inj hj ▸ hb)
  ·cases hj
 ·rw [if_neg hij] at hj
  exact .inr ⟨j, C, fun e => hij e.symm, hj, hb⟩
theorem nodup_set {α : Type} : ∀ {L : List (List α)} {i : Nat} {B0 B : List α}, L.flatten.Nodup → L[i]? = some B0 → B.Nodup → (∀ b ∈ B, b ∈ B0 ∨ b ∉ L.flatten) → (L.set i B).flatten.Nodup
 | [], i, B0, B, _, h, _, _ => by simp at h
 | C :: L, 0, B0, B, hn, h, hB, hb => by
  simp only [List.getElem?_cons_zero, Option.some.injEq] at h
  subst h
  simp only [List.set_cons_zero, List.flatten_cons] at hn ⊢
  obtain ⟨h1, h2, h3⟩ := List.nodup_append.1 hn
  refine List.nodup_append.2 ⟨hB, h2, fun a ha c hc e => ?_⟩
  subst e
  rcases hb a ha with h | h
  ·exact h3 a h a hc rfl
  ·exact h (by simp only [List.flatten_cons, List.mem_append]; exact .inr hc)
 | C :: L, i + 1, B0, B, hn, h, hB, hb => by
  simp only [List.getElem?_cons_succ] at h
  simp only [List.set_cons_succ, List.flatten_cons] at hn ⊢
  obtain ⟨h1, h2, h3⟩ := List.nodup_append.1 hn
  refine List.nodup_append.2 ⟨h1, nodup_set h2 h hB fun b hb' => (hb b hb').imp id fun h4 h5 => h4 (by simp only [List.flatten_cons, List.mem_append]; exact .inr h5), fun a ha c hc e => ?_⟩
  subst e
  rcases flatten_set_mem hc with hc | ⟨j, D, _, hj, hc⟩
  ·rcases hb a hc with h4 | h4
   ·exact h3 a ha a (List.mem_flatten.2 ⟨B0, mgE h, h4⟩) rfl
   ·exact h4 (by simp only [List.flatten_cons, List.mem_append]; exact .inl ha)
  ·exact h3 a ha a (List.mem_flatten.2 ⟨D, mgE hj, hc⟩) rfl
theorem nodup_apart {α : Type} : ∀ {L : List (List α)} {i j : Nat} {B C : List α}, L.flatten.Nodup → L[i]? = some B → L[j]? = some C → i ≠ j → ∀ b ∈ B, b ∉ C
 | [], i, j, B, C, _, h, _, _ => by simp at h
 | D :: L, 0, 0, B, C, _, _, _, hne => absurd rfl hne
 | D :: L, 0, j + 1, B, C, hn, hB, hC, _ => fun b hb hc => by
  simp only [List.getElem?_cons_zero, Option.some.injEq] at hB
  subst hB
  simp only [List.getElem?_cons_succ] at hC
  exact (List.nodup_append.1 (by simpa using hn)).2.2 b hb b (List.mem_flatten.2 ⟨C, mgE hC, hc⟩) rfl
 | D :: L, i + 1, 0, B, C, hn, hB, hC, _ => fun b hb hc => by
  simp only [List.getElem?_cons_zero, Option.some.injEq] at hC
  subst hC
  simp only [List.getElem?_cons_succ] at hB
  exact (List.nodup_append.1 (by simpa using hn)).2.2 b hc b (List.mem_flatten.2 ⟨B, mgE hB, hb⟩) rfl
 | D :: L, i + 1, j + 1, B, C, hn, hB, hC, hne => by
  simp only [List.getElem?_cons_succ] at hB hC
  exact nodup_apart (List.nodup_append.1 (by simpa using hn)).2.1 hB hC (by omega)
theorem KerAt.inB (_ : KerAt ok w g k css Bs) {t : Nat} {B : List Nat} (hB : Bs[t]? = some B) {b : Nat} (hb : b ∈ B) : b ∈ Bs.flatten := List.mem_flatten.2 ⟨B, mgE hB, hb⟩
theorem KerAt.gOut (h : KerAt ok w g k css Bs) {t : Nat} {B : List Nat} (hB : Bs[t]? = some B) : g ∉ B := fun hb => (List.nodup_cons.1 h.nodup).1 (h.inB hB hb)
theorem KerAt.apartAt (h : KerAt ok w g k css Bs) {t : Nat} {B : List Nat} (hB : Bs[t]? = some B) {b : Nat} (hb : b ∈ B) : ¬ ok b := h.apart b (List.mem_cons_of_mem _ (h.inB hB hb))
theorem flatten_nodup {α : Type} : ∀ {L : List (List α)} {i : Nat} {B : List α}, L.flatten.Nodup → L[i]? = some B → B.Nodup
 | [], i, B, _, h => by simp at h
 | C :: L, 0, B, hn, h => by
  simp only [List.getElem?_cons_zero, Option.some.injEq] at h
  subst h
  exact (List.nodup_append.1 (by simpa using hn)).1
 | C :: L, i + 1, B, hn, h => by
  simp only [List.getElem?_cons_succ] at h
  exact flatten_nodup (List.nodup_append.1 (by simpa using hn)).2.1 h
theorem KerAt.rowsNe (h : KerAt ok w g k css Bs) {t : Nat} {ba ma : Option Addr} (hB : Bs[t]? = some (rows2 ba ma)) {b : Nat} (hb : ba.map (·.block) = some b) : ma.map (·.block) ≠ some b := fun hm => by
 have hn := flatten_nodup (List.nodup_cons.1 h.nodup).2 hB
 unfold rows2 at hn
 rw [hb, hm] at hn
 simp at hn
theorem KerAt.len22 (h : KerAt ok w g k css Bs) {t : Nat} (ht : t < 4) (A B C D E : Value) : (winC (preC k css t) [A, B, C, D, E] (postC k css t)).length = 22 := by
 rw [winC_length, h.preLen ht]
 unfold postC
 rw [List.length_append, flatten5 _ fun cs hc => h.five cs (List.mem_of_mem_drop hc), List.length_drop, h.n1]
 simp
 omega
theorem KerAt.host (_ : KerAt ok w g k css Bs) (t : Nat) (win post : List Value) : (winC (preC k css t) win post)[0]? = some (.int .i64 k.host) := rfl
theorem KerAt.madeAt (h : KerAt ok w g k css Bs) {t : Nat} (ht : t < 4) (A B C D E : Value) : (winC (preC k css t) [A, B, C, D, E] (postC k css t))[21]? = some (.int .i64 k.made) := by
 have h1 := h.preLen ht
 have h2 : (css.drop (t + 1)).flatten.length = 5 * (4 - (t + 1)) := by rw [flatten5 _ fun cs hc => h.five cs (List.mem_of_mem_drop hc), List.length_drop, h.n1]
 unfold winC postC
 rw [List.getElem?_append_right (by omega), List.getElem?_append_right (by simp only [List.length_cons, List.length_nil]; omega), List.getElem?_append_right (by simp only [List.length_cons, List.length_nil]; omega)]
 have : 21 - (preC k css t).length - [A, B, C, D, E].length - (css.drop (t + 1)).flatten.length = 0 := by simp only [List.length_cons, List.length_nil]; omega
 rw [this]
 rfl
theorem KerAt.madePut (h : KerAt ok w g k css Bs) {t : Nat} (ht : t < 4) (A B C D E : Value) (m : Int) : putL (winC (preC k css t) [A, B, C, D, E] (postC k css t)) 21 [.int .i64 m] = winC (preC k css t) [A, B, C, D, E] (postC { k with made := m } css t) := by
 have h1 := h.preLen ht
 have h2 : (css.drop (t + 1)).flatten.length = 5 * (4 - (t + 1)) := by rw [flatten5 _ fun cs hc => h.five cs (List.mem_of_mem_drop hc), List.length_drop, h.n1]
 unfold winC postC
 rw [← List.append_assoc, ← List.append_assoc, ← List.append_assoc, ← List.append_assoc]
 have : 21 = (preC k css t ++ [A, B, C, D, E] ++ (css.drop (t + 1)).flatten).length + 0 := by simp only [List.length_append, List.length_cons, List.length_nil]; omega
 conv => lhs; rw [this]
 rw [putL_pre]
 simp [putL]
def KerTo (ok : Nat → Prop) (w : World) (g : Nat) (Bs : List (List Nat)) (w' : World) (k' : Ker) : Prop :=
 ∃ css' Bs', KerAt (fun b => (ok b ∨ w.heap.size ≤ b) ∧ b ∉ g :: Bs'.flatten) w' g k' css' Bs' ∧ St (g :: Bs.flatten) w w' [] ∧ ∀ b ∈ Bs'.flatten, b ∈ Bs.flatten ∨ w.heap.size ≤ b
theorem KerTo.none (h : KerAt ok w g k css Bs) {w' : World} (hb : Below w.heap.size w w') : KerTo ok w g Bs w' k :=
 ⟨css, Bs, h.move hb.size (fun b hb' ho => ⟨⟨.inl ho, fun hm => h.apart b hm ho⟩, hb.block b hb'⟩) fun b hb' => ⟨hb.block b (h.lt b hb'), fun hh => hh.2 hb'⟩, ⟨hb.os, hb.tape, hb.output, hb.size, fun b hb' _ => hb.block b hb', by simp, by simp, by simp⟩, fun b hb => .inl hb⟩
theorem KerAt.close (h : KerAt ok w g k css Bs) {t : Nat} (ht : t < 4) {cs : List Value} {B : List Nat} (hc : css[t]? = some cs) (hB : Bs[t]? = some B) {w' : World} {cs' : List Value} {x' : Thr} {B' : List Nat} {made' : Int} {own : Blks}
  (st : St (g :: B) w w' own) (hb : w'.heap[g]? = some (.cells (winC (preC k css t) cs' (postC { k with made := made' } css t)).toArray 98 (0, 0)))
  (hT : ThrAt (fun b => (ok b ∨ w.heap.size ≤ b) ∧ b ∉ g :: B') w' cs' x' B') (hn : B'.Nodup) (hin : ∀ b ∈ B', b ∈ B ∨ w.heap.size ≤ b) : KerTo ok w g Bs w' { k.put t x' with made := made' } := by
 have hgl := (h.lt g (by simp))
 have hBm := mgE hB
 have hBB : ∀ b ∈ B, b ∈ Bs.flatten := fun b hb => List.mem_flatten.2 ⟨B, hBm, hb⟩
 have hn0 := List.nodup_cons.1 h.nodup
 have hin' : ∀ b ∈ (Bs.set t B').flatten, b ∈ Bs.flatten ∨ w.heap.size ≤ b := fun b hb => by
  rcases flatten_set_mem hb with hb | ⟨j, D, _, hj, hb⟩
  ·exact (hin b hb).imp (hBB b) id
  ·exact .inl (List.mem_flatten.2 ⟨D, mgE hj, hb⟩)
 have hsame : ∀ b, b < w.heap.size → b ∉ g :: B → w'.heap[b]? = w.heap[b]? := st.frame
 refine ⟨css.set t cs', Bs.set t B', ⟨by simp [h.n1], by simp [h.n2], by simp [Ker.put, h.n3], fun i x cs2 B2 e1 e2 e3 => ?_, ?_, ?_, fun b hb hh => hh.2 hb⟩, ⟨st.os, st.tape, st.output, st.size, fun b hb' hm => hsame b hb' fun hm2 => hm (by
  rcases List.mem_cons.1 hm2 with rfl | h2
  ·simp
  ·exact List.mem_cons_of_mem _ (hBB b h2)), by simp, by simp, by simp⟩, hin'⟩
 ·simp only [Ker.put, Int.toNat_natCast] at e1
  rw [List.getElem?_set] at e1 e2 e3
  by_cases hti : t = i
  ·subst hti
   rw [if_pos rfl, if_pos (by rw [h.n3]; exact ht)] at e1
   rw [if_pos rfl, if_pos (by rw [h.n1]; exact ht)] at e2
   rw [if_pos rfl, if_pos (by rw [h.n2]; exact ht)] at e3
   cases e1; cases e2; cases e3
   refine hT.move (Nat.le_refl _) (fun b hb ho => ⟨⟨ho.1, fun hm => ?_⟩, rfl⟩) fun _ _ => rfl
   rcases List.mem_cons.1 hm with rfl | hm
   ·exact ho.2 (by simp)
   ·rcases flatten_set_mem hm with hm | ⟨j, D, hj, hD, hm⟩
    ·exact ho.2 (by simp [hm])
    ·have hmB : b ∈ Bs.flatten := List.mem_flatten.2 ⟨D, mgE hD, hm⟩
     rcases ho.1 with ho1 | ho1
     ·exact h.apart b (List.mem_cons_of_mem _ hmB) ho1
     ·have := h.lt b (List.mem_cons_of_mem _ hmB); omega
  ·rw [if_neg hti] at e1 e2 e3
   have hother : ∀ b ∈ B2, b ∉ g :: B := fun b hbm hm => by
    rcases List.mem_cons.1 hm with hm | hm
    ·exact hn0.1 (hm ▸ List.mem_flatten.2 ⟨B2, mgE e3, hbm⟩)
    ·exact nodup_apart hn0.2 hB e3 hti b hm hbm
   refine (h.thr i x cs2 B2 e1 e2 e3).move st.size (fun b hb ho => ⟨⟨.inl ho, fun hm => ?_⟩, hsame b hb fun hm => h.apart b (by
    rcases List.mem_cons.1 hm with rfl | h2
    ·simp
    ·exact List.mem_cons_of_mem _ (hBB b h2)) ho⟩) fun b hb => hsame b (h.lt b (List.mem_cons_of_mem _ (List.mem_flatten.2 ⟨B2, mgE e3, hb⟩))) (hother b hb)
   rcases List.mem_cons.1 hm with rfl | hm
   ·exact h.apart b (by simp) ho
   ·rcases hin' b hm with hm | hm
    ·exact h.apart b (List.mem_cons_of_mem _ hm) ho
    ·omega
 ·rw [hb]
  have hc' : (css.set t cs')[t]? = some cs' := by rw [List.getElem?_set_self (by rw [h.n1]; exact ht)]
  congr 3
  unfold winC preC postC
  have hl : t < (css.set t cs').length := by simp [h.n1]; exact ht
  have e : css.set t cs' = css.take t ++ cs' :: css.drop (t + 1) := by
   rw [List.set_eq_take_append_cons_drop, if_pos (by rw [h.n1]; exact ht)]
  rw [e]
  simp [Ker.put]
 ·refine List.nodup_cons.2 ⟨fun hm => ?_, nodup_set hn0.2 hB hn fun b hb => (hin b hb).imp id fun h1 hm => ?_⟩
  ·rcases hin' g hm with hm | hm
   ·exact hn0.1 hm
   ·omega
  ·have := h.lt b (List.mem_cons_of_mem _ hm); omega
theorem KerAt.closeSame (h : KerAt ok w g k css Bs) {t : Nat} (ht : t < 4) {x x' : Thr} {la : Option Addr} {lc : Nat} {oa : Option Addr} {oc : Nat} {ba : Option Addr} {bc : Nat} {ma : Option Addr} {mc : Nat} {la' : Option Addr} {lc' : Nat} {oa' : Option Addr} {oc' : Nat}
  (hc : css[t]? = some (thrC x la lc oa oc ba bc ma mc)) (hB : Bs[t]? = some (rows2 ba ma)) {w' : World} {made' : Int} (hT : ThrR ok w x la lc oa oc ba bc ma mc)
  (st : St [g] w w' [(g, 98, winC (preC k css t) (thrC x' la' lc' oa' oc' ba bc ma mc) (postC { k with made := made' } css t))])
  (ho : x'.objects = x.objects) (hm : x'.mails = x.mails)
  (hl : SlR (fun b => (ok b ∨ w.heap.size ≤ b) ∧ b ∉ g :: rows2 ba ma) w' 2 RLev la' lc' x'.label) (ho' : SlR (fun b => (ok b ∨ w.heap.size ≤ b) ∧ b ∉ g :: rows2 ba ma) w' 1 RInt oa' oc' x'.own) : KerTo ok w g Bs w' { k.put t x' with made := made' } := by
 have hokw : ∀ b, b < w.heap.size → ok b → ((ok b ∨ w.heap.size ≤ b) ∧ b ∉ g :: rows2 ba ma) ∧ w'.heap[b]? = w.heap[b]? := fun b hb hob => by
  refine ⟨⟨.inl hob, fun hmm => ?_⟩, st.frame b hb fun hmm => ?_⟩
  ·rcases List.mem_cons.1 hmm with rfl | hmm
   ·exact h.apart b (by simp) hob
   ·exact h.apartAt hB hmm hob
  ·simp at hmm; subst hmm; exact h.apart b (by simp) hob
 refine h.close ht hc hB (st.wider2 (by simp)) (st.blk _ (mgE (i := 0) rfl)) ⟨la', lc', oa', oc', ba, bc, ma, mc, rfl, ⟨hl, ho', ?_, ?_⟩, rfl⟩ (flatten_nodup (List.nodup_cons.1 h.nodup).2 hB) fun b hb => .inl hb
 ·rw [ho]; exact hT.objs.kept (fun b e => st.frame b (hT.objs.lt e) (by simp; rintro rfl; exact h.gOut hB (mem_rows2.2 (.inl e)))) fun _ _ r => r.move st.size hokw
 ·rw [hm]; exact hT.mails.kept (fun b e => st.frame b (hT.mails.lt e) (by simp; rintro rfl; exact h.gOut hB (mem_rows2.2 (.inr e)))) fun _ _ r => r.move st.size hokw
theorem KerAt.closeMails (h : KerAt ok w g k css Bs) {t : Nat} (ht : t < 4) {x x' : Thr} {la : Option Addr} {lc : Nat} {oa : Option Addr} {oc : Nat} {ba : Option Addr} {bc : Nat} {ma : Option Addr} {mc : Nat} {la' : Option Addr} {lc' : Nat} {oa' : Option Addr} {oc' : Nat} {ma' : Option Addr} {mc' : Nat}
  (hc : css[t]? = some (thrC x la lc oa oc ba bc ma mc)) (hB : Bs[t]? = some (rows2 ba ma)) {w' : World} {made' : Int} (hT : ThrR ok w x la lc oa oc ba bc ma mc)
  (st : St [g] w w' [(g, 98, winC (preC k css t) (thrC x' la' lc' oa' oc' ba bc ma' mc') (postC { k with made := made' } css t))])
  (ho : x'.objects = x.objects)
  (hl : SlR (fun b => (ok b ∨ w.heap.size ≤ b) ∧ b ∉ g :: rows2 ba ma) w' 2 RLev la' lc' x'.label) (ho' : SlR (fun b => (ok b ∨ w.heap.size ≤ b) ∧ b ∉ g :: rows2 ba ma) w' 1 RInt oa' oc' x'.own)
  (hm : RowAt 42 w' 5 (RMail (fun b => (ok b ∨ w.heap.size ≤ b) ∧ b ∉ g :: rows2 ba ma) w') ma' mc' x'.mails) (hin : ∀ b, ma'.map (·.block) = some b → ma.map (·.block) = some b) : KerTo ok w g Bs w' { k.put t x' with made := made' } := by
 have hsub : ∀ b, b ∈ rows2 ba ma' → b ∈ rows2 ba ma := fun b hb => by
  rcases mem_rows2.1 hb with hb | hb
  ·exact mem_rows2.2 (.inl hb)
  ·exact mem_rows2.2 (.inr (hin b hb))
 have hsub2 : ∀ b, b ∉ g :: rows2 ba ma → b ∉ g :: rows2 ba ma' := fun b hb hm => by
  rcases List.mem_cons.1 hm with rfl | hm
  ·exact hb (by simp)
  ·exact hb (List.mem_cons_of_mem _ (hsub b hm))
 have hokw : ∀ b, b < w.heap.size → ok b → ((ok b ∨ w.heap.size ≤ b) ∧ b ∉ g :: rows2 ba ma') ∧ w'.heap[b]? = w.heap[b]? := fun b hb hob => by
  refine ⟨⟨.inl hob, hsub2 b fun hmm => ?_⟩, st.frame b hb fun hmm => ?_⟩
  ·rcases List.mem_cons.1 hmm with rfl | hmm
   ·exact h.apart b (by simp) hob
   ·exact h.apartAt hB hmm hob
  ·simp at hmm; subst hmm; exact h.apart b (by simp) hob
 have hnd : (rows2 ba ma').Nodup := by
  have := flatten_nodup (List.nodup_cons.1 h.nodup).2 hB
  unfold rows2 at this ⊢
  cases hma : ma' with
  | none => cases ba <;> simp
  | some ad =>
   have e := hin ad.block (by rw [hma]; rfl)
   rw [e] at this
   exact this
 refine h.close ht hc hB (st.wider2 (by simp)) (st.blk _ (mgE (i := 0) rfl)) ⟨la', lc', oa', oc', ba, bc, ma', mc', rfl, ⟨hl.okay fun b hb => ⟨hb.1, hsub2 b hb.2⟩, ho'.okay fun b hb => ⟨hb.1, hsub2 b hb.2⟩, ?_, hm.kept (fun _ _ => rfl) fun _ _ r => r.move (Nat.le_refl _) fun b _ hb => ⟨⟨hb.1, hsub2 b hb.2⟩, rfl⟩⟩, rfl⟩ hnd fun b hb => .inl (hsub b hb)
 rw [ho]; exact hT.objs.kept (fun b e => st.frame b (hT.objs.lt e) (by simp; rintro rfl; exact h.gOut hB (mem_rows2.2 (.inl e)))) fun _ _ r => r.move st.size hokw
theorem KerAt.fine (h : KerAt ok w g k css Bs) {t : Nat} {B : List Nat} (hB : Bs[t]? = some B) {w' : World} {α : Type} {sz : Nat} {R : List Value → α → Prop} {a : Option Addr} {c : Nat} {xs : List α} (hs : SlR (fun b => ok b ∨ w.heap.size ≤ b) w' sz R a c xs) : SlR (fun b => (ok b ∨ w.heap.size ≤ b) ∧ b ∉ g :: B) w' sz R a c xs :=
 hs.okay fun b hb => ⟨hb, fun hm => by
  have hlt := h.lt b (by
   rcases List.mem_cons.1 hm with rfl | hm
   ·simp
   ·exact List.mem_cons_of_mem _ (h.inB hB hm))
  rcases hb with hb | hb
  ·rcases List.mem_cons.1 hm with rfl | hm
   ·exact h.apart b (by simp) hb
   ·exact h.apartAt hB hm hb
  ·omega⟩
end
abbrev certV (x : Cert) : Value := .agg #[.int .i64 x.c, .int .i64 x.by_, .int .i64 x.host, .int .i64 x.till]
theorem slices_Index_Cert (ok : Nat → Prop) (w : World) (a : Option Addr) (c : Nat) (l : List Cert) (v : Cert) (hR : SlR ok w 4 RCert a c l) :
  Calls Tryz.prog 92 #[.slice a l.length c, .agg #[.int .i64 v.c, .int .i64 v.by_, .int .i64 v.host, .int .i64 v.till]] w fun e w' => Says e (inL l v) ∧ Below w.heap.size w w' := by
 have hl : l.length ≤ 9223372036854775807 := by have h1 := hR.1; have h2 := hR.2.1; unfold maxLen at h2; omega
 have st := St.start w
 go_enter Tryz.func92, Tryz.ntmps92
 go_wp2_with (first | go_skip | (with_reducible refine mB 47 st ?_; clear st; intro g1 w1 hg1 st))
 go_loopw [8] (fun i wr => ∃ k : Nat, k ≤ l.length ∧ i = .int .i64 k ∧ St [] w wr [(g1, 47, [.int .i64 v.c, .int .i64 v.by_, .int .i64 v.host, .int .i64 v.till])] ∧ Hid (inL l v = inL (l.drop k) v)) (fun i _ => l.length - (intOf i).toNat)
 case atStart => exact ⟨0, Nat.zero_le _, rfl, st, rfl⟩
 case round =>
  clear st
  obtain ⟨k, hk, rfl, st, hN⟩ := hrel
  by_cases hlt : k < l.length
  ·obtain ⟨b, o, rfl, hb, _⟩ := hR.cert_at k hlt
   have hrow := fun (W : World) (h : St [] w W [(g1, 47, [.int .i64 v.c, .int .i64 v.by_, .int .i64 v.host, .int .i64 v.till])]) => (hR.below h.below).cert_row k hlt
   generalize hd : decide (v = l[k]) = d
   have hne := eql_Cert v l[k] d hd
   have hgu := guard_Cert
   have HD := qh hd
   clear hd
   go_wp2
   refine lex_still st (by kernel_rfl) 6 rfl ?_; clear st; intro hI
   refine lexT 0 rfl hI (fun W hW => St.run_load_agg hW 0 47 _ rfl Tryz.isAgg47 _ Tryz.sizeOf47 rfl rfl rfl rfl) ?_
   refine lexS 1 rfl hI ?_
   refine lexS 2 rfl hI ?_
   refine lexS 3 rfl hI ?_
   refine lexT 4 rfl hI (fun W hW => run_load_at 47 _ rfl Tryz.isAgg47 _ Tryz.sizeOf47 _ _ rfl [.int .i64 l[k].c, .int .i64 l[k].by_, .int .i64 l[k].host, .int .i64 l[k].till] rfl (hrow W hW)) ?_
   refine lexS 5 rfl hI ?_
   refine lex_done (by decide +kernel) ?_
   replace st := hI
   clear hI hrow hne hgu
   cases d
   ·go_wp2
    go_roundw
    case rel => exact ⟨k + 1, hlt, by go_num, st, by rw [hN.out, inL_pass hlt (by simpa using HD.out)]; rfl⟩
    case measure => simp [intOf]; omega
   ·go_wp2
    go_ret
    have e : inL l v = true := by rw [hN.out, inL_hit hlt (by simpa using HD.out)]
    exact ⟨⟨k, rfl, by simp, by simp [e]⟩, st.below⟩
  ·go_wp2
   go_ret
   have e : inL l v = false := by rw [hN.out, inL_end hlt]
   exact ⟨⟨-1, rfl, by simp [e], by simp⟩, st.below⟩
theorem slices_Contains_Cert (ok : Nat → Prop) (w : World) (a : Option Addr) (c : Nat) (l : List Cert) (v : Cert) (hR : SlR ok w 4 RCert a c l) :
  Calls Tryz.prog 67 #[.slice a l.length c, .agg #[.int .i64 v.c, .int .i64 v.by_, .int .i64 v.host, .int .i64 v.till]] w fun e w' => e = .returned (.bool (inL l v)) ∧ Below w.heap.size w w' := by
 cases hb : inL l v
 all_goals
  have HB := qh hb
  clear hb
  have st := St.start w
  go_enter Tryz.func67, Tryz.ntmps67
  go_wp2_with (first
   | go_skip | (with_reducible refine mB 47 st ?_; clear st; intro g1 w1 hg1 st) | (with_reducible refine mXA st Tryz.isAgg47 Tryz.sizeOf47 ?_)
   | (go_at_call 92; go_must (refine (slices_Index_Cert ok _ _ _ _ v (hR.below st.below)).mono ?_; rintro e w' ⟨⟨n, rfl, h1, h2⟩, hb2⟩; replace st := st.call hb2; rw [HB.out] at h1 h2; simp only [forall_const, reduceCtorEq, false_implies] at h1 h2; clear hb2)))
  go_ret
  exact ⟨by first | rfl | (apply ret_bool; simp; omega), st.below⟩
theorem trust_Good (ok : Nat → Prop) (w : World) (a : Option Addr) (c : Nat) (l : List Cert) (hR : SlR ok w 4 RCert a c l) :
  Calls Tryz.prog 65 #[.slice a l.length c] w fun e w' => e = .returned (.bool (goodCerts l)) ∧ Below w.heap.size w w' := by
 have hl : l.length ≤ 9223372036854775807 := by have h1 := hR.1; have h2 := hR.2.1; unfold maxLen at h2; omega
 have hcap := hR.1
 go_enter Tryz.func65, Tryz.ntmps65
 go_wp2
 go_loopw [7] (fun i wr => ∃ k : Nat, k ≤ l.length ∧ i = .int .i64 k ∧ Below w.heap.size w wr ∧ Hid (certsOk [] l = certsOk (l.take k) (l.drop k))) (fun i _ => l.length - (intOf i).toNat)
 case atStart => exact ⟨0, Nat.zero_le _, rfl, Below.refl _ _, rfl⟩
 case round =>
  obtain ⟨k, hk, rfl, hB, hN⟩ := hrel
  by_cases hlt : k < l.length
  ·obtain ⟨b, o, rfl, hb, _⟩ := hR.cert_at k hlt
   have hrow := ((hR.below hB).cert_row k hlt)
   have hRk := fun (W : World) (h : Below wr.heap.size wr W) => ((hR.below hB).below h).take k
   have hkl : (l.take k).length = k := by simp; omega
   have hkc : k ≤ c := by omega
   have HS := qh (certsOk_at hlt)
   have st := St.start wr
   have HCt := qh (fun (W : World) (h : Below wr.heap.size wr W) => (hkl ▸ slices_Contains_Cert ok W (some ⟨b, o, none⟩) c (l.take k) l[k] (hRk W h) : Calls Tryz.prog 67 #[.slice (some ⟨b, o, none⟩) k c, .agg #[.int .i64 l[k].c, .int .i64 l[k].by_, .int .i64 l[k].host, .int .i64 l[k].till]] W fun e w' => e = .returned (.bool (inL (l.take k) l[k])) ∧ Below W.heap.size W w'))
   clear hRk hkl
   cases hg : goodCertB l[k]
   ·have HG := qh hg
    have HE := qh (show goodCerts l = false by unfold goodCerts; rw [hN.out, HS.out, hg]; rfl)
    clear hg
    go_wp2_with (first | go_skip | (with_reducible refine at_load 47 ?_; refine wpList_load_cells (wanted_none rfl) 47 _ rfl Tryz.isAgg47 _ Tryz.sizeOf47 b (o + k * 4) rfl [.int .i64 l[k].c, .int .i64 l[k].by_, .int .i64 l[k].host, .int .i64 l[k].till] rfl hrow ?_) | (with_reducible refine mA st Tryz.zeroValue47 ?_; clear st; intro g1 w1 hg1 st) | (with_reducible refine mS 0 st Tryz.sizeOf47 ?_; clear st; intro w2 st hw2m hw2z))
    refine lex_still st (by kernel_rfl) 10 rfl ?_; clear st; intro hI
    refine lexT 0 rfl hI (fun W hW => St.run_load_agg hW 0 47 _ rfl Tryz.isAgg47 _ Tryz.sizeOf47 rfl rfl rfl rfl) ?_
    have st := hI
    refine lexO 1 rfl fun K hK => ?_
    refine wp_callee (f := 66) (by first | (go_simp; done) | (go_simp; rfl)) ?_
    refine (wire_GoodCert l[k] _).mono ?_
    rintro e v3 ⟨rfl, hb3⟩
    rw [HG.out]
    refine ⟨_, rfl, ?_⟩
    replace st := st.call hb3
    clear hb3
    refine hK _ _ (st) ?_; clear hK; simp only [kP, kA, kS, kZ]
    have hI := st
    refine lexS 2 rfl hI ?_
    refine lexS 3 rfl hI ?_
    refine lex_skip 4 rfl (by decide +kernel) (by simp [Region.wanted, yielded]) hI ?_; simp only [kP, kA, kS, kZ]
    refine lex_skip 5 rfl (by decide +kernel) (by simp [Region.wanted, yielded]) hI ?_; simp only [kP, kA, kS, kZ]
    refine lex_skip 6 rfl (by decide +kernel) (by simp [Region.wanted, yielded]) hI ?_; simp only [kP, kA, kS, kZ]
    refine lex_skip 7 rfl (by decide +kernel) (by simp [Region.wanted, yielded]) hI ?_; simp only [kP, kA, kS, kZ]
    refine lex_skip 8 rfl (by decide +kernel) (by simp [Region.wanted, yielded]) hI ?_; simp only [kP, kA, kS, kZ]
    refine lexS 9 rfl hI ?_
    refine lex_done (by decide +kernel) ?_
    go_wp2
    go_ret
    exact ⟨ret_bool HE.out.symm, hB.keep st.below⟩
   ·have HG := qh hg
    cases hi : inL (l.take k) l[k]
    ·have HI := qh hi
     have HE := qh (show certsOk [] l = certsOk (l.take (k + 1)) (l.drop (k + 1)) by rw [hN.out, HS.out, hg, hi]; rfl)
     clear hg hi
     go_wp2_with (first | go_skip | (with_reducible refine at_load 47 ?_; refine wpList_load_cells (wanted_none rfl) 47 _ rfl Tryz.isAgg47 _ Tryz.sizeOf47 b (o + k * 4) rfl [.int .i64 l[k].c, .int .i64 l[k].by_, .int .i64 l[k].host, .int .i64 l[k].till] rfl hrow ?_) | (with_reducible refine mA st Tryz.zeroValue47 ?_; clear st; intro g1 w1 hg1 st) | (with_reducible refine mS 0 st Tryz.sizeOf47 ?_; clear st; intro w2 st hw2m hw2z))
     refine lex_still st (by kernel_rfl) 10 rfl ?_; clear st; intro hI
     refine lexT 0 rfl hI (fun W hW => St.run_load_agg hW 0 47 _ rfl Tryz.isAgg47 _ Tryz.sizeOf47 rfl rfl rfl rfl) ?_
     have st := hI
     refine lexO 1 rfl fun K hK => ?_
     refine wp_callee (f := 66) (by first | (go_simp; done) | (go_simp; rfl)) ?_
     refine (wire_GoodCert l[k] _).mono ?_
     rintro e v3 ⟨rfl, hb3⟩
     rw [HG.out]
     refine ⟨_, rfl, ?_⟩
     replace st := st.call hb3
     clear hb3
     refine hK _ _ (st) ?_; clear hK; simp only [kP, kA, kS, kZ]
     have hI := st
     refine lexS 2 rfl hI ?_
     refine lexS 3 rfl hI ?_
     refine lexS 4 rfl hI ?_
     refine lexS 5 rfl hI ?_
     refine lexS 6 rfl hI ?_
     refine lexT 7 rfl hI (fun W hW => St.run_load_agg hW 0 47 _ rfl Tryz.isAgg47 _ Tryz.sizeOf47 rfl rfl rfl rfl) ?_
     refine lexO 8 rfl fun K hK => ?_
     refine wp_callee (f := 67) (by first | (go_simp; done) | (go_simp; rfl)) ?_
     refine (HCt.out _ st.below).mono ?_
     rintro e v4 ⟨rfl, hb4⟩
     rw [HI.out]
     refine ⟨_, rfl, ?_⟩
     replace st := st.call hb4
     clear hb4
     refine hK _ _ (st) ?_; clear hK; simp only [kP, kA, kS, kZ]
     have hI := st
     refine lexS 9 rfl hI ?_
     refine lex_done (by decide +kernel) ?_
     go_wp2
     go_roundw
     case rel => exact ⟨k + 1, hlt, by go_num, hB.keep st.below, HE.out⟩
     case measure => simp [intOf]; omega
    ·have HI := qh hi
     have HE := qh (show goodCerts l = false by unfold goodCerts; rw [hN.out, HS.out, hg, hi]; rfl)
     clear hg hi
     go_wp2_with (first | go_skip | (with_reducible refine at_load 47 ?_; refine wpList_load_cells (wanted_none rfl) 47 _ rfl Tryz.isAgg47 _ Tryz.sizeOf47 b (o + k * 4) rfl [.int .i64 l[k].c, .int .i64 l[k].by_, .int .i64 l[k].host, .int .i64 l[k].till] rfl hrow ?_) | (with_reducible refine mA st Tryz.zeroValue47 ?_; clear st; intro g1 w1 hg1 st) | (with_reducible refine mS 0 st Tryz.sizeOf47 ?_; clear st; intro w2 st hw2m hw2z))
     refine lex_still st (by kernel_rfl) 10 rfl ?_; clear st; intro hI
     refine lexT 0 rfl hI (fun W hW => St.run_load_agg hW 0 47 _ rfl Tryz.isAgg47 _ Tryz.sizeOf47 rfl rfl rfl rfl) ?_
     have st := hI
     refine lexO 1 rfl fun K hK => ?_
     refine wp_callee (f := 66) (by first | (go_simp; done) | (go_simp; rfl)) ?_
     refine (wire_GoodCert l[k] _).mono ?_
     rintro e v3 ⟨rfl, hb3⟩
     rw [HG.out]
     refine ⟨_, rfl, ?_⟩
     replace st := st.call hb3
     clear hb3
     refine hK _ _ (st) ?_; clear hK; simp only [kP, kA, kS, kZ]
     have hI := st
     refine lexS 2 rfl hI ?_
     refine lexS 3 rfl hI ?_
     refine lexS 4 rfl hI ?_
     refine lexS 5 rfl hI ?_
     refine lexS 6 rfl hI ?_
     refine lexT 7 rfl hI (fun W hW => St.run_load_agg hW 0 47 _ rfl Tryz.isAgg47 _ Tryz.sizeOf47 rfl rfl rfl rfl) ?_
     refine lexO 8 rfl fun K hK => ?_
     refine wp_callee (f := 67) (by first | (go_simp; done) | (go_simp; rfl)) ?_
     refine (HCt.out _ st.below).mono ?_
     rintro e v4 ⟨rfl, hb4⟩
     rw [HI.out]
     refine ⟨_, rfl, ?_⟩
     replace st := st.call hb4
     clear hb4
     refine hK _ _ (st) ?_; clear hK; simp only [kP, kA, kS, kZ]
     have hI := st
     refine lexS 9 rfl hI ?_
     refine lex_done (by decide +kernel) ?_
     go_wp2
     go_ret
     exact ⟨ret_bool HE.out.symm, hB.keep st.below⟩
  ·go_wp2
   go_ret
   have e : certsOk [] l = true := by rw [hN.out, List.drop_of_length_le (by omega)]; simp [certsOk]
   exact ⟨ret_bool (by unfold goodCerts; rw [e]; simp; omega), hB⟩
theorem trust_Add (ok : Nat → Prop) (w : World) (a : Option Addr) (k : Nat) (l : List Cert) (c : Cert) (hR : SlR ok w 4 RCert a k l) (r : List Cert × Int) (hr : addC l c = r) :
  Calls Tryz.prog 49 #[.slice a l.length k, .agg #[.int .i64 c.c, .int .i64 c.by_, .int .i64 c.host, .int .i64 c.till]] w fun e w' => ∃ a' k', e = .returned (.tuple #[.slice a' r.1.length k', .int .i64 r.2]) ∧ Below w.heap.size w w' ∧ SlR (fun b => w.heap.size ≤ b) w' 4 RCert a' k' r.1 := by
 have HG := qh (fun (W : World) (h : Below w.heap.size w W) => trust_Good ok W a k l (hR.below h))
 have HI := qh (fun (W : World) (h : Below w.heap.size w W) => slices_Contains_Cert ok W a k l c (hR.below h))
 have st := St.start w
 cases h1 : goodCerts l
 ·have H1 := qh h1
  have HR := qh (show r = ([], 2) by rw [← hr]; unfold addC; rw [h1]; rfl)
  clear h1 hr
  go_enter Tryz.func49, Tryz.ntmps49
  go_wp2_with (first | go_skip | (with_reducible refine mB 47 st ?_; clear st; intro g1 w1 hg1 st) | (go_at_call 65; go_must (refine (HG.out _ st.below).mono ?_; rintro e v2 ⟨rfl, hb2⟩; rw [H1.out]; replace st := st.call hb2; clear hb2)))
  go_ret2
  rw [HR.out]
  exact ⟨none, 0, rfl, st.below, SlR.nil _ _ _ _⟩
 ·have H1 := qh h1
  cases h2 : goodCertB c
  ·have H2 := qh h2
   have HR := qh (show r = ([], 2) by rw [← hr]; unfold addC; rw [h1, h2]; rfl)
   clear h1 h2 hr
   go_enter Tryz.func49, Tryz.ntmps49
   go_wp2_with (first
    | go_skip | (with_reducible refine mB 47 st ?_; clear st; intro g1 w1 hg1 st) | (with_reducible refine mXA st Tryz.isAgg47 Tryz.sizeOf47 ?_) | (go_at_call 65; go_must (refine (HG.out _ st.below).mono ?_; rintro e v2 ⟨rfl, hb2⟩; rw [H1.out]; replace st := st.call hb2; clear hb2))
    | (go_at_call 66; go_must (refine (wire_GoodCert c _).mono ?_; rintro e v2 ⟨rfl, hb2⟩; rw [H2.out]; replace st := st.call hb2; clear hb2)))
   go_ret2
   rw [HR.out]
   exact ⟨none, 0, rfl, st.below, SlR.nil _ _ _ _⟩
  ·have H2 := qh h2
   have hlen : l.length ≤ 24 := ((goodCerts_iff l).1 h1).2.2
   have HC := qh (fun (W : World) (h : Below w.heap.size w W) => slices_Clone_Cert ok W a k l (by omega) (hR.below h))
   cases h3 : inL l c
   ·have H3 := qh h3
    by_cases h4 : l.length = 24
    ·have HR := qh (show r = ([], 5) by rw [← hr]; unfold addC; rw [h1, h2, h3, if_neg (by simp), if_neg (by simp), if_pos (by omega)])
     clear h1 h2 h3 hr hlen
     rw [h4] at HG HI HC ⊢
     clear h4
     go_enter Tryz.func49, Tryz.ntmps49
     go_wp2_with (first
      | go_skip | (with_reducible refine mB 47 st ?_; clear st; intro g1 w1 hg1 st) | (with_reducible refine mXA st Tryz.isAgg47 Tryz.sizeOf47 ?_) | (go_at_call 65; go_must (refine (HG.out _ st.below).mono ?_; rintro e v2 ⟨rfl, hb2⟩; rw [H1.out]; replace st := st.call hb2; clear hb2))
      | (go_at_call 66; go_must (refine (wire_GoodCert c _).mono ?_; rintro e v2 ⟨rfl, hb2⟩; rw [H2.out]; replace st := st.call hb2; clear hb2))
      | (go_at_call 67; go_must (refine (HI.out _ st.below).mono ?_; rintro e v2 ⟨rfl, hb2⟩; rw [H3.out]; replace st := st.call hb2; clear hb2)))
     go_ret2
     rw [HR.out]
     exact ⟨none, 0, rfl, st.below, SlR.nil _ _ _ _⟩
    ·obtain ⟨i0, hi, hz0, hz1, hz2⟩ := info_parts info_Cert
     have HR := qh (show r = (l ++ [c], 0) by rw [← hr]; unfold addC; rw [h1, h2, h3, if_neg (by simp), if_neg (by simp), if_neg (by omega)])
     have d1 : decide ((24 : Int) ≤ (l.length : Int)) = false := by simp; omega
     clear h1 h2 h3 hr
     rw [HR.out]
     have hll : (l ++ [c]).length = l.length + 1 := by simp
     rw [hll]
     clear hll
     go_enter Tryz.func49, Tryz.ntmps49
     go_wp2_with (first
      | go_skip | (with_reducible refine mB 47 st ?_; clear st; intro g1 w1 hg1 st) | (with_reducible refine mXA st Tryz.isAgg47 Tryz.sizeOf47 ?_) | (go_at_call 65; go_must (refine (HG.out _ st.below).mono ?_; rintro e v2 ⟨rfl, hb2⟩; rw [H1.out]; replace st := st.call hb2; clear hb2))
      | (go_at_call 66; go_must (refine (wire_GoodCert c _).mono ?_; rintro e v2 ⟨rfl, hb2⟩; rw [H2.out]; replace st := st.call hb2; clear hb2))
      | (go_at_call 67; go_must (refine (HI.out _ st.below).mono ?_; rintro e v2 ⟨rfl, hb2⟩; rw [H3.out]; replace st := st.call hb2; clear hb2)))
     refine lex_still st (by kernel_rfl) 7 rfl ?_; clear st; intro hI
     refine lexS 0 rfl hI ?_
     refine lexT 2 rfl hI (fun W hW => St.run_load_agg hW 0 47 _ rfl Tryz.isAgg47 _ Tryz.sizeOf47 rfl rfl rfl rfl) ?_
     have st := hI
     have st1 := hI
     refine lex_each [1, 3] (by decide +kernel) (by decide) ?_; intro i hi K hK; simp only [List.mem_cons, List.not_mem_nil, or_false] at hi; rcases hi with rfl | rfl <;> refine ⟨_, rfl, (by first | exact wanted_none rfl | exact wanted_some rfl rfl), ?_⟩
     ·refine wp_callee (f := 32) (by first | (go_simp; done) | (go_simp; rfl)) ?_
      refine (HC.out _ st.below).mono ?_
      rintro e v4 ⟨a4, k4, rfl, hb4, hO4⟩
      refine ⟨_, rfl, ?_⟩
      have hz4 := st.size
      replace st := st.call hb4
      refine hK _ _ (st.take 1) ?_; clear hK; simp only [kP, kA, kS, kZ]
      have hI := st.take 1
      refine lexO 3 rfl fun K hK => ?_
      refine wp_build1 st 44 47 _ rfl Tryz.underlying44 4 Tryz.sizeOf47 (by decide) (by decide) _ Tryz.zeroValue47 _ rfl rfl ?_; clear st; intro g2 w2 hg2 hg2e st hg2b hw2z; clear hg2e; simp [Act.eval, Act.put, Value.cells, putL] at st
      refine hK _ _ (st.take 1) ?_; clear hK; simp only [kP, kA, kS, kZ]
      have hI := st.take 1
      refine lexO 4 rfl fun K hK => ?_
      refine wp_app1 _ _ 44 rfl 47 i0 _ 4 32 Tryz.underlying44 hi hz0 hz1 hz2 rfl (by decide) rfl rfl (hO4.below hg2b) rfl (SlR.ofBlk (ok := fun _ => True) (R := RCert) (x := c) (st.blk _ (mgE (i := 1) rfl)) rfl rfl rfl trivial) (by omega) (by unfold maxLen; omega) (by first | exact Nat.le_refl _ | (have := hb4.size; have := hg2b.size; omega)) ?_
      intro g5 c5 w5 hO5 hg5 _ _
      have hbb := hb4.keep hg2b
      have hB5 := Own.grown (hO4.below hg2b) hbb hg5 (Nat.le_refl _) hbb.size
      have st5 := st1.call hB5
      refine hK _ _ (st5) ?_; clear hK; simp only [kP, kA, kS, kZ]
      have hI := st5
      refine lexS 5 rfl hI ?_
      refine lexS 6 rfl hI ?_
      refine lex_done (by decide +kernel) ?_
      go_wp2
      go_ret2
      exact ⟨_, _, rfl, st5.below, (hO5.le hz4).slr fun _ h => h⟩
     ·refine wp_build1 st 44 47 _ rfl Tryz.underlying44 4 Tryz.sizeOf47 (by decide) (by decide) _ Tryz.zeroValue47 _ rfl rfl ?_; clear st; intro g2 w2 hg2 hg2e st hg2b hw2z; clear hg2e; simp [Act.eval, Act.put, Value.cells, putL] at st
      refine hK _ _ (st.take 1) ?_; clear hK; simp only [kP, kA, kS, kZ]
      have hI := st.take 1
      refine lexO 1 rfl fun K hK => ?_
      refine wp_callee (f := 32) (by first | (go_simp; done) | (go_simp; rfl)) ?_
      refine (HC.out _ st.below).mono ?_
      rintro e v4 ⟨a4, k4, rfl, hb4, hO4⟩
      refine ⟨_, rfl, ?_⟩
      have hz4 := st.size
      replace st := st.call hb4
      refine hK _ _ (st.take 1) ?_; clear hK; simp only [kP, kA, kS, kZ]
      have hI := st.take 1
      refine lexO 4 rfl fun K hK => ?_
      refine wp_app1 _ _ 44 rfl 47 i0 _ 4 32 Tryz.underlying44 hi hz0 hz1 hz2 rfl (by decide) rfl rfl (hO4) rfl (SlR.ofBlk (ok := fun _ => True) (R := RCert) (x := c) (st.blk _ (mgE (i := 1) rfl)) rfl rfl rfl trivial) (by omega) (by unfold maxLen; omega) (by first | exact Nat.le_refl _ | (have := hb4.size; have := hg2b.size; omega)) ?_
      intro g5 c5 w5 hO5 hg5 _ _
      have hbb := hg2b.keep hb4
      have hB5 := Own.grown hO4 hbb hg5 hg2b.size hbb.size
      have st5 := st1.call hB5
      refine hK _ _ (st5) ?_; clear hK; simp only [kP, kA, kS, kZ]
      have hI := st5
      refine lexS 5 rfl hI ?_
      refine lexS 6 rfl hI ?_
      refine lex_done (by decide +kernel) ?_
      go_wp2
      go_ret2
      exact ⟨_, _, rfl, st5.below, (hO5.le hz4).slr fun _ h => h⟩
   ·have H3 := qh h3
    have HR := qh (show r = (l, 0) by rw [← hr]; unfold addC; rw [h1, h2, h3]; rfl)
    clear h1 h2 h3 hr hlen
    go_enter Tryz.func49, Tryz.ntmps49
    go_wp2_with (first
     | go_skip | (with_reducible refine mB 47 st ?_; clear st; intro g1 w1 hg1 st) | (with_reducible refine mXA st Tryz.isAgg47 Tryz.sizeOf47 ?_) | (go_at_call 65; go_must (refine (HG.out _ st.below).mono ?_; rintro e v2 ⟨rfl, hb2⟩; rw [H1.out]; replace st := st.call hb2; clear hb2))
     | (go_at_call 66; go_must (refine (wire_GoodCert c _).mono ?_; rintro e v2 ⟨rfl, hb2⟩; rw [H2.out]; replace st := st.call hb2; clear hb2))
     | (go_at_call 67; go_must (refine (HI.out _ st.below).mono ?_; rintro e v2 ⟨rfl, hb2⟩; rw [H3.out]; replace st := st.call hb2; clear hb2))
     | (go_at_call 32; go_must (refine (HC.out _ st.below).mono ?_; rintro e v4 ⟨a4, k4, rfl, hb4, hO4⟩; have hz4 := st.size; replace st := st.call hb4)))
    go_ret2
    rw [HR.out]
    exact ⟨a4, k4, rfl, st.below, (hO4.le hz4).slr fun _ h => h⟩
end Go.Proofs.YtnjjdpiofbajlaaGreat
