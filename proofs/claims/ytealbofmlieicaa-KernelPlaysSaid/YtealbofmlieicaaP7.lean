/- Walks and plain laws, part 7. -/
import Derived.Test.YtealbofmlieicaaP3
import Derived.Test.YtealbofmlieicaaProg
set_option linter.unusedSimpArgs false
set_option linter.unusedVariables false
set_option maxHeartbeats 16000000
set_option maxRecDepth 100000
namespace Go.Proofs.Ytealbofmlieicaa
open Go.RowKit
theorem reads_Int : Reads Try.prog 3 1 (fun _ => RInt) fitI (fun _ => 1) := reads_int Try.underlying3
def Eight.list (e : Eight) : List Value := [.bool e.s0, .bool e.s1, .bool e.s2, .bool e.s3, .bool e.s4, .bool e.s5, .bool e.s6, .bool e.s7]
def RLine (ok : Nat → Prop) (w : World) (cs : List Value) (L : Line) : Prop :=
 ∃ sa sc, cs = [.int .i64 L.next, .slice sa L.sent.length sc, .int .i64 L.high, .bool L.seen.s0, .bool L.seen.s1, .bool L.seen.s2, .bool L.seen.s3, .bool L.seen.s4, .bool L.seen.s5, .bool L.seen.s6, .bool L.seen.s7] ∧ SentR ok w sa sc L.sent
def Lev.fit (x : Lev) : Prop := fitI x.c ∧ fitI x.l
def Lev.mass (x : Lev) : Nat := 1 + 1
theorem reads_Lev : Reads Try.prog 88 2 (fun _ cs (x : Lev) => RLev cs x) Lev.fit Lev.mass := by
 refine reads_fields Try.underlying88 (by kernel_rfl) ?_
 intro H enc w n cs xs hl hn hf hw
 have k0 : Try.prog.cellsOf 3 = 1 := by kernel_rfl
 obtain ⟨c0, c1, rfl⟩ := len2 hl
 obtain ⟨x0, x1, rfl⟩ := len2 hn
 have h0 : DataW.trod enc Try.prog w 0 (fun _ => true) true n 3 (([c0, c1].drop 0).take (Try.prog.cellsOf 3)) = some x0 := hf 0 _ rfl
 have w0 : ∀ n ∈ x0.1.weights Try.prog 3, n ≤ reachBytes := hw 0 _ _ rfl rfl
 rw [k0] at h0
 obtain ⟨y0, r0, _, o0, f0, m0⟩ := (reads_int Try.underlying3) H enc w n _ _ h0 w0
 simp only [List.drop_succ_cons, List.drop_zero, List.take_succ_cons, List.take_zero, List.cons.injEq, and_true] at r0 o0
 have h1 : DataW.trod enc Try.prog w 0 (fun _ => true) true n 3 (([c0, c1].drop 1).take (Try.prog.cellsOf 3)) = some x1 := hf 1 _ rfl
 have w1 : ∀ n ∈ x1.1.weights Try.prog 3, n ≤ reachBytes := hw 1 _ _ rfl rfl
 rw [k0] at h1
 obtain ⟨y1, r1, _, o1, f1, m1⟩ := (reads_int Try.underlying3) H enc w n _ _ h1 w1
 simp only [List.drop_succ_cons, List.drop_zero, List.take_succ_cons, List.take_zero, List.cons.injEq, and_true] at r1 o1
 subst r0
 subst r1
 try dsimp only at m0
 try dsimp only at m1
 exact ⟨⟨y0, y1⟩, rfl, by simp [Value.oneCell'], ⟨f0, f1⟩, by simp only [Lev.mass, bkAll, List.map_cons, List.map_nil]; omega⟩
def Cert.fit (x : Cert) : Prop := fitI x.c ∧ fitI x.by_ ∧ fitI x.host ∧ fitI x.till
def Cert.mass (x : Cert) : Nat := 1 + 1 + 1 + 1
theorem reads_LLev : Reads Try.prog 30 1 (fun w cs (l : List Lev) => ∃ a c, cs = [.slice a l.length c] ∧ SlR (fun _ => True) w 2 ((fun w cs x => RLev cs x) w) a c l) (fun l => l.length * 16 ≤ 140737488351232 ∧ ∀ y ∈ l, y.fit) (fun l => (l.map (Lev.mass)).sum + 1) :=
 reads_slice (fit := Lev.fit) (mass := Lev.mass) reads_Lev Try.underlying30 (by kernel_rfl) (by decide) (by kernel_rfl)
theorem reads_LInt : Reads Try.prog 31 1 (fun w cs (l : List Int) => ∃ a c, cs = [.slice a l.length c] ∧ SlR (fun _ => True) w 1 ((fun _ => RInt) w) a c l) (fun l => l.length * 8 ≤ 140737488351232 ∧ ∀ y ∈ l, fitI y) (fun l => (l.map (fun _ => 1)).sum + 1) :=
 reads_slice (fit := fitI) (mass := fun _ => 1) reads_Int Try.underlying31 (by kernel_rfl) (by decide) (by kernel_rfl)
def Mail.fit (x : Mail) : Prop := fitI x.host ∧ fitI x.thread ∧ (x.label.length * 16 ≤ 140737488351232 ∧ ∀ y ∈ x.label, y.fit) ∧ (x.grants.length * 8 ≤ 140737488351232 ∧ ∀ y ∈ x.grants, fitI y) ∧ x.text.size ≤ 140737488351232
def Mail.mass (x : Mail) : Nat := 1 + 1 + ((x.label.map Lev.mass).sum + 1) + ((x.grants.map fun _ => 1).sum + 1) + (x.text.size + 1)
theorem reads_Mail : Reads Try.prog 42 5 (fun w cs (x : Mail) => RMail (fun _ => True) w cs x) Mail.fit Mail.mass := by
 refine reads_fields Try.underlying42 (by kernel_rfl) ?_
 intro H enc w n cs xs hl hn hf hw
 have k0 : Try.prog.cellsOf 3 = 1 := by kernel_rfl
 have k1 : Try.prog.cellsOf 30 = 1 := by kernel_rfl
 have k2 : Try.prog.cellsOf 31 = 1 := by kernel_rfl
 have k3 : Try.prog.cellsOf 9 = 1 := by kernel_rfl
 obtain ⟨c0, c1, c2, c3, c4, rfl⟩ := len5 hl
 obtain ⟨x0, x1, x2, x3, x4, rfl⟩ := len5 hn
 have h0 : DataW.trod enc Try.prog w 0 (fun _ => true) true n 3 (([c0, c1, c2, c3, c4].drop 0).take (Try.prog.cellsOf 3)) = some x0 := hf 0 _ rfl
 have w0 : ∀ n ∈ x0.1.weights Try.prog 3, n ≤ reachBytes := hw 0 _ _ rfl rfl
 rw [k0] at h0
 obtain ⟨y0, r0, _, o0, f0, m0⟩ := (reads_int Try.underlying3) H enc w n _ _ h0 w0
 simp only [List.drop_succ_cons, List.drop_zero, List.take_succ_cons, List.take_zero, List.cons.injEq, and_true] at r0 o0
 have h1 : DataW.trod enc Try.prog w 0 (fun _ => true) true n 3 (([c0, c1, c2, c3, c4].drop 1).take (Try.prog.cellsOf 3)) = some x1 := hf 1 _ rfl
 have w1 : ∀ n ∈ x1.1.weights Try.prog 3, n ≤ reachBytes := hw 1 _ _ rfl rfl
 rw [k0] at h1
 obtain ⟨y1, r1, _, o1, f1, m1⟩ := (reads_int Try.underlying3) H enc w n _ _ h1 w1
 simp only [List.drop_succ_cons, List.drop_zero, List.take_succ_cons, List.take_zero, List.cons.injEq, and_true] at r1 o1
 have h2 : DataW.trod enc Try.prog w 0 (fun _ => true) true n 30 (([c0, c1, c2, c3, c4].drop 2).take (Try.prog.cellsOf 30)) = some x2 := hf 2 _ rfl
 have w2 : ∀ n ∈ x2.1.weights Try.prog 30, n ≤ reachBytes := hw 2 _ _ rfl rfl
 rw [k1] at h2
 obtain ⟨y2, r2, _, o2, f2, m2⟩ := reads_LLev H enc w n _ _ h2 w2
 simp only [List.drop_succ_cons, List.drop_zero, List.take_succ_cons, List.take_zero, List.cons.injEq, and_true] at r2 o2
 have h3 : DataW.trod enc Try.prog w 0 (fun _ => true) true n 31 (([c0, c1, c2, c3, c4].drop 3).take (Try.prog.cellsOf 31)) = some x3 := hf 3 _ rfl
 have w3 : ∀ n ∈ x3.1.weights Try.prog 31, n ≤ reachBytes := hw 3 _ _ rfl rfl
 rw [k2] at h3
 obtain ⟨y3, r3, _, o3, f3, m3⟩ := reads_LInt H enc w n _ _ h3 w3
 simp only [List.drop_succ_cons, List.drop_zero, List.take_succ_cons, List.take_zero, List.cons.injEq, and_true] at r3 o3
 have h4 : DataW.trod enc Try.prog w 0 (fun _ => true) true n 9 (([c0, c1, c2, c3, c4].drop 4).take (Try.prog.cellsOf 9)) = some x4 := hf 4 _ rfl
 have w4 : ∀ n ∈ x4.1.weights Try.prog 9, n ≤ reachBytes := hw 4 _ _ rfl rfl
 rw [k3] at h4
 obtain ⟨y4, r4, _, o4, f4, m4⟩ := (reads_string Try.underlying9) H enc w n _ _ h4 w4
 simp only [List.drop_succ_cons, List.drop_zero, List.take_succ_cons, List.take_zero, List.cons.injEq, and_true] at r4 o4
 subst r0
 subst r1
 obtain ⟨a2, b2, q2, s2⟩ := r2
 try simp only [List.cons.injEq, and_true] at q2
 subst q2
 obtain ⟨a3, b3, q3, s3⟩ := r3
 try simp only [List.cons.injEq, and_true] at q3
 subst q3
 subst r4
 try dsimp only at m0
 try dsimp only at m1
 try dsimp only at m2
 try dsimp only at m3
 try dsimp only at m4
 exact ⟨⟨y0, y1, y2, y3, y4⟩, ⟨a2, b2, a3, b3, rfl, s2, s3⟩, by simp [Value.oneCell'], ⟨f0, f1, f2, f3, f4⟩, by simp only [Mail.mass, bkAll, List.map_cons, List.map_nil]; omega⟩
def Frame.fit (x : Frame) : Prop := fitI x.src ∧ fitI x.dst ∧ fitI x.seq ∧ True ∧ fitI x.thread ∧ x.mail.fit ∧ (x.certs.length * 32 ≤ 140737488351232 ∧ ∀ y ∈ x.certs, y.fit)
def Frame.mass (x : Frame) : Nat := 1 + 1 + 1 + 1 + 1 + x.mail.mass + ((x.certs.map Cert.mass).sum + 1)
def Sent.fit (x : Sent) : Prop := x.frame.fit ∧ fitI x.tries ∧ fitI x.due
def Sent.mass (x : Sent) : Nat := x.frame.mass + 1 + 1
def Line.fit (x : Line) : Prop := fitI x.next ∧ (x.sent.length * 160 ≤ 140737488351232 ∧ ∀ y ∈ x.sent, y.fit) ∧ fitI x.high ∧ True
def Line.mass (x : Line) : Nat := 1 + ((x.sent.map Sent.mass).sum + 1) + 1 + 1
def Req.fit (x : Req) : Prop := fitI x.kind ∧ fitI x.h ∧ fitI x.t ∧ fitI x.n ∧ fitI x.c ∧ (x.label.length * 16 ≤ 140737488351232 ∧ ∀ y ∈ x.label, y.fit) ∧ (x.grants.length * 8 ≤ 140737488351232 ∧ ∀ y ∈ x.grants, fitI y) ∧ x.text.size ≤ 140737488351232
def Req.mass (x : Req) : Nat := 1 + 1 + 1 + 1 + 1 + ((x.label.map Lev.mass).sum + 1) + ((x.grants.map fun _ => 1).sum + 1) + (x.text.size + 1)
theorem reads_Req : Reads Try.prog 40 8 (fun w cs (x : Req) => RReq (fun _ => True) w cs x) Req.fit Req.mass := by
 refine reads_fields Try.underlying40 (by kernel_rfl) ?_
 intro H enc w n cs xs hl hn hf hw
 have k0 : Try.prog.cellsOf 3 = 1 := by kernel_rfl
 have k1 : Try.prog.cellsOf 30 = 1 := by kernel_rfl
 have k2 : Try.prog.cellsOf 31 = 1 := by kernel_rfl
 have k3 : Try.prog.cellsOf 9 = 1 := by kernel_rfl
 obtain ⟨c0, c1, c2, c3, c4, c5, c6, c7, rfl⟩ := len8 hl
 obtain ⟨x0, x1, x2, x3, x4, x5, x6, x7, rfl⟩ := len8 hn
 have h0 : DataW.trod enc Try.prog w 0 (fun _ => true) true n 3 (([c0, c1, c2, c3, c4, c5, c6, c7].drop 0).take (Try.prog.cellsOf 3)) = some x0 := hf 0 _ rfl
 have w0 : ∀ n ∈ x0.1.weights Try.prog 3, n ≤ reachBytes := hw 0 _ _ rfl rfl
 rw [k0] at h0
 obtain ⟨y0, r0, _, o0, f0, m0⟩ := (reads_int Try.underlying3) H enc w n _ _ h0 w0
 simp only [List.drop_succ_cons, List.drop_zero, List.take_succ_cons, List.take_zero, List.cons.injEq, and_true] at r0 o0
 have h1 : DataW.trod enc Try.prog w 0 (fun _ => true) true n 3 (([c0, c1, c2, c3, c4, c5, c6, c7].drop 1).take (Try.prog.cellsOf 3)) = some x1 := hf 1 _ rfl
 have w1 : ∀ n ∈ x1.1.weights Try.prog 3, n ≤ reachBytes := hw 1 _ _ rfl rfl
 rw [k0] at h1
 obtain ⟨y1, r1, _, o1, f1, m1⟩ := (reads_int Try.underlying3) H enc w n _ _ h1 w1
 simp only [List.drop_succ_cons, List.drop_zero, List.take_succ_cons, List.take_zero, List.cons.injEq, and_true] at r1 o1
 have h2 : DataW.trod enc Try.prog w 0 (fun _ => true) true n 3 (([c0, c1, c2, c3, c4, c5, c6, c7].drop 2).take (Try.prog.cellsOf 3)) = some x2 := hf 2 _ rfl
 have w2 : ∀ n ∈ x2.1.weights Try.prog 3, n ≤ reachBytes := hw 2 _ _ rfl rfl
 rw [k0] at h2
 obtain ⟨y2, r2, _, o2, f2, m2⟩ := (reads_int Try.underlying3) H enc w n _ _ h2 w2
 simp only [List.drop_succ_cons, List.drop_zero, List.take_succ_cons, List.take_zero, List.cons.injEq, and_true] at r2 o2
 have h3 : DataW.trod enc Try.prog w 0 (fun _ => true) true n 3 (([c0, c1, c2, c3, c4, c5, c6, c7].drop 3).take (Try.prog.cellsOf 3)) = some x3 := hf 3 _ rfl
 have w3 : ∀ n ∈ x3.1.weights Try.prog 3, n ≤ reachBytes := hw 3 _ _ rfl rfl
 rw [k0] at h3
 obtain ⟨y3, r3, _, o3, f3, m3⟩ := (reads_int Try.underlying3) H enc w n _ _ h3 w3
 simp only [List.drop_succ_cons, List.drop_zero, List.take_succ_cons, List.take_zero, List.cons.injEq, and_true] at r3 o3
 have h4 : DataW.trod enc Try.prog w 0 (fun _ => true) true n 3 (([c0, c1, c2, c3, c4, c5, c6, c7].drop 4).take (Try.prog.cellsOf 3)) = some x4 := hf 4 _ rfl
 have w4 : ∀ n ∈ x4.1.weights Try.prog 3, n ≤ reachBytes := hw 4 _ _ rfl rfl
 rw [k0] at h4
 obtain ⟨y4, r4, _, o4, f4, m4⟩ := (reads_int Try.underlying3) H enc w n _ _ h4 w4
 simp only [List.drop_succ_cons, List.drop_zero, List.take_succ_cons, List.take_zero, List.cons.injEq, and_true] at r4 o4
 have h5 : DataW.trod enc Try.prog w 0 (fun _ => true) true n 30 (([c0, c1, c2, c3, c4, c5, c6, c7].drop 5).take (Try.prog.cellsOf 30)) = some x5 := hf 5 _ rfl
 have w5 : ∀ n ∈ x5.1.weights Try.prog 30, n ≤ reachBytes := hw 5 _ _ rfl rfl
 rw [k1] at h5
 obtain ⟨y5, r5, _, o5, f5, m5⟩ := reads_LLev H enc w n _ _ h5 w5
 simp only [List.drop_succ_cons, List.drop_zero, List.take_succ_cons, List.take_zero, List.cons.injEq, and_true] at r5 o5
 have h6 : DataW.trod enc Try.prog w 0 (fun _ => true) true n 31 (([c0, c1, c2, c3, c4, c5, c6, c7].drop 6).take (Try.prog.cellsOf 31)) = some x6 := hf 6 _ rfl
 have w6 : ∀ n ∈ x6.1.weights Try.prog 31, n ≤ reachBytes := hw 6 _ _ rfl rfl
 rw [k2] at h6
 obtain ⟨y6, r6, _, o6, f6, m6⟩ := reads_LInt H enc w n _ _ h6 w6
 simp only [List.drop_succ_cons, List.drop_zero, List.take_succ_cons, List.take_zero, List.cons.injEq, and_true] at r6 o6
 have h7 : DataW.trod enc Try.prog w 0 (fun _ => true) true n 9 (([c0, c1, c2, c3, c4, c5, c6, c7].drop 7).take (Try.prog.cellsOf 9)) = some x7 := hf 7 _ rfl
 have w7 : ∀ n ∈ x7.1.weights Try.prog 9, n ≤ reachBytes := hw 7 _ _ rfl rfl
 rw [k3] at h7
 obtain ⟨y7, r7, _, o7, f7, m7⟩ := (reads_string Try.underlying9) H enc w n _ _ h7 w7
 simp only [List.drop_succ_cons, List.drop_zero, List.take_succ_cons, List.take_zero, List.cons.injEq, and_true] at r7 o7
 subst r0
 subst r1
 subst r2
 subst r3
 subst r4
 obtain ⟨a5, b5, q5, s5⟩ := r5
 try simp only [List.cons.injEq, and_true] at q5
 subst q5
 obtain ⟨a6, b6, q6, s6⟩ := r6
 try simp only [List.cons.injEq, and_true] at q6
 subst q6
 subst r7
 try dsimp only at m0
 try dsimp only at m1
 try dsimp only at m2
 try dsimp only at m3
 try dsimp only at m4
 try dsimp only at m5
 try dsimp only at m6
 try dsimp only at m7
 exact ⟨⟨y0, y1, y2, y3, y4, y5, y6, y7⟩, ⟨a5, b5, a6, b6, rfl, s5, s6⟩, by simp [Value.oneCell'], ⟨f0, f1, f2, f3, f4, f5, f6, f7⟩, by simp only [Req.mass, bkAll, List.map_cons, List.map_nil]; omega⟩
def Deed.fit (x : Deed) : Prop := fitI x.kind ∧ fitI x.h ∧ fitI x.t ∧ fitI x.n ∧ x.call.fit
def Deed.mass (x : Deed) : Nat := 1 + 1 + 1 + 1 + x.call.mass
structure Order where
 kind : Int
 t : Int
 call : Req
 mail : Mail
def ROrder (ok : Nat → Prop) (w : World) (cs : List Value) (x : Order) : Prop :=
 ∃ la lc ga gc ma mc na nc, cs = [.int .i64 x.kind, .int .i64 x.t, .int .i64 x.call.kind, .int .i64 x.call.h, .int .i64 x.call.t, .int .i64 x.call.n, .int .i64 x.call.c, .slice la x.call.label.length lc, .slice ga x.call.grants.length gc, .string x.call.text,
  .int .i64 x.mail.host, .int .i64 x.mail.thread, .slice ma x.mail.label.length mc, .slice na x.mail.grants.length nc, .string x.mail.text] ∧
  SlR ok w 2 RLev la lc x.call.label ∧ SlR ok w 1 RInt ga gc x.call.grants ∧ SlR ok w 2 RLev ma mc x.mail.label ∧ SlR ok w 1 RInt na nc x.mail.grants
def Order.fit (x : Order) : Prop := fitI x.kind ∧ fitI x.t ∧ x.call.fit ∧ x.mail.fit
def Order.mass (x : Order) : Nat := 1 + 1 + x.call.mass + x.mail.mass
theorem reads_Order : Reads Try.prog 44 15 (fun w cs (x : Order) => ROrder (fun _ => True) w cs x) Order.fit Order.mass := by
 refine reads_fields Try.underlying44 (by kernel_rfl) ?_
 intro H enc w n cs xs hl hn hf hw
 have k0 : Try.prog.cellsOf 3 = 1 := by kernel_rfl
 have k2 : Try.prog.cellsOf 40 = 8 := by kernel_rfl
 have k3 : Try.prog.cellsOf 42 = 5 := by kernel_rfl
 obtain ⟨c0, c1, c2, c3, c4, c5, c6, c7, c8, c9, c10, c11, c12, c13, c14, rfl⟩ := len15 hl
 obtain ⟨x0, x1, x2, x3, rfl⟩ := len4 hn
 have h0 : DataW.trod enc Try.prog w 0 (fun _ => true) true n 3 (([c0, c1, c2, c3, c4, c5, c6, c7, c8, c9, c10, c11, c12, c13, c14].drop 0).take (Try.prog.cellsOf 3)) = some x0 := hf 0 _ rfl
 have w0 : ∀ n ∈ x0.1.weights Try.prog 3, n ≤ reachBytes := hw 0 _ _ rfl rfl
 rw [k0] at h0
 obtain ⟨y0, r0, _, o0, f0, m0⟩ := (reads_int Try.underlying3) H enc w n _ _ h0 w0
 simp only [List.drop_succ_cons, List.drop_zero, List.take_succ_cons, List.take_zero, List.cons.injEq, and_true] at r0 o0
 have h1 : DataW.trod enc Try.prog w 0 (fun _ => true) true n 3 (([c0, c1, c2, c3, c4, c5, c6, c7, c8, c9, c10, c11, c12, c13, c14].drop 1).take (Try.prog.cellsOf 3)) = some x1 := hf 1 _ rfl
 have w1 : ∀ n ∈ x1.1.weights Try.prog 3, n ≤ reachBytes := hw 1 _ _ rfl rfl
 rw [k0] at h1
 obtain ⟨y1, r1, _, o1, f1, m1⟩ := (reads_int Try.underlying3) H enc w n _ _ h1 w1
 simp only [List.drop_succ_cons, List.drop_zero, List.take_succ_cons, List.take_zero, List.cons.injEq, and_true] at r1 o1
 have h2 : DataW.trod enc Try.prog w 0 (fun _ => true) true n 40 (([c0, c1, c2, c3, c4, c5, c6, c7, c8, c9, c10, c11, c12, c13, c14].drop 2).take (Try.prog.cellsOf 40)) = some x2 := hf 2 _ rfl
 have w2 : ∀ n ∈ x2.1.weights Try.prog 40, n ≤ reachBytes := hw 2 _ _ rfl rfl
 rw [k2] at h2
 obtain ⟨y2, r2, _, o2, f2, m2⟩ := reads_Req H enc w n _ _ h2 w2
 simp only [List.drop_succ_cons, List.drop_zero, List.take_succ_cons, List.take_zero, List.cons.injEq, and_true] at r2 o2
 have h3 : DataW.trod enc Try.prog w 0 (fun _ => true) true n 42 (([c0, c1, c2, c3, c4, c5, c6, c7, c8, c9, c10, c11, c12, c13, c14].drop 10).take (Try.prog.cellsOf 42)) = some x3 := hf 3 _ rfl
 have w3 : ∀ n ∈ x3.1.weights Try.prog 42, n ≤ reachBytes := hw 3 _ _ rfl rfl
 rw [k3] at h3
 obtain ⟨y3, r3, _, o3, f3, m3⟩ := reads_Mail H enc w n _ _ h3 w3
 simp only [List.drop_succ_cons, List.drop_zero, List.take_succ_cons, List.take_zero, List.cons.injEq, and_true] at r3 o3
 subst r0
 subst r1
 obtain ⟨a2_0, b2_0, a2_1, b2_1, q2, s2_0, s2_1⟩ := r2
 simp only [List.cons.injEq, and_true] at q2
 obtain ⟨rfl, rfl, rfl, rfl, rfl, rfl, rfl, rfl⟩ := q2
 obtain ⟨a3_0, b3_0, a3_1, b3_1, q3, s3_0, s3_1⟩ := r3
 simp only [List.cons.injEq, and_true] at q3
 obtain ⟨rfl, rfl, rfl, rfl, rfl⟩ := q3
 try dsimp only at m0
 try dsimp only at m1
 try dsimp only at m2
 try dsimp only at m3
 exact ⟨⟨y0, y1, y2, y3⟩, ⟨a2_0, b2_0, a2_1, b2_1, a3_0, b3_0, a3_1, b3_1, rfl, s2_0, s2_1, s3_0, s3_1⟩, by simp [Value.oneCell'], ⟨f0, f1, f2, f3⟩, by simp only [Order.mass, bkAll, List.map_cons, List.map_nil]; omega⟩
theorem SlR.order_at {ok : Nat → Prop} {w : World} {a : Option Addr} {c : Nat} {xs : List Order} (h : SlR ok w 15 (ROrder ok w) a c xs) (i : Nat) (hi : i < xs.length) :
  ∃ b o la lc ga gc ma mc na nc, a = some ⟨b, o, none⟩ ∧ b < w.heap.size ∧ (SlR ok w 2 RLev la lc xs[i].call.label ∧ SlR ok w 1 RInt ga gc xs[i].call.grants ∧ SlR ok w 2 RLev ma mc xs[i].mail.label ∧ SlR ok w 1 RInt na nc xs[i].mail.grants) ∧
   w.cell? ⟨b, o + i * 15, none⟩ = some (.int .i64 xs[i].kind) ∧ w.cell? ⟨b, o + i * 15 + 1, none⟩ = some (.int .i64 xs[i].t) ∧ w.cell? ⟨b, o + i * 15 + 2, none⟩ = some (.int .i64 xs[i].call.kind) ∧ w.cell? ⟨b, o + i * 15 + 3, none⟩ = some (.int .i64 xs[i].call.h) ∧
   w.cell? ⟨b, o + i * 15 + 4, none⟩ = some (.int .i64 xs[i].call.t) ∧ w.cell? ⟨b, o + i * 15 + 5, none⟩ = some (.int .i64 xs[i].call.n) ∧ w.cell? ⟨b, o + i * 15 + 6, none⟩ = some (.int .i64 xs[i].call.c) ∧ w.cell? ⟨b, o + i * 15 + 7, none⟩ = some (.slice la xs[i].call.label.length lc) ∧
   w.cell? ⟨b, o + i * 15 + 8, none⟩ = some (.slice ga xs[i].call.grants.length gc) ∧ w.cell? ⟨b, o + i * 15 + 9, none⟩ = some (.string xs[i].call.text) ∧ w.cell? ⟨b, o + i * 15 + 10, none⟩ = some (.int .i64 xs[i].mail.host) ∧ w.cell? ⟨b, o + i * 15 + 11, none⟩ = some (.int .i64 xs[i].mail.thread) ∧
   w.cell? ⟨b, o + i * 15 + 12, none⟩ = some (.slice ma xs[i].mail.label.length mc) ∧ w.cell? ⟨b, o + i * 15 + 13, none⟩ = some (.slice na xs[i].mail.grants.length nc) ∧ w.cell? ⟨b, o + i * 15 + 14, none⟩ = some (.string xs[i].mail.text) := by
 obtain ⟨b, o, cs, ha, _, hb, ⟨la, lc, ga, gc, ma, mc, na, nc, rfl, r1, r2, r3, r4⟩, _, _, hc⟩ := h.2.2.2 i xs[i] (by simp [hi])
 exact ⟨b, o, la, lc, ga, gc, ma, mc, na, nc, ha, hb, ⟨r1, r2, r3, r4⟩, by simpa using hc 0 _ rfl, by simpa using hc 1 _ rfl, by simpa using hc 2 _ rfl, by simpa using hc 3 _ rfl, by simpa using hc 4 _ rfl, by simpa using hc 5 _ rfl, by simpa using hc 6 _ rfl, by simpa using hc 7 _ rfl, by simpa using hc 8 _ rfl, by simpa using hc 9 _ rfl, by simpa using hc 10 _ rfl, by simpa using hc 11 _ rfl, by simpa using hc 12 _ rfl, by simpa using hc 13 _ rfl, by simpa using hc 14 _ rfl⟩
end Go.Proofs.Ytealbofmlieicaa
