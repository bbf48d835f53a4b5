/- Joined texts: DoI2, Skip. -/
import Derived.Test.YtkmcengmglgdeaaGreatDoorSPush
import Derived.Test.YtkmcengmglgdeaaGreatDoorSDoI
import Derived.Test.YtkmcengmglgdeaaGreatDoorSReg

namespace Go.Proofs.YtkmcengmglgdeaaGreatDoor
set_option linter.unusedVariables false
set_option linter.unusedSimpArgs false
set_option maxRecDepth 100000
set_option maxHeartbeats 8000000
open Go.ChangeShapes Go.WideShapes Go.ChangeAt Go.RowKit
section
variable {w W W' : World} {L : List HRes}
theorem St.unbook {s st : Int} {gv dv ev : Value} {b : BookD} (h : St w W (rBook (.agg #[.int .i64 s, gv, dv, ev, .int .i64 st]) b :: L)) : St w W (rTask (.agg #[.int .i64 s, gv, dv]) b.order :: rInts ev b.done :: L) :=
 h.split fun F ⟨gv', dv', ev', Ft, Fd, e, h1, h2, h3, h4, h5, h6⟩ => by
  simp only [Value.agg.injEq, Array.mk.injEq, List.cons.injEq, and_true, Value.int.injEq, true_and] at e; obtain ⟨rfl, rfl, rfl, rfl, -⟩ := e; refine ⟨Ft, Fd, h5, ⟨h1, ?_⟩, h2⟩; rw [h5] at h6; exact (List.nodup_append.1 h6).1
theorem St.book' {o : TaskD} {s st : Int} {gv dv ev : Value} {done : List Int} (hs : o.start = s) (h : St w W (rTask (.agg #[.int .i64 s, gv, dv]) o :: rInts ev done :: L)) (hd : done.length ≤ 1048576) (hst : (Lit.int .i64 st).wf = true) :
  St w W (rBook (.agg #[.int .i64 s, gv, dv, ev, .int .i64 st]) ⟨o, done, st⟩ :: L) := by
 obtain ⟨os, og, od⟩ := o
 simp only at hs
 subst hs; exact h.book hd hst
end
theorem bookDo_impl (v : Value) (b : BookD) (k m : Int) (w : World) (h : RdB w w.heap.size v b) (hmw : (Lit.int .i64 m).wf = true) :
  Calls Tryz.prog 47 #[v, .agg #[.int .i64 k, .int .i64 m]] w (Gives w (fun v => .tuple #[v, .bool (bookDid b ⟨k, m⟩)]) fun v => [rBook v (bookDo b ⟨k, m⟩)]) := by
 obtain ⟨G, gn, gc, G', n', c', D', dn, dc, hv⟩ := h.form; subst hv; obtain ⟨hdn, hdl, hst, -⟩ := h.done; obtain ⟨os, hos⟩ : ∃ x, b.order.start = x := ⟨_, rfl⟩; obtain ⟨st, hstt⟩ : ∃ x, b.state = x := ⟨_, rfl⟩; have HBK := Lib.hid h; have HO := Lib.hid h.order; have HOS := Bx.mk hos; have HSTT := Bx.mk hstt; rw [hstt] at hst; have HST := Lib.hid hst; have HDL : Hid (b.done.length = dn) := Lib.hid hdn.len; rw [hos] at HO; rw [hos, hstt] at HBK; rw [hos, hstt]
 have S0 : St w (((w.alloc (Obj.cells #[.int .i64 os, .slice G gn gc, .slice G' n' c', .slice D' dn dc, .int .i64 st] 28)).alloc (Obj.cells #[.int .i64 k, .int .i64 m] 64)).alloc (Obj.cells #[.int .i64 0, .slice none 0 0, .slice none 0 0, .slice none 0 0, .int .i64 0] 28))
   [rBlk w.heap.size 28 #[.int .i64 os, .slice G gn gc, .slice G' n' c', .slice D' dn dc, .int .i64 st], rBlk (w.heap.size + 1) 64 #[.int .i64 k, .int .i64 m], rBlk (w.heap.size + 2) 28 #[.int .i64 0, .slice none 0 0, .slice none 0 0, .slice none 0 0, .int .i64 0]] := by
  have := (((St.refl w).alloc #[.int .i64 os, .slice G gn gc, .slice G' n' c', .slice D' dn dc, .int .i64 st] 28).alloc #[.int .i64 k, .int .i64 m] 64).alloc #[.int .i64 0, .slice none 0 0, .slice none 0 0, .slice none 0 0, .int .i64 0] 28
  simpa using this
 have HS0 := Lib.hid S0; obtain ⟨bo, hok⟩ : ∃ x, bookOk b = x := ⟨_, rfl⟩; have HOK := Bx.mk hok; clear S0 hdn h hos hstt hst hok
 cases bo with
 | false =>
  obtain ⟨e1, e2⟩ := bookDo_bad (a := ⟨k, m⟩) HOK.out; have HE1 := Bx.mk e1; have HE2 := Bx.mk e2; clear e1 e2; go_enter Tryz.func47, Tryz.ntmps47
  go_wp2_with fail
  refine (bookValid_impl _ b _ (HBK.out.up HS0.out.below)).mono ?_; rw [HOK.out]; rintro e w1 ⟨rfl, hb1⟩; have HS1 := Lib.hid (HS0.out.quiet hb1); have q1 := HS1.out.cells 2 rfl; have f1 := HS1.out.free 2 rfl; clear hb1; go_wp2; refine bodyPost_ret (v := .tuple #[.agg #[.int .i64 0, .slice none 0 0, .slice none 0 0, .slice none 0 0, .int .i64 0], .bool false]) (by simp [results, Tryz.results47, go_sem, q1]) rfl ⟨.agg #[.int .i64 0, .slice none 0 0, .slice none 0 0, .slice none 0 0, .int .i64 0], by rw [HE2.out], ?_⟩; rw [HE1.out]; exact St.book0 (HS1.out.set5 2 rfl _ _ _ _ _).below
 | true =>
  go_enter Tryz.func47, Tryz.ntmps47
  go_wp2_with fail
  refine (bookValid_impl _ b _ (HBK.out.up HS0.out.below)).mono ?_; rw [HOK.out]; rintro e w1 ⟨rfl, hb1⟩; have HS1 := Lib.hid (HS0.out.quiet hb1); have q1 := HS1.out.cells 0 rfl; clear hb1 HS0
  go_wp2_with fail
  refine (bookCopy_any _ b _ (HBK.out.up HS1.out.below)).mono ?_; rintro e w2 ⟨v2, rfl, s2⟩; obtain ⟨A1, n1, c1, A2, n2, c2, A3, n3, c3, hv⟩ := s2.formB 0 rfl; rw [HOS.out, HSTT.out] at hv; simp only [id_eq] at hv ⊢
  subst hv; obtain ⟨g2, hg2⟩ : ∃ g, w2.heap.size = g := ⟨_, rfl⟩
  have HS2 : Hid (St w (w2.alloc (.cells #[.int .i64 os, .slice A1 n1 c1, .slice A2 n2 c2, .slice A3 n3 c3, .int .i64 st] 28)) [rBlk w.heap.size 28 #[.int .i64 os, .slice G gn gc, .slice G' n' c', .slice D' dn dc, .int .i64 st], rBlk (w.heap.size + 1) 64 #[.int .i64 k, .int .i64 m], rBlk (w.heap.size + 2) 28 #[.int .i64 0, .slice none 0 0, .slice none 0 0, .slice none 0 0, .int .i64 0],
    rBook (.agg #[.int .i64 os, .slice A1 n1 c1, .slice A2 n2 c2, .slice A3 n3 c3, .int .i64 st]) b, rBlk g2 28 #[.int .i64 os, .slice A1 n1 c1, .slice A2 n2 c2, .slice A3 n3 c3, .int .i64 st]]) := Lib.hid (by rw [← hg2]; exact (HS1.out.call s2).alloc _ _)
  have q2 := HS2.out.cells 0 rfl; have q3 := HS2.out.cells 1 rfl; clear s2 HS1 q1
  go_wp2_with fail
  refine (doneAfter_any _ b k m _ (HBK.out.up HS2.out.below) HOK.out hmw).mono ?_; rintro e w3 ⟨v4, ds, rfl, hds, s3⟩; obtain ⟨A4, c4, hv4, -⟩ := s3.rdI 0 rfl; obtain ⟨dl, hdl4⟩ : ∃ x, ds.length = x := ⟨_, rfl⟩; have HDL4 := Bx.mk hdl4; rw [hdl4] at hv4; subst hv4; have HS3 := Lib.hid (HS2.out.call s3); have q0 := HS3.out.cells 0 rfl; have q4 := HS3.out.cells 4 rfl; have q5 := HS3.out.cells 2 rfl; have f4 := HS3.out.free 4 rfl; have f5 := HS3.out.free 2 rfl; clear s3 q2 q3 HS2 hdl4; obtain ⟨o, ho⟩ : ∃ x, doneAfter b ⟨k, m⟩ = x := ⟨_, rfl⟩; rw [ho] at hds ⊢
  cases o with
  | none =>
   obtain ⟨e1, e2⟩ := bookDo_none HOK.out ho; have HE1 := Bx.mk e1; have HE2 := Bx.mk e2; clear e1 e2 ho hds; simp only [Option.isSome_none] at *
   try rw [hg2]
   go_wp2; refine bodyPost_ret (v := .tuple #[.agg #[.int .i64 os, .slice A1 n1 c1, .slice A2 n2 c2, .slice A3 n3 c3, .int .i64 st], .bool false]) (by simp [results, Tryz.results47, go_sem, q5]) rfl ⟨.agg #[.int .i64 os, .slice A1 n1 c1, .slice A2 n2 c2, .slice A3 n3 c3, .int .i64 st], by rw [HE2.out], ?_⟩; rw [HE1.out]; exact (HS3.out.set5 2 rfl _ _ _ _ _).pick [3] (by decide) rfl rfl
  | some d =>
   obtain rfl := hds d rfl; obtain ⟨e1, e2⟩ := bookDo_some HOK.out ho; have HE1 := Bx.mk e1; have HE2 := Bx.mk e2; have hr := doneAfter_run HOK.out ho; have hdl40 := doneAfter_len HOK.out ho; obtain ⟨z, hz⟩ : ∃ z, planRun b.order os ds = z := ⟨_, rfl⟩; have HZ := Bx.mk hz; have HEZ : Bx (withDone b ds = ⟨b.order, ds, z⟩) := Bx.mk (by unfold withDone; rw [HOS.out, hz]); have hzw : (Lit.int .i64 z).wf = true := wf_nonneg (by rw [← hz, ← HOS.out]; exact hr) (by have := ((planRun_bd b.order b.order.start ds).1 hr).2.2.2; rw [HOS.out, hz] at this; omega); clear e1 e2 ho hds hr hz; simp only [Option.isSome_some] at *
   try rw [hg2]
   have HS4 : Hid (St w (w3.setCell ⟨g2, 3, none⟩ (.slice A4 dl c4)) [rBlk w.heap.size 28 #[.int .i64 os, .slice G gn gc, .slice G' n' c', .slice D' dn dc, .int .i64 st], rBlk (w.heap.size + 1) 64 #[.int .i64 k, .int .i64 m], rBlk (w.heap.size + 2) 28 #[.int .i64 0, .slice none 0 0, .slice none 0 0, .slice none 0 0, .int .i64 0],
    rBook (.agg #[.int .i64 os, .slice A1 n1 c1, .slice A2 n2 c2, .slice A3 n3 c3, .int .i64 st]) b, rBlk g2 28 #[.int .i64 os, .slice A1 n1 c1, .slice A2 n2 c2, .slice A4 dl c4, .int .i64 st], rInts (.slice A4 dl c4) ds]) := Lib.hid (HS3.out.set 4 rfl 3 (.slice A4 dl c4))
   have p0 := HS4.out.cells 0 rfl; have HRD4 := Lib.hid (HS4.out.rdI' 5 rfl)
   go_wp2_with fail
   refine (planRun_impl _ b.order os A4 dl c4 ds _ (HO.out.up HS4.out.below) HRD4.out).mono ?_; rw [HZ.out]; rintro e w5 ⟨rfl, hb5⟩; have HS5 := Lib.hid (HS4.out.quiet hb5); have r4 : w5.cell? ⟨g2, 4, none⟩ = some (.int .i64 st) := HS5.out.cells 4 rfl 4; have s4 := HS5.out.free 4 rfl; clear hb5 p0 q0 q4 q5 f4 f5 HS3 HS4
   go_upto_region 8 with (fail)
   have HS6 : Hid (St w (w5.setCell ⟨g2, 4, none⟩ (.int .i64 z)) [rBlk w.heap.size 28 #[.int .i64 os, .slice G gn gc, .slice G' n' c', .slice D' dn dc, .int .i64 st], rBlk (w.heap.size + 1) 64 #[.int .i64 k, .int .i64 m], rBlk (w.heap.size + 2) 28 #[.int .i64 0, .slice none 0 0, .slice none 0 0, .slice none 0 0, .int .i64 0],
    rBook (.agg #[.int .i64 os, .slice A1 n1 c1, .slice A2 n2 c2, .slice A3 n3 c3, .int .i64 st]) b, rBlk g2 28 #[.int .i64 os, .slice A1 n1 c1, .slice A2 n2 c2, .slice A4 dl c4, .int .i64 z], rInts (.slice A4 dl c4) ds]) := Lib.hid (HS5.out.set 4 rfl 4 (.int .i64 z))
   clear HS5 r4 s4; obtain ⟨w6, hw6⟩ : ∃ x, w5.setCell ⟨g2, 4, none⟩ (.int .i64 z) = x := ⟨_, rfl⟩; rw [hw6] at HS6 ⊢
   clear hw6; have r4 := HS6.out.cells 4 rfl; have r5 := HS6.out.cells 2 rfl; have s5 := HS6.out.free 2 rfl; go_wp2; have HS7 := Lib.hid (HS6.out.set5 2 rfl (.int .i64 os) (.slice A1 n1 c1) (.slice A2 n2 c2) (.slice A4 dl c4) (.int .i64 z)); have q6 := HS7.out.cells 2 rfl; refine bodyPost_ret (v := .tuple #[.agg #[.int .i64 os, .slice A1 n1 c1, .slice A2 n2 c2, .slice A4 dl c4, .int .i64 z], .bool true]) (by simp [results, Tryz.results47, go_sem, q6]) rfl ⟨.agg #[.int .i64 os, .slice A1 n1 c1, .slice A2 n2 c2, .slice A4 dl c4, .int .i64 z], by rw [HE2.out], ?_⟩; rw [HE1.out, HEZ.out]
   have := HS7.out.pick [3, 5] (by decide) rfl rfl
   exact ((this.unbook.pick (L' := [rTask (.agg #[.int .i64 os, .slice A1 n1 c1, .slice A2 n2 c2]) b.order, rInts (.slice A4 dl c4) ds]) [0, 2] (by decide) rfl rfl)).book' HOS.out (by omega) hzw
theorem StepAll.skip {P : Program} {Q : Exit → Act → World → Prop} {σ : Type} {val : σ → Nat → Value} {R : (Nat → Bool) → σ → World → Prop} {a : Act} {ops : Array Oper} {o : Oper} {l : List Oper} {i : Nat} (j t : Nat) (v : Bool) (k : StepAll P Q val R a ops l (i + 1))
  (hg : o.guard = some (j, !v) := by rfl) (hb : (o.after.any fun e => Region.binds .any e && e.on == j) = true := by first | rfl | decide | kernel_rfl) (hdst : dstOf ops j = some t := by rfl) (hs : decide (t < a.tmps.size) = true := by kernel_rfl) (hl : decide (j < ops.size) = true := by kernel_rfl)
  (hv : ∀ s, val s j = .bool v := by intro _; rfl) (hu : ∀ s, val s i = undef := by intro _; rfl) (hR : ∀ D s w, R D s w → R (upd D i) s w := by intro _ _ _ h; exact h) : StepAll P Q val R a ops (o :: l) i :=
 StepAll.consG (fun D s wx h hDi hd hsh a' hS K hK => by
  obtain ⟨e, he, hx⟩ := Array.any_eq_true'.1 hb; rw [Bool.and_eq_true] at hx
  have hj : D j = true := by
   have := hd e he hx.1
   rwa [eq_of_beq hx.2] at this
  have eg := hS.at_ j t (u := .bool v) hdst hj hs hl (hv s); rw [if_neg (by rw [hS.wants hg hdst eg hs]; cases v <;> simp)]
  have := hK s wx (fun _ _ => rfl) (hR D s wx h)
  rwa [hu s] at this) k
end Go.Proofs.YtkmcengmglgdeaaGreatDoor
