
import Derived.Test.YtkmcengmglgdeaaGreatDoorSPush
namespace Go.Proofs.YtkmcengmglgdeaaGreatDoor
set_option linter.unusedVariables false
set_option linter.unusedSimpArgs false
set_option maxRecDepth 100000
set_option maxHeartbeats 8000000
open Go.ChangeShapes Go.WideShapes Go.ChangeAt Go.RowKit
def OwnB (w : World) (v : Value) (b : BookD) (F : List Nat) : Prop :=
 ∃ gv dv ev Ft Fd, v = .agg #[.int .i64 b.order.start, gv, dv, ev, .int .i64 b.state] ∧ OwnT w 0 (.agg #[.int .i64 b.order.start, gv, dv]) b.order Ft ∧ OwnI w 0 ev b.done Fd ∧ b.done.length ≤ 1048576 ∧ (Lit.int .i64 b.state).wf = true ∧ F = Ft ++ Fd ∧ F.Nodup
def rBook (v : Value) (b : BookD) : HRes where
 at_ w F := OwnB w v b F
 keep w w' F h hk := by
  obtain ⟨gv, dv, ev, Ft, Fd, e, h1, h2, h3, h4, rfl, h5⟩ := h; exact ⟨gv, dv, ev, Ft, Fd, e, h1.keep fun b hb => hk b (List.mem_append_left _ hb), h2.keep fun b hb => hk b (List.mem_append_right _ hb), h3, h4, rfl, h5⟩
 lt w F h b hb := by
  obtain ⟨gv, dv, ev, Ft, Fd, e, h1, h2, h3, h4, rfl, h5⟩ := h
  rcases List.mem_append.1 hb with hb | hb
  ·exact (h1.lt b hb).2
  ·exact (h2.lt b hb).2
 nd w F h := by obtain ⟨gv, dv, ev, Ft, Fd, e, h1, h2, h3, h4, rfl, h5⟩ := h; exact h5
def szB (b : BookD) : Nat := szT b.order + b.done.length
section
variable {w W W' : World} {L : List HRes}
theorem St.book {s st : Int} {gv dv ev : Value} {goal done : List Int} {ds : List DeedD} (h : St w W (rTask (.agg #[.int .i64 s, gv, dv]) ⟨s, goal, ds⟩ :: rInts ev done :: L)) (hd : done.length ≤ 1048576) (hs : (Lit.int .i64 st).wf = true) :
  St w W (rBook (.agg #[.int .i64 s, gv, dv, ev, .int .i64 st]) ⟨⟨s, goal, ds⟩, done, st⟩ :: L) :=
 h.join fun F G h1 h2 hn hlo => ⟨gv, dv, ev, F, G, rfl, h1.1, h2, hd, hs, rfl, hn⟩
theorem OwnB.rd {v : Value} {b : BookD} {F : List Nat} (h : OwnB W v b F) : RdB W W.heap.size v b := by
 obtain ⟨gv, dv, ev, Ft, Fd, rfl, h1, h2, h3, h4, rfl, h5⟩ := h; obtain ⟨A, n, c, A', n', c', e, a1, a2, a3, a4⟩ := h1.rd; obtain ⟨A2, c2, rfl, b1⟩ := h2.rd; simp only [Value.agg.injEq, Array.mk.injEq, List.cons.injEq, and_true, true_and] at e; obtain ⟨rfl, rfl⟩ := e; exact ⟨A, n, c, A', n', c', A2, _, c2, rfl, a1, a2, a3, a4, b1, h3, h4⟩
theorem St.rdB (S : St w W L) (i : Nat) {v : Value} {b : BookD} (hi : L[i]? = some (rBook v b)) : RdB W W.heap.size v b := by
 obtain ⟨F, h, -⟩ := S.get i hi; exact h.rd
theorem Sn.rdB {M : Nat → Option HRes} (h : Sn w W M) (k : Nat) {v : Value} {b : BookD} (hk : M k = some (rBook v b)) : RdB W W.heap.size v b := by
 obtain ⟨F, h1, -⟩ := h.get k hk; exact h1.rd
theorem RdBM.form {M B : Nat} {v : Value} {b : BookD} (h : RdBM M w B v b) : ∃ A n c A' n' c' A2 n2 c2, v = .agg #[.int .i64 b.order.start, .slice A n c, .slice A' n' c', .slice A2 n2 c2, .int .i64 b.state] := by
 obtain ⟨A, n, c, A', n', c', A2, n2, c2, e, -⟩ := h; exact ⟨A, n, c, A', n', c', A2, n2, c2, e⟩
theorem St.formB (S : St w W L) (i : Nat) {v : Value} {b : BookD} (hi : L[i]? = some (rBook v b)) : ∃ A n c A' n' c' A2 n2 c2, v = .agg #[.int .i64 b.order.start, .slice A n c, .slice A' n' c', .slice A2 n2 c2, .int .i64 b.state] := (S.rdB i hi).form
theorem RdBM.order {M B : Nat} {s st : Int} {x y z : Value} {b : BookD} (h : RdBM M w B (.agg #[.int .i64 s, x, y, z, .int .i64 st]) b) : RdTM M w B (.agg #[.int .i64 s, x, y]) b.order := by
 obtain ⟨A, n, c, A', n', c', A2, n2, c2, e, h1, h2, h3, h4, h5, h6, h7⟩ := h; simp only [Value.agg.injEq, Array.mk.injEq, List.cons.injEq, Value.int.injEq, true_and, and_true] at e; obtain ⟨rfl, rfl, rfl, rfl, rfl⟩ := e; exact ⟨A, n, c, A', n', c', rfl, h1, h2, h3, h4⟩
theorem RdBM.done {M B : Nat} {s st : Int} {x y : Value} {A : Option Addr} {n c : Nat} {b : BookD} (h : RdBM M w B (.agg #[.int .i64 s, x, y, .slice A n c, .int .i64 st]) b) : RdI .i64 w B A n c b.done ∧ n ≤ M ∧ (Lit.int .i64 b.state).wf = true ∧ st = b.state ∧ s = b.order.start := by
 obtain ⟨A, n, c, A', n', c', A2, n2, c2, e, h1, h2, h3, h4, h5, h6, h7⟩ := h; simp only [Value.agg.injEq, Array.mk.injEq, List.cons.injEq, Value.int.injEq, true_and, and_true, Value.slice.injEq] at e; obtain ⟨rfl, -, -, ⟨rfl, rfl, rfl⟩, rfl⟩ := e; exact ⟨h5, h6, h7, rfl, rfl⟩
theorem RdBM.less {M M' B : Nat} {v : Value} {b : BookD} (h : RdBM M w B v b) (hs : szB b ≤ M') : RdBM M' w B v b := by
 unfold szB at hs
 obtain ⟨A, n, c, A', n', c', A2, n2, c2, e, h1, h2, h3, h4, h5, h6, h7⟩ := h; have ht : RdTM M w B (.agg #[.int .i64 b.order.start, .slice A n c, .slice A' n' c']) b.order := ⟨A, n, c, A', n', c', rfl, h1, h2, h3, h4⟩; obtain ⟨A, n, c, A', n', c', e', h1, h2, h3, h4⟩ := ht.less (M' := M') (by omega); simp only [Value.agg.injEq, Array.mk.injEq, List.cons.injEq, Value.int.injEq, true_and, and_true, Value.slice.injEq] at e'; obtain ⟨⟨rfl, rfl, rfl⟩, rfl, rfl, rfl⟩ := e'
 have := h5.len
 exact ⟨_, _, _, _, _, _, A2, n2, c2, e, h1, h2, h3, h4, h5, by omega, h7⟩
end
def mkB (b : BookD) : Nat := mkT b.order + b.done.length
def markB (k : Nat) (b : BookD) : BookD := ⟨markT k b.order, marks (k + mkT b.order) b.done.length, b.state⟩
theorem mkB_le (b : BookD) : mkB b ≤ 4 * szB b := by unfold mkB szB; have := mkT_le b.order; omega
theorem szBook_any {M : Nat} (hM : M ≤ 9223372036854775807) (v : Value) (b : BookD) (left : Int) (w : World) (h : RdBM M w w.heap.size v b) (h0 : 0 ≤ left) (h1 : left ≤ 1048576) :
  Calls Tryz.prog 17 #[v, .int .i64 left] w fun e w' => e = .returned (.int .i64 (less left (szB b))) ∧ Below w.heap.size w w' := by
 obtain ⟨A, n, c, A', n', c', A2, n2, c2, hv⟩ := h.form; subst hv; obtain ⟨hdn, hdl, -⟩ := h.done; have hl := hdn.len; have S0 := (St.refl w).alloc #[.int .i64 b.order.start, .slice A n c, .slice A' n' c', .slice A2 n2 c2, .int .i64 b.state] 42; have ht := h.order.up S0.below; have HS0 := Lib.hid S0; have HL : Hid (szB b = szT b.order + n2) := Lib.hid (by unfold szB; rw [hl]); clear S0 hl
 by_cases hn : ((szT b.order : Nat) : Int) ≤ left
 ·go_enter Tryz.func17, Tryz.ntmps17
  go_wp2_with fail
  refine (szTask_any hM _ b.order left _ ht h0 h1).mono ?_; rw [less_yes hn]; rintro e w1 ⟨rfl, hb1⟩; have S1 := HS0.out.quiet hb1; have q1 := S1.cells 0 rfl; have HB := Lib.hid S1.below; clear S1 hb1
  generalize szT b.order = z at *
  go_wp2_with fail
  refine (szIntS_any A2 n2 c2 (left - z) _ (by omega) (by omega) (by omega)).mono ?_
  by_cases h2 : (n2 : Int) ≤ left - z
  ·rw [less_yes h2]; rintro e w2 ⟨rfl, rfl⟩; go_wp2; go_ret; exact ⟨ret_int (by rw [HL.out, less_yes (by omega)]; omega), HB.out⟩
  ·rw [less_no h2]; rintro e w2 ⟨rfl, rfl⟩; go_wp2; go_ret; exact ⟨ret_int (by rw [HL.out, less_no (by omega)]), HB.out⟩
 ·go_enter Tryz.func17, Tryz.ntmps17
  go_wp2_with fail
  refine (szTask_any hM _ b.order left _ ht h0 h1).mono ?_; rw [less_no (show ¬ ((szT b.order : Nat) : Int) ≤ left by omega)]; rintro e w1 ⟨rfl, hb1⟩; go_wp2; go_ret; exact ⟨ret_int (by rw [HL.out, less_no (by omega)]), (HS0.out.quiet hb1).below⟩
theorem toBook_st (v : Value) (b : BookD) (w : World) (h : RdB w w.heap.size v b) : Calls Tryz.prog 20 #[v] w (Gives w id fun v' => [rBook v' b]) := by
 obtain ⟨A, n, c, A', n', c', A2, n2, c2, hv⟩ := h.form; subst hv; obtain ⟨hdn, hdl, hst, -⟩ := h.done; have hl := hdn.len
 have S0 : St w (((w.alloc (Obj.cells #[.int .i64 b.order.start, .slice A n c, .slice A' n' c', .slice A2 n2 c2, .int .i64 b.state] 42)).alloc (Obj.cells #[.int .i64 0, .slice none 0 0, .slice none 0 0, .slice none 0 0, .int .i64 0] 28)).alloc (Obj.cells #[.int .i64 0, .slice none 0 0, .slice none 0 0, .slice none 0 0, .int .i64 0] 28))
   [rBlk w.heap.size 42 #[.int .i64 b.order.start, .slice A n c, .slice A' n' c', .slice A2 n2 c2, .int .i64 b.state], rBlk (w.heap.size + 1) 28 #[.int .i64 0, .slice none 0 0, .slice none 0 0, .slice none 0 0, .int .i64 0], rBlk (w.heap.size + 2) 28 #[.int .i64 0, .slice none 0 0, .slice none 0 0, .slice none 0 0, .int .i64 0]] := by
  have := (((St.refl w).alloc #[.int .i64 b.order.start, .slice A n c, .slice A' n' c', .slice A2 n2 c2, .int .i64 b.state] 42).alloc #[.int .i64 0, .slice none 0 0, .slice none 0 0, .slice none 0 0, .int .i64 0] 28).alloc #[.int .i64 0, .slice none 0 0, .slice none 0 0, .slice none 0 0, .int .i64 0] 28
  simpa using this
 have ht := h.order.up S0.below; have HT := Lib.hid ht; have HD := Lib.hid hdn; have HS0 := Lib.hid S0; clear S0 ht; go_enter Tryz.func20, Tryz.ntmps20
 go_wp2_with fail
 refine (toTask_st _ b.order _ HT.out).mono ?_; rintro e w1 ⟨v1, rfl, s1⟩; obtain ⟨B, m, d, B', m', d', hv1⟩ := s1.formT 0 rfl; subst hv1; have S1 := HS0.out.call s1; have q0 := S1.cells 0 rfl; have q1 := S1.cells 2 rfl; have f1 := S1.free 2 rfl
 have S2 : St w (((w1.setCell ⟨w.heap.size + 2, 0, none⟩ (.int .i64 b.order.start)).setCell ⟨w.heap.size + 2, 1, none⟩ (.slice B m d)).setCell ⟨w.heap.size + 2, 2, none⟩ (.slice B' m' d'))
   [rBlk w.heap.size 42 #[.int .i64 b.order.start, .slice A n c, .slice A' n' c', .slice A2 n2 c2, .int .i64 b.state], rBlk (w.heap.size + 1) 28 #[.int .i64 0, .slice none 0 0, .slice none 0 0, .slice none 0 0, .int .i64 0],
    rBlk (w.heap.size + 2) 28 #[.int .i64 b.order.start, .slice B m d, .slice B' m' d', .slice none 0 0, .int .i64 0], rTask (.agg #[.int .i64 b.order.start, .slice B m d, .slice B' m' d']) b.order] := ((S1.set 2 rfl 0 _).set 2 rfl 1 _).set 2 rfl 2 _
 have HS := Lib.hid S2; clear S1 S2 s1 HS0 HT
 go_wp2_with fail
 refine (toIntS_st A2 n2 c2 b.done _ (HD.out.up HS.out.below) hdl).mono ?_; rintro e w2 ⟨v2, rfl, s2⟩; obtain ⟨C, d2, hv2, -⟩ := s2.rdI 0 rfl; rw [hl] at hv2; subst hv2; have S3 := HS.out.call s2; have q2 := S3.cells 0 rfl; have q3 := S3.cells 1 rfl; have q4 := S3.cells 2 rfl; have f3 := S3.free 1 rfl; have f4 := S3.free 2 rfl; have HS3 := Lib.hid S3; clear q0 q1 f1 HS S3 s2; go_wp2; refine bodyPost_ret (v := .agg #[.int .i64 b.order.start, .slice B m d, .slice B' m' d', .slice C n2 d2, .int .i64 b.state]) (by simp [results, Tryz.results20, go_sem, q3]) rfl ⟨_, rfl, ?_⟩; have S4 := ((((((HS3.out.set 2 rfl 3 (.slice C n2 d2)).set 2 rfl 4 (.int .i64 b.state)).set 1 rfl 0 (.int .i64 b.order.start)).set 1 rfl 1 (.slice B m d)).set 1 rfl 2 (.slice B' m' d')).set 1 rfl 3 (.slice C n2 d2)).set 1 rfl 4 (.int .i64 b.state); exact (S4.pick (L' := [rTask (.agg #[.int .i64 b.order.start, .slice B m d, .slice B' m' d']) b.order, rInts (.slice C n2 d2) b.done]) [3, 4] (by decide) rfl rfl).book (by omega) hst
theorem eqBook_same (v : Value) (b : BookD) (v' : Value) (w : World) (h : RdB w w.heap.size v b) (h' : RdB w w.heap.size v' b) :
  Calls Tryz.prog 23 #[v, v'] w fun e w' => e = .returned (.bool true) ∧ Below w.heap.size w w' := by
 obtain ⟨A, n, c, A', n', c', A2, n2, c2, hv⟩ := h.form; subst hv; obtain ⟨B, m, d, B', m', d', B2, m2, d2, hv⟩ := h'.form; subst hv; obtain ⟨hdn, hdl, -⟩ := h.done; obtain ⟨hdn', hdl', -⟩ := h'.done
 have S0 : St w ((w.alloc (Obj.cells #[.int .i64 b.order.start, .slice A n c, .slice A' n' c', .slice A2 n2 c2, .int .i64 b.state] 28)).alloc (Obj.cells #[.int .i64 b.order.start, .slice B m d, .slice B' m' d', .slice B2 m2 d2, .int .i64 b.state] 28))
   [rBlk w.heap.size 28 #[.int .i64 b.order.start, .slice A n c, .slice A' n' c', .slice A2 n2 c2, .int .i64 b.state], rBlk (w.heap.size + 1) 28 #[.int .i64 b.order.start, .slice B m d, .slice B' m' d', .slice B2 m2 d2, .int .i64 b.state]] := by
  have := ((St.refl w).alloc #[.int .i64 b.order.start, .slice A n c, .slice A' n' c', .slice A2 n2 c2, .int .i64 b.state] 28).alloc #[.int .i64 b.order.start, .slice B m d, .slice B' m' d', .slice B2 m2 d2, .int .i64 b.state] 28
  simpa using this
 have HT := Lib.hid (h.order.up S0.below); have HT' := Lib.hid (h'.order.up S0.below); have HS0 := Lib.hid S0; clear S0; go_enter Tryz.func23, Tryz.ntmps23
 go_wp2_with fail
 refine (eqTask_same _ b.order _ _ HT.out HT'.out).mono ?_; rintro e w1 ⟨rfl, hb1⟩; have S1 := HS0.out.quiet hb1; have q0 := S1.cells 0 rfl; have q1 := S1.cells 1 rfl; have HS1 := Lib.hid S1; clear S1 hb1
 go_wp2_with fail
 refine (eqIntS_same A2 n2 c2 b.done B2 m2 d2 _ (hdn.up HS1.out.below) (hdn'.up HS1.out.below)).mono ?_; rintro e w2 ⟨rfl, hb2⟩; have S2 := HS1.out.quiet hb2; have q2 := S2.cells 0 rfl; have q3 := S2.cells 1 rfl; have HS2 := Lib.hid S2; clear S2 hb2 q0 q1; go_wp2; go_ret; exact ⟨rfl, HS2.out.below⟩
theorem OwnT.foot_eq {v : Value} {t : TaskD} {F F' : List Nat} {w : World} (h1 : OwnT w 0 v t F) (g1 : OwnT w 0 v t F') : F' = F := by
 obtain ⟨gv, dv, Fg, Fd, cells, Fs, e1, a1, a2, a3, a4, a5⟩ := h1; obtain ⟨gv', dv', Fg', Fd', cells', Fs', e1', b1, b2, b3, b4, b5⟩ := g1; rw [e1] at e1'; simp only [Value.agg.injEq, Array.mk.injEq, List.cons.injEq, and_true, true_and] at e1'; obtain ⟨rfl, rfl⟩ := e1'; have hc : cells' = cells := own_unique b3.row a3.row; have hg : Fg' = Fg := by rw [b1.foot, a1.foot]
 subst hc hg
 have hfs : Fs' = Fs := by
  refine List.ext_getElem? fun j => ?_
  by_cases hj : j < t.deeds.length
  ·have x1 : Fs'[j]? = some (Fs'[j]'(by rw [b3.flen]; exact hj)) := List.getElem?_eq_getElem _; have x2 : Fs[j]? = some (Fs[j]'(by rw [a3.flen]; exact hj)) := List.getElem?_eq_getElem _; obtain ⟨n1, q1, _, _, _, q2, _⟩ := b3.deed j _ _ (List.getElem?_eq_getElem hj) x1; obtain ⟨n2, r1, _, _, _, r2, _⟩ := a3.deed j _ _ (List.getElem?_eq_getElem hj) x2; rw [q1] at r1
   injection r1 with r1
   subst r1; rw [x1, x2, q2.foot, r2.foot]
  ·rw [List.getElem?_eq_none (by rw [b3.flen]; omega), List.getElem?_eq_none (by rw [a3.flen]; omega)]
 subst hfs; rw [b4, a4, b3.foot, a3.foot]
theorem OwnB.foot_eq {v : Value} {b : BookD} {F F' : List Nat} {w : World} (h1 : OwnB w v b F) (g1 : OwnB w v b F') : F' = F := by
 obtain ⟨gv, dv, ev, Ft, Fd, rfl, h1, h2, h3, h4, rfl, h5⟩ := h1; obtain ⟨gv', dv', ev', Ft', Fd', e, g1, g2, g3, g4, rfl, g5⟩ := g1; simp only [Value.agg.injEq, Array.mk.injEq, List.cons.injEq, and_true, true_and] at e; obtain ⟨rfl, rfl, rfl⟩ := e; rw [h1.foot_eq g1, g2.foot, h2.foot]
theorem markBook_any (v : Value) (b : BookD) (F : List Nat) (k : Nat) (w : World) (h : OwnB w v b F) (hk : k + mkB b ≤ 1099511627776) :
  Calls Tryz.prog 25 #[v, .int .i64 k] w fun e w' => e = .returned (.int .i64 (k + mkB b : Nat)) ∧ OwnB w' v (markB k b) F ∧ Only F w w' := by
 obtain ⟨gv, dv, ev, Ft, Fd, rfl, h1, h2, h3, h4, rfl, h5⟩ := h; obtain ⟨A, n, c, A', n', c', e, a1, a2, a3, a4⟩ := h1.rd; obtain ⟨A2, c2, rfl, b1⟩ := h2.rd; simp only [Value.agg.injEq, Array.mk.injEq, List.cons.injEq, and_true, true_and] at e; obtain ⟨rfl, rfl⟩ := e; have hn1 := (List.nodup_append.1 h5).1; have hdis : ∀ x ∈ Ft, x ∉ Fd := fun x hx hy => (List.nodup_append.1 h5).2.2 x hx x hy rfl
 have hltT := h1.lt; have hltD := h2.lt
 unfold mkB at hk
 have ho1 := h1.below ((Below.refl w.heap.size w).alloc (Nat.le_refl _) (Obj.cells #[.int .i64 b.order.start, .slice A n c, .slice A' n' c', .slice A2 b.done.length c2, .int .i64 b.state] 28)); have ho2 := h2.below ((Below.refl w.heap.size w).alloc (Nat.le_refl _) (Obj.cells #[.int .i64 b.order.start, .slice A n c, .slice A' n' c', .slice A2 b.done.length c2, .int .i64 b.state] 28)); have kb := Blk.new w 28 #[.int .i64 b.order.start, .slice A n c, .slice A' n' c', .slice A2 b.done.length c2, .int .i64 b.state]; have hba : Below w.heap.size w (w.alloc (Obj.cells #[.int .i64 b.order.start, .slice A n c, .slice A' n' c', .slice A2 b.done.length c2, .int .i64 b.state] 28)) := (Below.refl w.heap.size w).alloc (Nat.le_refl _) _; have HM : Hid (k + mkB b = k + mkT b.order + b.done.length) := Lib.hid (by unfold mkB; omega)
 generalize hM : mkT b.order = M at *
 have HMM := Lib.hid hM; clear hM; go_enter Tryz.func25, Tryz.ntmps25
 go_wp2_with fail
 refine (markTask_any 0 _ b.order Ft k _ ho1 hn1 (by rw [HMM.out]; omega)).mono ?_; rintro e w1 ⟨rfl, o1, on1⟩; rw [HMM.out]; have hs1 := on1.size; simp only [World.size_alloc] at hs1; have kb1 : Blk w1 w.heap.size 28 _ := (on1.block w.heap.size (by simp) (fun hx => Nat.lt_irrefl _ (hltT _ hx).2)).trans kb; have o2 := ho2.keep (w' := w1) fun x hx => on1.block x (by have := (hltD x hx).2; simp; omega) (fun hy => hdis x hy hx)
 have q1 : ∀ j, w1.cell? ⟨w.heap.size, j, none⟩ = _ := kb1.cell; have HO1 := Lib.hid o1; clear ho1 ho2 kb o1
 go_wp2_with fail
 refine (markIntS_any 0 _ b.done Fd (k + M) w1 o2 (by omega) h3).mono ?_; rintro e w2 ⟨rfl, o3, on2⟩; go_wp2; go_ret; have on : Only (Ft ++ Fd) w w2 := ((Only.of_below hba).trans (on1.sub fun x hx => List.mem_append_left _ hx)).trans (on2.sub fun x hx => List.mem_append_right _ hx); refine ⟨ret_int (by have := HM.out; omega), ⟨_, _, _, Ft, Fd, rfl, HO1.out.keep fun x hx => on2.block x (by have := (HO1.out.lt x hx).2; exact this) (hdis x hx), ?_, by simp [markB]; exact h3, h4, rfl, h5⟩, on⟩; simp only [markB, HMM.out]; exact o3
theorem markBook_st {w W : World} {L : List HRes} (S : St w W L) (i : Nat) {v : Value} {b : BookD} (hi : L[i]? = some (rBook v b)) (k : Nat) (hk : k + mkB b ≤ 1099511627776) :
  Calls Tryz.prog 25 #[v, .int .i64 k] W (fun e W' => e = .returned (.int .i64 (k + mkB b : Nat)) ∧ St w W' (L.set i (rBook v (markB k b)))) := by
 obtain ⟨F, h1, -⟩ := S.get i hi
 exact (markBook_any v b F k W h1 hk).mono fun e W' ⟨he, ho, hon⟩ => ⟨he, S.mod i hi fun F' g1 glo => by
  have := h1.foot_eq g1
  subst this
  exact ⟨F', ho, fun b hb => .inl hb, hon⟩⟩
theorem heldBook_any (v : Value) (k : Nat) (b : BookD) (w : World) (h : RdB w w.heap.size v (markB k b)) (hk : k + mkB b ≤ 1099511627776) :
  Calls Tryz.prog 27 #[v, .int .i64 k] w fun e w' => e = .returned (.int .i64 (k + mkB b : Nat)) ∧ Below w.heap.size w w' := by
 obtain ⟨A, n, c, A', n', c', A2, n2, c2, hv⟩ := h.form; subst hv; obtain ⟨hdn, hdl, hst, -⟩ := h.done; have S0 := (St.refl w).alloc #[.int .i64 (markB k b).order.start, .slice A n c, .slice A' n' c', .slice A2 n2 c2, .int .i64 (markB k b).state] 28; have HT := Lib.hid (h.order.up S0.below); have hl := hdn.len; simp only [markB, marks_len] at hl; have hdn' : RdI .i64 w w.heap.size A2 n2 c2 (marks (k + mkT b.order) n2) := by have h0 := hdn; simp only [markB] at h0; rw [hl] at h0; exact h0
 have HD := Lib.hid hdn'; have HS0 := Lib.hid S0; have hM2 : k + mkT b.order + n2 ≤ 1099511627776 := by unfold mkB at hk; omega
 have HM : Hid (k + mkB b = k + mkT b.order + n2) := Lib.hid (by unfold mkB; omega); clear S0 hdn hdn' hst hl hk h
 generalize (markB k b).order.start = s0 at *
 generalize (markB k b).state = s1 at *
 generalize hM : mkT b.order = M at *
 have HMM := Lib.hid hM; clear hM; go_enter Tryz.func27, Tryz.ntmps27
 go_wp2_with fail
 refine (heldTask_any _ k b.order _ HT.out (by rw [HMM.out]; omega)).mono ?_; rintro e w1 ⟨rfl, hb1⟩; rw [HMM.out]; have S1 := HS0.out.quiet hb1; have q0 := S1.cells 0 rfl; have HS1 := Lib.hid S1; clear S1 hb1
 go_wp2_with fail
 refine (heldIntS_any A2 n2 c2 (k + M) _ (HD.out.up HS1.out.below) (by omega) (by omega)).mono ?_; rintro e w2 ⟨rfl, rfl⟩; go_wp2; go_ret; exact ⟨ret_int (by have := HM.out; omega), HS1.out.below⟩
end Go.Proofs.YtkmcengmglgdeaaGreatDoor
