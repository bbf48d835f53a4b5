/- Joined texts: PlanW, Book. -/
import Derived.Test.YtkimgdfcgfhibaaDoorSPlan
import Derived.Test.YtkimgdfcgfhibaaDoorSPush
import Derived.Test.YtkimgdfcgfhibaaDoorSCame
/- Deeds done and plans run, by the program and by the reference: each returns the plain function's value. -/
namespace Go.Proofs.YtkimgdfcgfhibaaDoor
set_option linter.unusedVariables false
set_option linter.unusedSimpArgs false
open Go.ChangeShapes Go.WideShapes Go.ChangeAt Go.RowKit

theorem deedDo_yes (d : DeedD) (s : Nat) (h : evalCode d.need s = true) : deedDo d s = some (behind d s) := if_pos h
theorem deedDo_no (d : DeedD) (s : Nat) (h : evalCode d.need s = false) : deedDo d s = none := if_neg (by rw [h]; simp)

theorem behindDeed_any (A : Option Addr) (n c : Nat) (d : DeedD) (s : Nat) (w : World) (h : RdI .i64 w w.heap.size A n c d.need) (hok : deedOk d = true) (hs : s < 32) :
    Calls Tryd.prog 85 #[.agg #[.slice A n c, .int .i64 d.on, .int .i64 d.off, .int .i64 d.flip], .int .i64 s] w fun e w' => e = .returned (.int .i64 (opt (deedDo d s))) ∧ Below w.heap.size w w' := by
  have hp := deedOk_parts d hok
  have S0 := (St.refl w).alloc #[.slice A n c, .int .i64 d.on, .int .i64 d.off, .int .i64 d.flip] 85
  have HR := Lib.hid (runCode_any A n c d.need s _ (h.up S0.below) hp.1 hs)
  have HS0 := Lib.hid S0
  have HB := Lib.hid (behind_impl d s hs hok)
  have hlt := behind_lt d s hok hs
  clear S0 hp
  obtain ⟨bv, hv⟩ : ∃ b, evalCode d.need s = b := ⟨_, rfl⟩
  have HV := Lib.hid hv
  clear hv
  go_enter Tryd.func85, Tryd.ntmps85
  go_wp2_with fail
  refine HR.out.mono ?_
  rw [HV.out]
  rintro e w1 ⟨rfl, hb1⟩
  have S1 := HS0.out.quiet hb1
  have q0 : ∀ j, w1.cell? ⟨w.heap.size, j, none⟩ = _ := S1.cells 0 rfl
  have HS1 := Lib.hid S1
  clear S1 hb1
  cases bv with
  | false =>
    go_wp2
    go_ret
    exact ⟨ret_int (by rw [deedDo_no d s HV.out]; rfl), HS1.out.below⟩
  | true =>
    go_wp2
    rw [HB.out]
    go_ret
    exact ⟨ret_int (by rw [deedDo_yes d s HV.out]; rfl), HS1.out.below⟩
theorem l6Do_any (A : Option Addr) (n c : Nat) (d : DeedD) (s : Nat) (w : World) (h : RdI .i64 w w.heap.size A n c d.need) (hok : deedOk d = true) (hs : s < 32) :
    Calls Tryd.prog 54 #[.agg #[.slice A n c, .int .i64 d.on, .int .i64 d.off, .int .i64 d.flip], .int .i64 s] w fun e w' => e = .returned (.int .i64 (opt (deedDo d s))) ∧ Below w.heap.size w w' := by
  have hp := deedOk_parts d hok
  obtain ⟨hp0, hp1, hp2, hp3, -⟩ := hp
  have S0 := (St.refl w).alloc #[.slice A n c, .int .i64 d.on, .int .i64 d.off, .int .i64 d.flip] 85
  have HR := Lib.hid (l5Run_any A n c d.need s _ (h.up S0.below) hp0 hs)
  have HS0 := Lib.hid S0
  have HB := Lib.hid (behind_spec d s hok)
  have hlt := behind_lt d s hok hs
  obtain ⟨bv, hv⟩ : ∃ b, evalCode d.need s = b := ⟨_, rfl⟩
  have HV := Lib.hid hv
  clear S0 hv
  obtain ⟨need, on, of, fl⟩ := d
  simp only at hp1 hp2 hp3
  obtain ⟨a, rfl⟩ := Int.eq_ofNat_of_zero_le hp1.1
  obtain ⟨o, rfl⟩ := Int.eq_ofNat_of_zero_le hp2.1
  obtain ⟨f, rfl⟩ := Int.eq_ofNat_of_zero_le hp3.1
  obtain ⟨-, hp1⟩ := hp1
  obtain ⟨-, hp2⟩ := hp2
  obtain ⟨-, hp3⟩ := hp3
  have ho : s ||| a < 32 := or_lt32 hs (by omega)
  have hx : s &&& o ≤ s ||| a := Nat.le_trans Nat.and_le_left (Nat.left_le_or)
  have C1 := Lib.hid (fun w => l1Either_any (s : Int) (a : Int) (by omega) (by omega) (by omega) (by omega) w)
  have C2 := Lib.hid (fun w => l1Both_nat s o (by omega) w)
  have C3 := Lib.hid (fun w => l1Other_any (((s ||| a : Nat) : Int) - ((s &&& o : Nat) : Int)) (f : Int) (by omega) (by omega) (by omega) (by omega) w)
  simp only [Int.toNat_natCast] at C1 C3 HB
  have HX : Hid ((((s ||| a : Nat) : Int) - ((s &&& o : Nat) : Int)).toNat ^^^ f = behind ⟨need, a, o, f⟩ s) := Lib.hid (by rw [HB.out]; congr 1; omega)
  clear HB hok
  go_enter Tryd.func54, Tryd.ntmps54
  go_wp2_with fail
  refine HR.out.mono ?_
  rw [HV.out]
  rintro e w1 ⟨rfl, hb1⟩
  have S1 := HS0.out.quiet hb1
  have q0 : ∀ j, w1.cell? ⟨w.heap.size, j, none⟩ = _ := S1.cells 0 rfl
  have HS1 := Lib.hid S1
  clear S1 hb1
  cases bv with
  | false =>
    go_wp2
    go_ret
    exact ⟨ret_int (by rw [deedDo_no _ s HV.out]; rfl), HS1.out.below⟩
  | true =>
    go_upto_region 3 with (fail)
    go_quiet ((first
      | (go_at_call 87; with_reducible exact quiet_left (C1.out _))
      | (go_at_call 65; with_reducible exact quiet_left (C2.out _))
      | (go_at_call 86; with_reducible exact quiet_left (C3.out _))))
    go_wp2
    go_ret
    exact ⟨ret_int (by rw [deedDo_yes _ s HV.out, ← HX.out]; rfl), HS1.out.below.trans (below_drewN (Below.refl _ _) _)⟩
end Go.Proofs.YtkimgdfcgfhibaaDoor

/- Books in memory; the laws' helpers for books: toBook, eqBook, szBook, markBook, heldBook. -/
namespace Go.Proofs.YtkimgdfcgfhibaaDoor
set_option linter.unusedVariables false
set_option linter.unusedSimpArgs false
open Go.ChangeShapes Go.WideShapes Go.ChangeAt Go.RowKit

/-- a book of its own -/
def OwnB (w : World) (v : Value) (b : BookD) (F : List Nat) : Prop :=
  ∃ gv dv ev Ft Fd, v = .agg #[.int .i64 b.order.start, gv, dv, ev, .int .i64 b.state] ∧ OwnT w 0 (.agg #[.int .i64 b.order.start, gv, dv]) b.order Ft ∧ OwnI w 0 ev b.done Fd ∧ b.done.length ≤ 1048576 ∧ (Lit.int .i64 b.state).wf = true ∧ F = Ft ++ Fd ∧ F.Nodup
def rBook (v : Value) (b : BookD) : HRes where
  at_ w F := OwnB w v b F
  keep w w' F h hk := by
    obtain ⟨gv, dv, ev, Ft, Fd, e, h1, h2, h3, h4, rfl, h5⟩ := h
    exact ⟨gv, dv, ev, Ft, Fd, e, h1.keep fun b hb => hk b (List.mem_append_left _ hb), h2.keep fun b hb => hk b (List.mem_append_right _ hb), h3, h4, rfl, h5⟩
  lt w F h b hb := by
    obtain ⟨gv, dv, ev, Ft, Fd, e, h1, h2, h3, h4, rfl, h5⟩ := h
    rcases List.mem_append.1 hb with hb | hb
    · exact (h1.lt b hb).2
    · exact (h2.lt b hb).2
  nd w F h := by obtain ⟨gv, dv, ev, Ft, Fd, e, h1, h2, h3, h4, rfl, h5⟩ := h; exact h5
def szB (b : BookD) : Nat := szT b.order + b.done.length
section
variable {w W W' : World} {L : List HRes}
/-- a task and a row of numbers as a book -/
theorem St.book {s st : Int} {gv dv ev : Value} {goal done : List Int} {ds : List DeedD} (h : St w W (rTask (.agg #[.int .i64 s, gv, dv]) ⟨s, goal, ds⟩ :: rInts ev done :: L)) (hd : done.length ≤ 1048576) (hs : (Lit.int .i64 st).wf = true) :
    St w W (rBook (.agg #[.int .i64 s, gv, dv, ev, .int .i64 st]) ⟨⟨s, goal, ds⟩, done, st⟩ :: L) :=
  h.join fun F G h1 h2 hn hlo => ⟨gv, dv, ev, F, G, rfl, h1.1, h2, hd, hs, rfl, hn⟩
theorem OwnB.rd {v : Value} {b : BookD} {F : List Nat} (h : OwnB W v b F) : RdB W W.heap.size v b := by
  obtain ⟨gv, dv, ev, Ft, Fd, rfl, h1, h2, h3, h4, rfl, h5⟩ := h
  obtain ⟨A, n, c, A', n', c', e, a1, a2, a3, a4⟩ := h1.rd
  obtain ⟨A2, c2, rfl, b1⟩ := h2.rd
  simp only [Value.agg.injEq, Array.mk.injEq, List.cons.injEq, and_true, true_and] at e
  obtain ⟨rfl, rfl⟩ := e
  exact ⟨A, n, c, A', n', c', A2, _, c2, rfl, a1, a2, a3, a4, b1, h3, h4⟩
/-- a book's order -/
theorem RdBM.order {M B : Nat} {s st : Int} {x y z : Value} {b : BookD} (h : RdBM M w B (.agg #[.int .i64 s, x, y, z, .int .i64 st]) b) : RdTM M w B (.agg #[.int .i64 s, x, y]) b.order := by
  obtain ⟨A, n, c, A', n', c', A2, n2, c2, e, h1, h2, h3, h4, h5, h6, h7⟩ := h
  simp only [Value.agg.injEq, Array.mk.injEq, List.cons.injEq, Value.int.injEq, true_and, and_true] at e
  obtain ⟨rfl, rfl, rfl, rfl, rfl⟩ := e
  exact ⟨A, n, c, A', n', c', rfl, h1, h2, h3, h4⟩
theorem RdBM.done {M B : Nat} {s st : Int} {x y : Value} {A : Option Addr} {n c : Nat} {b : BookD} (h : RdBM M w B (.agg #[.int .i64 s, x, y, .slice A n c, .int .i64 st]) b) : RdI .i64 w B A n c b.done ∧ n ≤ M ∧ (Lit.int .i64 b.state).wf = true ∧ st = b.state ∧ s = b.order.start := by
  obtain ⟨A, n, c, A', n', c', A2, n2, c2, e, h1, h2, h3, h4, h5, h6, h7⟩ := h
  simp only [Value.agg.injEq, Array.mk.injEq, List.cons.injEq, Value.int.injEq, true_and, and_true, Value.slice.injEq] at e
  obtain ⟨rfl, -, -, ⟨rfl, rfl, rfl⟩, rfl⟩ := e
  exact ⟨h5, h6, h7, rfl, rfl⟩
theorem RdBM.less {M M' B : Nat} {v : Value} {b : BookD} (h : RdBM M w B v b) (hs : szB b ≤ M') : RdBM M' w B v b := by
  unfold szB at hs
  obtain ⟨A, n, c, A', n', c', A2, n2, c2, e, h1, h2, h3, h4, h5, h6, h7⟩ := h
  have ht : RdTM M w B (.agg #[.int .i64 b.order.start, .slice A n c, .slice A' n' c']) b.order := ⟨A, n, c, A', n', c', rfl, h1, h2, h3, h4⟩
  obtain ⟨A, n, c, A', n', c', e', h1, h2, h3, h4⟩ := ht.less (M' := M') (by omega)
  simp only [Value.agg.injEq, Array.mk.injEq, List.cons.injEq, Value.int.injEq, true_and, and_true, Value.slice.injEq] at e'
  obtain ⟨⟨rfl, rfl, rfl⟩, rfl, rfl, rfl⟩ := e'
  have := h5.len
  exact ⟨_, _, _, _, _, _, A2, n2, c2, e, h1, h2, h3, h4, h5, by omega, h7⟩
end
def mkB (b : BookD) : Nat := mkT b.order + b.done.length
def markB (k : Nat) (b : BookD) : BookD := ⟨markT k b.order, marks (k + mkT b.order) b.done.length, b.state⟩
end Go.Proofs.YtkimgdfcgfhibaaDoor
