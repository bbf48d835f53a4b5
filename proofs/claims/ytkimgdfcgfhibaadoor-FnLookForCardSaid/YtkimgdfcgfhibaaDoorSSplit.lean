/- Joined texts: Split, Came, Help, PlanW, Book. -/
import Derived.Test.YtkimgdfcgfhibaaDoorSPush
import Derived.Test.YtkimgdfcgfhibaaDoorSSz
import Derived.Deep.Slices
import Derived.ChangeOld
import Derived.Test.YtkimgdfcgfhibaaDoorSPlan
/- The first of several things parted in two; a task parted in its goal and its deeds. -/
namespace Go.Proofs.YtkimgdfcgfhibaaDoor
set_option linter.unusedVariables false
set_option linter.unusedSimpArgs false
open Go.ChangeShapes Go.WideShapes Go.ChangeAt Go.RowKit

section
variable {w W W' : World} {L : List HRes}
/-- the first thing parted in two -/
theorem St.split {R R₁ R₂ : HRes} (h : St w W (R :: L)) (k : ∀ F, R.at_ W F → ∃ F1 F2, F = F1 ++ F2 ∧ R₁.at_ W F1 ∧ R₂.at_ W F2) : St w W (R₁ :: R₂ :: L) := by
  obtain ⟨Fs, kl, ha, hnd⟩ := h.has
  match Fs, kl, ha, hnd with
  | F :: Fs, kl, ha, hnd =>
    obtain ⟨a1, a2⟩ := ha 0 _ F rfl rfl
    obtain ⟨F1, F2, rfl, b1, b2⟩ := k F a1
    refine ⟨h.below, F1 :: F2 :: Fs, by simpa using kl, fun i R' F' hR hF => ?_, by simpa using hnd⟩
    match i with
    | 0 =>
      injection hR with hR; injection hF with hF; subst hR hF
      exact ⟨b1, fun x hx => a2 x (List.mem_append_left _ hx)⟩
    | 1 =>
      simp only [List.getElem?_cons_succ, List.getElem?_cons_zero, Option.some.injEq] at hR hF
      subst hR hF
      exact ⟨b2, fun x hx => a2 x (List.mem_append_right _ hx)⟩
    | i + 2 => exact ha (i + 1) R' F' (by simpa using hR) (by simpa using hF)
theorem St.untask {w W : World} {L : List HRes} {s : Int} {gv dv : Value} {t : TaskD} (h : St w W (rTask (.agg #[.int .i64 s, gv, dv]) t :: L)) : St w W (rInts gv t.goal :: rDeeds dv t.deeds :: L) :=
  h.split fun F ⟨⟨gv', dv', Fg, Fd, cells, Fs, e, h1, h2, h3, h4, h5⟩, h6⟩ => by
    simp only [Value.agg.injEq, Array.mk.injEq, List.cons.injEq, and_true, Value.int.injEq, true_and] at e
    obtain ⟨rfl, rfl, rfl⟩ := e
    rw [h4] at h6
    exact ⟨Fg, Fd, h4, h1, cells, Fs, h3, (List.nodup_append.1 h6).2.1⟩
end
end Go.Proofs.YtkimgdfcgfhibaaDoor

/- Arguments that came in: graphs, deeds, tasks, books, acts, as the walks read them. -/
namespace Go.Proofs.YtkimgdfcgfhibaaDoor
set_option linter.unusedVariables false
set_option linter.unusedSimpArgs false
open Go.ChangeShapes Go.WideShapes Go.ChangeAt Go.RowKit Go.Deep

/-- in w, below block B, v reads as this book -/
def RdBM (M : Nat) (w : World) (B : Nat) (v : Value) (b : BookD) : Prop :=
  ∃ A n c A' n' c' A2 n2 c2, v = .agg #[.int .i64 b.order.start, .slice A n c, .slice A' n' c', .slice A2 n2 c2, .int .i64 b.state] ∧ RdI .i64 w B A n c b.order.goal ∧ n ≤ M ∧ RdDsM M w B A' n' c' b.order.deeds ∧ (Lit.int .i64 b.order.start).wf = true ∧
    RdI .i64 w B A2 n2 c2 b.done ∧ n2 ≤ M ∧ (Lit.int .i64 b.state).wf = true
abbrev RdB := RdBM 1048576
theorem RdBM.up {M : Nat} {w w' : World} {v : Value} {b : BookD} (h : RdBM M w w.heap.size v b) (hb : Below w.heap.size w w') : RdBM M w' w'.heap.size v b := by
  obtain ⟨A, n, c, A', n', c', A2, n2, c2, e, h1, h2, h3, h4, h5, h6⟩ := h
  exact ⟨A, n, c, A', n', c', A2, n2, c2, e, h1.up hb, h2, h3.up hb, h4, h5.up hb, h6⟩
theorem RdDsM.less {M M' : Nat} {w : World} {B n c : Nat} {A : Option Addr} {ds : List DeedD} (h : RdDsM M w B A n c ds) (hn : n ≤ M') (hd : ∀ d ∈ ds, d.need.length ≤ M') : RdDsM M' w B A n c ds :=
  ⟨h.len, h.cap, h.capMax, hn, fun h0 => by
    obtain ⟨b, off, e, hb, hc⟩ := h.at_ h0
    refine ⟨b, off, e, hb, fun i d hi => ?_⟩
    obtain ⟨A, n, c, q0, q1, q2, q3, q4, q5, q6⟩ := hc i d hi
    exact ⟨A, n, c, q0, q1, q2, q3, q4, by have := hd d (List.mem_of_getElem? hi); rw [q4.len] at this; exact this, q6⟩⟩
theorem szDs_each {ds : List DeedD} {d : DeedD} (h : d ∈ ds) : d.need.length ≤ szDs ds := by
  unfold szDs
  have : szD d ≤ (ds.map szD).sum := by
    induction ds with
    | nil => cases h
    | cons x ds ih =>
      simp only [List.map_cons, List.sum_cons]
      rcases List.mem_cons.1 h with rfl | h
      · omega
      · have := ih h; omega
  unfold szD at this ⊢
  omega
theorem RdTM.less {M M' : Nat} {w : World} {B : Nat} {v : Value} {t : TaskD} (h : RdTM M w B v t) (hs : szT t ≤ M') : RdTM M' w B v t := by
  obtain ⟨A, n, c, A', n', c', e, h1, h2, h3, h4⟩ := h
  have hl := h1.len
  have hl' := h3.len
  unfold szT at hs
  have : szDs t.deeds = n' + (t.deeds.map szD).sum := by unfold szDs; rw [hl']
  exact ⟨A, n, c, A', n', c', e, h1, by omega, h3.less (by omega) (fun d hd => by have := szDs_each hd; omega), h4⟩

section
variable {H : Type} {enc : TypeId × Value → H} {W : World} {base : Nat} {spare : Nat → Bool} {held : Bool} {fuel : Nat} {cs : List Value} {x : DataW H × List MemPlace}
end
end Go.Proofs.YtkimgdfcgfhibaaDoor

/- The laws' helpers, each in the words of St: copies, sizes, equality, marks. -/
namespace Go.Proofs.YtkimgdfcgfhibaaDoor
set_option linter.unusedVariables false
set_option linter.unusedSimpArgs false
open Go.ChangeShapes Go.WideShapes Go.ChangeAt Go.RowKit

/-- it returns a value, and things of its own -/
def Gave (w : World) (v : Value) (L : List HRes) (e : Ending) (w' : World) : Prop := e = .returned v ∧ St w w' L
section
variable {w W : World} {L : List HRes}
theorem St.formT (S : St w W L) (i : Nat) {v : Value} {t : TaskD} (hi : L[i]? = some (rTask v t)) : ∃ A n c A' n' c', v = .agg #[.int .i64 t.start, .slice A n c, .slice A' n' c'] := by
  obtain ⟨F, ⟨⟨gv, dv, Fg, Fd, cells, Fs, e, h1, h2, h3, -, h4⟩, -⟩, -⟩ := S.get i hi
  obtain ⟨A, c, rfl⟩ := own_form h1.row
  obtain ⟨A', c', rfl⟩ := own_form h3.row
  exact ⟨A, _, c, A', _, c', e⟩
end
theorem Sn.rdT {w W : World} {M : Nat → Option HRes} (h : Sn w W M) (k : Nat) {v : Value} {t : TaskD} (hk : M k = some (rTask v t)) : RdT W W.heap.size v t := by
  obtain ⟨F, h1, -⟩ := h.get k hk; exact h1.1.rd
theorem Sn.rdI {w W : World} {M : Nat → Option HRes} (h : Sn w W M) (k : Nat) {v : Value} {xs : List Int} (hk : M k = some (rInts v xs)) : ∃ A c, v = .slice A xs.length c ∧ RdI .i64 W W.heap.size A xs.length c xs := by
  obtain ⟨F, h1, -⟩ := h.get k hk; exact h1.rd
end Go.Proofs.YtkimgdfcgfhibaaDoor

/- Deeds done and plans run, by the program and by the reference: each returns the plain function's value. -/
namespace Go.Proofs.YtkimgdfcgfhibaaDoor
set_option linter.unusedVariables false
set_option linter.unusedSimpArgs false
open Go.ChangeShapes Go.WideShapes Go.ChangeAt Go.RowKit

theorem deedDo_yes (d : DeedD) (s : Nat) (h : evalCode d.need s = true) : deedDo d s = some (behind d s) := if_pos h
theorem deedDo_no (d : DeedD) (s : Nat) (h : evalCode d.need s = false) : deedDo d s = none := if_neg (by rw [h]; simp)

theorem behindDeed_any (A : Option Addr) (n c : Nat) (d : DeedD) (s : Nat) (w : World) (h : RdI .i64 w w.heap.size A n c d.need) (hok : deedOk d = true) (hs : s < 32) :
    Calls Tryd.prog 85 #[.agg #[.slice A n c, .int .i64 d.on, .int .i64 d.off, .int .i64 d.flip], .int .i64 s] w fun e w' => e = .returned (.int .i64 (opt (deedDo d s))) ∧ Below w.heap.size w w' := by
  have hp := deedOk_parts d hok
  have S0 := (St.refl w).alloc #[.slice A n c, .int .i64 d.on, .int .i64 d.off, .int .i64 d.flip] 85
  have HR := Lib.hid (runCode_any A n c d.need s _ (h.up S0.below) hp.1 hs)
  have HS0 := Lib.hid S0
  have HB := Lib.hid (behind_impl d s hs hok)
  have hlt := behind_lt d s hok hs
  clear S0 hp
  obtain ⟨bv, hv⟩ : ∃ b, evalCode d.need s = b := ⟨_, rfl⟩
  have HV := Lib.hid hv
  clear hv
  go_enter Tryd.func85, Tryd.ntmps85
  go_wp2_with fail
  refine HR.out.mono ?_
  rw [HV.out]
  rintro e w1 ⟨rfl, hb1⟩
  have S1 := HS0.out.quiet hb1
  have q0 : ∀ j, w1.cell? ⟨w.heap.size, j, none⟩ = _ := S1.cells 0 rfl
  have HS1 := Lib.hid S1
  clear S1 hb1
  cases bv with
  | false =>
    go_wp2
    go_ret
    exact ⟨ret_int (by rw [deedDo_no d s HV.out]; rfl), HS1.out.below⟩
  | true =>
    go_wp2
    rw [HB.out]
    go_ret
    exact ⟨ret_int (by rw [deedDo_yes d s HV.out]; rfl), HS1.out.below⟩
theorem l6Do_any (A : Option Addr) (n c : Nat) (d : DeedD) (s : Nat) (w : World) (h : RdI .i64 w w.heap.size A n c d.need) (hok : deedOk d = true) (hs : s < 32) :
    Calls Tryd.prog 54 #[.agg #[.slice A n c, .int .i64 d.on, .int .i64 d.off, .int .i64 d.flip], .int .i64 s] w fun e w' => e = .returned (.int .i64 (opt (deedDo d s))) ∧ Below w.heap.size w w' := by
  have hp := deedOk_parts d hok
  obtain ⟨hp0, hp1, hp2, hp3, -⟩ := hp
  have S0 := (St.refl w).alloc #[.slice A n c, .int .i64 d.on, .int .i64 d.off, .int .i64 d.flip] 85
  have HR := Lib.hid (l5Run_any A n c d.need s _ (h.up S0.below) hp0 hs)
  have HS0 := Lib.hid S0
  have HB := Lib.hid (behind_spec d s hok)
  have hlt := behind_lt d s hok hs
  obtain ⟨bv, hv⟩ : ∃ b, evalCode d.need s = b := ⟨_, rfl⟩
  have HV := Lib.hid hv
  clear S0 hv
  obtain ⟨need, on, of, fl⟩ := d
  simp only at hp1 hp2 hp3
  obtain ⟨a, rfl⟩ := Int.eq_ofNat_of_zero_le hp1.1
  obtain ⟨o, rfl⟩ := Int.eq_ofNat_of_zero_le hp2.1
  obtain ⟨f, rfl⟩ := Int.eq_ofNat_of_zero_le hp3.1
  obtain ⟨-, hp1⟩ := hp1
  obtain ⟨-, hp2⟩ := hp2
  obtain ⟨-, hp3⟩ := hp3
  have ho : s ||| a < 32 := or_lt32 hs (by omega)
  have hx : s &&& o ≤ s ||| a := Nat.le_trans Nat.and_le_left (Nat.left_le_or)
  have C1 := Lib.hid (fun w => l1Either_any (s : Int) (a : Int) (by omega) (by omega) (by omega) (by omega) w)
  have C2 := Lib.hid (fun w => l1Both_nat s o (by omega) w)
  have C3 := Lib.hid (fun w => l1Other_any (((s ||| a : Nat) : Int) - ((s &&& o : Nat) : Int)) (f : Int) (by omega) (by omega) (by omega) (by omega) w)
  simp only [Int.toNat_natCast] at C1 C3 HB
  have HX : Hid ((((s ||| a : Nat) : Int) - ((s &&& o : Nat) : Int)).toNat ^^^ f = behind ⟨need, a, o, f⟩ s) := Lib.hid (by rw [HB.out]; congr 1; omega)
  clear HB hok
  go_enter Tryd.func54, Tryd.ntmps54
  go_wp2_with fail
  refine HR.out.mono ?_
  rw [HV.out]
  rintro e w1 ⟨rfl, hb1⟩
  have S1 := HS0.out.quiet hb1
  have q0 : ∀ j, w1.cell? ⟨w.heap.size, j, none⟩ = _ := S1.cells 0 rfl
  have HS1 := Lib.hid S1
  clear S1 hb1
  cases bv with
  | false =>
    go_wp2
    go_ret
    exact ⟨ret_int (by rw [deedDo_no _ s HV.out]; rfl), HS1.out.below⟩
  | true =>
    go_upto_region 3 with (fail)
    go_quiet ((first
      | (go_at_call 87; with_reducible exact quiet_left (C1.out _))
      | (go_at_call 65; with_reducible exact quiet_left (C2.out _))
      | (go_at_call 86; with_reducible exact quiet_left (C3.out _))))
    go_wp2
    go_ret
    exact ⟨ret_int (by rw [deedDo_yes _ s HV.out, ← HX.out]; rfl), HS1.out.below.trans (below_drewN (Below.refl _ _) _)⟩
end Go.Proofs.YtkimgdfcgfhibaaDoor

/- Books in memory; the laws' helpers for books: toBook, eqBook, szBook, markBook, heldBook. -/
namespace Go.Proofs.YtkimgdfcgfhibaaDoor
set_option linter.unusedVariables false
set_option linter.unusedSimpArgs false
open Go.ChangeShapes Go.WideShapes Go.ChangeAt Go.RowKit

/-- a book of its own -/
def OwnB (w : World) (v : Value) (b : BookD) (F : List Nat) : Prop :=
  ∃ gv dv ev Ft Fd, v = .agg #[.int .i64 b.order.start, gv, dv, ev, .int .i64 b.state] ∧ OwnT w 0 (.agg #[.int .i64 b.order.start, gv, dv]) b.order Ft ∧ OwnI w 0 ev b.done Fd ∧ b.done.length ≤ 1048576 ∧ (Lit.int .i64 b.state).wf = true ∧ F = Ft ++ Fd ∧ F.Nodup
def rBook (v : Value) (b : BookD) : HRes where
  at_ w F := OwnB w v b F
  keep w w' F h hk := by
    obtain ⟨gv, dv, ev, Ft, Fd, e, h1, h2, h3, h4, rfl, h5⟩ := h
    exact ⟨gv, dv, ev, Ft, Fd, e, h1.keep fun b hb => hk b (List.mem_append_left _ hb), h2.keep fun b hb => hk b (List.mem_append_right _ hb), h3, h4, rfl, h5⟩
  lt w F h b hb := by
    obtain ⟨gv, dv, ev, Ft, Fd, e, h1, h2, h3, h4, rfl, h5⟩ := h
    rcases List.mem_append.1 hb with hb | hb
    · exact (h1.lt b hb).2
    · exact (h2.lt b hb).2
  nd w F h := by obtain ⟨gv, dv, ev, Ft, Fd, e, h1, h2, h3, h4, rfl, h5⟩ := h; exact h5
def szB (b : BookD) : Nat := szT b.order + b.done.length
section
variable {w W W' : World} {L : List HRes}
/-- a task and a row of numbers as a book -/
theorem St.book {s st : Int} {gv dv ev : Value} {goal done : List Int} {ds : List DeedD} (h : St w W (rTask (.agg #[.int .i64 s, gv, dv]) ⟨s, goal, ds⟩ :: rInts ev done :: L)) (hd : done.length ≤ 1048576) (hs : (Lit.int .i64 st).wf = true) :
    St w W (rBook (.agg #[.int .i64 s, gv, dv, ev, .int .i64 st]) ⟨⟨s, goal, ds⟩, done, st⟩ :: L) :=
  h.join fun F G h1 h2 hn hlo => ⟨gv, dv, ev, F, G, rfl, h1.1, h2, hd, hs, rfl, hn⟩
theorem OwnB.rd {v : Value} {b : BookD} {F : List Nat} (h : OwnB W v b F) : RdB W W.heap.size v b := by
  obtain ⟨gv, dv, ev, Ft, Fd, rfl, h1, h2, h3, h4, rfl, h5⟩ := h
  obtain ⟨A, n, c, A', n', c', e, a1, a2, a3, a4⟩ := h1.rd
  obtain ⟨A2, c2, rfl, b1⟩ := h2.rd
  simp only [Value.agg.injEq, Array.mk.injEq, List.cons.injEq, and_true, true_and] at e
  obtain ⟨rfl, rfl⟩ := e
  exact ⟨A, n, c, A', n', c', A2, _, c2, rfl, a1, a2, a3, a4, b1, h3, h4⟩
/-- a book's order -/
theorem RdBM.order {M B : Nat} {s st : Int} {x y z : Value} {b : BookD} (h : RdBM M w B (.agg #[.int .i64 s, x, y, z, .int .i64 st]) b) : RdTM M w B (.agg #[.int .i64 s, x, y]) b.order := by
  obtain ⟨A, n, c, A', n', c', A2, n2, c2, e, h1, h2, h3, h4, h5, h6, h7⟩ := h
  simp only [Value.agg.injEq, Array.mk.injEq, List.cons.injEq, Value.int.injEq, true_and, and_true] at e
  obtain ⟨rfl, rfl, rfl, rfl, rfl⟩ := e
  exact ⟨A, n, c, A', n', c', rfl, h1, h2, h3, h4⟩
theorem RdBM.done {M B : Nat} {s st : Int} {x y : Value} {A : Option Addr} {n c : Nat} {b : BookD} (h : RdBM M w B (.agg #[.int .i64 s, x, y, .slice A n c, .int .i64 st]) b) : RdI .i64 w B A n c b.done ∧ n ≤ M ∧ (Lit.int .i64 b.state).wf = true ∧ st = b.state ∧ s = b.order.start := by
  obtain ⟨A, n, c, A', n', c', A2, n2, c2, e, h1, h2, h3, h4, h5, h6, h7⟩ := h
  simp only [Value.agg.injEq, Array.mk.injEq, List.cons.injEq, Value.int.injEq, true_and, and_true, Value.slice.injEq] at e
  obtain ⟨rfl, -, -, ⟨rfl, rfl, rfl⟩, rfl⟩ := e
  exact ⟨h5, h6, h7, rfl, rfl⟩
theorem RdBM.less {M M' B : Nat} {v : Value} {b : BookD} (h : RdBM M w B v b) (hs : szB b ≤ M') : RdBM M' w B v b := by
  unfold szB at hs
  obtain ⟨A, n, c, A', n', c', A2, n2, c2, e, h1, h2, h3, h4, h5, h6, h7⟩ := h
  have ht : RdTM M w B (.agg #[.int .i64 b.order.start, .slice A n c, .slice A' n' c']) b.order := ⟨A, n, c, A', n', c', rfl, h1, h2, h3, h4⟩
  obtain ⟨A, n, c, A', n', c', e', h1, h2, h3, h4⟩ := ht.less (M' := M') (by omega)
  simp only [Value.agg.injEq, Array.mk.injEq, List.cons.injEq, Value.int.injEq, true_and, and_true, Value.slice.injEq] at e'
  obtain ⟨⟨rfl, rfl, rfl⟩, rfl, rfl, rfl⟩ := e'
  have := h5.len
  exact ⟨_, _, _, _, _, _, A2, n2, c2, e, h1, h2, h3, h4, h5, by omega, h7⟩
end
def mkB (b : BookD) : Nat := mkT b.order + b.done.length
def markB (k : Nat) (b : BookD) : BookD := ⟨markT k b.order, marks (k + mkT b.order) b.done.length, b.state⟩
end Go.Proofs.YtkimgdfcgfhibaaDoor
