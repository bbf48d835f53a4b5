/- Books in memory; the laws' helpers for books: toBook, eqBook, szBook, markBook, heldBook. -/
import Derived.Test.YtdbgoekemffimaaSSz
namespace Go.Proofs.Ytdbgoekemffimaa
set_option linter.unusedVariables false
set_option linter.unusedSimpArgs false
open Go.ChangeShapes Go.WideShapes Go.ChangeAt Go.RowKit

/-- a book of its own -/
def OwnB (w : World) (v : Value) (b : BookD) (F : List Nat) : Prop :=
  ∃ gv dv ev Ft Fd, v = .agg #[.int .i64 b.order.start, gv, dv, ev, .int .i64 b.state] ∧ OwnT w 0 (.agg #[.int .i64 b.order.start, gv, dv]) b.order Ft ∧ OwnI w 0 ev b.done Fd ∧ b.done.length ≤ 1048576 ∧ (Lit.int .i64 b.state).wf = true ∧ F = Ft ++ Fd ∧ F.Nodup
def rBook (v : Value) (b : BookD) : HRes where
  at_ w F := OwnB w v b F
  keep w w' F h hk := by
    obtain ⟨gv, dv, ev, Ft, Fd, e, h1, h2, h3, h4, rfl, h5⟩ := h
    exact ⟨gv, dv, ev, Ft, Fd, e, h1.keep fun b hb => hk b (List.mem_append_left _ hb), h2.keep fun b hb => hk b (List.mem_append_right _ hb), h3, h4, rfl, h5⟩
  lt w F h b hb := by
    obtain ⟨gv, dv, ev, Ft, Fd, e, h1, h2, h3, h4, rfl, h5⟩ := h
    rcases List.mem_append.1 hb with hb | hb
    · exact (h1.lt b hb).2
    · exact (h2.lt b hb).2
  nd w F h := by obtain ⟨gv, dv, ev, Ft, Fd, e, h1, h2, h3, h4, rfl, h5⟩ := h; exact h5
def szB (b : BookD) : Nat := szT b.order + b.done.length
section
variable {w W W' : World} {L : List HRes}
/-- a task and a row of numbers as a book -/
theorem St.book {s st : Int} {gv dv ev : Value} {goal done : List Int} {ds : List DeedD} (h : St w W (rTask (.agg #[.int .i64 s, gv, dv]) ⟨s, goal, ds⟩ :: rInts ev done :: L)) (hd : done.length ≤ 1048576) (hs : (Lit.int .i64 st).wf = true) :
    St w W (rBook (.agg #[.int .i64 s, gv, dv, ev, .int .i64 st]) ⟨⟨s, goal, ds⟩, done, st⟩ :: L) :=
  h.join fun F G h1 h2 hn hlo => ⟨gv, dv, ev, F, G, rfl, h1.1, h2, hd, hs, rfl, hn⟩
theorem OwnB.rd {v : Value} {b : BookD} {F : List Nat} (h : OwnB W v b F) : RdB W W.heap.size v b := by
  obtain ⟨gv, dv, ev, Ft, Fd, rfl, h1, h2, h3, h4, rfl, h5⟩ := h
  obtain ⟨A, n, c, A', n', c', e, a1, a2, a3, a4⟩ := h1.rd
  obtain ⟨A2, c2, rfl, b1⟩ := h2.rd
  simp only [Value.agg.injEq, Array.mk.injEq, List.cons.injEq, and_true, true_and] at e
  obtain ⟨rfl, rfl⟩ := e
  exact ⟨A, n, c, A', n', c', A2, _, c2, rfl, a1, a2, a3, a4, b1, h3, h4⟩
theorem St.rdB (S : St w W L) (i : Nat) {v : Value} {b : BookD} (hi : L[i]? = some (rBook v b)) : RdB W W.heap.size v b := by
  obtain ⟨F, h, -⟩ := S.get i hi; exact h.rd
theorem Sn.rdB {M : Nat → Option HRes} (h : Sn w W M) (k : Nat) {v : Value} {b : BookD} (hk : M k = some (rBook v b)) : RdB W W.heap.size v b := by
  obtain ⟨F, h1, -⟩ := h.get k hk; exact h1.rd
theorem RdBM.form {M B : Nat} {v : Value} {b : BookD} (h : RdBM M w B v b) : ∃ A n c A' n' c' A2 n2 c2, v = .agg #[.int .i64 b.order.start, .slice A n c, .slice A' n' c', .slice A2 n2 c2, .int .i64 b.state] := by
  obtain ⟨A, n, c, A', n', c', A2, n2, c2, e, -⟩ := h
  exact ⟨A, n, c, A', n', c', A2, n2, c2, e⟩
theorem St.formB (S : St w W L) (i : Nat) {v : Value} {b : BookD} (hi : L[i]? = some (rBook v b)) : ∃ A n c A' n' c' A2 n2 c2, v = .agg #[.int .i64 b.order.start, .slice A n c, .slice A' n' c', .slice A2 n2 c2, .int .i64 b.state] := (S.rdB i hi).form
/-- a book's order -/
theorem RdBM.order {M B : Nat} {s st : Int} {x y z : Value} {b : BookD} (h : RdBM M w B (.agg #[.int .i64 s, x, y, z, .int .i64 st]) b) : RdTM M w B (.agg #[.int .i64 s, x, y]) b.order := by
  obtain ⟨A, n, c, A', n', c', A2, n2, c2, e, h1, h2, h3, h4, h5, h6, h7⟩ := h
  simp only [Value.agg.injEq, Array.mk.injEq, List.cons.injEq, Value.int.injEq, true_and, and_true] at e
  obtain ⟨rfl, rfl, rfl, rfl, rfl⟩ := e
  exact ⟨A, n, c, A', n', c', rfl, h1, h2, h3, h4⟩
theorem RdBM.done {M B : Nat} {s st : Int} {x y : Value} {A : Option Addr} {n c : Nat} {b : BookD} (h : RdBM M w B (.agg #[.int .i64 s, x, y, .slice A n c, .int .i64 st]) b) : RdI .i64 w B A n c b.done ∧ n ≤ M ∧ (Lit.int .i64 b.state).wf = true ∧ st = b.state ∧ s = b.order.start := by
  obtain ⟨A, n, c, A', n', c', A2, n2, c2, e, h1, h2, h3, h4, h5, h6, h7⟩ := h
  simp only [Value.agg.injEq, Array.mk.injEq, List.cons.injEq, Value.int.injEq, true_and, and_true, Value.slice.injEq] at e
  obtain ⟨rfl, -, -, ⟨rfl, rfl, rfl⟩, rfl⟩ := e
  exact ⟨h5, h6, h7, rfl, rfl⟩
theorem RdBM.less {M M' B : Nat} {v : Value} {b : BookD} (h : RdBM M w B v b) (hs : szB b ≤ M') : RdBM M' w B v b := by
  unfold szB at hs
  obtain ⟨A, n, c, A', n', c', A2, n2, c2, e, h1, h2, h3, h4, h5, h6, h7⟩ := h
  have ht : RdTM M w B (.agg #[.int .i64 b.order.start, .slice A n c, .slice A' n' c']) b.order := ⟨A, n, c, A', n', c', rfl, h1, h2, h3, h4⟩
  obtain ⟨A, n, c, A', n', c', e', h1, h2, h3, h4⟩ := ht.less (M' := M') (by omega)
  simp only [Value.agg.injEq, Array.mk.injEq, List.cons.injEq, Value.int.injEq, true_and, and_true, Value.slice.injEq] at e'
  obtain ⟨⟨rfl, rfl, rfl⟩, rfl, rfl, rfl⟩ := e'
  have := h5.len
  exact ⟨_, _, _, _, _, _, A2, n2, c2, e, h1, h2, h3, h4, h5, by omega, h7⟩
end
def mkB (b : BookD) : Nat := mkT b.order + b.done.length
def markB (k : Nat) (b : BookD) : BookD := ⟨markT k b.order, marks (k + mkT b.order) b.done.length, b.state⟩
theorem mkB_le (b : BookD) : mkB b ≤ 4 * szB b := by unfold mkB szB; have := mkT_le b.order; omega

theorem OwnT.foot_eq {v : Value} {t : TaskD} {F F' : List Nat} {w : World} (h1 : OwnT w 0 v t F) (g1 : OwnT w 0 v t F') : F' = F := by
  obtain ⟨gv, dv, Fg, Fd, cells, Fs, e1, a1, a2, a3, a4, a5⟩ := h1
  obtain ⟨gv', dv', Fg', Fd', cells', Fs', e1', b1, b2, b3, b4, b5⟩ := g1
  rw [e1] at e1'
  simp only [Value.agg.injEq, Array.mk.injEq, List.cons.injEq, and_true, true_and] at e1'
  obtain ⟨rfl, rfl⟩ := e1'
  have hc : cells' = cells := own_unique b3.row a3.row
  have hg : Fg' = Fg := by rw [b1.foot, a1.foot]
  subst hc hg
  have hfs : Fs' = Fs := by
    refine List.ext_getElem? fun j => ?_
    by_cases hj : j < t.deeds.length
    · have x1 : Fs'[j]? = some (Fs'[j]'(by rw [b3.flen]; exact hj)) := List.getElem?_eq_getElem _
      have x2 : Fs[j]? = some (Fs[j]'(by rw [a3.flen]; exact hj)) := List.getElem?_eq_getElem _
      obtain ⟨n1, q1, _, _, _, q2, _⟩ := b3.deed j _ _ (List.getElem?_eq_getElem hj) x1
      obtain ⟨n2, r1, _, _, _, r2, _⟩ := a3.deed j _ _ (List.getElem?_eq_getElem hj) x2
      rw [q1] at r1
      injection r1 with r1
      subst r1
      rw [x1, x2, q2.foot, r2.foot]
    · rw [List.getElem?_eq_none (by rw [b3.flen]; omega), List.getElem?_eq_none (by rw [a3.flen]; omega)]
  subst hfs
  rw [b4, a4, b3.foot, a3.foot]
theorem OwnB.foot_eq {v : Value} {b : BookD} {F F' : List Nat} {w : World} (h1 : OwnB w v b F) (g1 : OwnB w v b F') : F' = F := by
  obtain ⟨gv, dv, ev, Ft, Fd, rfl, h1, h2, h3, h4, rfl, h5⟩ := h1
  obtain ⟨gv', dv', ev', Ft', Fd', e, g1, g2, g3, g4, rfl, g5⟩ := g1
  simp only [Value.agg.injEq, Array.mk.injEq, List.cons.injEq, and_true, true_and] at e
  obtain ⟨rfl, rfl, rfl⟩ := e
  rw [h1.foot_eq g1, g2.foot, h2.foot]
end Go.Proofs.Ytdbgoekemffimaa
