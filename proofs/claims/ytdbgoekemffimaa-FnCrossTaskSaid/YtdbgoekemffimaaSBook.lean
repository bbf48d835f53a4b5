/- Joined texts: Book, BookNew, StepsLeast, PlanForS, BValid, Rest. -/
import Derived.Test.YtdbgoekemffimaaSSz
import Derived.Test.YtdbgoekemffimaaSCopy
import Derived.Test.YtdbgoekemffimaaSSteps
import Derived.Test.YtdbgoekemffimaaSPlanForW
import Derived.Test.YtdbgoekemffimaaSPlanW
/- Books in memory; the laws' helpers for books: toBook, eqBook, szBook, markBook, heldBook. -/
namespace Go.Proofs.Ytdbgoekemffimaa
set_option linter.unusedVariables false
set_option linter.unusedSimpArgs false
open Go.ChangeShapes Go.WideShapes Go.ChangeAt Go.RowKit

/-- a book of its own -/
def OwnB (w : World) (v : Value) (b : BookD) (F : List Nat) : Prop :=
  ∃ gv dv ev Ft Fd, v = .agg #[.int .i64 b.order.start, gv, dv, ev, .int .i64 b.state] ∧ OwnT w 0 (.agg #[.int .i64 b.order.start, gv, dv]) b.order Ft ∧ OwnI w 0 ev b.done Fd ∧ b.done.length ≤ 1048576 ∧ (Lit.int .i64 b.state).wf = true ∧ F = Ft ++ Fd ∧ F.Nodup
def rBook (v : Value) (b : BookD) : HRes where
  at_ w F := OwnB w v b F
  keep w w' F h hk := by
    obtain ⟨gv, dv, ev, Ft, Fd, e, h1, h2, h3, h4, rfl, h5⟩ := h
    exact ⟨gv, dv, ev, Ft, Fd, e, h1.keep fun b hb => hk b (List.mem_append_left _ hb), h2.keep fun b hb => hk b (List.mem_append_right _ hb), h3, h4, rfl, h5⟩
  lt w F h b hb := by
    obtain ⟨gv, dv, ev, Ft, Fd, e, h1, h2, h3, h4, rfl, h5⟩ := h
    rcases List.mem_append.1 hb with hb | hb
    · exact (h1.lt b hb).2
    · exact (h2.lt b hb).2
  nd w F h := by obtain ⟨gv, dv, ev, Ft, Fd, e, h1, h2, h3, h4, rfl, h5⟩ := h; exact h5
def szB (b : BookD) : Nat := szT b.order + b.done.length
section
variable {w W W' : World} {L : List HRes}
/-- a task and a row of numbers as a book -/
theorem St.book {s st : Int} {gv dv ev : Value} {goal done : List Int} {ds : List DeedD} (h : St w W (rTask (.agg #[.int .i64 s, gv, dv]) ⟨s, goal, ds⟩ :: rInts ev done :: L)) (hd : done.length ≤ 1048576) (hs : (Lit.int .i64 st).wf = true) :
    St w W (rBook (.agg #[.int .i64 s, gv, dv, ev, .int .i64 st]) ⟨⟨s, goal, ds⟩, done, st⟩ :: L) :=
  h.join fun F G h1 h2 hn hlo => ⟨gv, dv, ev, F, G, rfl, h1.1, h2, hd, hs, rfl, hn⟩
theorem OwnB.rd {v : Value} {b : BookD} {F : List Nat} (h : OwnB W v b F) : RdB W W.heap.size v b := by
  obtain ⟨gv, dv, ev, Ft, Fd, rfl, h1, h2, h3, h4, rfl, h5⟩ := h
  obtain ⟨A, n, c, A', n', c', e, a1, a2, a3, a4⟩ := h1.rd
  obtain ⟨A2, c2, rfl, b1⟩ := h2.rd
  simp only [Value.agg.injEq, Array.mk.injEq, List.cons.injEq, and_true, true_and] at e
  obtain ⟨rfl, rfl⟩ := e
  exact ⟨A, n, c, A', n', c', A2, _, c2, rfl, a1, a2, a3, a4, b1, h3, h4⟩
theorem RdBM.form {M B : Nat} {v : Value} {b : BookD} (h : RdBM M w B v b) : ∃ A n c A' n' c' A2 n2 c2, v = .agg #[.int .i64 b.order.start, .slice A n c, .slice A' n' c', .slice A2 n2 c2, .int .i64 b.state] := by
  obtain ⟨A, n, c, A', n', c', A2, n2, c2, e, -⟩ := h
  exact ⟨A, n, c, A', n', c', A2, n2, c2, e⟩
/-- a book's order -/
theorem RdBM.order {M B : Nat} {s st : Int} {x y z : Value} {b : BookD} (h : RdBM M w B (.agg #[.int .i64 s, x, y, z, .int .i64 st]) b) : RdTM M w B (.agg #[.int .i64 s, x, y]) b.order := by
  obtain ⟨A, n, c, A', n', c', A2, n2, c2, e, h1, h2, h3, h4, h5, h6, h7⟩ := h
  simp only [Value.agg.injEq, Array.mk.injEq, List.cons.injEq, Value.int.injEq, true_and, and_true] at e
  obtain ⟨rfl, rfl, rfl, rfl, rfl⟩ := e
  exact ⟨A, n, c, A', n', c', rfl, h1, h2, h3, h4⟩
theorem RdBM.done {M B : Nat} {s st : Int} {x y : Value} {A : Option Addr} {n c : Nat} {b : BookD} (h : RdBM M w B (.agg #[.int .i64 s, x, y, .slice A n c, .int .i64 st]) b) : RdI .i64 w B A n c b.done ∧ n ≤ M ∧ (Lit.int .i64 b.state).wf = true ∧ st = b.state ∧ s = b.order.start := by
  obtain ⟨A, n, c, A', n', c', A2, n2, c2, e, h1, h2, h3, h4, h5, h6, h7⟩ := h
  simp only [Value.agg.injEq, Array.mk.injEq, List.cons.injEq, Value.int.injEq, true_and, and_true, Value.slice.injEq] at e
  obtain ⟨rfl, -, -, ⟨rfl, rfl, rfl⟩, rfl⟩ := e
  exact ⟨h5, h6, h7, rfl, rfl⟩
theorem RdBM.less {M M' B : Nat} {v : Value} {b : BookD} (h : RdBM M w B v b) (hs : szB b ≤ M') : RdBM M' w B v b := by
  unfold szB at hs
  obtain ⟨A, n, c, A', n', c', A2, n2, c2, e, h1, h2, h3, h4, h5, h6, h7⟩ := h
  have ht : RdTM M w B (.agg #[.int .i64 b.order.start, .slice A n c, .slice A' n' c']) b.order := ⟨A, n, c, A', n', c', rfl, h1, h2, h3, h4⟩
  obtain ⟨A, n, c, A', n', c', e', h1, h2, h3, h4⟩ := ht.less (M' := M') (by omega)
  simp only [Value.agg.injEq, Array.mk.injEq, List.cons.injEq, Value.int.injEq, true_and, and_true, Value.slice.injEq] at e'
  obtain ⟨⟨rfl, rfl, rfl⟩, rfl, rfl, rfl⟩ := e'
  have := h5.len
  exact ⟨_, _, _, _, _, _, A2, n2, c2, e, h1, h2, h3, h4, h5, by omega, h7⟩
end
def mkB (b : BookD) : Nat := mkT b.order + b.done.length
def markB (k : Nat) (b : BookD) : BookD := ⟨markT k b.order, marks (k + mkT b.order) b.done.length, b.state⟩
end Go.Proofs.Ytdbgoekemffimaa

/- BookNew of the program and of the reference: each returns one plain book, for every task. -/
namespace Go.Proofs.Ytdbgoekemffimaa
set_option linter.unusedVariables false
set_option linter.unusedSimpArgs false
open Go.ChangeShapes Go.WideShapes Go.ChangeAt Go.RowKit

def bookNew (t : TaskD) : BookD := if taskOk t then ⟨t, [], t.start⟩ else ⟨⟨0, [], []⟩, [], 0⟩
/-- a row of numbers behind an append -/
theorem Sn.appI {w W W' : World} {M : Nat → Option HRes} (h : Sn w W M) (k : Nat) {v v' : Value} {xs ys : List Int} {n : Nat} (hk : M k = some (rInts v xs)) (hn : n = xs.length + ys.length) (hown : W'.ownsRow 0 3 1 v' n (ints xs ++ ints ys)) (hwf : ∀ y ∈ ys, (Lit.int .i64 y).wf = true)
    (hg : W.grownBy W' v.ownBlock) (hat : v'.ownBlock = v.ownBlock ∨ v'.ownBlock = some W.heap.size) : Sn w W' (fun i => if i = k then some (rInts v' (xs ++ ys)) else M i) :=
  h.mod k hk fun F h1 _ => ⟨v'.ownBlock.toList, ⟨by subst hn; rw [List.length_append, ints_append]; exact hown, fun x hx => (List.mem_append.1 hx).elim (h1.wf x) (hwf x), rfl⟩, fun b hb => by
    rcases hat with e | e
    · left; rw [h1.foot, ← e]; exact hb
    · right; rw [e] at hb; simp at hb; omega, by rw [h1.foot]; exact Only.of_grown hg⟩
theorem St.newI (W : World) (g : Nat) (hg : g = W.heap.size) : St W (W.alloc (.cells #[] 3)) [rInts (.slice (some ⟨g, 0, none⟩) 0 0) []] :=
  (St.new1At W g #[] 3 hg).see fun F h _ => blk_ints (xs := []) h (by simp) (by simp) rfl
theorem St.newDs (W : World) (g : Nat) (hg : g = W.heap.size) : St W (W.alloc (.cells #[] 44)) [rDeeds (.slice (some ⟨g, 0, none⟩) 0 0) []] :=
  (St.new1At W g #[] 44 hg).see fun F h _ => blk_deeds h
end Go.Proofs.Ytdbgoekemffimaa

/- StepsLeast of the reference. -/
namespace Go.Proofs.Ytdbgoekemffimaa
set_option linter.unusedVariables false
set_option linter.unusedSimpArgs false
open Go.ChangeShapes Go.WideShapes Go.ChangeAt Go.RowKit

/-- what is met in the round m -/
def newP (ds : List DeedD) (p : Nat → Bool) : Nat → Nat → Bool
  | 0, s => p s
  | m + 1, s => freshP ds p m s
/-- what stands ahead of the round m -/
def prvN (ds : List DeedD) (p : Nat → Bool) : Nat → Nat → Int
  | 0, _ => -1
  | m + 1, s => stpN ds p m s
/-- what the last loop of a round counts up -/
def nextP (ds : List DeedD) (p : Nat → Bool) (m : Nat) : Nat → Bool := newP ds p (m + 1)
def stepsLeastR (t : TaskD) : List Int := if taskOk t then stepsL t.deeds (evalCode t.goal) else []
end Go.Proofs.Ytdbgoekemffimaa

/- PlanFor of the reference. -/
namespace Go.Proofs.Ytdbgoekemffimaa
set_option linter.unusedVariables false
set_option linter.unusedSimpArgs false
open Go.ChangeShapes Go.WideShapes Go.ChangeAt Go.RowKit

end Go.Proofs.Ytdbgoekemffimaa

/- BookValid and BookEnded, of the program and of the reference: each returns one plain function, for every book. -/
namespace Go.Proofs.Ytdbgoekemffimaa
set_option linter.unusedVariables false
set_option linter.unusedSimpArgs false
open Go.ChangeShapes Go.WideShapes Go.ChangeAt Go.RowKit

def bookOk (b : BookD) : Bool := taskOk b.order && decide (b.done.length ≤ 40) && stIn b.state && (planRun b.order b.order.start b.done == b.state)
theorem planRun_bd (t : TaskD) (s : Int) (p : List Int) : (0 ≤ planRun t s p → taskOk t = true ∧ stIn s = true ∧ p.length ≤ 40 ∧ planRun t s p < 32) ∧ -1 ≤ planRun t s p := by
  unfold planRun
  split
  · rename_i h
    obtain ⟨h1, h2, h3⟩ := h
    cases hr : runP t s.toNat p with
    | none => simp [opt]
    | some s' =>
      have := runP_lt t s.toNat p s' h1 (by have := (stIn_iff s).1 h2; omega) hr
      simp only [opt]
      exact ⟨fun _ => ⟨h1, h2, h3, by omega⟩, by omega⟩
  · exact ⟨fun h => absurd h (by omega), by omega⟩
/-- codes that run -/
def codeRun (xs : List Int) (s : Int) : Bool := codeOk xs && stIn s && evalCode xs s.toNat
def bookEnded (b : BookD) : Bool := bookOk b && evalCode b.order.goal b.state.toNat
section
variable {w : World}
end
end Go.Proofs.Ytdbgoekemffimaa

/- taskFrom and RestFor, of the program and of the reference. -/
namespace Go.Proofs.Ytdbgoekemffimaa
set_option linter.unusedVariables false
set_option linter.unusedSimpArgs false
open Go.ChangeShapes Go.WideShapes Go.ChangeAt Go.RowKit

/-- the task of a book that begins with its state -/
def taskFrom (b : BookD) : TaskD := ⟨b.state, b.order.goal, b.order.deeds⟩
def restFor (b : BookD) : Option (List Int) := if bookOk b then planFor (taskFrom b) else none
theorem restFor_no (b : BookD) (h : bookOk b = false) : restFor b = none := if_neg (by rw [h]; simp)
theorem restFor_yes (b : BookD) (h : bookOk b = true) : restFor b = planFor (taskFrom b) := if_pos h
end Go.Proofs.Ytdbgoekemffimaa
