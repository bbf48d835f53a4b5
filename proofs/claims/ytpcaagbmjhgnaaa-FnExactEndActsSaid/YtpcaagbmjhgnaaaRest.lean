/- taskFrom and RestFor, of the program and of the reference. -/
import Derived.Test.YtpcaagbmjhgnaaaPlanForS
import Derived.Test.YtpcaagbmjhgnaaaBValid
namespace Go.Proofs.Ytpcaagbmjhgnaaa
set_option linter.unusedVariables false
open Go.ChangeShapes Go.WideShapes Go.ChangeAt Go.RowKit

/-- the task of a book that begins with its state -/
def taskFrom (b : BookD) : TaskD := ⟨b.state, b.order.goal, b.order.deeds⟩
def restFor (b : BookD) : Option (List Int) := if bookOk b then planFor (taskFrom b) else none
theorem restFor_no (b : BookD) (h : bookOk b = false) : restFor b = none := if_neg (by rw [h]; simp)
theorem restFor_yes (b : BookD) (h : bookOk b = true) : restFor b = planFor (taskFrom b) := if_pos h
theorem RdBM.from_ {w : World} {B : Nat} {s st : Int} {x y z : Value} {b : BookD} (h : RdBM 1048576 w B (.agg #[.int .i64 s, x, y, z, .int .i64 st]) b) (hst : st = b.state) : RdTM 1048576 w B (.agg #[.int .i64 st, x, y]) (taskFrom b) := by
  obtain ⟨A, n, c, A', n', c', e, h1, h2, h3, h4⟩ := h.order
  simp only [Value.agg.injEq, Array.mk.injEq, List.cons.injEq, and_true, true_and] at e
  obtain ⟨-, rfl, rfl⟩ := e
  obtain ⟨A2, n2, c2, A3, n3, c3, A4, n4, c4, e⟩ := h.form
  simp only [Value.agg.injEq, Array.mk.injEq, List.cons.injEq, and_true, true_and] at e
  obtain ⟨-, -, -, rfl, -⟩ := e
  subst hst
  exact ⟨A, n, c, A', n', c', rfl, h1, h2, h3, h.done.2.2.1⟩
set_option maxRecDepth 100000 in
theorem taskFrom_any (s st : Int) (A : Option Addr) (n c : Nat) (A' : Option Addr) (n' c' : Nat) (A2 : Option Addr) (n2 c2 : Nat) (w : World) :
    Calls Try.prog 131 #[.agg #[.int .i64 s, .slice A n c, .slice A' n' c', .slice A2 n2 c2, .int .i64 st]] w fun e w' => e = .returned (.agg #[.int .i64 st, .slice A n c, .slice A' n' c']) ∧ Below w.heap.size w w' := by
  go_enter Try.func131, Try.ntmps131
  go_wp2
  refine bodyPost_ret (v := .agg #[.int .i64 st, .slice A n c, .slice A' n' c']) (by simp [results, Try.results131, go_sem]) rfl ⟨rfl, ?_⟩
  repeat' (first | with_reducible exact Below.refl _ _ | with_reducible refine Below.setCell ?_ ?_ _ | with_reducible refine Below.alloc ?_ ?_ _)
  all_goals (simp; try omega)
set_option maxRecDepth 100000 in
theorem restFor_impl (v : Value) (b : BookD) (w : World) (h : RdB w w.heap.size v b) :
    Calls Try.prog 66 #[v] w (Gives w (fun v => .tuple #[v, .bool (restFor b).isSome]) fun v => [rInts v ((restFor b).getD [])]) := by
  have h' := h
  obtain ⟨A, n, c, A', n', c', A2, n2, c2, hv⟩ := h.form
  subst hv
  have S0 := (St.refl w).alloc #[.int .i64 b.order.start, .slice A n c, .slice A' n' c', .slice A2 n2 c2, .int .i64 b.state] 48
  have HB := Lib.hid h'
  have HS0 := Lib.hid S0
  clear S0 h h'
  obtain ⟨bo, hok⟩ : ∃ x, bookOk b = x := ⟨_, rfl⟩
  have HOK := Lib.hid hok
  clear hok
  cases bo with
  | false =>
    have HN := Bx.mk (restFor_no b HOK.out)
    go_enter Try.func66, Try.ntmps66
    go_wp2_with fail
    refine (bookValid_impl _ b _ (HB.out.up HS0.out.below)).mono ?_
    rw [HOK.out]
    rintro e w1 ⟨rfl, hb1⟩
    have HBE := Lib.hid (HS0.out.quiet hb1).below
    clear hb1
    go_wp2
    refine bodyPost_ret (v := .tuple #[.slice none 0 0, .bool false]) (by simp [results, Try.results66, go_sem]) rfl ⟨.slice none 0 0, by rw [HN.out]; rfl, ?_⟩
    rw [HN.out]
    exact rInts_nil w _ HBE.out
  | true =>
    have HY := Bx.mk (restFor_yes b HOK.out)
    go_enter Try.func66, Try.ntmps66
    go_wp2_with fail
    refine (bookValid_impl _ b _ (HB.out.up HS0.out.below)).mono ?_
    rw [HOK.out]
    rintro e w1 ⟨rfl, hb1⟩
    have HS1 := Lib.hid (HS0.out.quiet hb1)
    have q1 : ∀ j, w1.cell? ⟨w.heap.size, j, none⟩ = _ := HS1.out.cells 0 rfl
    clear hb1
    go_wp2_with fail
    refine (taskFrom_any b.order.start b.state A n c A' n' c' A2 n2 c2 _).mono ?_
    rintro e w2 ⟨rfl, hb2⟩
    have HS2 := Lib.hid (HS1.out.quiet hb2)
    clear hb2 q1
    go_wp2_with fail
    refine (planFor_impl _ (taskFrom b) _ ((HB.out.from_ rfl).up HS2.out.below)).mono ?_
    rintro e w3 ⟨v3, rfl, s3⟩
    have HS3 := Lib.hid (HS2.out.call s3)
    clear s3
    go_wp2
    refine bodyPost_ret (v := .tuple #[v3, .bool (planFor (taskFrom b)).isSome]) (by simp [results, Try.results66, go_sem]) rfl ⟨v3, by rw [HY.out], ?_⟩
    rw [HY.out]
    exact HS3.out.pick [1] (by decide) rfl rfl
set_option maxRecDepth 100000 in
theorem restFor_spec (v : Value) (b : BookD) (w : World) (h : RdB w w.heap.size v b) :
    Calls Try.prog 65 #[v] w (Gives w (fun v => .tuple #[v, .bool (restFor b).isSome]) fun v => [rInts v ((restFor b).getD [])]) := by
  have h' := h
  obtain ⟨A, n, c, A', n', c', A2, n2, c2, hv⟩ := h.form
  subst hv
  have S0 := (St.refl w).alloc #[.int .i64 b.order.start, .slice A n c, .slice A' n' c', .slice A2 n2 c2, .int .i64 b.state] 48
  have HB := Lib.hid h'
  have HS0 := Lib.hid S0
  clear S0 h h'
  obtain ⟨bo, hok⟩ : ∃ x, bookOk b = x := ⟨_, rfl⟩
  have HOK := Lib.hid hok
  clear hok
  cases bo with
  | false =>
    have HN := Bx.mk (restFor_no b HOK.out)
    go_enter Try.func65, Try.ntmps65
    go_wp2_with fail
    refine (bookValid_spec _ b _ (HB.out.up HS0.out.below)).mono ?_
    rw [HOK.out]
    rintro e w1 ⟨rfl, hb1⟩
    have HS1 := Lib.hid ((HS0.out.quiet hb1).call (St.newI w1 _ rfl))
    clear hb1
    go_wp2
    refine bodyPost_ret (v := .tuple #[.slice (some ⟨w1.heap.size, 0, none⟩) 0 0, .bool false]) (by simp [results, Try.results65, go_sem]) rfl ⟨.slice (some ⟨w1.heap.size, 0, none⟩) 0 0, by rw [HN.out]; rfl, ?_⟩
    rw [HN.out]
    exact HS1.out.pick [1] (by decide) rfl rfl
  | true =>
    have HY := Bx.mk (restFor_yes b HOK.out)
    go_enter Try.func65, Try.ntmps65
    go_wp2_with fail
    refine (bookValid_spec _ b _ (HB.out.up HS0.out.below)).mono ?_
    rw [HOK.out]
    rintro e w1 ⟨rfl, hb1⟩
    have HS1 := Lib.hid (HS0.out.quiet hb1)
    have q1 : ∀ j, w1.cell? ⟨w.heap.size, j, none⟩ = _ := HS1.out.cells 0 rfl
    clear hb1
    go_wp2_with fail
    refine (planFor_spec _ (taskFrom b) _ ((HB.out.from_ rfl).up HS1.out.below)).mono ?_
    rintro e w3 ⟨v3, rfl, s3⟩
    have HS3 := Lib.hid (HS1.out.call s3)
    clear s3
    go_wp2
    refine bodyPost_ret (v := .tuple #[v3, .bool (planFor (taskFrom b)).isSome]) (by simp [results, Try.results65, go_sem]) rfl ⟨v3, by rw [HY.out], ?_⟩
    rw [HY.out]
    exact HS3.out.pick [1] (by decide) rfl rfl
end Go.Proofs.Ytpcaagbmjhgnaaa
