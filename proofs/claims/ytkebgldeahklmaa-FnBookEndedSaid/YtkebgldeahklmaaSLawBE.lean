/- The walk of the law FnBookEnded: true for every drawn code. Printed by gen_drawb.py. -/
import Derived.Test.YtkebgldeahklmaaSDraws
import Derived.Test.YtkebgldeahklmaaSGraphV
import Derived.Test.YtkebgldeahklmaaSIntS
import Derived.Test.YtkebgldeahklmaaSBValid
import Derived.Test.YtkebgldeahklmaaSRest
import Derived.Test.YtkebgldeahklmaaSDoP
namespace Go.Proofs.Ytkebgldeahklmaa
set_option linter.unusedVariables false
set_option linter.unusedSimpArgs false
open Go.ChangeShapes Go.WideShapes Go.ChangeAt Go.RowKit

theorem ended_rest (b : BookD) : bookEnded b = ((restFor b).isSome && decide (((restFor b).getD []).length = 0)) := by
  unfold bookEnded
  cases hb : bookOk b with
  | false => rw [restFor_no b hb]; rfl
  | true =>
    obtain ⟨h1, -, h3, -⟩ := bookOk_parts hb
    have hk := taskOk_from h1 h3
    rw [restFor_yes b hb, Bool.true_and]
    cases hp : planFor (taskFrom b) with
    | none =>
      unfold planFor at hp
      rw [if_pos hk] at hp
      unfold planOf at hp
      split at hp
      · next hneg =>
        cases he : evalCode b.order.goal b.state.toNat with
        | false => rfl
        | true =>
          have : stpV (taskFrom b).deeds (evalCode (taskFrom b).goal) (taskFrom b).start.toNat = 0 := stpV_zero.2 he
          omega
      · cases hp
    | some p =>
      have hl := (planFor_some hp).2.1
      simp only [Option.isSome_some, Option.getD_some, Bool.true_and]
      cases he : evalCode b.order.goal b.state.toNat with
      | true =>
        have : stpV (taskFrom b).deeds (evalCode (taskFrom b).goal) (taskFrom b).start.toNat = 0 := stpV_zero.2 he
        exact (decide_eq_true (by omega)).symm
      | false =>
        refine (decide_eq_false fun h0 => ?_).symm
        have : evalCode (taskFrom b).goal (taskFrom b).start.toNat = true := (stpV_zero (ds := (taskFrom b).deeds) (S := evalCode (taskFrom b).goal) (s := (taskFrom b).start.toNat)).1 (by omega)
        rw [show (taskFrom b).goal = b.order.goal from rfl, show (taskFrom b).start = b.state from rfl, he] at this
        cases this
set_option maxRecDepth 100000 in
set_option maxHeartbeats 1000000 in
theorem FnBookEnded_walk (A : Option Addr) (n c : Nat) (xs : List Int) (w : World) (h : RdI .u8 w w.heap.size A n c xs) :
    Calls Try.prog 3 #[.slice A n c] w fun e w' => e = .returned (.bool true) ∧ Below w.heap.size w w' := by
  have hcap := h.cap
  have hmax := h.capMax
  unfold maxLen at hmax
  have H := Lib.hid h
  clear h
  by_cases hn : n ≤ 1048576
  case neg =>
    go_enter Try.func3, Try.ntmps3
    go_wp2
    go_ret
    exact ⟨rfl, Below.refl _ _⟩
  go_enter Try.func3, Try.ntmps3
  go_wp2_with fail
  refine (drawBookEnded A n c xs _ H.out).mono ?_
  rintro e w1 ⟨v1, b, rfl, s1⟩
  obtain ⟨A1, n1, c1, A2, n2, c2, A3, n3, c3, hv⟩ := s1.formB 0 rfl
  obtain ⟨os, hos⟩ : ∃ x, b.order.start = x := ⟨_, rfl⟩
  obtain ⟨st, hst⟩ : ∃ x, b.state = x := ⟨_, rfl⟩
  have HOS := Bx.mk hos
  have HST := Bx.mk hst
  rw [hos, hst] at hv
  subst hv
  have HS1 : Hid (St w (w1.alloc (.cells #[.int .i64 os, .slice A1 n1 c1, .slice A2 n2 c2, .slice A3 n3 c3, .int .i64 st] 28)) [rBook (.agg #[.int .i64 os, .slice A1 n1 c1, .slice A2 n2 c2, .slice A3 n3 c3, .int .i64 st]) b, rBlk w1.heap.size 28 #[.int .i64 os, .slice A1 n1 c1, .slice A2 n2 c2, .slice A3 n3 c3, .int .i64 st]]) := Lib.hid (s1.alloc _ _)
  clear s1 hos hst
  obtain ⟨be, hbe⟩ : ∃ x, bookEnded b = x := ⟨_, rfl⟩
  have HBE := Bx.mk hbe
  obtain ⟨rs, hrs⟩ : ∃ x, (restFor b).isSome = x := ⟨_, rfl⟩
  have HRS := Bx.mk hrs
  obtain ⟨rest, hrest⟩ : ∃ x, (restFor b).getD [] = x := ⟨_, rfl⟩
  have HRE := Bx.mk hrest
  obtain ⟨rl, hrl⟩ : ∃ x, rest.length = x := ⟨_, rfl⟩
  have HRL := Bx.mk hrl
  have hfin : be = (rs && decide (rl = 0)) := by rw [← hbe, ended_rest, hrs, hrest, hrl]
  clear hbe hrs hrest hrl
  have HFIN := Bx.mk hfin
  clear hfin
  cases be with
  | false =>
    go_wp2_with fail
    refine (bookEnded_impl _ b _ (HS1.out.rdB 0 rfl)).mono ?_
    rw [HBE.out]
    rintro e w2 ⟨rfl, hb_w2⟩
    have HS2 := Lib.hid (HS1.out.quiet hb_w2)
    have q_w2 : ∀ j, w2.cell? ⟨w1.heap.size, j, none⟩ = _ := HS2.out.cells 1 rfl
    clear hb_w2 HS1
    go_wp2_with fail
    refine (bookEnded_spec _ b _ (HS2.out.rdB 0 rfl)).mono ?_
    rw [HBE.out]
    rintro e w3 ⟨rfl, hb_w3⟩
    have HS3 := Lib.hid (HS2.out.quiet hb_w3)
    have q_w3 : ∀ j, w3.cell? ⟨w1.heap.size, j, none⟩ = _ := HS3.out.cells 1 rfl
    clear hb_w3 HS2 q_w2
    go_wp2_with fail
    refine (restFor_impl _ b _ (HS3.out.rdB 0 rfl)).mono ?_
    rw [HRE.out, HRS.out]
    rintro e w4 ⟨v4, rfl, s4⟩
    obtain ⟨A4, c4, hv4, -⟩ := s4.rdI 0 rfl
    rw [HRL.out] at hv4
    subst hv4
    have HS4 := Lib.hid (HS3.out.call s4)
    clear s4 HS3 q_w3
    cases rs with
    | false =>
      go_wp2_with fail
      refine (alive_any _).mono ?_
      rintro e wa ⟨rfl, hba⟩
      have HSA := Lib.hid (HS4.out.quiet hba).below
      clear hba
      go_wp2
      go_ret
      exact ⟨rfl, HSA.out⟩
    | true =>
      have h0 : ¬ rl = 0 := by have h := HFIN.out; rw [Bool.true_and] at h; exact of_decide_eq_false h.symm
      have h0' : ((rl : Int) == 0) = false := by simp; exact h0
      clear h0
      go_wp2_with fail
      refine (alive_any _).mono ?_
      rintro e wa ⟨rfl, hba⟩
      have HSA := Lib.hid (HS4.out.quiet hba).below
      clear hba
      go_wp2
      go_ret
      exact ⟨rfl, HSA.out⟩
  | true =>
    go_wp2_with fail
    refine (bookEnded_impl _ b _ (HS1.out.rdB 0 rfl)).mono ?_
    rw [HBE.out]
    rintro e w2 ⟨rfl, hb_w2⟩
    have HS2 := Lib.hid (HS1.out.quiet hb_w2)
    have q_w2 : ∀ j, w2.cell? ⟨w1.heap.size, j, none⟩ = _ := HS2.out.cells 1 rfl
    clear hb_w2 HS1
    go_wp2_with fail
    refine (bookEnded_spec _ b _ (HS2.out.rdB 0 rfl)).mono ?_
    rw [HBE.out]
    rintro e w3 ⟨rfl, hb_w3⟩
    have HS3 := Lib.hid (HS2.out.quiet hb_w3)
    have q_w3 : ∀ j, w3.cell? ⟨w1.heap.size, j, none⟩ = _ := HS3.out.cells 1 rfl
    clear hb_w3 HS2 q_w2
    go_wp2_with fail
    refine (restFor_impl _ b _ (HS3.out.rdB 0 rfl)).mono ?_
    rw [HRE.out, HRS.out]
    rintro e w4 ⟨v4, rfl, s4⟩
    obtain ⟨A4, c4, hv4, -⟩ := s4.rdI 0 rfl
    rw [HRL.out] at hv4
    subst hv4
    have HS4 := Lib.hid (HS3.out.call s4)
    clear s4 HS3 q_w3
    have hrs1 : rs = true := by have h := HFIN.out; cases rs with
      | false => rw [Bool.false_and] at h; cases h
      | true => rfl
    subst hrs1
    have h0 : rl = 0 := by have h := HFIN.out; rw [Bool.true_and] at h; exact of_decide_eq_true h.symm
    have h0' : ((rl : Int) == 0) = true := by simp; exact h0
    clear h0
    go_wp2_with fail
    refine (alive_any _).mono ?_
    rintro e wa ⟨rfl, hba⟩
    have HSA := Lib.hid (HS4.out.quiet hba).below
    clear hba
    go_wp2
    go_ret
    exact ⟨rfl, HSA.out⟩
end Go.Proofs.Ytkebgldeahklmaa
