/- The walk of the law FnRestFor: true for every drawn code. Printed by gen_drawb.py. -/
import Derived.Test.YtkebgldeahklmaaSDraws
import Derived.Test.YtkebgldeahklmaaSGraphV
import Derived.Test.YtkebgldeahklmaaSIntS
import Derived.Test.YtkebgldeahklmaaSBValid
import Derived.Test.YtkebgldeahklmaaSRest
import Derived.Test.YtkebgldeahklmaaSDoP
import Derived.Test.YtkebgldeahklmaaSPlanForW
namespace Go.Proofs.Ytkebgldeahklmaa
set_option linter.unusedVariables false
set_option linter.unusedSimpArgs false
open Go.ChangeShapes Go.WideShapes Go.ChangeAt Go.RowKit

set_option maxRecDepth 100000 in
set_option maxHeartbeats 1000000 in
theorem FnRestFor_walk (A : Option Addr) (n c : Nat) (xs : List Int) (w : World) (h : RdI .u8 w w.heap.size A n c xs) :
    Calls Try.prog 4 #[.slice A n c] w fun e w' => e = .returned (.bool true) ∧ Below w.heap.size w w' := by
  have hcap := h.cap
  have hmax := h.capMax
  unfold maxLen at hmax
  have H := Lib.hid h
  clear h
  by_cases hn : n ≤ 1048576
  case neg =>
    go_enter Try.func4, Try.ntmps4
    go_wp2
    go_ret
    exact ⟨rfl, Below.refl _ _⟩
  go_enter Try.func4, Try.ntmps4
  go_wp2_with fail
  refine (drawRestFor A n c xs _ H.out).mono ?_
  rintro e w1 ⟨v1, b, rfl, s1⟩
  obtain ⟨A1, n1, c1, A2, n2, c2, A3, n3, c3, hv⟩ := s1.formB 0 rfl
  obtain ⟨os, hos⟩ : ∃ x, b.order.start = x := ⟨_, rfl⟩
  obtain ⟨st, hst⟩ : ∃ x, b.state = x := ⟨_, rfl⟩
  have HOS := Bx.mk hos
  have HST := Bx.mk hst
  rw [hos, hst] at hv
  subst hv
  have HS1 : Hid (St w (w1.alloc (.cells #[.int .i64 os, .slice A1 n1 c1, .slice A2 n2 c2, .slice A3 n3 c3, .int .i64 st] 28)) [rBook (.agg #[.int .i64 os, .slice A1 n1 c1, .slice A2 n2 c2, .slice A3 n3 c3, .int .i64 st]) b, rBlk w1.heap.size 28 #[.int .i64 os, .slice A1 n1 c1, .slice A2 n2 c2, .slice A3 n3 c3, .int .i64 st]]) := Lib.hid (s1.alloc _ _)
  clear s1 hos hst
  obtain ⟨ro, hro⟩ : ∃ x, restFor b = x := ⟨_, rfl⟩
  have HRO := Bx.mk hro
  obtain ⟨rest, hrest⟩ : ∃ x, ro.getD [] = x := ⟨_, rfl⟩
  have HRE := Bx.mk hrest
  obtain ⟨rl, hrl⟩ : ∃ x, rest.length = x := ⟨_, rfl⟩
  have HRL := Bx.mk hrl
  have HD3 : Hid (b.done.length = n3) := Lib.hid ((HS1.out.rdB 0 rfl).done).1.len
  go_wp2_with fail
  refine (restFor_impl _ b _ (HS1.out.rdB 0 rfl)).mono ?_
  rw [HRO.out, HRE.out]
  rintro e w2 ⟨v2, rfl, s2⟩
  obtain ⟨A4, c4, hv4, -⟩ := s2.rdI 0 rfl
  rw [HRL.out] at hv4
  subst hv4
  have HS2 := Lib.hid (HS1.out.call s2)
  have q2 : ∀ j, w2.cell? ⟨w1.heap.size, j, none⟩ = _ := HS2.out.cells 1 rfl
  clear s2 HS1
  go_wp2_with fail
  refine (restFor_spec _ b _ (HS2.out.rdB 0 rfl)).mono ?_
  rw [HRO.out, HRE.out]
  rintro e w3 ⟨v3, rfl, s3⟩
  obtain ⟨A5, c5, hv5, -⟩ := s3.rdI 0 rfl
  rw [HRL.out] at hv5
  subst hv5
  have HS3 := Lib.hid (HS2.out.call s3)
  have q3 : ∀ j, w3.cell? ⟨w1.heap.size, j, none⟩ = _ := HS3.out.cells 1 rfl
  clear s3 HS2 q2
  go_wp2_with fail
  refine (sameInts_any _ _ _ rest _ _ _ rest _ (HS3.out.rdI' 2 rfl) (HS3.out.rdI' 3 rfl)).mono ?_
  rw [decide_eq_true rfl]
  rintro e w4 ⟨rfl, ⟨k4, rfl⟩⟩
  have HS4 := Lib.hid (HS3.out.drewN k4)
  have q4 : ∀ j, (w3.drewN k4).cell? ⟨w1.heap.size, j, none⟩ = _ := HS4.out.cells 1 rfl
  clear HS3 q3
  cases ro with
  | none =>
    have h0 : rl = 0 := by rw [← hrl, ← hrest]; rfl
    subst h0
    clear hro hrest hrl
    simp only [Option.isSome_none] at *
    go_wp2_with fail
    refine (alive_any _).mono ?_
    rintro e wa ⟨rfl, hba⟩
    have HSA := Lib.hid (HS4.out.quiet hba).below
    clear hba
    go_wp2
    go_ret
    exact ⟨rfl, HSA.out⟩
  | some r =>
    obtain rfl : r = rest := by simpa using hrest
    obtain ⟨hok, hr31, hr0, hrg⟩ := restFor_run hro
    rw [HST.out] at hr0 hrg
    obtain ⟨z, hz⟩ : ∃ z, planRun b.order st r = z := ⟨_, rfl⟩
    have HZ := Bx.mk hz
    rw [hz] at hr0 hrg
    obtain ⟨h1, -, h3, h4⟩ := bookOk_parts hok
    have HPF : Bx (n3 = 0 → planFor b.order = some r) := Bx.mk fun h0 => by
      have hd : b.done = [] := List.eq_nil_of_length_eq_zero (by rw [HD3.out]; exact h0)
      have hst0 : b.state = b.order.start := by
        rw [← h4, hd]
        unfold planRun
        rw [if_pos ⟨h1, (stIn_iff _).2 (taskOk_parts _ h1).1, by simp⟩]
        have := (taskOk_parts _ h1).1
        simp only [runP, opt]; omega
      have e : taskFrom b = b.order := by unfold taskFrom; rw [hst0]
      rw [restFor_yes b hok, e] at hro
      exact hro
    have hcr : codeRun b.order.goal z = true := by
      unfold codeRun
      rw [(taskOk_parts _ h1).2.1, hrg, (stIn_iff _).2 ⟨hr0, by rw [← hz]; exact ((planRun_bd b.order st r).1 (by rw [hz]; exact hr0)).2.2.2⟩]; rfl
    have HCR := Bx.mk hcr
    have hz0 : (0 : Int) ≤ z := hr0
    clear hro hrest hrl hok hr31 hrg hz h1 h3 h4 hcr hr0
    simp only [Option.isSome_some, Option.getD_some] at *
    have HO4 : Hid (RdT (w3.drewN k4) (w3.drewN k4).heap.size (.agg #[.int .i64 os, .slice A1 n1 c1, .slice A2 n2 c2]) b.order) := Lib.hid (HS4.out.rdB 0 rfl).order
    go_wp2_with fail
    refine (planRun_impl _ b.order st _ _ _ r _ HO4.out (HS4.out.rdI' 2 rfl)).mono ?_
    rw [HZ.out]
    rintro e w5 ⟨rfl, hb5⟩
    have HS5 := Lib.hid (HS4.out.quiet hb5)
    have q5 : ∀ j, w5.cell? ⟨w1.heap.size, j, none⟩ = _ := HS5.out.cells 1 rfl
    have HO5 : Hid (RdT w5 w5.heap.size (.agg #[.int .i64 os, .slice A1 n1 c1, .slice A2 n2 c2]) b.order) := Lib.hid (HS5.out.rdB 0 rfl).order
    clear hb5 HS4 q4 HO4
    obtain ⟨po, hpo⟩ : ∃ x, planFor b.order = x := ⟨_, rfl⟩
    have HPO := Bx.mk hpo
    have hpf := HPF.out
    rw [hpo] at hpf
    have HPF2 := Bx.mk hpf
    clear hpo hpf HPF
    go_wp2_with fail
    refine (planFor_impl _ b.order _ HO5.out).mono ?_
    rw [HPO.out]
    rintro e w6 ⟨v6, rfl, s6⟩
    obtain ⟨A6, c6, hv6, -⟩ := s6.rdI 0 rfl
    obtain ⟨pl, hpl⟩ : ∃ x, (po.getD []).length = x := ⟨_, rfl⟩
    rw [hpl] at hv6
    have HPLL := Bx.mk hpl
    subst hv6
    have HS6 := Lib.hid (HS5.out.call s6)
    have q6 : ∀ j, w6.cell? ⟨w1.heap.size, j, none⟩ = _ := HS6.out.cells 1 rfl
    have HO6 : Hid (RdT w6 w6.heap.size (.agg #[.int .i64 os, .slice A1 n1 c1, .slice A2 n2 c2]) b.order) := Lib.hid (HS6.out.rdB 0 rfl).order
    clear s6 HS5 q5 HO5 hpl
    go_wp2_with fail
    refine (codeRun_impl A1 n1 c1 b.order.goal z _ HO6.out.goalRd).mono ?_
    rw [HCR.out]
    rintro e w7 ⟨rfl, hb7⟩
    have HS7 := Lib.hid (HS6.out.quiet hb7)
    have q7 : ∀ j, w7.cell? ⟨w1.heap.size, j, none⟩ = _ := HS7.out.cells 1 rfl
    clear hb7 HS6 q6 HO6
    by_cases hd0 : n3 = 0
    · have hp := HPF2.out hd0
      subst hp
      subst hd0
      obtain rfl : pl = rl := by rw [← HPLL.out, ← HRL.out]; rfl
      have HR7 : Hid (RdI .i64 w7 w7.heap.size A6 pl c6 r) := Lib.hid (HS7.out.rdI' 4 rfl)
      simp only [Option.isSome_some] at *
      go_wp2_with fail
      refine (sameInts_any _ _ _ r _ _ _ r _ (HS7.out.rdI' 2 rfl) HR7.out).mono ?_
      rw [decide_eq_true rfl]
      rintro e w8 ⟨rfl, ⟨k8, rfl⟩⟩
      have HS8 := Lib.hid (HS7.out.drewN k8)
      clear HS7 q7
      go_wp2
      go_ret
      exact ⟨rfl, HS8.out.below⟩
    · have hdi : (0 : Int) < (n3 : Int) := by omega
      clear hd0
      go_wp2
      go_ret
      exact ⟨rfl, HS7.out.below⟩
end Go.Proofs.Ytkebgldeahklmaa
