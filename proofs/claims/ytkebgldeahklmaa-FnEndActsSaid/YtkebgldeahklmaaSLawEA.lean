/- The walk of the law FnEndActs: true for every drawn code. Printed by gen_drawb.py. -/
import Derived.Test.YtkebgldeahklmaaSDraws
import Derived.Test.YtkebgldeahklmaaSGraphV
import Derived.Test.YtkebgldeahklmaaSIntS
import Derived.Test.YtkebgldeahklmaaSBValid
import Derived.Test.YtkebgldeahklmaaSRest
import Derived.Test.YtkebgldeahklmaaSRunB
import Derived.Test.YtkebgldeahklmaaSPlanForW
import Derived.Test.YtkebgldeahklmaaSActsH
namespace Go.Proofs.Ytkebgldeahklmaa
set_option linter.unusedVariables false
set_option linter.unusedSimpArgs false
open Go.ChangeShapes Go.WideShapes Go.ChangeAt Go.RowKit

theorem end_step {b : BookD} {r : List Int} (hb : bookOk b = true) (hr : restFor b = some r) (hl : b.done.length + r.length ≤ 40) (hg : evalCode b.order.goal b.state.toNat = false) : bookDid b ⟨3, 0⟩ = true ∧ bookEnded (bookDo b ⟨3, 0⟩) = true := by
  obtain ⟨h1, h2, h3, h4⟩ := bookOk_parts hb
  obtain ⟨-, r1, r2, r3⟩ := restFor_run hr
  have hr0 : 0 < r.length := by
    rcases Nat.eq_zero_or_pos r.length with h0 | h0
    · obtain rfl := List.eq_nil_of_length_eq_zero h0
      have e : planRun b.order b.state [] = b.state := by
        unfold planRun
        rw [if_pos ⟨h1, (stIn_iff _).2 h3, by simp⟩]
        simp only [runP, opt]; omega
      rw [e, hg] at r3; cases r3
    · exact h0
  have hd : doneAfter b ⟨3, 0⟩ = some (b.done ++ r) := by rw [done3, hr, Option.getD_some, if_pos ⟨rfl, hr0, hl⟩]
  obtain ⟨e1, e2⟩ := bookDo_some hb hd
  refine ⟨e2, ?_⟩
  rw [e1]
  unfold bookEnded
  rw [withDone_ok hb hd, Bool.true_and]
  show evalCode b.order.goal (planRun b.order b.order.start (b.done ++ r)).toNat = true
  rw [planRun_app (by omega) hl, h4]
  exact r3
theorem back_all {b : BookD} (hb : bookOk b = true) (hl : 0 < b.done.length) : bookDid b ⟨1, b.done.length⟩ = true ∧ bookDo b ⟨1, b.done.length⟩ = ⟨b.order, [], b.order.start⟩ := by
  obtain ⟨h1, h2, h3, h4⟩ := bookOk_parts hb
  have hd : doneAfter b ⟨1, b.done.length⟩ = some [] := by rw [done1, if_pos ⟨by omega, Int.le_refl _⟩, Int.toNat_natCast, Nat.sub_self, List.take_zero]
  obtain ⟨e1, e2⟩ := bookDo_some hb hd
  refine ⟨e2, ?_⟩
  rw [e1]
  have hs := (taskOk_parts _ h1).1
  have e : planRun b.order b.order.start [] = b.order.start := by
    unfold planRun
    rw [if_pos ⟨h1, (stIn_iff _).2 hs, by simp⟩]
    simp only [runP, opt]; omega
  unfold withDone
  rw [e]
theorem endActs_end {b : BookD} (hb : bookOk b = true) (hc : (planFor b.order).isSome = true) : (bookRun b (endActs b)).2 = (endActs b).length ∧ bookEnded (bookRun b (endActs b)).1 = true := by
  have hlen := endActs_len b
  rw [bookRun_yes hb (by omega)]
  obtain ⟨h1, h2, h3, h4⟩ := bookOk_parts hb
  obtain ⟨p, hp⟩ := Option.isSome_iff_exists.1 hc
  have hp31 := (planFor_run hp).1
  have ended : ∀ b : BookD, bookOk b = true → evalCode b.order.goal b.state.toNat = true → bookEnded b = true := fun b h h' => by unfold bookEnded; rw [h, h']; rfl
  cases hbk : backs b with
  | true =>
    have hl : 0 < b.done.length := by
      unfold backs at hbk
      simp only [Bool.and_eq_true, decide_eq_true_eq] at hbk
      exact hbk.1
    obtain ⟨d1, d2⟩ := back_all hb hl
    have hb1 : bookOk ⟨b.order, [], b.order.start⟩ = true := by rw [← d2]; exact bookDo_ok _ hb
    have hr1 : restFor ⟨b.order, [], b.order.start⟩ = some p := by rw [restFor_yes _ hb1]; exact hp
    cases hg : evalCode b.order.goal b.order.start.toNat with
    | true =>
      rw [endActs_go hb hc hbk (ev := true) (by rw [if_pos rfl]; exact hg)]
      simp only [if_true, List.append_nil, runB, List.length_cons, List.length_nil, d1, d2]
      exact ⟨by trivial, ended _ hb1 hg⟩
    | false =>
      rw [endActs_go hb hc hbk (ev := false) (by rw [if_pos rfl]; exact hg)]
      obtain ⟨f1, f2⟩ := end_step hb1 hr1 (by simp only [List.length_nil]; omega) hg
      simp only [if_true, List.singleton_append, Bool.false_eq_true, if_false, runB, List.length_cons, List.length_nil, d1, d2, f1]
      exact ⟨by trivial, f2⟩
  | false =>
    cases hg : evalCode b.order.goal b.state.toNat with
    | true =>
      rw [endActs_go hb hc hbk (ev := true) (by simpa using hg)]
      exact ⟨rfl, ended b hb hg⟩
    | false =>
      rw [endActs_go hb hc hbk (ev := false) (by simpa using hg)]
      have hrl : ∃ r, restFor b = some r ∧ b.done.length + r.length ≤ 40 := by
        rcases Nat.eq_zero_or_pos b.done.length with h0 | h0
        · have hd : b.done = [] := List.eq_nil_of_length_eq_zero h0
          have hst0 : b.state = b.order.start := by
            rw [← h4, hd]
            unfold planRun
            rw [if_pos ⟨h1, (stIn_iff _).2 (taskOk_parts _ h1).1, by simp⟩]
            have := (taskOk_parts _ h1).1
            simp only [runP, opt]; omega
          have e : taskFrom b = b.order := by unfold taskFrom; rw [hst0]
          exact ⟨p, by rw [restFor_yes b hb, e]; exact hp, by omega⟩
        · unfold backs at hbk
          rw [decide_eq_true h0, Bool.true_and, Bool.or_eq_false_iff] at hbk
          cases hr : restFor b with
          | none => rw [hr] at hbk; cases hbk.1
          | some r =>
            rw [hr] at hbk
            exact ⟨r, rfl, by have := of_decide_eq_false hbk.2; simp only [Option.getD_some] at this; omega⟩
      obtain ⟨r, hr, hl⟩ := hrl
      obtain ⟨f1, f2⟩ := end_step hb hr hl hg
      simp only [Bool.false_eq_true, if_false, List.nil_append, runB, List.length_cons, List.length_nil, f1, if_true]
      exact ⟨by trivial, f2⟩
set_option maxRecDepth 100000 in
set_option maxHeartbeats 1000000 in
theorem FnEndActs_walk (A : Option Addr) (n c : Nat) (xs : List Int) (w : World) (h : RdI .u8 w w.heap.size A n c xs) :
    Calls Try.prog 8 #[.slice A n c] w fun e w' => e = .returned (.bool true) ∧ Below w.heap.size w w' := by
  have hcap := h.cap
  have hmax := h.capMax
  unfold maxLen at hmax
  have H := Lib.hid h
  clear h
  by_cases hn : n ≤ 1048576
  case neg =>
    go_enter Try.func8, Try.ntmps8
    go_wp2
    go_ret
    exact ⟨rfl, Below.refl _ _⟩
  go_enter Try.func8, Try.ntmps8
  go_wp2_with fail
  refine (drawEndActs A n c xs _ H.out).mono ?_
  rintro e w1 ⟨v1, b, rfl, s1⟩
  obtain ⟨A1, n1, c1, A2, n2, c2, A3, n3, c3, hv⟩ := s1.formB 0 rfl
  obtain ⟨os, hos⟩ : ∃ x, b.order.start = x := ⟨_, rfl⟩
  obtain ⟨st, hst⟩ : ∃ x, b.state = x := ⟨_, rfl⟩
  have HOS := Bx.mk hos
  have HST := Bx.mk hst
  rw [hos, hst] at hv
  subst hv
  have HS1 : Hid (St w (w1.alloc (.cells #[.int .i64 os, .slice A1 n1 c1, .slice A2 n2 c2, .slice A3 n3 c3, .int .i64 st] 28)) [rBook (.agg #[.int .i64 os, .slice A1 n1 c1, .slice A2 n2 c2, .slice A3 n3 c3, .int .i64 st]) b, rBlk w1.heap.size 28 #[.int .i64 os, .slice A1 n1 c1, .slice A2 n2 c2, .slice A3 n3 c3, .int .i64 st]]) := Lib.hid (s1.alloc _ _)
  clear s1 hos hst
  obtain ⟨aa, haa⟩ : ∃ x, endActs b = x := ⟨_, rfl⟩
  have HAA := Bx.mk haa
  obtain ⟨al, hal⟩ : ∃ x, aa.length = x := ⟨_, rfl⟩
  have HAL := Bx.mk hal
  have hal2 : al ≤ 2 := by rw [← hal, ← haa]; exact endActs_len b
  obtain ⟨bo, hbo⟩ : ∃ x, bookOk b = x := ⟨_, rfl⟩
  have HBO := Bx.mk hbo
  obtain ⟨pc, hpc⟩ : ∃ x, (planFor b.order).isSome = x := ⟨_, rfl⟩
  have HPC := Bx.mk hpc
  have HA0 : Bx (bo = false ∨ pc = false → al = 0) := Bx.mk fun h => by
    rw [← hal, ← haa]
    rcases h with h | h
    · rw [endActs_no b (hbo.trans h)]; rfl
    · rw [endActs_cannot b (hpc.trans h)]; rfl
  have HW : Bx (∀ a ∈ aa, (Lit.int .i64 a.number).wf = true) := Bx.mk fun a ha => by
    rw [← haa] at ha
    unfold endActs at ha
    split at ha
    · next hh =>
      simp only [Bool.and_eq_true] at hh
      have hl := (bookOk_parts hh.1).2.1
      rcases List.mem_append.1 ha with ha | ha
      · split at ha
        · rw [List.mem_singleton.1 ha]; exact wf_i64_mk (by simp only; omega)
        · cases ha
      · split at ha
        · cases ha
        · rw [List.mem_singleton.1 ha]; decide
    · cases ha
  clear haa hal hbo hpc
  go_wp2_with fail
  refine (endActs_impl _ b _ (HS1.out.rdB 0 rfl)).mono ?_
  rw [HAA.out]
  rintro e w2 ⟨v2, rfl, s2⟩
  obtain ⟨A4, c4, hv4, -⟩ := s2.rdA 0 rfl
  rw [HAL.out] at hv4
  simp only [id_eq] at hv4 ⊢
  subst hv4
  have HS2 := Lib.hid (HS1.out.call s2)
  have q2 : ∀ j, w2.cell? ⟨w1.heap.size, j, none⟩ = _ := HS2.out.cells 1 rfl
  clear s2 HS1
  go_wp2_with fail
  refine (endActs_spec _ b _ (HS2.out.rdB 0 rfl)).mono ?_
  rw [HAA.out]
  rintro e w3 ⟨v3, rfl, s3⟩
  obtain ⟨A5, c5, hv5, -⟩ := s3.rdA 0 rfl
  rw [HAL.out] at hv5
  simp only [id_eq] at hv5 ⊢
  subst hv5
  have HS3 := Lib.hid (HS2.out.call s3)
  clear s3 HS2 q2
  go_wp2_with fail
  refine (sameActs_same _ _ _ aa _ _ _ _ (HS3.out.rdA' 2 rfl) (HS3.out.rdA' 3 rfl)).mono ?_
  rintro e w4 ⟨rfl, hb4⟩
  have HS4 := Lib.hid (HS3.out.quiet hb4)
  have q4 : ∀ j, w4.cell? ⟨w1.heap.size, j, none⟩ = _ := HS4.out.cells 1 rfl
  clear hb4 HS3
  go_wp2_with fail
  refine (bookValid_spec _ b _ (HS4.out.rdB 0 rfl)).mono ?_
  rw [HBO.out]
  rintro e w5 ⟨rfl, hb5⟩
  have HS5 := Lib.hid (HS4.out.quiet hb5)
  have q5 : ∀ j, w5.cell? ⟨w1.heap.size, j, none⟩ = _ := HS5.out.cells 1 rfl
  clear hb5 HS4 q4
  cases bo with
  | false =>
    have h0 : al = 0 := HA0.out (.inl rfl)
    have h0' : ((al : Int) == 0) = true := by simp; exact h0
    clear h0
    go_wp2_with fail
    refine (alive_any _).mono ?_
    rintro e wa ⟨rfl, hba⟩
    have HSA := Lib.hid (HS5.out.quiet hba).below
    clear hba
    go_wp2
    go_ret
    exact ⟨rfl, HSA.out⟩
  | true =>
    have HO5 : Hid (RdT w5 w5.heap.size (.agg #[.int .i64 os, .slice A1 n1 c1, .slice A2 n2 c2]) b.order) := Lib.hid (HS5.out.rdB 0 rfl).order
    go_wp2_with fail
    refine (planFor_impl _ b.order _ HO5.out).mono ?_
    rw [HPC.out]
    rintro e w6 ⟨v6, rfl, s6⟩
    have HS6 := Lib.hid (HS5.out.call s6)
    have q6 : ∀ j, w6.cell? ⟨w1.heap.size, j, none⟩ = _ := HS6.out.cells 1 rfl
    clear s6 HS5 q5 HO5
    cases pc with
    | false =>
      have h0 : al = 0 := HA0.out (.inr rfl)
      have h0' : ((al : Int) == 0) = true := by simp; exact h0
      clear h0
      go_wp2
      go_ret
      exact ⟨rfl, HS6.out.below⟩
    | true =>
      have hE := endActs_end HBO.out HPC.out
      rw [HAA.out, HAL.out] at hE
      obtain ⟨x, hx⟩ : ∃ x, (bookRun b aa).1 = x := ⟨_, rfl⟩
      have HX := Bx.mk hx
      have HE1 := Bx.mk hE.1
      have HE2 := Bx.mk hE.2
      rw [hx] at HE2
      clear hE hx
      go_wp2_with fail
      refine (bookRun_impl _ b _ _ _ aa _ (HS6.out.rdB 0 rfl) (HS6.out.rdA' 2 rfl) HW.out).mono ?_
      rw [HE1.out, HX.out]
      rintro e w7 ⟨v7, rfl, s7⟩
      obtain ⟨N1, e1, u1, N2, e2, u2, N3, e3, u3, hv⟩ := s7.formB 0 rfl
      subst hv
      have HS7 := Lib.hid ((HS6.out.call s7).alloc #[.int .i64 x.order.start, .slice N1 e1 u1, .slice N2 e2 u2, .slice N3 e3 u3, .int .i64 x.state] 28)
      clear s7 HS6 q6
      go_wp2_with fail
      refine (bookEnded_impl _ x _ (HS7.out.rdB 5 rfl)).mono ?_
      rw [HE2.out]
      rintro e w8 ⟨rfl, hb8⟩
      have HS8 := Lib.hid (HS7.out.quiet hb8).below
      clear hb8 HS7
      go_wp2
      go_ret
      exact ⟨rfl, HS8.out⟩
end Go.Proofs.Ytkebgldeahklmaa
