/- The walk of the law FnTaskNamed: true for every drawn code. Printed by gen_tn.py. -/
import Derived.Test.YtdbgoekemffimaaJFnTaskNamed8
import Derived.Test.YtdbgoekemffimaaJFnTaskNamedSame
import Derived.Test.YtdbgoekemffimaaJFnTaskNamedTNamed
import Derived.Test.YtdbgoekemffimaaJFnTaskNamedNamedP
import Derived.Test.YtdbgoekemffimaaJFnTaskNamed12
import Derived.Test.YtdbgoekemffimaaJFnTaskNamedPlanForW
import Derived.Test.YtdbgoekemffimaaJFnTaskNamed10
namespace Go.Proofs.Ytdbgoekemffimaa
set_option linter.unusedVariables false
open Go.ChangeShapes Go.WideShapes Go.ChangeAt Go.RowKit

theorem drawTaskNamed (A : Option Addr) (n c : Nat) (xs : List Int) (w : World) (h : RdI .u8 w w.heap.size A n c xs) : Calls Try.prog 39 #[.slice A n c] w fun e w' => ∃ v t pv p, e = .returned (.tuple #[v, pv]) ∧ St w w' [rTask v t, rInts pv p] := by
  have HS0 := Lib.hid ((St.refl w).alloc #[.int .i64 0, .slice none 0 0, .slice none 0 0] 26)
  have H := Lib.hid h
  clear h
  go_enter Try.func39, Try.ntmps39
  go_wp2_with fail
  refine (l20Open_rd HS0.out H.out).mono ?_
  rintro e w1 ⟨g, rfl, s1⟩
  have HS1 := Lib.hid s1
  clear s1 HS0
  go_wp2_with fail
  refine (l20Task_rd HS1.out (by omega) 12).mono ?_
  rintro e w2 ⟨v2, t, rfl, ht, s2⟩
  obtain ⟨A1, n1, c1, A2, n2, c2, hv⟩ := s2.formT 1 rfl
  subst hv
  have HS2 := Lib.hid s2
  clear s2 ht HS1
  go_wp2_with fail
  refine (l20Perm_rd HS2.out (by omega) 14).mono ?_
  rintro e w4 ⟨pv, p, rfl, hpl, hpd, s4⟩
  have q4 : ∀ j, w4.cell? ⟨w.heap.size, j, none⟩ = _ := s4.cells 3 rfl
  have f4 := s4.free 3 rfl
  obtain ⟨A3, c3, hv3, -⟩ := s4.rdI 1 rfl
  subst hv3
  have HS4 : Hid (St w _ [rTask (.agg #[.int .i64 t.start, .slice A1 n1 c1, .slice A2 n2 c2]) t, rInts (.slice A3 p.length c3) p]) := Lib.hid (((((s4.set3 3 rfl (.int .i64 t.start) (.slice A1 n1 c1) (.slice A2 n2 c2)).tl).rid 2 rfl)).bring 1 rfl)
  clear s4 HS2 hpl hpd
  go_wp2
  refine bodyPost_ret (v := .tuple #[.agg #[.int .i64 t.start, .slice A1 n1 c1, .slice A2 n2 c2], .slice A3 p.length c3]) (by simp [results, Try.results39, go_sem, q4]) rfl ⟨_, t, _, p, rfl, HS4.out⟩
set_option maxRecDepth 100000 in
set_option maxHeartbeats 1000000 in
theorem FnTaskNamed_walk (A : Option Addr) (n c : Nat) (xs : List Int) (w : World) (h : RdI .u8 w w.heap.size A n c xs) :
    Calls Try.prog 7 #[.slice A n c] w fun e w' => e = .returned (.bool true) ∧ Below w.heap.size w w' := by
  have hcap := h.cap
  have hmax := h.capMax
  unfold maxLen at hmax
  have H := Lib.hid h
  clear h
  by_cases hn : n ≤ 1048576
  case neg =>
    go_enter Try.func7, Try.ntmps7
    go_wp2
    go_ret
    exact ⟨rfl, Below.refl _ _⟩
  go_enter Try.func7, Try.ntmps7
  go_wp2_with fail
  refine (drawTaskNamed A n c xs _ H.out).mono ?_
  rintro e w1 ⟨v1, t, pv, p, rfl, s1⟩
  obtain ⟨A1, j1, c1, A2, j2, c2, hv⟩ := s1.formT 0 rfl
  subst hv
  obtain ⟨Ap, cp, hv, -⟩ := s1.rdI 1 rfl
  subst hv
  obtain ⟨np, hnp⟩ : ∃ np, p.length = np := ⟨_, rfl⟩
  rw [hnp] at s1 ⊢
  have HNP := Lib.hid hnp
  clear hnp
  obtain ⟨B1, hB1⟩ : ∃ B1, w1.heap.size = B1 := ⟨_, rfl⟩
  have HS1 : Hid (St w (w1.alloc (.cells #[.int .i64 t.start, .slice A1 j1 c1, .slice A2 j2 c2] 26)) [rTask (.agg #[.int .i64 t.start, .slice A1 j1 c1, .slice A2 j2 c2]) t, rInts (.slice Ap np cp) p, rBlk B1 26 #[.int .i64 t.start, .slice A1 j1 c1, .slice A2 j2 c2]]) := Lib.hid (by rw [← hB1]; exact s1.alloc _ _)
  clear s1
  obtain ⟨x, hx⟩ : ∃ x, taskNamed t p = x := ⟨_, rfl⟩
  have HX := Bx.mk hx
  go_wp2_with fail
  refine (taskNamed_impl _ t Ap np cp p _ (HS1.out.rdT 0 rfl) (HS1.out.rdI' 1 rfl)).mono ?_
  rw [hx]
  rintro e w2 ⟨v2, rfl, s2⟩
  obtain ⟨A3, j3, c3, A4, j4, c4, hv⟩ := s2.formT 0 rfl
  simp only [id_eq] at hv ⊢
  subst hv
  obtain ⟨B2, hB2⟩ : ∃ B2, w2.heap.size = B2 := ⟨_, rfl⟩
  have HS2 : Hid (St w (w2.alloc (.cells #[.int .i64 x.start, .slice A3 j3 c3, .slice A4 j4 c4] 26)) [rTask (.agg #[.int .i64 t.start, .slice A1 j1 c1, .slice A2 j2 c2]) t, rInts (.slice Ap np cp) p, rBlk B1 26 #[.int .i64 t.start, .slice A1 j1 c1, .slice A2 j2 c2], rTask (.agg #[.int .i64 x.start, .slice A3 j3 c3, .slice A4 j4 c4]) x, rBlk B2 26 #[.int .i64 x.start, .slice A3 j3 c3, .slice A4 j4 c4]]) := Lib.hid (by rw [← hB2]; exact (HS1.out.call s2).alloc _ _)
  have q1 : ∀ j, (w2.alloc (.cells #[.int .i64 x.start, .slice A3 j3 c3, .slice A4 j4 c4] 26)).cell? ⟨B1, j, none⟩ = _ := HS2.out.cells 2 rfl
  clear s2 HS1 hx
  go_upto_region 5 with (fail)
  try rw [hB1]
  try rw [hB2]
  clear hB1 hB2 q1
  refine wp_reg (σ := Value) (by kernel_rfl) (by kernel_rfl) (by kernel_rfl)
    (fun s i => match i with
      | 0 => .agg #[.int .i64 x.start, .slice A3 j3 c3, .slice A4 j4 c4]
      | 1 => .agg #[.int .i64 t.start, .slice A1 j1 c1, .slice A2 j2 c2]
      | 2 => .slice Ap np cp
      | 3 => s
      | 4 => .bool true
      | 5 => .bool false
      | _ => undef)
    (fun D s wx => Sn w wx fun i => match i with
      | 0 => some (rTask (.agg #[.int .i64 t.start, .slice A1 j1 c1, .slice A2 j2 c2]) t)
      | 1 => some (rInts (.slice Ap np cp) p)
      | 2 => some (rBlk B1 26 #[.int .i64 t.start, .slice A1 j1 c1, .slice A2 j2 c2])
      | 3 => some (rTask (.agg #[.int .i64 x.start, .slice A3 j3 c3, .slice A4 j4 c4]) x)
      | 4 => some (rBlk B2 26 #[.int .i64 x.start, .slice A3 j3 c3, .slice A4 j4 c4])
      | 5 => if D 3 = true then some (rTask s x) else none
      | _ => none)
    undef ?_ ?_ ?_
  · intro D hD
    refine ((Sn.of_st HS2.out).quiet ((Below.refl _ _).drew)).congr fun i => ?_
    match i with
    | 0 => rfl
    | 1 => rfl
    | 2 => rfl
    | 3 => rfl
    | 4 => rfl
    | 5 => exact if_neg (by rw [hD 3 (by decide)]; simp)
    | q + 6 => rfl
  · refine StepAll.cons (fun D s wx hR (hDi : D 0 = false) hd hsh a' hs K hK => ?_) ?_
    · have e5 := hs.old 5 (u := .pointer (some ⟨B2, 0, none⟩)) (by kernel_rfl) rfl
      clear hs
      have kb : Blk wx (B2) 26 #[.int .i64 x.start, .slice A3 j3 c3, .slice A4 j4 c4] := hR.blk 4 rfl
      have c0 : wx.cell? ⟨B2, 0, none⟩ = some (.int .i64 x.start) := kb.cell 0
      have c1 : wx.cell? ⟨B2, 1, none⟩ = some (.slice A3 j3 c3) := kb.cell 1
      have c2 : wx.cell? ⟨B2, 2, none⟩ = some (.slice A4 j4 c4) := kb.cell 2
      go_simp
      exact hK s wx (fun _ _ => rfl) hR
    refine StepAll.cons (fun D s wx hR (hDi : D 1 = false) hd hsh a' hs K hK => ?_) ?_
    · have e3 := hs.old 3 (u := .pointer (some ⟨B1, 0, none⟩)) (by kernel_rfl) rfl
      clear hs
      have kb : Blk wx (B1) 26 #[.int .i64 t.start, .slice A1 j1 c1, .slice A2 j2 c2] := hR.blk 2 rfl
      have c0 : wx.cell? ⟨B1, 0, none⟩ = some (.int .i64 t.start) := kb.cell 0
      have c1 : wx.cell? ⟨B1, 1, none⟩ = some (.slice A1 j1 c1) := kb.cell 1
      have c2 : wx.cell? ⟨B1, 2, none⟩ = some (.slice A2 j2 c2) := kb.cell 2
      go_simp
      exact hK s wx (fun _ _ => rfl) hR
    refine StepAll.cons (fun D s wx hR (hDi : D 2 = false) hd hsh a' hs K hK => ?_) ?_
    · have e4 := hs.old 4 (u := .slice Ap np cp) (by kernel_rfl) rfl
      clear hs
      go_simp
      exact hK s wx (fun _ _ => rfl) hR
    refine StepAll.cons (fun D s wx hR (hDi : D 3 = false) hd hsh a' hs K hK => ?_) ?_
    · have e22 := hs.at_ 1 22 (u := .agg #[.int .i64 t.start, .slice A1 j1 c1, .slice A2 j2 c2]) rfl (hd ⟨1, .data⟩ (by simp) rfl) (by kernel_rfl) (by kernel_rfl) rfl
      have e23 := hs.at_ 2 23 (u := .slice Ap np cp) rfl (hd ⟨2, .data⟩ (by simp) rfl) (by kernel_rfl) (by kernel_rfl) rfl
      have g22 := getQ e22
      have g23 := getQ e23
      clear hs
      have n4 : D 4 = false := hsh.no hDi 4 rfl ⟨3, .data⟩ (by simp) rfl rfl
      have n5 : D 5 = false := hsh.no n4 5 rfl ⟨4, .data⟩ (by simp) rfl rfl
      go_simp
      refine (taskNamed_spec _ t Ap np cp p _ (hR.rdT 0 rfl) (hR.rdI' 1 rfl)).mono ?_
      rw [HX.out]
      rintro e2 w2 ⟨v2, rfl, s2⟩
      refine hK v2 w2
        (fun j hj => by
          match j, hj with
          | 0, hj => rfl
          | 1, hj => rfl
          | 2, hj => rfl
          | 3, hj => rw [hDi] at hj; cases hj
          | 4, hj => rfl
          | 5, hj => rfl
          | _ + 6, hj => rfl)
        ((hR.add 5 (if_neg (by rw [hDi]; simp)) s2).congr
          (fun i => by
            match i with
            | 0 => rfl
            | 1 => rfl
            | 2 => rfl
            | 3 => rfl
            | 4 => rfl
            | 5 => rfl
            | q + 6 => exact (if_neg (show ¬ (q + 6 = 5) by omega)).symm))
    refine StepAll.cons (fun D s wx hR (hDi : D 4 = false) hd hsh a' hs K hK => ?_) ?_
    · have e21 := hs.at_ 0 21 (u := .agg #[.int .i64 x.start, .slice A3 j3 c3, .slice A4 j4 c4]) rfl (hd ⟨0, .data⟩ (by simp) rfl) (by kernel_rfl) (by kernel_rfl) rfl
      have e24 := hs.at_ 3 24 (u := s) rfl (hd ⟨3, .data⟩ (by simp) rfl) (by kernel_rfl) (by kernel_rfl) rfl
      have g21 := getQ e21
      have g24 := getQ e24
      clear hs
      have d2 : D 3 = true := hd ⟨3, .data⟩ (by simp) rfl
      go_simp
      refine (sameTask_any _ x s x _ (hR.rdT 3 rfl) (hR.rdT 5 (if_pos d2))).mono ?_
      try rw [decide_eq_true rfl]
      rintro e2 w2 ⟨rfl, hb2⟩
      exact hK s w2 (fun _ _ => rfl) (hR.quiet hb2)
    refine StepAll.cons (fun D s wx hR (hDi : D 5 = false) hd hsh a' hs K hK => ?_) ?_
    · have e25 := hs.at_ 4 25 (u := .bool true) rfl (hd ⟨4, .data⟩ (by simp) rfl) (by kernel_rfl) (by kernel_rfl) rfl
      clear hs
      go_simp
      exact hK s wx (fun _ _ => rfl) hR
    exact StepAll.nil
  · intro D s wx hR hD
    simp only [putA, Act.put, List.setIfInBounds_toArray, List.set_cons_zero, List.set_cons_succ]
    have HS : Hid (St w wx [rTask (.agg #[.int .i64 t.start, .slice A1 j1 c1, .slice A2 j2 c2]) t, rInts (.slice Ap np cp) p, rBlk B1 26 #[.int .i64 t.start, .slice A1 j1 c1, .slice A2 j2 c2], rTask (.agg #[.int .i64 x.start, .slice A3 j3 c3, .slice A4 j4 c4]) x, rBlk B2 26 #[.int .i64 x.start, .slice A3 j3 c3, .slice A4 j4 c4]]) := Lib.hid (hR.to_st [0, 1, 2, 3, 4] (by decide) rfl)
    clear hR hD

    have q1 : ∀ j, wx.cell? ⟨B1, j, none⟩ = _ := HS.out.cells 2 rfl
    have q2 : ∀ j, wx.cell? ⟨B2, j, none⟩ = _ := HS.out.cells 4 rfl
    have hj3 : j3 = x.goal.length := by
      obtain ⟨G, gn, gc, G', n', c', he, hg, -⟩ := HS.out.rdT 3 rfl
      have hl := hg.len
      simp only [Value.agg.injEq, Array.mk.injEq, List.cons.injEq, Value.slice.injEq, and_true, true_and] at he
      omega
    by_cases hok : taskOk t = true ∧ permOk p = true ∧ p.length = 5
    case neg =>
      have hz : j3 = 0 := by rw [hj3, ← HX.out]; unfold taskNamed; rw [if_neg hok]; rfl
      subst hz
      clear hj3 hok
      go_wp2_with fail
      refine (alive_any _).mono ?_
      rintro e w5 ⟨rfl, hb5⟩
      have HS5 := Lib.hid (HS.out.quiet hb5).below
      clear hb5
      go_wp2
      go_ret
      exact ⟨rfl, HS5.out⟩
    case pos =>
      obtain ⟨ok1, ok2, ok3⟩ := hok
      have hp5 := P5.of ok2 ok3
      have hxt : x = namT p t := by rw [← HX.out]; unfold taskNamed; rw [if_pos ⟨ok1, ok2, ok3⟩]; rfl
      have hv := taskOk_named hp5 ok1
      rw [← hxt] at hv
      have hj3' : (1 : Int) ≤ (j3 : Int) := by
        have hc := (taskOk_parts x hv).2.1
        unfold codeOk at hc
        simp only [Bool.and_eq_true, decide_eq_true_eq] at hc
        omega
      have hne : ((j3 : Int) == 0) = false := by rw [beq_eq_false_iff_ne]; omega
      have HV := Bx.mk hv
      obtain ⟨pf, hpf⟩ : ∃ pf, planFor t = pf := ⟨_, rfl⟩
      have HPF := Bx.mk hpf
      have HPX : Bx (planFor x = pf) := Bx.mk (by rw [hxt, planFor_named hp5 ok1, hpf])
      have HPM : Bx (plansMany x = plansMany t) := Bx.mk (by rw [hxt, plansMany_named hp5 ok1])
      obtain ⟨M, hM⟩ : ∃ M, mset (fwd t.deeds (only t.start.toNat) 32) 32 = M := ⟨_, rfl⟩
      obtain ⟨N, hN⟩ : ∃ N, mset (fwd x.deeds (only x.start.toNat) 32) 32 = N := ⟨_, rfl⟩
      have HR1 : Bx (reached t = (M : Nat)) := Bx.mk (by unfold reached; rw [if_pos ok1, hM])
      have HR2 : Bx (reached x = (N : Nat)) := Bx.mk (by unfold reached; rw [if_pos hv, hN])
      have HB : Bx (bitSum N 40 = bitSum M 40) := Bx.mk (by rw [← hM, ← hN, hxt]; exact bits_named hp5 ok1)
      obtain ⟨pl, hpl⟩ : ∃ pl, pf.getD [] = pl := ⟨_, rfl⟩
      obtain ⟨pb, hpb⟩ : ∃ pb, pf.isSome = pb := ⟨_, rfl⟩
      have HPL := Bx.mk hpl
      have HPB := Bx.mk hpb
      clear ok1 ok2 ok3 hp5 hxt hv hj3 hj3' hpf hM hN hpl hpb
      go_wp2_with fail
      refine (planFor_impl _ t _ (HS.out.rdT 0 rfl)).mono ?_
      rw [HPF.out, HPL.out, HPB.out]
      rintro e w5 ⟨v5, rfl, s5⟩
      obtain ⟨A7, c7, hv, -⟩ := s5.rdI 0 rfl
      subst hv
      have HS5 := Lib.hid (HS.out.call s5)
      clear q1 q2 s5 HS
      have q1 : ∀ j, w5.cell? ⟨B1, j, none⟩ = _ := HS5.out.cells 2 rfl
      have q2 : ∀ j, w5.cell? ⟨B2, j, none⟩ = _ := HS5.out.cells 4 rfl
      go_wp2_with fail
      refine (planFor_impl _ x _ (HS5.out.rdT 3 rfl)).mono ?_
      rw [HPX.out, HPL.out, HPB.out]
      rintro e w6 ⟨v6, rfl, s6⟩
      obtain ⟨A8, c8, hv, -⟩ := s6.rdI 0 rfl
      subst hv
      have HS6 := Lib.hid (HS5.out.call s6)
      clear q1 q2 s6 HS5
      go_upto_region 11 with (fail)
      refine wp_reg (σ := Unit) (by kernel_rfl) (by kernel_rfl) (by kernel_rfl)
        (fun s i => match i with
          | 0 => .agg #[.int .i64 x.start, .slice A3 j3 c3, .slice A4 j4 c4]
          | 1 => .bool true
          | 2 => .bool true
          | 3 => .bool pb
          | 4 => .bool pb
          | 5 => .bool true
          | 6 => .bool true
          | 7 => .bool true
          | 8 => .slice A7 pl.length c7
          | 9 => .slice A8 pl.length c8
          | 10 => .bool true
          | 11 => .bool true
          | 12 => .bool true
          | 13 => .agg #[.int .i64 x.start, .slice A3 j3 c3, .slice A4 j4 c4]
          | 14 => .int .i64 (plansMany t)
          | 15 => .agg #[.int .i64 t.start, .slice A1 j1 c1, .slice A2 j2 c2]
          | 16 => .int .i64 (plansMany t)
          | 17 => .bool true
          | 18 => .bool true
          | 19 => .bool true
          | 20 => .agg #[.int .i64 x.start, .slice A3 j3 c3, .slice A4 j4 c4]
          | 21 => .int .i64 N
          | 22 => .int .i64 (bitSum M 40 : Nat)
          | 23 => .agg #[.int .i64 t.start, .slice A1 j1 c1, .slice A2 j2 c2]
          | 24 => .int .i64 M
          | 25 => .int .i64 (bitSum M 40 : Nat)
          | 26 => .bool true
          | 27 => .bool true
          | 28 => .bool true
          | _ => undef)
        (fun D s wx => Sn w wx fun i => match i with
          | 0 => some (rTask (.agg #[.int .i64 t.start, .slice A1 j1 c1, .slice A2 j2 c2]) t)
          | 1 => some (rInts (.slice Ap np cp) p)
          | 2 => some (rBlk B1 26 #[.int .i64 t.start, .slice A1 j1 c1, .slice A2 j2 c2])
          | 3 => some (rTask (.agg #[.int .i64 x.start, .slice A3 j3 c3, .slice A4 j4 c4]) x)
          | 4 => some (rBlk B2 26 #[.int .i64 x.start, .slice A3 j3 c3, .slice A4 j4 c4])
          | 5 => some (rInts (.slice A7 pl.length c7) pl)
          | 6 => some (rInts (.slice A8 pl.length c8) pl)
          | _ => none)
        () ?_ ?_ ?_
      · intro D hD
        refine ((Sn.of_st HS6.out).quiet ((Below.refl _ _).drew)).congr fun i => ?_
        match i with
        | 0 => rfl
        | 1 => rfl
        | 2 => rfl
        | 3 => rfl
        | 4 => rfl
        | 5 => rfl
        | 6 => rfl
        | q + 7 => rfl
      · refine StepAll.cons (fun D s wx hR (hDi : D 0 = false) hd hsh a' hs K hK => ?_) ?_
        · have e5 := hs.old 5 (u := .pointer (some ⟨B2, 0, none⟩)) (by kernel_rfl) rfl
          clear hs
          have kb : Blk wx (B2) 26 #[.int .i64 x.start, .slice A3 j3 c3, .slice A4 j4 c4] := hR.blk 4 rfl
          have c0 : wx.cell? ⟨B2, 0, none⟩ = some (.int .i64 x.start) := kb.cell 0
          have c1 : wx.cell? ⟨B2, 1, none⟩ = some (.slice A3 j3 c3) := kb.cell 1
          have c2 : wx.cell? ⟨B2, 2, none⟩ = some (.slice A4 j4 c4) := kb.cell 2
          go_simp
          exact hK s wx (fun _ _ => rfl) hR
        refine StepAll.cons (fun D s wx hR (hDi : D 1 = false) hd hsh a' hs K hK => ?_) ?_
        · have e42 := hs.at_ 0 42 (u := .agg #[.int .i64 x.start, .slice A3 j3 c3, .slice A4 j4 c4]) rfl (hd ⟨0, .data⟩ (by simp) rfl) (by kernel_rfl) (by kernel_rfl) rfl
          have g42 := getQ e42
          clear hs
          go_simp
          refine (taskValid_impl _ x _ (hR.rdT 3 rfl)).mono ?_
          rw [HV.out]
          rintro e2 w2 ⟨rfl, hb2⟩
          exact hK s w2 (fun _ _ => rfl) (hR.quiet hb2)
        refine StepAll.cons (fun D s wx hR (hDi : D 2 = false) hd hsh a' hs K hK => ?_) ?_
        · have e43 := hs.at_ 1 43 (u := .bool true) rfl (hd ⟨1, .data⟩ (by simp) rfl) (by kernel_rfl) (by kernel_rfl) rfl
          clear hs
          go_simp
          exact hK s wx (fun _ _ => rfl) hR
        refine StepAll.consG (fun D s wx hR (hDi : D 3 = false) hd hsh a' hs K hK => ?_) ?_
        · have eg := hs.at_ 2 44 (u := .bool true) rfl (hd ⟨2, .guard⟩ (by simp) rfl) (by kernel_rfl) (by kernel_rfl) rfl
          rw [if_pos (by rw [hs.wants (j := 2) (t := 44) rfl rfl eg (by kernel_rfl)]; rfl)]
          have e7 := hs.old 7 (u := .bool pb) (by kernel_rfl) rfl
          clear hs
          go_simp
          exact hK s wx (fun _ _ => rfl) hR
        refine StepAll.consG (fun D s wx hR (hDi : D 4 = false) hd hsh a' hs K hK => ?_) ?_
        · have eg := hs.at_ 2 44 (u := .bool true) rfl (hd ⟨2, .guard⟩ (by simp) rfl) (by kernel_rfl) (by kernel_rfl) rfl
          rw [if_pos (by rw [hs.wants (j := 2) (t := 44) rfl rfl eg (by kernel_rfl)]; rfl)]
          have e9 := hs.old 9 (u := .bool pb) (by kernel_rfl) rfl
          clear hs
          go_simp
          exact hK s wx (fun _ _ => rfl) hR
        refine StepAll.consG (fun D s wx hR (hDi : D 5 = false) hd hsh a' hs K hK => ?_) ?_
        · have eg := hs.at_ 2 44 (u := .bool true) rfl (hd ⟨2, .guard⟩ (by simp) rfl) (by kernel_rfl) (by kernel_rfl) rfl
          rw [if_pos (by rw [hs.wants (j := 2) (t := 44) rfl rfl eg (by kernel_rfl)]; rfl)]
          have e45 := hs.at_ 3 45 (u := .bool pb) rfl (hd ⟨3, .data⟩ (by simp) rfl) (by kernel_rfl) (by kernel_rfl) rfl
          have e46 := hs.at_ 4 46 (u := .bool pb) rfl (hd ⟨4, .data⟩ (by simp) rfl) (by kernel_rfl) (by kernel_rfl) rfl
          clear hs
          go_simp
          exact hK s wx (fun _ _ => rfl) hR
        refine StepAll.cons (fun D s wx hR (hDi : D 6 = false) hd hsh a' hs K hK => ?_) ?_
        · have e44 := hs.at_ 2 44 (u := .bool true) rfl (hd ⟨2, .data⟩ (by simp) rfl) (by kernel_rfl) (by kernel_rfl) rfl
          have e47 := hs.at_ 5 47 (u := .bool true) rfl (hd ⟨5, .data⟩ (by simp) rfl) (by kernel_rfl) (by kernel_rfl) rfl
          clear hs
          go_simp
          exact hK s wx (fun _ _ => rfl) hR
        refine StepAll.cons (fun D s wx hR (hDi : D 7 = false) hd hsh a' hs K hK => ?_) ?_
        · have e48 := hs.at_ 6 48 (u := .bool true) rfl (hd ⟨6, .data⟩ (by simp) rfl) (by kernel_rfl) (by kernel_rfl) rfl
          clear hs
          go_simp
          exact hK s wx (fun _ _ => rfl) hR
        refine StepAll.consG (fun D s wx hR (hDi : D 8 = false) hd hsh a' hs K hK => ?_) ?_
        · have eg := hs.at_ 7 49 (u := .bool true) rfl (hd ⟨7, .guard⟩ (by simp) rfl) (by kernel_rfl) (by kernel_rfl) rfl
          rw [if_pos (by rw [hs.wants (j := 7) (t := 49) rfl rfl eg (by kernel_rfl)]; rfl)]
          have e6 := hs.old 6 (u := .slice A7 pl.length c7) (by kernel_rfl) rfl
          clear hs
          go_simp
          exact hK s wx (fun _ _ => rfl) hR
        refine StepAll.consG (fun D s wx hR (hDi : D 9 = false) hd hsh a' hs K hK => ?_) ?_
        · have eg := hs.at_ 7 49 (u := .bool true) rfl (hd ⟨7, .guard⟩ (by simp) rfl) (by kernel_rfl) (by kernel_rfl) rfl
          rw [if_pos (by rw [hs.wants (j := 7) (t := 49) rfl rfl eg (by kernel_rfl)]; rfl)]
          have e8 := hs.old 8 (u := .slice A8 pl.length c8) (by kernel_rfl) rfl
          clear hs
          go_simp
          exact hK s wx (fun _ _ => rfl) hR
        refine StepAll.consG (fun D s wx hR (hDi : D 10 = false) hd hsh a' hs K hK => ?_) ?_
        · have eg := hs.at_ 7 49 (u := .bool true) rfl (hd ⟨7, .guard⟩ (by simp) rfl) (by kernel_rfl) (by kernel_rfl) rfl
          rw [if_pos (by rw [hs.wants (j := 7) (t := 49) rfl rfl eg (by kernel_rfl)]; rfl)]
          have e50 := hs.at_ 8 50 (u := .slice A7 pl.length c7) rfl (hd ⟨8, .data⟩ (by simp) rfl) (by kernel_rfl) (by kernel_rfl) rfl
          have e51 := hs.at_ 9 51 (u := .slice A8 pl.length c8) rfl (hd ⟨9, .data⟩ (by simp) rfl) (by kernel_rfl) (by kernel_rfl) rfl
          have g50 := getQ e50
          have g51 := getQ e51
          clear hs
          go_simp
          refine (sameInts_any _ _ _ pl _ _ _ pl _ (hR.rdI' 5 rfl) (hR.rdI' 6 rfl)).mono ?_
          rw [decide_eq_true rfl]
          rintro e2 w2 ⟨rfl, q2, rfl⟩
          exact hK s _ (fun _ _ => rfl) (hR.quiet (below_drewN (Below.refl _ _) q2))
        refine StepAll.cons (fun D s wx hR (hDi : D 11 = false) hd hsh a' hs K hK => ?_) ?_
        · have e49 := hs.at_ 7 49 (u := .bool true) rfl (hd ⟨7, .data⟩ (by simp) rfl) (by kernel_rfl) (by kernel_rfl) rfl
          have e52 := hs.at_ 10 52 (u := .bool true) rfl (hd ⟨10, .data⟩ (by simp) rfl) (by kernel_rfl) (by kernel_rfl) rfl
          clear hs
          go_simp
          exact hK s wx (fun _ _ => rfl) hR
        refine StepAll.cons (fun D s wx hR (hDi : D 12 = false) hd hsh a' hs K hK => ?_) ?_
        · have e53 := hs.at_ 11 53 (u := .bool true) rfl (hd ⟨11, .data⟩ (by simp) rfl) (by kernel_rfl) (by kernel_rfl) rfl
          clear hs
          go_simp
          exact hK s wx (fun _ _ => rfl) hR
        refine StepAll.consG (fun D s wx hR (hDi : D 13 = false) hd hsh a' hs K hK => ?_) ?_
        · have eg := hs.at_ 12 54 (u := .bool true) rfl (hd ⟨12, .guard⟩ (by simp) rfl) (by kernel_rfl) (by kernel_rfl) rfl
          rw [if_pos (by rw [hs.wants (j := 12) (t := 54) rfl rfl eg (by kernel_rfl)]; rfl)]
          have e5 := hs.old 5 (u := .pointer (some ⟨B2, 0, none⟩)) (by kernel_rfl) rfl
          clear hs
          have kb : Blk wx (B2) 26 #[.int .i64 x.start, .slice A3 j3 c3, .slice A4 j4 c4] := hR.blk 4 rfl
          have c0 : wx.cell? ⟨B2, 0, none⟩ = some (.int .i64 x.start) := kb.cell 0
          have c1 : wx.cell? ⟨B2, 1, none⟩ = some (.slice A3 j3 c3) := kb.cell 1
          have c2 : wx.cell? ⟨B2, 2, none⟩ = some (.slice A4 j4 c4) := kb.cell 2
          go_simp
          exact hK s wx (fun _ _ => rfl) hR
        refine StepAll.consG (fun D s wx hR (hDi : D 14 = false) hd hsh a' hs K hK => ?_) ?_
        · have eg := hs.at_ 12 54 (u := .bool true) rfl (hd ⟨12, .guard⟩ (by simp) rfl) (by kernel_rfl) (by kernel_rfl) rfl
          rw [if_pos (by rw [hs.wants (j := 12) (t := 54) rfl rfl eg (by kernel_rfl)]; rfl)]
          have e55 := hs.at_ 13 55 (u := .agg #[.int .i64 x.start, .slice A3 j3 c3, .slice A4 j4 c4]) rfl (hd ⟨13, .data⟩ (by simp) rfl) (by kernel_rfl) (by kernel_rfl) rfl
          have g55 := getQ e55
          clear hs
          go_simp
          refine (plansMany_impl _ x _ (hR.rdT 3 rfl)).mono ?_
          rw [HPM.out]
          rintro e2 w2 ⟨rfl, hb2⟩
          exact hK s w2 (fun _ _ => rfl) (hR.quiet hb2)
        refine StepAll.consG (fun D s wx hR (hDi : D 15 = false) hd hsh a' hs K hK => ?_) ?_
        · have eg := hs.at_ 12 54 (u := .bool true) rfl (hd ⟨12, .guard⟩ (by simp) rfl) (by kernel_rfl) (by kernel_rfl) rfl
          rw [if_pos (by rw [hs.wants (j := 12) (t := 54) rfl rfl eg (by kernel_rfl)]; rfl)]
          have e3 := hs.old 3 (u := .pointer (some ⟨B1, 0, none⟩)) (by kernel_rfl) rfl
          clear hs
          have kb : Blk wx (B1) 26 #[.int .i64 t.start, .slice A1 j1 c1, .slice A2 j2 c2] := hR.blk 2 rfl
          have c0 : wx.cell? ⟨B1, 0, none⟩ = some (.int .i64 t.start) := kb.cell 0
          have c1 : wx.cell? ⟨B1, 1, none⟩ = some (.slice A1 j1 c1) := kb.cell 1
          have c2 : wx.cell? ⟨B1, 2, none⟩ = some (.slice A2 j2 c2) := kb.cell 2
          go_simp
          exact hK s wx (fun _ _ => rfl) hR
        refine StepAll.consG (fun D s wx hR (hDi : D 16 = false) hd hsh a' hs K hK => ?_) ?_
        · have eg := hs.at_ 12 54 (u := .bool true) rfl (hd ⟨12, .guard⟩ (by simp) rfl) (by kernel_rfl) (by kernel_rfl) rfl
          rw [if_pos (by rw [hs.wants (j := 12) (t := 54) rfl rfl eg (by kernel_rfl)]; rfl)]
          have e57 := hs.at_ 15 57 (u := .agg #[.int .i64 t.start, .slice A1 j1 c1, .slice A2 j2 c2]) rfl (hd ⟨15, .data⟩ (by simp) rfl) (by kernel_rfl) (by kernel_rfl) rfl
          have g57 := getQ e57
          clear hs
          go_simp
          refine (plansMany_impl _ t _ (hR.rdT 0 rfl)).mono ?_
          rintro e2 w2 ⟨rfl, hb2⟩
          exact hK s w2 (fun _ _ => rfl) (hR.quiet hb2)
        refine StepAll.consG (fun D s wx hR (hDi : D 17 = false) hd hsh a' hs K hK => ?_) ?_
        · have eg := hs.at_ 12 54 (u := .bool true) rfl (hd ⟨12, .guard⟩ (by simp) rfl) (by kernel_rfl) (by kernel_rfl) rfl
          rw [if_pos (by rw [hs.wants (j := 12) (t := 54) rfl rfl eg (by kernel_rfl)]; rfl)]
          have e56 := hs.at_ 14 56 (u := .int .i64 (plansMany t)) rfl (hd ⟨14, .data⟩ (by simp) rfl) (by kernel_rfl) (by kernel_rfl) rfl
          have e58 := hs.at_ 16 58 (u := .int .i64 (plansMany t)) rfl (hd ⟨16, .data⟩ (by simp) rfl) (by kernel_rfl) (by kernel_rfl) rfl
          clear hs
          go_simp
          exact hK s wx (fun _ _ => rfl) hR
        refine StepAll.cons (fun D s wx hR (hDi : D 18 = false) hd hsh a' hs K hK => ?_) ?_
        · have e54 := hs.at_ 12 54 (u := .bool true) rfl (hd ⟨12, .data⟩ (by simp) rfl) (by kernel_rfl) (by kernel_rfl) rfl
          have e59 := hs.at_ 17 59 (u := .bool true) rfl (hd ⟨17, .data⟩ (by simp) rfl) (by kernel_rfl) (by kernel_rfl) rfl
          clear hs
          go_simp
          exact hK s wx (fun _ _ => rfl) hR
        refine StepAll.cons (fun D s wx hR (hDi : D 19 = false) hd hsh a' hs K hK => ?_) ?_
        · have e60 := hs.at_ 18 60 (u := .bool true) rfl (hd ⟨18, .data⟩ (by simp) rfl) (by kernel_rfl) (by kernel_rfl) rfl
          clear hs
          go_simp
          exact hK s wx (fun _ _ => rfl) hR
        refine StepAll.consG (fun D s wx hR (hDi : D 20 = false) hd hsh a' hs K hK => ?_) ?_
        · have eg := hs.at_ 19 61 (u := .bool true) rfl (hd ⟨19, .guard⟩ (by simp) rfl) (by kernel_rfl) (by kernel_rfl) rfl
          rw [if_pos (by rw [hs.wants (j := 19) (t := 61) rfl rfl eg (by kernel_rfl)]; rfl)]
          have e5 := hs.old 5 (u := .pointer (some ⟨B2, 0, none⟩)) (by kernel_rfl) rfl
          clear hs
          have kb : Blk wx (B2) 26 #[.int .i64 x.start, .slice A3 j3 c3, .slice A4 j4 c4] := hR.blk 4 rfl
          have c0 : wx.cell? ⟨B2, 0, none⟩ = some (.int .i64 x.start) := kb.cell 0
          have c1 : wx.cell? ⟨B2, 1, none⟩ = some (.slice A3 j3 c3) := kb.cell 1
          have c2 : wx.cell? ⟨B2, 2, none⟩ = some (.slice A4 j4 c4) := kb.cell 2
          go_simp
          exact hK s wx (fun _ _ => rfl) hR
        refine StepAll.consG (fun D s wx hR (hDi : D 21 = false) hd hsh a' hs K hK => ?_) ?_
        · have eg := hs.at_ 19 61 (u := .bool true) rfl (hd ⟨19, .guard⟩ (by simp) rfl) (by kernel_rfl) (by kernel_rfl) rfl
          rw [if_pos (by rw [hs.wants (j := 19) (t := 61) rfl rfl eg (by kernel_rfl)]; rfl)]
          have e62 := hs.at_ 20 62 (u := .agg #[.int .i64 x.start, .slice A3 j3 c3, .slice A4 j4 c4]) rfl (hd ⟨20, .data⟩ (by simp) rfl) (by kernel_rfl) (by kernel_rfl) rfl
          have g62 := getQ e62
          clear hs
          go_simp
          refine (reached_impl _ x _ (hR.rdT 3 rfl)).mono ?_
          rw [HR2.out]
          rintro e2 w2 ⟨rfl, hb2⟩
          exact hK s w2 (fun _ _ => rfl) (hR.quiet hb2)
        refine StepAll.consG (fun D s wx hR (hDi : D 22 = false) hd hsh a' hs K hK => ?_) ?_
        · have eg := hs.at_ 19 61 (u := .bool true) rfl (hd ⟨19, .guard⟩ (by simp) rfl) (by kernel_rfl) (by kernel_rfl) rfl
          rw [if_pos (by rw [hs.wants (j := 19) (t := 61) rfl rfl eg (by kernel_rfl)]; rfl)]
          have e63 := hs.at_ 21 63 (u := .int .i64 N) rfl (hd ⟨21, .data⟩ (by simp) rfl) (by kernel_rfl) (by kernel_rfl) rfl
          have g63 := getQ e63
          clear hs
          go_simp
          refine (lawBits_nat N _).mono ?_
          rw [HB.out]
          rintro e2 w2 ⟨rfl, rfl⟩
          exact hK s wx (fun _ _ => rfl) hR
        refine StepAll.consG (fun D s wx hR (hDi : D 23 = false) hd hsh a' hs K hK => ?_) ?_
        · have eg := hs.at_ 19 61 (u := .bool true) rfl (hd ⟨19, .guard⟩ (by simp) rfl) (by kernel_rfl) (by kernel_rfl) rfl
          rw [if_pos (by rw [hs.wants (j := 19) (t := 61) rfl rfl eg (by kernel_rfl)]; rfl)]
          have e3 := hs.old 3 (u := .pointer (some ⟨B1, 0, none⟩)) (by kernel_rfl) rfl
          clear hs
          have kb : Blk wx (B1) 26 #[.int .i64 t.start, .slice A1 j1 c1, .slice A2 j2 c2] := hR.blk 2 rfl
          have c0 : wx.cell? ⟨B1, 0, none⟩ = some (.int .i64 t.start) := kb.cell 0
          have c1 : wx.cell? ⟨B1, 1, none⟩ = some (.slice A1 j1 c1) := kb.cell 1
          have c2 : wx.cell? ⟨B1, 2, none⟩ = some (.slice A2 j2 c2) := kb.cell 2
          go_simp
          exact hK s wx (fun _ _ => rfl) hR
        refine StepAll.consG (fun D s wx hR (hDi : D 24 = false) hd hsh a' hs K hK => ?_) ?_
        · have eg := hs.at_ 19 61 (u := .bool true) rfl (hd ⟨19, .guard⟩ (by simp) rfl) (by kernel_rfl) (by kernel_rfl) rfl
          rw [if_pos (by rw [hs.wants (j := 19) (t := 61) rfl rfl eg (by kernel_rfl)]; rfl)]
          have e65 := hs.at_ 23 65 (u := .agg #[.int .i64 t.start, .slice A1 j1 c1, .slice A2 j2 c2]) rfl (hd ⟨23, .data⟩ (by simp) rfl) (by kernel_rfl) (by kernel_rfl) rfl
          have g65 := getQ e65
          clear hs
          go_simp
          refine (reached_impl _ t _ (hR.rdT 0 rfl)).mono ?_
          rw [HR1.out]
          rintro e2 w2 ⟨rfl, hb2⟩
          exact hK s w2 (fun _ _ => rfl) (hR.quiet hb2)
        refine StepAll.consG (fun D s wx hR (hDi : D 25 = false) hd hsh a' hs K hK => ?_) ?_
        · have eg := hs.at_ 19 61 (u := .bool true) rfl (hd ⟨19, .guard⟩ (by simp) rfl) (by kernel_rfl) (by kernel_rfl) rfl
          rw [if_pos (by rw [hs.wants (j := 19) (t := 61) rfl rfl eg (by kernel_rfl)]; rfl)]
          have e66 := hs.at_ 24 66 (u := .int .i64 M) rfl (hd ⟨24, .data⟩ (by simp) rfl) (by kernel_rfl) (by kernel_rfl) rfl
          have g66 := getQ e66
          clear hs
          go_simp
          refine (lawBits_nat M _).mono ?_
          rintro e2 w2 ⟨rfl, rfl⟩
          exact hK s wx (fun _ _ => rfl) hR
        refine StepAll.consG (fun D s wx hR (hDi : D 26 = false) hd hsh a' hs K hK => ?_) ?_
        · have eg := hs.at_ 19 61 (u := .bool true) rfl (hd ⟨19, .guard⟩ (by simp) rfl) (by kernel_rfl) (by kernel_rfl) rfl
          rw [if_pos (by rw [hs.wants (j := 19) (t := 61) rfl rfl eg (by kernel_rfl)]; rfl)]
          have e64 := hs.at_ 22 64 (u := .int .i64 (bitSum M 40 : Nat)) rfl (hd ⟨22, .data⟩ (by simp) rfl) (by kernel_rfl) (by kernel_rfl) rfl
          have e67 := hs.at_ 25 67 (u := .int .i64 (bitSum M 40 : Nat)) rfl (hd ⟨25, .data⟩ (by simp) rfl) (by kernel_rfl) (by kernel_rfl) rfl
          clear hs
          go_simp
          exact hK s wx (fun _ _ => rfl) hR
        refine StepAll.cons (fun D s wx hR (hDi : D 27 = false) hd hsh a' hs K hK => ?_) ?_
        · have e61 := hs.at_ 19 61 (u := .bool true) rfl (hd ⟨19, .data⟩ (by simp) rfl) (by kernel_rfl) (by kernel_rfl) rfl
          have e68 := hs.at_ 26 68 (u := .bool true) rfl (hd ⟨26, .data⟩ (by simp) rfl) (by kernel_rfl) (by kernel_rfl) rfl
          clear hs
          go_simp
          exact hK s wx (fun _ _ => rfl) hR
        refine StepAll.cons (fun D s wx hR (hDi : D 28 = false) hd hsh a' hs K hK => ?_) ?_
        · have e69 := hs.at_ 27 69 (u := .bool true) rfl (hd ⟨27, .data⟩ (by simp) rfl) (by kernel_rfl) (by kernel_rfl) rfl
          clear hs
          go_simp
          exact hK s wx (fun _ _ => rfl) hR
        exact StepAll.nil
      · intro D s wx hR hD
        simp only [putA, Act.put, List.setIfInBounds_toArray, List.set_cons_zero, List.set_cons_succ]
        have HSZ := Lib.hid (hR.to_st (L := [rTask (.agg #[.int .i64 t.start, .slice A1 j1 c1, .slice A2 j2 c2]) t]) [0] (by decide) rfl).below
        clear hR hD
        go_wp2
        go_ret
        exact ⟨rfl, HSZ.out⟩
end Go.Proofs.Ytdbgoekemffimaa
