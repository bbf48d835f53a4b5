/- The walk of the law FnBookNew: true for every drawn code. -/
import Derived.Test.YtpcaagbmjhgnaaaDraws
import Derived.Test.YtpcaagbmjhgnaaaSame
import Derived.Test.YtpcaagbmjhgnaaaBookNew
import Derived.Test.YtpcaagbmjhgnaaaBValid
import Derived.Test.YtpcaagbmjhgnaaaAlive
namespace Go.Proofs.Ytpcaagbmjhgnaaa
set_option linter.unusedVariables false
open Go.ChangeShapes Go.WideShapes Go.ChangeAt Go.RowKit

theorem bookNew_ok (t : TaskD) (h : taskOk t = true) : bookNew t = ⟨t, [], t.start⟩ ∧ bookOk ⟨t, [], t.start⟩ = true := by
  have hp := taskOk_parts t h
  refine ⟨by unfold bookNew; rw [if_pos h], ?_⟩
  have hs : stIn t.start = true := (stIn_iff _).2 hp.1
  unfold bookOk planRun
  simp only [h, hs, List.length_nil, Bool.true_and]
  rw [if_pos ⟨trivial, trivial, by omega⟩]
  simp [runP, opt, toNat_cast hp.1.1]
theorem bookNew_zero (t : TaskD) (h : taskOk t = false) : bookNew t = ⟨⟨0, [], []⟩, [], 0⟩ := by unfold bookNew; rw [if_neg (by rw [h]; simp)]
set_option maxRecDepth 100000 in
theorem FnBookNew_walk (A : Option Addr) (n c : Nat) (xs : List Int) (w : World) (h : RdI .u8 w w.heap.size A n c xs) :
    Calls Try.prog 10 #[.slice A n c] w fun e w' => e = .returned (.bool true) ∧ Below w.heap.size w w' := by
  have hcap := h.cap
  have hmax := h.capMax
  unfold maxLen at hmax
  have H := Lib.hid h
  clear h
  by_cases hn : n ≤ 1048576
  case neg =>
    go_enter Try.func10, Try.ntmps10
    go_wp2
    go_ret
    exact ⟨rfl, Below.refl _ _⟩
  go_enter Try.func10, Try.ntmps10
  go_wp2_with fail
  refine (drawBookNew A n c xs _ H.out).mono ?_
  rintro e w1 ⟨v1, t, rfl, ht, s1⟩
  clear ht
  obtain ⟨A1, j1, c1, A2, j2, c2, hv⟩ := s1.formT 0 rfl
  subst hv
  obtain ⟨B1, hB1⟩ : ∃ B1, w1.heap.size = B1 := ⟨_, rfl⟩
  have HS1 : Hid (St w (w1.alloc (.cells #[.int .i64 t.start, .slice A1 j1 c1, .slice A2 j2 c2] 28)) [rTask (.agg #[.int .i64 t.start, .slice A1 j1 c1, .slice A2 j2 c2]) t, rBlk B1 28 #[.int .i64 t.start, .slice A1 j1 c1, .slice A2 j2 c2]]) := Lib.hid (by rw [← hB1]; exact s1.alloc _ _)
  clear s1
  obtain ⟨bo, hbo⟩ : ∃ bo, taskOk t = bo := ⟨_, rfl⟩
  have HBO := Bx.mk hbo
  obtain ⟨b, hb⟩ : ∃ b, bookNew t = b := ⟨_, rfl⟩
  have HB := Bx.mk hb
  go_wp2_with fail
  refine (bookNew_impl _ t _ (HS1.out.rdT 0 rfl)).mono ?_
  rw [hb]
  rintro e w2 ⟨v2, rfl, s2⟩
  obtain ⟨A3, j3, c3, A4, j4, c4, A5, j5, c5, hv⟩ := s2.formB 0 rfl
  obtain ⟨B2, hB2⟩ : ∃ B2, w2.heap.size = B2 := ⟨_, rfl⟩
  simp only [id_eq] at hv ⊢
  subst hv
  have HS2 : Hid (St w (w2.alloc (.cells #[.int .i64 b.order.start, .slice A3 j3 c3, .slice A4 j4 c4, .slice A5 j5 c5, .int .i64 b.state] 48)) [rTask (.agg #[.int .i64 t.start, .slice A1 j1 c1, .slice A2 j2 c2]) t, rBlk B1 28 #[.int .i64 t.start, .slice A1 j1 c1, .slice A2 j2 c2], rBook (.agg #[.int .i64 b.order.start, .slice A3 j3 c3, .slice A4 j4 c4, .slice A5 j5 c5, .int .i64 b.state]) b, rBlk B2 48 #[.int .i64 b.order.start, .slice A3 j3 c3, .slice A4 j4 c4, .slice A5 j5 c5, .int .i64 b.state]]) := Lib.hid (by rw [← hB2]; exact (HS1.out.call s2).alloc _ _)
  have q1 : ∀ j, (w2.alloc (.cells #[.int .i64 b.order.start, .slice A3 j3 c3, .slice A4 j4 c4, .slice A5 j5 c5, .int .i64 b.state] 48)).cell? ⟨B1, j, none⟩ = _ := HS2.out.cells 1 rfl
  have q2 : ∀ j, (w2.alloc (.cells #[.int .i64 b.order.start, .slice A3 j3 c3, .slice A4 j4 c4, .slice A5 j5 c5, .int .i64 b.state] 48)).cell? ⟨B2, j, none⟩ = _ := HS2.out.cells 3 rfl
  clear s2 HS1 hbo hb
  go_upto_region 5 with (fail)
  try rw [hB1]
  try rw [hB2]
  clear hB1 hB2 q1 q2
  refine wp_reg (σ := Value) (by kernel_rfl) (by kernel_rfl) (by kernel_rfl)
    (fun s i => match i with
      | 0 => .agg #[.int .i64 b.order.start, .slice A3 j3 c3, .slice A4 j4 c4, .slice A5 j5 c5, .int .i64 b.state]
      | 1 => .agg #[.int .i64 t.start, .slice A1 j1 c1, .slice A2 j2 c2]
      | 2 => s
      | 3 => .bool true
      | 4 => .bool false
      | _ => undef)
    (fun D s wx => Sn w wx fun i => match i with
      | 0 => some (rTask (.agg #[.int .i64 t.start, .slice A1 j1 c1, .slice A2 j2 c2]) t)
      | 1 => some (rBlk B1 28 #[.int .i64 t.start, .slice A1 j1 c1, .slice A2 j2 c2])
      | 2 => some (rBook (.agg #[.int .i64 b.order.start, .slice A3 j3 c3, .slice A4 j4 c4, .slice A5 j5 c5, .int .i64 b.state]) b)
      | 3 => some (rBlk B2 48 #[.int .i64 b.order.start, .slice A3 j3 c3, .slice A4 j4 c4, .slice A5 j5 c5, .int .i64 b.state])
      | 4 => if D 2 = true then some (rBook s b) else none
      | _ => none)
    undef ?_ ?_ ?_
  · intro D hD
    refine ((Sn.of_st HS2.out).quiet ((Below.refl _ _).drew)).congr fun i => ?_
    match i with
    | 0 => rfl
    | 1 => rfl
    | 2 => rfl
    | 3 => rfl
    | 4 => exact if_neg (by rw [hD 2 (by decide)]; simp)
    | q + 5 => rfl
  · refine StepAll.cons (fun D s wx hR (hDi : D 0 = false) hd hsh a' hs K hK => ?_) ?_
    · have e4 := hs.old 4 (u := .pointer (some ⟨B2, 0, none⟩)) (by kernel_rfl) rfl
      clear hs
      have kb : Blk wx (B2) 48 #[.int .i64 b.order.start, .slice A3 j3 c3, .slice A4 j4 c4, .slice A5 j5 c5, .int .i64 b.state] := hR.blk 3 rfl
      have c0 : wx.cell? ⟨B2, 0, none⟩ = some (.int .i64 b.order.start) := kb.cell 0
      have c1 : wx.cell? ⟨B2, 1, none⟩ = some (.slice A3 j3 c3) := kb.cell 1
      have c2 : wx.cell? ⟨B2, 2, none⟩ = some (.slice A4 j4 c4) := kb.cell 2
      have c3 : wx.cell? ⟨B2, 3, none⟩ = some (.slice A5 j5 c5) := kb.cell 3
      have c4 : wx.cell? ⟨B2, 4, none⟩ = some (.int .i64 b.state) := kb.cell 4
      go_simp
      exact hK s wx (fun _ _ => rfl) hR
    refine StepAll.cons (fun D s wx hR (hDi : D 1 = false) hd hsh a' hs K hK => ?_) ?_
    · have e3 := hs.old 3 (u := .pointer (some ⟨B1, 0, none⟩)) (by kernel_rfl) rfl
      clear hs
      have kb : Blk wx (B1) 28 #[.int .i64 t.start, .slice A1 j1 c1, .slice A2 j2 c2] := hR.blk 1 rfl
      have c0 : wx.cell? ⟨B1, 0, none⟩ = some (.int .i64 t.start) := kb.cell 0
      have c1 : wx.cell? ⟨B1, 1, none⟩ = some (.slice A1 j1 c1) := kb.cell 1
      have c2 : wx.cell? ⟨B1, 2, none⟩ = some (.slice A2 j2 c2) := kb.cell 2
      go_simp
      exact hK s wx (fun _ _ => rfl) hR
    refine StepAll.cons (fun D s wx hR (hDi : D 2 = false) hd hsh a' hs K hK => ?_) ?_
    · have e13 := hs.at_ 1 13 (u := .agg #[.int .i64 t.start, .slice A1 j1 c1, .slice A2 j2 c2]) rfl (hd ⟨1, .data⟩ (by simp) rfl) (by kernel_rfl) (by kernel_rfl) rfl
      have g13 := getQ e13
      clear hs
      have n3 : D 3 = false := hsh.no hDi 3 rfl ⟨2, .data⟩ (by simp) rfl rfl
      have n4 : D 4 = false := hsh.no n3 4 rfl ⟨3, .data⟩ (by simp) rfl rfl
      go_simp
      refine (bookNew_spec _ t _ (hR.rdT 0 rfl)).mono ?_
      rw [HB.out]
      rintro e2 w2 ⟨v2, rfl, s2⟩
      refine hK v2 w2
        (fun j hj => by
          match j, hj with
          | 0, hj => rfl
          | 1, hj => rfl
          | 2, hj => rw [hDi] at hj; cases hj
          | 3, hj => rfl
          | 4, hj => rfl
          | _ + 5, hj => rfl)
        ((hR.add 4 (if_neg (by rw [hDi]; simp)) s2).congr
          (fun i => by
            match i with
            | 0 => rfl
            | 1 => rfl
            | 2 => rfl
            | 3 => rfl
            | 4 => rfl
            | q + 5 => exact (if_neg (show ¬ (q + 5 = 4) by omega)).symm))
    refine StepAll.cons (fun D s wx hR (hDi : D 3 = false) hd hsh a' hs K hK => ?_) ?_
    · have e12 := hs.at_ 0 12 (u := .agg #[.int .i64 b.order.start, .slice A3 j3 c3, .slice A4 j4 c4, .slice A5 j5 c5, .int .i64 b.state]) rfl (hd ⟨0, .data⟩ (by simp) rfl) (by kernel_rfl) (by kernel_rfl) rfl
      have e14 := hs.at_ 2 14 (u := s) rfl (hd ⟨2, .data⟩ (by simp) rfl) (by kernel_rfl) (by kernel_rfl) rfl
      have g12 := getQ e12
      have g14 := getQ e14
      clear hs
      have d2 : D 2 = true := hd ⟨2, .data⟩ (by simp) rfl
      go_simp
      refine (sameBook_any _ b s b _ (hR.rdB 2 rfl) (hR.rdB 4 (if_pos d2))).mono ?_
      try rw [decide_eq_true rfl]
      rintro e2 w2 ⟨rfl, hb2⟩
      exact hK s w2 (fun _ _ => rfl) (hR.quiet hb2)
    refine StepAll.cons (fun D s wx hR (hDi : D 4 = false) hd hsh a' hs K hK => ?_) ?_
    · have e15 := hs.at_ 3 15 (u := .bool true) rfl (hd ⟨3, .data⟩ (by simp) rfl) (by kernel_rfl) (by kernel_rfl) rfl
      clear hs
      go_simp
      exact hK s wx (fun _ _ => rfl) hR
    exact StepAll.nil
  · intro D s wx hR hD
    simp only [putA, Act.put, List.setIfInBounds_toArray, List.set_cons_zero, List.set_cons_succ]
    have HS3 : Hid (St w wx [rTask (.agg #[.int .i64 t.start, .slice A1 j1 c1, .slice A2 j2 c2]) t, rBlk B1 28 #[.int .i64 t.start, .slice A1 j1 c1, .slice A2 j2 c2], rBook (.agg #[.int .i64 b.order.start, .slice A3 j3 c3, .slice A4 j4 c4, .slice A5 j5 c5, .int .i64 b.state]) b, rBlk B2 48 #[.int .i64 b.order.start, .slice A3 j3 c3, .slice A4 j4 c4, .slice A5 j5 c5, .int .i64 b.state]]) := Lib.hid (hR.to_st [0, 1, 2, 3] (by decide) rfl)
    clear hR hD
    have q1 : ∀ j, wx.cell? ⟨B1, j, none⟩ = _ := HS3.out.cells 1 rfl
    have q2 : ∀ j, wx.cell? ⟨B2, j, none⟩ = _ := HS3.out.cells 3 rfl
    go_wp2_with fail
    refine (taskValid_spec _ t _ (HS3.out.rdT 0 rfl)).mono ?_
    rw [HBO.out]
    rintro e w5 ⟨rfl, hb5⟩
    have HS5 := Lib.hid (HS3.out.quiet hb5)
    clear q1 q2 hb5
    have q1 : ∀ j, w5.cell? ⟨B1, j, none⟩ = _ := HS5.out.cells 1 rfl
    have q2 : ∀ j, w5.cell? ⟨B2, j, none⟩ = _ := HS5.out.cells 3 rfl
    cases bo with
    | false =>
      have HZ : Bx (b = ⟨⟨0, [], []⟩, [], 0⟩) := Bx.mk (by rw [← HB.out]; exact bookNew_zero t HBO.out)
      go_wp2_with fail
      refine (noBook_any _ b _ (HS5.out.rdB 2 rfl)).mono ?_
      rw [decide_eq_true HZ.out]
      rintro e w6 ⟨rfl, hb6⟩
      have HS6 := Lib.hid (HS5.out.quiet hb6)
      clear q1 q2 hb6
      go_wp2_with fail
      refine (alive_any _).mono ?_
      rintro e w7 ⟨rfl, hb7⟩
      have HS7 := Lib.hid (HS6.out.quiet hb7).below
      clear hb7
      go_wp2
      go_ret
      exact ⟨rfl, HS7.out⟩
    | true =>
      obtain ⟨k1, k2⟩ := bookNew_ok t HBO.out
      have HE : Bx (b = ⟨t, [], t.start⟩) := Bx.mk (by rw [← HB.out]; exact k1)
      have HOK : Bx (bookOk b = true) := Bx.mk (by rw [HE.out]; exact k2)
      have HO1 : Bx (b.order = t) := Bx.mk (by rw [HE.out])
      have hst : (b.state == t.start) = true := by rw [HE.out]; simp
      have HJ5 : Hid (j5 = 0) := Lib.hid (by have := ((HS5.out.rdB 2 rfl).done).1.len; rw [HE.out] at this; simpa using this.symm)
      have hj5 := HJ5.out
      subst hj5
      clear k1 k2
      go_wp2_with fail
      refine (bookValid_impl _ b _ (HS5.out.rdB 2 rfl)).mono ?_
      rw [HOK.out]
      rintro e w6 ⟨rfl, hb6⟩
      have HS6 := Lib.hid (HS5.out.quiet hb6)
      clear q1 q2 hb6
      have q1 : ∀ j, w6.cell? ⟨B1, j, none⟩ = _ := HS6.out.cells 1 rfl
      have q2 : ∀ j, w6.cell? ⟨B2, j, none⟩ = _ := HS6.out.cells 3 rfl
      go_wp2_with fail
      refine (sameTask_any _ b.order _ t _ ((HS6.out.rdB 2 rfl).order) (HS6.out.rdT 0 rfl)).mono ?_
      rw [decide_eq_true HO1.out]
      rintro e w7 ⟨rfl, hb7⟩
      have HS7 := Lib.hid (HS6.out.quiet hb7)
      clear q1 q2 hb7
      have q1 : ∀ j, w7.cell? ⟨B1, j, none⟩ = _ := HS7.out.cells 1 rfl
      have q2 : ∀ j, w7.cell? ⟨B2, j, none⟩ = _ := HS7.out.cells 3 rfl
      go_wp2
      go_ret
      exact ⟨rfl, HS7.out.below⟩
end Go.Proofs.Ytpcaagbmjhgnaaa
