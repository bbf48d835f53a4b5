/- The law FnExactMustLook, walked. -/
import Derived.Test.YtkimgdfcgfhibaaDoorSCame
import Derived.Test.YtkimgdfcgfhibaaDoorSBook
import Derived.Test.YtkimgdfcgfhibaaDoorSMustI
import Derived.Test.YtkimgdfcgfhibaaDoorSMustS
namespace Go.Proofs.YtkimgdfcgfhibaaDoor
set_option linter.unusedVariables false
set_option linter.unusedSimpArgs false
open Go.ChangeShapes Go.WideShapes Go.ChangeAt Go.RowKit
set_option maxRecDepth 100000 in
set_option maxHeartbeats 4000000 in
theorem FnExactMustLook_walk (v0 : Value) (x0 : TaskD) (A1 : Option Addr) (n1 c1 : Nat) (x1 : List Int) (w : World) (h0 : RdTM maxLen w w.heap.size v0 x0) (h1 : RdI .i64 w w.heap.size A1 n1 c1 x1) (he : ErrH w) :
    Calls Tryd.prog 4 #[v0, .slice A1 n1 c1] w fun e w' => e = .returned (.bool true) ∧ Below w.heap.size w w' := by
  obtain ⟨Ax0, nx0, cx0, Bx0, mx0, dx0, hv0⟩ := h0.form
  subst hv0
  have S1a : St w (w.alloc (Obj.cells #[.int .i64 (x0).start, .slice Ax0 nx0 cx0, .slice Bx0 mx0 dx0] 36)) [rBlk w.heap.size 36 #[.int .i64 (x0).start, .slice Ax0 nx0 cx0, .slice Bx0 mx0 dx0]] := ((St.refl w).alloc #[.int .i64 (x0).start, .slice Ax0 nx0 cx0, .slice Bx0 mx0 dx0] 36)
  have q2 : ∀ j, (w.alloc (Obj.cells #[.int .i64 (x0).start, .slice Ax0 nx0 cx0, .slice Bx0 mx0 dx0] 36)).cell? ⟨w.heap.size, j, none⟩ = _ := S1a.cells 0 rfl
  have HE := Lib.hid he
  clear he
  by_cases hn1 : n1 ≤ 1048576
  case neg =>
    go_enter Tryd.func4, Tryd.ntmps4
    go_wp2
    go_ret
    exact ⟨rfl, S1a.below⟩
  by_cases hz0 : ((szT x0 : Nat) : Int) ≤ 1048576 - 0
  case neg =>
    go_enter Tryd.func4, Tryd.ntmps4
    go_wp2_with fail
    refine (szTask_any (M := maxLen) (by unfold maxLen; omega) _ x0 _ _ (h0.up S1a.below) (by omega) (by omega)).mono ?_
    rw [less_no (by omega)]
    rintro e w' ⟨rfl, hb⟩
    go_wp2
    go_ret
    exact ⟨rfl, (S1a.quiet hb).below⟩
  have hr0 := h0.less (M' := 1048576) (by omega)
  have HR0 := Lib.hid hr0
  clear hr0
  have hmk0 : mkT x0 ≤ 4194304 := by have := mkT_le x0; omega
  have hl1 : (x1).length ≤ 1048576 := by have := h1.len; omega
  have HR1 := Lib.hid h1
  go_enter Tryd.func4, Tryd.ntmps4
  go_wp2_with fail
  refine (szTask_any (M := maxLen) (by unfold maxLen; omega) _ x0 _ _ (h0.up S1a.below) (by omega) (by omega)).mono ?_
  rw [less_yes (by omega)]
  rintro e w103 ⟨rfl, hb3⟩
  have S3 : St w w103 [rBlk w.heap.size 36 #[.int .i64 (x0).start, .slice Ax0 nx0 cx0, .slice Bx0 mx0 dx0]] := S1a.quiet hb3
  clear q2
  have q4 : ∀ j, w103.cell? ⟨w.heap.size, j, none⟩ = _ := S3.cells 0 rfl
  clear q4
  have q5 : ∀ j, w103.cell? ⟨w.heap.size, j, none⟩ = _ := S3.cells 0 rfl
  go_wp2_with fail
  refine (toTask_st _ x0 _ (HR0.out.up S3.below)).mono ?_
  rintro e w106 ⟨v6, rfl, s6⟩
  obtain ⟨A6, n6, c6, B6, m6, d6, hv⟩ := s6.formT 0 rfl
  subst hv
  have S6 : St w w106 [rBlk w.heap.size 36 #[.int .i64 (x0).start, .slice Ax0 nx0 cx0, .slice Bx0 mx0 dx0], rTask (.agg #[.int .i64 (x0).start, .slice A6 n6 c6, .slice B6 m6 d6]) x0] := S3.call s6
  clear q5
  have q7 : ∀ j, w106.cell? ⟨w.heap.size, j, none⟩ = _ := S6.cells 0 rfl
  go_wp2_with fail
  refine (toIntS_st _ _ _ x1 _ (HR1.out.up S6.below) (by omega)).mono ?_
  rintro e w108 ⟨v8, rfl, s8⟩
  obtain ⟨A8, c8, hv, -⟩ := s8.rdI 0 rfl
  subst hv
  have S8 : St w w108 [rBlk w.heap.size 36 #[.int .i64 (x0).start, .slice Ax0 nx0 cx0, .slice Bx0 mx0 dx0], rTask (.agg #[.int .i64 (x0).start, .slice A6 n6 c6, .slice B6 m6 d6]) x0, rInts (.slice A8 (x1).length c8) x1] := S6.call s8
  go_wp2_with fail
  refine (mustLook_spec _ x0 _ _ _ x1 _ (S8.rdT 1 rfl) (S8.rdI' 2 rfl)).mono ?_
  rintro e w109 ⟨rfl, hb9⟩
  have S9 : St w w109 [rBlk w.heap.size 36 #[.int .i64 (x0).start, .slice Ax0 nx0 cx0, .slice Bx0 mx0 dx0], rTask (.agg #[.int .i64 (x0).start, .slice A6 n6 c6, .slice B6 m6 d6]) x0, rInts (.slice A8 (x1).length c8) x1] := S8.quiet hb9
  clear q7
  have q10 : ∀ j, w109.cell? ⟨w.heap.size, j, none⟩ = _ := S9.cells 0 rfl
  go_wp2_with fail
  refine (toTask_st _ x0 _ (HR0.out.up S9.below)).mono ?_
  rintro e w111 ⟨v11, rfl, s11⟩
  obtain ⟨A11, n11, c11, B11, m11, d11, hv⟩ := s11.formT 0 rfl
  subst hv
  have S11 : St w w111 [rBlk w.heap.size 36 #[.int .i64 (x0).start, .slice Ax0 nx0 cx0, .slice Bx0 mx0 dx0], rTask (.agg #[.int .i64 (x0).start, .slice A6 n6 c6, .slice B6 m6 d6]) x0, rInts (.slice A8 (x1).length c8) x1, rTask (.agg #[.int .i64 (x0).start, .slice A11 n11 c11, .slice B11 m11 d11]) x0] := S9.call s11
  have S12a : St w (w111.alloc (Obj.cells #[.int .i64 (x0).start, .slice A11 n11 c11, .slice B11 m11 d11] 26)) [rBlk w.heap.size 36 #[.int .i64 (x0).start, .slice Ax0 nx0 cx0, .slice Bx0 mx0 dx0], rTask (.agg #[.int .i64 (x0).start, .slice A6 n6 c6, .slice B6 m6 d6]) x0, rInts (.slice A8 (x1).length c8) x1, rTask (.agg #[.int .i64 (x0).start, .slice A11 n11 c11, .slice B11 m11 d11]) x0, rBlk w111.heap.size 26 #[.int .i64 (x0).start, .slice A11 n11 c11, .slice B11 m11 d11]] := (S11.alloc #[.int .i64 (x0).start, .slice A11 n11 c11, .slice B11 m11 d11] 26)
  clear q10
  have q13 : ∀ j, (w111.alloc (Obj.cells #[.int .i64 (x0).start, .slice A11 n11 c11, .slice B11 m11 d11] 26)).cell? ⟨w.heap.size, j, none⟩ = _ := S12a.cells 0 rfl
  have q14 : ∀ j, (w111.alloc (Obj.cells #[.int .i64 (x0).start, .slice A11 n11 c11, .slice B11 m11 d11] 26)).cell? ⟨w111.heap.size, j, none⟩ = _ := S12a.cells 4 rfl
  go_wp2_with fail
  refine (toIntS_st _ _ _ x1 _ (HR1.out.up S12a.below) (by omega)).mono ?_
  rintro e w115 ⟨v15, rfl, s15⟩
  obtain ⟨A15, c15, hv, -⟩ := s15.rdI 0 rfl
  subst hv
  have S15 : St w w115 [rBlk w.heap.size 36 #[.int .i64 (x0).start, .slice Ax0 nx0 cx0, .slice Bx0 mx0 dx0], rTask (.agg #[.int .i64 (x0).start, .slice A6 n6 c6, .slice B6 m6 d6]) x0, rInts (.slice A8 (x1).length c8) x1, rTask (.agg #[.int .i64 (x0).start, .slice A11 n11 c11, .slice B11 m11 d11]) x0, rBlk w111.heap.size 26 #[.int .i64 (x0).start, .slice A11 n11 c11, .slice B11 m11 d11], rInts (.slice A15 (x1).length c15) x1] := S12a.call s15
  clear q13 q14
  have q16 : ∀ j, w115.cell? ⟨w.heap.size, j, none⟩ = _ := S15.cells 0 rfl
  have q17 : ∀ j, w115.cell? ⟨w111.heap.size, j, none⟩ = _ := S15.cells 4 rfl
  go_wp2_with fail
  refine (mustLook_impl _ x0 _ _ _ x1 _ (S15.rdT 3 rfl) (S15.rdI' 5 rfl) (HE.out.up S15.below)).mono ?_
  rintro e w118 ⟨rfl, hb18⟩
  have S18 : St w w118 [rBlk w.heap.size 36 #[.int .i64 (x0).start, .slice Ax0 nx0 cx0, .slice Bx0 mx0 dx0], rTask (.agg #[.int .i64 (x0).start, .slice A6 n6 c6, .slice B6 m6 d6]) x0, rInts (.slice A8 (x1).length c8) x1, rTask (.agg #[.int .i64 (x0).start, .slice A11 n11 c11, .slice B11 m11 d11]) x0, rBlk w111.heap.size 26 #[.int .i64 (x0).start, .slice A11 n11 c11, .slice B11 m11 d11], rInts (.slice A15 (x1).length c15) x1] := S15.quiet hb18
  clear q16 q17
  have q19 : ∀ j, w118.cell? ⟨w.heap.size, j, none⟩ = _ := S18.cells 0 rfl
  have q20 : ∀ j, w118.cell? ⟨w111.heap.size, j, none⟩ = _ := S18.cells 4 rfl
  go_upto_region 13 with (fail)
  refine wp_reg (σ := Value) (by kernel_rfl) (by kernel_rfl) (by kernel_rfl)
    (fun s i => match i with
      | 0 => .agg #[.int .i64 (x0).start, .slice A11 n11 c11, .slice B11 m11 d11]
      | 1 => .agg #[.int .i64 (x0).start, .slice Ax0 nx0 cx0, .slice Bx0 mx0 dx0]
      | 2 => s
      | 3 => .bool true
      | 4 => .bool false
      | _ => undef)
    (fun D s wx21 => Sn w wx21 fun i => match i with
      | 0 => some (rBlk w.heap.size 36 #[.int .i64 (x0).start, .slice Ax0 nx0 cx0, .slice Bx0 mx0 dx0])
      | 1 => some (rTask (.agg #[.int .i64 (x0).start, .slice A6 n6 c6, .slice B6 m6 d6]) x0)
      | 2 => some (rInts (.slice A8 (x1).length c8) x1)
      | 3 => some (rTask (.agg #[.int .i64 (x0).start, .slice A11 n11 c11, .slice B11 m11 d11]) x0)
      | 4 => some (rBlk w111.heap.size 26 #[.int .i64 (x0).start, .slice A11 n11 c11, .slice B11 m11 d11])
      | 5 => some (rInts (.slice A15 (x1).length c15) x1)
      | 6 => if D 2 = true then some (rTask s x0) else none
      | _ => none)
    undef ?_ ?_ ?_
  · intro D hD
    refine ((Sn.of_st S18).quiet ((Below.refl _ _).drew)).congr fun i => ?_
    match i with
    | 0 => rfl
    | 1 => rfl
    | 2 => rfl
    | 3 => rfl
    | 4 => rfl
    | 5 => rfl
    | 6 => exact if_neg (by rw [hD 2 (by decide)]; simp)
    | q + 7 => rfl
  · refine StepAll.cons (fun D s wx21 hR (hDi : D 0 = false) hd hsh a' hs K hK => ?_) ?_
    · have e7 := hs.old 7 (u := .pointer (some ⟨w111.heap.size, 0, none⟩)) (by kernel_rfl) rfl
      clear hs
      have kb : Blk wx21 (w111.heap.size) 26 #[.int .i64 (x0).start, .slice A11 n11 c11, .slice B11 m11 d11] := hR.blk 4 rfl
      have c0 : wx21.cell? ⟨w111.heap.size, 0, none⟩ = some (.int .i64 (x0).start) := kb.cell 0
      have c1 : wx21.cell? ⟨w111.heap.size, 1, none⟩ = some (.slice A11 n11 c11) := kb.cell 1
      have c2 : wx21.cell? ⟨w111.heap.size, 2, none⟩ = some (.slice B11 m11 d11) := kb.cell 2
      go_simp
      exact hK s wx21 (fun _ _ => rfl) hR
    refine StepAll.cons (fun D s wx21 hR (hDi : D 1 = false) hd hsh a' hs K hK => ?_) ?_
    · have e2 := hs.old 2 (u := .pointer (some ⟨w.heap.size, 0, none⟩)) (by kernel_rfl) rfl
      clear hs
      have kb : Blk wx21 (w.heap.size) 36 #[.int .i64 (x0).start, .slice Ax0 nx0 cx0, .slice Bx0 mx0 dx0] := hR.blk 0 rfl
      have c0 : wx21.cell? ⟨w.heap.size, 0, none⟩ = some (.int .i64 (x0).start) := kb.cell 0
      have c1 : wx21.cell? ⟨w.heap.size, 1, none⟩ = some (.slice Ax0 nx0 cx0) := kb.cell 1
      have c2 : wx21.cell? ⟨w.heap.size, 2, none⟩ = some (.slice Bx0 mx0 dx0) := kb.cell 2
      go_simp
      exact hK s wx21 (fun _ _ => rfl) hR
    refine StepAll.cons (fun D s wx21 hR (hDi : D 2 = false) hd hsh a' hs K hK => ?_) ?_
    · have e34 := hs.at_ 1 34 (u := .agg #[.int .i64 (x0).start, .slice Ax0 nx0 cx0, .slice Bx0 mx0 dx0]) rfl (hd ⟨1, .data⟩ (by simp) rfl) (by kernel_rfl) (by kernel_rfl) rfl
      have g34 := getQ e34
      clear hs
      have n3 : D 3 = false := hsh.no hDi 3 rfl ⟨2, .data⟩ (by simp) rfl rfl
      have n4 : D 4 = false := hsh.no n3 4 rfl ⟨3, .data⟩ (by simp) rfl rfl
      go_simp
      refine (toTask_st _ x0 _ (HR0.out.up hR.below)).mono ?_
      rintro e w2 ⟨v2, rfl, s2⟩
      refine hK v2 w2
        (fun j hj => by
          match j, hj with
          | 0, hj => rfl
          | 1, hj => rfl
          | 2, hj => rw [hDi] at hj; cases hj
          | 3, hj => rfl
          | 4, hj => rfl
          | _ + 5, hj => rfl)
        ((hR.add 6 (if_neg (by rw [hDi]; simp)) s2).congr
          (fun i => by
            match i with
            | 0 => rfl
            | 1 => rfl
            | 2 => rfl
            | 3 => rfl
            | 4 => rfl
            | 5 => rfl
            | 6 => rfl
            | q + 7 => exact (if_neg (show ¬ (q + 7 = 6) by omega)).symm))
    refine StepAll.cons (fun D s wx21 hR (hDi : D 3 = false) hd hsh a' hs K hK => ?_) ?_
    · have e33 := hs.at_ 0 33 (u := .agg #[.int .i64 (x0).start, .slice A11 n11 c11, .slice B11 m11 d11]) rfl (hd ⟨0, .data⟩ (by simp) rfl) (by kernel_rfl) (by kernel_rfl) rfl
      have e35 := hs.at_ 2 35 (u := s) rfl (hd ⟨2, .data⟩ (by simp) rfl) (by kernel_rfl) (by kernel_rfl) rfl
      have g33 := getQ e33
      have g35 := getQ e35
      clear hs
      have d2 : D 2 = true := hd ⟨2, .data⟩ (by simp) rfl
      go_simp
      refine (eqTask_same _ x0 _ _ (hR.rdT 3 rfl) (hR.rdT 6 (if_pos d2))).mono ?_
      rintro e w2 ⟨rfl, hb2⟩
      exact hK s w2 (fun _ _ => rfl) (hR.quiet hb2)
    refine StepAll.cons (fun D s wx21 hR (hDi : D 4 = false) hd hsh a' hs K hK => ?_) ?_
    · have e36 := hs.at_ 3 36 (u := .bool true) rfl (hd ⟨3, .data⟩ (by simp) rfl) (by kernel_rfl) (by kernel_rfl) rfl
      clear hs
      go_simp
      exact hK s wx21 (fun _ _ => rfl) hR
    exact StepAll.nil
  · intro D s wx21 hR hD
    simp only [putA, Act.put, List.setIfInBounds_toArray, List.set_cons_zero, List.set_cons_succ]
    have S22 : St w wx21 [rBlk w.heap.size 36 #[.int .i64 (x0).start, .slice Ax0 nx0 cx0, .slice Bx0 mx0 dx0], rTask (.agg #[.int .i64 (x0).start, .slice A6 n6 c6, .slice B6 m6 d6]) x0, rInts (.slice A8 (x1).length c8) x1, rTask (.agg #[.int .i64 (x0).start, .slice A11 n11 c11, .slice B11 m11 d11]) x0, rBlk w111.heap.size 26 #[.int .i64 (x0).start, .slice A11 n11 c11, .slice B11 m11 d11], rInts (.slice A15 (x1).length c15) x1] := hR.to_st [0, 1, 2, 3, 4, 5] (by decide) rfl
    clear hR hD
    clear q19 q20
    have q23 : ∀ j, wx21.cell? ⟨w.heap.size, j, none⟩ = _ := S22.cells 0 rfl
    have q24 : ∀ j, wx21.cell? ⟨w111.heap.size, j, none⟩ = _ := S22.cells 4 rfl
    go_wp2_with fail
    refine (toIntS_st _ _ _ x1 _ (HR1.out.up S22.below) (by omega)).mono ?_
    rintro e w125 ⟨v25, rfl, s25⟩
    obtain ⟨A25, c25, hv, -⟩ := s25.rdI 0 rfl
    subst hv
    have S25 : St w w125 [rBlk w.heap.size 36 #[.int .i64 (x0).start, .slice Ax0 nx0 cx0, .slice Bx0 mx0 dx0], rTask (.agg #[.int .i64 (x0).start, .slice A6 n6 c6, .slice B6 m6 d6]) x0, rInts (.slice A8 (x1).length c8) x1, rTask (.agg #[.int .i64 (x0).start, .slice A11 n11 c11, .slice B11 m11 d11]) x0, rBlk w111.heap.size 26 #[.int .i64 (x0).start, .slice A11 n11 c11, .slice B11 m11 d11], rInts (.slice A15 (x1).length c15) x1, rInts (.slice A25 (x1).length c25) x1] := S22.call s25
    go_wp2_with fail
    refine (eqIntS_same _ _ _ x1 _ _ _ _ (S25.rdI' 5 rfl) (S25.rdI' 6 rfl)).mono ?_
    rintro e w126 ⟨rfl, hb26⟩
    have S26 : St w w126 [rBlk w.heap.size 36 #[.int .i64 (x0).start, .slice Ax0 nx0 cx0, .slice Bx0 mx0 dx0], rTask (.agg #[.int .i64 (x0).start, .slice A6 n6 c6, .slice B6 m6 d6]) x0, rInts (.slice A8 (x1).length c8) x1, rTask (.agg #[.int .i64 (x0).start, .slice A11 n11 c11, .slice B11 m11 d11]) x0, rBlk w111.heap.size 26 #[.int .i64 (x0).start, .slice A11 n11 c11, .slice B11 m11 d11], rInts (.slice A15 (x1).length c15) x1, rInts (.slice A25 (x1).length c25) x1] := S25.quiet hb26
    clear q23 q24
    have q27 : ∀ j, w126.cell? ⟨w.heap.size, j, none⟩ = _ := S26.cells 0 rfl
    have q28 : ∀ j, w126.cell? ⟨w111.heap.size, j, none⟩ = _ := S26.cells 4 rfl
    go_wp2
    go_ret
    exact ⟨rfl, S26.below⟩
end Go.Proofs.YtkimgdfcgfhibaaDoor
