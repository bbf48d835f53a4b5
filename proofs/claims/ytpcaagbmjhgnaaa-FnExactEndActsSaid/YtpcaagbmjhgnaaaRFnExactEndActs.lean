/- The law FnExactEndActs, walked. -/
import Derived.Test.YtpcaagbmjhgnaaaIntS
import Derived.Test.YtpcaagbmjhgnaaaEndActs
namespace Go.Proofs.Ytpcaagbmjhgnaaa
set_option linter.unusedVariables false
open Go.ChangeShapes Go.WideShapes Go.ChangeAt Go.RowKit
set_option maxRecDepth 100000 in
set_option maxHeartbeats 4000000 in
theorem FnExactEndActs_walk (v0 : Value) (x0 : BookD) (w : World) (h0 : RdBM maxLen w w.heap.size v0 x0) :
    Calls Try.prog 14 #[v0] w fun e w' => e = .returned (.bool true) ∧ Below w.heap.size w w' := by
  obtain ⟨Ax0, nx0, cx0, Bx0, mx0, dx0, Cx0, lx0, fx0, hv0⟩ := h0.form
  subst hv0
  have S1a : St w (w.alloc (Obj.cells #[.int .i64 (x0).order.start, .slice Ax0 nx0 cx0, .slice Bx0 mx0 dx0, .slice Cx0 lx0 fx0, .int .i64 (x0).state] 54)) [rBlk w.heap.size 54 #[.int .i64 (x0).order.start, .slice Ax0 nx0 cx0, .slice Bx0 mx0 dx0, .slice Cx0 lx0 fx0, .int .i64 (x0).state]] := ((St.refl w).alloc #[.int .i64 (x0).order.start, .slice Ax0 nx0 cx0, .slice Bx0 mx0 dx0, .slice Cx0 lx0 fx0, .int .i64 (x0).state] 54)
  have q2 : ∀ j, (w.alloc (Obj.cells #[.int .i64 (x0).order.start, .slice Ax0 nx0 cx0, .slice Bx0 mx0 dx0, .slice Cx0 lx0 fx0, .int .i64 (x0).state] 54)).cell? ⟨w.heap.size, j, none⟩ = _ := S1a.cells 0 rfl
  by_cases hz0 : ((szB x0 : Nat) : Int) ≤ 1048576 - 0
  case neg =>
    go_enter Try.func14, Try.ntmps14
    go_wp2_with fail
    refine (szBook_any (M := maxLen) (by unfold maxLen; omega) _ x0 _ _ (h0.up S1a.below) (by omega) (by omega)).mono ?_
    rw [less_no (by omega)]
    rintro e w' ⟨rfl, hb⟩
    go_wp2
    go_ret
    exact ⟨rfl, (S1a.quiet hb).below⟩
  have hr0 := h0.less (M' := 1048576) (by omega)
  have HR0 := Lib.hid hr0
  clear hr0
  have hmk0 : mkB x0 ≤ 4194304 := by have := mkB_le x0; omega
  have hM0 : (endActs x0).length ≤ 2 := endActs_len x0
  go_enter Try.func14, Try.ntmps14
  go_wp2_with fail
  refine (szBook_any (M := maxLen) (by unfold maxLen; omega) _ x0 _ _ (h0.up S1a.below) (by omega) (by omega)).mono ?_
  rw [less_yes (by omega)]
  rintro e w103 ⟨rfl, hb3⟩
  have S3 : St w w103 [rBlk w.heap.size 54 #[.int .i64 (x0).order.start, .slice Ax0 nx0 cx0, .slice Bx0 mx0 dx0, .slice Cx0 lx0 fx0, .int .i64 (x0).state]] := S1a.quiet hb3
  clear q2
  have q4 : ∀ j, w103.cell? ⟨w.heap.size, j, none⟩ = _ := S3.cells 0 rfl
  clear q4
  have q5 : ∀ j, w103.cell? ⟨w.heap.size, j, none⟩ = _ := S3.cells 0 rfl
  go_wp2_with fail
  refine (toBook_st _ x0 _ (HR0.out.up S3.below)).mono ?_
  rintro e w106 ⟨v6, rfl, s6⟩
  obtain ⟨A6, n6, c6, B6, m6, d6, C6, l6, f6, hv⟩ := s6.formB 0 rfl
  subst hv
  have S6 : St w w106 [rBlk w.heap.size 54 #[.int .i64 (x0).order.start, .slice Ax0 nx0 cx0, .slice Bx0 mx0 dx0, .slice Cx0 lx0 fx0, .int .i64 (x0).state], rBook (.agg #[.int .i64 (x0).order.start, .slice A6 n6 c6, .slice B6 m6 d6, .slice C6 l6 f6, .int .i64 (x0).state]) x0] := S3.call s6
  go_wp2_with fail
  refine (endActs_spec _ x0 _ (S6.rdB 1 rfl)).mono ?_
  rintro e w107 ⟨v7, rfl, s7⟩
  obtain ⟨A7, c7, hv, -⟩ := s7.rdA 0 rfl
  subst hv
  have S7 : St w w107 [rBlk w.heap.size 54 #[.int .i64 (x0).order.start, .slice Ax0 nx0 cx0, .slice Bx0 mx0 dx0, .slice Cx0 lx0 fx0, .int .i64 (x0).state], rBook (.agg #[.int .i64 (x0).order.start, .slice A6 n6 c6, .slice B6 m6 d6, .slice C6 l6 f6, .int .i64 (x0).state]) x0, rActs (.slice A7 ((endActs x0)).length c7) (endActs x0)] := S6.call s7
  clear q5
  have q8 : ∀ j, w107.cell? ⟨w.heap.size, j, none⟩ = _ := S7.cells 0 rfl
  go_wp2_with fail
  refine (toBook_st _ x0 _ (HR0.out.up S7.below)).mono ?_
  rintro e w109 ⟨v9, rfl, s9⟩
  obtain ⟨A9, n9, c9, B9, m9, d9, C9, l9, f9, hv⟩ := s9.formB 0 rfl
  subst hv
  have S9 : St w w109 [rBlk w.heap.size 54 #[.int .i64 (x0).order.start, .slice Ax0 nx0 cx0, .slice Bx0 mx0 dx0, .slice Cx0 lx0 fx0, .int .i64 (x0).state], rBook (.agg #[.int .i64 (x0).order.start, .slice A6 n6 c6, .slice B6 m6 d6, .slice C6 l6 f6, .int .i64 (x0).state]) x0, rActs (.slice A7 ((endActs x0)).length c7) (endActs x0), rBook (.agg #[.int .i64 (x0).order.start, .slice A9 n9 c9, .slice B9 m9 d9, .slice C9 l9 f9, .int .i64 (x0).state]) x0] := S7.call s9
  have S10a : St w (w109.alloc (Obj.cells #[.int .i64 (x0).order.start, .slice A9 n9 c9, .slice B9 m9 d9, .slice C9 l9 f9, .int .i64 (x0).state] 48)) [rBlk w.heap.size 54 #[.int .i64 (x0).order.start, .slice Ax0 nx0 cx0, .slice Bx0 mx0 dx0, .slice Cx0 lx0 fx0, .int .i64 (x0).state], rBook (.agg #[.int .i64 (x0).order.start, .slice A6 n6 c6, .slice B6 m6 d6, .slice C6 l6 f6, .int .i64 (x0).state]) x0, rActs (.slice A7 ((endActs x0)).length c7) (endActs x0), rBook (.agg #[.int .i64 (x0).order.start, .slice A9 n9 c9, .slice B9 m9 d9, .slice C9 l9 f9, .int .i64 (x0).state]) x0, rBlk w109.heap.size 48 #[.int .i64 (x0).order.start, .slice A9 n9 c9, .slice B9 m9 d9, .slice C9 l9 f9, .int .i64 (x0).state]] := (S9.alloc #[.int .i64 (x0).order.start, .slice A9 n9 c9, .slice B9 m9 d9, .slice C9 l9 f9, .int .i64 (x0).state] 48)
  clear q8
  have q11 : ∀ j, (w109.alloc (Obj.cells #[.int .i64 (x0).order.start, .slice A9 n9 c9, .slice B9 m9 d9, .slice C9 l9 f9, .int .i64 (x0).state] 48)).cell? ⟨w.heap.size, j, none⟩ = _ := S10a.cells 0 rfl
  have q12 : ∀ j, (w109.alloc (Obj.cells #[.int .i64 (x0).order.start, .slice A9 n9 c9, .slice B9 m9 d9, .slice C9 l9 f9, .int .i64 (x0).state] 48)).cell? ⟨w109.heap.size, j, none⟩ = _ := S10a.cells 4 rfl
  go_wp2_with fail
  refine (endActs_impl _ x0 _ (S10a.rdB 3 rfl)).mono ?_
  rintro e w113 ⟨v13, rfl, s13⟩
  obtain ⟨A13, c13, hv, -⟩ := s13.rdA 0 rfl
  subst hv
  have S13 : St w w113 [rBlk w.heap.size 54 #[.int .i64 (x0).order.start, .slice Ax0 nx0 cx0, .slice Bx0 mx0 dx0, .slice Cx0 lx0 fx0, .int .i64 (x0).state], rBook (.agg #[.int .i64 (x0).order.start, .slice A6 n6 c6, .slice B6 m6 d6, .slice C6 l6 f6, .int .i64 (x0).state]) x0, rActs (.slice A7 ((endActs x0)).length c7) (endActs x0), rBook (.agg #[.int .i64 (x0).order.start, .slice A9 n9 c9, .slice B9 m9 d9, .slice C9 l9 f9, .int .i64 (x0).state]) x0, rBlk w109.heap.size 48 #[.int .i64 (x0).order.start, .slice A9 n9 c9, .slice B9 m9 d9, .slice C9 l9 f9, .int .i64 (x0).state], rActs (.slice A13 ((endActs x0)).length c13) (endActs x0)] := S10a.call s13
  clear q11 q12
  have q14 : ∀ j, w113.cell? ⟨w.heap.size, j, none⟩ = _ := S13.cells 0 rfl
  have q15 : ∀ j, w113.cell? ⟨w109.heap.size, j, none⟩ = _ := S13.cells 4 rfl
  go_wp2_with fail
  refine (eqActS_same _ _ _ (endActs x0) _ _ _ _ (S13.rdA' 5 rfl) (S13.rdA' 2 rfl)).mono ?_
  rintro e w116 ⟨rfl, hb16⟩
  have S16 : St w w116 [rBlk w.heap.size 54 #[.int .i64 (x0).order.start, .slice Ax0 nx0 cx0, .slice Bx0 mx0 dx0, .slice Cx0 lx0 fx0, .int .i64 (x0).state], rBook (.agg #[.int .i64 (x0).order.start, .slice A6 n6 c6, .slice B6 m6 d6, .slice C6 l6 f6, .int .i64 (x0).state]) x0, rActs (.slice A7 ((endActs x0)).length c7) (endActs x0), rBook (.agg #[.int .i64 (x0).order.start, .slice A9 n9 c9, .slice B9 m9 d9, .slice C9 l9 f9, .int .i64 (x0).state]) x0, rBlk w109.heap.size 48 #[.int .i64 (x0).order.start, .slice A9 n9 c9, .slice B9 m9 d9, .slice C9 l9 f9, .int .i64 (x0).state], rActs (.slice A13 ((endActs x0)).length c13) (endActs x0)] := S13.quiet hb16
  clear q14 q15
  have q17 : ∀ j, w116.cell? ⟨w.heap.size, j, none⟩ = _ := S16.cells 0 rfl
  have q18 : ∀ j, w116.cell? ⟨w109.heap.size, j, none⟩ = _ := S16.cells 4 rfl
  go_upto_region 10 with (fail)
  refine wp_reg (σ := Value) (by kernel_rfl) (by kernel_rfl) (by kernel_rfl)
    (fun s i => match i with
      | 0 => .agg #[.int .i64 (x0).order.start, .slice A9 n9 c9, .slice B9 m9 d9, .slice C9 l9 f9, .int .i64 (x0).state]
      | 1 => .agg #[.int .i64 (x0).order.start, .slice Ax0 nx0 cx0, .slice Bx0 mx0 dx0, .slice Cx0 lx0 fx0, .int .i64 (x0).state]
      | 2 => s
      | 3 => .bool true
      | 4 => .bool false
      | _ => undef)
    (fun D s wx19 => Sn w wx19 fun i => match i with
      | 0 => some (rBlk w.heap.size 54 #[.int .i64 (x0).order.start, .slice Ax0 nx0 cx0, .slice Bx0 mx0 dx0, .slice Cx0 lx0 fx0, .int .i64 (x0).state])
      | 1 => some (rBook (.agg #[.int .i64 (x0).order.start, .slice A6 n6 c6, .slice B6 m6 d6, .slice C6 l6 f6, .int .i64 (x0).state]) x0)
      | 2 => some (rActs (.slice A7 ((endActs x0)).length c7) (endActs x0))
      | 3 => some (rBook (.agg #[.int .i64 (x0).order.start, .slice A9 n9 c9, .slice B9 m9 d9, .slice C9 l9 f9, .int .i64 (x0).state]) x0)
      | 4 => some (rBlk w109.heap.size 48 #[.int .i64 (x0).order.start, .slice A9 n9 c9, .slice B9 m9 d9, .slice C9 l9 f9, .int .i64 (x0).state])
      | 5 => some (rActs (.slice A13 ((endActs x0)).length c13) (endActs x0))
      | 6 => if D 2 = true then some (rBook s x0) else none
      | _ => none)
    undef ?_ ?_ ?_
  · intro D hD
    refine ((Sn.of_st S16).quiet ((Below.refl _ _).drew)).congr fun i => ?_
    match i with
    | 0 => rfl
    | 1 => rfl
    | 2 => rfl
    | 3 => rfl
    | 4 => rfl
    | 5 => rfl
    | 6 => exact if_neg (by rw [hD 2 (by decide)]; simp)
    | q + 7 => rfl
  · refine StepAll.cons (fun D s wx19 hR (hDi : D 0 = false) hd hsh a' hs K hK => ?_) ?_
    · have e5 := hs.old 5 (u := .pointer (some ⟨w109.heap.size, 0, none⟩)) (by kernel_rfl) rfl
      clear hs
      have kb : Blk wx19 (w109.heap.size) 48 #[.int .i64 (x0).order.start, .slice A9 n9 c9, .slice B9 m9 d9, .slice C9 l9 f9, .int .i64 (x0).state] := hR.blk 4 rfl
      have c0 : wx19.cell? ⟨w109.heap.size, 0, none⟩ = some (.int .i64 (x0).order.start) := kb.cell 0
      have c1 : wx19.cell? ⟨w109.heap.size, 1, none⟩ = some (.slice A9 n9 c9) := kb.cell 1
      have c2 : wx19.cell? ⟨w109.heap.size, 2, none⟩ = some (.slice B9 m9 d9) := kb.cell 2
      have c3 : wx19.cell? ⟨w109.heap.size, 3, none⟩ = some (.slice C9 l9 f9) := kb.cell 3
      have c4 : wx19.cell? ⟨w109.heap.size, 4, none⟩ = some (.int .i64 (x0).state) := kb.cell 4
      go_simp
      exact hK s wx19 (fun _ _ => rfl) hR
    refine StepAll.cons (fun D s wx19 hR (hDi : D 1 = false) hd hsh a' hs K hK => ?_) ?_
    · have e1 := hs.old 1 (u := .pointer (some ⟨w.heap.size, 0, none⟩)) (by kernel_rfl) rfl
      clear hs
      have kb : Blk wx19 (w.heap.size) 54 #[.int .i64 (x0).order.start, .slice Ax0 nx0 cx0, .slice Bx0 mx0 dx0, .slice Cx0 lx0 fx0, .int .i64 (x0).state] := hR.blk 0 rfl
      have c0 : wx19.cell? ⟨w.heap.size, 0, none⟩ = some (.int .i64 (x0).order.start) := kb.cell 0
      have c1 : wx19.cell? ⟨w.heap.size, 1, none⟩ = some (.slice Ax0 nx0 cx0) := kb.cell 1
      have c2 : wx19.cell? ⟨w.heap.size, 2, none⟩ = some (.slice Bx0 mx0 dx0) := kb.cell 2
      have c3 : wx19.cell? ⟨w.heap.size, 3, none⟩ = some (.slice Cx0 lx0 fx0) := kb.cell 3
      have c4 : wx19.cell? ⟨w.heap.size, 4, none⟩ = some (.int .i64 (x0).state) := kb.cell 4
      go_simp
      exact hK s wx19 (fun _ _ => rfl) hR
    refine StepAll.cons (fun D s wx19 hR (hDi : D 2 = false) hd hsh a' hs K hK => ?_) ?_
    · have e28 := hs.at_ 1 28 (u := .agg #[.int .i64 (x0).order.start, .slice Ax0 nx0 cx0, .slice Bx0 mx0 dx0, .slice Cx0 lx0 fx0, .int .i64 (x0).state]) rfl (hd ⟨1, .data⟩ (by simp) rfl) (by kernel_rfl) (by kernel_rfl) rfl
      have g28 := getQ e28
      clear hs
      have n3 : D 3 = false := hsh.no hDi 3 rfl ⟨2, .data⟩ (by simp) rfl rfl
      have n4 : D 4 = false := hsh.no n3 4 rfl ⟨3, .data⟩ (by simp) rfl rfl
      go_simp
      refine (toBook_st _ x0 _ (HR0.out.up hR.below)).mono ?_
      rintro e w2 ⟨v2, rfl, s2⟩
      refine hK v2 w2
        (fun j hj => by
          match j, hj with
          | 0, hj => rfl
          | 1, hj => rfl
          | 2, hj => rw [hDi] at hj; cases hj
          | 3, hj => rfl
          | 4, hj => rfl
          | _ + 5, hj => rfl)
        ((hR.add 6 (if_neg (by rw [hDi]; simp)) s2).congr
          (fun i => by
            match i with
            | 0 => rfl
            | 1 => rfl
            | 2 => rfl
            | 3 => rfl
            | 4 => rfl
            | 5 => rfl
            | 6 => rfl
            | q + 7 => exact (if_neg (show ¬ (q + 7 = 6) by omega)).symm))
    refine StepAll.cons (fun D s wx19 hR (hDi : D 3 = false) hd hsh a' hs K hK => ?_) ?_
    · have e27 := hs.at_ 0 27 (u := .agg #[.int .i64 (x0).order.start, .slice A9 n9 c9, .slice B9 m9 d9, .slice C9 l9 f9, .int .i64 (x0).state]) rfl (hd ⟨0, .data⟩ (by simp) rfl) (by kernel_rfl) (by kernel_rfl) rfl
      have e29 := hs.at_ 2 29 (u := s) rfl (hd ⟨2, .data⟩ (by simp) rfl) (by kernel_rfl) (by kernel_rfl) rfl
      have g27 := getQ e27
      have g29 := getQ e29
      clear hs
      have d2 : D 2 = true := hd ⟨2, .data⟩ (by simp) rfl
      go_simp
      refine (eqBook_same _ x0 _ _ (hR.rdB 3 rfl) (hR.rdB 6 (if_pos d2))).mono ?_
      rintro e w2 ⟨rfl, hb2⟩
      exact hK s w2 (fun _ _ => rfl) (hR.quiet hb2)
    refine StepAll.cons (fun D s wx19 hR (hDi : D 4 = false) hd hsh a' hs K hK => ?_) ?_
    · have e30 := hs.at_ 3 30 (u := .bool true) rfl (hd ⟨3, .data⟩ (by simp) rfl) (by kernel_rfl) (by kernel_rfl) rfl
      clear hs
      go_simp
      exact hK s wx19 (fun _ _ => rfl) hR
    exact StepAll.nil
  · intro D s wx19 hR hD
    simp only [putA, Act.put, List.setIfInBounds_toArray, List.set_cons_zero, List.set_cons_succ]
    have S20 : St w wx19 [rBlk w.heap.size 54 #[.int .i64 (x0).order.start, .slice Ax0 nx0 cx0, .slice Bx0 mx0 dx0, .slice Cx0 lx0 fx0, .int .i64 (x0).state], rBook (.agg #[.int .i64 (x0).order.start, .slice A6 n6 c6, .slice B6 m6 d6, .slice C6 l6 f6, .int .i64 (x0).state]) x0, rActs (.slice A7 ((endActs x0)).length c7) (endActs x0), rBook (.agg #[.int .i64 (x0).order.start, .slice A9 n9 c9, .slice B9 m9 d9, .slice C9 l9 f9, .int .i64 (x0).state]) x0, rBlk w109.heap.size 48 #[.int .i64 (x0).order.start, .slice A9 n9 c9, .slice B9 m9 d9, .slice C9 l9 f9, .int .i64 (x0).state], rActs (.slice A13 ((endActs x0)).length c13) (endActs x0)] := hR.to_st [0, 1, 2, 3, 4, 5] (by decide) rfl
    clear hR hD
    clear q17 q18
    have q21 : ∀ j, wx19.cell? ⟨w.heap.size, j, none⟩ = _ := S20.cells 0 rfl
    have q22 : ∀ j, wx19.cell? ⟨w109.heap.size, j, none⟩ = _ := S20.cells 4 rfl
    go_wp2_with fail
    refine (markBook_st S20 3 rfl (1) (by omega)).mono ?_
    rintro e w123 ⟨rfl, s23⟩
    have S23 : St w w123 [rBlk w.heap.size 54 #[.int .i64 (x0).order.start, .slice Ax0 nx0 cx0, .slice Bx0 mx0 dx0, .slice Cx0 lx0 fx0, .int .i64 (x0).state], rBook (.agg #[.int .i64 (x0).order.start, .slice A6 n6 c6, .slice B6 m6 d6, .slice C6 l6 f6, .int .i64 (x0).state]) x0, rActs (.slice A7 ((endActs x0)).length c7) (endActs x0), rBook (.agg #[.int .i64 (x0).order.start, .slice A9 n9 c9, .slice B9 m9 d9, .slice C9 l9 f9, .int .i64 (x0).state]) (markB (1) (x0)), rBlk w109.heap.size 48 #[.int .i64 (x0).order.start, .slice A9 n9 c9, .slice B9 m9 d9, .slice C9 l9 f9, .int .i64 (x0).state], rActs (.slice A13 ((endActs x0)).length c13) (endActs x0)] := s23
    clear q21 q22
    have q24 : ∀ j, w123.cell? ⟨w.heap.size, j, none⟩ = _ := S23.cells 0 rfl
    have q25 : ∀ j, w123.cell? ⟨w109.heap.size, j, none⟩ = _ := S23.cells 4 rfl
    go_wp2_with fail
    refine (eqActS_same _ _ _ (endActs x0) _ _ _ _ (S23.rdA' 5 rfl) (S23.rdA' 2 rfl)).mono ?_
    rintro e w126 ⟨rfl, hb26⟩
    have S26 : St w w126 [rBlk w.heap.size 54 #[.int .i64 (x0).order.start, .slice Ax0 nx0 cx0, .slice Bx0 mx0 dx0, .slice Cx0 lx0 fx0, .int .i64 (x0).state], rBook (.agg #[.int .i64 (x0).order.start, .slice A6 n6 c6, .slice B6 m6 d6, .slice C6 l6 f6, .int .i64 (x0).state]) x0, rActs (.slice A7 ((endActs x0)).length c7) (endActs x0), rBook (.agg #[.int .i64 (x0).order.start, .slice A9 n9 c9, .slice B9 m9 d9, .slice C9 l9 f9, .int .i64 (x0).state]) (markB (1) (x0)), rBlk w109.heap.size 48 #[.int .i64 (x0).order.start, .slice A9 n9 c9, .slice B9 m9 d9, .slice C9 l9 f9, .int .i64 (x0).state], rActs (.slice A13 ((endActs x0)).length c13) (endActs x0)] := S23.quiet hb26
    clear q24 q25
    have q27 : ∀ j, w126.cell? ⟨w.heap.size, j, none⟩ = _ := S26.cells 0 rfl
    have q28 : ∀ j, w126.cell? ⟨w109.heap.size, j, none⟩ = _ := S26.cells 4 rfl
    go_wp2_with fail
    refine (markActS_st S26 5 rfl (1) (by omega) (by omega)).mono ?_
    rintro e w129 ⟨rfl, s29⟩
    have S29 : St w w129 [rBlk w.heap.size 54 #[.int .i64 (x0).order.start, .slice Ax0 nx0 cx0, .slice Bx0 mx0 dx0, .slice Cx0 lx0 fx0, .int .i64 (x0).state], rBook (.agg #[.int .i64 (x0).order.start, .slice A6 n6 c6, .slice B6 m6 d6, .slice C6 l6 f6, .int .i64 (x0).state]) x0, rActs (.slice A7 ((endActs x0)).length c7) (endActs x0), rBook (.agg #[.int .i64 (x0).order.start, .slice A9 n9 c9, .slice B9 m9 d9, .slice C9 l9 f9, .int .i64 (x0).state]) (markB (1) (x0)), rBlk w109.heap.size 48 #[.int .i64 (x0).order.start, .slice A9 n9 c9, .slice B9 m9 d9, .slice C9 l9 f9, .int .i64 (x0).state], rActs (.slice A13 ((endActs x0)).length c13) (markAS (1) (endActs x0).length)] := s29
    clear q27 q28
    have q30 : ∀ j, w129.cell? ⟨w.heap.size, j, none⟩ = _ := S29.cells 0 rfl
    have q31 : ∀ j, w129.cell? ⟨w109.heap.size, j, none⟩ = _ := S29.cells 4 rfl
    go_wp2_with fail
    refine (heldActS_any _ _ _ (1) _ _ (S29.rdA' 5 rfl) (by omega) (by omega)).mono ?_
    rintro e w132 ⟨rfl, hq32⟩
    have HQ32 := Lib.hid hq32
    clear hq32
    have S32 : St w w132 [rBlk w.heap.size 54 #[.int .i64 (x0).order.start, .slice Ax0 nx0 cx0, .slice Bx0 mx0 dx0, .slice Cx0 lx0 fx0, .int .i64 (x0).state], rBook (.agg #[.int .i64 (x0).order.start, .slice A6 n6 c6, .slice B6 m6 d6, .slice C6 l6 f6, .int .i64 (x0).state]) x0, rActs (.slice A7 ((endActs x0)).length c7) (endActs x0), rBook (.agg #[.int .i64 (x0).order.start, .slice A9 n9 c9, .slice B9 m9 d9, .slice C9 l9 f9, .int .i64 (x0).state]) (markB (1) (x0)), rBlk w109.heap.size 48 #[.int .i64 (x0).order.start, .slice A9 n9 c9, .slice B9 m9 d9, .slice C9 l9 f9, .int .i64 (x0).state], rActs (.slice A13 ((endActs x0)).length c13) (markAS (1) (endActs x0).length)] := S29.same HQ32.out
    clear q30 q31
    have q33 : ∀ j, w132.cell? ⟨w.heap.size, j, none⟩ = _ := S32.cells 0 rfl
    have q34 : ∀ j, w132.cell? ⟨w109.heap.size, j, none⟩ = _ := S32.cells 4 rfl
    clear q33 q34
    have q35 : ∀ j, w132.cell? ⟨w.heap.size, j, none⟩ = _ := S32.cells 0 rfl
    have q36 : ∀ j, w132.cell? ⟨w109.heap.size, j, none⟩ = _ := S32.cells 4 rfl
    go_wp2_with fail
    refine (toBook_st _ x0 _ (HR0.out.up S32.below)).mono ?_
    rintro e w137 ⟨v37, rfl, s37⟩
    obtain ⟨A37, n37, c37, B37, m37, d37, C37, l37, f37, hv⟩ := s37.formB 0 rfl
    subst hv
    have S37 : St w w137 [rBlk w.heap.size 54 #[.int .i64 (x0).order.start, .slice Ax0 nx0 cx0, .slice Bx0 mx0 dx0, .slice Cx0 lx0 fx0, .int .i64 (x0).state], rBook (.agg #[.int .i64 (x0).order.start, .slice A6 n6 c6, .slice B6 m6 d6, .slice C6 l6 f6, .int .i64 (x0).state]) x0, rActs (.slice A7 ((endActs x0)).length c7) (endActs x0), rBook (.agg #[.int .i64 (x0).order.start, .slice A9 n9 c9, .slice B9 m9 d9, .slice C9 l9 f9, .int .i64 (x0).state]) (markB (1) (x0)), rBlk w109.heap.size 48 #[.int .i64 (x0).order.start, .slice A9 n9 c9, .slice B9 m9 d9, .slice C9 l9 f9, .int .i64 (x0).state], rActs (.slice A13 ((endActs x0)).length c13) (markAS (1) (endActs x0).length), rBook (.agg #[.int .i64 (x0).order.start, .slice A37 n37 c37, .slice B37 m37 d37, .slice C37 l37 f37, .int .i64 (x0).state]) x0] := S32.call s37
    go_wp2_with fail
    refine (endActs_impl _ x0 _ (S37.rdB 6 rfl)).mono ?_
    rintro e w138 ⟨v38, rfl, s38⟩
    obtain ⟨A38, c38, hv, -⟩ := s38.rdA 0 rfl
    subst hv
    have S38 : St w w138 [rBlk w.heap.size 54 #[.int .i64 (x0).order.start, .slice Ax0 nx0 cx0, .slice Bx0 mx0 dx0, .slice Cx0 lx0 fx0, .int .i64 (x0).state], rBook (.agg #[.int .i64 (x0).order.start, .slice A6 n6 c6, .slice B6 m6 d6, .slice C6 l6 f6, .int .i64 (x0).state]) x0, rActs (.slice A7 ((endActs x0)).length c7) (endActs x0), rBook (.agg #[.int .i64 (x0).order.start, .slice A9 n9 c9, .slice B9 m9 d9, .slice C9 l9 f9, .int .i64 (x0).state]) (markB (1) (x0)), rBlk w109.heap.size 48 #[.int .i64 (x0).order.start, .slice A9 n9 c9, .slice B9 m9 d9, .slice C9 l9 f9, .int .i64 (x0).state], rActs (.slice A13 ((endActs x0)).length c13) (markAS (1) (endActs x0).length), rBook (.agg #[.int .i64 (x0).order.start, .slice A37 n37 c37, .slice B37 m37 d37, .slice C37 l37 f37, .int .i64 (x0).state]) x0, rActs (.slice A38 ((endActs x0)).length c38) (endActs x0)] := S37.call s38
    clear q35 q36
    have q39 : ∀ j, w138.cell? ⟨w.heap.size, j, none⟩ = _ := S38.cells 0 rfl
    have q40 : ∀ j, w138.cell? ⟨w109.heap.size, j, none⟩ = _ := S38.cells 4 rfl
    go_wp2_with fail
    refine (eqActS_same _ _ _ (endActs x0) _ _ _ _ (S38.rdA' 7 rfl) (S38.rdA' 2 rfl)).mono ?_
    rintro e w141 ⟨rfl, hb41⟩
    have S41 : St w w141 [rBlk w.heap.size 54 #[.int .i64 (x0).order.start, .slice Ax0 nx0 cx0, .slice Bx0 mx0 dx0, .slice Cx0 lx0 fx0, .int .i64 (x0).state], rBook (.agg #[.int .i64 (x0).order.start, .slice A6 n6 c6, .slice B6 m6 d6, .slice C6 l6 f6, .int .i64 (x0).state]) x0, rActs (.slice A7 ((endActs x0)).length c7) (endActs x0), rBook (.agg #[.int .i64 (x0).order.start, .slice A9 n9 c9, .slice B9 m9 d9, .slice C9 l9 f9, .int .i64 (x0).state]) (markB (1) (x0)), rBlk w109.heap.size 48 #[.int .i64 (x0).order.start, .slice A9 n9 c9, .slice B9 m9 d9, .slice C9 l9 f9, .int .i64 (x0).state], rActs (.slice A13 ((endActs x0)).length c13) (markAS (1) (endActs x0).length), rBook (.agg #[.int .i64 (x0).order.start, .slice A37 n37 c37, .slice B37 m37 d37, .slice C37 l37 f37, .int .i64 (x0).state]) x0, rActs (.slice A38 ((endActs x0)).length c38) (endActs x0)] := S38.quiet hb41
    clear q39 q40
    have q42 : ∀ j, w141.cell? ⟨w.heap.size, j, none⟩ = _ := S41.cells 0 rfl
    have q43 : ∀ j, w141.cell? ⟨w109.heap.size, j, none⟩ = _ := S41.cells 4 rfl
    go_wp2_with fail
    refine (heldActS_any _ _ _ (1) _ _ (S41.rdA' 5 rfl) (by omega) (by omega)).mono ?_
    rintro e w144 ⟨rfl, hq44⟩
    have HQ44 := Lib.hid hq44
    clear hq44
    have S44 : St w w144 [rBlk w.heap.size 54 #[.int .i64 (x0).order.start, .slice Ax0 nx0 cx0, .slice Bx0 mx0 dx0, .slice Cx0 lx0 fx0, .int .i64 (x0).state], rBook (.agg #[.int .i64 (x0).order.start, .slice A6 n6 c6, .slice B6 m6 d6, .slice C6 l6 f6, .int .i64 (x0).state]) x0, rActs (.slice A7 ((endActs x0)).length c7) (endActs x0), rBook (.agg #[.int .i64 (x0).order.start, .slice A9 n9 c9, .slice B9 m9 d9, .slice C9 l9 f9, .int .i64 (x0).state]) (markB (1) (x0)), rBlk w109.heap.size 48 #[.int .i64 (x0).order.start, .slice A9 n9 c9, .slice B9 m9 d9, .slice C9 l9 f9, .int .i64 (x0).state], rActs (.slice A13 ((endActs x0)).length c13) (markAS (1) (endActs x0).length), rBook (.agg #[.int .i64 (x0).order.start, .slice A37 n37 c37, .slice B37 m37 d37, .slice C37 l37 f37, .int .i64 (x0).state]) x0, rActs (.slice A38 ((endActs x0)).length c38) (endActs x0)] := S41.same HQ44.out
    clear q42 q43
    have q45 : ∀ j, w144.cell? ⟨w.heap.size, j, none⟩ = _ := S44.cells 0 rfl
    have q46 : ∀ j, w144.cell? ⟨w109.heap.size, j, none⟩ = _ := S44.cells 4 rfl
    go_wp2
    go_ret
    exact ⟨rfl, S44.below⟩
end Go.Proofs.Ytpcaagbmjhgnaaa
