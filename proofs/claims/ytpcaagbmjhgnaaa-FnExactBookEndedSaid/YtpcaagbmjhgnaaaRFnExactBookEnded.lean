/- The law FnExactBookEnded, walked. -/
import Derived.Test.YtpcaagbmjhgnaaaBValid
namespace Go.Proofs.Ytpcaagbmjhgnaaa
set_option linter.unusedVariables false
open Go.ChangeShapes Go.WideShapes Go.ChangeAt Go.RowKit
set_option maxRecDepth 100000 in
set_option maxHeartbeats 4000000 in
theorem FnExactBookEnded_walk (v0 : Value) (x0 : BookD) (w : World) (h0 : RdBM maxLen w w.heap.size v0 x0) :
    Calls Try.prog 8 #[v0] w fun e w' => e = .returned (.bool true) ∧ Below w.heap.size w w' := by
  obtain ⟨Ax0, nx0, cx0, Bx0, mx0, dx0, Cx0, lx0, fx0, hv0⟩ := h0.form
  subst hv0
  have S1a : St w (w.alloc (Obj.cells #[.int .i64 (x0).order.start, .slice Ax0 nx0 cx0, .slice Bx0 mx0 dx0, .slice Cx0 lx0 fx0, .int .i64 (x0).state] 54)) [rBlk w.heap.size 54 #[.int .i64 (x0).order.start, .slice Ax0 nx0 cx0, .slice Bx0 mx0 dx0, .slice Cx0 lx0 fx0, .int .i64 (x0).state]] := ((St.refl w).alloc #[.int .i64 (x0).order.start, .slice Ax0 nx0 cx0, .slice Bx0 mx0 dx0, .slice Cx0 lx0 fx0, .int .i64 (x0).state] 54)
  have q2 : ∀ j, (w.alloc (Obj.cells #[.int .i64 (x0).order.start, .slice Ax0 nx0 cx0, .slice Bx0 mx0 dx0, .slice Cx0 lx0 fx0, .int .i64 (x0).state] 54)).cell? ⟨w.heap.size, j, none⟩ = _ := S1a.cells 0 rfl
  by_cases hz0 : ((szB x0 : Nat) : Int) ≤ 1048576 - 0
  case neg =>
    go_enter Try.func8, Try.ntmps8
    go_wp2_with fail
    refine (szBook_any (M := maxLen) (by unfold maxLen; omega) _ x0 _ _ (h0.up S1a.below) (by omega) (by omega)).mono ?_
    rw [less_no (by omega)]
    rintro e w' ⟨rfl, hb⟩
    go_wp2
    go_ret
    exact ⟨rfl, (S1a.quiet hb).below⟩
  have hr0 := h0.less (M' := 1048576) (by omega)
  have HR0 := Lib.hid hr0
  clear hr0
  have hmk0 : mkB x0 ≤ 4194304 := by have := mkB_le x0; omega
  go_enter Try.func8, Try.ntmps8
  go_wp2_with fail
  refine (szBook_any (M := maxLen) (by unfold maxLen; omega) _ x0 _ _ (h0.up S1a.below) (by omega) (by omega)).mono ?_
  rw [less_yes (by omega)]
  rintro e w103 ⟨rfl, hb3⟩
  have S3 : St w w103 [rBlk w.heap.size 54 #[.int .i64 (x0).order.start, .slice Ax0 nx0 cx0, .slice Bx0 mx0 dx0, .slice Cx0 lx0 fx0, .int .i64 (x0).state]] := S1a.quiet hb3
  clear q2
  have q4 : ∀ j, w103.cell? ⟨w.heap.size, j, none⟩ = _ := S3.cells 0 rfl
  clear q4
  have q5 : ∀ j, w103.cell? ⟨w.heap.size, j, none⟩ = _ := S3.cells 0 rfl
  go_wp2_with fail
  refine (toBook_st _ x0 _ (HR0.out.up S3.below)).mono ?_
  rintro e w106 ⟨v6, rfl, s6⟩
  obtain ⟨A6, n6, c6, B6, m6, d6, C6, l6, f6, hv⟩ := s6.formB 0 rfl
  subst hv
  have S6 : St w w106 [rBlk w.heap.size 54 #[.int .i64 (x0).order.start, .slice Ax0 nx0 cx0, .slice Bx0 mx0 dx0, .slice Cx0 lx0 fx0, .int .i64 (x0).state], rBook (.agg #[.int .i64 (x0).order.start, .slice A6 n6 c6, .slice B6 m6 d6, .slice C6 l6 f6, .int .i64 (x0).state]) x0] := S3.call s6
  go_wp2_with fail
  refine (bookEnded_spec _ x0 _ (S6.rdB 1 rfl)).mono ?_
  rintro e w107 ⟨rfl, hb7⟩
  have S7 : St w w107 [rBlk w.heap.size 54 #[.int .i64 (x0).order.start, .slice Ax0 nx0 cx0, .slice Bx0 mx0 dx0, .slice Cx0 lx0 fx0, .int .i64 (x0).state], rBook (.agg #[.int .i64 (x0).order.start, .slice A6 n6 c6, .slice B6 m6 d6, .slice C6 l6 f6, .int .i64 (x0).state]) x0] := S6.quiet hb7
  clear q5
  have q8 : ∀ j, w107.cell? ⟨w.heap.size, j, none⟩ = _ := S7.cells 0 rfl
  go_wp2_with fail
  refine (toBook_st _ x0 _ (HR0.out.up S7.below)).mono ?_
  rintro e w109 ⟨v9, rfl, s9⟩
  obtain ⟨A9, n9, c9, B9, m9, d9, C9, l9, f9, hv⟩ := s9.formB 0 rfl
  subst hv
  have S9 : St w w109 [rBlk w.heap.size 54 #[.int .i64 (x0).order.start, .slice Ax0 nx0 cx0, .slice Bx0 mx0 dx0, .slice Cx0 lx0 fx0, .int .i64 (x0).state], rBook (.agg #[.int .i64 (x0).order.start, .slice A6 n6 c6, .slice B6 m6 d6, .slice C6 l6 f6, .int .i64 (x0).state]) x0, rBook (.agg #[.int .i64 (x0).order.start, .slice A9 n9 c9, .slice B9 m9 d9, .slice C9 l9 f9, .int .i64 (x0).state]) x0] := S7.call s9
  have S10a : St w (w109.alloc (Obj.cells #[.int .i64 (x0).order.start, .slice A9 n9 c9, .slice B9 m9 d9, .slice C9 l9 f9, .int .i64 (x0).state] 48)) [rBlk w.heap.size 54 #[.int .i64 (x0).order.start, .slice Ax0 nx0 cx0, .slice Bx0 mx0 dx0, .slice Cx0 lx0 fx0, .int .i64 (x0).state], rBook (.agg #[.int .i64 (x0).order.start, .slice A6 n6 c6, .slice B6 m6 d6, .slice C6 l6 f6, .int .i64 (x0).state]) x0, rBook (.agg #[.int .i64 (x0).order.start, .slice A9 n9 c9, .slice B9 m9 d9, .slice C9 l9 f9, .int .i64 (x0).state]) x0, rBlk w109.heap.size 48 #[.int .i64 (x0).order.start, .slice A9 n9 c9, .slice B9 m9 d9, .slice C9 l9 f9, .int .i64 (x0).state]] := (S9.alloc #[.int .i64 (x0).order.start, .slice A9 n9 c9, .slice B9 m9 d9, .slice C9 l9 f9, .int .i64 (x0).state] 48)
  clear q8
  have q11 : ∀ j, (w109.alloc (Obj.cells #[.int .i64 (x0).order.start, .slice A9 n9 c9, .slice B9 m9 d9, .slice C9 l9 f9, .int .i64 (x0).state] 48)).cell? ⟨w.heap.size, j, none⟩ = _ := S10a.cells 0 rfl
  have q12 : ∀ j, (w109.alloc (Obj.cells #[.int .i64 (x0).order.start, .slice A9 n9 c9, .slice B9 m9 d9, .slice C9 l9 f9, .int .i64 (x0).state] 48)).cell? ⟨w109.heap.size, j, none⟩ = _ := S10a.cells 3 rfl
  go_wp2_with fail
  refine (bookEnded_impl _ x0 _ (S10a.rdB 2 rfl)).mono ?_
  rintro e w113 ⟨rfl, hb13⟩
  have S13 : St w w113 [rBlk w.heap.size 54 #[.int .i64 (x0).order.start, .slice Ax0 nx0 cx0, .slice Bx0 mx0 dx0, .slice Cx0 lx0 fx0, .int .i64 (x0).state], rBook (.agg #[.int .i64 (x0).order.start, .slice A6 n6 c6, .slice B6 m6 d6, .slice C6 l6 f6, .int .i64 (x0).state]) x0, rBook (.agg #[.int .i64 (x0).order.start, .slice A9 n9 c9, .slice B9 m9 d9, .slice C9 l9 f9, .int .i64 (x0).state]) x0, rBlk w109.heap.size 48 #[.int .i64 (x0).order.start, .slice A9 n9 c9, .slice B9 m9 d9, .slice C9 l9 f9, .int .i64 (x0).state]] := S10a.quiet hb13
  clear q11 q12
  have q14 : ∀ j, w113.cell? ⟨w.heap.size, j, none⟩ = _ := S13.cells 0 rfl
  have q15 : ∀ j, w113.cell? ⟨w109.heap.size, j, none⟩ = _ := S13.cells 3 rfl
  go_upto_region 10 with (fail)
  refine wp_reg (σ := Value) (by kernel_rfl) (by kernel_rfl) (by kernel_rfl)
    (fun s i => match i with
      | 0 => .agg #[.int .i64 (x0).order.start, .slice A9 n9 c9, .slice B9 m9 d9, .slice C9 l9 f9, .int .i64 (x0).state]
      | 1 => .agg #[.int .i64 (x0).order.start, .slice Ax0 nx0 cx0, .slice Bx0 mx0 dx0, .slice Cx0 lx0 fx0, .int .i64 (x0).state]
      | 2 => s
      | 3 => .bool true
      | 4 => .bool false
      | _ => undef)
    (fun D s wx16 => Sn w wx16 fun i => match i with
      | 0 => some (rBlk w.heap.size 54 #[.int .i64 (x0).order.start, .slice Ax0 nx0 cx0, .slice Bx0 mx0 dx0, .slice Cx0 lx0 fx0, .int .i64 (x0).state])
      | 1 => some (rBook (.agg #[.int .i64 (x0).order.start, .slice A6 n6 c6, .slice B6 m6 d6, .slice C6 l6 f6, .int .i64 (x0).state]) x0)
      | 2 => some (rBook (.agg #[.int .i64 (x0).order.start, .slice A9 n9 c9, .slice B9 m9 d9, .slice C9 l9 f9, .int .i64 (x0).state]) x0)
      | 3 => some (rBlk w109.heap.size 48 #[.int .i64 (x0).order.start, .slice A9 n9 c9, .slice B9 m9 d9, .slice C9 l9 f9, .int .i64 (x0).state])
      | 4 => if D 2 = true then some (rBook s x0) else none
      | _ => none)
    undef ?_ ?_ ?_
  · intro D hD
    refine ((Sn.of_st S13).quiet ((Below.refl _ _).drew)).congr fun i => ?_
    match i with
    | 0 => rfl
    | 1 => rfl
    | 2 => rfl
    | 3 => rfl
    | 4 => exact if_neg (by rw [hD 2 (by decide)]; simp)
    | q + 5 => rfl
  · refine StepAll.cons (fun D s wx16 hR (hDi : D 0 = false) hd hsh a' hs K hK => ?_) ?_
    · have e5 := hs.old 5 (u := .pointer (some ⟨w109.heap.size, 0, none⟩)) (by kernel_rfl) rfl
      clear hs
      have kb : Blk wx16 (w109.heap.size) 48 #[.int .i64 (x0).order.start, .slice A9 n9 c9, .slice B9 m9 d9, .slice C9 l9 f9, .int .i64 (x0).state] := hR.blk 3 rfl
      have c0 : wx16.cell? ⟨w109.heap.size, 0, none⟩ = some (.int .i64 (x0).order.start) := kb.cell 0
      have c1 : wx16.cell? ⟨w109.heap.size, 1, none⟩ = some (.slice A9 n9 c9) := kb.cell 1
      have c2 : wx16.cell? ⟨w109.heap.size, 2, none⟩ = some (.slice B9 m9 d9) := kb.cell 2
      have c3 : wx16.cell? ⟨w109.heap.size, 3, none⟩ = some (.slice C9 l9 f9) := kb.cell 3
      have c4 : wx16.cell? ⟨w109.heap.size, 4, none⟩ = some (.int .i64 (x0).state) := kb.cell 4
      go_simp
      exact hK s wx16 (fun _ _ => rfl) hR
    refine StepAll.cons (fun D s wx16 hR (hDi : D 1 = false) hd hsh a' hs K hK => ?_) ?_
    · have e1 := hs.old 1 (u := .pointer (some ⟨w.heap.size, 0, none⟩)) (by kernel_rfl) rfl
      clear hs
      have kb : Blk wx16 (w.heap.size) 54 #[.int .i64 (x0).order.start, .slice Ax0 nx0 cx0, .slice Bx0 mx0 dx0, .slice Cx0 lx0 fx0, .int .i64 (x0).state] := hR.blk 0 rfl
      have c0 : wx16.cell? ⟨w.heap.size, 0, none⟩ = some (.int .i64 (x0).order.start) := kb.cell 0
      have c1 : wx16.cell? ⟨w.heap.size, 1, none⟩ = some (.slice Ax0 nx0 cx0) := kb.cell 1
      have c2 : wx16.cell? ⟨w.heap.size, 2, none⟩ = some (.slice Bx0 mx0 dx0) := kb.cell 2
      have c3 : wx16.cell? ⟨w.heap.size, 3, none⟩ = some (.slice Cx0 lx0 fx0) := kb.cell 3
      have c4 : wx16.cell? ⟨w.heap.size, 4, none⟩ = some (.int .i64 (x0).state) := kb.cell 4
      go_simp
      exact hK s wx16 (fun _ _ => rfl) hR
    refine StepAll.cons (fun D s wx16 hR (hDi : D 2 = false) hd hsh a' hs K hK => ?_) ?_
    · have e23 := hs.at_ 1 23 (u := .agg #[.int .i64 (x0).order.start, .slice Ax0 nx0 cx0, .slice Bx0 mx0 dx0, .slice Cx0 lx0 fx0, .int .i64 (x0).state]) rfl (hd ⟨1, .data⟩ (by simp) rfl) (by kernel_rfl) (by kernel_rfl) rfl
      have g23 := getQ e23
      clear hs
      have n3 : D 3 = false := hsh.no hDi 3 rfl ⟨2, .data⟩ (by simp) rfl rfl
      have n4 : D 4 = false := hsh.no n3 4 rfl ⟨3, .data⟩ (by simp) rfl rfl
      go_simp
      refine (toBook_st _ x0 _ (HR0.out.up hR.below)).mono ?_
      rintro e w2 ⟨v2, rfl, s2⟩
      refine hK v2 w2
        (fun j hj => by
          match j, hj with
          | 0, hj => rfl
          | 1, hj => rfl
          | 2, hj => rw [hDi] at hj; cases hj
          | 3, hj => rfl
          | 4, hj => rfl
          | _ + 5, hj => rfl)
        ((hR.add 4 (if_neg (by rw [hDi]; simp)) s2).congr
          (fun i => by
            match i with
            | 0 => rfl
            | 1 => rfl
            | 2 => rfl
            | 3 => rfl
            | 4 => rfl
            | q + 5 => exact (if_neg (show ¬ (q + 5 = 4) by omega)).symm))
    refine StepAll.cons (fun D s wx16 hR (hDi : D 3 = false) hd hsh a' hs K hK => ?_) ?_
    · have e22 := hs.at_ 0 22 (u := .agg #[.int .i64 (x0).order.start, .slice A9 n9 c9, .slice B9 m9 d9, .slice C9 l9 f9, .int .i64 (x0).state]) rfl (hd ⟨0, .data⟩ (by simp) rfl) (by kernel_rfl) (by kernel_rfl) rfl
      have e24 := hs.at_ 2 24 (u := s) rfl (hd ⟨2, .data⟩ (by simp) rfl) (by kernel_rfl) (by kernel_rfl) rfl
      have g22 := getQ e22
      have g24 := getQ e24
      clear hs
      have d2 : D 2 = true := hd ⟨2, .data⟩ (by simp) rfl
      go_simp
      refine (eqBook_same _ x0 _ _ (hR.rdB 2 rfl) (hR.rdB 4 (if_pos d2))).mono ?_
      rintro e w2 ⟨rfl, hb2⟩
      exact hK s w2 (fun _ _ => rfl) (hR.quiet hb2)
    refine StepAll.cons (fun D s wx16 hR (hDi : D 4 = false) hd hsh a' hs K hK => ?_) ?_
    · have e25 := hs.at_ 3 25 (u := .bool true) rfl (hd ⟨3, .data⟩ (by simp) rfl) (by kernel_rfl) (by kernel_rfl) rfl
      clear hs
      go_simp
      exact hK s wx16 (fun _ _ => rfl) hR
    exact StepAll.nil
  · intro D s wx16 hR hD
    simp only [putA, Act.put, List.setIfInBounds_toArray, List.set_cons_zero, List.set_cons_succ]
    have S17 : St w wx16 [rBlk w.heap.size 54 #[.int .i64 (x0).order.start, .slice Ax0 nx0 cx0, .slice Bx0 mx0 dx0, .slice Cx0 lx0 fx0, .int .i64 (x0).state], rBook (.agg #[.int .i64 (x0).order.start, .slice A6 n6 c6, .slice B6 m6 d6, .slice C6 l6 f6, .int .i64 (x0).state]) x0, rBook (.agg #[.int .i64 (x0).order.start, .slice A9 n9 c9, .slice B9 m9 d9, .slice C9 l9 f9, .int .i64 (x0).state]) x0, rBlk w109.heap.size 48 #[.int .i64 (x0).order.start, .slice A9 n9 c9, .slice B9 m9 d9, .slice C9 l9 f9, .int .i64 (x0).state]] := hR.to_st [0, 1, 2, 3] (by decide) rfl
    clear hR hD
    clear q14 q15
    have q18 : ∀ j, wx16.cell? ⟨w.heap.size, j, none⟩ = _ := S17.cells 0 rfl
    have q19 : ∀ j, wx16.cell? ⟨w109.heap.size, j, none⟩ = _ := S17.cells 3 rfl
    go_wp2
    go_ret
    exact ⟨rfl, S17.below⟩
end Go.Proofs.Ytpcaagbmjhgnaaa
