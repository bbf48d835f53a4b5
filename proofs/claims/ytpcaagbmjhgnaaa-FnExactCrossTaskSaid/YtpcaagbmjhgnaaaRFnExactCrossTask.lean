/- The law FnExactCrossTask, walked. -/
import Derived.Test.YtpcaagbmjhgnaaaGraphH
import Derived.Test.YtpcaagbmjhgnaaaCrossS
namespace Go.Proofs.Ytpcaagbmjhgnaaa
set_option linter.unusedVariables false
open Go.ChangeShapes Go.WideShapes Go.ChangeAt Go.RowKit
theorem mkDs_cross (xs : List Int) (ds : List DeedD) (h : ∀ d ∈ ds, d.need.length ≤ 40) : mkDs ds ≤ 43 * ds.length := by
  unfold mkDs
  induction ds with
  | nil => simp
  | cons d ds ih =>
    have h1 := ih fun d hd => h d (List.mem_cons_of_mem _ hd)
    have h2 := h d (List.mem_cons_self ..)
    simp only [List.map_cons, List.sum_cons, mkD, List.length_cons] at h1 ⊢
    omega
theorem mkT_cross (xs : List Int) : mkT (crossTask xs) ≤ 1000 := by
  unfold crossTask
  split
  · next h =>
    unfold crossOk at h
    simp only [Bool.and_eq_true, decide_eq_true_eq, List.all_eq_true, List.mem_range] at h
    obtain ⟨⟨-, h4⟩, hn⟩ := h
    unfold mkT crossT
    have h1 := codeAll_over (xs.length + 1) (by omega)
    have h2 := mkDs_cross xs ((List.range (xs.length + 1)).map (crossD xs)) fun d hd => by
      obtain ⟨e, he, rfl⟩ := List.mem_map.1 hd
      exact hn e (List.mem_range.1 he)
    simp only [List.length_map, List.length_range] at h2
    simp only
    omega
  · exact Nat.le_trans (by decide : mkT ⟨0, [], []⟩ ≤ 0) (Nat.zero_le _)

set_option maxRecDepth 100000 in
set_option maxHeartbeats 4000000 in
theorem FnExactCrossTask_walk (v0 : Value) (x0 : List Int) (w : World) (h0 : RdGM maxLen w w.heap.size v0 x0) :
    Calls Try.prog 5 #[v0] w fun e w' => e = .returned (.bool true) ∧ Below w.heap.size w w' := by
  obtain ⟨Ax0, nx0, cx0, hv0⟩ := h0.form
  subst hv0
  have S1a : St w (w.alloc (Obj.cells #[.slice Ax0 nx0 cx0] 24)) [rBlk w.heap.size 24 #[.slice Ax0 nx0 cx0]] := ((St.refl w).alloc #[.slice Ax0 nx0 cx0] 24)
  have q2 : ∀ j, (w.alloc (Obj.cells #[.slice Ax0 nx0 cx0] 24)).cell? ⟨w.heap.size, j, none⟩ = _ := S1a.cells 0 rfl
  by_cases hz0 : ((szG x0 : Nat) : Int) ≤ 1048576 - 0
  case neg =>
    go_enter Try.func5, Try.ntmps5
    go_wp2_with fail
    refine (szGraph_any (M := maxLen) (by unfold maxLen; omega) _ x0 _ _ (h0.up S1a.below) (by omega) (by omega)).mono ?_
    rw [less_no (by omega)]
    rintro e w' ⟨rfl, hb⟩
    go_wp2
    go_ret
    exact ⟨rfl, (S1a.quiet hb).below⟩
  have hr0 := h0.less (M' := 1048576) (by omega)
  have HR0 := Lib.hid hr0
  clear hr0
  have hmk0 : mkG x0 ≤ 4194304 := by have := mkG_le x0; omega
  have hM0 : mkT (crossTask x0) ≤ 8388608 := by have := mkT_cross x0; omega
  go_enter Try.func5, Try.ntmps5
  go_wp2_with fail
  refine (szGraph_any (M := maxLen) (by unfold maxLen; omega) _ x0 _ _ (h0.up S1a.below) (by omega) (by omega)).mono ?_
  rw [less_yes (by omega)]
  rintro e w103 ⟨rfl, hb3⟩
  have S3 : St w w103 [rBlk w.heap.size 24 #[.slice Ax0 nx0 cx0]] := S1a.quiet hb3
  clear q2
  have q4 : ∀ j, w103.cell? ⟨w.heap.size, j, none⟩ = _ := S3.cells 0 rfl
  clear q4
  have q5 : ∀ j, w103.cell? ⟨w.heap.size, j, none⟩ = _ := S3.cells 0 rfl
  go_wp2_with fail
  refine (toGraph_st _ x0 _ (HR0.out.up S3.below)).mono ?_
  rintro e w106 ⟨v6, rfl, s6⟩
  obtain ⟨A6, n6, c6, hv⟩ := s6.formG 0 rfl
  subst hv
  have S6 : St w w106 [rBlk w.heap.size 24 #[.slice Ax0 nx0 cx0], rGraph (.agg #[.slice A6 n6 c6]) x0] := S3.call s6
  go_wp2_with fail
  refine (crossTask_spec _ _ _ x0 _ (S6.rdG 1 rfl).ints.1).mono ?_
  rintro e w107 ⟨v7, rfl, s7⟩
  obtain ⟨A7, n7, c7, B7, m7, d7, hv⟩ := s7.formT 0 rfl
  subst hv
  have S7 : St w w107 [rBlk w.heap.size 24 #[.slice Ax0 nx0 cx0], rGraph (.agg #[.slice A6 n6 c6]) x0, rTask (.agg #[.int .i64 ((crossTask x0)).start, .slice A7 n7 c7, .slice B7 m7 d7]) (crossTask x0)] := S6.call s7
  have S8a : St w (w107.alloc (Obj.cells #[.int .i64 ((crossTask x0)).start, .slice A7 n7 c7, .slice B7 m7 d7] 28)) [rBlk w.heap.size 24 #[.slice Ax0 nx0 cx0], rGraph (.agg #[.slice A6 n6 c6]) x0, rTask (.agg #[.int .i64 ((crossTask x0)).start, .slice A7 n7 c7, .slice B7 m7 d7]) (crossTask x0), rBlk w107.heap.size 28 #[.int .i64 ((crossTask x0)).start, .slice A7 n7 c7, .slice B7 m7 d7]] := (S7.alloc #[.int .i64 ((crossTask x0)).start, .slice A7 n7 c7, .slice B7 m7 d7] 28)
  clear q5
  have q9 : ∀ j, (w107.alloc (Obj.cells #[.int .i64 ((crossTask x0)).start, .slice A7 n7 c7, .slice B7 m7 d7] 28)).cell? ⟨w.heap.size, j, none⟩ = _ := S8a.cells 0 rfl
  have q10 : ∀ j, (w107.alloc (Obj.cells #[.int .i64 ((crossTask x0)).start, .slice A7 n7 c7, .slice B7 m7 d7] 28)).cell? ⟨w107.heap.size, j, none⟩ = _ := S8a.cells 3 rfl
  go_wp2_with fail
  refine (toGraph_st _ x0 _ (HR0.out.up S8a.below)).mono ?_
  rintro e w111 ⟨v11, rfl, s11⟩
  obtain ⟨A11, n11, c11, hv⟩ := s11.formG 0 rfl
  subst hv
  have S11 : St w w111 [rBlk w.heap.size 24 #[.slice Ax0 nx0 cx0], rGraph (.agg #[.slice A6 n6 c6]) x0, rTask (.agg #[.int .i64 ((crossTask x0)).start, .slice A7 n7 c7, .slice B7 m7 d7]) (crossTask x0), rBlk w107.heap.size 28 #[.int .i64 ((crossTask x0)).start, .slice A7 n7 c7, .slice B7 m7 d7], rGraph (.agg #[.slice A11 n11 c11]) x0] := S8a.call s11
  have S12a : St w (w111.alloc (Obj.cells #[.slice A11 n11 c11] 30)) [rBlk w.heap.size 24 #[.slice Ax0 nx0 cx0], rGraph (.agg #[.slice A6 n6 c6]) x0, rTask (.agg #[.int .i64 ((crossTask x0)).start, .slice A7 n7 c7, .slice B7 m7 d7]) (crossTask x0), rBlk w107.heap.size 28 #[.int .i64 ((crossTask x0)).start, .slice A7 n7 c7, .slice B7 m7 d7], rGraph (.agg #[.slice A11 n11 c11]) x0, rBlk w111.heap.size 30 #[.slice A11 n11 c11]] := (S11.alloc #[.slice A11 n11 c11] 30)
  clear q9 q10
  have q13 : ∀ j, (w111.alloc (Obj.cells #[.slice A11 n11 c11] 30)).cell? ⟨w.heap.size, j, none⟩ = _ := S12a.cells 0 rfl
  have q14 : ∀ j, (w111.alloc (Obj.cells #[.slice A11 n11 c11] 30)).cell? ⟨w107.heap.size, j, none⟩ = _ := S12a.cells 3 rfl
  have q15 : ∀ j, (w111.alloc (Obj.cells #[.slice A11 n11 c11] 30)).cell? ⟨w111.heap.size, j, none⟩ = _ := S12a.cells 5 rfl
  go_wp2_with fail
  refine (crossTask_impl _ _ _ x0 _ (S12a.rdG 4 rfl).ints.1).mono ?_
  rintro e w116 ⟨v16, rfl, s16⟩
  obtain ⟨A16, n16, c16, B16, m16, d16, hv⟩ := s16.formT 0 rfl
  subst hv
  have S16 : St w w116 [rBlk w.heap.size 24 #[.slice Ax0 nx0 cx0], rGraph (.agg #[.slice A6 n6 c6]) x0, rTask (.agg #[.int .i64 ((crossTask x0)).start, .slice A7 n7 c7, .slice B7 m7 d7]) (crossTask x0), rBlk w107.heap.size 28 #[.int .i64 ((crossTask x0)).start, .slice A7 n7 c7, .slice B7 m7 d7], rGraph (.agg #[.slice A11 n11 c11]) x0, rBlk w111.heap.size 30 #[.slice A11 n11 c11], rTask (.agg #[.int .i64 ((crossTask x0)).start, .slice A16 n16 c16, .slice B16 m16 d16]) (crossTask x0)] := S12a.call s16
  have S17a : St w (w116.alloc (Obj.cells #[.int .i64 ((crossTask x0)).start, .slice A16 n16 c16, .slice B16 m16 d16] 28)) [rBlk w.heap.size 24 #[.slice Ax0 nx0 cx0], rGraph (.agg #[.slice A6 n6 c6]) x0, rTask (.agg #[.int .i64 ((crossTask x0)).start, .slice A7 n7 c7, .slice B7 m7 d7]) (crossTask x0), rBlk w107.heap.size 28 #[.int .i64 ((crossTask x0)).start, .slice A7 n7 c7, .slice B7 m7 d7], rGraph (.agg #[.slice A11 n11 c11]) x0, rBlk w111.heap.size 30 #[.slice A11 n11 c11], rTask (.agg #[.int .i64 ((crossTask x0)).start, .slice A16 n16 c16, .slice B16 m16 d16]) (crossTask x0), rBlk w116.heap.size 28 #[.int .i64 ((crossTask x0)).start, .slice A16 n16 c16, .slice B16 m16 d16]] := (S16.alloc #[.int .i64 ((crossTask x0)).start, .slice A16 n16 c16, .slice B16 m16 d16] 28)
  clear q13 q14 q15
  have q18 : ∀ j, (w116.alloc (Obj.cells #[.int .i64 ((crossTask x0)).start, .slice A16 n16 c16, .slice B16 m16 d16] 28)).cell? ⟨w.heap.size, j, none⟩ = _ := S17a.cells 0 rfl
  have q19 : ∀ j, (w116.alloc (Obj.cells #[.int .i64 ((crossTask x0)).start, .slice A16 n16 c16, .slice B16 m16 d16] 28)).cell? ⟨w107.heap.size, j, none⟩ = _ := S17a.cells 3 rfl
  have q20 : ∀ j, (w116.alloc (Obj.cells #[.int .i64 ((crossTask x0)).start, .slice A16 n16 c16, .slice B16 m16 d16] 28)).cell? ⟨w111.heap.size, j, none⟩ = _ := S17a.cells 5 rfl
  have q21 : ∀ j, (w116.alloc (Obj.cells #[.int .i64 ((crossTask x0)).start, .slice A16 n16 c16, .slice B16 m16 d16] 28)).cell? ⟨w116.heap.size, j, none⟩ = _ := S17a.cells 7 rfl
  go_wp2_with fail
  refine (eqTask_same _ (crossTask x0) _ _ (S17a.rdT 6 rfl) (S17a.rdT 2 rfl)).mono ?_
  rintro e w122 ⟨rfl, hb22⟩
  have S22 : St w w122 [rBlk w.heap.size 24 #[.slice Ax0 nx0 cx0], rGraph (.agg #[.slice A6 n6 c6]) x0, rTask (.agg #[.int .i64 ((crossTask x0)).start, .slice A7 n7 c7, .slice B7 m7 d7]) (crossTask x0), rBlk w107.heap.size 28 #[.int .i64 ((crossTask x0)).start, .slice A7 n7 c7, .slice B7 m7 d7], rGraph (.agg #[.slice A11 n11 c11]) x0, rBlk w111.heap.size 30 #[.slice A11 n11 c11], rTask (.agg #[.int .i64 ((crossTask x0)).start, .slice A16 n16 c16, .slice B16 m16 d16]) (crossTask x0), rBlk w116.heap.size 28 #[.int .i64 ((crossTask x0)).start, .slice A16 n16 c16, .slice B16 m16 d16]] := S17a.quiet hb22
  clear q18 q19 q20 q21
  have q23 : ∀ j, w122.cell? ⟨w.heap.size, j, none⟩ = _ := S22.cells 0 rfl
  have q24 : ∀ j, w122.cell? ⟨w107.heap.size, j, none⟩ = _ := S22.cells 3 rfl
  have q25 : ∀ j, w122.cell? ⟨w111.heap.size, j, none⟩ = _ := S22.cells 5 rfl
  have q26 : ∀ j, w122.cell? ⟨w116.heap.size, j, none⟩ = _ := S22.cells 7 rfl
  go_upto_region 10 with (fail)
  refine wp_reg (σ := Value) (by kernel_rfl) (by kernel_rfl) (by kernel_rfl)
    (fun s i => match i with
      | 0 => .agg #[.slice A11 n11 c11]
      | 1 => .agg #[.slice Ax0 nx0 cx0]
      | 2 => s
      | 3 => .bool true
      | 4 => .bool false
      | _ => undef)
    (fun D s wx27 => Sn w wx27 fun i => match i with
      | 0 => some (rBlk w.heap.size 24 #[.slice Ax0 nx0 cx0])
      | 1 => some (rGraph (.agg #[.slice A6 n6 c6]) x0)
      | 2 => some (rTask (.agg #[.int .i64 ((crossTask x0)).start, .slice A7 n7 c7, .slice B7 m7 d7]) (crossTask x0))
      | 3 => some (rBlk w107.heap.size 28 #[.int .i64 ((crossTask x0)).start, .slice A7 n7 c7, .slice B7 m7 d7])
      | 4 => some (rGraph (.agg #[.slice A11 n11 c11]) x0)
      | 5 => some (rBlk w111.heap.size 30 #[.slice A11 n11 c11])
      | 6 => some (rTask (.agg #[.int .i64 ((crossTask x0)).start, .slice A16 n16 c16, .slice B16 m16 d16]) (crossTask x0))
      | 7 => some (rBlk w116.heap.size 28 #[.int .i64 ((crossTask x0)).start, .slice A16 n16 c16, .slice B16 m16 d16])
      | 8 => if D 2 = true then some (rGraph s x0) else none
      | _ => none)
    undef ?_ ?_ ?_
  · intro D hD
    refine ((Sn.of_st S22).quiet ((Below.refl _ _).drew)).congr fun i => ?_
    match i with
    | 0 => rfl
    | 1 => rfl
    | 2 => rfl
    | 3 => rfl
    | 4 => rfl
    | 5 => rfl
    | 6 => rfl
    | 7 => rfl
    | 8 => exact if_neg (by rw [hD 2 (by decide)]; simp)
    | q + 9 => rfl
  · refine StepAll.cons (fun D s wx27 hR (hDi : D 0 = false) hd hsh a' hs K hK => ?_) ?_
    · have e6 := hs.old 6 (u := .pointer (some ⟨w111.heap.size, 0, none⟩)) (by kernel_rfl) rfl
      clear hs
      have kb : Blk wx27 (w111.heap.size) 30 #[.slice A11 n11 c11] := hR.blk 5 rfl
      have c0 : wx27.cell? ⟨w111.heap.size, 0, none⟩ = some (.slice A11 n11 c11) := kb.cell 0
      go_simp
      exact hK s wx27 (fun _ _ => rfl) hR
    refine StepAll.cons (fun D s wx27 hR (hDi : D 1 = false) hd hsh a' hs K hK => ?_) ?_
    · have e1 := hs.old 1 (u := .pointer (some ⟨w.heap.size, 0, none⟩)) (by kernel_rfl) rfl
      clear hs
      have kb : Blk wx27 (w.heap.size) 24 #[.slice Ax0 nx0 cx0] := hR.blk 0 rfl
      have c0 : wx27.cell? ⟨w.heap.size, 0, none⟩ = some (.slice Ax0 nx0 cx0) := kb.cell 0
      go_simp
      exact hK s wx27 (fun _ _ => rfl) hR
    refine StepAll.cons (fun D s wx27 hR (hDi : D 2 = false) hd hsh a' hs K hK => ?_) ?_
    · have e42 := hs.at_ 1 42 (u := .agg #[.slice Ax0 nx0 cx0]) rfl (hd ⟨1, .data⟩ (by simp) rfl) (by kernel_rfl) (by kernel_rfl) rfl
      have g42 := getQ e42
      clear hs
      have n3 : D 3 = false := hsh.no hDi 3 rfl ⟨2, .data⟩ (by simp) rfl rfl
      have n4 : D 4 = false := hsh.no n3 4 rfl ⟨3, .data⟩ (by simp) rfl rfl
      go_simp
      refine (toGraph_st _ x0 _ (HR0.out.up hR.below)).mono ?_
      rintro e w2 ⟨v2, rfl, s2⟩
      refine hK v2 w2
        (fun j hj => by
          match j, hj with
          | 0, hj => rfl
          | 1, hj => rfl
          | 2, hj => rw [hDi] at hj; cases hj
          | 3, hj => rfl
          | 4, hj => rfl
          | _ + 5, hj => rfl)
        ((hR.add 8 (if_neg (by rw [hDi]; simp)) s2).congr
          (fun i => by
            match i with
            | 0 => rfl
            | 1 => rfl
            | 2 => rfl
            | 3 => rfl
            | 4 => rfl
            | 5 => rfl
            | 6 => rfl
            | 7 => rfl
            | 8 => rfl
            | q + 9 => exact (if_neg (show ¬ (q + 9 = 8) by omega)).symm))
    refine StepAll.cons (fun D s wx27 hR (hDi : D 3 = false) hd hsh a' hs K hK => ?_) ?_
    · have e41 := hs.at_ 0 41 (u := .agg #[.slice A11 n11 c11]) rfl (hd ⟨0, .data⟩ (by simp) rfl) (by kernel_rfl) (by kernel_rfl) rfl
      have e43 := hs.at_ 2 43 (u := s) rfl (hd ⟨2, .data⟩ (by simp) rfl) (by kernel_rfl) (by kernel_rfl) rfl
      have g41 := getQ e41
      have g43 := getQ e43
      clear hs
      have d2 : D 2 = true := hd ⟨2, .data⟩ (by simp) rfl
      go_simp
      refine (eqGraph_same _ x0 _ _ (hR.rdG 4 rfl) (hR.rdG 8 (if_pos d2))).mono ?_
      rintro e w2 ⟨rfl, hb2⟩
      exact hK s w2 (fun _ _ => rfl) (hR.quiet hb2)
    refine StepAll.cons (fun D s wx27 hR (hDi : D 4 = false) hd hsh a' hs K hK => ?_) ?_
    · have e44 := hs.at_ 3 44 (u := .bool true) rfl (hd ⟨3, .data⟩ (by simp) rfl) (by kernel_rfl) (by kernel_rfl) rfl
      clear hs
      go_simp
      exact hK s wx27 (fun _ _ => rfl) hR
    exact StepAll.nil
  · intro D s wx27 hR hD
    simp only [putA, Act.put, List.setIfInBounds_toArray, List.set_cons_zero, List.set_cons_succ]
    have S28 : St w wx27 [rBlk w.heap.size 24 #[.slice Ax0 nx0 cx0], rGraph (.agg #[.slice A6 n6 c6]) x0, rTask (.agg #[.int .i64 ((crossTask x0)).start, .slice A7 n7 c7, .slice B7 m7 d7]) (crossTask x0), rBlk w107.heap.size 28 #[.int .i64 ((crossTask x0)).start, .slice A7 n7 c7, .slice B7 m7 d7], rGraph (.agg #[.slice A11 n11 c11]) x0, rBlk w111.heap.size 30 #[.slice A11 n11 c11], rTask (.agg #[.int .i64 ((crossTask x0)).start, .slice A16 n16 c16, .slice B16 m16 d16]) (crossTask x0), rBlk w116.heap.size 28 #[.int .i64 ((crossTask x0)).start, .slice A16 n16 c16, .slice B16 m16 d16]] := hR.to_st [0, 1, 2, 3, 4, 5, 6, 7] (by decide) rfl
    clear hR hD
    clear q23 q24 q25 q26
    have q29 : ∀ j, wx27.cell? ⟨w.heap.size, j, none⟩ = _ := S28.cells 0 rfl
    have q30 : ∀ j, wx27.cell? ⟨w107.heap.size, j, none⟩ = _ := S28.cells 3 rfl
    have q31 : ∀ j, wx27.cell? ⟨w111.heap.size, j, none⟩ = _ := S28.cells 5 rfl
    have q32 : ∀ j, wx27.cell? ⟨w116.heap.size, j, none⟩ = _ := S28.cells 7 rfl
    go_wp2_with fail
    refine (markGraph_st S28 4 rfl (1) (by omega)).mono ?_
    rintro e w133 ⟨rfl, s33⟩
    have S33 : St w w133 [rBlk w.heap.size 24 #[.slice Ax0 nx0 cx0], rGraph (.agg #[.slice A6 n6 c6]) x0, rTask (.agg #[.int .i64 ((crossTask x0)).start, .slice A7 n7 c7, .slice B7 m7 d7]) (crossTask x0), rBlk w107.heap.size 28 #[.int .i64 ((crossTask x0)).start, .slice A7 n7 c7, .slice B7 m7 d7], rGraph (.agg #[.slice A11 n11 c11]) (markG (1) (x0)), rBlk w111.heap.size 30 #[.slice A11 n11 c11], rTask (.agg #[.int .i64 ((crossTask x0)).start, .slice A16 n16 c16, .slice B16 m16 d16]) (crossTask x0), rBlk w116.heap.size 28 #[.int .i64 ((crossTask x0)).start, .slice A16 n16 c16, .slice B16 m16 d16]] := s33
    clear q29 q30 q31 q32
    have q34 : ∀ j, w133.cell? ⟨w.heap.size, j, none⟩ = _ := S33.cells 0 rfl
    have q35 : ∀ j, w133.cell? ⟨w107.heap.size, j, none⟩ = _ := S33.cells 3 rfl
    have q36 : ∀ j, w133.cell? ⟨w111.heap.size, j, none⟩ = _ := S33.cells 5 rfl
    have q37 : ∀ j, w133.cell? ⟨w116.heap.size, j, none⟩ = _ := S33.cells 7 rfl
    go_wp2_with fail
    refine (eqTask_same _ (crossTask x0) _ _ (S33.rdT 6 rfl) (S33.rdT 2 rfl)).mono ?_
    rintro e w138 ⟨rfl, hb38⟩
    have S38 : St w w138 [rBlk w.heap.size 24 #[.slice Ax0 nx0 cx0], rGraph (.agg #[.slice A6 n6 c6]) x0, rTask (.agg #[.int .i64 ((crossTask x0)).start, .slice A7 n7 c7, .slice B7 m7 d7]) (crossTask x0), rBlk w107.heap.size 28 #[.int .i64 ((crossTask x0)).start, .slice A7 n7 c7, .slice B7 m7 d7], rGraph (.agg #[.slice A11 n11 c11]) (markG (1) (x0)), rBlk w111.heap.size 30 #[.slice A11 n11 c11], rTask (.agg #[.int .i64 ((crossTask x0)).start, .slice A16 n16 c16, .slice B16 m16 d16]) (crossTask x0), rBlk w116.heap.size 28 #[.int .i64 ((crossTask x0)).start, .slice A16 n16 c16, .slice B16 m16 d16]] := S33.quiet hb38
    clear q34 q35 q36 q37
    have q39 : ∀ j, w138.cell? ⟨w.heap.size, j, none⟩ = _ := S38.cells 0 rfl
    have q40 : ∀ j, w138.cell? ⟨w107.heap.size, j, none⟩ = _ := S38.cells 3 rfl
    have q41 : ∀ j, w138.cell? ⟨w111.heap.size, j, none⟩ = _ := S38.cells 5 rfl
    have q42 : ∀ j, w138.cell? ⟨w116.heap.size, j, none⟩ = _ := S38.cells 7 rfl
    go_wp2_with fail
    refine (markTask_st S38 6 rfl (1) (by omega)).mono ?_
    rintro e w143 ⟨rfl, s43⟩
    have S43 : St w w143 [rBlk w.heap.size 24 #[.slice Ax0 nx0 cx0], rGraph (.agg #[.slice A6 n6 c6]) x0, rTask (.agg #[.int .i64 ((crossTask x0)).start, .slice A7 n7 c7, .slice B7 m7 d7]) (crossTask x0), rBlk w107.heap.size 28 #[.int .i64 ((crossTask x0)).start, .slice A7 n7 c7, .slice B7 m7 d7], rGraph (.agg #[.slice A11 n11 c11]) (markG (1) (x0)), rBlk w111.heap.size 30 #[.slice A11 n11 c11], rTask (.agg #[.int .i64 ((crossTask x0)).start, .slice A16 n16 c16, .slice B16 m16 d16]) (markT (1) (crossTask x0)), rBlk w116.heap.size 28 #[.int .i64 ((crossTask x0)).start, .slice A16 n16 c16, .slice B16 m16 d16]] := s43
    clear q39 q40 q41 q42
    have q44 : ∀ j, w143.cell? ⟨w.heap.size, j, none⟩ = _ := S43.cells 0 rfl
    have q45 : ∀ j, w143.cell? ⟨w107.heap.size, j, none⟩ = _ := S43.cells 3 rfl
    have q46 : ∀ j, w143.cell? ⟨w111.heap.size, j, none⟩ = _ := S43.cells 5 rfl
    have q47 : ∀ j, w143.cell? ⟨w116.heap.size, j, none⟩ = _ := S43.cells 7 rfl
    go_wp2_with fail
    refine (heldTask_any _ (1) (crossTask x0) _ (S43.rdT 6 rfl) (by omega)).mono ?_
    rintro e w148 ⟨rfl, hb48⟩
    have S48 : St w w148 [rBlk w.heap.size 24 #[.slice Ax0 nx0 cx0], rGraph (.agg #[.slice A6 n6 c6]) x0, rTask (.agg #[.int .i64 ((crossTask x0)).start, .slice A7 n7 c7, .slice B7 m7 d7]) (crossTask x0), rBlk w107.heap.size 28 #[.int .i64 ((crossTask x0)).start, .slice A7 n7 c7, .slice B7 m7 d7], rGraph (.agg #[.slice A11 n11 c11]) (markG (1) (x0)), rBlk w111.heap.size 30 #[.slice A11 n11 c11], rTask (.agg #[.int .i64 ((crossTask x0)).start, .slice A16 n16 c16, .slice B16 m16 d16]) (markT (1) (crossTask x0)), rBlk w116.heap.size 28 #[.int .i64 ((crossTask x0)).start, .slice A16 n16 c16, .slice B16 m16 d16]] := S43.quiet hb48
    clear q44 q45 q46 q47
    have q49 : ∀ j, w148.cell? ⟨w.heap.size, j, none⟩ = _ := S48.cells 0 rfl
    have q50 : ∀ j, w148.cell? ⟨w107.heap.size, j, none⟩ = _ := S48.cells 3 rfl
    have q51 : ∀ j, w148.cell? ⟨w111.heap.size, j, none⟩ = _ := S48.cells 5 rfl
    have q52 : ∀ j, w148.cell? ⟨w116.heap.size, j, none⟩ = _ := S48.cells 7 rfl
    clear q49 q50 q51 q52
    have q53 : ∀ j, w148.cell? ⟨w.heap.size, j, none⟩ = _ := S48.cells 0 rfl
    have q54 : ∀ j, w148.cell? ⟨w107.heap.size, j, none⟩ = _ := S48.cells 3 rfl
    have q55 : ∀ j, w148.cell? ⟨w111.heap.size, j, none⟩ = _ := S48.cells 5 rfl
    have q56 : ∀ j, w148.cell? ⟨w116.heap.size, j, none⟩ = _ := S48.cells 7 rfl
    go_wp2_with fail
    refine (toGraph_st _ x0 _ (HR0.out.up S48.below)).mono ?_
    rintro e w157 ⟨v57, rfl, s57⟩
    obtain ⟨A57, n57, c57, hv⟩ := s57.formG 0 rfl
    subst hv
    have S57 : St w w157 [rBlk w.heap.size 24 #[.slice Ax0 nx0 cx0], rGraph (.agg #[.slice A6 n6 c6]) x0, rTask (.agg #[.int .i64 ((crossTask x0)).start, .slice A7 n7 c7, .slice B7 m7 d7]) (crossTask x0), rBlk w107.heap.size 28 #[.int .i64 ((crossTask x0)).start, .slice A7 n7 c7, .slice B7 m7 d7], rGraph (.agg #[.slice A11 n11 c11]) (markG (1) (x0)), rBlk w111.heap.size 30 #[.slice A11 n11 c11], rTask (.agg #[.int .i64 ((crossTask x0)).start, .slice A16 n16 c16, .slice B16 m16 d16]) (markT (1) (crossTask x0)), rBlk w116.heap.size 28 #[.int .i64 ((crossTask x0)).start, .slice A16 n16 c16, .slice B16 m16 d16], rGraph (.agg #[.slice A57 n57 c57]) x0] := S48.call s57
    go_wp2_with fail
    refine (crossTask_impl _ _ _ x0 _ (S57.rdG 8 rfl).ints.1).mono ?_
    rintro e w158 ⟨v58, rfl, s58⟩
    obtain ⟨A58, n58, c58, B58, m58, d58, hv⟩ := s58.formT 0 rfl
    subst hv
    have S58 : St w w158 [rBlk w.heap.size 24 #[.slice Ax0 nx0 cx0], rGraph (.agg #[.slice A6 n6 c6]) x0, rTask (.agg #[.int .i64 ((crossTask x0)).start, .slice A7 n7 c7, .slice B7 m7 d7]) (crossTask x0), rBlk w107.heap.size 28 #[.int .i64 ((crossTask x0)).start, .slice A7 n7 c7, .slice B7 m7 d7], rGraph (.agg #[.slice A11 n11 c11]) (markG (1) (x0)), rBlk w111.heap.size 30 #[.slice A11 n11 c11], rTask (.agg #[.int .i64 ((crossTask x0)).start, .slice A16 n16 c16, .slice B16 m16 d16]) (markT (1) (crossTask x0)), rBlk w116.heap.size 28 #[.int .i64 ((crossTask x0)).start, .slice A16 n16 c16, .slice B16 m16 d16], rGraph (.agg #[.slice A57 n57 c57]) x0, rTask (.agg #[.int .i64 ((crossTask x0)).start, .slice A58 n58 c58, .slice B58 m58 d58]) (crossTask x0)] := S57.call s58
    have S59a : St w (w158.alloc (Obj.cells #[.int .i64 ((crossTask x0)).start, .slice A58 n58 c58, .slice B58 m58 d58] 28)) [rBlk w.heap.size 24 #[.slice Ax0 nx0 cx0], rGraph (.agg #[.slice A6 n6 c6]) x0, rTask (.agg #[.int .i64 ((crossTask x0)).start, .slice A7 n7 c7, .slice B7 m7 d7]) (crossTask x0), rBlk w107.heap.size 28 #[.int .i64 ((crossTask x0)).start, .slice A7 n7 c7, .slice B7 m7 d7], rGraph (.agg #[.slice A11 n11 c11]) (markG (1) (x0)), rBlk w111.heap.size 30 #[.slice A11 n11 c11], rTask (.agg #[.int .i64 ((crossTask x0)).start, .slice A16 n16 c16, .slice B16 m16 d16]) (markT (1) (crossTask x0)), rBlk w116.heap.size 28 #[.int .i64 ((crossTask x0)).start, .slice A16 n16 c16, .slice B16 m16 d16], rGraph (.agg #[.slice A57 n57 c57]) x0, rTask (.agg #[.int .i64 ((crossTask x0)).start, .slice A58 n58 c58, .slice B58 m58 d58]) (crossTask x0), rBlk w158.heap.size 28 #[.int .i64 ((crossTask x0)).start, .slice A58 n58 c58, .slice B58 m58 d58]] := (S58.alloc #[.int .i64 ((crossTask x0)).start, .slice A58 n58 c58, .slice B58 m58 d58] 28)
    clear q53 q54 q55 q56
    have q60 : ∀ j, (w158.alloc (Obj.cells #[.int .i64 ((crossTask x0)).start, .slice A58 n58 c58, .slice B58 m58 d58] 28)).cell? ⟨w.heap.size, j, none⟩ = _ := S59a.cells 0 rfl
    have q61 : ∀ j, (w158.alloc (Obj.cells #[.int .i64 ((crossTask x0)).start, .slice A58 n58 c58, .slice B58 m58 d58] 28)).cell? ⟨w107.heap.size, j, none⟩ = _ := S59a.cells 3 rfl
    have q62 : ∀ j, (w158.alloc (Obj.cells #[.int .i64 ((crossTask x0)).start, .slice A58 n58 c58, .slice B58 m58 d58] 28)).cell? ⟨w111.heap.size, j, none⟩ = _ := S59a.cells 5 rfl
    have q63 : ∀ j, (w158.alloc (Obj.cells #[.int .i64 ((crossTask x0)).start, .slice A58 n58 c58, .slice B58 m58 d58] 28)).cell? ⟨w116.heap.size, j, none⟩ = _ := S59a.cells 7 rfl
    have q64 : ∀ j, (w158.alloc (Obj.cells #[.int .i64 ((crossTask x0)).start, .slice A58 n58 c58, .slice B58 m58 d58] 28)).cell? ⟨w158.heap.size, j, none⟩ = _ := S59a.cells 10 rfl
    go_wp2_with fail
    refine (eqTask_same _ (crossTask x0) _ _ (S59a.rdT 9 rfl) (S59a.rdT 2 rfl)).mono ?_
    rintro e w165 ⟨rfl, hb65⟩
    have S65 : St w w165 [rBlk w.heap.size 24 #[.slice Ax0 nx0 cx0], rGraph (.agg #[.slice A6 n6 c6]) x0, rTask (.agg #[.int .i64 ((crossTask x0)).start, .slice A7 n7 c7, .slice B7 m7 d7]) (crossTask x0), rBlk w107.heap.size 28 #[.int .i64 ((crossTask x0)).start, .slice A7 n7 c7, .slice B7 m7 d7], rGraph (.agg #[.slice A11 n11 c11]) (markG (1) (x0)), rBlk w111.heap.size 30 #[.slice A11 n11 c11], rTask (.agg #[.int .i64 ((crossTask x0)).start, .slice A16 n16 c16, .slice B16 m16 d16]) (markT (1) (crossTask x0)), rBlk w116.heap.size 28 #[.int .i64 ((crossTask x0)).start, .slice A16 n16 c16, .slice B16 m16 d16], rGraph (.agg #[.slice A57 n57 c57]) x0, rTask (.agg #[.int .i64 ((crossTask x0)).start, .slice A58 n58 c58, .slice B58 m58 d58]) (crossTask x0), rBlk w158.heap.size 28 #[.int .i64 ((crossTask x0)).start, .slice A58 n58 c58, .slice B58 m58 d58]] := S59a.quiet hb65
    clear q60 q61 q62 q63 q64
    have q66 : ∀ j, w165.cell? ⟨w.heap.size, j, none⟩ = _ := S65.cells 0 rfl
    have q67 : ∀ j, w165.cell? ⟨w107.heap.size, j, none⟩ = _ := S65.cells 3 rfl
    have q68 : ∀ j, w165.cell? ⟨w111.heap.size, j, none⟩ = _ := S65.cells 5 rfl
    have q69 : ∀ j, w165.cell? ⟨w116.heap.size, j, none⟩ = _ := S65.cells 7 rfl
    have q70 : ∀ j, w165.cell? ⟨w158.heap.size, j, none⟩ = _ := S65.cells 10 rfl
    go_wp2_with fail
    refine (heldTask_any _ (1) (crossTask x0) _ (S65.rdT 6 rfl) (by omega)).mono ?_
    rintro e w171 ⟨rfl, hb71⟩
    have S71 : St w w171 [rBlk w.heap.size 24 #[.slice Ax0 nx0 cx0], rGraph (.agg #[.slice A6 n6 c6]) x0, rTask (.agg #[.int .i64 ((crossTask x0)).start, .slice A7 n7 c7, .slice B7 m7 d7]) (crossTask x0), rBlk w107.heap.size 28 #[.int .i64 ((crossTask x0)).start, .slice A7 n7 c7, .slice B7 m7 d7], rGraph (.agg #[.slice A11 n11 c11]) (markG (1) (x0)), rBlk w111.heap.size 30 #[.slice A11 n11 c11], rTask (.agg #[.int .i64 ((crossTask x0)).start, .slice A16 n16 c16, .slice B16 m16 d16]) (markT (1) (crossTask x0)), rBlk w116.heap.size 28 #[.int .i64 ((crossTask x0)).start, .slice A16 n16 c16, .slice B16 m16 d16], rGraph (.agg #[.slice A57 n57 c57]) x0, rTask (.agg #[.int .i64 ((crossTask x0)).start, .slice A58 n58 c58, .slice B58 m58 d58]) (crossTask x0), rBlk w158.heap.size 28 #[.int .i64 ((crossTask x0)).start, .slice A58 n58 c58, .slice B58 m58 d58]] := S65.quiet hb71
    clear q66 q67 q68 q69 q70
    have q72 : ∀ j, w171.cell? ⟨w.heap.size, j, none⟩ = _ := S71.cells 0 rfl
    have q73 : ∀ j, w171.cell? ⟨w107.heap.size, j, none⟩ = _ := S71.cells 3 rfl
    have q74 : ∀ j, w171.cell? ⟨w111.heap.size, j, none⟩ = _ := S71.cells 5 rfl
    have q75 : ∀ j, w171.cell? ⟨w116.heap.size, j, none⟩ = _ := S71.cells 7 rfl
    have q76 : ∀ j, w171.cell? ⟨w158.heap.size, j, none⟩ = _ := S71.cells 10 rfl
    go_wp2
    go_ret
    exact ⟨rfl, S71.below⟩
end Go.Proofs.Ytpcaagbmjhgnaaa
