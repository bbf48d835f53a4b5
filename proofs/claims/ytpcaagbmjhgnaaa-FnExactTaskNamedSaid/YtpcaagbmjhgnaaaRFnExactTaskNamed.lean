/- The law FnExactTaskNamed, walked. -/
import Derived.Test.YtpcaagbmjhgnaaaIntS
import Derived.Test.YtpcaagbmjhgnaaaTNamed
namespace Go.Proofs.Ytpcaagbmjhgnaaa
set_option linter.unusedVariables false
open Go.ChangeShapes Go.WideShapes Go.ChangeAt Go.RowKit
theorem mkDs_named (p : List Int) (ds : List DeedD) : mkDs (ds.map (deedN p)) ≤ mkDs ds := by
  unfold mkDs
  induction ds with
  | nil => simp
  | cons d ds ih =>
    simp only [List.map_cons, List.sum_cons, mkD, deedN] at ih ⊢
    have h1 : (codeN p d.need).length = d.need.length := by simp [codeN]
    omega
theorem mkT_named (t : TaskD) (p : List Int) : mkT (taskNamed t p) ≤ mkT t := by
  unfold taskNamed
  split
  · unfold mkT
    have h1 : (codeN p t.goal).length = t.goal.length := by simp [codeN]
    have h2 := mkDs_named p t.deeds
    simp only
    omega
  · exact Nat.le_trans (by decide : mkT ⟨0, [], []⟩ ≤ 0) (Nat.zero_le _)

set_option maxRecDepth 100000 in
set_option maxHeartbeats 4000000 in
theorem FnExactTaskNamed_walk (v0 : Value) (x0 : TaskD) (A1 : Option Addr) (n1 c1 : Nat) (x1 : List Int) (w : World) (h0 : RdTM maxLen w w.heap.size v0 x0) (h1 : RdI .i64 w w.heap.size A1 n1 c1 x1) :
    Calls Try.prog 9 #[v0, .slice A1 n1 c1] w fun e w' => e = .returned (.bool true) ∧ Below w.heap.size w w' := by
  obtain ⟨Ax0, nx0, cx0, Bx0, mx0, dx0, hv0⟩ := h0.form
  subst hv0
  have S1a : St w (w.alloc (Obj.cells #[.int .i64 (x0).start, .slice Ax0 nx0 cx0, .slice Bx0 mx0 dx0] 39)) [rBlk w.heap.size 39 #[.int .i64 (x0).start, .slice Ax0 nx0 cx0, .slice Bx0 mx0 dx0]] := ((St.refl w).alloc #[.int .i64 (x0).start, .slice Ax0 nx0 cx0, .slice Bx0 mx0 dx0] 39)
  have q2 : ∀ j, (w.alloc (Obj.cells #[.int .i64 (x0).start, .slice Ax0 nx0 cx0, .slice Bx0 mx0 dx0] 39)).cell? ⟨w.heap.size, j, none⟩ = _ := S1a.cells 0 rfl
  by_cases hn1 : n1 ≤ 1048576
  case neg =>
    go_enter Try.func9, Try.ntmps9
    go_wp2
    go_ret
    exact ⟨rfl, S1a.below⟩
  by_cases hz0 : ((szT x0 : Nat) : Int) ≤ 1048576 - 0
  case neg =>
    go_enter Try.func9, Try.ntmps9
    go_wp2_with fail
    refine (szTask_any (M := maxLen) (by unfold maxLen; omega) _ x0 _ _ (h0.up S1a.below) (by omega) (by omega)).mono ?_
    rw [less_no (by omega)]
    rintro e w' ⟨rfl, hb⟩
    go_wp2
    go_ret
    exact ⟨rfl, (S1a.quiet hb).below⟩
  have hr0 := h0.less (M' := 1048576) (by omega)
  have HR0 := Lib.hid hr0
  clear hr0
  have hmk0 : mkT x0 ≤ 4194304 := by have := mkT_le x0; omega
  have hl1 : (x1).length ≤ 1048576 := by have := h1.len; omega
  have HR1 := Lib.hid h1
  have hM0 : mkT (taskNamed x0 x1) ≤ 8388608 := by have := mkT_named x0 x1; omega
  go_enter Try.func9, Try.ntmps9
  go_wp2_with fail
  refine (szTask_any (M := maxLen) (by unfold maxLen; omega) _ x0 _ _ (h0.up S1a.below) (by omega) (by omega)).mono ?_
  rw [less_yes (by omega)]
  rintro e w103 ⟨rfl, hb3⟩
  have S3 : St w w103 [rBlk w.heap.size 39 #[.int .i64 (x0).start, .slice Ax0 nx0 cx0, .slice Bx0 mx0 dx0]] := S1a.quiet hb3
  clear q2
  have q4 : ∀ j, w103.cell? ⟨w.heap.size, j, none⟩ = _ := S3.cells 0 rfl
  clear q4
  have q5 : ∀ j, w103.cell? ⟨w.heap.size, j, none⟩ = _ := S3.cells 0 rfl
  go_wp2_with fail
  refine (toTask_st _ x0 _ (HR0.out.up S3.below)).mono ?_
  rintro e w106 ⟨v6, rfl, s6⟩
  obtain ⟨A6, n6, c6, B6, m6, d6, hv⟩ := s6.formT 0 rfl
  subst hv
  have S6 : St w w106 [rBlk w.heap.size 39 #[.int .i64 (x0).start, .slice Ax0 nx0 cx0, .slice Bx0 mx0 dx0], rTask (.agg #[.int .i64 (x0).start, .slice A6 n6 c6, .slice B6 m6 d6]) x0] := S3.call s6
  clear q5
  have q7 : ∀ j, w106.cell? ⟨w.heap.size, j, none⟩ = _ := S6.cells 0 rfl
  go_wp2_with fail
  refine (toIntS_st _ _ _ x1 _ (HR1.out.up S6.below) (by omega)).mono ?_
  rintro e w108 ⟨v8, rfl, s8⟩
  obtain ⟨A8, c8, hv, -⟩ := s8.rdI 0 rfl
  subst hv
  have S8 : St w w108 [rBlk w.heap.size 39 #[.int .i64 (x0).start, .slice Ax0 nx0 cx0, .slice Bx0 mx0 dx0], rTask (.agg #[.int .i64 (x0).start, .slice A6 n6 c6, .slice B6 m6 d6]) x0, rInts (.slice A8 (x1).length c8) x1] := S6.call s8
  go_wp2_with fail
  refine (taskNamed_spec _ x0 _ _ _ x1 _ (S8.rdT 1 rfl) (S8.rdI' 2 rfl)).mono ?_
  rintro e w109 ⟨v9, rfl, s9⟩
  obtain ⟨A9, n9, c9, B9, m9, d9, hv⟩ := s9.formT 0 rfl
  subst hv
  have S9 : St w w109 [rBlk w.heap.size 39 #[.int .i64 (x0).start, .slice Ax0 nx0 cx0, .slice Bx0 mx0 dx0], rTask (.agg #[.int .i64 (x0).start, .slice A6 n6 c6, .slice B6 m6 d6]) x0, rInts (.slice A8 (x1).length c8) x1, rTask (.agg #[.int .i64 ((taskNamed x0 x1)).start, .slice A9 n9 c9, .slice B9 m9 d9]) (taskNamed x0 x1)] := S8.call s9
  have S10a : St w (w109.alloc (Obj.cells #[.int .i64 ((taskNamed x0 x1)).start, .slice A9 n9 c9, .slice B9 m9 d9] 28)) [rBlk w.heap.size 39 #[.int .i64 (x0).start, .slice Ax0 nx0 cx0, .slice Bx0 mx0 dx0], rTask (.agg #[.int .i64 (x0).start, .slice A6 n6 c6, .slice B6 m6 d6]) x0, rInts (.slice A8 (x1).length c8) x1, rTask (.agg #[.int .i64 ((taskNamed x0 x1)).start, .slice A9 n9 c9, .slice B9 m9 d9]) (taskNamed x0 x1), rBlk w109.heap.size 28 #[.int .i64 ((taskNamed x0 x1)).start, .slice A9 n9 c9, .slice B9 m9 d9]] := (S9.alloc #[.int .i64 ((taskNamed x0 x1)).start, .slice A9 n9 c9, .slice B9 m9 d9] 28)
  clear q7
  have q11 : ∀ j, (w109.alloc (Obj.cells #[.int .i64 ((taskNamed x0 x1)).start, .slice A9 n9 c9, .slice B9 m9 d9] 28)).cell? ⟨w.heap.size, j, none⟩ = _ := S10a.cells 0 rfl
  have q12 : ∀ j, (w109.alloc (Obj.cells #[.int .i64 ((taskNamed x0 x1)).start, .slice A9 n9 c9, .slice B9 m9 d9] 28)).cell? ⟨w109.heap.size, j, none⟩ = _ := S10a.cells 4 rfl
  go_wp2_with fail
  refine (toTask_st _ x0 _ (HR0.out.up S10a.below)).mono ?_
  rintro e w113 ⟨v13, rfl, s13⟩
  obtain ⟨A13, n13, c13, B13, m13, d13, hv⟩ := s13.formT 0 rfl
  subst hv
  have S13 : St w w113 [rBlk w.heap.size 39 #[.int .i64 (x0).start, .slice Ax0 nx0 cx0, .slice Bx0 mx0 dx0], rTask (.agg #[.int .i64 (x0).start, .slice A6 n6 c6, .slice B6 m6 d6]) x0, rInts (.slice A8 (x1).length c8) x1, rTask (.agg #[.int .i64 ((taskNamed x0 x1)).start, .slice A9 n9 c9, .slice B9 m9 d9]) (taskNamed x0 x1), rBlk w109.heap.size 28 #[.int .i64 ((taskNamed x0 x1)).start, .slice A9 n9 c9, .slice B9 m9 d9], rTask (.agg #[.int .i64 (x0).start, .slice A13 n13 c13, .slice B13 m13 d13]) x0] := S10a.call s13
  have S14a : St w (w113.alloc (Obj.cells #[.int .i64 (x0).start, .slice A13 n13 c13, .slice B13 m13 d13] 28)) [rBlk w.heap.size 39 #[.int .i64 (x0).start, .slice Ax0 nx0 cx0, .slice Bx0 mx0 dx0], rTask (.agg #[.int .i64 (x0).start, .slice A6 n6 c6, .slice B6 m6 d6]) x0, rInts (.slice A8 (x1).length c8) x1, rTask (.agg #[.int .i64 ((taskNamed x0 x1)).start, .slice A9 n9 c9, .slice B9 m9 d9]) (taskNamed x0 x1), rBlk w109.heap.size 28 #[.int .i64 ((taskNamed x0 x1)).start, .slice A9 n9 c9, .slice B9 m9 d9], rTask (.agg #[.int .i64 (x0).start, .slice A13 n13 c13, .slice B13 m13 d13]) x0, rBlk w113.heap.size 28 #[.int .i64 (x0).start, .slice A13 n13 c13, .slice B13 m13 d13]] := (S13.alloc #[.int .i64 (x0).start, .slice A13 n13 c13, .slice B13 m13 d13] 28)
  clear q11 q12
  have q15 : ∀ j, (w113.alloc (Obj.cells #[.int .i64 (x0).start, .slice A13 n13 c13, .slice B13 m13 d13] 28)).cell? ⟨w.heap.size, j, none⟩ = _ := S14a.cells 0 rfl
  have q16 : ∀ j, (w113.alloc (Obj.cells #[.int .i64 (x0).start, .slice A13 n13 c13, .slice B13 m13 d13] 28)).cell? ⟨w109.heap.size, j, none⟩ = _ := S14a.cells 4 rfl
  have q17 : ∀ j, (w113.alloc (Obj.cells #[.int .i64 (x0).start, .slice A13 n13 c13, .slice B13 m13 d13] 28)).cell? ⟨w113.heap.size, j, none⟩ = _ := S14a.cells 6 rfl
  go_wp2_with fail
  refine (toIntS_st _ _ _ x1 _ (HR1.out.up S14a.below) (by omega)).mono ?_
  rintro e w118 ⟨v18, rfl, s18⟩
  obtain ⟨A18, c18, hv, -⟩ := s18.rdI 0 rfl
  subst hv
  have S18 : St w w118 [rBlk w.heap.size 39 #[.int .i64 (x0).start, .slice Ax0 nx0 cx0, .slice Bx0 mx0 dx0], rTask (.agg #[.int .i64 (x0).start, .slice A6 n6 c6, .slice B6 m6 d6]) x0, rInts (.slice A8 (x1).length c8) x1, rTask (.agg #[.int .i64 ((taskNamed x0 x1)).start, .slice A9 n9 c9, .slice B9 m9 d9]) (taskNamed x0 x1), rBlk w109.heap.size 28 #[.int .i64 ((taskNamed x0 x1)).start, .slice A9 n9 c9, .slice B9 m9 d9], rTask (.agg #[.int .i64 (x0).start, .slice A13 n13 c13, .slice B13 m13 d13]) x0, rBlk w113.heap.size 28 #[.int .i64 (x0).start, .slice A13 n13 c13, .slice B13 m13 d13], rInts (.slice A18 (x1).length c18) x1] := S14a.call s18
  clear q15 q16 q17
  have q19 : ∀ j, w118.cell? ⟨w.heap.size, j, none⟩ = _ := S18.cells 0 rfl
  have q20 : ∀ j, w118.cell? ⟨w109.heap.size, j, none⟩ = _ := S18.cells 4 rfl
  have q21 : ∀ j, w118.cell? ⟨w113.heap.size, j, none⟩ = _ := S18.cells 6 rfl
  go_wp2_with fail
  refine (taskNamed_impl _ x0 _ _ _ x1 _ (S18.rdT 5 rfl) (S18.rdI' 7 rfl)).mono ?_
  rintro e w122 ⟨v22, rfl, s22⟩
  obtain ⟨A22, n22, c22, B22, m22, d22, hv⟩ := s22.formT 0 rfl
  subst hv
  have S22 : St w w122 [rBlk w.heap.size 39 #[.int .i64 (x0).start, .slice Ax0 nx0 cx0, .slice Bx0 mx0 dx0], rTask (.agg #[.int .i64 (x0).start, .slice A6 n6 c6, .slice B6 m6 d6]) x0, rInts (.slice A8 (x1).length c8) x1, rTask (.agg #[.int .i64 ((taskNamed x0 x1)).start, .slice A9 n9 c9, .slice B9 m9 d9]) (taskNamed x0 x1), rBlk w109.heap.size 28 #[.int .i64 ((taskNamed x0 x1)).start, .slice A9 n9 c9, .slice B9 m9 d9], rTask (.agg #[.int .i64 (x0).start, .slice A13 n13 c13, .slice B13 m13 d13]) x0, rBlk w113.heap.size 28 #[.int .i64 (x0).start, .slice A13 n13 c13, .slice B13 m13 d13], rInts (.slice A18 (x1).length c18) x1, rTask (.agg #[.int .i64 ((taskNamed x0 x1)).start, .slice A22 n22 c22, .slice B22 m22 d22]) (taskNamed x0 x1)] := S18.call s22
  have S23a : St w (w122.alloc (Obj.cells #[.int .i64 ((taskNamed x0 x1)).start, .slice A22 n22 c22, .slice B22 m22 d22] 28)) [rBlk w.heap.size 39 #[.int .i64 (x0).start, .slice Ax0 nx0 cx0, .slice Bx0 mx0 dx0], rTask (.agg #[.int .i64 (x0).start, .slice A6 n6 c6, .slice B6 m6 d6]) x0, rInts (.slice A8 (x1).length c8) x1, rTask (.agg #[.int .i64 ((taskNamed x0 x1)).start, .slice A9 n9 c9, .slice B9 m9 d9]) (taskNamed x0 x1), rBlk w109.heap.size 28 #[.int .i64 ((taskNamed x0 x1)).start, .slice A9 n9 c9, .slice B9 m9 d9], rTask (.agg #[.int .i64 (x0).start, .slice A13 n13 c13, .slice B13 m13 d13]) x0, rBlk w113.heap.size 28 #[.int .i64 (x0).start, .slice A13 n13 c13, .slice B13 m13 d13], rInts (.slice A18 (x1).length c18) x1, rTask (.agg #[.int .i64 ((taskNamed x0 x1)).start, .slice A22 n22 c22, .slice B22 m22 d22]) (taskNamed x0 x1), rBlk w122.heap.size 28 #[.int .i64 ((taskNamed x0 x1)).start, .slice A22 n22 c22, .slice B22 m22 d22]] := (S22.alloc #[.int .i64 ((taskNamed x0 x1)).start, .slice A22 n22 c22, .slice B22 m22 d22] 28)
  clear q19 q20 q21
  have q24 : ∀ j, (w122.alloc (Obj.cells #[.int .i64 ((taskNamed x0 x1)).start, .slice A22 n22 c22, .slice B22 m22 d22] 28)).cell? ⟨w.heap.size, j, none⟩ = _ := S23a.cells 0 rfl
  have q25 : ∀ j, (w122.alloc (Obj.cells #[.int .i64 ((taskNamed x0 x1)).start, .slice A22 n22 c22, .slice B22 m22 d22] 28)).cell? ⟨w109.heap.size, j, none⟩ = _ := S23a.cells 4 rfl
  have q26 : ∀ j, (w122.alloc (Obj.cells #[.int .i64 ((taskNamed x0 x1)).start, .slice A22 n22 c22, .slice B22 m22 d22] 28)).cell? ⟨w113.heap.size, j, none⟩ = _ := S23a.cells 6 rfl
  have q27 : ∀ j, (w122.alloc (Obj.cells #[.int .i64 ((taskNamed x0 x1)).start, .slice A22 n22 c22, .slice B22 m22 d22] 28)).cell? ⟨w122.heap.size, j, none⟩ = _ := S23a.cells 9 rfl
  go_wp2_with fail
  refine (eqTask_same _ (taskNamed x0 x1) _ _ (S23a.rdT 8 rfl) (S23a.rdT 3 rfl)).mono ?_
  rintro e w128 ⟨rfl, hb28⟩
  have S28 : St w w128 [rBlk w.heap.size 39 #[.int .i64 (x0).start, .slice Ax0 nx0 cx0, .slice Bx0 mx0 dx0], rTask (.agg #[.int .i64 (x0).start, .slice A6 n6 c6, .slice B6 m6 d6]) x0, rInts (.slice A8 (x1).length c8) x1, rTask (.agg #[.int .i64 ((taskNamed x0 x1)).start, .slice A9 n9 c9, .slice B9 m9 d9]) (taskNamed x0 x1), rBlk w109.heap.size 28 #[.int .i64 ((taskNamed x0 x1)).start, .slice A9 n9 c9, .slice B9 m9 d9], rTask (.agg #[.int .i64 (x0).start, .slice A13 n13 c13, .slice B13 m13 d13]) x0, rBlk w113.heap.size 28 #[.int .i64 (x0).start, .slice A13 n13 c13, .slice B13 m13 d13], rInts (.slice A18 (x1).length c18) x1, rTask (.agg #[.int .i64 ((taskNamed x0 x1)).start, .slice A22 n22 c22, .slice B22 m22 d22]) (taskNamed x0 x1), rBlk w122.heap.size 28 #[.int .i64 ((taskNamed x0 x1)).start, .slice A22 n22 c22, .slice B22 m22 d22]] := S23a.quiet hb28
  clear q24 q25 q26 q27
  have q29 : ∀ j, w128.cell? ⟨w.heap.size, j, none⟩ = _ := S28.cells 0 rfl
  have q30 : ∀ j, w128.cell? ⟨w109.heap.size, j, none⟩ = _ := S28.cells 4 rfl
  have q31 : ∀ j, w128.cell? ⟨w113.heap.size, j, none⟩ = _ := S28.cells 6 rfl
  have q32 : ∀ j, w128.cell? ⟨w122.heap.size, j, none⟩ = _ := S28.cells 9 rfl
  go_upto_region 13 with (fail)
  refine wp_reg (σ := Value) (by kernel_rfl) (by kernel_rfl) (by kernel_rfl)
    (fun s i => match i with
      | 0 => .agg #[.int .i64 (x0).start, .slice A13 n13 c13, .slice B13 m13 d13]
      | 1 => .agg #[.int .i64 (x0).start, .slice Ax0 nx0 cx0, .slice Bx0 mx0 dx0]
      | 2 => s
      | 3 => .bool true
      | 4 => .bool false
      | _ => undef)
    (fun D s wx33 => Sn w wx33 fun i => match i with
      | 0 => some (rBlk w.heap.size 39 #[.int .i64 (x0).start, .slice Ax0 nx0 cx0, .slice Bx0 mx0 dx0])
      | 1 => some (rTask (.agg #[.int .i64 (x0).start, .slice A6 n6 c6, .slice B6 m6 d6]) x0)
      | 2 => some (rInts (.slice A8 (x1).length c8) x1)
      | 3 => some (rTask (.agg #[.int .i64 ((taskNamed x0 x1)).start, .slice A9 n9 c9, .slice B9 m9 d9]) (taskNamed x0 x1))
      | 4 => some (rBlk w109.heap.size 28 #[.int .i64 ((taskNamed x0 x1)).start, .slice A9 n9 c9, .slice B9 m9 d9])
      | 5 => some (rTask (.agg #[.int .i64 (x0).start, .slice A13 n13 c13, .slice B13 m13 d13]) x0)
      | 6 => some (rBlk w113.heap.size 28 #[.int .i64 (x0).start, .slice A13 n13 c13, .slice B13 m13 d13])
      | 7 => some (rInts (.slice A18 (x1).length c18) x1)
      | 8 => some (rTask (.agg #[.int .i64 ((taskNamed x0 x1)).start, .slice A22 n22 c22, .slice B22 m22 d22]) (taskNamed x0 x1))
      | 9 => some (rBlk w122.heap.size 28 #[.int .i64 ((taskNamed x0 x1)).start, .slice A22 n22 c22, .slice B22 m22 d22])
      | 10 => if D 2 = true then some (rTask s x0) else none
      | _ => none)
    undef ?_ ?_ ?_
  · intro D hD
    refine ((Sn.of_st S28).quiet ((Below.refl _ _).drew)).congr fun i => ?_
    match i with
    | 0 => rfl
    | 1 => rfl
    | 2 => rfl
    | 3 => rfl
    | 4 => rfl
    | 5 => rfl
    | 6 => rfl
    | 7 => rfl
    | 8 => rfl
    | 9 => rfl
    | 10 => exact if_neg (by rw [hD 2 (by decide)]; simp)
    | q + 11 => rfl
  · refine StepAll.cons (fun D s wx33 hR (hDi : D 0 = false) hd hsh a' hs K hK => ?_) ?_
    · have e7 := hs.old 7 (u := .pointer (some ⟨w113.heap.size, 0, none⟩)) (by kernel_rfl) rfl
      clear hs
      have kb : Blk wx33 (w113.heap.size) 28 #[.int .i64 (x0).start, .slice A13 n13 c13, .slice B13 m13 d13] := hR.blk 6 rfl
      have c0 : wx33.cell? ⟨w113.heap.size, 0, none⟩ = some (.int .i64 (x0).start) := kb.cell 0
      have c1 : wx33.cell? ⟨w113.heap.size, 1, none⟩ = some (.slice A13 n13 c13) := kb.cell 1
      have c2 : wx33.cell? ⟨w113.heap.size, 2, none⟩ = some (.slice B13 m13 d13) := kb.cell 2
      go_simp
      exact hK s wx33 (fun _ _ => rfl) hR
    refine StepAll.cons (fun D s wx33 hR (hDi : D 1 = false) hd hsh a' hs K hK => ?_) ?_
    · have e2 := hs.old 2 (u := .pointer (some ⟨w.heap.size, 0, none⟩)) (by kernel_rfl) rfl
      clear hs
      have kb : Blk wx33 (w.heap.size) 39 #[.int .i64 (x0).start, .slice Ax0 nx0 cx0, .slice Bx0 mx0 dx0] := hR.blk 0 rfl
      have c0 : wx33.cell? ⟨w.heap.size, 0, none⟩ = some (.int .i64 (x0).start) := kb.cell 0
      have c1 : wx33.cell? ⟨w.heap.size, 1, none⟩ = some (.slice Ax0 nx0 cx0) := kb.cell 1
      have c2 : wx33.cell? ⟨w.heap.size, 2, none⟩ = some (.slice Bx0 mx0 dx0) := kb.cell 2
      go_simp
      exact hK s wx33 (fun _ _ => rfl) hR
    refine StepAll.cons (fun D s wx33 hR (hDi : D 2 = false) hd hsh a' hs K hK => ?_) ?_
    · have e39 := hs.at_ 1 39 (u := .agg #[.int .i64 (x0).start, .slice Ax0 nx0 cx0, .slice Bx0 mx0 dx0]) rfl (hd ⟨1, .data⟩ (by simp) rfl) (by kernel_rfl) (by kernel_rfl) rfl
      have g39 := getQ e39
      clear hs
      have n3 : D 3 = false := hsh.no hDi 3 rfl ⟨2, .data⟩ (by simp) rfl rfl
      have n4 : D 4 = false := hsh.no n3 4 rfl ⟨3, .data⟩ (by simp) rfl rfl
      go_simp
      refine (toTask_st _ x0 _ (HR0.out.up hR.below)).mono ?_
      rintro e w2 ⟨v2, rfl, s2⟩
      refine hK v2 w2
        (fun j hj => by
          match j, hj with
          | 0, hj => rfl
          | 1, hj => rfl
          | 2, hj => rw [hDi] at hj; cases hj
          | 3, hj => rfl
          | 4, hj => rfl
          | _ + 5, hj => rfl)
        ((hR.add 10 (if_neg (by rw [hDi]; simp)) s2).congr
          (fun i => by
            match i with
            | 0 => rfl
            | 1 => rfl
            | 2 => rfl
            | 3 => rfl
            | 4 => rfl
            | 5 => rfl
            | 6 => rfl
            | 7 => rfl
            | 8 => rfl
            | 9 => rfl
            | 10 => rfl
            | q + 11 => exact (if_neg (show ¬ (q + 11 = 10) by omega)).symm))
    refine StepAll.cons (fun D s wx33 hR (hDi : D 3 = false) hd hsh a' hs K hK => ?_) ?_
    · have e38 := hs.at_ 0 38 (u := .agg #[.int .i64 (x0).start, .slice A13 n13 c13, .slice B13 m13 d13]) rfl (hd ⟨0, .data⟩ (by simp) rfl) (by kernel_rfl) (by kernel_rfl) rfl
      have e40 := hs.at_ 2 40 (u := s) rfl (hd ⟨2, .data⟩ (by simp) rfl) (by kernel_rfl) (by kernel_rfl) rfl
      have g38 := getQ e38
      have g40 := getQ e40
      clear hs
      have d2 : D 2 = true := hd ⟨2, .data⟩ (by simp) rfl
      go_simp
      refine (eqTask_same _ x0 _ _ (hR.rdT 5 rfl) (hR.rdT 10 (if_pos d2))).mono ?_
      rintro e w2 ⟨rfl, hb2⟩
      exact hK s w2 (fun _ _ => rfl) (hR.quiet hb2)
    refine StepAll.cons (fun D s wx33 hR (hDi : D 4 = false) hd hsh a' hs K hK => ?_) ?_
    · have e41 := hs.at_ 3 41 (u := .bool true) rfl (hd ⟨3, .data⟩ (by simp) rfl) (by kernel_rfl) (by kernel_rfl) rfl
      clear hs
      go_simp
      exact hK s wx33 (fun _ _ => rfl) hR
    exact StepAll.nil
  · intro D s wx33 hR hD
    simp only [putA, Act.put, List.setIfInBounds_toArray, List.set_cons_zero, List.set_cons_succ]
    have S34 : St w wx33 [rBlk w.heap.size 39 #[.int .i64 (x0).start, .slice Ax0 nx0 cx0, .slice Bx0 mx0 dx0], rTask (.agg #[.int .i64 (x0).start, .slice A6 n6 c6, .slice B6 m6 d6]) x0, rInts (.slice A8 (x1).length c8) x1, rTask (.agg #[.int .i64 ((taskNamed x0 x1)).start, .slice A9 n9 c9, .slice B9 m9 d9]) (taskNamed x0 x1), rBlk w109.heap.size 28 #[.int .i64 ((taskNamed x0 x1)).start, .slice A9 n9 c9, .slice B9 m9 d9], rTask (.agg #[.int .i64 (x0).start, .slice A13 n13 c13, .slice B13 m13 d13]) x0, rBlk w113.heap.size 28 #[.int .i64 (x0).start, .slice A13 n13 c13, .slice B13 m13 d13], rInts (.slice A18 (x1).length c18) x1, rTask (.agg #[.int .i64 ((taskNamed x0 x1)).start, .slice A22 n22 c22, .slice B22 m22 d22]) (taskNamed x0 x1), rBlk w122.heap.size 28 #[.int .i64 ((taskNamed x0 x1)).start, .slice A22 n22 c22, .slice B22 m22 d22]] := hR.to_st [0, 1, 2, 3, 4, 5, 6, 7, 8, 9] (by decide) rfl
    clear hR hD
    clear q29 q30 q31 q32
    have q35 : ∀ j, wx33.cell? ⟨w.heap.size, j, none⟩ = _ := S34.cells 0 rfl
    have q36 : ∀ j, wx33.cell? ⟨w109.heap.size, j, none⟩ = _ := S34.cells 4 rfl
    have q37 : ∀ j, wx33.cell? ⟨w113.heap.size, j, none⟩ = _ := S34.cells 6 rfl
    have q38 : ∀ j, wx33.cell? ⟨w122.heap.size, j, none⟩ = _ := S34.cells 9 rfl
    go_wp2_with fail
    refine (toIntS_st _ _ _ x1 _ (HR1.out.up S34.below) (by omega)).mono ?_
    rintro e w139 ⟨v39, rfl, s39⟩
    obtain ⟨A39, c39, hv, -⟩ := s39.rdI 0 rfl
    subst hv
    have S39 : St w w139 [rBlk w.heap.size 39 #[.int .i64 (x0).start, .slice Ax0 nx0 cx0, .slice Bx0 mx0 dx0], rTask (.agg #[.int .i64 (x0).start, .slice A6 n6 c6, .slice B6 m6 d6]) x0, rInts (.slice A8 (x1).length c8) x1, rTask (.agg #[.int .i64 ((taskNamed x0 x1)).start, .slice A9 n9 c9, .slice B9 m9 d9]) (taskNamed x0 x1), rBlk w109.heap.size 28 #[.int .i64 ((taskNamed x0 x1)).start, .slice A9 n9 c9, .slice B9 m9 d9], rTask (.agg #[.int .i64 (x0).start, .slice A13 n13 c13, .slice B13 m13 d13]) x0, rBlk w113.heap.size 28 #[.int .i64 (x0).start, .slice A13 n13 c13, .slice B13 m13 d13], rInts (.slice A18 (x1).length c18) x1, rTask (.agg #[.int .i64 ((taskNamed x0 x1)).start, .slice A22 n22 c22, .slice B22 m22 d22]) (taskNamed x0 x1), rBlk w122.heap.size 28 #[.int .i64 ((taskNamed x0 x1)).start, .slice A22 n22 c22, .slice B22 m22 d22], rInts (.slice A39 (x1).length c39) x1] := S34.call s39
    go_wp2_with fail
    refine (eqIntS_same _ _ _ x1 _ _ _ _ (S39.rdI' 7 rfl) (S39.rdI' 10 rfl)).mono ?_
    rintro e w140 ⟨rfl, hb40⟩
    have S40 : St w w140 [rBlk w.heap.size 39 #[.int .i64 (x0).start, .slice Ax0 nx0 cx0, .slice Bx0 mx0 dx0], rTask (.agg #[.int .i64 (x0).start, .slice A6 n6 c6, .slice B6 m6 d6]) x0, rInts (.slice A8 (x1).length c8) x1, rTask (.agg #[.int .i64 ((taskNamed x0 x1)).start, .slice A9 n9 c9, .slice B9 m9 d9]) (taskNamed x0 x1), rBlk w109.heap.size 28 #[.int .i64 ((taskNamed x0 x1)).start, .slice A9 n9 c9, .slice B9 m9 d9], rTask (.agg #[.int .i64 (x0).start, .slice A13 n13 c13, .slice B13 m13 d13]) x0, rBlk w113.heap.size 28 #[.int .i64 (x0).start, .slice A13 n13 c13, .slice B13 m13 d13], rInts (.slice A18 (x1).length c18) x1, rTask (.agg #[.int .i64 ((taskNamed x0 x1)).start, .slice A22 n22 c22, .slice B22 m22 d22]) (taskNamed x0 x1), rBlk w122.heap.size 28 #[.int .i64 ((taskNamed x0 x1)).start, .slice A22 n22 c22, .slice B22 m22 d22], rInts (.slice A39 (x1).length c39) x1] := S39.quiet hb40
    clear q35 q36 q37 q38
    have q41 : ∀ j, w140.cell? ⟨w.heap.size, j, none⟩ = _ := S40.cells 0 rfl
    have q42 : ∀ j, w140.cell? ⟨w109.heap.size, j, none⟩ = _ := S40.cells 4 rfl
    have q43 : ∀ j, w140.cell? ⟨w113.heap.size, j, none⟩ = _ := S40.cells 6 rfl
    have q44 : ∀ j, w140.cell? ⟨w122.heap.size, j, none⟩ = _ := S40.cells 9 rfl
    go_wp2_with fail
    refine (markTask_st S40 5 rfl (1) (by omega)).mono ?_
    rintro e w145 ⟨rfl, s45⟩
    have S45 : St w w145 [rBlk w.heap.size 39 #[.int .i64 (x0).start, .slice Ax0 nx0 cx0, .slice Bx0 mx0 dx0], rTask (.agg #[.int .i64 (x0).start, .slice A6 n6 c6, .slice B6 m6 d6]) x0, rInts (.slice A8 (x1).length c8) x1, rTask (.agg #[.int .i64 ((taskNamed x0 x1)).start, .slice A9 n9 c9, .slice B9 m9 d9]) (taskNamed x0 x1), rBlk w109.heap.size 28 #[.int .i64 ((taskNamed x0 x1)).start, .slice A9 n9 c9, .slice B9 m9 d9], rTask (.agg #[.int .i64 (x0).start, .slice A13 n13 c13, .slice B13 m13 d13]) (markT (1) (x0)), rBlk w113.heap.size 28 #[.int .i64 (x0).start, .slice A13 n13 c13, .slice B13 m13 d13], rInts (.slice A18 (x1).length c18) x1, rTask (.agg #[.int .i64 ((taskNamed x0 x1)).start, .slice A22 n22 c22, .slice B22 m22 d22]) (taskNamed x0 x1), rBlk w122.heap.size 28 #[.int .i64 ((taskNamed x0 x1)).start, .slice A22 n22 c22, .slice B22 m22 d22], rInts (.slice A39 (x1).length c39) x1] := s45
    clear q41 q42 q43 q44
    have q46 : ∀ j, w145.cell? ⟨w.heap.size, j, none⟩ = _ := S45.cells 0 rfl
    have q47 : ∀ j, w145.cell? ⟨w109.heap.size, j, none⟩ = _ := S45.cells 4 rfl
    have q48 : ∀ j, w145.cell? ⟨w113.heap.size, j, none⟩ = _ := S45.cells 6 rfl
    have q49 : ∀ j, w145.cell? ⟨w122.heap.size, j, none⟩ = _ := S45.cells 9 rfl
    go_wp2_with fail
    refine (markIntS_st S45 7 rfl (1 + mkT (x0)) (by omega) (by omega)).mono ?_
    rintro e w150 ⟨rfl, s50⟩
    have S50 : St w w150 [rBlk w.heap.size 39 #[.int .i64 (x0).start, .slice Ax0 nx0 cx0, .slice Bx0 mx0 dx0], rTask (.agg #[.int .i64 (x0).start, .slice A6 n6 c6, .slice B6 m6 d6]) x0, rInts (.slice A8 (x1).length c8) x1, rTask (.agg #[.int .i64 ((taskNamed x0 x1)).start, .slice A9 n9 c9, .slice B9 m9 d9]) (taskNamed x0 x1), rBlk w109.heap.size 28 #[.int .i64 ((taskNamed x0 x1)).start, .slice A9 n9 c9, .slice B9 m9 d9], rTask (.agg #[.int .i64 (x0).start, .slice A13 n13 c13, .slice B13 m13 d13]) (markT (1) (x0)), rBlk w113.heap.size 28 #[.int .i64 (x0).start, .slice A13 n13 c13, .slice B13 m13 d13], rInts (.slice A18 (x1).length c18) (marks (1 + mkT (x0)) (x1).length), rTask (.agg #[.int .i64 ((taskNamed x0 x1)).start, .slice A22 n22 c22, .slice B22 m22 d22]) (taskNamed x0 x1), rBlk w122.heap.size 28 #[.int .i64 ((taskNamed x0 x1)).start, .slice A22 n22 c22, .slice B22 m22 d22], rInts (.slice A39 (x1).length c39) x1] := s50
    clear q46 q47 q48 q49
    have q51 : ∀ j, w150.cell? ⟨w.heap.size, j, none⟩ = _ := S50.cells 0 rfl
    have q52 : ∀ j, w150.cell? ⟨w109.heap.size, j, none⟩ = _ := S50.cells 4 rfl
    have q53 : ∀ j, w150.cell? ⟨w113.heap.size, j, none⟩ = _ := S50.cells 6 rfl
    have q54 : ∀ j, w150.cell? ⟨w122.heap.size, j, none⟩ = _ := S50.cells 9 rfl
    go_wp2_with fail
    refine (eqTask_same _ (taskNamed x0 x1) _ _ (S50.rdT 8 rfl) (S50.rdT 3 rfl)).mono ?_
    rintro e w155 ⟨rfl, hb55⟩
    have S55 : St w w155 [rBlk w.heap.size 39 #[.int .i64 (x0).start, .slice Ax0 nx0 cx0, .slice Bx0 mx0 dx0], rTask (.agg #[.int .i64 (x0).start, .slice A6 n6 c6, .slice B6 m6 d6]) x0, rInts (.slice A8 (x1).length c8) x1, rTask (.agg #[.int .i64 ((taskNamed x0 x1)).start, .slice A9 n9 c9, .slice B9 m9 d9]) (taskNamed x0 x1), rBlk w109.heap.size 28 #[.int .i64 ((taskNamed x0 x1)).start, .slice A9 n9 c9, .slice B9 m9 d9], rTask (.agg #[.int .i64 (x0).start, .slice A13 n13 c13, .slice B13 m13 d13]) (markT (1) (x0)), rBlk w113.heap.size 28 #[.int .i64 (x0).start, .slice A13 n13 c13, .slice B13 m13 d13], rInts (.slice A18 (x1).length c18) (marks (1 + mkT (x0)) (x1).length), rTask (.agg #[.int .i64 ((taskNamed x0 x1)).start, .slice A22 n22 c22, .slice B22 m22 d22]) (taskNamed x0 x1), rBlk w122.heap.size 28 #[.int .i64 ((taskNamed x0 x1)).start, .slice A22 n22 c22, .slice B22 m22 d22], rInts (.slice A39 (x1).length c39) x1] := S50.quiet hb55
    clear q51 q52 q53 q54
    have q56 : ∀ j, w155.cell? ⟨w.heap.size, j, none⟩ = _ := S55.cells 0 rfl
    have q57 : ∀ j, w155.cell? ⟨w109.heap.size, j, none⟩ = _ := S55.cells 4 rfl
    have q58 : ∀ j, w155.cell? ⟨w113.heap.size, j, none⟩ = _ := S55.cells 6 rfl
    have q59 : ∀ j, w155.cell? ⟨w122.heap.size, j, none⟩ = _ := S55.cells 9 rfl
    go_wp2_with fail
    refine (markTask_st S55 8 rfl (1) (by omega)).mono ?_
    rintro e w160 ⟨rfl, s60⟩
    have S60 : St w w160 [rBlk w.heap.size 39 #[.int .i64 (x0).start, .slice Ax0 nx0 cx0, .slice Bx0 mx0 dx0], rTask (.agg #[.int .i64 (x0).start, .slice A6 n6 c6, .slice B6 m6 d6]) x0, rInts (.slice A8 (x1).length c8) x1, rTask (.agg #[.int .i64 ((taskNamed x0 x1)).start, .slice A9 n9 c9, .slice B9 m9 d9]) (taskNamed x0 x1), rBlk w109.heap.size 28 #[.int .i64 ((taskNamed x0 x1)).start, .slice A9 n9 c9, .slice B9 m9 d9], rTask (.agg #[.int .i64 (x0).start, .slice A13 n13 c13, .slice B13 m13 d13]) (markT (1) (x0)), rBlk w113.heap.size 28 #[.int .i64 (x0).start, .slice A13 n13 c13, .slice B13 m13 d13], rInts (.slice A18 (x1).length c18) (marks (1 + mkT (x0)) (x1).length), rTask (.agg #[.int .i64 ((taskNamed x0 x1)).start, .slice A22 n22 c22, .slice B22 m22 d22]) (markT (1) (taskNamed x0 x1)), rBlk w122.heap.size 28 #[.int .i64 ((taskNamed x0 x1)).start, .slice A22 n22 c22, .slice B22 m22 d22], rInts (.slice A39 (x1).length c39) x1] := s60
    clear q56 q57 q58 q59
    have q61 : ∀ j, w160.cell? ⟨w.heap.size, j, none⟩ = _ := S60.cells 0 rfl
    have q62 : ∀ j, w160.cell? ⟨w109.heap.size, j, none⟩ = _ := S60.cells 4 rfl
    have q63 : ∀ j, w160.cell? ⟨w113.heap.size, j, none⟩ = _ := S60.cells 6 rfl
    have q64 : ∀ j, w160.cell? ⟨w122.heap.size, j, none⟩ = _ := S60.cells 9 rfl
    go_wp2_with fail
    refine (heldTask_any _ (1) (taskNamed x0 x1) _ (S60.rdT 8 rfl) (by omega)).mono ?_
    rintro e w165 ⟨rfl, hb65⟩
    have S65 : St w w165 [rBlk w.heap.size 39 #[.int .i64 (x0).start, .slice Ax0 nx0 cx0, .slice Bx0 mx0 dx0], rTask (.agg #[.int .i64 (x0).start, .slice A6 n6 c6, .slice B6 m6 d6]) x0, rInts (.slice A8 (x1).length c8) x1, rTask (.agg #[.int .i64 ((taskNamed x0 x1)).start, .slice A9 n9 c9, .slice B9 m9 d9]) (taskNamed x0 x1), rBlk w109.heap.size 28 #[.int .i64 ((taskNamed x0 x1)).start, .slice A9 n9 c9, .slice B9 m9 d9], rTask (.agg #[.int .i64 (x0).start, .slice A13 n13 c13, .slice B13 m13 d13]) (markT (1) (x0)), rBlk w113.heap.size 28 #[.int .i64 (x0).start, .slice A13 n13 c13, .slice B13 m13 d13], rInts (.slice A18 (x1).length c18) (marks (1 + mkT (x0)) (x1).length), rTask (.agg #[.int .i64 ((taskNamed x0 x1)).start, .slice A22 n22 c22, .slice B22 m22 d22]) (markT (1) (taskNamed x0 x1)), rBlk w122.heap.size 28 #[.int .i64 ((taskNamed x0 x1)).start, .slice A22 n22 c22, .slice B22 m22 d22], rInts (.slice A39 (x1).length c39) x1] := S60.quiet hb65
    clear q61 q62 q63 q64
    have q66 : ∀ j, w165.cell? ⟨w.heap.size, j, none⟩ = _ := S65.cells 0 rfl
    have q67 : ∀ j, w165.cell? ⟨w109.heap.size, j, none⟩ = _ := S65.cells 4 rfl
    have q68 : ∀ j, w165.cell? ⟨w113.heap.size, j, none⟩ = _ := S65.cells 6 rfl
    have q69 : ∀ j, w165.cell? ⟨w122.heap.size, j, none⟩ = _ := S65.cells 9 rfl
    clear q66 q67 q68 q69
    have q70 : ∀ j, w165.cell? ⟨w.heap.size, j, none⟩ = _ := S65.cells 0 rfl
    have q71 : ∀ j, w165.cell? ⟨w109.heap.size, j, none⟩ = _ := S65.cells 4 rfl
    have q72 : ∀ j, w165.cell? ⟨w113.heap.size, j, none⟩ = _ := S65.cells 6 rfl
    have q73 : ∀ j, w165.cell? ⟨w122.heap.size, j, none⟩ = _ := S65.cells 9 rfl
    go_wp2_with fail
    refine (toTask_st _ x0 _ (HR0.out.up S65.below)).mono ?_
    rintro e w174 ⟨v74, rfl, s74⟩
    obtain ⟨A74, n74, c74, B74, m74, d74, hv⟩ := s74.formT 0 rfl
    subst hv
    have S74 : St w w174 [rBlk w.heap.size 39 #[.int .i64 (x0).start, .slice Ax0 nx0 cx0, .slice Bx0 mx0 dx0], rTask (.agg #[.int .i64 (x0).start, .slice A6 n6 c6, .slice B6 m6 d6]) x0, rInts (.slice A8 (x1).length c8) x1, rTask (.agg #[.int .i64 ((taskNamed x0 x1)).start, .slice A9 n9 c9, .slice B9 m9 d9]) (taskNamed x0 x1), rBlk w109.heap.size 28 #[.int .i64 ((taskNamed x0 x1)).start, .slice A9 n9 c9, .slice B9 m9 d9], rTask (.agg #[.int .i64 (x0).start, .slice A13 n13 c13, .slice B13 m13 d13]) (markT (1) (x0)), rBlk w113.heap.size 28 #[.int .i64 (x0).start, .slice A13 n13 c13, .slice B13 m13 d13], rInts (.slice A18 (x1).length c18) (marks (1 + mkT (x0)) (x1).length), rTask (.agg #[.int .i64 ((taskNamed x0 x1)).start, .slice A22 n22 c22, .slice B22 m22 d22]) (markT (1) (taskNamed x0 x1)), rBlk w122.heap.size 28 #[.int .i64 ((taskNamed x0 x1)).start, .slice A22 n22 c22, .slice B22 m22 d22], rInts (.slice A39 (x1).length c39) x1, rTask (.agg #[.int .i64 (x0).start, .slice A74 n74 c74, .slice B74 m74 d74]) x0] := S65.call s74
    clear q70 q71 q72 q73
    have q75 : ∀ j, w174.cell? ⟨w.heap.size, j, none⟩ = _ := S74.cells 0 rfl
    have q76 : ∀ j, w174.cell? ⟨w109.heap.size, j, none⟩ = _ := S74.cells 4 rfl
    have q77 : ∀ j, w174.cell? ⟨w113.heap.size, j, none⟩ = _ := S74.cells 6 rfl
    have q78 : ∀ j, w174.cell? ⟨w122.heap.size, j, none⟩ = _ := S74.cells 9 rfl
    go_wp2_with fail
    refine (toIntS_st _ _ _ x1 _ (HR1.out.up S74.below) (by omega)).mono ?_
    rintro e w179 ⟨v79, rfl, s79⟩
    obtain ⟨A79, c79, hv, -⟩ := s79.rdI 0 rfl
    subst hv
    have S79 : St w w179 [rBlk w.heap.size 39 #[.int .i64 (x0).start, .slice Ax0 nx0 cx0, .slice Bx0 mx0 dx0], rTask (.agg #[.int .i64 (x0).start, .slice A6 n6 c6, .slice B6 m6 d6]) x0, rInts (.slice A8 (x1).length c8) x1, rTask (.agg #[.int .i64 ((taskNamed x0 x1)).start, .slice A9 n9 c9, .slice B9 m9 d9]) (taskNamed x0 x1), rBlk w109.heap.size 28 #[.int .i64 ((taskNamed x0 x1)).start, .slice A9 n9 c9, .slice B9 m9 d9], rTask (.agg #[.int .i64 (x0).start, .slice A13 n13 c13, .slice B13 m13 d13]) (markT (1) (x0)), rBlk w113.heap.size 28 #[.int .i64 (x0).start, .slice A13 n13 c13, .slice B13 m13 d13], rInts (.slice A18 (x1).length c18) (marks (1 + mkT (x0)) (x1).length), rTask (.agg #[.int .i64 ((taskNamed x0 x1)).start, .slice A22 n22 c22, .slice B22 m22 d22]) (markT (1) (taskNamed x0 x1)), rBlk w122.heap.size 28 #[.int .i64 ((taskNamed x0 x1)).start, .slice A22 n22 c22, .slice B22 m22 d22], rInts (.slice A39 (x1).length c39) x1, rTask (.agg #[.int .i64 (x0).start, .slice A74 n74 c74, .slice B74 m74 d74]) x0, rInts (.slice A79 (x1).length c79) x1] := S74.call s79
    go_wp2_with fail
    refine (taskNamed_impl _ x0 _ _ _ x1 _ (S79.rdT 11 rfl) (S79.rdI' 12 rfl)).mono ?_
    rintro e w180 ⟨v80, rfl, s80⟩
    obtain ⟨A80, n80, c80, B80, m80, d80, hv⟩ := s80.formT 0 rfl
    subst hv
    have S80 : St w w180 [rBlk w.heap.size 39 #[.int .i64 (x0).start, .slice Ax0 nx0 cx0, .slice Bx0 mx0 dx0], rTask (.agg #[.int .i64 (x0).start, .slice A6 n6 c6, .slice B6 m6 d6]) x0, rInts (.slice A8 (x1).length c8) x1, rTask (.agg #[.int .i64 ((taskNamed x0 x1)).start, .slice A9 n9 c9, .slice B9 m9 d9]) (taskNamed x0 x1), rBlk w109.heap.size 28 #[.int .i64 ((taskNamed x0 x1)).start, .slice A9 n9 c9, .slice B9 m9 d9], rTask (.agg #[.int .i64 (x0).start, .slice A13 n13 c13, .slice B13 m13 d13]) (markT (1) (x0)), rBlk w113.heap.size 28 #[.int .i64 (x0).start, .slice A13 n13 c13, .slice B13 m13 d13], rInts (.slice A18 (x1).length c18) (marks (1 + mkT (x0)) (x1).length), rTask (.agg #[.int .i64 ((taskNamed x0 x1)).start, .slice A22 n22 c22, .slice B22 m22 d22]) (markT (1) (taskNamed x0 x1)), rBlk w122.heap.size 28 #[.int .i64 ((taskNamed x0 x1)).start, .slice A22 n22 c22, .slice B22 m22 d22], rInts (.slice A39 (x1).length c39) x1, rTask (.agg #[.int .i64 (x0).start, .slice A74 n74 c74, .slice B74 m74 d74]) x0, rInts (.slice A79 (x1).length c79) x1, rTask (.agg #[.int .i64 ((taskNamed x0 x1)).start, .slice A80 n80 c80, .slice B80 m80 d80]) (taskNamed x0 x1)] := S79.call s80
    have S81a : St w (w180.alloc (Obj.cells #[.int .i64 ((taskNamed x0 x1)).start, .slice A80 n80 c80, .slice B80 m80 d80] 28)) [rBlk w.heap.size 39 #[.int .i64 (x0).start, .slice Ax0 nx0 cx0, .slice Bx0 mx0 dx0], rTask (.agg #[.int .i64 (x0).start, .slice A6 n6 c6, .slice B6 m6 d6]) x0, rInts (.slice A8 (x1).length c8) x1, rTask (.agg #[.int .i64 ((taskNamed x0 x1)).start, .slice A9 n9 c9, .slice B9 m9 d9]) (taskNamed x0 x1), rBlk w109.heap.size 28 #[.int .i64 ((taskNamed x0 x1)).start, .slice A9 n9 c9, .slice B9 m9 d9], rTask (.agg #[.int .i64 (x0).start, .slice A13 n13 c13, .slice B13 m13 d13]) (markT (1) (x0)), rBlk w113.heap.size 28 #[.int .i64 (x0).start, .slice A13 n13 c13, .slice B13 m13 d13], rInts (.slice A18 (x1).length c18) (marks (1 + mkT (x0)) (x1).length), rTask (.agg #[.int .i64 ((taskNamed x0 x1)).start, .slice A22 n22 c22, .slice B22 m22 d22]) (markT (1) (taskNamed x0 x1)), rBlk w122.heap.size 28 #[.int .i64 ((taskNamed x0 x1)).start, .slice A22 n22 c22, .slice B22 m22 d22], rInts (.slice A39 (x1).length c39) x1, rTask (.agg #[.int .i64 (x0).start, .slice A74 n74 c74, .slice B74 m74 d74]) x0, rInts (.slice A79 (x1).length c79) x1, rTask (.agg #[.int .i64 ((taskNamed x0 x1)).start, .slice A80 n80 c80, .slice B80 m80 d80]) (taskNamed x0 x1), rBlk w180.heap.size 28 #[.int .i64 ((taskNamed x0 x1)).start, .slice A80 n80 c80, .slice B80 m80 d80]] := (S80.alloc #[.int .i64 ((taskNamed x0 x1)).start, .slice A80 n80 c80, .slice B80 m80 d80] 28)
    clear q75 q76 q77 q78
    have q82 : ∀ j, (w180.alloc (Obj.cells #[.int .i64 ((taskNamed x0 x1)).start, .slice A80 n80 c80, .slice B80 m80 d80] 28)).cell? ⟨w.heap.size, j, none⟩ = _ := S81a.cells 0 rfl
    have q83 : ∀ j, (w180.alloc (Obj.cells #[.int .i64 ((taskNamed x0 x1)).start, .slice A80 n80 c80, .slice B80 m80 d80] 28)).cell? ⟨w109.heap.size, j, none⟩ = _ := S81a.cells 4 rfl
    have q84 : ∀ j, (w180.alloc (Obj.cells #[.int .i64 ((taskNamed x0 x1)).start, .slice A80 n80 c80, .slice B80 m80 d80] 28)).cell? ⟨w113.heap.size, j, none⟩ = _ := S81a.cells 6 rfl
    have q85 : ∀ j, (w180.alloc (Obj.cells #[.int .i64 ((taskNamed x0 x1)).start, .slice A80 n80 c80, .slice B80 m80 d80] 28)).cell? ⟨w122.heap.size, j, none⟩ = _ := S81a.cells 9 rfl
    have q86 : ∀ j, (w180.alloc (Obj.cells #[.int .i64 ((taskNamed x0 x1)).start, .slice A80 n80 c80, .slice B80 m80 d80] 28)).cell? ⟨w180.heap.size, j, none⟩ = _ := S81a.cells 14 rfl
    go_wp2_with fail
    refine (eqTask_same _ (taskNamed x0 x1) _ _ (S81a.rdT 13 rfl) (S81a.rdT 3 rfl)).mono ?_
    rintro e w187 ⟨rfl, hb87⟩
    have S87 : St w w187 [rBlk w.heap.size 39 #[.int .i64 (x0).start, .slice Ax0 nx0 cx0, .slice Bx0 mx0 dx0], rTask (.agg #[.int .i64 (x0).start, .slice A6 n6 c6, .slice B6 m6 d6]) x0, rInts (.slice A8 (x1).length c8) x1, rTask (.agg #[.int .i64 ((taskNamed x0 x1)).start, .slice A9 n9 c9, .slice B9 m9 d9]) (taskNamed x0 x1), rBlk w109.heap.size 28 #[.int .i64 ((taskNamed x0 x1)).start, .slice A9 n9 c9, .slice B9 m9 d9], rTask (.agg #[.int .i64 (x0).start, .slice A13 n13 c13, .slice B13 m13 d13]) (markT (1) (x0)), rBlk w113.heap.size 28 #[.int .i64 (x0).start, .slice A13 n13 c13, .slice B13 m13 d13], rInts (.slice A18 (x1).length c18) (marks (1 + mkT (x0)) (x1).length), rTask (.agg #[.int .i64 ((taskNamed x0 x1)).start, .slice A22 n22 c22, .slice B22 m22 d22]) (markT (1) (taskNamed x0 x1)), rBlk w122.heap.size 28 #[.int .i64 ((taskNamed x0 x1)).start, .slice A22 n22 c22, .slice B22 m22 d22], rInts (.slice A39 (x1).length c39) x1, rTask (.agg #[.int .i64 (x0).start, .slice A74 n74 c74, .slice B74 m74 d74]) x0, rInts (.slice A79 (x1).length c79) x1, rTask (.agg #[.int .i64 ((taskNamed x0 x1)).start, .slice A80 n80 c80, .slice B80 m80 d80]) (taskNamed x0 x1), rBlk w180.heap.size 28 #[.int .i64 ((taskNamed x0 x1)).start, .slice A80 n80 c80, .slice B80 m80 d80]] := S81a.quiet hb87
    clear q82 q83 q84 q85 q86
    have q88 : ∀ j, w187.cell? ⟨w.heap.size, j, none⟩ = _ := S87.cells 0 rfl
    have q89 : ∀ j, w187.cell? ⟨w109.heap.size, j, none⟩ = _ := S87.cells 4 rfl
    have q90 : ∀ j, w187.cell? ⟨w113.heap.size, j, none⟩ = _ := S87.cells 6 rfl
    have q91 : ∀ j, w187.cell? ⟨w122.heap.size, j, none⟩ = _ := S87.cells 9 rfl
    have q92 : ∀ j, w187.cell? ⟨w180.heap.size, j, none⟩ = _ := S87.cells 14 rfl
    go_wp2_with fail
    refine (heldTask_any _ (1) (taskNamed x0 x1) _ (S87.rdT 8 rfl) (by omega)).mono ?_
    rintro e w193 ⟨rfl, hb93⟩
    have S93 : St w w193 [rBlk w.heap.size 39 #[.int .i64 (x0).start, .slice Ax0 nx0 cx0, .slice Bx0 mx0 dx0], rTask (.agg #[.int .i64 (x0).start, .slice A6 n6 c6, .slice B6 m6 d6]) x0, rInts (.slice A8 (x1).length c8) x1, rTask (.agg #[.int .i64 ((taskNamed x0 x1)).start, .slice A9 n9 c9, .slice B9 m9 d9]) (taskNamed x0 x1), rBlk w109.heap.size 28 #[.int .i64 ((taskNamed x0 x1)).start, .slice A9 n9 c9, .slice B9 m9 d9], rTask (.agg #[.int .i64 (x0).start, .slice A13 n13 c13, .slice B13 m13 d13]) (markT (1) (x0)), rBlk w113.heap.size 28 #[.int .i64 (x0).start, .slice A13 n13 c13, .slice B13 m13 d13], rInts (.slice A18 (x1).length c18) (marks (1 + mkT (x0)) (x1).length), rTask (.agg #[.int .i64 ((taskNamed x0 x1)).start, .slice A22 n22 c22, .slice B22 m22 d22]) (markT (1) (taskNamed x0 x1)), rBlk w122.heap.size 28 #[.int .i64 ((taskNamed x0 x1)).start, .slice A22 n22 c22, .slice B22 m22 d22], rInts (.slice A39 (x1).length c39) x1, rTask (.agg #[.int .i64 (x0).start, .slice A74 n74 c74, .slice B74 m74 d74]) x0, rInts (.slice A79 (x1).length c79) x1, rTask (.agg #[.int .i64 ((taskNamed x0 x1)).start, .slice A80 n80 c80, .slice B80 m80 d80]) (taskNamed x0 x1), rBlk w180.heap.size 28 #[.int .i64 ((taskNamed x0 x1)).start, .slice A80 n80 c80, .slice B80 m80 d80]] := S87.quiet hb93
    clear q88 q89 q90 q91 q92
    have q94 : ∀ j, w193.cell? ⟨w.heap.size, j, none⟩ = _ := S93.cells 0 rfl
    have q95 : ∀ j, w193.cell? ⟨w109.heap.size, j, none⟩ = _ := S93.cells 4 rfl
    have q96 : ∀ j, w193.cell? ⟨w113.heap.size, j, none⟩ = _ := S93.cells 6 rfl
    have q97 : ∀ j, w193.cell? ⟨w122.heap.size, j, none⟩ = _ := S93.cells 9 rfl
    have q98 : ∀ j, w193.cell? ⟨w180.heap.size, j, none⟩ = _ := S93.cells 14 rfl
    go_wp2
    go_ret
    exact ⟨rfl, S93.below⟩
end Go.Proofs.Ytpcaagbmjhgnaaa
