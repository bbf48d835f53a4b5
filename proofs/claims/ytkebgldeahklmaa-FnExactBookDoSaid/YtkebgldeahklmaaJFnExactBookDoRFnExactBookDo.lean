/- The law FnExactBookDo, walked. -/
import Derived.Test.YtkebgldeahklmaaJFnExactBookDoRunB
import Derived.Test.YtkebgldeahklmaaJFnExactBookDoActsH
namespace Go.Proofs.Ytkebgldeahklmaa
set_option linter.unusedVariables false
open Go.ChangeShapes Go.WideShapes Go.ChangeAt Go.RowKit
theorem mkB_do (b : BookD) (a : ActD) : mkB (bookDo b a) ≤ mkB b + 40 := by
  cases hb : bookOk b with
  | false => rw [(bookDo_bad hb).1]; exact Nat.zero_le _
  | true =>
    cases h : doneAfter b a with
    | none => rw [(bookDo_none hb h).1]; omega
    | some d =>
      rw [(bookDo_some hb h).1]
      have := doneAfter_len hb h
      unfold mkB withDone
      simp only
      omega
theorem mkB_run (b : BookD) (aa : List ActD) : mkB (bookRun b aa).1 ≤ mkB b + 40 := by
  unfold bookRun
  split
  · next h =>
    simp only [Bool.and_eq_true] at h
    obtain ⟨h1, h2, -⟩ := runB_ok aa h.1
    have := (bookOk_parts h1).2.1
    unfold mkB
    rw [h2]
    omega
  · exact Nat.zero_le _

set_option maxRecDepth 100000 in
set_option maxHeartbeats 4000000 in
theorem FnExactBookDo_walk (v0 : Value) (x0 : BookD) (ak am : Int) (w : World) (h0 : RdBM maxLen w w.heap.size v0 x0) (h1 : (Lit.int .i64 am).wf = true) :
    Calls Try.prog 5 #[v0, .agg #[.int .i64 ak, .int .i64 am]] w fun e w' => e = .returned (.bool true) ∧ Below w.heap.size w w' := by
  obtain ⟨Ax0, nx0, cx0, Bx0, mx0, dx0, Cx0, lx0, fx0, hv0⟩ := h0.form
  subst hv0
  have S1a : St w ((w.alloc (Obj.cells #[.int .i64 (x0).order.start, .slice Ax0 nx0 cx0, .slice Bx0 mx0 dx0, .slice Cx0 lx0 fx0, .int .i64 (x0).state] 43)).alloc (Obj.cells #[.int .i64 ak, .int .i64 am] 45)) [rBlk w.heap.size 43 #[.int .i64 (x0).order.start, .slice Ax0 nx0 cx0, .slice Bx0 mx0 dx0, .slice Cx0 lx0 fx0, .int .i64 (x0).state], rBlk (w.heap.size + 1) 45 #[.int .i64 ak, .int .i64 am]] := by have := (((St.refl w).alloc #[.int .i64 (x0).order.start, .slice Ax0 nx0 cx0, .slice Bx0 mx0 dx0, .slice Cx0 lx0 fx0, .int .i64 (x0).state] 43).alloc #[.int .i64 ak, .int .i64 am] 45); simpa using this
  have q2 : ∀ j, ((w.alloc (Obj.cells #[.int .i64 (x0).order.start, .slice Ax0 nx0 cx0, .slice Bx0 mx0 dx0, .slice Cx0 lx0 fx0, .int .i64 (x0).state] 43)).alloc (Obj.cells #[.int .i64 ak, .int .i64 am] 45)).cell? ⟨w.heap.size, j, none⟩ = _ := S1a.cells 0 rfl
  have q3 : ∀ j, ((w.alloc (Obj.cells #[.int .i64 (x0).order.start, .slice Ax0 nx0 cx0, .slice Bx0 mx0 dx0, .slice Cx0 lx0 fx0, .int .i64 (x0).state] 43)).alloc (Obj.cells #[.int .i64 ak, .int .i64 am] 45)).cell? ⟨(w.heap.size + 1), j, none⟩ = _ := S1a.cells 1 rfl
  by_cases hz0 : ((szB x0 : Nat) : Int) ≤ 1048576 - 0
  case neg =>
    go_enter Try.func5, Try.ntmps5
    go_wp2_with fail
    refine (szBook_any (M := maxLen) (by unfold maxLen; omega) _ x0 _ _ (h0.up S1a.below) (by omega) (by omega)).mono ?_
    rw [less_no (by omega)]
    rintro e w' ⟨rfl, hb⟩
    go_wp2
    go_ret
    exact ⟨rfl, (S1a.quiet hb).below⟩
  have hr0 := h0.less (M' := 1048576) (by omega)
  have HR0 := Lib.hid hr0
  clear hr0
  have hmk0 : mkB x0 ≤ 4194304 := by have := mkB_le x0; omega
  have hM0 : mkB (bookDo x0 ⟨ak, am⟩) ≤ 8388608 := by have := mkB_do x0 ⟨ak, am⟩; omega
  go_enter Try.func5, Try.ntmps5
  go_wp2_with fail
  refine (szBook_any (M := maxLen) (by unfold maxLen; omega) _ x0 _ _ (h0.up S1a.below) (by omega) (by omega)).mono ?_
  rw [less_yes (by omega)]
  rintro e w104 ⟨rfl, hb4⟩
  have S4 : St w w104 [rBlk w.heap.size 43 #[.int .i64 (x0).order.start, .slice Ax0 nx0 cx0, .slice Bx0 mx0 dx0, .slice Cx0 lx0 fx0, .int .i64 (x0).state], rBlk (w.heap.size + 1) 45 #[.int .i64 ak, .int .i64 am]] := S1a.quiet hb4
  clear q2 q3
  have q5 : ∀ j, w104.cell? ⟨w.heap.size, j, none⟩ = _ := S4.cells 0 rfl
  have q6 : ∀ j, w104.cell? ⟨(w.heap.size + 1), j, none⟩ = _ := S4.cells 1 rfl
  go_upto_region 5 with (fail)
  refine wp_reg (σ := ((Option Addr × Nat × Nat) × (Option Addr × Nat × Nat) × (Option Addr × Nat × Nat)) × ((Option Addr × Nat × Nat) × (Option Addr × Nat × Nat) × (Option Addr × Nat × Nat)) × Nat) (by kernel_rfl) (by kernel_rfl) (by kernel_rfl)
    (fun s i => match i with
      | 0 => .agg #[.int .i64 (x0).order.start, .slice Ax0 nx0 cx0, .slice Bx0 mx0 dx0, .slice Cx0 lx0 fx0, .int .i64 (x0).state]
      | 1 => .agg #[.int .i64 (x0).order.start, .slice s.1.1.1 s.1.1.2.1 s.1.1.2.2, .slice s.1.2.1.1 s.1.2.1.2.1 s.1.2.1.2.2, .slice s.1.2.2.1 s.1.2.2.2.1 s.1.2.2.2.2, .int .i64 (x0).state]
      | 2 => .agg #[.int .i64 ak, .int .i64 am]
      | 3 => .agg #[.int .i64 ak, .int .i64 am]
      | 4 => .tuple #[.agg #[.int .i64 (bookDo x0 ⟨ak, am⟩).order.start, .slice s.2.1.1.1 s.2.1.1.2.1 s.2.1.1.2.2, .slice s.2.1.2.1.1 s.2.1.2.1.2.1 s.2.1.2.1.2.2, .slice s.2.1.2.2.1 s.2.1.2.2.2.1 s.2.1.2.2.2.2, .int .i64 (bookDo x0 ⟨ak, am⟩).state], .bool (bookDid x0 ⟨ak, am⟩)]
      | 5 => .tuple #[.agg #[.int .i64 (bookDo x0 ⟨ak, am⟩).order.start, .slice s.2.1.1.1 s.2.1.1.2.1 s.2.1.1.2.2, .slice s.2.1.2.1.1 s.2.1.2.1.2.1 s.2.1.2.1.2.2, .slice s.2.1.2.2.1 s.2.1.2.2.2.1 s.2.1.2.2.2.2, .int .i64 (bookDo x0 ⟨ak, am⟩).state], .bool (bookDid x0 ⟨ak, am⟩)]
      | 6 => .agg #[.int .i64 (bookDo x0 ⟨ak, am⟩).order.start, .slice s.2.1.1.1 s.2.1.1.2.1 s.2.1.1.2.2, .slice s.2.1.2.1.1 s.2.1.2.1.2.1 s.2.1.2.1.2.2, .slice s.2.1.2.2.1 s.2.1.2.2.2.1 s.2.1.2.2.2.2, .int .i64 (bookDo x0 ⟨ak, am⟩).state]
      | 7 => .bool (bookDid x0 ⟨ak, am⟩)
      | 8 => .pointer (some ⟨s.2.2, 0, none⟩)
      | 10 => .bool (bookDid x0 ⟨ak, am⟩)
      | _ => undef)
    (fun D s wx7 => Sn w wx7 fun i => match i with
      | 0 => some (rBlk w.heap.size 43 #[.int .i64 (x0).order.start, .slice Ax0 nx0 cx0, .slice Bx0 mx0 dx0, .slice Cx0 lx0 fx0, .int .i64 (x0).state])
      | 1 => some (rBlk (w.heap.size + 1) 45 #[.int .i64 ak, .int .i64 am])
      | 2 => if D 1 = true then some (rBook (.agg #[.int .i64 (x0).order.start, .slice s.1.1.1 s.1.1.2.1 s.1.1.2.2, .slice s.1.2.1.1 s.1.2.1.2.1 s.1.2.1.2.2, .slice s.1.2.2.1 s.1.2.2.2.1 s.1.2.2.2.2, .int .i64 (x0).state]) x0) else none
      | 3 => if D 4 = true then some (rBook (.agg #[.int .i64 (bookDo x0 ⟨ak, am⟩).order.start, .slice s.2.1.1.1 s.2.1.1.2.1 s.2.1.1.2.2, .slice s.2.1.2.1.1 s.2.1.2.1.2.1 s.2.1.2.1.2.2, .slice s.2.1.2.2.1 s.2.1.2.2.2.1 s.2.1.2.2.2.2, .int .i64 (bookDo x0 ⟨ak, am⟩).state]) (bookDo x0 ⟨ak, am⟩)) else none
      | 4 => if D 8 = true then some (rBlk s.2.2 28 (if D 9 = true then #[.int .i64 (bookDo x0 ⟨ak, am⟩).order.start, .slice s.2.1.1.1 s.2.1.1.2.1 s.2.1.1.2.2, .slice s.2.1.2.1.1 s.2.1.2.1.2.1 s.2.1.2.1.2.2, .slice s.2.1.2.2.1 s.2.1.2.2.2.1 s.2.1.2.2.2.2, .int .i64 (bookDo x0 ⟨ak, am⟩).state] else #[.int .i64 0, .slice none 0 0, .slice none 0 0, .slice none 0 0, .int .i64 0])) else none
      | _ => none)
    (((none, 0, 0), (none, 0, 0), (none, 0, 0)), ((none, 0, 0), (none, 0, 0), (none, 0, 0)), 0) ?_ ?_ ?_
  · intro D hD
    refine ((Sn.of_st S4).quiet ((Below.refl _ _).drew)).congr fun i => ?_
    match i with
    | 0 => rfl
    | 1 => rfl
    | 2 => simp only [hD 1 (by decide)]; rfl
    | 3 => simp only [hD 4 (by decide)]; rfl
    | 4 => simp only [hD 8 (by decide)]; rfl
    | q + 5 => rfl
  · refine StepAll.cons (fun D s wx7 hR (hDi : D 0 = false) hd hsh a' hs K hK => ?_) ?_
    · have e2 := hs.old 2 (u := .pointer (some ⟨w.heap.size, 0, none⟩)) (by kernel_rfl) rfl
      clear hs
      have kb : Blk wx7 (w.heap.size) 43 #[.int .i64 (x0).order.start, .slice Ax0 nx0 cx0, .slice Bx0 mx0 dx0, .slice Cx0 lx0 fx0, .int .i64 (x0).state] := hR.blk 0 rfl
      have c0 : wx7.cell? ⟨w.heap.size, 0, none⟩ = some (.int .i64 (x0).order.start) := kb.cell 0
      have c1 : wx7.cell? ⟨w.heap.size, 1, none⟩ = some (.slice Ax0 nx0 cx0) := kb.cell 1
      have c2 : wx7.cell? ⟨w.heap.size, 2, none⟩ = some (.slice Bx0 mx0 dx0) := kb.cell 2
      have c3 : wx7.cell? ⟨w.heap.size, 3, none⟩ = some (.slice Cx0 lx0 fx0) := kb.cell 3
      have c4 : wx7.cell? ⟨w.heap.size, 4, none⟩ = some (.int .i64 (x0).state) := kb.cell 4
      go_simp
      exact hK s wx7 (fun _ _ => rfl) hR
    refine StepAll.cons (fun D s wx7 hR (hDi : D 1 = false) hd hsh a' hs K hK => ?_) ?_
    · have e22 := hs.at_ 0 22 (u := .agg #[.int .i64 (x0).order.start, .slice Ax0 nx0 cx0, .slice Bx0 mx0 dx0, .slice Cx0 lx0 fx0, .int .i64 (x0).state]) rfl (hd ⟨0, .data⟩ (by simp) rfl) (by kernel_rfl) (by kernel_rfl) rfl
      have g22 := getQ e22
      clear hs
      have n4 : D 4 = false := hsh.no hDi 4 rfl ⟨1, .data⟩ (by simp) rfl rfl
      go_simp
      refine (toBook_st _ x0 _ (HR0.out.up hR.below)).mono ?_
      rintro e2 w2 ⟨v2, rfl, s2⟩
      obtain ⟨A1, n1, c1, A2, n2, c2, A3, n3, c3, hv⟩ := s2.formB 0 rfl
      subst hv
      refine hK (((A1, n1, c1), (A2, n2, c2), (A3, n3, c3)), s.2) w2
        (fun j hj => by
          match j, hj with
          | 0, hj => rfl
          | 1, hj => rw [hDi] at hj; cases hj
          | 2, hj => rfl
          | 3, hj => rfl
          | 4, hj => rfl
          | 5, hj => rfl
          | 6, hj => rfl
          | 7, hj => rfl
          | 8, hj => rfl
          | 9, hj => rfl
          | 10, hj => rfl
          | _ + 11, hj => rfl)
        ((hR.add 2 (if_neg (by rw [hDi]; simp)) s2).congr
          (fun i => by
            match i with
            | 0 => rfl
            | 1 => rfl
            | 2 => rfl
            | 3 => rfl
            | 4 => rfl
            | q + 5 => exact (if_neg (show ¬ (q + 5 = 2) by omega)).symm))
    refine StepAll.cons (fun D s wx7 hR (hDi : D 2 = false) hd hsh a' hs K hK => ?_) ?_
    · have e3 := hs.old 3 (u := .pointer (some ⟨(w.heap.size + 1), 0, none⟩)) (by kernel_rfl) rfl
      clear hs
      have kb : Blk wx7 ((w.heap.size + 1)) 45 #[.int .i64 ak, .int .i64 am] := hR.blk 1 rfl
      have c0 : wx7.cell? ⟨(w.heap.size + 1), 0, none⟩ = some (.int .i64 ak) := kb.cell 0
      have c1 : wx7.cell? ⟨(w.heap.size + 1), 1, none⟩ = some (.int .i64 am) := kb.cell 1
      go_simp
      exact hK s wx7 (fun _ _ => rfl) hR
    refine StepAll.cons (fun D s wx7 hR (hDi : D 3 = false) hd hsh a' hs K hK => ?_) ?_
    · have e24 := hs.at_ 2 24 (u := .agg #[.int .i64 ak, .int .i64 am]) rfl (hd ⟨2, .data⟩ (by simp) rfl) (by kernel_rfl) (by kernel_rfl) rfl
      have g24 := getQ e24
      clear hs
      go_simp
      refine (toAct_any ak am _).mono ?_
      rintro e2 w2 ⟨rfl, hb2⟩
      exact hK s w2 (fun _ _ => rfl) (hR.quiet hb2)
    refine StepAll.cons (fun D s wx7 hR (hDi : D 4 = false) hd hsh a' hs K hK => ?_) ?_
    · have e23 := hs.at_ 1 23 (u := .agg #[.int .i64 (x0).order.start, .slice s.1.1.1 s.1.1.2.1 s.1.1.2.2, .slice s.1.2.1.1 s.1.2.1.2.1 s.1.2.1.2.2, .slice s.1.2.2.1 s.1.2.2.2.1 s.1.2.2.2.2, .int .i64 (x0).state]) rfl (hd ⟨1, .data⟩ (by simp) rfl) (by kernel_rfl) (by kernel_rfl) rfl
      have e25 := hs.at_ 3 25 (u := .agg #[.int .i64 ak, .int .i64 am]) rfl (hd ⟨3, .data⟩ (by simp) rfl) (by kernel_rfl) (by kernel_rfl) rfl
      have g23 := getQ e23
      have g25 := getQ e25
      clear hs
      have n5 : D 5 = false := hsh.no hDi 5 rfl ⟨4, .data⟩ (by simp) rfl rfl
      have n6 : D 6 = false := hsh.no n5 6 rfl ⟨5, .data⟩ (by simp) rfl rfl
      have n7 : D 7 = false := hsh.no n5 7 rfl ⟨5, .data⟩ (by simp) rfl rfl
      have n9 : D 9 = false := hsh.no n6 9 rfl ⟨6, .data⟩ (by simp) rfl rfl
      have n10 : D 10 = false := hsh.no n7 10 rfl ⟨7, .data⟩ (by simp) rfl rfl
      have d1 : D 1 = true := hd ⟨1, .data⟩ (by simp) rfl
      go_simp
      refine (bookDo_spec _ x0 ak am _ (hR.rdB 2 (if_pos d1)) h1).mono ?_
      rintro e2 w2 ⟨v2, rfl, s2⟩
      obtain ⟨A1, n1, c1, A2, n2, c2, A3, n3, c3, hv⟩ := s2.formB 0 rfl
      subst hv
      refine hK (s.1, ((A1, n1, c1), (A2, n2, c2), (A3, n3, c3)), s.2.2) w2
        (fun j hj => by
          match j, hj with
          | 0, hj => rfl
          | 1, hj => rfl
          | 2, hj => rfl
          | 3, hj => rfl
          | 4, hj => rw [hDi] at hj; cases hj
          | 5, hj => rw [n5] at hj; cases hj
          | 6, hj => rw [n6] at hj; cases hj
          | 7, hj => rw [n7] at hj; cases hj
          | 8, hj => rfl
          | 9, hj => rw [n9] at hj; cases hj
          | 10, hj => rw [n10] at hj; cases hj
          | _ + 11, hj => rfl)
        ((hR.add 3 (if_neg (by rw [hDi]; simp)) s2).congr
          (fun i => by
            match i with
            | 0 => rfl
            | 1 => rfl
            | 2 => rfl
            | 3 => rfl
            | 4 => (show (if D 8 = true then some (rBlk _ _ (if D 9 = true then _ else _)) else none) = (if D 8 = true then some (rBlk _ _ (if D 9 = true then _ else _)) else none); rw [n9] <;> rfl)
            | q + 5 => exact (if_neg (show ¬ (q + 5 = 3) by omega)).symm))
    refine StepAll.cons (fun D s wx7 hR (hDi : D 5 = false) hd hsh a' hs K hK => ?_) ?_
    · have e26 := hs.at_ 4 26 (u := .tuple #[.agg #[.int .i64 (bookDo x0 ⟨ak, am⟩).order.start, .slice s.2.1.1.1 s.2.1.1.2.1 s.2.1.1.2.2, .slice s.2.1.2.1.1 s.2.1.2.1.2.1 s.2.1.2.1.2.2, .slice s.2.1.2.2.1 s.2.1.2.2.2.1 s.2.1.2.2.2.2, .int .i64 (bookDo x0 ⟨ak, am⟩).state], .bool (bookDid x0 ⟨ak, am⟩)]) rfl (hd ⟨4, .data⟩ (by simp) rfl) (by kernel_rfl) (by kernel_rfl) rfl
      clear hs
      go_simp
      exact hK s wx7 (fun _ _ => rfl) hR
    refine StepAll.cons (fun D s wx7 hR (hDi : D 6 = false) hd hsh a' hs K hK => ?_) ?_
    · have e21 := hs.at_ 5 21 (u := .tuple #[.agg #[.int .i64 (bookDo x0 ⟨ak, am⟩).order.start, .slice s.2.1.1.1 s.2.1.1.2.1 s.2.1.1.2.2, .slice s.2.1.2.1.1 s.2.1.2.1.2.1 s.2.1.2.1.2.2, .slice s.2.1.2.2.1 s.2.1.2.2.2.1 s.2.1.2.2.2.2, .int .i64 (bookDo x0 ⟨ak, am⟩).state], .bool (bookDid x0 ⟨ak, am⟩)]) rfl (hd ⟨5, .data⟩ (by simp) rfl) (by kernel_rfl) (by kernel_rfl) rfl
      clear hs
      go_simp
      exact hK s wx7 (fun _ _ => rfl) hR
    refine StepAll.cons (fun D s wx7 hR (hDi : D 7 = false) hd hsh a' hs K hK => ?_) ?_
    · have e21 := hs.at_ 5 21 (u := .tuple #[.agg #[.int .i64 (bookDo x0 ⟨ak, am⟩).order.start, .slice s.2.1.1.1 s.2.1.1.2.1 s.2.1.1.2.2, .slice s.2.1.2.1.1 s.2.1.2.1.2.1 s.2.1.2.1.2.2, .slice s.2.1.2.2.1 s.2.1.2.2.2.1 s.2.1.2.2.2.2, .int .i64 (bookDo x0 ⟨ak, am⟩).state], .bool (bookDid x0 ⟨ak, am⟩)]) rfl (hd ⟨5, .data⟩ (by simp) rfl) (by kernel_rfl) (by kernel_rfl) rfl
      clear hs
      go_simp
      exact hK s wx7 (fun _ _ => rfl) hR
    refine StepAll.cons (fun D s wx7 hR (hDi : D 8 = false) hd hsh a' hs K hK => ?_) ?_
    · clear hs
      have n9 : D 9 = false := hsh.no hDi 9 rfl ⟨8, .data⟩ (by simp) rfl rfl
      go_simp
      refine hK (s.1, s.2.1, wx7.heap.size) _
        (fun j hj => by
          match j, hj with
          | 0, hj => rfl
          | 1, hj => rfl
          | 2, hj => rfl
          | 3, hj => rfl
          | 4, hj => rfl
          | 5, hj => rfl
          | 6, hj => rfl
          | 7, hj => rfl
          | 8, hj => rw [hDi] at hj; cases hj
          | 9, hj => rfl
          | 10, hj => rfl
          | _ + 11, hj => rfl)
        ((hR.add 4 (if_neg (by rw [hDi]; simp)) (St.new1 wx7 #[.int .i64 0, .slice none 0 0, .slice none 0 0, .slice none 0 0, .int .i64 0] 28)).congr
          (fun i => by
            match i with
            | 0 => rfl
            | 1 => rfl
            | 2 => rfl
            | 3 => rfl
            | 4 => (show some (rBlk _ _ (if D 9 = true then _ else _)) = some (rBlk _ _ _); rw [n9] <;> rfl)
            | q + 5 => exact (if_neg (show ¬ (q + 5 = 4) by omega)).symm))
    refine StepAll.cons (fun D s wx7 hR (hDi : D 9 = false) hd hsh a' hs K hK => ?_) ?_
    · have e6 := hs.at_ 8 6 (u := .pointer (some ⟨s.2.2, 0, none⟩)) rfl (hd ⟨8, .data⟩ (by simp) rfl) (by kernel_rfl) (by kernel_rfl) rfl
      have e27 := hs.at_ 6 27 (u := .agg #[.int .i64 (bookDo x0 ⟨ak, am⟩).order.start, .slice s.2.1.1.1 s.2.1.1.2.1 s.2.1.1.2.2, .slice s.2.1.2.1.1 s.2.1.2.1.2.1 s.2.1.2.1.2.2, .slice s.2.1.2.2.1 s.2.1.2.2.2.1 s.2.1.2.2.2.2, .int .i64 (bookDo x0 ⟨ak, am⟩).state]) rfl (hd ⟨6, .data⟩ (by simp) rfl) (by kernel_rfl) (by kernel_rfl) rfl
      clear hs
      have dA : D 8 = true := hd ⟨8, .data⟩ (by simp) rfl
      have kb : Blk wx7 s.2.2 28 #[.int .i64 0, .slice none 0 0, .slice none 0 0, .slice none 0 0, .int .i64 0] := hR.blk 4 (by simp only [dA, hDi] <;> rfl)
      have f0 := kb.frozen
      have c0 : wx7.cell? ⟨s.2.2, 0, none⟩ = some (.int .i64 0) := kb.cell 0
      have c1 : wx7.cell? ⟨s.2.2, 1, none⟩ = some (.slice none 0 0) := kb.cell 1
      have c2 : wx7.cell? ⟨s.2.2, 2, none⟩ = some (.slice none 0 0) := kb.cell 2
      have c3 : wx7.cell? ⟨s.2.2, 3, none⟩ = some (.slice none 0 0) := kb.cell 3
      have c4 : wx7.cell? ⟨s.2.2, 4, none⟩ = some (.int .i64 0) := kb.cell 4
      go_simp
      exact hK s _ (fun _ _ => rfl) ((hR.set5 4 (by simp only [dA, hDi]; rfl) _ _ _ _ _).congr
          (fun i => by
            match i with
            | 0 => rfl
            | 1 => rfl
            | 2 => rfl
            | 3 => rfl
            | 4 => (show (if D 8 = true then some (rBlk _ _ _) else none) = some (rBlk _ _ _); rw [dA]; rfl)
            | q + 5 => exact (if_neg (show ¬ (q + 5 = 4) by omega)).symm))
    refine StepAll.cons (fun D s wx7 hR (hDi : D 10 = false) hd hsh a' hs K hK => ?_) ?_
    · have e28 := hs.at_ 7 28 (u := .bool (bookDid x0 ⟨ak, am⟩)) rfl (hd ⟨7, .data⟩ (by simp) rfl) (by kernel_rfl) (by kernel_rfl) rfl
      clear hs
      go_simp
      exact hK s wx7 (fun _ _ => rfl) hR
    exact StepAll.nil
  · intro D s wx7 hR hD
    simp only [putA, Act.put, List.setIfInBounds_toArray, List.set_cons_zero, List.set_cons_succ]
    have S7' := hR.to_st [0, 1, 3, 4] (L := [rBlk w.heap.size 43 #[.int .i64 (x0).order.start, .slice Ax0 nx0 cx0, .slice Bx0 mx0 dx0, .slice Cx0 lx0 fx0, .int .i64 (x0).state], rBlk (w.heap.size + 1) 45 #[.int .i64 ak, .int .i64 am], rBook (.agg #[.int .i64 (bookDo x0 ⟨ak, am⟩).order.start, .slice s.2.1.1.1 s.2.1.1.2.1 s.2.1.1.2.2, .slice s.2.1.2.1.1 s.2.1.2.1.2.1 s.2.1.2.1.2.2, .slice s.2.1.2.2.1 s.2.1.2.2.2.1 s.2.1.2.2.2.2, .int .i64 (bookDo x0 ⟨ak, am⟩).state]) (bookDo x0 ⟨ak, am⟩), rBlk s.2.2 28 #[.int .i64 (bookDo x0 ⟨ak, am⟩).order.start, .slice s.2.1.1.1 s.2.1.1.2.1 s.2.1.1.2.2, .slice s.2.1.2.1.1 s.2.1.2.1.2.1 s.2.1.2.1.2.2, .slice s.2.1.2.2.1 s.2.1.2.2.2.1 s.2.1.2.2.2.2, .int .i64 (bookDo x0 ⟨ak, am⟩).state]]) (by decide) (by simp only [List.map, hD 4 (by decide), hD 8 (by decide), hD 9 (by decide)] <;> rfl)
    obtain ⟨_, ⟨⟨A7, n7, c7⟩, ⟨B7, m7, d7⟩, ⟨C7, l7, f7⟩⟩, g7⟩ := s
    have S7 : St w wx7 [rBlk w.heap.size 43 #[.int .i64 (x0).order.start, .slice Ax0 nx0 cx0, .slice Bx0 mx0 dx0, .slice Cx0 lx0 fx0, .int .i64 (x0).state], rBlk (w.heap.size + 1) 45 #[.int .i64 ak, .int .i64 am], rBook (.agg #[.int .i64 ((bookDo x0 ⟨ak, am⟩)).order.start, .slice A7 n7 c7, .slice B7 m7 d7, .slice C7 l7 f7, .int .i64 ((bookDo x0 ⟨ak, am⟩)).state]) (bookDo x0 ⟨ak, am⟩), rBlk g7 28 #[.int .i64 ((bookDo x0 ⟨ak, am⟩)).order.start, .slice A7 n7 c7, .slice B7 m7 d7, .slice C7 l7 f7, .int .i64 ((bookDo x0 ⟨ak, am⟩)).state]] := S7'
    clear hR hD S7'
    clear q5 q6
    have q8 : ∀ j, wx7.cell? ⟨w.heap.size, j, none⟩ = _ := S7.cells 0 rfl
    have q9 : ∀ j, wx7.cell? ⟨(w.heap.size + 1), j, none⟩ = _ := S7.cells 1 rfl
    have q10 : ∀ j, wx7.cell? ⟨g7, j, none⟩ = _ := S7.cells 3 rfl
    go_wp2_with fail
    refine (toBook_st _ x0 _ (HR0.out.up S7.below)).mono ?_
    rintro e w111 ⟨v11, rfl, s11⟩
    obtain ⟨A11, n11, c11, B11, m11, d11, C11, l11, f11, hv⟩ := s11.formB 0 rfl
    subst hv
    have S11 : St w w111 [rBlk w.heap.size 43 #[.int .i64 (x0).order.start, .slice Ax0 nx0 cx0, .slice Bx0 mx0 dx0, .slice Cx0 lx0 fx0, .int .i64 (x0).state], rBlk (w.heap.size + 1) 45 #[.int .i64 ak, .int .i64 am], rBook (.agg #[.int .i64 ((bookDo x0 ⟨ak, am⟩)).order.start, .slice A7 n7 c7, .slice B7 m7 d7, .slice C7 l7 f7, .int .i64 ((bookDo x0 ⟨ak, am⟩)).state]) (bookDo x0 ⟨ak, am⟩), rBlk g7 28 #[.int .i64 ((bookDo x0 ⟨ak, am⟩)).order.start, .slice A7 n7 c7, .slice B7 m7 d7, .slice C7 l7 f7, .int .i64 ((bookDo x0 ⟨ak, am⟩)).state], rBook (.agg #[.int .i64 (x0).order.start, .slice A11 n11 c11, .slice B11 m11 d11, .slice C11 l11 f11, .int .i64 (x0).state]) x0] := S7.call s11
    have S12a : St w (w111.alloc (Obj.cells #[.int .i64 (x0).order.start, .slice A11 n11 c11, .slice B11 m11 d11, .slice C11 l11 f11, .int .i64 (x0).state] 28)) [rBlk w.heap.size 43 #[.int .i64 (x0).order.start, .slice Ax0 nx0 cx0, .slice Bx0 mx0 dx0, .slice Cx0 lx0 fx0, .int .i64 (x0).state], rBlk (w.heap.size + 1) 45 #[.int .i64 ak, .int .i64 am], rBook (.agg #[.int .i64 ((bookDo x0 ⟨ak, am⟩)).order.start, .slice A7 n7 c7, .slice B7 m7 d7, .slice C7 l7 f7, .int .i64 ((bookDo x0 ⟨ak, am⟩)).state]) (bookDo x0 ⟨ak, am⟩), rBlk g7 28 #[.int .i64 ((bookDo x0 ⟨ak, am⟩)).order.start, .slice A7 n7 c7, .slice B7 m7 d7, .slice C7 l7 f7, .int .i64 ((bookDo x0 ⟨ak, am⟩)).state], rBook (.agg #[.int .i64 (x0).order.start, .slice A11 n11 c11, .slice B11 m11 d11, .slice C11 l11 f11, .int .i64 (x0).state]) x0, rBlk w111.heap.size 28 #[.int .i64 (x0).order.start, .slice A11 n11 c11, .slice B11 m11 d11, .slice C11 l11 f11, .int .i64 (x0).state]] := (S11.alloc #[.int .i64 (x0).order.start, .slice A11 n11 c11, .slice B11 m11 d11, .slice C11 l11 f11, .int .i64 (x0).state] 28)
    clear q8 q9 q10
    have q13 : ∀ j, (w111.alloc (Obj.cells #[.int .i64 (x0).order.start, .slice A11 n11 c11, .slice B11 m11 d11, .slice C11 l11 f11, .int .i64 (x0).state] 28)).cell? ⟨w.heap.size, j, none⟩ = _ := S12a.cells 0 rfl
    have q14 : ∀ j, (w111.alloc (Obj.cells #[.int .i64 (x0).order.start, .slice A11 n11 c11, .slice B11 m11 d11, .slice C11 l11 f11, .int .i64 (x0).state] 28)).cell? ⟨(w.heap.size + 1), j, none⟩ = _ := S12a.cells 1 rfl
    have q15 : ∀ j, (w111.alloc (Obj.cells #[.int .i64 (x0).order.start, .slice A11 n11 c11, .slice B11 m11 d11, .slice C11 l11 f11, .int .i64 (x0).state] 28)).cell? ⟨g7, j, none⟩ = _ := S12a.cells 3 rfl
    have q16 : ∀ j, (w111.alloc (Obj.cells #[.int .i64 (x0).order.start, .slice A11 n11 c11, .slice B11 m11 d11, .slice C11 l11 f11, .int .i64 (x0).state] 28)).cell? ⟨w111.heap.size, j, none⟩ = _ := S12a.cells 5 rfl
    go_upto_region 7 with (fail)
    refine wp_reg (σ := ((Option Addr × Nat × Nat) × (Option Addr × Nat × Nat) × (Option Addr × Nat × Nat)) × ((Option Addr × Nat × Nat) × (Option Addr × Nat × Nat) × (Option Addr × Nat × Nat)) × Nat) (by kernel_rfl) (by kernel_rfl) (by kernel_rfl)
      (fun s i => match i with
        | 0 => .agg #[.int .i64 (x0).order.start, .slice A11 n11 c11, .slice B11 m11 d11, .slice C11 l11 f11, .int .i64 (x0).state]
        | 1 => .agg #[.int .i64 ak, .int .i64 am]
        | 2 => .agg #[.int .i64 ak, .int .i64 am]
        | 3 => .tuple #[.agg #[.int .i64 (bookDo x0 ⟨ak, am⟩).order.start, .slice s.2.1.1.1 s.2.1.1.2.1 s.2.1.1.2.2, .slice s.2.1.2.1.1 s.2.1.2.1.2.1 s.2.1.2.1.2.2, .slice s.2.1.2.2.1 s.2.1.2.2.2.1 s.2.1.2.2.2.2, .int .i64 (bookDo x0 ⟨ak, am⟩).state], .bool (bookDid x0 ⟨ak, am⟩)]
        | 4 => .tuple #[.agg #[.int .i64 (bookDo x0 ⟨ak, am⟩).order.start, .slice s.2.1.1.1 s.2.1.1.2.1 s.2.1.1.2.2, .slice s.2.1.2.1.1 s.2.1.2.1.2.1 s.2.1.2.1.2.2, .slice s.2.1.2.2.1 s.2.1.2.2.2.1 s.2.1.2.2.2.2, .int .i64 (bookDo x0 ⟨ak, am⟩).state], .bool (bookDid x0 ⟨ak, am⟩)]
        | 5 => .agg #[.int .i64 (bookDo x0 ⟨ak, am⟩).order.start, .slice s.2.1.1.1 s.2.1.1.2.1 s.2.1.1.2.2, .slice s.2.1.2.1.1 s.2.1.2.1.2.1 s.2.1.2.1.2.2, .slice s.2.1.2.2.1 s.2.1.2.2.2.1 s.2.1.2.2.2.2, .int .i64 (bookDo x0 ⟨ak, am⟩).state]
        | 6 => .bool (bookDid x0 ⟨ak, am⟩)
        | 7 => .pointer (some ⟨s.2.2, 0, none⟩)
        | 9 => .bool (bookDid x0 ⟨ak, am⟩)
        | _ => undef)
      (fun D s wx17 => Sn w wx17 fun i => match i with
        | 0 => some (rBlk w.heap.size 43 #[.int .i64 (x0).order.start, .slice Ax0 nx0 cx0, .slice Bx0 mx0 dx0, .slice Cx0 lx0 fx0, .int .i64 (x0).state])
        | 1 => some (rBlk (w.heap.size + 1) 45 #[.int .i64 ak, .int .i64 am])
        | 2 => some (rBook (.agg #[.int .i64 ((bookDo x0 ⟨ak, am⟩)).order.start, .slice A7 n7 c7, .slice B7 m7 d7, .slice C7 l7 f7, .int .i64 ((bookDo x0 ⟨ak, am⟩)).state]) (bookDo x0 ⟨ak, am⟩))
        | 3 => some (rBlk g7 28 #[.int .i64 ((bookDo x0 ⟨ak, am⟩)).order.start, .slice A7 n7 c7, .slice B7 m7 d7, .slice C7 l7 f7, .int .i64 ((bookDo x0 ⟨ak, am⟩)).state])
        | 4 => some (rBook (.agg #[.int .i64 (x0).order.start, .slice A11 n11 c11, .slice B11 m11 d11, .slice C11 l11 f11, .int .i64 (x0).state]) x0)
        | 5 => some (rBlk w111.heap.size 28 #[.int .i64 (x0).order.start, .slice A11 n11 c11, .slice B11 m11 d11, .slice C11 l11 f11, .int .i64 (x0).state])
        | 6 => none
        | 7 => if D 3 = true then some (rBook (.agg #[.int .i64 (bookDo x0 ⟨ak, am⟩).order.start, .slice s.2.1.1.1 s.2.1.1.2.1 s.2.1.1.2.2, .slice s.2.1.2.1.1 s.2.1.2.1.2.1 s.2.1.2.1.2.2, .slice s.2.1.2.2.1 s.2.1.2.2.2.1 s.2.1.2.2.2.2, .int .i64 (bookDo x0 ⟨ak, am⟩).state]) (bookDo x0 ⟨ak, am⟩)) else none
        | 8 => if D 7 = true then some (rBlk s.2.2 28 (if D 8 = true then #[.int .i64 (bookDo x0 ⟨ak, am⟩).order.start, .slice s.2.1.1.1 s.2.1.1.2.1 s.2.1.1.2.2, .slice s.2.1.2.1.1 s.2.1.2.1.2.1 s.2.1.2.1.2.2, .slice s.2.1.2.2.1 s.2.1.2.2.2.1 s.2.1.2.2.2.2, .int .i64 (bookDo x0 ⟨ak, am⟩).state] else #[.int .i64 0, .slice none 0 0, .slice none 0 0, .slice none 0 0, .int .i64 0])) else none
        | _ => none)
      (((none, 0, 0), (none, 0, 0), (none, 0, 0)), ((none, 0, 0), (none, 0, 0), (none, 0, 0)), 0) ?_ ?_ ?_
    · intro D hD
      refine ((Sn.of_st S12a).quiet ((Below.refl _ _).drew)).congr fun i => ?_
      match i with
      | 0 => rfl
      | 1 => rfl
      | 2 => rfl
      | 3 => rfl
      | 4 => rfl
      | 5 => rfl
      | 6 => rfl
      | 7 => simp only [hD 3 (by decide)]; rfl
      | 8 => simp only [hD 7 (by decide)]; rfl
      | q + 9 => rfl
    · refine StepAll.cons (fun D s wx17 hR (hDi : D 0 = false) hd hsh a' hs K hK => ?_) ?_
      · have e8 := hs.old 8 (u := .pointer (some ⟨w111.heap.size, 0, none⟩)) (by kernel_rfl) rfl
        clear hs
        have kb : Blk wx17 (w111.heap.size) 28 #[.int .i64 (x0).order.start, .slice A11 n11 c11, .slice B11 m11 d11, .slice C11 l11 f11, .int .i64 (x0).state] := hR.blk 5 rfl
        have c0 : wx17.cell? ⟨w111.heap.size, 0, none⟩ = some (.int .i64 (x0).order.start) := kb.cell 0
        have c1 : wx17.cell? ⟨w111.heap.size, 1, none⟩ = some (.slice A11 n11 c11) := kb.cell 1
        have c2 : wx17.cell? ⟨w111.heap.size, 2, none⟩ = some (.slice B11 m11 d11) := kb.cell 2
        have c3 : wx17.cell? ⟨w111.heap.size, 3, none⟩ = some (.slice C11 l11 f11) := kb.cell 3
        have c4 : wx17.cell? ⟨w111.heap.size, 4, none⟩ = some (.int .i64 (x0).state) := kb.cell 4
        go_simp
        exact hK s wx17 (fun _ _ => rfl) hR
      refine StepAll.cons (fun D s wx17 hR (hDi : D 1 = false) hd hsh a' hs K hK => ?_) ?_
      · have e3 := hs.old 3 (u := .pointer (some ⟨(w.heap.size + 1), 0, none⟩)) (by kernel_rfl) rfl
        clear hs
        have kb : Blk wx17 ((w.heap.size + 1)) 45 #[.int .i64 ak, .int .i64 am] := hR.blk 1 rfl
        have c0 : wx17.cell? ⟨(w.heap.size + 1), 0, none⟩ = some (.int .i64 ak) := kb.cell 0
        have c1 : wx17.cell? ⟨(w.heap.size + 1), 1, none⟩ = some (.int .i64 am) := kb.cell 1
        go_simp
        exact hK s wx17 (fun _ _ => rfl) hR
      refine StepAll.cons (fun D s wx17 hR (hDi : D 2 = false) hd hsh a' hs K hK => ?_) ?_
      · have e33 := hs.at_ 1 33 (u := .agg #[.int .i64 ak, .int .i64 am]) rfl (hd ⟨1, .data⟩ (by simp) rfl) (by kernel_rfl) (by kernel_rfl) rfl
        have g33 := getQ e33
        clear hs
        go_simp
        refine (toAct_any ak am _).mono ?_
        rintro e2 w2 ⟨rfl, hb2⟩
        exact hK s w2 (fun _ _ => rfl) (hR.quiet hb2)
      refine StepAll.cons (fun D s wx17 hR (hDi : D 3 = false) hd hsh a' hs K hK => ?_) ?_
      · have e32 := hs.at_ 0 32 (u := .agg #[.int .i64 (x0).order.start, .slice A11 n11 c11, .slice B11 m11 d11, .slice C11 l11 f11, .int .i64 (x0).state]) rfl (hd ⟨0, .data⟩ (by simp) rfl) (by kernel_rfl) (by kernel_rfl) rfl
        have e34 := hs.at_ 2 34 (u := .agg #[.int .i64 ak, .int .i64 am]) rfl (hd ⟨2, .data⟩ (by simp) rfl) (by kernel_rfl) (by kernel_rfl) rfl
        have g32 := getQ e32
        have g34 := getQ e34
        clear hs
        have n4 : D 4 = false := hsh.no hDi 4 rfl ⟨3, .data⟩ (by simp) rfl rfl
        have n5 : D 5 = false := hsh.no n4 5 rfl ⟨4, .data⟩ (by simp) rfl rfl
        have n6 : D 6 = false := hsh.no n4 6 rfl ⟨4, .data⟩ (by simp) rfl rfl
        have n8 : D 8 = false := hsh.no n5 8 rfl ⟨5, .data⟩ (by simp) rfl rfl
        have n9 : D 9 = false := hsh.no n6 9 rfl ⟨6, .data⟩ (by simp) rfl rfl
        go_simp
        refine (bookDo_impl _ x0 ak am _ (hR.rdB 4 rfl) h1).mono ?_
        rintro e2 w2 ⟨v2, rfl, s2⟩
        obtain ⟨A1, n1, c1, A2, n2, c2, A3, n3, c3, hv⟩ := s2.formB 0 rfl
        subst hv
        refine hK (s.1, ((A1, n1, c1), (A2, n2, c2), (A3, n3, c3)), s.2.2) w2
          (fun j hj => by
            match j, hj with
            | 0, hj => rfl
            | 1, hj => rfl
            | 2, hj => rfl
            | 3, hj => rw [hDi] at hj; cases hj
            | 4, hj => rw [n4] at hj; cases hj
            | 5, hj => rw [n5] at hj; cases hj
            | 6, hj => rw [n6] at hj; cases hj
            | 7, hj => rfl
            | 8, hj => rw [n8] at hj; cases hj
            | 9, hj => rw [n9] at hj; cases hj
            | _ + 10, hj => rfl)
          ((hR.add 7 (if_neg (by rw [hDi]; simp)) s2).congr
            (fun i => by
              match i with
              | 0 => rfl
              | 1 => rfl
              | 2 => rfl
              | 3 => rfl
              | 4 => rfl
              | 5 => rfl
              | 6 => rfl
              | 7 => rfl
              | 8 => (show (if D 7 = true then some (rBlk _ _ (if D 8 = true then _ else _)) else none) = (if D 7 = true then some (rBlk _ _ (if D 8 = true then _ else _)) else none); rw [n8] <;> rfl)
              | q + 9 => exact (if_neg (show ¬ (q + 9 = 7) by omega)).symm))
      refine StepAll.cons (fun D s wx17 hR (hDi : D 4 = false) hd hsh a' hs K hK => ?_) ?_
      · have e35 := hs.at_ 3 35 (u := .tuple #[.agg #[.int .i64 (bookDo x0 ⟨ak, am⟩).order.start, .slice s.2.1.1.1 s.2.1.1.2.1 s.2.1.1.2.2, .slice s.2.1.2.1.1 s.2.1.2.1.2.1 s.2.1.2.1.2.2, .slice s.2.1.2.2.1 s.2.1.2.2.2.1 s.2.1.2.2.2.2, .int .i64 (bookDo x0 ⟨ak, am⟩).state], .bool (bookDid x0 ⟨ak, am⟩)]) rfl (hd ⟨3, .data⟩ (by simp) rfl) (by kernel_rfl) (by kernel_rfl) rfl
        clear hs
        go_simp
        exact hK s wx17 (fun _ _ => rfl) hR
      refine StepAll.cons (fun D s wx17 hR (hDi : D 5 = false) hd hsh a' hs K hK => ?_) ?_
      · have e31 := hs.at_ 4 31 (u := .tuple #[.agg #[.int .i64 (bookDo x0 ⟨ak, am⟩).order.start, .slice s.2.1.1.1 s.2.1.1.2.1 s.2.1.1.2.2, .slice s.2.1.2.1.1 s.2.1.2.1.2.1 s.2.1.2.1.2.2, .slice s.2.1.2.2.1 s.2.1.2.2.2.1 s.2.1.2.2.2.2, .int .i64 (bookDo x0 ⟨ak, am⟩).state], .bool (bookDid x0 ⟨ak, am⟩)]) rfl (hd ⟨4, .data⟩ (by simp) rfl) (by kernel_rfl) (by kernel_rfl) rfl
        clear hs
        go_simp
        exact hK s wx17 (fun _ _ => rfl) hR
      refine StepAll.cons (fun D s wx17 hR (hDi : D 6 = false) hd hsh a' hs K hK => ?_) ?_
      · have e31 := hs.at_ 4 31 (u := .tuple #[.agg #[.int .i64 (bookDo x0 ⟨ak, am⟩).order.start, .slice s.2.1.1.1 s.2.1.1.2.1 s.2.1.1.2.2, .slice s.2.1.2.1.1 s.2.1.2.1.2.1 s.2.1.2.1.2.2, .slice s.2.1.2.2.1 s.2.1.2.2.2.1 s.2.1.2.2.2.2, .int .i64 (bookDo x0 ⟨ak, am⟩).state], .bool (bookDid x0 ⟨ak, am⟩)]) rfl (hd ⟨4, .data⟩ (by simp) rfl) (by kernel_rfl) (by kernel_rfl) rfl
        clear hs
        go_simp
        exact hK s wx17 (fun _ _ => rfl) hR
      refine StepAll.cons (fun D s wx17 hR (hDi : D 7 = false) hd hsh a' hs K hK => ?_) ?_
      · clear hs
        have n8 : D 8 = false := hsh.no hDi 8 rfl ⟨7, .data⟩ (by simp) rfl rfl
        go_simp
        refine hK (s.1, s.2.1, wx17.heap.size) _
          (fun j hj => by
            match j, hj with
            | 0, hj => rfl
            | 1, hj => rfl
            | 2, hj => rfl
            | 3, hj => rfl
            | 4, hj => rfl
            | 5, hj => rfl
            | 6, hj => rfl
            | 7, hj => rw [hDi] at hj; cases hj
            | 8, hj => rfl
            | 9, hj => rfl
            | _ + 10, hj => rfl)
          ((hR.add 8 (if_neg (by rw [hDi]; simp)) (St.new1 wx17 #[.int .i64 0, .slice none 0 0, .slice none 0 0, .slice none 0 0, .int .i64 0] 28)).congr
            (fun i => by
              match i with
              | 0 => rfl
              | 1 => rfl
              | 2 => rfl
              | 3 => rfl
              | 4 => rfl
              | 5 => rfl
              | 6 => rfl
              | 7 => rfl
              | 8 => (show some (rBlk _ _ (if D 8 = true then _ else _)) = some (rBlk _ _ _); rw [n8] <;> rfl)
              | q + 9 => exact (if_neg (show ¬ (q + 9 = 8) by omega)).symm))
      refine StepAll.cons (fun D s wx17 hR (hDi : D 8 = false) hd hsh a' hs K hK => ?_) ?_
      · have e9 := hs.at_ 7 9 (u := .pointer (some ⟨s.2.2, 0, none⟩)) rfl (hd ⟨7, .data⟩ (by simp) rfl) (by kernel_rfl) (by kernel_rfl) rfl
        have e36 := hs.at_ 5 36 (u := .agg #[.int .i64 (bookDo x0 ⟨ak, am⟩).order.start, .slice s.2.1.1.1 s.2.1.1.2.1 s.2.1.1.2.2, .slice s.2.1.2.1.1 s.2.1.2.1.2.1 s.2.1.2.1.2.2, .slice s.2.1.2.2.1 s.2.1.2.2.2.1 s.2.1.2.2.2.2, .int .i64 (bookDo x0 ⟨ak, am⟩).state]) rfl (hd ⟨5, .data⟩ (by simp) rfl) (by kernel_rfl) (by kernel_rfl) rfl
        clear hs
        have dA : D 7 = true := hd ⟨7, .data⟩ (by simp) rfl
        have kb : Blk wx17 s.2.2 28 #[.int .i64 0, .slice none 0 0, .slice none 0 0, .slice none 0 0, .int .i64 0] := hR.blk 8 (by simp only [dA, hDi] <;> rfl)
        have f0 := kb.frozen
        have c0 : wx17.cell? ⟨s.2.2, 0, none⟩ = some (.int .i64 0) := kb.cell 0
        have c1 : wx17.cell? ⟨s.2.2, 1, none⟩ = some (.slice none 0 0) := kb.cell 1
        have c2 : wx17.cell? ⟨s.2.2, 2, none⟩ = some (.slice none 0 0) := kb.cell 2
        have c3 : wx17.cell? ⟨s.2.2, 3, none⟩ = some (.slice none 0 0) := kb.cell 3
        have c4 : wx17.cell? ⟨s.2.2, 4, none⟩ = some (.int .i64 0) := kb.cell 4
        go_simp
        exact hK s _ (fun _ _ => rfl) ((hR.set5 8 (by simp only [dA, hDi]; rfl) _ _ _ _ _).congr
            (fun i => by
              match i with
              | 0 => rfl
              | 1 => rfl
              | 2 => rfl
              | 3 => rfl
              | 4 => rfl
              | 5 => rfl
              | 6 => rfl
              | 7 => rfl
              | 8 => (show (if D 7 = true then some (rBlk _ _ _) else none) = some (rBlk _ _ _); rw [dA]; rfl)
              | q + 9 => exact (if_neg (show ¬ (q + 9 = 8) by omega)).symm))
      refine StepAll.cons (fun D s wx17 hR (hDi : D 9 = false) hd hsh a' hs K hK => ?_) ?_
      · have e37 := hs.at_ 6 37 (u := .bool (bookDid x0 ⟨ak, am⟩)) rfl (hd ⟨6, .data⟩ (by simp) rfl) (by kernel_rfl) (by kernel_rfl) rfl
        clear hs
        go_simp
        exact hK s wx17 (fun _ _ => rfl) hR
      exact StepAll.nil
    · intro D s wx17 hR hD
      simp only [putA, Act.put, List.setIfInBounds_toArray, List.set_cons_zero, List.set_cons_succ]
      have S17' := hR.to_st [0, 1, 2, 3, 4, 5, 7, 8] (L := [rBlk w.heap.size 43 #[.int .i64 (x0).order.start, .slice Ax0 nx0 cx0, .slice Bx0 mx0 dx0, .slice Cx0 lx0 fx0, .int .i64 (x0).state], rBlk (w.heap.size + 1) 45 #[.int .i64 ak, .int .i64 am], rBook (.agg #[.int .i64 ((bookDo x0 ⟨ak, am⟩)).order.start, .slice A7 n7 c7, .slice B7 m7 d7, .slice C7 l7 f7, .int .i64 ((bookDo x0 ⟨ak, am⟩)).state]) (bookDo x0 ⟨ak, am⟩), rBlk g7 28 #[.int .i64 ((bookDo x0 ⟨ak, am⟩)).order.start, .slice A7 n7 c7, .slice B7 m7 d7, .slice C7 l7 f7, .int .i64 ((bookDo x0 ⟨ak, am⟩)).state], rBook (.agg #[.int .i64 (x0).order.start, .slice A11 n11 c11, .slice B11 m11 d11, .slice C11 l11 f11, .int .i64 (x0).state]) x0, rBlk w111.heap.size 28 #[.int .i64 (x0).order.start, .slice A11 n11 c11, .slice B11 m11 d11, .slice C11 l11 f11, .int .i64 (x0).state], rBook (.agg #[.int .i64 (bookDo x0 ⟨ak, am⟩).order.start, .slice s.2.1.1.1 s.2.1.1.2.1 s.2.1.1.2.2, .slice s.2.1.2.1.1 s.2.1.2.1.2.1 s.2.1.2.1.2.2, .slice s.2.1.2.2.1 s.2.1.2.2.2.1 s.2.1.2.2.2.2, .int .i64 (bookDo x0 ⟨ak, am⟩).state]) (bookDo x0 ⟨ak, am⟩), rBlk s.2.2 28 #[.int .i64 (bookDo x0 ⟨ak, am⟩).order.start, .slice s.2.1.1.1 s.2.1.1.2.1 s.2.1.1.2.2, .slice s.2.1.2.1.1 s.2.1.2.1.2.1 s.2.1.2.1.2.2, .slice s.2.1.2.2.1 s.2.1.2.2.2.1 s.2.1.2.2.2.2, .int .i64 (bookDo x0 ⟨ak, am⟩).state]]) (by decide) (by simp only [List.map, hD 3 (by decide), hD 7 (by decide), hD 8 (by decide)] <;> rfl)
      obtain ⟨_, ⟨⟨A17, n17, c17⟩, ⟨B17, m17, d17⟩, ⟨C17, l17, f17⟩⟩, g17⟩ := s
      have S17 : St w wx17 [rBlk w.heap.size 43 #[.int .i64 (x0).order.start, .slice Ax0 nx0 cx0, .slice Bx0 mx0 dx0, .slice Cx0 lx0 fx0, .int .i64 (x0).state], rBlk (w.heap.size + 1) 45 #[.int .i64 ak, .int .i64 am], rBook (.agg #[.int .i64 ((bookDo x0 ⟨ak, am⟩)).order.start, .slice A7 n7 c7, .slice B7 m7 d7, .slice C7 l7 f7, .int .i64 ((bookDo x0 ⟨ak, am⟩)).state]) (bookDo x0 ⟨ak, am⟩), rBlk g7 28 #[.int .i64 ((bookDo x0 ⟨ak, am⟩)).order.start, .slice A7 n7 c7, .slice B7 m7 d7, .slice C7 l7 f7, .int .i64 ((bookDo x0 ⟨ak, am⟩)).state], rBook (.agg #[.int .i64 (x0).order.start, .slice A11 n11 c11, .slice B11 m11 d11, .slice C11 l11 f11, .int .i64 (x0).state]) x0, rBlk w111.heap.size 28 #[.int .i64 (x0).order.start, .slice A11 n11 c11, .slice B11 m11 d11, .slice C11 l11 f11, .int .i64 (x0).state], rBook (.agg #[.int .i64 ((bookDo x0 ⟨ak, am⟩)).order.start, .slice A17 n17 c17, .slice B17 m17 d17, .slice C17 l17 f17, .int .i64 ((bookDo x0 ⟨ak, am⟩)).state]) (bookDo x0 ⟨ak, am⟩), rBlk g17 28 #[.int .i64 ((bookDo x0 ⟨ak, am⟩)).order.start, .slice A17 n17 c17, .slice B17 m17 d17, .slice C17 l17 f17, .int .i64 ((bookDo x0 ⟨ak, am⟩)).state]] := S17'
      clear hR hD S17'
      clear q13 q14 q15 q16
      have q18 : ∀ j, wx17.cell? ⟨w.heap.size, j, none⟩ = _ := S17.cells 0 rfl
      have q19 : ∀ j, wx17.cell? ⟨(w.heap.size + 1), j, none⟩ = _ := S17.cells 1 rfl
      have q20 : ∀ j, wx17.cell? ⟨g7, j, none⟩ = _ := S17.cells 3 rfl
      have q21 : ∀ j, wx17.cell? ⟨w111.heap.size, j, none⟩ = _ := S17.cells 5 rfl
      have q22 : ∀ j, wx17.cell? ⟨g17, j, none⟩ = _ := S17.cells 7 rfl
      go_wp2_with fail
      refine (eqBook_same _ (bookDo x0 ⟨ak, am⟩) _ _ (S17.rdB 6 rfl) (S17.rdB 2 rfl)).mono ?_
      rintro e w123 ⟨rfl, hb23⟩
      have S23 : St w w123 [rBlk w.heap.size 43 #[.int .i64 (x0).order.start, .slice Ax0 nx0 cx0, .slice Bx0 mx0 dx0, .slice Cx0 lx0 fx0, .int .i64 (x0).state], rBlk (w.heap.size + 1) 45 #[.int .i64 ak, .int .i64 am], rBook (.agg #[.int .i64 ((bookDo x0 ⟨ak, am⟩)).order.start, .slice A7 n7 c7, .slice B7 m7 d7, .slice C7 l7 f7, .int .i64 ((bookDo x0 ⟨ak, am⟩)).state]) (bookDo x0 ⟨ak, am⟩), rBlk g7 28 #[.int .i64 ((bookDo x0 ⟨ak, am⟩)).order.start, .slice A7 n7 c7, .slice B7 m7 d7, .slice C7 l7 f7, .int .i64 ((bookDo x0 ⟨ak, am⟩)).state], rBook (.agg #[.int .i64 (x0).order.start, .slice A11 n11 c11, .slice B11 m11 d11, .slice C11 l11 f11, .int .i64 (x0).state]) x0, rBlk w111.heap.size 28 #[.int .i64 (x0).order.start, .slice A11 n11 c11, .slice B11 m11 d11, .slice C11 l11 f11, .int .i64 (x0).state], rBook (.agg #[.int .i64 ((bookDo x0 ⟨ak, am⟩)).order.start, .slice A17 n17 c17, .slice B17 m17 d17, .slice C17 l17 f17, .int .i64 ((bookDo x0 ⟨ak, am⟩)).state]) (bookDo x0 ⟨ak, am⟩), rBlk g17 28 #[.int .i64 ((bookDo x0 ⟨ak, am⟩)).order.start, .slice A17 n17 c17, .slice B17 m17 d17, .slice C17 l17 f17, .int .i64 ((bookDo x0 ⟨ak, am⟩)).state]] := S17.quiet hb23
      clear q18 q19 q20 q21 q22
      have q24 : ∀ j, w123.cell? ⟨w.heap.size, j, none⟩ = _ := S23.cells 0 rfl
      have q25 : ∀ j, w123.cell? ⟨(w.heap.size + 1), j, none⟩ = _ := S23.cells 1 rfl
      have q26 : ∀ j, w123.cell? ⟨g7, j, none⟩ = _ := S23.cells 3 rfl
      have q27 : ∀ j, w123.cell? ⟨w111.heap.size, j, none⟩ = _ := S23.cells 5 rfl
      have q28 : ∀ j, w123.cell? ⟨g17, j, none⟩ = _ := S23.cells 7 rfl
      go_upto_region 10 with (fail)
      refine wp_reg (σ := Value) (by kernel_rfl) (by kernel_rfl) (by kernel_rfl)
        (fun s i => match i with
          | 0 => .agg #[.int .i64 (x0).order.start, .slice A11 n11 c11, .slice B11 m11 d11, .slice C11 l11 f11, .int .i64 (x0).state]
          | 1 => .agg #[.int .i64 (x0).order.start, .slice Ax0 nx0 cx0, .slice Bx0 mx0 dx0, .slice Cx0 lx0 fx0, .int .i64 (x0).state]
          | 2 => s
          | 3 => .bool true
          | 4 => .bool false
          | _ => undef)
        (fun D s wx29 => Sn w wx29 fun i => match i with
          | 0 => some (rBlk w.heap.size 43 #[.int .i64 (x0).order.start, .slice Ax0 nx0 cx0, .slice Bx0 mx0 dx0, .slice Cx0 lx0 fx0, .int .i64 (x0).state])
          | 1 => some (rBlk (w.heap.size + 1) 45 #[.int .i64 ak, .int .i64 am])
          | 2 => some (rBook (.agg #[.int .i64 ((bookDo x0 ⟨ak, am⟩)).order.start, .slice A7 n7 c7, .slice B7 m7 d7, .slice C7 l7 f7, .int .i64 ((bookDo x0 ⟨ak, am⟩)).state]) (bookDo x0 ⟨ak, am⟩))
          | 3 => some (rBlk g7 28 #[.int .i64 ((bookDo x0 ⟨ak, am⟩)).order.start, .slice A7 n7 c7, .slice B7 m7 d7, .slice C7 l7 f7, .int .i64 ((bookDo x0 ⟨ak, am⟩)).state])
          | 4 => some (rBook (.agg #[.int .i64 (x0).order.start, .slice A11 n11 c11, .slice B11 m11 d11, .slice C11 l11 f11, .int .i64 (x0).state]) x0)
          | 5 => some (rBlk w111.heap.size 28 #[.int .i64 (x0).order.start, .slice A11 n11 c11, .slice B11 m11 d11, .slice C11 l11 f11, .int .i64 (x0).state])
          | 6 => some (rBook (.agg #[.int .i64 ((bookDo x0 ⟨ak, am⟩)).order.start, .slice A17 n17 c17, .slice B17 m17 d17, .slice C17 l17 f17, .int .i64 ((bookDo x0 ⟨ak, am⟩)).state]) (bookDo x0 ⟨ak, am⟩))
          | 7 => some (rBlk g17 28 #[.int .i64 ((bookDo x0 ⟨ak, am⟩)).order.start, .slice A17 n17 c17, .slice B17 m17 d17, .slice C17 l17 f17, .int .i64 ((bookDo x0 ⟨ak, am⟩)).state])
          | 8 => if D 2 = true then some (rBook s x0) else none
          | _ => none)
        undef ?_ ?_ ?_
      · intro D hD
        refine ((Sn.of_st S23).quiet ((Below.refl _ _).drew)).congr fun i => ?_
        match i with
        | 0 => rfl
        | 1 => rfl
        | 2 => rfl
        | 3 => rfl
        | 4 => rfl
        | 5 => rfl
        | 6 => rfl
        | 7 => rfl
        | 8 => exact if_neg (by rw [hD 2 (by decide)]; simp)
        | q + 9 => rfl
      · refine StepAll.cons (fun D s wx29 hR (hDi : D 0 = false) hd hsh a' hs K hK => ?_) ?_
        · have e8 := hs.old 8 (u := .pointer (some ⟨w111.heap.size, 0, none⟩)) (by kernel_rfl) rfl
          clear hs
          have kb : Blk wx29 (w111.heap.size) 28 #[.int .i64 (x0).order.start, .slice A11 n11 c11, .slice B11 m11 d11, .slice C11 l11 f11, .int .i64 (x0).state] := hR.blk 5 rfl
          have c0 : wx29.cell? ⟨w111.heap.size, 0, none⟩ = some (.int .i64 (x0).order.start) := kb.cell 0
          have c1 : wx29.cell? ⟨w111.heap.size, 1, none⟩ = some (.slice A11 n11 c11) := kb.cell 1
          have c2 : wx29.cell? ⟨w111.heap.size, 2, none⟩ = some (.slice B11 m11 d11) := kb.cell 2
          have c3 : wx29.cell? ⟨w111.heap.size, 3, none⟩ = some (.slice C11 l11 f11) := kb.cell 3
          have c4 : wx29.cell? ⟨w111.heap.size, 4, none⟩ = some (.int .i64 (x0).state) := kb.cell 4
          go_simp
          exact hK s wx29 (fun _ _ => rfl) hR
        refine StepAll.cons (fun D s wx29 hR (hDi : D 1 = false) hd hsh a' hs K hK => ?_) ?_
        · have e2 := hs.old 2 (u := .pointer (some ⟨w.heap.size, 0, none⟩)) (by kernel_rfl) rfl
          clear hs
          have kb : Blk wx29 (w.heap.size) 43 #[.int .i64 (x0).order.start, .slice Ax0 nx0 cx0, .slice Bx0 mx0 dx0, .slice Cx0 lx0 fx0, .int .i64 (x0).state] := hR.blk 0 rfl
          have c0 : wx29.cell? ⟨w.heap.size, 0, none⟩ = some (.int .i64 (x0).order.start) := kb.cell 0
          have c1 : wx29.cell? ⟨w.heap.size, 1, none⟩ = some (.slice Ax0 nx0 cx0) := kb.cell 1
          have c2 : wx29.cell? ⟨w.heap.size, 2, none⟩ = some (.slice Bx0 mx0 dx0) := kb.cell 2
          have c3 : wx29.cell? ⟨w.heap.size, 3, none⟩ = some (.slice Cx0 lx0 fx0) := kb.cell 3
          have c4 : wx29.cell? ⟨w.heap.size, 4, none⟩ = some (.int .i64 (x0).state) := kb.cell 4
          go_simp
          exact hK s wx29 (fun _ _ => rfl) hR
        refine StepAll.cons (fun D s wx29 hR (hDi : D 2 = false) hd hsh a' hs K hK => ?_) ?_
        · have e48 := hs.at_ 1 48 (u := .agg #[.int .i64 (x0).order.start, .slice Ax0 nx0 cx0, .slice Bx0 mx0 dx0, .slice Cx0 lx0 fx0, .int .i64 (x0).state]) rfl (hd ⟨1, .data⟩ (by simp) rfl) (by kernel_rfl) (by kernel_rfl) rfl
          have g48 := getQ e48
          clear hs
          have n3 : D 3 = false := hsh.no hDi 3 rfl ⟨2, .data⟩ (by simp) rfl rfl
          have n4 : D 4 = false := hsh.no n3 4 rfl ⟨3, .data⟩ (by simp) rfl rfl
          go_simp
          refine (toBook_st _ x0 _ (HR0.out.up hR.below)).mono ?_
          rintro e w2 ⟨v2, rfl, s2⟩
          refine hK v2 w2
            (fun j hj => by
              match j, hj with
              | 0, hj => rfl
              | 1, hj => rfl
              | 2, hj => rw [hDi] at hj; cases hj
              | 3, hj => rfl
              | 4, hj => rfl
              | _ + 5, hj => rfl)
            ((hR.add 8 (if_neg (by rw [hDi]; simp)) s2).congr
              (fun i => by
                match i with
                | 0 => rfl
                | 1 => rfl
                | 2 => rfl
                | 3 => rfl
                | 4 => rfl
                | 5 => rfl
                | 6 => rfl
                | 7 => rfl
                | 8 => rfl
                | q + 9 => exact (if_neg (show ¬ (q + 9 = 8) by omega)).symm))
        refine StepAll.cons (fun D s wx29 hR (hDi : D 3 = false) hd hsh a' hs K hK => ?_) ?_
        · have e47 := hs.at_ 0 47 (u := .agg #[.int .i64 (x0).order.start, .slice A11 n11 c11, .slice B11 m11 d11, .slice C11 l11 f11, .int .i64 (x0).state]) rfl (hd ⟨0, .data⟩ (by simp) rfl) (by kernel_rfl) (by kernel_rfl) rfl
          have e49 := hs.at_ 2 49 (u := s) rfl (hd ⟨2, .data⟩ (by simp) rfl) (by kernel_rfl) (by kernel_rfl) rfl
          have g47 := getQ e47
          have g49 := getQ e49
          clear hs
          have d2 : D 2 = true := hd ⟨2, .data⟩ (by simp) rfl
          go_simp
          refine (eqBook_same _ x0 _ _ (hR.rdB 4 rfl) (hR.rdB 8 (if_pos d2))).mono ?_
          rintro e w2 ⟨rfl, hb2⟩
          exact hK s w2 (fun _ _ => rfl) (hR.quiet hb2)
        refine StepAll.cons (fun D s wx29 hR (hDi : D 4 = false) hd hsh a' hs K hK => ?_) ?_
        · have e50 := hs.at_ 3 50 (u := .bool true) rfl (hd ⟨3, .data⟩ (by simp) rfl) (by kernel_rfl) (by kernel_rfl) rfl
          clear hs
          go_simp
          exact hK s wx29 (fun _ _ => rfl) hR
        exact StepAll.nil
      · intro D s wx29 hR hD
        simp only [putA, Act.put, List.setIfInBounds_toArray, List.set_cons_zero, List.set_cons_succ]
        have S30 : St w wx29 [rBlk w.heap.size 43 #[.int .i64 (x0).order.start, .slice Ax0 nx0 cx0, .slice Bx0 mx0 dx0, .slice Cx0 lx0 fx0, .int .i64 (x0).state], rBlk (w.heap.size + 1) 45 #[.int .i64 ak, .int .i64 am], rBook (.agg #[.int .i64 ((bookDo x0 ⟨ak, am⟩)).order.start, .slice A7 n7 c7, .slice B7 m7 d7, .slice C7 l7 f7, .int .i64 ((bookDo x0 ⟨ak, am⟩)).state]) (bookDo x0 ⟨ak, am⟩), rBlk g7 28 #[.int .i64 ((bookDo x0 ⟨ak, am⟩)).order.start, .slice A7 n7 c7, .slice B7 m7 d7, .slice C7 l7 f7, .int .i64 ((bookDo x0 ⟨ak, am⟩)).state], rBook (.agg #[.int .i64 (x0).order.start, .slice A11 n11 c11, .slice B11 m11 d11, .slice C11 l11 f11, .int .i64 (x0).state]) x0, rBlk w111.heap.size 28 #[.int .i64 (x0).order.start, .slice A11 n11 c11, .slice B11 m11 d11, .slice C11 l11 f11, .int .i64 (x0).state], rBook (.agg #[.int .i64 ((bookDo x0 ⟨ak, am⟩)).order.start, .slice A17 n17 c17, .slice B17 m17 d17, .slice C17 l17 f17, .int .i64 ((bookDo x0 ⟨ak, am⟩)).state]) (bookDo x0 ⟨ak, am⟩), rBlk g17 28 #[.int .i64 ((bookDo x0 ⟨ak, am⟩)).order.start, .slice A17 n17 c17, .slice B17 m17 d17, .slice C17 l17 f17, .int .i64 ((bookDo x0 ⟨ak, am⟩)).state]] := hR.to_st [0, 1, 2, 3, 4, 5, 6, 7] (by decide) rfl
        clear hR hD
        clear q24 q25 q26 q27 q28
        have q31 : ∀ j, wx29.cell? ⟨w.heap.size, j, none⟩ = _ := S30.cells 0 rfl
        have q32 : ∀ j, wx29.cell? ⟨(w.heap.size + 1), j, none⟩ = _ := S30.cells 1 rfl
        have q33 : ∀ j, wx29.cell? ⟨g7, j, none⟩ = _ := S30.cells 3 rfl
        have q34 : ∀ j, wx29.cell? ⟨w111.heap.size, j, none⟩ = _ := S30.cells 5 rfl
        have q35 : ∀ j, wx29.cell? ⟨g17, j, none⟩ = _ := S30.cells 7 rfl
        go_wp2_with fail
        refine (markBook_st S30 4 rfl (1) (by omega)).mono ?_
        rintro e w136 ⟨rfl, s36⟩
        have S36 : St w w136 [rBlk w.heap.size 43 #[.int .i64 (x0).order.start, .slice Ax0 nx0 cx0, .slice Bx0 mx0 dx0, .slice Cx0 lx0 fx0, .int .i64 (x0).state], rBlk (w.heap.size + 1) 45 #[.int .i64 ak, .int .i64 am], rBook (.agg #[.int .i64 ((bookDo x0 ⟨ak, am⟩)).order.start, .slice A7 n7 c7, .slice B7 m7 d7, .slice C7 l7 f7, .int .i64 ((bookDo x0 ⟨ak, am⟩)).state]) (bookDo x0 ⟨ak, am⟩), rBlk g7 28 #[.int .i64 ((bookDo x0 ⟨ak, am⟩)).order.start, .slice A7 n7 c7, .slice B7 m7 d7, .slice C7 l7 f7, .int .i64 ((bookDo x0 ⟨ak, am⟩)).state], rBook (.agg #[.int .i64 (x0).order.start, .slice A11 n11 c11, .slice B11 m11 d11, .slice C11 l11 f11, .int .i64 (x0).state]) (markB (1) (x0)), rBlk w111.heap.size 28 #[.int .i64 (x0).order.start, .slice A11 n11 c11, .slice B11 m11 d11, .slice C11 l11 f11, .int .i64 (x0).state], rBook (.agg #[.int .i64 ((bookDo x0 ⟨ak, am⟩)).order.start, .slice A17 n17 c17, .slice B17 m17 d17, .slice C17 l17 f17, .int .i64 ((bookDo x0 ⟨ak, am⟩)).state]) (bookDo x0 ⟨ak, am⟩), rBlk g17 28 #[.int .i64 ((bookDo x0 ⟨ak, am⟩)).order.start, .slice A17 n17 c17, .slice B17 m17 d17, .slice C17 l17 f17, .int .i64 ((bookDo x0 ⟨ak, am⟩)).state]] := s36
        clear q31 q32 q33 q34 q35
        have q37 : ∀ j, w136.cell? ⟨w.heap.size, j, none⟩ = _ := S36.cells 0 rfl
        have q38 : ∀ j, w136.cell? ⟨(w.heap.size + 1), j, none⟩ = _ := S36.cells 1 rfl
        have q39 : ∀ j, w136.cell? ⟨g7, j, none⟩ = _ := S36.cells 3 rfl
        have q40 : ∀ j, w136.cell? ⟨w111.heap.size, j, none⟩ = _ := S36.cells 5 rfl
        have q41 : ∀ j, w136.cell? ⟨g17, j, none⟩ = _ := S36.cells 7 rfl
        go_wp2_with fail
        refine (eqBook_same _ (bookDo x0 ⟨ak, am⟩) _ _ (S36.rdB 6 rfl) (S36.rdB 2 rfl)).mono ?_
        rintro e w142 ⟨rfl, hb42⟩
        have S42 : St w w142 [rBlk w.heap.size 43 #[.int .i64 (x0).order.start, .slice Ax0 nx0 cx0, .slice Bx0 mx0 dx0, .slice Cx0 lx0 fx0, .int .i64 (x0).state], rBlk (w.heap.size + 1) 45 #[.int .i64 ak, .int .i64 am], rBook (.agg #[.int .i64 ((bookDo x0 ⟨ak, am⟩)).order.start, .slice A7 n7 c7, .slice B7 m7 d7, .slice C7 l7 f7, .int .i64 ((bookDo x0 ⟨ak, am⟩)).state]) (bookDo x0 ⟨ak, am⟩), rBlk g7 28 #[.int .i64 ((bookDo x0 ⟨ak, am⟩)).order.start, .slice A7 n7 c7, .slice B7 m7 d7, .slice C7 l7 f7, .int .i64 ((bookDo x0 ⟨ak, am⟩)).state], rBook (.agg #[.int .i64 (x0).order.start, .slice A11 n11 c11, .slice B11 m11 d11, .slice C11 l11 f11, .int .i64 (x0).state]) (markB (1) (x0)), rBlk w111.heap.size 28 #[.int .i64 (x0).order.start, .slice A11 n11 c11, .slice B11 m11 d11, .slice C11 l11 f11, .int .i64 (x0).state], rBook (.agg #[.int .i64 ((bookDo x0 ⟨ak, am⟩)).order.start, .slice A17 n17 c17, .slice B17 m17 d17, .slice C17 l17 f17, .int .i64 ((bookDo x0 ⟨ak, am⟩)).state]) (bookDo x0 ⟨ak, am⟩), rBlk g17 28 #[.int .i64 ((bookDo x0 ⟨ak, am⟩)).order.start, .slice A17 n17 c17, .slice B17 m17 d17, .slice C17 l17 f17, .int .i64 ((bookDo x0 ⟨ak, am⟩)).state]] := S36.quiet hb42
        clear q37 q38 q39 q40 q41
        have q43 : ∀ j, w142.cell? ⟨w.heap.size, j, none⟩ = _ := S42.cells 0 rfl
        have q44 : ∀ j, w142.cell? ⟨(w.heap.size + 1), j, none⟩ = _ := S42.cells 1 rfl
        have q45 : ∀ j, w142.cell? ⟨g7, j, none⟩ = _ := S42.cells 3 rfl
        have q46 : ∀ j, w142.cell? ⟨w111.heap.size, j, none⟩ = _ := S42.cells 5 rfl
        have q47 : ∀ j, w142.cell? ⟨g17, j, none⟩ = _ := S42.cells 7 rfl
        go_wp2_with fail
        refine (markBook_st S42 6 rfl (1) (by omega)).mono ?_
        rintro e w148 ⟨rfl, s48⟩
        have S48 : St w w148 [rBlk w.heap.size 43 #[.int .i64 (x0).order.start, .slice Ax0 nx0 cx0, .slice Bx0 mx0 dx0, .slice Cx0 lx0 fx0, .int .i64 (x0).state], rBlk (w.heap.size + 1) 45 #[.int .i64 ak, .int .i64 am], rBook (.agg #[.int .i64 ((bookDo x0 ⟨ak, am⟩)).order.start, .slice A7 n7 c7, .slice B7 m7 d7, .slice C7 l7 f7, .int .i64 ((bookDo x0 ⟨ak, am⟩)).state]) (bookDo x0 ⟨ak, am⟩), rBlk g7 28 #[.int .i64 ((bookDo x0 ⟨ak, am⟩)).order.start, .slice A7 n7 c7, .slice B7 m7 d7, .slice C7 l7 f7, .int .i64 ((bookDo x0 ⟨ak, am⟩)).state], rBook (.agg #[.int .i64 (x0).order.start, .slice A11 n11 c11, .slice B11 m11 d11, .slice C11 l11 f11, .int .i64 (x0).state]) (markB (1) (x0)), rBlk w111.heap.size 28 #[.int .i64 (x0).order.start, .slice A11 n11 c11, .slice B11 m11 d11, .slice C11 l11 f11, .int .i64 (x0).state], rBook (.agg #[.int .i64 ((bookDo x0 ⟨ak, am⟩)).order.start, .slice A17 n17 c17, .slice B17 m17 d17, .slice C17 l17 f17, .int .i64 ((bookDo x0 ⟨ak, am⟩)).state]) (markB (1) (bookDo x0 ⟨ak, am⟩)), rBlk g17 28 #[.int .i64 ((bookDo x0 ⟨ak, am⟩)).order.start, .slice A17 n17 c17, .slice B17 m17 d17, .slice C17 l17 f17, .int .i64 ((bookDo x0 ⟨ak, am⟩)).state]] := s48
        clear q43 q44 q45 q46 q47
        have q49 : ∀ j, w148.cell? ⟨w.heap.size, j, none⟩ = _ := S48.cells 0 rfl
        have q50 : ∀ j, w148.cell? ⟨(w.heap.size + 1), j, none⟩ = _ := S48.cells 1 rfl
        have q51 : ∀ j, w148.cell? ⟨g7, j, none⟩ = _ := S48.cells 3 rfl
        have q52 : ∀ j, w148.cell? ⟨w111.heap.size, j, none⟩ = _ := S48.cells 5 rfl
        have q53 : ∀ j, w148.cell? ⟨g17, j, none⟩ = _ := S48.cells 7 rfl
        go_wp2_with fail
        refine (heldBook_any _ (1) (bookDo x0 ⟨ak, am⟩) _ (S48.rdB 6 rfl) (by omega)).mono ?_
        rintro e w154 ⟨rfl, hb54⟩
        have S54 : St w w154 [rBlk w.heap.size 43 #[.int .i64 (x0).order.start, .slice Ax0 nx0 cx0, .slice Bx0 mx0 dx0, .slice Cx0 lx0 fx0, .int .i64 (x0).state], rBlk (w.heap.size + 1) 45 #[.int .i64 ak, .int .i64 am], rBook (.agg #[.int .i64 ((bookDo x0 ⟨ak, am⟩)).order.start, .slice A7 n7 c7, .slice B7 m7 d7, .slice C7 l7 f7, .int .i64 ((bookDo x0 ⟨ak, am⟩)).state]) (bookDo x0 ⟨ak, am⟩), rBlk g7 28 #[.int .i64 ((bookDo x0 ⟨ak, am⟩)).order.start, .slice A7 n7 c7, .slice B7 m7 d7, .slice C7 l7 f7, .int .i64 ((bookDo x0 ⟨ak, am⟩)).state], rBook (.agg #[.int .i64 (x0).order.start, .slice A11 n11 c11, .slice B11 m11 d11, .slice C11 l11 f11, .int .i64 (x0).state]) (markB (1) (x0)), rBlk w111.heap.size 28 #[.int .i64 (x0).order.start, .slice A11 n11 c11, .slice B11 m11 d11, .slice C11 l11 f11, .int .i64 (x0).state], rBook (.agg #[.int .i64 ((bookDo x0 ⟨ak, am⟩)).order.start, .slice A17 n17 c17, .slice B17 m17 d17, .slice C17 l17 f17, .int .i64 ((bookDo x0 ⟨ak, am⟩)).state]) (markB (1) (bookDo x0 ⟨ak, am⟩)), rBlk g17 28 #[.int .i64 ((bookDo x0 ⟨ak, am⟩)).order.start, .slice A17 n17 c17, .slice B17 m17 d17, .slice C17 l17 f17, .int .i64 ((bookDo x0 ⟨ak, am⟩)).state]] := S48.quiet hb54
        clear q49 q50 q51 q52 q53
        have q55 : ∀ j, w154.cell? ⟨w.heap.size, j, none⟩ = _ := S54.cells 0 rfl
        have q56 : ∀ j, w154.cell? ⟨(w.heap.size + 1), j, none⟩ = _ := S54.cells 1 rfl
        have q57 : ∀ j, w154.cell? ⟨g7, j, none⟩ = _ := S54.cells 3 rfl
        have q58 : ∀ j, w154.cell? ⟨w111.heap.size, j, none⟩ = _ := S54.cells 5 rfl
        have q59 : ∀ j, w154.cell? ⟨g17, j, none⟩ = _ := S54.cells 7 rfl
        go_upto_region 24 with (fail)
        refine wp_reg (σ := ((Option Addr × Nat × Nat) × (Option Addr × Nat × Nat) × (Option Addr × Nat × Nat)) × ((Option Addr × Nat × Nat) × (Option Addr × Nat × Nat) × (Option Addr × Nat × Nat)) × Nat) (by kernel_rfl) (by kernel_rfl) (by kernel_rfl)
          (fun s i => match i with
            | 0 => .agg #[.int .i64 (x0).order.start, .slice Ax0 nx0 cx0, .slice Bx0 mx0 dx0, .slice Cx0 lx0 fx0, .int .i64 (x0).state]
            | 1 => .agg #[.int .i64 (x0).order.start, .slice s.1.1.1 s.1.1.2.1 s.1.1.2.2, .slice s.1.2.1.1 s.1.2.1.2.1 s.1.2.1.2.2, .slice s.1.2.2.1 s.1.2.2.2.1 s.1.2.2.2.2, .int .i64 (x0).state]
            | 2 => .agg #[.int .i64 ak, .int .i64 am]
            | 3 => .agg #[.int .i64 ak, .int .i64 am]
            | 4 => .tuple #[.agg #[.int .i64 (bookDo x0 ⟨ak, am⟩).order.start, .slice s.2.1.1.1 s.2.1.1.2.1 s.2.1.1.2.2, .slice s.2.1.2.1.1 s.2.1.2.1.2.1 s.2.1.2.1.2.2, .slice s.2.1.2.2.1 s.2.1.2.2.2.1 s.2.1.2.2.2.2, .int .i64 (bookDo x0 ⟨ak, am⟩).state], .bool (bookDid x0 ⟨ak, am⟩)]
            | 5 => .tuple #[.agg #[.int .i64 (bookDo x0 ⟨ak, am⟩).order.start, .slice s.2.1.1.1 s.2.1.1.2.1 s.2.1.1.2.2, .slice s.2.1.2.1.1 s.2.1.2.1.2.1 s.2.1.2.1.2.2, .slice s.2.1.2.2.1 s.2.1.2.2.2.1 s.2.1.2.2.2.2, .int .i64 (bookDo x0 ⟨ak, am⟩).state], .bool (bookDid x0 ⟨ak, am⟩)]
            | 6 => .agg #[.int .i64 (bookDo x0 ⟨ak, am⟩).order.start, .slice s.2.1.1.1 s.2.1.1.2.1 s.2.1.1.2.2, .slice s.2.1.2.1.1 s.2.1.2.1.2.1 s.2.1.2.1.2.2, .slice s.2.1.2.2.1 s.2.1.2.2.2.1 s.2.1.2.2.2.2, .int .i64 (bookDo x0 ⟨ak, am⟩).state]
            | 7 => .bool (bookDid x0 ⟨ak, am⟩)
            | 8 => .pointer (some ⟨s.2.2, 0, none⟩)
            | 10 => .bool (bookDid x0 ⟨ak, am⟩)
            | _ => undef)
          (fun D s wx60 => Sn w wx60 fun i => match i with
            | 0 => some (rBlk w.heap.size 43 #[.int .i64 (x0).order.start, .slice Ax0 nx0 cx0, .slice Bx0 mx0 dx0, .slice Cx0 lx0 fx0, .int .i64 (x0).state])
            | 1 => some (rBlk (w.heap.size + 1) 45 #[.int .i64 ak, .int .i64 am])
            | 2 => some (rBook (.agg #[.int .i64 ((bookDo x0 ⟨ak, am⟩)).order.start, .slice A7 n7 c7, .slice B7 m7 d7, .slice C7 l7 f7, .int .i64 ((bookDo x0 ⟨ak, am⟩)).state]) (bookDo x0 ⟨ak, am⟩))
            | 3 => some (rBlk g7 28 #[.int .i64 ((bookDo x0 ⟨ak, am⟩)).order.start, .slice A7 n7 c7, .slice B7 m7 d7, .slice C7 l7 f7, .int .i64 ((bookDo x0 ⟨ak, am⟩)).state])
            | 4 => some (rBook (.agg #[.int .i64 (x0).order.start, .slice A11 n11 c11, .slice B11 m11 d11, .slice C11 l11 f11, .int .i64 (x0).state]) (markB (1) (x0)))
            | 5 => some (rBlk w111.heap.size 28 #[.int .i64 (x0).order.start, .slice A11 n11 c11, .slice B11 m11 d11, .slice C11 l11 f11, .int .i64 (x0).state])
            | 6 => some (rBook (.agg #[.int .i64 ((bookDo x0 ⟨ak, am⟩)).order.start, .slice A17 n17 c17, .slice B17 m17 d17, .slice C17 l17 f17, .int .i64 ((bookDo x0 ⟨ak, am⟩)).state]) (markB (1) (bookDo x0 ⟨ak, am⟩)))
            | 7 => some (rBlk g17 28 #[.int .i64 ((bookDo x0 ⟨ak, am⟩)).order.start, .slice A17 n17 c17, .slice B17 m17 d17, .slice C17 l17 f17, .int .i64 ((bookDo x0 ⟨ak, am⟩)).state])
            | 8 => if D 1 = true then some (rBook (.agg #[.int .i64 (x0).order.start, .slice s.1.1.1 s.1.1.2.1 s.1.1.2.2, .slice s.1.2.1.1 s.1.2.1.2.1 s.1.2.1.2.2, .slice s.1.2.2.1 s.1.2.2.2.1 s.1.2.2.2.2, .int .i64 (x0).state]) x0) else none
            | 9 => if D 4 = true then some (rBook (.agg #[.int .i64 (bookDo x0 ⟨ak, am⟩).order.start, .slice s.2.1.1.1 s.2.1.1.2.1 s.2.1.1.2.2, .slice s.2.1.2.1.1 s.2.1.2.1.2.1 s.2.1.2.1.2.2, .slice s.2.1.2.2.1 s.2.1.2.2.2.1 s.2.1.2.2.2.2, .int .i64 (bookDo x0 ⟨ak, am⟩).state]) (bookDo x0 ⟨ak, am⟩)) else none
            | 10 => if D 8 = true then some (rBlk s.2.2 28 (if D 9 = true then #[.int .i64 (bookDo x0 ⟨ak, am⟩).order.start, .slice s.2.1.1.1 s.2.1.1.2.1 s.2.1.1.2.2, .slice s.2.1.2.1.1 s.2.1.2.1.2.1 s.2.1.2.1.2.2, .slice s.2.1.2.2.1 s.2.1.2.2.2.1 s.2.1.2.2.2.2, .int .i64 (bookDo x0 ⟨ak, am⟩).state] else #[.int .i64 0, .slice none 0 0, .slice none 0 0, .slice none 0 0, .int .i64 0])) else none
            | _ => none)
          (((none, 0, 0), (none, 0, 0), (none, 0, 0)), ((none, 0, 0), (none, 0, 0), (none, 0, 0)), 0) ?_ ?_ ?_
        · intro D hD
          refine ((Sn.of_st S54).quiet ((Below.refl _ _).drew)).congr fun i => ?_
          match i with
          | 0 => rfl
          | 1 => rfl
          | 2 => rfl
          | 3 => rfl
          | 4 => rfl
          | 5 => rfl
          | 6 => rfl
          | 7 => rfl
          | 8 => simp only [hD 1 (by decide)]; rfl
          | 9 => simp only [hD 4 (by decide)]; rfl
          | 10 => simp only [hD 8 (by decide)]; rfl
          | q + 11 => rfl
        · refine StepAll.cons (fun D s wx60 hR (hDi : D 0 = false) hd hsh a' hs K hK => ?_) ?_
          · have e2 := hs.old 2 (u := .pointer (some ⟨w.heap.size, 0, none⟩)) (by kernel_rfl) rfl
            clear hs
            have kb : Blk wx60 (w.heap.size) 43 #[.int .i64 (x0).order.start, .slice Ax0 nx0 cx0, .slice Bx0 mx0 dx0, .slice Cx0 lx0 fx0, .int .i64 (x0).state] := hR.blk 0 rfl
            have c0 : wx60.cell? ⟨w.heap.size, 0, none⟩ = some (.int .i64 (x0).order.start) := kb.cell 0
            have c1 : wx60.cell? ⟨w.heap.size, 1, none⟩ = some (.slice Ax0 nx0 cx0) := kb.cell 1
            have c2 : wx60.cell? ⟨w.heap.size, 2, none⟩ = some (.slice Bx0 mx0 dx0) := kb.cell 2
            have c3 : wx60.cell? ⟨w.heap.size, 3, none⟩ = some (.slice Cx0 lx0 fx0) := kb.cell 3
            have c4 : wx60.cell? ⟨w.heap.size, 4, none⟩ = some (.int .i64 (x0).state) := kb.cell 4
            go_simp
            exact hK s wx60 (fun _ _ => rfl) hR
          refine StepAll.cons (fun D s wx60 hR (hDi : D 1 = false) hd hsh a' hs K hK => ?_) ?_
          · have e80 := hs.at_ 0 80 (u := .agg #[.int .i64 (x0).order.start, .slice Ax0 nx0 cx0, .slice Bx0 mx0 dx0, .slice Cx0 lx0 fx0, .int .i64 (x0).state]) rfl (hd ⟨0, .data⟩ (by simp) rfl) (by kernel_rfl) (by kernel_rfl) rfl
            have g80 := getQ e80
            clear hs
            have n4 : D 4 = false := hsh.no hDi 4 rfl ⟨1, .data⟩ (by simp) rfl rfl
            go_simp
            refine (toBook_st _ x0 _ (HR0.out.up hR.below)).mono ?_
            rintro e2 w2 ⟨v2, rfl, s2⟩
            obtain ⟨A1, n1, c1, A2, n2, c2, A3, n3, c3, hv⟩ := s2.formB 0 rfl
            subst hv
            refine hK (((A1, n1, c1), (A2, n2, c2), (A3, n3, c3)), s.2) w2
              (fun j hj => by
                match j, hj with
                | 0, hj => rfl
                | 1, hj => rw [hDi] at hj; cases hj
                | 2, hj => rfl
                | 3, hj => rfl
                | 4, hj => rfl
                | 5, hj => rfl
                | 6, hj => rfl
                | 7, hj => rfl
                | 8, hj => rfl
                | 9, hj => rfl
                | 10, hj => rfl
                | _ + 11, hj => rfl)
              ((hR.add 8 (if_neg (by rw [hDi]; simp)) s2).congr
                (fun i => by
                  match i with
                  | 0 => rfl
                  | 1 => rfl
                  | 2 => rfl
                  | 3 => rfl
                  | 4 => rfl
                  | 5 => rfl
                  | 6 => rfl
                  | 7 => rfl
                  | 8 => rfl
                  | 9 => rfl
                  | 10 => rfl
                  | q + 11 => exact (if_neg (show ¬ (q + 11 = 8) by omega)).symm))
          refine StepAll.cons (fun D s wx60 hR (hDi : D 2 = false) hd hsh a' hs K hK => ?_) ?_
          · have e3 := hs.old 3 (u := .pointer (some ⟨(w.heap.size + 1), 0, none⟩)) (by kernel_rfl) rfl
            clear hs
            have kb : Blk wx60 ((w.heap.size + 1)) 45 #[.int .i64 ak, .int .i64 am] := hR.blk 1 rfl
            have c0 : wx60.cell? ⟨(w.heap.size + 1), 0, none⟩ = some (.int .i64 ak) := kb.cell 0
            have c1 : wx60.cell? ⟨(w.heap.size + 1), 1, none⟩ = some (.int .i64 am) := kb.cell 1
            go_simp
            exact hK s wx60 (fun _ _ => rfl) hR
          refine StepAll.cons (fun D s wx60 hR (hDi : D 3 = false) hd hsh a' hs K hK => ?_) ?_
          · have e82 := hs.at_ 2 82 (u := .agg #[.int .i64 ak, .int .i64 am]) rfl (hd ⟨2, .data⟩ (by simp) rfl) (by kernel_rfl) (by kernel_rfl) rfl
            have g82 := getQ e82
            clear hs
            go_simp
            refine (toAct_any ak am _).mono ?_
            rintro e2 w2 ⟨rfl, hb2⟩
            exact hK s w2 (fun _ _ => rfl) (hR.quiet hb2)
          refine StepAll.cons (fun D s wx60 hR (hDi : D 4 = false) hd hsh a' hs K hK => ?_) ?_
          · have e81 := hs.at_ 1 81 (u := .agg #[.int .i64 (x0).order.start, .slice s.1.1.1 s.1.1.2.1 s.1.1.2.2, .slice s.1.2.1.1 s.1.2.1.2.1 s.1.2.1.2.2, .slice s.1.2.2.1 s.1.2.2.2.1 s.1.2.2.2.2, .int .i64 (x0).state]) rfl (hd ⟨1, .data⟩ (by simp) rfl) (by kernel_rfl) (by kernel_rfl) rfl
            have e83 := hs.at_ 3 83 (u := .agg #[.int .i64 ak, .int .i64 am]) rfl (hd ⟨3, .data⟩ (by simp) rfl) (by kernel_rfl) (by kernel_rfl) rfl
            have g81 := getQ e81
            have g83 := getQ e83
            clear hs
            have n5 : D 5 = false := hsh.no hDi 5 rfl ⟨4, .data⟩ (by simp) rfl rfl
            have n6 : D 6 = false := hsh.no n5 6 rfl ⟨5, .data⟩ (by simp) rfl rfl
            have n7 : D 7 = false := hsh.no n5 7 rfl ⟨5, .data⟩ (by simp) rfl rfl
            have n9 : D 9 = false := hsh.no n6 9 rfl ⟨6, .data⟩ (by simp) rfl rfl
            have n10 : D 10 = false := hsh.no n7 10 rfl ⟨7, .data⟩ (by simp) rfl rfl
            have d1 : D 1 = true := hd ⟨1, .data⟩ (by simp) rfl
            go_simp
            refine (bookDo_impl _ x0 ak am _ (hR.rdB 8 (if_pos d1)) h1).mono ?_
            rintro e2 w2 ⟨v2, rfl, s2⟩
            obtain ⟨A1, n1, c1, A2, n2, c2, A3, n3, c3, hv⟩ := s2.formB 0 rfl
            subst hv
            refine hK (s.1, ((A1, n1, c1), (A2, n2, c2), (A3, n3, c3)), s.2.2) w2
              (fun j hj => by
                match j, hj with
                | 0, hj => rfl
                | 1, hj => rfl
                | 2, hj => rfl
                | 3, hj => rfl
                | 4, hj => rw [hDi] at hj; cases hj
                | 5, hj => rw [n5] at hj; cases hj
                | 6, hj => rw [n6] at hj; cases hj
                | 7, hj => rw [n7] at hj; cases hj
                | 8, hj => rfl
                | 9, hj => rw [n9] at hj; cases hj
                | 10, hj => rw [n10] at hj; cases hj
                | _ + 11, hj => rfl)
              ((hR.add 9 (if_neg (by rw [hDi]; simp)) s2).congr
                (fun i => by
                  match i with
                  | 0 => rfl
                  | 1 => rfl
                  | 2 => rfl
                  | 3 => rfl
                  | 4 => rfl
                  | 5 => rfl
                  | 6 => rfl
                  | 7 => rfl
                  | 8 => rfl
                  | 9 => rfl
                  | 10 => (show (if D 8 = true then some (rBlk _ _ (if D 9 = true then _ else _)) else none) = (if D 8 = true then some (rBlk _ _ (if D 9 = true then _ else _)) else none); rw [n9] <;> rfl)
                  | q + 11 => exact (if_neg (show ¬ (q + 11 = 9) by omega)).symm))
          refine StepAll.cons (fun D s wx60 hR (hDi : D 5 = false) hd hsh a' hs K hK => ?_) ?_
          · have e84 := hs.at_ 4 84 (u := .tuple #[.agg #[.int .i64 (bookDo x0 ⟨ak, am⟩).order.start, .slice s.2.1.1.1 s.2.1.1.2.1 s.2.1.1.2.2, .slice s.2.1.2.1.1 s.2.1.2.1.2.1 s.2.1.2.1.2.2, .slice s.2.1.2.2.1 s.2.1.2.2.2.1 s.2.1.2.2.2.2, .int .i64 (bookDo x0 ⟨ak, am⟩).state], .bool (bookDid x0 ⟨ak, am⟩)]) rfl (hd ⟨4, .data⟩ (by simp) rfl) (by kernel_rfl) (by kernel_rfl) rfl
            clear hs
            go_simp
            exact hK s wx60 (fun _ _ => rfl) hR
          refine StepAll.cons (fun D s wx60 hR (hDi : D 6 = false) hd hsh a' hs K hK => ?_) ?_
          · have e79 := hs.at_ 5 79 (u := .tuple #[.agg #[.int .i64 (bookDo x0 ⟨ak, am⟩).order.start, .slice s.2.1.1.1 s.2.1.1.2.1 s.2.1.1.2.2, .slice s.2.1.2.1.1 s.2.1.2.1.2.1 s.2.1.2.1.2.2, .slice s.2.1.2.2.1 s.2.1.2.2.2.1 s.2.1.2.2.2.2, .int .i64 (bookDo x0 ⟨ak, am⟩).state], .bool (bookDid x0 ⟨ak, am⟩)]) rfl (hd ⟨5, .data⟩ (by simp) rfl) (by kernel_rfl) (by kernel_rfl) rfl
            clear hs
            go_simp
            exact hK s wx60 (fun _ _ => rfl) hR
          refine StepAll.cons (fun D s wx60 hR (hDi : D 7 = false) hd hsh a' hs K hK => ?_) ?_
          · have e79 := hs.at_ 5 79 (u := .tuple #[.agg #[.int .i64 (bookDo x0 ⟨ak, am⟩).order.start, .slice s.2.1.1.1 s.2.1.1.2.1 s.2.1.1.2.2, .slice s.2.1.2.1.1 s.2.1.2.1.2.1 s.2.1.2.1.2.2, .slice s.2.1.2.2.1 s.2.1.2.2.2.1 s.2.1.2.2.2.2, .int .i64 (bookDo x0 ⟨ak, am⟩).state], .bool (bookDid x0 ⟨ak, am⟩)]) rfl (hd ⟨5, .data⟩ (by simp) rfl) (by kernel_rfl) (by kernel_rfl) rfl
            clear hs
            go_simp
            exact hK s wx60 (fun _ _ => rfl) hR
          refine StepAll.cons (fun D s wx60 hR (hDi : D 8 = false) hd hsh a' hs K hK => ?_) ?_
          · clear hs
            have n9 : D 9 = false := hsh.no hDi 9 rfl ⟨8, .data⟩ (by simp) rfl rfl
            go_simp
            refine hK (s.1, s.2.1, wx60.heap.size) _
              (fun j hj => by
                match j, hj with
                | 0, hj => rfl
                | 1, hj => rfl
                | 2, hj => rfl
                | 3, hj => rfl
                | 4, hj => rfl
                | 5, hj => rfl
                | 6, hj => rfl
                | 7, hj => rfl
                | 8, hj => rw [hDi] at hj; cases hj
                | 9, hj => rfl
                | 10, hj => rfl
                | _ + 11, hj => rfl)
              ((hR.add 10 (if_neg (by rw [hDi]; simp)) (St.new1 wx60 #[.int .i64 0, .slice none 0 0, .slice none 0 0, .slice none 0 0, .int .i64 0] 28)).congr
                (fun i => by
                  match i with
                  | 0 => rfl
                  | 1 => rfl
                  | 2 => rfl
                  | 3 => rfl
                  | 4 => rfl
                  | 5 => rfl
                  | 6 => rfl
                  | 7 => rfl
                  | 8 => rfl
                  | 9 => rfl
                  | 10 => (show some (rBlk _ _ (if D 9 = true then _ else _)) = some (rBlk _ _ _); rw [n9] <;> rfl)
                  | q + 11 => exact (if_neg (show ¬ (q + 11 = 10) by omega)).symm))
          refine StepAll.cons (fun D s wx60 hR (hDi : D 9 = false) hd hsh a' hs K hK => ?_) ?_
          · have e14 := hs.at_ 8 14 (u := .pointer (some ⟨s.2.2, 0, none⟩)) rfl (hd ⟨8, .data⟩ (by simp) rfl) (by kernel_rfl) (by kernel_rfl) rfl
            have e85 := hs.at_ 6 85 (u := .agg #[.int .i64 (bookDo x0 ⟨ak, am⟩).order.start, .slice s.2.1.1.1 s.2.1.1.2.1 s.2.1.1.2.2, .slice s.2.1.2.1.1 s.2.1.2.1.2.1 s.2.1.2.1.2.2, .slice s.2.1.2.2.1 s.2.1.2.2.2.1 s.2.1.2.2.2.2, .int .i64 (bookDo x0 ⟨ak, am⟩).state]) rfl (hd ⟨6, .data⟩ (by simp) rfl) (by kernel_rfl) (by kernel_rfl) rfl
            clear hs
            have dA : D 8 = true := hd ⟨8, .data⟩ (by simp) rfl
            have kb : Blk wx60 s.2.2 28 #[.int .i64 0, .slice none 0 0, .slice none 0 0, .slice none 0 0, .int .i64 0] := hR.blk 10 (by simp only [dA, hDi] <;> rfl)
            have f0 := kb.frozen
            have c0 : wx60.cell? ⟨s.2.2, 0, none⟩ = some (.int .i64 0) := kb.cell 0
            have c1 : wx60.cell? ⟨s.2.2, 1, none⟩ = some (.slice none 0 0) := kb.cell 1
            have c2 : wx60.cell? ⟨s.2.2, 2, none⟩ = some (.slice none 0 0) := kb.cell 2
            have c3 : wx60.cell? ⟨s.2.2, 3, none⟩ = some (.slice none 0 0) := kb.cell 3
            have c4 : wx60.cell? ⟨s.2.2, 4, none⟩ = some (.int .i64 0) := kb.cell 4
            go_simp
            exact hK s _ (fun _ _ => rfl) ((hR.set5 10 (by simp only [dA, hDi]; rfl) _ _ _ _ _).congr
                (fun i => by
                  match i with
                  | 0 => rfl
                  | 1 => rfl
                  | 2 => rfl
                  | 3 => rfl
                  | 4 => rfl
                  | 5 => rfl
                  | 6 => rfl
                  | 7 => rfl
                  | 8 => rfl
                  | 9 => rfl
                  | 10 => (show (if D 8 = true then some (rBlk _ _ _) else none) = some (rBlk _ _ _); rw [dA]; rfl)
                  | q + 11 => exact (if_neg (show ¬ (q + 11 = 10) by omega)).symm))
          refine StepAll.cons (fun D s wx60 hR (hDi : D 10 = false) hd hsh a' hs K hK => ?_) ?_
          · have e86 := hs.at_ 7 86 (u := .bool (bookDid x0 ⟨ak, am⟩)) rfl (hd ⟨7, .data⟩ (by simp) rfl) (by kernel_rfl) (by kernel_rfl) rfl
            clear hs
            go_simp
            exact hK s wx60 (fun _ _ => rfl) hR
          exact StepAll.nil
        · intro D s wx60 hR hD
          simp only [putA, Act.put, List.setIfInBounds_toArray, List.set_cons_zero, List.set_cons_succ]
          have S60' := hR.to_st [0, 1, 2, 3, 4, 5, 6, 7, 9, 10] (L := [rBlk w.heap.size 43 #[.int .i64 (x0).order.start, .slice Ax0 nx0 cx0, .slice Bx0 mx0 dx0, .slice Cx0 lx0 fx0, .int .i64 (x0).state], rBlk (w.heap.size + 1) 45 #[.int .i64 ak, .int .i64 am], rBook (.agg #[.int .i64 ((bookDo x0 ⟨ak, am⟩)).order.start, .slice A7 n7 c7, .slice B7 m7 d7, .slice C7 l7 f7, .int .i64 ((bookDo x0 ⟨ak, am⟩)).state]) (bookDo x0 ⟨ak, am⟩), rBlk g7 28 #[.int .i64 ((bookDo x0 ⟨ak, am⟩)).order.start, .slice A7 n7 c7, .slice B7 m7 d7, .slice C7 l7 f7, .int .i64 ((bookDo x0 ⟨ak, am⟩)).state], rBook (.agg #[.int .i64 (x0).order.start, .slice A11 n11 c11, .slice B11 m11 d11, .slice C11 l11 f11, .int .i64 (x0).state]) (markB (1) (x0)), rBlk w111.heap.size 28 #[.int .i64 (x0).order.start, .slice A11 n11 c11, .slice B11 m11 d11, .slice C11 l11 f11, .int .i64 (x0).state], rBook (.agg #[.int .i64 ((bookDo x0 ⟨ak, am⟩)).order.start, .slice A17 n17 c17, .slice B17 m17 d17, .slice C17 l17 f17, .int .i64 ((bookDo x0 ⟨ak, am⟩)).state]) (markB (1) (bookDo x0 ⟨ak, am⟩)), rBlk g17 28 #[.int .i64 ((bookDo x0 ⟨ak, am⟩)).order.start, .slice A17 n17 c17, .slice B17 m17 d17, .slice C17 l17 f17, .int .i64 ((bookDo x0 ⟨ak, am⟩)).state], rBook (.agg #[.int .i64 (bookDo x0 ⟨ak, am⟩).order.start, .slice s.2.1.1.1 s.2.1.1.2.1 s.2.1.1.2.2, .slice s.2.1.2.1.1 s.2.1.2.1.2.1 s.2.1.2.1.2.2, .slice s.2.1.2.2.1 s.2.1.2.2.2.1 s.2.1.2.2.2.2, .int .i64 (bookDo x0 ⟨ak, am⟩).state]) (bookDo x0 ⟨ak, am⟩), rBlk s.2.2 28 #[.int .i64 (bookDo x0 ⟨ak, am⟩).order.start, .slice s.2.1.1.1 s.2.1.1.2.1 s.2.1.1.2.2, .slice s.2.1.2.1.1 s.2.1.2.1.2.1 s.2.1.2.1.2.2, .slice s.2.1.2.2.1 s.2.1.2.2.2.1 s.2.1.2.2.2.2, .int .i64 (bookDo x0 ⟨ak, am⟩).state]]) (by decide) (by simp only [List.map, hD 4 (by decide), hD 8 (by decide), hD 9 (by decide)] <;> rfl)
          obtain ⟨_, ⟨⟨A60, n60, c60⟩, ⟨B60, m60, d60⟩, ⟨C60, l60, f60⟩⟩, g60⟩ := s
          have S60 : St w wx60 [rBlk w.heap.size 43 #[.int .i64 (x0).order.start, .slice Ax0 nx0 cx0, .slice Bx0 mx0 dx0, .slice Cx0 lx0 fx0, .int .i64 (x0).state], rBlk (w.heap.size + 1) 45 #[.int .i64 ak, .int .i64 am], rBook (.agg #[.int .i64 ((bookDo x0 ⟨ak, am⟩)).order.start, .slice A7 n7 c7, .slice B7 m7 d7, .slice C7 l7 f7, .int .i64 ((bookDo x0 ⟨ak, am⟩)).state]) (bookDo x0 ⟨ak, am⟩), rBlk g7 28 #[.int .i64 ((bookDo x0 ⟨ak, am⟩)).order.start, .slice A7 n7 c7, .slice B7 m7 d7, .slice C7 l7 f7, .int .i64 ((bookDo x0 ⟨ak, am⟩)).state], rBook (.agg #[.int .i64 (x0).order.start, .slice A11 n11 c11, .slice B11 m11 d11, .slice C11 l11 f11, .int .i64 (x0).state]) (markB (1) (x0)), rBlk w111.heap.size 28 #[.int .i64 (x0).order.start, .slice A11 n11 c11, .slice B11 m11 d11, .slice C11 l11 f11, .int .i64 (x0).state], rBook (.agg #[.int .i64 ((bookDo x0 ⟨ak, am⟩)).order.start, .slice A17 n17 c17, .slice B17 m17 d17, .slice C17 l17 f17, .int .i64 ((bookDo x0 ⟨ak, am⟩)).state]) (markB (1) (bookDo x0 ⟨ak, am⟩)), rBlk g17 28 #[.int .i64 ((bookDo x0 ⟨ak, am⟩)).order.start, .slice A17 n17 c17, .slice B17 m17 d17, .slice C17 l17 f17, .int .i64 ((bookDo x0 ⟨ak, am⟩)).state], rBook (.agg #[.int .i64 ((bookDo x0 ⟨ak, am⟩)).order.start, .slice A60 n60 c60, .slice B60 m60 d60, .slice C60 l60 f60, .int .i64 ((bookDo x0 ⟨ak, am⟩)).state]) (bookDo x0 ⟨ak, am⟩), rBlk g60 28 #[.int .i64 ((bookDo x0 ⟨ak, am⟩)).order.start, .slice A60 n60 c60, .slice B60 m60 d60, .slice C60 l60 f60, .int .i64 ((bookDo x0 ⟨ak, am⟩)).state]] := S60'
          clear hR hD S60'
          clear q55 q56 q57 q58 q59
          have q61 : ∀ j, wx60.cell? ⟨w.heap.size, j, none⟩ = _ := S60.cells 0 rfl
          have q62 : ∀ j, wx60.cell? ⟨(w.heap.size + 1), j, none⟩ = _ := S60.cells 1 rfl
          have q63 : ∀ j, wx60.cell? ⟨g7, j, none⟩ = _ := S60.cells 3 rfl
          have q64 : ∀ j, wx60.cell? ⟨w111.heap.size, j, none⟩ = _ := S60.cells 5 rfl
          have q65 : ∀ j, wx60.cell? ⟨g17, j, none⟩ = _ := S60.cells 7 rfl
          have q66 : ∀ j, wx60.cell? ⟨g60, j, none⟩ = _ := S60.cells 9 rfl
          go_wp2_with fail
          refine (eqBook_same _ (bookDo x0 ⟨ak, am⟩) _ _ (S60.rdB 8 rfl) (S60.rdB 2 rfl)).mono ?_
          rintro e w167 ⟨rfl, hb67⟩
          have S67 : St w w167 [rBlk w.heap.size 43 #[.int .i64 (x0).order.start, .slice Ax0 nx0 cx0, .slice Bx0 mx0 dx0, .slice Cx0 lx0 fx0, .int .i64 (x0).state], rBlk (w.heap.size + 1) 45 #[.int .i64 ak, .int .i64 am], rBook (.agg #[.int .i64 ((bookDo x0 ⟨ak, am⟩)).order.start, .slice A7 n7 c7, .slice B7 m7 d7, .slice C7 l7 f7, .int .i64 ((bookDo x0 ⟨ak, am⟩)).state]) (bookDo x0 ⟨ak, am⟩), rBlk g7 28 #[.int .i64 ((bookDo x0 ⟨ak, am⟩)).order.start, .slice A7 n7 c7, .slice B7 m7 d7, .slice C7 l7 f7, .int .i64 ((bookDo x0 ⟨ak, am⟩)).state], rBook (.agg #[.int .i64 (x0).order.start, .slice A11 n11 c11, .slice B11 m11 d11, .slice C11 l11 f11, .int .i64 (x0).state]) (markB (1) (x0)), rBlk w111.heap.size 28 #[.int .i64 (x0).order.start, .slice A11 n11 c11, .slice B11 m11 d11, .slice C11 l11 f11, .int .i64 (x0).state], rBook (.agg #[.int .i64 ((bookDo x0 ⟨ak, am⟩)).order.start, .slice A17 n17 c17, .slice B17 m17 d17, .slice C17 l17 f17, .int .i64 ((bookDo x0 ⟨ak, am⟩)).state]) (markB (1) (bookDo x0 ⟨ak, am⟩)), rBlk g17 28 #[.int .i64 ((bookDo x0 ⟨ak, am⟩)).order.start, .slice A17 n17 c17, .slice B17 m17 d17, .slice C17 l17 f17, .int .i64 ((bookDo x0 ⟨ak, am⟩)).state], rBook (.agg #[.int .i64 ((bookDo x0 ⟨ak, am⟩)).order.start, .slice A60 n60 c60, .slice B60 m60 d60, .slice C60 l60 f60, .int .i64 ((bookDo x0 ⟨ak, am⟩)).state]) (bookDo x0 ⟨ak, am⟩), rBlk g60 28 #[.int .i64 ((bookDo x0 ⟨ak, am⟩)).order.start, .slice A60 n60 c60, .slice B60 m60 d60, .slice C60 l60 f60, .int .i64 ((bookDo x0 ⟨ak, am⟩)).state]] := S60.quiet hb67
          clear q61 q62 q63 q64 q65 q66
          have q68 : ∀ j, w167.cell? ⟨w.heap.size, j, none⟩ = _ := S67.cells 0 rfl
          have q69 : ∀ j, w167.cell? ⟨(w.heap.size + 1), j, none⟩ = _ := S67.cells 1 rfl
          have q70 : ∀ j, w167.cell? ⟨g7, j, none⟩ = _ := S67.cells 3 rfl
          have q71 : ∀ j, w167.cell? ⟨w111.heap.size, j, none⟩ = _ := S67.cells 5 rfl
          have q72 : ∀ j, w167.cell? ⟨g17, j, none⟩ = _ := S67.cells 7 rfl
          have q73 : ∀ j, w167.cell? ⟨g60, j, none⟩ = _ := S67.cells 9 rfl
          go_wp2_with fail
          refine (heldBook_any _ (1) (bookDo x0 ⟨ak, am⟩) _ (S67.rdB 6 rfl) (by omega)).mono ?_
          rintro e w174 ⟨rfl, hb74⟩
          have S74 : St w w174 [rBlk w.heap.size 43 #[.int .i64 (x0).order.start, .slice Ax0 nx0 cx0, .slice Bx0 mx0 dx0, .slice Cx0 lx0 fx0, .int .i64 (x0).state], rBlk (w.heap.size + 1) 45 #[.int .i64 ak, .int .i64 am], rBook (.agg #[.int .i64 ((bookDo x0 ⟨ak, am⟩)).order.start, .slice A7 n7 c7, .slice B7 m7 d7, .slice C7 l7 f7, .int .i64 ((bookDo x0 ⟨ak, am⟩)).state]) (bookDo x0 ⟨ak, am⟩), rBlk g7 28 #[.int .i64 ((bookDo x0 ⟨ak, am⟩)).order.start, .slice A7 n7 c7, .slice B7 m7 d7, .slice C7 l7 f7, .int .i64 ((bookDo x0 ⟨ak, am⟩)).state], rBook (.agg #[.int .i64 (x0).order.start, .slice A11 n11 c11, .slice B11 m11 d11, .slice C11 l11 f11, .int .i64 (x0).state]) (markB (1) (x0)), rBlk w111.heap.size 28 #[.int .i64 (x0).order.start, .slice A11 n11 c11, .slice B11 m11 d11, .slice C11 l11 f11, .int .i64 (x0).state], rBook (.agg #[.int .i64 ((bookDo x0 ⟨ak, am⟩)).order.start, .slice A17 n17 c17, .slice B17 m17 d17, .slice C17 l17 f17, .int .i64 ((bookDo x0 ⟨ak, am⟩)).state]) (markB (1) (bookDo x0 ⟨ak, am⟩)), rBlk g17 28 #[.int .i64 ((bookDo x0 ⟨ak, am⟩)).order.start, .slice A17 n17 c17, .slice B17 m17 d17, .slice C17 l17 f17, .int .i64 ((bookDo x0 ⟨ak, am⟩)).state], rBook (.agg #[.int .i64 ((bookDo x0 ⟨ak, am⟩)).order.start, .slice A60 n60 c60, .slice B60 m60 d60, .slice C60 l60 f60, .int .i64 ((bookDo x0 ⟨ak, am⟩)).state]) (bookDo x0 ⟨ak, am⟩), rBlk g60 28 #[.int .i64 ((bookDo x0 ⟨ak, am⟩)).order.start, .slice A60 n60 c60, .slice B60 m60 d60, .slice C60 l60 f60, .int .i64 ((bookDo x0 ⟨ak, am⟩)).state]] := S67.quiet hb74
          clear q68 q69 q70 q71 q72 q73
          have q75 : ∀ j, w174.cell? ⟨w.heap.size, j, none⟩ = _ := S74.cells 0 rfl
          have q76 : ∀ j, w174.cell? ⟨(w.heap.size + 1), j, none⟩ = _ := S74.cells 1 rfl
          have q77 : ∀ j, w174.cell? ⟨g7, j, none⟩ = _ := S74.cells 3 rfl
          have q78 : ∀ j, w174.cell? ⟨w111.heap.size, j, none⟩ = _ := S74.cells 5 rfl
          have q79 : ∀ j, w174.cell? ⟨g17, j, none⟩ = _ := S74.cells 7 rfl
          have q80 : ∀ j, w174.cell? ⟨g60, j, none⟩ = _ := S74.cells 9 rfl
          go_wp2
          go_ret
          exact ⟨rfl, S74.below⟩
end Go.Proofs.Ytkebgldeahklmaa
