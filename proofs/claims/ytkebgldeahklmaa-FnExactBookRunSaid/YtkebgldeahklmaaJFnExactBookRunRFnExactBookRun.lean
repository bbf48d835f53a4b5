/- The law FnExactBookRun, walked. -/
import Derived.Test.YtkebgldeahklmaaJFnExactBookRunRunB
import Derived.Test.YtkebgldeahklmaaJFnExactBookRunActsH
namespace Go.Proofs.Ytkebgldeahklmaa
set_option linter.unusedVariables false
open Go.ChangeShapes Go.WideShapes Go.ChangeAt Go.RowKit
theorem mkB_do (b : BookD) (a : ActD) : mkB (bookDo b a) ≤ mkB b + 40 := by
  cases hb : bookOk b with
  | false => rw [(bookDo_bad hb).1]; exact Nat.zero_le _
  | true =>
    cases h : doneAfter b a with
    | none => rw [(bookDo_none hb h).1]; omega
    | some d =>
      rw [(bookDo_some hb h).1]
      have := doneAfter_len hb h
      unfold mkB withDone
      simp only
      omega
theorem mkB_run (b : BookD) (aa : List ActD) : mkB (bookRun b aa).1 ≤ mkB b + 40 := by
  unfold bookRun
  split
  · next h =>
    simp only [Bool.and_eq_true] at h
    obtain ⟨h1, h2, -⟩ := runB_ok aa h.1
    have := (bookOk_parts h1).2.1
    unfold mkB
    rw [h2]
    omega
  · exact Nat.zero_le _

set_option maxRecDepth 100000 in
set_option maxHeartbeats 4000000 in
theorem FnExactBookRun_walk (v0 : Value) (x0 : BookD) (A1 : Option Addr) (n1 c1 : Nat) (x1 : List ActD) (w : World) (h0 : RdBM maxLen w w.heap.size v0 x0) (h1 : RdA w w.heap.size A1 n1 c1 x1) (hw1 : ∀ a ∈ x1, (Lit.int .i64 a.number).wf = true) :
    Calls Try.prog 7 #[v0, .slice A1 n1 c1] w fun e w' => e = .returned (.bool true) ∧ Below w.heap.size w w' := by
  obtain ⟨Ax0, nx0, cx0, Bx0, mx0, dx0, Cx0, lx0, fx0, hv0⟩ := h0.form
  subst hv0
  have S1a : St w (w.alloc (Obj.cells #[.int .i64 (x0).order.start, .slice Ax0 nx0 cx0, .slice Bx0 mx0 dx0, .slice Cx0 lx0 fx0, .int .i64 (x0).state] 43)) [rBlk w.heap.size 43 #[.int .i64 (x0).order.start, .slice Ax0 nx0 cx0, .slice Bx0 mx0 dx0, .slice Cx0 lx0 fx0, .int .i64 (x0).state]] := ((St.refl w).alloc #[.int .i64 (x0).order.start, .slice Ax0 nx0 cx0, .slice Bx0 mx0 dx0, .slice Cx0 lx0 fx0, .int .i64 (x0).state] 43)
  have q2 : ∀ j, (w.alloc (Obj.cells #[.int .i64 (x0).order.start, .slice Ax0 nx0 cx0, .slice Bx0 mx0 dx0, .slice Cx0 lx0 fx0, .int .i64 (x0).state] 43)).cell? ⟨w.heap.size, j, none⟩ = _ := S1a.cells 0 rfl
  by_cases hz0 : ((szB x0 : Nat) : Int) ≤ 1048576 - 0
  case neg =>
    go_enter Try.func7, Try.ntmps7
    go_wp2_with fail
    refine (szBook_any (M := maxLen) (by unfold maxLen; omega) _ x0 _ _ (h0.up S1a.below) (by omega) (by omega)).mono ?_
    rw [less_no (by omega)]
    rintro e w' ⟨rfl, hb⟩
    go_wp2
    go_ret
    exact ⟨rfl, (S1a.quiet hb).below⟩
  have hcm1 := h1.2.capMax
  have hcp1 := h1.2.cap
  unfold maxLen at hcm1
  by_cases hz1 : ((n1 : Nat) : Int) ≤ 1048576 - 0 - ((szB x0 : Nat) : Int)
  case neg =>
    go_enter Try.func7, Try.ntmps7
    go_wp2_with fail
    refine (szBook_any (M := maxLen) (by unfold maxLen; omega) _ x0 _ _ (h0.up S1a.below) (by omega) (by omega)).mono ?_
    rw [less_yes (by omega)]
    rintro e w103 ⟨rfl, hb3⟩
    have S3 : St w w103 [rBlk w.heap.size 43 #[.int .i64 (x0).order.start, .slice Ax0 nx0 cx0, .slice Bx0 mx0 dx0, .slice Cx0 lx0 fx0, .int .i64 (x0).state]] := S1a.quiet hb3
    clear q2
    have q4 : ∀ j, w103.cell? ⟨w.heap.size, j, none⟩ = _ := S3.cells 0 rfl
    go_wp2_with fail
    refine (szActS_any _ n1 _ _ _ (by omega) (by omega) (by omega)).mono ?_
    rw [less_no (by omega)]
    rintro e w' ⟨rfl, hb⟩
    go_wp2
    go_ret
    exact ⟨rfl, (S3.quiet hb).below⟩
  have hr0 := h0.less (M' := 1048576) (by omega)
  have HR0 := Lib.hid hr0
  clear hr0
  have hmk0 : mkB x0 ≤ 4194304 := by have := mkB_le x0; omega
  have hl1 : (x1).length ≤ 1048576 := by have := h1.1; omega
  have HR1 := Lib.hid h1
  have hM0 : mkB (bookRun x0 x1).1 ≤ 8388608 := by have := mkB_run x0 x1; omega
  go_enter Try.func7, Try.ntmps7
  go_wp2_with fail
  refine (szBook_any (M := maxLen) (by unfold maxLen; omega) _ x0 _ _ (h0.up S1a.below) (by omega) (by omega)).mono ?_
  rw [less_yes (by omega)]
  rintro e w105 ⟨rfl, hb5⟩
  have S5 : St w w105 [rBlk w.heap.size 43 #[.int .i64 (x0).order.start, .slice Ax0 nx0 cx0, .slice Bx0 mx0 dx0, .slice Cx0 lx0 fx0, .int .i64 (x0).state]] := S1a.quiet hb5
  clear q2
  have q6 : ∀ j, w105.cell? ⟨w.heap.size, j, none⟩ = _ := S5.cells 0 rfl
  go_wp2_with fail
  refine (szActS_any _ n1 _ _ _ (by omega) (by omega) (by omega)).mono ?_
  rw [less_yes (by omega)]
  rintro e w107 ⟨rfl, hb7⟩
  have S7 : St w w107 [rBlk w.heap.size 43 #[.int .i64 (x0).order.start, .slice Ax0 nx0 cx0, .slice Bx0 mx0 dx0, .slice Cx0 lx0 fx0, .int .i64 (x0).state]] := S5.quiet hb7
  clear q6
  have q8 : ∀ j, w107.cell? ⟨w.heap.size, j, none⟩ = _ := S7.cells 0 rfl
  clear q8
  have q9 : ∀ j, w107.cell? ⟨w.heap.size, j, none⟩ = _ := S7.cells 0 rfl
  go_wp2_with fail
  refine (toBook_st _ x0 _ (HR0.out.up S7.below)).mono ?_
  rintro e w110 ⟨v10, rfl, s10⟩
  obtain ⟨A10, n10, c10, B10, m10, d10, C10, l10, f10, hv⟩ := s10.formB 0 rfl
  subst hv
  have S10 : St w w110 [rBlk w.heap.size 43 #[.int .i64 (x0).order.start, .slice Ax0 nx0 cx0, .slice Bx0 mx0 dx0, .slice Cx0 lx0 fx0, .int .i64 (x0).state], rBook (.agg #[.int .i64 (x0).order.start, .slice A10 n10 c10, .slice B10 m10 d10, .slice C10 l10 f10, .int .i64 (x0).state]) x0] := S7.call s10
  clear q9
  have q11 : ∀ j, w110.cell? ⟨w.heap.size, j, none⟩ = _ := S10.cells 0 rfl
  go_wp2_with fail
  refine (toActS_st _ _ _ x1 _ (HR1.out.up S10.below) (by omega)).mono ?_
  rintro e w112 ⟨v12, rfl, s12⟩
  obtain ⟨A12, c12, hv, -⟩ := s12.rdA 0 rfl
  subst hv
  have S12 : St w w112 [rBlk w.heap.size 43 #[.int .i64 (x0).order.start, .slice Ax0 nx0 cx0, .slice Bx0 mx0 dx0, .slice Cx0 lx0 fx0, .int .i64 (x0).state], rBook (.agg #[.int .i64 (x0).order.start, .slice A10 n10 c10, .slice B10 m10 d10, .slice C10 l10 f10, .int .i64 (x0).state]) x0, rActs (.slice A12 (x1).length c12) x1] := S10.call s12
  go_wp2_with fail
  refine (bookRun_spec _ x0 _ _ _ x1 _ (S12.rdB 1 rfl) (S12.rdA' 2 rfl) hw1).mono ?_
  rintro e w113 ⟨v13, rfl, s13⟩
  obtain ⟨A13, n13, c13, B13, m13, d13, C13, l13, f13, hv⟩ := s13.formB 0 rfl
  subst hv
  have S13 : St w w113 [rBlk w.heap.size 43 #[.int .i64 (x0).order.start, .slice Ax0 nx0 cx0, .slice Bx0 mx0 dx0, .slice Cx0 lx0 fx0, .int .i64 (x0).state], rBook (.agg #[.int .i64 (x0).order.start, .slice A10 n10 c10, .slice B10 m10 d10, .slice C10 l10 f10, .int .i64 (x0).state]) x0, rActs (.slice A12 (x1).length c12) x1, rBook (.agg #[.int .i64 (((bookRun x0 x1).1)).order.start, .slice A13 n13 c13, .slice B13 m13 d13, .slice C13 l13 f13, .int .i64 (((bookRun x0 x1).1)).state]) ((bookRun x0 x1).1)] := S12.call s13
  have S14a : St w (w113.alloc (Obj.cells #[.int .i64 (((bookRun x0 x1).1)).order.start, .slice A13 n13 c13, .slice B13 m13 d13, .slice C13 l13 f13, .int .i64 (((bookRun x0 x1).1)).state] 28)) [rBlk w.heap.size 43 #[.int .i64 (x0).order.start, .slice Ax0 nx0 cx0, .slice Bx0 mx0 dx0, .slice Cx0 lx0 fx0, .int .i64 (x0).state], rBook (.agg #[.int .i64 (x0).order.start, .slice A10 n10 c10, .slice B10 m10 d10, .slice C10 l10 f10, .int .i64 (x0).state]) x0, rActs (.slice A12 (x1).length c12) x1, rBook (.agg #[.int .i64 (((bookRun x0 x1).1)).order.start, .slice A13 n13 c13, .slice B13 m13 d13, .slice C13 l13 f13, .int .i64 (((bookRun x0 x1).1)).state]) ((bookRun x0 x1).1), rBlk w113.heap.size 28 #[.int .i64 (((bookRun x0 x1).1)).order.start, .slice A13 n13 c13, .slice B13 m13 d13, .slice C13 l13 f13, .int .i64 (((bookRun x0 x1).1)).state]] := (S13.alloc #[.int .i64 (((bookRun x0 x1).1)).order.start, .slice A13 n13 c13, .slice B13 m13 d13, .slice C13 l13 f13, .int .i64 (((bookRun x0 x1).1)).state] 28)
  clear q11
  have q15 : ∀ j, (w113.alloc (Obj.cells #[.int .i64 (((bookRun x0 x1).1)).order.start, .slice A13 n13 c13, .slice B13 m13 d13, .slice C13 l13 f13, .int .i64 (((bookRun x0 x1).1)).state] 28)).cell? ⟨w.heap.size, j, none⟩ = _ := S14a.cells 0 rfl
  have q16 : ∀ j, (w113.alloc (Obj.cells #[.int .i64 (((bookRun x0 x1).1)).order.start, .slice A13 n13 c13, .slice B13 m13 d13, .slice C13 l13 f13, .int .i64 (((bookRun x0 x1).1)).state] 28)).cell? ⟨w113.heap.size, j, none⟩ = _ := S14a.cells 4 rfl
  go_wp2_with fail
  refine (toBook_st _ x0 _ (HR0.out.up S14a.below)).mono ?_
  rintro e w117 ⟨v17, rfl, s17⟩
  obtain ⟨A17, n17, c17, B17, m17, d17, C17, l17, f17, hv⟩ := s17.formB 0 rfl
  subst hv
  have S17 : St w w117 [rBlk w.heap.size 43 #[.int .i64 (x0).order.start, .slice Ax0 nx0 cx0, .slice Bx0 mx0 dx0, .slice Cx0 lx0 fx0, .int .i64 (x0).state], rBook (.agg #[.int .i64 (x0).order.start, .slice A10 n10 c10, .slice B10 m10 d10, .slice C10 l10 f10, .int .i64 (x0).state]) x0, rActs (.slice A12 (x1).length c12) x1, rBook (.agg #[.int .i64 (((bookRun x0 x1).1)).order.start, .slice A13 n13 c13, .slice B13 m13 d13, .slice C13 l13 f13, .int .i64 (((bookRun x0 x1).1)).state]) ((bookRun x0 x1).1), rBlk w113.heap.size 28 #[.int .i64 (((bookRun x0 x1).1)).order.start, .slice A13 n13 c13, .slice B13 m13 d13, .slice C13 l13 f13, .int .i64 (((bookRun x0 x1).1)).state], rBook (.agg #[.int .i64 (x0).order.start, .slice A17 n17 c17, .slice B17 m17 d17, .slice C17 l17 f17, .int .i64 (x0).state]) x0] := S14a.call s17
  have S18a : St w (w117.alloc (Obj.cells #[.int .i64 (x0).order.start, .slice A17 n17 c17, .slice B17 m17 d17, .slice C17 l17 f17, .int .i64 (x0).state] 28)) [rBlk w.heap.size 43 #[.int .i64 (x0).order.start, .slice Ax0 nx0 cx0, .slice Bx0 mx0 dx0, .slice Cx0 lx0 fx0, .int .i64 (x0).state], rBook (.agg #[.int .i64 (x0).order.start, .slice A10 n10 c10, .slice B10 m10 d10, .slice C10 l10 f10, .int .i64 (x0).state]) x0, rActs (.slice A12 (x1).length c12) x1, rBook (.agg #[.int .i64 (((bookRun x0 x1).1)).order.start, .slice A13 n13 c13, .slice B13 m13 d13, .slice C13 l13 f13, .int .i64 (((bookRun x0 x1).1)).state]) ((bookRun x0 x1).1), rBlk w113.heap.size 28 #[.int .i64 (((bookRun x0 x1).1)).order.start, .slice A13 n13 c13, .slice B13 m13 d13, .slice C13 l13 f13, .int .i64 (((bookRun x0 x1).1)).state], rBook (.agg #[.int .i64 (x0).order.start, .slice A17 n17 c17, .slice B17 m17 d17, .slice C17 l17 f17, .int .i64 (x0).state]) x0, rBlk w117.heap.size 28 #[.int .i64 (x0).order.start, .slice A17 n17 c17, .slice B17 m17 d17, .slice C17 l17 f17, .int .i64 (x0).state]] := (S17.alloc #[.int .i64 (x0).order.start, .slice A17 n17 c17, .slice B17 m17 d17, .slice C17 l17 f17, .int .i64 (x0).state] 28)
  clear q15 q16
  have q19 : ∀ j, (w117.alloc (Obj.cells #[.int .i64 (x0).order.start, .slice A17 n17 c17, .slice B17 m17 d17, .slice C17 l17 f17, .int .i64 (x0).state] 28)).cell? ⟨w.heap.size, j, none⟩ = _ := S18a.cells 0 rfl
  have q20 : ∀ j, (w117.alloc (Obj.cells #[.int .i64 (x0).order.start, .slice A17 n17 c17, .slice B17 m17 d17, .slice C17 l17 f17, .int .i64 (x0).state] 28)).cell? ⟨w113.heap.size, j, none⟩ = _ := S18a.cells 4 rfl
  have q21 : ∀ j, (w117.alloc (Obj.cells #[.int .i64 (x0).order.start, .slice A17 n17 c17, .slice B17 m17 d17, .slice C17 l17 f17, .int .i64 (x0).state] 28)).cell? ⟨w117.heap.size, j, none⟩ = _ := S18a.cells 6 rfl
  go_wp2_with fail
  refine (toActS_st _ _ _ x1 _ (HR1.out.up S18a.below) (by omega)).mono ?_
  rintro e w122 ⟨v22, rfl, s22⟩
  obtain ⟨A22, c22, hv, -⟩ := s22.rdA 0 rfl
  subst hv
  have S22 : St w w122 [rBlk w.heap.size 43 #[.int .i64 (x0).order.start, .slice Ax0 nx0 cx0, .slice Bx0 mx0 dx0, .slice Cx0 lx0 fx0, .int .i64 (x0).state], rBook (.agg #[.int .i64 (x0).order.start, .slice A10 n10 c10, .slice B10 m10 d10, .slice C10 l10 f10, .int .i64 (x0).state]) x0, rActs (.slice A12 (x1).length c12) x1, rBook (.agg #[.int .i64 (((bookRun x0 x1).1)).order.start, .slice A13 n13 c13, .slice B13 m13 d13, .slice C13 l13 f13, .int .i64 (((bookRun x0 x1).1)).state]) ((bookRun x0 x1).1), rBlk w113.heap.size 28 #[.int .i64 (((bookRun x0 x1).1)).order.start, .slice A13 n13 c13, .slice B13 m13 d13, .slice C13 l13 f13, .int .i64 (((bookRun x0 x1).1)).state], rBook (.agg #[.int .i64 (x0).order.start, .slice A17 n17 c17, .slice B17 m17 d17, .slice C17 l17 f17, .int .i64 (x0).state]) x0, rBlk w117.heap.size 28 #[.int .i64 (x0).order.start, .slice A17 n17 c17, .slice B17 m17 d17, .slice C17 l17 f17, .int .i64 (x0).state], rActs (.slice A22 (x1).length c22) x1] := S18a.call s22
  clear q19 q20 q21
  have q23 : ∀ j, w122.cell? ⟨w.heap.size, j, none⟩ = _ := S22.cells 0 rfl
  have q24 : ∀ j, w122.cell? ⟨w113.heap.size, j, none⟩ = _ := S22.cells 4 rfl
  have q25 : ∀ j, w122.cell? ⟨w117.heap.size, j, none⟩ = _ := S22.cells 6 rfl
  go_wp2_with fail
  refine (bookRun_impl _ x0 _ _ _ x1 _ (S22.rdB 5 rfl) (S22.rdA' 7 rfl) hw1).mono ?_
  rintro e w126 ⟨v26, rfl, s26⟩
  obtain ⟨A26, n26, c26, B26, m26, d26, C26, l26, f26, hv⟩ := s26.formB 0 rfl
  subst hv
  have S26 : St w w126 [rBlk w.heap.size 43 #[.int .i64 (x0).order.start, .slice Ax0 nx0 cx0, .slice Bx0 mx0 dx0, .slice Cx0 lx0 fx0, .int .i64 (x0).state], rBook (.agg #[.int .i64 (x0).order.start, .slice A10 n10 c10, .slice B10 m10 d10, .slice C10 l10 f10, .int .i64 (x0).state]) x0, rActs (.slice A12 (x1).length c12) x1, rBook (.agg #[.int .i64 (((bookRun x0 x1).1)).order.start, .slice A13 n13 c13, .slice B13 m13 d13, .slice C13 l13 f13, .int .i64 (((bookRun x0 x1).1)).state]) ((bookRun x0 x1).1), rBlk w113.heap.size 28 #[.int .i64 (((bookRun x0 x1).1)).order.start, .slice A13 n13 c13, .slice B13 m13 d13, .slice C13 l13 f13, .int .i64 (((bookRun x0 x1).1)).state], rBook (.agg #[.int .i64 (x0).order.start, .slice A17 n17 c17, .slice B17 m17 d17, .slice C17 l17 f17, .int .i64 (x0).state]) x0, rBlk w117.heap.size 28 #[.int .i64 (x0).order.start, .slice A17 n17 c17, .slice B17 m17 d17, .slice C17 l17 f17, .int .i64 (x0).state], rActs (.slice A22 (x1).length c22) x1, rBook (.agg #[.int .i64 (((bookRun x0 x1).1)).order.start, .slice A26 n26 c26, .slice B26 m26 d26, .slice C26 l26 f26, .int .i64 (((bookRun x0 x1).1)).state]) ((bookRun x0 x1).1)] := S22.call s26
  have S27a : St w (w126.alloc (Obj.cells #[.int .i64 (((bookRun x0 x1).1)).order.start, .slice A26 n26 c26, .slice B26 m26 d26, .slice C26 l26 f26, .int .i64 (((bookRun x0 x1).1)).state] 28)) [rBlk w.heap.size 43 #[.int .i64 (x0).order.start, .slice Ax0 nx0 cx0, .slice Bx0 mx0 dx0, .slice Cx0 lx0 fx0, .int .i64 (x0).state], rBook (.agg #[.int .i64 (x0).order.start, .slice A10 n10 c10, .slice B10 m10 d10, .slice C10 l10 f10, .int .i64 (x0).state]) x0, rActs (.slice A12 (x1).length c12) x1, rBook (.agg #[.int .i64 (((bookRun x0 x1).1)).order.start, .slice A13 n13 c13, .slice B13 m13 d13, .slice C13 l13 f13, .int .i64 (((bookRun x0 x1).1)).state]) ((bookRun x0 x1).1), rBlk w113.heap.size 28 #[.int .i64 (((bookRun x0 x1).1)).order.start, .slice A13 n13 c13, .slice B13 m13 d13, .slice C13 l13 f13, .int .i64 (((bookRun x0 x1).1)).state], rBook (.agg #[.int .i64 (x0).order.start, .slice A17 n17 c17, .slice B17 m17 d17, .slice C17 l17 f17, .int .i64 (x0).state]) x0, rBlk w117.heap.size 28 #[.int .i64 (x0).order.start, .slice A17 n17 c17, .slice B17 m17 d17, .slice C17 l17 f17, .int .i64 (x0).state], rActs (.slice A22 (x1).length c22) x1, rBook (.agg #[.int .i64 (((bookRun x0 x1).1)).order.start, .slice A26 n26 c26, .slice B26 m26 d26, .slice C26 l26 f26, .int .i64 (((bookRun x0 x1).1)).state]) ((bookRun x0 x1).1), rBlk w126.heap.size 28 #[.int .i64 (((bookRun x0 x1).1)).order.start, .slice A26 n26 c26, .slice B26 m26 d26, .slice C26 l26 f26, .int .i64 (((bookRun x0 x1).1)).state]] := (S26.alloc #[.int .i64 (((bookRun x0 x1).1)).order.start, .slice A26 n26 c26, .slice B26 m26 d26, .slice C26 l26 f26, .int .i64 (((bookRun x0 x1).1)).state] 28)
  clear q23 q24 q25
  have q28 : ∀ j, (w126.alloc (Obj.cells #[.int .i64 (((bookRun x0 x1).1)).order.start, .slice A26 n26 c26, .slice B26 m26 d26, .slice C26 l26 f26, .int .i64 (((bookRun x0 x1).1)).state] 28)).cell? ⟨w.heap.size, j, none⟩ = _ := S27a.cells 0 rfl
  have q29 : ∀ j, (w126.alloc (Obj.cells #[.int .i64 (((bookRun x0 x1).1)).order.start, .slice A26 n26 c26, .slice B26 m26 d26, .slice C26 l26 f26, .int .i64 (((bookRun x0 x1).1)).state] 28)).cell? ⟨w113.heap.size, j, none⟩ = _ := S27a.cells 4 rfl
  have q30 : ∀ j, (w126.alloc (Obj.cells #[.int .i64 (((bookRun x0 x1).1)).order.start, .slice A26 n26 c26, .slice B26 m26 d26, .slice C26 l26 f26, .int .i64 (((bookRun x0 x1).1)).state] 28)).cell? ⟨w117.heap.size, j, none⟩ = _ := S27a.cells 6 rfl
  have q31 : ∀ j, (w126.alloc (Obj.cells #[.int .i64 (((bookRun x0 x1).1)).order.start, .slice A26 n26 c26, .slice B26 m26 d26, .slice C26 l26 f26, .int .i64 (((bookRun x0 x1).1)).state] 28)).cell? ⟨w126.heap.size, j, none⟩ = _ := S27a.cells 9 rfl
  go_wp2_with fail
  refine (eqBook_same _ ((bookRun x0 x1).1) _ _ (S27a.rdB 8 rfl) (S27a.rdB 3 rfl)).mono ?_
  rintro e w132 ⟨rfl, hb32⟩
  have S32 : St w w132 [rBlk w.heap.size 43 #[.int .i64 (x0).order.start, .slice Ax0 nx0 cx0, .slice Bx0 mx0 dx0, .slice Cx0 lx0 fx0, .int .i64 (x0).state], rBook (.agg #[.int .i64 (x0).order.start, .slice A10 n10 c10, .slice B10 m10 d10, .slice C10 l10 f10, .int .i64 (x0).state]) x0, rActs (.slice A12 (x1).length c12) x1, rBook (.agg #[.int .i64 (((bookRun x0 x1).1)).order.start, .slice A13 n13 c13, .slice B13 m13 d13, .slice C13 l13 f13, .int .i64 (((bookRun x0 x1).1)).state]) ((bookRun x0 x1).1), rBlk w113.heap.size 28 #[.int .i64 (((bookRun x0 x1).1)).order.start, .slice A13 n13 c13, .slice B13 m13 d13, .slice C13 l13 f13, .int .i64 (((bookRun x0 x1).1)).state], rBook (.agg #[.int .i64 (x0).order.start, .slice A17 n17 c17, .slice B17 m17 d17, .slice C17 l17 f17, .int .i64 (x0).state]) x0, rBlk w117.heap.size 28 #[.int .i64 (x0).order.start, .slice A17 n17 c17, .slice B17 m17 d17, .slice C17 l17 f17, .int .i64 (x0).state], rActs (.slice A22 (x1).length c22) x1, rBook (.agg #[.int .i64 (((bookRun x0 x1).1)).order.start, .slice A26 n26 c26, .slice B26 m26 d26, .slice C26 l26 f26, .int .i64 (((bookRun x0 x1).1)).state]) ((bookRun x0 x1).1), rBlk w126.heap.size 28 #[.int .i64 (((bookRun x0 x1).1)).order.start, .slice A26 n26 c26, .slice B26 m26 d26, .slice C26 l26 f26, .int .i64 (((bookRun x0 x1).1)).state]] := S27a.quiet hb32
  clear q28 q29 q30 q31
  have q33 : ∀ j, w132.cell? ⟨w.heap.size, j, none⟩ = _ := S32.cells 0 rfl
  have q34 : ∀ j, w132.cell? ⟨w113.heap.size, j, none⟩ = _ := S32.cells 4 rfl
  have q35 : ∀ j, w132.cell? ⟨w117.heap.size, j, none⟩ = _ := S32.cells 6 rfl
  have q36 : ∀ j, w132.cell? ⟨w126.heap.size, j, none⟩ = _ := S32.cells 9 rfl
  go_upto_region 14 with (fail)
  refine wp_reg (σ := Value) (by kernel_rfl) (by kernel_rfl) (by kernel_rfl)
    (fun s i => match i with
      | 0 => .agg #[.int .i64 (x0).order.start, .slice A17 n17 c17, .slice B17 m17 d17, .slice C17 l17 f17, .int .i64 (x0).state]
      | 1 => .agg #[.int .i64 (x0).order.start, .slice Ax0 nx0 cx0, .slice Bx0 mx0 dx0, .slice Cx0 lx0 fx0, .int .i64 (x0).state]
      | 2 => s
      | 3 => .bool true
      | 4 => .bool false
      | _ => undef)
    (fun D s wx37 => Sn w wx37 fun i => match i with
      | 0 => some (rBlk w.heap.size 43 #[.int .i64 (x0).order.start, .slice Ax0 nx0 cx0, .slice Bx0 mx0 dx0, .slice Cx0 lx0 fx0, .int .i64 (x0).state])
      | 1 => some (rBook (.agg #[.int .i64 (x0).order.start, .slice A10 n10 c10, .slice B10 m10 d10, .slice C10 l10 f10, .int .i64 (x0).state]) x0)
      | 2 => some (rActs (.slice A12 (x1).length c12) x1)
      | 3 => some (rBook (.agg #[.int .i64 (((bookRun x0 x1).1)).order.start, .slice A13 n13 c13, .slice B13 m13 d13, .slice C13 l13 f13, .int .i64 (((bookRun x0 x1).1)).state]) ((bookRun x0 x1).1))
      | 4 => some (rBlk w113.heap.size 28 #[.int .i64 (((bookRun x0 x1).1)).order.start, .slice A13 n13 c13, .slice B13 m13 d13, .slice C13 l13 f13, .int .i64 (((bookRun x0 x1).1)).state])
      | 5 => some (rBook (.agg #[.int .i64 (x0).order.start, .slice A17 n17 c17, .slice B17 m17 d17, .slice C17 l17 f17, .int .i64 (x0).state]) x0)
      | 6 => some (rBlk w117.heap.size 28 #[.int .i64 (x0).order.start, .slice A17 n17 c17, .slice B17 m17 d17, .slice C17 l17 f17, .int .i64 (x0).state])
      | 7 => some (rActs (.slice A22 (x1).length c22) x1)
      | 8 => some (rBook (.agg #[.int .i64 (((bookRun x0 x1).1)).order.start, .slice A26 n26 c26, .slice B26 m26 d26, .slice C26 l26 f26, .int .i64 (((bookRun x0 x1).1)).state]) ((bookRun x0 x1).1))
      | 9 => some (rBlk w126.heap.size 28 #[.int .i64 (((bookRun x0 x1).1)).order.start, .slice A26 n26 c26, .slice B26 m26 d26, .slice C26 l26 f26, .int .i64 (((bookRun x0 x1).1)).state])
      | 10 => if D 2 = true then some (rBook s x0) else none
      | _ => none)
    undef ?_ ?_ ?_
  · intro D hD
    refine ((Sn.of_st S32).quiet ((Below.refl _ _).drew)).congr fun i => ?_
    match i with
    | 0 => rfl
    | 1 => rfl
    | 2 => rfl
    | 3 => rfl
    | 4 => rfl
    | 5 => rfl
    | 6 => rfl
    | 7 => rfl
    | 8 => rfl
    | 9 => rfl
    | 10 => exact if_neg (by rw [hD 2 (by decide)]; simp)
    | q + 11 => rfl
  · refine StepAll.cons (fun D s wx37 hR (hDi : D 0 = false) hd hsh a' hs K hK => ?_) ?_
    · have e8 := hs.old 8 (u := .pointer (some ⟨w117.heap.size, 0, none⟩)) (by kernel_rfl) rfl
      clear hs
      have kb : Blk wx37 (w117.heap.size) 28 #[.int .i64 (x0).order.start, .slice A17 n17 c17, .slice B17 m17 d17, .slice C17 l17 f17, .int .i64 (x0).state] := hR.blk 6 rfl
      have c0 : wx37.cell? ⟨w117.heap.size, 0, none⟩ = some (.int .i64 (x0).order.start) := kb.cell 0
      have c1 : wx37.cell? ⟨w117.heap.size, 1, none⟩ = some (.slice A17 n17 c17) := kb.cell 1
      have c2 : wx37.cell? ⟨w117.heap.size, 2, none⟩ = some (.slice B17 m17 d17) := kb.cell 2
      have c3 : wx37.cell? ⟨w117.heap.size, 3, none⟩ = some (.slice C17 l17 f17) := kb.cell 3
      have c4 : wx37.cell? ⟨w117.heap.size, 4, none⟩ = some (.int .i64 (x0).state) := kb.cell 4
      go_simp
      exact hK s wx37 (fun _ _ => rfl) hR
    refine StepAll.cons (fun D s wx37 hR (hDi : D 1 = false) hd hsh a' hs K hK => ?_) ?_
    · have e2 := hs.old 2 (u := .pointer (some ⟨w.heap.size, 0, none⟩)) (by kernel_rfl) rfl
      clear hs
      have kb : Blk wx37 (w.heap.size) 43 #[.int .i64 (x0).order.start, .slice Ax0 nx0 cx0, .slice Bx0 mx0 dx0, .slice Cx0 lx0 fx0, .int .i64 (x0).state] := hR.blk 0 rfl
      have c0 : wx37.cell? ⟨w.heap.size, 0, none⟩ = some (.int .i64 (x0).order.start) := kb.cell 0
      have c1 : wx37.cell? ⟨w.heap.size, 1, none⟩ = some (.slice Ax0 nx0 cx0) := kb.cell 1
      have c2 : wx37.cell? ⟨w.heap.size, 2, none⟩ = some (.slice Bx0 mx0 dx0) := kb.cell 2
      have c3 : wx37.cell? ⟨w.heap.size, 3, none⟩ = some (.slice Cx0 lx0 fx0) := kb.cell 3
      have c4 : wx37.cell? ⟨w.heap.size, 4, none⟩ = some (.int .i64 (x0).state) := kb.cell 4
      go_simp
      exact hK s wx37 (fun _ _ => rfl) hR
    refine StepAll.cons (fun D s wx37 hR (hDi : D 2 = false) hd hsh a' hs K hK => ?_) ?_
    · have e55 := hs.at_ 1 55 (u := .agg #[.int .i64 (x0).order.start, .slice Ax0 nx0 cx0, .slice Bx0 mx0 dx0, .slice Cx0 lx0 fx0, .int .i64 (x0).state]) rfl (hd ⟨1, .data⟩ (by simp) rfl) (by kernel_rfl) (by kernel_rfl) rfl
      have g55 := getQ e55
      clear hs
      have n3 : D 3 = false := hsh.no hDi 3 rfl ⟨2, .data⟩ (by simp) rfl rfl
      have n4 : D 4 = false := hsh.no n3 4 rfl ⟨3, .data⟩ (by simp) rfl rfl
      go_simp
      refine (toBook_st _ x0 _ (HR0.out.up hR.below)).mono ?_
      rintro e w2 ⟨v2, rfl, s2⟩
      refine hK v2 w2
        (fun j hj => by
          match j, hj with
          | 0, hj => rfl
          | 1, hj => rfl
          | 2, hj => rw [hDi] at hj; cases hj
          | 3, hj => rfl
          | 4, hj => rfl
          | _ + 5, hj => rfl)
        ((hR.add 10 (if_neg (by rw [hDi]; simp)) s2).congr
          (fun i => by
            match i with
            | 0 => rfl
            | 1 => rfl
            | 2 => rfl
            | 3 => rfl
            | 4 => rfl
            | 5 => rfl
            | 6 => rfl
            | 7 => rfl
            | 8 => rfl
            | 9 => rfl
            | 10 => rfl
            | q + 11 => exact (if_neg (show ¬ (q + 11 = 10) by omega)).symm))
    refine StepAll.cons (fun D s wx37 hR (hDi : D 3 = false) hd hsh a' hs K hK => ?_) ?_
    · have e54 := hs.at_ 0 54 (u := .agg #[.int .i64 (x0).order.start, .slice A17 n17 c17, .slice B17 m17 d17, .slice C17 l17 f17, .int .i64 (x0).state]) rfl (hd ⟨0, .data⟩ (by simp) rfl) (by kernel_rfl) (by kernel_rfl) rfl
      have e56 := hs.at_ 2 56 (u := s) rfl (hd ⟨2, .data⟩ (by simp) rfl) (by kernel_rfl) (by kernel_rfl) rfl
      have g54 := getQ e54
      have g56 := getQ e56
      clear hs
      have d2 : D 2 = true := hd ⟨2, .data⟩ (by simp) rfl
      go_simp
      refine (eqBook_same _ x0 _ _ (hR.rdB 5 rfl) (hR.rdB 10 (if_pos d2))).mono ?_
      rintro e w2 ⟨rfl, hb2⟩
      exact hK s w2 (fun _ _ => rfl) (hR.quiet hb2)
    refine StepAll.cons (fun D s wx37 hR (hDi : D 4 = false) hd hsh a' hs K hK => ?_) ?_
    · have e57 := hs.at_ 3 57 (u := .bool true) rfl (hd ⟨3, .data⟩ (by simp) rfl) (by kernel_rfl) (by kernel_rfl) rfl
      clear hs
      go_simp
      exact hK s wx37 (fun _ _ => rfl) hR
    exact StepAll.nil
  · intro D s wx37 hR hD
    simp only [putA, Act.put, List.setIfInBounds_toArray, List.set_cons_zero, List.set_cons_succ]
    have S38 : St w wx37 [rBlk w.heap.size 43 #[.int .i64 (x0).order.start, .slice Ax0 nx0 cx0, .slice Bx0 mx0 dx0, .slice Cx0 lx0 fx0, .int .i64 (x0).state], rBook (.agg #[.int .i64 (x0).order.start, .slice A10 n10 c10, .slice B10 m10 d10, .slice C10 l10 f10, .int .i64 (x0).state]) x0, rActs (.slice A12 (x1).length c12) x1, rBook (.agg #[.int .i64 (((bookRun x0 x1).1)).order.start, .slice A13 n13 c13, .slice B13 m13 d13, .slice C13 l13 f13, .int .i64 (((bookRun x0 x1).1)).state]) ((bookRun x0 x1).1), rBlk w113.heap.size 28 #[.int .i64 (((bookRun x0 x1).1)).order.start, .slice A13 n13 c13, .slice B13 m13 d13, .slice C13 l13 f13, .int .i64 (((bookRun x0 x1).1)).state], rBook (.agg #[.int .i64 (x0).order.start, .slice A17 n17 c17, .slice B17 m17 d17, .slice C17 l17 f17, .int .i64 (x0).state]) x0, rBlk w117.heap.size 28 #[.int .i64 (x0).order.start, .slice A17 n17 c17, .slice B17 m17 d17, .slice C17 l17 f17, .int .i64 (x0).state], rActs (.slice A22 (x1).length c22) x1, rBook (.agg #[.int .i64 (((bookRun x0 x1).1)).order.start, .slice A26 n26 c26, .slice B26 m26 d26, .slice C26 l26 f26, .int .i64 (((bookRun x0 x1).1)).state]) ((bookRun x0 x1).1), rBlk w126.heap.size 28 #[.int .i64 (((bookRun x0 x1).1)).order.start, .slice A26 n26 c26, .slice B26 m26 d26, .slice C26 l26 f26, .int .i64 (((bookRun x0 x1).1)).state]] := hR.to_st [0, 1, 2, 3, 4, 5, 6, 7, 8, 9] (by decide) rfl
    clear hR hD
    clear q33 q34 q35 q36
    have q39 : ∀ j, wx37.cell? ⟨w.heap.size, j, none⟩ = _ := S38.cells 0 rfl
    have q40 : ∀ j, wx37.cell? ⟨w113.heap.size, j, none⟩ = _ := S38.cells 4 rfl
    have q41 : ∀ j, wx37.cell? ⟨w117.heap.size, j, none⟩ = _ := S38.cells 6 rfl
    have q42 : ∀ j, wx37.cell? ⟨w126.heap.size, j, none⟩ = _ := S38.cells 9 rfl
    go_wp2_with fail
    refine (toActS_st _ _ _ x1 _ (HR1.out.up S38.below) (by omega)).mono ?_
    rintro e w143 ⟨v43, rfl, s43⟩
    obtain ⟨A43, c43, hv, -⟩ := s43.rdA 0 rfl
    subst hv
    have S43 : St w w143 [rBlk w.heap.size 43 #[.int .i64 (x0).order.start, .slice Ax0 nx0 cx0, .slice Bx0 mx0 dx0, .slice Cx0 lx0 fx0, .int .i64 (x0).state], rBook (.agg #[.int .i64 (x0).order.start, .slice A10 n10 c10, .slice B10 m10 d10, .slice C10 l10 f10, .int .i64 (x0).state]) x0, rActs (.slice A12 (x1).length c12) x1, rBook (.agg #[.int .i64 (((bookRun x0 x1).1)).order.start, .slice A13 n13 c13, .slice B13 m13 d13, .slice C13 l13 f13, .int .i64 (((bookRun x0 x1).1)).state]) ((bookRun x0 x1).1), rBlk w113.heap.size 28 #[.int .i64 (((bookRun x0 x1).1)).order.start, .slice A13 n13 c13, .slice B13 m13 d13, .slice C13 l13 f13, .int .i64 (((bookRun x0 x1).1)).state], rBook (.agg #[.int .i64 (x0).order.start, .slice A17 n17 c17, .slice B17 m17 d17, .slice C17 l17 f17, .int .i64 (x0).state]) x0, rBlk w117.heap.size 28 #[.int .i64 (x0).order.start, .slice A17 n17 c17, .slice B17 m17 d17, .slice C17 l17 f17, .int .i64 (x0).state], rActs (.slice A22 (x1).length c22) x1, rBook (.agg #[.int .i64 (((bookRun x0 x1).1)).order.start, .slice A26 n26 c26, .slice B26 m26 d26, .slice C26 l26 f26, .int .i64 (((bookRun x0 x1).1)).state]) ((bookRun x0 x1).1), rBlk w126.heap.size 28 #[.int .i64 (((bookRun x0 x1).1)).order.start, .slice A26 n26 c26, .slice B26 m26 d26, .slice C26 l26 f26, .int .i64 (((bookRun x0 x1).1)).state], rActs (.slice A43 (x1).length c43) x1] := S38.call s43
    go_wp2_with fail
    refine (eqActS_same _ _ _ x1 _ _ _ _ (S43.rdA' 7 rfl) (S43.rdA' 10 rfl)).mono ?_
    rintro e w144 ⟨rfl, hb44⟩
    have S44 : St w w144 [rBlk w.heap.size 43 #[.int .i64 (x0).order.start, .slice Ax0 nx0 cx0, .slice Bx0 mx0 dx0, .slice Cx0 lx0 fx0, .int .i64 (x0).state], rBook (.agg #[.int .i64 (x0).order.start, .slice A10 n10 c10, .slice B10 m10 d10, .slice C10 l10 f10, .int .i64 (x0).state]) x0, rActs (.slice A12 (x1).length c12) x1, rBook (.agg #[.int .i64 (((bookRun x0 x1).1)).order.start, .slice A13 n13 c13, .slice B13 m13 d13, .slice C13 l13 f13, .int .i64 (((bookRun x0 x1).1)).state]) ((bookRun x0 x1).1), rBlk w113.heap.size 28 #[.int .i64 (((bookRun x0 x1).1)).order.start, .slice A13 n13 c13, .slice B13 m13 d13, .slice C13 l13 f13, .int .i64 (((bookRun x0 x1).1)).state], rBook (.agg #[.int .i64 (x0).order.start, .slice A17 n17 c17, .slice B17 m17 d17, .slice C17 l17 f17, .int .i64 (x0).state]) x0, rBlk w117.heap.size 28 #[.int .i64 (x0).order.start, .slice A17 n17 c17, .slice B17 m17 d17, .slice C17 l17 f17, .int .i64 (x0).state], rActs (.slice A22 (x1).length c22) x1, rBook (.agg #[.int .i64 (((bookRun x0 x1).1)).order.start, .slice A26 n26 c26, .slice B26 m26 d26, .slice C26 l26 f26, .int .i64 (((bookRun x0 x1).1)).state]) ((bookRun x0 x1).1), rBlk w126.heap.size 28 #[.int .i64 (((bookRun x0 x1).1)).order.start, .slice A26 n26 c26, .slice B26 m26 d26, .slice C26 l26 f26, .int .i64 (((bookRun x0 x1).1)).state], rActs (.slice A43 (x1).length c43) x1] := S43.quiet hb44
    clear q39 q40 q41 q42
    have q45 : ∀ j, w144.cell? ⟨w.heap.size, j, none⟩ = _ := S44.cells 0 rfl
    have q46 : ∀ j, w144.cell? ⟨w113.heap.size, j, none⟩ = _ := S44.cells 4 rfl
    have q47 : ∀ j, w144.cell? ⟨w117.heap.size, j, none⟩ = _ := S44.cells 6 rfl
    have q48 : ∀ j, w144.cell? ⟨w126.heap.size, j, none⟩ = _ := S44.cells 9 rfl
    go_wp2_with fail
    refine (markBook_st S44 5 rfl (1) (by omega)).mono ?_
    rintro e w149 ⟨rfl, s49⟩
    have S49 : St w w149 [rBlk w.heap.size 43 #[.int .i64 (x0).order.start, .slice Ax0 nx0 cx0, .slice Bx0 mx0 dx0, .slice Cx0 lx0 fx0, .int .i64 (x0).state], rBook (.agg #[.int .i64 (x0).order.start, .slice A10 n10 c10, .slice B10 m10 d10, .slice C10 l10 f10, .int .i64 (x0).state]) x0, rActs (.slice A12 (x1).length c12) x1, rBook (.agg #[.int .i64 (((bookRun x0 x1).1)).order.start, .slice A13 n13 c13, .slice B13 m13 d13, .slice C13 l13 f13, .int .i64 (((bookRun x0 x1).1)).state]) ((bookRun x0 x1).1), rBlk w113.heap.size 28 #[.int .i64 (((bookRun x0 x1).1)).order.start, .slice A13 n13 c13, .slice B13 m13 d13, .slice C13 l13 f13, .int .i64 (((bookRun x0 x1).1)).state], rBook (.agg #[.int .i64 (x0).order.start, .slice A17 n17 c17, .slice B17 m17 d17, .slice C17 l17 f17, .int .i64 (x0).state]) (markB (1) (x0)), rBlk w117.heap.size 28 #[.int .i64 (x0).order.start, .slice A17 n17 c17, .slice B17 m17 d17, .slice C17 l17 f17, .int .i64 (x0).state], rActs (.slice A22 (x1).length c22) x1, rBook (.agg #[.int .i64 (((bookRun x0 x1).1)).order.start, .slice A26 n26 c26, .slice B26 m26 d26, .slice C26 l26 f26, .int .i64 (((bookRun x0 x1).1)).state]) ((bookRun x0 x1).1), rBlk w126.heap.size 28 #[.int .i64 (((bookRun x0 x1).1)).order.start, .slice A26 n26 c26, .slice B26 m26 d26, .slice C26 l26 f26, .int .i64 (((bookRun x0 x1).1)).state], rActs (.slice A43 (x1).length c43) x1] := s49
    clear q45 q46 q47 q48
    have q50 : ∀ j, w149.cell? ⟨w.heap.size, j, none⟩ = _ := S49.cells 0 rfl
    have q51 : ∀ j, w149.cell? ⟨w113.heap.size, j, none⟩ = _ := S49.cells 4 rfl
    have q52 : ∀ j, w149.cell? ⟨w117.heap.size, j, none⟩ = _ := S49.cells 6 rfl
    have q53 : ∀ j, w149.cell? ⟨w126.heap.size, j, none⟩ = _ := S49.cells 9 rfl
    go_wp2_with fail
    refine (markActS_st S49 7 rfl (1 + mkB (x0)) (by omega) (by omega)).mono ?_
    rintro e w154 ⟨rfl, s54⟩
    have S54 : St w w154 [rBlk w.heap.size 43 #[.int .i64 (x0).order.start, .slice Ax0 nx0 cx0, .slice Bx0 mx0 dx0, .slice Cx0 lx0 fx0, .int .i64 (x0).state], rBook (.agg #[.int .i64 (x0).order.start, .slice A10 n10 c10, .slice B10 m10 d10, .slice C10 l10 f10, .int .i64 (x0).state]) x0, rActs (.slice A12 (x1).length c12) x1, rBook (.agg #[.int .i64 (((bookRun x0 x1).1)).order.start, .slice A13 n13 c13, .slice B13 m13 d13, .slice C13 l13 f13, .int .i64 (((bookRun x0 x1).1)).state]) ((bookRun x0 x1).1), rBlk w113.heap.size 28 #[.int .i64 (((bookRun x0 x1).1)).order.start, .slice A13 n13 c13, .slice B13 m13 d13, .slice C13 l13 f13, .int .i64 (((bookRun x0 x1).1)).state], rBook (.agg #[.int .i64 (x0).order.start, .slice A17 n17 c17, .slice B17 m17 d17, .slice C17 l17 f17, .int .i64 (x0).state]) (markB (1) (x0)), rBlk w117.heap.size 28 #[.int .i64 (x0).order.start, .slice A17 n17 c17, .slice B17 m17 d17, .slice C17 l17 f17, .int .i64 (x0).state], rActs (.slice A22 (x1).length c22) (markAS (1 + mkB (x0)) (x1).length), rBook (.agg #[.int .i64 (((bookRun x0 x1).1)).order.start, .slice A26 n26 c26, .slice B26 m26 d26, .slice C26 l26 f26, .int .i64 (((bookRun x0 x1).1)).state]) ((bookRun x0 x1).1), rBlk w126.heap.size 28 #[.int .i64 (((bookRun x0 x1).1)).order.start, .slice A26 n26 c26, .slice B26 m26 d26, .slice C26 l26 f26, .int .i64 (((bookRun x0 x1).1)).state], rActs (.slice A43 (x1).length c43) x1] := s54
    clear q50 q51 q52 q53
    have q55 : ∀ j, w154.cell? ⟨w.heap.size, j, none⟩ = _ := S54.cells 0 rfl
    have q56 : ∀ j, w154.cell? ⟨w113.heap.size, j, none⟩ = _ := S54.cells 4 rfl
    have q57 : ∀ j, w154.cell? ⟨w117.heap.size, j, none⟩ = _ := S54.cells 6 rfl
    have q58 : ∀ j, w154.cell? ⟨w126.heap.size, j, none⟩ = _ := S54.cells 9 rfl
    go_wp2_with fail
    refine (eqBook_same _ ((bookRun x0 x1).1) _ _ (S54.rdB 8 rfl) (S54.rdB 3 rfl)).mono ?_
    rintro e w159 ⟨rfl, hb59⟩
    have S59 : St w w159 [rBlk w.heap.size 43 #[.int .i64 (x0).order.start, .slice Ax0 nx0 cx0, .slice Bx0 mx0 dx0, .slice Cx0 lx0 fx0, .int .i64 (x0).state], rBook (.agg #[.int .i64 (x0).order.start, .slice A10 n10 c10, .slice B10 m10 d10, .slice C10 l10 f10, .int .i64 (x0).state]) x0, rActs (.slice A12 (x1).length c12) x1, rBook (.agg #[.int .i64 (((bookRun x0 x1).1)).order.start, .slice A13 n13 c13, .slice B13 m13 d13, .slice C13 l13 f13, .int .i64 (((bookRun x0 x1).1)).state]) ((bookRun x0 x1).1), rBlk w113.heap.size 28 #[.int .i64 (((bookRun x0 x1).1)).order.start, .slice A13 n13 c13, .slice B13 m13 d13, .slice C13 l13 f13, .int .i64 (((bookRun x0 x1).1)).state], rBook (.agg #[.int .i64 (x0).order.start, .slice A17 n17 c17, .slice B17 m17 d17, .slice C17 l17 f17, .int .i64 (x0).state]) (markB (1) (x0)), rBlk w117.heap.size 28 #[.int .i64 (x0).order.start, .slice A17 n17 c17, .slice B17 m17 d17, .slice C17 l17 f17, .int .i64 (x0).state], rActs (.slice A22 (x1).length c22) (markAS (1 + mkB (x0)) (x1).length), rBook (.agg #[.int .i64 (((bookRun x0 x1).1)).order.start, .slice A26 n26 c26, .slice B26 m26 d26, .slice C26 l26 f26, .int .i64 (((bookRun x0 x1).1)).state]) ((bookRun x0 x1).1), rBlk w126.heap.size 28 #[.int .i64 (((bookRun x0 x1).1)).order.start, .slice A26 n26 c26, .slice B26 m26 d26, .slice C26 l26 f26, .int .i64 (((bookRun x0 x1).1)).state], rActs (.slice A43 (x1).length c43) x1] := S54.quiet hb59
    clear q55 q56 q57 q58
    have q60 : ∀ j, w159.cell? ⟨w.heap.size, j, none⟩ = _ := S59.cells 0 rfl
    have q61 : ∀ j, w159.cell? ⟨w113.heap.size, j, none⟩ = _ := S59.cells 4 rfl
    have q62 : ∀ j, w159.cell? ⟨w117.heap.size, j, none⟩ = _ := S59.cells 6 rfl
    have q63 : ∀ j, w159.cell? ⟨w126.heap.size, j, none⟩ = _ := S59.cells 9 rfl
    go_wp2_with fail
    refine (markBook_st S59 8 rfl (1) (by omega)).mono ?_
    rintro e w164 ⟨rfl, s64⟩
    have S64 : St w w164 [rBlk w.heap.size 43 #[.int .i64 (x0).order.start, .slice Ax0 nx0 cx0, .slice Bx0 mx0 dx0, .slice Cx0 lx0 fx0, .int .i64 (x0).state], rBook (.agg #[.int .i64 (x0).order.start, .slice A10 n10 c10, .slice B10 m10 d10, .slice C10 l10 f10, .int .i64 (x0).state]) x0, rActs (.slice A12 (x1).length c12) x1, rBook (.agg #[.int .i64 (((bookRun x0 x1).1)).order.start, .slice A13 n13 c13, .slice B13 m13 d13, .slice C13 l13 f13, .int .i64 (((bookRun x0 x1).1)).state]) ((bookRun x0 x1).1), rBlk w113.heap.size 28 #[.int .i64 (((bookRun x0 x1).1)).order.start, .slice A13 n13 c13, .slice B13 m13 d13, .slice C13 l13 f13, .int .i64 (((bookRun x0 x1).1)).state], rBook (.agg #[.int .i64 (x0).order.start, .slice A17 n17 c17, .slice B17 m17 d17, .slice C17 l17 f17, .int .i64 (x0).state]) (markB (1) (x0)), rBlk w117.heap.size 28 #[.int .i64 (x0).order.start, .slice A17 n17 c17, .slice B17 m17 d17, .slice C17 l17 f17, .int .i64 (x0).state], rActs (.slice A22 (x1).length c22) (markAS (1 + mkB (x0)) (x1).length), rBook (.agg #[.int .i64 (((bookRun x0 x1).1)).order.start, .slice A26 n26 c26, .slice B26 m26 d26, .slice C26 l26 f26, .int .i64 (((bookRun x0 x1).1)).state]) (markB (1) ((bookRun x0 x1).1)), rBlk w126.heap.size 28 #[.int .i64 (((bookRun x0 x1).1)).order.start, .slice A26 n26 c26, .slice B26 m26 d26, .slice C26 l26 f26, .int .i64 (((bookRun x0 x1).1)).state], rActs (.slice A43 (x1).length c43) x1] := s64
    clear q60 q61 q62 q63
    have q65 : ∀ j, w164.cell? ⟨w.heap.size, j, none⟩ = _ := S64.cells 0 rfl
    have q66 : ∀ j, w164.cell? ⟨w113.heap.size, j, none⟩ = _ := S64.cells 4 rfl
    have q67 : ∀ j, w164.cell? ⟨w117.heap.size, j, none⟩ = _ := S64.cells 6 rfl
    have q68 : ∀ j, w164.cell? ⟨w126.heap.size, j, none⟩ = _ := S64.cells 9 rfl
    go_wp2_with fail
    refine (heldBook_any _ (1) ((bookRun x0 x1).1) _ (S64.rdB 8 rfl) (by omega)).mono ?_
    rintro e w169 ⟨rfl, hb69⟩
    have S69 : St w w169 [rBlk w.heap.size 43 #[.int .i64 (x0).order.start, .slice Ax0 nx0 cx0, .slice Bx0 mx0 dx0, .slice Cx0 lx0 fx0, .int .i64 (x0).state], rBook (.agg #[.int .i64 (x0).order.start, .slice A10 n10 c10, .slice B10 m10 d10, .slice C10 l10 f10, .int .i64 (x0).state]) x0, rActs (.slice A12 (x1).length c12) x1, rBook (.agg #[.int .i64 (((bookRun x0 x1).1)).order.start, .slice A13 n13 c13, .slice B13 m13 d13, .slice C13 l13 f13, .int .i64 (((bookRun x0 x1).1)).state]) ((bookRun x0 x1).1), rBlk w113.heap.size 28 #[.int .i64 (((bookRun x0 x1).1)).order.start, .slice A13 n13 c13, .slice B13 m13 d13, .slice C13 l13 f13, .int .i64 (((bookRun x0 x1).1)).state], rBook (.agg #[.int .i64 (x0).order.start, .slice A17 n17 c17, .slice B17 m17 d17, .slice C17 l17 f17, .int .i64 (x0).state]) (markB (1) (x0)), rBlk w117.heap.size 28 #[.int .i64 (x0).order.start, .slice A17 n17 c17, .slice B17 m17 d17, .slice C17 l17 f17, .int .i64 (x0).state], rActs (.slice A22 (x1).length c22) (markAS (1 + mkB (x0)) (x1).length), rBook (.agg #[.int .i64 (((bookRun x0 x1).1)).order.start, .slice A26 n26 c26, .slice B26 m26 d26, .slice C26 l26 f26, .int .i64 (((bookRun x0 x1).1)).state]) (markB (1) ((bookRun x0 x1).1)), rBlk w126.heap.size 28 #[.int .i64 (((bookRun x0 x1).1)).order.start, .slice A26 n26 c26, .slice B26 m26 d26, .slice C26 l26 f26, .int .i64 (((bookRun x0 x1).1)).state], rActs (.slice A43 (x1).length c43) x1] := S64.quiet hb69
    clear q65 q66 q67 q68
    have q70 : ∀ j, w169.cell? ⟨w.heap.size, j, none⟩ = _ := S69.cells 0 rfl
    have q71 : ∀ j, w169.cell? ⟨w113.heap.size, j, none⟩ = _ := S69.cells 4 rfl
    have q72 : ∀ j, w169.cell? ⟨w117.heap.size, j, none⟩ = _ := S69.cells 6 rfl
    have q73 : ∀ j, w169.cell? ⟨w126.heap.size, j, none⟩ = _ := S69.cells 9 rfl
    clear q70 q71 q72 q73
    have q74 : ∀ j, w169.cell? ⟨w.heap.size, j, none⟩ = _ := S69.cells 0 rfl
    have q75 : ∀ j, w169.cell? ⟨w113.heap.size, j, none⟩ = _ := S69.cells 4 rfl
    have q76 : ∀ j, w169.cell? ⟨w117.heap.size, j, none⟩ = _ := S69.cells 6 rfl
    have q77 : ∀ j, w169.cell? ⟨w126.heap.size, j, none⟩ = _ := S69.cells 9 rfl
    go_wp2_with fail
    refine (toBook_st _ x0 _ (HR0.out.up S69.below)).mono ?_
    rintro e w178 ⟨v78, rfl, s78⟩
    obtain ⟨A78, n78, c78, B78, m78, d78, C78, l78, f78, hv⟩ := s78.formB 0 rfl
    subst hv
    have S78 : St w w178 [rBlk w.heap.size 43 #[.int .i64 (x0).order.start, .slice Ax0 nx0 cx0, .slice Bx0 mx0 dx0, .slice Cx0 lx0 fx0, .int .i64 (x0).state], rBook (.agg #[.int .i64 (x0).order.start, .slice A10 n10 c10, .slice B10 m10 d10, .slice C10 l10 f10, .int .i64 (x0).state]) x0, rActs (.slice A12 (x1).length c12) x1, rBook (.agg #[.int .i64 (((bookRun x0 x1).1)).order.start, .slice A13 n13 c13, .slice B13 m13 d13, .slice C13 l13 f13, .int .i64 (((bookRun x0 x1).1)).state]) ((bookRun x0 x1).1), rBlk w113.heap.size 28 #[.int .i64 (((bookRun x0 x1).1)).order.start, .slice A13 n13 c13, .slice B13 m13 d13, .slice C13 l13 f13, .int .i64 (((bookRun x0 x1).1)).state], rBook (.agg #[.int .i64 (x0).order.start, .slice A17 n17 c17, .slice B17 m17 d17, .slice C17 l17 f17, .int .i64 (x0).state]) (markB (1) (x0)), rBlk w117.heap.size 28 #[.int .i64 (x0).order.start, .slice A17 n17 c17, .slice B17 m17 d17, .slice C17 l17 f17, .int .i64 (x0).state], rActs (.slice A22 (x1).length c22) (markAS (1 + mkB (x0)) (x1).length), rBook (.agg #[.int .i64 (((bookRun x0 x1).1)).order.start, .slice A26 n26 c26, .slice B26 m26 d26, .slice C26 l26 f26, .int .i64 (((bookRun x0 x1).1)).state]) (markB (1) ((bookRun x0 x1).1)), rBlk w126.heap.size 28 #[.int .i64 (((bookRun x0 x1).1)).order.start, .slice A26 n26 c26, .slice B26 m26 d26, .slice C26 l26 f26, .int .i64 (((bookRun x0 x1).1)).state], rActs (.slice A43 (x1).length c43) x1, rBook (.agg #[.int .i64 (x0).order.start, .slice A78 n78 c78, .slice B78 m78 d78, .slice C78 l78 f78, .int .i64 (x0).state]) x0] := S69.call s78
    clear q74 q75 q76 q77
    have q79 : ∀ j, w178.cell? ⟨w.heap.size, j, none⟩ = _ := S78.cells 0 rfl
    have q80 : ∀ j, w178.cell? ⟨w113.heap.size, j, none⟩ = _ := S78.cells 4 rfl
    have q81 : ∀ j, w178.cell? ⟨w117.heap.size, j, none⟩ = _ := S78.cells 6 rfl
    have q82 : ∀ j, w178.cell? ⟨w126.heap.size, j, none⟩ = _ := S78.cells 9 rfl
    go_wp2_with fail
    refine (toActS_st _ _ _ x1 _ (HR1.out.up S78.below) (by omega)).mono ?_
    rintro e w183 ⟨v83, rfl, s83⟩
    obtain ⟨A83, c83, hv, -⟩ := s83.rdA 0 rfl
    subst hv
    have S83 : St w w183 [rBlk w.heap.size 43 #[.int .i64 (x0).order.start, .slice Ax0 nx0 cx0, .slice Bx0 mx0 dx0, .slice Cx0 lx0 fx0, .int .i64 (x0).state], rBook (.agg #[.int .i64 (x0).order.start, .slice A10 n10 c10, .slice B10 m10 d10, .slice C10 l10 f10, .int .i64 (x0).state]) x0, rActs (.slice A12 (x1).length c12) x1, rBook (.agg #[.int .i64 (((bookRun x0 x1).1)).order.start, .slice A13 n13 c13, .slice B13 m13 d13, .slice C13 l13 f13, .int .i64 (((bookRun x0 x1).1)).state]) ((bookRun x0 x1).1), rBlk w113.heap.size 28 #[.int .i64 (((bookRun x0 x1).1)).order.start, .slice A13 n13 c13, .slice B13 m13 d13, .slice C13 l13 f13, .int .i64 (((bookRun x0 x1).1)).state], rBook (.agg #[.int .i64 (x0).order.start, .slice A17 n17 c17, .slice B17 m17 d17, .slice C17 l17 f17, .int .i64 (x0).state]) (markB (1) (x0)), rBlk w117.heap.size 28 #[.int .i64 (x0).order.start, .slice A17 n17 c17, .slice B17 m17 d17, .slice C17 l17 f17, .int .i64 (x0).state], rActs (.slice A22 (x1).length c22) (markAS (1 + mkB (x0)) (x1).length), rBook (.agg #[.int .i64 (((bookRun x0 x1).1)).order.start, .slice A26 n26 c26, .slice B26 m26 d26, .slice C26 l26 f26, .int .i64 (((bookRun x0 x1).1)).state]) (markB (1) ((bookRun x0 x1).1)), rBlk w126.heap.size 28 #[.int .i64 (((bookRun x0 x1).1)).order.start, .slice A26 n26 c26, .slice B26 m26 d26, .slice C26 l26 f26, .int .i64 (((bookRun x0 x1).1)).state], rActs (.slice A43 (x1).length c43) x1, rBook (.agg #[.int .i64 (x0).order.start, .slice A78 n78 c78, .slice B78 m78 d78, .slice C78 l78 f78, .int .i64 (x0).state]) x0, rActs (.slice A83 (x1).length c83) x1] := S78.call s83
    go_wp2_with fail
    refine (bookRun_impl _ x0 _ _ _ x1 _ (S83.rdB 11 rfl) (S83.rdA' 12 rfl) hw1).mono ?_
    rintro e w184 ⟨v84, rfl, s84⟩
    obtain ⟨A84, n84, c84, B84, m84, d84, C84, l84, f84, hv⟩ := s84.formB 0 rfl
    subst hv
    have S84 : St w w184 [rBlk w.heap.size 43 #[.int .i64 (x0).order.start, .slice Ax0 nx0 cx0, .slice Bx0 mx0 dx0, .slice Cx0 lx0 fx0, .int .i64 (x0).state], rBook (.agg #[.int .i64 (x0).order.start, .slice A10 n10 c10, .slice B10 m10 d10, .slice C10 l10 f10, .int .i64 (x0).state]) x0, rActs (.slice A12 (x1).length c12) x1, rBook (.agg #[.int .i64 (((bookRun x0 x1).1)).order.start, .slice A13 n13 c13, .slice B13 m13 d13, .slice C13 l13 f13, .int .i64 (((bookRun x0 x1).1)).state]) ((bookRun x0 x1).1), rBlk w113.heap.size 28 #[.int .i64 (((bookRun x0 x1).1)).order.start, .slice A13 n13 c13, .slice B13 m13 d13, .slice C13 l13 f13, .int .i64 (((bookRun x0 x1).1)).state], rBook (.agg #[.int .i64 (x0).order.start, .slice A17 n17 c17, .slice B17 m17 d17, .slice C17 l17 f17, .int .i64 (x0).state]) (markB (1) (x0)), rBlk w117.heap.size 28 #[.int .i64 (x0).order.start, .slice A17 n17 c17, .slice B17 m17 d17, .slice C17 l17 f17, .int .i64 (x0).state], rActs (.slice A22 (x1).length c22) (markAS (1 + mkB (x0)) (x1).length), rBook (.agg #[.int .i64 (((bookRun x0 x1).1)).order.start, .slice A26 n26 c26, .slice B26 m26 d26, .slice C26 l26 f26, .int .i64 (((bookRun x0 x1).1)).state]) (markB (1) ((bookRun x0 x1).1)), rBlk w126.heap.size 28 #[.int .i64 (((bookRun x0 x1).1)).order.start, .slice A26 n26 c26, .slice B26 m26 d26, .slice C26 l26 f26, .int .i64 (((bookRun x0 x1).1)).state], rActs (.slice A43 (x1).length c43) x1, rBook (.agg #[.int .i64 (x0).order.start, .slice A78 n78 c78, .slice B78 m78 d78, .slice C78 l78 f78, .int .i64 (x0).state]) x0, rActs (.slice A83 (x1).length c83) x1, rBook (.agg #[.int .i64 (((bookRun x0 x1).1)).order.start, .slice A84 n84 c84, .slice B84 m84 d84, .slice C84 l84 f84, .int .i64 (((bookRun x0 x1).1)).state]) ((bookRun x0 x1).1)] := S83.call s84
    have S85a : St w (w184.alloc (Obj.cells #[.int .i64 (((bookRun x0 x1).1)).order.start, .slice A84 n84 c84, .slice B84 m84 d84, .slice C84 l84 f84, .int .i64 (((bookRun x0 x1).1)).state] 28)) [rBlk w.heap.size 43 #[.int .i64 (x0).order.start, .slice Ax0 nx0 cx0, .slice Bx0 mx0 dx0, .slice Cx0 lx0 fx0, .int .i64 (x0).state], rBook (.agg #[.int .i64 (x0).order.start, .slice A10 n10 c10, .slice B10 m10 d10, .slice C10 l10 f10, .int .i64 (x0).state]) x0, rActs (.slice A12 (x1).length c12) x1, rBook (.agg #[.int .i64 (((bookRun x0 x1).1)).order.start, .slice A13 n13 c13, .slice B13 m13 d13, .slice C13 l13 f13, .int .i64 (((bookRun x0 x1).1)).state]) ((bookRun x0 x1).1), rBlk w113.heap.size 28 #[.int .i64 (((bookRun x0 x1).1)).order.start, .slice A13 n13 c13, .slice B13 m13 d13, .slice C13 l13 f13, .int .i64 (((bookRun x0 x1).1)).state], rBook (.agg #[.int .i64 (x0).order.start, .slice A17 n17 c17, .slice B17 m17 d17, .slice C17 l17 f17, .int .i64 (x0).state]) (markB (1) (x0)), rBlk w117.heap.size 28 #[.int .i64 (x0).order.start, .slice A17 n17 c17, .slice B17 m17 d17, .slice C17 l17 f17, .int .i64 (x0).state], rActs (.slice A22 (x1).length c22) (markAS (1 + mkB (x0)) (x1).length), rBook (.agg #[.int .i64 (((bookRun x0 x1).1)).order.start, .slice A26 n26 c26, .slice B26 m26 d26, .slice C26 l26 f26, .int .i64 (((bookRun x0 x1).1)).state]) (markB (1) ((bookRun x0 x1).1)), rBlk w126.heap.size 28 #[.int .i64 (((bookRun x0 x1).1)).order.start, .slice A26 n26 c26, .slice B26 m26 d26, .slice C26 l26 f26, .int .i64 (((bookRun x0 x1).1)).state], rActs (.slice A43 (x1).length c43) x1, rBook (.agg #[.int .i64 (x0).order.start, .slice A78 n78 c78, .slice B78 m78 d78, .slice C78 l78 f78, .int .i64 (x0).state]) x0, rActs (.slice A83 (x1).length c83) x1, rBook (.agg #[.int .i64 (((bookRun x0 x1).1)).order.start, .slice A84 n84 c84, .slice B84 m84 d84, .slice C84 l84 f84, .int .i64 (((bookRun x0 x1).1)).state]) ((bookRun x0 x1).1), rBlk w184.heap.size 28 #[.int .i64 (((bookRun x0 x1).1)).order.start, .slice A84 n84 c84, .slice B84 m84 d84, .slice C84 l84 f84, .int .i64 (((bookRun x0 x1).1)).state]] := (S84.alloc #[.int .i64 (((bookRun x0 x1).1)).order.start, .slice A84 n84 c84, .slice B84 m84 d84, .slice C84 l84 f84, .int .i64 (((bookRun x0 x1).1)).state] 28)
    clear q79 q80 q81 q82
    have q86 : ∀ j, (w184.alloc (Obj.cells #[.int .i64 (((bookRun x0 x1).1)).order.start, .slice A84 n84 c84, .slice B84 m84 d84, .slice C84 l84 f84, .int .i64 (((bookRun x0 x1).1)).state] 28)).cell? ⟨w.heap.size, j, none⟩ = _ := S85a.cells 0 rfl
    have q87 : ∀ j, (w184.alloc (Obj.cells #[.int .i64 (((bookRun x0 x1).1)).order.start, .slice A84 n84 c84, .slice B84 m84 d84, .slice C84 l84 f84, .int .i64 (((bookRun x0 x1).1)).state] 28)).cell? ⟨w113.heap.size, j, none⟩ = _ := S85a.cells 4 rfl
    have q88 : ∀ j, (w184.alloc (Obj.cells #[.int .i64 (((bookRun x0 x1).1)).order.start, .slice A84 n84 c84, .slice B84 m84 d84, .slice C84 l84 f84, .int .i64 (((bookRun x0 x1).1)).state] 28)).cell? ⟨w117.heap.size, j, none⟩ = _ := S85a.cells 6 rfl
    have q89 : ∀ j, (w184.alloc (Obj.cells #[.int .i64 (((bookRun x0 x1).1)).order.start, .slice A84 n84 c84, .slice B84 m84 d84, .slice C84 l84 f84, .int .i64 (((bookRun x0 x1).1)).state] 28)).cell? ⟨w126.heap.size, j, none⟩ = _ := S85a.cells 9 rfl
    have q90 : ∀ j, (w184.alloc (Obj.cells #[.int .i64 (((bookRun x0 x1).1)).order.start, .slice A84 n84 c84, .slice B84 m84 d84, .slice C84 l84 f84, .int .i64 (((bookRun x0 x1).1)).state] 28)).cell? ⟨w184.heap.size, j, none⟩ = _ := S85a.cells 14 rfl
    go_wp2_with fail
    refine (eqBook_same _ ((bookRun x0 x1).1) _ _ (S85a.rdB 13 rfl) (S85a.rdB 3 rfl)).mono ?_
    rintro e w191 ⟨rfl, hb91⟩
    have S91 : St w w191 [rBlk w.heap.size 43 #[.int .i64 (x0).order.start, .slice Ax0 nx0 cx0, .slice Bx0 mx0 dx0, .slice Cx0 lx0 fx0, .int .i64 (x0).state], rBook (.agg #[.int .i64 (x0).order.start, .slice A10 n10 c10, .slice B10 m10 d10, .slice C10 l10 f10, .int .i64 (x0).state]) x0, rActs (.slice A12 (x1).length c12) x1, rBook (.agg #[.int .i64 (((bookRun x0 x1).1)).order.start, .slice A13 n13 c13, .slice B13 m13 d13, .slice C13 l13 f13, .int .i64 (((bookRun x0 x1).1)).state]) ((bookRun x0 x1).1), rBlk w113.heap.size 28 #[.int .i64 (((bookRun x0 x1).1)).order.start, .slice A13 n13 c13, .slice B13 m13 d13, .slice C13 l13 f13, .int .i64 (((bookRun x0 x1).1)).state], rBook (.agg #[.int .i64 (x0).order.start, .slice A17 n17 c17, .slice B17 m17 d17, .slice C17 l17 f17, .int .i64 (x0).state]) (markB (1) (x0)), rBlk w117.heap.size 28 #[.int .i64 (x0).order.start, .slice A17 n17 c17, .slice B17 m17 d17, .slice C17 l17 f17, .int .i64 (x0).state], rActs (.slice A22 (x1).length c22) (markAS (1 + mkB (x0)) (x1).length), rBook (.agg #[.int .i64 (((bookRun x0 x1).1)).order.start, .slice A26 n26 c26, .slice B26 m26 d26, .slice C26 l26 f26, .int .i64 (((bookRun x0 x1).1)).state]) (markB (1) ((bookRun x0 x1).1)), rBlk w126.heap.size 28 #[.int .i64 (((bookRun x0 x1).1)).order.start, .slice A26 n26 c26, .slice B26 m26 d26, .slice C26 l26 f26, .int .i64 (((bookRun x0 x1).1)).state], rActs (.slice A43 (x1).length c43) x1, rBook (.agg #[.int .i64 (x0).order.start, .slice A78 n78 c78, .slice B78 m78 d78, .slice C78 l78 f78, .int .i64 (x0).state]) x0, rActs (.slice A83 (x1).length c83) x1, rBook (.agg #[.int .i64 (((bookRun x0 x1).1)).order.start, .slice A84 n84 c84, .slice B84 m84 d84, .slice C84 l84 f84, .int .i64 (((bookRun x0 x1).1)).state]) ((bookRun x0 x1).1), rBlk w184.heap.size 28 #[.int .i64 (((bookRun x0 x1).1)).order.start, .slice A84 n84 c84, .slice B84 m84 d84, .slice C84 l84 f84, .int .i64 (((bookRun x0 x1).1)).state]] := S85a.quiet hb91
    clear q86 q87 q88 q89 q90
    have q92 : ∀ j, w191.cell? ⟨w.heap.size, j, none⟩ = _ := S91.cells 0 rfl
    have q93 : ∀ j, w191.cell? ⟨w113.heap.size, j, none⟩ = _ := S91.cells 4 rfl
    have q94 : ∀ j, w191.cell? ⟨w117.heap.size, j, none⟩ = _ := S91.cells 6 rfl
    have q95 : ∀ j, w191.cell? ⟨w126.heap.size, j, none⟩ = _ := S91.cells 9 rfl
    have q96 : ∀ j, w191.cell? ⟨w184.heap.size, j, none⟩ = _ := S91.cells 14 rfl
    go_wp2_with fail
    refine (heldBook_any _ (1) ((bookRun x0 x1).1) _ (S91.rdB 8 rfl) (by omega)).mono ?_
    rintro e w197 ⟨rfl, hb97⟩
    have S97 : St w w197 [rBlk w.heap.size 43 #[.int .i64 (x0).order.start, .slice Ax0 nx0 cx0, .slice Bx0 mx0 dx0, .slice Cx0 lx0 fx0, .int .i64 (x0).state], rBook (.agg #[.int .i64 (x0).order.start, .slice A10 n10 c10, .slice B10 m10 d10, .slice C10 l10 f10, .int .i64 (x0).state]) x0, rActs (.slice A12 (x1).length c12) x1, rBook (.agg #[.int .i64 (((bookRun x0 x1).1)).order.start, .slice A13 n13 c13, .slice B13 m13 d13, .slice C13 l13 f13, .int .i64 (((bookRun x0 x1).1)).state]) ((bookRun x0 x1).1), rBlk w113.heap.size 28 #[.int .i64 (((bookRun x0 x1).1)).order.start, .slice A13 n13 c13, .slice B13 m13 d13, .slice C13 l13 f13, .int .i64 (((bookRun x0 x1).1)).state], rBook (.agg #[.int .i64 (x0).order.start, .slice A17 n17 c17, .slice B17 m17 d17, .slice C17 l17 f17, .int .i64 (x0).state]) (markB (1) (x0)), rBlk w117.heap.size 28 #[.int .i64 (x0).order.start, .slice A17 n17 c17, .slice B17 m17 d17, .slice C17 l17 f17, .int .i64 (x0).state], rActs (.slice A22 (x1).length c22) (markAS (1 + mkB (x0)) (x1).length), rBook (.agg #[.int .i64 (((bookRun x0 x1).1)).order.start, .slice A26 n26 c26, .slice B26 m26 d26, .slice C26 l26 f26, .int .i64 (((bookRun x0 x1).1)).state]) (markB (1) ((bookRun x0 x1).1)), rBlk w126.heap.size 28 #[.int .i64 (((bookRun x0 x1).1)).order.start, .slice A26 n26 c26, .slice B26 m26 d26, .slice C26 l26 f26, .int .i64 (((bookRun x0 x1).1)).state], rActs (.slice A43 (x1).length c43) x1, rBook (.agg #[.int .i64 (x0).order.start, .slice A78 n78 c78, .slice B78 m78 d78, .slice C78 l78 f78, .int .i64 (x0).state]) x0, rActs (.slice A83 (x1).length c83) x1, rBook (.agg #[.int .i64 (((bookRun x0 x1).1)).order.start, .slice A84 n84 c84, .slice B84 m84 d84, .slice C84 l84 f84, .int .i64 (((bookRun x0 x1).1)).state]) ((bookRun x0 x1).1), rBlk w184.heap.size 28 #[.int .i64 (((bookRun x0 x1).1)).order.start, .slice A84 n84 c84, .slice B84 m84 d84, .slice C84 l84 f84, .int .i64 (((bookRun x0 x1).1)).state]] := S91.quiet hb97
    clear q92 q93 q94 q95 q96
    have q98 : ∀ j, w197.cell? ⟨w.heap.size, j, none⟩ = _ := S97.cells 0 rfl
    have q99 : ∀ j, w197.cell? ⟨w113.heap.size, j, none⟩ = _ := S97.cells 4 rfl
    have q100 : ∀ j, w197.cell? ⟨w117.heap.size, j, none⟩ = _ := S97.cells 6 rfl
    have q101 : ∀ j, w197.cell? ⟨w126.heap.size, j, none⟩ = _ := S97.cells 9 rfl
    have q102 : ∀ j, w197.cell? ⟨w184.heap.size, j, none⟩ = _ := S97.cells 14 rfl
    go_wp2
    go_ret
    exact ⟨rfl, S97.below⟩
end Go.Proofs.Ytkebgldeahklmaa
