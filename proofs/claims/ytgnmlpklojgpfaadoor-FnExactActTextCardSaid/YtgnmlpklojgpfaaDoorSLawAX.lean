/- The walk of FnExactActText. -/
import Derived.Test.YtgnmlpklojgpfaaDoorSActT
import Derived.Test.YtgnmlpklojgpfaaDoorSActsH
namespace Go.Proofs.YtgnmlpklojgpfaaDoor
set_option linter.unusedVariables false
set_option linter.unusedSimpArgs false
open Go.ChangeShapes Go.WideShapes Go.ChangeAt Go.RowKit

set_option maxRecDepth 100000 in
set_option maxHeartbeats 1000000 in
theorem FnExactActText_walk (k m : Int) (w : World) (hm : (Lit.int .i64 m).wf = true) :
    Calls Tryd.prog 3 #[.agg #[.int .i64 k, .int .i64 m]] w fun e w' => e = .returned (.bool true) ∧ Below w.heap.size w w' := by
  obtain ⟨g, hg⟩ : ∃ g, w.heap.size = g := ⟨_, rfl⟩
  have HS0 : Hid (St w (w.alloc (.cells #[.int .i64 k, .int .i64 m] 23)) [rBlk g 23 #[.int .i64 k, .int .i64 m]]) := Lib.hid (by rw [← hg]; exact St.new1 w _ _)
  have q0 : ∀ j, (w.alloc (.cells #[.int .i64 k, .int .i64 m] 23)).cell? ⟨g, j, none⟩ = _ := HS0.out.cells 0 rfl
  obtain ⟨t, ht⟩ : ∃ t : ByteArray, (⟨(actT k m).toArray⟩ : ByteArray) = t := ⟨_, rfl⟩
  have HT := Lib.hid ht
  clear ht hm
  go_enter Tryd.func3, Tryd.ntmps3
  go_wp2_with fail
  try rw [hg]
  refine (toAct_any k m _).mono ?_
  rintro e w1 ⟨rfl, hb1⟩
  have HS1 := Lib.hid (HS0.out.quiet hb1)
  clear hb1 q0 hg
  have q0 : ∀ j, w1.cell? ⟨g, j, none⟩ = _ := HS1.out.cells 0 rfl
  go_wp2_with fail
  refine (actText_spec k m _).mono ?_
  rintro e w2 ⟨rfl, hb2⟩
  rw [HT.out]
  have HS2 := Lib.hid (HS1.out.quiet hb2)
  clear hb2 q0
  have q0 : ∀ j, w2.cell? ⟨g, j, none⟩ = _ := HS2.out.cells 0 rfl
  go_wp2_with fail
  refine (toAct_any k m _).mono ?_
  rintro e w3 ⟨rfl, hb3⟩
  have HS3 := Lib.hid (HS2.out.quiet hb3)
  clear hb3 q0
  go_wp2_with fail
  refine (actText_impl k m _).mono ?_
  rintro e w4 ⟨rfl, hb4⟩
  rw [HT.out]
  have HS4 := Lib.hid (HS3.out.quiet hb4)
  clear hb4
  go_wp2
  go_ret
  exact ⟨rfl, HS4.out.below⟩
end Go.Proofs.YtgnmlpklojgpfaaDoor
