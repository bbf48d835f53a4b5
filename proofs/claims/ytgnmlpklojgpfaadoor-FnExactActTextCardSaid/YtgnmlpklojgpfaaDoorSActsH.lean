/- Acts as arguments: as they came in; toAct, toActS, szActS of the exact laws. -/
import Derived.Test.YtgnmlpklojgpfaaDoorSEndActs
import Derived.Test.YtgnmlpklojgpfaaDoorSCame
import Derived.Test.YtgnmlpklojgpfaaDoorSMore
import Derived.Laws.StructEq
namespace Go.Proofs.YtgnmlpklojgpfaaDoor
set_option linter.unusedVariables false
set_option linter.unusedSimpArgs false
open Go.ChangeShapes Go.WideShapes Go.ChangeAt Go.RowKit Go.Deep

section
variable {H : Type} {enc : TypeId × Value → H} {W : World} {base : Nat} {spare : Nat → Bool} {held : Bool} {fuel : Nat} {cs : List Value} {x : DataW H × List MemPlace}
theorem camC_act (h : DataW.trod enc Tryd.prog W base spare held fuel 23 cs = some x) : ∃ k m : Int, cs = [.int .i64 k, .int .i64 m] ∧ (Lit.int .i64 k).wf = true ∧ (Lit.int .i64 m).wf = true := by
  obtain ⟨ys, m, _, _, hl, hyl, hf⟩ := DataW.trod_struct Tryd.underlying23 h
  have hc : Tryd.prog.cellsOf 23 = 2 := by kernel_rfl
  rw [hc] at hl
  obtain ⟨c0, c1, rfl⟩ := len2 hl
  obtain ⟨y0, y1, rfl⟩ := len2 hyl
  · have h0 : DataW.trod enc Tryd.prog W base spare held m 3 (([c0, c1].drop 0).take (Tryd.prog.cellsOf 3)) = some y0 := hf 0 _ rfl
    rw [show Tryd.prog.cellsOf 3 = 1 by kernel_rfl] at h0
    have h1 : DataW.trod enc Tryd.prog W base spare held m 3 (([c0, c1].drop 1).take (Tryd.prog.cellsOf 3)) = some y1 := hf 1 _ rfl
    rw [show Tryd.prog.cellsOf 3 = 1 by kernel_rfl] at h1
    simp only [List.drop, List.take, List.getElem?_cons_zero, List.getElem?_cons_succ] at h0 h1
    obtain ⟨a0, e0, _, w0⟩ := DataW.trod_int Tryd.underlying3 h0
    obtain ⟨a1, e1, _, w1⟩ := DataW.trod_int Tryd.underlying3 h1
    simp only [List.cons.injEq, and_true] at e0 e1
    subst e0 e1
    exact ⟨a0, a1, rfl, w0, w1⟩
set_option maxRecDepth 100000 in
theorem came_Act {v : Value} {d : DataW H} {p : List MemPlace} (hv : Value.okWide Tryd.prog W .any base 23 v) (h : DataW.Trod enc Tryd.prog W 0 (fun _ => true) true 23 v d p) : ∃ k m : Int, v = .agg #[.int .i64 k, .int .i64 m] ∧ (Lit.int .i64 m).wf = true := by
  obtain ⟨cs, rfl, hs⟩ := okWide_struct Tryd.underlying23 hv
  obtain ⟨fuel, hf⟩ := h
  obtain ⟨k, m, e, h1, h2⟩ := camC_act hf
  have : cs = #[.int .i64 k, .int .i64 m] := Array.ext' e
  exact ⟨k, m, by rw [this], h2⟩
end
theorem toAct_any (k m : Int) (w : World) : Calls Tryd.prog 5 #[.agg #[.int .i64 k, .int .i64 m]] w fun e w' => e = .returned (.agg #[.int .i64 k, .int .i64 m]) ∧ Below w.heap.size w w' := by
  go_enter Tryd.func5, Tryd.ntmps5
  go_wp2
  refine bodyPost_ret (v := .agg #[.int .i64 k, .int .i64 m]) (by simp [results, Tryd.results5, go_sem]) rfl ⟨rfl, ?_⟩
  exact (((Below.refl _ _).alloc (Nat.le_refl _) _).alloc (by simp) _).alloc (by simp; omega) _
def fillA (aa : List ActD) (k : Nat) : List ActD := aa.take k ++ List.replicate (aa.length - k) ⟨0, 0⟩
end Go.Proofs.YtgnmlpklojgpfaaDoor
