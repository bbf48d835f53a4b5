/- The first of several things parted in two; a task parted in its goal and its deeds. -/
import Derived.Test.YtkimgdfcgfhibaaDoorSPush
namespace Go.Proofs.YtkimgdfcgfhibaaDoor
set_option linter.unusedVariables false
set_option linter.unusedSimpArgs false
open Go.ChangeShapes Go.WideShapes Go.ChangeAt Go.RowKit

section
variable {w W W' : World} {L : List HRes}
/-- the first thing parted in two -/
theorem St.split {R R₁ R₂ : HRes} (h : St w W (R :: L)) (k : ∀ F, R.at_ W F → ∃ F1 F2, F = F1 ++ F2 ∧ R₁.at_ W F1 ∧ R₂.at_ W F2) : St w W (R₁ :: R₂ :: L) := by
  obtain ⟨Fs, kl, ha, hnd⟩ := h.has
  match Fs, kl, ha, hnd with
  | F :: Fs, kl, ha, hnd =>
    obtain ⟨a1, a2⟩ := ha 0 _ F rfl rfl
    obtain ⟨F1, F2, rfl, b1, b2⟩ := k F a1
    refine ⟨h.below, F1 :: F2 :: Fs, by simpa using kl, fun i R' F' hR hF => ?_, by simpa using hnd⟩
    match i with
    | 0 =>
      injection hR with hR; injection hF with hF; subst hR hF
      exact ⟨b1, fun x hx => a2 x (List.mem_append_left _ hx)⟩
    | 1 =>
      simp only [List.getElem?_cons_succ, List.getElem?_cons_zero, Option.some.injEq] at hR hF
      subst hR hF
      exact ⟨b2, fun x hx => a2 x (List.mem_append_right _ hx)⟩
    | i + 2 => exact ha (i + 1) R' F' (by simpa using hR) (by simpa using hF)
theorem St.untask {w W : World} {L : List HRes} {s : Int} {gv dv : Value} {t : TaskD} (h : St w W (rTask (.agg #[.int .i64 s, gv, dv]) t :: L)) : St w W (rInts gv t.goal :: rDeeds dv t.deeds :: L) :=
  h.split fun F ⟨⟨gv', dv', Fg, Fd, cells, Fs, e, h1, h2, h3, h4, h5⟩, h6⟩ => by
    simp only [Value.agg.injEq, Array.mk.injEq, List.cons.injEq, and_true, Value.int.injEq, true_and] at e
    obtain ⟨rfl, rfl, rfl⟩ := e
    rw [h4] at h6
    exact ⟨Fg, Fd, h4, h1, cells, Fs, h3, (List.nodup_append.1 h6).2.1⟩
end
end Go.Proofs.YtkimgdfcgfhibaaDoor
