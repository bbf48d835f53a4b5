/- l20Open within a list of things; the draws that only draw a task. -/
import Derived.Test.YtdbgoekemffimaaSTDraw2
namespace Go.Proofs.Ytdbgoekemffimaa
set_option linter.unusedVariables false
set_option linter.unusedSimpArgs false
open Go.ChangeShapes Go.WideShapes Go.ChangeAt Go.RowKit

theorem l20Open_rd {w W : World} {L : List HRes} (S : St w W L) {A : Option Addr} {n c : Nat} {xs : List Int} (h : RdI .u8 w w.heap.size A n c xs) :
    Calls Try.prog 49 #[.slice A n c] W fun e w' => ∃ g, e = .returned (.pointer (some ⟨g, 0, none⟩)) ∧ St w w' (rRd w g 0 :: L) := by
  have hn := h.cap
  have hm := h.capMax
  unfold maxLen at hm
  by_cases hb : 2000 < n
  · have HS : Hid (St w (W.alloc (.cells #[.slice A 2000 c, .int .i64 0] 97)) (rRd w W.heap.size 0 :: L)) := Lib.hid ((S.allocF #[.slice A 2000 c, .int .i64 0] 97).see fun F ⟨h1, h2⟩ _ => ⟨h2, 0, A, 2000, c, _, Nat.le_refl _, Nat.le_refl _, rdI_prefix h 2000 (by omega), h1⟩)
    clear S
    go_enter Try.func49, Try.ntmps49
    go_wp2
    go_ret
    exact ⟨_, rfl, HS.out⟩
  · have HS : Hid (St w (W.alloc (.cells #[.slice A n c, .int .i64 0] 97)) (rRd w W.heap.size 0 :: L)) := Lib.hid ((S.allocF #[.slice A n c, .int .i64 0] 97).see fun F ⟨h1, h2⟩ _ => ⟨h2, 0, A, n, c, _, Nat.le_refl _, by omega, h, h1⟩)
    clear S
    go_enter Try.func49, Try.ntmps49
    go_wp2
    go_ret
    exact ⟨_, rfl, HS.out⟩
/-- what a draw of a task gives -/
def GivesT (w : World) (e : Ending) (w' : World) : Prop := ∃ v t, e = .returned v ∧ TaskSm t ∧ St w w' [rTask v t]
end Go.Proofs.Ytdbgoekemffimaa
