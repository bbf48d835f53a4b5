/- l20Open within a list of things; the draws that only draw a task. -/
import Derived.Test.YtpcaagbmjhgnaaaTDraw2
namespace Go.Proofs.Ytpcaagbmjhgnaaa
set_option linter.unusedVariables false
open Go.ChangeShapes Go.WideShapes Go.ChangeAt Go.RowKit

theorem l20Open_rd {w W : World} {L : List HRes} (S : St w W L) {A : Option Addr} {n c : Nat} {xs : List Int} (h : RdI .u8 w w.heap.size A n c xs) :
    Calls Try.prog 112 #[.slice A n c] W fun e w' => ∃ g, e = .returned (.pointer (some ⟨g, 0, none⟩)) ∧ St w w' (rRd w g 0 :: L) := by
  have hn := h.cap
  have hm := h.capMax
  unfold maxLen at hm
  by_cases hb : 2000 < n
  · have HS : Hid (St w (W.alloc (.cells #[.slice A 2000 c, .int .i64 0] 136)) (rRd w W.heap.size 0 :: L)) := Lib.hid ((S.allocF #[.slice A 2000 c, .int .i64 0] 136).see fun F ⟨h1, h2⟩ _ => ⟨h2, 0, A, 2000, c, _, Nat.le_refl _, Nat.le_refl _, rdI_prefix h 2000 (by omega), h1⟩)
    clear S
    go_enter Try.func112, Try.ntmps112
    go_wp2
    go_ret
    exact ⟨_, rfl, HS.out⟩
  · have HS : Hid (St w (W.alloc (.cells #[.slice A n c, .int .i64 0] 136)) (rRd w W.heap.size 0 :: L)) := Lib.hid ((S.allocF #[.slice A n c, .int .i64 0] 136).see fun F ⟨h1, h2⟩ _ => ⟨h2, 0, A, n, c, _, Nat.le_refl _, by omega, h, h1⟩)
    clear S
    go_enter Try.func112, Try.ntmps112
    go_wp2
    go_ret
    exact ⟨_, rfl, HS.out⟩
/-- what a draw of a task gives -/
def GivesT (w : World) (e : Ending) (w' : World) : Prop := ∃ v t, e = .returned v ∧ TaskSm t ∧ St w w' [rTask v t]
theorem drawBookNew (A : Option Addr) (n c : Nat) (xs : List Int) (w : World) (h : RdI .u8 w w.heap.size A n c xs) : Calls Try.prog 46 #[.slice A n c] w (GivesT w) := by
  have HS0 := Lib.hid ((St.refl w).alloc #[.int .i64 0, .slice none 0 0, .slice none 0 0] 28)
  have H := Lib.hid h
  clear h
  go_enter Try.func46, Try.ntmps46
  go_wp2_with fail
  refine (l20Open_rd HS0.out H.out).mono ?_
  rintro e w1 ⟨g, rfl, s1⟩
  have HS1 := Lib.hid s1
  clear s1 HS0
  go_wp2_with fail
  refine (l20Task_rd HS1.out (by omega) 4).mono ?_
  rintro e w2 ⟨v2, t, rfl, ht, s2⟩
  obtain ⟨A1, n1, c1, A2, n2, c2, hv⟩ := s2.formT 1 rfl
  subst hv
  have q2 : ∀ j, w2.cell? ⟨w.heap.size, j, none⟩ = _ := s2.cells 2 rfl
  have f2 := s2.free 2 rfl
  have HT := Lib.hid ht
  have HS2 := Lib.hid (((s2.set3 2 rfl (.int .i64 t.start) (.slice A1 n1 c1) (.slice A2 n2 c2)).tl).rid 1 rfl)
  clear s2 ht HS1
  go_wp2
  refine bodyPost_ret (v := .agg #[.int .i64 t.start, .slice A1 n1 c1, .slice A2 n2 c2]) (by simp [results, Try.results46, go_sem, q2]) rfl ⟨_, t, rfl, HT.out, HS2.out⟩
end Go.Proofs.Ytpcaagbmjhgnaaa
