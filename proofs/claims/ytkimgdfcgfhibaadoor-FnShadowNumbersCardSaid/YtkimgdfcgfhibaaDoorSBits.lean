/- Joined texts: Bits, Draws, Same. -/
import Derived.Test.YtkimgdfcgfhibaaDoorSAlive
import Derived.Test.YtkimgdfcgfhibaaDoorSInts
import Derived.Test.YtkimgdfcgfhibaaDoorSTDraw2
import Derived.Test.YtkimgdfcgfhibaaDoorSMore
import Derived.Test.YtkimgdfcgfhibaaDoorSSz
import Derived.Test.YtkimgdfcgfhibaaDoorSPlanW
/- The laws' own helpers on sets: both, other, bits. Conditions: sets from 0 on and below 2^40. -/
namespace Go.Proofs.YtkimgdfcgfhibaaDoor
open Go.ChangeShapes Go.WideShapes Go.ChangeAt Go.RowKit

def bitSum (n : Nat) : Nat → Nat
  | 0 => 0
  | k + 1 => bitSum n k + bit n k
end Go.Proofs.YtkimgdfcgfhibaaDoor

/- l20Open within a list of things; the draws that only draw a task. -/
namespace Go.Proofs.YtkimgdfcgfhibaaDoor
set_option linter.unusedVariables false
set_option linter.unusedSimpArgs false
open Go.ChangeShapes Go.WideShapes Go.ChangeAt Go.RowKit

theorem l20Open_rd {w W : World} {L : List HRes} (S : St w W L) {A : Option Addr} {n c : Nat} {xs : List Int} (h : RdI .u8 w w.heap.size A n c xs) :
    Calls Tryd.prog 31 #[.slice A n c] W fun e w' => ∃ g, e = .returned (.pointer (some ⟨g, 0, none⟩)) ∧ St w w' (rRd w g 0 :: L) := by
  have hn := h.cap
  have hm := h.capMax
  unfold maxLen at hm
  by_cases hb : 2000 < n
  · have HS : Hid (St w (W.alloc (.cells #[.slice A 2000 c, .int .i64 0] 90)) (rRd w W.heap.size 0 :: L)) := Lib.hid ((S.allocF #[.slice A 2000 c, .int .i64 0] 90).see fun F ⟨h1, h2⟩ _ => ⟨h2, 0, A, 2000, c, _, Nat.le_refl _, Nat.le_refl _, rdI_prefix h 2000 (by omega), h1⟩)
    clear S
    go_enter Tryd.func31, Tryd.ntmps31
    go_wp2
    go_ret
    exact ⟨_, rfl, HS.out⟩
  · have HS : Hid (St w (W.alloc (.cells #[.slice A n c, .int .i64 0] 90)) (rRd w W.heap.size 0 :: L)) := Lib.hid ((S.allocF #[.slice A n c, .int .i64 0] 90).see fun F ⟨h1, h2⟩ _ => ⟨h2, 0, A, n, c, _, Nat.le_refl _, by omega, h, h1⟩)
    clear S
    go_enter Tryd.func31, Tryd.ntmps31
    go_wp2
    go_ret
    exact ⟨_, rfl, HS.out⟩
/-- what a draw of a task gives -/
def GivesT (w : World) (e : Ending) (w' : World) : Prop := ∃ v t, e = .returned v ∧ TaskSm t ∧ St w w' [rTask v t]
end Go.Proofs.YtkimgdfcgfhibaaDoor

/- The laws' helpers that compare: sameInts, sameDeed, sameTask, sameBook, noBook: each tells whether the data are the same. -/
namespace Go.Proofs.YtkimgdfcgfhibaaDoor
set_option linter.unusedVariables false
set_option linter.unusedSimpArgs false
open Go.ChangeShapes Go.WideShapes Go.ChangeAt Go.RowKit

theorem sameInts_any (A : Option Addr) (n c : Nat) (xs : List Int) (A' : Option Addr) (n' c' : Nat) (ys : List Int) (w : World) (h : RdI .i64 w w.heap.size A n c xs) (h' : RdI .i64 w w.heap.size A' n' c' ys) :
    Calls Tryd.prog 9 #[.slice A n c, .slice A' n' c'] w fun e w' => e = .returned (.bool (decide (xs = ys))) ∧ ∃ q, w' = w.drewN q := by
  have hl := h.len
  have hl' := h'.len
  have hc := h.cap
  have hm := h.capMax
  unfold maxLen at hm
  by_cases hn : n = n'
  · subst hn
    have HL := Lib.hid hl; clear hl
    have HL' := Lib.hid hl'; clear hl'
    go_enter Tryd.func9, Tryd.ntmps9
    go_wp2
    go_loopw [5] (fun i wr => ∃ k q : Nat, k ≤ n ∧ i = .int .i64 k ∧ Hid (∀ j, j < k → xs[j]? = ys[j]?) ∧ wr = w.drewN q) (fun i _ => n - (intOf i).toNat)
    case atStart => exact ⟨0, 0, by omega, rfl, Lib.hid (by omega), rfl⟩
    case round =>
      obtain ⟨k, q, hk, rfl, hpre, rfl⟩ := hrel
      by_cases hlt : k < n
      · obtain ⟨b, off, x, rfl, hb, hx, hw, hc⟩ := h.get hlt
        obtain ⟨b', off', y, rfl, hb', hy, hw', hc'⟩ := h'.get hlt
        by_cases hxy : x = y
        · subst hxy
          have HX := Lib.hid (hx.trans hy.symm)
          clear hx hy
          go_wp2
          go_quiet (fail)
          go_wp2
          go_roundw
          case rel => exact ⟨k + 1, _, by omega, by go_num, Lib.hid fun j hj => by
            rcases Nat.lt_or_ge j k with h1 | h1
            · exact hpre.out j h1
            · obtain rfl : j = k := by omega
              exact HX.out, rfl⟩
          case measure => simp [intOf]; omega
        · have HF : Hid (decide (xs = ys) = false) := Lib.hid (decide_eq_false fun e => by rw [e, hy] at hx; injection hx with hx; exact hxy hx.symm)
          have hne : (x != y) = true := by rw [bne_iff_ne]; exact hxy
          clear hx hy hxy
          go_wp2
          go_quiet (fail)
          go_wp2
          go_ret
          exact ⟨ret_bool HF.out.symm, _, World.drewN_drewN _ _ _⟩
      · have HT : Hid (decide (xs = ys) = true) := Lib.hid (decide_eq_true (List.ext_getElem? fun j => by
          rcases Nat.lt_or_ge j k with h1 | h1
          · exact hpre.out j h1
          · rw [List.getElem?_eq_none (by rw [HL.out]; omega), List.getElem?_eq_none (by rw [HL'.out]; omega)]))
        go_wp2
        go_ret
        exact ⟨ret_bool HT.out.symm, _, rfl⟩
  · have HF : Hid (decide (xs = ys) = false) := Lib.hid (decide_eq_false fun e => hn (by rw [← hl, ← hl', e]))
    have hne : ((n : Int) != (n' : Int)) = true := by rw [bne_iff_ne]; omega
    clear hl hl'
    go_enter Tryd.func9, Tryd.ntmps9
    go_wp2
    go_ret
    exact ⟨ret_bool HF.out.symm, 0, rfl⟩
end Go.Proofs.YtkimgdfcgfhibaaDoor
