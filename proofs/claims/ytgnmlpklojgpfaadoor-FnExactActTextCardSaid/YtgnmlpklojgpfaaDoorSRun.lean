/- runCode of the program and l5Run of the reference: on a valid code and a state in 0..31 each returns what the code leaves. -/
import Derived.Test.YtgnmlpklojgpfaaDoorSInts
namespace Go.Proofs.YtgnmlpklojgpfaaDoor
open Go.ChangeShapes Go.WideShapes Go.ChangeAt Go.RowKit

/-- block g is a row of forty cells of which the first are a stack, its bottom first -/
def StackAt (w : World) (g : Nat) (st : List Bool) : Prop :=
  st.length ≤ 40 ∧ ∃ cs t, Blk w g t cs ∧ cs.size = 40 ∧ ∀ i, i < st.length → cs[i]? = some (.bool (st.getD (st.length - 1 - i) false))
theorem StackAt.at_ {w : World} {g : Nat} {pre r : List Bool} {a : Bool} (h : StackAt w g (pre ++ a :: r)) : w.cell? ⟨g, r.length, none⟩ = some (.bool a) := by
  obtain ⟨hl, cs, t, hk, hs, hc⟩ := h
  rw [hk.cell, hc r.length (by simp; omega)]
  congr 2
  simp [List.getD]
theorem StackAt.put {w : World} {g : Nat} {pre r : List Bool} (h : StackAt w g (pre ++ r)) (hr : r.length < 40) (v : Bool) : StackAt (w.setCell ⟨g, r.length, none⟩ (.bool v)) g (v :: r) := by
  obtain ⟨hl, cs, t, hk, hs, hc⟩ := h
  refine ⟨by simp; omega, _, t, hk.set_ r.length _, by simpa using hs, fun i hi => ?_⟩
  simp only [List.length_cons] at hi ⊢
  rw [Array.getElem?_setIfInBounds]
  by_cases he : r.length = i
  · subst he
    rw [if_pos rfl, if_pos (by omega)]
    simp [List.getD]
  · rw [if_neg he, hc i (by simp; omega)]
    congr 2
    simp only [List.getD, List.length_append]
    rw [List.getElem?_append_right (by omega)]
    have e1 : r.length + 1 - 1 - i = (r.length - 1 - i) + 1 := by omega
    have e2 : pre.length + r.length - 1 - i - pre.length = r.length - 1 - i := by omega
    rw [e1, e2, List.getElem?_cons_succ]

def bools (st : List Bool) : List Value := st.reverse.map Value.bool
end Go.Proofs.YtgnmlpklojgpfaaDoor
