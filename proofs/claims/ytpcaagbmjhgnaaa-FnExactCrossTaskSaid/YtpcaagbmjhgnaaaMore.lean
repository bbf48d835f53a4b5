/- Rows of numbers that grow: append to a thing of the list. -/
import Derived.Test.YtpcaagbmjhgnaaaPush
namespace Go.Proofs.Ytpcaagbmjhgnaaa
set_option linter.unusedVariables false
open Go.ChangeShapes Go.WideShapes Go.ChangeAt Go.RowKit
/-- a fact that no tactic looks into (contradiction looks into Hid) -/
structure Bx (p : Prop) : Prop where
  out : p
theorem St.appI {w W W' : World} {L : List HRes} (h : St w W L) (i : Nat) {v v' : Value} {xs ys : List Int} {n : Nat} (hi : L[i]? = some (rInts v xs)) (hn : n = xs.length + ys.length) (hown : W'.ownsRow 0 3 1 v' n (Go.Proofs.Ytpcaagbmjhgnaaa.ints xs ++ Go.Proofs.Ytpcaagbmjhgnaaa.ints ys)) (hwf : ∀ y ∈ ys, (Lit.int .i64 y).wf = true)
    (hg : W.grownBy W' v.ownBlock) (hat : v'.ownBlock = v.ownBlock ∨ v'.ownBlock = some W.heap.size) : St w W' (L.set i (rInts v' (xs ++ ys))) :=
  h.mod i hi fun F h1 _ => ⟨v'.ownBlock.toList, ⟨by subst hn; rw [List.length_append, ints_append]; exact hown, fun x hx => (List.mem_append.1 hx).elim (h1.wf x) (hwf x), rfl⟩, fun b hb => by
    rcases hat with e | e
    · left; rw [h1.foot, ← e]; exact hb
    · right; rw [e] at hb; simp at hb; omega, by rw [h1.foot]; exact Only.of_grown hg⟩
theorem St.ownI {w W : World} {L : List HRes} (h : St w W L) (i : Nat) {v : Value} {xs : List Int} (hi : L[i]? = some (rInts v xs)) : W.ownsRow 0 3 1 v xs.length (Go.Proofs.Ytpcaagbmjhgnaaa.ints xs) := by
  obtain ⟨F, h1⟩ := h.ints i hi
  exact own_mono h1.row (Nat.zero_le _)
end Go.Proofs.Ytpcaagbmjhgnaaa
