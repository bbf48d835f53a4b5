/- A deed is appended to a row of deeds; parts are put together to a task. -/
import Derived.Test.YtgnmlpklojgpfaaDoorSReg
import Derived.Test.YtgnmlpklojgpfaaDoorSTTask
namespace Go.Proofs.YtgnmlpklojgpfaaDoor
set_option linter.unusedVariables false
set_option linter.unusedSimpArgs false
open Go.ChangeShapes Go.WideShapes Go.ChangeAt Go.RowKit

section
variable {w W W' : World} {M : Nat → Option HRes}
/-- one thing less -/
theorem Sn.drop (h : Sn w W M) (k : Nat) : Sn w W (fun i => if i = k then none else M i) := by
  obtain ⟨F, ha, hd⟩ := h.has
  refine ⟨h.below, F, fun i R hR => ?_, fun i j hne hi hj => ?_⟩
  · by_cases e : i = k
    · rw [if_pos e] at hR; cases hR
    · rw [if_neg e] at hR; exact ha i R hR
  · refine hd i j hne (fun e => hi ?_) (fun e => hj ?_)
    · split
      · rfl
      · exact e
    · split
      · rfl
      · exact e
end
theorem St.store {w W W' : World} {L : List HRes} (h : St w W L) (k : Nat) {g : Nat} {t : TypeId} {cs cs' : Array Value} (hk : L[k]? = some (rBlk g t cs)) (hb : Blk W' g t cs') (ho : Only [g] W W') : St w W' (L.set k (rBlk g t cs')) :=
  h.mod k hk fun F ⟨h1, h2⟩ _ => ⟨F, ⟨hb, h2⟩, fun b hb => .inl hb, by rw [h2]; exact ho⟩
theorem St.set3 {w W : World} {L : List HRes} (h : St w W L) (k : Nat) {g : Nat} {t : TypeId} {a b c : Value} (hk : L[k]? = some (rBlk g t #[a, b, c])) (x y z : Value) : St w (((W.setCell ⟨g, 0, none⟩ x).setCell ⟨g, 1, none⟩ y).setCell ⟨g, 2, none⟩ z) (L.set k (rBlk g t #[x, y, z])) :=
  h.store k hk ((((h.blk k hk).set_ 0 x).set_ 1 y).set_ 2 z) ((((Only.refl [g] W).set (by simp) x).set (by simp) y).set (by simp) z)
end Go.Proofs.YtgnmlpklojgpfaaDoor
