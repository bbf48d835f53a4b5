/- Rows of numbers that grow: append to a thing of the list. -/
import Derived.Test.YtgnmlpklojgpfaaSPush
namespace Go.Proofs.Ytgnmlpklojgpfaa
set_option linter.unusedVariables false
set_option linter.unusedSimpArgs false
open Go.ChangeShapes Go.WideShapes Go.ChangeAt Go.RowKit
/-- a fact that no tactic looks into (contradiction looks into Hid) -/
structure Bx (p : Prop) : Prop where
  out : p
theorem drop2_st {w W : World} {R : HRes} {L : List HRes} {M : Nat → Option HRes} (h : Sn w W M) (h0 : M 0 = some R) (h2 : ∀ i, M (i + 2) = L[i]?) : St w W (R :: L) :=
  h.to_st (0 :: List.range' 2 L.length) (by
    rw [List.nodup_cons]
    exact ⟨fun hm => by have := List.mem_range'_1.1 hm; omega, List.nodup_range'⟩) (by
    simp only [List.map_cons, h0, List.cons.injEq, true_and]
    refine List.ext_getElem (by simp) fun i h1 h3 => ?_
    simp only [List.length_map, List.length_range'] at h1
    simp only [List.getElem_map, List.getElem_range', Nat.one_mul]
    rw [Nat.add_comm, h2 i, List.getElem?_eq_getElem h1])
end Go.Proofs.Ytgnmlpklojgpfaa
