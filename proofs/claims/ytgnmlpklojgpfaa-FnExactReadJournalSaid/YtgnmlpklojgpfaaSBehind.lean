/- behindAll of the program: for each deed and state the state behind it, or -1. Printed by gen_search.py. -/
import Derived.Test.YtgnmlpklojgpfaaSPlanW
namespace Go.Proofs.Ytgnmlpklojgpfaa
set_option linter.unusedVariables false
set_option linter.unusedSimpArgs false
open Go.ChangeShapes Go.WideShapes Go.ChangeAt Go.RowKit

/-- what stands at the place i of the rows: of the deed i / 32 and the state i % 32 -/
def behF (ds : List DeedD) (i : Nat) : Int := match ds[i / 32]? with
  | some d => opt (deedDo d (i % 32))
  | none => -1
def behL (ds : List DeedD) : List Int := (List.range (ds.length * 32)).map (behF ds)
theorem own_rd {w : World} {base : Nat} {e : TypeId} {size n : Nat} {v : Value} {xs : List Value} (h : w.ownsRow base e size v n xs) : ∃ A c, v = .slice A n c ∧ RdRow w w.heap.size size A n c xs := by
  obtain ⟨hl, h2⟩ := h
  rcases h2 with ⟨rfl, rfl⟩ | ⟨g, cap, cur, rfl, hb, hh, h3, h4, h5, h6⟩
  · exact ⟨none, 0, rfl, hl, Nat.le_refl _, by unfold maxLen; omega, fun h => absurd h (by omega)⟩
  · refine ⟨_, _, rfl, hl, h3, h4, fun _ => ⟨g, 0, rfl, (Array.getElem?_eq_some_iff.1 hh).1, fun i x hx => ?_⟩⟩
    have hc : w.cell? ⟨g, 0 + i, none⟩ = cur[i]? := by rw [Nat.zero_add]; exact cell_of_row w g i cur e (0, 0) hh
    rw [hc]
    have h7 : (cur.toList.take (n * size))[i]? = some x := by rw [h6]; exact hx
    rw [List.getElem?_take] at h7
    split at h7
    · simpa using h7
    · cases h7
theorem St.rdRow {w W : World} {L : List HRes} (h : St w W L) (i : Nat) {e : TypeId} {size n : Nat} {v : Value} {cells : List Value} (hi : L[i]? = some (rRow e size v n cells)) : ∃ A c, v = .slice A n c ∧ RdRow W W.heap.size size A n c cells := own_rd (h.row i hi)
theorem RdRow.below {w w' : World} {B size : Nat} {A : Option Addr} {n c : Nat} {vs : List Value} (h : RdRow w B size A n c vs) (hb : Below B w w') : RdRow w' B size A n c vs :=
  ⟨h.len, h.cap, h.capMax, fun hn => by
    obtain ⟨b, off, e, hb', hc⟩ := h.at_ hn
    exact ⟨b, off, e, hb', fun i v hv => (bcells hb b _ hb').trans (hc i v hv)⟩⟩
theorem RdRow.up {w w' : World} {size : Nat} {A : Option Addr} {n c : Nat} {vs : List Value} (h : RdRow w w.heap.size size A n c vs) (hb : Below w.heap.size w w') : RdRow w' w'.heap.size size A n c vs := by
  have k := h.below hb
  exact ⟨k.len, k.cap, k.capMax, fun hn => by
    obtain ⟨b, off, e, hb', hc⟩ := k.at_ hn
    exact ⟨b, off, e, by have := hb.size; omega, hc⟩⟩
end Go.Proofs.Ytgnmlpklojgpfaa
