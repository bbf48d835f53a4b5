/- behindAll of the program: for each deed and state the state behind it, or -1. Printed by gen_search.py. -/
import Derived.Test.YtgnmlpklojgpfaaDoorSTruth
namespace Go.Proofs.YtgnmlpklojgpfaaDoor
set_option linter.unusedVariables false
set_option linter.unusedSimpArgs false
open Go.ChangeShapes Go.WideShapes Go.ChangeAt Go.RowKit

/-- what stands at the place i of the rows: of the deed i / 32 and the state i % 32 -/
def behF (ds : List DeedD) (i : Nat) : Int := match ds[i / 32]? with
  | some d => opt (deedDo d (i % 32))
  | none => -1
def behL (ds : List DeedD) : List Int := (List.range (ds.length * 32)).map (behF ds)
theorem RdRow.below {w w' : World} {B size : Nat} {A : Option Addr} {n c : Nat} {vs : List Value} (h : RdRow w B size A n c vs) (hb : Below B w w') : RdRow w' B size A n c vs :=
  ⟨h.len, h.cap, h.capMax, fun hn => by
    obtain ⟨b, off, e, hb', hc⟩ := h.at_ hn
    exact ⟨b, off, e, hb', fun i v hv => (bcells hb b _ hb').trans (hc i v hv)⟩⟩
theorem RdRow.up {w w' : World} {size : Nat} {A : Option Addr} {n c : Nat} {vs : List Value} (h : RdRow w w.heap.size size A n c vs) (hb : Below w.heap.size w w') : RdRow w' w'.heap.size size A n c vs := by
  have k := h.below hb
  exact ⟨k.len, k.cap, k.capMax, fun hn => by
    obtain ⟨b, off, e, hb', hc⟩ := k.at_ hn
    exact ⟨b, off, e, by have := hb.size; omega, hc⟩⟩
end Go.Proofs.YtgnmlpklojgpfaaDoor
