/- Plain lemmas on bits of nonnegative numbers and on endings: what the walks of this seat lean on. No condition. -/
import Derived.Test.YtgnmlpklojgpfaaDoorRows
import Derived.WalkKit
import Derived.ProofKit
import Derived.OpenShut
import Derived.Below
import Derived.Deep.QuietTactic
import Derived.BigQuiet
import Derived.Lib.Hide
import Derived.Laws.BitsAllLaws
import Derived.Laws.BitsLemmas
namespace Go.Proofs.YtgnmlpklojgpfaaDoor
open Go.ChangeShapes Go.WideShapes Go.ChangeAt Go.RowKit

theorem ret_bool {a b : Bool} (h : a = b) : Ending.returned (.bool a) = .returned (.bool b) := by rw [h]
/-! ### Slices of numbers that are read -/
/-- in w, below block B, the slice at A with n elements (capacity c) reads as these numbers, which fit their kind -/
structure RdI (k : IntKind) (w : World) (B : Nat) (A : Option Addr) (n c : Nat) (xs : List Int) : Prop where
  len : xs.length = n
  cap : n ≤ c
  capMax : c ≤ maxLen
  wf : ∀ x ∈ xs, (Lit.int k x).wf = true
  at_ : 0 < n → ∃ b off, A = some ⟨b, off, none⟩ ∧ b < B ∧ ∀ i x, xs[i]? = some x → w.cell? ⟨b, off + i, none⟩ = some (.int k x)

section
variable {k : IntKind} {w w' : World} {B : Nat} {A : Option Addr} {n c : Nat} {xs : List Int}
theorem RdI.keep (h : RdI k w B A n c xs) (hk : ∀ b o, b < B → w'.cell? ⟨b, o, none⟩ = w.cell? ⟨b, o, none⟩) : RdI k w' B A n c xs :=
  ⟨h.len, h.cap, h.capMax, h.wf, fun hn => by
    obtain ⟨b, off, e, hb, hc⟩ := h.at_ hn
    exact ⟨b, off, e, hb, fun i x hx => (hk b _ hb).trans (hc i x hx)⟩⟩
theorem RdI.below (h : RdI k w B A n c xs) (hb : Below B w w') : RdI k w' B A n c xs :=
  h.keep fun b o hlt => hb.cell (p := ⟨b, o, none⟩) hlt
theorem RdI.more {B' : Nat} (h : RdI k w B A n c xs) (hB : B ≤ B') : RdI k w B' A n c xs :=
  ⟨h.len, h.cap, h.capMax, h.wf, fun hn => by
    obtain ⟨b, off, e, hb, hc⟩ := h.at_ hn
    exact ⟨b, off, e, by omega, hc⟩⟩
/-- the element at i, where there is one -/
theorem RdI.get (h : RdI k w B A n c xs) {i : Nat} (hi : i < n) : ∃ b off x, A = some ⟨b, off, none⟩ ∧ b < B ∧ xs[i]? = some x ∧ (Lit.int k x).wf = true ∧ w.cell? ⟨b, off + i, none⟩ = some (.int k x) := by
  obtain ⟨b, off, e, hb, hc⟩ := h.at_ (by omega)
  have hl : i < xs.length := by rw [h.len]; exact hi
  exact ⟨b, off, xs[i], e, hb, List.getElem?_eq_getElem hl, h.wf _ (List.getElem_mem hl), hc i _ (List.getElem?_eq_getElem hl)⟩
end
theorem bcells {B : Nat} {w w' : World} (h : Below B w w') : ∀ b o, b < B → w'.cell? ⟨b, o, none⟩ = w.cell? ⟨b, o, none⟩ := fun b o hlt => h.cell (p := ⟨b, o, none⟩) hlt

end Go.Proofs.YtgnmlpklojgpfaaDoor
