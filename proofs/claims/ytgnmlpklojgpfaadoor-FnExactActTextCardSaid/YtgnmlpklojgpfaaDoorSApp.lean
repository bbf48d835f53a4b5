/- Append in a region that draws its order; rows of codes of the call's own (OwnP); rows of deeds that grow by append (PushDs). -/
import Derived.Test.YtgnmlpklojgpfaaDoorSTo
import Derived.Deep.RegionLaw
namespace Go.Proofs.YtgnmlpklojgpfaaDoor
open Go.ChangeShapes Go.WideShapes Go.ChangeAt Go.RowKit

section
variable {w w2 w3 : World} {lo : Nat} {v v' : Value}
theorem OwnI.none (w : World) (lo : Nat) : OwnI w lo (.slice .none 0 0) [] [] := ⟨World.ownsRow_nil w lo _ 1, by simp, rfl⟩
/-- a row of codes that is read -/
structure RdP (w : World) (B : Nat) (A : Option Addr) (n c : Nat) (xss : List (List Int)) : Prop where
  len : xss.length = n
  cap : n ≤ c
  capMax : c ≤ maxLen
  at_ : 0 < n → ∃ b off, A = some ⟨b, off, .none⟩ ∧ b < B ∧ ∀ (i : Nat) xs, xss[i]? = some xs → ∃ Ai ci, w.cell? ⟨b, off + i, .none⟩ = some (.slice Ai xs.length ci) ∧ RdI .i64 w B Ai xs.length ci xs
theorem RdP.below {A : Option Addr} {n c B : Nat} {xss : List (List Int)} (h : RdP w B A n c xss) (hb : Below B w w2) : RdP w2 B A n c xss :=
  ⟨h.len, h.cap, h.capMax, fun hn => by
    obtain ⟨b, off, e, hbl, hc⟩ := h.at_ hn
    refine ⟨b, off, e, hbl, fun i xs hi => ?_⟩
    obtain ⟨Ai, ci, h1, h2⟩ := hc i xs hi
    exact ⟨Ai, ci, (bcells hb b _ hbl).trans h1, h2.below hb⟩⟩
theorem RdP.get {A : Option Addr} {n c B k : Nat} {xss : List (List Int)} (h : RdP w B A n c xss) (hk : k < n) : ∃ b off xs Ai ci, A = some ⟨b, off, .none⟩ ∧ b < B ∧ xss[k]? = some xs ∧ w.cell? ⟨b, off + k, .none⟩ = some (.slice Ai xs.length ci) ∧ RdI .i64 w B Ai xs.length ci xs := by
  obtain ⟨b, off, e, hbl, hc⟩ := h.at_ (by omega)
  have hl : k < xss.length := by rw [h.len]; exact hk
  obtain ⟨Ai, ci, h1, h2⟩ := hc k _ (List.getElem?_eq_getElem hl)
  exact ⟨b, off, _, Ai, ci, e, hbl, List.getElem?_eq_getElem hl, h1, h2⟩
section
variable {T : Nat} {ds : List DeedD} {cells : List Value} {Fs : List (List Nat)}
end
end
end Go.Proofs.YtgnmlpklojgpfaaDoor
