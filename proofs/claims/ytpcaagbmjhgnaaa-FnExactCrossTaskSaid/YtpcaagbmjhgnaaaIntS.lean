/- A row of numbers of the list St, read: with the name of its value at hand. No program in sight but for type numbers. -/
import Derived.Test.YtpcaagbmjhgnaaaHelp
namespace Go.Proofs.Ytpcaagbmjhgnaaa
theorem St.rdI' {w W : World} {L : List HRes} (h : St w W L) (k : Nat) {A : Option Addr} {n c : Nat} {xs : List Int} (hk : L[k]? = some (rInts (.slice A n c) xs)) : RdI .i64 W W.heap.size A n c xs := by
  obtain ⟨A', c', e, hr⟩ := h.rdI k hk
  simp only [Value.slice.injEq] at e
  obtain ⟨rfl, rfl, rfl⟩ := e
  exact hr
theorem Sn.rdI' {w W : World} {M : Nat → Option HRes} (h : Sn w W M) (k : Nat) {A : Option Addr} {n c : Nat} {xs : List Int} (hk : M k = some (rInts (.slice A n c) xs)) : RdI .i64 W W.heap.size A n c xs := by
  obtain ⟨A', c', e, hr⟩ := h.rdI k hk
  simp only [Value.slice.injEq] at e
  obtain ⟨rfl, rfl, rfl⟩ := e
  exact hr
end Go.Proofs.Ytpcaagbmjhgnaaa
