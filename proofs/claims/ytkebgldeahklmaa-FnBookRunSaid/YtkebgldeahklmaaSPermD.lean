/- l20Perm within a list of things: it draws a row of small numbers. -/
import Derived.Test.YtkebgldeahklmaaSTDraw2
import Derived.Test.YtkebgldeahklmaaSIntS
namespace Go.Proofs.Ytkebgldeahklmaa
set_option linter.unusedVariables false
set_option linter.unusedSimpArgs false
open Go.ChangeShapes Go.WideShapes Go.ChangeAt Go.RowKit

theorem ownsRow_take {w : World} {base : Nat} {e : TypeId} {A : Option Addr} {n c m : Nat} {xs : List Value} (h : w.ownsRow base e 1 (.slice A n c) n xs) (hm : m ≤ n) : w.ownsRow base e 1 (.slice A m c) m (xs.take m) := by
  obtain ⟨h1, h2⟩ := h
  refine ⟨by rw [List.length_take, h1]; omega, ?_⟩
  rcases h2 with ⟨hv, hn⟩ | ⟨g, cap, cur, hv, hb, hg, h3, h4, h5, h6⟩
  · simp only [Value.slice.injEq] at hv
    obtain ⟨rfl, rfl, rfl⟩ := hv
    obtain rfl : m = 0 := by omega
    exact .inl ⟨rfl, rfl⟩
  · simp only [Value.slice.injEq] at hv
    obtain ⟨rfl, -, rfl⟩ := hv
    refine .inr ⟨g, c, cur, rfl, hb, hg, by omega, h4, h5, ?_⟩
    rw [← h6, List.take_take]
    congr 1
    omega
theorem RdI.dropAt {k : IntKind} {w : World} {B g n c : Nat} {xs : List Int} (h : RdI k w B (some ⟨g, 0, none⟩) n c xs) (m : Nat) (hm : m ≤ n) : RdI k w B (some ⟨g, m, none⟩) (n - m) (c - m) (xs.drop m) := by
  refine ⟨by rw [List.length_drop, h.len], by have := h.cap; omega, by have := h.capMax; omega, fun x hx => h.wf x (List.mem_of_mem_drop hx), fun hp => ?_⟩
  obtain ⟨b, off, e, hb, hc⟩ := h.at_ (by omega)
  simp only [Option.some.injEq, Addr.mk.injEq, and_true] at e
  obtain ⟨rfl, rfl⟩ := e
  refine ⟨_, _, rfl, hb, fun i x hx => ?_⟩
  rw [List.getElem?_drop] at hx
  have := hc (m + i) x hx
  simpa [Nat.zero_add] using this
end Go.Proofs.Ytkebgldeahklmaa
