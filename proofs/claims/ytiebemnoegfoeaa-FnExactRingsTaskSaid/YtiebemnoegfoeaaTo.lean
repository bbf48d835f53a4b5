/- The laws' helpers that copy an argument: toDeed, toDeedS, toTask: each hands back the same data in new memory of its own. -/
import Derived.Test.YtiebemnoegfoeaaPart
import Derived.Test.YtiebemnoegfoeaaInts
namespace Go.Proofs.Ytiebemnoegfoeaa
open Go.ChangeShapes Go.WideShapes Go.ChangeAt Go.RowKit

theorem toIntS_own (A : Option Addr) (n c : Nat) (xs : List Int) (w : World) (h : RdI .i64 w w.heap.size A n c xs) (hn : n ≤ 1099511627776) :
    Calls Try.prog 21 #[.slice A n c] w fun e w' => (∃ A' c' F, e = .returned (.slice A' n c') ∧ OwnI w' w.heap.size (.slice A' n c') xs F) ∧ Below w.heap.size w w' :=
  (toIntS_any A n c xs w h hn).mono fun e w' ⟨he, ho, hb⟩ => ⟨⟨_, _, _, he, ⟨by have := h.len; subst this; exact ho, h.wf, rfl⟩⟩, hb⟩
theorem own_blk_full {w : World} {base g : Nat} {e : TypeId} {size n : Nat} {xs : List Value} (h : w.ownsRow base e size (.slice (some ⟨g, 0, none⟩) n n) n xs) : Blk w g e xs.toArray := by
  rcases h.2 with ⟨e, -⟩ | ⟨g', cap, cur, e, -, hh, -, -, hs, ht⟩
  · cases e
  · simp only [Value.slice.injEq, Option.some.injEq, Addr.mk.injEq] at e
    obtain ⟨⟨rfl, -⟩, -, rfl⟩ := e
    rw [List.take_of_length_le (by simp [hs])] at ht
    have hc : cur = xs.toArray := by rw [← ht]
    rw [← hc]; exact hh
theorem elDeed : ElemT Try.prog 44 75 (.agg #[.slice none 0 0, .int .i64 0, .int .i64 0, .int .i64 0]) 4 48 := ⟨Try.underlying44, info_parts (by kernel_rfl), rfl, by omega⟩

end Go.Proofs.Ytiebemnoegfoeaa
