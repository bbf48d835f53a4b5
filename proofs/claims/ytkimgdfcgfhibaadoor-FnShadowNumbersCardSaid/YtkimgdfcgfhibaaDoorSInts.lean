/- Joined texts: Ints, Gray, Rings. -/
import Derived.Test.YtkimgdfcgfhibaaDoorSNum
/- The laws' helpers on slices of numbers: toIntS, eqIntS. Condition: at most 2^40 numbers. -/
namespace Go.Proofs.YtkimgdfcgfhibaaDoor
open Go.ChangeShapes Go.WideShapes Go.ChangeAt Go.RowKit

def fillI (xs : List Int) (k : Nat) : Array Value := (ints (xs.take k ++ List.replicate (xs.length - k) 0)).toArray
theorem fillI_at (xs : List Int) (k : Nat) (hk : k < xs.length) : (fillI xs k)[k]? = some (.int .i64 0) := by
  unfold fillI ints
  simp only [List.getElem?_toArray, List.getElem?_map, Option.map_eq_some_iff]
  refine ⟨0, ?_, rfl⟩
  rw [List.getElem?_append_right (by simp only [List.length_take]; omega)]
  simp only [List.length_take, List.getElem?_replicate]
  rw [if_pos (by omega)]
theorem fillI_step (xs : List Int) (k : Nat) (x : Int) (hx : xs[k]? = some x) : (fillI xs k).setIfInBounds k (.int .i64 x) = fillI xs (k + 1) := by
  have hk : k < xs.length := (List.getElem?_eq_some_iff.1 hx).1
  apply Array.ext'
  unfold fillI ints
  simp only [Array.toList_setIfInBounds]
  apply List.ext_getElem?
  intro i
  rw [List.getElem?_set]
  simp only [List.getElem?_map, List.length_map, List.length_append, List.length_take, List.length_replicate]
  have e1 : min k xs.length = k := by omega
  have e2 : min (k + 1) xs.length = k + 1 := by omega
  rcases Nat.lt_trichotomy k i with h | h | h
  · rw [if_neg (by omega), List.getElem?_append_right (by simp; omega), List.getElem?_append_right (by simp; omega)]
    simp only [List.length_take, List.getElem?_replicate, e1, e2]
    by_cases h2 : i < xs.length
    · rw [if_pos (by omega), if_pos (by omega)]
    · rw [if_neg (by omega), if_neg (by omega)]
  · subst h
    rw [if_pos rfl, if_pos (by omega), List.getElem?_append_left (by simp; omega), List.getElem?_take, if_pos (by omega), hx]; rfl
  · rw [if_neg (by omega), List.getElem?_append_left (by simp; omega), List.getElem?_append_left (by simp; omega), List.getElem?_take, List.getElem?_take, if_pos (by omega), if_pos (by omega)]
theorem fillI_done (xs : List Int) : (fillI xs xs.length).toList = ints xs := by simp [fillI]
end Go.Proofs.YtkimgdfcgfhibaaDoor

/- GrayOf, GrayPlace and RingsMay, of the program and of the reference: each returns one plain function, for every argument. -/
namespace Go.Proofs.YtkimgdfcgfhibaaDoor
open Go.ChangeShapes Go.WideShapes Go.ChangeAt Go.RowKit

def grayOf (n : Int) : Int := if 0 ≤ n ∧ n < 32 then ((n.toNat ^^^ (n.toNat / 2) : Nat) : Int) else -1
/-- the place of a state: the states from it on, halved again and again, added where twice is nothing -/
def xorDown : Nat → Nat → Nat
  | 0, _ => 0
  | f + 1, s => s ^^^ xorDown f (s / 2)
def grayPlace (s : Int) : Int := if 0 ≤ s ∧ s < 32 then ((xorDown 5 s.toNat : Nat) : Int) else -1
/-- the value after k rounds of the program's loop -/
def half (m k : Nat) : Nat := m / 2 ^ k
end Go.Proofs.YtkimgdfcgfhibaaDoor

/- RingsMay of the program and of the reference: each returns one plain function, for every argument. -/
namespace Go.Proofs.YtkimgdfcgfhibaaDoor
open Go.ChangeShapes Go.WideShapes Go.ChangeAt Go.RowKit

def ringsIn (r s : Int) : Bool := decide (1 ≤ r ∧ r ≤ 5 ∧ 0 ≤ s ∧ s < 2 ^ r.toNat)
def ringsMay (r s k : Int) : Bool := ringsIn r s && decide (0 ≤ k ∧ k < r ∧ (k = 0 ∨ s % 2 ^ k.toNat = 2 ^ (k.toNat - 1)))

end Go.Proofs.YtkimgdfcgfhibaaDoor
