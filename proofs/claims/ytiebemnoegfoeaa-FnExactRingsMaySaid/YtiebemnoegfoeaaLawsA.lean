/- The walks of the laws on rings and on Gray's code: each returns true. No condition. -/
import Derived.Test.YtiebemnoegfoeaaRings
namespace Go.Proofs.Ytiebemnoegfoeaa
open Go.ChangeShapes Go.WideShapes Go.ChangeAt Go.RowKit

theorem FnExactGrayOf_walk (n : Int) (_h : (Lit.int .i64 n).wf = true) (w : World) :
    Calls Try.prog 4 #[.int .i64 n] w fun e w' => e = .returned (.bool true) ∧ Below w.heap.size w w' := by
  go_enter Try.func4, Try.ntmps4
  go_wp2_with (first | (go_at_call 16; refine (grayOf_spec _ _).mono ?_; rintro e w' ⟨rfl, rfl⟩) | (go_at_call 17; refine (grayOf_impl _ _).mono ?_; rintro e w' ⟨rfl, rfl⟩))
  go_ret
  exact ⟨rfl, Below.refl _ _⟩
theorem FnExactGrayPlace_walk (n : Int) (_h : (Lit.int .i64 n).wf = true) (w : World) :
    Calls Try.prog 5 #[.int .i64 n] w fun e w' => e = .returned (.bool true) ∧ Below w.heap.size w w' := by
  go_enter Try.func5, Try.ntmps5
  go_wp2_with (first | (go_at_call 18; refine (grayPlace_spec _ _).mono ?_; rintro e w' ⟨rfl, rfl⟩) | (go_at_call 19; refine (grayPlace_impl _ _).mono ?_; rintro e w' ⟨rfl, rfl⟩))
  go_ret
  exact ⟨rfl, Below.refl _ _⟩
theorem below_drewN {B : Nat} {a w : World} (h : Below B a w) (n : Nat) : Below B a (w.drewN n) := ⟨h.os, h.tape, h.output, h.size, h.block⟩
theorem FnExactRingsMay_walk (r : Int) (_h : (Lit.int .i64 r).wf = true) (s : Int) (_h1 : (Lit.int .i64 s).wf = true) (k : Int) (_h2 : (Lit.int .i64 k).wf = true) (w : World) :
    Calls Try.prog 3 #[.int .i64 r, .int .i64 s, .int .i64 k] w fun e w' => e = .returned (.bool true) ∧ Below w.heap.size w w' := by
  go_enter Try.func3, Try.ntmps3
  go_wp2_with (first | (go_at_call 14; refine (ringsMay_spec _ _ _ _).mono ?_; rintro e w' ⟨rfl, n1, rfl⟩) | (go_at_call 15; refine (ringsMay_impl _ _ _ _).mono ?_; rintro e w' ⟨rfl, n1, rfl⟩))
  go_ret
  exact ⟨rfl, below_drewN (Below.refl _ _) _⟩
end Go.Proofs.Ytiebemnoegfoeaa
