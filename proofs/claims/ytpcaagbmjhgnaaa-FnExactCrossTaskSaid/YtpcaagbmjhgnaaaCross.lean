/- The literals of CrossTask: bothSame and notAllSame, of the program and of the reference. -/
import Derived.Test.YtpcaagbmjhgnaaaGRows
import Derived.Test.YtpcaagbmjhgnaaaTold
namespace Go.Proofs.Ytpcaagbmjhgnaaa
set_option linter.unusedVariables false
open Go.ChangeShapes Go.WideShapes Go.ChangeAt Go.RowKit
def sameI (a b : Nat) : List Int := [a, b, 8, a, b, 9, 7, 9]
def apartI (a b c : Nat) : List Int := [a, b, 8, c, 8, a, b, 9, c, 9, 7, 9, 7]
theorem sameI_wf (a b : Nat) (ha : a < 32) (hb : b < 32) : ∀ x ∈ sameI a b, (Lit.int .i64 x).wf = true := fun x hx => wf_i64_mk (by
  simp only [sameI, List.mem_cons, List.not_mem_nil, or_false] at hx; omega)
theorem apartI_wf (a b c : Nat) (ha : a < 32) (hb : b < 32) (hc : c < 32) : ∀ x ∈ apartI a b c, (Lit.int .i64 x).wf = true := fun x hx => wf_i64_mk (by
  simp only [apartI, List.mem_cons, List.not_mem_nil, or_false] at hx; omega)
theorem St.newLit (w : World) (xs : List Int) (n : Nat) (e : n = xs.length) (hn : xs.length ≤ 1024) (hwf : ∀ x ∈ xs, (Lit.int .i64 x).wf = true) :
    St w (w.alloc (.cells (Go.Proofs.Ytpcaagbmjhgnaaa.ints xs).toArray 3)) [rInts (.slice (some ⟨w.heap.size, 0, none⟩) n n) xs] :=
  (St.new1 w (Go.Proofs.Ytpcaagbmjhgnaaa.ints xs).toArray 3).see fun F h _ => blk_ints (xs := xs) h (by unfold maxLen; omega) hwf e
theorem bothSame_any (a b : Nat) (w : World) (ha : a < 32) (hb : b < 32) : Calls Try.prog 98 #[.int .i64 a, .int .i64 b] w (Gives w id fun v => [rInts v (sameI a b)]) := by
  have HS := Lib.hid (St.newLit w (sameI a b) 8 rfl (by simp [sameI]) (sameI_wf a b ha hb))
  go_enter Try.func98, Try.ntmps98
  go_wp2
  go_ret
  exact ⟨_, rfl, HS.out⟩
theorem l9Same_any (a b : Nat) (w : World) (ha : a < 32) (hb : b < 32) : Calls Try.prog 93 #[.int .i64 a, .int .i64 b] w (Gives w id fun v => [rInts v (sameI a b)]) := by
  have HS := Lib.hid (St.newLit w (sameI a b) 8 rfl (by simp [sameI]) (sameI_wf a b ha hb))
  go_enter Try.func93, Try.ntmps93
  go_wp2
  go_ret
  exact ⟨_, rfl, HS.out⟩
theorem notAllSame_any (a b c : Nat) (w : World) (ha : a < 32) (hb : b < 32) (hc : c < 32) : Calls Try.prog 99 #[.int .i64 a, .int .i64 b, .int .i64 c] w (Gives w id fun v => [rInts v (apartI a b c)]) := by
  have HS := Lib.hid (St.newLit w (apartI a b c) 13 rfl (by simp [apartI]) (apartI_wf a b c ha hb hc))
  go_enter Try.func99, Try.ntmps99
  go_wp2
  go_ret
  exact ⟨_, rfl, HS.out⟩
theorem l9Apart_any (a b c : Nat) (w : World) (ha : a < 32) (hb : b < 32) (hc : c < 32) : Calls Try.prog 95 #[.int .i64 a, .int .i64 b, .int .i64 c] w (Gives w id fun v => [rInts v (apartI a b c)]) := by
  have HS := Lib.hid (St.newLit w (apartI a b c) 13 rfl (by simp [apartI]) (apartI_wf a b c ha hb hc))
  go_enter Try.func95, Try.ntmps95
  go_wp2
  go_ret
  exact ⟨_, rfl, HS.out⟩
end Go.Proofs.Ytpcaagbmjhgnaaa
