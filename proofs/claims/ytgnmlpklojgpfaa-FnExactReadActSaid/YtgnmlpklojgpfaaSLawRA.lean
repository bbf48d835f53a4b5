/- The walk of FnExactReadAct. -/
import Derived.Test.YtgnmlpklojgpfaaSActRS
namespace Go.Proofs.Ytgnmlpklojgpfaa
set_option linter.unusedVariables false
set_option linter.unusedSimpArgs false
open Go.ChangeShapes Go.WideShapes Go.ChangeAt Go.RowKit

theorem ActR.form {o : Option (Int × Int)} {e : Ending} (h : ActR o e) : ∃ k n b, e = .returned (.tuple #[.agg #[.int .i64 k, .int .i64 n], .bool b]) ∧ k = (o.getD (0, 0)).1 ∧ n = (o.getD (0, 0)).2 ∧ b = o.isSome := ⟨_, _, _, h, rfl, rfl, rfl⟩
set_option maxRecDepth 100000 in
set_option maxHeartbeats 1000000 in
theorem FnExactReadAct_walk (s : ByteArray) (w : World) (hs : s.size ≤ maxLen) :
    Calls Try.prog 7 #[.string s] w fun e w' => e = .returned (.bool true) ∧ Below w.heap.size w w' := by
  unfold maxLen at hs
  by_cases hbig : 1048576 < s.size
  · have h1 : (1048576 : Int) < (s.size : Int) := by omega
    go_enter Try.func7, Try.ntmps7
    go_wp2
    go_ret
    exact ⟨rfl, Below.refl _ _⟩
  have h1 : ¬ (1048576 : Int) < (s.size : Int) := by omega
  obtain ⟨o, ho⟩ : ∃ o, readA s.data.toList = o := ⟨_, rfl⟩
  have HO := Lib.hid ho
  clear ho
  go_enter Try.func7, Try.ntmps7
  go_wp2_with fail
  refine (readAct_spec s _ (by omega)).mono ?_
  rintro e w1 ⟨hr1, hb1⟩
  rw [HO.out] at hr1
  obtain ⟨k, n, b, rfl, hk, hn, hbb⟩ := hr1.form
  obtain ⟨g3, hg3⟩ : ∃ g, w1.heap.size = g := ⟨_, rfl⟩
  have HS1 : Hid (St w (w1.alloc (.cells #[.int .i64 k, .int .i64 n] 31)) [rBlk g3 31 #[.int .i64 k, .int .i64 n]]) := Lib.hid (by
    rw [← hg3]; exact (St.of_below hb1).alloc _ _)
  have HK := Lib.hid hk
  have HNN := Lib.hid hn
  have HBB := Lib.hid hbb
  clear hb1 hr1 hk hn hbb
  go_wp2_with fail
  try rw [hg3]
  refine (readAct_impl s _ (by omega)).mono ?_
  rintro e w2 ⟨hr2, hb2⟩
  rw [HO.out] at hr2
  obtain ⟨k', n', b', rfl, rfl, rfl, rfl⟩ := hr2.form
  rw [← HK.out, ← HNN.out, ← HBB.out]
  obtain ⟨g5, hg5⟩ : ∃ g, w2.heap.size = g := ⟨_, rfl⟩
  have HS2 : Hid (St w (w2.alloc (.cells #[.int .i64 k, .int .i64 n] 31)) [rBlk g3 31 #[.int .i64 k, .int .i64 n], rBlk g5 31 #[.int .i64 k, .int .i64 n]]) := Lib.hid (by
    rw [← hg5]; exact (HS1.out.quiet hb2).alloc _ _)
  clear hb2 hr2 HK HNN HBB hg3
  have q3 : ∀ j, (w2.alloc (.cells #[.int .i64 k, .int .i64 n] 31)).cell? ⟨g3, j, none⟩ = _ := HS2.out.cells 0 rfl
  go_wp2_with fail
  try rw [hg5]
  clear q3 hg5
  refine (eqAct_same k n _).mono ?_
  rintro e w3 ⟨rfl, hb3⟩
  have HS3 := Lib.hid (HS2.out.quiet hb3)
  clear hb3
  cases b
  · go_wp2
    go_ret
    exact ⟨rfl, HS3.out.below⟩
  · go_wp2
    go_ret
    exact ⟨rfl, HS3.out.below⟩
end Go.Proofs.Ytgnmlpklojgpfaa
