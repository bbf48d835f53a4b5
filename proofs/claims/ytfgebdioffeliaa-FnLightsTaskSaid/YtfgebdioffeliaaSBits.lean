/- Joined texts: Bits, Draws. -/
import Derived.Test.YtfgebdioffeliaaSAlive
import Derived.Test.YtfgebdioffeliaaSNum
import Derived.Test.YtfgebdioffeliaaSTDraw
/- The laws' own helpers on sets: both, other, bits. Conditions: sets from 0 on and below 2^40. -/
namespace Go.Proofs.Ytfgebdioffeliaa
open Go.ChangeShapes Go.WideShapes Go.ChangeAt Go.RowKit

theorem tmod2 (m k : Nat) : ((m : Int) / 2 ^ k).tmod 2 = (bit m k : Nat) := by
  have e : ((m : Int) / 2 ^ k) = ((m / 2 ^ k : Nat) : Int) := by simp
  rw [e, Int.tmod_eq_emod_of_nonneg (Int.natCast_nonneg _)]
  unfold bit; simp
theorem lawBoth_nat (a b : Nat) (ha : a < 1099511627776) (w : World) :
    Calls Try.prog 43 #[.int .i64 a, .int .i64 b] w fun e w' => e = .returned (.int .i64 ((a &&& b : Nat) : Int)) ∧ w = w' := by
  have HB : Hid (lowAnd a b 40 = a &&& b) := Lib.hid (Nat.mod_eq_of_lt (Nat.lt_of_le_of_lt Nat.and_le_left ha))
  go_enter Try.func43, Try.ntmps43
  go_wp2
  go_loop [5, 6] (fun o i => ∃ k : Nat, k ≤ 40 ∧ i = .int .i64 k ∧ o = .int .i64 (lowAnd a b k : Nat)) (fun _ i => 40 - (intOf i).toNat)
  case atStart => exact ⟨0, by omega, rfl, by simp [lowAnd, Nat.mod_one]⟩
  case round =>
    obtain ⟨k, hk, rfl, rfl⟩ := hrel
    by_cases hlt : k < 40
    · have hw := wrap_pow k (by omega)
      have hstep : lowAnd a b (k + 1) = lowAnd a b k + bit a k * bit b k * 2 ^ k := both_step a b k
      have ha2 := tmod2 a k
      have hb2 := tmod2 b k
      have l1 := bit_lt a k
      have l2 := bit_lt b k
      have l3 := lowAnd_lt a b k
      by_cases h1 : bit a k = 1
      · by_cases h2 : bit b k = 1
        · have H1 : Hid (lowAnd a b (k + 1) = lowAnd a b k + 2 ^ k) := Lib.hid (by rw [hstep, h1, h2]; simp)
          have hpw : ((2 ^ k : Nat) : Int) ≤ 2 ^ 40 := by exact_mod_cast (Nat.pow_le_pow_right (show 0 < 2 by omega) (show k ≤ 40 by omega))
          have hl : ((lowAnd a b k : Nat) : Int) < 2 ^ k := by exact_mod_cast l3
          have hpi := pow_le_int k 40 (by omega)
          rw [h1] at ha2
          rw [h2] at hb2
          clear hstep h1 h2 l1 l2 l3 hpw
          go_wp2
          go_round
          case rel => exact ⟨k + 1, by omega, by go_num, by rw [H1.out]; simp⟩
          case measure => simp [intOf]; omega
        · have h2' : bit b k = 0 := by omega
          have H1 : Hid (lowAnd a b (k + 1) = lowAnd a b k) := Lib.hid (by rw [hstep, h2']; simp)
          rw [h1] at ha2
          rw [h2'] at hb2
          clear hstep h1 h2 h2' l1 l2 l3
          go_wp2
          go_round
          case rel => exact ⟨k + 1, by omega, by go_num, by rw [H1.out]⟩
          case measure => simp [intOf]; omega
      · have h1' : bit a k = 0 := by omega
        have H1 : Hid (lowAnd a b (k + 1) = lowAnd a b k) := Lib.hid (by rw [hstep, h1']; simp)
        rw [h1'] at ha2
        clear hstep h1 h1' l1 l2 l3 hb2
        go_wp2
        go_round
        case rel => exact ⟨k + 1, by omega, by go_num, by rw [H1.out]⟩
        case measure => simp [intOf]; omega
    · obtain rfl : k = 40 := by omega
      go_wp2
      go_ret
      exact ⟨ret_int (by show ((lowAnd a b 40 : Nat) : Int) = _; rw [HB.out]), rfl⟩
def bitSum (n : Nat) : Nat → Nat
  | 0 => 0
  | k + 1 => bitSum n k + bit n k
theorem bitSum_le (n k : Nat) : bitSum n k ≤ k := by
  induction k with
  | zero => simp [bitSum]
  | succ k ih => have := bit_lt n k; simp only [bitSum]; omega
theorem lawBits_nat (n : Nat) (w : World) :
    Calls Try.prog 42 #[.int .i64 n] w fun e w' => e = .returned (.int .i64 (bitSum n 40 : Nat)) ∧ w = w' := by
  go_enter Try.func42, Try.ntmps42
  go_wp2
  go_loop [3, 4] (fun o i => ∃ k : Nat, k ≤ 40 ∧ i = .int .i64 k ∧ o = .int .i64 (bitSum n k : Nat)) (fun _ i => 40 - (intOf i).toNat)
  case atStart => exact ⟨0, by omega, rfl, rfl⟩
  case round =>
    obtain ⟨k, hk, rfl, rfl⟩ := hrel
    by_cases hlt : k < 40
    · have h2 := tmod2 n k
      have l1 := bit_lt n k
      have l2 := bitSum_le n k
      by_cases h1 : bit n k = 1
      · have H1 : Hid (bitSum n (k + 1) = bitSum n k + 1) := Lib.hid (by rw [bitSum, h1])
        rw [h1] at h2
        clear h1 l1
        go_wp2
        go_round
        case rel => exact ⟨k + 1, by omega, by go_num, by rw [H1.out]; go_num⟩
        case measure => simp [intOf]; omega
      · have h1' : bit n k = 0 := by omega
        have H1 : Hid (bitSum n (k + 1) = bitSum n k) := Lib.hid (by rw [bitSum, h1']; rfl)
        rw [h1'] at h2
        clear h1 h1' l1
        go_wp2
        go_round
        case rel => exact ⟨k + 1, by omega, by go_num, by rw [H1.out]⟩
        case measure => simp [intOf]; omega
    · obtain rfl : k = 40 := by omega
      go_wp2
      go_ret
      exact ⟨rfl, rfl⟩
end Go.Proofs.Ytfgebdioffeliaa

/- l20Open within a list of things; the draws that only draw a task. -/
namespace Go.Proofs.Ytfgebdioffeliaa
set_option linter.unusedVariables false
set_option linter.unusedSimpArgs false
open Go.ChangeShapes Go.WideShapes Go.ChangeAt Go.RowKit

theorem l20Open_rd {w W : World} {L : List HRes} (S : St w W L) {A : Option Addr} {n c : Nat} {xs : List Int} (h : RdI .u8 w w.heap.size A n c xs) :
    Calls Try.prog 20 #[.slice A n c] W fun e w' => ∃ g, e = .returned (.pointer (some ⟨g, 0, none⟩)) ∧ St w w' (rRd w g 0 :: L) := by
  have hn := h.cap
  have hm := h.capMax
  unfold maxLen at hm
  by_cases hb : 2000 < n
  · have HS : Hid (St w (W.alloc (.cells #[.slice A 2000 c, .int .i64 0] 72)) (rRd w W.heap.size 0 :: L)) := Lib.hid ((S.allocF #[.slice A 2000 c, .int .i64 0] 72).see fun F ⟨h1, h2⟩ _ => ⟨h2, 0, A, 2000, c, _, Nat.le_refl _, Nat.le_refl _, rdI_prefix h 2000 (by omega), h1⟩)
    clear S
    go_enter Try.func20, Try.ntmps20
    go_wp2
    go_ret
    exact ⟨_, rfl, HS.out⟩
  · have HS : Hid (St w (W.alloc (.cells #[.slice A n c, .int .i64 0] 72)) (rRd w W.heap.size 0 :: L)) := Lib.hid ((S.allocF #[.slice A n c, .int .i64 0] 72).see fun F ⟨h1, h2⟩ _ => ⟨h2, 0, A, n, c, _, Nat.le_refl _, by omega, h, h1⟩)
    clear S
    go_enter Try.func20, Try.ntmps20
    go_wp2
    go_ret
    exact ⟨_, rfl, HS.out⟩
/-- what a draw of a task gives -/
def GivesT (w : World) (e : Ending) (w' : World) : Prop := ∃ v t, e = .returned v ∧ TaskSm t ∧ St w w' [rTask v t]
end Go.Proofs.Ytfgebdioffeliaa
