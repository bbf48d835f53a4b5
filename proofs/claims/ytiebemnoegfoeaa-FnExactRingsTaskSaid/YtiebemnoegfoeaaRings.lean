/- RingsMay of the program and of the reference: each returns one plain function, for every argument. -/
import Derived.Test.YtiebemnoegfoeaaGray
namespace Go.Proofs.Ytiebemnoegfoeaa
open Go.ChangeShapes Go.WideShapes Go.ChangeAt Go.RowKit

def ringsIn (r s : Int) : Bool := decide (1 ≤ r ∧ r ≤ 5 ∧ 0 ≤ s ∧ s < 2 ^ r.toNat)
def ringsMay (r s k : Int) : Bool := ringsIn r s && decide (0 ≤ k ∧ k < r ∧ (k = 0 ∨ s % 2 ^ k.toNat = 2 ^ (k.toNat - 1)))

theorem ringsOk_any (r s : Int) (w : World) :
    Calls Try.prog 45 #[.int .i64 r, .int .i64 s] w fun e w' => e = .returned (.bool (ringsIn r s)) ∧ w = w' := by
  have hw : 0 ≤ r → r ≤ 62 → wrap64 (2 ^ r.toNat) = 2 ^ r.toNat := fun h0 h1 => wrap_pow _ (by omega)
  have H := Lib.hid hw; clear hw
  go_enter Try.func45, Try.ntmps45
  go_wp2
  all_goals go_ret
  all_goals refine ⟨ret_bool ?_, rfl⟩
  all_goals unfold ringsIn
  · rw [H.out (by omega) (by omega)]
    generalize (2 : Int) ^ r.toNat = q
    rw [decide_eq_decide]
    constructor <;> intro <;> omega
  all_goals (symm; simp; omega)

theorem ringsIn_bd (r s : Int) (h : ringsIn r s = true) : 1 ≤ r ∧ r ≤ 5 ∧ 0 ≤ s ∧ s < 32 := by
  unfold ringsIn at h
  have h := of_decide_eq_true h
  have h1 := pow_le_int r.toNat 5 (by omega)
  omega
theorem ringsMay_at (r s : Int) (m : Nat) (h : ringsIn r s = true) (hm : (m : Int) < r) (h0 : 0 < m) : ringsMay r s m = decide (s % 2 ^ m = 2 ^ (m - 1)) := by
  unfold ringsMay
  rw [h, Bool.true_and, decide_eq_decide, Int.toNat_natCast]
  constructor
  · rintro ⟨_, _, h | h⟩
    · omega
    · exact h
  · intro h; exact ⟨by omega, hm, .inr h⟩
theorem mask (s : Int) (m : Nat) (h0 : 0 ≤ s) (h1 : s < 32) (hm : m < 5) : bits BinOp.and IntKind.i64 s (wrap64 (wrap64 (2 ^ m) - 1)) = s % 2 ^ m := by
  obtain ⟨t, rfl⟩ := Int.eq_ofNat_of_zero_le h0
  rw [wrap_pow m (by omega)]
  have h3 : (0 : Int) < 2 ^ m := Int.pow_pos (by omega)
  have h4 := pow_le_int m 5 (by omega)
  rw [IntWalk.wrap64_in _ ⟨by omega, by omega⟩]
  have e : ((2 : Int) ^ m - 1) = ((2 ^ m - 1 : Nat) : Int) := by
    have h5 : 1 ≤ 2 ^ m := Nat.pos_of_ne_zero (by simp)
    rw [Int.natCast_sub h5]; simp
  rw [e, i64_and_nat _ _ (by omega) (by
    have h5 : 2 ^ m ≤ 2 ^ 5 := Nat.pow_le_pow_right (by omega) (show m ≤ 5 by omega)
    omega), Nat.and_two_pow_sub_one_eq_mod]
  simp
theorem ringsMay_impl (r s k : Int) (w : World) :
    Calls Try.prog 15 #[.int .i64 r, .int .i64 s, .int .i64 k] w fun e w' => e = .returned (.bool (ringsMay r s k)) ∧ ∃ n, w' = w.drewN n := by
  by_cases h : ringsIn r s = true
  · obtain ⟨b1, b2, b3, b4⟩ := ringsIn_bd r s h
    by_cases hk : 0 ≤ k ∧ k < r
    · by_cases hz : k = 0
      · subst hz
        have H : Hid (ringsMay r s 0 = true) := Lib.hid (by unfold ringsMay; rw [h]; simp; omega)
        have h0 : ((0 : Int) == 0) = true := rfl
        have HI : Hid (ringsIn r s = true) := Lib.hid h
        clear h
        go_enter Try.func15, Try.ntmps15
        go_wp2_with (go_at_call 45; refine (ringsOk_any r s _).mono ?_; rw [HI.out]; rintro e w' ⟨rfl, rfl⟩)
        go_quiet (fail)
        go_wp2
        go_ret
        exact ⟨ret_bool H.out.symm, _, rfl⟩
      · obtain ⟨m, rfl⟩ := Int.eq_ofNat_of_zero_le hk.1
        have hz' : ((m : Int) == 0) = false := by simpa using hz
        have HV := Lib.hid (ringsMay_at r s m h hk.2 (by omega))
        have HM := Lib.hid (mask s m b3 b4 (by omega))
        have HI : Hid (ringsIn r s = true) := Lib.hid h
        have hr := hk.2
        clear h hk hz
        go_enter Try.func15, Try.ntmps15
        go_wp2_with (go_at_call 45; refine (ringsOk_any r s _).mono ?_; rw [HI.out]; rintro e w' ⟨rfl, rfl⟩)
        go_quiet (fail)
        go_wp2
        go_ret
        refine ⟨ret_bool ?_, _, rfl⟩
        rw [HV.out]
        show (bits BinOp.and IntKind.i64 s (wrap64 (wrap64 (2 ^ m) - 1)) == wrap64 (2 ^ (m - 1))) = _
        rw [HM.out, wrap_pow (m - 1) (by omega)]
        rfl
    · have HV : Hid (ringsMay r s k = false) := Lib.hid (by unfold ringsMay; rw [decide_eq_false (by omega), Bool.and_false])
      have HI : Hid (ringsIn r s = true) := Lib.hid h
      clear h
      go_enter Try.func15, Try.ntmps15
      go_wp2_with (go_at_call 45; refine (ringsOk_any r s _).mono ?_; rw [HI.out]; rintro e w' ⟨rfl, rfl⟩)
      all_goals first | (exfalso; omega) | go_ret
      all_goals exact ⟨ret_bool HV.out.symm, 0, rfl⟩
  · have hf : ringsIn r s = false := by simpa using h
    have HV : Hid (ringsMay r s k = false) := Lib.hid (by unfold ringsMay; rw [hf, Bool.false_and])
    have HI : Hid (ringsIn r s = false) := Lib.hid hf
    clear h hf
    go_enter Try.func15, Try.ntmps15
    go_wp2_with (go_at_call 45; refine (ringsOk_any r s _).mono ?_; rw [HI.out]; rintro e w' ⟨rfl, rfl⟩)
    go_ret
    exact ⟨ret_bool HV.out.symm, 0, rfl⟩

theorem ringsMay_spec (r s k : Int) (w : World) :
    Calls Try.prog 14 #[.int .i64 r, .int .i64 s, .int .i64 k] w fun e w' => e = .returned (.bool (ringsMay r s k)) ∧ ∃ n, w' = w.drewN n := by
  by_cases hr : 1 ≤ r ∧ r ≤ 5
  · obtain ⟨b1, b2⟩ := hr
    have hw := wrap_pow r.toNat (by omega)
    have hw1 : 1 ≤ (2 : Int) ^ r.toNat := Int.pow_pos (by omega)
    have hw2 := pow_le_int r.toNat 5 (by omega)
    by_cases hs : 0 ≤ s ∧ s < 2 ^ r.toNat
    · have h : ringsIn r s = true := by unfold ringsIn; exact decide_eq_true ⟨b1, b2, hs.1, hs.2⟩
      obtain ⟨b3, b4⟩ := hs
      by_cases hk : 0 ≤ k ∧ k < r
      · by_cases hz : k = 0
        · subst hz
          have H : Hid (ringsMay r s 0 = true) := Lib.hid (by unfold ringsMay; rw [h]; simp; omega)
          have h0 : ((0 : Int) == 0) = true := rfl
          clear h
          go_enter Try.func14, Try.ntmps14
          go_wp2_with (go_at_call 44; refine (l1In_yes _ _ _ _ (by omega) (by omega)).mono ?_; rintro e w' ⟨rfl, rfl⟩)
          go_quiet (fail)
          go_wp2
          go_ret
          exact ⟨ret_bool H.out.symm, _, rfl⟩
        · obtain ⟨m, rfl⟩ := Int.eq_ofNat_of_zero_le hk.1
          have hz' : ((m : Int) == 0) = false := by simpa using hz
          have HV := Lib.hid (ringsMay_at r s m h hk.2 (by omega))
          have hr := hk.2
          have hm1 := wrap_pow m (by omega)
          have hm2 : 1 ≤ (2 : Int) ^ m := Int.pow_pos (by omega)
          clear h hk hz
          go_enter Try.func14, Try.ntmps14
          go_wp2_with (go_at_call 44; refine (l1In_yes _ _ _ _ (by omega) (by omega)).mono ?_; rintro e w' ⟨rfl, rfl⟩)
          go_quiet (fail)
          go_wp2
          go_ret
          refine ⟨ret_bool ?_, _, rfl⟩
          rw [HV.out]
          show (s % 2 ^ m == wrap64 (2 ^ (m - 1))) = _
          rw [wrap_pow (m - 1) (by omega)]
          rfl
      · have HV : Hid (ringsMay r s k = false) := Lib.hid (by unfold ringsMay; rw [decide_eq_false (by omega), Bool.and_false])
        clear h
        go_enter Try.func14, Try.ntmps14
        go_wp2_with (first
          | (go_at_call 44; refine (l1In_yes _ _ _ _ (by omega) (by omega)).mono ?_; rintro e w' ⟨rfl, rfl⟩)
          | (go_at_call 44; refine (l1In_no _ _ _ _ (by omega)).mono ?_; rintro e w' ⟨rfl, rfl⟩))
        go_ret
        exact ⟨ret_bool HV.out.symm, 0, rfl⟩
    · have HV : Hid (ringsMay r s k = false) := Lib.hid (by unfold ringsMay ringsIn; rw [decide_eq_false (by omega), Bool.false_and])
      go_enter Try.func14, Try.ntmps14
      go_wp2_with (first
          | (go_at_call 44; refine (l1In_yes _ _ _ _ (by omega) (by omega)).mono ?_; rintro e w' ⟨rfl, rfl⟩)
          | (go_at_call 44; refine (l1In_no _ _ _ _ (by omega)).mono ?_; rintro e w' ⟨rfl, rfl⟩))
      go_ret
      exact ⟨ret_bool HV.out.symm, 0, rfl⟩
  · have HV : Hid (ringsMay r s k = false) := Lib.hid (by unfold ringsMay ringsIn; rw [decide_eq_false (by omega), Bool.false_and])
    go_enter Try.func14, Try.ntmps14
    go_wp2_with (go_at_call 44; refine (l1In_no _ _ _ _ (by omega)).mono ?_; rintro e w' ⟨rfl, rfl⟩)
    go_ret
    exact ⟨ret_bool HV.out.symm, 0, rfl⟩
end Go.Proofs.Ytiebemnoegfoeaa
