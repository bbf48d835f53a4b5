/- Joined texts: Gray, Rings. -/
import Derived.Test.YtpcaagbmjhgnaaaJFnRingsTask2

/- GrayOf, GrayPlace and RingsMay, of the program and of the reference: each returns one plain function, for every argument. -/
namespace Go.Proofs.Ytpcaagbmjhgnaaa
open Go.ChangeShapes Go.WideShapes Go.ChangeAt Go.RowKit

def grayOf (n : Int) : Int := if 0 ≤ n ∧ n < 32 then ((n.toNat ^^^ (n.toNat / 2) : Nat) : Int) else -1
theorem grayOf_eq (n : Int) (h0 : 0 ≤ n) (h1 : n < 32) : bits .xor .i64 n (n / 2) = grayOf n := by
  unfold grayOf
  rw [if_pos ⟨h0, h1⟩]
  obtain ⟨m, rfl⟩ := Int.eq_ofNat_of_zero_le h0
  have : ((m : Int) / 2) = ((m / 2 : Nat) : Int) := by omega
  rw [this, i64_xor_nat _ _ (by omega) (by omega)]
  simp
theorem grayOf_no {n : Int} (h : ¬ (0 ≤ n ∧ n < 32)) : grayOf n = -1 := by unfold grayOf; rw [if_neg h]

/-- the place of a state: the states from it on, halved again and again, added where twice is nothing -/
def xorDown : Nat → Nat → Nat
  | 0, _ => 0
  | f + 1, s => s ^^^ xorDown f (s / 2)
def grayPlace (s : Int) : Int := if 0 ≤ s ∧ s < 32 then ((xorDown 5 s.toNat : Nat) : Int) else -1
theorem grayPlace_no {n : Int} (h : ¬ (0 ≤ n ∧ n < 32)) : grayPlace n = -1 := by unfold grayPlace; rw [if_neg h]
theorem grayPlace_yes (m : Nat) (h : m < 32) : grayPlace m = (xorDown 5 m : Nat) := by unfold grayPlace; rw [if_pos ⟨by omega, by omega⟩]; simp

theorem place_gray : ∀ m : Fin 32, xorDown 5 (m.val ^^^ (m.val / 2)) = m.val := by decide
theorem gray_place : ∀ m : Fin 32, (xorDown 5 m.val ^^^ (xorDown 5 m.val / 2)) = m.val := by decide
theorem place_lt : ∀ m : Fin 32, xorDown 5 m.val < 32 := by decide
theorem gray_lt : ∀ m : Fin 32, (m.val ^^^ (m.val / 2)) < 32 := by decide
theorem place_loop : ∀ m : Fin 32, ∀ k : Fin 6, xorDown k.val m.val < 32 ∧ (0 < m.val / 2 ^ k.val → k.val < 5 ∧ xorDown (k.val + 1) m.val = (xorDown k.val m.val ^^^ (m.val / 2 ^ k.val))) ∧ (m.val / 2 ^ k.val = 0 → xorDown k.val m.val = xorDown 5 m.val) := by decide

/-- the value after k rounds of the program's loop -/
def half (m k : Nat) : Nat := m / 2 ^ k
theorem place_loop' (m k : Nat) (hm : m < 32) (hk : k ≤ 5) : xorDown k m < 32 ∧ (0 < half m k → k < 5 ∧ xorDown (k + 1) m = (xorDown k m ^^^ half m k)) ∧ (half m k = 0 → xorDown k m = xorDown 5 m) :=
  place_loop ⟨m, hm⟩ ⟨k, by omega⟩
theorem half_next (m k : Nat) : half m k / 2 = half m (k + 1) := by unfold half; rw [Nat.div_div_eq_div_mul, Nat.pow_succ]

theorem grayPlace_impl (n : Int) (w : World) :
    Calls Try.prog 59 #[.int .i64 n] w fun e w' => e = .returned (.int .i64 (grayPlace n)) ∧ w = w' := by
  by_cases h : 0 ≤ n ∧ n < 32
  · obtain ⟨h0, h1⟩ := h
    obtain ⟨m, rfl⟩ := Int.eq_ofNat_of_zero_le h0
    have hm : m < 32 := by omega
    have HG := Lib.hid (grayPlace_yes m hm)
    go_enter Try.func59, Try.ntmps59
    go_wp2
    go_loop [0, 3] (fun s p => ∃ k : Nat, k ≤ 5 ∧ s = .int .i64 (half m k : Nat) ∧ p = .int .i64 (xorDown k m : Nat)) (fun s _ => (intOf s).toNat)
    case atStart => exact ⟨0, by omega, by simp [half], by simp [xorDown]⟩
    case round =>
      obtain ⟨k, hk, rfl, rfl⟩ := hrel
      have hp := place_loop' m k hm hk
      obtain ⟨p1, p2, p3⟩ := hp
      have hlt : half m k < 32 := by unfold half; exact Nat.lt_of_le_of_lt (Nat.div_le_self _ _) hm
      have P2 := Lib.hid p2; clear p2
      have P3 := Lib.hid p3; clear p3
      have HX := Lib.hid (i64_xor_nat (xorDown k m) (half m k) (by omega) (by omega))
      have HN := Lib.hid (half_next m k)
      go_wp2
      · have hs : 0 < half m k := by omega
        obtain ⟨q1, q2⟩ := P2.out hs
        go_round
        case rel =>
          refine ⟨k + 1, by omega, ?_, ?_⟩
          · rw [← HN.out]; go_num
          · have q2' : xorDown (k + 1) m = (xorDown k m ^^^ half m k) := q2
            rw [HX.out, q2']
        case measure => simp [intOf]; omega
      · have hs : half m k = 0 := by omega
        go_ret
        refine ⟨ret_int ?_, rfl⟩
        rw [HG.out, ← P3.out hs]
  · have H := Lib.hid (grayPlace_no h)
    go_enter Try.func59, Try.ntmps59
    go_wp2
    all_goals first | (exfalso; omega) | go_ret
    all_goals refine ⟨ret_int ?_, rfl⟩
    all_goals exact H.out.symm

theorem grayOf_nat (m : Nat) (h : m < 32) : grayOf m = ((m ^^^ (m / 2) : Nat) : Int) := by unfold grayOf; rw [if_pos ⟨by omega, by omega⟩]; simp
theorem grayOf_place (s : Int) (h : 0 ≤ s ∧ s < 32) (p : Nat) (hp : p < 32) : grayOf p = s ↔ (p : Int) = grayPlace s := by
  obtain ⟨h0, h1⟩ := h
  obtain ⟨m, rfl⟩ := Int.eq_ofNat_of_zero_le h0
  have hm : m < 32 := by omega
  rw [grayOf_nat p hp, grayPlace_yes m hm]
  have a := place_gray ⟨p, hp⟩
  have b := gray_place ⟨m, hm⟩
  simp only at a b
  constructor
  · intro e
    have e' : (p ^^^ (p / 2)) = m := by exact_mod_cast e
    rw [← e', a]
  · intro e
    have e' : p = xorDown 5 m := by exact_mod_cast e
    rw [e', b]
theorem grayPlace_bd (s : Int) : grayPlace s < 32 ∧ -1 ≤ grayPlace s ∧ (0 ≤ s → s < 32 → 0 ≤ grayPlace s) := by
  by_cases h : 0 ≤ s ∧ s < 32
  · obtain ⟨h0, h1⟩ := h
    obtain ⟨m, rfl⟩ := Int.eq_ofNat_of_zero_le h0
    rw [grayPlace_yes m (by omega)]
    have := place_lt ⟨m, by omega⟩
    simp only at this
    omega
  · rw [grayPlace_no h]; omega

end Go.Proofs.Ytpcaagbmjhgnaaa

/- RingsMay of the program and of the reference: each returns one plain function, for every argument. -/
namespace Go.Proofs.Ytpcaagbmjhgnaaa
open Go.ChangeShapes Go.WideShapes Go.ChangeAt Go.RowKit

def ringsIn (r s : Int) : Bool := decide (1 ≤ r ∧ r ≤ 5 ∧ 0 ≤ s ∧ s < 2 ^ r.toNat)
def ringsMay (r s k : Int) : Bool := ringsIn r s && decide (0 ≤ k ∧ k < r ∧ (k = 0 ∨ s % 2 ^ k.toNat = 2 ^ (k.toNat - 1)))

theorem ringsOk_any (r s : Int) (w : World) :
    Calls Try.prog 119 #[.int .i64 r, .int .i64 s] w fun e w' => e = .returned (.bool (ringsIn r s)) ∧ w = w' := by
  have hw : 0 ≤ r → r ≤ 62 → wrap64 (2 ^ r.toNat) = 2 ^ r.toNat := fun h0 h1 => wrap_pow _ (by omega)
  have H := Lib.hid hw; clear hw
  go_enter Try.func119, Try.ntmps119
  go_wp2
  all_goals go_ret
  all_goals refine ⟨ret_bool ?_, rfl⟩
  all_goals unfold ringsIn
  · rw [H.out (by omega) (by omega)]
    generalize (2 : Int) ^ r.toNat = q
    rw [decide_eq_decide]
    constructor <;> intro <;> omega
  all_goals (symm; simp; omega)

theorem ringsIn_bd (r s : Int) (h : ringsIn r s = true) : 1 ≤ r ∧ r ≤ 5 ∧ 0 ≤ s ∧ s < 32 := by
  unfold ringsIn at h
  have h := of_decide_eq_true h
  have h1 := pow_le_int r.toNat 5 (by omega)
  omega
theorem ringsMay_at (r s : Int) (m : Nat) (h : ringsIn r s = true) (hm : (m : Int) < r) (h0 : 0 < m) : ringsMay r s m = decide (s % 2 ^ m = 2 ^ (m - 1)) := by
  unfold ringsMay
  rw [h, Bool.true_and, decide_eq_decide, Int.toNat_natCast]
  constructor
  · rintro ⟨_, _, h | h⟩
    · omega
    · exact h
  · intro h; exact ⟨by omega, hm, .inr h⟩
theorem mask (s : Int) (m : Nat) (h0 : 0 ≤ s) (h1 : s < 32) (hm : m < 5) : bits BinOp.and IntKind.i64 s (wrap64 (wrap64 (2 ^ m) - 1)) = s % 2 ^ m := by
  obtain ⟨t, rfl⟩ := Int.eq_ofNat_of_zero_le h0
  rw [wrap_pow m (by omega)]
  have h3 : (0 : Int) < 2 ^ m := Int.pow_pos (by omega)
  have h4 := pow_le_int m 5 (by omega)
  rw [IntWalk.wrap64_in _ ⟨by omega, by omega⟩]
  have e : ((2 : Int) ^ m - 1) = ((2 ^ m - 1 : Nat) : Int) := by
    have h5 : 1 ≤ 2 ^ m := Nat.pos_of_ne_zero (by simp)
    rw [Int.natCast_sub h5]; simp
  rw [e, i64_and_nat _ _ (by omega) (by
    have h5 : 2 ^ m ≤ 2 ^ 5 := Nat.pow_le_pow_right (by omega) (show m ≤ 5 by omega)
    omega), Nat.and_two_pow_sub_one_eq_mod]
  simp
theorem ringsMay_impl (r s k : Int) (w : World) :
    Calls Try.prog 56 #[.int .i64 r, .int .i64 s, .int .i64 k] w fun e w' => e = .returned (.bool (ringsMay r s k)) ∧ ∃ n, w' = w.drewN n := by
  by_cases h : ringsIn r s = true
  · obtain ⟨b1, b2, b3, b4⟩ := ringsIn_bd r s h
    by_cases hk : 0 ≤ k ∧ k < r
    · by_cases hz : k = 0
      · subst hz
        have H : Hid (ringsMay r s 0 = true) := Lib.hid (by unfold ringsMay; rw [h]; simp; omega)
        have h0 : ((0 : Int) == 0) = true := rfl
        have HI : Hid (ringsIn r s = true) := Lib.hid h
        clear h
        go_enter Try.func56, Try.ntmps56
        go_wp2_with (go_at_call 119; refine (ringsOk_any r s _).mono ?_; rw [HI.out]; rintro e w' ⟨rfl, rfl⟩)
        go_quiet (fail)
        go_wp2
        go_ret
        exact ⟨ret_bool H.out.symm, _, rfl⟩
      · obtain ⟨m, rfl⟩ := Int.eq_ofNat_of_zero_le hk.1
        have hz' : ((m : Int) == 0) = false := by simpa using hz
        have HV := Lib.hid (ringsMay_at r s m h hk.2 (by omega))
        have HM := Lib.hid (mask s m b3 b4 (by omega))
        have HI : Hid (ringsIn r s = true) := Lib.hid h
        have hr := hk.2
        clear h hk hz
        go_enter Try.func56, Try.ntmps56
        go_wp2_with (go_at_call 119; refine (ringsOk_any r s _).mono ?_; rw [HI.out]; rintro e w' ⟨rfl, rfl⟩)
        go_quiet (fail)
        go_wp2
        go_ret
        refine ⟨ret_bool ?_, _, rfl⟩
        rw [HV.out]
        show (bits BinOp.and IntKind.i64 s (wrap64 (wrap64 (2 ^ m) - 1)) == wrap64 (2 ^ (m - 1))) = _
        rw [HM.out, wrap_pow (m - 1) (by omega)]
        rfl
    · have HV : Hid (ringsMay r s k = false) := Lib.hid (by unfold ringsMay; rw [decide_eq_false (by omega), Bool.and_false])
      have HI : Hid (ringsIn r s = true) := Lib.hid h
      clear h
      go_enter Try.func56, Try.ntmps56
      go_wp2_with (go_at_call 119; refine (ringsOk_any r s _).mono ?_; rw [HI.out]; rintro e w' ⟨rfl, rfl⟩)
      all_goals first | (exfalso; omega) | go_ret
      all_goals exact ⟨ret_bool HV.out.symm, 0, rfl⟩
  · have hf : ringsIn r s = false := by simpa using h
    have HV : Hid (ringsMay r s k = false) := Lib.hid (by unfold ringsMay; rw [hf, Bool.false_and])
    have HI : Hid (ringsIn r s = false) := Lib.hid hf
    clear h hf
    go_enter Try.func56, Try.ntmps56
    go_wp2_with (go_at_call 119; refine (ringsOk_any r s _).mono ?_; rw [HI.out]; rintro e w' ⟨rfl, rfl⟩)
    go_ret
    exact ⟨ret_bool HV.out.symm, 0, rfl⟩

end Go.Proofs.Ytpcaagbmjhgnaaa
