/- Joined texts: Gray, Rings, Bits, IntS. -/
import Derived.Test.YtdbgoekemffimaaJFnOnWay2
import Derived.Test.YtdbgoekemffimaaJFnOnWay14
import Derived.Test.YtdbgoekemffimaaJFnOnWay8

/- GrayOf, GrayPlace and RingsMay, of the program and of the reference: each returns one plain function, for every argument. -/
namespace Go.Proofs.Ytdbgoekemffimaa
open Go.ChangeShapes Go.WideShapes Go.ChangeAt Go.RowKit

def grayOf (n : Int) : Int := if 0 ≤ n ∧ n < 32 then ((n.toNat ^^^ (n.toNat / 2) : Nat) : Int) else -1
theorem grayOf_eq (n : Int) (h0 : 0 ≤ n) (h1 : n < 32) : bits .xor .i64 n (n / 2) = grayOf n := by
  unfold grayOf
  rw [if_pos ⟨h0, h1⟩]
  obtain ⟨m, rfl⟩ := Int.eq_ofNat_of_zero_le h0
  have : ((m : Int) / 2) = ((m / 2 : Nat) : Int) := by omega
  rw [this, i64_xor_nat _ _ (by omega) (by omega)]
  simp
theorem grayOf_no {n : Int} (h : ¬ (0 ≤ n ∧ n < 32)) : grayOf n = -1 := by unfold grayOf; rw [if_neg h]
/-- the place of a state: the states from it on, halved again and again, added where twice is nothing -/
def xorDown : Nat → Nat → Nat
  | 0, _ => 0
  | f + 1, s => s ^^^ xorDown f (s / 2)
def grayPlace (s : Int) : Int := if 0 ≤ s ∧ s < 32 then ((xorDown 5 s.toNat : Nat) : Int) else -1
theorem grayPlace_no {n : Int} (h : ¬ (0 ≤ n ∧ n < 32)) : grayPlace n = -1 := by unfold grayPlace; rw [if_neg h]
theorem grayPlace_yes (m : Nat) (h : m < 32) : grayPlace m = (xorDown 5 m : Nat) := by unfold grayPlace; rw [if_pos ⟨by omega, by omega⟩]; simp

theorem place_gray : ∀ m : Fin 32, xorDown 5 (m.val ^^^ (m.val / 2)) = m.val := by decide
theorem gray_place : ∀ m : Fin 32, (xorDown 5 m.val ^^^ (xorDown 5 m.val / 2)) = m.val := by decide
theorem place_lt : ∀ m : Fin 32, xorDown 5 m.val < 32 := by decide
theorem gray_lt : ∀ m : Fin 32, (m.val ^^^ (m.val / 2)) < 32 := by decide
theorem place_loop : ∀ m : Fin 32, ∀ k : Fin 6, xorDown k.val m.val < 32 ∧ (0 < m.val / 2 ^ k.val → k.val < 5 ∧ xorDown (k.val + 1) m.val = (xorDown k.val m.val ^^^ (m.val / 2 ^ k.val))) ∧ (m.val / 2 ^ k.val = 0 → xorDown k.val m.val = xorDown 5 m.val) := by decide

/-- the value after k rounds of the program's loop -/
def half (m k : Nat) : Nat := m / 2 ^ k
theorem place_loop' (m k : Nat) (hm : m < 32) (hk : k ≤ 5) : xorDown k m < 32 ∧ (0 < half m k → k < 5 ∧ xorDown (k + 1) m = (xorDown k m ^^^ half m k)) ∧ (half m k = 0 → xorDown k m = xorDown 5 m) :=
  place_loop ⟨m, hm⟩ ⟨k, by omega⟩
theorem half_next (m k : Nat) : half m k / 2 = half m (k + 1) := by unfold half; rw [Nat.div_div_eq_div_mul, Nat.pow_succ]

theorem grayOf_nat (m : Nat) (h : m < 32) : grayOf m = ((m ^^^ (m / 2) : Nat) : Int) := by unfold grayOf; rw [if_pos ⟨by omega, by omega⟩]; simp
theorem grayOf_place (s : Int) (h : 0 ≤ s ∧ s < 32) (p : Nat) (hp : p < 32) : grayOf p = s ↔ (p : Int) = grayPlace s := by
  obtain ⟨h0, h1⟩ := h
  obtain ⟨m, rfl⟩ := Int.eq_ofNat_of_zero_le h0
  have hm : m < 32 := by omega
  rw [grayOf_nat p hp, grayPlace_yes m hm]
  have a := place_gray ⟨p, hp⟩
  have b := gray_place ⟨m, hm⟩
  simp only at a b
  constructor
  · intro e
    have e' : (p ^^^ (p / 2)) = m := by exact_mod_cast e
    rw [← e', a]
  · intro e
    have e' : p = xorDown 5 m := by exact_mod_cast e
    rw [e', b]
theorem grayPlace_bd (s : Int) : grayPlace s < 32 ∧ -1 ≤ grayPlace s ∧ (0 ≤ s → s < 32 → 0 ≤ grayPlace s) := by
  by_cases h : 0 ≤ s ∧ s < 32
  · obtain ⟨h0, h1⟩ := h
    obtain ⟨m, rfl⟩ := Int.eq_ofNat_of_zero_le h0
    rw [grayPlace_yes m (by omega)]
    have := place_lt ⟨m, by omega⟩
    simp only at this
    omega
  · rw [grayPlace_no h]; omega

end Go.Proofs.Ytdbgoekemffimaa

/- RingsMay of the program and of the reference: each returns one plain function, for every argument. -/
namespace Go.Proofs.Ytdbgoekemffimaa
open Go.ChangeShapes Go.WideShapes Go.ChangeAt Go.RowKit

def ringsIn (r s : Int) : Bool := decide (1 ≤ r ∧ r ≤ 5 ∧ 0 ≤ s ∧ s < 2 ^ r.toNat)
def ringsMay (r s k : Int) : Bool := ringsIn r s && decide (0 ≤ k ∧ k < r ∧ (k = 0 ∨ s % 2 ^ k.toNat = 2 ^ (k.toNat - 1)))

theorem ringsIn_bd (r s : Int) (h : ringsIn r s = true) : 1 ≤ r ∧ r ≤ 5 ∧ 0 ≤ s ∧ s < 32 := by
  unfold ringsIn at h
  have h := of_decide_eq_true h
  have h1 := pow_le_int r.toNat 5 (by omega)
  omega
theorem ringsMay_at (r s : Int) (m : Nat) (h : ringsIn r s = true) (hm : (m : Int) < r) (h0 : 0 < m) : ringsMay r s m = decide (s % 2 ^ m = 2 ^ (m - 1)) := by
  unfold ringsMay
  rw [h, Bool.true_and, decide_eq_decide, Int.toNat_natCast]
  constructor
  · rintro ⟨_, _, h | h⟩
    · omega
    · exact h
  · intro h; exact ⟨by omega, hm, .inr h⟩
theorem mask (s : Int) (m : Nat) (h0 : 0 ≤ s) (h1 : s < 32) (hm : m < 5) : bits BinOp.and IntKind.i64 s (wrap64 (wrap64 (2 ^ m) - 1)) = s % 2 ^ m := by
  obtain ⟨t, rfl⟩ := Int.eq_ofNat_of_zero_le h0
  rw [wrap_pow m (by omega)]
  have h3 : (0 : Int) < 2 ^ m := Int.pow_pos (by omega)
  have h4 := pow_le_int m 5 (by omega)
  rw [IntWalk.wrap64_in _ ⟨by omega, by omega⟩]
  have e : ((2 : Int) ^ m - 1) = ((2 ^ m - 1 : Nat) : Int) := by
    have h5 : 1 ≤ 2 ^ m := Nat.pos_of_ne_zero (by simp)
    rw [Int.natCast_sub h5]; simp
  rw [e, i64_and_nat _ _ (by omega) (by
    have h5 : 2 ^ m ≤ 2 ^ 5 := Nat.pow_le_pow_right (by omega) (show m ≤ 5 by omega)
    omega), Nat.and_two_pow_sub_one_eq_mod]
  simp
end Go.Proofs.Ytdbgoekemffimaa

/- The laws' own helpers on sets: both, other, bits. Conditions: sets from 0 on and below 2^40. -/
namespace Go.Proofs.Ytdbgoekemffimaa
open Go.ChangeShapes Go.WideShapes Go.ChangeAt Go.RowKit

theorem tmod2 (m k : Nat) : ((m : Int) / 2 ^ k).tmod 2 = (bit m k : Nat) := by
  have e : ((m : Int) / 2 ^ k) = ((m / 2 ^ k : Nat) : Int) := by simp
  rw [e, Int.tmod_eq_emod_of_nonneg (Int.natCast_nonneg _)]
  unfold bit; simp
theorem bit_and (a b k : Nat) : bit (a &&& b) k = bit a k * bit b k := by
  have h := both_step a b k
  have h2 : (a &&& b) % 2 ^ (k + 1) = (a &&& b) % 2 ^ k + 2 ^ k * bit (a &&& b) k := by rw [Nat.pow_succ, Nat.mod_mul]; rfl
  have h3 : 0 < 2 ^ k := Nat.pow_pos (by omega)
  rw [h2] at h
  have h4 : 2 ^ k * bit (a &&& b) k = (bit a k * bit b k) * 2 ^ k := by unfold bit at *; omega
  rw [Nat.mul_comm] at h4
  exact Nat.eq_of_mul_eq_mul_right h3 h4
theorem lawBoth_nat (a b : Nat) (ha : a < 1099511627776) (w : World) :
    Calls Try.prog 19 #[.int .i64 a, .int .i64 b] w fun e w' => e = .returned (.int .i64 ((a &&& b : Nat) : Int)) ∧ w = w' := by
  have HB : Hid (lowAnd a b 40 = a &&& b) := Lib.hid (Nat.mod_eq_of_lt (Nat.lt_of_le_of_lt Nat.and_le_left ha))
  go_enter Try.func19, Try.ntmps19
  go_wp2
  go_loop [5, 6] (fun o i => ∃ k : Nat, k ≤ 40 ∧ i = .int .i64 k ∧ o = .int .i64 (lowAnd a b k : Nat)) (fun _ i => 40 - (intOf i).toNat)
  case atStart => exact ⟨0, by omega, rfl, by simp [lowAnd, Nat.mod_one]⟩
  case round =>
    obtain ⟨k, hk, rfl, rfl⟩ := hrel
    by_cases hlt : k < 40
    · have hw := wrap_pow k (by omega)
      have hstep : lowAnd a b (k + 1) = lowAnd a b k + bit a k * bit b k * 2 ^ k := both_step a b k
      have ha2 := tmod2 a k
      have hb2 := tmod2 b k
      have l1 := bit_lt a k
      have l2 := bit_lt b k
      have l3 := lowAnd_lt a b k
      by_cases h1 : bit a k = 1
      · by_cases h2 : bit b k = 1
        · have H1 : Hid (lowAnd a b (k + 1) = lowAnd a b k + 2 ^ k) := Lib.hid (by rw [hstep, h1, h2]; simp)
          have hpw : ((2 ^ k : Nat) : Int) ≤ 2 ^ 40 := by exact_mod_cast (Nat.pow_le_pow_right (show 0 < 2 by omega) (show k ≤ 40 by omega))
          have hl : ((lowAnd a b k : Nat) : Int) < 2 ^ k := by exact_mod_cast l3
          have hpi := pow_le_int k 40 (by omega)
          rw [h1] at ha2
          rw [h2] at hb2
          clear hstep h1 h2 l1 l2 l3 hpw
          go_wp2
          go_round
          case rel => exact ⟨k + 1, by omega, by go_num, by rw [H1.out]; simp⟩
          case measure => simp [intOf]; omega
        · have h2' : bit b k = 0 := by omega
          have H1 : Hid (lowAnd a b (k + 1) = lowAnd a b k) := Lib.hid (by rw [hstep, h2']; simp)
          rw [h1] at ha2
          rw [h2'] at hb2
          clear hstep h1 h2 h2' l1 l2 l3
          go_wp2
          go_round
          case rel => exact ⟨k + 1, by omega, by go_num, by rw [H1.out]⟩
          case measure => simp [intOf]; omega
      · have h1' : bit a k = 0 := by omega
        have H1 : Hid (lowAnd a b (k + 1) = lowAnd a b k) := Lib.hid (by rw [hstep, h1']; simp)
        rw [h1'] at ha2
        clear hstep h1 h1' l1 l2 l3 hb2
        go_wp2
        go_round
        case rel => exact ⟨k + 1, by omega, by go_num, by rw [H1.out]⟩
        case measure => simp [intOf]; omega
    · obtain rfl : k = 40 := by omega
      go_wp2
      go_ret
      exact ⟨ret_int (by show ((lowAnd a b 40 : Nat) : Int) = _; rw [HB.out]), rfl⟩
theorem lawOther_any (a b : Int) (h0 : 0 ≤ a) (ha : a < 1099511627776) (h1 : 0 ≤ b) (hb : b < 1099511627776) (w : World) :
    Calls Try.prog 47 #[.int .i64 a, .int .i64 b] w fun e w' => e = .returned (.int .i64 ((a.toNat ^^^ b.toNat : Nat) : Int)) ∧ w = w' := by
  have hc := lawBoth_nat a.toNat b.toNat (by omega)
  rw [toNat_cast h0, toNat_cast h1] at hc
  have hx := xor_add_and a.toNat b.toNat
  generalize hy : a.toNat &&& b.toNat = y at *
  have hy1 : (y : Int) ≤ a := by have h2 := @Nat.and_le_left a.toNat b.toNat; omega
  clear hy
  generalize hz : a.toNat ^^^ b.toNat = z at *
  have HX : Hid (a + b - 2 * y = z) := by refine Lib.hid ?_; clear hz; omega
  clear hz hx
  have HC := Lib.hid hc; clear hc
  go_enter Try.func47, Try.ntmps47
  go_wp2_with (go_at_call 19; refine (HC.out _).mono ?_; rintro e w' ⟨rfl, rfl⟩)
  go_ret
  exact ⟨ret_int HX.out, rfl⟩
def bitSum (n : Nat) : Nat → Nat
  | 0 => 0
  | k + 1 => bitSum n k + bit n k
theorem bitSum_le (n k : Nat) : bitSum n k ≤ k := by
  induction k with
  | zero => simp [bitSum]
  | succ k ih => have := bit_lt n k; simp only [bitSum]; omega
theorem lawBits_nat (n : Nat) (w : World) :
    Calls Try.prog 43 #[.int .i64 n] w fun e w' => e = .returned (.int .i64 (bitSum n 40 : Nat)) ∧ w = w' := by
  go_enter Try.func43, Try.ntmps43
  go_wp2
  go_loop [3, 4] (fun o i => ∃ k : Nat, k ≤ 40 ∧ i = .int .i64 k ∧ o = .int .i64 (bitSum n k : Nat)) (fun _ i => 40 - (intOf i).toNat)
  case atStart => exact ⟨0, by omega, rfl, rfl⟩
  case round =>
    obtain ⟨k, hk, rfl, rfl⟩ := hrel
    by_cases hlt : k < 40
    · have h2 := tmod2 n k
      have l1 := bit_lt n k
      have l2 := bitSum_le n k
      by_cases h1 : bit n k = 1
      · have H1 : Hid (bitSum n (k + 1) = bitSum n k + 1) := Lib.hid (by rw [bitSum, h1])
        rw [h1] at h2
        clear h1 l1
        go_wp2
        go_round
        case rel => exact ⟨k + 1, by omega, by go_num, by rw [H1.out]; go_num⟩
        case measure => simp [intOf]; omega
      · have h1' : bit n k = 0 := by omega
        have H1 : Hid (bitSum n (k + 1) = bitSum n k) := Lib.hid (by rw [bitSum, h1']; rfl)
        rw [h1'] at h2
        clear h1 h1' l1
        go_wp2
        go_round
        case rel => exact ⟨k + 1, by omega, by go_num, by rw [H1.out]⟩
        case measure => simp [intOf]; omega
    · obtain rfl : k = 40 := by omega
      go_wp2
      go_ret
      exact ⟨rfl, rfl⟩
theorem lawBits_any (n : Int) (h0 : 0 ≤ n) (w : World) :
    Calls Try.prog 43 #[.int .i64 n] w fun e w' => e = .returned (.int .i64 (bitSum n.toNat 40 : Nat)) ∧ w = w' := by
  have h := lawBits_nat n.toNat w
  rwa [toNat_cast h0] at h
end Go.Proofs.Ytdbgoekemffimaa

/- A row of numbers of the list St, read: with the name of its value at hand. No program in sight but for type numbers. -/
namespace Go.Proofs.Ytdbgoekemffimaa
theorem St.rdI' {w W : World} {L : List HRes} (h : St w W L) (k : Nat) {A : Option Addr} {n c : Nat} {xs : List Int} (hk : L[k]? = some (rInts (.slice A n c) xs)) : RdI .i64 W W.heap.size A n c xs := by
  obtain ⟨A', c', e, hr⟩ := h.rdI k hk
  simp only [Value.slice.injEq] at e
  obtain ⟨rfl, rfl, rfl⟩ := e
  exact hr
theorem Sn.rdI' {w W : World} {M : Nat → Option HRes} (h : Sn w W M) (k : Nat) {A : Option Addr} {n c : Nat} {xs : List Int} (hk : M k = some (rInts (.slice A n c) xs)) : RdI .i64 W W.heap.size A n c xs := by
  obtain ⟨A', c', e, hr⟩ := h.rdI k hk
  simp only [Value.slice.injEq] at e
  obtain ⟨rfl, rfl, rfl⟩ := e
  exact hr
end Go.Proofs.Ytdbgoekemffimaa
