/- Plain law: sets of states as numbers: the sum of 2^s; no program in sight. -/
import Derived.Test.YtpcaagbmjhgnaaaPlan
namespace Go.Proofs.Ytpcaagbmjhgnaaa

/-- the number of a set of the numbers below n -/
def mset (p : Nat → Bool) : Nat → Nat
  | 0 => 0
  | n + 1 => 2 ^ n * (p n).toNat + mset p n
theorem mset_lt (p : Nat → Bool) (n : Nat) : mset p n < 2 ^ n := by
  induction n with
  | zero => simp [mset]
  | succ n ih => simp only [mset, Nat.pow_succ]; cases p n <;> simp <;> omega
theorem testBit_mset (p : Nat → Bool) (n k : Nat) : (mset p n).testBit k = (decide (k < n) && p k) := by
  induction n with
  | zero => simp [mset]
  | succ n ih =>
    simp only [mset]
    rw [Nat.testBit_two_pow_mul_add _ (mset_lt p n)]
    by_cases h : k < n
    · rw [if_pos h, ih]; simp [h, show k < n + 1 by omega]
    · rw [if_neg h]
      by_cases e : k = n
      · subst e; cases p k <;> simp
      · rw [show decide (k < n + 1) = false from decide_eq_false (by omega)]
        obtain ⟨j, hj⟩ : ∃ j, k - n = j + 1 := ⟨k - n - 1, by omega⟩
        rw [hj]
        cases p n <;> simp [Nat.testBit_succ]
theorem testBit_bit (a j : Nat) : a.testBit j = (bit a j == 1) := by
  unfold bit; rw [Nat.testBit_eq_decide_div_mod_eq]; rfl
theorem bit_testBit (a j : Nat) : bit a j = (a.testBit j).toNat := by
  rw [testBit_bit]
  have := bit_lt a j
  obtain e | e : bit a j = 0 ∨ bit a j = 1 := by omega
  · rw [e]; rfl
  · rw [e]; rfl
theorem bit_mset (p : Nat → Bool) (n k : Nat) : bit (mset p n) k = (decide (k < n) && p k).toNat := by rw [bit_testBit, testBit_mset]
theorem bit_mset1 (p : Nat → Bool) {n k : Nat} (h : k < n) : (bit (mset p n) k == 1) = p k := by rw [← testBit_bit, testBit_mset]; simp [h]
theorem mset_congr {p q : Nat → Bool} {n : Nat} (h : ∀ k, k < n → p k = q k) : mset p n = mset q n := by
  refine Nat.eq_of_testBit_eq fun k => ?_
  rw [testBit_mset, testBit_mset]
  by_cases hk : k < n
  · rw [h k hk]
  · simp [hk]
theorem mset_inj {p q : Nat → Bool} {n : Nat} (h : mset p n = mset q n) : ∀ k, k < n → p k = q k := fun k hk => by
  rw [← bit_mset1 p hk, ← bit_mset1 q hk, h]
theorem testBit_high {a n k : Nat} (h : a < 2 ^ n) (hk : ¬ k < n) : a.testBit k = false := Nat.testBit_lt_two_pow (Nat.lt_of_lt_of_le h (Nat.pow_le_pow_right (by omega) (by omega)))
theorem mset_bits (a n : Nat) (h : a < 2 ^ n) : mset (fun k => bit a k == 1) n = a := by
  refine Nat.eq_of_testBit_eq fun k => ?_
  rw [testBit_mset, ← testBit_bit]
  by_cases hk : k < n
  · simp [hk]
  · rw [testBit_high h hk]; simp
theorem bits_ext {a b n : Nat} (ha : a < 2 ^ n) (hb : b < 2 ^ n) (h : ∀ k, k < n → bit a k = bit b k) : a = b := by
  rw [← mset_bits a n ha, ← mset_bits b n hb]
  exact mset_congr fun k hk => by rw [h k hk]
theorem mset_or_bit (p : Nat → Bool) (n k : Nat) (hk : k < n) : mset p n ||| 2 ^ k = mset (fun j => p j || decide (k = j)) n := by
  refine Nat.eq_of_testBit_eq fun j => ?_
  rw [Nat.testBit_or, testBit_mset, testBit_mset, Nat.testBit_two_pow]
  by_cases e : k = j
  · subst e; simp [hk]
  · simp [e]
theorem mset_or (p q : Nat → Bool) (n : Nat) : mset p n ||| mset q n = mset (fun j => p j || q j) n := by
  refine Nat.eq_of_testBit_eq fun j => ?_
  rw [Nat.testBit_or, testBit_mset, testBit_mset, testBit_mset, Bool.and_or_distrib_left]
theorem mset_and (p q : Nat → Bool) (n : Nat) : mset p n &&& mset q n = mset (fun j => p j && q j) n := by
  refine Nat.eq_of_testBit_eq fun j => ?_
  rw [Nat.testBit_and, testBit_mset, testBit_mset, testBit_mset]
  cases decide (j < n) <;> simp
theorem mset_diff (p q : Nat → Bool) (n : Nat) : mset p n - (mset p n &&& mset q n) = mset (fun j => p j && !q j) n := by
  rw [mset_and]
  have h1 : ∀ m, mset (fun j => p j && q j) m + mset (fun j => p j && !q j) m = mset p m := fun m => by
    induction m with
    | zero => rfl
    | succ m ihm => simp only [mset]; rw [← ihm]; cases p m <;> cases q m <;> simp <;> omega
  have := h1 n
  omega
theorem mset_zero {p : Nat → Bool} {n : Nat} : mset p n = 0 ↔ ∀ k, k < n → p k = false := by
  constructor
  · intro h k hk
    have := testBit_mset p n k
    rw [h] at this
    simpa [hk] using this.symm
  · intro h
    refine Nat.eq_of_testBit_eq fun j => ?_
    rw [testBit_mset]
    by_cases hj : j < n
    · rw [h j hj]; simp
    · simp [hj]
/-- a set that is built from its first members on -/
def upto (p : Nat → Bool) (m : Nat) : Nat → Bool := fun k => decide (k < m) && p k
theorem mset_upto0 (p : Nat → Bool) (n : Nat) : mset (upto p 0) n = 0 := mset_zero.2 fun k _ => by simp [upto]
theorem mset_uptoN (p : Nat → Bool) (n : Nat) : mset (upto p n) n = mset p n := mset_congr fun k hk => by simp [upto, hk]
theorem mset_upto_yes (p : Nat → Bool) (n m : Nat) (hm : m < n) (h : p m = true) : mset (upto p (m + 1)) n = mset (upto p m) n ||| 2 ^ m := by
  rw [mset_or_bit _ _ _ hm]
  refine mset_congr fun k hk => ?_
  unfold upto
  by_cases e : m = k
  · subst e; simp [h]
  · simp [e, show (k < m + 1) ↔ (k < m) by omega]
theorem mset_upto_no (p : Nat → Bool) (n m : Nat) (h : p m = false) : mset (upto p (m + 1)) n = mset (upto p m) n := by
  refine mset_congr fun k hk => ?_
  unfold upto
  by_cases e : k = m
  · subst e; simp [h]
  · simp [show (k < m + 1) ↔ (k < m) by omega]
theorem mset_upto_bit (p : Nat → Bool) (n m : Nat) (hm : m ≤ n) : mset (upto p m) n < 2 ^ m := by
  refine Nat.lt_pow_two_of_testBit _ fun j hj => ?_
  rw [testBit_mset]
  unfold upto
  simp [show ¬ j < m by omega]
theorem mset_upto_add (p : Nat → Bool) (n m : Nat) (hm : m < n) (h : p m = true) : mset (upto p (m + 1)) n = mset (upto p m) n + 2 ^ m := by
  rw [mset_upto_yes p n m hm h]
  have := Nat.two_pow_add_eq_or_of_lt (mset_upto_bit p n m (by omega)) 1
  rw [Nat.or_comm, Nat.add_comm]
  simpa using this.symm
end Go.Proofs.Ytpcaagbmjhgnaaa
