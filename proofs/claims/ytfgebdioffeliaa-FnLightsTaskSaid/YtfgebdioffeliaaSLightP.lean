/- Plain law of FnLightsTask: presses are sums mod 2; a plan of the task is a set of presses; what no quiet set forbids can be put out. No program in sight. -/
import Derived.Test.YtfgebdioffeliaaSFwd
import Derived.Test.YtfgebdioffeliaaSLights
import Derived.Test.YtfgebdioffeliaaSNum
import Derived.Test.YtfgebdioffeliaaSTDraw
namespace Go.Proofs.Ytfgebdioffeliaa
set_option linter.unusedVariables false
set_option linter.unusedSimpArgs false

/-! ### parity -/
def par : Nat → Nat → Bool
  | 0, _ => false
  | k + 1, x => xor (par k x) (x.testBit k)
def dot (a b : Nat) : Bool := par 9 (a &&& b)
theorem par_xor (n a b : Nat) : par n (a ^^^ b) = xor (par n a) (par n b) := by
  induction n with
  | zero => rfl
  | succ n ih =>
    simp only [par, ih, Nat.testBit_xor]
    cases par n a <;> cases par n b <;> cases a.testBit n <;> cases b.testBit n <;> rfl
theorem and_xor_left (a b c : Nat) : a &&& (b ^^^ c) = (a &&& b) ^^^ (a &&& c) := by
  refine Nat.eq_of_testBit_eq fun i => ?_
  simp only [Nat.testBit_and, Nat.testBit_xor]
  cases a.testBit i <;> cases b.testBit i <;> cases c.testBit i <;> rfl
theorem dot_xor (a b c : Nat) : dot a (b ^^^ c) = xor (dot a b) (dot a c) := by unfold dot; rw [and_xor_left, par_xor]
theorem dot_comm (a b : Nat) : dot a b = dot b a := by unfold dot; rw [Nat.and_comm]
theorem xor_dot (a b c : Nat) : dot (a ^^^ b) c = xor (dot a c) (dot b c) := by rw [dot_comm, dot_xor, dot_comm c a, dot_comm c b]
theorem par_zero (n : Nat) : par n 0 = false := by induction n with
  | zero => rfl
  | succ n ih => simp [par, ih]
theorem par_pow (n i : Nat) (x : Nat) : par n (2 ^ i &&& x) = (decide (i < n) && x.testBit i) := by
  induction n with
  | zero => simp [par]
  | succ n ih =>
    simp only [par, ih, Nat.testBit_and, Nat.testBit_two_pow]
    by_cases h : i = n
    · subst h; simp
    · by_cases h2 : i < n
      · simp [h, h2, show i < n + 1 by omega]
      · simp [h, h2, show ¬ i < n + 1 by omega]
theorem dot_pow (i x : Nat) (hi : i < 9) : dot (2 ^ i) x = x.testBit i := by unfold dot; rw [par_pow]; simp [hi]
theorem popc_par : ∀ x, x < 512 → popc x % 2 = (par 9 x).toNat := by decide +kernel
theorem popc_flip : ∀ x, x < 512 → ∀ j, j < 9 → popc (x ^^^ 2 ^ j) = if x.testBit j then popc x - 1 else popc x + 1 := by decide +kernel
theorem popc_pos : ∀ x, x < 512 → (popc x = 0 ↔ x = 0) := by decide +kernel
theorem low_bit {x : Nat} (hx : x < 512) (h : x ≠ 0) : ∃ j, j < 9 ∧ x.testBit j = true := by
  refine Classical.byContradiction fun hn => h (Nat.eq_of_testBit_eq fun i => ?_)
  rw [Nat.zero_testBit]
  by_cases hi : i < 9
  · cases e : x.testBit i with
    | false => rfl
    | true => exact absurd ⟨i, hi, e⟩ hn
  · exact testBit_high (n := 9) hx hi
/-! ### presses -/
section
variable {row : Nat → Nat}
def press (row : Nat → Nat) (set : Nat) : Nat → Nat
  | 0 => 0
  | k + 1 => if set.testBit k then press row set k ^^^ row k else press row set k
theorem press_lt (hr : ∀ k, row k < 512) (set k : Nat) : press row set k < 512 := by
  induction k with
  | zero => simp [press]
  | succ k ih =>
    simp only [press]
    split
    · exact Nat.xor_lt_two_pow (n := 9) ih (hr k)
    · exact ih
theorem xor_swap (a b c : Nat) : (a ^^^ b) ^^^ c = (a ^^^ c) ^^^ b := by rw [Nat.xor_assoc, Nat.xor_comm b c, ← Nat.xor_assoc]
theorem press_flip (set j : Nat) : ∀ k, press row (set ^^^ 2 ^ j) k = if j < k then press row set k ^^^ row j else press row set k := by
  intro k
  induction k with
  | zero => simp [press]
  | succ k ih =>
    have hb : (set ^^^ 2 ^ j).testBit k = xor (set.testBit k) (decide (j = k)) := by rw [Nat.testBit_xor, Nat.testBit_two_pow]
    simp only [press]
    rw [ih, hb]
    by_cases h : j = k
    · subst h
      rw [if_neg (show ¬ j < j by omega), if_pos (show j < j + 1 by omega)]
      cases set.testBit j
      · simp
      · simp only [decide_true, Bool.xor_true, Bool.not_true, Bool.false_eq_true, if_false, if_true]
        rw [Nat.xor_assoc, Nat.xor_self, Nat.xor_zero]
    · rw [show decide (j = k) = false from decide_eq_false h, Bool.xor_false]
      by_cases h2 : j < k
      · rw [if_pos h2, if_pos (show j < k + 1 by omega)]
        cases set.testBit k
        · simp
        · simp only [if_true]; exact xor_swap _ _ _
      · rw [if_neg h2, if_neg (show ¬ j < k + 1 by omega)]
theorem press_zero (k : Nat) : press row 0 k = 0 := by
  induction k with
  | zero => rfl
  | succ k ih => simp [press, ih]
theorem dot_press (q set k : Nat) (h : ∀ j, j < k → dot q (row j) = false) : dot q (press row set k) = false := by
  induction k with
  | zero => simp [press, dot, par_zero]
  | succ k ih =>
    have h1 := ih fun j hj => h j (by omega)
    simp only [press]
    split
    · rw [dot_xor, h1, h k (by omega)]; rfl
    · exact h1
/-- the matrix is symmetric: the light j behind the presses q is the product of q and the row j -/
theorem dot_row {n : Nat} (hr : ∀ k, row k < 512) (hn : n ≤ 9) (hsym : ∀ j k, j < n → k < n → (row j).testBit k = (row k).testBit j) {q j : Nat} (hq : q < 2 ^ n) (hj : j < n) : (press row q n).testBit j = dot q (row j) := by
  have key : ∀ m, m ≤ n → (press row q m).testBit j = par m (q &&& row j) := by
    intro m
    induction m with
    | zero => intro _; simp [press, par]
    | succ m ih =>
      intro hm
      have h1 := ih (by omega)
      simp only [press, par, Nat.testBit_and]
      cases hb : q.testBit m with
      | false => simp [h1]
      | true =>
        rw [if_pos rfl, Nat.testBit_xor, h1, hsym j m hj (by omega)]
        simp
  have hext : ∀ m, n ≤ m → par m (q &&& row j) = par n (q &&& row j) := by
    intro m
    induction m with
    | zero => intro h; have : n = 0 := by omega
              subst this; rfl
    | succ m ih =>
      intro h
      rcases Nat.lt_or_ge n (m + 1) with h1 | h1
      · simp only [par, ih (by omega), Nat.testBit_and]
        rw [testBit_high hq (show ¬ m < n by omega)]
        simp
      · have : n = m + 1 := by omega
        subst this; rfl
  rw [key n (Nat.le_refl _)]
  exact (hext 9 hn).symm
/-- what is a sum of the first k rows -/
def spanK (row : Nat → Nat) : Nat → Nat → Prop
  | 0, v => v = 0
  | k + 1, v => spanK row k v ∨ spanK row k (v ^^^ row k)
theorem xor_xor (a b : Nat) : (a ^^^ b) ^^^ b = a := by rw [Nat.xor_assoc, Nat.xor_self, Nat.xor_zero]
theorem span_press {k v : Nat} (h : spanK row k v) : ∃ set, set < 2 ^ k ∧ press row set k = v := by
  induction k generalizing v with
  | zero => exact ⟨0, by simp, h.symm⟩
  | succ k ih =>
    have hlow : ∀ set, set < 2 ^ k → press row set (k + 1) = press row set k := fun set hs => by
      simp only [press]
      rw [testBit_high hs (by omega)]
      simp
    rcases h with h | h
    · obtain ⟨set, h1, h2⟩ := ih h
      exact ⟨set, by rw [Nat.pow_succ]; omega, by rw [hlow set h1, h2]⟩
    · obtain ⟨set, h1, h2⟩ := ih h
      refine ⟨set ^^^ 2 ^ k, Nat.xor_lt_two_pow (by rw [Nat.pow_succ]; omega) (by rw [Nat.pow_succ]; have := Nat.two_pow_pos k; omega), ?_⟩
      rw [press_flip, if_pos (by omega), hlow set h1, h2, xor_xor]
/-- what is no sum is told apart by some set -/
theorem span_sep (hr : ∀ k, row k < 512) (k v : Nat) (hv : v < 512) (h : ¬ spanK row k v) : ∃ q, q < 512 ∧ (∀ j, j < k → dot q (row j) = false) ∧ dot q v = true := by
  induction k generalizing v with
  | zero =>
    obtain ⟨j, hj, hb⟩ := low_bit hv h
    exact ⟨2 ^ j, Nat.pow_lt_pow_right (by omega) hj, fun i hi => by omega, by rw [dot_pow j v hj, hb]⟩
  | succ k ih =>
    simp only [spanK, not_or] at h
    obtain ⟨q1, a1, a2, a3⟩ := ih v hv h.1
    obtain ⟨q2, b1, b2, b3⟩ := ih (v ^^^ row k) (Nat.xor_lt_two_pow (n := 9) hv (hr k)) h.2
    rw [dot_xor] at b3
    have ext : ∀ q, (∀ j, j < k → dot q (row j) = false) → dot q (row k) = false → ∀ j, j < k + 1 → dot q (row j) = false := fun q h1 h2 j hj => by
      rcases Nat.lt_or_ge j k with h3 | h3
      · exact h1 j h3
      · have : j = k := by omega
        subst this; exact h2
    cases c1 : dot q1 (row k) with
    | false => exact ⟨q1, a1, ext q1 a2 c1, a3⟩
    | true =>
      cases c2 : dot q2 (row k) with
      | false => exact ⟨q2, b1, ext q2 b2 c2, by rw [c2] at b3; simpa using b3⟩
      | true =>
        rw [c2] at b3
        have b4 : dot q2 v = false := by simpa using b3
        refine ⟨q1 ^^^ q2, Nat.xor_lt_two_pow (n := 9) a1 b1, ext _ (fun j hj => by rw [xor_dot, a2 j hj, b2 j hj]; rfl) (by rw [xor_dot, c1, c2]; rfl), by rw [xor_dot, a3, b4]; rfl⟩
theorem and_low {q v n : Nat} (hv : v < 2 ^ n) : (q % 2 ^ n) &&& v = q &&& v := by
  refine Nat.eq_of_testBit_eq fun i => ?_
  simp only [Nat.testBit_and, Nat.testBit_mod_two_pow]
  by_cases hi : i < n
  · simp [hi]
  · rw [testBit_high hv hi]; simp
/-- lights that every quiet set meets in an even number can be put out -/
theorem out_may {n : Nat} (hn : n ≤ 9) (hr : ∀ k, row k < 2 ^ n) (hsym : ∀ j k, j < n → k < n → (row j).testBit k = (row k).testBit j) {v : Nat} (hv : v < 2 ^ n) :
    (∃ set, set < 2 ^ n ∧ press row set n = v) ↔ ∀ q, q < 2 ^ n → press row q n = 0 → dot q v = false := by
  have hp : (2 : Nat) ^ n ≤ 512 := Nat.pow_le_pow_right (n := 2) (by omega) (show n ≤ 9 from hn)
  have hr' : ∀ k, row k < 512 := fun k => Nat.lt_of_lt_of_le (hr k) hp
  constructor
  · rintro ⟨set, h1, rfl⟩ q hq h0
    refine dot_press q set n fun j hj => ?_
    rw [← dot_row hr' hn hsym hq hj, h0]; simp
  · intro h
    refine Classical.byContradiction fun hno => ?_
    have hns : ¬ spanK row n v := fun hs => hno (span_press hs)
    obtain ⟨q, q1, q2, q3⟩ := span_sep hr' n v (by omega) hns
    have hq : q % 2 ^ n < 2 ^ n := Nat.mod_lt _ (Nat.two_pow_pos n)
    have hd : ∀ x, x < 2 ^ n → dot (q % 2 ^ n) x = dot q x := fun x hx => by unfold dot; rw [and_low hx]
    have := h (q % 2 ^ n) hq (Nat.eq_of_testBit_eq fun j => by
      rw [Nat.zero_testBit]
      by_cases hj : j < n
      · rw [dot_row hr' hn hsym hq hj, hd _ (hr j), q2 j hj]
      · refine testBit_high (n := n) ?_ hj
        have : ∀ m, press row (q % 2 ^ n) m < 2 ^ n := by
          intro m
          induction m with
          | zero => simp [press, Nat.two_pow_pos]
          | succ m ih =>
            simp only [press]
            split
            · exact Nat.xor_lt_two_pow ih (hr m)
            · exact ih
        exact this n)
    rw [hd v hv, q3] at this; cases this
end
end Go.Proofs.Ytfgebdioffeliaa
