/- Joined texts: Plan, Sets. -/
import Derived.Test.YtkimgdfcgfhibaaDoorSTask
import Derived.Test.YtkimgdfcgfhibaaDoorSNum
/- Plain law: deeds done, plans run: what DeedDo and PlanRun tell, as plain functions; no program in sight. -/
namespace Go.Proofs.YtkimgdfcgfhibaaDoor

def opt : Option Nat → Int
  | some s => s
  | none => -1
/-- the state behind a deed, where it may be done -/
def behind (d : DeedD) (s : Nat) : Nat := ((s ||| d.on.toNat) - ((s ||| d.on.toNat) &&& d.off.toNat)) ^^^ d.flip.toNat
def deedDo (d : DeedD) (s : Nat) : Option Nat := if evalCode d.need s then some (behind d s) else none
def stepP (t : TaskD) (s : Nat) (k : Int) : Option Nat := if 0 ≤ k ∧ k < t.deeds.length then (t.deeds[k.toNat]?).bind (deedDo · s) else none
def runP (t : TaskD) : Nat → List Int → Option Nat
  | s, [] => some s
  | s, k :: ks => (stepP t s k).bind fun s' => runP t s' ks
def planRun (t : TaskD) (s : Int) (p : List Int) : Int := if taskOk t = true ∧ stIn s = true ∧ p.length ≤ 40 then opt (runP t s.toNat p) else -1

theorem or_lt32 {a b : Nat} (h : a < 32) (h' : b < 32) : a ||| b < 32 := Nat.or_lt_two_pow (n := 5) h h'
theorem deedOk_parts (d : DeedD) (h : deedOk d = true) : codeOk d.need = true ∧ (0 ≤ d.on ∧ d.on < 32) ∧ (0 ≤ d.off ∧ d.off < 32) ∧ (0 ≤ d.flip ∧ d.flip < 32) ∧ d.on.toNat &&& d.off.toNat = 0 ∧ d.on.toNat &&& d.flip.toNat = 0 ∧ d.off.toNat &&& d.flip.toNat = 0 := by
  unfold deedOk apart3 at h
  simp only [Bool.and_eq_true, decide_eq_true_eq] at h
  obtain ⟨⟨⟨⟨h1, h2⟩, h3⟩, h4⟩, ⟨h5, h6⟩, h7⟩ := h
  exact ⟨h1, (stIn_iff _).1 h2, (stIn_iff _).1 h3, (stIn_iff _).1 h4, h5, h6, h7⟩
theorem taskOk_parts (t : TaskD) (h : taskOk t = true) : (0 ≤ t.start ∧ t.start < 32) ∧ codeOk t.goal = true ∧ t.deeds.length ≤ 6 ∧ ∀ d ∈ t.deeds, deedOk d = true := by
  unfold taskOk at h
  simp only [Bool.and_eq_true, decide_eq_true_eq, List.all_eq_true] at h
  exact ⟨(stIn_iff _).1 h.1.1.1, h.1.1.2, h.1.2, h.2⟩
theorem behind_lt (d : DeedD) (s : Nat) (h : deedOk d = true) (hs : s < 32) : behind d s < 32 := by
  obtain ⟨-, h1, h2, h3, -⟩ := deedOk_parts d h
  exact xor32 _ _ (Nat.lt_of_le_of_lt (Nat.sub_le _ _) (or_lt32 hs (by omega))) (by omega)
theorem deedDo_lt (d : DeedD) (s s' : Nat) (h : deedOk d = true) (hs : s < 32) (e : deedDo d s = some s') : s' < 32 := by
  unfold deedDo at e
  split at e
  · injection e with e; subst e; exact behind_lt d s h hs
  · cases e
/-- the program's way: (state | On) &^ Off ^ Flip -/
theorem behind_impl (d : DeedD) (s : Nat) (hs : s < 32) (h : deedOk d = true) :
    bits .xor .i64 (bits .andNot .i64 (bits .or .i64 (s : Int) d.on) d.off) d.flip = (behind d s : Nat) := by
  obtain ⟨-, h1, h2, h3, -⟩ := deedOk_parts d h
  have e1 := toNat_cast h1.1
  have e2 := toNat_cast h2.1
  have e3 := toNat_cast h3.1
  have ho : s ||| d.on.toNat < 32 := or_lt32 hs (by omega)
  rw [← e1, ← e2, ← e3, i64_or_nat _ _ (by omega) (by omega), i64_andNot_nat _ _ (by omega) (by omega), i64_xor_nat _ _ (by omega) (by omega)]
  simp [behind]
/-- the reference's way -/
theorem behind_spec (d : DeedD) (s : Nat) (h : deedOk d = true) : behind d s = ((s ||| d.on.toNat) - (s &&& d.off.toNat)) ^^^ d.flip.toNat := by
  obtain ⟨-, h1, h2, h3, h4, -⟩ := deedOk_parts d h
  unfold behind
  rw [Nat.and_or_distrib_right, h4, Nat.or_zero]
end Go.Proofs.YtkimgdfcgfhibaaDoor

/- Plain law: sets of states as numbers: the sum of 2^s; no program in sight. -/
namespace Go.Proofs.YtkimgdfcgfhibaaDoor

/-- the number of a set of the numbers below n -/
def mset (p : Nat → Bool) : Nat → Nat
  | 0 => 0
  | n + 1 => 2 ^ n * (p n).toNat + mset p n
theorem mset_lt (p : Nat → Bool) (n : Nat) : mset p n < 2 ^ n := by
  induction n with
  | zero => simp [mset]
  | succ n ih => simp only [mset, Nat.pow_succ]; cases p n <;> simp <;> omega
theorem testBit_mset (p : Nat → Bool) (n k : Nat) : (mset p n).testBit k = (decide (k < n) && p k) := by
  induction n with
  | zero => simp [mset]
  | succ n ih =>
    simp only [mset]
    rw [Nat.testBit_two_pow_mul_add _ (mset_lt p n)]
    by_cases h : k < n
    · rw [if_pos h, ih]; simp [h, show k < n + 1 by omega]
    · rw [if_neg h]
      by_cases e : k = n
      · subst e; cases p k <;> simp
      · rw [show decide (k < n + 1) = false from decide_eq_false (by omega)]
        obtain ⟨j, hj⟩ : ∃ j, k - n = j + 1 := ⟨k - n - 1, by omega⟩
        rw [hj]
        cases p n <;> simp [Nat.testBit_succ]
theorem testBit_bit (a j : Nat) : a.testBit j = (bit a j == 1) := by
  unfold bit; rw [Nat.testBit_eq_decide_div_mod_eq]; rfl
theorem bit_testBit (a j : Nat) : bit a j = (a.testBit j).toNat := by
  rw [testBit_bit]
  have := bit_lt a j
  obtain e | e : bit a j = 0 ∨ bit a j = 1 := by omega
  · rw [e]; rfl
  · rw [e]; rfl
theorem bit_mset (p : Nat → Bool) (n k : Nat) : bit (mset p n) k = (decide (k < n) && p k).toNat := by rw [bit_testBit, testBit_mset]
theorem bit_mset1 (p : Nat → Bool) {n k : Nat} (h : k < n) : (bit (mset p n) k == 1) = p k := by rw [← testBit_bit, testBit_mset]; simp [h]
theorem mset_congr {p q : Nat → Bool} {n : Nat} (h : ∀ k, k < n → p k = q k) : mset p n = mset q n := by
  refine Nat.eq_of_testBit_eq fun k => ?_
  rw [testBit_mset, testBit_mset]
  by_cases hk : k < n
  · rw [h k hk]
  · simp [hk]
theorem mset_inj {p q : Nat → Bool} {n : Nat} (h : mset p n = mset q n) : ∀ k, k < n → p k = q k := fun k hk => by
  rw [← bit_mset1 p hk, ← bit_mset1 q hk, h]
theorem mset_or_bit (p : Nat → Bool) (n k : Nat) (hk : k < n) : mset p n ||| 2 ^ k = mset (fun j => p j || decide (k = j)) n := by
  refine Nat.eq_of_testBit_eq fun j => ?_
  rw [Nat.testBit_or, testBit_mset, testBit_mset, Nat.testBit_two_pow]
  by_cases e : k = j
  · subst e; simp [hk]
  · simp [e]
theorem mset_or (p q : Nat → Bool) (n : Nat) : mset p n ||| mset q n = mset (fun j => p j || q j) n := by
  refine Nat.eq_of_testBit_eq fun j => ?_
  rw [Nat.testBit_or, testBit_mset, testBit_mset, testBit_mset, Bool.and_or_distrib_left]
theorem mset_and (p q : Nat → Bool) (n : Nat) : mset p n &&& mset q n = mset (fun j => p j && q j) n := by
  refine Nat.eq_of_testBit_eq fun j => ?_
  rw [Nat.testBit_and, testBit_mset, testBit_mset, testBit_mset]
  cases decide (j < n) <;> simp
theorem mset_diff (p q : Nat → Bool) (n : Nat) : mset p n - (mset p n &&& mset q n) = mset (fun j => p j && !q j) n := by
  rw [mset_and]
  have h1 : ∀ m, mset (fun j => p j && q j) m + mset (fun j => p j && !q j) m = mset p m := fun m => by
    induction m with
    | zero => rfl
    | succ m ihm => simp only [mset]; rw [← ihm]; cases p m <;> cases q m <;> simp <;> omega
  have := h1 n
  omega
theorem mset_zero {p : Nat → Bool} {n : Nat} : mset p n = 0 ↔ ∀ k, k < n → p k = false := by
  constructor
  · intro h k hk
    have := testBit_mset p n k
    rw [h] at this
    simpa [hk] using this.symm
  · intro h
    refine Nat.eq_of_testBit_eq fun j => ?_
    rw [testBit_mset]
    by_cases hj : j < n
    · rw [h j hj]; simp
    · simp [hj]
/-- a set that is built from its first members on -/
def upto (p : Nat → Bool) (m : Nat) : Nat → Bool := fun k => decide (k < m) && p k
theorem mset_upto0 (p : Nat → Bool) (n : Nat) : mset (upto p 0) n = 0 := mset_zero.2 fun k _ => by simp [upto]
theorem mset_uptoN (p : Nat → Bool) (n : Nat) : mset (upto p n) n = mset p n := mset_congr fun k hk => by simp [upto, hk]
theorem mset_upto_yes (p : Nat → Bool) (n m : Nat) (hm : m < n) (h : p m = true) : mset (upto p (m + 1)) n = mset (upto p m) n ||| 2 ^ m := by
  rw [mset_or_bit _ _ _ hm]
  refine mset_congr fun k hk => ?_
  unfold upto
  by_cases e : m = k
  · subst e; simp [h]
  · simp [e, show (k < m + 1) ↔ (k < m) by omega]
theorem mset_upto_no (p : Nat → Bool) (n m : Nat) (h : p m = false) : mset (upto p (m + 1)) n = mset (upto p m) n := by
  refine mset_congr fun k hk => ?_
  unfold upto
  by_cases e : k = m
  · subst e; simp [h]
  · simp [show (k < m + 1) ↔ (k < m) by omega]
theorem mset_upto_bit (p : Nat → Bool) (n m : Nat) (hm : m ≤ n) : mset (upto p m) n < 2 ^ m := by
  refine Nat.lt_pow_two_of_testBit _ fun j hj => ?_
  rw [testBit_mset]
  unfold upto
  simp [show ¬ j < m by omega]
theorem mset_upto_add (p : Nat → Bool) (n m : Nat) (hm : m < n) (h : p m = true) : mset (upto p (m + 1)) n = mset (upto p m) n + 2 ^ m := by
  rw [mset_upto_yes p n m hm h]
  have := Nat.two_pow_add_eq_or_of_lt (mset_upto_bit p n m (by omega)) 1
  rw [Nat.or_comm, Nat.add_comm]
  simpa using this.symm
end Go.Proofs.YtkimgdfcgfhibaaDoor
