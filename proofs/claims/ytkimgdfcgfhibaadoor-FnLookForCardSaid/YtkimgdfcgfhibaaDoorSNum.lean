/- Joined texts: Num, Ints, Gray, Rings. -/
import Derived.Test.YtkimgdfcgfhibaaDoorSBase
/- Contracts of the functions that only reckon with numbers: bits of sets, rings, Gray's code. Conditions stand in each theorem (sets from 0 on and below 2^62). -/
namespace Go.Proofs.YtkimgdfcgfhibaaDoor
open Go.ChangeShapes Go.WideShapes Go.ChangeAt Go.RowKit

theorem l1In_any (n lo hi : Int) (w : World) :
    Calls Tryd.prog 56 #[.int .i64 n, .int .i64 lo, .int .i64 hi] w fun e w' => e = .returned (.bool (decide (lo ≤ n ∧ n ≤ hi))) ∧ w = w' := by
  go_enter Tryd.func56, Tryd.ntmps56
  go_wp2
  all_goals go_ret
  all_goals refine ⟨ret_bool ?_, rfl⟩
  all_goals simp
  all_goals omega
theorem l1In_yes (n lo hi : Int) (w : World) (h : lo ≤ n) (h' : n ≤ hi) :
    Calls Tryd.prog 56 #[.int .i64 n, .int .i64 lo, .int .i64 hi] w fun e w' => e = .returned (.bool true) ∧ w = w' :=
  (l1In_any n lo hi w).mono fun _ _ ⟨he, hw⟩ => ⟨by rw [he, decide_eq_true ⟨h, h'⟩], hw⟩
theorem l1In_no (n lo hi : Int) (w : World) (h : ¬ (lo ≤ n ∧ n ≤ hi)) :
    Calls Tryd.prog 56 #[.int .i64 n, .int .i64 lo, .int .i64 hi] w fun e w' => e = .returned (.bool false) ∧ w = w' :=
  (l1In_any n lo hi w).mono fun _ _ ⟨he, hw⟩ => ⟨by rw [he, decide_eq_false h], hw⟩

theorem l1Bit_any (a : Int) (k : Nat) (h0 : 0 ≤ a) (hk : k < 64) (w : World) :
    Calls Tryd.prog 64 #[.int .i64 a, .int .i64 k] w fun e w' => e = .returned (.int .i64 (a / 2 ^ k % 2)) ∧ w = w' := by
  have hd : 0 ≤ a / 2 ^ k := Int.ediv_nonneg h0 (Int.le_of_lt (Int.pow_pos (by omega)))
  go_enter Tryd.func64, Tryd.ntmps64
  go_wp2
  all_goals go_ret
  all_goals exact ⟨rfl, rfl⟩

theorem and_two (a b : Nat) : (a &&& b) = 2 * (a / 2 &&& b / 2) + (a % 2) * (b % 2) := by
  have h1 : (a &&& b) / 2 = (a / 2 &&& b / 2) := Nat.and_div_two
  have h2 : (a &&& b) % 2 = (a % 2) * (b % 2) := by
    rw [show (2:Nat) = 2^1 from rfl, Nat.and_mod_two_pow]
    have : a % 2 < 2 := Nat.mod_lt _ (by omega)
    have : b % 2 < 2 := Nat.mod_lt _ (by omega)
    simp only [Nat.pow_one]
    generalize a % 2 = x at *
    generalize b % 2 = y at *
    obtain rfl | rfl : x = 0 ∨ x = 1 := by omega
    all_goals obtain rfl | rfl : y = 0 ∨ y = 1 := by omega
    all_goals rfl
  omega
theorem xor_two (a b : Nat) : (a ^^^ b) = 2 * (a / 2 ^^^ b / 2) + (a + b) % 2 := by
  have h1 : (a ^^^ b) / 2 = (a / 2 ^^^ b / 2) := Nat.xor_div_two
  have h2 : (a ^^^ b) % 2 = (a + b) % 2 := by
    rw [show (2:Nat) = 2^1 from rfl, Nat.xor_mod_two_pow]
    have : a % 2 < 2 := Nat.mod_lt _ (by omega)
    have : b % 2 < 2 := Nat.mod_lt _ (by omega)
    have e : (a + b) % 2 = (a % 2 + b % 2) % 2 := by omega
    simp only [Nat.pow_one]
    rw [e]
    generalize a % 2 = x at *
    generalize b % 2 = y at *
    obtain rfl | rfl : x = 0 ∨ x = 1 := by omega
    all_goals obtain rfl | rfl : y = 0 ∨ y = 1 := by omega
    all_goals rfl
  omega
theorem xor_add_and (a b : Nat) : (a ^^^ b) + 2 * (a &&& b) = a + b := by
  induction a using Nat.strongRecOn generalizing b with
  | ind a ih =>
    by_cases ha : a = 0
    · subst ha; simp
    · have := ih (a / 2) (by omega) (b / 2)
      rw [xor_two a b, and_two a b]
      have h1 : a % 2 < 2 := Nat.mod_lt _ (by omega)
      have h2 : b % 2 < 2 := Nat.mod_lt _ (by omega)
      have h3 : a % 2 * (b % 2) + (a % 2 * (b % 2)) + (a + b) % 2 = a % 2 + b % 2 := by
        have e : (a + b) % 2 = (a % 2 + b % 2) % 2 := by omega
        rw [e]
        generalize a % 2 = x at *
        generalize b % 2 = y at *
        obtain rfl | rfl : x = 0 ∨ x = 1 := by omega
        all_goals obtain rfl | rfl : y = 0 ∨ y = 1 := by omega
        all_goals rfl
      omega
theorem or_two (a b : Nat) : (a ||| b) + (a &&& b) = a + b := by
  have h : (a ||| b) = (a ^^^ b) + (a &&& b) := by
    induction a using Nat.strongRecOn generalizing b with
    | ind a ih =>
      by_cases ha : a = 0
      · subst ha; simp
      · have := ih (a / 2) (by omega) (b / 2)
        rw [xor_two a b, and_two a b]
        have h1 : (a ||| b) / 2 = (a / 2 ||| b / 2) := Nat.or_div_two
        have h2 : (a ||| b) % 2 = (a + b) % 2 + (a % 2) * (b % 2) := by
          rw [show (2:Nat) = 2^1 from rfl, Nat.or_mod_two_pow]
          simp only [Nat.pow_one]
          have : a % 2 < 2 := Nat.mod_lt _ (by omega)
          have : b % 2 < 2 := Nat.mod_lt _ (by omega)
          have e : (a + b) % 2 = (a % 2 + b % 2) % 2 := by omega
          rw [e]
          generalize a % 2 = x at *
          generalize b % 2 = y at *
          obtain rfl | rfl : x = 0 ∨ x = 1 := by omega
          all_goals obtain rfl | rfl : y = 0 ∨ y = 1 := by omega
          all_goals rfl
        omega
  have := xor_add_and a b
  omega
theorem both_step (a b k : Nat) : (a &&& b) % 2 ^ (k + 1) = (a &&& b) % 2 ^ k + (a / 2 ^ k % 2) * (b / 2 ^ k % 2) * 2 ^ k := by
  have hb : (a / 2 ^ k % 2) * (b / 2 ^ k % 2) = (a &&& b) / 2 ^ k % 2 := by
    have h := Nat.testBit_and a b k
    simp only [Nat.testBit_eq_decide_div_mod_eq] at h
    have h1 : a / 2 ^ k % 2 < 2 := Nat.mod_lt _ (by omega)
    have h2 : b / 2 ^ k % 2 < 2 := Nat.mod_lt _ (by omega)
    have h3 : (a &&& b) / 2 ^ k % 2 < 2 := Nat.mod_lt _ (by omega)
    generalize a / 2 ^ k % 2 = x at *
    generalize b / 2 ^ k % 2 = y at *
    generalize (a &&& b) / 2 ^ k % 2 = z at *
    obtain rfl | rfl : x = 0 ∨ x = 1 := by omega
    all_goals obtain rfl | rfl : y = 0 ∨ y = 1 := by omega
    all_goals obtain rfl | rfl : z = 0 ∨ z = 1 := by omega
    all_goals simp_all
  rw [hb, Nat.pow_succ, Nat.mod_mul, Nat.mul_comm (2 ^ k)]
theorem xor32 (a b : Nat) (ha : a < 32) (hb : b < 32) : a ^^^ b < 32 := Nat.xor_lt_two_pow (n := 5) ha hb
def lowAnd (a b k : Nat) : Nat := (a &&& b) % 2 ^ k
theorem bit_lt (a k : Nat) : bit a k < 2 := Nat.mod_lt _ (by omega)
theorem pow_le_int (k m : Nat) (h : k ≤ m) : (2 : Int) ^ k ≤ 2 ^ m := by
  have h1 : 2 ^ k ≤ 2 ^ m := Nat.pow_le_pow_right (by omega) h
  exact_mod_cast h1
theorem and_one (m k : Nat) (hm : m < 4611686018427387904) : bits BinOp.and IntKind.i64 ((m : Int) / 2 ^ k) 1 = (bit m k : Nat) := by
  have e : ((m : Int) / 2 ^ k) = ((m / 2 ^ k : Nat) : Int) := by simp
  have hle : m / 2 ^ k ≤ m := Nat.div_le_self _ _
  rw [e, show (1 : Int) = ((1 : Nat) : Int) from rfl, i64_and_nat _ _ (by omega) (by omega), Nat.and_one_is_mod]
  rfl

theorem wrap_pow (k : Nat) (h : k ≤ 62) : wrap64 (2 ^ k) = 2 ^ k := by
  have h1 := pow_le_int k 62 h
  have h3 : (0 : Int) < 2 ^ k := Int.pow_pos (by omega)
  exact IntWalk.wrap64_in _ ⟨by omega, by omega⟩
theorem l1Bit_nat (a k : Nat) (hk : k < 64) (w : World) :
    Calls Tryd.prog 64 #[.int .i64 a, .int .i64 k] w fun e w' => e = .returned (.int .i64 (bit a k : Nat)) ∧ w = w' :=
  (l1Bit_any a k (by omega) hk w).mono fun _ _ ⟨he, hw⟩ => ⟨by rw [he]; unfold bit; simp, hw⟩
theorem lowAnd_lt (a b k : Nat) : lowAnd a b k < 2 ^ k := Nat.mod_lt _ (Nat.pow_pos (by omega))
theorem both_val (a b k : Nat) (hk : k < 62) (_ha : a < 4611686018427387904) (_h : (2 : Int) ^ k ≤ a) :
    wrap64 ((lowAnd a b k : Nat) + wrap64 (wrap64 ((bit a k : Nat) * (bit b k : Nat)) * 2 ^ k)) = ((lowAnd a b k + bit a k * bit b k * 2 ^ k : Nat) : Int) := by
  have h3 : (0 : Int) < 2 ^ k := Int.pow_pos (by omega)
  have h1 := pow_le_int k 61 (by omega)
  have hl : ((lowAnd a b k : Nat) : Int) < 2 ^ k := by exact_mod_cast lowAnd_lt a b k
  have ha := bit_lt a k
  have hb := bit_lt b k
  generalize bit a k = x at *
  generalize bit b k = y at *
  have ex : ((x : Int) * (y : Int)) = ((x * y : Nat) : Int) := by simp
  have hxy : x * y ≤ 1 := by
    obtain rfl | rfl : x = 0 ∨ x = 1 := by omega
    all_goals omega
  rw [ex]
  generalize x * y = z at *
  rw [IntWalk.wrap64_in (z : Int) ⟨by omega, by omega⟩]
  obtain rfl | rfl : z = 0 ∨ z = 1 := by omega
  · simp only [Int.natCast_zero, Int.zero_mul, Nat.zero_mul, Nat.add_zero]
    rw [IntWalk.wrap64_in 0 ⟨by omega, by omega⟩, Int.add_zero]
    exact IntWalk.wrap64_in _ ⟨by omega, by omega⟩
  · simp only [Int.natCast_one, Int.one_mul, Nat.one_mul]
    rw [IntWalk.wrap64_in (2 ^ k) ⟨by omega, by omega⟩]
    rw [IntWalk.wrap64_in _ ⟨by omega, by omega⟩]
    simp
theorem l1Both_nat (a b : Nat) (ha : a < 4611686018427387904) (w : World) :
    Calls Tryd.prog 65 #[.int .i64 a, .int .i64 b] w fun e w' => e = .returned (.int .i64 ((a &&& b : Nat) : Int)) ∧ w = w' := by
  have HB : Hid (∀ k, (a : Int) < 2 ^ k ∨ (b : Int) < 2 ^ k → lowAnd a b k = a &&& b) := by
    refine Lib.hid fun k hk => ?_
    unfold lowAnd
    apply Nat.mod_eq_of_lt
    have e : ((2 ^ k : Nat) : Int) = 2 ^ k := by simp
    rw [← e] at hk
    have h1 : a &&& b ≤ a := Nat.and_le_left
    have h2 : a &&& b ≤ b := Nat.and_le_right
    omega
  go_enter Tryd.func65, Tryd.ntmps65
  go_wp2
  go_loop [5, 6] (fun o i => ∃ k : Nat, k ≤ 62 ∧ i = .int .i64 k ∧ o = .int .i64 (lowAnd a b k : Nat)) (fun _ i => 62 - (intOf i).toNat)
  case atStart => exact ⟨0, by omega, rfl, by simp [lowAnd, Nat.mod_one]⟩
  case round =>
    obtain ⟨k, hk, rfl, rfl⟩ := hrel
    have hw := wrap_pow k hk
    have hstep : lowAnd a b (k + 1) = lowAnd a b k + bit a k * bit b k * 2 ^ k := both_step a b k
    have H1 := Lib.hid hstep; clear hstep
    have hlt : (2 : Int) ^ k ≤ a → k < 62 := fun h => by
      rcases Nat.lt_or_ge k 62 with h1 | h1
      · exact h1
      · have h1 := pow_le_int 62 k h1
        omega
    have H2 := Lib.hid hlt; clear hlt
    go_wp2_with (go_at_call 64; refine (l1Bit_nat _ _ (by omega) _).mono ?_; rintro e w' ⟨rfl, rfl⟩)
    · have h1 : (2 : Int) ^ k ≤ a := by assumption
      have hk2 := H2.out h1
      go_round
      case rel => exact ⟨k + 1, by omega, by go_num, by rw [H1.out, both_val a b k hk2 ha h1]⟩
      case measure => simp [intOf]; omega
    all_goals
      go_ret
      refine ⟨ret_int ?_, rfl⟩
      show ((lowAnd a b k : Nat) : Int) = _
      rw [HB.out k (by first | exact .inl (by assumption) | exact .inr (by assumption))]

theorem l1Both_any (a b : Int) (h0 : 0 ≤ a) (ha : a < 4611686018427387904) (h1 : 0 ≤ b) (w : World) :
    Calls Tryd.prog 65 #[.int .i64 a, .int .i64 b] w fun e w' => e = .returned (.int .i64 ((a.toNat &&& b.toNat : Nat) : Int)) ∧ w = w' := by
  have h := l1Both_nat a.toNat b.toNat (by omega) w
  rwa [toNat_cast h0, toNat_cast h1] at h
theorem l1Other_any (a b : Int) (h0 : 0 ≤ a) (ha : a < 4611686018427387904) (h1 : 0 ≤ b) (hb : b < 4611686018427387904) (w : World) :
    Calls Tryd.prog 86 #[.int .i64 a, .int .i64 b] w fun e w' => e = .returned (.int .i64 ((a.toNat ^^^ b.toNat : Nat) : Int)) ∧ w = w' := by
  have hx := xor_add_and a.toNat b.toNat
  generalize hy : a.toNat &&& b.toNat = y at *
  have HY := Lib.hid hy; clear hy
  generalize hz : a.toNat ^^^ b.toNat = z at *
  have HX : Hid (a + b - 2 * y = z) := by refine Lib.hid ?_; clear hz; omega
  clear hz
  have hy1 : (y : Int) ≤ a := by have := HY.out; have h2 := @Nat.and_le_left a.toNat b.toNat; omega
  clear hx
  go_enter Tryd.func86, Tryd.ntmps86
  go_wp2_with (go_at_call 65; refine (l1Both_any a b h0 ha h1 _).mono ?_; rw [HY.out]; rintro e w' ⟨rfl, rfl⟩)
  go_ret
  exact ⟨ret_int HX.out, rfl⟩
theorem l1Either_any (a b : Int) (h0 : 0 ≤ a) (ha : a < 4611686018427387904) (h1 : 0 ≤ b) (hb : b < 4611686018427387904) (w : World) :
    Calls Tryd.prog 87 #[.int .i64 a, .int .i64 b] w fun e w' => e = .returned (.int .i64 ((a.toNat ||| b.toNat : Nat) : Int)) ∧ w = w' := by
  have hx := or_two a.toNat b.toNat
  generalize hy : a.toNat &&& b.toNat = y at *
  have HY := Lib.hid hy; clear hy
  generalize hz : a.toNat ||| b.toNat = z at *
  have HX : Hid (a + b - y = z) := by refine Lib.hid ?_; clear hz; omega
  clear hz
  have hy1 : (y : Int) ≤ a := by have := HY.out; have h2 := @Nat.and_le_left a.toNat b.toNat; omega
  clear hx
  go_enter Tryd.func87, Tryd.ntmps87
  go_wp2_with (go_at_call 65; refine (l1Both_any a b h0 ha h1 _).mono ?_; rw [HY.out]; rintro e w' ⟨rfl, rfl⟩)
  go_ret
  exact ⟨ret_int HX.out, rfl⟩
end Go.Proofs.YtkimgdfcgfhibaaDoor

/- The laws' helpers on slices of numbers: toIntS, eqIntS. Condition: at most 2^40 numbers. -/
namespace Go.Proofs.YtkimgdfcgfhibaaDoor
open Go.ChangeShapes Go.WideShapes Go.ChangeAt Go.RowKit

def fillI (xs : List Int) (k : Nat) : Array Value := (ints (xs.take k ++ List.replicate (xs.length - k) 0)).toArray
theorem fillI_at (xs : List Int) (k : Nat) (hk : k < xs.length) : (fillI xs k)[k]? = some (.int .i64 0) := by
  unfold fillI ints
  simp only [List.getElem?_toArray, List.getElem?_map, Option.map_eq_some_iff]
  refine ⟨0, ?_, rfl⟩
  rw [List.getElem?_append_right (by simp only [List.length_take]; omega)]
  simp only [List.length_take, List.getElem?_replicate]
  rw [if_pos (by omega)]
theorem fillI_step (xs : List Int) (k : Nat) (x : Int) (hx : xs[k]? = some x) : (fillI xs k).setIfInBounds k (.int .i64 x) = fillI xs (k + 1) := by
  have hk : k < xs.length := (List.getElem?_eq_some_iff.1 hx).1
  apply Array.ext'
  unfold fillI ints
  simp only [Array.toList_setIfInBounds]
  apply List.ext_getElem?
  intro i
  rw [List.getElem?_set]
  simp only [List.getElem?_map, List.length_map, List.length_append, List.length_take, List.length_replicate]
  have e1 : min k xs.length = k := by omega
  have e2 : min (k + 1) xs.length = k + 1 := by omega
  rcases Nat.lt_trichotomy k i with h | h | h
  · rw [if_neg (by omega), List.getElem?_append_right (by simp; omega), List.getElem?_append_right (by simp; omega)]
    simp only [List.length_take, List.getElem?_replicate, e1, e2]
    by_cases h2 : i < xs.length
    · rw [if_pos (by omega), if_pos (by omega)]
    · rw [if_neg (by omega), if_neg (by omega)]
  · subst h
    rw [if_pos rfl, if_pos (by omega), List.getElem?_append_left (by simp; omega), List.getElem?_take, if_pos (by omega), hx]; rfl
  · rw [if_neg (by omega), List.getElem?_append_left (by simp; omega), List.getElem?_append_left (by simp; omega), List.getElem?_take, List.getElem?_take, if_pos (by omega), if_pos (by omega)]
theorem fillI_done (xs : List Int) : (fillI xs xs.length).toList = ints xs := by simp [fillI]
end Go.Proofs.YtkimgdfcgfhibaaDoor

/- GrayOf, GrayPlace and RingsMay, of the program and of the reference: each returns one plain function, for every argument. -/
namespace Go.Proofs.YtkimgdfcgfhibaaDoor
open Go.ChangeShapes Go.WideShapes Go.ChangeAt Go.RowKit

def grayOf (n : Int) : Int := if 0 ≤ n ∧ n < 32 then ((n.toNat ^^^ (n.toNat / 2) : Nat) : Int) else -1
/-- the place of a state: the states from it on, halved again and again, added where twice is nothing -/
def xorDown : Nat → Nat → Nat
  | 0, _ => 0
  | f + 1, s => s ^^^ xorDown f (s / 2)
def grayPlace (s : Int) : Int := if 0 ≤ s ∧ s < 32 then ((xorDown 5 s.toNat : Nat) : Int) else -1
/-- the value after k rounds of the program's loop -/
def half (m k : Nat) : Nat := m / 2 ^ k
end Go.Proofs.YtkimgdfcgfhibaaDoor

/- RingsMay of the program and of the reference: each returns one plain function, for every argument. -/
namespace Go.Proofs.YtkimgdfcgfhibaaDoor
open Go.ChangeShapes Go.WideShapes Go.ChangeAt Go.RowKit

def ringsIn (r s : Int) : Bool := decide (1 ≤ r ∧ r ≤ 5 ∧ 0 ≤ s ∧ s < 2 ^ r.toNat)
def ringsMay (r s k : Int) : Bool := ringsIn r s && decide (0 ≤ k ∧ k < r ∧ (k = 0 ∨ s % 2 ^ k.toNat = 2 ^ (k.toNat - 1)))

end Go.Proofs.YtkimgdfcgfhibaaDoor
