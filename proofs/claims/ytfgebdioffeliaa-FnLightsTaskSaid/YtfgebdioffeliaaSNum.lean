/- Joined texts: Num, Ints, Press, Gray, Rings. -/
import Derived.Test.YtfgebdioffeliaaSMem
/- Contracts of the functions that only reckon with numbers: bits of sets, rings, Gray's code. Conditions stand in each theorem (sets from 0 on and below 2^62). -/
namespace Go.Proofs.Ytfgebdioffeliaa
open Go.ChangeShapes Go.WideShapes Go.ChangeAt Go.RowKit

theorem l1In_any (n lo hi : Int) (w : World) :
    Calls Try.prog 51 #[.int .i64 n, .int .i64 lo, .int .i64 hi] w fun e w' => e = .returned (.bool (decide (lo ≤ n ∧ n ≤ hi))) ∧ w = w' := by
  go_enter Try.func51, Try.ntmps51
  go_wp2
  all_goals go_ret
  all_goals refine ⟨ret_bool ?_, rfl⟩
  all_goals simp
  all_goals omega
theorem l1In_yes (n lo hi : Int) (w : World) (h : lo ≤ n) (h' : n ≤ hi) :
    Calls Try.prog 51 #[.int .i64 n, .int .i64 lo, .int .i64 hi] w fun e w' => e = .returned (.bool true) ∧ w = w' :=
  (l1In_any n lo hi w).mono fun _ _ ⟨he, hw⟩ => ⟨by rw [he, decide_eq_true ⟨h, h'⟩], hw⟩
theorem l1In_no (n lo hi : Int) (w : World) (h : ¬ (lo ≤ n ∧ n ≤ hi)) :
    Calls Try.prog 51 #[.int .i64 n, .int .i64 lo, .int .i64 hi] w fun e w' => e = .returned (.bool false) ∧ w = w' :=
  (l1In_any n lo hi w).mono fun _ _ ⟨he, hw⟩ => ⟨by rw [he, decide_eq_false h], hw⟩

theorem l1Bit_any (a : Int) (k : Nat) (h0 : 0 ≤ a) (hk : k < 64) (w : World) :
    Calls Try.prog 59 #[.int .i64 a, .int .i64 k] w fun e w' => e = .returned (.int .i64 (a / 2 ^ k % 2)) ∧ w = w' := by
  have hd : 0 ≤ a / 2 ^ k := Int.ediv_nonneg h0 (Int.le_of_lt (Int.pow_pos (by omega)))
  go_enter Try.func59, Try.ntmps59
  go_wp2
  all_goals go_ret
  all_goals exact ⟨rfl, rfl⟩

theorem and_two (a b : Nat) : (a &&& b) = 2 * (a / 2 &&& b / 2) + (a % 2) * (b % 2) := by
  have h1 : (a &&& b) / 2 = (a / 2 &&& b / 2) := Nat.and_div_two
  have h2 : (a &&& b) % 2 = (a % 2) * (b % 2) := by
    rw [show (2:Nat) = 2^1 from rfl, Nat.and_mod_two_pow]
    have : a % 2 < 2 := Nat.mod_lt _ (by omega)
    have : b % 2 < 2 := Nat.mod_lt _ (by omega)
    simp only [Nat.pow_one]
    generalize a % 2 = x at *
    generalize b % 2 = y at *
    obtain rfl | rfl : x = 0 ∨ x = 1 := by omega
    all_goals obtain rfl | rfl : y = 0 ∨ y = 1 := by omega
    all_goals rfl
  omega
theorem xor_two (a b : Nat) : (a ^^^ b) = 2 * (a / 2 ^^^ b / 2) + (a + b) % 2 := by
  have h1 : (a ^^^ b) / 2 = (a / 2 ^^^ b / 2) := Nat.xor_div_two
  have h2 : (a ^^^ b) % 2 = (a + b) % 2 := by
    rw [show (2:Nat) = 2^1 from rfl, Nat.xor_mod_two_pow]
    have : a % 2 < 2 := Nat.mod_lt _ (by omega)
    have : b % 2 < 2 := Nat.mod_lt _ (by omega)
    have e : (a + b) % 2 = (a % 2 + b % 2) % 2 := by omega
    simp only [Nat.pow_one]
    rw [e]
    generalize a % 2 = x at *
    generalize b % 2 = y at *
    obtain rfl | rfl : x = 0 ∨ x = 1 := by omega
    all_goals obtain rfl | rfl : y = 0 ∨ y = 1 := by omega
    all_goals rfl
  omega
theorem xor_add_and (a b : Nat) : (a ^^^ b) + 2 * (a &&& b) = a + b := by
  induction a using Nat.strongRecOn generalizing b with
  | ind a ih =>
    by_cases ha : a = 0
    · subst ha; simp
    · have := ih (a / 2) (by omega) (b / 2)
      rw [xor_two a b, and_two a b]
      have h1 : a % 2 < 2 := Nat.mod_lt _ (by omega)
      have h2 : b % 2 < 2 := Nat.mod_lt _ (by omega)
      have h3 : a % 2 * (b % 2) + (a % 2 * (b % 2)) + (a + b) % 2 = a % 2 + b % 2 := by
        have e : (a + b) % 2 = (a % 2 + b % 2) % 2 := by omega
        rw [e]
        generalize a % 2 = x at *
        generalize b % 2 = y at *
        obtain rfl | rfl : x = 0 ∨ x = 1 := by omega
        all_goals obtain rfl | rfl : y = 0 ∨ y = 1 := by omega
        all_goals rfl
      omega
theorem both_step (a b k : Nat) : (a &&& b) % 2 ^ (k + 1) = (a &&& b) % 2 ^ k + (a / 2 ^ k % 2) * (b / 2 ^ k % 2) * 2 ^ k := by
  have hb : (a / 2 ^ k % 2) * (b / 2 ^ k % 2) = (a &&& b) / 2 ^ k % 2 := by
    have h := Nat.testBit_and a b k
    simp only [Nat.testBit_eq_decide_div_mod_eq] at h
    have h1 : a / 2 ^ k % 2 < 2 := Nat.mod_lt _ (by omega)
    have h2 : b / 2 ^ k % 2 < 2 := Nat.mod_lt _ (by omega)
    have h3 : (a &&& b) / 2 ^ k % 2 < 2 := Nat.mod_lt _ (by omega)
    generalize a / 2 ^ k % 2 = x at *
    generalize b / 2 ^ k % 2 = y at *
    generalize (a &&& b) / 2 ^ k % 2 = z at *
    obtain rfl | rfl : x = 0 ∨ x = 1 := by omega
    all_goals obtain rfl | rfl : y = 0 ∨ y = 1 := by omega
    all_goals obtain rfl | rfl : z = 0 ∨ z = 1 := by omega
    all_goals simp_all
  rw [hb, Nat.pow_succ, Nat.mod_mul, Nat.mul_comm (2 ^ k)]
theorem xor32 (a b : Nat) (ha : a < 32) (hb : b < 32) : a ^^^ b < 32 := Nat.xor_lt_two_pow (n := 5) ha hb
def lowAnd (a b k : Nat) : Nat := (a &&& b) % 2 ^ k
theorem bit_lt (a k : Nat) : bit a k < 2 := Nat.mod_lt _ (by omega)
theorem pow_le_int (k m : Nat) (h : k ≤ m) : (2 : Int) ^ k ≤ 2 ^ m := by
  have h1 : 2 ^ k ≤ 2 ^ m := Nat.pow_le_pow_right (by omega) h
  exact_mod_cast h1
theorem and_one (m k : Nat) (hm : m < 4611686018427387904) : bits BinOp.and IntKind.i64 ((m : Int) / 2 ^ k) 1 = (bit m k : Nat) := by
  have e : ((m : Int) / 2 ^ k) = ((m / 2 ^ k : Nat) : Int) := by simp
  have hle : m / 2 ^ k ≤ m := Nat.div_le_self _ _
  rw [e, show (1 : Int) = ((1 : Nat) : Int) from rfl, i64_and_nat _ _ (by omega) (by omega), Nat.and_one_is_mod]
  rfl

theorem wrap_pow (k : Nat) (h : k ≤ 62) : wrap64 (2 ^ k) = 2 ^ k := by
  have h1 := pow_le_int k 62 h
  have h3 : (0 : Int) < 2 ^ k := Int.pow_pos (by omega)
  exact IntWalk.wrap64_in _ ⟨by omega, by omega⟩
theorem l1Bit_nat (a k : Nat) (hk : k < 64) (w : World) :
    Calls Try.prog 59 #[.int .i64 a, .int .i64 k] w fun e w' => e = .returned (.int .i64 (bit a k : Nat)) ∧ w = w' :=
  (l1Bit_any a k (by omega) hk w).mono fun _ _ ⟨he, hw⟩ => ⟨by rw [he]; unfold bit; simp, hw⟩
theorem lowAnd_lt (a b k : Nat) : lowAnd a b k < 2 ^ k := Nat.mod_lt _ (Nat.pow_pos (by omega))
end Go.Proofs.Ytfgebdioffeliaa

/- The laws' helpers on slices of numbers: toIntS, eqIntS. Condition: at most 2^40 numbers. -/
namespace Go.Proofs.Ytfgebdioffeliaa
open Go.ChangeShapes Go.WideShapes Go.ChangeAt Go.RowKit

def fillI (xs : List Int) (k : Nat) : Array Value := (ints (xs.take k ++ List.replicate (xs.length - k) 0)).toArray
theorem fillI_at (xs : List Int) (k : Nat) (hk : k < xs.length) : (fillI xs k)[k]? = some (.int .i64 0) := by
  unfold fillI ints
  simp only [List.getElem?_toArray, List.getElem?_map, Option.map_eq_some_iff]
  refine ⟨0, ?_, rfl⟩
  rw [List.getElem?_append_right (by simp only [List.length_take]; omega)]
  simp only [List.length_take, List.getElem?_replicate]
  rw [if_pos (by omega)]
theorem fillI_step (xs : List Int) (k : Nat) (x : Int) (hx : xs[k]? = some x) : (fillI xs k).setIfInBounds k (.int .i64 x) = fillI xs (k + 1) := by
  have hk : k < xs.length := (List.getElem?_eq_some_iff.1 hx).1
  apply Array.ext'
  unfold fillI ints
  simp only [Array.toList_setIfInBounds]
  apply List.ext_getElem?
  intro i
  rw [List.getElem?_set]
  simp only [List.getElem?_map, List.length_map, List.length_append, List.length_take, List.length_replicate]
  have e1 : min k xs.length = k := by omega
  have e2 : min (k + 1) xs.length = k + 1 := by omega
  rcases Nat.lt_trichotomy k i with h | h | h
  · rw [if_neg (by omega), List.getElem?_append_right (by simp; omega), List.getElem?_append_right (by simp; omega)]
    simp only [List.length_take, List.getElem?_replicate, e1, e2]
    by_cases h2 : i < xs.length
    · rw [if_pos (by omega), if_pos (by omega)]
    · rw [if_neg (by omega), if_neg (by omega)]
  · subst h
    rw [if_pos rfl, if_pos (by omega), List.getElem?_append_left (by simp; omega), List.getElem?_take, if_pos (by omega), hx]; rfl
  · rw [if_neg (by omega), List.getElem?_append_left (by simp; omega), List.getElem?_append_left (by simp; omega), List.getElem?_take, List.getElem?_take, if_pos (by omega), if_pos (by omega)]
theorem fillI_done (xs : List Int) : (fillI xs xs.length).toList = ints xs := by simp [fillI]
theorem fillI_start (xs : List Int) : (madeCells #[.int .i64 0] xs.length) = fillI xs 0 := by
  apply Array.ext'
  rw [toList_madeCells_one]
  simp [fillI, ints]

end Go.Proofs.Ytfgebdioffeliaa

/- PressesOf of the program and of the reference: each returns one plain function, for every plan of at most 2^40 deeds. -/
namespace Go.Proofs.Ytfgebdioffeliaa
open Go.ChangeShapes Go.WideShapes Go.ChangeAt Go.RowKit

def foldP (xs : List Int) (k : Nat) : Nat := (xs.take k).foldl (fun s x => s ^^^ 2 ^ x.toNat) 0
def pressesOf (xs : List Int) : Int := if xs.length ≤ 40 ∧ ∀ x ∈ xs, 0 ≤ x ∧ x < 5 then ((foldP xs xs.length : Nat) : Int) else -1
theorem foldP_step (xs : List Int) (k : Nat) (x : Int) (hx : xs[k]? = some x) : foldP xs (k + 1) = foldP xs k ^^^ 2 ^ x.toNat := by
  have hk : k < xs.length := (List.getElem?_eq_some_iff.1 hx).1
  unfold foldP
  rw [List.take_succ_eq_append_getElem hk, List.foldl_append]
  have : xs[k] = x := (List.getElem?_eq_some_iff.1 hx).2
  rw [this]; rfl
theorem pow5 (x : Int) (h0 : 0 ≤ x) (h1 : x < 5) : 2 ^ x.toNat < 32 ∧ wrap64 (2 ^ x.toNat) = ((2 ^ x.toNat : Nat) : Int) := by
  have h2 : 2 ^ x.toNat ≤ 2 ^ 4 := Nat.pow_le_pow_right (by omega) (show x.toNat ≤ 4 by omega)
  refine ⟨by omega, ?_⟩
  rw [wrap_pow _ (by omega)]; simp
theorem pressesOf_bad (xs : List Int) (x : Int) (hx : x ∈ xs) (h : ¬ (0 ≤ x ∧ x < 5)) : pressesOf xs = -1 := by
  unfold pressesOf; rw [if_neg]; rintro ⟨_, h2⟩; exact h (h2 x hx)
theorem pressesOf_long (xs : List Int) (h : ¬ xs.length ≤ 40) : pressesOf xs = -1 := by
  unfold pressesOf; rw [if_neg]; rintro ⟨h1, _⟩; exact h h1
theorem pressesOf_good (xs : List Int) (h : xs.length ≤ 40) (h2 : ∀ (j : Nat) (x : Int), xs[j]? = some x → 0 ≤ x ∧ x < 5) : pressesOf xs = (foldP xs xs.length : Nat) := by
  unfold pressesOf; rw [if_pos]; exact ⟨h, fun x hx => by obtain ⟨j, hj⟩ := List.mem_iff_getElem?.1 hx; exact h2 j x hj⟩

theorem pressesOf_impl (A : Option Addr) (n c : Nat) (xs : List Int) (w : World) (h : RdI .i64 w w.heap.size A n c xs) :
    Calls Try.prog 17 #[.slice A n c] w fun e w' => e = .returned (.int .i64 (pressesOf xs)) ∧ w = w' := by
  have hl := h.len
  by_cases hn : n ≤ 40
  · have HL := Lib.hid hl; clear hl
    go_enter Try.func17, Try.ntmps17
    go_wp2
    go_loop [11, 3] (fun i s => ∃ k : Nat, k ≤ n ∧ i = .int .i64 k ∧ s = .int .i64 (foldP xs k : Nat) ∧ foldP xs k < 32 ∧ Hid (∀ j x, j < k → xs[j]? = some x → 0 ≤ x ∧ x < 5)) (fun i _ => n - (intOf i).toNat)
    case atStart => exact ⟨0, by omega, rfl, rfl, by simp [foldP], Lib.hid (by omega)⟩
    case round =>
      obtain ⟨k, hk, rfl, rfl, hf, hpre⟩ := hrel
      by_cases hlt : k < n
      · obtain ⟨b, off, x, rfl, hb, hx, hw, hc⟩ := h.get hlt
        by_cases hr : 0 ≤ x ∧ x < 5
        · obtain ⟨r0, r1⟩ := hr
          obtain ⟨hp, hpw⟩ := pow5 x r0 r1
          have HS := Lib.hid (foldP_step xs k x hx)
          have hx32 := xor32 _ _ hf hp
          have hxn := i64_xor_nat (foldP xs k) (2 ^ x.toNat) (by omega) (by omega)
          have HX := Lib.hid hx
          clear hx hp
          generalize hz : foldP xs k ^^^ 2 ^ x.toNat = z at *
          clear hz
          have ecast : ((2 ^ x.toNat : Nat) : Int) = 2 ^ x.toNat := by simp
          rw [ecast] at hpw hxn
          clear ecast
          go_wp2
          go_round
          case rel => exact ⟨k + 1, by omega, by go_num, by rw [HS.out], by rw [HS.out]; exact hx32, Lib.hid fun j y hj hy => by
            rcases Nat.lt_or_ge j k with h1 | h1
            · exact hpre.out j y h1 hy
            · obtain rfl : j = k := by omega
              have := hy.symm.trans HX.out
              injection this with this
              subst this
              exact ⟨r0, r1⟩⟩
          case measure => simp [intOf]; omega
        · have HB := Lib.hid (pressesOf_bad xs x (List.mem_of_getElem? hx) hr)
          clear hx
          go_wp2
          all_goals first | (exfalso; omega) | go_ret
          all_goals exact ⟨ret_int HB.out.symm, rfl⟩
      · have HG := Lib.hid (pressesOf_good xs (by rw [HL.out]; exact hn) (fun j x hj => hpre.out j x (by have := (List.getElem?_eq_some_iff.1 hj).1; have := HL.out; omega) hj))
        have hkn : k = n := by omega
        have HK := Lib.hid hkn
        clear hkn
        go_wp2
        go_ret
        refine ⟨ret_int ?_, rfl⟩
        rw [HG.out, HL.out, ← HK.out]
  · have HB := Lib.hid (pressesOf_long xs (by rw [hl]; exact hn))
    go_enter Try.func17, Try.ntmps17
    go_wp2
    go_ret
    exact ⟨ret_int HB.out.symm, rfl⟩

end Go.Proofs.Ytfgebdioffeliaa

/- GrayOf, GrayPlace and RingsMay, of the program and of the reference: each returns one plain function, for every argument. -/
namespace Go.Proofs.Ytfgebdioffeliaa
open Go.ChangeShapes Go.WideShapes Go.ChangeAt Go.RowKit

def grayOf (n : Int) : Int := if 0 ≤ n ∧ n < 32 then ((n.toNat ^^^ (n.toNat / 2) : Nat) : Int) else -1
/-- the place of a state: the states from it on, halved again and again, added where twice is nothing -/
def xorDown : Nat → Nat → Nat
  | 0, _ => 0
  | f + 1, s => s ^^^ xorDown f (s / 2)
def grayPlace (s : Int) : Int := if 0 ≤ s ∧ s < 32 then ((xorDown 5 s.toNat : Nat) : Int) else -1
/-- the value after k rounds of the program's loop -/
def half (m k : Nat) : Nat := m / 2 ^ k
end Go.Proofs.Ytfgebdioffeliaa

/- RingsMay of the program and of the reference: each returns one plain function, for every argument. -/
namespace Go.Proofs.Ytfgebdioffeliaa
open Go.ChangeShapes Go.WideShapes Go.ChangeAt Go.RowKit

def ringsIn (r s : Int) : Bool := decide (1 ≤ r ∧ r ≤ 5 ∧ 0 ≤ s ∧ s < 2 ^ r.toNat)
def ringsMay (r s k : Int) : Bool := ringsIn r s && decide (0 ≤ k ∧ k < r ∧ (k = 0 ∨ s % 2 ^ k.toNat = 2 ^ (k.toNat - 1)))

end Go.Proofs.Ytfgebdioffeliaa
