/- Joined texts: Pure, Num, Ints, Gray, Rings. -/
import Derived.Test.YtkmcengmglgdeaaGreatDoorSBase
/- Plain law: codes, deeds, tasks and books as data, and what is asked of them; no program in sight. -/
namespace Go.Proofs.YtkmcengmglgdeaaGreatDoor

structure DeedD where
 need : List Int
 on : Int
 off : Int
 flip : Int
structure TaskD where
 start : Int
 goal : List Int
 deeds : List DeedD
structure BookD where
 order : TaskD
 done : List Int
 state : Int
structure ActD where
 kind : Int
 number : Int
theorem DeedD.ext' {a b : DeedD} (h1 : a.need = b.need) (h2 : a.on = b.on) (h3 : a.off = b.off) (h4 : a.flip = b.flip) : a = b := by cases a; cases b; simp_all
theorem TaskD.ext' {a b : TaskD} (h1 : a.start = b.start) (h2 : a.goal = b.goal) (h3 : a.deeds = b.deeds) : a = b := by cases a; cases b; simp_all
theorem BookD.ext' {a b : BookD} (h1 : a.order = b.order) (h2 : a.done = b.done) (h3 : a.state = b.state) : a = b := by cases a; cases b; simp_all
instance : DecidableEq DeedD := fun a b => decidable_of_iff (a.need = b.need ∧ a.on = b.on ∧ a.off = b.off ∧ a.flip = b.flip) ⟨fun ⟨h1, h2, h3, h4⟩ => DeedD.ext' h1 h2 h3 h4, fun h => by subst h; exact ⟨rfl, rfl, rfl, rfl⟩⟩
instance : DecidableEq TaskD := fun a b => decidable_of_iff (a.start = b.start ∧ a.goal = b.goal ∧ a.deeds = b.deeds) ⟨fun ⟨h1, h2, h3⟩ => TaskD.ext' h1 h2 h3, fun h => by subst h; exact ⟨rfl, rfl, rfl⟩⟩
instance : DecidableEq BookD := fun a b => decidable_of_iff (a.order = b.order ∧ a.done = b.done ∧ a.state = b.state) ⟨fun ⟨h1, h2, h3⟩ => BookD.ext' h1 h2 h3, fun h => by subst h; exact ⟨rfl, rfl, rfl⟩⟩

/-! ### codes -/
/-- how many entries the stack has behind a step -/
def dStep (d : Nat) (x : Int) : Option Nat :=
 if x < 0 ∨ 9 < x then none else if x ≤ 6 then some (d + 1) else if x = 7 then (if 1 ≤ d then some d else none) else if 2 ≤ d then some (d - 1) else none
def dRun : Nat → List Int → Option Nat
 | d, [] => some d
 | d, x :: xs => (dStep d x).bind fun d' => dRun d' xs
def mRun : Nat → Nat → List Int → Nat
 | _, m, [] => m
 | d, m, x :: xs => mRun ((dStep d x).getD 0) (max m ((dStep d x).getD 0)) xs
def codeOk (xs : List Int) : Bool := decide (1 ≤ xs.length ∧ xs.length ≤ 40) && dRun 0 xs == some 1
def codeDepth (xs : List Int) : Int := if codeOk xs then (mRun 0 0 xs : Nat) else -1
theorem dRun_append (d : Nat) (xs ys : List Int) : dRun d (xs ++ ys) = (dRun d xs).bind fun d' => dRun d' ys := by
 induction xs generalizing d with
 | nil => rfl
 | cons x xs ih =>
  simp only [List.cons_append, dRun]
  cases dStep d x with
  | none => rfl
  | some d' => simp [ih]
theorem mRun_append (d m : Nat) (xs ys : List Int) (d' : Nat) (h : dRun d xs = some d') : mRun d m (xs ++ ys) = mRun d' (mRun d m xs) ys := by
 induction xs generalizing d m with
 | nil => simp only [dRun, Option.some.injEq] at h; subst h; rfl
 | cons x xs ih =>
  simp only [dRun] at h
  cases hs : dStep d x with
  | none => rw [hs] at h; cases h
  | some e =>
   rw [hs] at h
   simp only [List.cons_append, mRun, hs, Option.getD_some]
   exact ih _ _ (by simpa using h)
/-- a step behind the first k -/
theorem dRun_step (xs : List Int) (k : Nat) (x : Int) (hx : xs[k]? = some x) (d : Nat) (h : dRun 0 (xs.take k) = some d) : dRun 0 (xs.take (k + 1)) = dStep d x ∧ (∀ d', dStep d x = some d' → mRun 0 0 (xs.take (k + 1)) = max (mRun 0 0 (xs.take k)) d') := by
 obtain ⟨hk, he⟩ := List.getElem?_eq_some_iff.1 hx
 rw [List.take_succ_eq_append_getElem hk, he]
 refine ⟨?_, fun d' hd => ?_⟩
 ·rw [dRun_append, h]
  simp only [Option.bind_some, dRun]
  cases dStep d x <;> rfl
 ·rw [mRun_append _ _ _ _ _ h]
  simp [mRun, hd]
/-- where a step does not fit the code is none -/
theorem dRun_bad (xs : List Int) (k : Nat) (x : Int) (hx : xs[k]? = some x) (d : Nat) (h : dRun 0 (xs.take k) = some d) (hs : dStep d x = none) : codeOk xs = false := by
 obtain ⟨hk, he⟩ := List.getElem?_eq_some_iff.1 hx
 have : dRun 0 xs = none := by
  conv => lhs; rw [← List.take_append_drop k xs]
  rw [dRun_append, h, List.drop_eq_getElem_cons hk, he]
  simp [dRun, hs]
 unfold codeOk
 rw [this]; simp
theorem dStep_le (d : Nat) (x : Int) (d' : Nat) (h : dStep d x = some d') : d' ≤ d + 1 := by
 unfold dStep at h
 split at h
 ·cases h
 ·split at h
  ·cases h; omega
  ·split at h
   ·split at h <;> cases h; omega
   ·split at h <;> cases h; omega
theorem dRun_le (d : Nat) (xs : List Int) (d' : Nat) (h : dRun d xs = some d') : d' ≤ d + xs.length := by
 induction xs generalizing d with
 | nil => simp only [dRun, Option.some.injEq] at h; subst h; simp
 | cons x xs ih =>
  simp only [dRun] at h
  cases hs : dStep d x with
  | none => rw [hs] at h; cases h
  | some e =>
   rw [hs] at h
   have h1 := ih e (by simpa using h)
   have h2 := dStep_le _ _ _ hs
   simp only [List.length_cons]
   omega
theorem mRun_le (d m : Nat) (xs : List Int) : mRun d m xs ≤ max m (d + xs.length) := by
 induction xs generalizing d m with
 | nil => simp only [mRun, List.length_nil]; omega
 | cons x xs ih =>
  simp only [mRun, List.length_cons]
  cases hs : dStep d x with
  | none => simp only [Option.getD_none]; have := ih 0 (max m 0); omega
  | some e => simp only [Option.getD_some]; have := ih e (max m e); have := dStep_le _ _ _ hs; omega
theorem mRun_last (d m : Nat) (xs : List Int) (e : Nat) (h : dRun d xs = some e) (hne : xs ≠ []) : e ≤ mRun d m xs := by
 induction xs generalizing d m with
 | nil => exact absurd rfl hne
 | cons x xs ih =>
  simp only [dRun] at h
  cases hs : dStep d x with
  | none => rw [hs] at h; cases h
  | some d' =>
   rw [hs] at h
   have h : dRun d' xs = some e := by simpa using h
   simp only [mRun, hs, Option.getD_some]
   by_cases hx : xs = []
   ·subst hx
    simp only [dRun, Option.some.injEq] at h
    subst h
    simp only [mRun]; omega
   ·exact ih _ _ h hx
theorem codeOk_iff (xs : List Int) : codeOk xs = true ↔ 1 ≤ xs.length ∧ xs.length ≤ 40 ∧ dRun 0 xs = some 1 := by
 unfold codeOk; simp [and_assoc]
theorem codeDepth_bd (xs : List Int) : (codeOk xs = true → 1 ≤ codeDepth xs ∧ codeDepth xs ≤ 40) ∧ (codeOk xs = false → codeDepth xs = -1) := by
 unfold codeDepth
 refine ⟨fun h => ?_, fun h => by rw [h]; rfl⟩
 obtain ⟨h1, h2, h3⟩ := (codeOk_iff xs).1 h
 rw [h, if_pos rfl]
 have a := mRun_last 0 0 xs 1 h3 (by intro e; subst e; simp at h1)
 have b := mRun_le 0 0 xs
 omega
theorem codeOk_long (xs : List Int) (h : ¬ (1 ≤ xs.length ∧ xs.length ≤ 40)) : codeOk xs = false := by unfold codeOk; rw [decide_eq_false h]; simp
theorem codeOk_end (xs : List Int) (d : Nat) (h : dRun 0 xs = some d) (hd : d ≠ 1) : codeOk xs = false := by
 unfold codeOk; rw [h]; simp [hd]
theorem codeOk_good (xs : List Int) (hl : 1 ≤ xs.length ∧ xs.length ≤ 40) (h : dRun 0 xs = some 1) : codeOk xs = true := by
 unfold codeOk; rw [h, decide_eq_true hl]; rfl
/-- of a valid code each beginning has a number of entries, and the next step fits -/
theorem codeOk_at (xs : List Int) (h : codeOk xs = true) (k : Nat) (hk : k ≤ xs.length) : ∃ d, dRun 0 (xs.take k) = some d ∧ d ≤ k ∧ (∀ x, xs[k]? = some x → ∃ d', dStep d x = some d') := by
 obtain ⟨h1, h2, h3⟩ := (codeOk_iff xs).1 h
 have hs : dRun 0 (xs.take k ++ xs.drop k) = some 1 := by rw [List.take_append_drop]; exact h3
 rw [dRun_append] at hs
 cases hd : dRun 0 (xs.take k) with
 | none => rw [hd] at hs; cases hs
 | some d =>
  refine ⟨d, rfl, by have := dRun_le _ _ _ hd; simp at this; omega, fun x hx => ?_⟩
  rw [hd] at hs
  obtain ⟨hlt, he⟩ := List.getElem?_eq_some_iff.1 hx
  rw [List.drop_eq_getElem_cons hlt, he] at hs
  simp only [Option.bind_some, dRun] at hs
  cases hq : dStep d x with
  | none => rw [hq] at hs; cases hs
  | some d' => exact ⟨d', rfl⟩

/-- what a step does to the stack, its top first -/
def evalStep (s : Nat) (st : List Bool) (x : Int) : List Bool :=
 if x = 5 then true :: st
 else if x = 6 then false :: st
 else if x = 7 then (match st with | a :: r => (!a) :: r | [] => [])
 else if x = 8 then (match st with | a :: b :: r => (b && a) :: r | _ => [])
 else if x = 9 then (match st with | a :: b :: r => (b || a) :: r | _ => [])
 else (bit s x.toNat == 1) :: st
def evalRun (s : Nat) (st : List Bool) (xs : List Int) : List Bool := xs.foldl (evalStep s) st
def evalCode (xs : List Int) (s : Nat) : Bool := (evalRun s [] xs).headD false
theorem evalStep_len (s : Nat) (st : List Bool) (x : Int) (d' : Nat) (h : dStep st.length x = some d') : (evalStep s st x).length = d' := by
 unfold dStep at h
 unfold evalStep
 split at h
 ·cases h
 ·rename_i hr
  split at h
  ·cases h
   by_cases h5 : x = 5
   ·rw [if_pos h5]; rfl
   ·by_cases h6 : x = 6
    ·rw [if_neg h5, if_pos h6]; rfl
    ·rw [if_neg h5, if_neg h6, if_neg (by omega), if_neg (by omega), if_neg (by omega)]; rfl
  ·rw [if_neg (by omega), if_neg (by omega)]
   split at h
   ·rename_i h7
    rw [if_pos h7]
    split at h
    ·cases h
     cases st with
     | nil => simp at *
     | cons a r => rfl
    ·cases h
   ·rename_i h7
    rw [if_neg h7]
    split at h
    ·cases h
     rename_i h2
     match st, h2 with
     | a :: b :: r, _ =>
      by_cases h8 : x = 8
      ·rw [if_pos h8]; simp
      ·rw [if_neg h8, if_pos (by omega)]; simp
    ·cases h
theorem evalRun_take (s : Nat) (xs : List Int) (k : Nat) (x : Int) (hx : xs[k]? = some x) : evalRun s [] (xs.take (k + 1)) = evalStep s (evalRun s [] (xs.take k)) x := by
 obtain ⟨hk, he⟩ := List.getElem?_eq_some_iff.1 hx
 rw [List.take_succ_eq_append_getElem hk, he]
 simp [evalRun, List.foldl_append]
end Go.Proofs.YtkmcengmglgdeaaGreatDoor

/- Contracts of the functions that only reckon with numbers: bits of sets, rings, Gray's code. Conditions stand in each theorem (sets from 0 on and below 2^62). -/
namespace Go.Proofs.YtkmcengmglgdeaaGreatDoor
open Go.ChangeShapes Go.WideShapes Go.ChangeAt Go.RowKit

theorem l1In_any (n lo hi : Int) (w : World) :
  Calls Tryz.prog 125 #[.int .i64 n, .int .i64 lo, .int .i64 hi] w fun e w' => e = .returned (.bool (decide (lo ≤ n ∧ n ≤ hi))) ∧ w = w' := by
 go_enter Tryz.func125, Tryz.ntmps125
 go_wp2
 all_goals go_ret
 all_goals refine ⟨ret_bool ?_, rfl⟩
 all_goals simp
 all_goals omega
theorem l1In_yes (n lo hi : Int) (w : World) (h : lo ≤ n) (h' : n ≤ hi) :
  Calls Tryz.prog 125 #[.int .i64 n, .int .i64 lo, .int .i64 hi] w fun e w' => e = .returned (.bool true) ∧ w = w' :=
 (l1In_any n lo hi w).mono fun _ _ ⟨he, hw⟩ => ⟨by rw [he, decide_eq_true ⟨h, h'⟩], hw⟩
theorem l1In_no (n lo hi : Int) (w : World) (h : ¬ (lo ≤ n ∧ n ≤ hi)) :
  Calls Tryz.prog 125 #[.int .i64 n, .int .i64 lo, .int .i64 hi] w fun e w' => e = .returned (.bool false) ∧ w = w' :=
 (l1In_any n lo hi w).mono fun _ _ ⟨he, hw⟩ => ⟨by rw [he, decide_eq_false h], hw⟩

theorem l1Bit_any (a : Int) (k : Nat) (h0 : 0 ≤ a) (hk : k < 64) (w : World) :
  Calls Tryz.prog 126 #[.int .i64 a, .int .i64 k] w fun e w' => e = .returned (.int .i64 (a / 2 ^ k % 2)) ∧ w = w' := by
 have hd : 0 ≤ a / 2 ^ k := Int.ediv_nonneg h0 (Int.le_of_lt (Int.pow_pos (by omega)))
 go_enter Tryz.func126, Tryz.ntmps126
 go_wp2
 all_goals go_ret
 all_goals exact ⟨rfl, rfl⟩

theorem and_two (a b : Nat) : (a &&& b) = 2 * (a / 2 &&& b / 2) + (a % 2) * (b % 2) := by
 have h1 : (a &&& b) / 2 = (a / 2 &&& b / 2) := Nat.and_div_two
 have h2 : (a &&& b) % 2 = (a % 2) * (b % 2) := by
  rw [show (2:Nat) = 2^1 from rfl, Nat.and_mod_two_pow]
  have : a % 2 < 2 := Nat.mod_lt _ (by omega)
  have : b % 2 < 2 := Nat.mod_lt _ (by omega)
  simp only [Nat.pow_one]
  generalize a % 2 = x at *
  generalize b % 2 = y at *
  obtain rfl | rfl : x = 0 ∨ x = 1 := by omega
  all_goals obtain rfl | rfl : y = 0 ∨ y = 1 := by omega
  all_goals rfl
 omega
theorem xor_two (a b : Nat) : (a ^^^ b) = 2 * (a / 2 ^^^ b / 2) + (a + b) % 2 := by
 have h1 : (a ^^^ b) / 2 = (a / 2 ^^^ b / 2) := Nat.xor_div_two
 have h2 : (a ^^^ b) % 2 = (a + b) % 2 := by
  rw [show (2:Nat) = 2^1 from rfl, Nat.xor_mod_two_pow]
  have : a % 2 < 2 := Nat.mod_lt _ (by omega)
  have : b % 2 < 2 := Nat.mod_lt _ (by omega)
  have e : (a + b) % 2 = (a % 2 + b % 2) % 2 := by omega
  simp only [Nat.pow_one]
  rw [e]
  generalize a % 2 = x at *
  generalize b % 2 = y at *
  obtain rfl | rfl : x = 0 ∨ x = 1 := by omega
  all_goals obtain rfl | rfl : y = 0 ∨ y = 1 := by omega
  all_goals rfl
 omega
theorem xor_add_and (a b : Nat) : (a ^^^ b) + 2 * (a &&& b) = a + b := by
 induction a using Nat.strongRecOn generalizing b with
 | ind a ih =>
  by_cases ha : a = 0
  ·subst ha; simp
  ·have := ih (a / 2) (by omega) (b / 2)
   rw [xor_two a b, and_two a b]
   have h1 : a % 2 < 2 := Nat.mod_lt _ (by omega)
   have h2 : b % 2 < 2 := Nat.mod_lt _ (by omega)
   have h3 : a % 2 * (b % 2) + (a % 2 * (b % 2)) + (a + b) % 2 = a % 2 + b % 2 := by
    have e : (a + b) % 2 = (a % 2 + b % 2) % 2 := by omega
    rw [e]
    generalize a % 2 = x at *
    generalize b % 2 = y at *
    obtain rfl | rfl : x = 0 ∨ x = 1 := by omega
    all_goals obtain rfl | rfl : y = 0 ∨ y = 1 := by omega
    all_goals rfl
   omega
theorem or_two (a b : Nat) : (a ||| b) + (a &&& b) = a + b := by
 have h : (a ||| b) = (a ^^^ b) + (a &&& b) := by
  induction a using Nat.strongRecOn generalizing b with
  | ind a ih =>
   by_cases ha : a = 0
   ·subst ha; simp
   ·have := ih (a / 2) (by omega) (b / 2)
    rw [xor_two a b, and_two a b]
    have h1 : (a ||| b) / 2 = (a / 2 ||| b / 2) := Nat.or_div_two
    have h2 : (a ||| b) % 2 = (a + b) % 2 + (a % 2) * (b % 2) := by
     rw [show (2:Nat) = 2^1 from rfl, Nat.or_mod_two_pow]
     simp only [Nat.pow_one]
     have : a % 2 < 2 := Nat.mod_lt _ (by omega)
     have : b % 2 < 2 := Nat.mod_lt _ (by omega)
     have e : (a + b) % 2 = (a % 2 + b % 2) % 2 := by omega
     rw [e]
     generalize a % 2 = x at *
     generalize b % 2 = y at *
     obtain rfl | rfl : x = 0 ∨ x = 1 := by omega
     all_goals obtain rfl | rfl : y = 0 ∨ y = 1 := by omega
     all_goals rfl
    omega
 have := xor_add_and a b
 omega
theorem both_step (a b k : Nat) : (a &&& b) % 2 ^ (k + 1) = (a &&& b) % 2 ^ k + (a / 2 ^ k % 2) * (b / 2 ^ k % 2) * 2 ^ k := by
 have hb : (a / 2 ^ k % 2) * (b / 2 ^ k % 2) = (a &&& b) / 2 ^ k % 2 := by
  have h := Nat.testBit_and a b k
  simp only [Nat.testBit_eq_decide_div_mod_eq] at h
  have h1 : a / 2 ^ k % 2 < 2 := Nat.mod_lt _ (by omega)
  have h2 : b / 2 ^ k % 2 < 2 := Nat.mod_lt _ (by omega)
  have h3 : (a &&& b) / 2 ^ k % 2 < 2 := Nat.mod_lt _ (by omega)
  generalize a / 2 ^ k % 2 = x at *
  generalize b / 2 ^ k % 2 = y at *
  generalize (a &&& b) / 2 ^ k % 2 = z at *
  obtain rfl | rfl : x = 0 ∨ x = 1 := by omega
  all_goals obtain rfl | rfl : y = 0 ∨ y = 1 := by omega
  all_goals obtain rfl | rfl : z = 0 ∨ z = 1 := by omega
  all_goals simp_all
 rw [hb, Nat.pow_succ, Nat.mod_mul, Nat.mul_comm (2 ^ k)]
theorem xor32 (a b : Nat) (ha : a < 32) (hb : b < 32) : a ^^^ b < 32 := Nat.xor_lt_two_pow (n := 5) ha hb
def lowAnd (a b k : Nat) : Nat := (a &&& b) % 2 ^ k
theorem bit_lt (a k : Nat) : bit a k < 2 := Nat.mod_lt _ (by omega)
theorem pow_le_int (k m : Nat) (h : k ≤ m) : (2 : Int) ^ k ≤ 2 ^ m := by
 have h1 : 2 ^ k ≤ 2 ^ m := Nat.pow_le_pow_right (by omega) h
 exact_mod_cast h1
theorem and_one (m k : Nat) (hm : m < 4611686018427387904) : bits BinOp.and IntKind.i64 ((m : Int) / 2 ^ k) 1 = (bit m k : Nat) := by
 have e : ((m : Int) / 2 ^ k) = ((m / 2 ^ k : Nat) : Int) := by simp
 have hle : m / 2 ^ k ≤ m := Nat.div_le_self _ _
 rw [e, show (1 : Int) = ((1 : Nat) : Int) from rfl, i64_and_nat _ _ (by omega) (by omega), Nat.and_one_is_mod]
 rfl

theorem wrap_pow (k : Nat) (h : k ≤ 62) : wrap64 (2 ^ k) = 2 ^ k := by
 have h1 := pow_le_int k 62 h
 have h3 : (0 : Int) < 2 ^ k := Int.pow_pos (by omega)
 exact IntWalk.wrap64_in _ ⟨by omega, by omega⟩
theorem l1Bit_nat (a k : Nat) (hk : k < 64) (w : World) :
  Calls Tryz.prog 126 #[.int .i64 a, .int .i64 k] w fun e w' => e = .returned (.int .i64 (bit a k : Nat)) ∧ w = w' :=
 (l1Bit_any a k (by omega) hk w).mono fun _ _ ⟨he, hw⟩ => ⟨by rw [he]; unfold bit; simp, hw⟩
theorem lowAnd_lt (a b k : Nat) : lowAnd a b k < 2 ^ k := Nat.mod_lt _ (Nat.pow_pos (by omega))
theorem both_val (a b k : Nat) (hk : k < 62) (_ha : a < 4611686018427387904) (_h : (2 : Int) ^ k ≤ a) :
  wrap64 ((lowAnd a b k : Nat) + wrap64 (wrap64 ((bit a k : Nat) * (bit b k : Nat)) * 2 ^ k)) = ((lowAnd a b k + bit a k * bit b k * 2 ^ k : Nat) : Int) := by
 have h3 : (0 : Int) < 2 ^ k := Int.pow_pos (by omega)
 have h1 := pow_le_int k 61 (by omega)
 have hl : ((lowAnd a b k : Nat) : Int) < 2 ^ k := by exact_mod_cast lowAnd_lt a b k
 have ha := bit_lt a k
 have hb := bit_lt b k
 generalize bit a k = x at *
 generalize bit b k = y at *
 have ex : ((x : Int) * (y : Int)) = ((x * y : Nat) : Int) := by simp
 have hxy : x * y ≤ 1 := by
  obtain rfl | rfl : x = 0 ∨ x = 1 := by omega
  all_goals omega
 rw [ex]
 generalize x * y = z at *
 rw [IntWalk.wrap64_in (z : Int) ⟨by omega, by omega⟩]
 obtain rfl | rfl : z = 0 ∨ z = 1 := by omega
 ·simp only [Int.natCast_zero, Int.zero_mul, Nat.zero_mul, Nat.add_zero]
  rw [IntWalk.wrap64_in 0 ⟨by omega, by omega⟩, Int.add_zero]
  exact IntWalk.wrap64_in _ ⟨by omega, by omega⟩
 ·simp only [Int.natCast_one, Int.one_mul, Nat.one_mul]
  rw [IntWalk.wrap64_in (2 ^ k) ⟨by omega, by omega⟩]
  rw [IntWalk.wrap64_in _ ⟨by omega, by omega⟩]
  simp
theorem l1Both_nat (a b : Nat) (ha : a < 4611686018427387904) (w : World) :
  Calls Tryz.prog 157 #[.int .i64 a, .int .i64 b] w fun e w' => e = .returned (.int .i64 ((a &&& b : Nat) : Int)) ∧ w = w' := by
 have HB : Hid (∀ k, (a : Int) < 2 ^ k ∨ (b : Int) < 2 ^ k → lowAnd a b k = a &&& b) := by
  refine Lib.hid fun k hk => ?_
  unfold lowAnd
  apply Nat.mod_eq_of_lt
  have e : ((2 ^ k : Nat) : Int) = 2 ^ k := by simp
  rw [← e] at hk
  have h1 : a &&& b ≤ a := Nat.and_le_left
  have h2 : a &&& b ≤ b := Nat.and_le_right
  omega
 go_enter Tryz.func157, Tryz.ntmps157
 go_wp2
 go_loop [5, 6] (fun o i => ∃ k : Nat, k ≤ 62 ∧ i = .int .i64 k ∧ o = .int .i64 (lowAnd a b k : Nat)) (fun _ i => 62 - (intOf i).toNat)
 case atStart => exact ⟨0, by omega, rfl, by simp [lowAnd, Nat.mod_one]⟩
 case round =>
  obtain ⟨k, hk, rfl, rfl⟩ := hrel
  have hw := wrap_pow k hk
  have hstep : lowAnd a b (k + 1) = lowAnd a b k + bit a k * bit b k * 2 ^ k := both_step a b k
  have H1 := Lib.hid hstep; clear hstep
  have hlt : (2 : Int) ^ k ≤ a → k < 62 := fun h => by
   rcases Nat.lt_or_ge k 62 with h1 | h1
   ·exact h1
   ·have h1 := pow_le_int 62 k h1
    omega
  have H2 := Lib.hid hlt; clear hlt
  go_wp2_with (go_at_call 126; refine (l1Bit_nat _ _ (by omega) _).mono ?_; rintro e w' ⟨rfl, rfl⟩)
  ·have h1 : (2 : Int) ^ k ≤ a := by assumption
   have hk2 := H2.out h1
   go_round
   case rel => exact ⟨k + 1, by omega, by go_num, by rw [H1.out, both_val a b k hk2 ha h1]⟩
   case measure => simp [intOf]; omega
  all_goals
   go_ret
   refine ⟨ret_int ?_, rfl⟩
   show ((lowAnd a b k : Nat) : Int) = _
   rw [HB.out k (by first | exact .inl (by assumption) | exact .inr (by assumption))]

theorem l1Both_any (a b : Int) (h0 : 0 ≤ a) (ha : a < 4611686018427387904) (h1 : 0 ≤ b) (w : World) :
  Calls Tryz.prog 157 #[.int .i64 a, .int .i64 b] w fun e w' => e = .returned (.int .i64 ((a.toNat &&& b.toNat : Nat) : Int)) ∧ w = w' := by
 have h := l1Both_nat a.toNat b.toNat (by omega) w
 rwa [toNat_cast h0, toNat_cast h1] at h
theorem l1Other_any (a b : Int) (h0 : 0 ≤ a) (ha : a < 4611686018427387904) (h1 : 0 ≤ b) (hb : b < 4611686018427387904) (w : World) :
  Calls Tryz.prog 103 #[.int .i64 a, .int .i64 b] w fun e w' => e = .returned (.int .i64 ((a.toNat ^^^ b.toNat : Nat) : Int)) ∧ w = w' := by
 have hx := xor_add_and a.toNat b.toNat
 generalize hy : a.toNat &&& b.toNat = y at *
 have HY := Lib.hid hy; clear hy
 generalize hz : a.toNat ^^^ b.toNat = z at *
 have HX : Hid (a + b - 2 * y = z) := by refine Lib.hid ?_; clear hz; omega
 clear hz
 have hy1 : (y : Int) ≤ a := by have := HY.out; have h2 := @Nat.and_le_left a.toNat b.toNat; omega
 clear hx
 go_enter Tryz.func103, Tryz.ntmps103
 go_wp2_with (go_at_call 157; refine (l1Both_any a b h0 ha h1 _).mono ?_; rw [HY.out]; rintro e w' ⟨rfl, rfl⟩)
 go_ret
 exact ⟨ret_int HX.out, rfl⟩
theorem l1Either_any (a b : Int) (h0 : 0 ≤ a) (ha : a < 4611686018427387904) (h1 : 0 ≤ b) (hb : b < 4611686018427387904) (w : World) :
  Calls Tryz.prog 159 #[.int .i64 a, .int .i64 b] w fun e w' => e = .returned (.int .i64 ((a.toNat ||| b.toNat : Nat) : Int)) ∧ w = w' := by
 have hx := or_two a.toNat b.toNat
 generalize hy : a.toNat &&& b.toNat = y at *
 have HY := Lib.hid hy; clear hy
 generalize hz : a.toNat ||| b.toNat = z at *
 have HX : Hid (a + b - y = z) := by refine Lib.hid ?_; clear hz; omega
 clear hz
 have hy1 : (y : Int) ≤ a := by have := HY.out; have h2 := @Nat.and_le_left a.toNat b.toNat; omega
 clear hx
 go_enter Tryz.func159, Tryz.ntmps159
 go_wp2_with (go_at_call 157; refine (l1Both_any a b h0 ha h1 _).mono ?_; rw [HY.out]; rintro e w' ⟨rfl, rfl⟩)
 go_ret
 exact ⟨ret_int HX.out, rfl⟩
end Go.Proofs.YtkmcengmglgdeaaGreatDoor

/- The laws' helpers on slices of numbers: toIntS, eqIntS. Condition: at most 2^40 numbers. -/
namespace Go.Proofs.YtkmcengmglgdeaaGreatDoor
open Go.ChangeShapes Go.WideShapes Go.ChangeAt Go.RowKit

def fillI (xs : List Int) (k : Nat) : Array Value := (ints (xs.take k ++ List.replicate (xs.length - k) 0)).toArray
theorem fillI_at (xs : List Int) (k : Nat) (hk : k < xs.length) : (fillI xs k)[k]? = some (.int .i64 0) := by
 unfold fillI ints
 simp only [List.getElem?_toArray, List.getElem?_map, Option.map_eq_some_iff]
 refine ⟨0, ?_, rfl⟩
 rw [List.getElem?_append_right (by simp only [List.length_take]; omega)]
 simp only [List.length_take, List.getElem?_replicate]
 rw [if_pos (by omega)]
theorem fillI_step (xs : List Int) (k : Nat) (x : Int) (hx : xs[k]? = some x) : (fillI xs k).setIfInBounds k (.int .i64 x) = fillI xs (k + 1) := by
 have hk : k < xs.length := (List.getElem?_eq_some_iff.1 hx).1
 apply Array.ext'
 unfold fillI ints
 simp only [Array.toList_setIfInBounds]
 apply List.ext_getElem?
 intro i
 rw [List.getElem?_set]
 simp only [List.getElem?_map, List.length_map, List.length_append, List.length_take, List.length_replicate]
 have e1 : min k xs.length = k := by omega
 have e2 : min (k + 1) xs.length = k + 1 := by omega
 rcases Nat.lt_trichotomy k i with h | h | h
 ·rw [if_neg (by omega), List.getElem?_append_right (by simp; omega), List.getElem?_append_right (by simp; omega)]
  simp only [List.length_take, List.getElem?_replicate, e1, e2]
  by_cases h2 : i < xs.length
  ·rw [if_pos (by omega), if_pos (by omega)]
  ·rw [if_neg (by omega), if_neg (by omega)]
 ·subst h
  rw [if_pos rfl, if_pos (by omega), List.getElem?_append_left (by simp; omega), List.getElem?_take, if_pos (by omega), hx]; rfl
 ·rw [if_neg (by omega), List.getElem?_append_left (by simp; omega), List.getElem?_append_left (by simp; omega), List.getElem?_take, List.getElem?_take, if_pos (by omega), if_pos (by omega)]
theorem fillI_done (xs : List Int) : (fillI xs xs.length).toList = ints xs := by simp [fillI]
end Go.Proofs.YtkmcengmglgdeaaGreatDoor

/- GrayOf, GrayPlace and RingsMay, of the program and of the reference: each returns one plain function, for every argument. -/
namespace Go.Proofs.YtkmcengmglgdeaaGreatDoor
open Go.ChangeShapes Go.WideShapes Go.ChangeAt Go.RowKit

def grayOf (n : Int) : Int := if 0 ≤ n ∧ n < 32 then ((n.toNat ^^^ (n.toNat / 2) : Nat) : Int) else -1
/-- the place of a state: the states from it on, halved again and again, added where twice is nothing -/
def xorDown : Nat → Nat → Nat
 | 0, _ => 0
 | f + 1, s => s ^^^ xorDown f (s / 2)
def grayPlace (s : Int) : Int := if 0 ≤ s ∧ s < 32 then ((xorDown 5 s.toNat : Nat) : Int) else -1
/-- the value after k rounds of the program's loop -/
def half (m k : Nat) : Nat := m / 2 ^ k
end Go.Proofs.YtkmcengmglgdeaaGreatDoor

/- RingsMay of the program and of the reference: each returns one plain function, for every argument. -/
namespace Go.Proofs.YtkmcengmglgdeaaGreatDoor
open Go.ChangeShapes Go.WideShapes Go.ChangeAt Go.RowKit

def ringsIn (r s : Int) : Bool := decide (1 ≤ r ∧ r ≤ 5 ∧ 0 ≤ s ∧ s < 2 ^ r.toNat)
def ringsMay (r s k : Int) : Bool := ringsIn r s && decide (0 ≤ k ∧ k < r ∧ (k = 0 ∨ s % 2 ^ k.toNat = 2 ^ (k.toNat - 1)))

theorem ringsIn_bd (r s : Int) (h : ringsIn r s = true) : 1 ≤ r ∧ r ≤ 5 ∧ 0 ≤ s ∧ s < 32 := by
 unfold ringsIn at h
 have h := of_decide_eq_true h
 have h1 := pow_le_int r.toNat 5 (by omega)
 omega
end Go.Proofs.YtkmcengmglgdeaaGreatDoor
