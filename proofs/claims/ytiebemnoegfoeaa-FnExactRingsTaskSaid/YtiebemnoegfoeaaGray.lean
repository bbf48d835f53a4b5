/- GrayOf, GrayPlace and RingsMay, of the program and of the reference: each returns one plain function, for every argument. -/
import Derived.Test.YtiebemnoegfoeaaNum
namespace Go.Proofs.Ytiebemnoegfoeaa
open Go.ChangeShapes Go.WideShapes Go.ChangeAt Go.RowKit

def grayOf (n : Int) : Int := if 0 ≤ n ∧ n < 32 then ((n.toNat ^^^ (n.toNat / 2) : Nat) : Int) else -1
theorem grayOf_eq (n : Int) (h0 : 0 ≤ n) (h1 : n < 32) : bits .xor .i64 n (n / 2) = grayOf n := by
  unfold grayOf
  rw [if_pos ⟨h0, h1⟩]
  obtain ⟨m, rfl⟩ := Int.eq_ofNat_of_zero_le h0
  have : ((m : Int) / 2) = ((m / 2 : Nat) : Int) := by omega
  rw [this, i64_xor_nat _ _ (by omega) (by omega)]
  simp
theorem grayOf_no {n : Int} (h : ¬ (0 ≤ n ∧ n < 32)) : grayOf n = -1 := by unfold grayOf; rw [if_neg h]
theorem grayOf_impl (n : Int) (w : World) :
    Calls Try.prog 17 #[.int .i64 n] w fun e w' => e = .returned (.int .i64 (grayOf n)) ∧ w = w' := by
  by_cases h : 0 ≤ n ∧ n < 32
  · have hh := grayOf_eq n h.1 h.2
    obtain ⟨h0, h1⟩ := h
    have H := Lib.hid hh; clear hh
    go_enter Try.func17, Try.ntmps17
    go_wp2
    all_goals go_ret
    all_goals refine ⟨ret_int H.out, rfl⟩
  · have H := Lib.hid (grayOf_no h)
    go_enter Try.func17, Try.ntmps17
    go_wp2
    all_goals go_ret
    all_goals refine ⟨ret_int ?_, rfl⟩
    all_goals exact H.out.symm
theorem grayOf_spec (n : Int) (w : World) :
    Calls Try.prog 16 #[.int .i64 n] w fun e w' => e = .returned (.int .i64 (grayOf n)) ∧ w = w' := by
  by_cases h : 0 ≤ n ∧ n < 32
  · have hh : ((n.toNat ^^^ (n / 2).toNat : Nat) : Int) = grayOf n := by
      unfold grayOf; rw [if_pos h]
      rw [show (n / 2).toNat = n.toNat / 2 from by omega]
    obtain ⟨h0, h1⟩ := h
    have H := Lib.hid hh; clear hh
    go_enter Try.func16, Try.ntmps16
    go_wp2_with (first
      | (go_at_call 44; refine (l1In_yes n 0 31 _ h0 (by omega)).mono ?_; rintro e w' ⟨rfl, rfl⟩)
      | (go_at_call 46; refine (l1Other_any n (n / 2) h0 (by omega) (by omega) (by omega) _).mono ?_; rw [H.out]; rintro e w' ⟨rfl, rfl⟩))
    all_goals go_ret
    all_goals refine ⟨rfl, rfl⟩
  · have H := Lib.hid (grayOf_no h)
    go_enter Try.func16, Try.ntmps16
    go_wp2_with (go_at_call 44; refine (l1In_no n 0 31 _ (by omega)).mono ?_; rintro e w' ⟨rfl, rfl⟩)
    all_goals go_ret
    all_goals refine ⟨ret_int ?_, rfl⟩
    all_goals exact H.out.symm

/-- the place of a state: the states from it on, halved again and again, added where twice is nothing -/
def xorDown : Nat → Nat → Nat
  | 0, _ => 0
  | f + 1, s => s ^^^ xorDown f (s / 2)
def grayPlace (s : Int) : Int := if 0 ≤ s ∧ s < 32 then ((xorDown 5 s.toNat : Nat) : Int) else -1
theorem grayPlace_no {n : Int} (h : ¬ (0 ≤ n ∧ n < 32)) : grayPlace n = -1 := by unfold grayPlace; rw [if_neg h]
theorem grayPlace_yes (m : Nat) (h : m < 32) : grayPlace m = (xorDown 5 m : Nat) := by unfold grayPlace; rw [if_pos ⟨by omega, by omega⟩]; simp

theorem place_gray : ∀ m : Fin 32, xorDown 5 (m.val ^^^ (m.val / 2)) = m.val := by decide
theorem gray_place : ∀ m : Fin 32, (xorDown 5 m.val ^^^ (xorDown 5 m.val / 2)) = m.val := by decide
theorem place_lt : ∀ m : Fin 32, xorDown 5 m.val < 32 := by decide
theorem gray_lt : ∀ m : Fin 32, (m.val ^^^ (m.val / 2)) < 32 := by decide
theorem place_loop : ∀ m : Fin 32, ∀ k : Fin 6, xorDown k.val m.val < 32 ∧ (0 < m.val / 2 ^ k.val → k.val < 5 ∧ xorDown (k.val + 1) m.val = (xorDown k.val m.val ^^^ (m.val / 2 ^ k.val))) ∧ (m.val / 2 ^ k.val = 0 → xorDown k.val m.val = xorDown 5 m.val) := by decide

/-- the value after k rounds of the program's loop -/
def half (m k : Nat) : Nat := m / 2 ^ k
theorem place_loop' (m k : Nat) (hm : m < 32) (hk : k ≤ 5) : xorDown k m < 32 ∧ (0 < half m k → k < 5 ∧ xorDown (k + 1) m = (xorDown k m ^^^ half m k)) ∧ (half m k = 0 → xorDown k m = xorDown 5 m) :=
  place_loop ⟨m, hm⟩ ⟨k, by omega⟩
theorem half_next (m k : Nat) : half m k / 2 = half m (k + 1) := by unfold half; rw [Nat.div_div_eq_div_mul, Nat.pow_succ]

theorem grayPlace_impl (n : Int) (w : World) :
    Calls Try.prog 19 #[.int .i64 n] w fun e w' => e = .returned (.int .i64 (grayPlace n)) ∧ w = w' := by
  by_cases h : 0 ≤ n ∧ n < 32
  · obtain ⟨h0, h1⟩ := h
    obtain ⟨m, rfl⟩ := Int.eq_ofNat_of_zero_le h0
    have hm : m < 32 := by omega
    have HG := Lib.hid (grayPlace_yes m hm)
    go_enter Try.func19, Try.ntmps19
    go_wp2
    go_loop [0, 3] (fun s p => ∃ k : Nat, k ≤ 5 ∧ s = .int .i64 (half m k : Nat) ∧ p = .int .i64 (xorDown k m : Nat)) (fun s _ => (intOf s).toNat)
    case atStart => exact ⟨0, by omega, by simp [half], by simp [xorDown]⟩
    case round =>
      obtain ⟨k, hk, rfl, rfl⟩ := hrel
      have hp := place_loop' m k hm hk
      obtain ⟨p1, p2, p3⟩ := hp
      have hlt : half m k < 32 := by unfold half; exact Nat.lt_of_le_of_lt (Nat.div_le_self _ _) hm
      have P2 := Lib.hid p2; clear p2
      have P3 := Lib.hid p3; clear p3
      have HX := Lib.hid (i64_xor_nat (xorDown k m) (half m k) (by omega) (by omega))
      have HN := Lib.hid (half_next m k)
      go_wp2
      · have hs : 0 < half m k := by omega
        obtain ⟨q1, q2⟩ := P2.out hs
        go_round
        case rel =>
          refine ⟨k + 1, by omega, ?_, ?_⟩
          · rw [← HN.out]; go_num
          · have q2' : xorDown (k + 1) m = (xorDown k m ^^^ half m k) := q2
            rw [HX.out, q2']
        case measure => simp [intOf]; omega
      · have hs : half m k = 0 := by omega
        go_ret
        refine ⟨ret_int ?_, rfl⟩
        rw [HG.out, ← P3.out hs]
  · have H := Lib.hid (grayPlace_no h)
    go_enter Try.func19, Try.ntmps19
    go_wp2
    all_goals first | (exfalso; omega) | go_ret
    all_goals refine ⟨ret_int ?_, rfl⟩
    all_goals exact H.out.symm

theorem grayOf_nat (m : Nat) (h : m < 32) : grayOf m = ((m ^^^ (m / 2) : Nat) : Int) := by unfold grayOf; rw [if_pos ⟨by omega, by omega⟩]; simp
theorem grayOf_place (s : Int) (h : 0 ≤ s ∧ s < 32) (p : Nat) (hp : p < 32) : grayOf p = s ↔ (p : Int) = grayPlace s := by
  obtain ⟨h0, h1⟩ := h
  obtain ⟨m, rfl⟩ := Int.eq_ofNat_of_zero_le h0
  have hm : m < 32 := by omega
  rw [grayOf_nat p hp, grayPlace_yes m hm]
  have a := place_gray ⟨p, hp⟩
  have b := gray_place ⟨m, hm⟩
  simp only at a b
  constructor
  · intro e
    have e' : (p ^^^ (p / 2)) = m := by exact_mod_cast e
    rw [← e', a]
  · intro e
    have e' : p = xorDown 5 m := by exact_mod_cast e
    rw [e', b]
theorem grayPlace_bd (s : Int) : grayPlace s < 32 ∧ -1 ≤ grayPlace s ∧ (0 ≤ s → s < 32 → 0 ≤ grayPlace s) := by
  by_cases h : 0 ≤ s ∧ s < 32
  · obtain ⟨h0, h1⟩ := h
    obtain ⟨m, rfl⟩ := Int.eq_ofNat_of_zero_le h0
    rw [grayPlace_yes m (by omega)]
    have := place_lt ⟨m, by omega⟩
    simp only at this
    omega
  · rw [grayPlace_no h]; omega

theorem grayPlace_spec (n : Int) (w : World) :
    Calls Try.prog 18 #[.int .i64 n] w fun e w' => e = .returned (.int .i64 (grayPlace n)) ∧ w = w' := by
  have hb := grayPlace_bd n
  obtain ⟨b1, b2, b3⟩ := hb
  have B3 := Lib.hid b3; clear b3
  have HE : Hid (∀ k : Nat, k < 32 → (grayOf k = n ↔ (k : Int) = grayPlace n)) := by
    refine Lib.hid fun k hk => ?_
    by_cases h : 0 ≤ n ∧ n < 32
    · exact grayOf_place n h k hk
    · rw [grayPlace_no h, grayOf_nat k hk]
      have := gray_lt ⟨k, hk⟩
      simp only at this
      constructor <;> intro e <;> exfalso <;> omega
  have HN : Hid (¬ (0 ≤ n ∧ n < 32) → grayPlace n = -1) := Lib.hid grayPlace_no
  generalize hg : grayPlace n = g at *
  clear hg
  go_enter Try.func18, Try.ntmps18
  go_wp2
  go_loop [3] (fun i => ∃ k : Nat, k ≤ 32 ∧ i = .int .i64 k ∧ (0 ≤ g → (k : Int) ≤ g)) (fun i => 32 - (intOf i).toNat)
  case atStart => exact ⟨0, by omega, rfl, fun h => h⟩
  case round =>
    obtain ⟨k, hk, rfl, hkg⟩ := hrel
    have HK := Lib.hid hkg; clear hkg
    by_cases hlt : k < 32
    · have he := HE.out k hlt
      by_cases hq : grayOf k = n
      · have hr := he.1 hq
        have hq' : (grayOf k == n) = true := by simpa using hq
        have HR := Lib.hid hr
        clear he hr hq
        go_wp2_with (go_at_call 16; refine (grayOf_spec _ _).mono ?_; rintro e w' ⟨rfl, rfl⟩)
        go_ret
        exact ⟨ret_int HR.out, rfl⟩
      · have hr : ¬ (k : Int) = g := fun h => hq (he.2 h)
        have hq' : (grayOf k == n) = false := by simpa using hq
        have HR := Lib.hid hr
        clear he hr hq
        go_wp2_with (go_at_call 16; refine (grayOf_spec _ _).mono ?_; rintro e w' ⟨rfl, rfl⟩)
        go_round
        case rel => exact ⟨k + 1, by omega, by go_num, fun h => by have := HK.out h; have := HR.out; omega⟩
        case measure => simp [intOf]; omega
    · have hg : g = -1 := by
        apply HN.out
        intro h
        have h1 := B3.out h.1 h.2
        have h2 := HK.out h1
        omega
      have HG := Lib.hid hg; clear hg
      go_wp2
      go_ret
      exact ⟨ret_int HG.out.symm, rfl⟩
end Go.Proofs.Ytiebemnoegfoeaa
