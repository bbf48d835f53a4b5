/- The walks of the laws FnGrayOf, FnGrayPlace, FnRingsMay: each returns true for every drawn code. No condition. -/
import Derived.Test.YtiebemnoegfoeaaBits
namespace Go.Proofs.Ytiebemnoegfoeaa
open Go.ChangeShapes Go.WideShapes Go.ChangeAt Go.RowKit

theorem gray_next : ∀ p : Fin 31, bitSum ((p.val ^^^ (p.val / 2)) ^^^ ((p.val + 1) ^^^ ((p.val + 1) / 2))) 40 = 1 := by decide
theorem grayOf_lt (p : Nat) (h : p < 32) : 0 ≤ grayOf p ∧ grayOf p < 32 := by
  rw [grayOf_nat p h]; have := gray_lt ⟨p, h⟩; simp only at this; omega
theorem grayPlace_grayOf (p : Nat) (h : p < 32) : grayPlace (grayOf p) = p := by
  have h1 := grayOf_lt p h
  exact ((grayOf_place (grayOf p) h1 p h).1 rfl).symm
theorem gray_differ (p : Nat) (h : p < 31) : bitSum ((grayOf p).toNat ^^^ (grayOf ((p : Int) + 1)).toNat) 40 = 1 := by
  have e : ((p : Int) + 1) = ((p + 1 : Nat) : Int) := by omega
  rw [e, grayOf_nat p (by omega), grayOf_nat (p + 1) (by omega)]
  have := gray_next ⟨p, h⟩
  simpa using this

theorem FnGrayOf_walk (A : Option Addr) (n c : Nat) (xs : List Int) (w : World) (h : RdI .u8 w w.heap.size A n c xs) :
    Calls Try.prog 11 #[.slice A n c] w fun e w' => e = .returned (.bool true) ∧ Below w.heap.size w w' := by
  have hcap := h.cap
  have hmax := h.capMax
  unfold maxLen at hmax
  by_cases hn : n ≤ 1048576
  · go_enter Try.func11, Try.ntmps11
    go_wp2_with fail
    refine (drawGrayOf A n c xs _ h).mono ?_
    rintro e w1 ⟨⟨x, rfl, hx0, hx1⟩, hb⟩
    by_cases hx : 0 ≤ x ∧ x < 32
    · obtain ⟨hxl, hxu⟩ := hx
      obtain ⟨p, rfl⟩ := Int.eq_ofNat_of_zero_le hxl
      have hg := grayOf_lt p (by omega)
      obtain ⟨hg0, hg1⟩ := hg
      have HP := Lib.hid (grayPlace_grayOf p (by omega))
      by_cases h31 : p = 31
      · subst h31
        have e31 : ((31 : Nat) : Int) = 31 := rfl
        have hnx : grayOf 32 = -1 := rfl
        go_wp2_with fail
        refine (grayOf_impl _ _).mono ?_
        rintro e w' ⟨rfl, rfl⟩
        go_wp2_with fail
        refine (grayOf_spec _ _).mono ?_
        rintro e w' ⟨rfl, rfl⟩
        go_wp2_with fail
        refine (grayOf_impl _ _).mono ?_
        rintro e w' ⟨rfl, rfl⟩
        go_wp2_with fail
        refine (grayPlace_impl _ _).mono ?_
        rintro e w' ⟨rfl, rfl⟩
        have hp : grayPlace (grayOf 31) = 31 := HP.out
        rw [hp]
        go_wp2
        go_ret
        exact ⟨rfl, hb⟩
      · have hp31 : p < 31 := by omega
        have HD := Lib.hid (gray_differ p hp31)
        have hg' := grayOf_lt (p + 1) (by omega)
        have hs : ((p + 1 : Nat) : Int) = (p : Int) + 1 := by omega
        rw [hs] at hg'
        obtain ⟨hg2, hg3⟩ := hg'
        clear h31 hs
        go_wp2_with fail
        refine (grayOf_impl _ _).mono ?_
        rintro e w' ⟨rfl, rfl⟩
        go_wp2_with fail
        refine (grayOf_spec _ _).mono ?_
        rintro e w' ⟨rfl, rfl⟩
        go_wp2_with fail
        refine (grayOf_impl _ _).mono ?_
        rintro e w' ⟨rfl, rfl⟩
        go_wp2_with fail
        refine (grayPlace_impl _ _).mono ?_
        rintro e w' ⟨rfl, rfl⟩
        rw [HP.out]
        go_wp2_with fail
        refine (lawOther_any _ _ hg0 (by omega) hg2 (by omega) _).mono ?_
        rintro e w' ⟨rfl, rfl⟩
        go_wp2_with fail
        refine (lawBits_any _ (Int.natCast_nonneg _) _).mono ?_
        rintro e w' ⟨rfl, rfl⟩
        rw [Int.toNat_natCast, HD.out]
        go_wp2
        go_ret
        exact ⟨rfl, hb⟩
    · have hno := grayOf_no hx
      have hx' := hx
      clear hx
      go_wp2_with fail
      refine (grayOf_impl _ _).mono ?_
      rintro e w' ⟨rfl, rfl⟩
      go_wp2_with fail
      refine (grayOf_spec _ _).mono ?_
      rintro e w' ⟨rfl, rfl⟩
      go_wp2_with fail
      refine (alive_any _).mono ?_
      rintro e w' ⟨rfl, hb2⟩
      go_wp2
      go_ret
      exact ⟨rfl, hb.trans (hb2.mono hb.size)⟩
  · go_enter Try.func11, Try.ntmps11
    go_wp2
    go_ret
    exact ⟨rfl, Below.refl _ _⟩
theorem place_flip : ∀ m : Fin 32, ∀ k : Fin 5, (m.val ^^^ 2 ^ k.val) < 32 ∧ (xorDown 5 (m.val ^^^ 2 ^ k.val) + xorDown 5 m.val) % 2 = 1 := by decide
theorem grayPlace_flip (m k : Nat) (hm : m < 32) (hk : k < 5) : (grayPlace ((m ^^^ 2 ^ k : Nat) : Int) + grayPlace m) % 2 = 1 ∧ 0 ≤ grayPlace ((m ^^^ 2 ^ k : Nat) : Int) ∧ grayPlace ((m ^^^ 2 ^ k : Nat) : Int) < 32 := by
  have h := place_flip ⟨m, hm⟩ ⟨k, hk⟩
  simp only at h
  have h2 := (grayPlace_bd ((m ^^^ 2 ^ k : Nat) : Int))
  rw [grayPlace_yes _ h.1, grayPlace_yes m hm] at *
  omega
theorem FnGrayPlace_walk (A : Option Addr) (n c : Nat) (xs : List Int) (w : World) (h : RdI .u8 w w.heap.size A n c xs) :
    Calls Try.prog 10 #[.slice A n c] w fun e w' => e = .returned (.bool true) ∧ Below w.heap.size w w' := by
  have hcap := h.cap
  have hmax := h.capMax
  unfold maxLen at hmax
  by_cases hn : n ≤ 1048576
  · go_enter Try.func10, Try.ntmps10
    go_wp2_with fail
    refine (drawGrayPlace A n c xs _ h).mono ?_
    rintro e w1 ⟨⟨x, rfl, hx0, hx1⟩, hb⟩
    by_cases hx : 0 ≤ x ∧ x < 32
    · obtain ⟨hxl, hxu⟩ := hx
      obtain ⟨m, rfl⟩ := Int.eq_ofNat_of_zero_le hxl
      have hm : m < 32 := by omega
      have hg := grayPlace_bd (m : Int)
      obtain ⟨hg0, -, hg1⟩ := hg
      have hg1' := hg1 hxl hxu
      obtain ⟨q, hq⟩ := Int.eq_ofNat_of_zero_le hg1'
      have HG : Hid (grayOf (grayPlace m) = m) := Lib.hid (by rw [hq]; exact (grayOf_place m ⟨hxl, hxu⟩ q (by omega)).2 hq.symm)
      clear hg1 hq
      go_wp2_with fail
      refine (grayPlace_impl _ _).mono ?_
      rintro e w' ⟨rfl, rfl⟩
      go_wp2_with fail
      refine (grayPlace_spec _ _).mono ?_
      rintro e w' ⟨rfl, rfl⟩
      go_wp2_with fail
      go_loop [5] (fun i => ∃ k : Nat, k ≤ 5 ∧ i = .int .i64 k) (fun i => 5 - (intOf i).toNat)
      case atStart => exact ⟨0, by omega, rfl⟩
      case round =>
        obtain ⟨k, hk, rfl⟩ := hrel
        by_cases hlt : k < 5
        · have hw := wrap_pow k (by omega)
          have hpw := pow_le_int k 5 (by omega)
          have hpp : 0 < (2 : Int) ^ k := Int.pow_pos (by omega)
          have hf := grayPlace_flip m k hm hlt
          have ht : ((2 : Int) ^ k).toNat = 2 ^ k := by
            have : ((2 : Int) ^ k) = ((2 ^ k : Nat) : Int) := by simp
            rw [this, Int.toNat_natCast]
          have HT := Lib.hid ht
          clear ht
          obtain ⟨hf1, hf2, hf3⟩ := hf
          generalize hz : m ^^^ 2 ^ k = z at *
          have HZ := Lib.hid hz
          clear hz
          go_wp2_with fail
          refine (lawOther_any _ _ hxl (by omega) (by omega) (by omega) _).mono ?_
          rintro e w' ⟨rfl, rfl⟩
          rw [HT.out, Int.toNat_natCast, HZ.out]
          go_wp2_with fail
          refine (grayPlace_impl _ _).mono ?_
          rintro e w' ⟨rfl, rfl⟩
          have hne : ((grayPlace (z : Int) + grayPlace (m : Int)) % 2 != 1) = false := by rw [hf1]; rfl
          clear hf1
          go_wp2
          go_round
          case rel => exact ⟨k + 1, by omega, by go_num⟩
          case measure => simp [intOf]; omega
        · go_wp2_with fail
          refine (grayOf_impl _ _).mono ?_
          rintro e w' ⟨rfl, rfl⟩
          rw [HG.out]
          go_wp2
          go_ret
          exact ⟨rfl, hb⟩
    · have hno := grayPlace_no hx
      have hx' : x < 0 ∨ 31 < x := by omega
      clear hx
      rcases hx' with hx' | hx'
      all_goals
        go_wp2_with fail
        refine (grayPlace_impl _ _).mono ?_
        rintro e w' ⟨rfl, rfl⟩
        go_wp2_with fail
        refine (grayPlace_spec _ _).mono ?_
        rintro e w' ⟨rfl, rfl⟩
        go_wp2_with fail
        refine (alive_any _).mono ?_
        rintro e w' ⟨rfl, hb2⟩
        go_wp2
        go_ret
        exact ⟨rfl, hb.trans (hb2.mono hb.size)⟩
  · go_enter Try.func10, Try.ntmps10
    go_wp2
    go_ret
    exact ⟨rfl, Below.refl _ _⟩
end Go.Proofs.Ytiebemnoegfoeaa
