/- The walk of the law FnRingsMay: true for every drawn code. No condition. -/
import Derived.Test.YtiebemnoegfoeaaBits
namespace Go.Proofs.Ytiebemnoegfoeaa
open Go.ChangeShapes Go.WideShapes Go.ChangeAt Go.RowKit

theorem drawRingsMay (A : Option Addr) (n c : Nat) (xs : List Int) (w : World) (h : RdI .u8 w w.heap.size A n c xs) :
    Calls Try.prog 27 #[.slice A n c] w fun e w' => (∃ r s k, e = .returned (.tuple #[.int .i64 r, .int .i64 s, .int .i64 k]) ∧ -20 ≤ r ∧ r ≤ 20 ∧ 0 ≤ s ∧ s < 32 ∧ -2 ≤ k ∧ k < 6) ∧ Below w.heap.size w w' := by
  go_enter Try.func27, Try.ntmps27
  go_wp2_with fail
  refine (l20Open_any A n c xs _ h).mono ?_
  rintro e w1 ⟨rfl, hb, hr, hs⟩
  clear hs
  go_wp2_with fail
  refine (pick_any _ _ 0 5 _ hr (by omega)).mono ?_
  rintro e w2 ⟨⟨x1, rfl, a1, a2, -⟩, hg1, hr⟩
  have a3 := a2 (by omega)
  clear a2
  have hb := hb.grown hg1 hb.size (fun k hk => by cases hk; omega)
  go_wp2_with fail
  refine (pick_any _ _ _ 30 _ hr (by omega)).mono ?_
  rintro e w3 ⟨⟨x2, rfl, b1, b2, -⟩, hg2, hr⟩
  have b3 := b2 (by omega)
  clear b2
  have hb := hb.grown hg2 hb.size (fun k hk => by cases hk; omega)
  go_wp2_with fail
  refine (pick_any _ _ _ 30 _ hr (by omega)).mono ?_
  rintro e w4 ⟨⟨x3, rfl, c1, c2, -⟩, hg3, hr⟩
  have c3 := c2 (by omega)
  clear c2
  have hb := hb.grown hg3 hb.size (fun k hk => by cases hk; omega)
  go_wp2_with fail
  refine (pick_any _ _ _ 32 _ hr (by omega)).mono ?_
  rintro e w5 ⟨⟨x4, rfl, d1, d2, -⟩, hg4, hr⟩
  have d3 := d2 (by omega)
  clear d2
  have hb := hb.grown hg4 hb.size (fun k hk => by cases hk; omega)
  go_wp2_with fail
  refine (pick_any _ _ _ 6 _ hr (by omega)).mono ?_
  rintro e w6 ⟨⟨x5, rfl, e1, e2, -⟩, hg5, hr⟩
  have e3 := e2 (by omega)
  clear e2
  have hb := hb.grown hg5 hb.size (fun k hk => by cases hk; omega)
  go_wp2_with fail
  refine (pick_any _ _ _ 20 _ hr (by omega)).mono ?_
  rintro e w7 ⟨⟨x6, rfl, f1, f2, -⟩, hg6, hr⟩
  have f3 := f2 (by omega)
  clear f2
  have hb := hb.grown hg6 hb.size (fun k hk => by cases hk; omega)
  go_wp2
  go_ret3
  exact ⟨⟨_, _, _, rfl, by omega, by omega, by omega, by omega, by omega, by omega⟩, hb⟩

def ringsCount (r s : Int) : Nat → Nat
  | 0 => 0
  | k + 1 => ringsCount r s k + if ringsMay r s k then 1 else 0
theorem ringsCount_le (r s : Int) (k : Nat) : ringsCount r s k ≤ k := by
  induction k with
  | zero => simp [ringsCount]
  | succ k ih => simp only [ringsCount]; split <;> omega
theorem ringsCount_step (r s : Int) (k : Nat) : ringsCount r s (k + 1) = ringsCount r s k + if ringsMay r s k then 1 else 0 := rfl
theorem rings_plain : ∀ r : Fin 6, ∀ s : Fin 32, ∀ k : Fin 5, ringsMay r.val s.val k.val = true →
    ringsMay r.val ((s.val ^^^ 2 ^ k.val : Nat) : Int) k.val = true ∧ (ringsCount r.val s.val r.val = 1 ∨ ringsCount r.val s.val r.val = 2) ∧
    (grayPlace ((s.val ^^^ 2 ^ k.val : Nat) : Int) - grayPlace s.val = 1 ∨ grayPlace ((s.val ^^^ 2 ^ k.val : Nat) : Int) - grayPlace s.val = -1) := by decide +kernel

theorem ringsMay_true (r s k : Int) (h : ringsMay r s k = true) : ∃ (a b d : Nat), r = a ∧ s = b ∧ k = d ∧ 1 ≤ a ∧ a ≤ 5 ∧ b < 32 ∧ d < a := by
  unfold ringsMay at h
  simp only [Bool.and_eq_true, decide_eq_true_eq] at h
  obtain ⟨h1, h2, h3, _⟩ := h
  obtain ⟨b1, b2, b3, b4⟩ := ringsIn_bd r s h1
  exact ⟨r.toNat, s.toNat, k.toNat, by omega, by omega, by omega, by omega, by omega, by omega, by omega⟩

theorem FnRingsMay_walk (A : Option Addr) (n c : Nat) (xs : List Int) (w : World) (h : RdI .u8 w w.heap.size A n c xs) :
    Calls Try.prog 8 #[.slice A n c] w fun e w' => e = .returned (.bool true) ∧ Below w.heap.size w w' := by
  have hcap := h.cap
  have hmax := h.capMax
  unfold maxLen at hmax
  by_cases hn : n ≤ 1048576
  · go_enter Try.func8, Try.ntmps8
    go_wp2_with fail
    refine (drawRingsMay A n c xs _ h).mono ?_
    rintro e w1 ⟨⟨r, s, k, rfl, r0, r1, s0, s1, k0, k1⟩, hb⟩
    by_cases hok : ringsMay r s k = true
    · obtain ⟨a, b, d, rfl, rfl, rfl, ha1, ha5, hb32, hd⟩ := ringsMay_true r s k hok
      have hpl := rings_plain ⟨a, by omega⟩ ⟨b, by omega⟩ ⟨d, by omega⟩ hok
      simp only at hpl
      obtain ⟨p1, p2, p3⟩ := hpl
      have HOK := Lib.hid hok
      have HP1 := Lib.hid p1
      have HP2 := Lib.hid p2
      have HP3 := Lib.hid p3
      have HXL : Hid ((b ^^^ 2 ^ d) < 32) := Lib.hid (xor32 _ _ hb32 (by
        have : 2 ^ d ≤ 2 ^ 4 := Nat.pow_le_pow_right (by omega) (show d ≤ 4 by omega)
        omega))
      have hw := wrap_pow d (by omega)
      have hpd := pow_le_int d 4 (by omega)
      have hp0 : (0 : Int) < 2 ^ d := Int.pow_pos (by omega)
      have HT : Hid (((2 : Int) ^ d).toNat = 2 ^ d) := Lib.hid (by
        have : ((2 : Int) ^ d) = ((2 ^ d : Nat) : Int) := by simp
        rw [this, Int.toNat_natCast])
      clear hok p1 p2 p3
      generalize hz : b ^^^ 2 ^ d = z at *
      have HZ := Lib.hid hz
      clear hz
      go_wp2_with fail
      refine (ringsMay_impl _ _ _ _).mono ?_
      rw [HOK.out]
      rintro e w' ⟨rfl, q1, rfl⟩
      go_wp2_with fail
      refine (ringsMay_spec _ _ _ _).mono ?_
      rw [HOK.out]
      rintro e w' ⟨rfl, q2, rfl⟩
      go_wp2_with fail
      go_loopw [8, 7] (fun i s wr => ∃ j q : Nat, j ≤ a ∧ i = .int .i64 j ∧ s = .int .i64 (ringsCount a b j : Nat) ∧ wr = w1.drewN q) (fun i _ _ => a - (intOf i).toNat)
      case atStart => exact ⟨0, _, by omega, rfl, rfl, rfl⟩
      case round =>
        obtain ⟨j, q, hj, rfl, rfl, rfl⟩ := hrel
        have hcl := ringsCount_le a b j
        by_cases hlt : j < a
        · have HS := Lib.hid (ringsCount_step a b j)
          go_wp2_with fail
          refine (ringsMay_impl _ _ _ _).mono ?_
          rintro e w' ⟨rfl, q3, rfl⟩
          by_cases hm : ringsMay a b j = true
          · have HM := Lib.hid hm
            rw [hm]
            clear hm
            go_wp2
            go_roundw
            case rel => exact ⟨j + 1, _, by omega, by go_num, by rw [HS.out, HM.out]; go_num, rfl⟩
            case measure => simp [intOf]; omega
          · have HM : Hid (ringsMay a b j = false) := Lib.hid (by simpa using hm)
            rw [HM.out]
            clear hm
            go_wp2
            go_roundw
            case rel => exact ⟨j + 1, _, by omega, by go_num, by rw [HS.out, HM.out]; rfl, rfl⟩
            case measure => simp [intOf]; omega
        · have hja : j = a := by omega
          subst hja
          go_wp2_with fail
          refine (lawOther_any _ _ (by omega) (by omega) (by omega) (by omega) _).mono ?_
          rintro e w' ⟨rfl, rfl⟩
          rw [HT.out, Int.toNat_natCast, HZ.out]
          have hz32 := HXL.out
          have hgx := grayPlace_bd (z : Int)
          have hgb := grayPlace_bd (b : Int)
          obtain ⟨gx1, gx2, -⟩ := hgx
          obtain ⟨gb1, gb2, -⟩ := hgb
          go_wp2_with fail
          refine (grayPlace_impl _ _).mono ?_
          rintro e w' ⟨rfl, rfl⟩
          go_wp2_with fail
          refine (grayPlace_impl _ _).mono ?_
          rintro e w' ⟨rfl, rfl⟩
          go_wp2_with fail
          refine (ringsMay_impl _ _ _ _).mono ?_
          rw [HP1.out]
          rintro e w' ⟨rfl, q3, rfl⟩
          rcases HP2.out with h2 | h2
          all_goals
            rcases HP3.out with h3 | h3
            all_goals
              rw [h2, h3]
              clear h2 h3
              go_wp2
              go_ret
              exact ⟨rfl, below_drewN hb _⟩
    · have HF : Hid (ringsMay r s k = false) := Lib.hid (by simpa using hok)
      clear hok
      go_wp2_with fail
      refine (ringsMay_impl _ _ _ _).mono ?_
      rw [HF.out]
      rintro e w' ⟨rfl, q1, rfl⟩
      go_wp2_with fail
      refine (ringsMay_spec _ _ _ _).mono ?_
      rw [HF.out]
      rintro e w' ⟨rfl, q2, rfl⟩
      go_wp2_with fail
      refine (alive_any _).mono ?_
      rintro e w' ⟨rfl, hb2⟩
      go_wp2
      go_ret
      exact ⟨rfl, (below_drewN hb (q1 + q2)).trans (hb2.mono (below_drewN hb (q1 + q2)).size)⟩
  · go_enter Try.func8, Try.ntmps8
    go_wp2
    go_ret
    exact ⟨rfl, Below.refl _ _⟩
end Go.Proofs.Ytiebemnoegfoeaa
