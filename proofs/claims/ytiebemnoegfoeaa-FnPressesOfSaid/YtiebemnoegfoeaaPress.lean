/- PressesOf of the program and of the reference: each returns one plain function, for every plan of at most 2^40 deeds. -/
import Derived.Test.YtiebemnoegfoeaaInts
namespace Go.Proofs.Ytiebemnoegfoeaa
open Go.ChangeShapes Go.WideShapes Go.ChangeAt Go.RowKit

def foldP (xs : List Int) (k : Nat) : Nat := (xs.take k).foldl (fun s x => s ^^^ 2 ^ x.toNat) 0
def pressesOf (xs : List Int) : Int := if xs.length ≤ 40 ∧ ∀ x ∈ xs, 0 ≤ x ∧ x < 5 then ((foldP xs xs.length : Nat) : Int) else -1
theorem foldP_step (xs : List Int) (k : Nat) (x : Int) (hx : xs[k]? = some x) : foldP xs (k + 1) = foldP xs k ^^^ 2 ^ x.toNat := by
  have hk : k < xs.length := (List.getElem?_eq_some_iff.1 hx).1
  unfold foldP
  rw [List.take_succ_eq_append_getElem hk, List.foldl_append]
  have : xs[k] = x := (List.getElem?_eq_some_iff.1 hx).2
  rw [this]; rfl
theorem pow5 (x : Int) (h0 : 0 ≤ x) (h1 : x < 5) : 2 ^ x.toNat < 32 ∧ wrap64 (2 ^ x.toNat) = ((2 ^ x.toNat : Nat) : Int) := by
  have h2 : 2 ^ x.toNat ≤ 2 ^ 4 := Nat.pow_le_pow_right (by omega) (show x.toNat ≤ 4 by omega)
  refine ⟨by omega, ?_⟩
  rw [wrap_pow _ (by omega)]; simp
theorem pressesOf_bad (xs : List Int) (x : Int) (hx : x ∈ xs) (h : ¬ (0 ≤ x ∧ x < 5)) : pressesOf xs = -1 := by
  unfold pressesOf; rw [if_neg]; rintro ⟨_, h2⟩; exact h (h2 x hx)
theorem pressesOf_long (xs : List Int) (h : ¬ xs.length ≤ 40) : pressesOf xs = -1 := by
  unfold pressesOf; rw [if_neg]; rintro ⟨h1, _⟩; exact h h1
theorem pressesOf_good (xs : List Int) (h : xs.length ≤ 40) (h2 : ∀ (j : Nat) (x : Int), xs[j]? = some x → 0 ≤ x ∧ x < 5) : pressesOf xs = (foldP xs xs.length : Nat) := by
  unfold pressesOf; rw [if_pos]; exact ⟨h, fun x hx => by obtain ⟨j, hj⟩ := List.mem_iff_getElem?.1 hx; exact h2 j x hj⟩

theorem pressesOf_impl (A : Option Addr) (n c : Nat) (xs : List Int) (w : World) (h : RdI .i64 w w.heap.size A n c xs) :
    Calls Try.prog 22 #[.slice A n c] w fun e w' => e = .returned (.int .i64 (pressesOf xs)) ∧ w = w' := by
  have hl := h.len
  by_cases hn : n ≤ 40
  · have HL := Lib.hid hl; clear hl
    go_enter Try.func22, Try.ntmps22
    go_wp2
    go_loop [11, 3] (fun i s => ∃ k : Nat, k ≤ n ∧ i = .int .i64 k ∧ s = .int .i64 (foldP xs k : Nat) ∧ foldP xs k < 32 ∧ Hid (∀ j x, j < k → xs[j]? = some x → 0 ≤ x ∧ x < 5)) (fun i _ => n - (intOf i).toNat)
    case atStart => exact ⟨0, by omega, rfl, rfl, by simp [foldP], Lib.hid (by omega)⟩
    case round =>
      obtain ⟨k, hk, rfl, rfl, hf, hpre⟩ := hrel
      by_cases hlt : k < n
      · obtain ⟨b, off, x, rfl, hb, hx, hw, hc⟩ := h.get hlt
        by_cases hr : 0 ≤ x ∧ x < 5
        · obtain ⟨r0, r1⟩ := hr
          obtain ⟨hp, hpw⟩ := pow5 x r0 r1
          have HS := Lib.hid (foldP_step xs k x hx)
          have hx32 := xor32 _ _ hf hp
          have hxn := i64_xor_nat (foldP xs k) (2 ^ x.toNat) (by omega) (by omega)
          have HX := Lib.hid hx
          clear hx hp
          generalize hz : foldP xs k ^^^ 2 ^ x.toNat = z at *
          clear hz
          have ecast : ((2 ^ x.toNat : Nat) : Int) = 2 ^ x.toNat := by simp
          rw [ecast] at hpw hxn
          clear ecast
          go_wp2
          go_round
          case rel => exact ⟨k + 1, by omega, by go_num, by rw [HS.out], by rw [HS.out]; exact hx32, Lib.hid fun j y hj hy => by
            rcases Nat.lt_or_ge j k with h1 | h1
            · exact hpre.out j y h1 hy
            · obtain rfl : j = k := by omega
              have := hy.symm.trans HX.out
              injection this with this
              subst this
              exact ⟨r0, r1⟩⟩
          case measure => simp [intOf]; omega
        · have HB := Lib.hid (pressesOf_bad xs x (List.mem_of_getElem? hx) hr)
          clear hx
          go_wp2
          all_goals first | (exfalso; omega) | go_ret
          all_goals exact ⟨ret_int HB.out.symm, rfl⟩
      · have HG := Lib.hid (pressesOf_good xs (by rw [HL.out]; exact hn) (fun j x hj => hpre.out j x (by have := (List.getElem?_eq_some_iff.1 hj).1; have := HL.out; omega) hj))
        have hkn : k = n := by omega
        have HK := Lib.hid hkn
        clear hkn
        go_wp2
        go_ret
        refine ⟨ret_int ?_, rfl⟩
        rw [HG.out, HL.out, ← HK.out]
  · have HB := Lib.hid (pressesOf_long xs (by rw [hl]; exact hn))
    go_enter Try.func22, Try.ntmps22
    go_wp2
    go_ret
    exact ⟨ret_int HB.out.symm, rfl⟩

theorem pressesOf_spec (A : Option Addr) (n c : Nat) (xs : List Int) (w : World) (h : RdI .i64 w w.heap.size A n c xs) :
    Calls Try.prog 20 #[.slice A n c] w fun e w' => e = .returned (.int .i64 (pressesOf xs)) ∧ w = w' := by
  have hl := h.len
  have hc := h.cap
  have hm := h.capMax
  unfold maxLen at hm
  have HL := Lib.hid hl; clear hl
  go_enter Try.func20, Try.ntmps20
  go_wp2
  go_loop [4, 3] (fun i s => ∃ k : Nat, k ≤ n ∧ i = .int .i64 k ∧ s = .int .i64 (foldP xs k : Nat) ∧ foldP xs k < 32 ∧ Hid (∀ j x, j < k → xs[j]? = some x → 0 ≤ x ∧ x < 5)) (fun i _ => n - (intOf i).toNat)
  case atStart => exact ⟨0, by omega, rfl, rfl, by simp [foldP], Lib.hid (by omega)⟩
  case round =>
    obtain ⟨k, hk, rfl, rfl, hf, hpre⟩ := hrel
    by_cases hlt : k < n
    · obtain ⟨b, off, x, rfl, hb, hx, hw, hc⟩ := h.get hlt
      by_cases hr : 0 ≤ x ∧ x < 5
      · obtain ⟨r0, r1⟩ := hr
        obtain ⟨hp, hpw⟩ := pow5 x r0 r1
        have HS := Lib.hid (foldP_step xs k x hx)
        have hx32 := xor32 _ _ hf hp
        have HX := Lib.hid hx
        clear hx
        have ecast : ((2 ^ x.toNat : Nat) : Int) = 2 ^ x.toNat := by simp
        have htn : ((2 : Int) ^ x.toNat).toNat = 2 ^ x.toNat := by rw [← ecast, Int.toNat_natCast]
        have hp32 : (2 : Int) ^ x.toNat < 32 := by rw [← ecast]; omega
        have hp0 : (0 : Int) ≤ 2 ^ x.toNat := by rw [← ecast]; omega
        rw [ecast] at hpw
        have HT := Lib.hid htn
        clear ecast htn hp
        go_wp2_with fail
        refine (l1In_yes _ _ _ _ r0 (by omega)).mono ?_
        rintro e w' ⟨rfl, rfl⟩
        go_wp2_with fail
        refine (l1Other_any _ _ (by omega) (by omega) hp0 (by omega) _).mono ?_
        rintro e w' ⟨rfl, rfl⟩
        rw [HT.out, Int.toNat_natCast, ← HS.out]
        rw [← HS.out] at hx32
        clear hpw hp32 hp0
        go_wp2
        go_round
        case rel => exact ⟨k + 1, by omega, by go_num, rfl, hx32, Lib.hid fun j y hj hy => by
          rcases Nat.lt_or_ge j k with h1 | h1
          · exact hpre.out j y h1 hy
          · obtain rfl : j = k := by omega
            have := hy.symm.trans HX.out
            injection this with this
            subst this
            exact ⟨r0, r1⟩⟩
        case measure => simp [intOf]; omega
      · have HB := Lib.hid (pressesOf_bad xs x (List.mem_of_getElem? hx) hr)
        clear hx
        go_wp2_with fail
        refine (l1In_no _ _ _ _ (by omega)).mono ?_
        rintro e w' ⟨rfl, rfl⟩
        go_wp2
        go_ret
        exact ⟨ret_int HB.out.symm, rfl⟩
    · have hkn : k = n := by omega
      have HK := Lib.hid hkn
      clear hkn
      by_cases h40 : n ≤ 40
      · have HG := Lib.hid (pressesOf_good xs (by rw [HL.out]; exact h40) (fun j x hj => hpre.out j x (by have := (List.getElem?_eq_some_iff.1 hj).1; have := HL.out; omega) hj))
        go_wp2
        go_ret
        refine ⟨ret_int ?_, rfl⟩
        rw [HG.out, HL.out, ← HK.out]
      · have HB := Lib.hid (pressesOf_long xs (by rw [HL.out]; exact h40))
        go_wp2
        go_ret
        exact ⟨ret_int HB.out.symm, rfl⟩

theorem FnExactPressesOf_walk (A : Option Addr) (n c : Nat) (xs : List Int) (w : World) (h : RdI .i64 w w.heap.size A n c xs) :
    Calls Try.prog 6 #[.slice A n c] w fun e w' => e = .returned (.bool true) ∧ Below w.heap.size w w' := by
  have hcap := h.cap
  have hmax := h.capMax
  unfold maxLen at hmax
  by_cases hn : n ≤ 1048576
  · go_enter Try.func6, Try.ntmps6
    go_wp2_with fail
    refine (toIntS_any A n c xs _ h (by omega)).mono ?_
    rintro e w1 ⟨rfl, ho1, hb1⟩
    have h1 := (h.below hb1).more hb1.size
    go_wp2_with fail
    refine (pressesOf_spec _ n n xs _ (rdI_own ho1 h.wf)).mono ?_
    rintro e w' ⟨rfl, rfl⟩
    go_wp2_with fail
    refine (toIntS_any A n c xs _ h1 (by omega)).mono ?_
    rintro e w2 ⟨rfl, ho2, hb2⟩
    have h2 := (h1.below hb2).more hb2.size
    have r2 := rdI_own ho2 h.wf
    go_wp2_with fail
    refine (pressesOf_impl _ n n xs _ r2).mono ?_
    rintro e w' ⟨rfl, rfl⟩
    go_wp2_with fail
    refine (toIntS_any A n c xs _ h2 (by omega)).mono ?_
    rintro e w3 ⟨rfl, ho3, hb3⟩
    go_wp2_with fail
    refine (eqIntS_any _ n n xs _ n n xs _ ((r2.below hb3).more hb3.size) (rdI_own ho3 h.wf)).mono ?_
    rintro e w4 ⟨rfl, q, rfl⟩
    rw [decide_eq_true rfl]
    go_wp2
    go_ret
    exact ⟨rfl, below_drewN (hb1.trans ((hb2.trans (hb3.mono hb2.size)).mono hb1.size)) _⟩
  · go_enter Try.func6, Try.ntmps6
    go_wp2
    go_ret
    exact ⟨rfl, Below.refl _ _⟩
end Go.Proofs.Ytiebemnoegfoeaa
