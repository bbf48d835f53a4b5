/- CodeTruth, of the program and of the reference: the sum of 2^s for the states s. -/
import Derived.Test.YtkimgdfcgfhibaaDoorSSearch
import Derived.Test.YtkimgdfcgfhibaaDoorSSplit
namespace Go.Proofs.YtkimgdfcgfhibaaDoor
set_option linter.unusedVariables false
set_option linter.unusedSimpArgs false
open Go.ChangeShapes Go.WideShapes Go.ChangeAt Go.RowKit

def truthN (xs : List Int) : Nat := mset (evalCode xs) 32
def codeTruth (xs : List Int) : Int := if codeOk xs then (truthN xs : Int) else -1
theorem codeTruth_no (xs : List Int) (h : codeOk xs = false) : codeTruth xs = -1 := if_neg (by rw [h]; simp)
theorem codeTruth_yes (xs : List Int) (h : codeOk xs = true) : codeTruth xs = (truthN xs : Int) := if_pos h
theorem mset32_lt (p : Nat → Bool) : mset p 32 < 4294967296 := mset_lt p 32
theorem pow32_lt {k : Nat} (h : k < 32) : 2 ^ k < 4294967296 := Nat.pow_lt_pow_right (a := 2) (n := 32) (by omega) h
/-- one member more, by or -/
theorem or_member {p q : Nat → Bool} {M k : Nat} (hk : k < 32) (hM : M = mset p 32) (hq : ∀ j, j < 32 → q j = (p j || decide (k = j))) : bits .or .i64 (M : Int) (2 ^ k) = ((mset q 32 : Nat) : Int) := by
  have h1 := mset32_lt p
  have h2 := pow32_lt hk
  have := i64_or_nat M (2 ^ k) (by omega) (by omega)
  rw [show M ||| 2 ^ k = mset q 32 by rw [hM, mset_or_bit _ _ _ hk]; exact (mset_congr hq).symm] at this
  simpa using this
theorem upto_next (p : Nat → Bool) (k : Nat) (h : p k = true) : ∀ j, j < 32 → upto p (k + 1) j = (upto p k j || decide (k = j)) := by
  intro j _
  unfold upto
  by_cases e : k = j
  · subst e; simp [h]
  · simp [e, show (j < k + 1) ↔ (j < k) by omega]
theorem upto_same (p : Nat → Bool) (k : Nat) (h : p k = false) : mset (upto p (k + 1)) 32 = mset (upto p k) 32 := mset_upto_no p 32 k h
theorem truth_done {xs : List Int} {M k : Nat} (hM : M = mset (upto (evalCode xs) k) 32) (hk : k = 32) : (M : Int) = (truthN xs : Nat) := by rw [hM, hk, mset_uptoN]; rfl
theorem codeTruth_impl (A : Option Addr) (n c : Nat) (xs : List Int) (w : World) (h : RdI .i64 w w.heap.size A n c xs) :
    Calls Tryd.prog 38 #[.slice A n c] w fun e w' => e = .returned (.int .i64 (codeTruth xs)) ∧ Below w.heap.size w w' := by
  obtain ⟨bo, hok⟩ : ∃ b, codeOk xs = b := ⟨_, rfl⟩
  have HOK := Lib.hid hok
  clear hok
  have HR := Lib.hid h
  clear h
  cases bo with
  | false =>
    go_enter Tryd.func38, Tryd.ntmps38
    go_wp2_with fail
    refine (codeValid_impl A n c xs _ HR.out).mono ?_
    rw [HOK.out]
    rintro e w1 ⟨rfl, rfl⟩
    go_wp2
    go_ret
    exact ⟨ret_int (codeTruth_no xs HOK.out).symm, Below.refl _ _⟩
  | true =>
    go_enter Tryd.func38, Tryd.ntmps38
    go_wp2_with fail
    refine (codeValid_impl A n c xs _ HR.out).mono ?_
    rw [HOK.out]
    rintro e w1 ⟨rfl, rfl⟩
    go_wp2
    go_loopw [8, 3] (fun i sv wr => ∃ k M : Nat, k ≤ 32 ∧ i = .int .i64 k ∧ sv = .int .i64 M ∧ Hid (M = mset (upto (evalCode xs) k) 32) ∧ Below w.heap.size w wr) (fun i _ _ => 32 - (intOf i).toNat)
    case atStart => exact ⟨0, 0, by omega, rfl, rfl, Lib.hid (mset_upto0 _ _).symm, Below.refl _ _⟩
    case round =>
      obtain ⟨k, M, hk, rfl, rfl, HM, hbel⟩ := hrel
      have HB := Lib.hid hbel
      clear hbel
      by_cases hlt : k < 32
      · obtain ⟨bv, hv⟩ : ∃ b, evalCode xs k = b := ⟨_, rfl⟩
        have HV := Lib.hid hv
        clear hv
        go_wp2_with fail
        refine (runCode_any A n c xs k _ (HR.out.up HB.out) HOK.out hlt).mono ?_
        rw [HV.out]
        rintro e w2 ⟨rfl, hb2⟩
        have HB2 := Lib.hid (HB.out.trans (hb2.mono HB.out.size))
        clear hb2
        cases bv with
        | true =>
          have hpw := wrap_pow k (by omega)
          have hor := or_member hlt HM.out (upto_next (evalCode xs) k HV.out)
          go_wp2
          go_roundw
          case rel => exact ⟨k + 1, _, by omega, by go_num, rfl, Lib.hid rfl, HB2.out⟩
          case measure => simp [intOf]; omega
        | false =>
          have HM2 : Hid (M = mset (upto (evalCode xs) (k + 1)) 32) := Lib.hid (HM.out.trans (upto_same _ k HV.out).symm)
          go_wp2
          go_roundw
          case rel => exact ⟨k + 1, M, by omega, by go_num, rfl, HM2, HB2.out⟩
          case measure => simp [intOf]; omega
      · have HF := Lib.hid (truth_done HM.out (show k = 32 by omega))
        go_wp2
        go_ret
        exact ⟨ret_int (by rw [HF.out, codeTruth_yes xs HOK.out]), HB.out⟩
theorem codeTruth_spec (A : Option Addr) (n c : Nat) (xs : List Int) (w : World) (h : RdI .i64 w w.heap.size A n c xs) (hn : n ≤ 1048576) :
    Calls Tryd.prog 63 #[.slice A n c] w fun e w' => e = .returned (.int .i64 (codeTruth xs)) ∧ Below w.heap.size w w' := by
  obtain ⟨bo, hok⟩ : ∃ b, codeOk xs = b := ⟨_, rfl⟩
  have HOK := Lib.hid hok
  clear hok
  have HR := Lib.hid h
  clear h
  cases bo with
  | false =>
    go_enter Tryd.func63, Tryd.ntmps63
    go_wp2_with fail
    refine (codeValid_spec A n c xs _ HR.out (by omega)).mono ?_
    rw [HOK.out]
    rintro e w1 ⟨rfl, rfl⟩
    go_wp2
    go_ret
    exact ⟨ret_int (codeTruth_no xs HOK.out).symm, Below.refl _ _⟩
  | true =>
    go_enter Tryd.func63, Tryd.ntmps63
    go_wp2_with fail
    refine (codeValid_spec A n c xs _ HR.out (by omega)).mono ?_
    rw [HOK.out]
    rintro e w1 ⟨rfl, rfl⟩
    go_wp2
    go_loopw [4, 3] (fun i sv wr => ∃ k M : Nat, k ≤ 32 ∧ i = .int .i64 k ∧ sv = .int .i64 M ∧ M < 2 ^ k ∧ Hid (M = mset (upto (evalCode xs) k) 32) ∧ Below w.heap.size w wr) (fun i _ _ => 32 - (intOf i).toNat)
    case atStart => exact ⟨0, 0, by omega, rfl, rfl, by omega, Lib.hid (mset_upto0 _ _).symm, Below.refl _ _⟩
    case round =>
      obtain ⟨k, M, hk, rfl, rfl, hM, HM, hbel⟩ := hrel
      have HB := Lib.hid hbel
      clear hbel
      by_cases hlt : k < 32
      · obtain ⟨bv, hv⟩ : ∃ b, evalCode xs k = b := ⟨_, rfl⟩
        have HV := Lib.hid hv
        clear hv
        have hpw := wrap_pow k (by omega)
        have hpl := pow32_lt hlt
        have HMK := Lib.hid hM
        clear hM
        go_wp2_with fail
        refine (l5Run_any A n c xs k _ (HR.out.up HB.out) HOK.out hlt).mono ?_
        rw [HV.out]
        rintro e w2 ⟨rfl, hb2⟩
        have HB2 := Lib.hid (HB.out.trans (hb2.mono HB.out.size))
        clear hb2
        cases bv with
        | true =>
          obtain ⟨M2, hM2⟩ : ∃ M2, M + 2 ^ k = M2 := ⟨_, rfl⟩
          have hadd : (M : Int) + 2 ^ k = (M2 : Int) := by rw [← hM2]; push_cast; rfl
          have HM2 : Hid (M2 = mset (upto (evalCode xs) (k + 1)) 32) := Lib.hid (by rw [← hM2, mset_upto_add _ 32 k hlt HV.out, ← HM.out])
          have hlt2 : M2 < 2 ^ (k + 1) := by rw [← hM2, Nat.pow_succ]; have := HMK.out; omega
          have hl2 : M2 < 4294967296 := by rw [HM2.out]; exact mset32_lt _
          have HL2 := Lib.hid hlt2
          clear hM2 hlt2
          go_wp2
          go_roundw
          case rel => exact ⟨k + 1, M2, by omega, by go_num, by first | rfl | go_num | (congr 1; rw [hadd]), HL2.out, HM2, HB2.out⟩
          case measure => simp [intOf]; omega
        | false =>
          have HM2 : Hid (M = mset (upto (evalCode xs) (k + 1)) 32) := Lib.hid (HM.out.trans (upto_same _ k HV.out).symm)
          go_wp2
          go_roundw
          case rel => exact ⟨k + 1, M, by omega, by go_num, rfl, by rw [Nat.pow_succ]; have := HMK.out; omega, HM2, HB2.out⟩
          case measure => simp [intOf]; omega
      · have HF := Lib.hid (truth_done HM.out (show k = 32 by omega))
        clear hM
        go_wp2
        go_ret
        exact ⟨ret_int (by rw [HF.out, codeTruth_yes xs HOK.out]), HB.out⟩
end Go.Proofs.YtkimgdfcgfhibaaDoor
