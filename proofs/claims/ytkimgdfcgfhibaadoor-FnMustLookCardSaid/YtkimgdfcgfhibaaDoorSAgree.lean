/- agreeing of the program. -/
import Derived.Test.YtkimgdfcgfhibaaDoorSBack
import Derived.Test.YtkimgdfcgfhibaaDoorSShadP
namespace Go.Proofs.YtkimgdfcgfhibaaDoor
set_option linter.unusedVariables false
set_option linter.unusedSimpArgs false
open Go.ChangeShapes Go.WideShapes Go.ChangeAt Go.RowKit

/-- of the first k states one is in the set and agrees with s -/
def agT (F : Nat) (S : Nat → Bool) (k s : Nat) : Bool := (List.range k).any fun o => S o && (s &&& F == o &&& F)
def agP (F : Nat) (S : Nat → Bool) (m k : Nat) (s : Nat) : Bool := upto (agr F S) m s || (decide (m = s) && agT F S k m)
theorem agT_next (F : Nat) (S : Nat → Bool) (k s : Nat) : agT F S (k + 1) s = (agT F S k s || (S k && (s &&& F == k &&& F))) := by unfold agT; rw [List.range_succ, List.any_append]; simp
theorem agP_zero (F : Nat) (S : Nat → Bool) (m : Nat) : mset (agP F S m 0) 32 = mset (upto (agr F S) m) 32 := mset_congr fun s _ => by simp [agP, agT]
theorem agP_all (F : Nat) (S : Nat → Bool) (m : Nat) : mset (agP F S m 32) 32 = mset (upto (agr F S) (m + 1)) 32 := mset_congr fun s _ => by
  have h : agT F S 32 m = agr F S m := rfl
  unfold agP
  rw [h]
  by_cases e : m = s
  · subst e; simp [upto]
  · have : decide (s < m + 1) = decide (s < m) := by congr 1; simp only [eq_iff_iff]; omega
    simp [e, upto, this]
theorem agP_no {F : Nat} {S : Nat → Bool} {m k : Nat} (h : (S k && (m &&& F == k &&& F)) = false) : mset (agP F S m (k + 1)) 32 = mset (agP F S m k) 32 := mset_congr fun s _ => by
  unfold agP; rw [agT_next, h, Bool.or_false]
theorem agP_yes {F : Nat} {S : Nat → Bool} {m k : Nat} (h : (S k && (m &&& F == k &&& F)) = true) : ∀ j, j < 32 → agP F S m (k + 1) j = (agP F S m k j || decide (m = j)) := fun j _ => by
  unfold agP; rw [agT_next, h, Bool.or_true, Bool.and_true]
  cases upto (agr F S) m j <;> cases decide (m = j) <;> simp
set_option maxRecDepth 100000 in
set_option maxHeartbeats 1000000 in
theorem agreeing_impl (S F : Nat) (w : World) (hS : S < 4294967296) (hF : F < 32) :
    Calls Tryd.prog 61 #[.int .i64 S, .int .i64 F] w fun e w' => e = .returned (.int .i64 (mset (agr F (setP S)) 32 : Nat)) ∧ w = w' := by
  go_enter Tryd.func61, Tryd.ntmps61
  go_wp2
  go_loopw [8, 5] (fun i sv wr => ∃ m M : Nat, m ≤ 32 ∧ i = .int .i64 m ∧ sv = .int .i64 M ∧ Bx (M = mset (upto (agr F (setP S)) m) 32) ∧ w = wr) (fun i _ _ => 32 - (intOf i).toNat)
  case atStart => exact ⟨0, 0, by omega, rfl, rfl, Bx.mk (mset_upto0 _ _).symm, rfl⟩
  case round =>
    obtain ⟨m, M, hm, rfl, rfl, HM, rfl⟩ := hrel
    by_cases hlt : m < 32
    · have HM0 : Bx (M = mset (agP F (setP S) m 0) 32) := Bx.mk (HM.out.trans (agP_zero _ _ _).symm)
      clear HM
      go_wp2
      go_loopw [11, 5] (fun i sv wr => ∃ k M : Nat, k ≤ 32 ∧ i = .int .i64 k ∧ sv = .int .i64 M ∧ Bx (M = mset (agP F (setP S) m k) 32) ∧ w = wr) (fun i _ _ => 32 - (intOf i).toNat)
      case atStart => exact ⟨0, M, by omega, rfl, rfl, HM0, rfl⟩
      case round =>
        clear HM0
        obtain ⟨k, M1, hk, rfl, rfl, HM, rfl⟩ := hrel
        by_cases hkn : k < 32
        · have hbit := and_one S k (by omega)
          have ha1 := i64_and_nat m F (by omega) (by omega)
          have ha2 := i64_and_nat k F (by omega) (by omega)
          by_cases hs1 : bit S k = 1
          · rw [hs1] at hbit
            obtain ⟨x, hx⟩ : ∃ x, m &&& F = x := ⟨_, rfl⟩
            obtain ⟨y, hy⟩ : ∃ y, k &&& F = y := ⟨_, rfl⟩
            rw [hx] at ha1
            rw [hy] at ha2
            by_cases hxy : x = y
            · have hb : ((x : Int) == (y : Int)) = true := by rw [hxy]; exact beq_self_eq_true _
              have hpw := wrap_pow m (by omega)
              have hor := or_member hlt HM.out (agP_yes (F := F) (S := setP S) (m := m) (k := k) (by unfold setP; rw [hs1, hx, hy, hxy]; simp))
              clear hs1 hx hy hxy
              go_wp2
              go_roundw
              case rel => exact ⟨k + 1, _, by omega, by go_num, rfl, Bx.mk rfl, by trivial⟩
              case measure => simp [intOf]; omega
            · have hb : ((x : Int) == (y : Int)) = false := beq_false_of_ne (by omega)
              have HM2 : Bx (M1 = mset (agP F (setP S) m (k + 1)) 32) := Bx.mk (HM.out.trans (agP_no (by rw [hx, hy, beq_false_of_ne hxy, Bool.and_false])).symm)
              clear hs1 hx hy
              go_wp2
              go_roundw
              case rel => exact ⟨k + 1, M1, by omega, by go_num, rfl, HM2, by trivial⟩
              case measure => simp [intOf]; omega
          · have hs0 : bit S k = 0 := by have := bit_lt S k; omega
            rw [hs0] at hbit
            have HM2 : Bx (M1 = mset (agP F (setP S) m (k + 1)) 32) := Bx.mk (HM.out.trans (agP_no (by unfold setP; rw [hs0]; rfl)).symm)
            clear hs1 hs0 ha1 ha2
            go_wp2
            go_roundw
            case rel => exact ⟨k + 1, M1, by omega, by go_num, rfl, HM2, by trivial⟩
            case measure => simp [intOf]; omega
        · have HM2 : Bx (M1 = mset (upto (agr F (setP S)) (m + 1)) 32) := Bx.mk (by rw [HM.out, show k = 32 by omega]; exact agP_all _ _ _)
          go_wp2
          go_roundw
          case rel => exact ⟨m + 1, M1, by omega, by go_num, rfl, HM2, by trivial⟩
          case measure => simp [intOf]; omega
    · obtain rfl : m = 32 := by omega
      have HF : Bx (M = mset (agr F (setP S)) 32) := Bx.mk (by rw [HM.out, mset_uptoN])
      go_wp2
      go_ret
      exact ⟨by rw [HF.out]; rfl, rfl⟩
end Go.Proofs.YtkimgdfcgfhibaaDoor
