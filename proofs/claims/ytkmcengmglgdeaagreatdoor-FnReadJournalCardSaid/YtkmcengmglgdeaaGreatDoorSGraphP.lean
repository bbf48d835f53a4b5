/- countBits of the program: how many bits of a number are 1. -/
import Derived.Test.YtkmcengmglgdeaaGreatDoorSPure
import Derived.RegionTactic
import Derived.ChangeAlike
namespace Go.Proofs.YtkmcengmglgdeaaGreatDoor
open Go.ChangeShapes Go.WideShapes Go.ChangeAt Go.RowKit

def cntF : Nat → Nat → Nat
 | 0, _ => 0
 | f + 1, n => if n = 0 then 0 else 1 + cntF f (n &&& (n - 1))
def popc (n : Nat) : Nat := cntF n n
theorem cntF_enough (f : Nat) : ∀ f' n, n ≤ f → n ≤ f' → cntF f n = cntF f' n := by
 induction f with
 | zero => intro f' n h _; obtain rfl : n = 0 := by omega
           cases f' <;> simp [cntF]
 | succ f ih =>
  intro f' n h h'
  by_cases hn : n = 0
  ·subst hn; cases f' <;> simp [cntF]
  ·cases f' with
   | zero => omega
   | succ f' =>
    have hle : n &&& (n - 1) ≤ n - 1 := Nat.and_le_right
    rw [cntF, cntF, if_neg hn, if_neg hn, ih f' _ (by omega) (by omega)]
theorem popc_zero : popc 0 = 0 := rfl
theorem popc_step (n : Nat) (h : 0 < n) : popc n = 1 + popc (n &&& (n - 1)) := by
 unfold popc
 cases n with
 | zero => omega
 | succ m =>
  have hle : (m + 1) &&& (m + 1 - 1) ≤ m + 1 - 1 := Nat.and_le_right
  rw [cntF, if_neg (by omega)]
  rw [cntF_enough m _ _ (by omega) (Nat.le_refl _)]
theorem countBits_nat (n : Nat) (hn : n < 4611686018427387904) (w : World) :
  Calls Tryz.prog 138 #[.int .i64 n] w fun e w' => e = .returned (.int .i64 (popc n : Nat)) ∧ w = w' := by
 go_enter Tryz.func138, Tryz.ntmps138
 go_wp2
 go_loop [0, 3] (fun s p => ∃ m k : Nat, m ≤ n ∧ k + popc m = popc n ∧ k + m ≤ n ∧ s = .int .i64 m ∧ p = .int .i64 k) (fun s _ => (intOf s).toNat)
 case atStart => exact ⟨n, 0, Nat.le_refl _, by omega, by omega, rfl, rfl⟩
 case round =>
  obtain ⟨m, k, hm, hk, hkm, rfl, rfl⟩ := hrel
  have HK := Lib.hid hk; clear hk
  by_cases hz : 0 < m
  ·have hle : m &&& (m - 1) ≤ m - 1 := Nat.and_le_right
   have hx := i64_and_nat m (m - 1) (by omega) (by omega)
   have hs : ((m - 1 : Nat) : Int) = (m : Int) - 1 := by omega
   rw [hs] at hx
   have HS := Lib.hid (popc_step m hz)
   generalize m &&& (m - 1) = m' at *
   clear hs
   have hne : ((m : Int) != 0) = true := by rw [bne_iff_ne]; omega
   go_wp2
   go_round
   case rel => exact ⟨m', k + 1, by omega, by have := HS.out; have := HK.out; omega, by omega, rfl, by go_num⟩
   case measure => simp [intOf]; omega
  ·obtain rfl : m = 0 := by omega
   go_wp2
   go_ret
   refine ⟨ret_int ?_, rfl⟩
   have := HK.out
   rw [popc_zero] at this
   show (k : Int) = _
   omega
theorem countBits_any (n : Int) (h0 : 0 ≤ n) (hn : n < 4611686018427387904) (w : World) :
  Calls Tryz.prog 138 #[.int .i64 n] w fun e w' => e = .returned (.int .i64 (popc n.toNat : Nat)) ∧ w = w' := by
 have h := countBits_nat n.toNat (by omega) w
 rwa [toNat_cast h0] at h

end Go.Proofs.YtkmcengmglgdeaaGreatDoor
