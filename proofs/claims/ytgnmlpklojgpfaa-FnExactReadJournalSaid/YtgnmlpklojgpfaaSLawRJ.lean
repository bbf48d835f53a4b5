/- The walk of FnExactReadJournal. -/
import Derived.Test.YtgnmlpklojgpfaaSJourR
namespace Go.Proofs.Ytgnmlpklojgpfaa
set_option linter.unusedVariables false
set_option linter.unusedSimpArgs false
open Go.ChangeShapes Go.WideShapes Go.ChangeAt Go.RowKit

theorem rJ_len (s : List UInt8) : (rJ s).length ≤ s.length := by
  have := (readJ_le [] s).2
  unfold rJ; rw [dL_len]; exact this
set_option maxRecDepth 100000 in
set_option maxHeartbeats 1000000 in
theorem FnExactReadJournal_walk (s : ByteArray) (w : World) (hs : s.size ≤ maxLen) :
    Calls Try.prog 13 #[.string s] w fun e w' => e = .returned (.bool true) ∧ Below w.heap.size w w' := by
  unfold maxLen at hs
  by_cases hbig : 1048576 < s.size
  · have h1 : (1048576 : Int) < (s.size : Int) := by omega
    go_enter Try.func13, Try.ntmps13
    go_wp2
    go_ret
    exact ⟨rfl, Below.refl _ _⟩
  have h1 : ¬ (1048576 : Int) < (s.size : Int) := by omega
  have hl := rJ_len s.data.toList
  rw [← Lib.size_eq] at hl
  have hl2 : (rJ s.data.toList).length ≤ 1048576 := by omega
  have HL2 := Lib.hid hl2
  clear hl hl2
  have HSZ : Hid (s.size ≤ 1099511627776) := Lib.hid (by omega)
  have HSP := Lib.hid (fun w => readJournal_spec s w HSZ.out)
  have HIM := Lib.hid (fun w => readJournal_impl s w HSZ.out)
  obtain ⟨aa, haa⟩ : ∃ aa, rJ s.data.toList = aa := ⟨_, rfl⟩
  obtain ⟨N, hN⟩ : ∃ N, rN s.data.toList = N := ⟨_, rfl⟩
  rw [haa] at HL2
  rw [haa, hN] at HSP HIM
  clear haa hN
  obtain ⟨m, hm⟩ : ∃ m, aa.length = m := ⟨_, rfl⟩
  have HM := Lib.hid hm
  have hm2 : m ≤ 1048576 := by rw [← hm]; exact HL2.out
  clear hm
  go_enter Try.func13, Try.ntmps13
  go_wp2_with fail
  refine (HSP.out _).mono ?_
  rintro e w1 ⟨v1, rfl, s1⟩
  obtain ⟨A1, c1, rfl, -⟩ := s1.rdA 0 rfl
  have HS1 := Lib.hid s1
  clear s1
  go_wp2_with fail
  refine (HIM.out _).mono ?_
  rintro e w2 ⟨v2, rfl, s2⟩
  obtain ⟨A2, c2, rfl, -⟩ := s2.rdA 0 rfl
  have HS2 := Lib.hid (HS1.out.call s2)
  clear s2
  go_wp2_with fail
  refine (eqActS_same A2 _ c2 aa A1 _ c1 _ (HS2.out.rdA' 1 rfl) (HS2.out.rdA' 0 rfl)).mono ?_
  rintro e w3 ⟨rfl, hb3⟩
  have HS3 := Lib.hid (HS2.out.quiet hb3)
  clear hb3
  go_wp2_with fail
  refine (markActS_st HS3.out 1 rfl 1 (by omega) HL2.out).mono ?_
  rintro e w4 ⟨rfl, s4⟩
  have HS4 := Lib.hid s4
  clear s4
  rw [HM.out]
  rw [HM.out] at HS4
  have hp : (0 : Int) ≤ ((1 + 2 * m : Nat) : Int) := by omega
  obtain ⟨q, hq⟩ : ∃ q : Nat, 1 + 2 * m = q := ⟨_, rfl⟩
  have HQ := Lib.hid hq
  rw [hq] at hp
  rw [hq]
  clear hq
  go_wp2_with fail
  refine (heldActS_any A2 _ c2 1 m _ (HS4.out.rdA' 1 rfl) (by omega) (by omega)).mono ?_
  rintro e w5 ⟨rfl, rfl⟩
  rw [HQ.out]
  go_wp2_with fail
  refine (HIM.out _).mono ?_
  rintro e w6 ⟨v6, rfl, s6⟩
  obtain ⟨A6, c6, rfl, -⟩ := s6.rdA 0 rfl
  have HS6 := Lib.hid (HS4.out.call s6)
  clear s6
  go_wp2_with fail
  refine (eqActS_same A6 _ c6 aa A1 _ c1 _ (HS6.out.rdA' 2 rfl) (HS6.out.rdA' 0 rfl)).mono ?_
  rintro e w7 ⟨rfl, hb7⟩
  have HS7 := Lib.hid (HS6.out.quiet hb7)
  clear hb7
  go_wp2_with fail
  refine (heldActS_any A2 _ c2 1 m _ (HS7.out.rdA' 1 rfl) (by omega) (by omega)).mono ?_
  rintro e w8 ⟨rfl, rfl⟩
  rw [HQ.out]
  go_wp2
  go_ret
  exact ⟨rfl, HS7.out.below⟩
end Go.Proofs.Ytgnmlpklojgpfaa
