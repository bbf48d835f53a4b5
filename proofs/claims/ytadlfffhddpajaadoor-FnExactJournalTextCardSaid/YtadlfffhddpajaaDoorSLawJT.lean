/- The walk of FnExactJournalText. -/
import Derived.Test.YtadlfffhddpajaaDoorSJourP
import Derived.Test.YtadlfffhddpajaaDoorSActsH
namespace Go.Proofs.YtadlfffhddpajaaDoor
set_option linter.unusedVariables false
set_option linter.unusedSimpArgs false
open Go.ChangeShapes Go.WideShapes Go.ChangeAt Go.RowKit

set_option maxRecDepth 100000 in
set_option maxHeartbeats 1000000 in
theorem FnExactJournalText_walk (A : Option Addr) (n c : Nat) (aa : List ActD) (w : World) (h : RdA w w.heap.size A n c aa) (hwf : ∀ x ∈ aa, (Lit.int .i64 x.number).wf = true) :
    Calls Tryd.prog 3 #[.slice A n c] w fun e w' => e = .returned (.bool true) ∧ Below w.heap.size w w' := by
  have hcm := h.2.capMax
  have hcp := h.2.cap
  unfold maxLen at hcm
  have H := Lib.hid h
  have HL : Hid (aa.length = n) := Lib.hid h.1
  clear h hwf
  by_cases hz : (n : Int) ≤ 1048576
  case neg =>
    go_enter Tryd.func3, Tryd.ntmps3
    go_wp2_with fail
    refine (szActS_any _ n _ 1048576 _ (by omega) (by omega) (by omega)).mono ?_
    rw [less_no (by omega)]
    rintro e w' ⟨rfl, hb⟩
    go_wp2
    go_ret
    exact ⟨rfl, hb⟩
  have hn : n ≤ 1048576 := by omega
  obtain ⟨t, ht⟩ : ∃ t : ByteArray, (⟨(jT aa).toArray⟩ : ByteArray) = t := ⟨_, rfl⟩
  have HSP := Lib.hid (fun A c w (h : RdA w w.heap.size A n c aa) => journalText_spec A n c aa w h (by omega))
  have HIM := Lib.hid (fun A c w (h : RdA w w.heap.size A n c aa) => journalText_impl A n c aa w h (by omega))
  rw [ht] at HSP HIM
  clear ht
  go_enter Tryd.func3, Tryd.ntmps3
  go_wp2_with fail
  refine (szActS_any _ n _ 1048576 _ (by omega) (by omega) (by omega)).mono ?_
  rw [less_yes hz]
  rintro e w1 ⟨rfl, hb1⟩
  have HS1 := Lib.hid (St.of_below hb1)
  clear hb1
  go_wp2_with fail
  refine (toActS_st A n c aa _ (H.out.up HS1.out.below) hn).mono ?_
  rintro e w2 ⟨v2, rfl, s2⟩
  obtain ⟨A2, c2, rfl, -⟩ := s2.rdA 0 rfl
  rw [HL.out] at s2
  have HS2 := Lib.hid (HS1.out.call s2)
  clear s2
  rw [HL.out]
  go_wp2_with fail
  refine (HSP.out A2 c2 _ (HS2.out.rdA' 0 rfl)).mono ?_
  rintro e w3 ⟨rfl, hb3⟩
  have HS3 := Lib.hid (HS2.out.quiet hb3)
  clear hb3
  go_wp2_with fail
  refine (toActS_st A n c aa _ (H.out.up HS3.out.below) hn).mono ?_
  rintro e w4 ⟨v4, rfl, s4⟩
  obtain ⟨A4, c4, rfl, -⟩ := s4.rdA 0 rfl
  rw [HL.out] at s4
  have HS4 := Lib.hid (HS3.out.call s4)
  clear s4
  rw [HL.out]
  go_wp2_with fail
  refine (HIM.out A4 c4 _ (HS4.out.rdA' 1 rfl)).mono ?_
  rintro e w5 ⟨rfl, hb5⟩
  have HS5 := Lib.hid (HS4.out.quiet hb5)
  clear hb5
  go_wp2_with fail
  refine (toActS_st A n c aa _ (H.out.up HS5.out.below) hn).mono ?_
  rintro e w6 ⟨v6, rfl, s6⟩
  obtain ⟨A6, c6, rfl, -⟩ := s6.rdA 0 rfl
  rw [HL.out] at s6
  have HS6 := Lib.hid (HS5.out.call s6)
  clear s6
  rw [HL.out]
  go_wp2_with fail
  refine (eqActS_same A4 n c4 aa A6 n c6 _ (HS6.out.rdA' 1 rfl) (HS6.out.rdA' 2 rfl)).mono ?_
  rintro e w7 ⟨rfl, hb7⟩
  have HS7 := Lib.hid (HS6.out.quiet hb7)
  clear hb7
  go_wp2
  go_ret
  exact ⟨rfl, HS7.out.below⟩
end Go.Proofs.YtadlfffhddpajaaDoor
