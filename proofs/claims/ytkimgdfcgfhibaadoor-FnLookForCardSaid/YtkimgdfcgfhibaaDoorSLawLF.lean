/- The walk of FnLookFor. -/
import Derived.Test.YtkimgdfcgfhibaaDoorSNumd
import Derived.Test.YtkimgdfcgfhibaaDoorSLookS
import Derived.Test.YtkimgdfcgfhibaaDoorSMustI
import Derived.Test.YtkimgdfcgfhibaaDoorSNumOkS
import Derived.Test.YtkimgdfcgfhibaaDoorSReach
import Derived.Test.YtkimgdfcgfhibaaDoorSBits
namespace Go.Proofs.YtkimgdfcgfhibaaDoor
set_option linter.unusedVariables false
set_option linter.unusedSimpArgs false
open Go.ChangeShapes Go.WideShapes Go.ChangeAt Go.RowKit

theorem bitSum_to (p : Nat → Bool) (k : Nat) : bitSum (mset p 32) k = (List.range k).countP (fun i => decide (i < 32) && p i) := by
  induction k with
  | zero => rfl
  | succ k ih =>
    rw [List.range_succ, List.countP_append]
    simp only [bitSum, List.countP_singleton]
    rw [ih, bit_mset]
    cases decide (k < 32) && p k <;> simp
theorem bitSum_cnt (p : Nat → Bool) : bitSum (mset p 32) 40 = cnt p 32 := by
  rw [bitSum_to]
  have : ∀ m, (List.range (32 + m)).countP (fun i => decide (i < 32) && p i) = (List.range 32).countP p := by
    intro m
    induction m with
    | zero => exact List.countP_congr fun x hx => by simp [List.mem_range.1 hx]
    | succ m ih =>
      rw [show 32 + (m + 1) = (32 + m) + 1 by omega, List.range_succ, List.countP_append, ih]
      have : ¬ 32 + m < 32 := by omega
      simp [this]
  exact this 8
theorem cnt_reach (t : TaskD) : cnt (fun s => decide (0 ≤ dstV t.deeds (only t.start.toNat) s)) 32 = cnt (fwd t.deeds (only t.start.toNat) 32) 32 := by
  unfold cnt
  refine List.countP_congr fun s _ => ?_
  simp only [decide_eq_true_eq]
  exact dstN_nonneg
set_option maxRecDepth 100000 in
set_option maxHeartbeats 1000000 in
theorem FnLookFor_walk (A : Option Addr) (n c : Nat) (xs : List Int) (w : World) (h : RdI .u8 w w.heap.size A n c xs) (he : ErrH w) :
    Calls Tryd.prog 6 #[.slice A n c] w fun e w' => e = .returned (.bool true) ∧ Below w.heap.size w w' := by
  have hcap := h.cap
  have hmax := h.capMax
  unfold maxLen at hmax
  have H := Lib.hid h
  have HE := Lib.hid he
  clear h he
  by_cases hn : n ≤ 1048576
  case neg =>
    go_enter Tryd.func6, Tryd.ntmps6
    go_wp2
    go_ret
    exact ⟨rfl, Below.refl _ _⟩
  go_enter Tryd.func6, Tryd.ntmps6
  go_wp2_with fail
  refine (drawLookFor A n c xs _ H.out).mono ?_
  rintro e w1 ⟨v1, t, nv, ns, rfl, s1⟩
  obtain ⟨A1, j1, c1, A2, j2, c2, hv⟩ := s1.formT 0 rfl
  subst hv
  obtain ⟨m3, hm3⟩ : ∃ m3, ns.length = m3 := ⟨_, rfl⟩
  obtain ⟨A3, c3, hv⟩ := s1.formN 1 rfl hm3
  subst hv
  obtain ⟨T, hT⟩ : ∃ T, w1.heap.size = T := ⟨_, rfl⟩
  have HS1 : Hid (St w (w1.alloc (.cells #[.int .i64 t.start, .slice A1 j1 c1, .slice A2 j2 c2] 26)) [rTask (.agg #[.int .i64 t.start, .slice A1 j1 c1, .slice A2 j2 c2]) t, rBlk T 26 #[.int .i64 t.start, .slice A1 j1 c1, .slice A2 j2 c2], rInts (.slice A3 m3 c3) ns]) := Lib.hid (by rw [← hT]; exact (s1.alloc #[.int .i64 t.start, .slice A1 j1 c1, .slice A2 j2 c2] 26).pick [0, 2, 1] (by decide) rfl rfl)
  clear s1 hm3
  obtain ⟨lf, hlf⟩ : ∃ p, lookFor t ns = p := ⟨_, rfl⟩
  obtain ⟨l1, l2⟩ := lf
  have HLF := Bx.mk hlf
  clear hlf
  try rw [hT]
  have q1 : ∀ j, (w1.alloc (.cells #[.int .i64 t.start, .slice A1 j1 c1, .slice A2 j2 c2] 26)).cell? ⟨T, j, none⟩ = _ := HS1.out.cells 1 rfl
  go_wp2_with fail
  refine (lookFor_impl _ t A3 m3 c3 ns _ (HS1.out.rdT 0 rfl) (HS1.out.rdI' 2 rfl) (HE.out.up HS1.out.below)).mono ?_
  rw [HLF.out]
  dsimp only
  rintro e w2 ⟨rfl, hb2⟩
  have HS2 := Lib.hid (HS1.out.quiet hb2)
  clear hb2 HS1 q1
  have q1 : ∀ j, w2.cell? ⟨T, j, none⟩ = _ := HS2.out.cells 1 rfl
  go_wp2_with fail
  refine (lookFor_spec _ t A3 m3 c3 ns _ (HS2.out.rdT 0 rfl) (HS2.out.rdI' 2 rfl)).mono ?_
  rw [HLF.out]
  dsimp only
  rintro e w3 ⟨rfl, hb3⟩
  have HS3 := Lib.hid (HS2.out.quiet hb3)
  clear hb3 HS2 q1
  have q1 : ∀ j, w3.cell? ⟨T, j, none⟩ = _ := HS3.out.cells 1 rfl
  go_wp2_with fail
  refine (numbersOk_spec _ t A3 m3 c3 ns _ (HS3.out.rdT 0 rfl) (HS3.out.rdI' 2 rfl)).mono ?_
  obtain ⟨bo, hok⟩ : ∃ b, numsOk t ns = b := ⟨_, rfl⟩
  rw [hok]
  rintro e w4 ⟨rfl, hb4⟩
  have HS4 := Lib.hid (HS3.out.quiet hb4)
  clear hb4 HS3 q1
  cases bo with
  | false =>
    have e1 := HLF.out
    rw [lookFor_no hok] at e1
    obtain ⟨rfl, rfl⟩ := Prod.mk.inj e1
    clear hok e1
    go_wp2_with fail
    refine (alive_any _).mono ?_
    rintro e w5 ⟨rfl, hb5⟩
    have HB5 := Lib.hid (HS4.out.quiet hb5).below
    clear hb5
    go_wp2
    go_ret
    exact ⟨rfl, HB5.out⟩
  | true =>
    obtain ⟨k1, k2, k3, k4⟩ := lookFor_ok hok
    rw [HLF.out] at k1 k2 k3 k4
    dsimp only at k1 k2 k3 k4
    have hOK : taskOk t = true := (numsOk_iff.1 hok).ok
    obtain ⟨hs0, -, -, -⟩ := taskOk_parts t hOK
    obtain ⟨s0, hst0⟩ := Int.eq_ofNat_of_zero_le hs0.1
    have hs32 : s0 < 32 := by omega
    have HSL := Bx.mk (stepsLeast_yes t hOK s0 hst0)
    rw [cnt_reach, hst0, Int.toNat_natCast, ← bitSum_cnt] at k4
    have HRY := Bx.mk (reached_yes t hOK s0 hst0)
    obtain ⟨N, hN⟩ : ∃ N, mset (fwd t.deeds (only s0) 32) 32 = N := ⟨_, rfl⟩
    rw [hN] at k4 HRY
    obtain ⟨cn, hcn⟩ : ∃ x, bitSum N 40 = x := ⟨_, rfl⟩
    rw [hcn] at k4
    have HCN := Bx.mk hcn
    rw [hst0, Int.toNat_natCast] at k1
    obtain ⟨m0, hm0⟩ : ∃ x, mustLook t ns = x := ⟨_, rfl⟩
    rw [hm0] at k2
    have HM0 := Bx.mk hm0
    have HK1 := Bx.mk k1
    have hle : (l2 : Int) ≤ (cn : Int) := by omega
    have h1le : (1 : Int) ≤ (l2 : Int) := by omega
    have hsI : (s0 : Int) < 32 := by omega
    have HST := Bx.mk hst0
    rw [hst0] at HS4 ⊢
    clear hs0 hok hN hcn hm0 k1 k3 k4 hst0 hOK
    have q1 : ∀ j, w4.cell? ⟨T, j, none⟩ = _ := HS4.out.cells 1 rfl
    go_wp2_with fail
    refine (stepsLeast_impl _ t _ (HS4.out.rdT 0 rfl)).mono ?_
    rw [HSL.out]
    rintro e w5 ⟨v5, rfl, s5⟩
    obtain ⟨g5, c5, hv⟩ := s5.formI 0 rfl (n := 32) (stepsL_len _ _) (by omega)
    simp only [id_eq] at hv ⊢
    subst hv
    have HS5 := Lib.hid ((HS4.out.call s5).pick [0, 1, 2, 3] (by decide) rfl rfl)
    clear s5 HS4 q1
    have q1 : ∀ j, w5.cell? ⟨T, j, none⟩ = _ := HS5.out.cells 1 rfl
    obtain ⟨r5, -⟩ := HS5.out.cellI 3 rfl (stepsL_len _ _) s0 _ (stepsL_at _ _ s0 hs32)
    rw [← HK1.out] at r5
    go_wp2_with fail
    refine (reached_impl _ t _ (HS5.out.rdT 0 rfl)).mono ?_
    rw [HRY.out]
    rintro e w6 ⟨rfl, hb6⟩
    have HS6 := Lib.hid (HS5.out.quiet hb6)
    clear hb6 HS5 q1 r5
    have q1 : ∀ j, w6.cell? ⟨T, j, none⟩ = _ := HS6.out.cells 1 rfl
    go_wp2_with fail
    refine (lawBits_nat N _).mono ?_
    rw [HCN.out]
    rintro e w7 ⟨rfl, rfl⟩
    go_wp2_with fail
    refine (mustLook_impl _ t A3 m3 c3 ns _ (HS6.out.rdT 0 rfl) (HS6.out.rdI' 2 rfl) (HE.out.up HS6.out.below)).mono ?_
    rw [HM0.out]
    rintro e w8 ⟨rfl, hb8⟩
    have HS8 := Lib.hid (HS6.out.quiet hb8)
    clear hb8 HS6 q1
    go_wp2
    go_ret
    exact ⟨rfl, HS8.out.below⟩
end Go.Proofs.YtkimgdfcgfhibaaDoor
