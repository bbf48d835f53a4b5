/- CodeDepth and CodeValid, of the program and of the reference: each returns one plain function, for every code of at most 2^40 steps. -/
import Derived.Test.YtkmcengmglgdeaaGreatDoorSPure
namespace Go.Proofs.YtkmcengmglgdeaaGreatDoor
open Go.ChangeShapes Go.WideShapes Go.ChangeAt Go.RowKit

theorem dStep_out (d : Nat) (x : Int) (h : x < 0 ∨ 9 < x) : dStep d x = none := by unfold dStep; rw [if_pos h]
theorem dStep_push (d : Nat) (x : Int) (h0 : 0 ≤ x) (h : x ≤ 6) : dStep d x = some (d + 1) := by unfold dStep; rw [if_neg (by omega), if_pos h]
theorem dStep_not (d : Nat) (h : 1 ≤ d) : dStep d 7 = some d := by unfold dStep; rw [if_neg (by omega), if_neg (by omega), if_pos rfl, if_pos h]
theorem dStep_not0 (d : Nat) (h : ¬ 1 ≤ d) : dStep d 7 = none := by unfold dStep; rw [if_neg (by omega), if_neg (by omega), if_pos rfl, if_neg h]
theorem dStep_two (d : Nat) (x : Int) (h0 : 7 < x) (h : x ≤ 9) (hd : 2 ≤ d) : dStep d x = some (d - 1) := by unfold dStep; rw [if_neg (by omega), if_neg (by omega), if_neg (by omega), if_pos hd]
theorem dStep_two0 (d : Nat) (x : Int) (h0 : 7 < x) (h : x ≤ 9) (hd : ¬ 2 ≤ d) : dStep d x = none := by unfold dStep; rw [if_neg (by omega), if_neg (by omega), if_neg (by omega), if_neg hd]

theorem codeDepth_impl (A : Option Addr) (n c : Nat) (xs : List Int) (w : World) (h : RdI .i64 w w.heap.size A n c xs) :
  Calls Tryz.prog 178 #[.slice A n c] w fun e w' => e = .returned (.int .i64 (codeDepth xs)) ∧ w = w' := by
 have hl := h.len
 have hc := h.cap
 have hm := h.capMax
 unfold maxLen at hm
 by_cases hn : 1 ≤ n ∧ n ≤ 40
 ·obtain ⟨hn1, hn2⟩ := hn
  have HL := Lib.hid hl; clear hl
  have HBAD : Hid (codeOk xs = false → codeDepth xs = -1) := Lib.hid (codeDepth_bd xs).2
  go_enter Tryz.func178, Tryz.ntmps178
  go_wp2
  go_loop [17, 3, 4] (fun i dd mm => ∃ k d : Nat, k ≤ n ∧ d ≤ k ∧ mRun 0 0 (xs.take k) ≤ k ∧ i = .int .i64 k ∧ dd = .int .i64 d ∧ mm = .int .i64 (mRun 0 0 (xs.take k) : Nat) ∧ Hid (dRun 0 (xs.take k) = some d)) (fun i _ _ => n - (intOf i).toNat)
  case atStart => exact ⟨0, 0, by omega, by omega, by simp [mRun], rfl, rfl, by simp [mRun], Lib.hid rfl⟩
  case round =>
   obtain ⟨k, d, hk, hd, hmk, rfl, rfl, rfl, hrun⟩ := hrel
   by_cases hlt : k < n
   ·obtain ⟨b, off, x, rfl, hb, hx, hw, hc⟩ := h.get hlt
    have hs := dRun_step xs k x hx d hrun.out
    have HB := Lib.hid fun hq => HBAD.out (dRun_bad xs k x hx d hrun.out hq)
    have HS := Lib.hid hs
    clear hx hs
    generalize hmz : mRun 0 0 (xs.take k) = mz at *
    have HMZ := Lib.hid hmz
    clear hmz
    by_cases h1 : x < 0
    ·have HF := Lib.hid (HB.out (dStep_out d x (.inl h1)))
     go_wp2
     go_ret
     exact ⟨ret_int HF.out.symm, rfl⟩
    by_cases h2 : 9 < x
    ·have HF := Lib.hid (HB.out (dStep_out d x (.inr h2)))
     go_wp2
     go_ret
     exact ⟨ret_int HF.out.symm, rfl⟩
    have HK := Lib.hid (fun (d' : Nat) (hq : dStep d x = some d') => (⟨HS.out.1.trans hq, HS.out.2 d' hq⟩ : dRun 0 (xs.take (k + 1)) = some d' ∧ mRun 0 0 (xs.take (k + 1)) = max mz d'))
    by_cases h3 : x ≤ 6
    ·have HD := Lib.hid (HK.out (d + 1) (dStep_push d x (by omega) h3))
     go_wp2
     go_round
     case rel => exact ⟨k + 1, d + 1, by omega, by omega, by rw [HD.out.2]; omega, by go_num, by go_num, by rw [HD.out.2]; congr 1; split <;> omega, Lib.hid HD.out.1⟩
     case measure => simp [intOf]; omega
    by_cases h4 : x = 7
    ·subst h4
     by_cases h5 : 1 ≤ d
     ·have HD := Lib.hid (HK.out d (dStep_not d h5))
      go_wp2
      go_round
      case rel => exact ⟨k + 1, d, by omega, by omega, by rw [HD.out.2]; omega, by go_num, rfl, by rw [HD.out.2]; congr 1; split <;> omega, Lib.hid HD.out.1⟩
      case measure => simp [intOf]; omega
     ·have HF := Lib.hid (HB.out (dStep_not0 d h5))
      go_wp2
      go_ret
      exact ⟨ret_int HF.out.symm, rfl⟩
    ·have h7 : ((x : Int) == 7) = false := by simpa using h4
     by_cases h5 : 2 ≤ d
     ·have HD := Lib.hid (HK.out (d - 1) (dStep_two d x (by omega) (by omega) h5))
      clear h4
      go_wp2
      go_round
      case rel => exact ⟨k + 1, d - 1, by omega, by omega, by rw [HD.out.2]; omega, by go_num, by first | rfl | (congr 1; omega), by rw [HD.out.2]; congr 1; split <;> omega, Lib.hid HD.out.1⟩
      case measure => simp [intOf]; omega
     ·have HF := Lib.hid (HB.out (dStep_two0 d x (by omega) (by omega) h5))
      clear h4
      go_wp2
      go_ret
      exact ⟨ret_int HF.out.symm, rfl⟩
   ·have hkn : k = n := by omega
    have hrun' := hrun.out
    subst hkn
    rw [← HL.out, List.take_length] at hrun'
    have HTK : Hid (xs.take k = xs) := Lib.hid (by rw [← HL.out]; exact List.take_length)
    by_cases hd1 : d = 1
    ·subst hd1
     have HG := Lib.hid (codeOk_good xs (by rw [HL.out]; exact ⟨hn1, hn2⟩) hrun')
     clear hrun'
     go_wp2
     go_ret
     refine ⟨ret_int ?_, rfl⟩
     unfold codeDepth
     rw [HG.out, if_pos rfl]
     show ((mRun 0 0 (xs.take k) : Nat) : Int) = _
     rw [HTK.out]
    ·have HF := Lib.hid (HBAD.out (codeOk_end xs d hrun' hd1))
     have hne : (((d : Nat) : Int) != 1) = true := by rw [bne_iff_ne]; omega
     clear hrun' hd1
     go_wp2
     go_ret
     exact ⟨ret_int HF.out.symm, rfl⟩
 ·have HF := Lib.hid ((codeDepth_bd xs).2 (codeOk_long xs (by rw [hl]; exact hn)))
  go_enter Tryz.func178, Tryz.ntmps178
  go_wp2
  all_goals first | (exfalso; omega) | go_ret
  all_goals exact ⟨ret_int HF.out.symm, rfl⟩
theorem l5Takes_any (x : Int) (w : World) :
  Calls Tryz.prog 200 #[.int .i64 x] w fun e w' => e = .returned (.int .i64 (if x = 7 then 1 else if x = 8 ∨ x = 9 then 2 else 0)) ∧ w = w' := by
 by_cases h7 : x = 7
 ·subst h7
  go_enter Tryz.func200, Tryz.ntmps200
  go_wp2
  go_ret
  exact ⟨rfl, rfl⟩
 by_cases h8 : x = 8
 ·subst h8
  go_enter Tryz.func200, Tryz.ntmps200
  go_wp2
  go_ret
  exact ⟨rfl, rfl⟩
 by_cases h9 : x = 9
 ·subst h9
  go_enter Tryz.func200, Tryz.ntmps200
  go_wp2
  go_ret
  exact ⟨rfl, rfl⟩
 rw [if_neg h7, if_neg (by omega)]
 have e7 : (x == 7) = false := by simpa using h7
 have e8 : (x == 8) = false := by simpa using h8
 have e9 : (x == 9) = false := by simpa using h9
 clear h7 h8 h9
 go_enter Tryz.func200, Tryz.ntmps200
 go_wp2
 go_ret
 exact ⟨rfl, rfl⟩

theorem codeDepth_spec (A : Option Addr) (n c : Nat) (xs : List Int) (w : World) (h : RdI .i64 w w.heap.size A n c xs) (hn40 : n ≤ 1099511627776) :
  Calls Tryz.prog 177 #[.slice A n c] w fun e w' => e = .returned (.int .i64 (codeDepth xs)) ∧ w = w' := by
 have hl := h.len
 have HL := Lib.hid hl; clear hl
 have HBAD : Hid (codeOk xs = false → codeDepth xs = -1) := Lib.hid (codeDepth_bd xs).2
 go_enter Tryz.func177, Tryz.ntmps177
 go_wp2
 go_loop [5, 3, 4] (fun i dd mm => ∃ k d : Nat, k ≤ n ∧ d ≤ k ∧ mRun 0 0 (xs.take k) ≤ k ∧ i = .int .i64 k ∧ dd = .int .i64 d ∧ mm = .int .i64 (mRun 0 0 (xs.take k) : Nat) ∧ Hid (dRun 0 (xs.take k) = some d)) (fun i _ _ => n - (intOf i).toNat)
 case atStart => exact ⟨0, 0, by omega, by omega, by simp [mRun], rfl, rfl, by simp [mRun], Lib.hid rfl⟩
 case round =>
  obtain ⟨k, d, hk, hd, hmk, rfl, rfl, rfl, hrun⟩ := hrel
  by_cases hlt : k < n
  ·obtain ⟨b, off, x, rfl, hb, hx, hw, hc⟩ := h.get hlt
   have hs := dRun_step xs k x hx d hrun.out
   have HB := Lib.hid fun hq => HBAD.out (dRun_bad xs k x hx d hrun.out hq)
   have HS := Lib.hid hs
   clear hx hs
   generalize hmz : mRun 0 0 (xs.take k) = mz at *
   have HMZ := Lib.hid hmz
   clear hmz
   have HK := Lib.hid (fun (d' : Nat) (hq : dStep d x = some d') => (⟨HS.out.1.trans hq, HS.out.2 d' hq⟩ : dRun 0 (xs.take (k + 1)) = some d' ∧ mRun 0 0 (xs.take (k + 1)) = max mz d'))
   by_cases h1 : 0 ≤ x ∧ x ≤ 9
   ·obtain ⟨h1, h2⟩ := h1
    by_cases h3 : x ≤ 6
    ·have HD := Lib.hid (HK.out (d + 1) (dStep_push d x (by omega) h3))
     have HT : Hid ((if x = 7 then (1 : Int) else if x = 8 ∨ x = 9 then 2 else 0) = 0) := Lib.hid (by rw [if_neg (by omega), if_neg (by omega)])
     go_wp2_with (first
      | (go_at_call 125; refine (l1In_yes _ _ _ _ h1 h2).mono ?_; rintro e w' ⟨rfl, rfl⟩)
      | (go_at_call 200; refine (l5Takes_any _ _).mono ?_; rw [HT.out]; rintro e w' ⟨rfl, rfl⟩))
     go_round
     case rel => exact ⟨k + 1, d + 1, by omega, by omega, by rw [HD.out.2]; omega, by go_num, by go_num, by rw [HD.out.2]; congr 1; split <;> omega, Lib.hid HD.out.1⟩
     case measure => simp [intOf]; omega
    by_cases h4 : x = 7
    ·have HT : Hid ((if x = 7 then (1 : Int) else if x = 8 ∨ x = 9 then 2 else 0) = 1) := Lib.hid (by rw [if_pos h4])
     by_cases h5 : 1 ≤ d
     ·have HD := Lib.hid (HK.out d (by rw [h4]; exact dStep_not d h5))
      clear h4
      go_wp2_with (first
       | (go_at_call 125; refine (l1In_yes _ _ _ _ h1 h2).mono ?_; rintro e w' ⟨rfl, rfl⟩)
       | (go_at_call 200; refine (l5Takes_any _ _).mono ?_; rw [HT.out]; rintro e w' ⟨rfl, rfl⟩))
      go_round
      case rel => exact ⟨k + 1, d, by omega, by omega, by rw [HD.out.2]; omega, by go_num, by first | rfl | (congr 1; omega), by rw [HD.out.2]; congr 1; split <;> omega, Lib.hid HD.out.1⟩
      case measure => simp [intOf]; omega
     ·have HF := Lib.hid (HB.out (by rw [h4]; exact dStep_not0 d h5))
      clear h4
      go_wp2_with (first
       | (go_at_call 125; refine (l1In_yes _ _ _ _ h1 h2).mono ?_; rintro e w' ⟨rfl, rfl⟩)
       | (go_at_call 200; refine (l5Takes_any _ _).mono ?_; rw [HT.out]; rintro e w' ⟨rfl, rfl⟩))
      go_ret
      exact ⟨ret_int HF.out.symm, rfl⟩
    ·have HT : Hid ((if x = 7 then (1 : Int) else if x = 8 ∨ x = 9 then 2 else 0) = 2) := Lib.hid (by rw [if_neg h4, if_pos (by omega)])
     by_cases h5 : 2 ≤ d
     ·have HD := Lib.hid (HK.out (d - 1) (dStep_two d x (by omega) (by omega) h5))
      clear h4
      go_wp2_with (first
       | (go_at_call 125; refine (l1In_yes _ _ _ _ h1 h2).mono ?_; rintro e w' ⟨rfl, rfl⟩)
       | (go_at_call 200; refine (l5Takes_any _ _).mono ?_; rw [HT.out]; rintro e w' ⟨rfl, rfl⟩))
      go_round
      case rel => exact ⟨k + 1, d - 1, by omega, by omega, by rw [HD.out.2]; omega, by go_num, by first | rfl | (congr 1; omega), by rw [HD.out.2]; congr 1; split <;> omega, Lib.hid HD.out.1⟩
      case measure => simp [intOf]; omega
     ·have HF := Lib.hid (HB.out (dStep_two0 d x (by omega) (by omega) h5))
      clear h4
      go_wp2_with (first
       | (go_at_call 125; refine (l1In_yes _ _ _ _ h1 h2).mono ?_; rintro e w' ⟨rfl, rfl⟩)
       | (go_at_call 200; refine (l5Takes_any _ _).mono ?_; rw [HT.out]; rintro e w' ⟨rfl, rfl⟩))
      go_ret
      exact ⟨ret_int HF.out.symm, rfl⟩
   ·have HF := Lib.hid (HB.out (dStep_out d x (by omega)))
    have h1' := h1
    clear h1
    go_wp2_with (go_at_call 125; refine (l1In_no _ _ _ _ h1').mono ?_; rintro e w' ⟨rfl, rfl⟩)
    go_ret
    exact ⟨ret_int HF.out.symm, rfl⟩
  ·have hkn : k = n := by omega
   have hrun' := hrun.out
   subst hkn
   rw [← HL.out, List.take_length] at hrun'
   have HTK : Hid (xs.take k = xs) := Lib.hid (by rw [← HL.out]; exact List.take_length)
   by_cases hsz : 1 ≤ k ∧ k ≤ 40
   ·obtain ⟨hn1, hn2⟩ := hsz
    by_cases hd1 : d = 1
    ·subst hd1
     have HG := Lib.hid (codeOk_good xs (by rw [HL.out]; exact ⟨hn1, hn2⟩) hrun')
     clear hrun'
     go_wp2_with (go_at_call 125; refine (l1In_yes _ _ _ _ (by omega) (by omega)).mono ?_; rintro e w' ⟨rfl, rfl⟩)
     go_ret
     refine ⟨ret_int ?_, rfl⟩
     unfold codeDepth
     rw [HG.out, if_pos rfl]
     show ((mRun 0 0 (xs.take k) : Nat) : Int) = _
     rw [HTK.out]
    ·have HF := Lib.hid (HBAD.out (codeOk_end xs d hrun' hd1))
     have hne : (((d : Nat) : Int) != 1) = true := by rw [bne_iff_ne]; omega
     clear hrun' hd1
     go_wp2_with (go_at_call 125; refine (l1In_yes _ _ _ _ (by omega) (by omega)).mono ?_; rintro e w' ⟨rfl, rfl⟩)
     go_ret
     exact ⟨ret_int HF.out.symm, rfl⟩
   ·have HF := Lib.hid (HBAD.out (codeOk_long xs (by rw [HL.out]; exact hsz)))
    clear hrun'
    go_wp2_with (go_at_call 125; refine (l1In_no _ _ _ _ (by omega)).mono ?_; rintro e w' ⟨rfl, rfl⟩)
    go_ret
    exact ⟨ret_int HF.out.symm, rfl⟩
theorem codeValid_spec (A : Option Addr) (n c : Nat) (xs : List Int) (w : World) (h : RdI .i64 w w.heap.size A n c xs) (hn40 : n ≤ 1099511627776) :
  Calls Tryz.prog 135 #[.slice A n c] w fun e w' => e = .returned (.bool (codeOk xs)) ∧ w = w' := by
 have hb := codeDepth_bd xs
 cases hok : codeOk xs
 ·have h1 := hb.2 hok
  have HK := Lib.hid hok
  clear hb hok
  go_enter Tryz.func135, Tryz.ntmps135
  go_wp2_with (go_at_call 177; refine (codeDepth_spec A n c xs _ h hn40).mono ?_; rintro e w' ⟨rfl, rfl⟩)
  go_ret
  exact ⟨rfl, rfl⟩
 ·obtain ⟨h1, h2⟩ := hb.1 hok
  have HK := Lib.hid hok
  clear hb hok
  go_enter Tryz.func135, Tryz.ntmps135
  go_wp2_with (go_at_call 177; refine (codeDepth_spec A n c xs _ h hn40).mono ?_; rintro e w' ⟨rfl, rfl⟩)
  go_ret
  exact ⟨ret_bool (decide_eq_true (show 0 < codeDepth xs by omega)), rfl⟩
theorem codeValid_impl (A : Option Addr) (n c : Nat) (xs : List Int) (w : World) (h : RdI .i64 w w.heap.size A n c xs) :
  Calls Tryz.prog 140 #[.slice A n c] w fun e w' => e = .returned (.bool (codeOk xs)) ∧ w = w' := by
 have hb := codeDepth_bd xs
 cases hok : codeOk xs
 ·have h1 := hb.2 hok
  have HK := Lib.hid hok
  clear hb hok
  go_enter Tryz.func140, Tryz.ntmps140
  go_wp2_with (go_at_call 178; refine (codeDepth_impl A n c xs _ h).mono ?_; rintro e w' ⟨rfl, rfl⟩)
  go_ret
  exact ⟨rfl, rfl⟩
 ·obtain ⟨h1, h2⟩ := hb.1 hok
  have HK := Lib.hid hok
  have hne : (codeDepth xs != -1) = true := by rw [bne_iff_ne]; omega
  clear hb hok
  go_enter Tryz.func140, Tryz.ntmps140
  go_wp2_with (go_at_call 178; refine (codeDepth_impl A n c xs _ h).mono ?_; rintro e w' ⟨rfl, rfl⟩)
  go_ret
  exact ⟨rfl, rfl⟩
end Go.Proofs.YtkmcengmglgdeaaGreatDoor
