/- Reached, LeadsTo, StepsLeast, StepsFrom and DeedDo of the program. Printed by gen_reach.py. -/
import Derived.Test.YtkimgdfcgfhibaaDoorSStepsOn
import Derived.Test.YtkimgdfcgfhibaaDoorSPlanForW
namespace Go.Proofs.YtkimgdfcgfhibaaDoor
set_option linter.unusedVariables false
set_option linter.unusedSimpArgs false
open Go.ChangeShapes Go.WideShapes Go.ChangeAt Go.RowKit

def reached (t : TaskD) : Int := if taskOk t then (mset (fwd t.deeds (only t.start.toNat) 32) 32 : Nat) else -1
theorem reached_no (t : TaskD) (h : taskOk t = false) : reached t = -1 := if_neg (by rw [h]; simp)
theorem reached_yes (t : TaskD) (h : taskOk t = true) (s : Nat) (hs : t.start = (s : Int)) : reached t = (mset (fwd t.deeds (only s) 32) 32 : Nat) := by unfold reached; rw [if_pos h, hs, Int.toNat_natCast]
def leadsTo (t : TaskD) : Int := if taskOk t then (mset (layer t.deeds (evalCode t.goal) 32) 32 : Nat) else -1
def stepsLeast (t : TaskD) : List Int := if taskOk t then stepsL t.deeds (evalCode t.goal) else []
theorem stepsLeast_no (t : TaskD) (h : taskOk t = false) : stepsLeast t = [] := if_neg (by rw [h]; simp)
theorem stepsLeast_yes (t : TaskD) (h : taskOk t = true) (s : Nat) (hs : t.start = (s : Int)) : stepsLeast t = stepsL t.deeds (evalCode t.goal) := if_pos h
def stepsFrom (t : TaskD) : List Int := if taskOk t then distL t.deeds (only t.start.toNat) else []
theorem stepsFrom_no (t : TaskD) (h : taskOk t = false) : stepsFrom t = [] := if_neg (by rw [h]; simp)
theorem stepsFrom_yes (t : TaskD) (h : taskOk t = true) (s : Nat) (hs : t.start = (s : Int)) : stepsFrom t = distL t.deeds (only s) := by unfold stepsFrom; rw [if_pos h, hs, Int.toNat_natCast]
theorem fwd_or {ds : List DeedD} {p : Nat → Bool} {m M N : Nat} (hM : M = mset (fwd ds p m) 32) (hN : N = mset (fwdP ds (fwd ds p m)) 32) : bits .or .i64 (M : Int) (N : Int) = ((mset (fwd ds p (m + 1)) 32 : Nat) : Int) := by
  have h1 := mset32_lt (fwd ds p m)
  have h2 := mset32_lt (fwdP ds (fwd ds p m))
  rw [i64_or_nat _ _ (by omega) (by omega), hM, hN, mset_or]; rfl
theorem fwd_le {ds : List DeedD} {p : Nat → Bool} {m : Nat} : mset (fwd ds p m) 32 ≤ mset (fwd ds p (m + 1)) 32 := by
  have : mset (fwd ds p (m + 1)) 32 = mset (fwd ds p m) 32 ||| mset (fwdP ds (fwd ds p m)) 32 := by rw [mset_or]; rfl
  rw [this]; exact Nat.left_le_or
theorem fwd_end {ds : List DeedD} {p : Nat → Bool} {m : Nat} (hm : m ≤ 32) (h : mset (fwd ds p (m + 1)) 32 = mset (fwd ds p m) 32) : mset (fwd ds p m) 32 = mset (fwd ds p 32) 32 := by
  have hf : ffixedAt ds p m := fun s hs hb => by
    have := mset_inj h s hs
    rw [← this]; simp [fwd, hb]
  exact mset_congr fun s hs => by
    have := ffixed_fwd hf (32 - m) s hs
    rwa [show m + (32 - m) = 32 by omega, eq_comm] at this
/-- a chain that grows ends within 32 rounds -/
theorem fwd_grow {ds : List DeedD} {p : Nat → Bool} {m : Nat} (h : mset (fwd ds p (m + 1)) 32 ≠ mset (fwd ds p m) 32) (hc : m ≤ cnt (fwd ds p m) 32) : m + 1 ≤ cnt (fwd ds p (m + 1)) 32 := by
  have hf : ¬ ffixedAt ds p m := fun hf => h (mset_congr fun s hs => by
    simp only [fwd]
    cases hb : fwdP ds (fwd ds p m) s with
    | false => simp
    | true => rw [hf s hs hb]; rfl)
  have := cnt_growF hf; omega
def deedDoZ (d : DeedD) (s : Int) : Int := if deedOk d = true ∧ stIn s = true then opt (deedDo d s.toNat) else -1
set_option maxRecDepth 100000 in
set_option maxHeartbeats 1000000 in
theorem reached_impl (v : Value) (t : TaskD) (w : World) (h : RdT w w.heap.size v t) :
    Calls Tryd.prog 29 #[v] w fun e w' => e = .returned (.int .i64 (reached t)) ∧ Below w.heap.size w w' := by
  have h' := h
  obtain ⟨G, gn, gc, G', n', c', rfl, hg, hgs, hds, hst⟩ := h
  have S0 := (St.refl w).alloc #[.int .i64 t.start, .slice G gn gc, .slice G' n' c'] 26
  have HT := Lib.hid h'
  have HG := Lib.hid hg
  have HS0 := Lib.hid S0
  have HDL := Lib.hid hds.len
  clear S0 h' hg hds
  obtain ⟨bo, hok⟩ : ∃ b, taskOk t = b := ⟨_, rfl⟩
  have HOK := Lib.hid hok
  clear hok
  cases bo with
  | false =>
    have HPN := Bx.mk (reached_no t HOK.out)
    go_enter Tryd.func29, Tryd.ntmps29
    go_wp2_with fail
    refine (taskValid_impl _ t _ (HT.out.up HS0.out.below)).mono ?_
    rw [HOK.out]
    rintro e w1 ⟨rfl, hb1⟩
    have HB := Lib.hid (HS0.out.quiet hb1).below
    clear hb1
    go_wp2
    go_ret
    exact ⟨ret_int HPN.out.symm, HB.out⟩
  | true =>
    obtain ⟨hs0, hgok, hn6, hdok⟩ := taskOk_parts t HOK.out
    obtain ⟨s0, hst0⟩ := Int.eq_ofNat_of_zero_le hs0.1
    have HDOK := Lib.hid hdok
    have HGOK := Lib.hid hgok
    have hs32 : s0 < 32 := by omega
    have hpw0 := wrap_pow s0 (by omega)
    have hpwi : IntKind.i64.wrap ((2 : Int) ^ s0) = 2 ^ s0 := IntWalk.i64_in _ (by have := pow_le_int s0 31 (by omega); have : (0 : Int) < 2 ^ s0 := Int.pow_pos (by omega); omega)
    have HTR := Bx.mk (codeTruth_yes t.goal HGOK.out)
    have hn6' : n' ≤ 6 := by rw [← HDL.out]; exact hn6
    have HPY := Bx.mk (reached_yes t HOK.out s0 hst0)
    rw [hst0] at HS0 ⊢
    clear hdok hgok hs0 hn6
    go_enter Tryd.func29, Tryd.ntmps29
    go_wp2_with fail
    refine (taskValid_impl _ t _ (by rw [← hst0]; rw [← hst0] at HS0; exact HT.out.up HS0.out.below)).mono ?_
    rw [HOK.out]
    rintro e w1 ⟨rfl, hb1⟩
    have HST0 := Bx.mk hst0
    have HS1 := Lib.hid (HS0.out.quiet hb1)
    clear hb1 HS0
    go_upto_region 3 with (fail)
    refine wp_reg (σ := Value) (by kernel_rfl) (by kernel_rfl) (by kernel_rfl)
      (fun s i => match i with
        | 0 => .agg #[.int .i64 s0, .slice G gn gc, .slice G' n' c']
        | 1 => s
        | 2 => .pointer (some ⟨w.heap.size, 0, none⟩)
        | 3 => .int .i64 s0
        | 4 => .int .i64 (2 ^ s0)
        | 5 => s
        | 6 => .int .i64 (2 ^ s0)
        | _ => undef)
      (fun D s wx => Sn w wx fun i => match i with
        | 0 => some (rBlk w.heap.size 26 #[.int .i64 s0, .slice G gn gc, .slice G' n' c'])
        | 1 => if D 1 = true then some (rBeh s t.deeds) else none
        | _ => none)
      undef ?_ ?_ ?_
    · intro D hD
      refine ((Sn.of_st HS1.out).quiet ((Below.refl _ _).drew)).congr fun i => ?_
      match i with
      | 0 => rfl
      | 1 => exact if_neg (by rw [hD 1 (by decide)]; simp)
      | q + 2 => rfl
    · refine StepAll.cons (fun D s wx hR (hDi : D 0 = false) hd hsh a' hs K hK => ?_) ?_
      · have e1 := hs.old 1 (u := .pointer (some ⟨w.heap.size, 0, none⟩)) (by kernel_rfl) rfl
        clear hs
        have kb : Blk wx (w.heap.size) 26 #[.int .i64 s0, .slice G gn gc, .slice G' n' c'] := hR.blk 0 rfl
        have c0 : wx.cell? ⟨w.heap.size, 0, none⟩ = some (.int .i64 s0) := kb.cell 0
        have c1 : wx.cell? ⟨w.heap.size, 1, none⟩ = some (.slice G gn gc) := kb.cell 1
        have c2 : wx.cell? ⟨w.heap.size, 2, none⟩ = some (.slice G' n' c') := kb.cell 2
        go_simp
        exact hK s wx (fun _ _ => rfl) hR
      refine StepAll.cons (fun D s wx hR (hDi : D 1 = false) hd hsh a' hs K hK => ?_) ?_
      · have e9 := hs.at_ 0 9 (u := .agg #[.int .i64 s0, .slice G gn gc, .slice G' n' c']) rfl (hd ⟨0, .data⟩ (by simp) rfl) (by kernel_rfl) (by kernel_rfl) rfl
        have g9 := getQ e9
        clear hs
        have n5 : D 5 = false := hsh.no hDi 5 rfl ⟨1, .data⟩ (by simp) rfl rfl
        go_simp
        refine (behindAll_any _ t _ (by have := HT.out.up hR.below; rw [HST0.out] at this; exact this) HOK.out).mono ?_
        rintro e2 w2 ⟨v2, rfl, s2⟩
        refine hK v2 w2
          (fun j hj => by
            match j, hj with
            | 0, hj => rfl
            | 1, hj => rw [hDi] at hj; cases hj
            | 2, hj => rfl
            | 3, hj => rfl
            | 4, hj => rfl
            | 5, hj => rw [n5] at hj; cases hj
            | 6, hj => rfl
            | _ + 7, hj => rfl)
          ((hR.add 1 (if_neg (by rw [hDi]; simp)) s2).congr
            (fun i => by
              match i with
              | 0 => rfl
              | 1 => rfl
              | q + 2 => exact (if_neg (show ¬ (q + 2 = 1) by omega)).symm))
      refine StepAll.cons (fun D s wx hR (hDi : D 2 = false) hd hsh a' hs K hK => ?_) ?_
      · have e1 := hs.old 1 (u := .pointer (some ⟨w.heap.size, 0, none⟩)) (by kernel_rfl) rfl
        clear hs
        go_simp
        exact hK s wx (fun _ _ => rfl) hR
      refine StepAll.cons (fun D s wx hR (hDi : D 3 = false) hd hsh a' hs K hK => ?_) ?_
      · have e11 := hs.at_ 2 11 (u := .pointer (some ⟨w.heap.size, 0, none⟩)) rfl (hd ⟨2, .data⟩ (by simp) rfl) (by kernel_rfl) (by kernel_rfl) rfl
        clear hs
        have kb : Blk wx (w.heap.size) 26 #[.int .i64 s0, .slice G gn gc, .slice G' n' c'] := hR.blk 0 rfl
        have c0 : wx.cell? ⟨w.heap.size, 0, none⟩ = some (.int .i64 s0) := kb.cell 0
        go_simp
        exact hK s wx (fun _ _ => rfl) hR
      refine StepAll.cons (fun D s wx hR (hDi : D 4 = false) hd hsh a' hs K hK => ?_) ?_
      · have e12 := hs.at_ 3 12 (u := .int .i64 s0) rfl (hd ⟨3, .data⟩ (by simp) rfl) (by kernel_rfl) (by kernel_rfl) rfl
        clear hs
        go_simp
        exact hK s wx (fun _ _ => rfl) hR
      refine StepAll.cons (fun D s wx hR (hDi : D 5 = false) hd hsh a' hs K hK => ?_) ?_
      · have e10 := hs.at_ 1 10 (u := s) rfl (hd ⟨1, .data⟩ (by simp) rfl) (by kernel_rfl) (by kernel_rfl) rfl
        clear hs
        go_simp
        exact hK s wx (fun _ _ => rfl) hR
      refine StepAll.cons (fun D s wx hR (hDi : D 6 = false) hd hsh a' hs K hK => ?_) ?_
      · have e13 := hs.at_ 4 13 (u := .int .i64 (2 ^ s0)) rfl (hd ⟨4, .data⟩ (by simp) rfl) (by kernel_rfl) (by kernel_rfl) rfl
        clear hs
        go_simp
        exact hK s wx (fun _ _ => rfl) hR
      exact StepAll.nil
    · intro D s wx hR hD
      simp only [putA, Act.put, List.setIfInBounds_toArray, List.set_cons_zero, List.set_cons_succ]
      have HS2 : Hid (St w wx [rBlk w.heap.size 26 #[.int .i64 s0, .slice G gn gc, .slice G' n' c'], rBeh s t.deeds]) := Lib.hid (hR.to_st [0, 1] (by decide) (by simp only [List.map, hD 1 (by decide)]; rfl))
      clear hR hD
      obtain ⟨RA, RC, hrv, -⟩ := HS2.out.rdRow 1 rfl
      rw [HDL.out] at hrv
      subst hrv
      have HRB : Hid (∀ W L, St w W (rBlk w.heap.size 26 #[.int .i64 s0, .slice G gn gc, .slice G' n' c'] :: rBeh (.slice RA n' RC) t.deeds :: L) → RdRow W W.heap.size 32 RA n' RC (ints (behL t.deeds))) := Lib.hid fun W L h => h.rdRow' (n := n') 1 (by rw [← HDL.out]; rfl)
      have hP0 : (2 : Int) ^ s0 = ((mset (fwd t.deeds (only s0) 0) 32 : Nat) : Int) := by
        rw [show mset (fwd t.deeds (only s0) 0) 32 = mset (only s0) 32 from rfl, mset_only hs32]; simp
      rw [hP0]
      clear hP0 hpw0 hpwi
      go_wp2
      go_loopw [4] (fun sv wr => ∃ m M : Nat, m ≤ 32 ∧ sv = .int .i64 M ∧ Bx (M = mset (fwd t.deeds (only s0) m) 32) ∧ Bx (m ≤ cnt (fwd t.deeds (only s0) m) 32) ∧ M < 4294967296 ∧ St w wr [rBlk w.heap.size 26 #[.int .i64 s0, .slice G gn gc, .slice G' n' c'], rBeh (.slice RA n' RC) t.deeds]) (fun sv _ => 4294967296 - (intOf sv).toNat)
      case atStart => exact ⟨0, _, by omega, rfl, Bx.mk rfl, Bx.mk (Nat.zero_le _), mset32_lt _, HS2.out⟩
      case round =>
        clear HS2
        obtain ⟨m, M, hm, rfl, HM, HC, hM, S⟩ := hrel
        have HS := Lib.hid S
        clear S
        go_wp2_with fail
        refine (nextStates_any RA n' RC t.deeds M _ (HRB.out _ _ HS.out) HDL.out HDOK.out hn6' hM).mono ?_
        obtain ⟨N, hN⟩ : ∃ N, mset (fwdP t.deeds (setP M)) 32 = N := ⟨_, rfl⟩
        obtain ⟨M2, hM2⟩ : ∃ M2, mset (fwd t.deeds (only s0) (m + 1)) 32 = M2 := ⟨_, rfl⟩
        have HOR : bits .or .i64 (M : Int) (N : Int) = (M2 : Int) := by rw [fwd_or HM.out (by rw [← hN, HM.out]; exact fwd_set _), hM2]
        have hle : M ≤ M2 := by rw [← hM2, HM.out]; exact fwd_le
        have hM2l : M2 < 4294967296 := by rw [← hM2]; exact mset32_lt _
        have HM2 := Bx.mk hM2
        rw [hN]
        rintro e w3 ⟨rfl, hb3⟩
        have HS3 := Lib.hid (HS.out.quiet hb3)
        clear hb3 hN hM2
        by_cases he : M2 = M
        · have HF : Bx (mset (fwd t.deeds (only s0) m) 32 = mset (fwd t.deeds (only s0) 32) 32) := Bx.mk (fwd_end hm (by rw [HM2.out, ← HM.out]; exact he))
          subst he
          go_wp2
          go_ret
          exact ⟨ret_int (by rw [HPY.out, ← HF.out, ← HM.out]), HS3.out.below⟩
        · have hne : ((M2 : Int) == (M : Int)) = false := by simp; omega
          have HC2 : Bx (m + 1 ≤ cnt (fwd t.deeds (only s0) (m + 1)) 32) := Bx.mk (fwd_grow (by rw [HM2.out, ← HM.out]; exact he) HC.out)
          have hm2 : m + 1 ≤ 32 := by have := cnt_le (fwd t.deeds (only s0) (m + 1)) 32; have := HC2.out; omega
          have hlt : M < M2 := by omega
          clear he hle
          go_wp2
          go_roundw
          case rel => exact ⟨m + 1, M2, hm2, rfl, Bx.mk HM2.out.symm, HC2, hM2l, HS3.out⟩
          case measure => simp [intOf]; omega
set_option maxRecDepth 100000 in
set_option maxHeartbeats 1000000 in
theorem stepsLeast_impl (v : Value) (t : TaskD) (w : World) (h : RdT w w.heap.size v t) :
    Calls Tryd.prog 27 #[v] w (Gives w id fun v => [rInts v (stepsLeast t)]) := by
  have h' := h
  obtain ⟨G, gn, gc, G', n', c', rfl, hg, hgs, hds, hst⟩ := h
  have S0 := (St.refl w).alloc #[.int .i64 t.start, .slice G gn gc, .slice G' n' c'] 26
  have HT := Lib.hid h'
  have HG := Lib.hid hg
  have HS0 := Lib.hid S0
  have HDL := Lib.hid hds.len
  clear S0 h' hg hds
  obtain ⟨bo, hok⟩ : ∃ b, taskOk t = b := ⟨_, rfl⟩
  have HOK := Lib.hid hok
  clear hok
  cases bo with
  | false =>
    have HPN := Bx.mk (stepsLeast_no t HOK.out)
    go_enter Tryd.func27, Tryd.ntmps27
    go_wp2_with fail
    refine (taskValid_impl _ t _ (HT.out.up HS0.out.below)).mono ?_
    rw [HOK.out]
    rintro e w1 ⟨rfl, hb1⟩
    have HB := Lib.hid (HS0.out.quiet hb1).below
    clear hb1
    go_wp2
    go_ret
    exact ⟨_, rfl, by rw [HPN.out]; exact rInts_nil w _ HB.out⟩
  | true =>
    obtain ⟨hs0, hgok, hn6, hdok⟩ := taskOk_parts t HOK.out
    obtain ⟨s0, hst0⟩ := Int.eq_ofNat_of_zero_le hs0.1
    have HDOK := Lib.hid hdok
    have HGOK := Lib.hid hgok
    have hs32 : s0 < 32 := by omega
    have hpw0 := wrap_pow s0 (by omega)
    have hpwi : IntKind.i64.wrap ((2 : Int) ^ s0) = 2 ^ s0 := IntWalk.i64_in _ (by have := pow_le_int s0 31 (by omega); have : (0 : Int) < 2 ^ s0 := Int.pow_pos (by omega); omega)
    have HTR := Bx.mk (codeTruth_yes t.goal HGOK.out)
    have hn6' : n' ≤ 6 := by rw [← HDL.out]; exact hn6
    have HPY := Bx.mk (stepsLeast_yes t HOK.out s0 hst0)
    rw [hst0] at HS0 ⊢
    clear hdok hgok hs0 hn6
    go_enter Tryd.func27, Tryd.ntmps27
    go_wp2_with fail
    refine (taskValid_impl _ t _ (by rw [← hst0]; rw [← hst0] at HS0; exact HT.out.up HS0.out.below)).mono ?_
    rw [HOK.out]
    rintro e w1 ⟨rfl, hb1⟩
    have HST0 := Bx.mk hst0
    have HS1 := Lib.hid (HS0.out.quiet hb1)
    clear hb1 HS0
    clear hpw0 hpwi
    go_upto_region 3 with (fail)
    refine wp_reg (σ := Value × Value) (by kernel_rfl) (by kernel_rfl) (by kernel_rfl)
      (fun s i => match i with
        | 0 => .agg #[.int .i64 s0, .slice G gn gc, .slice G' n' c']
        | 1 => s.1
        | 2 => .pointer (some ⟨w.heap.size, 1, none⟩)
        | 3 => .slice G gn gc
        | 4 => .int .i64 (truthN t.goal : Nat)
        | 5 => s.2
        | 6 => s.2
        | _ => undef)
      (fun D s wx => Sn w wx fun i => match i with
        | 0 => some (rBlk w.heap.size 26 #[.int .i64 s0, .slice G gn gc, .slice G' n' c'])
        | 1 => if D 1 = true then some (rBeh s.1 t.deeds) else none
        | 2 => if D 5 = true then some (rInts s.2 (stepsL t.deeds (evalCode t.goal))) else none
        | _ => none)
      (undef, undef) ?_ ?_ ?_
    · intro D hD
      refine ((Sn.of_st HS1.out).quiet ((Below.refl _ _).drew)).congr fun i => ?_
      match i with
      | 0 => rfl
      | 1 => exact if_neg (by rw [hD 1 (by decide)]; simp)
      | 2 => exact if_neg (by rw [hD 5 (by decide)]; simp)
      | q + 3 => rfl
    · refine StepAll.cons (fun D s wx hR (hDi : D 0 = false) hd hsh a' hs K hK => ?_) ?_
      · have e1 := hs.old 1 (u := .pointer (some ⟨w.heap.size, 0, none⟩)) (by kernel_rfl) rfl
        clear hs
        have kb : Blk wx (w.heap.size) 26 #[.int .i64 s0, .slice G gn gc, .slice G' n' c'] := hR.blk 0 rfl
        have c0 : wx.cell? ⟨w.heap.size, 0, none⟩ = some (.int .i64 s0) := kb.cell 0
        have c1 : wx.cell? ⟨w.heap.size, 1, none⟩ = some (.slice G gn gc) := kb.cell 1
        have c2 : wx.cell? ⟨w.heap.size, 2, none⟩ = some (.slice G' n' c') := kb.cell 2
        go_simp
        exact hK s wx (fun _ _ => rfl) hR
      refine StepAll.cons (fun D s wx hR (hDi : D 1 = false) hd hsh a' hs K hK => ?_) ?_
      · have e6 := hs.at_ 0 6 (u := .agg #[.int .i64 s0, .slice G gn gc, .slice G' n' c']) rfl (hd ⟨0, .data⟩ (by simp) rfl) (by kernel_rfl) (by kernel_rfl) rfl
        have g6 := getQ e6
        clear hs
        have n5 : D 5 = false := hsh.no hDi 5 rfl ⟨1, .data⟩ (by simp) rfl rfl
        have n6 : D 6 = false := hsh.no n5 6 rfl ⟨5, .data⟩ (by simp) rfl rfl
        go_simp
        refine (behindAll_any _ t _ (by have := HT.out.up hR.below; rw [HST0.out] at this; exact this) HOK.out).mono ?_
        rintro e2 w2 ⟨v2, rfl, s2⟩
        refine hK (v2, s.2) w2
          (fun j hj => by
            match j, hj with
            | 0, hj => rfl
            | 1, hj => rw [hDi] at hj; cases hj
            | 2, hj => rfl
            | 3, hj => rfl
            | 4, hj => rfl
            | 5, hj => rw [n5] at hj; cases hj
            | 6, hj => rw [n6] at hj; cases hj
            | _ + 7, hj => rfl)
          ((hR.add 1 (if_neg (by rw [hDi]; simp)) s2).congr
            (fun i => by
              match i with
              | 0 => rfl
              | 1 => rfl
              | 2 => rfl
              | q + 3 => exact (if_neg (show ¬ (q + 3 = 1) by omega)).symm))
      refine StepAll.cons (fun D s wx hR (hDi : D 2 = false) hd hsh a' hs K hK => ?_) ?_
      · have e1 := hs.old 1 (u := .pointer (some ⟨w.heap.size, 0, none⟩)) (by kernel_rfl) rfl
        clear hs
        go_simp
        exact hK s wx (fun _ _ => rfl) hR
      refine StepAll.cons (fun D s wx hR (hDi : D 3 = false) hd hsh a' hs K hK => ?_) ?_
      · have e8 := hs.at_ 2 8 (u := .pointer (some ⟨w.heap.size, 1, none⟩)) rfl (hd ⟨2, .data⟩ (by simp) rfl) (by kernel_rfl) (by kernel_rfl) rfl
        clear hs
        have kb : Blk wx (w.heap.size) 26 #[.int .i64 s0, .slice G gn gc, .slice G' n' c'] := hR.blk 0 rfl
        have c0 : wx.cell? ⟨w.heap.size, 1, none⟩ = some (.slice G gn gc) := kb.cell 1
        go_simp
        exact hK s wx (fun _ _ => rfl) hR
      refine StepAll.cons (fun D s wx hR (hDi : D 4 = false) hd hsh a' hs K hK => ?_) ?_
      · have e9 := hs.at_ 3 9 (u := .slice G gn gc) rfl (hd ⟨3, .data⟩ (by simp) rfl) (by kernel_rfl) (by kernel_rfl) rfl
        have g9 := getQ e9
        clear hs
        go_simp
        refine (codeTruth_impl G gn gc t.goal _ (HG.out.up hR.below)).mono ?_
        rw [HTR.out]
        rintro e2 w2 ⟨rfl, hb2⟩
        exact hK s w2 (fun _ _ => rfl) (hR.quiet hb2)
      refine StepAll.cons (fun D s wx hR (hDi : D 5 = false) hd hsh a' hs K hK => ?_) ?_
      · have e7 := hs.at_ 1 7 (u := s.1) rfl (hd ⟨1, .data⟩ (by simp) rfl) (by kernel_rfl) (by kernel_rfl) rfl
        have e10 := hs.at_ 4 10 (u := .int .i64 (truthN t.goal : Nat)) rfl (hd ⟨4, .data⟩ (by simp) rfl) (by kernel_rfl) (by kernel_rfl) rfl
        have g7 := getQ e7
        have g10 := getQ e10
        clear hs
        have n6 : D 6 = false := hsh.no hDi 6 rfl ⟨5, .data⟩ (by simp) rfl rfl
        have d1 : D 1 = true := hd ⟨1, .data⟩ (by simp) rfl
        have s1 : St w wx [rBlk w.heap.size 26 #[.int .i64 s0, .slice G gn gc, .slice G' n' c'], rBeh s.1 t.deeds] := hR.to_st [0, 1] (by decide) (by simp only [List.map, d1]; rfl)
        obtain ⟨RA, RC, hrv, -⟩ := s1.rdRow 1 rfl
        rw [HDL.out] at hrv
        rw [hrv] at s1
        have hrr := s1.rdRow' (n := n') 1 (by rw [← HDL.out]; rfl)
        go_simp
        refine (stepsBack_any RA n' RC t.deeds (evalCode t.goal) (truthN t.goal) _ hrr HDL.out HDOK.out hn6' rfl).mono ?_
        rintro e2 w2 ⟨v2, rfl, s2⟩
        refine hK (s.1, v2) w2
          (fun j hj => by
            match j, hj with
            | 0, hj => rfl
            | 1, hj => rfl
            | 2, hj => rfl
            | 3, hj => rfl
            | 4, hj => rfl
            | 5, hj => rw [hDi] at hj; cases hj
            | 6, hj => rw [n6] at hj; cases hj
            | _ + 7, hj => rfl)
          ((hR.add 2 (if_neg (by rw [hDi]; simp)) s2).congr
            (fun i => by
              match i with
              | 0 => rfl
              | 1 => rfl
              | 2 => rfl
              | q + 3 => exact (if_neg (show ¬ (q + 3 = 2) by omega)).symm))
      refine StepAll.cons (fun D s wx hR (hDi : D 6 = false) hd hsh a' hs K hK => ?_) ?_
      · have e11 := hs.at_ 5 11 (u := s.2) rfl (hd ⟨5, .data⟩ (by simp) rfl) (by kernel_rfl) (by kernel_rfl) rfl
        clear hs
        go_simp
        exact hK s wx (fun _ _ => rfl) hR
      exact StepAll.nil
    · intro D s wx hR hD
      simp only [putA, Act.put, List.setIfInBounds_toArray, List.set_cons_zero, List.set_cons_succ]
      have HS2 : Hid (St w wx [rBlk w.heap.size 26 #[.int .i64 s0, .slice G gn gc, .slice G' n' c'], rBeh s.1 t.deeds, rInts s.2 (stepsL t.deeds (evalCode t.goal))]) := Lib.hid (hR.to_st [0, 1, 2] (by decide) (by simp only [List.map, hD 1 (by decide), hD 5 (by decide)]; rfl))
      clear hR hD
      go_wp2
      go_ret
      exact ⟨_, rfl, by rw [HPY.out]; exact HS2.out.pick [2] (by decide) rfl rfl⟩
end Go.Proofs.YtkimgdfcgfhibaaDoor
