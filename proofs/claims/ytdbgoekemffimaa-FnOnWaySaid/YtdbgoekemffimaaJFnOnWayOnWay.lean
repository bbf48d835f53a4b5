/- OnWay of the program. Printed by gen_ow.py. -/
import Derived.Test.YtdbgoekemffimaaJFnOnWayFrom
namespace Go.Proofs.Ytdbgoekemffimaa
set_option linter.unusedVariables false
open Go.ChangeShapes Go.WideShapes Go.ChangeAt Go.RowKit

/-- the state lies on a shortest way -/
def onP (ds : List DeedD) (p : Nat → Bool) (s0 : Nat) (s : Nat) : Bool := decide (0 ≤ stpV ds p s0 ∧ 0 ≤ dstV ds (only s0) s ∧ 0 ≤ stpV ds p s ∧ dstV ds (only s0) s + stpV ds p s = stpV ds p s0)
def onWay (t : TaskD) : Int := if taskOk t then (mset (onP t.deeds (evalCode t.goal) t.start.toNat) 32 : Nat) else -1
theorem onWay_no (t : TaskD) (h : taskOk t = false) : onWay t = -1 := if_neg (by rw [h]; simp)
theorem onWay_yes (t : TaskD) (h : taskOk t = true) (s : Nat) (hs : t.start = (s : Int)) : onWay t = (mset (onP t.deeds (evalCode t.goal) s) 32 : Nat) := by unfold onWay; rw [if_pos h, hs, Int.toNat_natCast]
theorem dstV_bd (ds : List DeedD) (p : Nat → Bool) (s : Nat) : -1 ≤ dstV ds p s ∧ dstV ds p s ≤ 32 := dstN_le (ds := ds) (S := p) (n := 32) (s := s)
set_option maxRecDepth 100000 in
set_option maxHeartbeats 1000000 in
theorem onWay_impl (v : Value) (t : TaskD) (w : World) (h : RdT w w.heap.size v t) :
    Calls Try.prog 16 #[v] w fun e w' => e = .returned (.int .i64 (onWay t)) ∧ Below w.heap.size w w' := by
  have h' := h
  obtain ⟨G, gn, gc, G', n', c', rfl, hg, hgs, hds, hst⟩ := h
  have S0 := (St.refl w).alloc #[.int .i64 t.start, .slice G gn gc, .slice G' n' c'] 26
  have HT := Lib.hid h'
  have HG := Lib.hid hg
  have HS0 := Lib.hid S0
  have HDL := Lib.hid hds.len
  clear S0 h' hg hds
  obtain ⟨bo, hok⟩ : ∃ b, taskOk t = b := ⟨_, rfl⟩
  have HOK := Lib.hid hok
  clear hok
  cases bo with
  | false =>
    have HPN := Bx.mk (onWay_no t HOK.out)
    go_enter Try.func16, Try.ntmps16
    go_wp2_with fail
    refine (taskValid_impl _ t _ (HT.out.up HS0.out.below)).mono ?_
    rw [HOK.out]
    rintro e w1 ⟨rfl, hb1⟩
    have HB := Lib.hid (HS0.out.quiet hb1).below
    clear hb1
    go_wp2
    go_ret
    exact ⟨ret_int HPN.out.symm, HB.out⟩
  | true =>
    obtain ⟨hs0, hgok, hn6, hdok⟩ := taskOk_parts t HOK.out
    obtain ⟨s0, hst0⟩ := Int.eq_ofNat_of_zero_le hs0.1
    have HDOK := Lib.hid hdok
    have HGOK := Lib.hid hgok
    have hs32 : s0 < 32 := by omega
    have hpw0 := wrap_pow s0 (by omega)
    have hpwi : IntKind.i64.wrap ((2 : Int) ^ s0) = 2 ^ s0 := IntWalk.i64_in _ (by have := pow_le_int s0 31 (by omega); have : (0 : Int) < 2 ^ s0 := Int.pow_pos (by omega); omega)
    have HTR := Bx.mk (codeTruth_yes t.goal HGOK.out)
    have hn6' : n' ≤ 6 := by rw [← HDL.out]; exact hn6
    have HPY := Bx.mk (onWay_yes t HOK.out s0 hst0)
    rw [hst0] at HS0 ⊢
    clear hdok hgok hs0 hn6
    go_enter Try.func16, Try.ntmps16
    go_wp2_with fail
    refine (taskValid_impl _ t _ (by rw [← hst0]; rw [← hst0] at HS0; exact HT.out.up HS0.out.below)).mono ?_
    rw [HOK.out]
    rintro e w1 ⟨rfl, hb1⟩
    have HST0 := Bx.mk hst0
    have HS1 := Lib.hid (HS0.out.quiet hb1)
    clear hb1 HS0
    clear hpw0 hpwi
    have HFY := Bx.mk (stepsFrom_yes t HOK.out s0 HST0.out)
    have HLY := Bx.mk (stepsLeast_yes t HOK.out s0 HST0.out)
    go_upto_region 3 with (fail)
    refine wp_reg (σ := Value × Value) (by kernel_rfl) (by kernel_rfl) (by kernel_rfl)
      (fun s i => match i with
        | 0 => .agg #[.int .i64 s0, .slice G gn gc, .slice G' n' c']
        | 1 => s.1
        | 2 => .agg #[.int .i64 s0, .slice G gn gc, .slice G' n' c']
        | 3 => s.2
        | 4 => s.1
        | 5 => s.2
        | _ => undef)
      (fun D s wx => Sn w wx fun i => match i with
        | 0 => some (rBlk w.heap.size 26 #[.int .i64 s0, .slice G gn gc, .slice G' n' c'])
        | 1 => if D 1 = true then some (rInts s.1 (distL t.deeds (only s0))) else none
        | 2 => if D 3 = true then some (rInts s.2 (stepsL t.deeds (evalCode t.goal))) else none
        | _ => none)
      (undef, undef) ?_ ?_ ?_
    · intro D hD
      refine ((Sn.of_st HS1.out).quiet ((Below.refl _ _).drew)).congr fun i => ?_
      match i with
      | 0 => rfl
      | 1 => exact if_neg (by rw [hD 1 (by decide)]; simp)
      | 2 => exact if_neg (by rw [hD 3 (by decide)]; simp)
      | q + 3 => rfl
    · refine StepAll.cons (fun D s wx hR (hDi : D 0 = false) hd hsh a' hs K hK => ?_) ?_
      · have e1 := hs.old 1 (u := .pointer (some ⟨w.heap.size, 0, none⟩)) (by kernel_rfl) rfl
        clear hs
        have kb : Blk wx (w.heap.size) 26 #[.int .i64 s0, .slice G gn gc, .slice G' n' c'] := hR.blk 0 rfl
        have c0 : wx.cell? ⟨w.heap.size, 0, none⟩ = some (.int .i64 s0) := kb.cell 0
        have c1 : wx.cell? ⟨w.heap.size, 1, none⟩ = some (.slice G gn gc) := kb.cell 1
        have c2 : wx.cell? ⟨w.heap.size, 2, none⟩ = some (.slice G' n' c') := kb.cell 2
        go_simp
        exact hK s wx (fun _ _ => rfl) hR
      refine StepAll.cons (fun D s wx hR (hDi : D 1 = false) hd hsh a' hs K hK => ?_) ?_
      · have e11 := hs.at_ 0 11 (u := .agg #[.int .i64 s0, .slice G gn gc, .slice G' n' c']) rfl (hd ⟨0, .data⟩ (by simp) rfl) (by kernel_rfl) (by kernel_rfl) rfl
        have g11 := getQ e11
        clear hs
        have n4 : D 4 = false := hsh.no hDi 4 rfl ⟨1, .data⟩ (by simp) rfl rfl
        go_simp
        refine (stepsFrom_impl _ t _ (by have := HT.out.up hR.below; rw [HST0.out] at this; exact this)).mono ?_
        rw [HFY.out]
        rintro e2 w2 ⟨v2, rfl, s2⟩
        refine hK (v2, s.2) w2
          (fun j hj => by
            match j, hj with
            | 0, hj => rfl
            | 1, hj => rw [hDi] at hj; cases hj
            | 2, hj => rfl
            | 3, hj => rfl
            | 4, hj => rw [n4] at hj; cases hj
            | 5, hj => rfl
            | _ + 6, hj => rfl)
          ((hR.add 1 (if_neg (by rw [hDi]; simp)) s2).congr
            (fun i => by
              match i with
              | 0 => rfl
              | 1 => rfl
              | 2 => rfl
              | q + 3 => exact (if_neg (show ¬ (q + 3 = 1) by omega)).symm))
      refine StepAll.cons (fun D s wx hR (hDi : D 2 = false) hd hsh a' hs K hK => ?_) ?_
      · have e1 := hs.old 1 (u := .pointer (some ⟨w.heap.size, 0, none⟩)) (by kernel_rfl) rfl
        clear hs
        have kb : Blk wx (w.heap.size) 26 #[.int .i64 s0, .slice G gn gc, .slice G' n' c'] := hR.blk 0 rfl
        have c0 : wx.cell? ⟨w.heap.size, 0, none⟩ = some (.int .i64 s0) := kb.cell 0
        have c1 : wx.cell? ⟨w.heap.size, 1, none⟩ = some (.slice G gn gc) := kb.cell 1
        have c2 : wx.cell? ⟨w.heap.size, 2, none⟩ = some (.slice G' n' c') := kb.cell 2
        go_simp
        exact hK s wx (fun _ _ => rfl) hR
      refine StepAll.cons (fun D s wx hR (hDi : D 3 = false) hd hsh a' hs K hK => ?_) ?_
      · have e13 := hs.at_ 2 13 (u := .agg #[.int .i64 s0, .slice G gn gc, .slice G' n' c']) rfl (hd ⟨2, .data⟩ (by simp) rfl) (by kernel_rfl) (by kernel_rfl) rfl
        have g13 := getQ e13
        clear hs
        have n5 : D 5 = false := hsh.no hDi 5 rfl ⟨3, .data⟩ (by simp) rfl rfl
        go_simp
        refine (stepsLeast_impl _ t _ (by have := HT.out.up hR.below; rw [HST0.out] at this; exact this)).mono ?_
        rw [HLY.out]
        rintro e2 w2 ⟨v2, rfl, s2⟩
        refine hK (s.1, v2) w2
          (fun j hj => by
            match j, hj with
            | 0, hj => rfl
            | 1, hj => rfl
            | 2, hj => rfl
            | 3, hj => rw [hDi] at hj; cases hj
            | 4, hj => rfl
            | 5, hj => rw [n5] at hj; cases hj
            | _ + 6, hj => rfl)
          ((hR.add 2 (if_neg (by rw [hDi]; simp)) s2).congr
            (fun i => by
              match i with
              | 0 => rfl
              | 1 => rfl
              | 2 => rfl
              | q + 3 => exact (if_neg (show ¬ (q + 3 = 2) by omega)).symm))
      refine StepAll.cons (fun D s wx hR (hDi : D 4 = false) hd hsh a' hs K hK => ?_) ?_
      · have e12 := hs.at_ 1 12 (u := s.1) rfl (hd ⟨1, .data⟩ (by simp) rfl) (by kernel_rfl) (by kernel_rfl) rfl
        clear hs
        go_simp
        exact hK s wx (fun _ _ => rfl) hR
      refine StepAll.cons (fun D s wx hR (hDi : D 5 = false) hd hsh a' hs K hK => ?_) ?_
      · have e14 := hs.at_ 3 14 (u := s.2) rfl (hd ⟨3, .data⟩ (by simp) rfl) (by kernel_rfl) (by kernel_rfl) rfl
        clear hs
        go_simp
        exact hK s wx (fun _ _ => rfl) hR
      exact StepAll.nil
    · intro D s wx hR hD
      simp only [putA, Act.put, List.setIfInBounds_toArray, List.set_cons_zero, List.set_cons_succ]
      have HS2 : Hid (St w wx [rBlk w.heap.size 26 #[.int .i64 s0, .slice G gn gc, .slice G' n' c'], rInts s.1 (distL t.deeds (only s0)), rInts s.2 (stepsL t.deeds (evalCode t.goal))]) := Lib.hid (hR.to_st [0, 1, 2] (by decide) (by simp only [List.map, hD 1 (by decide), hD 3 (by decide)]; rfl))
      clear hR hD
      obtain ⟨gf, cf, hf⟩ := HS2.out.formI 1 rfl (distL_len _ _) (by omega)
      obtain ⟨gs, cs, hs⟩ := HS2.out.formI 2 rfl (stepsL_len _ _) (by omega)
      rw [hf, hs] at HS2 ⊢
      clear hf hs
      obtain ⟨v, hv⟩ : ∃ v, stpV t.deeds (evalCode t.goal) s0 = v := ⟨_, rfl⟩
      have HV := Bx.mk hv
      have hvb : -1 ≤ v ∧ v ≤ 32 := by rw [← hv]; exact stpV_bd _ _ s0
      have q1 : ∀ j, wx.cell? ⟨w.heap.size, j, none⟩ = _ := HS2.out.cells 0 rfl
      have c1 : wx.cell? ⟨gs, s0, none⟩ = some (.int .i64 v) := (HS2.out.cellI 2 rfl (stepsL_len _ _) s0 _ (by rw [← hv]; exact stepsL_at _ _ s0 hs32)).1
      have hsI : (s0 : Int) < 32 := by omega
      clear hv
      go_wp2
      go_loopw [22, 6] (fun iv sv wr => ∃ k M : Nat, k ≤ 32 ∧ iv = .int .i64 k ∧ sv = .int .i64 M ∧ Bx (M = mset (upto (onP t.deeds (evalCode t.goal) s0) k) 32) ∧ St w wr [rBlk w.heap.size 26 #[.int .i64 s0, .slice G gn gc, .slice G' n' c'], rInts (.slice (some ⟨gf, 0, none⟩) 32 cf) (distL t.deeds (only s0)), rInts (.slice (some ⟨gs, 0, none⟩) 32 cs) (stepsL t.deeds (evalCode t.goal))]) (fun iv _ _ => 32 - (intOf iv).toNat)
      case atStart => exact ⟨0, 0, by omega, rfl, rfl, Bx.mk (mset_upto0 _ _).symm, HS2.out⟩
      case round =>
        clear HS2 q1 c1
        obtain ⟨k, M, hk, rfl, rfl, HM, S⟩ := hrel
        have HS := Lib.hid S
        clear S
        by_cases hlt : k < 32
        · obtain ⟨f, hf⟩ : ∃ f, dstV t.deeds (only s0) k = f := ⟨_, rfl⟩
          obtain ⟨g, hg⟩ : ∃ g, stpV t.deeds (evalCode t.goal) k = g := ⟨_, rfl⟩
          have hfb : -1 ≤ f ∧ f ≤ 32 := by rw [← hf]; exact dstV_bd _ _ k
          have hgb : -1 ≤ g ∧ g ≤ 32 := by rw [← hg]; exact stpV_bd _ _ k
          have cf1 : wr.cell? ⟨gf, k, none⟩ = some (.int .i64 f) := (HS.out.cellI 1 rfl (distL_len _ _) k _ (by rw [← hf]; exact distL_at _ _ k hlt)).1
          have cg1 : wr.cell? ⟨gs, k, none⟩ = some (.int .i64 g) := (HS.out.cellI 2 rfl (stepsL_len _ _) k _ (by rw [← hg]; exact stepsL_at _ _ k hlt)).1
          have hkI : (k : Int) < 32 := by omega
          have HP : Bx (onP t.deeds (evalCode t.goal) s0 k = decide (0 ≤ v ∧ 0 ≤ f ∧ 0 ≤ g ∧ f + g = v)) := Bx.mk (by unfold onP; rw [HV.out, hf, hg])
          have hm32 : M < 4294967296 := by rw [HM.out]; exact mset32_lt _
          clear hf hg
          have hsk : IntKind.i64.wrap (f + g) = f + g := IntWalk.i64_in _ (by omega)
          have NO : ¬ (0 ≤ v ∧ 0 ≤ f ∧ 0 ≤ g ∧ f + g = v) → Bx (M = mset (upto (onP t.deeds (evalCode t.goal) s0) (k + 1)) 32) := fun h => Bx.mk (by rw [HM.out, upto_same _ _ (by rw [HP.out, decide_eq_false h])])
          by_cases h1 : 0 ≤ v
          case neg =>
            have HM2 := NO (fun h => h1 h.1)
            have hd1 : decide ((0 : Int) ≤ v) = false := decide_eq_false h1
            clear h1 NO
            go_upto_region 8 with (fail)
            go_quiet (fail)
            have HS3 := Lib.hid (HS.out.drewN nq)
            go_wp2
            go_roundw
            case rel => exact ⟨k + 1, M, by omega, by go_num, rfl, HM2, HS3.out⟩
            case measure => simp [intOf]; omega
          by_cases h2 : 0 ≤ f
          case neg =>
            have HM2 := NO (fun h => h2 h.2.1)
            have hd2 : decide ((0 : Int) ≤ f) = false := decide_eq_false h2
            clear h2 NO
            go_upto_region 8 with (fail)
            go_quiet (fail)
            have HS3 := Lib.hid (HS.out.drewN nq)
            go_wp2
            go_roundw
            case rel => exact ⟨k + 1, M, by omega, by go_num, rfl, HM2, HS3.out⟩
            case measure => simp [intOf]; omega
          by_cases h3 : 0 ≤ g
          case neg =>
            have HM2 := NO (fun h => h3 h.2.2.1)
            have hd3 : decide ((0 : Int) ≤ g) = false := decide_eq_false h3
            clear h3 NO
            go_upto_region 8 with (fail)
            go_quiet (fail)
            have HS3 := Lib.hid (HS.out.drewN nq)
            go_wp2
            go_roundw
            case rel => exact ⟨k + 1, M, by omega, by go_num, rfl, HM2, HS3.out⟩
            case measure => simp [intOf]; omega
          by_cases h4 : f + g = v
          case neg =>
            have HM2 := NO (fun h => h4 h.2.2.2)
            have hd4 : (f + g == v) = false := by simpa using h4
            clear h4 NO
            go_upto_region 8 with (fail)
            go_quiet (fail)
            have HS3 := Lib.hid (HS.out.drewN nq)
            go_wp2
            go_roundw
            case rel => exact ⟨k + 1, M, by omega, by go_num, rfl, HM2, HS3.out⟩
            case measure => simp [intOf]; omega
          have hd4 : (f + g == v) = true := by simpa using h4
          have hpw := wrap_pow k (by omega)
          have hor := or_member hlt HM.out (upto_next (onP t.deeds (evalCode t.goal) s0) k (by rw [HP.out, decide_eq_true ⟨h1, h2, h3, h4⟩]))
          clear NO h4
          go_upto_region 8 with (fail)
          go_quiet (fail)
          have HS3 := Lib.hid (HS.out.drewN nq)
          go_wp2
          go_roundw
          case rel => exact ⟨k + 1, _, by omega, by go_num, rfl, Bx.mk rfl, HS3.out⟩
          case measure => simp [intOf]; omega
        · obtain rfl : k = 32 := by omega
          have HF : Bx (onWay t = (M : Nat)) := Bx.mk (by rw [HPY.out, HM.out, mset_uptoN])
          go_wp2
          go_ret
          exact ⟨ret_int HF.out.symm, HS.out.below⟩
end Go.Proofs.Ytdbgoekemffimaa
