/- MustLook of the program. Printed by gen_must.py. -/
import Derived.Test.YtkimgdfcgfhibaaDoorSNumOkI
import Derived.Test.YtkimgdfcgfhibaaDoorSReach
import Derived.Test.YtkimgdfcgfhibaaDoorSFrom
import Derived.Test.YtkimgdfcgfhibaaDoorSDraw
namespace Go.Proofs.YtkimgdfcgfhibaaDoor
set_option linter.unusedVariables false
set_option linter.unusedSimpArgs false
open Go.ChangeShapes Go.WideShapes Go.ChangeAt Go.RowKit
set_option maxRecDepth 100000 in
set_option maxHeartbeats 2000000 in
theorem mustLook_impl (v : Value) (t : TaskD) (A : Option Addr) (n c : Nat) (xs : List Int) (w : World) (h : RdT w w.heap.size v t) (hx : RdI .i64 w w.heap.size A n c xs) (he : ErrH w) :
    Calls Tryd.prog 17 #[v, .slice A n c] w fun e w' => e = .returned (.int .i64 (mustLook t xs)) ∧ Below w.heap.size w w' := by
  have h' := h
  obtain ⟨G, gn, gc, G', n', c', rfl, hg, hgs, hds, hst⟩ := h
  have S0 := (St.refl w).alloc #[.int .i64 t.start, .slice G gn gc, .slice G' n' c'] 26
  have HT := Lib.hid h'
  have HS0 := Lib.hid S0
  have HXI := Lib.hid hx
  have HGE := Lib.hid he
  clear S0 h' hg hds he
  obtain ⟨bo, hok⟩ : ∃ b, numsOk t xs = b := ⟨_, rfl⟩
  have HNOK := Lib.hid hok
  clear hok
  cases bo with
  | false =>
    have HPN := Bx.mk (mustLook_no HNOK.out)
    go_enter Tryd.func17, Tryd.ntmps17
    go_wp2_with fail
    refine (numbersOk_impl _ t A n c xs _ (HT.out.up HS0.out.below) (HXI.out.up HS0.out.below) (HGE.out.up HS0.out.below)).mono ?_
    rw [HNOK.out]
    rintro e w1 ⟨rfl, hb1⟩
    have HB := Lib.hid (HS0.out.quiet hb1).below
    clear hb1
    go_wp2
    go_ret
    exact ⟨ret_int HPN.out.symm, HB.out⟩
  | true =>
    have hN := numsOk_iff.1 HNOK.out
    have HNB := Bx.mk hN.bd
    have HPY := Bx.mk (mustLook_yes HNOK.out)
    have HOK := Lib.hid hN.ok
    obtain ⟨hs0, -, -, -⟩ := taskOk_parts t HOK.out
    obtain ⟨s0, hst0⟩ := Int.eq_ofNat_of_zero_le hs0.1
    have hs32 : s0 < 32 := by omega
    obtain rfl : n = 32 := by rw [← hx.len]; exact hN.len
    have HFY := Bx.mk (stepsFrom_yes t HOK.out s0 hst0)
    rw [hst0] at HS0 ⊢
    clear hs0 hN hx
    go_enter Tryd.func17, Tryd.ntmps17
    go_wp2_with fail
    refine (numbersOk_impl _ t A 32 c xs _ (by rw [← hst0]; rw [← hst0] at HS0; exact HT.out.up HS0.out.below) (HXI.out.up HS0.out.below) (HGE.out.up HS0.out.below)).mono ?_
    rw [HNOK.out]
    rintro e w1 ⟨rfl, hb1⟩
    have HST0 := Bx.mk hst0
    have HS1 := Lib.hid (HS0.out.quiet hb1)
    clear hb1 HS0 hst0
    go_upto_region 3 with (fail)
    refine wp_reg (σ := Nat × Nat) (by kernel_rfl) (by kernel_rfl) (by kernel_rfl)
      (fun s i => match i with
        | 0 => .agg #[.int .i64 s0, .slice G gn gc, .slice G' n' c']
        | 1 => .slice (some ⟨s.1, 0, none⟩) 32 s.2
        | 2 => .pointer (some ⟨w.heap.size, 0, none⟩)
        | 3 => .int .i64 s0
        | 4 => .pointer (some ⟨s.1, s0, none⟩)
        | 5 => .int .i64 (stpV t.deeds (evalCode t.goal) s0)
        | 6 => .int .i64 (stpV t.deeds (evalCode t.goal) s0)
        | _ => undef)
      (fun D s wx => Sn w wx fun i => match i with
        | 0 => some (rBlk w.heap.size 26 #[.int .i64 s0, .slice G gn gc, .slice G' n' c'])
        | 1 => if D 1 = true then some (rInts (.slice (some ⟨s.1, 0, none⟩) 32 s.2) (stepsL t.deeds (evalCode t.goal))) else none
        | _ => none)
      (0, 0) ?_ ?_ ?_
    · intro D hD
      refine ((Sn.of_st HS1.out).quiet ((Below.refl _ _).drew)).congr fun i => ?_
      match i with
      | 0 => rfl
      | 1 => exact if_neg (by rw [hD 1 (by decide)]; simp)
      | q + 2 => rfl
    · refine StepAll.cons (fun D s wx hR (hDi : D 0 = false) hd hsh a' hs K hK => ?_) ?_
      · have e2 := hs.old 2 (u := .pointer (some ⟨w.heap.size, 0, none⟩)) (by kernel_rfl) rfl
        clear hs
        have kb : Blk wx (w.heap.size) 26 #[.int .i64 s0, .slice G gn gc, .slice G' n' c'] := hR.blk 0 rfl
        have c0 : wx.cell? ⟨w.heap.size, 0, none⟩ = some (.int .i64 s0) := kb.cell 0
        have c1 : wx.cell? ⟨w.heap.size, 1, none⟩ = some (.slice G gn gc) := kb.cell 1
        have c2 : wx.cell? ⟨w.heap.size, 2, none⟩ = some (.slice G' n' c') := kb.cell 2
        go_simp
        exact hK s wx (fun _ _ => rfl) hR
      refine StepAll.cons (fun D s wx hR (hDi : D 1 = false) hd hsh a' hs K hK => ?_) ?_
      · have e13 := hs.at_ 0 13 (u := .agg #[.int .i64 s0, .slice G gn gc, .slice G' n' c']) rfl (hd ⟨0, .data⟩ (by simp) rfl) (by kernel_rfl) (by kernel_rfl) rfl
        have g13 := getQ e13
        clear hs
        have n4 : D 4 = false := hsh.no hDi 4 rfl ⟨1, .data⟩ (by simp) rfl rfl
        have n5 : D 5 = false := hsh.no n4 5 rfl ⟨4, .data⟩ (by simp) rfl rfl
        go_simp
        refine (stepsLeast_impl _ t _ (by have := HT.out.up hR.below; rw [HST0.out] at this; exact this)).mono ?_
        rw [stepsLeast_yes t HOK.out s0 HST0.out]
        rintro e2 w2 ⟨v2, rfl, s2⟩
        obtain ⟨g9, c9, hv9⟩ := s2.formI 0 rfl (stepsL_len _ _) (by omega)
        simp only [id_eq] at hv9 ⊢
        subst hv9
        refine hK (g9, c9) w2
          (fun j hj => by
            match j, hj with
            | 0, hj => rfl
            | 1, hj => rw [hDi] at hj; cases hj
            | 2, hj => rfl
            | 3, hj => rfl
            | 4, hj => rw [n4] at hj; cases hj
            | 5, hj => rw [n5] at hj; cases hj
            | 6, hj => rfl
            | _ + 7, hj => rfl)
          ((hR.add 1 (if_neg (by rw [hDi]; simp)) s2).congr
            (fun i => by
              match i with
              | 0 => rfl
              | 1 => rfl
              | q + 2 => exact (if_neg (show ¬ (q + 2 = 1) by omega)).symm))
      refine StepAll.cons (fun D s wx hR (hDi : D 2 = false) hd hsh a' hs K hK => ?_) ?_
      · have e2 := hs.old 2 (u := .pointer (some ⟨w.heap.size, 0, none⟩)) (by kernel_rfl) rfl
        clear hs
        go_simp
        exact hK s wx (fun _ _ => rfl) hR
      refine StepAll.cons (fun D s wx hR (hDi : D 3 = false) hd hsh a' hs K hK => ?_) ?_
      · have e15 := hs.at_ 2 15 (u := .pointer (some ⟨w.heap.size, 0, none⟩)) rfl (hd ⟨2, .data⟩ (by simp) rfl) (by kernel_rfl) (by kernel_rfl) rfl
        clear hs
        have kb : Blk wx (w.heap.size) 26 #[.int .i64 s0, .slice G gn gc, .slice G' n' c'] := hR.blk 0 rfl
        have c0 : wx.cell? ⟨w.heap.size, 0, none⟩ = some (.int .i64 s0) := kb.cell 0
        go_simp
        exact hK s wx (fun _ _ => rfl) hR
      refine StepAll.cons (fun D s wx hR (hDi : D 4 = false) hd hsh a' hs K hK => ?_) ?_
      · have e14 := hs.at_ 1 14 (u := .slice (some ⟨s.1, 0, none⟩) 32 s.2) rfl (hd ⟨1, .data⟩ (by simp) rfl) (by kernel_rfl) (by kernel_rfl) rfl
        have e16 := hs.at_ 3 16 (u := .int .i64 s0) rfl (hd ⟨3, .data⟩ (by simp) rfl) (by kernel_rfl) (by kernel_rfl) rfl
        clear hs
        have n5 : D 5 = false := hsh.no hDi 5 rfl ⟨4, .data⟩ (by simp) rfl rfl
        have hsI : (s0 : Int) < 32 := by omega
        go_simp
        exact hK s wx (fun _ _ => rfl) hR
      refine StepAll.cons (fun D s wx hR (hDi : D 5 = false) hd hsh a' hs K hK => ?_) ?_
      · have e17 := hs.at_ 4 17 (u := .pointer (some ⟨s.1, s0, none⟩)) rfl (hd ⟨4, .data⟩ (by simp) rfl) (by kernel_rfl) (by kernel_rfl) rfl
        clear hs
        have d4 : D 4 = true := hd ⟨4, .data⟩ (by simp) rfl
        have d1 : D 1 = true := hsh 4 _ rfl d4 ⟨1, .data⟩ (by simp) rfl
        have cs : wx.cell? ⟨s.1, s0, none⟩ = some (.int .i64 (stpV t.deeds (evalCode t.goal) s0)) := (hR.cellI 1 (if_pos d1) (stepsL_len _ _) s0 _ (stepsL_at _ _ s0 hs32)).1
        go_simp
        exact hK s wx (fun _ _ => rfl) hR
      refine StepAll.cons (fun D s wx hR (hDi : D 6 = false) hd hsh a' hs K hK => ?_) ?_
      · have e18 := hs.at_ 5 18 (u := .int .i64 (stpV t.deeds (evalCode t.goal) s0)) rfl (hd ⟨5, .data⟩ (by simp) rfl) (by kernel_rfl) (by kernel_rfl) rfl
        clear hs
        go_simp
        exact hK s wx (fun _ _ => rfl) hR
      exact StepAll.nil
    · intro D s wx hR hD
      simp only [putA, Act.put, List.setIfInBounds_toArray, List.set_cons_zero, List.set_cons_succ]
      have HS2 : Hid (St w wx [rBlk w.heap.size 26 #[.int .i64 s0, .slice G gn gc, .slice G' n' c']]) := Lib.hid (hR.to_st [0] (by decide) rfl)
      clear hR hD
      obtain ⟨vs, hvs⟩ : ∃ vs, stpV t.deeds (evalCode t.goal) s0 = vs := ⟨_, rfl⟩
      have HVS := Bx.mk hvs
      have hvb : -1 ≤ vs ∧ vs ≤ 32 := by rw [← hvs]; exact stpV_bd _ _ s0
      rw [hvs]
      clear hvs HS1
      have q2 : ∀ j, wx.cell? ⟨w.heap.size, j, none⟩ = _ := HS2.out.cells 0 rfl
      go_wp2_with fail
      refine (stepsFrom_impl _ t _ (by have := HT.out.up HS2.out.below; rw [HST0.out] at this; exact this)).mono ?_
      rw [HFY.out]
      rintro e w2 ⟨fv, rfl, s2⟩
      obtain ⟨gf, cf, hf⟩ := s2.formI 0 rfl (distL_len _ _) (by omega)
      simp only [id_eq] at hf ⊢
      subst hf
      have HS3 := Lib.hid (HS2.out.call s2)
      clear q2 s2 HS2
      obtain ⟨xb, xo, rfl, hxb, hxc⟩ := HXI.out.x32
      have HXC := Bx.mk hxc
      clear hxc
      go_wp2
      go_loopw [22, 6] (fun iv sv wr => ∃ k M : Nat, k ≤ 32 ∧ iv = .int .i64 k ∧ sv = .int .i64 M ∧ Bx (M = cnt (mustP t xs) k) ∧ St w wr [rBlk w.heap.size 26 #[.int .i64 s0, .slice G gn gc, .slice G' n' c'], rInts (.slice (some ⟨gf, 0, none⟩) 32 cf) (distL t.deeds (only s0))]) (fun iv _ _ => 32 - (intOf iv).toNat)
      case atStart => exact ⟨0, 0, by omega, rfl, rfl, Bx.mk rfl, HS3.out⟩
      case round =>
        clear HS3
        obtain ⟨k, M, hk, rfl, rfl, HM, S⟩ := hrel
        have HS := Lib.hid S
        clear S
        by_cases hlt : k < 32
        · obtain ⟨f, hf⟩ : ∃ f, dstV t.deeds (only s0) k = f := ⟨_, rfl⟩
          obtain ⟨x, hx⟩ : ∃ x, xv xs k = x := ⟨_, rfl⟩
          have hfb : -1 ≤ f ∧ f ≤ 32 := by rw [← hf]; exact dstV_bd _ _ k
          have hxb2 : 0 ≤ x ∧ x ≤ 40 := by rw [← hx]; exact HNB.out k hlt
          have cf1 : wr.cell? ⟨gf, k, none⟩ = some (.int .i64 f) := (HS.out.cellI 1 rfl (distL_len _ _) k _ (by rw [← hf]; exact distL_at _ _ k hlt)).1
          have cx1 : wr.cell? ⟨xb, xo + k, none⟩ = some (.int .i64 x) := (bcells HS.out.below xb _ hxb).trans (by rw [← hx]; exact (HXC.out k hlt).2)
          have HP : Bx (mustP t xs k = (decide (0 ≤ f) && (decide (vs < 0) && decide (x < 40) || decide (f + x < vs)))) := Bx.mk (by rw [mustP_at HST0.out, HVS.out, hf, hx])
          have hsk : IntKind.i64.wrap (f + x) = f + x := IntWalk.i64_in _ (by omega)
          have hsk2 : wrap64 (f + x) = f + x := by rw [← IntWalk.i64_left]; exact IntWalk.i64_in _ (by omega)
          have hM32 : M ≤ 32 := by rw [HM.out]; have := cnt_le (mustP t xs) k; omega
          clear hf hx
          by_cases h1 : 0 ≤ f
          case neg =>
            have HM2 : Bx (M = cnt (mustP t xs) (k + 1)) := Bx.mk (by rw [cnt_no (by rw [HP.out]; simp; omega)]; exact HM.out)
            have hf0 : f < 0 := by omega
            have hd1 : decide ((0 : Int) ≤ f) = false := decide_eq_false h1
            have HS5 := HS
            go_wp2
            go_roundw
            case rel => exact ⟨k + 1, M, by omega, by go_num, by first | rfl | go_num, HM2, HS5.out⟩
            case measure => simp [intOf]; omega
          by_cases h2 : vs < 0
          case pos =>
            by_cases h3 : x < 40
            case pos =>
              have HM2 : Bx (M + 1 = cnt (mustP t xs) (k + 1)) := Bx.mk (by rw [cnt_yes (by rw [HP.out]; simp; omega), ← HM.out])
              have hd1 : decide ((0 : Int) ≤ f) = true := decide_eq_true h1
              have hd2 : decide (vs < 0) = true := decide_eq_true h2
              have hd3 : decide (x < 40) = true := decide_eq_true h3
              have HS5 := HS
              go_wp2
              go_roundw
              case rel => exact ⟨k + 1, M + 1, by omega, by go_num, by first | rfl | go_num, HM2, HS5.out⟩
              case measure => simp [intOf]; omega
            case neg =>
              have HM2 : Bx (M = cnt (mustP t xs) (k + 1)) := Bx.mk (by rw [cnt_no (by rw [HP.out]; simp; omega)]; exact HM.out)
              have hd1 : decide ((0 : Int) ≤ f) = true := decide_eq_true h1
              have hd2 : decide (vs < 0) = true := decide_eq_true h2
              have hd3 : decide (x < 40) = false := decide_eq_false h3
              have hd4 : decide (f + x < vs) = false := decide_eq_false (by omega)
              have HS5 := HS
              go_wp2
              go_roundw
              case rel => exact ⟨k + 1, M, by omega, by go_num, by first | rfl | go_num, HM2, HS5.out⟩
              case measure => simp [intOf]; omega
          case neg =>
            by_cases h3 : f + x < vs
            case pos =>
              have HM2 : Bx (M + 1 = cnt (mustP t xs) (k + 1)) := Bx.mk (by rw [cnt_yes (by rw [HP.out]; simp; omega), ← HM.out])
              have hd1 : decide ((0 : Int) ≤ f) = true := decide_eq_true h1
              have hd2 : decide (vs < 0) = false := decide_eq_false h2
              have h2' : 0 ≤ vs := by omega
              have hd4 : decide (f + x < vs) = true := decide_eq_true h3
              have HS5 := HS
              go_wp2
              go_roundw
              case rel => exact ⟨k + 1, M + 1, by omega, by go_num, by first | rfl | go_num, HM2, HS5.out⟩
              case measure => simp [intOf]; omega
            case neg =>
              have HM2 : Bx (M = cnt (mustP t xs) (k + 1)) := Bx.mk (by rw [cnt_no (by rw [HP.out]; simp; omega)]; exact HM.out)
              have hd1 : decide ((0 : Int) ≤ f) = true := decide_eq_true h1
              have hd2 : decide (vs < 0) = false := decide_eq_false h2
              have h2' : 0 ≤ vs := by omega
              have hd4 : decide (f + x < vs) = false := decide_eq_false h3
              have HS5 := HS
              go_wp2
              go_roundw
              case rel => exact ⟨k + 1, M, by omega, by go_num, by first | rfl | go_num, HM2, HS5.out⟩
              case measure => simp [intOf]; omega
        · obtain rfl : k = 32 := by omega
          have HF : Bx (mustLook t xs = (M : Nat)) := Bx.mk (by rw [HPY.out, HM.out])
          go_wp2
          go_ret
          exact ⟨ret_int HF.out.symm, HS.out.below⟩
end Go.Proofs.YtkimgdfcgfhibaaDoor
