/- PlanFor of the reference. -/
import Derived.Test.YtkmcengmglgdeaaGreatDoorSStatesBack
namespace Go.Proofs.YtkmcengmglgdeaaGreatDoor
set_option linter.unusedVariables false
set_option linter.unusedSimpArgs false
open Go.ChangeShapes Go.WideShapes Go.ChangeAt Go.RowKit

set_option maxRecDepth 100000 in
set_option maxHeartbeats 2000000 in
theorem planFor_spec (v : Value) (t : TaskD) (w : World) (h : RdT w w.heap.size v t) :
  Calls Tryz.prog 104 #[v] w (Gives w (fun v => .tuple #[v, .bool (planFor t).isSome]) fun v => [rInts v ((planFor t).getD [])]) := by
 have h' := h
 obtain ⟨G, gn, gc, G', n', c', rfl, hg, hgs, hds, hst⟩ := h
 have HT := Lib.hid h'
 have HDS := Lib.hid hds
 have HDL := Lib.hid hds.len
 obtain ⟨bo, hok⟩ : ∃ b, taskOk t = b := ⟨_, rfl⟩
 have HOK := Lib.hid hok
 clear hok hds h' hg
 have HS0' : Hid (∀ g, g = w.heap.size + 1 → St w ((w.alloc (.cells #[.int .i64 t.start, .slice G gn gc, .slice G' n' c'] 26)).alloc (.cells #[] 3)) [rBlk w.heap.size 26 #[.int .i64 t.start, .slice G gn gc, .slice G' n' c'], rInts (.slice (some ⟨g, 0, none⟩) 0 0) []]) :=
  Lib.hid fun g hg => by subst hg; exact ((St.refl w).alloc #[.int .i64 t.start, .slice G gn gc, .slice G' n' c'] 26).call (St.newI _ _ (by simp))
 have HS0 := Lib.hid (HS0'.out _ rfl)
 clear HS0'
 cases bo with
 | false =>
  have HPN := Bx.mk (planFor_no t HOK.out)
  have HSN := Bx.mk (stepsLeastR_no t HOK.out)
  go_enter Tryz.func104, Tryz.ntmps104
  go_wp2_with fail
  refine (stepsLeast_spec _ t _ (HT.out.up HS0.out.below)).mono ?_
  rw [HSN.out]
  rintro e w1 ⟨sv, rfl, s1⟩
  obtain ⟨A1, c1, hv, -⟩ := s1.rdI 0 rfl
  subst hv
  have HS1 := Lib.hid (HS0.out.call s1)
  clear s1
  simp only [List.length_nil]
  go_wp2
  refine bodyPost_ret (v := .tuple #[.slice (some ⟨w.heap.size + 1, 0, none⟩) 0 0, .bool false]) (by simp [results, Tryz.results104, go_sem]) rfl ⟨.slice (some ⟨w.heap.size + 1, 0, none⟩) 0 0, by rw [HPN.out]; rfl, ?_⟩
  rw [HPN.out]
  exact HS1.out.pick [1] (by decide) rfl rfl
 | true =>
  obtain ⟨hs0, hgok, hn6, hdok⟩ := taskOk_parts t HOK.out
  obtain ⟨s0, hst0⟩ := Int.eq_ofNat_of_zero_le hs0.1
  have HDOK := Lib.hid hdok
  have hs32 : s0 < 32 := by omega
  have HPY := Bx.mk (planFor_yes t HOK.out s0 hst0)
  have HSY := Bx.mk (stepsLeastR_yes t HOK.out)
  obtain ⟨plan, hplan⟩ : ∃ plan, (planFor t).getD [] = plan := ⟨_, rfl⟩
  have HPL := Bx.mk hplan
  rw [hplan]
  have hn6' : n' ≤ 6 := by rw [← HDL.out]; exact hn6
  obtain ⟨p, hp⟩ : ∃ p, evalCode t.goal = p := ⟨_, rfl⟩
  rw [hp] at HPY HSY
  clear hdok hgok hplan hs0 hn6 hp
  rw [hst0] at HS0 HT ⊢
  go_enter Tryz.func104, Tryz.ntmps104
  go_wp2_with fail
  refine (stepsLeast_spec _ t _ (HT.out.up HS0.out.below)).mono ?_
  rw [HSY.out]
  rintro e w1 ⟨sv, rfl, s1⟩
  have HS4 : Hid (St w w1 [rBlk w.heap.size 26 #[.int .i64 s0, .slice G gn gc, .slice G' n' c'], rInts sv (stepsL t.deeds p), rInts (.slice (some ⟨w.heap.size + 1, 0, none⟩) 0 0) []]) := Lib.hid ((HS0.out.call s1).pick [0, 2, 1] (by decide) rfl rfl)
  clear s1
  obtain ⟨g, sc, hsv⟩ := HS4.out.formI 1 rfl (stepsL_len _ _) (by omega)
  subst hsv
  have q4 : ∀ j, w1.cell? ⟨w.heap.size, j, none⟩ = _ := HS4.out.cells 0 rfl
  obtain ⟨hc0, -⟩ := HS4.out.cellI 1 rfl (stepsL_len _ _) s0 _ (stepsL_at t.deeds p s0 hs32)
  have hbd := stpV_bd t.deeds p s0
  clear HS0 HSY
  by_cases hneg : stpV t.deeds p s0 < 0
  ·have HPN : Bx (planFor t = none) := Bx.mk (by rw [HPY.out, if_pos hneg])
   obtain ⟨u, hu⟩ : ∃ u, stpV t.deeds p s0 = u := ⟨_, rfl⟩
   rw [hu] at hneg hc0
   have HPL2 : Bx (([] : List Int) = plan) := Bx.mk (by rw [← HPL.out, HPN.out]; rfl)
   clear hu hbd
   go_wp2
   refine bodyPost_ret (v := .tuple #[.slice (some ⟨w.heap.size + 1, 0, none⟩) 0 0, .bool false]) (by simp [results, Tryz.results104, go_sem]) rfl ⟨.slice (some ⟨w.heap.size + 1, 0, none⟩) 0 0, by rw [HPN.out]; rfl, ?_⟩
   rw [← HPL2.out]
   exact HS4.out.pick [2] (by decide) rfl rfl
  ·obtain ⟨m0, hm0⟩ := Int.eq_ofNat_of_zero_le (show 0 ≤ stpV t.deeds p s0 by omega)
   have HPS : Bx (planFor t = some (walkP t.deeds p m0 s0)) := Bx.mk (by rw [HPY.out, if_neg hneg, hm0, Int.toNat_natCast])
   have HW0 : Bx (([] : List Int) ++ walkP t.deeds p m0 s0 = plan) := Bx.mk (by rw [← HPL.out, HPS.out]; rfl)
   have HM0 := Bx.mk hm0
   have hm31 : m0 ≤ 31 := by
    have := stpV_le (S := p) HDOK.out hs32
    omega
   rw [hm0] at hc0
   clear hneg hm0 hbd HPY
   go_wp2
   go_loopw [6, 4] (fun sv pv wr => ∃ (s m : Nat) (pre : List Int) (x4 : Value), x4 = pv ∧ sv = .int .i64 s ∧ s < 32 ∧ Bx (stpV t.deeds p s = (m : Int)) ∧ pre.length + m ≤ 31 ∧ Bx (pre ++ walkP t.deeds p m s = plan) ∧ St w wr [rBlk w.heap.size 26 #[.int .i64 s0, .slice G gn gc, .slice G' n' c'], rInts (.slice (some ⟨g, 0, none⟩) 32 sc) (stepsL t.deeds p), rInts x4 pre]) (fun sv _ _ => (stpV t.deeds p (intOf sv).toNat).toNat)
   case atStart => exact ⟨s0, m0, [], _, rfl, rfl, hs32, HM0, by simpa using hm31, HW0, HS4.out⟩
   case round =>
    clear HM0 HW0 HS4 hc0 hm31 q4
    obtain ⟨s, m, pre, x4, rfl, rfl, hs, HV, hml, HW, M⟩ := hrel
    have HM := Lib.hid M
    obtain ⟨hcs, -⟩ := M.cellI 1 rfl (stepsL_len _ _) s _ (stepsL_at t.deeds p s hs)
    rw [HV.out] at hcs
    clear M
    rcases Nat.eq_zero_or_pos m with hm | hm
    ·subst hm
     have HE : Hid (pre = plan) := Lib.hid (by have := HW.out; simpa [walkP] using this)
     go_wp2
     refine bodyPost_ret (v := .tuple #[x4, .bool true]) (by simp [results, Tryz.results104, go_sem]) rfl ⟨x4, by rw [HPS.out]; rfl, ?_⟩
     rw [← HE.out]
     exact HM.out.pick [2] (by decide) rfl rfl
    ·obtain ⟨r, rfl⟩ : ∃ r, m = r + 1 := ⟨m - 1, by omega⟩
     have HMEAS : Hid ((stpV t.deeds p s).toNat = r + 1) := Lib.hid (toNat_nat' HV.out)
     go_wp2
     go_loopw [7, 6, 4] (fun i sv pv wr => ∃ j : Nat, .int .i64 s = sv ∧ x4 = pv ∧ j ≤ n' ∧ i = .int .i64 j ∧ Bx (pick (near t.deeds p r) s (t.deeds.drop j) j = pick (near t.deeds p r) s t.deeds 0) ∧ St w wr [rBlk w.heap.size 26 #[.int .i64 s0, .slice G gn gc, .slice G' n' c'], rInts (.slice (some ⟨g, 0, none⟩) 32 sc) (stepsL t.deeds p), rInts x4 pre]) (fun i _ _ _ => n' - (intOf i).toNat)
     case atStart => exact ⟨0, rfl, rfl, by omega, rfl, Bx.mk (by rw [List.drop_zero]), HM.out⟩
     case round =>
      clear HM hcs
      obtain ⟨j, rfl, rfl, hj, rfl, HP, M⟩ := hrel
      have HM := Lib.hid M
      have q0 : ∀ j, wr.cell? ⟨w.heap.size, j, none⟩ = _ := M.cells 0 rfl
      clear M
      by_cases hlt : j < n'
      ·obtain ⟨b, off, d, rfl, hb, hd, hda⟩ := HDS.out.get hlt
       obtain ⟨An, nn, cn, p0, p1, p2, p3, hneed, hnn, -⟩ := hda
       have r0 : wr.cell? ⟨b, off + j * 4, none⟩ = some (.slice An nn cn) := (bcells HM.out.below b _ hb).trans p0
       have r1 : wr.cell? ⟨b, off + j * 4 + 1, none⟩ = some (.int .i64 d.on) := (bcells HM.out.below b _ hb).trans p1
       have r2 : wr.cell? ⟨b, off + j * 4 + 2, none⟩ = some (.int .i64 d.off) := (bcells HM.out.below b _ hb).trans p2
       have r3 : wr.cell? ⟨b, off + j * 4 + 3, none⟩ = some (.int .i64 d.flip) := (bcells HM.out.below b _ hb).trans p3
       have HDO := Lib.hid (HDOK.out d (List.mem_of_getElem? hd))
       have HDK := Lib.hid hd
       have HND := Lib.hid hneed
       obtain ⟨o, ho⟩ : ∃ o, deedDo d s = o := ⟨_, rfl⟩
       have HO := Lib.hid ho
       have HSI : Hid ((s : Int) < 32) := Lib.hid (by omega)
       have HSQ : Hid ((stepsL t.deeds p)[s]? = some ((r : Int) + 1)) := Lib.hid (by rw [stepsL_at t.deeds p s hs, HV.out]; rfl)
       clear p0 p1 p2 p3 hneed hd ho
       go_wp2_with fail
       refine (l6Do_any An nn cn d s _ (HND.out.up HM.out.below) HDO.out hs).mono ?_
       rw [HO.out]
       rintro e w3 ⟨rfl, hb3⟩
       have HM5 := Lib.hid (HM.out.quiet hb3)
       clear hb3 q0 r0 r1 r2 r3
       cases o with
       | none =>
        have HPN2 := Bx.mk ((pick_none (f := near t.deeds p r) HDK.out HO.out).trans HP.out)
        simp only [opt]
        go_upto_region 11 with (fail)
        refine wp_reg (σ := Unit) (by kernel_rfl) (by kernel_rfl) (by kernel_rfl)
         (fun s0' i => match i with
          | 0 => .int .i64 (-1)
          | 1 => .bool false
          | 2 => .bool false
          | 13 => .bool false
          | _ => undef)
         (fun D s0' wx => Sn w wx fun i => match i with
          | 0 => some (rBlk w.heap.size 26 #[.int .i64 s0, .slice G gn gc, .slice (some ⟨b, off, none⟩) n' c'])
          | 1 => some (rInts (.slice (some ⟨g, 0, none⟩) 32 sc) (stepsL t.deeds p))
          | 2 => some (rInts x4 pre)
          | _ => none)
         () ?_ ?_ ?_
        ·intro D hD
         refine ((Sn.of_st HM5.out).quiet ((Below.refl _ _).drew)).congr fun i => ?_
         match i with
         | 0 => rfl
         | 1 => rfl
         | 2 => rfl
         | i + 3 => rfl
        ·refine StepAll.cons (fun D s0' wx hR (hDi : D 0 = false) hd hsh a' hs K hK => ?_) ?_
         ·have e8 := hs.old 8 (u := .int .i64 (-1)) (by kernel_rfl) rfl
          clear hs
          go_simp
          exact hK s0' wx (fun _ _ => rfl) hR
         refine StepAll.cons (fun D s0' wx hR (hDi : D 1 = false) hd hsh a' hs K hK => ?_) ?_
         ·have e45 := hs.g 0 45 (.int .i64 (-1)) (hd ⟨0, .data⟩ (by simp) rfl)
          clear hs
          go_simp
          exact hK s0' wx (fun _ _ => rfl) hR
         refine StepAll.cons (fun D s0' wx hR (hDi : D 2 = false) hd hsh a' hs K hK => ?_) ?_
         ·have e46 := hs.g 1 46 (.bool false) (hd ⟨1, .data⟩ (by simp) rfl)
          clear hs
          go_simp
          exact hK s0' wx (fun _ _ => rfl) hR
         refine StepAll.consG (fun D s0' wx hR (hDi : D 3 = false) hd hsh a' hs K hK => ?_) ?_
         ·have eg := hs.g 2 47 (.bool false) (hd ⟨2, .guard⟩ (by simp) rfl)
          rw [if_neg (by rw [hs.wants (j := 2) (t := 47) rfl rfl eg (by kernel_rfl)]; simp)]
          exact hK s0' wx (fun _ _ => rfl) hR
         refine StepAll.consG (fun D s0' wx hR (hDi : D 4 = false) hd hsh a' hs K hK => ?_) ?_
         ·have eg := hs.g 2 47 (.bool false) (hd ⟨2, .guard⟩ (by simp) rfl)
          rw [if_neg (by rw [hs.wants (j := 2) (t := 47) rfl rfl eg (by kernel_rfl)]; simp)]
          exact hK s0' wx (fun _ _ => rfl) hR
         refine StepAll.consG (fun D s0' wx hR (hDi : D 5 = false) hd hsh a' hs K hK => ?_) ?_
         ·have eg := hs.g 2 47 (.bool false) (hd ⟨2, .guard⟩ (by simp) rfl)
          rw [if_neg (by rw [hs.wants (j := 2) (t := 47) rfl rfl eg (by kernel_rfl)]; simp)]
          exact hK s0' wx (fun _ _ => rfl) hR
         refine StepAll.consG (fun D s0' wx hR (hDi : D 6 = false) hd hsh a' hs K hK => ?_) ?_
         ·have eg := hs.g 2 47 (.bool false) (hd ⟨2, .guard⟩ (by simp) rfl)
          rw [if_neg (by rw [hs.wants (j := 2) (t := 47) rfl rfl eg (by kernel_rfl)]; simp)]
          exact hK s0' wx (fun _ _ => rfl) hR
         refine StepAll.consG (fun D s0' wx hR (hDi : D 7 = false) hd hsh a' hs K hK => ?_) ?_
         ·have eg := hs.g 2 47 (.bool false) (hd ⟨2, .guard⟩ (by simp) rfl)
          rw [if_neg (by rw [hs.wants (j := 2) (t := 47) rfl rfl eg (by kernel_rfl)]; simp)]
          exact hK s0' wx (fun _ _ => rfl) hR
         refine StepAll.consG (fun D s0' wx hR (hDi : D 8 = false) hd hsh a' hs K hK => ?_) ?_
         ·have eg := hs.g 2 47 (.bool false) (hd ⟨2, .guard⟩ (by simp) rfl)
          rw [if_neg (by rw [hs.wants (j := 2) (t := 47) rfl rfl eg (by kernel_rfl)]; simp)]
          exact hK s0' wx (fun _ _ => rfl) hR
         refine StepAll.consG (fun D s0' wx hR (hDi : D 9 = false) hd hsh a' hs K hK => ?_) ?_
         ·have eg := hs.g 2 47 (.bool false) (hd ⟨2, .guard⟩ (by simp) rfl)
          rw [if_neg (by rw [hs.wants (j := 2) (t := 47) rfl rfl eg (by kernel_rfl)]; simp)]
          exact hK s0' wx (fun _ _ => rfl) hR
         refine StepAll.consG (fun D s0' wx hR (hDi : D 10 = false) hd hsh a' hs K hK => ?_) ?_
         ·have eg := hs.g 2 47 (.bool false) (hd ⟨2, .guard⟩ (by simp) rfl)
          rw [if_neg (by rw [hs.wants (j := 2) (t := 47) rfl rfl eg (by kernel_rfl)]; simp)]
          exact hK s0' wx (fun _ _ => rfl) hR
         refine StepAll.consG (fun D s0' wx hR (hDi : D 11 = false) hd hsh a' hs K hK => ?_) ?_
         ·have eg := hs.g 2 47 (.bool false) (hd ⟨2, .guard⟩ (by simp) rfl)
          rw [if_neg (by rw [hs.wants (j := 2) (t := 47) rfl rfl eg (by kernel_rfl)]; simp)]
          exact hK s0' wx (fun _ _ => rfl) hR
         refine StepAll.consG (fun D s0' wx hR (hDi : D 12 = false) hd hsh a' hs K hK => ?_) ?_
         ·have eg := hs.g 2 47 (.bool false) (hd ⟨2, .guard⟩ (by simp) rfl)
          rw [if_neg (by rw [hs.wants (j := 2) (t := 47) rfl rfl eg (by kernel_rfl)]; simp)]
          exact hK s0' wx (fun _ _ => rfl) hR
         refine StepAll.cons (fun D s0' wx hR (hDi : D 13 = false) hd hsh a' hs K hK => ?_) ?_
         ·have e47 := hs.g 2 47 (.bool false) (hd ⟨2, .data⟩ (by simp) rfl)
          have e57 := hs.g 12 57 (undef) (hd ⟨12, .data⟩ (by simp) rfl)
          clear hs
          go_simp
          exact hK s0' wx (fun _ _ => rfl) hR
         exact StepAll.nil
        ·intro D s0' wx hR hD
         simp only [putA, Act.put, List.setIfInBounds_toArray, List.set_cons_zero, List.set_cons_succ]
         have HT2 : Hid (St w wx [rBlk w.heap.size 26 #[.int .i64 s0, .slice G gn gc, .slice (some ⟨b, off, none⟩) n' c'], rInts (.slice (some ⟨g, 0, none⟩) 32 sc) (stepsL t.deeds p), rInts x4 pre]) := Lib.hid (hR.to_st [0, 1, 2] (by decide) rfl)
         clear hR hD
         go_wp2
         go_roundw
         case rel => exact ⟨j + 1, rfl, rfl, by omega, by go_num, HPN2, HT2.out⟩
         case measure => simp [intOf]; omega
       | some q =>
        have hq := deedDo_lt d s q HDO.out hs HO.out
        have HQI : Hid ((q : Int) < 32) := Lib.hid (by omega)
        have HWR : Hid (IntKind.i64.wrap (r : Int) = (r : Int)) := Lib.hid (by rw [IntKind.wrap_i64]; omega)
        obtain ⟨vq, hvq⟩ : ∃ vq, stpV t.deeds p q = vq := ⟨_, rfl⟩
        have HQ : Hid ((stepsL t.deeds p)[q]? = some vq) := Lib.hid (by rw [stepsL_at t.deeds p q hq, hvq])
        obtain ⟨bv, hbv⟩ : ∃ bv, (vq == (r : Int)) = bv := ⟨_, rfl⟩
        have HBV := Lib.hid hbv
        have HNR : Hid (near t.deeds p r q = bv) := Lib.hid (by unfold near; rw [hvq, hbv])
        have HVQ := Bx.mk hvq
        clear hvq hbv
        simp only [opt]
        go_upto_region 11 with (fail)
        refine wp_reg (σ := Unit) (by kernel_rfl) (by kernel_rfl) (by kernel_rfl)
         (fun s0' i => match i with
          | 0 => .int .i64 (q : Int)
          | 1 => .bool true
          | 2 => .bool true
          | 3 => .slice (some ⟨g, 0, none⟩) 32 sc
          | 4 => .int .i64 (q : Int)
          | 5 => .pointer (some ⟨g, q, none⟩)
          | 6 => .int .i64 vq
          | 7 => .slice (some ⟨g, 0, none⟩) 32 sc
          | 8 => .int .i64 (s : Int)
          | 9 => .pointer (some ⟨g, s, none⟩)
          | 10 => .int .i64 ((r : Int) + 1)
          | 11 => .int .i64 (r : Int)
          | 12 => .bool bv
          | 13 => .bool bv
          | _ => undef)
         (fun D s0' wx => Sn w wx fun i => match i with
          | 0 => some (rBlk w.heap.size 26 #[.int .i64 s0, .slice G gn gc, .slice (some ⟨b, off, none⟩) n' c'])
          | 1 => some (rInts (.slice (some ⟨g, 0, none⟩) 32 sc) (stepsL t.deeds p))
          | 2 => some (rInts x4 pre)
          | _ => none)
         () ?_ ?_ ?_
        ·intro D hD
         refine ((Sn.of_st HM5.out).quiet ((Below.refl _ _).drew)).congr fun i => ?_
         match i with
         | 0 => rfl
         | 1 => rfl
         | 2 => rfl
         | i + 3 => rfl
        ·refine StepAll.cons (fun D s0' wx hR (hDi : D 0 = false) hd hsh a' hs K hK => ?_) ?_
         ·have e8 := hs.old 8 (u := .int .i64 (q : Int)) (by kernel_rfl) rfl
          clear hs
          go_simp
          exact hK s0' wx (fun _ _ => rfl) hR
         refine StepAll.cons (fun D s0' wx hR (hDi : D 1 = false) hd hsh a' hs K hK => ?_) ?_
         ·have e45 := hs.g 0 45 (.int .i64 (q : Int)) (hd ⟨0, .data⟩ (by simp) rfl)
          clear hs
          go_simp
          exact hK s0' wx (fun _ _ => rfl) hR
         refine StepAll.cons (fun D s0' wx hR (hDi : D 2 = false) hd hsh a' hs K hK => ?_) ?_
         ·have e46 := hs.g 1 46 (.bool true) (hd ⟨1, .data⟩ (by simp) rfl)
          clear hs
          go_simp
          exact hK s0' wx (fun _ _ => rfl) hR
         refine StepAll.consG (fun D s0' wx hR (hDi : D 3 = false) hd hsh a' hs K hK => ?_) ?_
         ·have eg := hs.g 2 47 (.bool true) (hd ⟨2, .guard⟩ (by simp) rfl)
          rw [if_pos (by rw [hs.wants (j := 2) (t := 47) rfl rfl eg (by kernel_rfl)]; rfl)]
          have e5 := hs.old 5 (u := .slice (some ⟨g, 0, none⟩) 32 sc) (by kernel_rfl) rfl
          clear hs
          go_simp
          exact hK s0' wx (fun _ _ => rfl) hR
         refine StepAll.consG (fun D s0' wx hR (hDi : D 4 = false) hd hsh a' hs K hK => ?_) ?_
         ·have eg := hs.g 2 47 (.bool true) (hd ⟨2, .guard⟩ (by simp) rfl)
          rw [if_pos (by rw [hs.wants (j := 2) (t := 47) rfl rfl eg (by kernel_rfl)]; rfl)]
          have e8 := hs.old 8 (u := .int .i64 (q : Int)) (by kernel_rfl) rfl
          clear hs
          go_simp
          exact hK s0' wx (fun _ _ => rfl) hR
         refine StepAll.consG (fun D s0' wx hR (hDi : D 5 = false) hd hsh a' hs K hK => ?_) ?_
         ·have eg := hs.g 2 47 (.bool true) (hd ⟨2, .guard⟩ (by simp) rfl)
          rw [if_pos (by rw [hs.wants (j := 2) (t := 47) rfl rfl eg (by kernel_rfl)]; rfl)]
          have e48 := hs.g 3 48 (.slice (some ⟨g, 0, none⟩) 32 sc) (hd ⟨3, .data⟩ (by simp) rfl)
          have e49 := hs.g 4 49 (.int .i64 (q : Int)) (hd ⟨4, .data⟩ (by simp) rfl)
          clear hs
          have hqI := HQI.out
          go_simp
          exact hK s0' wx (fun _ _ => rfl) hR
         refine StepAll.consG (fun D s0' wx hR (hDi : D 6 = false) hd hsh a' hs K hK => ?_) ?_
         ·have eg := hs.g 2 47 (.bool true) (hd ⟨2, .guard⟩ (by simp) rfl)
          rw [if_pos (by rw [hs.wants (j := 2) (t := 47) rfl rfl eg (by kernel_rfl)]; rfl)]
          have e50 := hs.g 5 50 (.pointer (some ⟨g, q, none⟩)) (hd ⟨5, .data⟩ (by simp) rfl)
          clear hs
          have cq : wx.cell? ⟨g, q, none⟩ = some (.int .i64 vq) := (hR.cellI 1 rfl (stepsL_len _ _) q _ HQ.out).1
          go_simp
          exact hK s0' wx (fun _ _ => rfl) hR
         refine StepAll.consG (fun D s0' wx hR (hDi : D 7 = false) hd hsh a' hs K hK => ?_) ?_
         ·have eg := hs.g 2 47 (.bool true) (hd ⟨2, .guard⟩ (by simp) rfl)
          rw [if_pos (by rw [hs.wants (j := 2) (t := 47) rfl rfl eg (by kernel_rfl)]; rfl)]
          have e5 := hs.old 5 (u := .slice (some ⟨g, 0, none⟩) 32 sc) (by kernel_rfl) rfl
          clear hs
          go_simp
          exact hK s0' wx (fun _ _ => rfl) hR
         refine StepAll.consG (fun D s0' wx hR (hDi : D 8 = false) hd hsh a' hs K hK => ?_) ?_
         ·have eg := hs.g 2 47 (.bool true) (hd ⟨2, .guard⟩ (by simp) rfl)
          rw [if_pos (by rw [hs.wants (j := 2) (t := 47) rfl rfl eg (by kernel_rfl)]; rfl)]
          have e6 := hs.old 6 (u := .int .i64 (s : Int)) (by kernel_rfl) rfl
          clear hs
          go_simp
          exact hK s0' wx (fun _ _ => rfl) hR
         refine StepAll.consG (fun D s0' wx hR (hDi : D 9 = false) hd hsh a' hs K hK => ?_) ?_
         ·have eg := hs.g 2 47 (.bool true) (hd ⟨2, .guard⟩ (by simp) rfl)
          rw [if_pos (by rw [hs.wants (j := 2) (t := 47) rfl rfl eg (by kernel_rfl)]; rfl)]
          have e52 := hs.g 7 52 (.slice (some ⟨g, 0, none⟩) 32 sc) (hd ⟨7, .data⟩ (by simp) rfl)
          have e53 := hs.g 8 53 (.int .i64 (s : Int)) (hd ⟨8, .data⟩ (by simp) rfl)
          clear hs
          have hsI := HSI.out
          go_simp
          exact hK s0' wx (fun _ _ => rfl) hR
         refine StepAll.consG (fun D s0' wx hR (hDi : D 10 = false) hd hsh a' hs K hK => ?_) ?_
         ·have eg := hs.g 2 47 (.bool true) (hd ⟨2, .guard⟩ (by simp) rfl)
          rw [if_pos (by rw [hs.wants (j := 2) (t := 47) rfl rfl eg (by kernel_rfl)]; rfl)]
          have e54 := hs.g 9 54 (.pointer (some ⟨g, s, none⟩)) (hd ⟨9, .data⟩ (by simp) rfl)
          clear hs
          have cs : wx.cell? ⟨g, s, none⟩ = some (.int .i64 ((r : Int) + 1)) := (hR.cellI 1 rfl (stepsL_len _ _) s _ HSQ.out).1
          go_simp
          exact hK s0' wx (fun _ _ => rfl) hR
         refine StepAll.consG (fun D s0' wx hR (hDi : D 11 = false) hd hsh a' hs K hK => ?_) ?_
         ·have eg := hs.g 2 47 (.bool true) (hd ⟨2, .guard⟩ (by simp) rfl)
          rw [if_pos (by rw [hs.wants (j := 2) (t := 47) rfl rfl eg (by kernel_rfl)]; rfl)]
          have e55 := hs.g 10 55 (.int .i64 ((r : Int) + 1)) (hd ⟨10, .data⟩ (by simp) rfl)
          clear hs
          go_simp
          rw [HWR.out]
          exact hK s0' wx (fun _ _ => rfl) hR
         refine StepAll.consG (fun D s0' wx hR (hDi : D 12 = false) hd hsh a' hs K hK => ?_) ?_
         ·have eg := hs.g 2 47 (.bool true) (hd ⟨2, .guard⟩ (by simp) rfl)
          rw [if_pos (by rw [hs.wants (j := 2) (t := 47) rfl rfl eg (by kernel_rfl)]; rfl)]
          have e51 := hs.g 6 51 (.int .i64 vq) (hd ⟨6, .data⟩ (by simp) rfl)
          have e56 := hs.g 11 56 (.int .i64 (r : Int)) (hd ⟨11, .data⟩ (by simp) rfl)
          clear hs
          have hbv := HBV.out
          go_simp
          exact hK s0' wx (fun _ _ => rfl) hR
         refine StepAll.cons (fun D s0' wx hR (hDi : D 13 = false) hd hsh a' hs K hK => ?_) ?_
         ·have e47 := hs.g 2 47 (.bool true) (hd ⟨2, .data⟩ (by simp) rfl)
          have e57 := hs.g 12 57 (.bool bv) (hd ⟨12, .data⟩ (by simp) rfl)
          clear hs
          go_simp
          exact hK s0' wx (fun _ _ => rfl) hR
         exact StepAll.nil
        ·intro D s0' wx hR hD
         simp only [putA, Act.put, List.setIfInBounds_toArray, List.set_cons_zero, List.set_cons_succ]
         have HT2 : Hid (St w wx [rBlk w.heap.size 26 #[.int .i64 s0, .slice G gn gc, .slice (some ⟨b, off, none⟩) n' c'], rInts (.slice (some ⟨g, 0, none⟩) 32 sc) (stepsL t.deeds p), rInts x4 pre]) := Lib.hid (hR.to_st [0, 1, 2] (by decide) rfl)
         clear hR hD
         cases bv with
         | false =>
          have HPN2 := Bx.mk ((pick_not (f := near t.deeds p r) HDK.out HO.out HNR.out).trans HP.out)
          go_wp2
          go_roundw
          case rel => exact ⟨j + 1, rfl, rfl, by omega, by go_num, HPN2, HT2.out⟩
          case measure => simp [intOf]; omega
         | true =>
          have HPK := Bx.mk (HP.out.symm.trans (pick_yes (f := near t.deeds p r) HDK.out HO.out HNR.out))
          have HW2 := Bx.mk (walk_step HW.out HPK.out)
          have hvr : vq = (r : Int) := by simpa using HBV.out
          have HV2 : Bx (stpV t.deeds p q = (r : Int)) := Bx.mk (HVQ.out.trans hvr)
          have HROW := Lib.hid (HT2.out.ownI 2 rfl)
          have HAP : Hid (∀ v3 w3, w3.ownsRow 0 3 1 v3 (pre.length + 1) (ints pre ++ [Value.int .i64 (j : Int)]) → (wx.alloc (.cells #[.int .i64 (j : Int)] 3)).grownBy w3 x4.ownBlock → (v3.ownBlock = x4.ownBlock ∨ v3.ownBlock = some (wx.alloc (.cells #[.int .i64 (j : Int)] 3)).heap.size) →
            St w w3 [rBlk w.heap.size 26 #[.int .i64 s0, .slice G gn gc, .slice (some ⟨b, off, none⟩) n' c'], rInts (.slice (some ⟨g, 0, none⟩) 32 sc) (stepsL t.deeds p), rInts v3 (pre ++ [(j : Int)])]) :=
           Lib.hid fun v3 w3 h1 h2 h3 => St.appI (v := x4) (xs := pre) (ys := [(j : Int)]) ((HT2.out.alloc #[.int .i64 (j : Int)] 3).pick [0, 1, 2] (by decide) rfl rfl) 2 rfl rfl h1 (by intro y hy; simp at hy; subst hy; exact wf_i64_mk (by omega)) h2 h3
          have HMEAS2 : Hid ((stpV t.deeds p q).toNat = r) := Lib.hid (toNat_nat' HV2.out)
          clear hvr
          go_wp2_with (at_builtin; refine wp_app elInt rfl _ _ rfl 0 x4 pre.length (ints pre) rfl (HROW.out.alloc _) _ _ 1 1 [.int .i64 (j : Int)] rfl (RdRow.new wx [.int .i64 (j : Int)] 3 1 1 rfl (by unfold maxLen; omega)) (by simp [Value.oneCell']) (by omega) (by omega) (Nat.zero_le _) ?_; intro v3 w3 hown3 hg3 hat3; have HS6 := Lib.hid (HAP.out v3 w3 hown3 hg3 hat3))
          go_wp2
          go_roundw
          case rel => exact ⟨q, r, pre ++ [(j : Int)], v3, rfl, rfl, hq, HV2, by simp; omega, HW2, HS6.out⟩
          case measure =>
           show (stpV t.deeds p q).toNat < (stpV t.deeds p s).toNat
           have h1 := HMEAS.out
           have h2 := HMEAS2.out
           omega
      ·exact (pick_ends HDOK.out hs HV.out (by
        have := HP.out
        rw [List.drop_of_length_le (by rw [HDL.out]; omega)] at this
        exact this.symm)).elim
end Go.Proofs.YtkmcengmglgdeaaGreatDoor
