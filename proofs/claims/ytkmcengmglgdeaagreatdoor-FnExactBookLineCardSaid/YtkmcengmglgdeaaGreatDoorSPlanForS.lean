/- Joined texts: PlanForS, Rest, Iso, Acts. -/
import Derived.Test.YtkmcengmglgdeaaGreatDoorSStatesBack
import Derived.Test.YtkmcengmglgdeaaGreatDoorSBValid
import Derived.Test.YtkmcengmglgdeaaGreatDoorSPerm

namespace Go.Proofs.YtkmcengmglgdeaaGreatDoor
set_option linter.unusedVariables false
set_option linter.unusedSimpArgs false
set_option maxRecDepth 100000
set_option maxHeartbeats 8000000
open Go.ChangeShapes Go.WideShapes Go.ChangeAt Go.RowKit
theorem planFor_spec (v : Value) (t : TaskD) (w : World) (h : RdT w w.heap.size v t) :
  Calls Tryz.prog 104 #[v] w (Gives w (fun v => .tuple #[v, .bool (planFor t).isSome]) fun v => [rInts v ((planFor t).getD [])]) := by
 have h' := h; obtain ⟨G, gn, gc, G', n', c', rfl, hg, hgs, hds, hst⟩ := h; have HT := Lib.hid h'; have HDS := Lib.hid hds; have HDL := Lib.hid hds.len; obtain ⟨bo, hok⟩ : ∃ b, taskOk t = b := ⟨_, rfl⟩; have HOK := Lib.hid hok; clear hok hds h' hg
 have HS0' : Hid (∀ g, g = w.heap.size + 1 → St w ((w.alloc (.cells #[.int .i64 t.start, .slice G gn gc, .slice G' n' c'] 26)).alloc (.cells #[] 3)) [rBlk w.heap.size 26 #[.int .i64 t.start, .slice G gn gc, .slice G' n' c'], rInts (.slice (some ⟨g, 0, none⟩) 0 0) []]) :=
  Lib.hid fun g hg => by subst hg; exact ((St.refl w).alloc #[.int .i64 t.start, .slice G gn gc, .slice G' n' c'] 26).call (St.newI _ _ (by simp))
 have HS0 := Lib.hid (HS0'.out _ rfl); clear HS0'
 cases bo with
 | false =>
  have HPN := Bx.mk (planFor_no t HOK.out); have HSN := Bx.mk (stepsLeastR_no t HOK.out); go_enter Tryz.func104, Tryz.ntmps104
  go_wp2_with fail
  refine (stepsLeast_spec _ t _ (HT.out.up HS0.out.below)).mono ?_; rw [HSN.out]; rintro e w1 ⟨sv, rfl, s1⟩; obtain ⟨A1, c1, hv, -⟩ := s1.rdI 0 rfl; subst hv; have HS1 := Lib.hid (HS0.out.call s1); clear s1; simp only [List.length_nil]; go_wp2; refine bodyPost_ret (v := .tuple #[.slice (some ⟨w.heap.size + 1, 0, none⟩) 0 0, .bool false]) (by simp [results, Tryz.results104, go_sem]) rfl ⟨.slice (some ⟨w.heap.size + 1, 0, none⟩) 0 0, by rw [HPN.out]; rfl, ?_⟩; rw [HPN.out]; exact HS1.out.pick [1] (by decide) rfl rfl
 | true =>
  obtain ⟨hs0, hgok, hn6, hdok⟩ := taskOk_parts t HOK.out; obtain ⟨s0, hst0⟩ := Int.eq_ofNat_of_zero_le hs0.1; have HDOK := Lib.hid hdok; have hs32 : s0 < 32 := by omega
  have HPY := Bx.mk (planFor_yes t HOK.out s0 hst0); have HSY := Bx.mk (stepsLeastR_yes t HOK.out); obtain ⟨plan, hplan⟩ : ∃ plan, (planFor t).getD [] = plan := ⟨_, rfl⟩; have HPL := Bx.mk hplan; rw [hplan]; have hn6' : n' ≤ 6 := by rw [← HDL.out]; exact hn6
  obtain ⟨p, hp⟩ : ∃ p, evalCode t.goal = p := ⟨_, rfl⟩; rw [hp] at HPY HSY; clear hdok hgok hplan hs0 hn6 hp; rw [hst0] at HS0 HT ⊢
  go_enter Tryz.func104, Tryz.ntmps104
  go_wp2_with fail
  refine (stepsLeast_spec _ t _ (HT.out.up HS0.out.below)).mono ?_; rw [HSY.out]; rintro e w1 ⟨sv, rfl, s1⟩; have HS4 : Hid (St w w1 [rBlk w.heap.size 26 #[.int .i64 s0, .slice G gn gc, .slice G' n' c'], rInts sv (stepsL t.deeds p), rInts (.slice (some ⟨w.heap.size + 1, 0, none⟩) 0 0) []]) := Lib.hid ((HS0.out.call s1).pick [0, 2, 1] (by decide) rfl rfl); clear s1; obtain ⟨g, sc, hsv⟩ := HS4.out.formI 1 rfl (stepsL_len _ _) (by omega); subst hsv; have q4 := HS4.out.cells 0 rfl; obtain ⟨hc0, -⟩ := HS4.out.cellI 1 rfl (stepsL_len _ _) s0 _ (stepsL_at t.deeds p s0 hs32); have hbd := stpV_bd t.deeds p s0; clear HS0 HSY
  by_cases hneg : stpV t.deeds p s0 < 0
  ·have HPN : Bx (planFor t = none) := Bx.mk (by rw [HPY.out, if_pos hneg]); obtain ⟨u, hu⟩ : ∃ u, stpV t.deeds p s0 = u := ⟨_, rfl⟩; rw [hu] at hneg hc0; have HPL2 : Bx (([] : List Int) = plan) := Bx.mk (by rw [← HPL.out, HPN.out]; rfl); clear hu hbd; go_wp2; refine bodyPost_ret (v := .tuple #[.slice (some ⟨w.heap.size + 1, 0, none⟩) 0 0, .bool false]) (by simp [results, Tryz.results104, go_sem]) rfl ⟨.slice (some ⟨w.heap.size + 1, 0, none⟩) 0 0, by rw [HPN.out]; rfl, ?_⟩; rw [← HPL2.out]; exact HS4.out.pick [2] (by decide) rfl rfl
  ·obtain ⟨m0, hm0⟩ := Int.eq_ofNat_of_zero_le (show 0 ≤ stpV t.deeds p s0 by omega); have HPS : Bx (planFor t = some (walkP t.deeds p m0 s0)) := Bx.mk (by rw [HPY.out, if_neg hneg, hm0, Int.toNat_natCast]); have HW0 : Bx (([] : List Int) ++ walkP t.deeds p m0 s0 = plan) := Bx.mk (by rw [← HPL.out, HPS.out]; rfl); have HM0 := Bx.mk hm0
   have hm31 : m0 ≤ 31 := by
    have := stpV_le (S := p) HDOK.out hs32
    omega
   rw [hm0] at hc0; clear hneg hm0 hbd HPY; go_wp2
   go_loopw [6, 4] (fun sv pv wr => ∃ (s m : Nat) (pre : List Int) (x4 : Value), x4 = pv ∧ sv = .int .i64 s ∧ s < 32 ∧ Bx (stpV t.deeds p s = (m : Int)) ∧ pre.length + m ≤ 31 ∧ Bx (pre ++ walkP t.deeds p m s = plan) ∧ St w wr [rBlk w.heap.size 26 #[.int .i64 s0, .slice G gn gc, .slice G' n' c'], rInts (.slice (some ⟨g, 0, none⟩) 32 sc) (stepsL t.deeds p), rInts x4 pre]) (fun sv _ _ => (stpV t.deeds p (intOf sv).toNat).toNat)
   case atStart => exact ⟨s0, m0, [], _, rfl, rfl, hs32, HM0, by simpa using hm31, HW0, HS4.out⟩
   case round =>
    clear HM0 HW0 HS4 hc0 hm31 q4; obtain ⟨s, m, pre, x4, rfl, rfl, hs, HV, hml, HW, M⟩ := hrel; have HM := Lib.hid M; obtain ⟨hcs, -⟩ := M.cellI 1 rfl (stepsL_len _ _) s _ (stepsL_at t.deeds p s hs); rw [HV.out] at hcs; clear M
    rcases Nat.eq_zero_or_pos m with hm | hm
    ·subst hm; have HE : Hid (pre = plan) := Lib.hid (by have := HW.out; simpa [walkP] using this); go_wp2; refine bodyPost_ret (v := .tuple #[x4, .bool true]) (by simp [results, Tryz.results104, go_sem]) rfl ⟨x4, by rw [HPS.out]; rfl, ?_⟩; rw [← HE.out]; exact HM.out.pick [2] (by decide) rfl rfl
    ·obtain ⟨r, rfl⟩ : ∃ r, m = r + 1 := ⟨m - 1, by omega⟩; have HMEAS : Hid ((stpV t.deeds p s).toNat = r + 1) := Lib.hid (toNat_nat' HV.out); go_wp2
     go_loopw [7, 6, 4] (fun i sv pv wr => ∃ j : Nat, .int .i64 s = sv ∧ x4 = pv ∧ j ≤ n' ∧ i = .int .i64 j ∧ Bx (pick (near t.deeds p r) s (t.deeds.drop j) j = pick (near t.deeds p r) s t.deeds 0) ∧ St w wr [rBlk w.heap.size 26 #[.int .i64 s0, .slice G gn gc, .slice G' n' c'], rInts (.slice (some ⟨g, 0, none⟩) 32 sc) (stepsL t.deeds p), rInts x4 pre]) (fun i _ _ _ => n' - (intOf i).toNat)
     case atStart => exact ⟨0, rfl, rfl, by omega, rfl, Bx.mk (by rw [List.drop_zero]), HM.out⟩
     case round =>
      clear HM hcs; obtain ⟨j, rfl, rfl, hj, rfl, HP, M⟩ := hrel; have HM := Lib.hid M; have q0 := M.cells 0 rfl; clear M
      by_cases hlt : j < n'
      ·obtain ⟨b, off, d, rfl, hb, hd, hda⟩ := HDS.out.get hlt; obtain ⟨An, nn, cn, p0, p1, p2, p3, hneed, hnn, -⟩ := hda; have r0 : wr.cell? ⟨b, off + j * 4, none⟩ = some (.slice An nn cn) := (bcells HM.out.below b _ hb).trans p0; have r1 : wr.cell? ⟨b, off + j * 4 + 1, none⟩ = some (.int .i64 d.on) := (bcells HM.out.below b _ hb).trans p1; have r2 : wr.cell? ⟨b, off + j * 4 + 2, none⟩ = some (.int .i64 d.off) := (bcells HM.out.below b _ hb).trans p2; have r3 : wr.cell? ⟨b, off + j * 4 + 3, none⟩ = some (.int .i64 d.flip) := (bcells HM.out.below b _ hb).trans p3; have HDO := Lib.hid (HDOK.out d (List.mem_of_getElem? hd)); have HDK := Lib.hid hd; have HND := Lib.hid hneed; obtain ⟨o, ho⟩ : ∃ o, deedDo d s = o := ⟨_, rfl⟩; have HO := Lib.hid ho; have HSI : Hid ((s : Int) < 32) := Lib.hid (by omega); have HSQ : Hid ((stepsL t.deeds p)[s]? = some ((r : Int) + 1)) := Lib.hid (by rw [stepsL_at t.deeds p s hs, HV.out]; rfl); clear p0 p1 p2 p3 hneed hd ho
       go_wp2_with fail
       refine (l6Do_any An nn cn d s _ (HND.out.up HM.out.below) HDO.out hs).mono ?_; rw [HO.out]; rintro e w3 ⟨rfl, hb3⟩; have HM5 := Lib.hid (HM.out.quiet hb3); clear hb3 q0 r0 r1 r2 r3
       cases o with
       | none =>
        have HPN2 := Bx.mk ((pick_none (f := near t.deeds p r) HDK.out HO.out).trans HP.out); simp only [opt]
        go_upto_region 11 with (fail)
        refine wpr (σ := Unit)
         (fun s0' i => match i with
          | 0 => .int .i64 (-1)
          | 1 => .bool false
          | 2 => .bool false
          | 13 => .bool false
          | _ => undef)
         (fun D s0' wx => Sn w wx fun i => match i with
          | 0 => some (rBlk w.heap.size 26 #[.int .i64 s0, .slice G gn gc, .slice (some ⟨b, off, none⟩) n' c'])
          | 1 => some (rInts (.slice (some ⟨g, 0, none⟩) 32 sc) (stepsL t.deeds p))
          | 2 => some (rInts x4 pre)
          | _ => none)
         () ?_ ?_ ?_
        ·intro D hD; refine ((Sn.of_st HM5.out).quiet ((Below.refl _ _).drew)).congr fun i => ?_
         match i with
         | 0 | 1 | 2 => rfl
         | i + 3 => rfl
        ·refine Cs (fun D s0' wx hR _ hd _ _ hs K hK => ?_) ?_
         ·have e8 := hs.o 8 (.int .i64 (-1)); clear hs; go_simp; exact hK s0' wx (fun _ _ => rfl) hR
         refine Cs (fun D s0' wx hR _ hd _ _ hs K hK => ?_) ?_
         ·have e45 := hs.v 0 45 hd; clear hs; go_simp; exact hK s0' wx (fun _ _ => rfl) hR
         refine Cs (fun D s0' wx hR _ hd _ _ hs K hK => ?_) ?_
         ·have e46 := hs.v 1 46 hd; clear hs; go_simp; exact hK s0' wx (fun _ _ => rfl) hR
         refine CsG (fun D s0' wx hR _ hd _ _ hs K hK => ?_) ?_
         ·refine hs.nope 2 47 true hd ?_; exact hK s0' wx (fun _ _ => rfl) hR
         refine CsG (fun D s0' wx hR _ hd _ _ hs K hK => ?_) ?_
         ·refine hs.nope 2 47 true hd ?_; exact hK s0' wx (fun _ _ => rfl) hR
         refine CsG (fun D s0' wx hR _ hd _ _ hs K hK => ?_) ?_
         ·refine hs.nope 2 47 true hd ?_; exact hK s0' wx (fun _ _ => rfl) hR
         refine CsG (fun D s0' wx hR _ hd _ _ hs K hK => ?_) ?_
         ·refine hs.nope 2 47 true hd ?_; exact hK s0' wx (fun _ _ => rfl) hR
         refine CsG (fun D s0' wx hR _ hd _ _ hs K hK => ?_) ?_
         ·refine hs.nope 2 47 true hd ?_; exact hK s0' wx (fun _ _ => rfl) hR
         refine CsG (fun D s0' wx hR _ hd _ _ hs K hK => ?_) ?_
         ·refine hs.nope 2 47 true hd ?_; exact hK s0' wx (fun _ _ => rfl) hR
         refine CsG (fun D s0' wx hR _ hd _ _ hs K hK => ?_) ?_
         ·refine hs.nope 2 47 true hd ?_; exact hK s0' wx (fun _ _ => rfl) hR
         refine CsG (fun D s0' wx hR _ hd _ _ hs K hK => ?_) ?_
         ·refine hs.nope 2 47 true hd ?_; exact hK s0' wx (fun _ _ => rfl) hR
         refine CsG (fun D s0' wx hR _ hd _ _ hs K hK => ?_) ?_
         ·refine hs.nope 2 47 true hd ?_; exact hK s0' wx (fun _ _ => rfl) hR
         refine CsG (fun D s0' wx hR _ hd _ _ hs K hK => ?_) ?_
         ·refine hs.nope 2 47 true hd ?_; exact hK s0' wx (fun _ _ => rfl) hR
         refine Cs (fun D s0' wx hR _ hd _ _ hs K hK => ?_) ?_
         ·have e47 := hs.v 2 47 hd; have e57 := hs.v 12 57 hd; clear hs; go_simp; exact hK s0' wx (fun _ _ => rfl) hR
         exact StepAll.nil
        ·intro D s0' wx hR hD; simp only [putA, Act.put, List.setIfInBounds_toArray, List.set_cons_zero, List.set_cons_succ]; have HT2 : Hid (St w wx [rBlk w.heap.size 26 #[.int .i64 s0, .slice G gn gc, .slice (some ⟨b, off, none⟩) n' c'], rInts (.slice (some ⟨g, 0, none⟩) 32 sc) (stepsL t.deeds p), rInts x4 pre]) := Lib.hid (hR.to_st [0, 1, 2] (by decide) rfl); clear hR hD; go_wp2
         go_roundw
         case rel => exact ⟨j + 1, rfl, rfl, by omega, by go_num, HPN2, HT2.out⟩
         case measure => simp [intOf]; omega
       | some q =>
        have hq := deedDo_lt d s q HDO.out hs HO.out; have HQI : Hid ((q : Int) < 32) := Lib.hid (by omega); have HWR : Hid (IntKind.i64.wrap (r : Int) = (r : Int)) := Lib.hid (by rw [IntKind.wrap_i64]; omega); obtain ⟨vq, hvq⟩ : ∃ vq, stpV t.deeds p q = vq := ⟨_, rfl⟩; have HQ : Hid ((stepsL t.deeds p)[q]? = some vq) := Lib.hid (by rw [stepsL_at t.deeds p q hq, hvq]); obtain ⟨bv, hbv⟩ : ∃ bv, (vq == (r : Int)) = bv := ⟨_, rfl⟩; have HBV := Lib.hid hbv; have HNR : Hid (near t.deeds p r q = bv) := Lib.hid (by unfold near; rw [hvq, hbv]); have HVQ := Bx.mk hvq; clear hvq hbv; simp only [opt]
        go_upto_region 11 with (fail)
        refine wpr (σ := Unit)
         (fun s0' i => match i with
          | 0 => .int .i64 (q : Int)
          | 1 => .bool true
          | 2 => .bool true
          | 3 => .slice (some ⟨g, 0, none⟩) 32 sc
          | 4 => .int .i64 (q : Int)
          | 5 => .pointer (some ⟨g, q, none⟩)
          | 6 => .int .i64 vq
          | 7 => .slice (some ⟨g, 0, none⟩) 32 sc
          | 8 => .int .i64 (s : Int)
          | 9 => .pointer (some ⟨g, s, none⟩)
          | 10 => .int .i64 ((r : Int) + 1)
          | 11 => .int .i64 (r : Int)
          | 12 => .bool bv
          | 13 => .bool bv
          | _ => undef)
         (fun D s0' wx => Sn w wx fun i => match i with
          | 0 => some (rBlk w.heap.size 26 #[.int .i64 s0, .slice G gn gc, .slice (some ⟨b, off, none⟩) n' c'])
          | 1 => some (rInts (.slice (some ⟨g, 0, none⟩) 32 sc) (stepsL t.deeds p))
          | 2 => some (rInts x4 pre)
          | _ => none)
         () ?_ ?_ ?_
        ·intro D hD; refine ((Sn.of_st HM5.out).quiet ((Below.refl _ _).drew)).congr fun i => ?_
         match i with
         | 0 | 1 | 2 => rfl
         | i + 3 => rfl
        ·refine Cs (fun D s0' wx hR _ hd _ _ hs K hK => ?_) ?_
         ·have e8 := hs.o 8 (.int .i64 (q : Int)); clear hs; go_simp; exact hK s0' wx (fun _ _ => rfl) hR
         refine Cs (fun D s0' wx hR _ hd _ _ hs K hK => ?_) ?_
         ·have e45 := hs.v 0 45 hd; clear hs; go_simp; exact hK s0' wx (fun _ _ => rfl) hR
         refine Cs (fun D s0' wx hR _ hd _ _ hs K hK => ?_) ?_
         ·have e46 := hs.v 1 46 hd; clear hs; go_simp; exact hK s0' wx (fun _ _ => rfl) hR
         refine CsG (fun D s0' wx hR _ hd _ _ hs K hK => ?_) ?_
         ·refine hs.yes 2 47 true hd ?_; have e5 := hs.o 5 (.slice (some ⟨g, 0, none⟩) 32 sc); clear hs; go_simp; exact hK s0' wx (fun _ _ => rfl) hR
         refine CsG (fun D s0' wx hR _ hd _ _ hs K hK => ?_) ?_
         ·refine hs.yes 2 47 true hd ?_; have e8 := hs.o 8 (.int .i64 (q : Int)); clear hs; go_simp; exact hK s0' wx (fun _ _ => rfl) hR
         refine CsG (fun D s0' wx hR _ hd _ _ hs K hK => ?_) ?_
         ·refine hs.yes 2 47 true hd ?_; have e48 := hs.v 3 48 hd; have e49 := hs.v 4 49 hd; clear hs; have hqI := HQI.out; go_simp; exact hK s0' wx (fun _ _ => rfl) hR
         refine CsG (fun D s0' wx hR _ hd _ _ hs K hK => ?_) ?_
         ·refine hs.yes 2 47 true hd ?_; have e50 := hs.v 5 50 hd; clear hs; have cq : wx.cell? ⟨g, q, none⟩ = some (.int .i64 vq) := (hR.cellI 1 rfl (stepsL_len _ _) q _ HQ.out).1; go_simp; exact hK s0' wx (fun _ _ => rfl) hR
         refine CsG (fun D s0' wx hR _ hd _ _ hs K hK => ?_) ?_
         ·refine hs.yes 2 47 true hd ?_; have e5 := hs.o 5 (.slice (some ⟨g, 0, none⟩) 32 sc); clear hs; go_simp; exact hK s0' wx (fun _ _ => rfl) hR
         refine CsG (fun D s0' wx hR _ hd _ _ hs K hK => ?_) ?_
         ·refine hs.yes 2 47 true hd ?_; have e6 := hs.o 6 (.int .i64 (s : Int)); clear hs; go_simp; exact hK s0' wx (fun _ _ => rfl) hR
         refine CsG (fun D s0' wx hR _ hd _ _ hs K hK => ?_) ?_
         ·refine hs.yes 2 47 true hd ?_; have e52 := hs.v 7 52 hd; have e53 := hs.v 8 53 hd; clear hs; have hsI := HSI.out; go_simp; exact hK s0' wx (fun _ _ => rfl) hR
         refine CsG (fun D s0' wx hR _ hd _ _ hs K hK => ?_) ?_
         ·refine hs.yes 2 47 true hd ?_; have e54 := hs.v 9 54 hd; clear hs; have cs : wx.cell? ⟨g, s, none⟩ = some (.int .i64 ((r : Int) + 1)) := (hR.cellI 1 rfl (stepsL_len _ _) s _ HSQ.out).1; go_simp; exact hK s0' wx (fun _ _ => rfl) hR
         refine CsG (fun D s0' wx hR _ hd _ _ hs K hK => ?_) ?_
         ·refine hs.yes 2 47 true hd ?_; have e55 := hs.v 10 55 hd; clear hs; go_simp; rw [HWR.out]; exact hK s0' wx (fun _ _ => rfl) hR
         refine CsG (fun D s0' wx hR _ hd _ _ hs K hK => ?_) ?_
         ·refine hs.yes 2 47 true hd ?_; have e51 := hs.v 6 51 hd; have e56 := hs.v 11 56 hd; clear hs; have hbv := HBV.out; go_simp; exact hK s0' wx (fun _ _ => rfl) hR
         refine Cs (fun D s0' wx hR _ hd _ _ hs K hK => ?_) ?_
         ·have e47 := hs.v 2 47 hd; have e57 := hs.v 12 57 hd; clear hs; go_simp; exact hK s0' wx (fun _ _ => rfl) hR
         exact StepAll.nil
        ·intro D s0' wx hR hD; simp only [putA, Act.put, List.setIfInBounds_toArray, List.set_cons_zero, List.set_cons_succ]; have HT2 : Hid (St w wx [rBlk w.heap.size 26 #[.int .i64 s0, .slice G gn gc, .slice (some ⟨b, off, none⟩) n' c'], rInts (.slice (some ⟨g, 0, none⟩) 32 sc) (stepsL t.deeds p), rInts x4 pre]) := Lib.hid (hR.to_st [0, 1, 2] (by decide) rfl); clear hR hD
         cases bv with
         | false =>
          have HPN2 := Bx.mk ((pick_not (f := near t.deeds p r) HDK.out HO.out HNR.out).trans HP.out); go_wp2
          go_roundw
          case rel => exact ⟨j + 1, rfl, rfl, by omega, by go_num, HPN2, HT2.out⟩
          case measure => simp [intOf]; omega
         | true =>
          have HPK := Bx.mk (HP.out.symm.trans (pick_yes (f := near t.deeds p r) HDK.out HO.out HNR.out)); have HW2 := Bx.mk (walk_step HW.out HPK.out); have hvr : vq = (r : Int) := by simpa using HBV.out
          have HV2 : Bx (stpV t.deeds p q = (r : Int)) := Bx.mk (HVQ.out.trans hvr); have HROW := Lib.hid (HT2.out.ownI 2 rfl)
          have HAP : Hid (∀ v3 w3, w3.ownsRow 0 3 1 v3 (pre.length + 1) (ints pre ++ [Value.int .i64 (j : Int)]) → (wx.alloc (.cells #[.int .i64 (j : Int)] 3)).grownBy w3 x4.ownBlock → (v3.ownBlock = x4.ownBlock ∨ v3.ownBlock = some (wx.alloc (.cells #[.int .i64 (j : Int)] 3)).heap.size) →
            St w w3 [rBlk w.heap.size 26 #[.int .i64 s0, .slice G gn gc, .slice (some ⟨b, off, none⟩) n' c'], rInts (.slice (some ⟨g, 0, none⟩) 32 sc) (stepsL t.deeds p), rInts v3 (pre ++ [(j : Int)])]) :=
           Lib.hid fun v3 w3 h1 h2 h3 => St.appI (v := x4) (xs := pre) (ys := [(j : Int)]) ((HT2.out.alloc #[.int .i64 (j : Int)] 3).pick [0, 1, 2] (by decide) rfl rfl) 2 rfl rfl h1 (by intro y hy; simp at hy; subst hy; exact wf_i64_mk (by omega)) h2 h3
          have HMEAS2 : Hid ((stpV t.deeds p q).toNat = r) := Lib.hid (toNat_nat' HV2.out); clear hvr
          go_wp2_with (at_builtin; refine wp_app elInt rfl _ _ rfl 0 x4 pre.length (ints pre) rfl (HROW.out.alloc _) _ _ 1 1 [.int .i64 (j : Int)] rfl (RdRow.new wx [.int .i64 (j : Int)] 3 1 1 rfl (by unfold maxLen; omega)) (by simp [Value.oneCell']) (by omega) (by omega) (Nat.zero_le _) ?_; intro v3 w3 hown3 hg3 hat3; have HS6 := Lib.hid (HAP.out v3 w3 hown3 hg3 hat3))
          go_wp2
          go_roundw
          case rel => exact ⟨q, r, pre ++ [(j : Int)], v3, rfl, rfl, hq, HV2, by simp; omega, HW2, HS6.out⟩
          case measure =>
           show (stpV t.deeds p q).toNat < (stpV t.deeds p s).toNat
           have h1 := HMEAS.out; have h2 := HMEAS2.out
           omega
      ·exact (pick_ends HDOK.out hs HV.out (by
        have := HP.out
        rw [List.drop_of_length_le (by rw [HDL.out]; omega)] at this
        exact this.symm)).elim
def taskFrom (b : BookD) : TaskD := ⟨b.state, b.order.goal, b.order.deeds⟩
def restFor (b : BookD) : Option (List Int) := if bookOk b then planFor (taskFrom b) else none
theorem restFor_no (b : BookD) (h : bookOk b = false) : restFor b = none := if_neg (by rw [h]; simp)
theorem restFor_yes (b : BookD) (h : bookOk b = true) : restFor b = planFor (taskFrom b) := if_pos h
theorem RdBM.from_ {w : World} {B : Nat} {s st : Int} {x y z : Value} {b : BookD} (h : RdBM 1048576 w B (.agg #[.int .i64 s, x, y, z, .int .i64 st]) b) (hst : st = b.state) : RdTM 1048576 w B (.agg #[.int .i64 st, x, y]) (taskFrom b) := by
 obtain ⟨A, n, c, A', n', c', e, h1, h2, h3, h4⟩ := h.order; simp only [Value.agg.injEq, Array.mk.injEq, List.cons.injEq, and_true, true_and] at e; obtain ⟨-, rfl, rfl⟩ := e; obtain ⟨A2, n2, c2, A3, n3, c3, A4, n4, c4, e⟩ := h.form; simp only [Value.agg.injEq, Array.mk.injEq, List.cons.injEq, and_true, true_and] at e; obtain ⟨-, -, -, rfl, -⟩ := e; subst hst; exact ⟨A, n, c, A', n', c', rfl, h1, h2, h3, h.done.2.2.1⟩
theorem taskFrom_any (s st : Int) (A : Option Addr) (n c : Nat) (A' : Option Addr) (n' c' : Nat) (A2 : Option Addr) (n2 c2 : Nat) (w : World) :
  Calls Tryz.prog 70 #[.agg #[.int .i64 s, .slice A n c, .slice A' n' c', .slice A2 n2 c2, .int .i64 st]] w fun e w' => e = .returned (.agg #[.int .i64 st, .slice A n c, .slice A' n' c']) ∧ Below w.heap.size w w' := by
 go_enter Tryz.func70, Tryz.ntmps70; go_wp2; refine bodyPost_ret (v := .agg #[.int .i64 st, .slice A n c, .slice A' n' c']) (by simp [results, Tryz.results70, go_sem]) rfl ⟨rfl, ?_⟩
 repeat' (first | with_reducible exact Below.refl _ _ | with_reducible refine Below.setCell ?_ ?_ _ | with_reducible refine Below.alloc ?_ ?_ _)
 all_goals (simp; try omega)
theorem restFor_impl (v : Value) (b : BookD) (w : World) (h : RdB w w.heap.size v b) :
  Calls Tryz.prog 15 #[v] w (Gives w (fun v => .tuple #[v, .bool (restFor b).isSome]) fun v => [rInts v ((restFor b).getD [])]) := by
 have h' := h; obtain ⟨A, n, c, A', n', c', A2, n2, c2, hv⟩ := h.form; subst hv; have S0 := (St.refl w).alloc #[.int .i64 b.order.start, .slice A n c, .slice A' n' c', .slice A2 n2 c2, .int .i64 b.state] 28; have HB := Lib.hid h'; have HS0 := Lib.hid S0; clear S0 h h'; obtain ⟨bo, hok⟩ : ∃ x, bookOk b = x := ⟨_, rfl⟩; have HOK := Lib.hid hok; clear hok
 cases bo with
 | false =>
  have HN := Bx.mk (restFor_no b HOK.out); go_enter Tryz.func15, Tryz.ntmps15
  go_wp2_with fail
  refine (bookValid_impl _ b _ (HB.out.up HS0.out.below)).mono ?_; rw [HOK.out]; rintro e w1 ⟨rfl, hb1⟩; have HBE := Lib.hid (HS0.out.quiet hb1).below; clear hb1; go_wp2; refine bodyPost_ret (v := .tuple #[.slice none 0 0, .bool false]) (by simp [results, Tryz.results15, go_sem]) rfl ⟨.slice none 0 0, by rw [HN.out]; rfl, ?_⟩; rw [HN.out]; exact rInts_nil w _ HBE.out
 | true =>
  have HY := Bx.mk (restFor_yes b HOK.out); go_enter Tryz.func15, Tryz.ntmps15
  go_wp2_with fail
  refine (bookValid_impl _ b _ (HB.out.up HS0.out.below)).mono ?_; rw [HOK.out]; rintro e w1 ⟨rfl, hb1⟩; have HS1 := Lib.hid (HS0.out.quiet hb1); have q1 := HS1.out.cells 0 rfl; clear hb1
  go_wp2_with fail
  refine (taskFrom_any b.order.start b.state A n c A' n' c' A2 n2 c2 _).mono ?_; rintro e w2 ⟨rfl, hb2⟩; have HS2 := Lib.hid (HS1.out.quiet hb2); clear hb2 q1
  go_wp2_with fail
  refine (planFor_impl _ (taskFrom b) _ ((HB.out.from_ rfl).up HS2.out.below)).mono ?_; rintro e w3 ⟨v3, rfl, s3⟩; have HS3 := Lib.hid (HS2.out.call s3); clear s3; go_wp2; refine bodyPost_ret (v := .tuple #[v3, .bool (planFor (taskFrom b)).isSome]) (by simp [results, Tryz.results15, go_sem]) rfl ⟨v3, by rw [HY.out], ?_⟩; rw [HY.out]; exact HS3.out.pick [1] (by decide) rfl rfl
theorem restFor_spec (v : Value) (b : BookD) (w : World) (h : RdB w w.heap.size v b) :
  Calls Tryz.prog 53 #[v] w (Gives w (fun v => .tuple #[v, .bool (restFor b).isSome]) fun v => [rInts v ((restFor b).getD [])]) := by
 have h' := h; obtain ⟨A, n, c, A', n', c', A2, n2, c2, hv⟩ := h.form; subst hv; have S0 := (St.refl w).alloc #[.int .i64 b.order.start, .slice A n c, .slice A' n' c', .slice A2 n2 c2, .int .i64 b.state] 28; have HB := Lib.hid h'; have HS0 := Lib.hid S0; clear S0 h h'; obtain ⟨bo, hok⟩ : ∃ x, bookOk b = x := ⟨_, rfl⟩; have HOK := Lib.hid hok; clear hok
 cases bo with
 | false =>
  have HN := Bx.mk (restFor_no b HOK.out); go_enter Tryz.func53, Tryz.ntmps53
  go_wp2_with fail
  refine (bookValid_spec _ b _ (HB.out.up HS0.out.below)).mono ?_; rw [HOK.out]; rintro e w1 ⟨rfl, hb1⟩; have HS1 := Lib.hid ((HS0.out.quiet hb1).call (St.newI w1 _ rfl)); clear hb1; go_wp2; refine bodyPost_ret (v := .tuple #[.slice (some ⟨w1.heap.size, 0, none⟩) 0 0, .bool false]) (by simp [results, Tryz.results53, go_sem]) rfl ⟨.slice (some ⟨w1.heap.size, 0, none⟩) 0 0, by rw [HN.out]; rfl, ?_⟩; rw [HN.out]; exact HS1.out.pick [1] (by decide) rfl rfl
 | true =>
  have HY := Bx.mk (restFor_yes b HOK.out); go_enter Tryz.func53, Tryz.ntmps53
  go_wp2_with fail
  refine (bookValid_spec _ b _ (HB.out.up HS0.out.below)).mono ?_; rw [HOK.out]; rintro e w1 ⟨rfl, hb1⟩; have HS1 := Lib.hid (HS0.out.quiet hb1); have q1 := HS1.out.cells 0 rfl; clear hb1
  go_wp2_with fail
  refine (planFor_spec _ (taskFrom b) _ ((HB.out.from_ rfl).up HS1.out.below)).mono ?_; rintro e w3 ⟨v3, rfl, s3⟩; have HS3 := Lib.hid (HS1.out.call s3); clear s3; go_wp2; refine bodyPost_ret (v := .tuple #[v3, .bool (planFor (taskFrom b)).isSome]) (by simp [results, Tryz.results53, go_sem]) rfl ⟨v3, by rw [HY.out], ?_⟩; rw [HY.out]; exact HS3.out.pick [1] (by decide) rfl rfl
def waysN (ds : List DeedD) (S : Nat → Bool) : Nat → Nat → Int
 | 0, s => if S s then 1 else 0
 | n + 1, s => (ds.map fun d => match deedDo d s with
  | some s' => waysN ds S n s'
  | none => 0).sum
structure Iso (ds : List DeedD) (g : DeedD → DeedD) (f : Nat → Nat) : Prop where
 lt : ∀ s, s < 32 → f s < 32
 do_ : ∀ d ∈ ds, ∀ s, s < 32 → deedDo (g d) (f s) = (deedDo d s).map f
section
variable {ds : List DeedD} {g : DeedD → DeedD} {f : Nat → Nat} {S T : Nat → Bool}
end
def fwdP (ds : List DeedD) (S : Nat → Bool) (s : Nat) : Bool := (List.range 32).any fun s' => S s' && ds.any fun d => deedDo d s' == some s
def fwd (ds : List DeedD) (S : Nat → Bool) : Nat → Nat → Bool
 | 0, s => S s
 | n + 1, s => fwd ds S n s || fwdP ds (fwd ds S n) s
section
variable {ds : List DeedD} {g : DeedD → DeedD} {f : Nat → Nat} {S T : Nat → Bool}
theorem fwdP_iff {s : Nat} : fwdP ds S s = true ↔ ∃ s', s' < 32 ∧ S s' = true ∧ ∃ d ∈ ds, deedDo d s' = some s := by
 unfold fwdP
 simp only [List.any_eq_true, List.mem_range, Bool.and_eq_true, beq_iff_eq]
end
def flatA (aa : List ActD) : List Int := aa.flatMap fun a => [a.kind, a.number]
theorem flatA_cons (a : ActD) (aa : List ActD) : flatA (a :: aa) = a.kind :: a.number :: flatA aa := rfl
theorem flatA_append (aa bs : List ActD) : flatA (aa ++ bs) = flatA aa ++ flatA bs := by simp [flatA]
theorem flatA_at (aa : List ActD) (i : Nat) (a : ActD) (h : aa[i]? = some a) : (flatA aa)[i * 2]? = some a.kind ∧ (flatA aa)[i * 2 + 1]? = some a.number := by
 induction aa generalizing i with
 | nil => simp at h
 | cons x aa ih =>
  rw [flatA_cons]
  cases i with
  | zero => simp at h; subst h; exact ⟨rfl, rfl⟩
  | succ i =>
   simp only [List.getElem?_cons_succ] at h; obtain ⟨h1, h2⟩ := ih i h; rw [show (i + 1) * 2 = i * 2 + 1 + 1 by omega]; simp only [List.getElem?_cons_succ]; exact ⟨h1, h2⟩
def rActs (v : Value) (aa : List ActD) : HRes := rRow 64 2 v aa.length (ints (flatA aa))
def RdA (w : World) (B : Nat) (A : Option Addr) (n c : Nat) (aa : List ActD) : Prop := aa.length = n ∧ RdRow w B 2 A n c (ints (flatA aa))
theorem RdA.get {w : World} {B n c i : Nat} {A : Option Addr} {aa : List ActD} (h : RdA w B A n c aa) (hi : i < n) : ∃ b off a, A = some ⟨b, off, none⟩ ∧ b < B ∧ aa[i]? = some a ∧ w.cell? ⟨b, off + i * 2, none⟩ = some (.int .i64 a.kind) ∧ w.cell? ⟨b, off + i * 2 + 1, none⟩ = some (.int .i64 a.number) := by
 obtain ⟨b, off, e, hb, hc⟩ := h.2.at_ (by omega); have hl := h.1; have ha : aa[i]? = some (aa[i]'(by omega)) := List.getElem?_eq_getElem _; obtain ⟨h1, h2⟩ := flatA_at aa i _ ha; refine ⟨b, off, _, e, hb, ha, hc (i * 2) _ ?_, ?_⟩
 ·unfold ints; rw [List.getElem?_map, h1]; rfl
 ·rw [Nat.add_assoc]; refine hc (i * 2 + 1) _ ?_
  unfold ints; rw [List.getElem?_map, h2]; rfl
theorem St.rdA {w W : World} {L : List HRes} (h : St w W L) (i : Nat) {v : Value} {aa : List ActD} (hi : L[i]? = some (rActs v aa)) : ∃ A c, v = .slice A aa.length c ∧ RdA W W.heap.size A aa.length c aa := by
 obtain ⟨A, c, hv, hr⟩ := h.rdRow i hi; exact ⟨A, c, hv, rfl, hr⟩
theorem St.rdA' {w W : World} {L : List HRes} (h : St w W L) (i : Nat) {A : Option Addr} {n c : Nat} {aa : List ActD} (hi : L[i]? = some (rActs (.slice A n c) aa)) : RdA W W.heap.size A n c aa := by
 obtain ⟨A', c', hv, hr⟩ := h.rdA i hi; simp only [Value.slice.injEq] at hv; obtain ⟨rfl, rfl, rfl⟩ := hv; exact hr
def markAS (k n : Nat) : List ActD := (List.range n).map fun i => ⟨((k + 2 * i : Nat) : Int), ((k + 2 * i + 1 : Nat) : Int)⟩
def mixA (k : Nat) (aa : List ActD) (i : Nat) : List ActD := markAS k i ++ aa.drop i
end Go.Proofs.YtkmcengmglgdeaaGreatDoor
