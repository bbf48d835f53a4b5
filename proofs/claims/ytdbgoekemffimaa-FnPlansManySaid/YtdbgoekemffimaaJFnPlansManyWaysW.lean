/- WaysTo of the program. Printed by gen_waysto.py. -/
import Derived.Test.YtdbgoekemffimaaJFnPlansManyReach
import Derived.Test.YtdbgoekemffimaaJFnPlansMany10
import Derived.Test.YtdbgoekemffimaaJFnPlansManyPlansW
import Derived.Test.YtdbgoekemffimaaJFnPlansManyTDraw
namespace Go.Proofs.Ytdbgoekemffimaa
set_option linter.unusedVariables false
open Go.ChangeShapes Go.WideShapes Go.ChangeAt Go.RowKit

theorem St.made32 {w w2 : World} {g : Nat} (hg : w.heap.size = g) (hown : w2.ownsRow w.heap.size 3 1 (.slice (some ⟨g, 0, none⟩) 32 32) 32 (madeCells (Value.int .i64 0).cells (32 * 1)).toList) (hgr : w.grownBy w2 none) : St w w2 [rInts (.slice (some ⟨g, 0, none⟩) 32 32) (intsF fun _ => 0)] := by
  refine St.of_ints (F := [g]) ⟨?_, ?_, ?_⟩ ((Below.refl _ _).grown hgr (Nat.le_refl _) (by simp))
  · have e : (madeCells (Value.int IntKind.i64 0).cells (32 * 1)).toList = Go.Proofs.Ytdbgoekemffimaa.ints (intsF fun _ => 0) := by
      show (madeCells #[Value.int IntKind.i64 0] 32).toList = _
      rw [toList_madeCells_one]
      rfl
    rw [intsF_len]
    rw [e] at hown
    exact hown
  · intro x hx
    obtain ⟨_, _, rfl⟩ := List.mem_map.1 hx
    rfl
  · rfl
set_option maxRecDepth 100000 in
set_option maxHeartbeats 2000000 in
theorem waysTo_impl (v : Value) (t : TaskD) (w : World) (h : RdT w w.heap.size v t) :
    Calls Try.prog 13 #[v] w (Gives w id fun v => [rInts v (waysTo t)]) := by
  have h' := h
  obtain ⟨G, gn, gc, G', n', c', rfl, hg, hgs, hds, hst⟩ := h
  have S0 := (St.refl w).alloc #[.int .i64 t.start, .slice G gn gc, .slice G' n' c'] 26
  have HT := Lib.hid h'
  have HG := Lib.hid hg
  have HS0 := Lib.hid S0
  have HDL := Lib.hid hds.len
  clear S0 h' hg hds
  obtain ⟨bo, hok⟩ : ∃ b, taskOk t = b := ⟨_, rfl⟩
  have HOK := Lib.hid hok
  clear hok
  cases bo with
  | false =>
    have HPN : Bx (waysTo t = []) := Bx.mk (by unfold waysTo; rw [HOK.out]; rfl)
    go_enter Try.func13, Try.ntmps13
    go_wp2_with fail
    refine (taskValid_impl _ t _ (HT.out.up HS0.out.below)).mono ?_
    rw [HOK.out]
    rintro e w1 ⟨rfl, hb1⟩
    have HB := Lib.hid (HS0.out.quiet hb1).below
    clear hb1
    go_wp2
    go_ret
    exact ⟨.slice none 0 0, rfl, by rw [HPN.out]; exact rInts_nil _ _ HB.out⟩
  | true =>
    obtain ⟨hs0, hgok, hn6, hdok⟩ := taskOk_parts t HOK.out
    obtain ⟨s0, hst0⟩ := Int.eq_ofNat_of_zero_le hs0.1
    have HDOK := Lib.hid hdok
    have hs32 : s0 < 32 := by omega
    have HTR := Bx.mk (codeTruth_yes t.goal hgok)
    have hn6' : n' ≤ 6 := by rw [← HDL.out]; exact hn6
    have HPY : Bx (waysTo t = intsF (fun s => if stpV t.deeds (evalCode t.goal) s < 0 then 0 else wrap (waysN t.deeds (evalCode t.goal) (stpV t.deeds (evalCode t.goal) s).toNat s))) := Bx.mk (by unfold waysTo; rw [HOK.out]; rfl)
    obtain ⟨i0, hi, hz0, hz1, hz2⟩ := elInt.hi
    rw [hst0] at HS0 ⊢
    clear hdok hgok hs0 hn6
    go_enter Try.func13, Try.ntmps13
    go_wp2_with fail
    refine (taskValid_impl _ t _ (by rw [← hst0]; rw [← hst0] at HS0; exact HT.out.up HS0.out.below)).mono ?_
    rw [HOK.out]
    rintro e w1 ⟨rfl, hb1⟩
    have HST0 := Bx.mk hst0
    have HS2 := Lib.hid (HS0.out.quiet hb1)
    have q2 : ∀ j, w1.cell? ⟨w.heap.size, j, none⟩ = _ := HS2.out.cells 0 rfl
    clear hb1 HS0
    go_wp2_with fail
    refine (behindAll_any _ t _ (by have := HT.out.up HS2.out.below; rw [HST0.out] at this; exact this) HOK.out).mono ?_
    rintro e w3 ⟨rv, rfl, s3⟩
    obtain ⟨RA, RC, hrv, -⟩ := s3.rdRow 0 rfl
    rw [HDL.out] at hrv
    subst hrv
    obtain ⟨ds, hds⟩ : ∃ ds, t.deeds = ds := ⟨_, rfl⟩
    obtain ⟨p, hp⟩ : ∃ p, evalCode t.goal = p := ⟨_, rfl⟩
    rw [hds] at HDL HDOK s3
    rw [hds, hp] at HPY
    have HP := Bx.mk hp
    have HS3 : Hid (St w w3 [rBlk w.heap.size 26 #[.int .i64 s0, .slice G gn gc, .slice G' n' c'], rBeh (.slice RA n' RC) ds]) := Lib.hid (HS2.out.call s3)
    have HRB : Hid (∀ W L, St w W (rBlk w.heap.size 26 #[.int .i64 s0, .slice G gn gc, .slice G' n' c'] :: rBeh (.slice RA n' RC) ds :: L) → RdRow W W.heap.size 32 RA n' RC (ints (behL ds))) := Lib.hid fun W L h => h.rdRow' (n := n') 1 (by rw [← HDL.out]; rfl)
    clear s3 q2 HS2 hp hds
    have q2 : ∀ j, w3.cell? ⟨w.heap.size, j, none⟩ = _ := HS3.out.cells 0 rfl
    go_wp2_with fail
    refine (codeTruth_impl G gn gc t.goal _ (HG.out.up HS3.out.below)).mono ?_
    rw [HTR.out]
    unfold truthN
    rw [HP.out]
    rintro e w4 ⟨rfl, hb4⟩
    have HS4 := Lib.hid (HS3.out.quiet hb4)
    clear hb4 q2 HS3
    go_wp2_with fail
    refine (stepsBack_any RA n' RC ds p _ _ (HRB.out _ _ HS4.out) HDL.out HDOK.out hn6' rfl).mono ?_
    rintro e w5 ⟨sv, rfl, s5⟩
    obtain ⟨gs, cs, hsv⟩ := s5.formI 0 rfl (stepsL_len _ _) (by omega)
    simp only [id_eq] at hsv ⊢
    subst hsv
    have HS5 : Hid (St w w5 [rBlk w.heap.size 26 #[.int .i64 s0, .slice G gn gc, .slice G' n' c'], rBeh (.slice RA n' RC) ds, rInts (.slice (some ⟨gs, 0, none⟩) 32 cs) (stepsL ds p)]) := Lib.hid (HS4.out.call s5)
    clear s5 HS4
    obtain ⟨gw, hgw⟩ : ∃ x, w5.heap.size = x := ⟨_, rfl⟩
    go_wp2_with (at_make; refine wpList_make_full _ rfl _ _ 23 rfl w5.heap.size 3 i0 _ 1 Try.underlying23 hi hz0 hz1 _ _ _ _ 32 rfl rfl rfl rfl (by rw [hz2]; omega) (by unfold maxLen; omega) (Nat.le_refl _) ?_; intro w6 hown hgr)
    have s6 := St.made32 hgw (by first | exact hown | (rw [hgw] at hown; exact hown) | (rw [← hgw]; exact hown)) hgr
    have HS6 : Hid (St w w6 [rBlk w.heap.size 26 #[.int .i64 s0, .slice G gn gc, .slice G' n' c'], rBeh (.slice RA n' RC) ds, rInts (.slice (some ⟨gs, 0, none⟩) 32 cs) (stepsL ds p), rInts (.slice (some ⟨gw, 0, none⟩) 32 32) (intsF (fun s => baseW ds p 0 0 s))]) := Lib.hid (by rw [intsF_congr (fun s _ => baseW_zero s)]; exact HS5.out.call s6)
    try rw [hgw]
    clear s6 hown hgr HS5 hgw
    go_wp2
    go_loopw [21] (fun iv wr => ∃ m : Nat, m ≤ 32 ∧ iv = .int .i64 m ∧ St w wr [rBlk w.heap.size 26 #[.int .i64 s0, .slice G gn gc, .slice G' n' c'], rBeh (.slice RA n' RC) ds, rInts (.slice (some ⟨gs, 0, none⟩) 32 cs) (stepsL ds p), rInts (.slice (some ⟨gw, 0, none⟩) 32 32) (intsF (fun s => baseW ds p m 0 s))]) (fun iv _ => 32 - (intOf iv).toNat)
    case atStart => exact ⟨0, by omega, rfl, HS6.out⟩
    case round =>
      clear HS6
      obtain ⟨m, hm, rfl, S⟩ := hrel
      have HS := Lib.hid S
      clear S
      by_cases hm2 : m < 32
      · go_wp2
        generalize decide ((m : Int) < 32) = bb0
        go_loopw [26] (fun iv wr => ∃ st : Nat, st ≤ 32 ∧ iv = .int .i64 st ∧ St w wr [rBlk w.heap.size 26 #[.int .i64 s0, .slice G gn gc, .slice G' n' c'], rBeh (.slice RA n' RC) ds, rInts (.slice (some ⟨gs, 0, none⟩) 32 cs) (stepsL ds p), rInts (.slice (some ⟨gw, 0, none⟩) 32 32) (intsF (fun s => baseW ds p m st s))]) (fun iv _ => 32 - (intOf iv).toNat)
        case atStart => exact ⟨0, by omega, rfl, HS.out⟩
        case round =>
          clear HS
          obtain ⟨st, hst, rfl, S⟩ := hrel
          have HS := Lib.hid S
          clear S
          by_cases hst2 : st < 32
          · obtain ⟨a, ha⟩ : ∃ a, stpV ds p st = a := ⟨_, rfl⟩
            have HA := Bx.mk ha
            have hstI : (st : Int) < 32 := by omega
            have qs : wr.cell? ⟨gs, st, none⟩ = some (.int .i64 a) := (HS.out.cellI 2 rfl (stepsL_len _ _) st _ (by rw [← ha]; exact stepsL_at _ _ st hst2)).1
            clear ha
            by_cases ham : a = (m : Int)
            case neg =>
              have hne : (a == (m : Int)) = false := by simpa using ham
              have HW2 : Bx (intsF (fun s => baseW ds p m st s) = intsF (fun s => baseW ds p m (st + 1) s)) := Bx.mk (intsF_congr fun s _ => (baseW_skip (fun h => ham (HA.out.symm.trans h)) s).symm)
              clear ham
              go_wp2
              go_roundw
              case rel => exact ⟨st + 1, by omega, by go_num, by have h := HS.out; rw [HW2.out] at h; exact h⟩
              case measure => simp [intOf]; omega
            subst ham
            have qw := (HS.out.cellI 3 rfl (intsF_len _) st _ (intsF_at _ st hst2)).1
            have fw := (HS.out.cellI 3 rfl (intsF_len _) st _ (intsF_at _ st hst2)).2
            have HLAST : Bx (xW ds p m st n' = wrap (waysN ds p m st)) := Bx.mk (by rw [← HDL.out]; exact xW_end HDOK.out hst2 HA.out)
            go_upto_if 36 with (fail)
            go_cut [39] (fun _ wx => St w wx [rBlk w.heap.size 26 #[.int .i64 s0, .slice G gn gc, .slice G' n' c'], rBeh (.slice RA n' RC) ds, rInts (.slice (some ⟨gs, 0, none⟩) 32 cs) (stepsL ds p), rInts (.slice (some ⟨gw, 0, none⟩) 32 32) (intsF (fun s => midW ds p m st (xW ds p m st 0) s))])
            case first =>
              by_cases hm0 : m = 0
              · have heq : ((m : Int) == 0) = true := by simp; omega
                have HSB : Hid (St w (wr.setCell ⟨gw, st, none⟩ (.int .i64 1)) [rBlk w.heap.size 26 #[.int .i64 s0, .slice G gn gc, .slice G' n' c'], rBeh (.slice RA n' RC) ds, rInts (.slice (some ⟨gs, 0, none⟩) 32 cs) (stepsL ds p), rInts (.slice (some ⟨gw, 0, none⟩) 32 32) (intsF (fun s => midW ds p m st (xW ds p m st 0) s))]) := Lib.hid (by
                  have h := HS.out.putI 3 rfl (intsF_len _) st 1 (wf_i64_mk (by omega))
                  rw [intsF_set] at h
                  rw [show xW ds p m st 0 = 1 by rw [hm0]; exact xW_one]
                  exact h)
                go_wp2
                go_meet
                case rel => exact HSB.out
              · have hne : ((m : Int) == 0) = false := by simp; omega
                have HW2 : Bx (intsF (fun s => baseW ds p m st s) = intsF (fun s => midW ds p m st (xW ds p m st 0) s)) := Bx.mk (intsF_congr fun s _ => by rw [xW_start hm0]; exact midW_start HA.out s)
                go_wp2
                go_meet
                case rel => have h := HS.out; rw [HW2.out] at h; exact h
            case rest =>
              have HC := Lib.hid hcut
              clear hcut HS qs qw fw
              go_wp2
              generalize decide ((st : Int) < 32) = bb1
              go_loopw [42] (fun iv wr => ∃ j : Nat, j ≤ n' ∧ iv = .int .i64 j ∧ St w wr [rBlk w.heap.size 26 #[.int .i64 s0, .slice G gn gc, .slice G' n' c'], rBeh (.slice RA n' RC) ds, rInts (.slice (some ⟨gs, 0, none⟩) 32 cs) (stepsL ds p), rInts (.slice (some ⟨gw, 0, none⟩) 32 32) (intsF (fun s => midW ds p m st (xW ds p m st j) s))]) (fun iv _ => n' - (intOf iv).toNat)
              case atStart => exact ⟨0, by omega, rfl, HC.out⟩
              case round =>
                clear HC
                obtain ⟨j, hj, rfl, S⟩ := hrel
                have HS := Lib.hid S
                clear S
                by_cases hjn : j < n'
                · obtain ⟨b, off, d, rfl, hb, hdk, hrow⟩ := beh_row (HRB.out _ _ HS.out) HDL.out hjn
                  have HDK := Lib.hid hdk
                  have HLD := Lib.hid hrow
                  have HSA := Lib.hid (HS.out.alloc (rowOf d).toArray 72)
                  clear hrow hdk
                  go_upto_region 18 with (first
                    | (refine wpList_load_arr 72 (.tmp 44) rfl rfl 3 32 undBeh b (off + j * 32) (rowOf d) rfl (by rw [rowOf_len]; exact infoBeh) HLD.out ?_)
                    | (refine wpList_store_arr 72 (.tmp 9) (.tmp 45) rfl rfl _ (rowOf d) rfl rfl (by rw [rowOf_len]; exact infoBeh) (by rw [rowOf_len]; rfl) (by simp [rowOf, Value.oneCell']) ?_))
                  generalize wr.alloc (.cells (rowOf d).toArray 72) = wa at HSA ⊢
                  generalize wr.heap.size = ga at HSA ⊢
                  obtain ⟨o, ho⟩ : ∃ o, deedDo d st = o := ⟨_, rfl⟩
                  have qr : wa.cell? ⟨ga, st, none⟩ = some (.int .i64 (opt o)) := by
                    have h := HSA.out.cells 4 rfl st
                    rw [h, ← ho, ← rowOf_at d st hst2]; simp
                  have HO := Bx.mk ho
                  have HDO := Lib.hid (HDOK.out d (List.mem_of_getElem? HDK.out))
                  clear HLD HS hb ho
                  by_cases hm0 : m = 0
                  · have hmz : (m : Int) ≤ 0 := by omega
                    have hmd : decide ((0 : Int) < (m : Int)) = false := by simp; omega
                    have HSB : Hid (St w wa [rBlk w.heap.size 26 #[.int .i64 s0, .slice G gn gc, .slice G' n' c'], rBeh (.slice (some ⟨b, off, none⟩) n' RC) ds, rInts (.slice (some ⟨gs, 0, none⟩) 32 cs) (stepsL ds p), rInts (.slice (some ⟨gw, 0, none⟩) 32 32) (intsF (fun s => midW ds p m st (xW ds p m st (j + 1)) s))]) := Lib.hid (by
                      have h := HSA.out.rid 4 rfl
                      rw [show xW ds p m st j = 1 by rw [hm0]; exact xW_one] at h
                      rw [show xW ds p m st (j + 1) = 1 by rw [hm0]; exact xW_one]
                      exact h)
                    clear hm0
                    clear HSA qr
                    go_wp2
                    go_roundw
                    case rel => exact ⟨j + 1, by omega, by go_num, HSB.out⟩
                    case measure => simp [intOf]; omega
                  have hm1 : (0 : Int) < (m : Int) := by omega
                  cases o with
                  | none =>
                    have HW2 : Bx ((intsF (fun s => midW ds p m st (xW ds p m st j) s)) = intsF (fun s => midW ds p m st (xW ds p m st (j + 1)) s)) := Bx.mk (by rw [xW_same HDK.out (termW_none HO.out)])
                    have HSB := Lib.hid (HSA.out.rid 4 rfl)
                    simp only [opt] at qr
                    clear HSA
                    go_wp2
                    go_roundw
                    case rel => exact ⟨j + 1, by omega, by go_num, by have h := HSB.out; rw [HW2.out] at h; exact h⟩
                    case measure => simp [intOf]; omega
                  | some q =>
                    have hq := deedDo_lt d st q HDO.out hst2 HO.out
                    have hqI : (q : Int) < 32 := by omega
                    simp only [opt] at qr
                    obtain ⟨c9, hc9⟩ : ∃ c, stpV ds p q = c := ⟨_, rfl⟩
                    have qf2 : wa.cell? ⟨gs, q, none⟩ = some (.int .i64 c9) := (HSA.out.cellI 2 rfl (stepsL_len _ _) q _ (by rw [← hc9]; exact stepsL_at _ _ q hq)).1
                    have HC9 := Bx.mk hc9
                    clear hc9
                    by_cases hck : c9 = (m : Int) - 1
                    case neg =>
                      have hne : (c9 == (m : Int) - 1) = false := by simpa using hck
                      have HW2 : Bx ((intsF (fun s => midW ds p m st (xW ds p m st j) s)) = intsF (fun s => midW ds p m st (xW ds p m st (j + 1)) s)) := Bx.mk (by rw [xW_same HDK.out (by rw [termW_some HO.out, if_neg (by rw [HC9.out]; omega)])])
                      have HSB := Lib.hid (HSA.out.rid 4 rfl)
                      clear hck HSA
                      go_wp2
                      go_roundw
                      case rel => exact ⟨j + 1, by omega, by go_num, by have h := HSB.out; rw [HW2.out] at h; exact h⟩
                      case measure => simp [intOf]; omega
                    subst hck
                    obtain ⟨x9, hx9⟩ : ∃ x, xW ds p m st j = x := ⟨_, rfl⟩
                    obtain ⟨y9, hy9⟩ : ∃ y, midW ds p m st x9 q = y := ⟨_, rfl⟩
                    have q5 : wa.cell? ⟨gw, st, none⟩ = some (.int .i64 x9) := (HSA.out.cellI 3 rfl (intsF_len _) st _ (by rw [intsF_at _ st hst2]; unfold midW; rw [if_pos rfl, hx9])).1
                    have f5 : wa.frozen? ⟨gw, st, none⟩ = false := (HSA.out.cellI 3 rfl (intsF_len _) st _ (intsF_at _ st hst2)).2
                    have q6 : wa.cell? ⟨gw, q, none⟩ = some (.int .i64 y9) := (HSA.out.cellI 3 rfl (intsF_len _) q _ (by rw [intsF_at _ q hq, hx9, hy9])).1
                    have HSB : Hid (St w (wa.drew.setCell ⟨gw, st, none⟩ (.int .i64 (wrap64 (x9 + y9)))) [rBlk w.heap.size 26 #[.int .i64 s0, .slice G gn gc, .slice G' n' c'], rBeh (.slice (some ⟨b, off, none⟩) n' RC) ds, rInts (.slice (some ⟨gs, 0, none⟩) 32 cs) (stepsL ds p), rInts (.slice (some ⟨gw, 0, none⟩) 32 32) (intsF (fun s => midW ds p m st (xW ds p m st (j + 1)) s))]) := Lib.hid (by
                      have h := ((HSA.out.drew).putI 3 rfl (intsF_len _) st (wrap64 (x9 + y9)) (wf_i64_mk (by have := wrap_bd (x9 + y9); rw [wrap64_eq]; omega))).rid 4 rfl
                      rw [intsF_set] at h
                      rw [intsF_congr (f := fun i => if i = st then wrap64 (x9 + y9) else midW ds p m st (xW ds p m st j) i) (g := fun s => midW ds p m st (xW ds p m st (j + 1)) s) (fun s hs => by rw [midW_set, xW_add HDK.out HO.out hm0 (by rw [HC9.out]; omega) HA.out, hx9, hy9, wrap64_eq])] at h
                      exact h)
                    clear HSA hx9 hy9
                    go_wp2
                    go_still_tail 12, (by kernel_rfl)
                    change wpList _ _ _ _ _ wa.drew
                    go_wp2
                    go_roundw
                    case rel => exact ⟨j + 1, by omega, by go_num, HSB.out⟩
                    case measure => simp [intOf]; omega
                · obtain rfl : j = n' := by omega
                  have HW2 : Bx ((intsF (fun s => midW ds p m st (xW ds p m st j) s)) = intsF (fun s => baseW ds p m (st + 1) s)) := Bx.mk (intsF_congr fun s hs => by rw [HLAST.out]; exact midW_end HA.out s)
                  go_wp2
                  go_roundw
                  case rel => exact ⟨st + 1, by omega, by go_num, by have h := HS.out; rw [HW2.out] at h; exact h⟩
                  case measure => simp [intOf]; omega
          · obtain rfl : st = 32 := by omega
            have HW2 : Bx (intsF (fun s => baseW ds p m 32 s) = intsF (fun s => baseW ds p (m + 1) 0 s)) := Bx.mk (intsF_congr fun s hs => baseW_row hs)
            go_wp2
            go_roundw
            case rel => exact ⟨m + 1, by omega, by go_num, by have h := HS.out; rw [HW2.out] at h; exact h⟩
            case measure => simp [intOf]; omega
      · obtain rfl : m = 32 := by omega
        have HW2 : Bx (intsF (fun s => baseW ds p 32 0 s) = waysTo t) := Bx.mk (by rw [HPY.out]; exact intsF_congr fun s hs => baseW_all HDOK.out hs)
        go_wp2
        go_ret
        exact ⟨_, rfl, by have h := HS.out; rw [HW2.out] at h; exact (((h.tl).tl).tl)⟩
end Go.Proofs.Ytdbgoekemffimaa
