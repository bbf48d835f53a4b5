/- PlansMany of the reference. Printed by gen_plansspec.py. -/
import Derived.Test.YtdbgoekemffimaaJFnPlansManyStepsLeast
import Derived.Test.YtdbgoekemffimaaJFnPlansMany10
import Derived.Test.YtdbgoekemffimaaJFnPlansManyWaysW
namespace Go.Proofs.Ytdbgoekemffimaa
set_option linter.unusedVariables false
open Go.ChangeShapes Go.WideShapes Go.ChangeAt Go.RowKit

set_option maxRecDepth 100000 in
set_option maxHeartbeats 2000000 in
theorem plansMany_spec (v : Value) (t : TaskD) (w : World) (h : RdT w w.heap.size v t) :
    Calls Try.prog 11 #[v] w fun e w' => e = .returned (.int .i64 (plansMany t)) ∧ Below w.heap.size w w' := by
  have h' := h
  obtain ⟨G, gn, gc, G', n', c', rfl, hg, hgs, hds, hst⟩ := h
  have S0 := (St.refl w).alloc #[.int .i64 t.start, .slice G gn gc, .slice G' n' c'] 26
  have HT := Lib.hid h'
  have HS0 := Lib.hid S0
  have HDL := Lib.hid hds.len
  clear S0 h' hg hds
  obtain ⟨bo, hok⟩ : ∃ b, taskOk t = b := ⟨_, rfl⟩
  have HOK := Lib.hid hok
  clear hok
  cases bo with
  | false =>
    have HPN := Bx.mk (plansMany_no t HOK.out)
    go_enter Try.func11, Try.ntmps11
    go_wp2_with fail
    refine (taskValid_spec _ t _ (HT.out.up HS0.out.below)).mono ?_
    rw [HOK.out]
    rintro e w1 ⟨rfl, hb1⟩
    have HB := Lib.hid (HS0.out.quiet hb1).below
    clear hb1
    go_wp2
    go_ret
    exact ⟨ret_int HPN.out.symm, HB.out⟩
  | true =>
    obtain ⟨hs0, hgok, hn6, hdok⟩ := taskOk_parts t HOK.out
    obtain ⟨s0, hst0⟩ := Int.eq_ofNat_of_zero_le hs0.1
    have HDOK := Lib.hid hdok
    have hs32 : s0 < 32 := by omega
    have hn6' : n' ≤ 6 := by rw [← HDL.out]; exact hn6
    have HPY := Bx.mk (plansMany_yes t HOK.out s0 hst0)
    have HSL := Bx.mk (stepsLeastR_yes t HOK.out)
    obtain ⟨i0, hi, hz0, hz1, hz2⟩ := elInt.hi
    rw [hst0] at HS0 ⊢
    clear hdok hgok hs0 hn6
    go_enter Try.func11, Try.ntmps11
    go_wp2_with fail
    refine (taskValid_spec _ t _ (by rw [← hst0]; rw [← hst0] at HS0; exact HT.out.up HS0.out.below)).mono ?_
    rw [HOK.out]
    rintro e w1 ⟨rfl, hb1⟩
    have HST0 := Bx.mk hst0
    have HS2 := Lib.hid (HS0.out.quiet hb1)
    have q2 : ∀ j, w1.cell? ⟨w.heap.size, j, none⟩ = _ := HS2.out.cells 0 rfl
    clear hb1 HS0
    go_wp2_with fail
    refine (stepsLeast_spec _ t _ (by have := HT.out.up HS2.out.below; rw [HST0.out] at this; exact this)).mono ?_
    rw [HSL.out]
    obtain ⟨ds, hds⟩ : ∃ ds, t.deeds = ds := ⟨_, rfl⟩
    obtain ⟨p, hp⟩ : ∃ p, evalCode t.goal = p := ⟨_, rfl⟩
    rw [hds] at HDL HDOK
    rw [hds, hp] at HPY ⊢
    have HDS := Bx.mk hds
    rintro e w3 ⟨sv, rfl, s3⟩
    obtain ⟨gs, cs, hsv⟩ := s3.formI 0 rfl (stepsL_len _ _) (by omega)
    simp only [id_eq] at hsv ⊢
    subst hsv
    have HS3 : Hid (St w w3 [rBlk w.heap.size 26 #[.int .i64 s0, .slice G gn gc, .slice G' n' c'], rInts (.slice (some ⟨gs, 0, none⟩) 32 cs) (stepsL ds p)]) := Lib.hid (HS2.out.call s3)
    clear s3 q2 HS2 hp hds
    obtain ⟨gw, hgw⟩ : ∃ x, w3.heap.size = x := ⟨_, rfl⟩
    go_upto_region 5 with (at_make; refine wpList_make_full _ rfl _ _ 23 rfl w3.heap.size 3 i0 _ 1 Try.underlying23 hi hz0 hz1 _ _ _ _ 32 rfl rfl rfl rfl (by rw [hz2]; omega) (by unfold maxLen; omega) (Nat.le_refl _) ?_; intro w4 hown hgr)
    have s4 := St.made32 hgw (by first | exact hown | (rw [hgw] at hown; exact hown) | (rw [← hgw]; exact hown)) hgr
    have HS4 : Hid (St w w4 [rBlk w.heap.size 26 #[.int .i64 s0, .slice G gn gc, .slice G' n' c'], rInts (.slice (some ⟨gs, 0, none⟩) 32 cs) (stepsL ds p), rInts (.slice (some ⟨gw, 0, none⟩) 32 32) (intsF (fun _ => 0))]) := Lib.hid (HS3.out.call s4)
    try rw [hgw]
    clear s4 hown hgr HS3 hgw
    obtain ⟨vs, hvs⟩ : ∃ vs, stpV ds p s0 = vs := ⟨_, rfl⟩
    have hvb : -1 ≤ vs ∧ vs ≤ 31 := by rw [← hvs]; exact stpV_le HDOK.out hs32
    obtain ⟨hv1, hv2⟩ := hvb
    obtain ⟨L, hL⟩ : ∃ L, vs.toNat = L := ⟨_, rfl⟩
    have q4 : ∀ j, w4.cell? ⟨w.heap.size, j, none⟩ = _ := HS4.out.cells 0 rfl
    have c4 := (HS4.out.cellI 2 rfl (intsF_len _) s0 _ (intsF_at _ s0 hs32)).1
    have f4 := (HS4.out.cellI 2 rfl (intsF_len _) s0 _ (intsF_at _ s0 hs32)).2
    have hsI : (s0 : Int) < 32 := by omega
    have HS5 : Hid (St w (w4.setCell ⟨gw, s0, none⟩ (.int .i64 1)) [rBlk w.heap.size 26 #[.int .i64 s0, .slice G gn gc, .slice G' n' c'], rInts (.slice (some ⟨gs, 0, none⟩) 32 cs) (stepsL ds p), rInts (.slice (some ⟨gw, 0, none⟩) 32 32) (intsF (gwN ds p L s0 0))]) := Lib.hid (by
      have h := HS4.out.putI 2 rfl (intsF_len _) s0 1 (wf_i64_mk (by omega))
      rw [intsF_set, intsF_congr (f := fun i => if i = s0 then 1 else 0) (g := gwN ds p L s0 0) (fun s _ => rfl)] at h
      exact h)
    have q5 : ∀ j, (w4.setCell ⟨gw, s0, none⟩ (.int .i64 1)).cell? ⟨w.heap.size, j, none⟩ = _ := HS5.out.cells 0 rfl
    have c5 : (w4.setCell ⟨gw, s0, none⟩ (.int .i64 1)).cell? ⟨gs, s0, none⟩ = some (.int .i64 vs) := (HS5.out.cellI 1 rfl (stepsL_len _ _) s0 _ (by rw [← hvs]; exact stepsL_at _ _ s0 hs32)).1
    have HL0 : Bx (0 ≤ vs → stpV ds p s0 = (L : Int)) := Bx.mk (by rw [hvs]; omega)
    have HVS := Bx.mk hvs
    have HLV := Bx.mk hL
    clear hvs hL HS4
    go_wp2
    go_loopw [4, 5] (fun wv nv wr => ∃ (k gw : Nat), k ≤ L ∧ nv = .int .i64 (vs - k) ∧ wv = .slice (some ⟨gw, 0, none⟩) 32 32 ∧ St w wr [rBlk w.heap.size 26 #[.int .i64 s0, .slice G gn gc, .slice G' n' c'], rInts (.slice (some ⟨gs, 0, none⟩) 32 cs) (stepsL ds p), rInts (.slice (some ⟨gw, 0, none⟩) 32 32) (intsF (gwN ds p L s0 k))]) (fun _ nv _ => (intOf nv).toNat)
    case atStart => exact ⟨0, gw, by omega, by simp, rfl, HS5.out⟩
    case round =>
      clear HS5 q4 c4 f4 q5 c5
      obtain ⟨k, gw, hk, rfl, rfl, S⟩ := hrel
      have HS := Lib.hid S
      clear S
      by_cases hkL : (k : Int) < vs
      · have hkl : k < L := by have := HLV.out; omega
        have HLL : Bx (stpV ds p s0 = (L : Int)) := Bx.mk (HL0.out (by omega))
        have HVL : Bx (vs = (L : Int)) := Bx.mk (by have := HLV.out; omega)
        have HWB : Bx (∀ s, s < 32 → ∀ k', k' ≤ L → gwN ds p L s0 k' s ≤ 9223372036854775807) := Bx.mk fun s hs k' hk' => by
          have h1 := gwN_le HDOK.out hs32 HLL.out hs hk'
          have h2 := (ways_bound HDOK.out (by rw [HDL.out]; exact hn6') hs32 HLL.out).2
          omega
        have hk0 : 0 < vs - (k : Int) := by omega
        obtain ⟨gx, hgx⟩ : ∃ x, wr.heap.size = x := ⟨_, rfl⟩
        go_wp2_with (at_make; refine wpList_make_full _ rfl _ _ 23 rfl wr.heap.size 3 i0 _ 1 Try.underlying23 hi hz0 hz1 _ _ _ _ 32 rfl rfl rfl rfl (by rw [hz2]; omega) (by unfold maxLen; omega) (Nat.le_refl _) ?_; intro w6 hown hgr)
        have s6 := St.made32 hgx (by first | exact hown | (rw [hgx] at hown; exact hown) | (rw [← hgx]; exact hown)) hgr
        have HS6 : Hid (St w w6 [rBlk w.heap.size 26 #[.int .i64 s0, .slice G gn gc, .slice G' n' c'], rInts (.slice (some ⟨gs, 0, none⟩) 32 cs) (stepsL ds p), rInts (.slice (some ⟨gw, 0, none⟩) 32 32) (intsF (gwN ds p L s0 k)), rInts (.slice (some ⟨gx, 0, none⟩) 32 32) (intsF (fun s => partG ds p L s0 k 0 0 s))]) := Lib.hid (HS.out.call s6)
        try rw [hgx]
        clear s6 hown hgr HS hgx
        go_wp2
        try generalize decide ((0 : Int) < vs - (k : Int)) = bb0
        go_loopw [7] (fun iv wr => ∃ st : Nat, st ≤ 32 ∧ iv = .int .i64 st ∧ St w wr [rBlk w.heap.size 26 #[.int .i64 s0, .slice G gn gc, .slice G' n' c'], rInts (.slice (some ⟨gs, 0, none⟩) 32 cs) (stepsL ds p), rInts (.slice (some ⟨gw, 0, none⟩) 32 32) (intsF (gwN ds p L s0 k)), rInts (.slice (some ⟨gx, 0, none⟩) 32 32) (intsF (fun s => partG ds p L s0 k st 0 s))]) (fun iv _ => 32 - (intOf iv).toNat)
        case atStart => exact ⟨0, by omega, rfl, HS6.out⟩
        case round =>
          clear HS6
          obtain ⟨st, hst, rfl, S⟩ := hrel
          have HS := Lib.hid S
          clear S
          by_cases hst2 : st < 32
          · obtain ⟨y, hy⟩ : ∃ y, gwN ds p L s0 k st = y := ⟨_, rfl⟩
            have hy0 : 0 ≤ y := by rw [← hy]; exact gwN_nonneg k st
            have hy1 : y ≤ 9223372036854775807 := by rw [← hy]; exact HWB.out st hst2 k (by omega)
            have HY := Bx.mk hy
            have hstI : (st : Int) < 32 := by omega
            clear hy
            go_wp2
            try generalize decide ((st : Int) < 32) = bb1
            go_loopw [8] (fun iv wr => ∃ j : Nat, j ≤ n' ∧ iv = .int .i64 j ∧ St w wr [rBlk w.heap.size 26 #[.int .i64 s0, .slice G gn gc, .slice G' n' c'], rInts (.slice (some ⟨gs, 0, none⟩) 32 cs) (stepsL ds p), rInts (.slice (some ⟨gw, 0, none⟩) 32 32) (intsF (gwN ds p L s0 k)), rInts (.slice (some ⟨gx, 0, none⟩) 32 32) (intsF (fun s => partG ds p L s0 k st j s))]) (fun iv _ => n' - (intOf iv).toNat)
            case atStart => exact ⟨0, by omega, rfl, HS.out⟩
            case round =>
              clear HS
              obtain ⟨j, hj, rfl, S⟩ := hrel
              have HS := Lib.hid S
              clear S
              have q1 : ∀ j, wr.cell? ⟨w.heap.size, j, none⟩ = _ := HS.out.cells 0 rfl
              have cy : wr.cell? ⟨gw, st, none⟩ = some (.int .i64 y) := (HS.out.cellI 2 rfl (intsF_len _) st _ (by rw [← HY.out]; exact intsF_at _ st hst2)).1
              by_cases hjn : j < n'
              · by_cases hyp : 0 < y
                · have hT := HT.out.up HS.out.below
                  rw [HST0.out] at hT
                  obtain ⟨G2, gn2, gc2, G3, n3, c3, he, -, -, hds, -⟩ := hT
                  simp only [Value.agg.injEq, Array.mk.injEq, List.cons.injEq, Value.slice.injEq, and_true, true_and] at he
                  obtain ⟨he1, ⟨rfl, rfl, rfl⟩, rfl, rfl, rfl⟩ := he
                  rw [HDS.out] at hds
                  obtain ⟨b, off, d, rfl, hb, hd, hda⟩ := hds.get hjn
                  obtain ⟨An, nn, cn, p0, p1, p2, p3, hneed, hnn, -⟩ := hda
                  have HDK := Lib.hid hd
                  have HN := Lib.hid hneed
                  have HDO := Lib.hid (HDOK.out d (List.mem_of_getElem? hd))
                  obtain ⟨o, ho⟩ : ∃ o, deedDo d st = o := ⟨_, rfl⟩
                  have HO := Bx.mk ho
                  clear hneed hd hds hb hnn he1
                  go_wp2_with fail
                  refine (l6Do_any An nn cn d st _ HN.out HDO.out hst2).mono ?_
                  rw [ho]
                  rintro e w7 ⟨rfl, hb7⟩
                  have HS7 := Lib.hid (HS.out.quiet hb7)
                  clear hb7 HN p0 p1 p2 p3 q1 HS ho cy
                  cases o with
                  | none =>
                    have HW2 : Bx ((intsF (fun s => partG ds p L s0 k st j s)) = intsF (fun s => partG ds p L s0 k st (j + 1) s)) := Bx.mk (intsF_congr fun s _ => (partG_no HDK.out (fun h => by rw [HO.out] at h; cases h)).symm)
                    simp only [opt]
                    go_wp2
                    go_roundw
                    case rel => exact ⟨j + 1, by omega, by go_num, by have h := HS7.out; rw [HW2.out] at h; exact h⟩
                    case measure => simp [intOf]; omega
                  | some q =>
                    have hq := deedDo_lt d st q HDO.out hst2 HO.out
                    have hqI : (q : Int) < 32 := by omega
                    simp only [opt]
                    obtain ⟨c9, hc9⟩ : ∃ c, stpV ds p q = c := ⟨_, rfl⟩
                    have qf2 : w7.cell? ⟨gs, q, none⟩ = some (.int .i64 c9) := (HS7.out.cellI 1 rfl (stepsL_len _ _) q _ (by rw [← hc9]; exact stepsL_at _ _ q hq)).1
                    have HC9 := Bx.mk hc9
                    clear hc9
                    by_cases hck : c9 = vs - (k : Int) - 1
                    case neg =>
                      have hne : (c9 == vs - (k : Int) - 1) = false := by simpa using hck
                      have HW2 : Bx ((intsF (fun s => partG ds p L s0 k st j s)) = intsF (fun s => partG ds p L s0 k st (j + 1) s)) := Bx.mk (intsF_congr fun s _ => (partG_no HDK.out (fun h => by
                        rw [HO.out] at h
                        cases h
                        rw [HC9.out]
                        have := HVL.out
                        omega)).symm)
                      clear hck
                      go_wp2
                      go_roundw
                      case rel => exact ⟨j + 1, by omega, by go_num, by have h := HS7.out; rw [HW2.out] at h; exact h⟩
                      case measure => simp [intOf]; omega
                    have hsq : stpV ds p q + ((k + 1 : Nat) : Int) = (L : Int) := by rw [HC9.out, hck]; have := HVL.out; omega
                    subst hck
                    obtain ⟨x9, hx9⟩ : ∃ x, partG ds p L s0 k st j q = x := ⟨_, rfl⟩
                    have hx0 : 0 ≤ x9 := by rw [← hx9]; exact partG_nonneg k st j q
                    have hxy : x9 + y ≤ 9223372036854775807 := by
                      have h1 := partG_yes (S := p) (s0 := s0) HDK.out HO.out hsq
                      have h2 := partG_le (ds := ds) (S := p) (L := L) (s0 := s0) (k := k) (j := j + 1) (s := q) hst2
                      have h3 := HWB.out q hq (k + 1) (by omega)
                      rw [h1, hx9, HY.out] at h2
                      omega
                    have HSB : Hid (St w (w7.drew.setCell ⟨gx, q, none⟩ (.int .i64 (x9 + y))) [rBlk w.heap.size 26 #[.int .i64 s0, .slice G gn gc, .slice (some ⟨b, off, none⟩) n' c'], rInts (.slice (some ⟨gs, 0, none⟩) 32 cs) (stepsL ds p), rInts (.slice (some ⟨gw, 0, none⟩) 32 32) (intsF (gwN ds p L s0 k)), rInts (.slice (some ⟨gx, 0, none⟩) 32 32) (intsF (fun s => partG ds p L s0 k st (j + 1) s))]) := Lib.hid (by
                      have h := (HS7.out.drew).putI 3 rfl (intsF_len _) q (x9 + y) (wf_i64_mk (by omega))
                      rw [intsF_set] at h
                      rw [intsF_congr (f := fun i => if i = q then x9 + y else partG ds p L s0 k st j i) (g := fun s => partG ds p L s0 k st (j + 1) s) (fun s hs => ?_)] at h
                      · exact h
                      · by_cases e : s = q
                        · subst e
                          rw [if_pos rfl, partG_yes (S := p) (s0 := s0) HDK.out HO.out hsq, hx9, HY.out]
                        · rw [if_neg e, partG_no HDK.out (fun h => by rw [HO.out] at h; cases h; exact absurd rfl e)])
                    have q6 : w7.cell? ⟨gx, q, none⟩ = some (.int .i64 x9) := (HS7.out.cellI 3 rfl (intsF_len _) q _ (by rw [← hx9]; exact intsF_at _ q hq)).1
                    have f6 := (HS7.out.cellI 3 rfl (intsF_len _) q _ (intsF_at _ q hq)).2
                    have cy : w7.cell? ⟨gw, st, none⟩ = some (.int .i64 y) := (HS7.out.cellI 2 rfl (intsF_len _) st _ (by rw [← HY.out]; exact intsF_at _ st hst2)).1
                    clear hx9 hsq
                    go_wp2
                    go_still_tail 12, (by kernel_rfl)
                    change wpList _ _ _ _ _ w7.drew
                    go_wp2
                    go_roundw
                    case rel => exact ⟨j + 1, by omega, by go_num, HSB.out⟩
                    case measure => simp [intOf]; omega
                · have hyz : y = 0 := by omega
                  have hyd : decide ((0 : Int) < y) = false := decide_eq_false hyp
                  have HW2 : Bx ((intsF (fun s => partG ds p L s0 k st j s)) = intsF (fun s => partG ds p L s0 k (st + 1) 0 s)) := Bx.mk (intsF_congr fun s _ => partG_skip' (HY.out.trans hyz) j s)
                  clear hyz
                  go_wp2
                  go_roundw
                  case rel => exact ⟨st + 1, by omega, by go_num, by have h := HS.out; rw [HW2.out] at h; exact h⟩
                  case measure => simp [intOf]; omega
              · obtain rfl : j = n' := by omega
                have HW2 : Bx ((intsF (fun s => partG ds p L s0 k st j s)) = intsF (fun s => partG ds p L s0 k (st + 1) 0 s)) := Bx.mk (intsF_congr fun s hs => by rw [← HDL.out]; exact partG_row k st s)
                go_wp2
                go_roundw
                case rel => exact ⟨st + 1, by omega, by go_num, by have h := HS.out; rw [HW2.out] at h; exact h⟩
                case measure => simp [intOf]; omega
          · obtain rfl : st = 32 := by omega
            have HW2 : Bx ((intsF (fun s => partG ds p L s0 k 32 0 s)) = intsF (gwN ds p L s0 (k + 1))) := Bx.mk (intsF_congr fun s hs => partG_all k s)
            have HSB := Lib.hid (HS.out.rid 2 rfl)
            go_wp2
            go_roundw
            case rel => exact ⟨k + 1, gx, by omega, by go_num, rfl, by have h := HSB.out; rw [HW2.out] at h; exact h⟩
            case measure => simp [intOf]; omega
      · have hkv : ¬ (0 : Int) < vs - (k : Int) := by omega
        have hkd : decide ((0 : Int) < vs - (k : Int)) = false := decide_eq_false hkv
        obtain rfl : k = L := by have := HLV.out; omega
        by_cases hneg : vs < 0
        · have HF : Bx (plansMany t = 0) := Bx.mk (by rw [HPY.out, HVS.out, if_pos hneg])
          have hnd : decide ((0 : Int) ≤ vs) = false := decide_eq_false (by omega)
          have q1 : ∀ j, wr.cell? ⟨w.heap.size, j, none⟩ = _ := HS.out.cells 0 rfl
          have c5 : wr.cell? ⟨gs, s0, none⟩ = some (.int .i64 vs) := (HS.out.cellI 1 rfl (stepsL_len _ _) s0 _ (by rw [← HVS.out]; exact stepsL_at _ _ s0 hs32)).1
          go_wp2
          go_loopw [10, 11] (fun sv iv w9 => sv = .int .i64 0 ∧ iv = .int .i64 0 ∧ w9 = wr) (fun _ _ _ => 0)
          case atStart => exact ⟨rfl, rfl, rfl⟩
          case round =>
            obtain ⟨rfl, rfl, rfl⟩ := hrel
            go_wp2
            go_ret
            exact ⟨ret_int HF.out.symm, HS.out.below⟩
        · have HLL : Bx (stpV ds p s0 = (k : Int)) := Bx.mk (HL0.out (by omega))
          have HWS : Bx (∀ s, s ≤ 32 → 0 ≤ sumR s (gwN ds p k s0 k) ∧ sumR s (gwN ds p k s0 k) ≤ 9223372036854775807) := Bx.mk fun s hs => by
            have h1 := gwN_sum HDOK.out hs32 HLL.out
            have h2 := (ways_bound HDOK.out (by rw [HDL.out]; exact hn6') hs32 HLL.out).2
            have h3 := sumR_up (n := s) (m := 32) (f := gwN ds p k s0 k) hs (fun i _ => gwN_nonneg k i)
            have h4 := sumR_nonneg (n := s) (f := gwN ds p k s0 k) (fun i _ => gwN_nonneg k i)
            omega
          have HF : Bx (plansMany t = sumR 32 (gwN ds p k s0 k)) := Bx.mk (by
            rw [HPY.out, HVS.out, if_neg hneg, show vs.toNat = k from HLV.out, gwN_sum HDOK.out hs32 HLL.out]
            have h2 := ways_bound HDOK.out (by rw [HDL.out]; exact hn6') hs32 HLL.out
            unfold wrap
            omega)
          have hnn : (0 : Int) ≤ vs := by omega
          clear hneg
          go_wp2
          go_loopw [10, 11] (fun sv iv wr => ∃ (s : Nat) (x : Int), s ≤ 32 ∧ iv = .int .i64 s ∧ sv = .int .i64 x ∧ Bx (x = sumR s (gwN ds p k s0 k)) ∧ St w wr [rBlk w.heap.size 26 #[.int .i64 s0, .slice G gn gc, .slice G' n' c'], rInts (.slice (some ⟨gs, 0, none⟩) 32 cs) (stepsL ds p), rInts (.slice (some ⟨gw, 0, none⟩) 32 32) (intsF (gwN ds p k s0 k))]) (fun _ iv _ => 32 - (intOf iv).toNat)
          case atStart => exact ⟨0, 0, by omega, rfl, rfl, Bx.mk rfl, HS.out⟩
          case round =>
            clear HS
            obtain ⟨s, x, hs, rfl, rfl, HX, S⟩ := hrel
            have HS := Lib.hid S
            clear S
            by_cases hs2 : s < 32
            · have q1 : ∀ j, wr.cell? ⟨w.heap.size, j, none⟩ = _ := HS.out.cells 0 rfl
              have c5 : wr.cell? ⟨gs, s0, none⟩ = some (.int .i64 vs) := (HS.out.cellI 1 rfl (stepsL_len _ _) s0 _ (by rw [← HVS.out]; exact stepsL_at _ _ s0 hs32)).1
              obtain ⟨y, hy⟩ : ∃ y, gwN ds p k s0 k s = y := ⟨_, rfl⟩
              have hy0 : 0 ≤ y := by rw [← hy]; exact gwN_nonneg k s
              have cy : wr.cell? ⟨gw, s, none⟩ = some (.int .i64 y) := (HS.out.cellI 2 rfl (intsF_len _) s _ (by rw [← hy]; exact intsF_at _ s hs2)).1
              have HX2 : Bx (x + y = sumR (s + 1) (gwN ds p k s0 k)) := Bx.mk (by rw [HX.out, ← hy]; rfl)
              have hx0 := (HWS.out s (by omega)).1
              rw [← HX.out] at hx0
              have hxy := (HWS.out (s + 1) (by omega)).2
              rw [← HX2.out] at hxy
              have hsI2 : (s : Int) < 32 := by omega
              clear hy
              go_wp2
              go_roundw
              case rel => exact ⟨s + 1, _, by omega, by go_num, rfl, HX2, HS.out⟩
              case measure => simp [intOf]; omega
            · obtain rfl : s = 32 := by omega
              go_wp2
              go_ret
              exact ⟨ret_int (by rw [HF.out, HX.out]), HS.out.below⟩
end Go.Proofs.Ytdbgoekemffimaa
