/- PlansMany of the program. Printed by gen_plans.py. -/
import Derived.Test.YtdbgoekemffimaaJFnPlansManyReach
import Derived.Test.YtdbgoekemffimaaJFnPlansManyCount
import Derived.Test.YtdbgoekemffimaaJFnPlansMany6
namespace Go.Proofs.Ytdbgoekemffimaa
set_option linter.unusedVariables false
open Go.ChangeShapes Go.WideShapes Go.ChangeAt Go.RowKit

/-- an array of numbers -/
def arrF (f : Nat → Int) : List Value := (List.range 32).map fun s => .int .i64 (f s)
theorem arrF_at (f : Nat → Int) (s : Nat) (h : s < 32) : (arrF f)[s]? = some (.int .i64 (f s)) := by simp [arrF, h]
theorem arrF_len (f : Nat → Int) : (arrF f).length = 32 := by simp [arrF]
theorem arrF_congr {f g : Nat → Int} (h : ∀ s, s < 32 → f s = g s) : arrF f = arrF g := by
  unfold arrF
  exact List.map_congr_left fun s hs => by rw [h s (List.mem_range.1 hs)]
theorem arrF_set (f : Nat → Int) (s : Nat) (x : Int) : (arrF f).toArray.setIfInBounds s (.int .i64 x) = (arrF fun i => if i = s then x else f i).toArray := by
  apply Array.ext'
  simp only [Array.toList_setIfInBounds]
  refine List.ext_getElem (by simp [arrF]) fun i h1 h2 => ?_
  rw [List.getElem_set]
  simp only [arrF, List.getElem_map, List.getElem_range]
  by_cases e : s = i
  · subst e; simp
  · rw [if_neg e, if_neg (fun h => e h.symm)]
theorem arrF_rep : (Array.replicate 32 (Value.int .i64 0)) = (arrF fun _ => 0).toArray := by
  apply Array.ext'
  rfl
theorem arrF_cell (f : Nat → Int) : ∀ v ∈ arrF f, v.oneCell' = true := by
  intro v hv
  unfold arrF at hv
  obtain ⟨s, -, rfl⟩ := List.mem_map.1 hv
  rfl
def plansMany (t : TaskD) : Int := if taskOk t then (if stpV t.deeds (evalCode t.goal) t.start.toNat < 0 then 0 else wrap (waysN t.deeds (evalCode t.goal) (stpV t.deeds (evalCode t.goal) t.start.toNat).toNat t.start.toNat)) else -1
theorem plansMany_no (t : TaskD) (h : taskOk t = false) : plansMany t = -1 := if_neg (by rw [h]; simp)
theorem plansMany_yes (t : TaskD) (h : taskOk t = true) (s : Nat) (hs : t.start = (s : Int)) : plansMany t = if stpV t.deeds (evalCode t.goal) s < 0 then 0 else wrap (waysN t.deeds (evalCode t.goal) (stpV t.deeds (evalCode t.goal) s).toNat s) := by
  unfold plansMany; rw [if_pos h, hs, Int.toNat_natCast]
theorem wrap_eq (x : Int) : IntKind.i64.wrap x = wrap x := by rw [IntKind.wrap_i64]; rfl
theorem wrap64_eq (x : Int) : wrap64 x = wrap x := by rw [← IntWalk.i64_left, wrap_eq]
set_option maxRecDepth 100000 in
set_option maxHeartbeats 2000000 in
theorem plansMany_impl (v : Value) (t : TaskD) (w : World) (h : RdT w w.heap.size v t) :
    Calls Try.prog 10 #[v] w fun e w' => e = .returned (.int .i64 (plansMany t)) ∧ Below w.heap.size w w' := by
  have h' := h
  obtain ⟨G, gn, gc, G', n', c', rfl, hg, hgs, hds, hst⟩ := h
  have S0 := (St.refl w).alloc #[.int .i64 t.start, .slice G gn gc, .slice G' n' c'] 26
  have HT := Lib.hid h'
  have HG := Lib.hid hg
  have HS0 := Lib.hid S0
  have HDL := Lib.hid hds.len
  clear S0 h' hg hds
  obtain ⟨bo, hok⟩ : ∃ b, taskOk t = b := ⟨_, rfl⟩
  have HOK := Lib.hid hok
  clear hok
  cases bo with
  | false =>
    have HPN := Bx.mk (plansMany_no t HOK.out)
    go_enter Try.func10, Try.ntmps10
    go_wp2_with fail
    refine (taskValid_impl _ t _ (HT.out.up HS0.out.below)).mono ?_
    rw [HOK.out]
    rintro e w1 ⟨rfl, hb1⟩
    have HB := Lib.hid (HS0.out.quiet hb1).below
    clear hb1
    go_wp2
    go_ret
    exact ⟨ret_int HPN.out.symm, HB.out⟩
  | true =>
    obtain ⟨hs0, hgok, hn6, hdok⟩ := taskOk_parts t HOK.out
    obtain ⟨s0, hst0⟩ := Int.eq_ofNat_of_zero_le hs0.1
    have HDOK := Lib.hid hdok
    have HGOK := Lib.hid hgok
    have hs32 : s0 < 32 := by omega
    have HTR := Bx.mk (codeTruth_yes t.goal HGOK.out)
    have hn6' : n' ≤ 6 := by rw [← HDL.out]; exact hn6
    have HPY := Bx.mk (plansMany_yes t HOK.out s0 hst0)
    rw [hst0] at HS0 ⊢
    clear hdok hgok hs0 hn6
    go_enter Try.func10, Try.ntmps10
    go_wp2_with fail
    refine (taskValid_impl _ t _ (by rw [← hst0]; rw [← hst0] at HS0; exact HT.out.up HS0.out.below)).mono ?_
    rw [HOK.out]
    rintro e w1 ⟨rfl, hb1⟩
    have HST0 := Bx.mk hst0
    have HS1 := Lib.hid (HS0.out.quiet hb1)
    clear hb1 HS0
    go_upto_region 3 with (fail)
    refine wp_reg (σ := Nat × Nat) (by kernel_rfl) (by kernel_rfl) (by kernel_rfl)
      (fun s i => match i with
        | 0 => .agg #[.int .i64 s0, .slice G gn gc, .slice G' n' c']
        | 1 => .slice (some ⟨s.1, 0, none⟩) 32 s.2
        | 2 => .pointer (some ⟨w.heap.size, 0, none⟩)
        | 3 => .int .i64 s0
        | 4 => .pointer (some ⟨s.1, s0, none⟩)
        | 5 => .int .i64 (stpV t.deeds (evalCode t.goal) s0)
        | 6 => .int .i64 (stpV t.deeds (evalCode t.goal) s0)
        | _ => undef)
      (fun D s wx => Sn w wx fun i => match i with
        | 0 => some (rBlk w.heap.size 26 #[.int .i64 s0, .slice G gn gc, .slice G' n' c'])
        | 1 => if D 1 = true then some (rInts (.slice (some ⟨s.1, 0, none⟩) 32 s.2) (stepsL t.deeds (evalCode t.goal))) else none
        | _ => none)
      (0, 0) ?_ ?_ ?_
    · intro D hD
      refine ((Sn.of_st HS1.out).quiet ((Below.refl _ _).drew)).congr fun i => ?_
      match i with
      | 0 => rfl
      | 1 => exact if_neg (by rw [hD 1 (by decide)]; simp)
      | q + 2 => rfl
    · refine StepAll.cons (fun D s wx hR (hDi : D 0 = false) hd hsh a' hs K hK => ?_) ?_
      · have e1 := hs.old 1 (u := .pointer (some ⟨w.heap.size, 0, none⟩)) (by kernel_rfl) rfl
        clear hs
        have kb : Blk wx (w.heap.size) 26 #[.int .i64 s0, .slice G gn gc, .slice G' n' c'] := hR.blk 0 rfl
        have c0 : wx.cell? ⟨w.heap.size, 0, none⟩ = some (.int .i64 s0) := kb.cell 0
        have c1 : wx.cell? ⟨w.heap.size, 1, none⟩ = some (.slice G gn gc) := kb.cell 1
        have c2 : wx.cell? ⟨w.heap.size, 2, none⟩ = some (.slice G' n' c') := kb.cell 2
        go_simp
        exact hK s wx (fun _ _ => rfl) hR
      refine StepAll.cons (fun D s wx hR (hDi : D 1 = false) hd hsh a' hs K hK => ?_) ?_
      · have e19 := hs.at_ 0 19 (u := .agg #[.int .i64 s0, .slice G gn gc, .slice G' n' c']) rfl (hd ⟨0, .data⟩ (by simp) rfl) (by kernel_rfl) (by kernel_rfl) rfl
        have g19 := getQ e19
        clear hs
        have n4 : D 4 = false := hsh.no hDi 4 rfl ⟨1, .data⟩ (by simp) rfl rfl
        have n5 : D 5 = false := hsh.no n4 5 rfl ⟨4, .data⟩ (by simp) rfl rfl
        go_simp
        refine (stepsLeast_impl _ t _ (by have := HT.out.up hR.below; rw [HST0.out] at this; exact this)).mono ?_
        rw [stepsLeast_yes t HOK.out s0 HST0.out]
        rintro e2 w2 ⟨v2, rfl, s2⟩
        obtain ⟨g9, c9, hv9⟩ := s2.formI 0 rfl (stepsL_len _ _) (by omega)
        simp only [id_eq] at hv9 ⊢
        subst hv9
        refine hK (g9, c9) w2
          (fun j hj => by
            match j, hj with
            | 0, hj => rfl
            | 1, hj => rw [hDi] at hj; cases hj
            | 2, hj => rfl
            | 3, hj => rfl
            | 4, hj => rw [n4] at hj; cases hj
            | 5, hj => rw [n5] at hj; cases hj
            | 6, hj => rfl
            | _ + 7, hj => rfl)
          ((hR.add 1 (if_neg (by rw [hDi]; simp)) s2).congr
            (fun i => by
              match i with
              | 0 => rfl
              | 1 => rfl
              | q + 2 => exact (if_neg (show ¬ (q + 2 = 1) by omega)).symm))
      refine StepAll.cons (fun D s wx hR (hDi : D 2 = false) hd hsh a' hs K hK => ?_) ?_
      · have e1 := hs.old 1 (u := .pointer (some ⟨w.heap.size, 0, none⟩)) (by kernel_rfl) rfl
        clear hs
        go_simp
        exact hK s wx (fun _ _ => rfl) hR
      refine StepAll.cons (fun D s wx hR (hDi : D 3 = false) hd hsh a' hs K hK => ?_) ?_
      · have e21 := hs.at_ 2 21 (u := .pointer (some ⟨w.heap.size, 0, none⟩)) rfl (hd ⟨2, .data⟩ (by simp) rfl) (by kernel_rfl) (by kernel_rfl) rfl
        clear hs
        have kb : Blk wx (w.heap.size) 26 #[.int .i64 s0, .slice G gn gc, .slice G' n' c'] := hR.blk 0 rfl
        have c0 : wx.cell? ⟨w.heap.size, 0, none⟩ = some (.int .i64 s0) := kb.cell 0
        go_simp
        exact hK s wx (fun _ _ => rfl) hR
      refine StepAll.cons (fun D s wx hR (hDi : D 4 = false) hd hsh a' hs K hK => ?_) ?_
      · have e20 := hs.at_ 1 20 (u := .slice (some ⟨s.1, 0, none⟩) 32 s.2) rfl (hd ⟨1, .data⟩ (by simp) rfl) (by kernel_rfl) (by kernel_rfl) rfl
        have e22 := hs.at_ 3 22 (u := .int .i64 s0) rfl (hd ⟨3, .data⟩ (by simp) rfl) (by kernel_rfl) (by kernel_rfl) rfl
        clear hs
        have n5 : D 5 = false := hsh.no hDi 5 rfl ⟨4, .data⟩ (by simp) rfl rfl
        have hsI : (s0 : Int) < 32 := by omega
        go_simp
        exact hK s wx (fun _ _ => rfl) hR
      refine StepAll.cons (fun D s wx hR (hDi : D 5 = false) hd hsh a' hs K hK => ?_) ?_
      · have e23 := hs.at_ 4 23 (u := .pointer (some ⟨s.1, s0, none⟩)) rfl (hd ⟨4, .data⟩ (by simp) rfl) (by kernel_rfl) (by kernel_rfl) rfl
        clear hs
        have d4 : D 4 = true := hd ⟨4, .data⟩ (by simp) rfl
        have d1 : D 1 = true := hsh 4 _ rfl d4 ⟨1, .data⟩ (by simp) rfl
        have cs : wx.cell? ⟨s.1, s0, none⟩ = some (.int .i64 (stpV t.deeds (evalCode t.goal) s0)) := (hR.cellI 1 (if_pos d1) (stepsL_len _ _) s0 _ (stepsL_at _ _ s0 hs32)).1
        go_simp
        exact hK s wx (fun _ _ => rfl) hR
      refine StepAll.cons (fun D s wx hR (hDi : D 6 = false) hd hsh a' hs K hK => ?_) ?_
      · have e24 := hs.at_ 5 24 (u := .int .i64 (stpV t.deeds (evalCode t.goal) s0)) rfl (hd ⟨5, .data⟩ (by simp) rfl) (by kernel_rfl) (by kernel_rfl) rfl
        clear hs
        go_simp
        exact hK s wx (fun _ _ => rfl) hR
      exact StepAll.nil
    · intro D s wx hR hD
      simp only [putA, Act.put, List.setIfInBounds_toArray, List.set_cons_zero, List.set_cons_succ]
      have HS2 : Hid (St w wx [rBlk w.heap.size 26 #[.int .i64 s0, .slice G gn gc, .slice G' n' c']]) := Lib.hid (hR.to_st [0] (by decide) rfl)
      clear hR hD
      obtain ⟨vs, hvs⟩ : ∃ vs, stpV t.deeds (evalCode t.goal) s0 = vs := ⟨_, rfl⟩
      rw [hvs] at HPY ⊢
      by_cases hneg : vs < 0
      · have HF : Bx (plansMany t = 0) := Bx.mk (by rw [HPY.out, if_pos hneg])
        clear hvs
        go_wp2
        go_ret
        exact ⟨ret_int HF.out.symm, HS2.out.below⟩
      obtain ⟨L, hL⟩ := Int.eq_ofNat_of_zero_le (show 0 ≤ vs by omega)
      subst hL
      have HLV := Bx.mk hvs
      have hL32 : L ≤ 32 := by have : stpN t.deeds (evalCode t.goal) 32 s0 ≤ 32 := (stpN_le).2; have e : stpN t.deeds (evalCode t.goal) 32 s0 = _ := hvs; omega
      have HF : Bx (plansMany t = wrap (waysN t.deeds (evalCode t.goal) L s0)) := Bx.mk (by rw [HPY.out, if_neg hneg, Int.toNat_natCast])
      have q2 : ∀ j, wx.cell? ⟨w.heap.size, j, none⟩ = _ := HS2.out.cells 0 rfl
      clear hvs hneg HPY HS1
      go_wp2_with fail
      refine (behindAll_any _ t _ (by have := HT.out.up HS2.out.below; rw [HST0.out] at this; exact this) HOK.out).mono ?_
      rintro e w3 ⟨rv, rfl, s3⟩
      obtain ⟨RA, RC, hrv, -⟩ := s3.rdRow 0 rfl
      rw [HDL.out] at hrv
      subst hrv
      obtain ⟨g5, hg5⟩ : ∃ g5, w3.heap.size = g5 := ⟨_, rfl⟩
      obtain ⟨ds, hds⟩ : ∃ ds, t.deeds = ds := ⟨_, rfl⟩
      obtain ⟨p, hp⟩ : ∃ p, evalCode t.goal = p := ⟨_, rfl⟩
      rw [hds] at HDL HDOK
      rw [hds, hp] at HLV HF
      have HP := Bx.mk hp
      have HS3 : Hid (St w (w3.alloc (.cells (arrF fun _ => 0).toArray 72)) [rBlk w.heap.size 26 #[.int .i64 s0, .slice G gn gc, .slice G' n' c'], rBeh (.slice RA n' RC) ds, rBlk g5 72 (arrF fun _ => 0).toArray]) := Lib.hid (by rw [← hg5, ← hds]; exact (HS2.out.call s3).alloc _ _)
      clear s3 q2 HS2
      have HRB : Hid (∀ W L, St w W (rBlk w.heap.size 26 #[.int .i64 s0, .slice G gn gc, .slice G' n' c'] :: rBeh (.slice RA n' RC) ds :: L) → RdRow W W.heap.size 32 RA n' RC (ints (behL ds))) := Lib.hid fun W L h => h.rdRow' (n := n') 1 (by rw [← HDL.out]; rfl)
      have qa : ∀ j, (w3.alloc (.cells (arrF fun _ => 0).toArray 72)).cell? ⟨w.heap.size, j, none⟩ = _ := HS3.out.cells 0 rfl
      have hsI : (s0 : Int) < 32 := by omega
      go_upto_region 8 with (fail)
      rw [show (#[.int .i64 0, .int .i64 0, .int .i64 0, .int .i64 0, .int .i64 0, .int .i64 0, .int .i64 0, .int .i64 0, .int .i64 0, .int .i64 0, .int .i64 0, .int .i64 0, .int .i64 0, .int .i64 0, .int .i64 0, .int .i64 0, .int .i64 0, .int .i64 0, .int .i64 0, .int .i64 0, .int .i64 0, .int .i64 0, .int .i64 0, .int .i64 0, .int .i64 0, .int .i64 0, .int .i64 0, .int .i64 0, .int .i64 0, .int .i64 0, .int .i64 0, .int .i64 0] : Array Value) = (arrF fun _ => 0).toArray from rfl]
      try rw [hg5]
      have ca : (w3.alloc (.cells (arrF fun _ => 0).toArray 72)).cell? ⟨g5, s0, none⟩ = some (.int .i64 0) := by
        have h := HS3.out.cells 2 rfl s0
        rw [h, ← arrF_at (fun _ => 0) s0 hs32]; simp
      have fa : ∀ j, (w3.alloc (.cells (arrF fun _ => 0).toArray 72)).frozen? ⟨g5, j, none⟩ = false := HS3.out.free 2 rfl
      have qt : ∀ j, ((w3.alloc (.cells (arrF fun _ => 0).toArray 72)).setCell ⟨g5, s0, none⟩ (.int .i64 1)).cell? ⟨w.heap.size, j, none⟩ = _ := (HS3.out.set 2 rfl s0 (.int .i64 1)).cells 0 rfl
      have HS4 : Hid (St w ((w3.alloc (.cells (arrF fun _ => 0).toArray 72)).setCell ⟨g5, s0, none⟩ (.int .i64 1)) [rBlk w.heap.size 26 #[.int .i64 s0, .slice G gn gc, .slice G' n' c'], rBeh (.slice RA n' RC) ds, rBlk g5 72 (arrF (fun s => waysW ds s0 0 0 0 s)).toArray]) := Lib.hid (by
        have h := HS3.out.set 2 rfl s0 (.int .i64 1)
        rw [arrF_set, arrF_congr (g := fun s => waysW ds s0 0 0 0 s) (fun s hs => (waysW_start hs32 hs).symm)] at h
        exact h)
      generalize (w3.alloc (.cells (arrF fun _ => 0).toArray 72)) = w4 at qa fa ca qt HS4 ⊢
      clear HS3 hg5 hds hp
      go_wp2_with fail
      refine (stepsOn_any RA n' RC ds s0 hs32 _ (HRB.out _ _ HS4.out) HDL.out HDOK.out hn6').mono ?_
      rintro e w5 ⟨fv, rfl, s5⟩
      obtain ⟨gf, cf, hfv⟩ := s5.formI 0 rfl (distL_len _ _) (by omega)
      simp only [id_eq] at hfv ⊢
      subst hfv
      have HS5 : Hid (St w w5 [rBlk w.heap.size 26 #[.int .i64 s0, .slice G gn gc, .slice G' n' c'], rBeh (.slice RA n' RC) ds, rBlk g5 72 (arrF (fun s => waysW ds s0 0 0 0 s)).toArray, rInts (.slice (some ⟨gf, 0, none⟩) 32 cf) (distL ds (only s0))]) := Lib.hid (HS4.out.call s5)
      clear s5 HS4 qa fa ca qt
      go_wp2
      go_loopw [37] (fun iv wr => ∃ k : Nat, k ≤ L ∧ iv = .int .i64 k ∧ St w wr [rBlk w.heap.size 26 #[.int .i64 s0, .slice G gn gc, .slice G' n' c'], rBeh (.slice RA n' RC) ds, rBlk g5 72 (arrF (fun s => waysW ds s0 k 0 0 s)).toArray, rInts (.slice (some ⟨gf, 0, none⟩) 32 cf) (distL ds (only s0))]) (fun iv _ => 32 - (intOf iv).toNat)
      case atStart => exact ⟨0, by omega, rfl, HS5.out⟩
      case round =>
        clear HS5
        obtain ⟨k, hk, rfl, S⟩ := hrel
        have HS := Lib.hid S
        clear S
        by_cases hlt : k < L
        · have HA5 : Hid (∀ j v, (arrF fun s => waysW ds s0 k 0 0 s)[j]? = some v → wr.cell? ⟨g5, 0 + j, none⟩ = some v) := Lib.hid fun j v hv => by
            have h := HS.out.cells 2 rfl j
            rw [Nat.zero_add, h, ← hv]; simp
          go_wp2_with (refine wpList_load_arr 72 (.tmp 5) rfl rfl 3 32 undBeh g5 0 (arrF fun s => waysW ds s0 k 0 0 s) rfl (by rw [arrF_len]; exact infoBeh) HA5.out ?_)
          have HAT : Hid (∀ s, s < 32 → (arrF fun s => waysW ds s0 k 0 0 s)[s]? = some (.int .i64 (waysW ds s0 k 0 0 s))) := Lib.hid fun s hs => arrF_at _ s hs
          have HLEN := Lib.hid (arrF_len fun s => waysW ds s0 k 0 0 s)
          clear HA5
          obtain ⟨R, hR⟩ : ∃ R, R = arrF fun s => waysW ds s0 k 0 0 s := ⟨_, rfl⟩
          rw [← hR] at HAT HLEN ⊢
          rw [← hR] at HS
          have HRE := Bx.mk hR
          clear hR
          go_loopw [41] (fun iv wr => ∃ st : Nat, st ≤ 32 ∧ iv = .int .i64 st ∧ St w wr [rBlk w.heap.size 26 #[.int .i64 s0, .slice G gn gc, .slice G' n' c'], rBeh (.slice RA n' RC) ds, rBlk g5 72 (arrF (fun s => waysW ds s0 k st 0 s)).toArray, rInts (.slice (some ⟨gf, 0, none⟩) 32 cf) (distL ds (only s0))]) (fun iv _ => 32 - (intOf iv).toNat)
          case atStart => exact ⟨0, by omega, rfl, by have h := HS.out; rw [HRE.out] at h; exact h⟩
          case round =>
            clear HS
            obtain ⟨st, hst, rfl, S⟩ := hrel
            have HS := Lib.hid S
            clear S
            by_cases hst2 : st < 32
            · have HIX := fun w => run_index_arr (P := Try.prog) (w := w) (xs := R) (k := st) (v := .int .i64 (waysW ds s0 k 0 0 st)) undBeh (HAT.out st hst2) HLEN.out infoInt Try.underlying3
              obtain ⟨way, hway⟩ : ∃ y, waysW ds s0 k 0 0 st = y := ⟨_, rfl⟩
              rw [hway] at HIX
              have HWAY := Bx.mk hway
              clear hway
              obtain ⟨a, ha⟩ : ∃ a, dstV ds (only s0) st = a := ⟨_, rfl⟩
              have HA := Bx.mk ha
              clear ha
              go_wp2
              generalize decide ((st : Int) < 32) = bb
              go_loopw [47] (fun iv wr => ∃ j : Nat, j ≤ n' ∧ iv = .int .i64 j ∧ St w wr [rBlk w.heap.size 26 #[.int .i64 s0, .slice G gn gc, .slice G' n' c'], rBeh (.slice RA n' RC) ds, rBlk g5 72 (arrF (fun s => waysW ds s0 k st j s)).toArray, rInts (.slice (some ⟨gf, 0, none⟩) 32 cf) (distL ds (only s0))]) (fun iv _ => n' - (intOf iv).toNat)
              case atStart => exact ⟨0, by omega, rfl, HS.out⟩
              case round =>
                clear HS HIX
                obtain ⟨j, hj, rfl, S⟩ := hrel
                have HS := Lib.hid S
                clear S
                by_cases hjn : j < n'
                · obtain ⟨b, off, d, rfl, hb, hdk, hrow⟩ := beh_row (HRB.out _ _ HS.out) HDL.out hjn
                  have HDK := Lib.hid hdk
                  have HLD := Lib.hid hrow
                  have HSA := Lib.hid (HS.out.alloc (rowOf d).toArray 72)
                  clear hrow hdk
                  go_upto_region 19 with (first
                    | (refine wpList_load_arr 72 (.tmp 49) rfl rfl 3 32 undBeh b (off + j * 32) (rowOf d) rfl (by rw [rowOf_len]; exact infoBeh) HLD.out ?_)
                    | (refine wpList_store_arr 72 (.tmp 11) (.tmp 50) rfl rfl _ (rowOf d) rfl rfl (by rw [rowOf_len]; exact infoBeh) (by rw [rowOf_len]; rfl) (by simp [rowOf, Value.oneCell']) ?_))
                  generalize wr.alloc (.cells (rowOf d).toArray 72) = wa at HSA ⊢
                  generalize wr.heap.size = ga at HSA ⊢
                  obtain ⟨o, ho⟩ : ∃ o, deedDo d st = o := ⟨_, rfl⟩
                  have qr : wa.cell? ⟨ga, st, none⟩ = some (.int .i64 (opt o)) := by
                    have h := HSA.out.cells 4 rfl st
                    rw [h, ← ho, ← rowOf_at d st hst2]; simp
                  have qf : wa.cell? ⟨gf, st, none⟩ = some (.int .i64 a) := (HSA.out.cellI 3 rfl (distL_len _ _) st _ (by rw [← HA.out]; exact distL_at _ _ st hst2)).1
                  have hstI : (st : Int) < 32 := by omega
                  have HO := Bx.mk ho
                  have HDO := Lib.hid (HDOK.out d (List.mem_of_getElem? HDK.out))
                  clear HLD HS hb ho
                  by_cases hak : a = (k : Int)
                  case neg =>
                    have hne : (a == (k : Int)) = false := by simpa using hak
                    have HW2 : Bx ((arrF fun s => waysW ds s0 k st j s) = arrF fun s => waysW ds s0 k st (j + 1) s) := Bx.mk (arrF_congr fun s hs => (waysW_no HDK.out (fun h => absurd (HA.out.symm.trans h) hak)).symm)
                    have HSB := Lib.hid (HSA.out.rid 4 rfl)
                    clear hak HSA qr
                    go_wp2
                    go_roundw
                    case rel => exact ⟨j + 1, by omega, by go_num, by have h := HSB.out; rw [HW2.out] at h; exact h⟩
                    case measure => simp [intOf]; omega
                  subst hak
                  cases o with
                  | none =>
                    have HW2 : Bx ((arrF fun s => waysW ds s0 k st j s) = arrF fun s => waysW ds s0 k st (j + 1) s) := Bx.mk (arrF_congr fun s hs => (waysW_no HDK.out (fun _ h => by rw [HO.out] at h; cases h)).symm)
                    have HSB := Lib.hid (HSA.out.rid 4 rfl)
                    simp only [opt] at qr
                    clear HSA
                    go_wp2
                    go_roundw
                    case rel => exact ⟨j + 1, by omega, by go_num, by have h := HSB.out; rw [HW2.out] at h; exact h⟩
                    case measure => simp [intOf]; omega
                  | some q =>
                    have hq := deedDo_lt d st q HDO.out hst2 HO.out
                    have hqI : (q : Int) < 32 := by omega
                    simp only [opt] at qr
                    obtain ⟨c9, hc9⟩ : ∃ c, dstV ds (only s0) q = c := ⟨_, rfl⟩
                    have qf2 : wa.cell? ⟨gf, q, none⟩ = some (.int .i64 c9) := (HSA.out.cellI 3 rfl (distL_len _ _) q _ (by rw [← hc9]; exact distL_at _ _ q hq)).1
                    have HC9 := Bx.mk hc9
                    clear hc9
                    by_cases hck : c9 = (k : Int) + 1
                    case neg =>
                      have hne : (c9 == (k : Int) + 1) = false := by simpa using hck
                      have HW2 : Bx ((arrF fun s => waysW ds s0 k st j s) = arrF fun s => waysW ds s0 k st (j + 1) s) := Bx.mk (arrF_congr fun s hs => (waysW_no HDK.out (fun _ h => by
                        rw [HO.out] at h
                        cases h
                        rw [HC9.out]
                        intro h; exact hck (by rw [h]; push_cast; rfl))).symm)
                      have HSB := Lib.hid (HSA.out.rid 4 rfl)
                      clear hck HSA
                      go_wp2
                      go_roundw
                      case rel => exact ⟨j + 1, by omega, by go_num, by have h := HSB.out; rw [HW2.out] at h; exact h⟩
                      case measure => simp [intOf]; omega
                    subst hck
                    obtain ⟨x9, hx9⟩ : ∃ x, waysW ds s0 k st j q = x := ⟨_, rfl⟩
                    have q5 : wa.cell? ⟨g5, q, none⟩ = some (.int .i64 x9) := by
                      have h := HSA.out.cells 2 rfl q
                      rw [h, ← hx9, ← arrF_at (fun s => waysW ds s0 k st j s) q hq]; simp
                    have f5 := HSA.out.free 2 rfl
                    have HSB : Hid (St w (wa.setCell ⟨g5, q, none⟩ (.int .i64 (wrap64 (x9 + way)))) [rBlk w.heap.size 26 #[.int .i64 s0, .slice G gn gc, .slice G' n' c'], rBeh (.slice (some ⟨b, off, none⟩) n' RC) ds, rBlk g5 72 (arrF (fun s => waysW ds s0 k st (j + 1) s)).toArray, rInts (.slice (some ⟨gf, 0, none⟩) 32 cf) (distL ds (only s0))]) := Lib.hid (by
                      have h := (HSA.out.set 2 rfl q (.int .i64 (wrap64 (x9 + way)))).rid 4 rfl
                      rw [arrF_set] at h
                      rw [arrF_congr (f := fun i => if i = q then wrap64 (x9 + way) else waysW ds s0 k st j i) (g := fun s => waysW ds s0 k st (j + 1) s) (fun s hs => ?_)] at h
                      · exact h
                      · split
                        · next e =>
                          subst e
                          rw [waysW_yes HDK.out HA.out HO.out (by rw [HC9.out]; push_cast; rfl), wrap64_eq, ← hx9, ← HWAY.out, waysW_here (j := 0) HA.out]
                        · next e => exact (waysW_no HDK.out (fun _ h => by rw [HO.out] at h; cases h; exact absurd rfl e)).symm)
                    clear HSA hx9
                    go_wp2
                    go_roundw
                    case rel => exact ⟨j + 1, by omega, by go_num, HSB.out⟩
                    case measure => simp [intOf]; omega
                · obtain rfl : j = n' := by omega
                  have HW2 : Bx ((arrF fun s => waysW ds s0 k st j s) = arrF fun s => waysW ds s0 k (st + 1) 0 s) := Bx.mk (arrF_congr fun s hs => by rw [← HDL.out]; exact waysW_row)
                  go_wp2
                  go_roundw
                  case rel => exact ⟨st + 1, by omega, by go_num, by have h := HS.out; rw [HW2.out] at h; exact h⟩
                  case measure => simp [intOf]; omega
            · obtain rfl : st = 32 := by omega
              have HW2 : Bx ((arrF fun s => waysW ds s0 k 32 0 s) = arrF fun s => waysW ds s0 (k + 1) 0 0 s) := Bx.mk (arrF_congr fun s hs => waysW_round HDOK.out hs)
              go_wp2
              go_roundw
              case rel => exact ⟨k + 1, by omega, by go_num, by have h := HS.out; rw [HW2.out] at h; exact h⟩
              case measure => simp [intOf]; omega
        · obtain rfl : k = L := by omega
          have HA5 : Hid (∀ j v, (arrF fun s => waysW ds s0 k 0 0 s)[j]? = some v → wr.cell? ⟨g5, 0 + j, none⟩ = some v) := Lib.hid fun j v hv => by
            have h := HS.out.cells 2 rfl j
            rw [Nat.zero_add, h, ← hv]; simp
          have q1 : ∀ j, wr.cell? ⟨w.heap.size, j, none⟩ = _ := HS.out.cells 0 rfl
          go_wp2_with fail
          refine (codeTruth_impl G gn gc t.goal _ (HG.out.up HS.out.below)).mono ?_
          rw [HTR.out]
          unfold truthN
          rw [HP.out]
          rintro e w6 ⟨rfl, hb6⟩
          have HS6 := Lib.hid (HS.out.quiet hb6)
          have HA6 : Hid (∀ j v, (arrF fun s => waysW ds s0 k 0 0 s)[j]? = some v → w6.cell? ⟨g5, 0 + j, none⟩ = some v) := Lib.hid fun j v hv => by
            have h := HS6.out.cells 2 rfl j
            rw [Nat.zero_add, h, ← hv]; simp
          clear HA5 q1 hb6 HS
          go_wp2_with (refine wpList_load_arr 72 (.tmp 5) rfl rfl 3 32 undBeh g5 0 (arrF fun s => waysW ds s0 k 0 0 s) rfl (by rw [arrF_len]; exact infoBeh) HA6.out ?_)
          have HAT : Hid (∀ s, s < 32 → (arrF fun s => waysW ds s0 k 0 0 s)[s]? = some (.int .i64 (waysW ds s0 k 0 0 s))) := Lib.hid fun s hs => arrF_at _ s hs
          have HLEN := Lib.hid (arrF_len fun s => waysW ds s0 k 0 0 s)
          clear HA6
          obtain ⟨R, hR⟩ : ∃ R, R = arrF fun s => waysW ds s0 k 0 0 s := ⟨_, rfl⟩
          rw [← hR] at HAT HLEN HS6 ⊢
          clear hR
          obtain ⟨M, hM⟩ : ∃ M, mset p 32 = M := ⟨_, rfl⟩
          have hM32 : M < 4294967296 := by rw [← hM]; exact mset32_lt p
          rw [hM]
          have HM := Bx.mk hM
          clear hM
          go_loopw [89, 12] (fun iv sv wr => ∃ (s : Nat) (x : Int), s ≤ 32 ∧ iv = .int .i64 s ∧ sv = .int .i64 x ∧ Bx (x = wrap (sumR s (fun s => if p s = true ∧ dstV ds (only s0) s = (k : Int) then fwN ds s0 k s else 0))) ∧ St w wr [rBlk w.heap.size 26 #[.int .i64 s0, .slice G gn gc, .slice G' n' c'], rBeh (.slice RA n' RC) ds, rBlk g5 72 R.toArray, rInts (.slice (some ⟨gf, 0, none⟩) 32 cf) (distL ds (only s0))]) (fun iv _ _ => 32 - (intOf iv).toNat)
          case atStart => exact ⟨0, 0, by omega, rfl, rfl, Bx.mk rfl, HS6.out⟩
          case round =>
            clear HS6
            obtain ⟨s, x, hs, rfl, rfl, HX, S⟩ := hrel
            have HS := Lib.hid S
            clear S
            by_cases hs2 : s < 32
            · have HIX := fun w => run_index_arr (P := Try.prog) (w := w) (xs := R) (k := s) (v := .int .i64 (waysW ds s0 k 0 0 s)) undBeh (HAT.out s hs2) HLEN.out infoInt Try.underlying3
              obtain ⟨way, hway⟩ : ∃ y, waysW ds s0 k 0 0 s = y := ⟨_, rfl⟩
              rw [hway] at HIX
              have HWAY := Bx.mk hway
              clear hway
              obtain ⟨a, ha⟩ : ∃ a, dstV ds (only s0) s = a := ⟨_, rfl⟩
              have HA := Bx.mk ha
              have qf : wr.cell? ⟨gf, s, none⟩ = some (.int .i64 a) := (HS.out.cellI 3 rfl (distL_len _ _) s _ (by rw [← ha]; exact distL_at _ _ s hs2)).1
              have hsI2 : (s : Int) < 32 := by omega
              have hbit := and_one M s (by omega)
              have hps : (bit M s == 1) = p s := by rw [← HM.out]; exact bit_mset1 p hs2
              clear ha
              by_cases hb1 : bit M s = 1
              · rw [hb1] at hbit hps
                by_cases hak : a = (k : Int)
                · subst hak
                  have HX2 : Bx (wrap64 (x + way) = wrap (sumR (s + 1) (fun s => if p s = true ∧ dstV ds (only s0) s = (k : Int) then fwN ds s0 k s else 0))) := Bx.mk (by
                    rw [wrap64_eq, HX.out, ← HWAY.out, waysW_here (j := 0) HA.out, wrap_wrap]
                    simp only [sumR]
                    rw [if_pos ⟨by rw [← hps]; rfl, HA.out⟩])
                  clear hps hb1
                  go_wp2
                  go_roundw
                  case rel => exact ⟨s + 1, _, by omega, by go_num, rfl, HX2, HS.out⟩
                  case measure => simp [intOf]; omega
                · have hne : (a == (k : Int)) = false := by simpa using hak
                  have HX2 : Bx (x = wrap (sumR (s + 1) (fun s => if p s = true ∧ dstV ds (only s0) s = (k : Int) then fwN ds s0 k s else 0))) := Bx.mk (by
                    rw [HX.out]
                    simp only [sumR]
                    rw [if_neg (fun h => hak (HA.out.symm.trans h.2)), Int.add_zero])
                  clear hps hb1 hak
                  go_wp2
                  go_roundw
                  case rel => exact ⟨s + 1, _, by omega, by go_num, rfl, HX2, HS.out⟩
                  case measure => simp [intOf]; omega
              · have hb0 : bit M s = 0 := by have := bit_lt M s; omega
                rw [hb0] at hbit hps
                have HX2 : Bx (x = wrap (sumR (s + 1) (fun s => if p s = true ∧ dstV ds (only s0) s = (k : Int) then fwN ds s0 k s else 0))) := Bx.mk (by
                  rw [HX.out]
                  simp only [sumR]
                  rw [if_neg (fun h => by rw [h.1] at hps; cases hps), Int.add_zero])
                clear hps hb1 hb0
                go_wp2
                go_roundw
                case rel => exact ⟨s + 1, _, by omega, by go_num, rfl, HX2, HS.out⟩
                case measure => simp [intOf]; omega
            · obtain rfl : s = 32 := by omega
              have HFX : Bx (x = plansMany t) := Bx.mk (by rw [HF.out, HX.out, ways_sum HDOK.out hs32 HLV.out])
              go_wp2
              go_ret
              exact ⟨ret_int HFX.out, HS.out.below⟩
end Go.Proofs.Ytdbgoekemffimaa
