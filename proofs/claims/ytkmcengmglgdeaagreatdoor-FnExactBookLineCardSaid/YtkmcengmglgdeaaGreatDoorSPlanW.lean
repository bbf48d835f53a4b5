
import Derived.Test.YtkmcengmglgdeaaGreatDoorSSt
import Derived.Test.YtkmcengmglgdeaaGreatDoorSPush
namespace Go.Proofs.YtkmcengmglgdeaaGreatDoor
set_option linter.unusedVariables false
set_option linter.unusedSimpArgs false
set_option maxRecDepth 100000
set_option maxHeartbeats 8000000
open Go.ChangeShapes Go.WideShapes Go.ChangeAt Go.RowKit
theorem planRun_no (t : TaskD) (s : Int) (p : List Int) (h : ¬ (taskOk t = true ∧ stIn s = true ∧ p.length ≤ 40)) : planRun t s p = -1 := if_neg h
theorem planRun_yes (t : TaskD) (s : Int) (p : List Int) (h1 : taskOk t = true) (h2 : stIn s = true) (h3 : p.length ≤ 40) : planRun t s p = opt (runP t s.toNat p) := if_pos ⟨h1, h2, h3⟩
theorem stepP_out (t : TaskD) (s : Nat) (k : Int) (h : ¬ (0 ≤ k ∧ k < t.deeds.length)) : stepP t s k = none := if_neg h
theorem stepP_at (t : TaskD) (s : Nat) (k : Nat) (d : DeedD) (h : t.deeds[k]? = some d) : stepP t s k = deedDo d s := by
 have hl := (List.getElem?_eq_some_iff.1 h).1
 unfold stepP
 rw [if_pos ⟨by omega, by omega⟩, Int.toNat_natCast, h]; rfl
theorem deedDo_yes (d : DeedD) (s : Nat) (h : evalCode d.need s = true) : deedDo d s = some (behind d s) := if_pos h
theorem deedDo_no (d : DeedD) (s : Nat) (h : evalCode d.need s = false) : deedDo d s = none := if_neg (by rw [h]; simp)
theorem behindDeed_any (A : Option Addr) (n c : Nat) (d : DeedD) (s : Nat) (w : World) (h : RdI .i64 w w.heap.size A n c d.need) (hok : deedOk d = true) (hs : s < 32) :
  Calls Tryz.prog 142 #[.agg #[.slice A n c, .int .i64 d.on, .int .i64 d.off, .int .i64 d.flip], .int .i64 s] w fun e w' => e = .returned (.int .i64 (opt (deedDo d s))) ∧ Below w.heap.size w w' := by
 have hp := deedOk_parts d hok; have S0 := (St.refl w).alloc #[.slice A n c, .int .i64 d.on, .int .i64 d.off, .int .i64 d.flip] 144; have HR := Lib.hid (runCode_any A n c d.need s _ (h.up S0.below) hp.1 hs); have HS0 := Lib.hid S0; have HB := Lib.hid (behind_impl d s hs hok); have hlt := behind_lt d s hok hs; clear S0 hp; obtain ⟨bv, hv⟩ : ∃ b, evalCode d.need s = b := ⟨_, rfl⟩; have HV := Lib.hid hv; clear hv; go_enter Tryz.func142, Tryz.ntmps142
 go_wp2_with fail
 refine HR.out.mono ?_; rw [HV.out]; rintro e w1 ⟨rfl, hb1⟩; have S1 := HS0.out.quiet hb1; have q0 := S1.cells 0 rfl; have HS1 := Lib.hid S1; clear S1 hb1
 cases bv with
 | false =>
  go_wp2; go_ret; exact ⟨ret_int (by rw [deedDo_no d s HV.out]; rfl), HS1.out.below⟩
 | true =>
  go_wp2; rw [HB.out]; go_ret; exact ⟨ret_int (by rw [deedDo_yes d s HV.out]; rfl), HS1.out.below⟩
theorem l6Do_any (A : Option Addr) (n c : Nat) (d : DeedD) (s : Nat) (w : World) (h : RdI .i64 w w.heap.size A n c d.need) (hok : deedOk d = true) (hs : s < 32) :
  Calls Tryz.prog 136 #[.agg #[.slice A n c, .int .i64 d.on, .int .i64 d.off, .int .i64 d.flip], .int .i64 s] w fun e w' => e = .returned (.int .i64 (opt (deedDo d s))) ∧ Below w.heap.size w w' := by
 have hp := deedOk_parts d hok; obtain ⟨hp0, hp1, hp2, hp3, -⟩ := hp; have S0 := (St.refl w).alloc #[.slice A n c, .int .i64 d.on, .int .i64 d.off, .int .i64 d.flip] 144; have HR := Lib.hid (l5Run_any A n c d.need s _ (h.up S0.below) hp0 hs); have HS0 := Lib.hid S0; have HB := Lib.hid (behind_spec d s hok); have hlt := behind_lt d s hok hs; obtain ⟨bv, hv⟩ : ∃ b, evalCode d.need s = b := ⟨_, rfl⟩; have HV := Lib.hid hv; clear S0 hv; obtain ⟨need, on, of, fl⟩ := d
 simp only at hp1 hp2 hp3
 obtain ⟨a, rfl⟩ := Int.eq_ofNat_of_zero_le hp1.1; obtain ⟨o, rfl⟩ := Int.eq_ofNat_of_zero_le hp2.1; obtain ⟨f, rfl⟩ := Int.eq_ofNat_of_zero_le hp3.1; obtain ⟨-, hp1⟩ := hp1; obtain ⟨-, hp2⟩ := hp2; obtain ⟨-, hp3⟩ := hp3; have ho : s ||| a < 32 := or_lt32 hs (by omega)
 have hx : s &&& o ≤ s ||| a := Nat.le_trans Nat.and_le_left (Nat.left_le_or)
 have C1 := Lib.hid (fun w => l1Either_any (s : Int) (a : Int) (by omega) (by omega) (by omega) (by omega) w); have C2 := Lib.hid (fun w => l1Both_nat s o (by omega) w); have C3 := Lib.hid (fun w => l1Other_any (((s ||| a : Nat) : Int) - ((s &&& o : Nat) : Int)) (f : Int) (by omega) (by omega) (by omega) (by omega) w); simp only [Int.toNat_natCast] at C1 C3 HB; have HX : Hid ((((s ||| a : Nat) : Int) - ((s &&& o : Nat) : Int)).toNat ^^^ f = behind ⟨need, a, o, f⟩ s) := Lib.hid (by rw [HB.out]; congr 1; omega); clear HB hok; go_enter Tryz.func136, Tryz.ntmps136
 go_wp2_with fail
 refine HR.out.mono ?_; rw [HV.out]; rintro e w1 ⟨rfl, hb1⟩; have S1 := HS0.out.quiet hb1; have q0 := S1.cells 0 rfl; have HS1 := Lib.hid S1; clear S1 hb1
 cases bv with
 | false =>
  go_wp2; go_ret; exact ⟨ret_int (by rw [deedDo_no _ s HV.out]; rfl), HS1.out.below⟩
 | true =>
  go_upto_region 3 with (fail)
  go_quiet ((first
   | (go_at_call 159; with_reducible exact quiet_left (C1.out _))
   | (go_at_call 157; with_reducible exact quiet_left (C2.out _))
   | (go_at_call 103; with_reducible exact quiet_left (C3.out _))))
  go_wp2; go_ret; exact ⟨ret_int (by rw [deedDo_yes _ s HV.out, ← HX.out]; rfl), HS1.out.below.trans (below_drewN (Below.refl _ _) _)⟩
theorem planRun_impl (v : Value) (t : TaskD) (s0 : Int) (A : Option Addr) (n c : Nat) (p : List Int) (w : World) (h : RdT w w.heap.size v t) (hp : RdI .i64 w w.heap.size A n c p) :
  Calls Tryz.prog 73 #[v, .int .i64 s0, .slice A n c] w fun e w' => e = .returned (.int .i64 (planRun t s0 p)) ∧ Below w.heap.size w w' := by
 have h' := h; obtain ⟨G, gn, gc, G', n', c', rfl, hg, hgs, hds, hst⟩ := h; have S0 := (St.refl w).alloc #[.int .i64 t.start, .slice G gn gc, .slice G' n' c'] 26; have HT := Lib.hid (h'.up S0.below); have HS0 := Lib.hid S0; have hl := hp.len; have hcap := hp.cap; have hcm := hp.capMax
 unfold maxLen at hcm
 have HL := Lib.hid hl; have hdl := hds.len; have HDL := Lib.hid hdl; clear S0 hl hdl h'; obtain ⟨bo, hok⟩ : ∃ b, taskOk t = b := ⟨_, rfl⟩; have HOK := Lib.hid hok; clear hok
 cases bo with
 | false =>
  go_enter Tryz.func73, Tryz.ntmps73
  go_wp2_with fail
  refine (taskValid_impl _ t _ HT.out).mono ?_; rw [HOK.out]; rintro e w1 ⟨rfl, hb1⟩; go_wp2; go_ret; exact ⟨ret_int (planRun_no t s0 p (by rw [HOK.out]; simp)).symm, (HS0.out.quiet hb1).below⟩
 | true =>
  obtain ⟨bi, hsi⟩ : ∃ b, stIn s0 = b := ⟨_, rfl⟩; have HSI := Lib.hid hsi; clear hsi
  cases bi with
  | false =>
   go_enter Tryz.func73, Tryz.ntmps73
   go_wp2_with fail
   refine (taskValid_impl _ t _ HT.out).mono ?_; rw [HOK.out]; rintro e w1 ⟨rfl, hb1⟩
   go_wp2_with fail
   refine (stateOk_any s0 _).mono ?_; rw [HSI.out]; rintro e w2 ⟨rfl, rfl⟩; go_wp2; go_ret; exact ⟨ret_int (planRun_no t s0 p (by rw [HSI.out]; simp)).symm, (HS0.out.quiet hb1).below⟩
  | true =>
   obtain ⟨hs0, hs1⟩ := (stIn_iff s0).1 HSI.out; obtain ⟨s, rfl⟩ := Int.eq_ofNat_of_zero_le hs0; go_enter Tryz.func73, Tryz.ntmps73
   go_wp2_with fail
   refine (taskValid_impl _ t _ HT.out).mono ?_; rw [HOK.out]; rintro e w1 ⟨rfl, hb1⟩; have S1 := HS0.out.quiet hb1; have HS1 := Lib.hid S1; clear S1 hb1
   go_wp2_with fail
   refine (stateOk_any s _).mono ?_; rw [HSI.out]; rintro e w2 ⟨rfl, rfl⟩
   by_cases h40 : n ≤ 40
   case neg =>
    go_wp2; go_ret; exact ⟨ret_int (planRun_no t s p (by rw [HL.out]; omega)).symm, HS1.out.below⟩
   have HY := Lib.hid (planRun_yes t s p HOK.out HSI.out (by rw [HL.out]; exact h40)); rw [Int.toNat_natCast] at HY; have HDOK := Lib.hid (taskOk_parts t HOK.out).2.2.2; go_wp2
   go_loopw [24, 1] (fun i sv wr => ∃ (k s' : Nat), k ≤ n ∧ i = .int .i64 k ∧ sv = .int .i64 s' ∧ s' < 32 ∧ Hid (runP t s (p.take k) = some s') ∧ St w wr [rBlk w.heap.size 26 #[.int .i64 t.start, .slice G gn gc, .slice G' n' c']]) (fun i _ _ => n - (intOf i).toNat)
   case atStart => exact ⟨0, s, by omega, rfl, rfl, by omega, Lib.hid rfl, HS1.out⟩
   case round =>
    obtain ⟨k, s', hk, rfl, rfl, hs', hrun, M⟩ := hrel
    by_cases hlt : k < n
    ·obtain ⟨b, off, x, rfl, hb, hx, hwx, hc⟩ := hp.get hlt; have hcr : wr.cell? ⟨b, off + k, none⟩ = some (.int .i64 x) := (bcells M.below b _ hb).trans hc; have q0 := M.cells 0 rfl; have HBAD := Lib.hid (fun h => (HY.out.trans (congrArg opt (runP_bad t s p k x hx s' hrun.out h)) : planRun t s p = -1)); have HSTEP := Lib.hid (runP_step t s p k x hx s' hrun.out); have HM := Lib.hid M; clear hx hc M
     by_cases hx0 : x < 0
     ·have HF := Lib.hid (HBAD.out (stepP_out t s' x (by omega))); go_wp2; go_ret; exact ⟨ret_int HF.out.symm, HM.out.below⟩
     obtain ⟨m, rfl⟩ := Int.eq_ofNat_of_zero_le (show 0 ≤ x by omega)
     by_cases hm : m < n'
     case neg =>
      have HF := Lib.hid (HBAD.out (stepP_out t s' m (by rw [HDL.out]; omega))); go_wp2; go_ret; exact ⟨ret_int HF.out.symm, HM.out.below⟩
     obtain ⟨b', off', d, rfl, hb', hd, hda⟩ := hds.get hm; obtain ⟨An, nn, cn, p0, p1, p2, p3, hneed, hnn, -⟩ := hda; have r0 : wr.cell? ⟨b', off' + m * 4, none⟩ = some (.slice An nn cn) := (bcells HM.out.below b' _ hb').trans p0; have r1 : wr.cell? ⟨b', off' + m * 4 + 1, none⟩ = some (.int .i64 d.on) := (bcells HM.out.below b' _ hb').trans p1; have r2 : wr.cell? ⟨b', off' + m * 4 + 2, none⟩ = some (.int .i64 d.off) := (bcells HM.out.below b' _ hb').trans p2; have r3 : wr.cell? ⟨b', off' + m * 4 + 3, none⟩ = some (.int .i64 d.flip) := (bcells HM.out.below b' _ hb').trans p3; have hdok := HDOK.out d (List.mem_of_getElem? hd); have HAT := Lib.hid (stepP_at t s' m d hd); have HND := Lib.hid hneed; have HDK := Lib.hid hdok; clear p0 p1 p2 p3 hneed hd hdok; obtain ⟨oo, hoo⟩ : ∃ o, deedDo d s' = o := ⟨_, rfl⟩; have HOO := Lib.hid hoo; clear hoo
     go_wp2_with fail
     refine (behindDeed_any An nn cn d s' _ (HND.out.up HM.out.below) HDK.out hs').mono ?_; rw [HOO.out]; rintro e w3 ⟨rfl, hb3⟩; have M3 := HM.out.quiet hb3; have HM3 := Lib.hid M3; clear M3 hb3 q0 r0 r1 r2 r3 hcr
     cases oo with
     | none =>
      have HF := Lib.hid (HBAD.out (HAT.out.trans HOO.out)); simp only [opt]; go_wp2; go_ret; exact ⟨ret_int HF.out.symm, HM3.out.below⟩
     | some s2 =>
      have hs2 := deedDo_lt d s' s2 HDK.out hs' HOO.out; simp only [opt]; go_wp2
      go_roundw
      case rel => exact ⟨k + 1, s2, by omega, by go_num, rfl, hs2, Lib.hid (HSTEP.out.trans (HAT.out.trans HOO.out)), HM3.out⟩
      case measure => simp [intOf]; omega
    ·have hkn : k = n := by omega
     have HF : Hid (planRun t s p = s') := Lib.hid (by
      have h1 := hrun.out; rw [hkn, ← HL.out, List.take_length] at h1
      rw [HY.out, h1]; rfl)
     have HM := Lib.hid M; clear M hkn; go_wp2; go_ret; exact ⟨ret_int HF.out.symm, HM.out.below⟩
theorem planRun_spec (v : Value) (t : TaskD) (s0 : Int) (A : Option Addr) (n c : Nat) (p : List Int) (w : World) (h : RdT w w.heap.size v t) (hp : RdI .i64 w w.heap.size A n c p) :
  Calls Tryz.prog 67 #[v, .int .i64 s0, .slice A n c] w fun e w' => e = .returned (.int .i64 (planRun t s0 p)) ∧ Below w.heap.size w w' := by
 have h' := h; obtain ⟨G, gn, gc, G', n', c', rfl, hg, hgs, hds, hst⟩ := h; have S0 := (St.refl w).alloc #[.int .i64 t.start, .slice G gn gc, .slice G' n' c'] 26; have HT := Lib.hid (h'.up S0.below); have HS0 := Lib.hid S0; have hl := hp.len; have hcap := hp.cap; have hcm := hp.capMax
 unfold maxLen at hcm
 have HL := Lib.hid hl; have hdl := hds.len; have HDL := Lib.hid hdl; clear S0 hl hdl h'; obtain ⟨bo, hok⟩ : ∃ b, taskOk t = b := ⟨_, rfl⟩; have HOK := Lib.hid hok; clear hok
 cases bo with
 | false =>
  go_enter Tryz.func67, Tryz.ntmps67
  go_wp2_with fail
  refine (taskValid_spec _ t _ HT.out).mono ?_; rw [HOK.out]; rintro e w1 ⟨rfl, hb1⟩; go_wp2; go_ret; exact ⟨ret_int (planRun_no t s0 p (by rw [HOK.out]; simp)).symm, (HS0.out.quiet hb1).below⟩
 | true =>
  obtain ⟨bi, hsi⟩ : ∃ b, stIn s0 = b := ⟨_, rfl⟩; have HSI := Lib.hid hsi; clear hsi
  cases bi with
  | false =>
   go_enter Tryz.func67, Tryz.ntmps67
   go_wp2_with fail
   refine (taskValid_spec _ t _ HT.out).mono ?_; rw [HOK.out]; rintro e w1 ⟨rfl, hb1⟩
   go_wp2_with fail
   refine (l1In_no s0 0 31 _ (by have := (stIn_no s0).1 HSI.out; omega)).mono ?_; rintro e w2 ⟨rfl, rfl⟩; go_wp2; go_ret; exact ⟨ret_int (planRun_no t s0 p (by rw [HSI.out]; simp)).symm, (HS0.out.quiet hb1).below⟩
  | true =>
   obtain ⟨hs0, hs1⟩ := (stIn_iff s0).1 HSI.out; obtain ⟨s, rfl⟩ := Int.eq_ofNat_of_zero_le hs0; go_enter Tryz.func67, Tryz.ntmps67
   go_wp2_with fail
   refine (taskValid_spec _ t _ HT.out).mono ?_; rw [HOK.out]; rintro e w1 ⟨rfl, hb1⟩; have S1 := HS0.out.quiet hb1; have HS1 := Lib.hid S1; clear S1 hb1
   go_wp2_with fail
   refine (l1In_yes s 0 31 _ (by omega) (by omega)).mono ?_; rintro e w2 ⟨rfl, rfl⟩
   by_cases h40 : n ≤ 40
   case neg =>
    go_wp2; go_ret; exact ⟨ret_int (planRun_no t s p (by rw [HL.out]; omega)).symm, HS1.out.below⟩
   have HY := Lib.hid (planRun_yes t s p HOK.out HSI.out (by rw [HL.out]; exact h40)); rw [Int.toNat_natCast] at HY; have HDOK := Lib.hid (taskOk_parts t HOK.out).2.2.2; have hn6 : n' ≤ 6 := by rw [← HDL.out]; exact (taskOk_parts t HOK.out).2.2.1
   go_wp2
   go_loopw [7, 1] (fun i sv wr => ∃ (k s' : Nat), k ≤ n ∧ i = .int .i64 k ∧ sv = .int .i64 s' ∧ s' < 32 ∧ Hid (runP t s (p.take k) = some s') ∧ St w wr [rBlk w.heap.size 26 #[.int .i64 t.start, .slice G gn gc, .slice G' n' c']]) (fun i _ _ => n - (intOf i).toNat)
   case atStart => exact ⟨0, s, by omega, rfl, rfl, by omega, Lib.hid rfl, HS1.out⟩
   case round =>
    obtain ⟨k, s', hk, rfl, rfl, hs', hrun, M⟩ := hrel
    by_cases hlt : k < n
    ·obtain ⟨b, off, x, rfl, hb, hx, hwx, hc⟩ := hp.get hlt; have hcr : wr.cell? ⟨b, off + k, none⟩ = some (.int .i64 x) := (bcells M.below b _ hb).trans hc; have q0 := M.cells 0 rfl; have HBAD := Lib.hid (fun h => (HY.out.trans (congrArg opt (runP_bad t s p k x hx s' hrun.out h)) : planRun t s p = -1)); have HSTEP := Lib.hid (runP_step t s p k x hx s' hrun.out); have HM := Lib.hid M; clear hx M
     by_cases hxm : 0 ≤ x ∧ x < n'
     case neg =>
      have HF := Lib.hid (HBAD.out (stepP_out t s' x (by rw [HDL.out]; exact hxm))); have HC := Lib.hid (fun w => l1In_no x 0 ((n' : Int) - 1) w (by omega)); clear hxm
      go_upto_region 6 with (fail)
      go_quiet ((go_at_call 125; with_reducible exact quiet_left (HC.out _)))
      go_wp2; go_ret; exact ⟨ret_int HF.out.symm, HM.out.below.trans (below_drewN (Below.refl _ _) _)⟩
     obtain ⟨hx0, hxm⟩ := hxm; obtain ⟨m, rfl⟩ := Int.eq_ofNat_of_zero_le hx0; have hm : m < n' := by omega
     have HC := Lib.hid (fun w => l1In_yes (m : Int) 0 ((n' : Int) - 1) w (by omega) (by omega)); obtain ⟨b', off', d, rfl, hb', hd, hda⟩ := hds.get hm; obtain ⟨An, nn, cn, p0, p1, p2, p3, hneed, hnn, -⟩ := hda; have hdok := HDOK.out d (List.mem_of_getElem? hd); have HAT := Lib.hid (stepP_at t s' m d hd); have HND := Lib.hid hneed; have HDK := Lib.hid hdok; clear hneed hd hdok; obtain ⟨oo, hoo⟩ : ∃ o, deedDo d s' = o := ⟨_, rfl⟩; have HOO := Lib.hid hoo; clear hoo
     go_upto_region 6 with (fail)
     go_quiet ((go_at_call 125; with_reducible exact quiet_left (HC.out _)))
     go_upto_region 8 with (fail)
     refine wpr (σ := Nat)
      (fun s i => match i with
       | 0 => .pointer (some ⟨w.heap.size, 2, none⟩)
       | 1 => .slice (some ⟨b', off', none⟩) n' c'
       | 2 => .slice (some ⟨b, off, none⟩) n c
       | 3 => .int .i64 k
       | 4 => .pointer (some ⟨b, (off + k), none⟩)
       | 5 => .int .i64 m
       | 6 => .pointer (some ⟨b', (off' + m * 4), none⟩)
       | 7 => .agg #[.slice An nn cn, .int .i64 d.on, .int .i64 d.off, .int .i64 d.flip]
       | 8 => .int .i64 s'
       | 9 => .int .i64 (opt (deedDo d s'))
       | 10 => .int .i64 (opt (deedDo d s'))
       | _ => undef)
      (fun D s wx => Sn w wx fun i => match i with
       | 0 => some (rBlk w.heap.size 26 #[.int .i64 t.start, .slice G gn gc, .slice (some ⟨b', off', none⟩) n' c'])
       | _ => none)
      0 ?_ ?_ ?_
     ·intro D hD; refine ((Sn.of_st HM.out).quiet ((below_drewN (Below.refl _ _) _).drew)).congr fun i => ?_
      match i with
      | 0 => rfl
      | q + 1 => rfl
     ·refine Cs (fun D s wx hR _ hd _ _ hs K hK => ?_) ?_
      ·have e3 := hs.o 3 (.pointer (some ⟨w.heap.size, 0, none⟩)); clear hs; go_simp; exact hK s wx sv hR
      refine Cs (fun D s wx hR _ hd _ _ hs K hK => ?_) ?_
      ·have e37 := hs.v 0 37 hd; clear hs; have qk := (hR.blk 0 rfl).cell; go_simp; exact hK s wx sv hR
      refine Cs (fun D s wx hR _ hd _ _ hs K hK => ?_) ?_
      ·have e2 := hs.o 2 (.slice (some ⟨b, off, none⟩) n c); clear hs; go_simp; exact hK s wx sv hR
      refine Cs (fun D s wx hR _ hd _ _ hs K hK => ?_) ?_
      ·have e7 := hs.o 7 (.int .i64 k); clear hs; go_simp; exact hK s wx sv hR
      refine Cs (fun D s wx hR _ hd _ _ hs K hK => ?_) ?_
      ·have e39 := hs.v 2 39 hd; have e40 := hs.v 3 40 hd; clear hs; go_simp; exact hK s wx sv hR
      refine Cs (fun D s wx hR _ hd _ _ hs K hK => ?_) ?_
      ·have e41 := hs.v 4 41 hd; clear hs; have c0 : wx.cell? ⟨b, off + k, none⟩ = some (.int .i64 m) := (bcells hR.below b _ hb).trans hc; go_simp; exact hK s wx sv hR
      refine Cs (fun D s wx hR _ hd _ _ hs K hK => ?_) ?_
      ·have e38 := hs.v 1 38 hd; have e42 := hs.v 5 42 hd; clear hs; go_simp; exact hK s wx sv hR
      refine Cs (fun D s wx hR _ hd _ _ hs K hK => ?_) ?_
      ·have e43 := hs.v 6 43 hd; clear hs; have r0 : wx.cell? ⟨b', off' + m * 4, none⟩ = some (.slice An nn cn) := (bcells hR.below b' _ hb').trans p0; have r1 : wx.cell? ⟨b', off' + m * 4 + 1, none⟩ = some (.int .i64 d.on) := (bcells hR.below b' _ hb').trans p1; have r2 : wx.cell? ⟨b', off' + m * 4 + 2, none⟩ = some (.int .i64 d.off) := (bcells hR.below b' _ hb').trans p2; have r3 : wx.cell? ⟨b', off' + m * 4 + 3, none⟩ = some (.int .i64 d.flip) := (bcells hR.below b' _ hb').trans p3; go_simp; exact hK s wx sv hR
      refine Cs (fun D s wx hR hDi hd hsh _ hs K hK => ?_) ?_
      ·have m10 : D 10 = false := hsh.no hDi 10 rfl ⟨8, .phase⟩ (by simp) rfl rfl; have e1 := hs.before 10 1 (u := .int .i64 s') rfl m10 (by kernel_rfl) rfl; clear hs; go_simp; exact hK s wx sv hR
      refine Cs (fun D s wx hR _ hd _ _ hs K hK => ?_) ?_
      ·have e44 := hs.v 7 44 hd; have e45 := hs.v 8 45 hd; have g44 := getQ e44; have g45 := getQ e45; clear hs; go_simp; refine (l6Do_any An nn cn d s' _ (HND.out.up hR.below) HDK.out hs').mono ?_; rintro e w3 ⟨rfl, hb3⟩; exact hK s w3 sv (hR.quiet hb3)
      refine Cs (fun D s wx hR _ hd _ _ hs K hK => ?_) ?_
      ·have e46 := hs.v 9 46 hd; clear hs; go_simp; exact hK s wx sv hR
      exact StepAll.nil
     ·intro D s wx hR hD; simp only [putA, Act.put, List.setIfInBounds_toArray, List.set_cons_zero, List.set_cons_succ]; have M3 : St w wx [rBlk w.heap.size 26 #[.int .i64 t.start, .slice G gn gc, .slice (some ⟨b', off', none⟩) n' c']] := hR.to_st [0] (by decide) rfl; rw [HOO.out]; have HM3 := Lib.hid M3; clear M3 hR hD q0 hcr hc p0 p1 p2 p3
      cases oo with
      | none =>
       have HF := Lib.hid (HBAD.out (HAT.out.trans HOO.out)); simp only [opt]; go_wp2; go_ret; exact ⟨ret_int HF.out.symm, HM3.out.below⟩
      | some s2 =>
       have hs2 := deedDo_lt d s' s2 HDK.out hs' HOO.out; simp only [opt]; go_wp2
       go_roundw
       case rel => exact ⟨k + 1, s2, by omega, by go_num, rfl, hs2, Lib.hid (HSTEP.out.trans (HAT.out.trans HOO.out)), HM3.out⟩
       case measure => simp [intOf]; omega
    ·have hkn : k = n := by omega
     have HF : Hid (planRun t s p = s') := Lib.hid (by
      have h1 := hrun.out; rw [hkn, ← HL.out, List.take_length] at h1
      rw [HY.out, h1]; rfl)
     have HM := Lib.hid M; clear M hkn; go_wp2; go_ret; exact ⟨ret_int HF.out.symm, HM.out.below⟩
end Go.Proofs.YtkmcengmglgdeaaGreatDoor
