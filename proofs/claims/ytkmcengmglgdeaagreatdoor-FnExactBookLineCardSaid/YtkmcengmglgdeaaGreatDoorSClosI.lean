/- Joined texts: ClosI, ClosS, Turns. -/
import Derived.Test.YtkmcengmglgdeaaGreatDoorSJourP
import Derived.Test.YtkmcengmglgdeaaGreatDoorSTruth
import Derived.Test.YtkmcengmglgdeaaGreatDoorSSplitW
import Derived.Test.YtkmcengmglgdeaaGreatDoorSBack
import Derived.Test.YtkmcengmglgdeaaGreatDoorSDraw
import Derived.Test.YtkmcengmglgdeaaGreatDoorSNextW
import Derived.Test.YtkmcengmglgdeaaGreatDoorSBValid
import Derived.Test.YtkmcengmglgdeaaGreatDoorSLaid

namespace Go.Proofs.YtkmcengmglgdeaaGreatDoor
set_option linter.unusedVariables false
set_option linter.unusedSimpArgs false
set_option maxRecDepth 100000
set_option maxHeartbeats 8000000
open Go.ChangeShapes Go.WideShapes Go.ChangeAt Go.RowKit
def closErr (ds : List DeedD) (S : Nat) (e : Ending) : Prop := closOk ds S ∧ e = .returned .nilIface ∨ ¬ closOk ds S ∧ ∃ a b : Nat, a < 32 ∧ b < 32 ∧ e = .returned (.iface 189 (.agg #[.int .i64 a, .int .i64 b]))
theorem closedUnder_any (v : Value) (t : TaskD) (M : Nat) (w : World) (h : RdT w w.heap.size v t) (hok : taskOk t = true) (hM : M < 4294967296) :
  Calls Tryz.prog 197 #[v, .int .i64 (M : Int)] w fun e w' => closErr t.deeds M e ∧ Below w.heap.size w w' := by
 have h' := h; obtain ⟨G, gn, gc, G', n', c', rfl, -, -, -, -⟩ := h; have HS0 := Lib.hid ((St.refl w).alloc #[.int .i64 t.start, .slice G gn gc, .slice G' n' c'] 26); have HT := Lib.hid h'; obtain ⟨-, -, hn6, hdok⟩ := taskOk_parts t hok; have HDOK := Lib.hid hdok; clear hdok; go_enter Tryz.func197, Tryz.ntmps197
 go_wp2_with fail
 refine (behindAll_any _ t _ (HT.out.up HS0.out.below) hok).mono ?_; rintro e w3 ⟨rv, rfl, s3⟩; obtain ⟨n, hn⟩ : ∃ n, t.deeds.length = n := ⟨_, rfl⟩; obtain ⟨RA, RC, hrv, -⟩ := s3.rdRow 0 rfl; rw [hn] at hrv hn6; subst hrv; obtain ⟨ds, hds⟩ : ∃ ds, t.deeds = ds := ⟨_, rfl⟩; have HDE := Bx.mk hds; rw [hds] at s3 hn HDOK; have HL := Lib.hid hn; have HRB : Hid (∀ W L, St w W (rBeh (.slice RA n RC) ds :: L) → RdRow W W.heap.size 32 RA n RC (ints (behL ds))) := Lib.hid fun W L h => h.rdRow' (n := n) 0 (by rw [← HL.out]; rfl)
 have HS3 : Hid (St w w3 [rBeh (.slice RA n RC) ds]) := Lib.hid (HS0.out.call s3).tl; clear s3 hn h' hok hds HS0 HT; go_wp2
 go_loopw [12] (fun i wr => ∃ k : Nat, k ≤ n ∧ i = .int .i64 k ∧ Hid (closTo ds M k 0) ∧ St w wr [rBeh (.slice RA n RC) ds]) (fun i _ => n - (intOf i).toNat)
 case atStart => exact ⟨0, by omega, rfl, Lib.hid (clos_zero _ _), HS3.out⟩
 case round =>
  clear HS3; obtain ⟨k, hk, rfl, HM, S⟩ := hrel; have HS := Lib.hid S; clear S
  by_cases hlt : k < n
  ·obtain ⟨b, off, d, rfl, hb, hdk, hrow⟩ := beh_row (HRB.out _ _ HS.out) HL.out hlt; have HLD : Hid (∀ j v, (rowOf d)[j]? = some v → wr.cell? ⟨b, off + k * 32 + j, none⟩ = some v) := Lib.hid hrow; have HDK := Lib.hid hdk; clear hrow hdk
   go_wp2_with (first
    | (refine wpList_load_arr 108 (.tmp 15) rfl rfl 3 32 undBeh b (off + k * 32) (rowOf d) rfl (by rw [rowOf_len]; exact infoBeh) HLD.out ?_)
    | (refine wpList_store_arr 108 (.tmp 6) (.tmp 16) rfl rfl _ (rowOf d) rfl rfl (by rw [rowOf_len]; exact infoBeh) (by rw [rowOf_len]; rfl) (by simp [rowOf, Value.oneCell']) ?_)
    | (refine wpList_load_arr 108 (.tmp 6) rfl rfl 3 32 undBeh wr.heap.size 0 (rowOf d) rfl (by rw [rowOf_len]; exact infoBeh) (by simp) ?_))
   have HDO := Lib.hid (HDOK.out d (List.mem_of_getElem? HDK.out)); have HS1 : Hid (St w (wr.alloc (.cells (rowOf d).toArray 108)) [rBeh (.slice (some ⟨b, off, none⟩) n RC) ds]) := Lib.hid ((HS.out.alloc (rowOf d).toArray 108).pick [0] (by decide) rfl rfl); have HRO := Lib.hid (rowOf_at d); have HLEN := Lib.hid (rowOf_len d)
   generalize rowOf d = R at HRO HLEN HS1 ⊢
   clear HLD
   go_loopw [18] (fun i wr => ∃ m : Nat, m ≤ 32 ∧ i = .int .i64 m ∧ Hid (closTo ds M k m) ∧ St w wr [rBeh (.slice (some ⟨b, off, none⟩) n RC) ds]) (fun i _ => 32 - (intOf i).toNat)
   case atStart => exact ⟨0, by omega, rfl, HM, HS1.out⟩
   case round =>
    clear HM HS1 HS; obtain ⟨m, hm32, rfl, HM, S⟩ := hrel; have HS := Lib.hid S; clear S
    by_cases hm : m < 32
    ·obtain ⟨o, ho⟩ : ∃ o, deedDo d m = o := ⟨_, rfl⟩; have hix := HRO.out m hm; rw [ho] at hix; have HIX := fun w => run_index_arr (P := Tryz.prog) (w := w) (xs := R) (k := m) (v := .int .i64 (opt o)) undBeh hix HLEN.out infoInt Tryz.underlying3
     have HO := Lib.hid ho; have hbit := and_one M m (by omega); clear ho
     by_cases hs1 : bit M m = 1
     case neg =>
      have hs0 : bit M m = 0 := by have := bit_lt M m; omega
      have HM2 := Lib.hid (clos_good HM.out HDK.out fun q _ h1 => absurd h1 hs1); rw [hs0] at hbit; clear hs1 hs0; go_wp2
      go_roundw
      case rel => exact ⟨m + 1, by omega, by go_num, HM2, HS.out⟩
      case measure => simp [intOf]; omega
     rw [hs1] at hbit
     cases o with
     | none =>
      have HM2 := Lib.hid (clos_good HM.out HDK.out fun q e _ => by rw [HO.out] at e; cases e); simp only [opt] at HIX; clear hs1; go_wp2
      go_roundw
      case rel => exact ⟨m + 1, by omega, by go_num, HM2, HS.out⟩
      case measure => simp [intOf]; omega
     | some q =>
      have hq := deedDo_lt d m q HDO.out hm HO.out; simp only [opt] at HIX; have hbq := and_one M q (by omega)
      by_cases hq1 : bit M q = 1
      ·have HM2 := Lib.hid (clos_good HM.out HDK.out fun q' e _ => by rw [HO.out] at e; cases e; exact hq1); rw [hq1] at hbq; clear hs1 hq1; go_wp2
       go_roundw
       case rel => exact ⟨m + 1, by omega, by go_num, HM2, HS.out⟩
       case measure => simp [intOf]; omega
      ·have hq0 : bit M q = 0 := by have := bit_lt M q; omega
       have HF := Bx.mk (clos_not hm HDK.out HO.out hs1 hq0); rw [hq0] at hbq; clear hs1 hq1 hq0; go_wp2; go_ret; exact ⟨by rw [HDE.out]; exact Or.inr ⟨HF.out, k, m, by omega, hm, rfl⟩, HS.out.below⟩
    ·have HM2 : Hid (closTo ds M (k + 1) 0) := Lib.hid (clos_next (by rw [← show m = 32 by omega]; exact HM.out)); go_wp2
     go_roundw
     case rel => exact ⟨k + 1, by omega, by go_num, HM2, HS.out⟩
     case measure => simp [intOf]; omega
  ·have HF : Hid (closOk ds M) := Lib.hid (clos_all (by rw [HL.out, ← show k = n by omega]; exact HM.out)); go_wp2; go_ret; exact ⟨by rw [HDE.out]; exact Or.inl ⟨HF.out, rfl⟩, HS.out.below⟩
theorem statesOk_any (z : Int) (w : World) : Calls Tryz.prog 195 #[.int .i64 z] w fun e w' => e = .returned (.bool (decide (0 ≤ z ∧ z < 4294967296))) ∧ w = w' := by
 go_enter Tryz.func195, Tryz.ntmps195; go_wp2
 all_goals go_ret
 all_goals refine ⟨ret_bool ?_, rfl⟩
 all_goals simp
 all_goals omega
theorem closedOk_impl (v : Value) (t : TaskD) (z : Int) (w : World) (h : RdT w w.heap.size v t) (he : ErrH w) (hok : taskOk t = true) :
  Calls Tryz.prog 170 #[v, .int .i64 z] w fun e w' => e = .returned (.bool (closedOk t z)) ∧ Below w.heap.size w w' := by
 have h' := h; obtain ⟨G, gn, gc, G', n', c', rfl, hg, hgs, hds, hst⟩ := h; have HS0 := Lib.hid ((St.refl w).alloc #[.int .i64 t.start, .slice G gn gc, .slice G' n' c'] 26); have HT := Lib.hid h'; have HG := Lib.hid hg; have HE := Lib.hid he; have HOK := Lib.hid hok; obtain ⟨hs01, hgok, -, -⟩ := taskOk_parts t hok; have HTR := Bx.mk (codeTruth_yes t.goal hgok); obtain ⟨st, hst'⟩ : ∃ x, t.start = x := ⟨_, rfl⟩; have HSTZ := Bx.mk hst'; rw [hst'] at hs01 HT HS0 ⊢
 obtain ⟨s0, rfl⟩ := Int.eq_ofNat_of_zero_le hs01.1; have hs32 : s0 < 32 := by omega
 have HSN : Hid (t.start.toNat = s0) := Lib.hid (by rw [hst']; simp); clear h' hok hg hds he hgok hst' hs01 hst
 by_cases hz : 0 ≤ z ∧ z < 4294967296
 case neg =>
  have HF := Bx.mk (closed_range (t := t) hz); have hz' := decide_eq_false hz; go_enter Tryz.func170, Tryz.ntmps170
  go_wp2_with fail
  refine (taskValid_impl _ t _ (HT.out.up HS0.out.below)).mono ?_; rw [HOK.out]; rintro e w1 ⟨rfl, hb1⟩; have HB := Lib.hid (HS0.out.quiet hb1).below; clear hb1
  go_wp2_with fail
  refine (statesOk_any z _).mono ?_; rw [hz']; rintro e w2 ⟨rfl, rfl⟩; clear hz hz'; go_wp2; go_ret; exact ⟨by rw [HF.out]; rfl, HB.out⟩
 have hz' := Bx.mk (decide_eq_true hz); obtain ⟨M, rfl⟩ := Int.eq_ofNat_of_zero_le hz.1; have hM : M < 4294967296 := by omega
 have HIFF := Lib.hid (closed_iff (t := t) HOK.out hM); rw [HSN.out] at HIFF; have hbit := and_one M s0 (by omega); obtain ⟨N0, hN0⟩ : ∃ N, truthN t.goal = N := ⟨_, rfl⟩; have hN32 : N0 < 4294967296 := by rw [← hN0]; exact mset32_lt _
 rw [hN0] at HTR HIFF; clear hN0 hz; go_enter Tryz.func170, Tryz.ntmps170
 go_wp2_with fail
 refine (taskValid_impl _ t _ (HT.out.up HS0.out.below)).mono ?_; rw [HOK.out]; rintro e w1 ⟨rfl, hb1⟩; have HS1 := Lib.hid (HS0.out.quiet hb1); clear hb1 HS0
 go_wp2_with fail
 refine (statesOk_any _ _).mono ?_; rw [hz'.out]; rintro e w2 ⟨rfl, rfl⟩; have q1 := HS1.out.cells 0 rfl
 by_cases hb1 : bit M s0 = 1
 case neg =>
  have hb0 : bit M s0 = 0 := by have := bit_lt M s0; omega
  have HF : Hid (closedOk t (M : Int) = false) := Lib.hid (by
   cases hc : closedOk t (M : Int) with
   | false => rfl
   | true => exact absurd (HIFF.out.1 hc).1 hb1)
  rw [hb0] at hbit; clear hb1 hb0; go_wp2; go_ret; exact ⟨by rw [HF.out]; rfl, HS1.out.below⟩
 rw [hb1] at hbit
 go_wp2_with fail
 refine (codeTruth_impl G gn gc t.goal _ (HG.out.up HS1.out.below)).mono ?_; rw [HTR.out]; rintro e w3 ⟨rfl, hb3⟩; have HS3 := Lib.hid (HS1.out.quiet hb3); clear hb3 q1 HS1; have hand := i64_and_nat M N0 (by omega) (by omega)
 by_cases ha : M &&& N0 = 0
 case neg =>
  have HF : Hid (closedOk t (M : Int) = false) := Lib.hid (by
   cases hc : closedOk t (M : Int) with
   | false => rfl
   | true => exact absurd (HIFF.out.1 hc).2.1 ha)
  have hne : ((((M &&& N0 : Nat) : Int)) != 0) = true := by rw [bne_iff_ne]; omega
  generalize M &&& N0 = A at hand hne ha
  clear ha hb1; go_wp2; go_ret; exact ⟨by rw [HF.out]; rfl, HS3.out.below⟩
 rw [ha] at hand; have q3 := HS3.out.cells 0 rfl; obtain ⟨g5, hg5⟩ : ∃ g5, w3.heap.size = g5 := ⟨_, rfl⟩; have hgw : w.heap.size ≤ g5 := by rw [← hg5]; exact HS3.out.below.size
 have HS4 := Lib.hid (HS3.out.alloc #[.int .i64 0, .int .i64 0] 189); have HIF2 : Hid (closedOk t (M : Int) = true ↔ closOk t.deeds M) := Lib.hid (by rw [HIFF.out]; exact ⟨fun h => h.2.2, fun h => ⟨hb1, ha, h⟩⟩); have q4 := HS4.out.cells 0 rfl; clear hb1 ha HIFF
 go_wp2_with fail
 try rw [hg5]
 rw [hg5] at HS4
 generalize w3.alloc (.cells #[.int .i64 0, .int .i64 0] 189) = wa at HS4 q4 ⊢
 refine (closedUnder_any _ t M _ (HT.out.up HS4.out.below) HOK.out hM).mono ?_; rintro e w5 ⟨he4, hb4⟩; have HS5 := Lib.hid (HS4.out.quiet hb4); clear hb4 q3 q4 HS4 HS3
 rcases he4 with ⟨hu, rfl⟩ | ⟨hu, a, b, ha, hb, rfl⟩
 ·have HF := Bx.mk (HIF2.out.2 hu); clear hu
  go_wp2_with fail
  refine (as_nil _ _).mono ?_; rintro e w6 ⟨rfl, rfl⟩; go_wp2; go_ret; exact ⟨by rw [HF.out]; rfl, HS5.out.below⟩
 ·have HF : Hid (closedOk t (M : Int) = false) := Lib.hid (by
   cases hc : closedOk t (M : Int) with
   | false => rfl
   | true => exact absurd (HIF2.out.1 hc) hu)
  clear hu
  go_wp2_with fail
  refine (as_hit_any _ _ g5 w.heap.size _ _ _ (HE.out.up HS5.out.below) (HS5.out.blk 1 rfl) hgw).mono ?_; rintro e w6 ⟨rfl, hb5⟩; have HB := Lib.hid (HS5.out.below.trans hb5); clear hb5; go_wp2; go_ret; exact ⟨by rw [HF.out]; rfl, HB.out⟩
theorem statesNext_out (v : Value) (t : TaskD) (z : Int) (w : World) (h : RdT w w.heap.size v t) (hok : taskOk t = true) (hz : ¬ (0 ≤ z ∧ z ≤ 4294967295)) :
  Calls Tryz.prog 160 #[v, .int .i64 z] w fun e w' => e = .returned (.int .i64 (-1)) ∧ Below w.heap.size w w' := by
 have h' := h; obtain ⟨G, gn, gc, G', n', c', rfl, hg, hgs, hds, hst⟩ := h; have HS0 := Lib.hid ((St.refl w).alloc #[.int .i64 t.start, .slice G gn gc, .slice G' n' c'] 26); have HT := Lib.hid h'; have HOK := Lib.hid hok; clear h' hok hg hds; go_enter Tryz.func160, Tryz.ntmps160
 go_wp2_with fail
 refine (taskValid_spec _ t _ (HT.out.up HS0.out.below)).mono ?_; rw [HOK.out]; rintro e w1 ⟨rfl, hb1⟩; have HB := Lib.hid (HS0.out.quiet hb1).below; clear hb1
 go_wp2_with fail
 refine (l1In_no z 0 4294967295 _ hz).mono ?_; rintro e w2 ⟨rfl, rfl⟩; go_wp2; go_ret; exact ⟨rfl, HB.out⟩
theorem closedOk_spec (v : Value) (t : TaskD) (z : Int) (w : World) (h : RdT w w.heap.size v t) (hok : taskOk t = true) :
  Calls Tryz.prog 129 #[v, .int .i64 z] w fun e w' => e = .returned (.bool (closedOk t z)) ∧ Below w.heap.size w w' := by
 have h' := h; obtain ⟨G, gn, gc, G', n', c', rfl, hg, hgs, hds, hst⟩ := h; have HS0 := Lib.hid ((St.refl w).alloc #[.int .i64 t.start, .slice G gn gc, .slice G' n' c'] 26); have HT := Lib.hid h'; have HG := Lib.hid hg; have HGN := Lib.hid hgs; have HOK := Lib.hid hok; obtain ⟨hs01, hgok, -, -⟩ := taskOk_parts t hok; have HTR := Bx.mk (codeTruth_yes t.goal hgok); obtain ⟨st, hst'⟩ : ∃ x, t.start = x := ⟨_, rfl⟩; rw [hst'] at hs01 HT HS0 ⊢
 obtain ⟨s0, rfl⟩ := Int.eq_ofNat_of_zero_le hs01.1; have hs32 : s0 < 32 := by omega
 have HSN : Hid (t.start.toNat = s0) := Lib.hid (by rw [hst']; simp); have q0 := HS0.out.cells 0 rfl; clear h' hok hg hds hgok hst' hs01 hst hgs
 by_cases hz : 0 ≤ z ∧ z < 4294967296
 case neg =>
  have HF := Bx.mk (closed_range (t := t) hz); go_enter Tryz.func129, Tryz.ntmps129
  go_wp2_with fail
  refine (statesNext_out _ t z _ (HT.out.up HS0.out.below) HOK.out (by omega)).mono ?_; rintro e w1 ⟨rfl, hb1⟩; have HB := Lib.hid (HS0.out.quiet hb1).below; clear hb1 q0 hz; go_wp2; go_ret; exact ⟨by rw [HF.out]; rfl, HB.out⟩
 obtain ⟨M, rfl⟩ := Int.eq_ofNat_of_zero_le hz.1; have hM : M < 4294967296 := by omega
 have HIFF := Lib.hid (closed_iff (t := t) HOK.out hM); have HNX := Lib.hid (clos_next_iff (t := t) HOK.out hM); rw [HSN.out] at HIFF; obtain ⟨N1, hN1⟩ : ∃ N, mset (fwdP t.deeds (setP M)) 32 = N := ⟨_, rfl⟩; have hN1b : N1 < 4294967296 := by rw [← hN1]; exact mset32_lt _
 have HN1 := Bx.mk hN1; rw [hN1] at HNX; obtain ⟨N0, hN0⟩ : ∃ N, truthN t.goal = N := ⟨_, rfl⟩; have hN32 : N0 < 4294967296 := by rw [← hN0]; exact mset32_lt _
 rw [hN0] at HTR HIFF; clear hN0 hz hN1; go_enter Tryz.func129, Tryz.ntmps129
 go_wp2_with fail
 refine (statesNext_spec _ t M _ (HT.out.up HS0.out.below) HOK.out hM).mono ?_; rw [HN1.out]; rintro e w1 ⟨rfl, hb1⟩; have HS1 := Lib.hid (HS0.out.quiet hb1); clear hb1 q0 HS0; have q1 := HS1.out.cells 0 rfl; have hge : (0 : Int) ≤ (N1 : Int) := by omega
 go_wp2_with fail
 refine (l1Bit_nat M s0 (by omega) _).mono ?_
 by_cases hb1 : bit M s0 = 1
 case neg =>
  have hb0 : bit M s0 = 0 := by have := bit_lt M s0; omega
  have HF : Hid (closedOk t (M : Int) = false) := Lib.hid (by
   cases hc : closedOk t (M : Int) with
   | false => rfl
   | true => exact absurd (HIFF.out.1 hc).1 hb1)
  rw [hb0]; rintro e w2 ⟨rfl, rfl⟩; clear hb1 hb0; go_wp2; go_ret; exact ⟨by rw [HF.out]; rfl, HS1.out.below⟩
 rw [hb1]; rintro e w2 ⟨rfl, rfl⟩
 go_wp2_with fail
 refine (l1Both_nat N1 M (by omega) _).mono ?_
 by_cases hc : N1 &&& M = N1
 case neg =>
  have HF : Hid (closedOk t (M : Int) = false) := Lib.hid (by
   cases h : closedOk t (M : Int) with
   | false => rfl
   | true => exact absurd (HNX.out.2 (HIFF.out.1 h).2.2) hc)
  have hne : ((((N1 &&& M : Nat) : Int)) == (N1 : Int)) = false := beq_false_of_ne (by omega)
  generalize N1 &&& M = A at hne hc ⊢
  rintro e w2 ⟨rfl, rfl⟩; clear hc hb1; go_wp2; go_ret; exact ⟨by rw [HF.out]; rfl, HS1.out.below⟩
 rw [hc]; rintro e w2 ⟨rfl, rfl⟩
 go_wp2_with fail
 refine (codeTruth_spec G gn gc t.goal _ (HG.out.up HS1.out.below) HGN.out).mono ?_; rw [HTR.out]; rintro e w3 ⟨rfl, hb3⟩; have HS3 := Lib.hid (HS1.out.quiet hb3); clear hb3 q1 HS1
 go_wp2_with fail
 refine (l1Both_nat M N0 (by omega) _).mono ?_
 by_cases ha : M &&& N0 = 0
 ·have HF : Hid (closedOk t (M : Int) = true) := Lib.hid (HIFF.out.2 ⟨hb1, ha, HNX.out.1 hc⟩); rw [ha]; rintro e w4 ⟨rfl, rfl⟩; clear ha hb1 hc; go_wp2; go_ret; exact ⟨by rw [HF.out]; rfl, HS3.out.below⟩
 ·have HF : Hid (closedOk t (M : Int) = false) := Lib.hid (by
   cases h : closedOk t (M : Int) with
   | false => rfl
   | true => exact absurd (HIFF.out.1 h).2.1 ha)
  have hne : ((((M &&& N0 : Nat) : Int)) == 0) = false := beq_false_of_ne (by omega)
  generalize M &&& N0 = A at hne ha ⊢
  rintro e w4 ⟨rfl, rfl⟩; clear ha hb1 hc; go_wp2; go_ret; exact ⟨by rw [HF.out]; rfl, HS3.out.below⟩
theorem planOk_spec (v : Value) (t : TaskD) (A : Option Addr) (n c : Nat) (p : List Int) (w : World) (h : RdT w w.heap.size v t) (hp : RdI .i64 w w.heap.size A n c p) (hok : taskOk t = true) :
  Calls Tryz.prog 128 #[v, .slice A n c] w fun e w' => e = .returned (.bool (planOk t p)) ∧ Below w.heap.size w w' := by
 have h' := h; obtain ⟨G, gn, gc, G', n', c', rfl, hg, hgs, hds, hst⟩ := h; have HS0 := Lib.hid ((St.refl w).alloc #[.int .i64 t.start, .slice G gn gc, .slice G' n' c'] 26); have HT := Lib.hid h'; have HG := Lib.hid hg; have HPL := Lib.hid hp; have HGO := Lib.hid (taskOk_parts t hok).2.1; have q0 := HS0.out.cells 0 rfl; obtain ⟨z, hz⟩ : ∃ z, planRun t t.start p = z := ⟨_, rfl⟩; have HZ := Bx.mk hz; have HP : Hid (planOk t p = (decide (0 ≤ z) && evalCode t.goal z.toNat)) := Lib.hid (by unfold planOk; rw [hz]); have HZB : Hid (0 ≤ z → z < 32) := Lib.hid (fun h0 => by have := ((planRun_bd t t.start p).1 (by rw [hz]; exact h0)).2.2.2; rwa [hz] at this); clear h' hok hg hds hst hp hz; go_enter Tryz.func128, Tryz.ntmps128
 go_wp2_with fail
 refine (planRun_spec _ t _ A n c p _ (HT.out.up HS0.out.below) (HPL.out.up HS0.out.below)).mono ?_; rw [HZ.out]; rintro e w1 ⟨rfl, hb1⟩; have HS1 := Lib.hid (HS0.out.quiet hb1); clear hb1 q0 HS0; have q1 := HS1.out.cells 0 rfl
 by_cases h0 : 0 ≤ z
 ·obtain ⟨s, rfl⟩ := Int.eq_ofNat_of_zero_le h0; have hs : s < 32 := by have := HZB.out h0; omega
  have HF : Hid (planOk t p = evalCode t.goal s) := Lib.hid (by rw [HP.out, decide_eq_true h0, Int.toNat_natCast]; rfl); obtain ⟨gb, hgb⟩ : ∃ b, evalCode t.goal s = b := ⟨_, rfl⟩; rw [hgb] at HF; have HGB := Bx.mk hgb; clear hgb
  go_wp2_with fail
  refine (l5Run_any G gn gc t.goal s _ (HG.out.up HS1.out.below) HGO.out hs).mono ?_; rw [HGB.out]; rintro e w2 ⟨rfl, hb2⟩; have HS2 := Lib.hid (HS1.out.quiet hb2); clear hb2; go_wp2; go_ret; exact ⟨by rw [HF.out]; rfl, HS2.out.below⟩
 ·have HF : Hid (planOk t p = false) := Lib.hid (by rw [HP.out, decide_eq_false h0]; rfl); go_wp2; go_ret; exact ⟨by rw [HF.out]; rfl, HS1.out.below⟩
theorem planOk_impl (v : Value) (t : TaskD) (A : Option Addr) (n c : Nat) (p : List Int) (w : World) (h : RdT w w.heap.size v t) (hp : RdI .i64 w w.heap.size A n c p) (hok : taskOk t = true) :
  Calls Tryz.prog 169 #[v, .slice A n c] w fun e w' => e = .returned (.bool (planOk t p)) ∧ Below w.heap.size w w' := by
 have h' := h; obtain ⟨G, gn, gc, G', n', c', rfl, hg, hgs, hds, hst⟩ := h; have HS0 := Lib.hid ((St.refl w).alloc #[.int .i64 t.start, .slice G gn gc, .slice G' n' c'] 26); have HT := Lib.hid h'; have HG := Lib.hid hg; have HPL := Lib.hid hp; have HGO := Lib.hid (taskOk_parts t hok).2.1; have q0 := HS0.out.cells 0 rfl; obtain ⟨z, hz⟩ : ∃ z, planRun t t.start p = z := ⟨_, rfl⟩; have HZ := Bx.mk hz; have HP : Hid (planOk t p = (decide (0 ≤ z) && evalCode t.goal z.toNat)) := Lib.hid (by unfold planOk; rw [hz]); have HZB : Hid (0 ≤ z → z < 32) := Lib.hid (fun h0 => by have := ((planRun_bd t t.start p).1 (by rw [hz]; exact h0)).2.2.2; rwa [hz] at this); clear h' hok hg hds hst hp hz; go_enter Tryz.func169, Tryz.ntmps169
 go_wp2_with fail
 refine (planRun_impl _ t _ A n c p _ (HT.out.up HS0.out.below) (HPL.out.up HS0.out.below)).mono ?_; rw [HZ.out]; rintro e w1 ⟨rfl, hb1⟩; have HS1 := Lib.hid (HS0.out.quiet hb1); clear hb1 q0 HS0; have q1 := HS1.out.cells 0 rfl
 by_cases h0 : 0 ≤ z
 ·obtain ⟨s, rfl⟩ := Int.eq_ofNat_of_zero_le h0; have hs : s < 32 := by have := HZB.out h0; omega
  have HF : Hid (planOk t p = codeRun t.goal (s : Int)) := Lib.hid (by
   rw [HP.out, decide_eq_true h0, Int.toNat_natCast]
   unfold codeRun
   rw [HGO.out, (stIn_iff (s : Int)).2 (by omega)]; simp)
  obtain ⟨gb, hgb⟩ : ∃ b, codeRun t.goal (s : Int) = b := ⟨_, rfl⟩; rw [hgb] at HF; have HGB := Bx.mk hgb; clear hgb
  go_wp2_with fail
  refine (codeRun_impl G gn gc t.goal (s : Int) _ (HG.out.up HS1.out.below)).mono ?_; rw [HGB.out]; rintro e w2 ⟨rfl, hb2⟩; have HS2 := Lib.hid (HS1.out.quiet hb2); clear hb2; go_wp2; go_ret; exact ⟨by rw [HF.out]; rfl, HS2.out.below⟩
 ·have HF : Hid (planOk t p = false) := Lib.hid (by rw [HP.out, decide_eq_false h0]; rfl); go_wp2; go_ret; exact ⟨by rw [HF.out]; rfl, HS1.out.below⟩
def onlyFlip (d : DeedD) : Bool := decide (d.on = 0) && decide (d.off = 0) && truthAll d.need
theorem onlyTurns_eq (t : TaskD) : onlyTurns t = (taskOk t && t.deeds.all onlyFlip) := rfl
theorem turns_bad {t : TaskD} {k : Nat} {d : DeedD} (h : t.deeds[k]? = some d) (hd : onlyFlip d = false) : onlyTurns t = false := by
 rw [onlyTurns_eq]
 cases ht : t.deeds.all onlyFlip with
 | false => simp
 | true => rw [List.all_eq_true.1 ht d (List.mem_of_getElem? h)] at hd; cases hd
theorem turns_all {t : TaskD} (hok : taskOk t = true) (h : ∀ (k : Nat) (d : DeedD), t.deeds[k]? = some d → onlyFlip d = true) : onlyTurns t = true := by
 rw [onlyTurns_eq, hok, Bool.true_and, List.all_eq_true]; intro d hd; obtain ⟨k, hk, rfl⟩ := List.getElem_of_mem hd; exact h k _ (List.getElem?_eq_getElem hk)
def turnsTo (t : TaskD) (k : Nat) : Prop := ∀ (j : Nat) (d : DeedD), j < k → t.deeds[j]? = some d → onlyFlip d = true
theorem turns_next {t : TaskD} {k : Nat} {d : DeedD} (h : turnsTo t k) (hk : t.deeds[k]? = some d) (hd : onlyFlip d = true) : turnsTo t (k + 1) := fun j e hj he => by
 rcases Nat.lt_or_ge j k with h1 | h1
 ·exact h j e h1 he
 ·obtain rfl : j = k := by omega
  rw [hk] at he; cases he; exact hd
theorem turns_end {t : TaskD} {k : Nat} (h : turnsTo t k) (hok : taskOk t = true) (hk : t.deeds.length ≤ k) : onlyTurns t = true :=
 turns_all hok fun j d hj => h j d (Nat.lt_of_lt_of_le (List.getElem?_eq_some_iff.1 hj).1 hk) hj
theorem turn_on {d : DeedD} (h : d.on ≠ 0) : onlyFlip d = false := by unfold onlyFlip; rw [decide_eq_false h]; rfl
theorem turn_off {d : DeedD} (h : d.off ≠ 0) : onlyFlip d = false := by unfold onlyFlip; rw [decide_eq_false h]; simp
theorem turn_truth {d : DeedD} (h : truthN d.need ≠ 4294967295) : onlyFlip d = false := by unfold onlyFlip truthAll; rw [beq_false_of_ne h]; simp
theorem turn_good {d : DeedD} (h1 : d.on = 0) (h2 : d.off = 0) (h3 : truthN d.need = 4294967295) : onlyFlip d = true := by
 unfold onlyFlip truthAll; rw [h1, h2, h3]; rfl
theorem deed_code {d : DeedD} (h : deedOk d = true) : codeOk d.need = true := by
 unfold deedOk at h
 simp only [Bool.and_eq_true] at h; exact h.1.1.1.1
theorem onlyTurns_impl (v : Value) (t : TaskD) (w : World) (h : RdT w w.heap.size v t) (hok : taskOk t = true) :
  Calls Tryz.prog 198 #[v] w fun e w' => e = .returned (.bool (onlyTurns t)) ∧ Below w.heap.size w w' := by
 have h' := h; obtain ⟨G, gn, gc, G', n', c', rfl, hg, hgs, hds, hst⟩ := h; have HS0 := Lib.hid ((St.refl w).alloc #[.int .i64 t.start, .slice G gn gc, .slice G' n' c'] 26); have HT := Lib.hid h'; have HDS := Lib.hid hds; have HDL := Lib.hid hds.len; have HOK := Lib.hid hok; obtain ⟨-, -, hn6, hdok⟩ := taskOk_parts t hok; have HDOK := Lib.hid hdok; have hn6' : n' ≤ 6 := by rw [← hds.len]; exact hn6
 clear h' hok hds hdok hn6 hg hgs hst; go_enter Tryz.func198, Tryz.ntmps198
 go_wp2_with fail
 refine (taskValid_impl _ t _ (HT.out.up HS0.out.below)).mono ?_; rw [HOK.out]; rintro e w1 ⟨rfl, hb1⟩; have HS1 := Lib.hid (HS0.out.quiet hb1); clear hb1 HS0; have q1 := HS1.out.cells 0 rfl; go_wp2
 go_loopw [11] (fun i wr => ∃ k : Nat, k ≤ n' ∧ i = .int .i64 (k : Int) ∧ Hid (turnsTo t k) ∧ St w wr [rBlk w.heap.size 26 #[.int .i64 t.start, .slice G gn gc, .slice G' n' c']]) (fun i _ => n' - (intOf i).toNat)
 case atStart => exact ⟨0, by omega, rfl, Lib.hid (fun j d h => by omega), HS1.out⟩
 case round =>
  clear HS1 q1; obtain ⟨k, hk, rfl, HM, S⟩ := hrel; have HS := Lib.hid S; clear S
  by_cases hlt : k < n'
  ·obtain ⟨db, off, d, rfl, hdb, hd, hda⟩ := HDS.out.get hlt; obtain ⟨An, nn, cn, p0, p1, p2, p3, hneed, hnn, -⟩ := hda; have r0 : wr.cell? ⟨db, off + k * 4, none⟩ = some (.slice An nn cn) := (bcells HS.out.below db _ hdb).trans p0; have r1 : wr.cell? ⟨db, off + k * 4 + 1, none⟩ = some (.int .i64 d.on) := (bcells HS.out.below db _ hdb).trans p1; have r2 : wr.cell? ⟨db, off + k * 4 + 2, none⟩ = some (.int .i64 d.off) := (bcells HS.out.below db _ hdb).trans p2; have r3 : wr.cell? ⟨db, off + k * 4 + 3, none⟩ = some (.int .i64 d.flip) := (bcells HS.out.below db _ hdb).trans p3; have HN := Lib.hid hneed; have HNN := Lib.hid hnn; have HDK := Lib.hid hd; have HCT := Bx.mk (codeTruth_yes d.need (deed_code (HDOK.out d (List.mem_of_getElem? hd)))); have HS1 := Lib.hid ((HS.out.alloc #[.slice An nn cn, .int .i64 d.on, .int .i64 d.off, .int .i64 d.flip] 144).pick [0] (by decide) rfl rfl); have HS2 := Lib.hid (HS.out.alloc #[.slice An nn cn, .int .i64 d.on, .int .i64 d.off, .int .i64 d.flip] 144); clear p0 p1 p2 p3 hneed hnn hd; obtain ⟨don, hon⟩ : ∃ x, d.on = x := ⟨_, rfl⟩; obtain ⟨dof, hof⟩ : ∃ x, d.off = x := ⟨_, rfl⟩; have HON := Bx.mk hon; have HOF := Bx.mk hof; rw [hon] at r1 HS1 HS2; rw [hof] at r2 HS1 HS2; clear hon hof
   by_cases h1 : don = 0
   case neg =>
    have HF := Bx.mk (turns_bad HDK.out (turn_on (by rw [HON.out]; exact h1))); have h1' : (don != 0) = true := by rw [bne_iff_ne]; exact h1
    clear h1; go_wp2; go_ret; exact ⟨by rw [HF.out]; rfl, HS1.out.below⟩
   subst h1
   by_cases h2 : dof = 0
   case neg =>
    have HF := Bx.mk (turns_bad HDK.out (turn_off (by rw [HOF.out]; exact h2))); have h2' : (dof != 0) = true := by rw [bne_iff_ne]; exact h2
    clear h2; go_wp2; go_ret; exact ⟨by rw [HF.out]; rfl, HS1.out.below⟩
   subst h2; obtain ⟨tn, htn⟩ : ∃ x, truthN d.need = x := ⟨_, rfl⟩; have HTN := Bx.mk htn; rw [htn] at HCT; clear htn
   go_wp2_with fail
   refine (codeTruth_impl An nn cn d.need _ (HN.out.up HS1.out.below)).mono ?_; rw [HCT.out]; rintro e w3 ⟨rfl, hb3⟩; have HS3 := Lib.hid (HS1.out.quiet hb3); clear hb3
   by_cases h3 : tn = 4294967295
   ·subst h3; have HM2 := Lib.hid (turns_next HM.out HDK.out (turn_good HON.out HOF.out HTN.out)); go_wp2
    go_roundw
    case rel => exact ⟨k + 1, by omega, by go_num, HM2, HS3.out⟩
    case measure => simp [intOf]; omega
   ·have HF := Bx.mk (turns_bad HDK.out (turn_truth (by rw [HTN.out]; exact h3))); have h3' : ((tn : Int) != 4294967295) = true := by rw [bne_iff_ne]; omega
    clear h3; go_wp2; go_ret; exact ⟨by rw [HF.out]; rfl, HS3.out.below⟩
  ·have hke : k = n' := by omega
   have HF := Bx.mk (turns_end HM.out HOK.out (by rw [HDL.out]; omega)); clear hke; go_wp2; go_ret; exact ⟨by rw [HF.out]; rfl, HS.out.below⟩
theorem onlyTurns_spec (v : Value) (t : TaskD) (w : World) (h : RdT w w.heap.size v t) (hok : taskOk t = true) :
  Calls Tryz.prog 175 #[v] w fun e w' => e = .returned (.bool (onlyTurns t)) ∧ Below w.heap.size w w' := by
 have h' := h; obtain ⟨G, gn, gc, G', n', c', rfl, hg, hgs, hds, hst⟩ := h; have HS0 := Lib.hid ((St.refl w).alloc #[.int .i64 t.start, .slice G gn gc, .slice G' n' c'] 26); have HT := Lib.hid h'; have HDS := Lib.hid hds; have HDL := Lib.hid hds.len; have HOK := Lib.hid hok; obtain ⟨-, -, hn6, hdok⟩ := taskOk_parts t hok; have HDOK := Lib.hid hdok; have hn6' : n' ≤ 6 := by rw [← hds.len]; exact hn6
 clear h' hok hds hdok hn6 hg hgs hst; go_enter Tryz.func175, Tryz.ntmps175; go_wp2
 go_loopw [3] (fun i wr => ∃ k : Nat, k ≤ n' ∧ i = .int .i64 (k : Int) ∧ Hid (turnsTo t k) ∧ St w wr [rBlk w.heap.size 26 #[.int .i64 t.start, .slice G gn gc, .slice G' n' c']]) (fun i _ => n' - (intOf i).toNat)
 case atStart => exact ⟨0, by omega, rfl, Lib.hid (fun j d h => by omega), HS0.out⟩
 case round =>
  clear HS0; obtain ⟨k, hk, rfl, HM, S⟩ := hrel; have HSr := Lib.hid S; clear S; have qr := HSr.out.cells 0 rfl
  by_cases hlt : k < n'
  ·obtain ⟨db, off, d, rfl, hdb, hd, hda⟩ := HDS.out.get hlt; obtain ⟨An, nn, cn, p0, p1, p2, p3, hneed, hnn, -⟩ := hda
   go_wp2_with fail
   refine (taskValid_spec _ t _ (HT.out.up HSr.out.below)).mono ?_; rw [HOK.out]; rintro e w1 ⟨rfl, hb1⟩; have HS := Lib.hid (HSr.out.quiet hb1); clear hb1 HSr qr; have q1 := HS.out.cells 0 rfl; have r0 : w1.cell? ⟨db, off + k * 4, none⟩ = some (.slice An nn cn) := (bcells HS.out.below db _ hdb).trans p0; have r1 : w1.cell? ⟨db, off + k * 4 + 1, none⟩ = some (.int .i64 d.on) := (bcells HS.out.below db _ hdb).trans p1; have r2 : w1.cell? ⟨db, off + k * 4 + 2, none⟩ = some (.int .i64 d.off) := (bcells HS.out.below db _ hdb).trans p2; have r3 : w1.cell? ⟨db, off + k * 4 + 3, none⟩ = some (.int .i64 d.flip) := (bcells HS.out.below db _ hdb).trans p3; have HN := Lib.hid hneed; have HNN := Lib.hid hnn; have HDK := Lib.hid hd; have HCT := Bx.mk (codeTruth_yes d.need (deed_code (HDOK.out d (List.mem_of_getElem? hd)))); have HS1 := HS; clear p0 p1 p2 p3 hneed hnn hd; obtain ⟨don, hon⟩ : ∃ x, d.on = x := ⟨_, rfl⟩; obtain ⟨dof, hof⟩ : ∃ x, d.off = x := ⟨_, rfl⟩; have HON := Bx.mk hon; have HOF := Bx.mk hof; rw [hon] at r1; rw [hof] at r2; clear hon hof
   by_cases h1 : don = 0
   case neg =>
    have HF := Bx.mk (turns_bad HDK.out (turn_on (by rw [HON.out]; exact h1))); have h1' : (don != 0) = true := by rw [bne_iff_ne]; exact h1
    clear h1; go_wp2; go_ret; exact ⟨by rw [HF.out]; rfl, HS1.out.below⟩
   subst h1
   by_cases h2 : dof = 0
   case neg =>
    have HF := Bx.mk (turns_bad HDK.out (turn_off (by rw [HOF.out]; exact h2))); have h2' : (dof != 0) = true := by rw [bne_iff_ne]; exact h2
    clear h2; go_wp2; go_ret; exact ⟨by rw [HF.out]; rfl, HS1.out.below⟩
   subst h2; obtain ⟨tn, htn⟩ : ∃ x, truthN d.need = x := ⟨_, rfl⟩; have HTN := Bx.mk htn; rw [htn] at HCT; clear htn
   go_wp2_with fail
   refine (codeTruth_spec An nn cn d.need _ (HN.out.up HS1.out.below) HNN.out).mono ?_; rw [HCT.out]; rintro e w3 ⟨rfl, hb3⟩; have HS3 := Lib.hid (HS1.out.quiet hb3); clear hb3
   by_cases h3 : tn = 4294967295
   ·subst h3; have HM2 := Lib.hid (turns_next HM.out HDK.out (turn_good HON.out HOF.out HTN.out)); go_wp2
    go_roundw
    case rel => exact ⟨k + 1, by omega, by go_num, HM2, HS3.out⟩
    case measure => simp [intOf]; omega
   ·have HF := Bx.mk (turns_bad HDK.out (turn_truth (by rw [HTN.out]; exact h3))); have h3' : ((tn : Int) != 4294967295) = true := by rw [bne_iff_ne]; omega
    clear h3; go_wp2; go_ret; exact ⟨by rw [HF.out]; rfl, HS3.out.below⟩
  ·have hke : k = n' := by omega
   have HF := Bx.mk (turns_end HM.out HOK.out (by rw [HDL.out]; omega)); clear hke
   go_wp2_with fail
   refine (taskValid_spec _ t _ (HT.out.up HSr.out.below)).mono ?_; rw [HOK.out]; rintro e w1 ⟨rfl, hb1⟩; have HS := Lib.hid (HSr.out.quiet hb1); clear hb1; go_wp2; go_ret; exact ⟨by rw [HF.out]; rfl, HS.out.below⟩
theorem popc_half : ∀ m, m < 32 → popc m = m % 2 + popc (m / 2) := by decide +kernel
theorem popc_5 : ∀ m, m < 32 → popc m ≤ 5 := by decide +kernel
theorem l1Many_any (n : Nat) (hn : n < 32) (w : World) :
  Calls Tryz.prog 176 #[.int .i64 (n : Int)] w fun e w' => e = .returned (.int .i64 (popc n : Nat)) ∧ w = w' := by
 have h5 := popc_5 n hn; go_enter Tryz.func176, Tryz.ntmps176; go_wp2
 go_loop [0, 3] (fun s p => ∃ m k : Nat, m < 32 ∧ k ≤ 5 ∧ s = .int .i64 (m : Int) ∧ p = .int .i64 (k : Int) ∧ Hid (k + popc m = popc n)) (fun s _ => (intOf s).toNat)
 case atStart => exact ⟨n, 0, hn, by omega, rfl, rfl, Lib.hid (by omega)⟩
 case round =>
  obtain ⟨m, k, hm, hk, rfl, rfl, HK⟩ := hrel
  by_cases h0 : 0 < m
  ·have HS := Lib.hid (popc_half m hm); obtain ⟨a, ha⟩ : ∃ a, m / 2 = a := ⟨_, rfl⟩; obtain ⟨r, hr⟩ : ∃ r, m % 2 = r := ⟨_, rfl⟩; rw [ha, hr] at HS; have hr2 : r < 2 := by omega
   have q1 : (m : Int).tdiv 2 = (a : Int) := by rw [Int.tdiv_eq_ediv_of_nonneg (by omega)]; omega
   have q2 : (m : Int).tmod 2 = (r : Int) := by rw [Int.tmod_eq_emod_of_nonneg (by omega)]; omega
   have q3 : (m : Int) / 2 = (a : Int) := by omega
   have q4 : (m : Int) % 2 = (r : Int) := by omega
   have HKK : Hid (k + r + popc a = popc n) := Lib.hid (by have := HK.out; have := HS.out; omega); have hb : k + r ≤ 5 := by have := HKK.out; omega
   have ha2 : a < m := by omega
   clear ha hr HS; go_wp2
   go_round
   case rel => exact ⟨a, k + r, by omega, hb, by go_num, by go_num, HKK⟩
   case measure => simp [intOf]; omega
  ·obtain rfl : m = 0 := by omega
   have HE : Hid (k = popc n) := Lib.hid (by have := HK.out; rw [popc_zero] at this; omega); go_wp2; go_ret; exact ⟨ret_int (by rw [HE.out]), rfl⟩
end Go.Proofs.YtkmcengmglgdeaaGreatDoor
