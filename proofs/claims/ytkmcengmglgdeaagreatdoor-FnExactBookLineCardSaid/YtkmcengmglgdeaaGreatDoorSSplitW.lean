/- Joined texts: SplitW, ClosS. -/
import Derived.Test.YtkmcengmglgdeaaGreatDoorSRightP
import Derived.Test.YtkmcengmglgdeaaGreatDoorSActsH
import Derived.Lib.IndexBytes
import Derived.Lib.SplitLaws
import Derived.Lib.AppendIntMem
import Derived.Test.YtkmcengmglgdeaaGreatDoorSTruth
import Derived.Test.YtkmcengmglgdeaaGreatDoorSLaid
import Derived.Test.YtkmcengmglgdeaaGreatDoorSReach
import Derived.Test.YtkmcengmglgdeaaGreatDoorSBValid

namespace Go.Proofs.YtkmcengmglgdeaaGreatDoor
set_option linter.unusedVariables false
set_option linter.unusedSimpArgs false
open Go.ChangeShapes Go.WideShapes Go.ChangeAt Go.RowKit

theorem mem_first {c : UInt8} {l : List UInt8} (h : c ∈ l) : ∃ a b, l = a ++ c :: b ∧ c ∉ a := by
 induction l with
 | nil => cases h
 | cons x l ih =>
  by_cases e : x = c
  ·exact ⟨[], l, by rw [e]; rfl, by simp⟩
  ·obtain ⟨a, b, rfl, ha⟩ := ih (by simpa [Ne.symm e] using h); exact ⟨x :: a, b, rfl, by simp [Ne.symm e, ha]⟩
theorem splitK_cut (c : UInt8) (n : Nat) : ∀ l : List UInt8, l.length ≤ n → Lib.splitK [c] 0 (l.count c) l = cutW c [] l := by
 induction n with
 | zero =>
  intro l hl; obtain rfl := List.eq_nil_of_length_eq_zero (Nat.le_zero.1 hl)
  rfl
 | succ n ih =>
  intro l hl
  by_cases h : c ∈ l
  ·obtain ⟨a, b, rfl, ha⟩ := mem_first h; have hi : Lib.index (a ++ c :: b) [c] = (a.length : Nat) := by rw [Lib.index_one, indexByte_at ha]
   have hc : (a ++ c :: b).count c = b.count c + 1 := by
    rw [List.count_append, List.count_cons_self, List.count_eq_zero_of_not_mem ha]; omega
   rw [hc, Lib.splitK, hi, if_neg (by simp), cutW_sep ha, Int.toNat_natCast]; simp only [Nat.add_zero, List.take_left, List.nil_append, List.length_cons, List.length_nil]; rw [show (a ++ c :: b).drop (a.length + (0 + 1)) = b by rw [← List.drop_drop, List.drop_left]; rfl]; rw [ih b (by simp at hl; omega)]
  ·rw [cutW_plain h, List.count_eq_zero_of_not_mem h]
   first | done | rfl
set_option maxRecDepth 100000 in
theorem split_sp (s : ByteArray) (w : World) (hs : s.size < 4294967281) :
  Calls Tryz.prog 194 #[.string s, .string ⟨#[32]⟩] w fun e w' => e = .returned (.slice (some ⟨w.heap.size, 0, none⟩) (cutW 32 [] s.data.toList).length (cutW 32 [] s.data.toList).length) ∧
   w' = w.alloc (.cells ((cutW 32 [] s.data.toList).map fun l => Value.string ⟨l.toArray⟩).toArray 9) := by
 have h1 : 1 ≤ (⟨#[32]⟩ : ByteArray).size := by decide
 have hle := Lib.countB_le ⟨#[32]⟩ h1 s.size s (Nat.le_refl _); have hlen := Lib.splitB_all ⟨#[32]⟩ h1 0 _ s rfl; have hcb : Lib.countB s ⟨#[32]⟩ = s.data.toList.count 32 := Lib.count_one 32 s.data.toList
 have hsp : (Lib.splitB ⟨#[32]⟩ 0 (Lib.countB s ⟨#[32]⟩) s).map (·.data.toList) = cutW 32 [] s.data.toList := by
  rw [Lib.splitB_data, hcb]; exact splitK_cut 32 _ _ (Nat.le_refl _)
 have c := Any.strings_genSplit_core Tryz.lays221 (by kernel_rfl) s ⟨#[32]⟩ 0 (-1) (Lib.countB s ⟨#[32]⟩ + 1) w hs h1 (Nat.zero_le _)
  (fun x c hx => (Tryz.strings_Index_one x 32 _).mono fun e w' ⟨he, hw⟩ => ⟨by rw [he]; show _ = Ending.returned (Value.int .i64 (Lib.index x.data.toList [32])); rw [Lib.index_one], hw⟩)
  ((Tryz.strings_Count_one s 32 w).mono fun e w' ⟨he, hw⟩ => ⟨by rw [he, hcb]; rfl, hw⟩)
  (by decide) (by decide) (by rw [if_pos (by decide)]; omega)
 rw [Nat.add_sub_cancel, hlen] at c; have e2 : Lib.cellsOf (Lib.splitB ⟨#[32]⟩ 0 (Lib.countB s ⟨#[32]⟩) s) (Lib.countB s ⟨#[32]⟩ + 1) = ((Lib.splitB ⟨#[32]⟩ 0 (Lib.countB s ⟨#[32]⟩) s).map Value.string).toArray := by rw [← hlen]; exact Lib.cellsOf_full _
 have e3 : (Lib.splitB ⟨#[32]⟩ 0 (Lib.countB s ⟨#[32]⟩) s).map Value.string = (cutW 32 [] s.data.toList).map fun l => Value.string ⟨l.toArray⟩ := by
  rw [← hsp, List.map_map]
  rfl
 have e4 : Lib.countB s ⟨#[32]⟩ + 1 = (cutW 32 [] s.data.toList).length := by rw [← hsp, List.length_map, hlen]
 rw [e2, e3, e4] at c; obtain ⟨m, hm⟩ : ∃ m, (cutW 32 [] s.data.toList).length = m := ⟨_, rfl⟩; obtain ⟨cs, hcs⟩ : ∃ cs, ((cutW 32 [] s.data.toList).map fun l => Value.string ⟨l.toArray⟩).toArray = cs := ⟨_, rfl⟩; rw [hm, hcs] at c ⊢
 have C := Lib.hid c; clear c e2 e3 e4 hsp hcb hlen hle hm hcs; go_enter Tryz.func194, Tryz.ntmps194
 go_wp2_with fail
 refine C.out.mono ?_; rintro e w' ⟨rfl, rfl⟩; go_wp2; go_ret; exact ⟨rfl, rfl⟩
def PowTab (w : World) : Prop := Lib.TabIs Tryz.prog w "internal/strconv.uint64pow10" .u64 Lib.pow10Tab
theorem PowTab.up {w w' : World} (h : PowTab w) (hb : Below w.heap.size w w') : PowTab w' := Lib.tabBelow_of_tabIs h w' hb
theorem decDigits_dec (n : Nat) : Lib.decDigits n = decT n := by
 induction n using Nat.strongRecOn with
 | _ n ih =>
  by_cases h : n < 10
  ·rw [Lib.decDigits_one h, decT_small h]; rfl
  ·rw [Lib.decDigits, dif_neg h, decT_great h, ih (n / 10) (by omega)]; rfl
theorem itoa_dec (n : Nat) (hn : n < 100000000000) (w : World) (h : PowTab w) :
  Calls Tryz.prog 95 #[.int .i64 (n : Int)] w fun e w' => e = .returned (.string ⟨(decT n).toArray⟩) ∧ Below w.heap.size w w' :=
 (Tryz.strconv_Itoa (n : Int) (by omega) (by omega) w h).mono fun e w' ⟨he, k, os, hw⟩ => by
  refine ⟨?_, ?_⟩
  ·rw [he]
   unfold Lib.itoa
   rw [if_neg (by omega), Int.toNat_natCast, decDigits_dec]
  ·subst hw; exact Lib.below_grow _ w (Nat.le_refl _) k os
end Go.Proofs.YtkmcengmglgdeaaGreatDoor


namespace Go.Proofs.YtkmcengmglgdeaaGreatDoor
set_option linter.unusedVariables false
set_option linter.unusedSimpArgs false
open Go.ChangeShapes Go.WideShapes Go.ChangeAt Go.RowKit

set_option maxRecDepth 100000 in
theorem statesNext_out (v : Value) (t : TaskD) (z : Int) (w : World) (h : RdT w w.heap.size v t) (hok : taskOk t = true) (hz : ¬ (0 ≤ z ∧ z ≤ 4294967295)) :
  Calls Tryz.prog 160 #[v, .int .i64 z] w fun e w' => e = .returned (.int .i64 (-1)) ∧ Below w.heap.size w w' := by
 have h' := h; obtain ⟨G, gn, gc, G', n', c', rfl, hg, hgs, hds, hst⟩ := h; have HS0 := Lib.hid ((St.refl w).alloc #[.int .i64 t.start, .slice G gn gc, .slice G' n' c'] 26); have HT := Lib.hid h'; have HOK := Lib.hid hok; clear h' hok hg hds; go_enter Tryz.func160, Tryz.ntmps160
 go_wp2_with fail
 refine (taskValid_spec _ t _ (HT.out.up HS0.out.below)).mono ?_; rw [HOK.out]; rintro e w1 ⟨rfl, hb1⟩; have HB := Lib.hid (HS0.out.quiet hb1).below; clear hb1
 go_wp2_with fail
 refine (l1In_no z 0 4294967295 _ hz).mono ?_; rintro e w2 ⟨rfl, rfl⟩; go_wp2; go_ret; exact ⟨rfl, HB.out⟩
set_option maxRecDepth 100000 in
set_option maxHeartbeats 2000000 in
theorem closedOk_spec (v : Value) (t : TaskD) (z : Int) (w : World) (h : RdT w w.heap.size v t) (hok : taskOk t = true) :
  Calls Tryz.prog 129 #[v, .int .i64 z] w fun e w' => e = .returned (.bool (closedOk t z)) ∧ Below w.heap.size w w' := by
 have h' := h; obtain ⟨G, gn, gc, G', n', c', rfl, hg, hgs, hds, hst⟩ := h; have HS0 := Lib.hid ((St.refl w).alloc #[.int .i64 t.start, .slice G gn gc, .slice G' n' c'] 26); have HT := Lib.hid h'; have HG := Lib.hid hg; have HGN := Lib.hid hgs; have HOK := Lib.hid hok; obtain ⟨hs01, hgok, -, -⟩ := taskOk_parts t hok; have HTR := Bx.mk (codeTruth_yes t.goal hgok); obtain ⟨st, hst'⟩ : ∃ x, t.start = x := ⟨_, rfl⟩; rw [hst'] at hs01 HT HS0 ⊢
 obtain ⟨s0, rfl⟩ := Int.eq_ofNat_of_zero_le hs01.1; have hs32 : s0 < 32 := by omega
 have HSN : Hid (t.start.toNat = s0) := Lib.hid (by rw [hst']; simp); have q0 := HS0.out.cells 0 rfl; clear h' hok hg hds hgok hst' hs01 hst hgs
 by_cases hz : 0 ≤ z ∧ z < 4294967296
 case neg =>
  have HF := Bx.mk (closed_range (t := t) hz); go_enter Tryz.func129, Tryz.ntmps129
  go_wp2_with fail
  refine (statesNext_out _ t z _ (HT.out.up HS0.out.below) HOK.out (by omega)).mono ?_; rintro e w1 ⟨rfl, hb1⟩; have HB := Lib.hid (HS0.out.quiet hb1).below; clear hb1 q0 hz; go_wp2; go_ret; exact ⟨by rw [HF.out]; rfl, HB.out⟩
 obtain ⟨M, rfl⟩ := Int.eq_ofNat_of_zero_le hz.1; have hM : M < 4294967296 := by omega
 have HIFF := Lib.hid (closed_iff (t := t) HOK.out hM); have HNX := Lib.hid (clos_next_iff (t := t) HOK.out hM); rw [HSN.out] at HIFF; obtain ⟨N1, hN1⟩ : ∃ N, mset (fwdP t.deeds (setP M)) 32 = N := ⟨_, rfl⟩; have hN1b : N1 < 4294967296 := by rw [← hN1]; exact mset32_lt _
 have HN1 := Bx.mk hN1; rw [hN1] at HNX; obtain ⟨N0, hN0⟩ : ∃ N, truthN t.goal = N := ⟨_, rfl⟩; have hN32 : N0 < 4294967296 := by rw [← hN0]; exact mset32_lt _
 rw [hN0] at HTR HIFF; clear hN0 hz hN1; go_enter Tryz.func129, Tryz.ntmps129
 go_wp2_with fail
 refine (statesNext_spec _ t M _ (HT.out.up HS0.out.below) HOK.out hM).mono ?_; rw [HN1.out]; rintro e w1 ⟨rfl, hb1⟩; have HS1 := Lib.hid (HS0.out.quiet hb1); clear hb1 q0 HS0; have q1 := HS1.out.cells 0 rfl; have hge : (0 : Int) ≤ (N1 : Int) := by omega
 go_wp2_with fail
 refine (l1Bit_nat M s0 (by omega) _).mono ?_
 by_cases hb1 : bit M s0 = 1
 case neg =>
  have hb0 : bit M s0 = 0 := by have := bit_lt M s0; omega
  have HF : Hid (closedOk t (M : Int) = false) := Lib.hid (by
   cases hc : closedOk t (M : Int) with
   | false => rfl
   | true => exact absurd (HIFF.out.1 hc).1 hb1)
  rw [hb0]; rintro e w2 ⟨rfl, rfl⟩; clear hb1 hb0; go_wp2; go_ret; exact ⟨by rw [HF.out]; rfl, HS1.out.below⟩
 rw [hb1]; rintro e w2 ⟨rfl, rfl⟩
 go_wp2_with fail
 refine (l1Both_nat N1 M (by omega) _).mono ?_
 by_cases hc : N1 &&& M = N1
 case neg =>
  have HF : Hid (closedOk t (M : Int) = false) := Lib.hid (by
   cases h : closedOk t (M : Int) with
   | false => rfl
   | true => exact absurd (HNX.out.2 (HIFF.out.1 h).2.2) hc)
  have hne : ((((N1 &&& M : Nat) : Int)) == (N1 : Int)) = false := beq_false_of_ne (by omega)
  generalize N1 &&& M = A at hne hc ⊢
  rintro e w2 ⟨rfl, rfl⟩; clear hc hb1; go_wp2; go_ret; exact ⟨by rw [HF.out]; rfl, HS1.out.below⟩
 rw [hc]; rintro e w2 ⟨rfl, rfl⟩
 go_wp2_with fail
 refine (codeTruth_spec G gn gc t.goal _ (HG.out.up HS1.out.below) HGN.out).mono ?_; rw [HTR.out]; rintro e w3 ⟨rfl, hb3⟩; have HS3 := Lib.hid (HS1.out.quiet hb3); clear hb3 q1 HS1
 go_wp2_with fail
 refine (l1Both_nat M N0 (by omega) _).mono ?_
 by_cases ha : M &&& N0 = 0
 ·have HF : Hid (closedOk t (M : Int) = true) := Lib.hid (HIFF.out.2 ⟨hb1, ha, HNX.out.1 hc⟩); rw [ha]; rintro e w4 ⟨rfl, rfl⟩; clear ha hb1 hc; go_wp2; go_ret; exact ⟨by rw [HF.out]; rfl, HS3.out.below⟩
 ·have HF : Hid (closedOk t (M : Int) = false) := Lib.hid (by
   cases h : closedOk t (M : Int) with
   | false => rfl
   | true => exact absurd (HIFF.out.1 h).2.1 ha)
  have hne : ((((M &&& N0 : Nat) : Int)) == 0) = false := beq_false_of_ne (by omega)
  generalize M &&& N0 = A at hne ha ⊢
  rintro e w4 ⟨rfl, rfl⟩; clear ha hb1 hc; go_wp2; go_ret; exact ⟨by rw [HF.out]; rfl, HS3.out.below⟩
set_option maxRecDepth 100000 in
set_option maxHeartbeats 1000000 in
theorem planOk_spec (v : Value) (t : TaskD) (A : Option Addr) (n c : Nat) (p : List Int) (w : World) (h : RdT w w.heap.size v t) (hp : RdI .i64 w w.heap.size A n c p) (hok : taskOk t = true) :
  Calls Tryz.prog 128 #[v, .slice A n c] w fun e w' => e = .returned (.bool (planOk t p)) ∧ Below w.heap.size w w' := by
 have h' := h; obtain ⟨G, gn, gc, G', n', c', rfl, hg, hgs, hds, hst⟩ := h; have HS0 := Lib.hid ((St.refl w).alloc #[.int .i64 t.start, .slice G gn gc, .slice G' n' c'] 26); have HT := Lib.hid h'; have HG := Lib.hid hg; have HPL := Lib.hid hp; have HGO := Lib.hid (taskOk_parts t hok).2.1; have q0 := HS0.out.cells 0 rfl; obtain ⟨z, hz⟩ : ∃ z, planRun t t.start p = z := ⟨_, rfl⟩; have HZ := Bx.mk hz; have HP : Hid (planOk t p = (decide (0 ≤ z) && evalCode t.goal z.toNat)) := Lib.hid (by unfold planOk; rw [hz]); have HZB : Hid (0 ≤ z → z < 32) := Lib.hid (fun h0 => by have := ((planRun_bd t t.start p).1 (by rw [hz]; exact h0)).2.2.2; rwa [hz] at this); clear h' hok hg hds hst hp hz; go_enter Tryz.func128, Tryz.ntmps128
 go_wp2_with fail
 refine (planRun_spec _ t _ A n c p _ (HT.out.up HS0.out.below) (HPL.out.up HS0.out.below)).mono ?_; rw [HZ.out]; rintro e w1 ⟨rfl, hb1⟩; have HS1 := Lib.hid (HS0.out.quiet hb1); clear hb1 q0 HS0; have q1 := HS1.out.cells 0 rfl
 by_cases h0 : 0 ≤ z
 ·obtain ⟨s, rfl⟩ := Int.eq_ofNat_of_zero_le h0; have hs : s < 32 := by have := HZB.out h0; omega
  have HF : Hid (planOk t p = evalCode t.goal s) := Lib.hid (by rw [HP.out, decide_eq_true h0, Int.toNat_natCast]; rfl); obtain ⟨gb, hgb⟩ : ∃ b, evalCode t.goal s = b := ⟨_, rfl⟩; rw [hgb] at HF; have HGB := Bx.mk hgb; clear hgb
  go_wp2_with fail
  refine (l5Run_any G gn gc t.goal s _ (HG.out.up HS1.out.below) HGO.out hs).mono ?_; rw [HGB.out]; rintro e w2 ⟨rfl, hb2⟩; have HS2 := Lib.hid (HS1.out.quiet hb2); clear hb2; go_wp2; go_ret; exact ⟨by rw [HF.out]; rfl, HS2.out.below⟩
 ·have HF : Hid (planOk t p = false) := Lib.hid (by rw [HP.out, decide_eq_false h0]; rfl); go_wp2; go_ret; exact ⟨by rw [HF.out]; rfl, HS1.out.below⟩
set_option maxRecDepth 100000 in
set_option maxHeartbeats 1000000 in
theorem planOk_impl (v : Value) (t : TaskD) (A : Option Addr) (n c : Nat) (p : List Int) (w : World) (h : RdT w w.heap.size v t) (hp : RdI .i64 w w.heap.size A n c p) (hok : taskOk t = true) :
  Calls Tryz.prog 169 #[v, .slice A n c] w fun e w' => e = .returned (.bool (planOk t p)) ∧ Below w.heap.size w w' := by
 have h' := h; obtain ⟨G, gn, gc, G', n', c', rfl, hg, hgs, hds, hst⟩ := h; have HS0 := Lib.hid ((St.refl w).alloc #[.int .i64 t.start, .slice G gn gc, .slice G' n' c'] 26); have HT := Lib.hid h'; have HG := Lib.hid hg; have HPL := Lib.hid hp; have HGO := Lib.hid (taskOk_parts t hok).2.1; have q0 := HS0.out.cells 0 rfl; obtain ⟨z, hz⟩ : ∃ z, planRun t t.start p = z := ⟨_, rfl⟩; have HZ := Bx.mk hz; have HP : Hid (planOk t p = (decide (0 ≤ z) && evalCode t.goal z.toNat)) := Lib.hid (by unfold planOk; rw [hz]); have HZB : Hid (0 ≤ z → z < 32) := Lib.hid (fun h0 => by have := ((planRun_bd t t.start p).1 (by rw [hz]; exact h0)).2.2.2; rwa [hz] at this); clear h' hok hg hds hst hp hz; go_enter Tryz.func169, Tryz.ntmps169
 go_wp2_with fail
 refine (planRun_impl _ t _ A n c p _ (HT.out.up HS0.out.below) (HPL.out.up HS0.out.below)).mono ?_; rw [HZ.out]; rintro e w1 ⟨rfl, hb1⟩; have HS1 := Lib.hid (HS0.out.quiet hb1); clear hb1 q0 HS0; have q1 := HS1.out.cells 0 rfl
 by_cases h0 : 0 ≤ z
 ·obtain ⟨s, rfl⟩ := Int.eq_ofNat_of_zero_le h0; have hs : s < 32 := by have := HZB.out h0; omega
  have HF : Hid (planOk t p = codeRun t.goal (s : Int)) := Lib.hid (by
   rw [HP.out, decide_eq_true h0, Int.toNat_natCast]
   unfold codeRun
   rw [HGO.out, (stIn_iff (s : Int)).2 (by omega)]; simp)
  obtain ⟨gb, hgb⟩ : ∃ b, codeRun t.goal (s : Int) = b := ⟨_, rfl⟩; rw [hgb] at HF; have HGB := Bx.mk hgb; clear hgb
  go_wp2_with fail
  refine (codeRun_impl G gn gc t.goal (s : Int) _ (HG.out.up HS1.out.below)).mono ?_; rw [HGB.out]; rintro e w2 ⟨rfl, hb2⟩; have HS2 := Lib.hid (HS1.out.quiet hb2); clear hb2; go_wp2; go_ret; exact ⟨by rw [HF.out]; rfl, HS2.out.below⟩
 ·have HF : Hid (planOk t p = false) := Lib.hid (by rw [HP.out, decide_eq_false h0]; rfl); go_wp2; go_ret; exact ⟨by rw [HF.out]; rfl, HS1.out.below⟩
end Go.Proofs.YtkmcengmglgdeaaGreatDoor
