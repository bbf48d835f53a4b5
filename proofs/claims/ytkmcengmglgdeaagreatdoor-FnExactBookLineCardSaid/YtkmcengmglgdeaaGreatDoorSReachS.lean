/- Joined texts: ReachS, ProofT. -/
import Derived.Test.YtkmcengmglgdeaaGreatDoorSNextW
import Derived.Test.YtkmcengmglgdeaaGreatDoorSSumW
import Derived.Test.YtkmcengmglgdeaaGreatDoorSCondW
import Derived.Test.YtkmcengmglgdeaaGreatDoorSCondS
import Derived.Test.YtkmcengmglgdeaaGreatDoorSSplitW
import Derived.Test.YtkmcengmglgdeaaGreatDoorSActsH
import Derived.Test.YtkmcengmglgdeaaGreatDoorSPlanForW
import Derived.Test.YtkmcengmglgdeaaGreatDoorSPlanForS

namespace Go.Proofs.YtkmcengmglgdeaaGreatDoor
set_option linter.unusedVariables false
set_option linter.unusedSimpArgs false
set_option maxRecDepth 100000
set_option maxHeartbeats 8000000
open Go.ChangeShapes Go.WideShapes Go.ChangeAt Go.RowKit
theorem reached_spec (v : Value) (t : TaskD) (w : World) (h : RdT w w.heap.size v t) (hok : taskOk t = true) :
  Calls Tryz.prog 106 #[v] w fun e w' => e = .returned (.int .i64 (mset (fwd t.deeds (only t.start.toNat) 32) 32 : Nat)) ∧ Below w.heap.size w w' := by
 have h' := h; obtain ⟨G, gn, gc, G', n', c', rfl, hg, hgs, hds, hst⟩ := h; have HT := Lib.hid h'; have HOK := Lib.hid hok; have HS0 := Lib.hid ((St.refl w).alloc #[.int .i64 t.start, .slice G gn gc, .slice G' n' c'] 26); have hs01 := (taskOk_parts t hok).1; obtain ⟨st, hst'⟩ : ∃ x, t.start = x := ⟨_, rfl⟩; rw [hst'] at hs01 HT HS0 ⊢
 obtain ⟨s0, rfl⟩ := Int.eq_ofNat_of_zero_le hs01.1; have hs32 : s0 < 32 := by omega
 rw [Int.toNat_natCast]; have hpw0 := wrap_pow s0 (by omega); have hpwi : IntKind.i64.wrap ((2 : Int) ^ s0) = 2 ^ s0 := IntWalk.i64_in _ (by have := pow_le_int s0 31 (by omega); have : (0 : Int) < 2 ^ s0 := Int.pow_pos (by omega); omega); obtain ⟨R, hR⟩ : ∃ R, mset (fwd t.deeds (only s0) 32) 32 = R := ⟨_, rfl⟩; have HR := Bx.mk hR; rw [hR]
 have hP0 : (2 : Int) ^ s0 = ((mset (fwd t.deeds (only s0) 0) 32 : Nat) : Int) := by
  rw [show mset (fwd t.deeds (only s0) 0) 32 = mset (only s0) 32 from rfl, mset_only hs32]; simp
 have HP0 := Lib.hid hP0; clear h' hg hgs hds hst hok hst' hs01 hR hP0; go_enter Tryz.func106, Tryz.ntmps106
 go_wp2_with fail
 refine (taskValid_spec _ t _ (HT.out.up HS0.out.below)).mono ?_; rw [HOK.out]; rintro e w1 ⟨rfl, hb1⟩; have HS1 := Lib.hid (HS0.out.quiet hb1); clear hb1 HS0; have q1 := HS1.out.cells 0 rfl; go_wp2
 try rw [HP0.out]
 clear hpw0 hpwi
 go_loopw [3] (fun sv wr => ∃ m M : Nat, m ≤ 32 ∧ sv = .int .i64 M ∧ Bx (M = mset (fwd t.deeds (only s0) m) 32) ∧ Bx (m ≤ cnt (fwd t.deeds (only s0) m) 32) ∧ M < 4294967296 ∧ St w wr [rBlk w.heap.size 26 #[.int .i64 (s0 : Int), .slice G gn gc, .slice G' n' c']]) (fun sv _ => 4294967296 - (intOf sv).toNat)
 case atStart => exact ⟨0, _, by omega, rfl, Bx.mk rfl, Bx.mk (Nat.zero_le _), mset32_lt _, HS1.out⟩
 case round =>
  clear HS1 q1; obtain ⟨m, M, hm, rfl, HM, HC, hM, S⟩ := hrel; have HS := Lib.hid S; clear S; have q1 := HS.out.cells 0 rfl
  go_wp2_with fail
  refine (statesNext_spec _ t M _ (HT.out.up HS.out.below) HOK.out hM).mono ?_; obtain ⟨N, hN⟩ : ∃ N, mset (fwdP t.deeds (setP M)) 32 = N := ⟨_, rfl⟩; have hNl : N < 4294967296 := by rw [← hN]; exact mset32_lt _
  obtain ⟨M2, hM2⟩ : ∃ M2, mset (fwd t.deeds (only s0) (m + 1)) 32 = M2 := ⟨_, rfl⟩; have HOR : Bx (M ||| N = M2) := Bx.mk (by rw [← hM2, ← hN, HM.out, fwd_set, mset_or]; rfl); have hle : M ≤ M2 := by rw [← hM2, HM.out]; exact fwd_le
  have hM2l : M2 < 4294967296 := by rw [← hM2]; exact mset32_lt _
  have HM2 := Bx.mk hM2; rw [hN]; rintro e w3 ⟨rfl, hb3⟩; have HS3 := Lib.hid (HS.out.quiet hb3); clear hb3 hN hM2 q1
  go_wp2_with fail
  refine (l1Either_any (M : Int) (N : Int) (by omega) (by omega) (by omega) (by omega) _).mono ?_; rw [Int.toNat_natCast, Int.toNat_natCast, HOR.out]; rintro e w4 ⟨rfl, rfl⟩
  by_cases he : M2 = M
  ·have HF : Bx (M = R) := Bx.mk (by
    rw [← HR.out, HM.out]
    exact fwd_end hm (by rw [HM2.out, ← HM.out]; exact he))
   subst he; go_wp2; go_ret; exact ⟨ret_int (by rw [HF.out]), HS3.out.below⟩
  ·have hne : ((M2 : Int) == (M : Int)) = false := by simp; omega
   have HC2 : Bx (m + 1 ≤ cnt (fwd t.deeds (only s0) (m + 1)) 32) := Bx.mk (fwd_grow (by rw [HM2.out, ← HM.out]; exact he) HC.out); have hm2 : m + 1 ≤ 32 := by have := cnt_le (fwd t.deeds (only s0) (m + 1)) 32; have := HC2.out; omega
   have hlt : M < M2 := by omega
   clear he hle; go_wp2
   go_roundw
   case rel => exact ⟨m + 1, M2, hm2, rfl, Bx.mk HM2.out.symm, HC2, hM2l, HS3.out⟩
   case measure => simp [intOf]; omega
theorem planT_nil : planT [] = planW := by simp [planT]
theorem planT_snoc {p : List Int} {k : Nat} {x : Int} (h : p[k]? = some x) : planT (p.take (k + 1)) = planT (p.take k) ++ 32 :: decT x.toNat := by
 unfold planT
 rw [List.take_add_one, h]
 simp
theorem planT_len {p : List Int} (h : ∀ x ∈ p, 0 ≤ x ∧ x < 6) : (planT p).length ≤ 4 + 3 * p.length := by
 unfold planT
 rw [List.length_append]
 have : (p.flatMap fun k => 32 :: decT k.toNat).length ≤ 3 * p.length := by
  induction p with
  | nil => simp
  | cons z p ih =>
   have h3 := decT_len 1 z.toNat (by have := h z (List.mem_cons_self ..); omega)
   have := ih fun x hx => h x (List.mem_cons_of_mem _ hx)
   simp only [List.flatMap_cons, List.length_append, List.length_cons]; omega
 have e : planW.length = 4 := rfl
 omega
theorem proofT_plan {t : TaskD} {p : List Int} (hok : taskOk t = true) (h : planFor t = some p) : proofT t = planT p := by unfold proofT; rw [if_pos hok, h]
theorem proofT_sum {t : TaskD} {f : Nat} (hok : taskOk t = true) (h : planFor t = none) (hs : sumFor t = some f) : proofT t = sumW ++ 32 :: letT f := by unfold proofT; rw [if_pos hok, h, hs]
theorem proofT_closed {t : TaskD} (hok : taskOk t = true) (h : planFor t = none) (hs : sumFor t = none) : proofT t = closedW ++ 32 :: decT (mset (fwd t.deeds (only t.start.toNat) 32) 32) := by unfold proofT; rw [if_pos hok, h, hs]
theorem sum_cat (l : List UInt8) : (⟨#[115, 117, 109, 32]⟩ ++ ⟨l.toArray⟩ : ByteArray) = ⟨(sumW ++ 32 :: l).toArray⟩ := by
 rw [show (⟨#[115, 117, 109, 32]⟩ : ByteArray) = ⟨[115, 117, 109, 32].toArray⟩ from rfl, ba_app]; rfl
theorem closed_cat (l : List UInt8) : (⟨#[99, 108, 111, 115, 101, 100, 32]⟩ ++ ⟨l.toArray⟩ : ByteArray) = ⟨(closedW ++ 32 :: l).toArray⟩ := by
 rw [show (⟨#[99, 108, 111, 115, 101, 100, 32]⟩ : ByteArray) = ⟨[99, 108, 111, 115, 101, 100, 32].toArray⟩ from rfl, ba_app]; rfl
theorem sumFor_lt {t : TaskD} {f : Nat} (h : sumFor t = some f) : f < 32 := by simpa using List.mem_of_find?_eq_some h
theorem proofText_impl (v : Value) (t : TaskD) (w : World) (h : RdT w w.heap.size v t) (hok : taskOk t = true) (hp : PowTab w) :
  Calls Tryz.prog 117 #[v] w fun e w' => e = .returned (.string ⟨(proofT t).toArray⟩) ∧ Below w.heap.size w w' := by
 have h' := h; obtain ⟨G, gn, gc, G', n', c', rfl, hg, hgs, hds, hst⟩ := h; have HS0 := Lib.hid ((St.refl w).alloc #[.int .i64 t.start, .slice G gn gc, .slice G' n' c'] 26); have HT := Lib.hid h'; have HOK := Lib.hid hok; have HPW := Lib.hid hp; obtain ⟨o, ho⟩ : ∃ o, planFor t = o := ⟨_, rfl⟩; have HO := Bx.mk ho; clear h' hg hds hst hok ho hp; go_enter Tryz.func117, Tryz.ntmps117
 go_wp2_with fail
 refine (taskValid_impl _ t _ (HT.out.up HS0.out.below)).mono ?_; rw [HOK.out]; rintro e w1 ⟨rfl, hb1⟩; have HS1 := Lib.hid (HS0.out.quiet hb1); clear hb1 HS0; have q1 := HS1.out.cells 0 rfl
 go_wp2_with fail
 refine (planFor_impl _ t _ (HT.out.up HS1.out.below)).mono ?_; rw [HO.out]; rintro e w2 ⟨v2, rfl, s2⟩; obtain ⟨PA, pc, hv2, hrd⟩ := s2.rdI 0 rfl; subst hv2; have HS2 := Lib.hid (HS1.out.quiet s2.below); have HRD := Lib.hid hrd; clear s2 hrd HS1 q1; have q2 := HS2.out.cells 0 rfl
 cases o with
 | some p =>
  simp only [Option.getD_some, Option.isSome_some] at HRD ⊢
  have HPS := Lib.hid (planFor_small HO.out); have hp31 : p.length ≤ 31 := (planFor_run HO.out).1; have HPT := Bx.mk (proofT_plan HOK.out HO.out); obtain ⟨n, hn⟩ : ∃ n, p.length = n := ⟨_, rfl⟩; rw [hn] at HRD hp31 ⊢
  have HN := Lib.hid hn; obtain ⟨b, hb⟩ : ∃ b, w2.heap.size = b := ⟨_, rfl⟩; have HT0 : Hid (TS w2 b [] [] (w2.alloc (.cells #[.pointer none, .slice none 0 0] 117))) := Lib.hid (by rw [← hb]; exact TS.new0 w2); have HB2 := Lib.hid HS2.out.below; clear hn HS2
  go_wp2_with fail
  try rw [hb]
  refine (HT0.out.ws _ planW rfl (by decide)).mono ?_; rintro e w3 ⟨rfl, h3⟩; have HT3 : Hid (TS w2 b (planT (p.take 0)) [] w3) := Lib.hid (by rw [List.take_zero, planT_nil]; exact h3); clear h3 HT0 hb q2; go_wp2
  go_loopw [22] (fun i wr => ∃ k : Nat, k ≤ n ∧ i = .int .i64 (k : Int) ∧ Hid (TS w2 b (planT (p.take k)) [] wr)) (fun i _ => n - (intOf i).toNat)
  case atStart => exact ⟨0, by omega, rfl, HT3⟩
  case round =>
   clear HT3; obtain ⟨k, hk, rfl, HTB⟩ := hrel
   by_cases hlt : k < n
   ·obtain ⟨db, off, x, rfl, hdb, hxx, hw, hc⟩ := (HRD.out.up HTB.out.below).get hlt; have hxm := HPS.out x (List.mem_of_getElem? hxx); obtain ⟨x, rfl⟩ := Int.eq_ofNat_of_zero_le hxm.1; have hx100 : x < 100 := by omega
    have HZ := Lib.hid (show (planT (p.take k)).length ≤ 200 by
     have h1 := planT_len (p := p.take k) fun x hx => HPS.out x (List.mem_of_mem_take hx)
     have : (p.take k).length ≤ k := List.length_take_le _ _
     omega)
    have HN2 := Lib.hid (num2_len x).2; have HSN : Hid (planT (p.take (k + 1)) = planT (p.take k) ++ 32 :: num2 x) := Lib.hid (by rw [planT_snoc hxx, Int.toNat_natCast, decT_100 hx100]); clear hw hxx hxm hdb
    go_wp2_with fail
    refine (HTB.out.wb 32 (by have := HZ.out; omega)).mono ?_; rintro e w4 ⟨rfl, h4⟩; have HT4 := Lib.hid h4; clear h4 hc
    go_wp2_with fail
    refine (itoa_small x hx100 _).mono ?_; rintro e w5 ⟨rfl, rfl⟩
    go_wp2_with fail
    refine (HT4.out.ws _ (num2 x) rfl (by have := HZ.out; have := HN2.out; simp only [List.length_append, List.length_cons, List.length_nil]; omega)).mono ?_; rintro e w6 ⟨rfl, h6⟩; have HT6 : Hid (TS w2 b (planT (p.take (k + 1))) [] w6) := Lib.hid (by rw [HSN.out]; simpa using h6); clear h6 HT4 HTB; go_wp2
    go_roundw
    case rel => exact ⟨k + 1, by omega, by go_num, HT6⟩
    case measure => simp [intOf]; omega
   ·have hke : k = n := by omega
    have HE : Hid (proofT t = planT (p.take k)) := Lib.hid (by rw [HPT.out, hke, ← HN.out, List.take_length]); clear hke
    go_wp2_with fail
    refine HTB.out.done.mono ?_; rintro e w4 ⟨rfl, hb4⟩; have HB := Lib.hid (HB2.out.trans (hb4.mono HB2.out.size)); clear hb4; go_wp2; go_ret; exact ⟨ret_ba (by rw [HE.out]), HB.out⟩
 | none =>
  simp only [Option.getD_none, Option.isSome_none] at HRD ⊢
  obtain ⟨u, hu⟩ : ∃ u, sumFor t = u := ⟨_, rfl⟩; have HU := Bx.mk hu; clear hu HRD
  go_wp2_with fail
  refine (sumFor_impl _ t _ (HT.out.up HS2.out.below) HOK.out).mono ?_; rw [HU.out]; rintro e w3 ⟨rfl, hb3⟩; have HS3 := Lib.hid (HS2.out.quiet hb3); clear hb3 q2 HS2; have q3 := HS3.out.cells 0 rfl
  cases u with
  | some f =>
   simp only [Option.isSome_some, opt]; have hf32 := sumFor_lt HU.out; obtain ⟨SF, hSF⟩ : ∃ x : ByteArray, (⟨(letT f).toArray⟩ : ByteArray) = x := ⟨_, rfl⟩; have hz : ¬ 9223372036854775807 < 4 + SF.size := by rw [← hSF, sz_list]; have := letT_len f; omega
   have HV : Hid (⟨#[115, 117, 109, 32]⟩ ++ SF = ⟨(proofT t).toArray⟩) := Lib.hid (by rw [proofT_sum HOK.out HO.out HU.out, ← hSF]; exact sum_cat _); have HSF := Bx.mk hSF; clear hSF
   go_wp2_with fail
   refine (factLetters_any f hf32 _).mono ?_; rw [HSF.out]; rintro e w4 ⟨rfl, hb4⟩; have HB := Lib.hid (HS3.out.quiet hb4).below; clear hb4; go_wp2; go_ret; exact ⟨ret_ba HV.out, HB.out⟩
  | none =>
   simp only [Option.isSome_none, opt]; obtain ⟨R, hR⟩ : ∃ R, mset (fwd t.deeds (only t.start.toNat) 32) 32 = R := ⟨_, rfl⟩; have hRl : R < 4294967296 := by rw [← hR]; exact mset32_lt _
   have HRC : Hid (reached t = (R : Int)) := Lib.hid (by unfold reached; rw [if_pos HOK.out, hR]); obtain ⟨SF, hSF⟩ : ∃ x : ByteArray, (⟨(decT R).toArray⟩ : ByteArray) = x := ⟨_, rfl⟩; have hz : ¬ 9223372036854775807 < 7 + SF.size := by rw [← hSF, sz_list]; have := decT_len 9 R (by omega); omega
   have HV : Hid (⟨#[99, 108, 111, 115, 101, 100, 32]⟩ ++ SF = ⟨(proofT t).toArray⟩) := Lib.hid (by rw [proofT_closed HOK.out HO.out HU.out, ← hSF, hR]; exact closed_cat _); have HSF := Bx.mk hSF; clear hSF hR
   go_wp2_with fail
   refine (reached_impl _ t _ (HT.out.up HS3.out.below)).mono ?_; rw [HRC.out]; rintro e w4 ⟨rfl, hb4⟩; have HS4 := Lib.hid (HS3.out.quiet hb4); clear hb4 q3 HS3
   go_wp2_with fail
   refine (itoa_dec R (by omega) _ (HPW.out.up HS4.out.below)).mono ?_; rw [HSF.out]; rintro e w5 ⟨rfl, hb5⟩; have HB := Lib.hid (HS4.out.quiet hb5).below; clear hb5; go_wp2; go_ret; exact ⟨ret_ba HV.out, HB.out⟩
theorem proofText_spec (v : Value) (t : TaskD) (w : World) (h : RdT w w.heap.size v t) (hok : taskOk t = true) :
  Calls Tryz.prog 44 #[v] w fun e w' => e = .returned (.string ⟨(proofT t).toArray⟩) ∧ Below w.heap.size w w' := by
 have h' := h; obtain ⟨G, gn, gc, G', n', c', rfl, hg, hgs, hds, hst⟩ := h; have HS0 := Lib.hid ((St.refl w).alloc #[.int .i64 t.start, .slice G gn gc, .slice G' n' c'] 26); have HT := Lib.hid h'; have HOK := Lib.hid hok; obtain ⟨o, ho⟩ : ∃ o, planFor t = o := ⟨_, rfl⟩; have HO := Bx.mk ho; clear h' hg hds hst hok ho; go_enter Tryz.func44, Tryz.ntmps44
 go_wp2_with fail
 refine (taskValid_spec _ t _ (HT.out.up HS0.out.below)).mono ?_; rw [HOK.out]; rintro e w1 ⟨rfl, hb1⟩; have HS1 := Lib.hid (HS0.out.quiet hb1); clear hb1 HS0; have q1 := HS1.out.cells 0 rfl
 go_wp2_with fail
 refine (planFor_spec _ t _ (HT.out.up HS1.out.below)).mono ?_; rw [HO.out]; rintro e w2 ⟨v2, rfl, s2⟩; obtain ⟨PA, pc, hv2, hrd⟩ := s2.rdI 0 rfl; subst hv2; have HS2 := Lib.hid (HS1.out.quiet s2.below); have HRD := Lib.hid hrd; clear s2 hrd HS1 q1; have q2 := HS2.out.cells 0 rfl
 cases o with
 | some p =>
  simp only [Option.getD_some, Option.isSome_some] at HRD ⊢
  have HPS := Lib.hid (planFor_small HO.out); have hp31 : p.length ≤ 31 := (planFor_run HO.out).1; have HPT := Bx.mk (proofT_plan HOK.out HO.out); obtain ⟨n, hn⟩ : ∃ n, p.length = n := ⟨_, rfl⟩; rw [hn] at HRD hp31 ⊢
  have HN := Lib.hid hn; have HB2 := Lib.hid HS2.out.below; clear hn HS2 q2; go_wp2
  go_loopw [6, 5] (fun i sv wr => ∃ (k : Nat) (q : ByteArray), k ≤ n ∧ i = .int .i64 (k : Int) ∧ sv = .string q ∧ Hid (q = ⟨(planT (p.take k)).toArray⟩) ∧ Below w2.heap.size w2 wr) (fun i _ _ => n - (intOf i).toNat)
  case atStart => exact ⟨0, _, by omega, rfl, rfl, Lib.hid (by rw [List.take_zero, planT_nil]; rfl), Below.refl _ _⟩
  case round =>
   obtain ⟨k, q, hk, rfl, rfl, HQ, hbel⟩ := hrel; have HB := Lib.hid hbel; clear hbel
   by_cases hlt : k < n
   ·obtain ⟨db, off, x, rfl, hdb, hxx, hw, hc⟩ := (HRD.out.up HB.out).get hlt; have hxm := HPS.out x (List.mem_of_getElem? hxx); obtain ⟨x, rfl⟩ := Int.eq_ofNat_of_zero_le hxm.1; have hx100 : x < 100 := by omega
    have hq : q.size ≤ 200 := by
     rw [HQ.out, sz_list]; have h1 := planT_len (p := p.take k) fun x hx => HPS.out x (List.mem_of_mem_take hx)
     have : (p.take k).length ≤ k := List.length_take_le _ _
     omega
    obtain ⟨SX, hSX⟩ : ∃ x' : ByteArray, (⟨(num2 x).toArray⟩ : ByteArray) = x' := ⟨_, rfl⟩; have hsx : SX.size ≤ 2 := by rw [← hSX, sz_list]; exact (num2_len x).2
    have hz1 : ¬ 9223372036854775807 < q.size + 1 := by omega
    have hz2 : ¬ 9223372036854775807 < q.size + 1 + SX.size := by omega
    have HQ2 : Hid (q ++ ⟨#[32]⟩ ++ SX = ⟨(planT (p.take (k + 1))).toArray⟩) := Lib.hid (by rw [planT_snoc hxx, Int.toNat_natCast, decT_100 hx100, HQ.out, ← hSX]; exact ba3S _ _ _); have HSX := Bx.mk hSX; clear hw hxx hxm hdb hSX
    go_wp2_with fail
    refine (l1Number_small x hx100 _).mono ?_; rw [HSX.out]; rintro e w5 ⟨rfl, hb5⟩; have HB5 := Lib.hid (HB.out.trans (hb5.mono HB.out.size)); clear hb5 hc; go_wp2
    go_roundw
    case rel => exact ⟨k + 1, _, by omega, by go_num, rfl, HQ2, HB5.out⟩
    case measure => simp [intOf]; omega
   ·have hke : k = n := by omega
    have HE : Hid (q = ⟨(proofT t).toArray⟩) := Lib.hid (by rw [HQ.out, HPT.out, hke, ← HN.out, List.take_length]); have HBB := Lib.hid (HB2.out.trans (HB.out.mono HB2.out.size)); clear hke HQ; go_wp2; go_ret; exact ⟨ret_ba HE.out, HBB.out⟩
 | none =>
  simp only [Option.getD_none, Option.isSome_none] at HRD ⊢
  obtain ⟨u, hu⟩ : ∃ u, sumFor t = u := ⟨_, rfl⟩; have HU := Bx.mk hu; clear hu HRD
  go_wp2_with fail
  refine (sumFor_spec _ t _ (HT.out.up HS2.out.below) HOK.out).mono ?_; rw [HU.out]; rintro e w3 ⟨rfl, hb3⟩; have HS3 := Lib.hid (HS2.out.quiet hb3); clear hb3 q2 HS2; have q3 := HS3.out.cells 0 rfl
  cases u with
  | some f =>
   simp only [Option.isSome_some, opt]; have hf32 := sumFor_lt HU.out; obtain ⟨SF, hSF⟩ : ∃ x : ByteArray, (⟨(letT f).toArray⟩ : ByteArray) = x := ⟨_, rfl⟩; have hz : ¬ 9223372036854775807 < 4 + SF.size := by rw [← hSF, sz_list]; have := letT_len f; omega
   have HV : Hid (⟨#[115, 117, 109, 32]⟩ ++ SF = ⟨(proofT t).toArray⟩) := Lib.hid (by rw [proofT_sum HOK.out HO.out HU.out, ← hSF]; exact sum_cat _); have HSF := Bx.mk hSF; clear hSF
   go_wp2_with fail
   refine (l6Letters_any f hf32 _).mono ?_; rw [HSF.out]; rintro e w4 ⟨rfl, hb4⟩; have HB := Lib.hid (HS3.out.quiet hb4).below; clear hb4; go_wp2; go_ret; exact ⟨ret_ba HV.out, HB.out⟩
  | none =>
   simp only [Option.isSome_none, opt]; obtain ⟨R, hR⟩ : ∃ R, mset (fwd t.deeds (only t.start.toNat) 32) 32 = R := ⟨_, rfl⟩; have hRl : R < 4294967296 := by rw [← hR]; exact mset32_lt _
   obtain ⟨SF, hSF⟩ : ∃ x : ByteArray, (⟨(decT R).toArray⟩ : ByteArray) = x := ⟨_, rfl⟩; have hz : ¬ 9223372036854775807 < 7 + SF.size := by rw [← hSF, sz_list]; have := decT_len 9 R (by omega); omega
   have HV : Hid (⟨#[99, 108, 111, 115, 101, 100, 32]⟩ ++ SF = ⟨(proofT t).toArray⟩) := Lib.hid (by rw [proofT_closed HOK.out HO.out HU.out, ← hSF, hR]; exact closed_cat _); have HSF := Bx.mk hSF; have HRR := Bx.mk hR; clear hSF hR
   go_wp2_with fail
   refine (reached_spec _ t _ (HT.out.up HS3.out.below) HOK.out).mono ?_; rw [HRR.out]; rintro e w4 ⟨rfl, hb4⟩; have HS4 := Lib.hid (HS3.out.quiet hb4); clear hb4 q3 HS3
   go_wp2_with fail
   refine (l1Number_dec R (by omega) _).mono ?_; rw [HSF.out]; rintro e w5 ⟨rfl, hb5⟩; have HB := Lib.hid (HS4.out.quiet hb5).below; clear hb5; go_wp2; go_ret; exact ⟨ret_ba HV.out, HB.out⟩
end Go.Proofs.YtkmcengmglgdeaaGreatDoor
