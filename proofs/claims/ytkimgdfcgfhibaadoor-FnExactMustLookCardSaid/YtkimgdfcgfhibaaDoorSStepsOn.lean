/- Joined texts: StepsOn, Reach, Count. -/
import Derived.Test.YtkimgdfcgfhibaaDoorSFwd
import Derived.Test.YtkimgdfcgfhibaaDoorSSteps
import Derived.Test.YtkimgdfcgfhibaaDoorSPlanForW
/- stepsOn of the program: for each state the least number of deeds from a state. -/
namespace Go.Proofs.YtkimgdfcgfhibaaDoor
set_option linter.unusedVariables false
set_option linter.unusedSimpArgs false
open Go.ChangeShapes Go.WideShapes Go.ChangeAt Go.RowKit

def only (s0 : Nat) : Nat → Bool := fun s => decide (s0 = s)
theorem mset_only {s0 : Nat} (h : s0 < 32) : mset (only s0) 32 = 2 ^ s0 := by
  have := mset_or_bit (fun _ => false) 32 s0 h
  rw [show mset (fun _ => false) 32 = 0 from mset_zero.2 fun _ _ => rfl, Nat.zero_or] at this
  rw [this]
  exact mset_congr fun k _ => by simp [only]
/-- the least numbers of deeds -/
def distL (ds : List DeedD) (p : Nat → Bool) : List Int := (List.range 32).map (dstV ds p)
theorem distL_len (ds : List DeedD) (p : Nat → Bool) : (distL ds p).length = 32 := by simp [distL]
theorem distL_at (ds : List DeedD) (p : Nat → Bool) (s : Nat) (h : s < 32) : (distL ds p)[s]? = some (dstV ds p s) := by simp [distL, h]
theorem fwd_set {ds : List DeedD} (p : Nat → Bool) : mset (fwdP ds (setP (mset p 32))) 32 = mset (fwdP ds p) 32 := mset_congr fun s hs => fwdP_congr (setP_mset p)
/-- what is new -/
def freshF (ds : List DeedD) (p : Nat → Bool) (m : Nat) : Nat → Bool := fun s => fwdP ds (fwd ds p m) s && !fwd ds p m s
theorem freshF_val {ds : List DeedD} {p : Nat → Bool} {m M B : Nat} (hM : M = mset (fwd ds p m) 32) (hB : B = mset (fwdP ds (fwd ds p m)) 32) : bits .andNot .i64 (B : Int) (M : Int) = ((mset (freshF ds p m) 32 : Nat) : Int) := by
  have h1 := mset32_lt (fwd ds p m)
  have h2 := mset32_lt (fwdP ds (fwd ds p m))
  rw [i64_andNot_nat _ _ (by omega) (by omega), hM, hB, mset_diff]
  rfl
theorem freshF_none {ds : List DeedD} {p : Nat → Bool} {m : Nat} (h : mset (freshF ds p m) 32 = 0) : ffixedAt ds p m := fun s hs hb => by
  have := mset_zero.1 h s hs
  unfold freshF at this
  rw [hb] at this
  simpa using this
theorem freshF_some {ds : List DeedD} {p : Nat → Bool} {m : Nat} (h : mset (freshF ds p m) 32 ≠ 0) : ¬ ffixedAt ds p m := fun hf => h (mset_zero.2 fun s hs => by
  unfold freshF
  cases hb : fwdP ds (fwd ds p m) s with
  | false => rfl
  | true => rw [hf s hs hb]; rfl)
theorem freshF_or {ds : List DeedD} {p : Nat → Bool} {m M F : Nat} (hM : M = mset (fwd ds p m) 32) (hF : F = mset (freshF ds p m) 32) : bits .or .i64 (M : Int) (F : Int) = ((mset (fwd ds p (m + 1)) 32 : Nat) : Int) := by
  have h1 := mset32_lt (fwd ds p m)
  have h2 := mset32_lt (freshF ds p m)
  have key : mset (fun s => fwd ds p m s || freshF ds p m s) 32 = mset (fwd ds p (m + 1)) 32 := mset_congr fun s hs => by
    show (fwd ds p m s || (fwdP ds (fwd ds p m) s && !fwd ds p m s)) = (fwd ds p m s || fwdP ds (fwd ds p m) s)
    generalize fwd ds p m s = a
    generalize fwdP ds (fwd ds p m) s = b
    cases a <;> cases b <;> rfl
  rw [i64_or_nat _ _ (by omega) (by omega), hM, hF, mset_or, key]
theorem freshF_yes {ds : List DeedD} {p : Nat → Bool} {m s F : Nat} (hs : s < 32) (hF : F = mset (freshF ds p m) 32) (h : bit F s = 1) : ((m : Int) + 1) = dstN ds p (m + 1) s := by
  have : freshF ds p m s = true := by rw [← bit_mset1 (freshF ds p m) hs, ← hF, h]; rfl
  unfold freshF at this
  simp only [Bool.and_eq_true, Bool.not_eq_true'] at this
  simp [dstN, this.1, this.2]
theorem freshF_no {ds : List DeedD} {p : Nat → Bool} {m s F : Nat} (hs : s < 32) (hF : F = mset (freshF ds p m) 32) (h : bit F s = 0) : dstN ds p (m + 1) s = dstN ds p m s := by
  have : freshF ds p m s = false := by rw [← bit_mset1 (freshF ds p m) hs, ← hF, h]; rfl
  unfold freshF at this
  cases hl : fwd ds p m s with
  | true => simp [dstN, hl]
  | false =>
    rw [hl] at this
    have hb : fwdP ds (fwd ds p m) s = false := by simpa using this
    rw [dstN_neg hl]
    simp [dstN, hl, hb]
theorem cnt_nextF {ds : List DeedD} {p : Nat → Bool} {m : Nat} (h : mset (freshF ds p m) 32 ≠ 0) (hc : m ≤ cnt (fwd ds p m) 32) : m + 1 ≤ cnt (fwd ds p (m + 1)) 32 := by
  have := cnt_growF (freshF_some h); omega
theorem dist_done {ds : List DeedD} {p : Nat → Bool} {m : Nat} (hd : ∀ d ∈ ds, deedOk d = true) (h : mset (freshF ds p m) 32 = 0) : (List.range 32).map (dstN ds p m) = distL ds p := by
  unfold distL
  refine List.map_congr_left fun s hs => ?_
  exact (dstV_fixed (freshF_none h) (List.mem_range.1 hs)).symm
theorem dstart_yes {ds : List DeedD} {p : Nat → Bool} {s : Nat} (hs : s < 32) (h : bit (mset p 32) s = 1) : (0 : Int) = dstN ds p 0 s := by
  have : p s = true := by rw [← bit_mset1 p hs, h]; rfl
  simp [dstN, this]
theorem dstart_no {ds : List DeedD} {p : Nat → Bool} {s : Nat} (hs : s < 32) (h : bit (mset p 32) s = 0) : (-1 : Int) = dstN ds p 0 s := by
  have : p s = false := by rw [← bit_mset1 p hs, h]; rfl
  simp [dstN, this]
set_option maxRecDepth 100000 in
set_option maxHeartbeats 1000000 in
theorem stepsOn_any (A : Option Addr) (n c : Nat) (ds : List DeedD) (s0 : Nat) (hs0 : s0 < 32) (w : World) (h : RdRow w w.heap.size 32 A n c (ints (behL ds))) (hn : ds.length = n) (hd : ∀ d ∈ ds, deedOk d = true) (hn6 : n ≤ 6) :
    Calls Tryd.prog 80 #[.slice A n c, .int .i64 s0] w (Gives w id fun v => [rInts v (distL ds (only s0))]) := by
  obtain ⟨p, hp⟩ : ∃ p, only s0 = p := ⟨_, rfl⟩
  obtain ⟨S, hS⟩ : ∃ S, S = mset p 32 := ⟨_, rfl⟩
  have hSp : (2 : Int) ^ s0 = (S : Int) := by rw [hS, ← hp, mset_only hs0]; simp
  have hpw0 := wrap_pow s0 (by omega)
  rw [hSp] at hpw0
  rw [hp]
  clear hp
  have HR := Lib.hid h
  have HL := Lib.hid hn
  have HDOK := Lib.hid hd
  have HSV := Bx.mk hS
  have hS32 : S < 4294967296 := by rw [hS]; exact mset32_lt p
  obtain ⟨i0, hi, hz0, hz1, hz2⟩ := elInt.hi
  obtain ⟨g, hg⟩ : ∃ g, w.heap.size = g := ⟨_, rfl⟩
  have HG := Lib.hid hg
  clear h hn hd hS
  go_enter Tryd.func80, Tryd.ntmps80
  go_wp2_with (at_make; refine wpList_make_full _ rfl _ _ 23 rfl w.heap.size 3 i0 _ 1 Tryd.underlying23 hi hz0 hz1 _ _ _ _ 32 rfl rfl rfl rfl (by rw [hz2]; omega) (by unfold maxLen; omega) (Nat.le_refl _) ?_; intro w2 hown hgr)
  have S2 : St w w2 [rInts (.slice (some ⟨g, 0, none⟩) 32 32) (mixF (dstN ds p 0) (fun _ => 0) 0)] := by
    refine St.of_ints (F := [g]) ⟨?_, ?_, ?_⟩ ((Below.refl _ _).grown hgr (Nat.le_refl _) (by simp))
    · have e : (madeCells (Value.int IntKind.i64 0).cells (32 * 1)).toList = ints (mixF (dstN ds p 0) (fun _ => 0) 0) := by
        show (madeCells #[Value.int IntKind.i64 0] 32).toList = _
        rw [toList_madeCells_one, mixF_zero]
        rfl
      rw [mixF_len, ← hg]
      rw [e] at hown
      exact hown
    · rw [mixF_zero]
      intro x hx
      obtain ⟨_, _, rfl⟩ := List.mem_map.1 hx
      rfl
    · rfl
  have HS2 := Lib.hid S2
  try rw [hg]
  clear hown hgr S2 hg
  go_wp2
  go_loopw [16] (fun i wr => ∃ k : Nat, k ≤ 32 ∧ i = .int .i64 k ∧ St w wr [rInts (.slice (some ⟨g, 0, none⟩) 32 32) (mixF (dstN ds p 0) (fun _ => 0) k)]) (fun i _ => 32 - (intOf i).toNat)
  case atStart => exact ⟨0, by omega, rfl, HS2.out⟩
  case round =>
    obtain ⟨k, hk, rfl, M⟩ := hrel
    have HM := Lib.hid M
    clear M HS2
    by_cases hlt : k < 32
    · obtain ⟨hc, hf⟩ := HM.out.cellI 0 rfl (mixF_len _ _ _) k 0 (mixF_here _ _ k hlt)
      have hbit := and_one S k (by omega)
      by_cases hb1 : bit S k = 1
      · have HST := Lib.hid (HM.out.storeI 0 rfl (mixF_len _ _ _) k 0 rfl)
        have HE : Hid ((0 : Int) = dstN ds p 0 k) := Lib.hid (dstart_yes hlt (by rw [← HSV.out]; exact hb1))
        rw [hb1] at hbit
        clear hb1
        go_wp2
        go_roundw
        case rel => exact ⟨k + 1, by omega, by go_num, by rw [← mixF_set _ _ k 0 HE.out]; exact HST.out⟩
        case measure => simp [intOf]; omega
      · have hb0 : bit S k = 0 := by have := bit_lt S k; omega
        have HST := Lib.hid (HM.out.storeI 0 rfl (mixF_len _ _ _) k (-1) rfl)
        have HE : Hid ((-1 : Int) = dstN ds p 0 k) := Lib.hid (dstart_no hlt (by rw [← HSV.out]; exact hb0))
        rw [hb0] at hbit
        clear hb1 hb0
        go_wp2
        go_roundw
        case rel => exact ⟨k + 1, by omega, by go_num, by rw [← mixF_set _ _ k (-1) HE.out]; exact HST.out⟩
        case measure => simp [intOf]; omega
    · have HS3 : Hid (St w wr [rInts (.slice (some ⟨g, 0, none⟩) 32 32) ((List.range 32).map (dstN ds p 0))]) := Lib.hid (by
        have := HM.out
        rw [show k = 32 by omega, mixF_all] at this
        exact this)
      clear HM
      go_wp2
      go_loopw [8, 5] (fun mv sv wr => ∃ m M : Nat, mv = .int .i64 ((m : Int) + 1) ∧ sv = .int .i64 M ∧ m ≤ 32 ∧ Hid (M = mset (fwd ds p m) 32 ∧ m ≤ cnt (fwd ds p m) 32) ∧ St w wr [rInts (.slice (some ⟨g, 0, none⟩) 32 32) ((List.range 32).map (dstN ds p m))]) (fun mv _ _ => 34 - (intOf mv).toNat)
      case atStart => exact ⟨0, S, rfl, rfl, by omega, Lib.hid ⟨HSV.out, Nat.zero_le _⟩, HS3.out⟩
      case round =>
        obtain ⟨m, M, rfl, rfl, hm, HM, MM⟩ := hrel
        have HMM := Lib.hid MM
        clear MM HS3
        have hM32 : M < 4294967296 := by rw [HM.out.1]; exact mset32_lt _
        obtain ⟨F, hF⟩ : ∃ F, mset (freshF ds p m) 32 = F := ⟨_, rfl⟩
        obtain ⟨B, hB⟩ : ∃ B, mset (fwdP ds (setP M)) 32 = B := ⟨_, rfl⟩
        have hand : bits .andNot .i64 (B : Int) (M : Int) = (F : Int) := by
          rw [freshF_val HM.out.1 (by rw [← hB, HM.out.1]; exact fwd_set _), hF]
        have hF32 : F < 4294967296 := by rw [← hF]; exact mset32_lt _
        have HF := Bx.mk hF.symm
        have HB := Bx.mk hB
        clear hF hB
        go_wp2_with fail
        refine (nextStates_any A n c ds M _ (HR.out.up HMM.out.below) HL.out HDOK.out hn6 hM32).mono ?_
        rw [HB.out]
        rintro e w3 ⟨rfl, hb3⟩
        have HM3 := Lib.hid (HMM.out.quiet hb3)
        clear hb3
        by_cases h0 : F = 0
        · have HE := Lib.hid (dist_done HDOK.out (by rw [← HF.out]; exact h0) : (List.range 32).map (dstN ds p m) = distL ds p)
          subst h0
          go_wp2
          go_ret
          exact ⟨_, rfl, by rw [← HE.out]; exact HM3.out⟩
        · obtain ⟨M2, hM2⟩ : ∃ M2, mset (fwd ds p (m + 1)) 32 = M2 := ⟨_, rfl⟩
          have hor : bits .or .i64 (M : Int) (F : Int) = (M2 : Int) := by rw [freshF_or HM.out.1 HF.out, hM2]
          have HM2 := Bx.mk hM2
          have HOR := Lib.hid hor
          have hz : ((F : Int) == 0) = false := by simp; omega
          have H0 := Lib.hid h0
          clear hM2 h0 hor
          have HNX : Hid (m + 1 ≤ cnt (fwd ds p (m + 1)) 32) := Lib.hid (cnt_nextF (by rw [← HF.out]; exact H0.out) HM.out.2)
          have HLE : Hid (m + 1 ≤ 32) := Lib.hid (by have := cnt_le (fwd ds p (m + 1)) 32; have := HNX.out; omega)
          have HM4 : Hid (St w w3 [rInts (.slice (some ⟨g, 0, none⟩) 32 32) (mixF (dstN ds p (m + 1)) (dstN ds p m) 0)]) := Lib.hid (by rw [mixF_zero]; exact HM3.out)
          clear HM3
          go_wp2
          clear hand hz
          go_loopw [40] (fun i wr => ∃ k : Nat, k ≤ 32 ∧ i = .int .i64 k ∧ St w wr [rInts (.slice (some ⟨g, 0, none⟩) 32 32) (mixF (dstN ds p (m + 1)) (dstN ds p m) k)]) (fun i _ => 32 - (intOf i).toNat)
          case atStart => exact ⟨0, by omega, rfl, HM4.out⟩
          case round =>
            obtain ⟨k, hk, rfl, M5⟩ := hrel
            have HM5 := Lib.hid M5
            clear M5 HM4
            by_cases hlt : k < 32
            · have hbit := and_one F k (by omega)
              by_cases hb1 : bit F k = 1
              · obtain ⟨hc, hf⟩ := HM5.out.cellI 0 rfl (mixF_len _ _ _) k _ (mixF_here _ _ k hlt)
                have HE := Lib.hid (freshF_yes hlt HF.out hb1)
                have HST := Lib.hid (HM5.out.storeI 0 rfl (mixF_len _ _ _) k ((m : Int) + 1) (wf_i64_mk (by omega)))
                rw [hb1] at hbit
                obtain ⟨v0, hv0⟩ : ∃ v0, dstN ds p m k = v0 := ⟨_, rfl⟩
                rw [hv0] at hc
                clear hb1 hv0
                clear hi hz0 hz1 hz2 hS32 hM32 hF32 hn6
                go_wp2
                go_roundw
                case rel => exact ⟨k + 1, by omega, by go_num, by rw [← mixF_set _ _ k _ HE.out]; exact HST.out⟩
                case measure => simp [intOf]; omega
              · have hb0 : bit F k = 0 := by have := bit_lt F k; omega
                have HE := Lib.hid (mixF_same (dstN ds p (m + 1)) (dstN ds p m) k (freshF_no hlt HF.out hb0))
                rw [hb0] at hbit
                clear hb1 hb0
                go_wp2
                go_roundw
                case rel => exact ⟨k + 1, by omega, by go_num, by rw [HE.out]; exact HM5.out⟩
                case measure => simp [intOf]; omega
            · have HM6 : Hid (St w wr [rInts (.slice (some ⟨g, 0, none⟩) 32 32) ((List.range 32).map (dstN ds p (m + 1)))]) := Lib.hid (by
                have := HM5.out
                rw [show k = 32 by omega, mixF_all] at this
                exact this)
              have hle := HLE.out
              have hor := HOR.out
              go_wp2
              go_roundw
              case rel => exact ⟨m + 1, M2, by go_num, rfl, by omega, Lib.hid ⟨HM2.out.symm, HNX.out⟩, HM6.out⟩
              case measure => simp [intOf]; omega
end Go.Proofs.YtkimgdfcgfhibaaDoor

/- Reached, LeadsTo, StepsLeast, StepsFrom and DeedDo of the program. Printed by gen_reach.py. -/
namespace Go.Proofs.YtkimgdfcgfhibaaDoor
set_option linter.unusedVariables false
set_option linter.unusedSimpArgs false
open Go.ChangeShapes Go.WideShapes Go.ChangeAt Go.RowKit

def reached (t : TaskD) : Int := if taskOk t then (mset (fwd t.deeds (only t.start.toNat) 32) 32 : Nat) else -1
def leadsTo (t : TaskD) : Int := if taskOk t then (mset (layer t.deeds (evalCode t.goal) 32) 32 : Nat) else -1
def stepsLeast (t : TaskD) : List Int := if taskOk t then stepsL t.deeds (evalCode t.goal) else []
theorem stepsLeast_no (t : TaskD) (h : taskOk t = false) : stepsLeast t = [] := if_neg (by rw [h]; simp)
theorem stepsLeast_yes (t : TaskD) (h : taskOk t = true) (s : Nat) (hs : t.start = (s : Int)) : stepsLeast t = stepsL t.deeds (evalCode t.goal) := if_pos h
def stepsFrom (t : TaskD) : List Int := if taskOk t then distL t.deeds (only t.start.toNat) else []
theorem stepsFrom_no (t : TaskD) (h : taskOk t = false) : stepsFrom t = [] := if_neg (by rw [h]; simp)
theorem stepsFrom_yes (t : TaskD) (h : taskOk t = true) (s : Nat) (hs : t.start = (s : Int)) : stepsFrom t = distL t.deeds (only s) := by unfold stepsFrom; rw [if_pos h, hs, Int.toNat_natCast]
def deedDoZ (d : DeedD) (s : Int) : Int := if deedOk d = true ∧ stIn s = true then opt (deedDo d s.toNat) else -1
set_option maxRecDepth 100000 in
set_option maxHeartbeats 1000000 in
theorem stepsLeast_impl (v : Value) (t : TaskD) (w : World) (h : RdT w w.heap.size v t) :
    Calls Tryd.prog 27 #[v] w (Gives w id fun v => [rInts v (stepsLeast t)]) := by
  have h' := h
  obtain ⟨G, gn, gc, G', n', c', rfl, hg, hgs, hds, hst⟩ := h
  have S0 := (St.refl w).alloc #[.int .i64 t.start, .slice G gn gc, .slice G' n' c'] 26
  have HT := Lib.hid h'
  have HG := Lib.hid hg
  have HS0 := Lib.hid S0
  have HDL := Lib.hid hds.len
  clear S0 h' hg hds
  obtain ⟨bo, hok⟩ : ∃ b, taskOk t = b := ⟨_, rfl⟩
  have HOK := Lib.hid hok
  clear hok
  cases bo with
  | false =>
    have HPN := Bx.mk (stepsLeast_no t HOK.out)
    go_enter Tryd.func27, Tryd.ntmps27
    go_wp2_with fail
    refine (taskValid_impl _ t _ (HT.out.up HS0.out.below)).mono ?_
    rw [HOK.out]
    rintro e w1 ⟨rfl, hb1⟩
    have HB := Lib.hid (HS0.out.quiet hb1).below
    clear hb1
    go_wp2
    go_ret
    exact ⟨_, rfl, by rw [HPN.out]; exact rInts_nil w _ HB.out⟩
  | true =>
    obtain ⟨hs0, hgok, hn6, hdok⟩ := taskOk_parts t HOK.out
    obtain ⟨s0, hst0⟩ := Int.eq_ofNat_of_zero_le hs0.1
    have HDOK := Lib.hid hdok
    have HGOK := Lib.hid hgok
    have hs32 : s0 < 32 := by omega
    have hpw0 := wrap_pow s0 (by omega)
    have hpwi : IntKind.i64.wrap ((2 : Int) ^ s0) = 2 ^ s0 := IntWalk.i64_in _ (by have := pow_le_int s0 31 (by omega); have : (0 : Int) < 2 ^ s0 := Int.pow_pos (by omega); omega)
    have HTR := Bx.mk (codeTruth_yes t.goal HGOK.out)
    have hn6' : n' ≤ 6 := by rw [← HDL.out]; exact hn6
    have HPY := Bx.mk (stepsLeast_yes t HOK.out s0 hst0)
    rw [hst0] at HS0 ⊢
    clear hdok hgok hs0 hn6
    go_enter Tryd.func27, Tryd.ntmps27
    go_wp2_with fail
    refine (taskValid_impl _ t _ (by rw [← hst0]; rw [← hst0] at HS0; exact HT.out.up HS0.out.below)).mono ?_
    rw [HOK.out]
    rintro e w1 ⟨rfl, hb1⟩
    have HST0 := Bx.mk hst0
    have HS1 := Lib.hid (HS0.out.quiet hb1)
    clear hb1 HS0
    clear hpw0 hpwi
    go_upto_region 3 with (fail)
    refine wp_reg (σ := Value × Value) (by kernel_rfl) (by kernel_rfl) (by kernel_rfl)
      (fun s i => match i with
        | 0 => .agg #[.int .i64 s0, .slice G gn gc, .slice G' n' c']
        | 1 => s.1
        | 2 => .pointer (some ⟨w.heap.size, 1, none⟩)
        | 3 => .slice G gn gc
        | 4 => .int .i64 (truthN t.goal : Nat)
        | 5 => s.2
        | 6 => s.2
        | _ => undef)
      (fun D s wx => Sn w wx fun i => match i with
        | 0 => some (rBlk w.heap.size 26 #[.int .i64 s0, .slice G gn gc, .slice G' n' c'])
        | 1 => if D 1 = true then some (rBeh s.1 t.deeds) else none
        | 2 => if D 5 = true then some (rInts s.2 (stepsL t.deeds (evalCode t.goal))) else none
        | _ => none)
      (undef, undef) ?_ ?_ ?_
    · intro D hD
      refine ((Sn.of_st HS1.out).quiet ((Below.refl _ _).drew)).congr fun i => ?_
      match i with
      | 0 => rfl
      | 1 => exact if_neg (by rw [hD 1 (by decide)]; simp)
      | 2 => exact if_neg (by rw [hD 5 (by decide)]; simp)
      | q + 3 => rfl
    · refine StepAll.cons (fun D s wx hR (hDi : D 0 = false) hd hsh a' hs K hK => ?_) ?_
      · have e1 := hs.old 1 (u := .pointer (some ⟨w.heap.size, 0, none⟩)) (by kernel_rfl) rfl
        clear hs
        have kb : Blk wx (w.heap.size) 26 #[.int .i64 s0, .slice G gn gc, .slice G' n' c'] := hR.blk 0 rfl
        have c0 : wx.cell? ⟨w.heap.size, 0, none⟩ = some (.int .i64 s0) := kb.cell 0
        have c1 : wx.cell? ⟨w.heap.size, 1, none⟩ = some (.slice G gn gc) := kb.cell 1
        have c2 : wx.cell? ⟨w.heap.size, 2, none⟩ = some (.slice G' n' c') := kb.cell 2
        go_simp
        exact hK s wx (fun _ _ => rfl) hR
      refine StepAll.cons (fun D s wx hR (hDi : D 1 = false) hd hsh a' hs K hK => ?_) ?_
      · have e6 := hs.at_ 0 6 (u := .agg #[.int .i64 s0, .slice G gn gc, .slice G' n' c']) rfl (hd ⟨0, .data⟩ (by simp) rfl) (by kernel_rfl) (by kernel_rfl) rfl
        have g6 := getQ e6
        clear hs
        have n5 : D 5 = false := hsh.no hDi 5 rfl ⟨1, .data⟩ (by simp) rfl rfl
        have n6 : D 6 = false := hsh.no n5 6 rfl ⟨5, .data⟩ (by simp) rfl rfl
        go_simp
        refine (behindAll_any _ t _ (by have := HT.out.up hR.below; rw [HST0.out] at this; exact this) HOK.out).mono ?_
        rintro e2 w2 ⟨v2, rfl, s2⟩
        refine hK (v2, s.2) w2
          (fun j hj => by
            match j, hj with
            | 0, hj => rfl
            | 1, hj => rw [hDi] at hj; cases hj
            | 2, hj => rfl
            | 3, hj => rfl
            | 4, hj => rfl
            | 5, hj => rw [n5] at hj; cases hj
            | 6, hj => rw [n6] at hj; cases hj
            | _ + 7, hj => rfl)
          ((hR.add 1 (if_neg (by rw [hDi]; simp)) s2).congr
            (fun i => by
              match i with
              | 0 => rfl
              | 1 => rfl
              | 2 => rfl
              | q + 3 => exact (if_neg (show ¬ (q + 3 = 1) by omega)).symm))
      refine StepAll.cons (fun D s wx hR (hDi : D 2 = false) hd hsh a' hs K hK => ?_) ?_
      · have e1 := hs.old 1 (u := .pointer (some ⟨w.heap.size, 0, none⟩)) (by kernel_rfl) rfl
        clear hs
        go_simp
        exact hK s wx (fun _ _ => rfl) hR
      refine StepAll.cons (fun D s wx hR (hDi : D 3 = false) hd hsh a' hs K hK => ?_) ?_
      · have e8 := hs.at_ 2 8 (u := .pointer (some ⟨w.heap.size, 1, none⟩)) rfl (hd ⟨2, .data⟩ (by simp) rfl) (by kernel_rfl) (by kernel_rfl) rfl
        clear hs
        have kb : Blk wx (w.heap.size) 26 #[.int .i64 s0, .slice G gn gc, .slice G' n' c'] := hR.blk 0 rfl
        have c0 : wx.cell? ⟨w.heap.size, 1, none⟩ = some (.slice G gn gc) := kb.cell 1
        go_simp
        exact hK s wx (fun _ _ => rfl) hR
      refine StepAll.cons (fun D s wx hR (hDi : D 4 = false) hd hsh a' hs K hK => ?_) ?_
      · have e9 := hs.at_ 3 9 (u := .slice G gn gc) rfl (hd ⟨3, .data⟩ (by simp) rfl) (by kernel_rfl) (by kernel_rfl) rfl
        have g9 := getQ e9
        clear hs
        go_simp
        refine (codeTruth_impl G gn gc t.goal _ (HG.out.up hR.below)).mono ?_
        rw [HTR.out]
        rintro e2 w2 ⟨rfl, hb2⟩
        exact hK s w2 (fun _ _ => rfl) (hR.quiet hb2)
      refine StepAll.cons (fun D s wx hR (hDi : D 5 = false) hd hsh a' hs K hK => ?_) ?_
      · have e7 := hs.at_ 1 7 (u := s.1) rfl (hd ⟨1, .data⟩ (by simp) rfl) (by kernel_rfl) (by kernel_rfl) rfl
        have e10 := hs.at_ 4 10 (u := .int .i64 (truthN t.goal : Nat)) rfl (hd ⟨4, .data⟩ (by simp) rfl) (by kernel_rfl) (by kernel_rfl) rfl
        have g7 := getQ e7
        have g10 := getQ e10
        clear hs
        have n6 : D 6 = false := hsh.no hDi 6 rfl ⟨5, .data⟩ (by simp) rfl rfl
        have d1 : D 1 = true := hd ⟨1, .data⟩ (by simp) rfl
        have s1 : St w wx [rBlk w.heap.size 26 #[.int .i64 s0, .slice G gn gc, .slice G' n' c'], rBeh s.1 t.deeds] := hR.to_st [0, 1] (by decide) (by simp only [List.map, d1]; rfl)
        obtain ⟨RA, RC, hrv, -⟩ := s1.rdRow 1 rfl
        rw [HDL.out] at hrv
        rw [hrv] at s1
        have hrr := s1.rdRow' (n := n') 1 (by rw [← HDL.out]; rfl)
        go_simp
        refine (stepsBack_any RA n' RC t.deeds (evalCode t.goal) (truthN t.goal) _ hrr HDL.out HDOK.out hn6' rfl).mono ?_
        rintro e2 w2 ⟨v2, rfl, s2⟩
        refine hK (s.1, v2) w2
          (fun j hj => by
            match j, hj with
            | 0, hj => rfl
            | 1, hj => rfl
            | 2, hj => rfl
            | 3, hj => rfl
            | 4, hj => rfl
            | 5, hj => rw [hDi] at hj; cases hj
            | 6, hj => rw [n6] at hj; cases hj
            | _ + 7, hj => rfl)
          ((hR.add 2 (if_neg (by rw [hDi]; simp)) s2).congr
            (fun i => by
              match i with
              | 0 => rfl
              | 1 => rfl
              | 2 => rfl
              | q + 3 => exact (if_neg (show ¬ (q + 3 = 2) by omega)).symm))
      refine StepAll.cons (fun D s wx hR (hDi : D 6 = false) hd hsh a' hs K hK => ?_) ?_
      · have e11 := hs.at_ 5 11 (u := s.2) rfl (hd ⟨5, .data⟩ (by simp) rfl) (by kernel_rfl) (by kernel_rfl) rfl
        clear hs
        go_simp
        exact hK s wx (fun _ _ => rfl) hR
      exact StepAll.nil
    · intro D s wx hR hD
      simp only [putA, Act.put, List.setIfInBounds_toArray, List.set_cons_zero, List.set_cons_succ]
      have HS2 : Hid (St w wx [rBlk w.heap.size 26 #[.int .i64 s0, .slice G gn gc, .slice G' n' c'], rBeh s.1 t.deeds, rInts s.2 (stepsL t.deeds (evalCode t.goal))]) := Lib.hid (hR.to_st [0, 1, 2] (by decide) (by simp only [List.map, hD 1 (by decide), hD 5 (by decide)]; rfl))
      clear hR hD
      go_wp2
      go_ret
      exact ⟨_, rfl, by rw [HPY.out]; exact HS2.out.pick [2] (by decide) rfl rfl⟩
end Go.Proofs.YtkimgdfcgfhibaaDoor

/- Plain law: ways counted forward, state by state, are as many as counted backward; no program in sight. -/
namespace Go.Proofs.YtkimgdfcgfhibaaDoor
set_option linter.unusedVariables false
set_option linter.unusedSimpArgs false

def sumR : Nat → (Nat → Int) → Int
  | 0, _ => 0
  | n + 1, f => sumR n f + f n
def sumL {α : Type} (l : List α) (f : α → Int) : Int := (l.map f).sum
/-- in how many ways n deeds lead from s0 to s -/
def fwN (ds : List DeedD) (s0 : Nat) : Nat → Nat → Int
  | 0, s => if s = s0 then 1 else 0
  | n + 1, s => sumR 32 fun s' => sumL ds fun d => if deedDo d s' = some s then fwN ds s0 n s' else 0
section
variable {ds : List DeedD} {S : Nat → Bool} {s0 : Nat}
/-! ### distances -/
theorem dstV_fwd {s k : Nat} (h : dstV ds (only s0) s = (k : Int)) : fwd ds (only s0) k s = true := by
  have hl : fwd ds (only s0) 32 s = true := dstN_nonneg.1 (by have : dstN ds (only s0) 32 s = _ := h; omega)
  obtain ⟨j, h1, h2, h3, -⟩ := dstN_at hl
  have : j = k := by have : dstN ds (only s0) 32 s = _ := h; omega
  subst this; exact h3
end
/-! ### the rounds of the program -/
def wrap (x : Int) : Int := (x + 9223372036854775808) % 18446744073709551616 - 9223372036854775808
/-- what the deed d adds from s' on to s in the round k -/
def addN (ds : List DeedD) (s0 k : Nat) (s' s : Nat) (d : DeedD) : Int := if dstV ds (only s0) s' = (k : Int) ∧ deedDo d s' = some s then fwN ds s0 k s' else 0
/-- ways in the round k, behind st states and the first j deeds of the next -/
def partN (ds : List DeedD) (s0 k st j s : Nat) : Int := sumR st (fun s' => sumL ds (addN ds s0 k s' s)) + sumL (ds.take j) (addN ds s0 k st s)
def waysW (ds : List DeedD) (s0 k st j s : Nat) : Int :=
  if dstV ds (only s0) s = ((k + 1 : Nat) : Int) then wrap (partN ds s0 k st j s) else if 0 ≤ dstV ds (only s0) s ∧ dstV ds (only s0) s ≤ k then wrap (fwN ds s0 (dstV ds (only s0) s).toNat s) else 0
section
variable {ds : List DeedD} {S : Nat → Bool} {s0 : Nat}
end
end Go.Proofs.YtkimgdfcgfhibaaDoor
