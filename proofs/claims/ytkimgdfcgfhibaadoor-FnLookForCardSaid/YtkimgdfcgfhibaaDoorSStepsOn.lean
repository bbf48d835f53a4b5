/- stepsOn of the program: for each state the least number of deeds from a state. -/
import Derived.Test.YtkimgdfcgfhibaaDoorSBits
import Derived.Test.YtkimgdfcgfhibaaDoorSSteps
namespace Go.Proofs.YtkimgdfcgfhibaaDoor
set_option linter.unusedVariables false
set_option linter.unusedSimpArgs false
open Go.ChangeShapes Go.WideShapes Go.ChangeAt Go.RowKit

def only (s0 : Nat) : Nat → Bool := fun s => decide (s0 = s)
theorem mset_only {s0 : Nat} (h : s0 < 32) : mset (only s0) 32 = 2 ^ s0 := by
  have := mset_or_bit (fun _ => false) 32 s0 h
  rw [show mset (fun _ => false) 32 = 0 from mset_zero.2 fun _ _ => rfl, Nat.zero_or] at this
  rw [this]
  exact mset_congr fun k _ => by simp [only]
/-- the least numbers of deeds -/
def distL (ds : List DeedD) (p : Nat → Bool) : List Int := (List.range 32).map (dstV ds p)
theorem distL_len (ds : List DeedD) (p : Nat → Bool) : (distL ds p).length = 32 := by simp [distL]
theorem distL_at (ds : List DeedD) (p : Nat → Bool) (s : Nat) (h : s < 32) : (distL ds p)[s]? = some (dstV ds p s) := by simp [distL, h]
theorem fwd_set {ds : List DeedD} (p : Nat → Bool) : mset (fwdP ds (setP (mset p 32))) 32 = mset (fwdP ds p) 32 := mset_congr fun s hs => fwdP_congr (setP_mset p)
/-- what is new -/
def freshF (ds : List DeedD) (p : Nat → Bool) (m : Nat) : Nat → Bool := fun s => fwdP ds (fwd ds p m) s && !fwd ds p m s
theorem freshF_val {ds : List DeedD} {p : Nat → Bool} {m M B : Nat} (hM : M = mset (fwd ds p m) 32) (hB : B = mset (fwdP ds (fwd ds p m)) 32) : bits .andNot .i64 (B : Int) (M : Int) = ((mset (freshF ds p m) 32 : Nat) : Int) := by
  have h1 := mset32_lt (fwd ds p m)
  have h2 := mset32_lt (fwdP ds (fwd ds p m))
  rw [i64_andNot_nat _ _ (by omega) (by omega), hM, hB, mset_diff]
  rfl
theorem freshF_none {ds : List DeedD} {p : Nat → Bool} {m : Nat} (h : mset (freshF ds p m) 32 = 0) : ffixedAt ds p m := fun s hs hb => by
  have := mset_zero.1 h s hs
  unfold freshF at this
  rw [hb] at this
  simpa using this
theorem freshF_some {ds : List DeedD} {p : Nat → Bool} {m : Nat} (h : mset (freshF ds p m) 32 ≠ 0) : ¬ ffixedAt ds p m := fun hf => h (mset_zero.2 fun s hs => by
  unfold freshF
  cases hb : fwdP ds (fwd ds p m) s with
  | false => rfl
  | true => rw [hf s hs hb]; rfl)
theorem freshF_or {ds : List DeedD} {p : Nat → Bool} {m M F : Nat} (hM : M = mset (fwd ds p m) 32) (hF : F = mset (freshF ds p m) 32) : bits .or .i64 (M : Int) (F : Int) = ((mset (fwd ds p (m + 1)) 32 : Nat) : Int) := by
  have h1 := mset32_lt (fwd ds p m)
  have h2 := mset32_lt (freshF ds p m)
  have key : mset (fun s => fwd ds p m s || freshF ds p m s) 32 = mset (fwd ds p (m + 1)) 32 := mset_congr fun s hs => by
    show (fwd ds p m s || (fwdP ds (fwd ds p m) s && !fwd ds p m s)) = (fwd ds p m s || fwdP ds (fwd ds p m) s)
    generalize fwd ds p m s = a
    generalize fwdP ds (fwd ds p m) s = b
    cases a <;> cases b <;> rfl
  rw [i64_or_nat _ _ (by omega) (by omega), hM, hF, mset_or, key]
theorem freshF_yes {ds : List DeedD} {p : Nat → Bool} {m s F : Nat} (hs : s < 32) (hF : F = mset (freshF ds p m) 32) (h : bit F s = 1) : ((m : Int) + 1) = dstN ds p (m + 1) s := by
  have : freshF ds p m s = true := by rw [← bit_mset1 (freshF ds p m) hs, ← hF, h]; rfl
  unfold freshF at this
  simp only [Bool.and_eq_true, Bool.not_eq_true'] at this
  simp [dstN, this.1, this.2]
theorem freshF_no {ds : List DeedD} {p : Nat → Bool} {m s F : Nat} (hs : s < 32) (hF : F = mset (freshF ds p m) 32) (h : bit F s = 0) : dstN ds p (m + 1) s = dstN ds p m s := by
  have : freshF ds p m s = false := by rw [← bit_mset1 (freshF ds p m) hs, ← hF, h]; rfl
  unfold freshF at this
  cases hl : fwd ds p m s with
  | true => simp [dstN, hl]
  | false =>
    rw [hl] at this
    have hb : fwdP ds (fwd ds p m) s = false := by simpa using this
    rw [dstN_neg hl]
    simp [dstN, hl, hb]
theorem cnt_nextF {ds : List DeedD} {p : Nat → Bool} {m : Nat} (h : mset (freshF ds p m) 32 ≠ 0) (hc : m ≤ cnt (fwd ds p m) 32) : m + 1 ≤ cnt (fwd ds p (m + 1)) 32 := by
  have := cnt_growF (freshF_some h); omega
theorem dist_done {ds : List DeedD} {p : Nat → Bool} {m : Nat} (hd : ∀ d ∈ ds, deedOk d = true) (h : mset (freshF ds p m) 32 = 0) : (List.range 32).map (dstN ds p m) = distL ds p := by
  unfold distL
  refine List.map_congr_left fun s hs => ?_
  exact (dstV_fixed (freshF_none h) (List.mem_range.1 hs)).symm
theorem dstart_yes {ds : List DeedD} {p : Nat → Bool} {s : Nat} (hs : s < 32) (h : bit (mset p 32) s = 1) : (0 : Int) = dstN ds p 0 s := by
  have : p s = true := by rw [← bit_mset1 p hs, h]; rfl
  simp [dstN, this]
theorem dstart_no {ds : List DeedD} {p : Nat → Bool} {s : Nat} (hs : s < 32) (h : bit (mset p 32) s = 0) : (-1 : Int) = dstN ds p 0 s := by
  have : p s = false := by rw [← bit_mset1 p hs, h]; rfl
  simp [dstN, this]
set_option maxRecDepth 100000 in
set_option maxHeartbeats 1000000 in
theorem stepsOn_any (A : Option Addr) (n c : Nat) (ds : List DeedD) (s0 : Nat) (hs0 : s0 < 32) (w : World) (h : RdRow w w.heap.size 32 A n c (ints (behL ds))) (hn : ds.length = n) (hd : ∀ d ∈ ds, deedOk d = true) (hn6 : n ≤ 6) :
    Calls Tryd.prog 80 #[.slice A n c, .int .i64 s0] w (Gives w id fun v => [rInts v (distL ds (only s0))]) := by
  obtain ⟨p, hp⟩ : ∃ p, only s0 = p := ⟨_, rfl⟩
  obtain ⟨S, hS⟩ : ∃ S, S = mset p 32 := ⟨_, rfl⟩
  have hSp : (2 : Int) ^ s0 = (S : Int) := by rw [hS, ← hp, mset_only hs0]; simp
  have hpw0 := wrap_pow s0 (by omega)
  rw [hSp] at hpw0
  rw [hp]
  clear hp
  have HR := Lib.hid h
  have HL := Lib.hid hn
  have HDOK := Lib.hid hd
  have HSV := Bx.mk hS
  have hS32 : S < 4294967296 := by rw [hS]; exact mset32_lt p
  obtain ⟨i0, hi, hz0, hz1, hz2⟩ := elInt.hi
  obtain ⟨g, hg⟩ : ∃ g, w.heap.size = g := ⟨_, rfl⟩
  have HG := Lib.hid hg
  clear h hn hd hS
  go_enter Tryd.func80, Tryd.ntmps80
  go_wp2_with (at_make; refine wpList_make_full _ rfl _ _ 23 rfl w.heap.size 3 i0 _ 1 Tryd.underlying23 hi hz0 hz1 _ _ _ _ 32 rfl rfl rfl rfl (by rw [hz2]; omega) (by unfold maxLen; omega) (Nat.le_refl _) ?_; intro w2 hown hgr)
  have S2 : St w w2 [rInts (.slice (some ⟨g, 0, none⟩) 32 32) (mixF (dstN ds p 0) (fun _ => 0) 0)] := by
    refine St.of_ints (F := [g]) ⟨?_, ?_, ?_⟩ ((Below.refl _ _).grown hgr (Nat.le_refl _) (by simp))
    · have e : (madeCells (Value.int IntKind.i64 0).cells (32 * 1)).toList = ints (mixF (dstN ds p 0) (fun _ => 0) 0) := by
        show (madeCells #[Value.int IntKind.i64 0] 32).toList = _
        rw [toList_madeCells_one, mixF_zero]
        rfl
      rw [mixF_len, ← hg]
      rw [e] at hown
      exact hown
    · rw [mixF_zero]
      intro x hx
      obtain ⟨_, _, rfl⟩ := List.mem_map.1 hx
      rfl
    · rfl
  have HS2 := Lib.hid S2
  try rw [hg]
  clear hown hgr S2 hg
  go_wp2
  go_loopw [16] (fun i wr => ∃ k : Nat, k ≤ 32 ∧ i = .int .i64 k ∧ St w wr [rInts (.slice (some ⟨g, 0, none⟩) 32 32) (mixF (dstN ds p 0) (fun _ => 0) k)]) (fun i _ => 32 - (intOf i).toNat)
  case atStart => exact ⟨0, by omega, rfl, HS2.out⟩
  case round =>
    obtain ⟨k, hk, rfl, M⟩ := hrel
    have HM := Lib.hid M
    clear M HS2
    by_cases hlt : k < 32
    · obtain ⟨hc, hf⟩ := HM.out.cellI 0 rfl (mixF_len _ _ _) k 0 (mixF_here _ _ k hlt)
      have hbit := and_one S k (by omega)
      by_cases hb1 : bit S k = 1
      · have HST := Lib.hid (HM.out.storeI 0 rfl (mixF_len _ _ _) k 0 rfl)
        have HE : Hid ((0 : Int) = dstN ds p 0 k) := Lib.hid (dstart_yes hlt (by rw [← HSV.out]; exact hb1))
        rw [hb1] at hbit
        clear hb1
        go_wp2
        go_roundw
        case rel => exact ⟨k + 1, by omega, by go_num, by rw [← mixF_set _ _ k 0 HE.out]; exact HST.out⟩
        case measure => simp [intOf]; omega
      · have hb0 : bit S k = 0 := by have := bit_lt S k; omega
        have HST := Lib.hid (HM.out.storeI 0 rfl (mixF_len _ _ _) k (-1) rfl)
        have HE : Hid ((-1 : Int) = dstN ds p 0 k) := Lib.hid (dstart_no hlt (by rw [← HSV.out]; exact hb0))
        rw [hb0] at hbit
        clear hb1 hb0
        go_wp2
        go_roundw
        case rel => exact ⟨k + 1, by omega, by go_num, by rw [← mixF_set _ _ k (-1) HE.out]; exact HST.out⟩
        case measure => simp [intOf]; omega
    · have HS3 : Hid (St w wr [rInts (.slice (some ⟨g, 0, none⟩) 32 32) ((List.range 32).map (dstN ds p 0))]) := Lib.hid (by
        have := HM.out
        rw [show k = 32 by omega, mixF_all] at this
        exact this)
      clear HM
      go_wp2
      go_loopw [8, 5] (fun mv sv wr => ∃ m M : Nat, mv = .int .i64 ((m : Int) + 1) ∧ sv = .int .i64 M ∧ m ≤ 32 ∧ Hid (M = mset (fwd ds p m) 32 ∧ m ≤ cnt (fwd ds p m) 32) ∧ St w wr [rInts (.slice (some ⟨g, 0, none⟩) 32 32) ((List.range 32).map (dstN ds p m))]) (fun mv _ _ => 34 - (intOf mv).toNat)
      case atStart => exact ⟨0, S, rfl, rfl, by omega, Lib.hid ⟨HSV.out, Nat.zero_le _⟩, HS3.out⟩
      case round =>
        obtain ⟨m, M, rfl, rfl, hm, HM, MM⟩ := hrel
        have HMM := Lib.hid MM
        clear MM HS3
        have hM32 : M < 4294967296 := by rw [HM.out.1]; exact mset32_lt _
        obtain ⟨F, hF⟩ : ∃ F, mset (freshF ds p m) 32 = F := ⟨_, rfl⟩
        obtain ⟨B, hB⟩ : ∃ B, mset (fwdP ds (setP M)) 32 = B := ⟨_, rfl⟩
        have hand : bits .andNot .i64 (B : Int) (M : Int) = (F : Int) := by
          rw [freshF_val HM.out.1 (by rw [← hB, HM.out.1]; exact fwd_set _), hF]
        have hF32 : F < 4294967296 := by rw [← hF]; exact mset32_lt _
        have HF := Bx.mk hF.symm
        have HB := Bx.mk hB
        clear hF hB
        go_wp2_with fail
        refine (nextStates_any A n c ds M _ (HR.out.up HMM.out.below) HL.out HDOK.out hn6 hM32).mono ?_
        rw [HB.out]
        rintro e w3 ⟨rfl, hb3⟩
        have HM3 := Lib.hid (HMM.out.quiet hb3)
        clear hb3
        by_cases h0 : F = 0
        · have HE := Lib.hid (dist_done HDOK.out (by rw [← HF.out]; exact h0) : (List.range 32).map (dstN ds p m) = distL ds p)
          subst h0
          go_wp2
          go_ret
          exact ⟨_, rfl, by rw [← HE.out]; exact HM3.out⟩
        · obtain ⟨M2, hM2⟩ : ∃ M2, mset (fwd ds p (m + 1)) 32 = M2 := ⟨_, rfl⟩
          have hor : bits .or .i64 (M : Int) (F : Int) = (M2 : Int) := by rw [freshF_or HM.out.1 HF.out, hM2]
          have HM2 := Bx.mk hM2
          have HOR := Lib.hid hor
          have hz : ((F : Int) == 0) = false := by simp; omega
          have H0 := Lib.hid h0
          clear hM2 h0 hor
          have HNX : Hid (m + 1 ≤ cnt (fwd ds p (m + 1)) 32) := Lib.hid (cnt_nextF (by rw [← HF.out]; exact H0.out) HM.out.2)
          have HLE : Hid (m + 1 ≤ 32) := Lib.hid (by have := cnt_le (fwd ds p (m + 1)) 32; have := HNX.out; omega)
          have HM4 : Hid (St w w3 [rInts (.slice (some ⟨g, 0, none⟩) 32 32) (mixF (dstN ds p (m + 1)) (dstN ds p m) 0)]) := Lib.hid (by rw [mixF_zero]; exact HM3.out)
          clear HM3
          go_wp2
          clear hand hz
          go_loopw [40] (fun i wr => ∃ k : Nat, k ≤ 32 ∧ i = .int .i64 k ∧ St w wr [rInts (.slice (some ⟨g, 0, none⟩) 32 32) (mixF (dstN ds p (m + 1)) (dstN ds p m) k)]) (fun i _ => 32 - (intOf i).toNat)
          case atStart => exact ⟨0, by omega, rfl, HM4.out⟩
          case round =>
            obtain ⟨k, hk, rfl, M5⟩ := hrel
            have HM5 := Lib.hid M5
            clear M5 HM4
            by_cases hlt : k < 32
            · have hbit := and_one F k (by omega)
              by_cases hb1 : bit F k = 1
              · obtain ⟨hc, hf⟩ := HM5.out.cellI 0 rfl (mixF_len _ _ _) k _ (mixF_here _ _ k hlt)
                have HE := Lib.hid (freshF_yes hlt HF.out hb1)
                have HST := Lib.hid (HM5.out.storeI 0 rfl (mixF_len _ _ _) k ((m : Int) + 1) (wf_i64_mk (by omega)))
                rw [hb1] at hbit
                obtain ⟨v0, hv0⟩ : ∃ v0, dstN ds p m k = v0 := ⟨_, rfl⟩
                rw [hv0] at hc
                clear hb1 hv0
                clear hi hz0 hz1 hz2 hS32 hM32 hF32 hn6
                go_wp2
                go_roundw
                case rel => exact ⟨k + 1, by omega, by go_num, by rw [← mixF_set _ _ k _ HE.out]; exact HST.out⟩
                case measure => simp [intOf]; omega
              · have hb0 : bit F k = 0 := by have := bit_lt F k; omega
                have HE := Lib.hid (mixF_same (dstN ds p (m + 1)) (dstN ds p m) k (freshF_no hlt HF.out hb0))
                rw [hb0] at hbit
                clear hb1 hb0
                go_wp2
                go_roundw
                case rel => exact ⟨k + 1, by omega, by go_num, by rw [HE.out]; exact HM5.out⟩
                case measure => simp [intOf]; omega
            · have HM6 : Hid (St w wr [rInts (.slice (some ⟨g, 0, none⟩) 32 32) ((List.range 32).map (dstN ds p (m + 1)))]) := Lib.hid (by
                have := HM5.out
                rw [show k = 32 by omega, mixF_all] at this
                exact this)
              have hle := HLE.out
              have hor := HOR.out
              go_wp2
              go_roundw
              case rel => exact ⟨m + 1, M2, by go_num, rfl, by omega, Lib.hid ⟨HM2.out.symm, HNX.out⟩, HM6.out⟩
              case measure => simp [intOf]; omega
end Go.Proofs.YtkimgdfcgfhibaaDoor
