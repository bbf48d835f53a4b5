/- stepsBack of the program: for each state the least number of deeds. -/
import Derived.Test.YtkimgdfcgfhibaaDoorSBack
namespace Go.Proofs.YtkimgdfcgfhibaaDoor
set_option linter.unusedVariables false
set_option linter.unusedSimpArgs false
open Go.ChangeShapes Go.WideShapes Go.ChangeAt Go.RowKit

/-- the first k from y, the others from z -/
def mixF (y z : Nat → Int) (k : Nat) : List Int := (List.range 32).map fun i => if i < k then y i else z i
theorem mixF_len (y z : Nat → Int) (k : Nat) : (mixF y z k).length = 32 := by simp [mixF]
theorem mixF_at (y z : Nat → Int) (k j : Nat) (h : j < 32) : (mixF y z k)[j]? = some (if j < k then y j else z j) := by simp [mixF, h]
theorem mixF_here (y z : Nat → Int) (k : Nat) (h : k < 32) : (mixF y z k)[k]? = some (z k) := by rw [mixF_at y z k k h, if_neg (by omega)]
theorem mixF_set (y z : Nat → Int) (k : Nat) (x : Int) (hx : x = y k) : (mixF y z k).set k x = mixF y z (k + 1) := by
  subst hx
  apply List.ext_getElem?
  intro i
  rw [List.getElem?_set]
  unfold mixF
  simp only [List.getElem?_map, List.length_map, List.length_range]
  by_cases e : k = i
  · subst e
    rw [if_pos rfl]
    by_cases h : k < 32
    · rw [if_pos h, List.getElem?_range h]; simp
    · rw [if_neg h, List.getElem?_eq_none (by simp; omega)]; rfl
  · rw [if_neg e]
    by_cases h : i < 32
    · rw [List.getElem?_range h]; simp [show (i < k + 1) ↔ (i < k) by omega]
    · rw [List.getElem?_eq_none (by simp; omega)]; rfl
theorem mixF_same (y z : Nat → Int) (k : Nat) (h : y k = z k) : mixF y z (k + 1) = mixF y z k := by
  unfold mixF
  refine List.map_congr_left fun i _ => ?_
  by_cases e : i = k
  · subst e; simp [h]
  · simp [show (i < k + 1) ↔ (i < k) by omega]
theorem mixF_zero (y z : Nat → Int) : mixF y z 0 = (List.range 32).map z := by unfold mixF; simp
theorem mixF_all (y z : Nat → Int) : mixF y z 32 = (List.range 32).map y := by
  unfold mixF
  refine List.map_congr_left fun i hi => ?_
  simp [List.mem_range.1 hi]
/-- the least numbers of deeds -/
def stepsL (ds : List DeedD) (p : Nat → Bool) : List Int := (List.range 32).map (stpV ds p)
theorem stepsL_len (ds : List DeedD) (p : Nat → Bool) : (stepsL ds p).length = 32 := by simp [stepsL]
theorem stepsL_at (ds : List DeedD) (p : Nat → Bool) (s : Nat) (h : s < 32) : (stepsL ds p)[s]? = some (stpV ds p s) := by simp [stepsL, h]
theorem stepsL_wf (ds : List DeedD) (p : Nat → Bool) : ∀ x ∈ stepsL ds p, (Lit.int .i64 x).wf = true := fun x hx => by
  obtain ⟨s, hs, rfl⟩ := List.mem_map.1 hx
  have : -1 ≤ stpV ds p s ∧ stpV ds p s ≤ 32 := stpN_le (ds := ds) (S := p) (n := 32) (s := s)
  exact wf_i64_mk (by omega)
theorem setP_mset (p : Nat → Bool) : ∀ s, s < 32 → setP (mset p 32) s = p s := fun s hs => bit_mset1 p hs
theorem back_set {ds : List DeedD} (hd : ∀ d ∈ ds, deedOk d = true) (p : Nat → Bool) : mset (backP ds (setP (mset p 32))) 32 = mset (backP ds p) 32 := mset_congr fun s hs => backP_congr hd hs (setP_mset p)
/-- what is new -/
def freshP (ds : List DeedD) (p : Nat → Bool) (m : Nat) : Nat → Bool := fun s => backP ds (layer ds p m) s && !layer ds p m s
theorem fresh_val {ds : List DeedD} {p : Nat → Bool} {m M B : Nat} (hM : M = mset (layer ds p m) 32) (hB : B = mset (backP ds (layer ds p m)) 32) : bits .andNot .i64 (B : Int) (M : Int) = ((mset (freshP ds p m) 32 : Nat) : Int) := by
  have h1 := mset32_lt (layer ds p m)
  have h2 := mset32_lt (backP ds (layer ds p m))
  rw [i64_andNot_nat _ _ (by omega) (by omega), hM, hB, mset_diff]
  rfl
theorem fresh_none {ds : List DeedD} {p : Nat → Bool} {m : Nat} (h : mset (freshP ds p m) 32 = 0) : fixedAt ds p m := fun s hs hb => by
  have := mset_zero.1 h s hs
  unfold freshP at this
  rw [hb] at this
  simpa using this
theorem fresh_some {ds : List DeedD} {p : Nat → Bool} {m : Nat} (h : mset (freshP ds p m) 32 ≠ 0) : ¬ fixedAt ds p m := fun hf => h (mset_zero.2 fun s hs => by
  unfold freshP
  cases hb : backP ds (layer ds p m) s with
  | false => rfl
  | true => rw [hf s hs hb]; rfl)
theorem fresh_or {ds : List DeedD} {p : Nat → Bool} {m M F : Nat} (hM : M = mset (layer ds p m) 32) (hF : F = mset (freshP ds p m) 32) : bits .or .i64 (M : Int) (F : Int) = ((mset (layer ds p (m + 1)) 32 : Nat) : Int) := by
  have h1 := mset32_lt (layer ds p m)
  have h2 := mset32_lt (freshP ds p m)
  have key : mset (fun s => layer ds p m s || freshP ds p m s) 32 = mset (layer ds p (m + 1)) 32 := mset_congr fun s hs => by
    show (layer ds p m s || (backP ds (layer ds p m) s && !layer ds p m s)) = (layer ds p m s || backP ds (layer ds p m) s)
    generalize layer ds p m s = a
    generalize backP ds (layer ds p m) s = b
    cases a <;> cases b <;> rfl
  rw [i64_or_nat _ _ (by omega) (by omega), hM, hF, mset_or, key]
theorem fresh_yes {ds : List DeedD} {p : Nat → Bool} {m s F : Nat} (hs : s < 32) (hF : F = mset (freshP ds p m) 32) (h : bit F s = 1) : ((m : Int) + 1) = stpN ds p (m + 1) s := by
  have : freshP ds p m s = true := by rw [← bit_mset1 (freshP ds p m) hs, ← hF, h]; rfl
  unfold freshP at this
  simp only [Bool.and_eq_true, Bool.not_eq_true'] at this
  simp [stpN, this.1, this.2]
theorem fresh_no {ds : List DeedD} {p : Nat → Bool} {m s F : Nat} (hs : s < 32) (hF : F = mset (freshP ds p m) 32) (h : bit F s = 0) : stpN ds p (m + 1) s = stpN ds p m s := by
  have : freshP ds p m s = false := by rw [← bit_mset1 (freshP ds p m) hs, ← hF, h]; rfl
  unfold freshP at this
  cases hl : layer ds p m s with
  | true => simp [stpN, hl]
  | false =>
    rw [hl] at this
    have hb : backP ds (layer ds p m) s = false := by simpa using this
    rw [stpN_neg hl]
    simp [stpN, hl, hb]
theorem cnt_next {ds : List DeedD} {p : Nat → Bool} {m : Nat} (h : mset (freshP ds p m) 32 ≠ 0) (hc : m ≤ cnt (layer ds p m) 32) : m + 1 ≤ cnt (layer ds p (m + 1)) 32 := by
  have := cnt_grow (fresh_some h); omega
theorem steps_done {ds : List DeedD} {p : Nat → Bool} {m : Nat} (hd : ∀ d ∈ ds, deedOk d = true) (h : mset (freshP ds p m) 32 = 0) : (List.range 32).map (stpN ds p m) = stepsL ds p := by
  unfold stepsL
  refine List.map_congr_left fun s hs => ?_
  exact (stpV_fixed hd (fresh_none h) (List.mem_range.1 hs)).symm
theorem start_yes {ds : List DeedD} {p : Nat → Bool} {s : Nat} (hs : s < 32) (h : bit (mset p 32) s = 1) : (0 : Int) = stpN ds p 0 s := by
  have : p s = true := by rw [← bit_mset1 p hs, h]; rfl
  simp [stpN, this]
theorem start_no {ds : List DeedD} {p : Nat → Bool} {s : Nat} (hs : s < 32) (h : bit (mset p 32) s = 0) : (-1 : Int) = stpN ds p 0 s := by
  have : p s = false := by rw [← bit_mset1 p hs, h]; rfl
  simp [stpN, this]
set_option maxRecDepth 100000 in
set_option maxHeartbeats 1000000 in
theorem stepsBack_any (A : Option Addr) (n c : Nat) (ds : List DeedD) (p : Nat → Bool) (S : Nat) (w : World) (h : RdRow w w.heap.size 32 A n c (ints (behL ds))) (hn : ds.length = n) (hd : ∀ d ∈ ds, deedOk d = true) (hn6 : n ≤ 6) (hS : S = mset p 32) :
    Calls Tryd.prog 50 #[.slice A n c, .int .i64 S] w (Gives w id fun v => [rInts v (stepsL ds p)]) := by
  have HR := Lib.hid h
  have HL := Lib.hid hn
  have HDOK := Lib.hid hd
  have HSV := Bx.mk hS
  have hS32 : S < 4294967296 := by rw [hS]; exact mset32_lt p
  obtain ⟨i0, hi, hz0, hz1, hz2⟩ := elInt.hi
  obtain ⟨g, hg⟩ : ∃ g, w.heap.size = g := ⟨_, rfl⟩
  have HG := Lib.hid hg
  clear h hn hd hS
  go_enter Tryd.func50, Tryd.ntmps50
  go_wp2_with (at_make; refine wpList_make_full _ rfl _ _ 23 rfl w.heap.size 3 i0 _ 1 Tryd.underlying23 hi hz0 hz1 _ _ _ _ 32 rfl rfl rfl rfl (by rw [hz2]; omega) (by unfold maxLen; omega) (Nat.le_refl _) ?_; intro w2 hown hgr)
  have S2 : St w w2 [rInts (.slice (some ⟨g, 0, none⟩) 32 32) (mixF (stpN ds p 0) (fun _ => 0) 0)] := by
    refine St.of_ints (F := [g]) ⟨?_, ?_, ?_⟩ ((Below.refl _ _).grown hgr (Nat.le_refl _) (by simp))
    · have e : (madeCells (Value.int IntKind.i64 0).cells (32 * 1)).toList = ints (mixF (stpN ds p 0) (fun _ => 0) 0) := by
        show (madeCells #[Value.int IntKind.i64 0] 32).toList = _
        rw [toList_madeCells_one, mixF_zero]
        rfl
      rw [mixF_len, ← hg]
      rw [e] at hown
      exact hown
    · rw [mixF_zero]
      intro x hx
      obtain ⟨_, _, rfl⟩ := List.mem_map.1 hx
      rfl
    · rfl
  have HS2 := Lib.hid S2
  try rw [hg]
  clear hown hgr S2 hg
  go_wp2
  go_loopw [13] (fun i wr => ∃ k : Nat, k ≤ 32 ∧ i = .int .i64 k ∧ St w wr [rInts (.slice (some ⟨g, 0, none⟩) 32 32) (mixF (stpN ds p 0) (fun _ => 0) k)]) (fun i _ => 32 - (intOf i).toNat)
  case atStart => exact ⟨0, by omega, rfl, HS2.out⟩
  case round =>
    obtain ⟨k, hk, rfl, M⟩ := hrel
    have HM := Lib.hid M
    clear M HS2
    by_cases hlt : k < 32
    · obtain ⟨hc, hf⟩ := HM.out.cellI 0 rfl (mixF_len _ _ _) k 0 (mixF_here _ _ k hlt)
      have hbit := and_one S k (by omega)
      by_cases hb1 : bit S k = 1
      · have HST := Lib.hid (HM.out.storeI 0 rfl (mixF_len _ _ _) k 0 rfl)
        have HE : Hid ((0 : Int) = stpN ds p 0 k) := Lib.hid (start_yes hlt (by rw [← HSV.out]; exact hb1))
        rw [hb1] at hbit
        clear hb1
        go_wp2
        go_roundw
        case rel => exact ⟨k + 1, by omega, by go_num, by rw [← mixF_set _ _ k 0 HE.out]; exact HST.out⟩
        case measure => simp [intOf]; omega
      · have hb0 : bit S k = 0 := by have := bit_lt S k; omega
        have HST := Lib.hid (HM.out.storeI 0 rfl (mixF_len _ _ _) k (-1) rfl)
        have HE : Hid ((-1 : Int) = stpN ds p 0 k) := Lib.hid (start_no hlt (by rw [← HSV.out]; exact hb0))
        rw [hb0] at hbit
        clear hb1 hb0
        go_wp2
        go_roundw
        case rel => exact ⟨k + 1, by omega, by go_num, by rw [← mixF_set _ _ k (-1) HE.out]; exact HST.out⟩
        case measure => simp [intOf]; omega
    · have HS3 : Hid (St w wr [rInts (.slice (some ⟨g, 0, none⟩) 32 32) ((List.range 32).map (stpN ds p 0))]) := Lib.hid (by
        have := HM.out
        rw [show k = 32 by omega, mixF_all] at this
        exact this)
      clear HM
      go_wp2
      go_loopw [7, 1] (fun mv sv wr => ∃ m M : Nat, mv = .int .i64 ((m : Int) + 1) ∧ sv = .int .i64 M ∧ m ≤ 32 ∧ Hid (M = mset (layer ds p m) 32 ∧ m ≤ cnt (layer ds p m) 32) ∧ St w wr [rInts (.slice (some ⟨g, 0, none⟩) 32 32) ((List.range 32).map (stpN ds p m))]) (fun mv _ _ => 34 - (intOf mv).toNat)
      case atStart => exact ⟨0, S, rfl, rfl, by omega, Lib.hid ⟨HSV.out, Nat.zero_le _⟩, HS3.out⟩
      case round =>
        obtain ⟨m, M, rfl, rfl, hm, HM, MM⟩ := hrel
        have HMM := Lib.hid MM
        clear MM HS3
        have hM32 : M < 4294967296 := by rw [HM.out.1]; exact mset32_lt _
        obtain ⟨F, hF⟩ : ∃ F, mset (freshP ds p m) 32 = F := ⟨_, rfl⟩
        obtain ⟨B, hB⟩ : ∃ B, mset (backP ds (setP M)) 32 = B := ⟨_, rfl⟩
        have hand : bits .andNot .i64 (B : Int) (M : Int) = (F : Int) := by
          rw [fresh_val HM.out.1 (by rw [← hB, HM.out.1]; exact back_set HDOK.out _), hF]
        have hF32 : F < 4294967296 := by rw [← hF]; exact mset32_lt _
        have HF := Bx.mk hF.symm
        have HB := Bx.mk hB
        clear hF hB
        go_wp2_with fail
        refine (backStates_any A n c ds M _ (HR.out.up HMM.out.below) HL.out HDOK.out hn6 hM32).mono ?_
        rw [HB.out]
        rintro e w3 ⟨rfl, hb3⟩
        have HM3 := Lib.hid (HMM.out.quiet hb3)
        clear hb3
        by_cases h0 : F = 0
        · have HE := Lib.hid (steps_done HDOK.out (by rw [← HF.out]; exact h0) : (List.range 32).map (stpN ds p m) = stepsL ds p)
          subst h0
          go_wp2
          go_ret
          exact ⟨_, rfl, by rw [← HE.out]; exact HM3.out⟩
        · obtain ⟨M2, hM2⟩ : ∃ M2, mset (layer ds p (m + 1)) 32 = M2 := ⟨_, rfl⟩
          have hor : bits .or .i64 (M : Int) (F : Int) = (M2 : Int) := by rw [fresh_or HM.out.1 HF.out, hM2]
          have HM2 := Bx.mk hM2
          have HOR := Lib.hid hor
          have hz : ((F : Int) == 0) = false := by simp; omega
          have H0 := Lib.hid h0
          clear hM2 h0 hor
          have HNX : Hid (m + 1 ≤ cnt (layer ds p (m + 1)) 32) := Lib.hid (cnt_next (by rw [← HF.out]; exact H0.out) HM.out.2)
          have HLE : Hid (m + 1 ≤ 32) := Lib.hid (by have := cnt_le (layer ds p (m + 1)) 32; have := HNX.out; omega)
          have HM4 : Hid (St w w3 [rInts (.slice (some ⟨g, 0, none⟩) 32 32) (mixF (stpN ds p (m + 1)) (stpN ds p m) 0)]) := Lib.hid (by rw [mixF_zero]; exact HM3.out)
          clear HM3
          go_wp2
          clear hand hz
          go_loopw [37] (fun i wr => ∃ k : Nat, k ≤ 32 ∧ i = .int .i64 k ∧ St w wr [rInts (.slice (some ⟨g, 0, none⟩) 32 32) (mixF (stpN ds p (m + 1)) (stpN ds p m) k)]) (fun i _ => 32 - (intOf i).toNat)
          case atStart => exact ⟨0, by omega, rfl, HM4.out⟩
          case round =>
            obtain ⟨k, hk, rfl, M5⟩ := hrel
            have HM5 := Lib.hid M5
            clear M5 HM4
            by_cases hlt : k < 32
            · have hbit := and_one F k (by omega)
              by_cases hb1 : bit F k = 1
              · obtain ⟨hc, hf⟩ := HM5.out.cellI 0 rfl (mixF_len _ _ _) k _ (mixF_here _ _ k hlt)
                have HE := Lib.hid (fresh_yes hlt HF.out hb1)
                have HST := Lib.hid (HM5.out.storeI 0 rfl (mixF_len _ _ _) k ((m : Int) + 1) (wf_i64_mk (by omega)))
                rw [hb1] at hbit
                obtain ⟨v0, hv0⟩ : ∃ v0, stpN ds p m k = v0 := ⟨_, rfl⟩
                rw [hv0] at hc
                clear hb1 hv0
                clear hi hz0 hz1 hz2 hS32 hM32 hF32 hn6
                go_wp2
                go_roundw
                case rel => exact ⟨k + 1, by omega, by go_num, by rw [← mixF_set _ _ k _ HE.out]; exact HST.out⟩
                case measure => simp [intOf]; omega
              · have hb0 : bit F k = 0 := by have := bit_lt F k; omega
                have HE := Lib.hid (mixF_same (stpN ds p (m + 1)) (stpN ds p m) k (fresh_no hlt HF.out hb0))
                rw [hb0] at hbit
                clear hb1 hb0
                go_wp2
                go_roundw
                case rel => exact ⟨k + 1, by omega, by go_num, by rw [HE.out]; exact HM5.out⟩
                case measure => simp [intOf]; omega
            · have HM6 : Hid (St w wr [rInts (.slice (some ⟨g, 0, none⟩) 32 32) ((List.range 32).map (stpN ds p (m + 1)))]) := Lib.hid (by
                have := HM5.out
                rw [show k = 32 by omega, mixF_all] at this
                exact this)
              have hle := HLE.out
              have hor := HOR.out
              go_wp2
              go_roundw
              case rel => exact ⟨m + 1, M2, by go_num, rfl, by omega, Lib.hid ⟨HM2.out.symm, HNX.out⟩, HM6.out⟩
              case measure => simp [intOf]; omega
end Go.Proofs.YtkimgdfcgfhibaaDoor
