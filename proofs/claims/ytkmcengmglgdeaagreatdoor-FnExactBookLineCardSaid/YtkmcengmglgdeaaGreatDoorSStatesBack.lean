/- Joined texts: StatesBack, StepsLeast. -/
import Derived.Test.YtkmcengmglgdeaaGreatDoorSBack
import Derived.Test.YtkmcengmglgdeaaGreatDoorSPlanForW
import Derived.Test.YtkmcengmglgdeaaGreatDoorSBookNew

namespace Go.Proofs.YtkmcengmglgdeaaGreatDoor
set_option linter.unusedVariables false
set_option linter.unusedSimpArgs false
set_option maxRecDepth 100000
set_option maxHeartbeats 8000000
open Go.ChangeShapes Go.WideShapes Go.ChangeAt Go.RowKit
def outP (ds : List DeedD) (S m k s : Nat) : Bool := upto (backP ds (setP S)) m s || (decide (s = m) && backP (ds.take k) (setP S) m)
theorem outP_zero (ds : List DeedD) (S m : Nat) : mset (outP ds S m 0) 32 = mset (upto (backP ds (setP S)) m) 32 := mset_congr fun s _ => by simp [outP, backP]
theorem backP_take (ds : List DeedD) (S m k : Nat) (d : DeedD) (h : ds[k]? = some d) : backP (ds.take (k + 1)) (setP S) m = (backP (ds.take k) (setP S) m || hitD d S m) := by
 rw [take_succ' h]
 simp [backP, hitD]
theorem outP_no (ds : List DeedD) (S m k : Nat) (d : DeedD) (h : ds[k]? = some d) (hh : hitD d S m = false) : mset (outP ds S m (k + 1)) 32 = mset (outP ds S m k) 32 := mset_congr fun s _ => by
 unfold outP
 rw [backP_take ds S m k d h, hh, Bool.or_false]
theorem outP_yes (ds : List DeedD) (S m k : Nat) (d : DeedD) (h : ds[k]? = some d) (hh : hitD d S m = true) : ∀ s, s < 32 → outP ds S m (k + 1) s = (outP ds S m k s || decide (m = s)) := fun s _ => by
 unfold outP
 rw [backP_take ds S m k d h, hh, Bool.or_true, Bool.and_true]
 by_cases e : s = m
 ·subst e; simp
 ·simp [e, Ne.symm e]
theorem outP_all (ds : List DeedD) (S m k : Nat) (hk : ds.length ≤ k) : mset (outP ds S m k) 32 = mset (upto (backP ds (setP S)) (m + 1)) 32 := mset_congr fun s _ => by
 unfold outP upto
 rw [List.take_of_length_le hk]
 by_cases e : s = m
 ·subst e; simp
 ·simp [e, show (s < m + 1) ↔ (s < m) by omega]
theorem either_member {p q : Nat → Bool} {M k : Nat} (hk : k < 32) (hM : M = mset p 32) (hq : ∀ j, j < 32 → q j = (p j || decide (k = j))) : (((M : Int).toNat ||| ((2 : Int) ^ k).toNat : Nat) : Int) = ((mset q 32 : Nat) : Int) := by
 have e : ((2 : Int) ^ k) = ((2 ^ k : Nat) : Int) := by push_cast; rfl
 rw [e, Int.toNat_natCast, Int.toNat_natCast, hM, mset_or_bit _ _ _ hk, mset_congr hq]
theorem pow_int_lt {k : Nat} (h : k < 32) : (0 : Int) ≤ 2 ^ k ∧ (2 : Int) ^ k < 4294967296 := by
 have e : ((2 : Int) ^ k) = ((2 ^ k : Nat) : Int) := by push_cast; rfl
 have h1 := pow32_lt h; rw [e]
 generalize 2 ^ k = N at h1
 omega
theorem statesBack_spec (v : Value) (t : TaskD) (S : Nat) (w : World) (h : RdT w w.heap.size v t) (hok : taskOk t = true) (hS : S < 4294967296) :
  Calls Tryz.prog 186 #[v, .int .i64 S] w fun e w' => e = .returned (.int .i64 (mset (backP t.deeds (setP S)) 32 : Nat)) ∧ Below w.heap.size w w' := by
 have h' := h; obtain ⟨G, gn, gc, G', n', c', rfl, hg, hgs, hds, hst⟩ := h; have S0 := (St.refl w).alloc #[.int .i64 t.start, .slice G gn gc, .slice G' n' c'] 26; have HT := Lib.hid (h'.up S0.below); have HS0 := Lib.hid S0; have HOK := Lib.hid hok; have HDL := Lib.hid hds.len; have HDS := Lib.hid hds; obtain ⟨-, -, hn6, hdok⟩ := taskOk_parts t hok; have HDOK := Lib.hid hdok; have hn6' : n' ≤ 6 := by rw [← hds.len]; exact hn6
 obtain ⟨B, hB⟩ : ∃ B, mset (backP t.deeds (setP S)) 32 = B := ⟨_, rfl⟩; have HB := Bx.mk hB; rw [hB]; clear S0 h' hok hds hn6 hdok hB hg; go_enter Tryz.func186, Tryz.ntmps186
 go_wp2_with fail
 refine (taskValid_spec _ t _ HT.out).mono ?_; rw [HOK.out]; rintro e w1 ⟨rfl, hb1⟩; have HS1 := Lib.hid (HS0.out.quiet hb1); clear hb1
 go_wp2_with fail
 refine (l1In_yes (S : Int) 0 4294967295 _ (by omega) (by omega)).mono ?_; rintro e w2 ⟨rfl, rfl⟩; go_wp2
 go_loopw [6, 5] (fun i sv wr => ∃ m M : Nat, m ≤ 32 ∧ i = .int .i64 m ∧ sv = .int .i64 M ∧ Bx (M = mset (upto (backP t.deeds (setP S)) m) 32) ∧ St w wr [rBlk w.heap.size 26 #[.int .i64 t.start, .slice G gn gc, .slice G' n' c']]) (fun i _ _ => 32 - (intOf i).toNat)
 case atStart => exact ⟨0, 0, by omega, rfl, rfl, Bx.mk (mset_upto0 _ _).symm, HS1.out⟩
 case round =>
  obtain ⟨m, M, hm, rfl, rfl, HM, MM⟩ := hrel; have HMM := Lib.hid MM; clear MM
  by_cases hlt : m < 32
  ·have HM0 : Bx (M = mset (outP t.deeds S m 0) 32) := Bx.mk (HM.out.trans (outP_zero _ _ _).symm); clear HM; go_wp2
   try generalize decide ((m : Int) < 32) = dm
   go_loopw [7, 5] (fun i sv wr => ∃ k M : Nat, k ≤ n' ∧ i = .int .i64 k ∧ sv = .int .i64 M ∧ Bx (M = mset (outP t.deeds S m k) 32) ∧ St w wr [rBlk w.heap.size 26 #[.int .i64 t.start, .slice G gn gc, .slice G' n' c']]) (fun i _ _ => n' - (intOf i).toNat)
   case atStart => exact ⟨0, M, by omega, rfl, rfl, HM0, HMM.out⟩
   case round =>
    clear HM0 HMM; obtain ⟨k, M1, hk, rfl, rfl, HM, MM⟩ := hrel; have q0 := MM.cells 0 rfl; have HMM := Lib.hid MM; clear MM
    by_cases hkn : k < n'
    ·obtain ⟨b, off, d, rfl, hb, hd, hda⟩ := HDS.out.get hkn; obtain ⟨An, nn, cn, p0, p1, p2, p3, hneed, hnn, -⟩ := hda; have r0 : wr.cell? ⟨b, off + k * 4, none⟩ = some (.slice An nn cn) := (bcells HMM.out.below b _ hb).trans p0; have r1 : wr.cell? ⟨b, off + k * 4 + 1, none⟩ = some (.int .i64 d.on) := (bcells HMM.out.below b _ hb).trans p1; have r2 : wr.cell? ⟨b, off + k * 4 + 2, none⟩ = some (.int .i64 d.off) := (bcells HMM.out.below b _ hb).trans p2; have r3 : wr.cell? ⟨b, off + k * 4 + 3, none⟩ = some (.int .i64 d.flip) := (bcells HMM.out.below b _ hb).trans p3; have HDK := Lib.hid (HDOK.out d (List.mem_of_getElem? hd)); have HD0 := Lib.hid hd; have HND := Lib.hid hneed; obtain ⟨o, ho⟩ : ∃ o, deedDo d m = o := ⟨_, rfl⟩; have HO := Lib.hid ho; clear p0 p1 p2 p3 hneed hd ho
     go_wp2_with fail
     refine (l6Do_any An nn cn d m _ (HND.out.up HMM.out.below) HDK.out hlt).mono ?_; rw [HO.out]; rintro e w3 ⟨rfl, hb3⟩; have HM3 := Lib.hid (HMM.out.quiet hb3); clear hb3 q0 r0 r1 r2 r3
     cases o with
     | none =>
      have HM2 : Bx (M1 = mset (outP t.deeds S m (k + 1)) 32) := Bx.mk (HM.out.trans (outP_no _ _ _ _ d HD0.out (hitD_none d S m HO.out)).symm); simp only [opt]; go_wp2
      go_roundw
      case rel => exact ⟨k + 1, M1, by omega, by go_num, rfl, HM2, HM3.out⟩
      case measure => simp [intOf]; omega
     | some q =>
      have hq := deedDo_lt d m q HDK.out hlt HO.out; simp only [opt]
      go_wp2_with fail
      refine (l1Bit_nat S q (by omega) _).mono ?_; rintro e w4 ⟨rfl, rfl⟩
      by_cases hs1 : bit S q = 1
      ·have hpw := wrap_pow m (by omega); obtain ⟨hp0, hp1⟩ := pow_int_lt hlt; obtain ⟨M2, hM2⟩ : ∃ M2, mset (outP t.deeds S m (k + 1)) 32 = M2 := ⟨_, rfl⟩
       have HOR : Bx ((((M1 : Int).toNat ||| ((2 : Int) ^ m).toNat : Nat) : Int) = (M2 : Int)) := Bx.mk (by
        rw [← hM2]
        exact either_member hlt HM.out (outP_yes t.deeds S m k d HD0.out (by rw [hitD_some d S m q HO.out, hs1]; rfl)))
       have HM2 := Bx.mk hM2.symm; have hM1 : M1 < 4294967296 := by rw [HM.out]; exact mset32_lt _
       rw [hs1]; clear hs1 hM2
       go_wp2_with fail
       refine (l1Either_any (M1 : Int) (2 ^ m) (by omega) (by omega) (by omega) (by omega) _).mono ?_; rw [HOR.out]; rintro e w5 ⟨rfl, rfl⟩; clear hp0 hp1 hM1 hpw; go_wp2
       go_roundw
       case rel => exact ⟨k + 1, M2, by omega, by go_num, rfl, HM2, HM3.out⟩
       case measure => simp [intOf]; omega
      ·have hs0 : bit S q = 0 := by have := bit_lt S q; omega
       have HM2 : Bx (M1 = mset (outP t.deeds S m (k + 1)) 32) := Bx.mk (HM.out.trans (outP_no _ _ _ _ d HD0.out (by rw [hitD_some d S m q HO.out, hs0]; rfl)).symm); rw [hs0]; clear hs1 hs0; go_wp2
       go_roundw
       case rel => exact ⟨k + 1, M1, by omega, by go_num, rfl, HM2, HM3.out⟩
       case measure => simp [intOf]; omega
    ·have HM2 : Bx (M1 = mset (upto (backP t.deeds (setP S)) (m + 1)) 32) := Bx.mk (HM.out.trans (outP_all _ _ _ _ (by rw [HDL.out]; omega))); go_wp2
     go_roundw
     case rel => exact ⟨m + 1, M1, by omega, by go_num, rfl, HM2, HMM.out⟩
     case measure => simp [intOf]; omega
  ·have HF : Bx (M = B) := Bx.mk (by rw [HM.out, show m = 32 by omega, mset_uptoN, HB.out]); go_wp2; go_ret; exact ⟨ret_int (by rw [HF.out]), HMM.out.below⟩
def newP (ds : List DeedD) (p : Nat → Bool) : Nat → Nat → Bool
 | 0, s => p s
 | m + 1, s => freshP ds p m s
def prvN (ds : List DeedD) (p : Nat → Bool) : Nat → Nat → Int
 | 0, _ => -1
 | m + 1, s => stpN ds p m s
theorem prv_yes {ds : List DeedD} {p : Nat → Bool} {m s N : Nat} (hs : s < 32) (hN : N = mset (newP ds p m) 32) (h : bit N s = 1) : (m : Int) = stpN ds p m s := by
 cases m with
 | zero =>
  have : p s = true := by
   have := bit_mset1 (newP ds p 0) hs
   rw [← hN, h] at this; exact this.symm
  simp [stpN, this]
 | succ m => exact fresh_yes hs hN h
theorem prv_no {ds : List DeedD} {p : Nat → Bool} {m s N : Nat} (hs : s < 32) (hN : N = mset (newP ds p m) 32) (h : bit N s = 0) : stpN ds p m s = prvN ds p m s := by
 cases m with
 | zero =>
  have : p s = false := by
   have := bit_mset1 (newP ds p 0) hs
   rw [← hN, h] at this; exact this.symm
  simp [stpN, prvN, this]
 | succ m => exact fresh_no hs hN h
theorem back_new {ds : List DeedD} {p : Nat → Bool} (m s : Nat) (h : layer ds p m s = false) : backP ds (newP ds p m) s = backP ds (layer ds p m) s := by
 cases m with
 | zero => rfl
 | succ m =>
  have h0 : backP ds (layer ds p m) s = false := by
   simp only [layer, Bool.or_eq_false_iff] at h; exact h.2
  rw [Bool.eq_iff_iff]
  constructor
  ·refine backP_mono fun s' hs' => ?_
   have : freshP ds p m s' = true := hs'
   unfold freshP at this
   simp only [Bool.and_eq_true] at this
   simp [layer, this.1]
  ·intro hb; obtain ⟨d, hd, s', e, hl⟩ := backP_iff.1 hb; refine backP_iff.2 ⟨d, hd, s', e, ?_⟩
   have h1 : layer ds p m s' = false := by
    cases e1 : layer ds p m s' with
    | false => rfl
    | true => rw [backP_iff.2 ⟨d, hd, s', e, e1⟩] at h0; cases h0
   show freshP ds p m s' = true
   simp only [layer, h1, Bool.false_or] at hl
   unfold freshP
   rw [hl, h1]; rfl
def nextP (ds : List DeedD) (p : Nat → Bool) (m : Nat) : Nat → Bool := newP ds p (m + 1)
theorem next_yes {ds : List DeedD} {p : Nat → Bool} {m s B : Nat} (hs : s < 32) (hB : B = mset (backP ds (newP ds p m)) 32) (h : bit B s = 1) (hn : stpN ds p m s < 0) : newP ds p (m + 1) s = true := by
 have hl : layer ds p m s = false := by
  cases e : layer ds p m s with
  | false => rfl
  | true => have := (stpN_nonneg (n := m)).2 e; omega
 have hb : backP ds (newP ds p m) s = true := by
  have := bit_mset1 (backP ds (newP ds p m)) hs
  rw [← hB, h] at this; exact this.symm
 show freshP ds p m s = true
 unfold freshP
 rw [← back_new m s hl, hb, hl]; rfl
theorem next_no {ds : List DeedD} {p : Nat → Bool} {m s B : Nat} (hs : s < 32) (hB : B = mset (backP ds (newP ds p m)) 32) (h : bit B s = 0 ∨ 0 ≤ stpN ds p m s) : newP ds p (m + 1) s = false := by
 show freshP ds p m s = false
 unfold freshP
 cases e : layer ds p m s with
 | true => simp
 | false =>
  rcases h with h | h
  ·have hb : backP ds (newP ds p m) s = false := by
    have := bit_mset1 (backP ds (newP ds p m)) hs
    rw [← hB, h] at this; exact this.symm
   rw [← back_new m s e, hb]; rfl
  ·rw [stpN_neg e] at h; omega
theorem least_done {ds : List DeedD} {p : Nat → Bool} {m : Nat} (hd : ∀ d ∈ ds, deedOk d = true) (h : mset (newP ds p m) 32 = 0) : (List.range 32).map (prvN ds p m) = stepsL ds p := by
 cases m with
 | succ m => exact steps_done hd h
 | zero =>
  have h0 := mset_zero.1 h
  have hf : fixedAt ds p 0 := by
   intro s hs hb; obtain ⟨d, hm, s', e, hp⟩ := backP_iff.1 hb
   have := h0 s' (deedDo_lt d s s' (hd d hm) hs e)
   have hp' : p s' = true := hp; have h1 : p s' = false := this; rw [hp'] at h1; cases h1
  unfold stepsL
  refine List.map_congr_left fun s hs => ?_
  rw [stpV_fixed hd hf (List.mem_range.1 hs)]; have : p s = false := h0 s (List.mem_range.1 hs)
  simp [prvN, stpN, this]
theorem least_next {ds : List DeedD} {p : Nat → Bool} {m : Nat} (h : mset (newP ds p m) 32 ≠ 0) (hc : ∀ j, m = j + 1 → j ≤ cnt (layer ds p j) 32) : ∀ j, m + 1 = j + 1 → j ≤ cnt (layer ds p j) 32 := fun j hj => by
 have : j = m := by omega
 subst this
 cases j with
 | zero => exact Nat.zero_le _
 | succ j => exact cnt_next h (hc j rfl)
theorem least_le {ds : List DeedD} {p : Nat → Bool} {m : Nat} (hc : ∀ j, m = j + 1 → j ≤ cnt (layer ds p j) 32) : m ≤ 33 := by
 cases m with
 | zero => omega
 | succ m => have := hc m rfl; have := cnt_le (layer ds p m) 32; omega
def stepsLeastR (t : TaskD) : List Int := if taskOk t then stepsL t.deeds (evalCode t.goal) else []
theorem stepsLeastR_no (t : TaskD) (h : taskOk t = false) : stepsLeastR t = [] := if_neg (by rw [h]; simp)
theorem stepsLeastR_yes (t : TaskD) (h : taskOk t = true) : stepsLeastR t = stepsL t.deeds (evalCode t.goal) := if_pos h
theorem stepsLeast_spec (v : Value) (t : TaskD) (w : World) (h : RdT w w.heap.size v t) :
  Calls Tryz.prog 158 #[v] w (Gives w id fun v => [rInts v (stepsLeastR t)]) := by
 have h' := h; obtain ⟨G, gn, gc, G', n', c', rfl, hg, hgs, hds, hst⟩ := h
 have S0 : St w ((w.alloc (.cells #[.int .i64 t.start, .slice G gn gc, .slice G' n' c'] 26)).alloc (.cells #[] 3)) [rBlk w.heap.size 26 #[.int .i64 t.start, .slice G gn gc, .slice G' n' c'], rInts (.slice (some ⟨w.heap.size + 1, 0, none⟩) 0 0) []] :=
  ((St.refl w).alloc #[.int .i64 t.start, .slice G gn gc, .slice G' n' c'] 26).call (St.newI _ _ (by simp))
 have HT := Lib.hid h'; have HG := Lib.hid hg; have HS0 := Lib.hid S0; clear S0 h' hg; obtain ⟨bo, hok⟩ : ∃ b, taskOk t = b := ⟨_, rfl⟩; have HOK := Lib.hid hok; clear hok hds
 cases bo with
 | false =>
  have HN := Lib.hid (stepsLeastR_no t HOK.out); go_enter Tryz.func158, Tryz.ntmps158
  go_wp2_with fail
  refine (taskValid_spec _ t _ (HT.out.up HS0.out.below)).mono ?_; rw [HOK.out]; rintro e w1 ⟨rfl, hb1⟩; have HS1 := Lib.hid (HS0.out.quiet hb1); clear hb1; go_wp2; go_ret; exact ⟨_, rfl, by rw [HN.out]; exact HS1.out.pick [1] (by decide) rfl rfl⟩
 | true =>
  obtain ⟨-, hgok, -, hdok⟩ := taskOk_parts t HOK.out; have HDOK := Lib.hid hdok; have HGOK := Lib.hid hgok; have HY := Bx.mk (stepsLeastR_yes t HOK.out); obtain ⟨N0, hN⟩ : ∃ N, truthN t.goal = N := ⟨_, rfl⟩; have HN := Bx.mk hN; have HTR := Bx.mk (codeTruth_yes t.goal HGOK.out); clear hdok hgok hN; go_enter Tryz.func158, Tryz.ntmps158
  go_wp2_with fail
  refine (taskValid_spec _ t _ (HT.out.up HS0.out.below)).mono ?_; rw [HOK.out]; rintro e w1 ⟨rfl, hb1⟩; have HS1 := Lib.hid (HS0.out.quiet hb1); clear hb1 HS0; go_wp2
  go_loopw [4, 3] (fun i ov wr => ∃ (k : Nat) (x3 : Value), k ≤ 32 ∧ i = .int .i64 k ∧ x3 = ov ∧ St w wr [rBlk w.heap.size 26 #[.int .i64 t.start, .slice G gn gc, .slice G' n' c'], rInts x3 (List.replicate k (-1))]) (fun i _ _ => 32 - (intOf i).toNat)
  case atStart => exact ⟨0, _, by omega, rfl, rfl, HS1.out⟩
  case round =>
   obtain ⟨k, x3, hk, rfl, rfl, M⟩ := hrel; have HM := Lib.hid M; clear M HS1
   by_cases hlt : k < 32
   ·have HROW : Hid (wr.ownsRow 0 3 1 x3 k (ints (List.replicate k (-1)))) := Lib.hid (by have := HM.out.ownI 1 rfl; rwa [List.length_replicate] at this)
    have HAP : Hid (∀ v3 w3, w3.ownsRow 0 3 1 v3 (k + 1) (ints (List.replicate k (-1)) ++ [Value.int .i64 (-1)]) → (wr.alloc (.cells #[.int .i64 (-1)] 3)).grownBy w3 x3.ownBlock → (v3.ownBlock = x3.ownBlock ∨ v3.ownBlock = some (wr.alloc (.cells #[.int .i64 (-1)] 3)).heap.size) →
      St w w3 [rBlk w.heap.size 26 #[.int .i64 t.start, .slice G gn gc, .slice G' n' c'], rInts v3 (List.replicate (k + 1) (-1))]) :=
     Lib.hid fun v3 w3 h1 h2 h3 => by
      have := St.appI (v := x3) (xs := List.replicate k (-1)) (ys := [-1]) ((HM.out.alloc #[.int .i64 (-1)] 3).pick [0, 1] (by decide) rfl rfl) 1 rfl (by simp) h1 (by intro y hy; simp at hy; subst hy; rfl) h2 h3
      rw [← List.replicate_succ'] at this; exact this
    go_wp2_with (at_builtin; refine wp_app elInt rfl _ _ rfl 0 x3 k (ints (List.replicate k (-1))) rfl (HROW.out.alloc _) _ _ 1 1 [.int .i64 (-1)] rfl (RdRow.new wr [.int .i64 (-1)] 3 1 1 rfl (by unfold maxLen; omega)) (by simp [Value.oneCell']) (by omega) (by omega) (Nat.zero_le _) ?_; intro v3 w3 hown3 hg3 hat3; have HS6 := Lib.hid (HAP.out v3 w3 hown3 hg3 hat3))
    go_wp2
    go_roundw
    case rel => exact ⟨k + 1, v3, by omega, by go_num, rfl, HS6.out⟩
    case measure => simp [intOf]; omega
   ·have hk32 : k = 32 := by omega
    have HM1 : Hid (St w wr [rBlk w.heap.size 26 #[.int .i64 t.start, .slice G gn gc, .slice G' n' c'], rInts x3 ((List.range 32).map (prvN t.deeds (evalCode t.goal) 0))]) := Lib.hid (by
     have := HM.out
     rw [hk32] at this
     exact this)
    obtain ⟨g, oc, hx3⟩ := HM1.out.formI 1 rfl (n := 32) (by simp) (by omega); subst hx3; have q1 := HM1.out.cells 0 rfl; clear HM hk32
    go_wp2_with fail
    refine (codeTruth_spec G gn gc t.goal _ (HG.out.up HM1.out.below) hgs).mono ?_; rw [HTR.out, HN.out]; rintro e w3 ⟨rfl, hb3⟩; have HS3 := Lib.hid (HM1.out.quiet hb3); clear q1 hb3 HM1; obtain ⟨p, hp⟩ : ∃ p, evalCode t.goal = p := ⟨_, rfl⟩; have HNP : Bx (N0 = mset (newP t.deeds p 0) 32) := Bx.mk (by rw [← HN.out, ← hp]; rfl); rw [hp] at HS3 HY; clear hp HN HTR; go_wp2
    try generalize decide ((k : Int) < 32) = dk
    go_loopw [5, 6] (fun nv mv wr => ∃ m N : Nat, nv = .int .i64 N ∧ mv = .int .i64 m ∧ Bx (N = mset (newP t.deeds p m) 32) ∧ Bx (∀ j, m = j + 1 → j ≤ cnt (layer t.deeds p j) 32) ∧ St w wr [rBlk w.heap.size 26 #[.int .i64 t.start, .slice G gn gc, .slice G' n' c'], rInts (.slice (some ⟨g, 0, none⟩) 32 oc) ((List.range 32).map (prvN t.deeds p m))]) (fun _ mv _ => 40 - (intOf mv).toNat)
    case atStart => exact ⟨0, N0, rfl, rfl, HNP, Bx.mk fun j hj => by omega, HS3.out⟩
    case round =>
     clear HNP HS3; obtain ⟨m, N, rfl, rfl, HN, HC, M⟩ := hrel; have hm33 := least_le HC.out; have HM := Lib.hid M; clear M; have hN32 : N < 4294967296 := by rw [HN.out]; exact mset32_lt _
     by_cases h0 : N = 0
     ·have HE := Bx.mk (least_done HDOK.out (by rw [← HN.out]; exact h0) : (List.range 32).map (prvN t.deeds p m) = stepsL t.deeds p); subst h0; go_wp2; go_ret; exact ⟨_, rfl, by rw [HY.out, ← HE.out]; exact HM.out.pick [1] (by decide) rfl rfl⟩
     ·have hz : (0 : Int) < (N : Int) := by omega
      have HC2 := Bx.mk (least_next (by rw [← HN.out]; exact h0) HC.out); have HM2 : Hid (St w wr [rBlk w.heap.size 26 #[.int .i64 t.start, .slice G gn gc, .slice G' n' c'], rInts (.slice (some ⟨g, 0, none⟩) 32 oc) (mixF (stpN t.deeds p m) (prvN t.deeds p m) 0)]) := Lib.hid (by rw [mixF_zero]; exact HM.out); clear h0 HM; go_wp2; clear hz
      try generalize decide ((0 : Int) < (N : Int)) = dn
      try generalize decide (0 < N) = dn2
      try generalize Value.bool (decide _) = dn3
      go_loopw [7] (fun i wr => ∃ k : Nat, k ≤ 32 ∧ i = .int .i64 k ∧ St w wr [rBlk w.heap.size 26 #[.int .i64 t.start, .slice G gn gc, .slice G' n' c'], rInts (.slice (some ⟨g, 0, none⟩) 32 oc) (mixF (stpN t.deeds p m) (prvN t.deeds p m) k)]) (fun i _ => 32 - (intOf i).toNat)
      case atStart => exact ⟨0, by omega, rfl, HM2.out⟩
      case round =>
       clear HM2; obtain ⟨k, hk, rfl, M⟩ := hrel; have HM := Lib.hid M; clear M
       by_cases hlt : k < 32
       ·go_wp2_with fail
        refine (l1Bit_nat N k (by omega) _).mono ?_; rintro e w5 ⟨rfl, rfl⟩
        by_cases hb1 : bit N k = 1
        ·obtain ⟨hc, hf⟩ := HM.out.cellI 1 rfl (mixF_len _ _ _) k _ (mixF_here _ _ k hlt); have HE := Bx.mk (prv_yes hlt HN.out hb1); have HST := Lib.hid (HM.out.storeI 1 rfl (mixF_len _ _ _) k (m : Int) (wf_i64_mk (by omega))); obtain ⟨v0, hv0⟩ : ∃ v0, prvN t.deeds p m k = v0 := ⟨_, rfl⟩; rw [hv0] at hc; rw [hb1]; clear hb1 hv0; go_wp2
         go_roundw
         case rel => exact ⟨k + 1, by omega, by go_num, by rw [← mixF_set _ _ k _ HE.out]; exact HST.out⟩
         case measure => simp [intOf]; omega
        ·have hb0 : bit N k = 0 := by have := bit_lt N k; omega
         have HE := Bx.mk (mixF_same (stpN t.deeds p m) (prvN t.deeds p m) k (prv_no hlt HN.out hb0)); rw [hb0]; clear hb1 hb0; go_wp2
         go_roundw
         case rel => exact ⟨k + 1, by omega, by go_num, by rw [HE.out]; exact HM.out⟩
         case measure => simp [intOf]; omega
       ·have HM3 : Hid (St w wr [rBlk w.heap.size 26 #[.int .i64 t.start, .slice G gn gc, .slice G' n' c'], rInts (.slice (some ⟨g, 0, none⟩) 32 oc) ((List.range 32).map (stpN t.deeds p m))]) := Lib.hid (by
         have := HM.out
         rw [show k = 32 by omega, mixF_all] at this
         exact this)
        have q3 := HM3.out.cells 0 rfl; clear HM; obtain ⟨B, hB⟩ : ∃ B, mset (backP t.deeds (setP N)) 32 = B := ⟨_, rfl⟩; have HB : Bx (B = mset (backP t.deeds (newP t.deeds p m)) 32) := Bx.mk (by rw [← hB, HN.out]; exact back_set HDOK.out _); have HBE := Bx.mk hB; clear hB
        go_wp2_with fail
        refine (statesBack_spec _ t N _ (HT.out.up HM3.out.below) HOK.out hN32).mono ?_; rw [HBE.out]; rintro e w6 ⟨rfl, hb6⟩; have HM4 := Lib.hid (HM3.out.quiet hb6); clear hb6 q3 HM3 HBE; go_wp2
        try generalize decide ((k : Int) < 32) = dk2
        go_loopw [9, 5] (fun i nv wr => ∃ k M : Nat, k ≤ 32 ∧ i = .int .i64 k ∧ nv = .int .i64 M ∧ M < 2 ^ k ∧ Bx (M = mset (upto (newP t.deeds p (m + 1)) k) 32) ∧ St w wr [rBlk w.heap.size 26 #[.int .i64 t.start, .slice G gn gc, .slice G' n' c'], rInts (.slice (some ⟨g, 0, none⟩) 32 oc) ((List.range 32).map (stpN t.deeds p m))]) (fun i _ _ => 32 - (intOf i).toNat)
        case atStart => exact ⟨0, 0, by omega, rfl, rfl, by omega, Bx.mk (mset_upto0 _ _).symm, HM4.out⟩
        case round =>
         clear HM4; obtain ⟨k, M, hk, rfl, rfl, hMk, HMM, MM⟩ := hrel; have HM := Lib.hid MM; have HMK := Bx.mk hMk; clear MM hMk
         by_cases hlt : k < 32
         ·have hpw := wrap_pow k (by omega); have hpl := pow32_lt hlt; obtain ⟨vk, hvk⟩ : ∃ vk, stpN t.deeds p m k = vk := ⟨_, rfl⟩; obtain ⟨hc, -⟩ := HM.out.cellI 1 rfl (by simp) k vk (by simp [hlt, hvk]); have HVK := Bx.mk hvk; clear hvk
          go_wp2_with fail
          refine (l1Bit_nat B k (by omega) _).mono ?_; rintro e w7 ⟨rfl, rfl⟩
          by_cases hb1 : bit B k = 1
          ·by_cases hneg : vk < 0
           ·obtain ⟨M2, hM2⟩ : ∃ M2, M + 2 ^ k = M2 := ⟨_, rfl⟩; have hadd : (M : Int) + 2 ^ k = (M2 : Int) := by rw [← hM2]; push_cast; rfl
            have HM2 : Bx (M2 = mset (upto (newP t.deeds p (m + 1)) (k + 1)) 32) := Bx.mk (by rw [← hM2, mset_upto_add _ 32 k hlt (next_yes hlt HB.out hb1 (by rw [HVK.out]; exact hneg)), ← HMM.out]); have hlt2 : M2 < 2 ^ (k + 1) := by rw [← hM2, Nat.pow_succ]; have := HMK.out; omega
            have hl2 : M2 < 4294967296 := by rw [HM2.out]; exact mset32_lt _
            have HL2 := Bx.mk hlt2; rw [hb1]; clear hM2 hlt2 hb1; go_wp2
            go_roundw
            case rel => exact ⟨k + 1, M2, by omega, by go_num, by first | rfl | go_num | (congr 1; rw [hadd]), HL2.out, HM2, HM.out⟩
            case measure => simp [intOf]; omega
           ·have HM2 : Bx (M = mset (upto (newP t.deeds p (m + 1)) (k + 1)) 32) := Bx.mk (HMM.out.trans (upto_same _ k (next_no hlt HB.out (.inr (by rw [HVK.out]; omega)))).symm); have HL2 : Bx (M < 2 ^ (k + 1)) := Bx.mk (by rw [Nat.pow_succ]; have := HMK.out; omega); rw [hb1]; clear hb1; go_wp2
            go_roundw
            case rel => exact ⟨k + 1, M, by omega, by go_num, rfl, HL2.out, HM2, HM.out⟩
            case measure => simp [intOf]; omega
          ·have hb0 : bit B k = 0 := by have := bit_lt B k; omega
           have HM2 : Bx (M = mset (upto (newP t.deeds p (m + 1)) (k + 1)) 32) := Bx.mk (HMM.out.trans (upto_same _ k (next_no hlt HB.out (.inl hb0))).symm); have HL2 : Bx (M < 2 ^ (k + 1)) := Bx.mk (by rw [Nat.pow_succ]; have := HMK.out; omega); rw [hb0]; clear hb1 hb0; go_wp2
           go_roundw
           case rel => exact ⟨k + 1, M, by omega, by go_num, rfl, HL2.out, HM2, HM.out⟩
           case measure => simp [intOf]; omega
         ·have HM2 : Bx (M = mset (newP t.deeds p (m + 1)) 32) := Bx.mk (by rw [HMM.out, show k = 32 by omega, mset_uptoN]); go_wp2
          go_roundw
          case rel => exact ⟨m + 1, M, rfl, by go_num, HM2, HC2, HM.out⟩
          case measure => simp [intOf]; omega
end Go.Proofs.YtkmcengmglgdeaaGreatDoor
