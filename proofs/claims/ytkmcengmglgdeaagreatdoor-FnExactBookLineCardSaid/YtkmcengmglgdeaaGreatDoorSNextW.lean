/- Joined texts: NextW, StepsOn, Reach, Count, PermD, StatesNext, FromS. -/
import Derived.Test.YtkmcengmglgdeaaGreatDoorSDraw
import Derived.Test.YtkmcengmglgdeaaGreatDoorSBack
import Derived.Test.YtkmcengmglgdeaaGreatDoorSPlanForW
import Derived.Test.YtkmcengmglgdeaaGreatDoorSPerm
import Derived.Test.YtkmcengmglgdeaaGreatDoorSStatesBack

namespace Go.Proofs.YtkmcengmglgdeaaGreatDoor
set_option linter.unusedVariables false
set_option linter.unusedSimpArgs false
set_option maxRecDepth 100000
set_option maxHeartbeats 8000000
open Go.ChangeShapes Go.WideShapes Go.ChangeAt Go.RowKit
def hitF (d : DeedD) (S m s : Nat) : Bool := (List.range m).any fun s' => bit S s' == 1 && deedDo d s' == some s
def partF (ds : List DeedD) (d : DeedD) (S m : Nat) (s : Nat) : Bool := fwdP ds (setP S) s || hitF d S m s
theorem fwdP_nil (S : Nat → Bool) (s : Nat) : fwdP [] S s = false := by simp [fwdP]
theorem partF_zero (ds : List DeedD) (d : DeedD) (S : Nat) : mset (partF ds d S 0) 32 = mset (fwdP ds (setP S)) 32 := mset_congr fun k _ => by simp [partF, hitF]
theorem hitF_succ (d : DeedD) (S m s : Nat) : hitF d S (m + 1) s = (hitF d S m s || (bit S m == 1 && deedDo d m == some s)) := by
 unfold hitF; rw [List.range_succ, List.any_append]; simp
theorem any_or {α : Type} (l : List α) (p q : α → Bool) : (l.any fun a => p a || q a) = (l.any p || l.any q) := by
 induction l with
 | nil => rfl
 | cons a l ih => simp only [List.any_cons, ih]; cases p a <;> cases q a <;> simp
theorem partF_all (ds : List DeedD) (d : DeedD) (S k : Nat) (h : ds[k]? = some d) : mset (partF (ds.take k) d S 32) 32 = mset (fwdP (ds.take (k + 1)) (setP S)) 32 := mset_congr fun s hs => by
 rw [take_succ' h]
 unfold partF hitF fwdP setP
 simp only [List.any_append, List.any_cons, List.any_nil, Bool.or_false, Bool.and_or_distrib_left]; rw [any_or]
theorem partF_no (ds : List DeedD) (d : DeedD) (S m : Nat) (h : bit S m = 1 → ∀ s, deedDo d m = some s → False) : mset (partF ds d S (m + 1)) 32 = mset (partF ds d S m) 32 := mset_congr fun s hs => by
 unfold partF
 rw [hitF_succ]
 have : (bit S m == 1 && deedDo d m == some s) = false := by
  rw [Bool.eq_false_iff]; intro hh; simp only [Bool.and_eq_true, beq_iff_eq] at hh; exact h hh.1 s hh.2
 rw [this, Bool.or_false]
theorem partF_yes (ds : List DeedD) (d : DeedD) (S m q : Nat) (h : deedDo d m = some q) (hb : bit S m = 1) : ∀ j, j < 32 → partF ds d S (m + 1) j = (partF ds d S m j || decide (q = j)) := fun j hj => by
 unfold partF
 rw [hitF_succ, h, hb, Bool.or_assoc]
 congr 1
theorem nextStates_any (A : Option Addr) (n c : Nat) (ds : List DeedD) (S : Nat) (w : World) (h : RdRow w w.heap.size 32 A n c (ints (behL ds))) (hn : ds.length = n) (hd : ∀ d ∈ ds, deedOk d = true) (hn6 : n ≤ 6) (hS : S < 4294967296) :
  Calls Tryz.prog 193 #[.slice A n c, .int .i64 S] w fun e w' => e = .returned (.int .i64 (mset (fwdP ds (setP S)) 32 : Nat)) ∧ Below w.heap.size w w' := by
 have HR := Lib.hid h; have HL := Lib.hid hn; have HDOK := Lib.hid hd; clear h hn hd; go_enter Tryz.func193, Tryz.ntmps193; go_wp2
 go_loopw [12, 5] (fun i sv wr => ∃ k M : Nat, k ≤ n ∧ i = .int .i64 k ∧ sv = .int .i64 M ∧ Hid (M = mset (fwdP (ds.take k) (setP S)) 32) ∧ Below w.heap.size w wr) (fun i _ _ => n - (intOf i).toNat)
 case atStart => exact ⟨0, 0, by omega, rfl, rfl, Lib.hid (mset_zero.2 fun s _ => fwdP_nil _ s).symm, Below.refl _ _⟩
 case round =>
  obtain ⟨k, M, hk, rfl, rfl, HM, hbel⟩ := hrel; have HB := Lib.hid hbel; clear hbel
  by_cases hlt : k < n
  ·obtain ⟨b, off, d, rfl, hb, hdk, hrow⟩ := beh_row HR.out HL.out hlt; have HLD : Hid (∀ j v, (rowOf d)[j]? = some v → wr.cell? ⟨b, off + k * 32 + j, none⟩ = some v) := Lib.hid fun j v hv => (bcells HB.out b _ hb).trans (hrow j v hv)
   have HDK := Lib.hid hdk; clear hrow hdk
   go_wp2_with (first
    | (refine wpList_load_arr 108 (.tmp 14) rfl rfl 3 32 undBeh b (off + k * 32) (rowOf d) rfl (by rw [rowOf_len]; exact infoBeh) HLD.out ?_)
    | (refine wpList_store_arr 108 (.tmp 7) (.tmp 15) rfl rfl _ (rowOf d) rfl rfl (by rw [rowOf_len]; exact infoBeh) (by rw [rowOf_len]; rfl) (by simp [rowOf, Value.oneCell']) ?_)
    | (refine wpList_load_arr 108 (.tmp 7) rfl rfl 3 32 undBeh wr.heap.size 0 (rowOf d) rfl (by rw [rowOf_len]; exact infoBeh) (by simp) ?_))
   have HM0 : Hid (M = mset (partF (ds.take k) d S 0) 32) := Lib.hid (HM.out.trans (partF_zero _ _ _).symm); have HDO := Lib.hid (HDOK.out d (List.mem_of_getElem? HDK.out)); have HB1 : Hid (Below w.heap.size w (wr.alloc (.cells (rowOf d).toArray 108))) := Lib.hid (HB.out.alloc HB.out.size _); have HRO := Lib.hid (rowOf_at d); have HLEN := Lib.hid (rowOf_len d)
   generalize rowOf d = R at HRO HLEN HB1 ⊢
   clear HLD HM
   go_loopw [17, 5] (fun i sv wr => ∃ m M : Nat, m ≤ 32 ∧ i = .int .i64 m ∧ sv = .int .i64 M ∧ Hid (M = mset (partF (ds.take k) d S m) 32) ∧ Below w.heap.size w wr) (fun i _ _ => 32 - (intOf i).toNat)
   case atStart => exact ⟨0, M, by omega, rfl, rfl, HM0, HB1.out⟩
   case round =>
    clear HM0 HB1 HB; obtain ⟨m, M1, hm32, rfl, rfl, HM, hbel⟩ := hrel; have HB := Lib.hid hbel; clear hbel
    by_cases hm : m < 32
    ·obtain ⟨o, ho⟩ : ∃ o, deedDo d m = o := ⟨_, rfl⟩; have hix := HRO.out m hm; rw [ho] at hix; have HIX := fun w => run_index_arr (P := Tryz.prog) (w := w) (xs := R) (k := m) (v := .int .i64 (opt o)) undBeh hix HLEN.out infoInt Tryz.underlying3
     have HO := Lib.hid ho; clear ho
     cases o with
     | none =>
      have HM2 : Hid (M1 = mset (partF (ds.take k) d S (m + 1)) 32) := Lib.hid (HM.out.trans (partF_no _ d S m (by rw [HO.out]; exact fun _ _ h => by cases h)).symm); simp only [opt] at HIX; go_wp2
      go_roundw
      case rel => exact ⟨m + 1, M1, by omega, by go_num, rfl, HM2, HB.out⟩
      case measure => simp [intOf]; omega
     | some q =>
      have hq := deedDo_lt d m q HDO.out hm HO.out; have hbit := and_one S m (by omega); simp only [opt] at HIX
      by_cases hs1 : bit S m = 1
      ·rw [hs1] at hbit; have hpw := wrap_pow q (by omega); have hor := or_member hq HM.out (partF_yes (ds.take k) d S m q HO.out hs1); clear hs1; go_wp2
       go_roundw
       case rel => exact ⟨m + 1, _, by omega, by go_num, rfl, Lib.hid rfl, HB.out⟩
       case measure => simp [intOf]; omega
      ·have hs0 : bit S m = 0 := by have := bit_lt S m; omega
       rw [hs0] at hbit; have HM2 : Hid (M1 = mset (partF (ds.take k) d S (m + 1)) 32) := Lib.hid (HM.out.trans (partF_no _ d S m (fun h _ _ => absurd (hs0.symm.trans h) (by decide))).symm); clear hs1 hs0; go_wp2
       go_roundw
       case rel => exact ⟨m + 1, M1, by omega, by go_num, rfl, HM2, HB.out⟩
       case measure => simp [intOf]; omega
    ·have HM2 : Hid (M1 = mset (fwdP (ds.take (k + 1)) (setP S)) 32) := Lib.hid (by rw [HM.out, show m = 32 by omega]; exact partF_all ds d S k HDK.out); go_wp2
     go_roundw
     case rel => exact ⟨k + 1, M1, by omega, by go_num, rfl, HM2, HB.out⟩
     case measure => simp [intOf]; omega
  ·have HF : Hid (M = mset (fwdP ds (setP S)) 32) := Lib.hid (by
    rw [HM.out, List.take_of_length_le (by rw [HL.out]; omega)])
   go_wp2; go_ret; exact ⟨ret_int (by rw [HF.out]), HB.out⟩
def only (s0 : Nat) : Nat → Bool := fun s => decide (s0 = s)
theorem mset_only {s0 : Nat} (h : s0 < 32) : mset (only s0) 32 = 2 ^ s0 := by
 have := mset_or_bit (fun _ => false) 32 s0 h
 rw [show mset (fun _ => false) 32 = 0 from mset_zero.2 fun _ _ => rfl, Nat.zero_or] at this; rw [this]; exact mset_congr fun k _ => by simp [only]
def distL (ds : List DeedD) (p : Nat → Bool) : List Int := (List.range 32).map (dstV ds p)
theorem fwd_set {ds : List DeedD} (p : Nat → Bool) : mset (fwdP ds (setP (mset p 32))) 32 = mset (fwdP ds p) 32 := mset_congr fun s hs => fwdP_congr (setP_mset p)
def freshF (ds : List DeedD) (p : Nat → Bool) (m : Nat) : Nat → Bool := fun s => fwdP ds (fwd ds p m) s && !fwd ds p m s
def reached (t : TaskD) : Int := if taskOk t then (mset (fwd t.deeds (only t.start.toNat) 32) 32 : Nat) else -1
theorem reached_no (t : TaskD) (h : taskOk t = false) : reached t = -1 := if_neg (by rw [h]; simp)
theorem reached_yes (t : TaskD) (h : taskOk t = true) (s : Nat) (hs : t.start = (s : Int)) : reached t = (mset (fwd t.deeds (only s) 32) 32 : Nat) := by unfold reached; rw [if_pos h, hs, Int.toNat_natCast]
def leadsTo (t : TaskD) : Int := if taskOk t then (mset (layer t.deeds (evalCode t.goal) 32) 32 : Nat) else -1
def stepsLeast (t : TaskD) : List Int := if taskOk t then stepsL t.deeds (evalCode t.goal) else []
def stepsFrom (t : TaskD) : List Int := if taskOk t then distL t.deeds (only t.start.toNat) else []
theorem fwd_or {ds : List DeedD} {p : Nat → Bool} {m M N : Nat} (hM : M = mset (fwd ds p m) 32) (hN : N = mset (fwdP ds (fwd ds p m)) 32) : bits .or .i64 (M : Int) (N : Int) = ((mset (fwd ds p (m + 1)) 32 : Nat) : Int) := by
 have h1 := mset32_lt (fwd ds p m); have h2 := mset32_lt (fwdP ds (fwd ds p m)); rw [i64_or_nat _ _ (by omega) (by omega), hM, hN, mset_or]; rfl
theorem fwd_le {ds : List DeedD} {p : Nat → Bool} {m : Nat} : mset (fwd ds p m) 32 ≤ mset (fwd ds p (m + 1)) 32 := by
 have : mset (fwd ds p (m + 1)) 32 = mset (fwd ds p m) 32 ||| mset (fwdP ds (fwd ds p m)) 32 := by rw [mset_or]; rfl
 rw [this]; exact Nat.left_le_or
theorem fwd_end {ds : List DeedD} {p : Nat → Bool} {m : Nat} (hm : m ≤ 32) (h : mset (fwd ds p (m + 1)) 32 = mset (fwd ds p m) 32) : mset (fwd ds p m) 32 = mset (fwd ds p 32) 32 := by
 have hf : ffixedAt ds p m := fun s hs hb => by
  have := mset_inj h s hs
  rw [← this]; simp [fwd, hb]
 exact mset_congr fun s hs => by
  have := ffixed_fwd hf (32 - m) s hs
  rwa [show m + (32 - m) = 32 by omega, eq_comm] at this
theorem fwd_grow {ds : List DeedD} {p : Nat → Bool} {m : Nat} (h : mset (fwd ds p (m + 1)) 32 ≠ mset (fwd ds p m) 32) (hc : m ≤ cnt (fwd ds p m) 32) : m + 1 ≤ cnt (fwd ds p (m + 1)) 32 := by
 have hf : ¬ ffixedAt ds p m := fun hf => h (mset_congr fun s hs => by
  simp only [fwd]
  cases hb : fwdP ds (fwd ds p m) s with
  | false => simp
  | true => rw [hf s hs hb]; rfl)
 have := cnt_growF hf; omega
def deedDoZ (d : DeedD) (s : Int) : Int := if deedOk d = true ∧ stIn s = true then opt (deedDo d s.toNat) else -1
theorem reached_impl (v : Value) (t : TaskD) (w : World) (h : RdT w w.heap.size v t) :
  Calls Tryz.prog 167 #[v] w fun e w' => e = .returned (.int .i64 (reached t)) ∧ Below w.heap.size w w' := by
 have h' := h; obtain ⟨G, gn, gc, G', n', c', rfl, hg, hgs, hds, hst⟩ := h; have S0 := (St.refl w).alloc #[.int .i64 t.start, .slice G gn gc, .slice G' n' c'] 26; have HT := Lib.hid h'; have HG := Lib.hid hg; have HS0 := Lib.hid S0; have HDL := Lib.hid hds.len; clear S0 h' hg hds; obtain ⟨bo, hok⟩ : ∃ b, taskOk t = b := ⟨_, rfl⟩; have HOK := Lib.hid hok; clear hok
 cases bo with
 | false =>
  have HPN := Bx.mk (reached_no t HOK.out); go_enter Tryz.func167, Tryz.ntmps167
  go_wp2_with fail
  refine (taskValid_impl _ t _ (HT.out.up HS0.out.below)).mono ?_; rw [HOK.out]; rintro e w1 ⟨rfl, hb1⟩; have HB := Lib.hid (HS0.out.quiet hb1).below; clear hb1; go_wp2; go_ret; exact ⟨ret_int HPN.out.symm, HB.out⟩
 | true =>
  obtain ⟨hs0, hgok, hn6, hdok⟩ := taskOk_parts t HOK.out; obtain ⟨s0, hst0⟩ := Int.eq_ofNat_of_zero_le hs0.1; have HDOK := Lib.hid hdok; have HGOK := Lib.hid hgok; have hs32 : s0 < 32 := by omega
  have hpw0 := wrap_pow s0 (by omega); have hpwi : IntKind.i64.wrap ((2 : Int) ^ s0) = 2 ^ s0 := IntWalk.i64_in _ (by have := pow_le_int s0 31 (by omega); have : (0 : Int) < 2 ^ s0 := Int.pow_pos (by omega); omega); have HTR := Bx.mk (codeTruth_yes t.goal HGOK.out); have hn6' : n' ≤ 6 := by rw [← HDL.out]; exact hn6
  have HPY := Bx.mk (reached_yes t HOK.out s0 hst0); rw [hst0] at HS0 ⊢
  clear hdok hgok hs0 hn6; go_enter Tryz.func167, Tryz.ntmps167
  go_wp2_with fail
  refine (taskValid_impl _ t _ (by rw [← hst0]; rw [← hst0] at HS0; exact HT.out.up HS0.out.below)).mono ?_; rw [HOK.out]; rintro e w1 ⟨rfl, hb1⟩; have HST0 := Bx.mk hst0; have HS1 := Lib.hid (HS0.out.quiet hb1); clear hb1 HS0
  go_upto_region 3 with (fail)
  refine wpr (σ := Value)
   (fun s i => match i with
    | 0 => .agg #[.int .i64 s0, .slice G gn gc, .slice G' n' c']
    | 1 => s
    | 2 => .pointer (some ⟨w.heap.size, 0, none⟩)
    | 3 => .int .i64 s0
    | 4 => .int .i64 (2 ^ s0)
    | 5 => s
    | 6 => .int .i64 (2 ^ s0)
    | _ => undef)
   (fun D s wx => Sn w wx fun i => match i with
    | 0 => some (rBlk w.heap.size 26 #[.int .i64 s0, .slice G gn gc, .slice G' n' c'])
    | 1 => if D 1 = true then some (rBeh s t.deeds) else none
    | _ => none)
   undef ?_ ?_ ?_
  ·intro D hD; refine ((Sn.of_st HS1.out).quiet ((Below.refl _ _).drew)).congr fun i => ?_
   match i with
   | 0 => rfl
   | 1 => exact if_neg (by rw [hD 1 (by decide)]; simp)
   | q + 2 => rfl
  ·refine Cs (fun D s wx hR _ hd _ _ hs K hK => ?_) ?_
   ·have e1 := hs.o 1 (.pointer (some ⟨w.heap.size, 0, none⟩)); clear hs; have qk := (hR.blk 0 rfl).cell; go_simp; exact hK s wx sv hR
   refine Cs (fun D s wx hR (hDi : D 1 = false) hd hsh _ hs K hK => ?_) ?_
   ·have e9 := hs.v 0 9 hd; have g9 := getQ e9; clear hs; have n5 : D 5 = false := hsh.no hDi 5 rfl ⟨1, .data⟩ (by simp) rfl rfl; go_simp; refine (behindAll_any _ t _ (by have := HT.out.up hR.below; rw [HST0.out] at this; exact this) HOK.out).mono ?_; rintro e2 w2 ⟨v2, rfl, s2⟩
    refine hK v2 w2
     (fun j hj => by
      match j, hj with
      | 0, hj => rfl
      | 1, hj => rw [hDi] at hj; cases hj
      | 2, hj | 3, hj | 4, hj => rfl
      | 5, hj => rw [n5] at hj; cases hj
      | 6, hj => rfl
      | _ + 7, hj => rfl)
     ((hR.add 1 (if_neg (by rw [hDi]; simp)) s2).congr
      (fun i => by
       match i with
       | 0 | 1 => rfl
       | q + 2 => exact (if_neg (show ¬ (q + 2 = 1) by omega)).symm))
   refine Cs (fun D s wx hR _ hd _ _ hs K hK => ?_) ?_
   ·have e1 := hs.o 1 (.pointer (some ⟨w.heap.size, 0, none⟩)); clear hs; go_simp; exact hK s wx sv hR
   refine Cs (fun D s wx hR _ hd _ _ hs K hK => ?_) ?_
   ·have e11 := hs.v 2 11 hd; clear hs; have qk := (hR.blk 0 rfl).cell; go_simp; exact hK s wx sv hR
   refine Cs (fun D s wx hR _ hd _ _ hs K hK => ?_) ?_
   ·have e12 := hs.v 3 12 hd; clear hs; go_simp; exact hK s wx sv hR
   refine Cs (fun D s wx hR _ hd _ _ hs K hK => ?_) ?_
   ·have e10 := hs.v 1 10 hd; clear hs; go_simp; exact hK s wx sv hR
   refine Cs (fun D s wx hR _ hd _ _ hs K hK => ?_) ?_
   ·have e13 := hs.v 4 13 hd; clear hs; go_simp; exact hK s wx sv hR
   exact StepAll.nil
  ·intro D s wx hR hD; simp only [putA, Act.put, List.setIfInBounds_toArray, List.set_cons_zero, List.set_cons_succ]; have HS2 : Hid (St w wx [rBlk w.heap.size 26 #[.int .i64 s0, .slice G gn gc, .slice G' n' c'], rBeh s t.deeds]) := Lib.hid (hR.to_st [0, 1] (by decide) (by simp only [List.map, hD 1 (by decide)]; rfl)); clear hR hD; obtain ⟨RA, RC, hrv, -⟩ := HS2.out.rdRow 1 rfl; rw [HDL.out] at hrv; subst hrv; have HRB : Hid (∀ W L, St w W (rBlk w.heap.size 26 #[.int .i64 s0, .slice G gn gc, .slice G' n' c'] :: rBeh (.slice RA n' RC) t.deeds :: L) → RdRow W W.heap.size 32 RA n' RC (ints (behL t.deeds))) := Lib.hid fun W L h => h.rdRow' (n := n') 1 (by rw [← HDL.out]; rfl)
   have hP0 : (2 : Int) ^ s0 = ((mset (fwd t.deeds (only s0) 0) 32 : Nat) : Int) := by
    rw [show mset (fwd t.deeds (only s0) 0) 32 = mset (only s0) 32 from rfl, mset_only hs32]; simp
   rw [hP0]; clear hP0 hpw0 hpwi; go_wp2
   go_loopw [4] (fun sv wr => ∃ m M : Nat, m ≤ 32 ∧ sv = .int .i64 M ∧ Bx (M = mset (fwd t.deeds (only s0) m) 32) ∧ Bx (m ≤ cnt (fwd t.deeds (only s0) m) 32) ∧ M < 4294967296 ∧ St w wr [rBlk w.heap.size 26 #[.int .i64 s0, .slice G gn gc, .slice G' n' c'], rBeh (.slice RA n' RC) t.deeds]) (fun sv _ => 4294967296 - (intOf sv).toNat)
   case atStart => exact ⟨0, _, by omega, rfl, Bx.mk rfl, Bx.mk (Nat.zero_le _), mset32_lt _, HS2.out⟩
   case round =>
    clear HS2; obtain ⟨m, M, hm, rfl, HM, HC, hM, S⟩ := hrel; have HS := Lib.hid S; clear S
    go_wp2_with fail
    refine (nextStates_any RA n' RC t.deeds M _ (HRB.out _ _ HS.out) HDL.out HDOK.out hn6' hM).mono ?_; obtain ⟨N, hN⟩ : ∃ N, mset (fwdP t.deeds (setP M)) 32 = N := ⟨_, rfl⟩; obtain ⟨M2, hM2⟩ : ∃ M2, mset (fwd t.deeds (only s0) (m + 1)) 32 = M2 := ⟨_, rfl⟩; have HOR : bits .or .i64 (M : Int) (N : Int) = (M2 : Int) := by rw [fwd_or HM.out (by rw [← hN, HM.out]; exact fwd_set _), hM2]
    have hle : M ≤ M2 := by rw [← hM2, HM.out]; exact fwd_le
    have hM2l : M2 < 4294967296 := by rw [← hM2]; exact mset32_lt _
    have HM2 := Bx.mk hM2; rw [hN]; rintro e w3 ⟨rfl, hb3⟩; have HS3 := Lib.hid (HS.out.quiet hb3); clear hb3 hN hM2
    by_cases he : M2 = M
    ·have HF : Bx (mset (fwd t.deeds (only s0) m) 32 = mset (fwd t.deeds (only s0) 32) 32) := Bx.mk (fwd_end hm (by rw [HM2.out, ← HM.out]; exact he)); subst he; go_wp2; go_ret; exact ⟨ret_int (by rw [HPY.out, ← HF.out, ← HM.out]), HS3.out.below⟩
    ·have hne : ((M2 : Int) == (M : Int)) = false := by simp; omega
     have HC2 : Bx (m + 1 ≤ cnt (fwd t.deeds (only s0) (m + 1)) 32) := Bx.mk (fwd_grow (by rw [HM2.out, ← HM.out]; exact he) HC.out); have hm2 : m + 1 ≤ 32 := by have := cnt_le (fwd t.deeds (only s0) (m + 1)) 32; have := HC2.out; omega
     have hlt : M < M2 := by omega
     clear he hle; go_wp2
     go_roundw
     case rel => exact ⟨m + 1, M2, hm2, rfl, Bx.mk HM2.out.symm, HC2, hM2l, HS3.out⟩
     case measure => simp [intOf]; omega
def sumR : Nat → (Nat → Int) → Int
 | 0, _ => 0
 | n + 1, f => sumR n f + f n
def sumL {α : Type} (l : List α) (f : α → Int) : Int := (l.map f).sum
def fwN (ds : List DeedD) (s0 : Nat) : Nat → Nat → Int
 | 0, s => if s = s0 then 1 else 0
 | n + 1, s => sumR 32 fun s' => sumL ds fun d => if deedDo d s' = some s then fwN ds s0 n s' else 0
section
variable {ds : List DeedD} {S : Nat → Bool} {s0 : Nat}
end
def wrap (x : Int) : Int := (x + 9223372036854775808) % 18446744073709551616 - 9223372036854775808
def addN (ds : List DeedD) (s0 k : Nat) (s' s : Nat) (d : DeedD) : Int := if dstV ds (only s0) s' = (k : Int) ∧ deedDo d s' = some s then fwN ds s0 k s' else 0
def partN (ds : List DeedD) (s0 k st j s : Nat) : Int := sumR st (fun s' => sumL ds (addN ds s0 k s' s)) + sumL (ds.take j) (addN ds s0 k st s)
def waysW (ds : List DeedD) (s0 k st j s : Nat) : Int :=
 if dstV ds (only s0) s = ((k + 1 : Nat) : Int) then wrap (partN ds s0 k st j s) else if 0 ≤ dstV ds (only s0) s ∧ dstV ds (only s0) s ≤ k then wrap (fwN ds s0 (dstV ds (only s0) s).toNat s) else 0
section
variable {ds : List DeedD} {S : Nat → Bool} {s0 : Nat}
end
theorem ownsRow_take {w : World} {base : Nat} {e : TypeId} {A : Option Addr} {n c m : Nat} {xs : List Value} (h : w.ownsRow base e 1 (.slice A n c) n xs) (hm : m ≤ n) : w.ownsRow base e 1 (.slice A m c) m (xs.take m) := by
 obtain ⟨h1, h2⟩ := h; refine ⟨by rw [List.length_take, h1]; omega, ?_⟩
 rcases h2 with ⟨hv, hn⟩ | ⟨g, cap, cur, hv, hb, hg, h3, h4, h5, h6⟩
 ·simp only [Value.slice.injEq] at hv; obtain ⟨rfl, rfl, rfl⟩ := hv; obtain rfl : m = 0 := by omega
  exact .inl ⟨rfl, rfl⟩
 ·simp only [Value.slice.injEq] at hv; obtain ⟨rfl, -, rfl⟩ := hv; refine .inr ⟨g, c, cur, rfl, hb, hg, by omega, h4, h5, ?_⟩; rw [← h6, List.take_take]
  congr 1
  omega
theorem RdI.dropAt {k : IntKind} {w : World} {B g n c : Nat} {xs : List Int} (h : RdI k w B (some ⟨g, 0, none⟩) n c xs) (m : Nat) (hm : m ≤ n) : RdI k w B (some ⟨g, m, none⟩) (n - m) (c - m) (xs.drop m) := by
 refine ⟨by rw [List.length_drop, h.len], by have := h.cap; omega, by have := h.capMax; omega, fun x hx => h.wf x (List.mem_of_mem_drop hx), fun hp => ?_⟩; obtain ⟨b, off, e, hb, hc⟩ := h.at_ (by omega); simp only [Option.some.injEq, Addr.mk.injEq, and_true] at e; obtain ⟨rfl, rfl⟩ := e; refine ⟨_, _, rfl, hb, fun i x hx => ?_⟩; rw [List.getElem?_drop] at hx
 have := hc (m + i) x hx
 simpa [Nat.zero_add] using this
def preF (ds : List DeedD) (S m s : Nat) : Bool := (List.range m).any fun s' => setP S s' && ds.any fun d => deedDo d s' == some s
def outF (ds : List DeedD) (S m k s : Nat) : Bool := preF ds S m s || (setP S m && (ds.take k).any fun d => deedDo d m == some s)
theorem preF_0 (ds : List DeedD) (S : Nat) : mset (preF ds S 0) 32 = 0 := mset_zero.2 fun s _ => by simp [preF]
theorem preF_all (ds : List DeedD) (S : Nat) : mset (preF ds S 32) 32 = mset (fwdP ds (setP S)) 32 := rfl
theorem preF_succ (ds : List DeedD) (S m s : Nat) : preF ds S (m + 1) s = (preF ds S m s || (setP S m && ds.any fun d => deedDo d m == some s)) := by
 unfold preF
 rw [List.range_succ, List.any_append]
 simp
theorem outF_zero (ds : List DeedD) (S m : Nat) : mset (outF ds S m 0) 32 = mset (preF ds S m) 32 := mset_congr fun s _ => by simp [outF]
theorem outF_all (ds : List DeedD) (S m k : Nat) (hk : ds.length ≤ k) : mset (outF ds S m k) 32 = mset (preF ds S (m + 1)) 32 := mset_congr fun s _ => by
 unfold outF; rw [preF_succ, List.take_of_length_le hk]
theorem outF_off (ds : List DeedD) (S m k : Nat) (h : setP S m = false) : mset (outF ds S m k) 32 = mset (preF ds S (m + 1)) 32 := mset_congr fun s _ => by
 unfold outF; rw [preF_succ, h]; rfl
theorem outF_no (ds : List DeedD) (S m k : Nat) (d : DeedD) (h : ds[k]? = some d) (hh : deedDo d m = none) : mset (outF ds S m (k + 1)) 32 = mset (outF ds S m k) 32 := mset_congr fun s _ => by
 unfold outF
 rw [take_succ' h, List.any_append]
 simp [hh]
theorem outF_yes (ds : List DeedD) (S m k q : Nat) (d : DeedD) (h : ds[k]? = some d) (hh : deedDo d m = some q) (hS : setP S m = true) : ∀ s, s < 32 → outF ds S m (k + 1) s = (outF ds S m k s || decide (q = s)) := fun s _ => by
 unfold outF
 have e : (some q == some s) = decide (q = s) := by rw [Bool.eq_iff_iff]; simp
 rw [take_succ' h, List.any_append, hS]; simp only [List.any_cons, List.any_nil, Bool.or_false, hh, Bool.true_and, Bool.or_assoc, e]
theorem statesNext_spec (v : Value) (t : TaskD) (S : Nat) (w : World) (h : RdT w w.heap.size v t) (hok : taskOk t = true) (hS : S < 4294967296) :
  Calls Tryz.prog 160 #[v, .int .i64 S] w fun e w' => e = .returned (.int .i64 (mset (fwdP t.deeds (setP S)) 32 : Nat)) ∧ Below w.heap.size w w' := by
 have h' := h; obtain ⟨G, gn, gc, G', n', c', rfl, hg, hgs, hds, hst⟩ := h; have S0 := (St.refl w).alloc #[.int .i64 t.start, .slice G gn gc, .slice G' n' c'] 26; have HT := Lib.hid (h'.up S0.below); have HS0 := Lib.hid S0; have HOK := Lib.hid hok; have HDL := Lib.hid hds.len; have HDS := Lib.hid hds; obtain ⟨-, -, hn6, hdok⟩ := taskOk_parts t hok; have HDOK := Lib.hid hdok; have hn6' : n' ≤ 6 := by rw [← hds.len]; exact hn6
 obtain ⟨B, hB⟩ : ∃ B, mset (fwdP t.deeds (setP S)) 32 = B := ⟨_, rfl⟩; have HB := Bx.mk hB; rw [hB]; clear S0 h' hok hds hn6 hdok hB hg; go_enter Tryz.func160, Tryz.ntmps160
 go_wp2_with fail
 refine (taskValid_spec _ t _ HT.out).mono ?_; rw [HOK.out]; rintro e w1 ⟨rfl, hb1⟩; have HS1 := Lib.hid (HS0.out.quiet hb1); clear hb1
 go_wp2_with fail
 refine (l1In_yes (S : Int) 0 4294967295 _ (by omega) (by omega)).mono ?_; rintro e w2 ⟨rfl, rfl⟩; go_wp2
 go_loopw [6, 5] (fun i sv wr => ∃ m M : Nat, m ≤ 32 ∧ i = .int .i64 m ∧ sv = .int .i64 M ∧ Bx (M = mset (preF t.deeds S m) 32) ∧ St w wr [rBlk w.heap.size 26 #[.int .i64 t.start, .slice G gn gc, .slice G' n' c']]) (fun i _ _ => 32 - (intOf i).toNat)
 case atStart => exact ⟨0, 0, by omega, rfl, rfl, Bx.mk (preF_0 _ _).symm, HS1.out⟩
 case round =>
  obtain ⟨m, M, hm, rfl, rfl, HM, MM⟩ := hrel; have HMM := Lib.hid MM; clear MM
  by_cases hlt : m < 32
  ·have HM0 : Bx (M = mset (outF t.deeds S m 0) 32) := Bx.mk (HM.out.trans (outF_zero _ _ _).symm); clear HM; go_wp2
   try generalize decide ((m : Int) < 32) = dm
   go_loopw [7, 5] (fun i sv wr => ∃ k M : Nat, k ≤ n' ∧ i = .int .i64 k ∧ sv = .int .i64 M ∧ Bx (M = mset (outF t.deeds S m k) 32) ∧ St w wr [rBlk w.heap.size 26 #[.int .i64 t.start, .slice G gn gc, .slice G' n' c']]) (fun i _ _ => n' - (intOf i).toNat)
   case atStart => exact ⟨0, M, by omega, rfl, rfl, HM0, HMM.out⟩
   case round =>
    clear HM0 HMM; obtain ⟨k, M1, hk, rfl, rfl, HM, MM⟩ := hrel; have q0 := MM.cells 0 rfl; have HMM := Lib.hid MM; clear MM
    by_cases hkn : k < n'
    ·by_cases hs1 : bit S m = 1
     case neg =>
      have hs0 : bit S m = 0 := by have := bit_lt S m; omega
      have HM2 : Bx (M1 = mset (preF t.deeds S (m + 1)) 32) := Bx.mk (HM.out.trans (outF_off _ _ _ _ (by unfold setP; rw [hs0]; rfl)))
      go_wp2_with fail
      refine (l1Bit_nat S m (by omega) _).mono ?_; rw [hs0]; rintro e w4 ⟨rfl, rfl⟩; clear hs1 hs0; go_wp2
      go_roundw
      case rel => exact ⟨m + 1, M1, by omega, by go_num, rfl, HM2, HMM.out⟩
      case measure => simp [intOf]; omega
     obtain ⟨b, off, d, rfl, hb, hd, hda⟩ := HDS.out.get hkn; obtain ⟨An, nn, cn, p0, p1, p2, p3, hneed, hnn, -⟩ := hda; have r0 : wr.cell? ⟨b, off + k * 4, none⟩ = some (.slice An nn cn) := (bcells HMM.out.below b _ hb).trans p0; have r1 : wr.cell? ⟨b, off + k * 4 + 1, none⟩ = some (.int .i64 d.on) := (bcells HMM.out.below b _ hb).trans p1; have r2 : wr.cell? ⟨b, off + k * 4 + 2, none⟩ = some (.int .i64 d.off) := (bcells HMM.out.below b _ hb).trans p2; have r3 : wr.cell? ⟨b, off + k * 4 + 3, none⟩ = some (.int .i64 d.flip) := (bcells HMM.out.below b _ hb).trans p3; have HDK := Lib.hid (HDOK.out d (List.mem_of_getElem? hd)); have HD0 := Lib.hid hd; have HND := Lib.hid hneed; obtain ⟨o, ho⟩ : ∃ o, deedDo d m = o := ⟨_, rfl⟩; have HO := Lib.hid ho; have HSP : Bx (setP S m = true) := Bx.mk (by unfold setP; rw [hs1]; rfl); clear p0 p1 p2 p3 hneed hd ho
     go_wp2_with fail
     refine (l1Bit_nat S m (by omega) _).mono ?_; rw [hs1]; rintro e w4 ⟨rfl, rfl⟩; clear hs1
     go_wp2_with fail
     refine (l6Do_any An nn cn d m _ (HND.out.up HMM.out.below) HDK.out hlt).mono ?_; rw [HO.out]; rintro e w3 ⟨rfl, hb3⟩; have HM3 := Lib.hid (HMM.out.quiet hb3); clear hb3 q0 r0 r1 r2 r3
     cases o with
     | none =>
      have HM2 : Bx (M1 = mset (outF t.deeds S m (k + 1)) 32) := Bx.mk (HM.out.trans (outF_no _ _ _ _ d HD0.out HO.out).symm); simp only [opt]; go_wp2
      go_roundw
      case rel => exact ⟨k + 1, M1, by omega, by go_num, rfl, HM2, HM3.out⟩
      case measure => simp [intOf]; omega
     | some q =>
      have hq := deedDo_lt d m q HDK.out hlt HO.out; simp only [opt]; have hpw := wrap_pow q (by omega); obtain ⟨hp0, hp1⟩ := pow_int_lt hq; obtain ⟨M2, hM2⟩ : ∃ M2, mset (outF t.deeds S m (k + 1)) 32 = M2 := ⟨_, rfl⟩
      have HOR : Bx ((((M1 : Int).toNat ||| ((2 : Int) ^ q).toNat : Nat) : Int) = (M2 : Int)) := Bx.mk (by
       rw [← hM2]
       exact either_member hq HM.out (outF_yes t.deeds S m k q d HD0.out HO.out HSP.out))
      have HM2 := Bx.mk hM2.symm; have hM1 : M1 < 4294967296 := by rw [HM.out]; exact mset32_lt _
      clear hM2
      go_wp2_with fail
      refine (l1Either_any (M1 : Int) (2 ^ q) (by omega) (by omega) (by omega) (by omega) _).mono ?_; rw [HOR.out]; rintro e w5 ⟨rfl, rfl⟩; clear hp0 hp1 hM1 hpw; go_wp2
      go_roundw
      case rel => exact ⟨k + 1, M2, by omega, by go_num, rfl, HM2, HM3.out⟩
      case measure => simp [intOf]; omega
    ·have HM2 : Bx (M1 = mset (preF t.deeds S (m + 1)) 32) := Bx.mk (HM.out.trans (outF_all _ _ _ _ (by rw [HDL.out]; omega))); go_wp2
     go_roundw
     case rel => exact ⟨m + 1, M1, by omega, by go_num, rfl, HM2, HMM.out⟩
     case measure => simp [intOf]; omega
  ·have HF : Bx (M = B) := Bx.mk (by rw [HM.out, show m = 32 by omega, preF_all, HB.out]); go_wp2; go_ret; exact ⟨ret_int (by rw [HF.out]), HMM.out.below⟩
def newF (ds : List DeedD) (p : Nat → Bool) : Nat → Nat → Bool
 | 0, s => p s
 | m + 1, s => freshF ds p m s
def prvF (ds : List DeedD) (p : Nat → Bool) : Nat → Nat → Int
 | 0, _ => -1
 | m + 1, s => dstN ds p m s
end Go.Proofs.YtkmcengmglgdeaaGreatDoor
