/- Joined texts: Most, ShadI. -/
import Derived.Test.YtkimgdfcgfhibaaDoorSNumL
import Derived.Test.YtkimgdfcgfhibaaDoorSStepsOn
import Derived.Test.YtkimgdfcgfhibaaDoorSTurnP
import Derived.Test.YtkimgdfcgfhibaaDoorSTDraw
import Derived.Test.YtkimgdfcgfhibaaDoorSAgree
/- mostForNone, NumbersFor of the program. -/
namespace Go.Proofs.YtkimgdfcgfhibaaDoor
set_option linter.unusedVariables false
set_option linter.unusedSimpArgs false
open Go.ChangeShapes Go.WideShapes Go.ChangeAt Go.RowKit

theorem up40_intsF (f : Nat → Int) : up40 (intsF f) = intsF fun s => fixV (f s) := by
  unfold intsF; rw [up40_map, List.map_map]; rfl
set_option maxRecDepth 100000 in
set_option maxHeartbeats 1000000 in
theorem most_32 {w W : World} {L : List HRes} (f : Nat → Int) (g c : Nat) (S : St w W (rInts (.slice (some ⟨g, 0, none⟩) 32 c) (intsF f) :: L)) (hf : ∀ s, s < 32 → -9223372036854775808 ≤ f s ∧ f s ≤ 9223372036854775807) :
    Calls Tryd.prog 32 #[.slice (some ⟨g, 0, none⟩) 32 c] W fun e w' => e = .returned (.slice (some ⟨g, 0, none⟩) 32 c) ∧ St w w' (rInts (.slice (some ⟨g, 0, none⟩) 32 c) (up40 (intsF f)) :: L) := by
  have HS0 : Hid (St w W (rInts (.slice (some ⟨g, 0, none⟩) 32 c) (mixF (fun s => fixV (f s)) f 0) :: L)) := Lib.hid (by rw [mixF_zero]; exact S)
  have HE : Bx ((List.range 32).map (fun s => fixV (f s)) = up40 (intsF f)) := Bx.mk (up40_intsF f).symm
  have HF := Bx.mk hf
  clear S hf
  go_enter Tryd.func32, Tryd.ntmps32
  go_wp2
  go_loopw [7] (fun i wr => ∃ k : Nat, k ≤ 32 ∧ i = .int .i64 k ∧ St w wr (rInts (.slice (some ⟨g, 0, none⟩) 32 c) (mixF (fun s => fixV (f s)) f k) :: L)) (fun i _ => 32 - (intOf i).toNat)
  case atStart => exact ⟨0, by omega, rfl, HS0.out⟩
  case round =>
    clear HS0
    obtain ⟨k, hk, rfl, S⟩ := hrel
    have HS := Lib.hid S
    clear S
    by_cases hlt : k < 32
    · obtain ⟨x, hx⟩ : ∃ x, f k = x := ⟨_, rfl⟩
      obtain ⟨hc, hfz⟩ := HS.out.cellI 0 rfl (mixF_len _ _ _) k x (by rw [mixF_here _ _ k hlt, hx])
      have hb := HF.out k hlt
      rw [hx] at hb
      by_cases h0 : x < 0
      · have HST := Lib.hid (HS.out.storeI 0 rfl (mixF_len _ _ _) k 40 rfl)
        have HV : Bx ((40 : Int) = fixV (f k)) := Bx.mk (by unfold fixV; rw [hx, if_pos h0])
        clear hx
        go_wp2
        go_roundw
        case rel => exact ⟨k + 1, by omega, by go_num, by rw [← mixF_set _ _ k 40 HV.out]; exact HST.out⟩
        case measure => simp [intOf]; omega
      · have HV := Bx.mk (mixF_same (fun s => fixV (f s)) f k (by show fixV (f k) = f k; unfold fixV; rw [hx, if_neg h0]))
        clear hx
        go_wp2
        go_roundw
        case rel => exact ⟨k + 1, by omega, by go_num, by rw [HV.out]; exact HS.out⟩
        case measure => simp [intOf]; omega
    · obtain rfl : k = 32 := by omega
      have HS3 : Hid (St w wr (rInts (.slice (some ⟨g, 0, none⟩) 32 c) (up40 (intsF f)) :: L)) := Lib.hid (by
        have := HS.out
        rw [mixF_all, HE.out] at this
        exact this)
      go_wp2
      go_ret
      exact ⟨rfl, HS3.out⟩
set_option maxRecDepth 100000 in
theorem most_nil (A : Option Addr) (c : Nat) (w : World) :
    Calls Tryd.prog 32 #[.slice A 0 c] w fun e w' => e = .returned (.slice A 0 c) ∧ w' = w := by
  go_enter Tryd.func32, Tryd.ntmps32
  go_wp2
  go_loopw [7] (fun i wr => i = .int .i64 0 ∧ wr = w) (fun i _ => 0)
  case atStart => exact ⟨rfl, rfl⟩
  case round =>
    obtain ⟨rfl, rfl⟩ := hrel
    go_wp2
    go_ret
    exact ⟨rfl, rfl⟩
set_option maxRecDepth 100000 in
set_option maxHeartbeats 1000000 in
theorem numbersFor_impl (v : Value) (t : TaskD) (w : World) (h : RdT w w.heap.size v t) :
    Calls Tryd.prog 22 #[v] w (Gives w id fun v => [rInts v (numsFor t)]) := by
  have h' := h
  obtain ⟨G, gn, gc, G', n', c', rfl, -, -, -, -⟩ := h
  have S0 := (St.refl w).alloc #[.int .i64 t.start, .slice G gn gc, .slice G' n' c'] 26
  have HT := Lib.hid h'
  have HS0 := Lib.hid S0
  clear S0 h'
  obtain ⟨bo, hok⟩ : ∃ b, taskOk t = b := ⟨_, rfl⟩
  have HOK := Lib.hid hok
  clear hok
  cases bo with
  | false =>
    have HPN := Bx.mk (numsFor_no HOK.out)
    go_enter Tryd.func22, Tryd.ntmps22
    go_wp2_with fail
    refine (taskValid_impl _ t _ (HT.out.up HS0.out.below)).mono ?_
    rw [HOK.out]
    rintro e w1 ⟨rfl, hb1⟩
    have HB := Lib.hid (HS0.out.quiet hb1).below
    clear hb1
    go_wp2
    go_ret
    exact ⟨.slice none 0 0, rfl, by rw [HPN.out]; exact rInts_nil _ _ HB.out⟩
  | true =>
    have HPY := Bx.mk (numsFor_yes HOK.out)
    have HLY : Bx (stepsLeast t = stepsL t.deeds (evalCode t.goal)) := Bx.mk (by unfold stepsLeast; rw [if_pos HOK.out])
    have HBD : Bx (∀ s, s < 32 → -9223372036854775808 ≤ stpV t.deeds (evalCode t.goal) s ∧ stpV t.deeds (evalCode t.goal) s ≤ 9223372036854775807) := Bx.mk fun s hs => by have := stpV_bd t.deeds (evalCode t.goal) s; omega
    go_enter Tryd.func22, Tryd.ntmps22
    go_wp2_with fail
    refine (taskValid_impl _ t _ (HT.out.up HS0.out.below)).mono ?_
    rw [HOK.out]
    rintro e w1 ⟨rfl, hb1⟩
    have HS1 := Lib.hid (HS0.out.quiet hb1)
    have q1 : ∀ j, w1.cell? ⟨w.heap.size, j, none⟩ = _ := HS1.out.cells 0 rfl
    clear hb1 HS0
    go_wp2_with fail
    refine (stepsLeast_impl _ t _ (HT.out.up HS1.out.below)).mono ?_
    rw [HLY.out]
    rintro e w2 ⟨sv, rfl, s2⟩
    obtain ⟨g, c, hs⟩ := s2.formI 0 rfl (stepsL_len _ _) (by omega)
    simp only [id_eq] at hs ⊢
    subst hs
    have HS2 : Hid (St w w2 [rInts (.slice (some ⟨g, 0, none⟩) 32 c) (intsF (stpV t.deeds (evalCode t.goal)))]) := Lib.hid (HS1.out.call s2).tl
    clear s2
    go_wp2_with fail
    refine (most_32 (L := []) _ g c HS2.out HBD.out).mono ?_
    rintro e w3 ⟨rfl, s3⟩
    have HS3 : Hid (St w w3 [rInts (.slice (some ⟨g, 0, none⟩) 32 c) (numsFor t)]) := Lib.hid (by rw [HPY.out]; exact s3)
    clear s3
    go_wp2
    go_ret
    exact ⟨_, rfl, HS3.out⟩
end Go.Proofs.YtkimgdfcgfhibaaDoor

/- ShadowSteps and ShadowNumbers of the program. Printed by gen_shadi.py. -/
namespace Go.Proofs.YtkimgdfcgfhibaaDoor
set_option linter.unusedVariables false
set_option linter.unusedSimpArgs false
open Go.ChangeShapes Go.WideShapes Go.ChangeAt Go.RowKit

/-- what is new -/
def freshS (ds : List DeedD) (F : Nat) (p : Nat → Bool) (m : Nat) : Nat → Bool := fun s => agr F (backP ds (shl ds F p m)) s && !shl ds F p m s
theorem freshS_val {ds : List DeedD} {F : Nat} {p : Nat → Bool} {m M B C : Nat} (hd : ∀ d ∈ ds, deedOk d = true) (hM : M = mset (shl ds F p m) 32) (hB : B = mset (backP ds (setP M)) 32) (hC : C = mset (agr F (setP B)) 32) : bits .andNot .i64 (C : Int) (M : Int) = ((mset (freshS ds F p m) 32 : Nat) : Int) := by
  have hB2 : B = mset (backP ds (shl ds F p m)) 32 := by rw [hB, hM, back_set hd]
  have hC2 : C = mset (agr F (backP ds (shl ds F p m))) 32 := by
    rw [hC, hB2]
    exact mset_congr fun s _ => agr_congr (setP_mset _) s
  have h1 := mset32_lt (shl ds F p m)
  have h2 := mset32_lt (agr F (backP ds (shl ds F p m)))
  rw [i64_andNot_nat _ _ (by omega) (by omega), hM, hC2, mset_diff]
  rfl
theorem freshS_none {ds : List DeedD} {F : Nat} {p : Nat → Bool} {m : Nat} (h : mset (freshS ds F p m) 32 = 0) : stillAt (shl ds F p) m := fun s hs hb => by
  have := mset_zero.1 h s hs
  unfold freshS at this
  simp only [shl, Bool.or_eq_true] at hb
  rcases hb with hb | hb
  · exact hb
  · rw [hb] at this; simpa using this
theorem freshS_some {ds : List DeedD} {F : Nat} {p : Nat → Bool} {m : Nat} (h : mset (freshS ds F p m) 32 ≠ 0) : ¬ stillAt (shl ds F p) m := fun hf => h (mset_zero.2 fun s hs => by
  unfold freshS
  cases hb : agr F (backP ds (shl ds F p m)) s with
  | false => rfl
  | true => rw [hf s hs (by simp only [shl, Bool.or_eq_true]; exact Or.inr hb)]; rfl)
theorem freshS_or {ds : List DeedD} {F : Nat} {p : Nat → Bool} {m M G : Nat} (hM : M = mset (shl ds F p m) 32) (hF : G = mset (freshS ds F p m) 32) : bits .or .i64 (M : Int) (G : Int) = ((mset (shl ds F p (m + 1)) 32 : Nat) : Int) := by
  have h1 := mset32_lt (shl ds F p m)
  have h2 := mset32_lt (freshS ds F p m)
  have key : mset (fun s => shl ds F p m s || freshS ds F p m s) 32 = mset (shl ds F p (m + 1)) 32 := mset_congr fun s hs => by
    show (shl ds F p m s || (agr F (backP ds (shl ds F p m)) s && !shl ds F p m s)) = (shl ds F p m s || agr F (backP ds (shl ds F p m)) s)
    generalize shl ds F p m s = a
    generalize agr F (backP ds (shl ds F p m)) s = b
    cases a <;> cases b <;> rfl
  rw [i64_or_nat _ _ (by omega) (by omega), hM, hF, mset_or, key]
theorem freshS_yes {ds : List DeedD} {F : Nat} {p : Nat → Bool} {m s G : Nat} (hs : s < 32) (hF : G = mset (freshS ds F p m) 32) (h : bit G s = 1) : ((m : Int) + 1) = sqN (shl ds F p) (m + 1) s := by
  have : freshS ds F p m s = true := by rw [← bit_mset1 (freshS ds F p m) hs, ← hF, h]; rfl
  unfold freshS at this
  simp only [Bool.and_eq_true, Bool.not_eq_true'] at this
  have h2 : shl ds F p (m + 1) s = true := by simp only [shl, Bool.or_eq_true]; exact Or.inr this.1
  simp only [sqN, this.2, h2]
  simp
theorem freshS_no {ds : List DeedD} {F : Nat} {p : Nat → Bool} {m s G : Nat} (hs : s < 32) (hF : G = mset (freshS ds F p m) 32) (h : bit G s = 0) : sqN (shl ds F p) (m + 1) s = sqN (shl ds F p) m s := by
  have : freshS ds F p m s = false := by rw [← bit_mset1 (freshS ds F p m) hs, ← hF, h]; rfl
  unfold freshS at this
  cases hl : shl ds F p m s with
  | true => simp [sqN, hl]
  | false =>
    rw [hl] at this
    have hb : agr F (backP ds (shl ds F p m)) s = false := by simpa using this
    have h2 : shl ds F p (m + 1) s = false := by simp only [shl]; rw [hl, hb]; rfl
    rw [sqN_neg shl_up hl]
    simp [sqN, hl, h2]
theorem cnt_nextS {ds : List DeedD} {F : Nat} {p : Nat → Bool} {m : Nat} (h : mset (freshS ds F p m) 32 ≠ 0) (hc : m ≤ cnt (shl ds F p m) 32) : m + 1 ≤ cnt (shl ds F p (m + 1)) 32 := by
  have := sq_grow (L := shl ds F p) shl_up (freshS_some h); omega
theorem shad_done {ds : List DeedD} {F : Nat} {p : Nat → Bool} {m : Nat} (hd : ∀ d ∈ ds, deedOk d = true) (h : mset (freshS ds F p m) 32 = 0) : (List.range 32).map (sqN (shl ds F p) m) = (List.range 32).map (shV ds F p) := by
  refine List.map_congr_left fun s hs => ?_
  exact (shV_of hd (freshS_none h) (List.mem_range.1 hs)).symm
theorem sstart_yes {ds : List DeedD} {F : Nat} {p : Nat → Bool} {s : Nat} (hs : s < 32) (h : bit (mset (shl ds F p 0) 32) s = 1) : (0 : Int) = sqN (shl ds F p) 0 s := by
  have : shl ds F p 0 s = true := by rw [← bit_mset1 (shl ds F p 0) hs, h]; rfl
  simp [sqN, this]
theorem sstart_no {ds : List DeedD} {F : Nat} {p : Nat → Bool} {s : Nat} (hs : s < 32) (h : bit (mset (shl ds F p 0) 32) s = 0) : (-1 : Int) = sqN (shl ds F p) 0 s := by
  have : shl ds F p 0 s = false := by rw [← bit_mset1 (shl ds F p 0) hs, h]; rfl
  simp [sqN, this]
theorem shadL_task {t : TaskD} {F : Int} (h : taskOk t = false) : shadL t F = [] := by unfold shadL; rw [if_neg (by rw [h]; simp)]
theorem shadL_facts {t : TaskD} {F : Int} (h : stIn F = false) : shadL t F = [] := by unfold shadL; rw [if_neg (by rw [h]; simp)]
theorem shadL_yes {t : TaskD} {f : Nat} (h : taskOk t = true) (hf : stIn (f : Int) = true) : shadL t f = (List.range 32).map (shV t.deeds f (evalCode t.goal)) := by unfold shadL; rw [if_pos ⟨h, hf⟩, Int.toNat_natCast]
theorem agr_codeN (g : List Int) (f : Nat) : mset (agr f (setP (mset (evalCode g) 32))) 32 = mset (agr f (evalCode g)) 32 := mset_congr fun s _ => agr_congr (setP_mset _) s
set_option maxRecDepth 100000 in
set_option maxHeartbeats 2000000 in
theorem shadowSteps_impl (v : Value) (t : TaskD) (F : Int) (w : World) (h : RdT w w.heap.size v t) :
    Calls Tryd.prog 33 #[v, .int .i64 F] w (Gives w id fun v => [rInts v (shadL t F)]) := by
  have h' := h
  obtain ⟨G, gn, gc, G', n', c', rfl, hg, hgs, hds, hst⟩ := h
  have S0 := (St.refl w).alloc #[.int .i64 t.start, .slice G gn gc, .slice G' n' c'] 26
  have HT := Lib.hid h'
  have HG := Lib.hid hg
  have HS0 := Lib.hid S0
  have HDL := Lib.hid hds.len
  clear S0 h' hg hds
  obtain ⟨bo, hok⟩ : ∃ b, taskOk t = b := ⟨_, rfl⟩
  have HOK := Lib.hid hok
  clear hok
  cases bo with
  | false =>
    have HPN := Bx.mk (shadL_task (F := F) HOK.out)
    go_enter Tryd.func33, Tryd.ntmps33
    go_wp2_with fail
    refine (taskValid_impl _ t _ (HT.out.up HS0.out.below)).mono ?_
    rw [HOK.out]
    rintro e w1 ⟨rfl, hb1⟩
    have HB := Lib.hid (HS0.out.quiet hb1).below
    clear hb1
    go_wp2
    go_ret
    exact ⟨.slice none 0 0, rfl, by rw [HPN.out]; exact rInts_nil _ _ HB.out⟩
  | true =>
    obtain ⟨hs0, hgok, hn6, hdok⟩ := taskOk_parts t HOK.out
    obtain ⟨s0, hst0⟩ := Int.eq_ofNat_of_zero_le hs0.1
    have HDOK := Lib.hid hdok
    have HTR := Bx.mk (codeTruth_yes t.goal hgok)
    have hn6' : n' ≤ 6 := by rw [← HDL.out]; exact hn6
    rw [hst0] at HS0 ⊢
    have HST0 := Bx.mk hst0
    clear hdok hgok hs0 hn6
    obtain ⟨bf, hbf⟩ : ∃ b, stIn F = b := ⟨_, rfl⟩
    have HBF := Bx.mk hbf
    cases bf with
    | false =>
      have HPN := Bx.mk (shadL_facts (t := t) hbf)
      clear hbf
      go_enter Tryd.func33, Tryd.ntmps33
      go_wp2_with fail
      refine (taskValid_impl _ t _ (by rw [← HST0.out]; rw [← HST0.out] at HS0; exact HT.out.up HS0.out.below)).mono ?_
      rw [HOK.out]
      rintro e w1 ⟨rfl, hb1⟩
      have HB := Lib.hid (HS0.out.quiet hb1).below
      clear hb1
      go_wp2_with fail
      refine (stateOk_any F _).mono ?_
      rw [HBF.out]
      rintro e w2 ⟨rfl, rfl⟩
      go_wp2
      go_ret
      exact ⟨.slice none 0 0, rfl, by rw [HPN.out]; exact rInts_nil _ _ HB.out⟩
    | true =>
      obtain ⟨f, rfl⟩ : ∃ f : Nat, F = f := by
        have : 0 ≤ F := by have := hbf; unfold stIn at this; simp at this; omega
        exact ⟨F.toNat, by omega⟩
      have hf32 : f < 32 := by have := hbf; unfold stIn at this; simp at this; omega
      have HPY := Bx.mk (shadL_yes HOK.out hbf)
      clear hbf
      obtain ⟨i0, hi, hz0, hz1, hz2⟩ := elInt.hi
      go_enter Tryd.func33, Tryd.ntmps33
      go_wp2_with fail
      refine (taskValid_impl _ t _ (by rw [← HST0.out]; rw [← HST0.out] at HS0; exact HT.out.up HS0.out.below)).mono ?_
      rw [HOK.out]
      rintro e w1 ⟨rfl, hb1⟩
      have HS2 := Lib.hid (HS0.out.quiet hb1)
      clear hb1 HS0
      go_wp2_with fail
      refine (stateOk_any (f : Int) _).mono ?_
      rw [HBF.out]
      rintro e w2 ⟨rfl, rfl⟩
      have q2 : ∀ j, w1.cell? ⟨w.heap.size, j, none⟩ = _ := HS2.out.cells 0 rfl
      go_wp2_with fail
      refine (behindAll_any _ t _ (by have := HT.out.up HS2.out.below; rw [HST0.out] at this; exact this) HOK.out).mono ?_
      rintro e w3 ⟨rv, rfl, s3⟩
      obtain ⟨RA, RC, hrv, -⟩ := s3.rdRow 0 rfl
      rw [HDL.out] at hrv
      subst hrv
      obtain ⟨ds, hds⟩ : ∃ ds, t.deeds = ds := ⟨_, rfl⟩
      obtain ⟨p, hp⟩ : ∃ p, evalCode t.goal = p := ⟨_, rfl⟩
      have HTN : Bx (mset (agr f (setP (truthN t.goal))) 32 = mset (agr f p) 32) := Bx.mk (by rw [← hp]; exact agr_codeN _ _)
      rw [hds] at HDL HDOK s3
      rw [hds, hp] at HPY
      have HS3 : Hid (St w w3 [rBlk w.heap.size 26 #[.int .i64 s0, .slice G gn gc, .slice G' n' c'], rBeh (.slice RA n' RC) ds]) := Lib.hid (HS2.out.call s3)
      have HRB : Hid (∀ W L, St w W (rBlk w.heap.size 26 #[.int .i64 s0, .slice G gn gc, .slice G' n' c'] :: rBeh (.slice RA n' RC) ds :: L) → RdRow W W.heap.size 32 RA n' RC (ints (behL ds))) := Lib.hid fun W L h => h.rdRow' (n := n') 1 (by rw [← HDL.out]; rfl)
      clear s3 q2 HS2 hp hds
      have q2 : ∀ j, w3.cell? ⟨w.heap.size, j, none⟩ = _ := HS3.out.cells 0 rfl
      obtain ⟨N0, hN0⟩ : ∃ N, truthN t.goal = N := ⟨_, rfl⟩
      have hN32 : N0 < 4294967296 := by rw [← hN0]; exact mset32_lt _
      rw [hN0] at HTN HTR
      clear hN0
      go_wp2_with fail
      refine (codeTruth_impl G gn gc t.goal _ (HG.out.up HS3.out.below)).mono ?_
      rw [HTR.out]
      rintro e w4 ⟨rfl, hb4⟩
      have HS4 := Lib.hid (HS3.out.quiet hb4)
      clear hb4 q2 HS3
      obtain ⟨S, hS⟩ : ∃ S, S = mset (agr f p) 32 := ⟨_, rfl⟩
      have hS32 : S < 4294967296 := by rw [hS]; exact mset32_lt _
      have HSV : Bx (S = mset (shl ds f p 0) 32) := Bx.mk (by rw [hS]; rfl)
      go_wp2_with fail
      refine (agreeing_impl N0 f _ hN32 hf32).mono ?_
      rw [HTN.out, ← hS]
      rintro e w5 ⟨rfl, hb5⟩
      have HS5 : Hid (St w w5 [rBlk w.heap.size 26 #[.int .i64 s0, .slice G gn gc, .slice G' n' c'], rBeh (.slice RA n' RC) ds]) := Lib.hid (by rw [← hb5]; exact HS4.out)
      clear hb5 HS4 hS HTN HTR hN32
      obtain ⟨g, hgw⟩ : ∃ x, w5.heap.size = x := ⟨_, rfl⟩
      go_wp2_with (at_make; refine wpList_make_full _ rfl _ _ 23 rfl w5.heap.size 3 i0 _ 1 Tryd.underlying23 hi hz0 hz1 _ _ _ _ 32 rfl rfl rfl rfl (by rw [hz2]; omega) (by unfold maxLen; omega) (Nat.le_refl _) ?_; intro w6 hown hgr)
      have s6 := St.made32 hgw (by first | exact hown | (rw [hgw] at hown; exact hown) | (rw [← hgw]; exact hown)) hgr
      have HS2 : Hid (St w w6 [rBlk w.heap.size 26 #[.int .i64 s0, .slice G gn gc, .slice G' n' c'], rBeh (.slice RA n' RC) ds, rInts (.slice (some ⟨g, 0, none⟩) 32 32) (mixF (sqN (shl ds f p) 0) (fun _ => 0) 0)]) := Lib.hid (by rw [mixF_zero]; exact HS5.out.call s6)
      try rw [hgw]
      clear s6 hown hgr HS5 hgw
      go_wp2
      go_loopw [30] (fun i wr => ∃ k : Nat, k ≤ 32 ∧ i = .int .i64 k ∧ St w wr [rBlk w.heap.size 26 #[.int .i64 s0, .slice G gn gc, .slice G' n' c'], rBeh (.slice RA n' RC) ds, rInts (.slice (some ⟨g, 0, none⟩) 32 32) (mixF (sqN (shl ds f p) 0) (fun _ => 0) k)]) (fun i _ => 32 - (intOf i).toNat)
      case atStart => exact ⟨0, by omega, rfl, HS2.out⟩
      case round =>
        obtain ⟨k, hk, rfl, M⟩ := hrel
        have HM := Lib.hid M
        clear M HS2
        by_cases hlt : k < 32
        · obtain ⟨hc, hf⟩ := HM.out.cellI 2 rfl (mixF_len _ _ _) k 0 (mixF_here _ _ k hlt)
          have hbit := and_one S k (by omega)
          by_cases hb1 : bit S k = 1
          · have HST := Lib.hid (HM.out.storeI 2 rfl (mixF_len _ _ _) k 0 rfl)
            have HE : Hid ((0 : Int) = sqN (shl ds f p) 0 k) := Lib.hid (sstart_yes hlt (by rw [← HSV.out]; exact hb1))
            rw [hb1] at hbit
            clear hb1
            go_wp2
            go_roundw
            case rel => exact ⟨k + 1, by omega, by go_num, by rw [← mixF_set _ _ k 0 HE.out]; exact HST.out⟩
            case measure => simp [intOf]; omega
          · have hb0 : bit S k = 0 := by have := bit_lt S k; omega
            have HST := Lib.hid (HM.out.storeI 2 rfl (mixF_len _ _ _) k (-1) rfl)
            have HE : Hid ((-1 : Int) = sqN (shl ds f p) 0 k) := Lib.hid (sstart_no hlt (by rw [← HSV.out]; exact hb0))
            rw [hb0] at hbit
            clear hb1 hb0
            go_wp2
            go_roundw
            case rel => exact ⟨k + 1, by omega, by go_num, by rw [← mixF_set _ _ k (-1) HE.out]; exact HST.out⟩
            case measure => simp [intOf]; omega
        · have HS3 : Hid (St w wr [rBlk w.heap.size 26 #[.int .i64 s0, .slice G gn gc, .slice G' n' c'], rBeh (.slice RA n' RC) ds, rInts (.slice (some ⟨g, 0, none⟩) 32 32) ((List.range 32).map (sqN (shl ds f p) 0))]) := Lib.hid (by
            have := HM.out
            rw [show k = 32 by omega, mixF_all] at this
            exact this)
          clear HM
          go_wp2
          go_loopw [9, 6] (fun mv sv wr => ∃ m M : Nat, mv = .int .i64 ((m : Int) + 1) ∧ sv = .int .i64 M ∧ m ≤ 32 ∧ Hid (M = mset (shl ds f p m) 32 ∧ m ≤ cnt (shl ds f p m) 32) ∧ St w wr [rBlk w.heap.size 26 #[.int .i64 s0, .slice G gn gc, .slice G' n' c'], rBeh (.slice RA n' RC) ds, rInts (.slice (some ⟨g, 0, none⟩) 32 32) ((List.range 32).map (sqN (shl ds f p) m))]) (fun mv _ _ => 34 - (intOf mv).toNat)
          case atStart => exact ⟨0, S, rfl, rfl, by omega, Lib.hid ⟨HSV.out, Nat.zero_le _⟩, HS3.out⟩
          case round =>
            obtain ⟨m, M, rfl, rfl, hm, HM, MM⟩ := hrel
            have HMM := Lib.hid MM
            clear MM HS3
            have hM32 : M < 4294967296 := by rw [HM.out.1]; exact mset32_lt _
            obtain ⟨F, hF⟩ : ∃ F, mset (freshS ds f p m) 32 = F := ⟨_, rfl⟩
            obtain ⟨B, hB⟩ : ∃ B, mset (backP ds (setP M)) 32 = B := ⟨_, rfl⟩
            obtain ⟨C, hC⟩ : ∃ C, mset (agr f (setP B)) 32 = C := ⟨_, rfl⟩
            have hand : bits .andNot .i64 (C : Int) (M : Int) = (F : Int) := by
              rw [freshS_val HDOK.out HM.out.1 hB.symm hC.symm, hF]
            have hF32 : F < 4294967296 := by rw [← hF]; exact mset32_lt _
            have hB32 : B < 4294967296 := by rw [← hB]; exact mset32_lt _
            have HF := Bx.mk hF.symm
            have HB := Bx.mk hB
            have HC := Bx.mk hC
            clear hF hB hC
            go_wp2_with fail
            refine (backStates_any RA n' RC ds M _ (HRB.out _ _ HMM.out) HDL.out HDOK.out hn6' hM32).mono ?_
            rw [HB.out]
            rintro e w3 ⟨rfl, hb3⟩
            have HM3' := Lib.hid (HMM.out.quiet hb3)
            clear hb3
            go_wp2_with fail
            refine (agreeing_impl B f _ hB32 hf32).mono ?_
            rw [HC.out]
            rintro e w4 ⟨rfl, hb4⟩
            have HM3 := Lib.hid (by have h := HM3'.out; rw [hb4] at h; exact h : St w w4 [rBlk w.heap.size 26 #[.int .i64 s0, .slice G gn gc, .slice G' n' c'], rBeh (.slice RA n' RC) ds, rInts (.slice (some ⟨g, 0, none⟩) 32 32) ((List.range 32).map (sqN (shl ds f p) m))])
            clear hb4 HM3'
            by_cases h0 : F = 0
            · have HE := Lib.hid (shad_done HDOK.out (by rw [← HF.out]; exact h0) : (List.range 32).map (sqN (shl ds f p) m) = (List.range 32).map (shV ds f p))
              subst h0
              go_wp2
              go_ret
              exact ⟨_, rfl, by rw [HPY.out, ← HE.out]; exact (HM3.out.tl).tl⟩
            · obtain ⟨M2, hM2⟩ : ∃ M2, mset (shl ds f p (m + 1)) 32 = M2 := ⟨_, rfl⟩
              have hor : bits .or .i64 (M : Int) (F : Int) = (M2 : Int) := by rw [freshS_or HM.out.1 HF.out, hM2]
              have HM2 := Bx.mk hM2
              have HOR := Lib.hid hor
              have hz : ((F : Int) == 0) = false := by simp; omega
              have H0 := Lib.hid h0
              clear hM2 h0 hor
              have HNX : Hid (m + 1 ≤ cnt (shl ds f p (m + 1)) 32) := Lib.hid (cnt_nextS (by rw [← HF.out]; exact H0.out) HM.out.2)
              have HLE : Hid (m + 1 ≤ 32) := Lib.hid (by have := cnt_le (shl ds f p (m + 1)) 32; have := HNX.out; omega)
              have HM4 : Hid (St w w4 [rBlk w.heap.size 26 #[.int .i64 s0, .slice G gn gc, .slice G' n' c'], rBeh (.slice RA n' RC) ds, rInts (.slice (some ⟨g, 0, none⟩) 32 32) (mixF (sqN (shl ds f p) (m + 1)) (sqN (shl ds f p) m) 0)]) := Lib.hid (by rw [mixF_zero]; exact HM3.out)
              clear HM3
              go_wp2
              clear hand hz
              go_loopw [56] (fun i wr => ∃ k : Nat, k ≤ 32 ∧ i = .int .i64 k ∧ St w wr [rBlk w.heap.size 26 #[.int .i64 s0, .slice G gn gc, .slice G' n' c'], rBeh (.slice RA n' RC) ds, rInts (.slice (some ⟨g, 0, none⟩) 32 32) (mixF (sqN (shl ds f p) (m + 1)) (sqN (shl ds f p) m) k)]) (fun i _ => 32 - (intOf i).toNat)
              case atStart => exact ⟨0, by omega, rfl, HM4.out⟩
              case round =>
                obtain ⟨k, hk, rfl, M5⟩ := hrel
                have HM5 := Lib.hid M5
                clear M5 HM4
                by_cases hlt : k < 32
                · have hbit := and_one F k (by omega)
                  by_cases hb1 : bit F k = 1
                  · obtain ⟨hc, hf⟩ := HM5.out.cellI 2 rfl (mixF_len _ _ _) k _ (mixF_here _ _ k hlt)
                    have HE := Lib.hid (freshS_yes hlt HF.out hb1)
                    have HST := Lib.hid (HM5.out.storeI 2 rfl (mixF_len _ _ _) k ((m : Int) + 1) (wf_i64_mk (by omega)))
                    rw [hb1] at hbit
                    obtain ⟨v0, hv0⟩ : ∃ v0, sqN (shl ds f p) m k = v0 := ⟨_, rfl⟩
                    rw [hv0] at hc
                    clear hb1 hv0
                    clear hi hz0 hz1 hz2 hS32 hM32 hF32
                    go_wp2
                    go_roundw
                    case rel => exact ⟨k + 1, by omega, by go_num, by rw [← mixF_set _ _ k _ HE.out]; exact HST.out⟩
                    case measure => simp [intOf]; omega
                  · have hb0 : bit F k = 0 := by have := bit_lt F k; omega
                    have HE := Lib.hid (mixF_same (sqN (shl ds f p) (m + 1)) (sqN (shl ds f p) m) k (freshS_no hlt HF.out hb0))
                    rw [hb0] at hbit
                    clear hb1 hb0
                    go_wp2
                    go_roundw
                    case rel => exact ⟨k + 1, by omega, by go_num, by rw [HE.out]; exact HM5.out⟩
                    case measure => simp [intOf]; omega
                · have HM6 : Hid (St w wr [rBlk w.heap.size 26 #[.int .i64 s0, .slice G gn gc, .slice G' n' c'], rBeh (.slice RA n' RC) ds, rInts (.slice (some ⟨g, 0, none⟩) 32 32) ((List.range 32).map (sqN (shl ds f p) (m + 1)))]) := Lib.hid (by
                    have := HM5.out
                    rw [show k = 32 by omega, mixF_all] at this
                    exact this)
                  have hle := HLE.out
                  have hor := HOR.out
                  go_wp2
                  go_roundw
                  case rel => exact ⟨m + 1, M2, by go_num, rfl, by omega, Lib.hid ⟨HM2.out.symm, HNX.out⟩, HM6.out⟩
                  case measure => simp [intOf]; omega
theorem shadN_eq (t : TaskD) (F : Int) : shadN t F = up40 (shadL t F) := rfl
set_option maxRecDepth 100000 in
set_option maxHeartbeats 1000000 in
theorem shadowNumbers_impl (v : Value) (t : TaskD) (F : Int) (w : World) (h : RdT w w.heap.size v t) :
    Calls Tryd.prog 8 #[v, .int .i64 F] w (Gives w id fun v => [rInts v (shadN t F)]) := by
  have h' := h
  obtain ⟨G, gn, gc, G', n', c', rfl, -, -, -, -⟩ := h
  have HS0 := Lib.hid ((St.refl w).alloc #[.int .i64 t.start, .slice G gn gc, .slice G' n' c'] 26)
  have HT := Lib.hid (h'.up HS0.out.below)
  have HE := Bx.mk (shadN_eq t F)
  clear h'
  go_enter Tryd.func8, Tryd.ntmps8
  go_wp2_with fail
  refine (shadowSteps_impl _ t F _ HT.out).mono ?_
  rintro e w2 ⟨sv, rfl, s2⟩
  by_cases hok : taskOk t = true ∧ stIn F = true
  · have hl : shadL t F = intsF (shV t.deeds F.toNat (evalCode t.goal)) := by unfold shadL; rw [if_pos hok]; rfl
    have hdok := (taskOk_parts t hok.1).2.2.2
    have HBD : Bx (∀ s, s < 32 → -9223372036854775808 ≤ shV t.deeds F.toNat (evalCode t.goal) s ∧ shV t.deeds F.toNat (evalCode t.goal) s ≤ 9223372036854775807) := Bx.mk fun s hs => by have := shV_le (F := F.toNat) (S := evalCode t.goal) hdok hs; omega
    rw [hl] at HE s2
    obtain ⟨g, c, hs⟩ := s2.formI 0 rfl (intsF_len _) (by omega)
    simp only [id_eq] at hs ⊢
    subst hs
    have HS2 : Hid (St w w2 [rInts (.slice (some ⟨g, 0, none⟩) 32 c) (intsF (shV t.deeds F.toNat (evalCode t.goal)))]) := Lib.hid (HS0.out.call s2).tl
    clear s2 hok hdok hl
    go_wp2_with fail
    refine (most_32 (L := []) _ g c HS2.out HBD.out).mono ?_
    rintro e w3 ⟨rfl, s3⟩
    have HS3 : Hid (St w w3 [rInts (.slice (some ⟨g, 0, none⟩) 32 c) (shadN t F)]) := Lib.hid (by rw [HE.out]; exact s3)
    clear s3
    go_wp2
    go_ret
    exact ⟨_, rfl, HS3.out⟩
  · have hl : shadL t F = [] := by unfold shadL; rw [if_neg hok]
    rw [hl] at HE s2
    obtain ⟨A, c, hs⟩ := s2.formN 0 rfl (n := 0) rfl
    simp only [id_eq] at hs ⊢
    subst hs
    have HS2 : Hid (St w w2 [rInts (.slice A 0 c) []]) := Lib.hid (HS0.out.call s2).tl
    clear s2 hok hl
    go_wp2_with fail
    refine (most_nil A c _).mono ?_
    rintro e w3 ⟨rfl, rfl⟩
    have HS3 : Hid (St w _ [rInts (.slice A 0 c) (shadN t F)]) := Lib.hid (by rw [HE.out]; exact HS2.out)
    go_wp2
    go_ret
    exact ⟨_, rfl, HS3.out⟩
end Go.Proofs.YtkimgdfcgfhibaaDoor
