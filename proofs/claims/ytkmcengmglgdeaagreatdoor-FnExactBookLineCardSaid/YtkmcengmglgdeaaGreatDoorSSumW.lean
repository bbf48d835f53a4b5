
import Derived.Test.YtkmcengmglgdeaaGreatDoorSClosI
import Derived.Test.YtkmcengmglgdeaaGreatDoorSDoI2
import Derived.Test.YtkmcengmglgdeaaGreatDoorSLaid
import Derived.Deep.Cut
namespace Go.Proofs.YtkmcengmglgdeaaGreatDoor
set_option linter.unusedVariables false
set_option linter.unusedSimpArgs false
set_option maxRecDepth 100000
set_option maxHeartbeats 8000000
open Go.ChangeShapes Go.WideShapes Go.ChangeAt Go.RowKit
theorem sum_iff {t : TaskD} {f : Nat} (h : onlyTurns t = true) : sumOk t f = true ↔ (∀ (k : Nat) (d : DeedD), t.deeds[k]? = some d → popc (d.flip.toNat &&& f) % 2 = 0) ∧ ∀ s, s < 32 → evalCode t.goal s = true → popc (s &&& f) % 2 ≠ popc (t.start.toNat &&& f) % 2 := by
 unfold sumOk
 rw [h]; simp only [Bool.true_and, Bool.and_eq_true, List.all_eq_true, List.mem_range, beq_iff_eq, Bool.or_eq_true, Bool.not_eq_true', beq_eq_false_iff_ne, ne_eq]
 constructor
 ·rintro ⟨h1, h2⟩; refine ⟨fun k d hk => h1 d (List.mem_of_getElem? hk), fun s hs he => ?_⟩
  rcases h2 s hs with h3 | h3
  ·rw [he] at h3; cases h3
  ·exact h3
 ·rintro ⟨h1, h2⟩; refine ⟨fun d hd => ?_, fun s hs => ?_⟩
  ·obtain ⟨k, hk, rfl⟩ := List.getElem_of_mem hd; exact h1 k _ (List.getElem?_eq_getElem hk)
  ·cases he : evalCode t.goal s with
   | false => left; rfl
   | true => right; exact h2 s hs he
theorem sum_no {t : TaskD} {f : Nat} (h : onlyTurns t = false) : sumOk t f = false := by unfold sumOk; rw [h]; rfl
theorem sum_deed {t : TaskD} {f k : Nat} {d : DeedD} (ho : onlyTurns t = true) (h : t.deeds[k]? = some d) (hd : popc (d.flip.toNat &&& f) % 2 = 1) : sumOk t f = false := by
 cases hs : sumOk t f with
 | false => rfl
 | true => have := ((sum_iff ho).1 hs).1 k d h; omega
theorem sum_state {t : TaskD} {f s : Nat} (ho : onlyTurns t = true) (h : s < 32) (he : evalCode t.goal s = true) (hd : popc (s &&& f) % 2 = popc (t.start.toNat &&& f) % 2) : sumOk t f = false := by
 cases hs : sumOk t f with
 | false => rfl
 | true => exact absurd hd (((sum_iff ho).1 hs).2 s h he)
def flipTo (t : TaskD) (f k : Nat) : Prop := ∀ (j : Nat) (d : DeedD), j < k → t.deeds[j]? = some d → popc (d.flip.toNat &&& f) % 2 = 0
theorem flip_next {t : TaskD} {f k : Nat} {d : DeedD} (h : flipTo t f k) (hk : t.deeds[k]? = some d) (hd : popc (d.flip.toNat &&& f) % 2 = 0) : flipTo t f (k + 1) := fun j e hj he => by
 rcases Nat.lt_or_ge j k with h1 | h1
 ·exact h j e h1 he
 ·obtain rfl : j = k := by omega
  rw [hk] at he; cases he; exact hd
def oddTo (t : TaskD) (f m : Nat) : Prop := ∀ s, s < m → evalCode t.goal s = true → popc (s &&& f) % 2 ≠ popc (t.start.toNat &&& f) % 2
theorem odd_next {t : TaskD} {f m : Nat} (h : oddTo t f m) (hm : evalCode t.goal m = true → popc (m &&& f) % 2 ≠ popc (t.start.toNat &&& f) % 2) : oddTo t f (m + 1) := fun s hs he => by
 rcases Nat.lt_or_ge s m with h1 | h1
 ·exact h s h1 he
 ·obtain rfl : s = m := by omega
  exact hm he
theorem sum_yes {t : TaskD} {f k : Nat} (ho : onlyTurns t = true) (h1 : flipTo t f k) (hk : t.deeds.length ≤ k) (h2 : oddTo t f 32) : sumOk t f = true :=
 (sum_iff ho).2 ⟨fun j d hj => h1 j d (Nat.lt_of_lt_of_le (List.getElem?_eq_some_iff.1 hj).1 hk) hj, h2⟩
theorem deed_sets2 {d : DeedD} (h : deedOk d = true) : 0 ≤ d.flip ∧ d.flip < 32 := by
 unfold deedOk at h
 simp only [Bool.and_eq_true] at h; exact (stIn_iff _).1 h.1.2
theorem and32 {a b : Nat} (h : a < 32) : a &&& b < 32 := Nat.lt_of_le_of_lt Nat.and_le_left h
theorem popc5 {a b : Nat} (h : a < 32) : popc (a &&& b) ≤ 5 := popc_5 _ (and32 h)
theorem sumOk_impl (v : Value) (t : TaskD) (f : Nat) (hf : f < 32) (w : World) (h : RdT w w.heap.size v t) (hok : taskOk t = true) :
  Calls Tryz.prog 172 #[v, .int .i64 (f : Int)] w fun e w' => e = .returned (.bool (sumOk t f)) ∧ Below w.heap.size w w' := by
 have h' := h; obtain ⟨G, gn, gc, G', n', c', rfl, hg, hgs, hds, hst⟩ := h; have HS0 := Lib.hid ((St.refl w).alloc #[.int .i64 t.start, .slice G gn gc, .slice G' n' c'] 26); have HT := Lib.hid h'; have HDS := Lib.hid hds; have HDL := Lib.hid hds.len; have HOK := Lib.hid hok; have HG := Lib.hid hg; have HGN := Lib.hid hgs; obtain ⟨hs01, hgok, hn6, hdok⟩ := taskOk_parts t hok; have HGO := Lib.hid hgok; have HDOK := Lib.hid hdok; have hn6' : n' ≤ 6 := by rw [← hds.len]; exact hn6
 obtain ⟨st, hst'⟩ : ∃ x, t.start = x := ⟨_, rfl⟩; rw [hst'] at hs01 HT HS0 ⊢
 obtain ⟨s0, rfl⟩ := Int.eq_ofNat_of_zero_le hs01.1; have hs32 : s0 < 32 := by omega
 have HSN : Hid (t.start.toNat = s0) := Lib.hid (by rw [hst']; simp); obtain ⟨ob, hob⟩ : ∃ b, onlyTurns t = b := ⟨_, rfl⟩; have HOB := Bx.mk hob; clear h' hok hds hdok hn6 hg hgs hst hgok hst' hs01 hob; go_enter Tryz.func172, Tryz.ntmps172
 go_wp2_with fail
 refine (stateOk_any (f : Int) _).mono ?_; rw [(stIn_iff (f : Int)).2 (by omega)]; rintro e w1 ⟨rfl, rfl⟩; have q0 := HS0.out.cells 0 rfl
 go_wp2_with fail
 refine (onlyTurns_impl _ t _ (HT.out.up HS0.out.below) HOK.out).mono ?_; rw [HOB.out]; rintro e w2 ⟨rfl, hb2⟩; have HS2 := Lib.hid (HS0.out.quiet hb2); clear hb2 HS0 q0; have q2 := HS2.out.cells 0 rfl
 cases ob with
 | false =>
  have HF := Bx.mk (sum_no (f := f) HOB.out); go_wp2; go_ret; exact ⟨by rw [HF.out]; rfl, HS2.out.below⟩
 | true =>
  go_wp2
  go_loopw [21] (fun i wr => ∃ k : Nat, k ≤ n' ∧ i = .int .i64 (k : Int) ∧ Hid (flipTo t f k) ∧ St w wr [rBlk w.heap.size 26 #[.int .i64 (s0 : Int), .slice G gn gc, .slice G' n' c']]) (fun i _ => n' - (intOf i).toNat)
  case atStart => exact ⟨0, by omega, rfl, Lib.hid (fun j d h => by omega), HS2.out⟩
  case round =>
   clear HS2 q2; obtain ⟨k, hk, rfl, HM, S⟩ := hrel; have HS := Lib.hid S; clear S; have qr := HS.out.cells 0 rfl
   by_cases hlt : k < n'
   ·obtain ⟨db, off, d, rfl, hdb, hd, hda⟩ := HDS.out.get hlt; obtain ⟨An, nn, cn, p0, p1, p2, p3, hneed, hnn, -⟩ := hda; have r0 : wr.cell? ⟨db, off + k * 4, none⟩ = some (.slice An nn cn) := (bcells HS.out.below db _ hdb).trans p0; have r1 : wr.cell? ⟨db, off + k * 4 + 1, none⟩ = some (.int .i64 d.on) := (bcells HS.out.below db _ hdb).trans p1; have r2 : wr.cell? ⟨db, off + k * 4 + 2, none⟩ = some (.int .i64 d.off) := (bcells HS.out.below db _ hdb).trans p2; have r3 : wr.cell? ⟨db, off + k * 4 + 3, none⟩ = some (.int .i64 d.flip) := (bcells HS.out.below db _ hdb).trans p3; have HDK := Lib.hid hd; have hfl := (deed_sets2 (HDOK.out d (List.mem_of_getElem? hd))); obtain ⟨z, hz⟩ : ∃ x, d.flip = x := ⟨_, rfl⟩; have HZ := Bx.mk hz; rw [hz] at r3 hfl; obtain ⟨fl, rfl⟩ := Int.eq_ofNat_of_zero_le hfl.1; have hfl32 : fl < 32 := by omega
    have HFL : Hid (d.flip.toNat = fl) := Lib.hid (by rw [hz]; simp); clear p0 p1 p2 p3 hneed hnn hd hz hfl; have hl32 := and32 (b := f) hfl32; have hp5 := popc5 (b := f) hfl32; have hand := i64_and_nat fl f (by omega) (by omega); have HEQ := Lib.hid (show popc (d.flip.toNat &&& f) = popc (fl &&& f) by rw [HFL.out]); obtain ⟨a, ha⟩ : ∃ a, fl &&& f = a := ⟨_, rfl⟩; rw [ha] at hl32 hp5 hand HEQ; obtain ⟨pa, hpa⟩ : ∃ p, popc a = p := ⟨_, rfl⟩; have HPA := Bx.mk hpa; rw [hpa] at hp5 HEQ; obtain ⟨r, hr⟩ : ∃ r, pa % 2 = r := ⟨_, rfl⟩; have HRR := Bx.mk hr; have hr2 : r < 2 := by omega
    have m1 : (pa : Int).tmod 2 = (r : Int) := by rw [Int.tmod_eq_emod_of_nonneg (by omega)]; omega
    have m2 : (pa : Int) % 2 = (r : Int) := by omega
    have HSD := Lib.hid (HS.out.alloc #[.slice An nn cn, .int .i64 d.on, .int .i64 d.off, .int .i64 (fl : Int)] 144); have HSP := Lib.hid (HSD.out.pick [0] (by decide) rfl rfl); clear hpa hr ha
    go_wp2_with fail
    refine (countBits_nat a (by omega) _).mono ?_; rw [HPA.out]; rintro e w4 ⟨rfl, rfl⟩
    by_cases hr1 : r = 1
    ·subst hr1; have HF := Bx.mk (sum_deed (f := f) HOB.out HDK.out (by rw [HEQ.out, HRR.out])); go_wp2; go_ret; exact ⟨by rw [HF.out]; rfl, HSP.out.below⟩
    ·obtain rfl : r = 0 := by omega
     have HM2 := Lib.hid (flip_next HM.out HDK.out (by rw [HEQ.out, HRR.out])); clear hr1; go_wp2
     go_roundw
     case rel => exact ⟨k + 1, by omega, by go_num, HM2, HSP.out⟩
     case measure => simp [intOf]; omega
   ·have hke : t.deeds.length ≤ k := by rw [HDL.out]; omega
    have HKE := Bx.mk hke; clear hke; obtain ⟨a0, ha0⟩ : ∃ a, s0 &&& f = a := ⟨_, rfl⟩; have hl0 : a0 < 32 := by rw [← ha0]; exact and32 hs32
    obtain ⟨p0, hp0⟩ : ∃ p, popc a0 = p := ⟨_, rfl⟩; have hp05 : p0 ≤ 5 := by rw [← hp0, ← ha0]; exact popc5 hs32
    have HP0 := Bx.mk hp0; have HA0 := Bx.mk ha0; obtain ⟨r0, hr0⟩ : ∃ r, p0 % 2 = r := ⟨_, rfl⟩; have hr02 : r0 < 2 := by omega
    have HSR : Hid (popc (t.start.toNat &&& f) % 2 = r0) := Lib.hid (by rw [HSN.out, ha0, hp0, hr0]); have hand0 := i64_and_nat s0 f (by omega) (by omega); rw [ha0] at hand0; have m1 : (p0 : Int).tmod 2 = (r0 : Int) := by rw [Int.tmod_eq_emod_of_nonneg (by omega)]; omega
    have m2 : (p0 : Int) % 2 = (r0 : Int) := by omega
    clear hp0 ha0 hr0
    go_wp2_with fail
    refine (countBits_nat a0 (by omega) _).mono ?_; rw [HP0.out]; rintro e w4 ⟨rfl, rfl⟩; obtain ⟨N0, hN0⟩ : ∃ N, truthN t.goal = N := ⟨_, rfl⟩; have HTR := Bx.mk (codeTruth_yes t.goal HGO.out); have HN0 : Hid (∀ s, s < 32 → (bit N0 s == 1) = evalCode t.goal s) := Lib.hid fun s hs => by rw [← hN0]; exact bit_mset1 _ hs
    have hN32 : N0 < 4294967296 := by rw [← hN0]; exact mset32_lt _
    rw [hN0] at HTR; clear hN0
    go_wp2_with fail
    refine (codeTruth_impl G gn gc t.goal _ (HG.out.up HS.out.below)).mono ?_; rw [HTR.out]; rintro e w5 ⟨rfl, hb5⟩; have HS5 := Lib.hid (HS.out.quiet hb5); clear hb5 HS qr m1 m2 hand0; go_wp2
    go_loopw [42] (fun i wr => ∃ m : Nat, m ≤ 32 ∧ i = .int .i64 (m : Int) ∧ Hid (oddTo t f m) ∧ St w wr [rBlk w.heap.size 26 #[.int .i64 (s0 : Int), .slice G gn gc, .slice G' n' c']]) (fun i _ => 32 - (intOf i).toNat)
    case atStart => exact ⟨0, by omega, rfl, Lib.hid (fun s h => by omega), HS5.out⟩
    case round =>
     clear HS5; obtain ⟨m, hm, rfl, HODD, S⟩ := hrel; have HS := Lib.hid S; clear S
     by_cases hm32 : m < 32
     ·obtain ⟨gb, hgb⟩ : ∃ b, evalCode t.goal m = b := ⟨_, rfl⟩; have HGB := Bx.mk hgb; have hlm := and32 (b := f) hm32; have hpm := popc5 (b := f) hm32; obtain ⟨a, ha⟩ : ∃ a, m &&& f = a := ⟨_, rfl⟩; rw [ha] at hlm hpm; obtain ⟨pa, hpa⟩ : ∃ p, popc a = p := ⟨_, rfl⟩; rw [hpa] at hpm; have HPA := Bx.mk hpa; have HA := Bx.mk ha; obtain ⟨r, hr⟩ : ∃ r, pa % 2 = r := ⟨_, rfl⟩; have hr2 : r < 2 := by omega
      have HMR : Hid (popc (m &&& f) % 2 = r) := Lib.hid (by rw [ha, hpa, hr]); have hbit := and_one N0 m (by omega); have hb1 := HN0.out m hm32; rw [hgb] at hb1; have hand := i64_and_nat m f (by omega) (by omega); rw [ha] at hand; have m1 : (pa : Int).tmod 2 = (r : Int) := by rw [Int.tmod_eq_emod_of_nonneg (by omega)]; omega
      have m2 : (pa : Int) % 2 = (r : Int) := by omega
      clear hgb ha hpa hr
      cases gb with
      | false =>
       have h0 : bit N0 m = 0 := by have := bit_lt N0 m; have h2 : bit N0 m ≠ 1 := (by simpa using hb1); omega
       rw [h0] at hbit; have HM2 := Lib.hid (odd_next HODD.out (fun e => by rw [HGB.out] at e; cases e)); clear hb1 h0; go_wp2
       go_roundw
       case rel => exact ⟨m + 1, by omega, by go_num, HM2, HS.out⟩
       case measure => simp [intOf]; omega
      | true =>
       have h1 : bit N0 m = 1 := by simpa using hb1
       rw [h1] at hbit; clear hb1 h1
       go_wp2_with fail
       refine (countBits_nat a (by omega) _).mono ?_; rw [HPA.out]; rintro e w6 ⟨rfl, rfl⟩
       by_cases hrr : r = r0
       ·subst hrr; have HF := Bx.mk (sum_state (f := f) HOB.out hm32 HGB.out (by rw [HMR.out, HSR.out])); go_wp2; go_ret; exact ⟨by rw [HF.out]; rfl, HS.out.below⟩
       ·have HM2 := Lib.hid (odd_next HODD.out (fun _ => by rw [HMR.out, HSR.out]; exact hrr)); have hne : ((r : Int) == (r0 : Int)) = false := beq_false_of_ne (by omega); clear hrr; go_wp2
        go_roundw
        case rel => exact ⟨m + 1, by omega, by go_num, HM2, HS.out⟩
        case measure => simp [intOf]; omega
     ·obtain rfl : m = 32 := by omega
      have HF := Bx.mk (sum_yes HOB.out HM.out HKE.out HODD.out); go_wp2; go_ret; exact ⟨by rw [HF.out]; rfl, HS.out.below⟩
theorem sumOk_spec (v : Value) (t : TaskD) (f : Nat) (hf : f < 32) (w : World) (h : RdT w w.heap.size v t) (hok : taskOk t = true) :
  Calls Tryz.prog 131 #[v, .int .i64 (f : Int)] w fun e w' => e = .returned (.bool (sumOk t f)) ∧ Below w.heap.size w w' := by
 have h' := h; obtain ⟨G, gn, gc, G', n', c', rfl, hg, hgs, hds, hst⟩ := h; have HS0 := Lib.hid ((St.refl w).alloc #[.int .i64 t.start, .slice G gn gc, .slice G' n' c'] 26); have HT := Lib.hid h'; have HDS := Lib.hid hds; have HDL := Lib.hid hds.len; have HOK := Lib.hid hok; have HG := Lib.hid hg; have HGN := Lib.hid hgs; obtain ⟨hs01, hgok, hn6, hdok⟩ := taskOk_parts t hok; have HGO := Lib.hid hgok; have HDOK := Lib.hid hdok; have hn6' : n' ≤ 6 := by rw [← hds.len]; exact hn6
 obtain ⟨st, hst'⟩ : ∃ x, t.start = x := ⟨_, rfl⟩; rw [hst'] at hs01 HT HS0 ⊢
 obtain ⟨s0, rfl⟩ := Int.eq_ofNat_of_zero_le hs01.1; have hs32 : s0 < 32 := by omega
 have HSN : Hid (t.start.toNat = s0) := Lib.hid (by rw [hst']; simp); obtain ⟨ob, hob⟩ : ∃ b, onlyTurns t = b := ⟨_, rfl⟩; have HOB := Bx.mk hob; clear h' hok hds hdok hn6 hg hgs hst hgok hst' hs01 hob; go_enter Tryz.func131, Tryz.ntmps131
 go_wp2_with fail
 refine (onlyTurns_spec _ t _ (HT.out.up HS0.out.below) HOK.out).mono ?_; rw [HOB.out]; rintro e w2 ⟨rfl, hb2⟩; have HS2 := Lib.hid (HS0.out.quiet hb2); clear hb2 HS0; have q2 := HS2.out.cells 0 rfl
 cases ob with
 | false =>
  have HF := Bx.mk (sum_no (f := f) HOB.out); go_wp2; go_ret; exact ⟨by rw [HF.out]; rfl, HS2.out.below⟩
 | true =>
  go_wp2_with fail
  refine (l1In_yes (f : Int) 0 31 _ (by omega) (by omega)).mono ?_; rintro e w3 ⟨rfl, rfl⟩; go_wp2
  go_loopw [5] (fun i wr => ∃ k : Nat, k ≤ n' ∧ i = .int .i64 (k : Int) ∧ Hid (flipTo t f k) ∧ St w wr [rBlk w.heap.size 26 #[.int .i64 (s0 : Int), .slice G gn gc, .slice G' n' c']]) (fun i _ => n' - (intOf i).toNat)
  case atStart => exact ⟨0, by omega, rfl, Lib.hid (fun j d h => by omega), HS2.out⟩
  case round =>
   clear HS2 q2; obtain ⟨k, hk, rfl, HM, S⟩ := hrel; have HS := Lib.hid S; clear S; have qr := HS.out.cells 0 rfl
   by_cases hlt : k < n'
   ·obtain ⟨db, off, d, rfl, hdb, hd, hda⟩ := HDS.out.get hlt; obtain ⟨An, nn, cn, p0, p1, p2, p3, hneed, hnn, -⟩ := hda; have r0 : wr.cell? ⟨db, off + k * 4, none⟩ = some (.slice An nn cn) := (bcells HS.out.below db _ hdb).trans p0; have r1 : wr.cell? ⟨db, off + k * 4 + 1, none⟩ = some (.int .i64 d.on) := (bcells HS.out.below db _ hdb).trans p1; have r2 : wr.cell? ⟨db, off + k * 4 + 2, none⟩ = some (.int .i64 d.off) := (bcells HS.out.below db _ hdb).trans p2; have r3 : wr.cell? ⟨db, off + k * 4 + 3, none⟩ = some (.int .i64 d.flip) := (bcells HS.out.below db _ hdb).trans p3; have HDK := Lib.hid hd; have hfl := (deed_sets2 (HDOK.out d (List.mem_of_getElem? hd))); obtain ⟨z, hz⟩ : ∃ x, d.flip = x := ⟨_, rfl⟩; have HZ := Bx.mk hz; rw [hz] at r3 hfl; obtain ⟨fl, rfl⟩ := Int.eq_ofNat_of_zero_le hfl.1; have hfl32 : fl < 32 := by omega
    have HFL : Hid (d.flip.toNat = fl) := Lib.hid (by rw [hz]; simp); clear p0 p1 p2 p3 hneed hnn hd hz hfl; have hl32 := and32 (b := f) hfl32; have hp5 := popc5 (b := f) hfl32; have hand := i64_and_nat fl f (by omega) (by omega); have HEQ := Lib.hid (show popc (d.flip.toNat &&& f) = popc (fl &&& f) by rw [HFL.out]); obtain ⟨a, ha⟩ : ∃ a, fl &&& f = a := ⟨_, rfl⟩; rw [ha] at hl32 hp5 hand HEQ; obtain ⟨pa, hpa⟩ : ∃ p, popc a = p := ⟨_, rfl⟩; have HPA := Bx.mk hpa; rw [hpa] at hp5 HEQ; obtain ⟨r, hr⟩ : ∃ r, pa % 2 = r := ⟨_, rfl⟩; have HRR := Bx.mk hr; have hr2 : r < 2 := by omega
    have m1 : (pa : Int).tmod 2 = (r : Int) := by rw [Int.tmod_eq_emod_of_nonneg (by omega)]; omega
    have m2 : (pa : Int) % 2 = (r : Int) := by omega
    have HA := Bx.mk ha; have HSP := HS; clear hpa hr ha
    go_wp2_with fail
    refine (l1Both_nat fl f (by omega) _).mono ?_; rw [HA.out]; rintro e w4 ⟨rfl, rfl⟩
    go_wp2_with fail
    refine (l1Many_any a hl32 _).mono ?_; rw [HPA.out]; rintro e w5 ⟨rfl, rfl⟩
    by_cases hr1 : r = 1
    ·subst hr1; have HF := Bx.mk (sum_deed (f := f) HOB.out HDK.out (by rw [HEQ.out, HRR.out])); go_wp2; go_ret; exact ⟨by rw [HF.out]; rfl, HSP.out.below⟩
    ·obtain rfl : r = 0 := by omega
     have HM2 := Lib.hid (flip_next HM.out HDK.out (by rw [HEQ.out, HRR.out])); clear hr1; go_wp2
     go_roundw
     case rel => exact ⟨k + 1, by omega, by go_num, HM2, HSP.out⟩
     case measure => simp [intOf]; omega
   ·have hke : t.deeds.length ≤ k := by rw [HDL.out]; omega
    have HKE := Bx.mk hke; clear hke; obtain ⟨a0, ha0⟩ : ∃ a, s0 &&& f = a := ⟨_, rfl⟩; have hl0 : a0 < 32 := by rw [← ha0]; exact and32 hs32
    obtain ⟨p0, hp0⟩ : ∃ p, popc a0 = p := ⟨_, rfl⟩; have hp05 : p0 ≤ 5 := by rw [← hp0, ← ha0]; exact popc5 hs32
    have HP0 := Bx.mk hp0; have HA0 := Bx.mk ha0; obtain ⟨r0, hr0⟩ : ∃ r, p0 % 2 = r := ⟨_, rfl⟩; have hr02 : r0 < 2 := by omega
    have HSR : Hid (popc (t.start.toNat &&& f) % 2 = r0) := Lib.hid (by rw [HSN.out, ha0, hp0, hr0]); clear hp0 ha0; have HS5 := HS; go_wp2
    go_loopw [6] (fun i wr => ∃ m : Nat, m ≤ 32 ∧ i = .int .i64 (m : Int) ∧ Hid (oddTo t f m) ∧ St w wr [rBlk w.heap.size 26 #[.int .i64 (s0 : Int), .slice G gn gc, .slice G' n' c']]) (fun i _ => 32 - (intOf i).toNat)
    case atStart => exact ⟨0, by omega, rfl, Lib.hid (fun s h => by omega), HS5.out⟩
    case round =>
     clear HS5 HS qr; obtain ⟨m, hm, rfl, HODD, S⟩ := hrel; have HS := Lib.hid S; clear S
     by_cases hm32 : m < 32
     ·obtain ⟨gb, hgb⟩ : ∃ b, evalCode t.goal m = b := ⟨_, rfl⟩; have HGB := Bx.mk hgb; have hlm := and32 (b := f) hm32; have hpm := popc5 (b := f) hm32; obtain ⟨a, ha⟩ : ∃ a, m &&& f = a := ⟨_, rfl⟩; rw [ha] at hlm hpm; obtain ⟨pa, hpa⟩ : ∃ p, popc a = p := ⟨_, rfl⟩; rw [hpa] at hpm; have HPA := Bx.mk hpa; have HA := Bx.mk ha; obtain ⟨r, hr⟩ : ∃ r, pa % 2 = r := ⟨_, rfl⟩; have hr2 : r < 2 := by omega
      have HMR : Hid (popc (m &&& f) % 2 = r) := Lib.hid (by rw [ha, hpa, hr]); have C0 := Lib.hid (HS.out.cells 0 rfl 0); have C1 := Lib.hid (HS.out.cells 0 rfl 1); have HGW : Hid (w.heap.size < wr.heap.size) := Lib.hid (HS.out.new 0 rfl).2; clear hgb ha hpa
      cases gb with
      | false =>
       have HM2 := Lib.hid (odd_next HODD.out (fun e => by rw [HGB.out] at e; cases e)); clear hr
       go_upto_region 11 with (fail)
       refine wpr (σ := Unit)
        (fun _ i => match i with
        | 0 => .pointer (some ⟨w.heap.size, 1, none⟩)
        | 1 => .slice G gn gc
        | 2 => .int .i64 (m : Int)
        | 3 => .bool false
        | 4 => .bool false
        | 17 => .bool false
        | _ => undef)
        (fun D _ wx => Below wr.heap.size wr wx) () (fun D hD => (Below.refl _ _).drew) ?_ ?_
       ·refine Cs (fun D _ wx hR _ hd _ _ hs K hK => ?_) ?_
        ·have e2 := hs.o 2 (.pointer (some ⟨w.heap.size, 0, none⟩)); clear hs; go_simp; exact hK () wx sv hR
        refine Cs (fun D _ wx hR _ hd _ _ hs K hK => ?_) ?_
        ·have e37 := hs.v 0 37 hd; clear hs; have c0 : wx.cell? ⟨w.heap.size, 1, none⟩ = some (.slice G gn gc) := (bcells hR _ _ HGW.out).trans C1.out; go_simp; exact hK () wx sv hR
        refine Cs (fun D _ wx hR _ hd _ _ hs K hK => ?_) ?_
        ·have e6 := hs.o 6 (.int .i64 (m : Int)); clear hs; go_simp; exact hK () wx sv hR
        refine Cs (fun D _ wx hR _ hd _ _ hs K hK => ?_) ?_
        ·have e38 := hs.v 1 38 hd; have e39 := hs.v 2 39 hd; have g38 := getQ e38; have g39 := getQ e39; clear hs; go_simp; refine (l5Run_any G gn gc t.goal m wx (HG.out.up (HS.out.below.trans (hR.mono HS.out.below.size))) HGO.out hm32).mono ?_; rw [HGB.out]; rintro e2 w2 ⟨rfl, hb2⟩; exact hK () w2 sv (hR.trans (hb2.mono hR.size))
        refine Cs (fun D _ wx hR _ hd _ _ hs K hK => ?_) ?_
        ·have e40 := hs.v 3 40 hd; clear hs; go_simp; exact hK () wx sv hR
        refine StepAll.skip 4 41 false ?_; refine StepAll.skip 4 41 false ?_; refine StepAll.skip 4 41 false ?_; refine StepAll.skip 4 41 false ?_; refine StepAll.skip 4 41 false ?_; refine StepAll.skip 4 41 false ?_; refine StepAll.skip 4 41 false ?_; refine StepAll.skip 4 41 false ?_; refine StepAll.skip 4 41 false ?_; refine StepAll.skip 4 41 false ?_; refine StepAll.skip 4 41 false ?_; refine StepAll.skip 4 41 false ?_; refine Cs (fun D _ wx hR _ hd _ _ hs K hK => ?_) ?_
        ·have e41 := hs.v 4 41 hd; have e53 := hs.v 16 53 hd; clear hs; go_simp; exact hK () wx sv hR
        exact StepAll.nil
       intro D _ wx hR hD; simp only [putA, Act.put, List.setIfInBounds_toArray, List.set_cons_zero, List.set_cons_succ]; have HSX := Lib.hid (HS.out.quiet hR); clear hR hD HS C0 C1 HGW; go_wp2
       go_roundw
       case rel => exact ⟨m + 1, by omega, by go_num, HM2, HSX.out⟩
       case measure => simp [intOf]; omega
      | true =>
       obtain ⟨ss, hss⟩ : ∃ x, pa + p0 = x := ⟨_, rfl⟩; obtain ⟨rs, hrs⟩ : ∃ x, ss % 2 = x := ⟨_, rfl⟩; have HSS := Bx.mk (show (pa : Int) + (p0 : Int) = (ss : Int) by omega); have HSW := Bx.mk (show IntKind.i64.wrap (ss : Int) = (ss : Int) by rw [IntKind.wrap_i64] <;> omega); have HRS := Bx.mk (show (ss : Int) % 2 = (rs : Int) by omega); have HRT := Bx.mk (show (ss : Int).tmod 2 = (rs : Int) by rw [Int.tmod_eq_emod_of_nonneg (by omega)]; omega)
       by_cases hrr : r = r0
       ·have HF := Bx.mk (sum_state (f := f) HOB.out hm32 HGB.out (by rw [HMR.out, HSR.out]; exact hrr)); have HEB := Bx.mk (show ((rs : Int) == 0) = true by rw [beq_iff_eq]; omega); clear hrr hrs hss hr hr0
        go_upto_region 11 with (fail)
        refine wpr (σ := Unit)
         (fun _ i => match i with
         | 0 => .pointer (some ⟨w.heap.size, 1, none⟩)
         | 1 => .slice G gn gc
         | 2 => .int .i64 (m : Int)
         | 3 => .bool true
         | 4 => .bool true
         | 5 => .int .i64 (m : Int)
         | 6 => .int .i64 (f : Int)
         | 7 => .int .i64 (a : Int)
         | 8 => .int .i64 (pa : Int)
         | 9 => .pointer (some ⟨w.heap.size, 0, none⟩)
         | 10 => .int .i64 (s0 : Int)
         | 11 => .int .i64 (f : Int)
         | 12 => .int .i64 (a0 : Int)
         | 13 => .int .i64 (p0 : Int)
         | 14 => .int .i64 (ss : Int)
         | 15 => .int .i64 (rs : Int)
         | 16 => .bool true
         | 17 => .bool true
         | _ => undef)
         (fun D _ wx => Below wr.heap.size wr wx) () (fun D hD => (Below.refl _ _).drew) ?_ ?_
        ·refine Cs (fun D _ wx hR _ hd _ _ hs K hK => ?_) ?_
         ·have e2 := hs.o 2 (.pointer (some ⟨w.heap.size, 0, none⟩)); clear hs; go_simp; exact hK () wx sv hR
         refine Cs (fun D _ wx hR _ hd _ _ hs K hK => ?_) ?_
         ·have e37 := hs.v 0 37 hd; clear hs; have c0 : wx.cell? ⟨w.heap.size, 1, none⟩ = some (.slice G gn gc) := (bcells hR _ _ HGW.out).trans C1.out; go_simp; exact hK () wx sv hR
         refine Cs (fun D _ wx hR _ hd _ _ hs K hK => ?_) ?_
         ·have e6 := hs.o 6 (.int .i64 (m : Int)); clear hs; go_simp; exact hK () wx sv hR
         refine Cs (fun D _ wx hR _ hd _ _ hs K hK => ?_) ?_
         ·have e38 := hs.v 1 38 hd; have e39 := hs.v 2 39 hd; have g38 := getQ e38; have g39 := getQ e39; clear hs; go_simp; refine (l5Run_any G gn gc t.goal m wx (HG.out.up (HS.out.below.trans (hR.mono HS.out.below.size))) HGO.out hm32).mono ?_; rw [HGB.out]; rintro e2 w2 ⟨rfl, hb2⟩; exact hK () w2 sv (hR.trans (hb2.mono hR.size))
         refine Cs (fun D _ wx hR _ hd _ _ hs K hK => ?_) ?_
         ·have e40 := hs.v 3 40 hd; clear hs; go_simp; exact hK () wx sv hR
         refine CsG (fun D _ wx hR _ hd _ _ hs K hK => ?_) ?_
         ·refine hs.yes 4 41 true hd ?_; have e6 := hs.o 6 (.int .i64 (m : Int)); clear hs; go_simp; exact hK () wx sv hR
         refine CsG (fun D _ wx hR _ hd _ _ hs K hK => ?_) ?_
         ·refine hs.yes 4 41 true hd ?_; have e1 := hs.o 1 (.int .i64 (f : Int)); clear hs; go_simp; exact hK () wx sv hR
         refine CsG (fun D _ wx hR _ hd _ _ hs K hK => ?_) ?_
         ·refine hs.yes 4 41 true hd ?_; have e42 := hs.v 5 42 hd; have e43 := hs.v 6 43 hd; have g42 := getQ e42; have g43 := getQ e43; clear hs; go_simp; refine (l1Both_nat m f (by omega) wx).mono ?_; rw [HA.out]; rintro e2 w2 ⟨rfl, rfl⟩; exact hK () wx sv hR
         refine CsG (fun D _ wx hR _ hd _ _ hs K hK => ?_) ?_
         ·refine hs.yes 4 41 true hd ?_; have e44 := hs.v 7 44 hd; have g44 := getQ e44; clear hs; go_simp; refine (l1Many_any a hlm wx).mono ?_; rw [HPA.out]; rintro e2 w2 ⟨rfl, rfl⟩; exact hK () wx sv hR
         refine CsG (fun D _ wx hR _ hd _ _ hs K hK => ?_) ?_
         ·refine hs.yes 4 41 true hd ?_; have e2 := hs.o 2 (.pointer (some ⟨w.heap.size, 0, none⟩)); clear hs; go_simp; exact hK () wx sv hR
         refine CsG (fun D _ wx hR _ hd _ _ hs K hK => ?_) ?_
         ·refine hs.yes 4 41 true hd ?_; have e46 := hs.v 9 46 hd; clear hs; have c0 : wx.cell? ⟨w.heap.size, 0, none⟩ = some (.int .i64 (s0 : Int)) := (bcells hR _ _ HGW.out).trans C0.out; go_simp; exact hK () wx sv hR
         refine CsG (fun D _ wx hR _ hd _ _ hs K hK => ?_) ?_
         ·refine hs.yes 4 41 true hd ?_; have e1 := hs.o 1 (.int .i64 (f : Int)); clear hs; go_simp; exact hK () wx sv hR
         refine CsG (fun D _ wx hR _ hd _ _ hs K hK => ?_) ?_
         ·refine hs.yes 4 41 true hd ?_; have e47 := hs.v 10 47 hd; have e48 := hs.v 11 48 hd; have g47 := getQ e47; have g48 := getQ e48; clear hs; go_simp; refine (l1Both_nat s0 f (by omega) wx).mono ?_; rw [HA0.out]; rintro e2 w2 ⟨rfl, rfl⟩; exact hK () wx sv hR
         refine CsG (fun D _ wx hR _ hd _ _ hs K hK => ?_) ?_
         ·refine hs.yes 4 41 true hd ?_; have e49 := hs.v 12 49 hd; have g49 := getQ e49; clear hs; go_simp; refine (l1Many_any a0 hl0 wx).mono ?_; rw [HP0.out]; rintro e2 w2 ⟨rfl, rfl⟩; exact hK () wx sv hR
         refine CsG (fun D _ wx hR _ hd _ _ hs K hK => ?_) ?_
         ·refine hs.yes 4 41 true hd ?_; have e45 := hs.v 8 45 hd; have e50 := hs.v 13 50 hd; clear hs; have q1 := HSS.out; have q2 := HSW.out; go_simp; exact hK () wx sv hR
         refine CsG (fun D _ wx hR _ hd _ _ hs K hK => ?_) ?_
         ·refine hs.yes 4 41 true hd ?_; have e51 := hs.v 14 51 hd; clear hs; have q1 := HRS.out; have q2 := HRT.out; go_simp; exact hK () wx sv hR
         refine CsG (fun D _ wx hR _ hd _ _ hs K hK => ?_) ?_
         ·refine hs.yes 4 41 true hd ?_; have e52 := hs.v 15 52 hd; clear hs; have q1 := HEB.out; go_simp; exact hK () wx sv hR
         refine Cs (fun D _ wx hR _ hd _ _ hs K hK => ?_) ?_
         ·have e41 := hs.v 4 41 hd; have e53 := hs.v 16 53 hd; clear hs; go_simp; exact hK () wx sv hR
         exact StepAll.nil
        intro D _ wx hR hD; simp only [putA, Act.put, List.setIfInBounds_toArray, List.set_cons_zero, List.set_cons_succ]; have HSX := Lib.hid (HS.out.quiet hR); clear hR hD HS C0 C1 HGW; go_wp2; go_ret; exact ⟨by rw [HF.out]; rfl, HSX.out.below⟩
       ·have HM2 := Lib.hid (odd_next HODD.out (fun _ => by rw [HMR.out, HSR.out]; exact hrr)); have HEB := Bx.mk (show ((rs : Int) == 0) = false from beq_false_of_ne (by omega)); clear hrr hrs hss hr
        go_upto_region 11 with (fail)
        refine wpr (σ := Unit)
         (fun _ i => match i with
         | 0 => .pointer (some ⟨w.heap.size, 1, none⟩)
         | 1 => .slice G gn gc
         | 2 => .int .i64 (m : Int)
         | 3 => .bool true
         | 4 => .bool true
         | 5 => .int .i64 (m : Int)
         | 6 => .int .i64 (f : Int)
         | 7 => .int .i64 (a : Int)
         | 8 => .int .i64 (pa : Int)
         | 9 => .pointer (some ⟨w.heap.size, 0, none⟩)
         | 10 => .int .i64 (s0 : Int)
         | 11 => .int .i64 (f : Int)
         | 12 => .int .i64 (a0 : Int)
         | 13 => .int .i64 (p0 : Int)
         | 14 => .int .i64 (ss : Int)
         | 15 => .int .i64 (rs : Int)
         | 16 => .bool false
         | 17 => .bool false
         | _ => undef)
         (fun D _ wx => Below wr.heap.size wr wx) () (fun D hD => (Below.refl _ _).drew) ?_ ?_
        ·refine Cs (fun D _ wx hR _ hd _ _ hs K hK => ?_) ?_
         ·have e2 := hs.o 2 (.pointer (some ⟨w.heap.size, 0, none⟩)); clear hs; go_simp; exact hK () wx sv hR
         refine Cs (fun D _ wx hR _ hd _ _ hs K hK => ?_) ?_
         ·have e37 := hs.v 0 37 hd; clear hs; have c0 : wx.cell? ⟨w.heap.size, 1, none⟩ = some (.slice G gn gc) := (bcells hR _ _ HGW.out).trans C1.out; go_simp; exact hK () wx sv hR
         refine Cs (fun D _ wx hR _ hd _ _ hs K hK => ?_) ?_
         ·have e6 := hs.o 6 (.int .i64 (m : Int)); clear hs; go_simp; exact hK () wx sv hR
         refine Cs (fun D _ wx hR _ hd _ _ hs K hK => ?_) ?_
         ·have e38 := hs.v 1 38 hd; have e39 := hs.v 2 39 hd; have g38 := getQ e38; have g39 := getQ e39; clear hs; go_simp; refine (l5Run_any G gn gc t.goal m wx (HG.out.up (HS.out.below.trans (hR.mono HS.out.below.size))) HGO.out hm32).mono ?_; rw [HGB.out]; rintro e2 w2 ⟨rfl, hb2⟩; exact hK () w2 sv (hR.trans (hb2.mono hR.size))
         refine Cs (fun D _ wx hR _ hd _ _ hs K hK => ?_) ?_
         ·have e40 := hs.v 3 40 hd; clear hs; go_simp; exact hK () wx sv hR
         refine CsG (fun D _ wx hR _ hd _ _ hs K hK => ?_) ?_
         ·refine hs.yes 4 41 true hd ?_; have e6 := hs.o 6 (.int .i64 (m : Int)); clear hs; go_simp; exact hK () wx sv hR
         refine CsG (fun D _ wx hR _ hd _ _ hs K hK => ?_) ?_
         ·refine hs.yes 4 41 true hd ?_; have e1 := hs.o 1 (.int .i64 (f : Int)); clear hs; go_simp; exact hK () wx sv hR
         refine CsG (fun D _ wx hR _ hd _ _ hs K hK => ?_) ?_
         ·refine hs.yes 4 41 true hd ?_; have e42 := hs.v 5 42 hd; have e43 := hs.v 6 43 hd; have g42 := getQ e42; have g43 := getQ e43; clear hs; go_simp; refine (l1Both_nat m f (by omega) wx).mono ?_; rw [HA.out]; rintro e2 w2 ⟨rfl, rfl⟩; exact hK () wx sv hR
         refine CsG (fun D _ wx hR _ hd _ _ hs K hK => ?_) ?_
         ·refine hs.yes 4 41 true hd ?_; have e44 := hs.v 7 44 hd; have g44 := getQ e44; clear hs; go_simp; refine (l1Many_any a hlm wx).mono ?_; rw [HPA.out]; rintro e2 w2 ⟨rfl, rfl⟩; exact hK () wx sv hR
         refine CsG (fun D _ wx hR _ hd _ _ hs K hK => ?_) ?_
         ·refine hs.yes 4 41 true hd ?_; have e2 := hs.o 2 (.pointer (some ⟨w.heap.size, 0, none⟩)); clear hs; go_simp; exact hK () wx sv hR
         refine CsG (fun D _ wx hR _ hd _ _ hs K hK => ?_) ?_
         ·refine hs.yes 4 41 true hd ?_; have e46 := hs.v 9 46 hd; clear hs; have c0 : wx.cell? ⟨w.heap.size, 0, none⟩ = some (.int .i64 (s0 : Int)) := (bcells hR _ _ HGW.out).trans C0.out; go_simp; exact hK () wx sv hR
         refine CsG (fun D _ wx hR _ hd _ _ hs K hK => ?_) ?_
         ·refine hs.yes 4 41 true hd ?_; have e1 := hs.o 1 (.int .i64 (f : Int)); clear hs; go_simp; exact hK () wx sv hR
         refine CsG (fun D _ wx hR _ hd _ _ hs K hK => ?_) ?_
         ·refine hs.yes 4 41 true hd ?_; have e47 := hs.v 10 47 hd; have e48 := hs.v 11 48 hd; have g47 := getQ e47; have g48 := getQ e48; clear hs; go_simp; refine (l1Both_nat s0 f (by omega) wx).mono ?_; rw [HA0.out]; rintro e2 w2 ⟨rfl, rfl⟩; exact hK () wx sv hR
         refine CsG (fun D _ wx hR _ hd _ _ hs K hK => ?_) ?_
         ·refine hs.yes 4 41 true hd ?_; have e49 := hs.v 12 49 hd; have g49 := getQ e49; clear hs; go_simp; refine (l1Many_any a0 hl0 wx).mono ?_; rw [HP0.out]; rintro e2 w2 ⟨rfl, rfl⟩; exact hK () wx sv hR
         refine CsG (fun D _ wx hR _ hd _ _ hs K hK => ?_) ?_
         ·refine hs.yes 4 41 true hd ?_; have e45 := hs.v 8 45 hd; have e50 := hs.v 13 50 hd; clear hs; have q1 := HSS.out; have q2 := HSW.out; go_simp; exact hK () wx sv hR
         refine CsG (fun D _ wx hR _ hd _ _ hs K hK => ?_) ?_
         ·refine hs.yes 4 41 true hd ?_; have e51 := hs.v 14 51 hd; clear hs; have q1 := HRS.out; have q2 := HRT.out; go_simp; exact hK () wx sv hR
         refine CsG (fun D _ wx hR _ hd _ _ hs K hK => ?_) ?_
         ·refine hs.yes 4 41 true hd ?_; have e52 := hs.v 15 52 hd; clear hs; have q1 := HEB.out; go_simp; exact hK () wx sv hR
         refine Cs (fun D _ wx hR _ hd _ _ hs K hK => ?_) ?_
         ·have e41 := hs.v 4 41 hd; have e53 := hs.v 16 53 hd; clear hs; go_simp; exact hK () wx sv hR
         exact StepAll.nil
        intro D _ wx hR hD; simp only [putA, Act.put, List.setIfInBounds_toArray, List.set_cons_zero, List.set_cons_succ]; have HSX := Lib.hid (HS.out.quiet hR); clear hR hD HS C0 C1 HGW; go_wp2
        go_roundw
        case rel => exact ⟨m + 1, by omega, by go_num, HM2, HSX.out⟩
        case measure => simp [intOf]; omega
     ·obtain rfl : m = 32 := by omega
      have HF := Bx.mk (sum_yes HOB.out HM.out HKE.out HODD.out); go_wp2; go_ret; exact ⟨by rw [HF.out]; rfl, HS.out.below⟩
theorem sumFor_impl (v : Value) (t : TaskD) (w : World) (h : RdT w w.heap.size v t) (hok : taskOk t = true) :
  Calls Tryz.prog 166 #[v] w fun e w' => e = .returned (.tuple #[.int .i64 (opt (sumFor t)), .bool (sumFor t).isSome]) ∧ Below w.heap.size w w' := by
 have h' := h; obtain ⟨G, gn, gc, G', n', c', rfl, hg, hgs, hds, hst⟩ := h; have HS0 := Lib.hid ((St.refl w).alloc #[.int .i64 t.start, .slice G gn gc, .slice G' n' c'] 26); have HT := Lib.hid h'; have HOK := Lib.hid hok; obtain ⟨o, ho⟩ : ∃ o, sumFor t = o := ⟨_, rfl⟩; have HO := Bx.mk ho; rw [ho]; clear h' hok hds hg hgs hst ho; go_enter Tryz.func166, Tryz.ntmps166; go_wp2
 go_loopw [5] (fun i wr => ∃ k : Nat, k ≤ 32 ∧ i = .int .i64 (k : Int) ∧ Hid (∀ j, j < k → sumOk t j = false) ∧ St w wr [rBlk w.heap.size 26 #[.int .i64 t.start, .slice G gn gc, .slice G' n' c']]) (fun i _ => 32 - (intOf i).toNat)
 case atStart => exact ⟨0, by omega, rfl, Lib.hid (by omega), HS0.out⟩
 case round =>
  clear HS0; obtain ⟨k, hk, rfl, HM, S⟩ := hrel; have HS := Lib.hid S; clear S
  by_cases hlt : k < 32
  ·have q0 := HS.out.cells 0 rfl; obtain ⟨b, hb⟩ : ∃ b, sumOk t k = b := ⟨_, rfl⟩; have HB := Bx.mk hb; clear hb
   go_wp2_with fail
   refine (sumOk_impl _ t k hlt _ (HT.out.up HS.out.below) HOK.out).mono ?_; rw [HB.out]; rintro e w1 ⟨rfl, hb1⟩; have HS1 := Lib.hid (HS.out.quiet hb1); clear hb1
   cases b with
   | true =>
    have HV : Hid (o = some k) := Lib.hid (by
     rw [← HO.out]
     unfold sumFor
     rw [List.find?_range_eq_some]
     exact ⟨HB.out, by simpa using hlt, fun j hj => by rw [HM.out j hj]; rfl⟩)
    go_wp2; exact bodyPost_ret (v := .tuple #[.int .i64 (k : Int), .bool true]) (by simp [results, Tryz.results166, go_sem]) rfl ⟨by rw [HV.out]; rfl, HS1.out.below⟩
   | false =>
    have HM2 : Hid (∀ j, j < k + 1 → sumOk t j = false) := Lib.hid fun j hj => by
     rcases Nat.lt_or_ge j k with h | h
     ·exact HM.out j h
     ·obtain rfl : j = k := by omega
      exact HB.out
    go_wp2
    go_roundw
    case rel => exact ⟨k + 1, by omega, by go_num, HM2, HS1.out⟩
    case measure => simp [intOf]; omega
  ·have HV : Hid (o = none) := Lib.hid (by
    rw [← HO.out]
    unfold sumFor
    rw [List.find?_eq_none]; intro j hj
    rw [HM.out j (by have := List.mem_range.1 hj; omega)]; simp)
   go_wp2; exact bodyPost_ret (v := .tuple #[.int .i64 (-1), .bool false]) (by simp [results, Tryz.results166, go_sem]) rfl ⟨by rw [HV.out]; rfl, HS.out.below⟩
theorem sumFor_spec (v : Value) (t : TaskD) (w : World) (h : RdT w w.heap.size v t) (hok : taskOk t = true) :
  Calls Tryz.prog 105 #[v] w fun e w' => e = .returned (.tuple #[.int .i64 (opt (sumFor t)), .bool (sumFor t).isSome]) ∧ Below w.heap.size w w' := by
 have h' := h; obtain ⟨G, gn, gc, G', n', c', rfl, hg, hgs, hds, hst⟩ := h; have HS0 := Lib.hid ((St.refl w).alloc #[.int .i64 t.start, .slice G gn gc, .slice G' n' c'] 26); have HT := Lib.hid h'; have HOK := Lib.hid hok; obtain ⟨o, ho⟩ : ∃ o, sumFor t = o := ⟨_, rfl⟩; have HO := Bx.mk ho; rw [ho]; clear h' hok hds hg hgs hst ho; go_enter Tryz.func105, Tryz.ntmps105; go_wp2
 go_loopw [4] (fun i wr => ∃ k : Nat, k ≤ 32 ∧ i = .int .i64 (k : Int) ∧ Hid (∀ j, j < k → sumOk t j = false) ∧ St w wr [rBlk w.heap.size 26 #[.int .i64 t.start, .slice G gn gc, .slice G' n' c']]) (fun i _ => 32 - (intOf i).toNat)
 case atStart => exact ⟨0, by omega, rfl, Lib.hid (by omega), HS0.out⟩
 case round =>
  clear HS0; obtain ⟨k, hk, rfl, HM, S⟩ := hrel; have HS := Lib.hid S; clear S
  by_cases hlt : k < 32
  ·have q0 := HS.out.cells 0 rfl; obtain ⟨b, hb⟩ : ∃ b, sumOk t k = b := ⟨_, rfl⟩; have HB := Bx.mk hb; clear hb
   go_wp2_with fail
   refine (sumOk_spec _ t k hlt _ (HT.out.up HS.out.below) HOK.out).mono ?_; rw [HB.out]; rintro e w1 ⟨rfl, hb1⟩; have HS1 := Lib.hid (HS.out.quiet hb1); clear hb1
   cases b with
   | true =>
    have HV : Hid (o = some k) := Lib.hid (by
     rw [← HO.out]
     unfold sumFor
     rw [List.find?_range_eq_some]
     exact ⟨HB.out, by simpa using hlt, fun j hj => by rw [HM.out j hj]; rfl⟩)
    go_wp2; exact bodyPost_ret (v := .tuple #[.int .i64 (k : Int), .bool true]) (by simp [results, Tryz.results105, go_sem]) rfl ⟨by rw [HV.out]; rfl, HS1.out.below⟩
   | false =>
    have HM2 : Hid (∀ j, j < k + 1 → sumOk t j = false) := Lib.hid fun j hj => by
     rcases Nat.lt_or_ge j k with h | h
     ·exact HM.out j h
     ·obtain rfl : j = k := by omega
      exact HB.out
    go_wp2
    go_roundw
    case rel => exact ⟨k + 1, by omega, by go_num, HM2, HS1.out⟩
    case measure => simp [intOf]; omega
  ·have HV : Hid (o = none) := Lib.hid (by
    rw [← HO.out]
    unfold sumFor
    rw [List.find?_eq_none]; intro j hj
    rw [HM.out j (by have := List.mem_range.1 hj; omega)]; simp)
   go_wp2; exact bodyPost_ret (v := .tuple #[.int .i64 (-1), .bool false]) (by simp [results, Tryz.results105, go_sem]) rfl ⟨by rw [HV.out]; rfl, HS.out.below⟩
end Go.Proofs.YtkmcengmglgdeaaGreatDoor
