/- The draw of a task: some task of its own, with few deeds. Printed by gen_tdraw.py. -/
import Derived.Test.YtkmcengmglgdeaaGreatDoorSTDraw
import Derived.Test.YtkmcengmglgdeaaGreatDoorSPlanForW
namespace Go.Proofs.YtkmcengmglgdeaaGreatDoor
set_option linter.unusedVariables false
set_option linter.unusedSimpArgs false
open Go.ChangeShapes Go.WideShapes Go.ChangeAt Go.RowKit
def up5 (i : Nat) : Nat := if i < 5 then i else i + 2
theorem up5_inj {i j : Nat} (h : up5 i = up5 j) : i = j := by unfold up5 at h; split at h <;> split at h <;> omega
def dn6 (i : Nat) : Nat := if i = 0 then 0 else if i < 5 then i + 1 else if i = 5 then 1 else i - 1
theorem dn6_inj {i j : Nat} (hi : i ≠ 6) (hj : j ≠ 6) (h : dn6 i = dn6 j) : i = j := by
 unfold dn6 at h
 repeat' split at h
 all_goals omega
def dn5 (i : Nat) : Nat := if i < 5 then i else i - 2
theorem dn5_inj {i j : Nat} (h1 : i ≠ 5) (h2 : i ≠ 6) (h3 : j ≠ 5) (h4 : j ≠ 6) (h : dn5 i = dn5 j) : i = j := by unfold dn5 at h; split at h <;> split at h <;> omega
def DeedB (m : Int) (d : DeedD) : Prop := d.need.length ≤ 4 ∧ (-m ≤ d.on ∧ d.on ≤ m) ∧ (-m ≤ d.off ∧ d.off ≤ m) ∧ (-m ≤ d.flip ∧ d.flip ≤ m)
abbrev DeedSm (d : DeedD) : Prop := DeedB 200 d
theorem DeedB.mono {m m' : Int} {d : DeedD} (h : DeedB m d) (hm : m ≤ m') : DeedB m' d := by
 obtain ⟨h1, h2, h3, h4⟩ := h
 exact ⟨h1, by omega, by omega, by omega⟩
theorem deedSm0 : DeedSm ⟨[], 0, 0, 0⟩ := ⟨by simp, by decide, by decide, by decide⟩
theorem deedSm_wf {d : DeedD} (h : DeedSm d) : (Lit.int .i64 d.on).wf = true ∧ (Lit.int .i64 d.off).wf = true ∧ (Lit.int .i64 d.flip).wf = true := by
 obtain ⟨-, h1, h2, h3⟩ := h
 exact ⟨wf_i64_mk (by omega), wf_i64_mk (by omega), wf_i64_mk (by omega)⟩
def TaskSm (t : TaskD) : Prop := t.goal.length ≤ 6 ∧ t.deeds.length ≤ 7 ∧ (-1 ≤ t.start ∧ t.start ≤ 32) ∧ ∀ d ∈ t.deeds, DeedB 600 d
set_option maxRecDepth 100000 in
set_option maxHeartbeats 2000000 in
theorem l20Task_rd {w W : World} {L : List HRes} {g hi : Nat} (S : St w W (rRd w g hi :: L)) (hh : hi ≤ 200000000000) (n : Int) :
  Calls Tryz.prog 100 #[.pointer (some ⟨g, 0, none⟩), .int .i64 n] W fun e w' => ∃ v t, e = .returned v ∧ TaskSm t ∧ St w w' (rRd w g (hi + 200) :: rTask v t :: L) := by
 obtain ⟨r, hr⟩ : ∃ r, W.heap.size = r := ⟨_, rfl⟩
 have HS : Hid (St w (W.alloc (.cells #[.int .i64 0, .slice none 0 0, .slice none 0 0] 26)) (rRd w g hi :: rBlk r 26 #[.int .i64 0, .slice none 0 0, .slice none 0 0] :: L)) := Lib.hid (by rw [← hr]; exact S.alloc1 _ _)
 clear S
 go_enter Tryz.func100, Tryz.ntmps100
 go_wp2_with fail
 refine (pick_rd HS.out (by omega) 32).mono ?_
 rintro e w1 ⟨st, rfl, ⟨a1, a2, -⟩, s1⟩
 have a3 := a2 (by omega)
 have HS1 := Lib.hid s1
 clear s1 a2 HS
 go_wp2_with fail
 refine (l20Need_rd HS1.out (by omega)).mono ?_
 rintro e w2 ⟨v2, xs, rfl, hxl, hxd, s2⟩
 obtain ⟨T, hT⟩ : ∃ T, w2.heap.size = T := ⟨_, rfl⟩
 obtain ⟨A2, c2, hv2, -⟩ := s2.rdI 1 rfl
 subst hv2
 obtain ⟨gv, hgv⟩ : ∃ gv, gv = Value.slice A2 xs.length c2 := ⟨_, rfl⟩
 have HS2 : Hid (St w (w2.alloc (.cells #[.int .i64 st, .slice A2 xs.length c2, .slice none 0 0] 26)) (rRd w g (hi + 10) :: rInts gv xs :: rBlk T 26 #[.int .i64 st, gv, .slice none 0 0] :: rBlk r 26 #[.int .i64 0, .slice none 0 0, .slice none 0 0] :: L)) := Lib.hid (by
  rw [← hT, hgv]
  exact (((s2.alloc1 #[.int .i64 st, .slice A2 xs.length c2, .slice none 0 0] 26).bring 2 rfl).bring 1 rfl).more (by omega))
 clear s2 HS1
 go_wp2_with fail
 refine (pick_rd HS2.out (by omega) 2).mono ?_
 rintro e w3 ⟨x3, rfl, ⟨b1, b2, -⟩, s3⟩
 have b3 := b2 (by omega)
 have HS3 := Lib.hid s3
 try rw [hr]
 try rw [hT]
 clear s3 b2 HS2 hr hT hgv
 go_upto_if 16 with (fail)
 go_cut [6] (fun s6 wx => ∃ (gv : Value) (goal : List Int), goal.length ≤ 6 ∧ St w wx (rRd w g (hi + 15) :: rInts gv goal :: rBlk T 26 #[.int .i64 st, gv, .slice none 0 0] :: rBlk r 26 #[.int .i64 0, .slice none 0 0, .slice none 0 0] :: L))
 case first =>
  by_cases h3 : x3 = 0
  ·subst h3
   go_wp2_with fail
   refine (pick_rd HS3.out (by omega) 5).mono ?_
   rintro e w4 ⟨y1, rfl, ⟨c1, c2, -⟩, s4⟩
   have c3 := c2 (by omega)
   have HS4 := Lib.hid s4
   clear s4 c2 HS3
   go_wp2_with fail
   refine (pick_rd HS4.out (by omega) 5).mono ?_
   rintro e w5 ⟨y2, rfl, ⟨d1, d2, -⟩, s5⟩
   have d3 := d2 (by omega)
   have HS5 := Lib.hid s5
   clear s5 d2 HS4
   go_wp2_with fail
   refine (pick_rd HS5.out (by omega) 5).mono ?_
   rintro e w6 ⟨y3, rfl, ⟨e1, e2, -⟩, s6⟩
   have e3 := e2 (by omega)
   have s7 := s6.call1 (St.lit w6 [y1, y2, 8, y3, 7, 8] 6 rfl (by simp) (((Dig.two c1 (by omega) d1 (by omega)).app (Dig.two (x := 8) (y := y3) (by omega) (by omega) e1 (by omega))).app (Dig.two (x := 7) (y := 8) (by omega) (by omega) (by omega) (by omega))).wf)
   have q7 : ∀ j, (w6.alloc (.cells #[.int .i64 y1, .int .i64 y2, .int .i64 8, .int .i64 y3, .int .i64 7, .int .i64 8] 3)).cell? ⟨T, j, none⟩ = _ := s7.cells 3 rfl
   have f7 : ∀ j, (w6.alloc (.cells #[.int .i64 y1, .int .i64 y2, .int .i64 8, .int .i64 y3, .int .i64 7, .int .i64 8] 3)).frozen? ⟨T, j, none⟩ = false := s7.free 3 rfl
   have HS7 := Lib.hid (((s7.set 3 rfl 1 (.slice (some ⟨w6.heap.size, 0, none⟩) 6 6)).rid 2 rfl).more (hi' := hi + 15) (by omega))
   clear s6 s7 e2 HS5
   go_wp2
   go_meet
   case rel => exact ⟨_, [y1, y2, 8, y3, 7, 8], by simp, HS7.out⟩
  ·have h3' : (x3 == 0) = false := by simpa using h3
   have HS4 := Lib.hid (HS3.out.more (hi' := hi + 15) (by omega))
   clear h3 HS3
   go_wp2
   go_meet
   case rel => exact ⟨gv, xs, by omega, HS4.out⟩
 case rest =>
  obtain ⟨gv, goal, hgl, SC⟩ := hcut
  have HS4 := Lib.hid SC
  clear SC HS3 b1 b3 hxl hxd
  go_wp2_with fail
  refine (pick_rd HS4.out (by omega) 7).mono ?_
  rintro e w5 ⟨x5, rfl, ⟨c1, c2, -⟩, s5⟩
  have c3 := c2 (by omega)
  obtain ⟨j0, rfl⟩ := Int.eq_ofNat_of_zero_le c1
  have HS5 : Hid (St w w5 (rRd w g (hi + 30) :: rDeeds (.slice none 0 0) [] :: rInts gv goal :: rBlk T 26 #[.int .i64 st, gv, .slice none 0 0] :: rBlk r 26 #[.int .i64 0, .slice none 0 0, .slice none 0 0] :: L)) := Lib.hid ((s5.call1 (rDeeds_nil w5 w5 (Below.refl _ _))).more (by omega))
  clear s5 c2 HS4
  go_wp2
  go_loopw [6] (fun iv wr => ∃ (j : Nat) (ds : List DeedD) (dv : Value), ds.length + j ≤ 6 ∧ iv = .int .i64 j ∧ (∀ d ∈ ds, DeedSm d) ∧ St w wr (rRd w g (hi + 30 + 20 * ds.length) :: rDeeds dv ds :: rInts gv goal :: rBlk T 26 #[.int .i64 st, gv, dv] :: rBlk r 26 #[.int .i64 0, .slice none 0 0, .slice none 0 0] :: L)) (fun iv _ => (intOf iv).toNat)
  case atStart => exact ⟨j0, [], _, by simp; omega, rfl, by simp, HS5.out⟩
  case round =>
   clear HS5 c1 c3
   obtain ⟨j, ds, dv, hj, rfl, hsm, S⟩ := hrel
   have HS := Lib.hid S
   have HSM := Lib.hid hsm
   clear S hsm
   by_cases hj0 : 0 < j
   ·go_upto_region 7 with (fail)
    refine wp_reg (σ := {d : DeedD // DeedSm d} × Option Addr × Nat × Nat × Option Addr × Nat) (by kernel_rfl) (by kernel_rfl) (by kernel_rfl)
     (fun s i => match i with
      | 0 => .pointer (some ⟨T, 2, none⟩)
      | 1 => dv
      | 2 => .pointer (some ⟨g, 0, none⟩)
      | 3 => .agg #[.slice s.2.1 (s.1.1.need).length s.2.2.1, .int .i64 s.1.1.on, .int .i64 s.1.1.off, .int .i64 s.1.1.flip]
      | 4 => .slice (some ⟨s.2.2.2.1, 0, none⟩) 1 1
      | 5 => .slice s.2.2.2.2.1 (ds.length + 1) s.2.2.2.2.2
      | 6 => .pointer (some ⟨T, 2, none⟩)
      | _ => undef)
     (fun D s wx => Sn w wx fun i => match i with
      | 0 => some (rRd w g (if D 3 = true then hi + 30 + 20 * ds.length + 20 else hi + 30 + 20 * ds.length))
      | 1 => some (rDeeds (if D 5 = true then .slice s.2.2.2.2.1 (ds.length + 1) s.2.2.2.2.2 else dv) (if D 5 = true then ds ++ [s.1.1] else ds))
      | 2 => some (rInts gv goal)
      | 3 => some (rBlk T 26 (if D 7 = true then #[.int .i64 st, gv, .slice s.2.2.2.2.1 (ds.length + 1) s.2.2.2.2.2] else #[.int .i64 st, gv, dv]))
      | 4 => some (rBlk r 26 #[.int .i64 0, .slice none 0 0, .slice none 0 0])
      | 5 => if D 3 = true then (if D 5 = true then none else some (rInts (.slice s.2.1 (s.1.1.need).length s.2.2.1) (s.1.1.need))) else none
      | 6 => if D 4 = true then some (rBlk s.2.2.2.1 144 #[.slice s.2.1 (s.1.1.need).length s.2.2.1, .int .i64 s.1.1.on, .int .i64 s.1.1.off, .int .i64 s.1.1.flip]) else none
      | q + 7 => L[q]?)
     (⟨⟨[], 0, 0, 0⟩, deedSm0⟩, none, 0, 0, none, 0) ?_ ?_ ?_
    ·intro D hD
     refine ((Sn.of_st HS.out).quiet ((Below.refl _ _).drew)).re dn5 (fun i => ?_) (fun i j hi hj h => ?_)
     ·match i with
      | 0 => exact .inr (by simp only [hD 3 (by decide), hD 4 (by decide), hD 5 (by decide), hD 7 (by decide)]; rfl)
      | 1 => exact .inr (by simp only [hD 3 (by decide), hD 4 (by decide), hD 5 (by decide), hD 7 (by decide)]; rfl)
      | 2 => exact .inr (by simp only [hD 3 (by decide), hD 4 (by decide), hD 5 (by decide), hD 7 (by decide)]; rfl)
      | 3 => exact .inr (by simp only [hD 3 (by decide), hD 4 (by decide), hD 5 (by decide), hD 7 (by decide)]; rfl)
      | 4 => exact .inr (by simp only [hD 3 (by decide), hD 4 (by decide), hD 5 (by decide), hD 7 (by decide)]; rfl)
      | 5 => exact .inl (by simp only [hD 3 (by decide), hD 4 (by decide), hD 5 (by decide), hD 7 (by decide)]; rfl)
      | 6 => exact .inl (by simp only [hD 3 (by decide), hD 4 (by decide), hD 5 (by decide), hD 7 (by decide)]; rfl)
      | q + 7 => exact .inr rfl
     ·by_cases i5 : i = 5
      ·subst i5; exact absurd (by simp only [hD 3 (by decide), hD 4 (by decide), hD 5 (by decide), hD 7 (by decide)]; rfl) hi
      by_cases i6 : i = 6
      ·subst i6; exact absurd (by simp only [hD 3 (by decide), hD 4 (by decide), hD 5 (by decide), hD 7 (by decide)]; rfl) hi
      by_cases j5 : j = 5
      ·subst j5; exact absurd (by simp only [hD 3 (by decide), hD 4 (by decide), hD 5 (by decide), hD 7 (by decide)]; rfl) hj
      by_cases j6 : j = 6
      ·subst j6; exact absurd (by simp only [hD 3 (by decide), hD 4 (by decide), hD 5 (by decide), hD 7 (by decide)]; rfl) hj
      exact dn5_inj i5 i6 j5 j6 h
    ·refine StepAll.cons (fun D s wx hR (hDi : D 0 = false) hd hsh a' hs K hK => ?_) ?_
     ·have e5 := hs.old 5 (u := .pointer (some ⟨T, 0, none⟩)) (by kernel_rfl) rfl
      clear hs
      go_simp
      exact hK s wx (fun _ _ => rfl) hR
     refine StepAll.cons (fun D s wx hR (hDi : D 1 = false) hd hsh a' hs K hK => ?_) ?_
     ·have e31 := hs.g 0 31 (.pointer (some ⟨T, 2, none⟩)) (hd ⟨0, .data⟩ (by simp) rfl)
      clear hs
      have n7 : D 7 = false := hsh.no hDi 7 rfl ⟨1, .phase⟩ (by simp) rfl rfl
      have kb : Blk wx (T) 26 #[.int .i64 st, gv, dv] := hR.blk 3 (by simp only [n7]; rfl)
      have c0 : wx.cell? ⟨T, 2, none⟩ = some (dv) := kb.cell 2
      go_simp
      exact hK s wx (fun _ _ => rfl) hR
     refine StepAll.cons (fun D s wx hR (hDi : D 2 = false) hd hsh a' hs K hK => ?_) ?_
     ·have e0 := hs.old 0 (u := .pointer (some ⟨g, 0, none⟩)) (by kernel_rfl) rfl
      clear hs
      go_simp
      exact hK s wx (fun _ _ => rfl) hR
     refine StepAll.cons (fun D s wx hR (hDi : D 3 = false) hd hsh a' hs K hK => ?_) ?_
     ·have e33 := hs.g 2 33 (.pointer (some ⟨g, 0, none⟩)) (hd ⟨2, .data⟩ (by simp) rfl)
      have g33 := getQ e33
      clear hs
      have n4 : D 4 = false := hsh.no hDi 4 rfl ⟨3, .data⟩ (by simp) rfl rfl
      have n5 : D 5 = false := hsh.no n4 5 rfl ⟨4, .data⟩ (by simp) rfl rfl
      have n7 : D 7 = false := hsh.no n5 7 rfl ⟨5, .data⟩ (by simp) rfl rfl
      go_simp
      have s1 : St w wx (rRd w g (hi + 30 + 20 * ds.length) :: rDeeds dv ds :: rInts gv goal :: rBlk T 26 #[.int .i64 st, gv, dv] :: rBlk r 26 #[.int .i64 0, .slice none 0 0, .slice none 0 0] :: L) := (hR.re (M' := fun i => (rRd w g (hi + 30 + 20 * ds.length) :: rDeeds dv ds :: rInts gv goal :: rBlk T 26 #[.int .i64 st, gv, dv] :: rBlk r 26 #[.int .i64 0, .slice none 0 0, .slice none 0 0] :: L)[i]?) up5 (fun i => by
       refine .inr ?_
       match i with
       | 0 => simp only [hDi]; rfl
       | 1 => simp only [n5]; rfl
       | 2 => rfl
       | 3 => simp only [n7]; rfl
       | 4 => rfl
       | q + 5 => rfl) (fun i j _ _ h => up5_inj h)).all fun i => rfl
      refine (l20Deed_rd s1 (by omega) 0).mono ?_
      rintro e2 w2 ⟨nv2, d2, rfl, hl2, hg2, ho2, hf2, hp2, s2⟩
      obtain ⟨A3, c3, hv, -⟩ := s2.rdI 1 rfl
      subst hv
      refine hK (⟨d2, hl2, by omega, by omega, by omega⟩, A3, c3, s.2.2.2) w2
       (fun j hj => by
        match j, hj with
        | 0, hj => rfl
        | 1, hj => rfl
        | 2, hj => rfl
        | 3, hj => rw [hDi] at hj; cases hj
        | 4, hj => rw [n4] at hj; cases hj
        | 5, hj => rw [n5] at hj; cases hj
        | 6, hj => rfl
        | 7, hj => rw [n7] at hj; cases hj
        | _ + 8, hj => rfl)
       ((Sn.of_st s2).re dn6 (fun i => by
        match i with
        | 0 => exact .inr (by simp only [upd_self]; rfl)
        | 1 => exact .inr (by simp only [upd_ne _ (show (5 : Nat) ≠ 3 by decide), n5]; rfl)
        | 2 => exact .inr rfl
        | 3 => exact .inr (by simp only [upd_ne _ (show (7 : Nat) ≠ 3 by decide), n7]; rfl)
        | 4 => exact .inr rfl
        | 5 => exact .inr (by simp only [upd_self, upd_ne _ (show (5 : Nat) ≠ 3 by decide), n5]; rfl)
        | 6 => exact .inl (by simp only [upd_ne _ (show (4 : Nat) ≠ 3 by decide), n4]; rfl)
        | q + 7 => exact .inr rfl)
        (fun i j hi hj h => by
         by_cases i6 : i = 6
         ·subst i6; exact absurd (by simp only [upd_ne _ (show (4 : Nat) ≠ 3 by decide), n4]; rfl) hi
         by_cases j6 : j = 6
         ·subst j6; exact absurd (by simp only [upd_ne _ (show (4 : Nat) ≠ 3 by decide), n4]; rfl) hj
         exact dn6_inj i6 j6 h))
     refine StepAll.cons (fun D s wx hR (hDi : D 4 = false) hd hsh a' hs K hK => ?_) ?_
     ·have e34 := hs.g 3 34 (.agg #[.slice s.2.1 (s.1.1.need).length s.2.2.1, .int .i64 s.1.1.on, .int .i64 s.1.1.off, .int .i64 s.1.1.flip]) (hd ⟨3, .data⟩ (by simp) rfl)
      have g34 := getQ e34
      clear hs
      have n5 : D 5 = false := hsh.no hDi 5 rfl ⟨4, .data⟩ (by simp) rfl rfl
      go_simp
      refine hK (s.1, s.2.1, s.2.2.1, wx.heap.size, s.2.2.2.2) _
       (fun j hj => by
        match j, hj with
        | 0, hj => rfl
        | 1, hj => rfl
        | 2, hj => rfl
        | 3, hj => rfl
        | 4, hj => rw [hDi] at hj; cases hj
        | 5, hj => rfl
        | 6, hj => rfl
        | 7, hj => rfl
        | _ + 8, hj => rfl)
       ((hR.add 6 (if_neg (by rw [hDi]; simp)) (St.new1 wx #[.slice s.2.1 (s.1.1.need).length s.2.2.1, .int .i64 s.1.1.on, .int .i64 s.1.1.off, .int .i64 s.1.1.flip] 144)).congr
        (fun i => by
         match i with
         | 0 => rfl
         | 1 => rfl
         | 2 => rfl
         | 3 => rfl
         | 4 => rfl
         | 5 => rfl
         | 6 => rfl
         | q + 7 => exact (if_neg (show ¬ (q + 7 = 6) by omega)).symm))
     refine StepAll.cons (fun D s wx hR (hDi : D 5 = false) hd hsh a' hs K hK => ?_) ?_
     ·have e32 := hs.g 1 32 (dv) (hd ⟨1, .data⟩ (by simp) rfl)
      have e35 := hs.g 4 35 (.slice (some ⟨s.2.2.2.1, 0, none⟩) 1 1) (hd ⟨4, .data⟩ (by simp) rfl)
      have g32 := getQ e32
      have g35 := getQ e35
      clear hs
      have n7 : D 7 = false := hsh.no hDi 7 rfl ⟨5, .data⟩ (by simp) rfl rfl
      have d4 : D 4 = true := hd ⟨4, .data⟩ (by simp) rfl
      have d3 : D 3 = true := hsh 4 _ rfl d4 ⟨3, .data⟩ (by simp) rfl
      obtain ⟨F, cells, Fs, ho, -⟩ := hR.deeds 1 (v := dv) (ds := ds) (by simp only [hDi]; rfl)
      have kb : Blk wx s.2.2.2.1 144 #[.slice s.2.1 (s.1.1.need).length s.2.2.1, .int .i64 s.1.1.on, .int .i64 s.1.1.off, .int .i64 s.1.1.flip] := hR.blk 6 (by simp only [d4]; rfl)
      have hsm := s.1.2
      refine wp_app1 elDeed (.tmp 32) (.tmp 35) rfl 0 dv _ cells e32 ho.row _ _ 1 1 [.slice s.2.1 (s.1.1.need).length s.2.2.1, .int .i64 s.1.1.on, .int .i64 s.1.1.off, .int .i64 s.1.1.flip] e35 (RdRow.of_blk kb 4 1 rfl (by unfold maxLen; omega)) (by omega) (by simp [Value.oneCell']) (by omega) (by omega) (by omega) ?_
      intro v' w' hown hg hat
      obtain ⟨A4, c4, hv⟩ := own_form hown
      subst hv
      exact hK (s.1, s.2.1, s.2.2.1, s.2.2.2.1, A4, c4) w'
       (fun j hj => by
        match j, hj with
        | 0, hj => rfl
        | 1, hj => rfl
        | 2, hj => rfl
        | 3, hj => rfl
        | 4, hj => rfl
        | 5, hj => rw [hDi] at hj; cases hj
        | 6, hj => rfl
        | 7, hj => rfl
        | _ + 8, hj => rfl)
       ((hR.push 1 5 (by decide) (v := dv) (nv := .slice s.2.1 (s.1.1.need).length s.2.2.1) (ds := ds) (d := s.1.1) (by simp only [hDi]; rfl) (by simp only [d3, hDi]; rfl) (by have := s.1.2.1; omega) (deedSm_wf s.1.2) (by omega) rfl ho.row hown hg hat).congr
        (fun i => by
         match i with
         | 0 => rfl
         | 1 => rfl
         | 2 => rfl
         | 3 => (show some (rBlk _ _ (if D 7 = true then _ else _)) = some (rBlk _ _ (if D 7 = true then _ else _)); rw [n7]; rfl)
         | 4 => rfl
         | 5 => (show (if D 3 = true then none else none) = none; rw [d3]; rfl)
         | 6 => rfl
         | q + 7 => exact ((if_neg (show ¬ (q + 7 = 1) by omega)).trans (if_neg (show ¬ (q + 7 = 5) by omega))).symm))
     refine StepAll.cons (fun D s wx hR (hDi : D 6 = false) hd hsh a' hs K hK => ?_) ?_
     ·have e5 := hs.old 5 (u := .pointer (some ⟨T, 0, none⟩)) (by kernel_rfl) rfl
      clear hs
      go_simp
      exact hK s wx (fun _ _ => rfl) hR
     refine StepAll.cons (fun D s wx hR (hDi : D 7 = false) hd hsh a' hs K hK => ?_) ?_
     ·have e37 := hs.g 6 37 (.pointer (some ⟨T, 2, none⟩)) (hd ⟨6, .data⟩ (by simp) rfl)
      have e36 := hs.g 5 36 (.slice s.2.2.2.2.1 (ds.length + 1) s.2.2.2.2.2) (hd ⟨5, .data⟩ (by simp) rfl)
      clear hs
      have kb : Blk wx T 26 #[.int .i64 st, gv, dv] := hR.blk 3 (by simp only [hDi]; rfl)
      have f0 := kb.frozen
      have c2' : wx.cell? ⟨T, 2, none⟩ = some (dv) := kb.cell 2
      go_simp
      exact hK s _ (fun _ _ => rfl) ((hR.set 3 (cs := #[.int .i64 st, gv, dv]) (by simp only [hDi]; rfl) 2 _).congr
       (fun i => by
        match i with
        | 0 => rfl
        | 1 => rfl
        | 2 => rfl
        | 3 => rfl
        | 4 => rfl
        | 5 => rfl
        | 6 => rfl
        | q + 7 => exact (if_neg (show ¬ (q + 7 = 3) by omega)).symm))
     exact StepAll.nil
    ·intro D s wx hR hD
     simp only [putA, Act.put, List.setIfInBounds_toArray, List.set_cons_zero, List.set_cons_succ]
     have HS2 : Hid (St w wx (rRd w g (hi + 30 + 20 * (ds.length + 1)) :: rDeeds (.slice s.2.2.2.2.1 (ds.length + 1) s.2.2.2.2.2) (ds ++ [s.1.1]) :: rInts gv goal :: rBlk T 26 #[.int .i64 st, gv, (.slice s.2.2.2.2.1 (ds.length + 1) s.2.2.2.2.2)] :: rBlk r 26 #[.int .i64 0, .slice none 0 0, .slice none 0 0] :: L)) := Lib.hid ((hR.re (M' := fun i => (rRd w g (hi + 30 + 20 * (ds.length + 1)) :: rDeeds (.slice s.2.2.2.2.1 (ds.length + 1) s.2.2.2.2.2) (ds ++ [s.1.1]) :: rInts gv goal :: rBlk T 26 #[.int .i64 st, gv, (.slice s.2.2.2.2.1 (ds.length + 1) s.2.2.2.2.2)] :: rBlk r 26 #[.int .i64 0, .slice none 0 0, .slice none 0 0] :: L)[i]?) up5 (fun i => by
      refine .inr ?_
      match i with
      | 0 => simp only [hD 3 (by decide), hD 4 (by decide), hD 5 (by decide), hD 7 (by decide)]; rfl
      | 1 => simp only [hD 3 (by decide), hD 4 (by decide), hD 5 (by decide), hD 7 (by decide)]; rfl
      | 2 => rfl
      | 3 => simp only [hD 3 (by decide), hD 4 (by decide), hD 5 (by decide), hD 7 (by decide)]; rfl
      | 4 => rfl
      | q + 5 => rfl) (fun i j _ _ h => up5_inj h)).all fun i => rfl)
     have HSM2 : Hid (∀ d ∈ ds ++ [s.1.1], DeedSm d) := Lib.hid fun d hd => (List.mem_append.1 hd).elim (HSM.out d) fun h => by rw [List.mem_singleton] at h; rw [h]; exact s.1.2
     have hlen : (ds ++ [s.1.1]).length = ds.length + 1 := by simp
     have HLN := Lib.hid hlen
     clear hR hD hlen
     go_wp2
     go_roundw
     case rel => exact ⟨j - 1, ds ++ [s.1.1], .slice s.2.2.2.2.1 (ds.length + 1) s.2.2.2.2.2, by rw [HLN.out]; omega, by go_num, HSM2.out, by rw [HLN.out]; exact HS2.out⟩
     case measure => simp [intOf]; omega
   ·have hjz : j = 0 := by omega
    subst hjz
    go_wp2_with fail
    refine (pick_rd HS.out (by omega) 4).mono ?_
    rintro e w8 ⟨x8, rfl, ⟨d1, d2, -⟩, s8⟩
    have d3 := d2 (by omega)
    obtain ⟨A8, c8, hdv, -⟩ := s8.rdDs 1 rfl
    obtain ⟨m, hm⟩ : ∃ m, ds.length = m := ⟨_, rfl⟩
    have HS8 : Hid (St w w8 (rRd w g (hi + 160) :: rDeeds dv ds :: rInts gv goal :: rBlk T 26 #[.int .i64 st, gv, dv] :: rBlk r 26 #[.int .i64 0, .slice none 0 0, .slice none 0 0] :: L)) := Lib.hid (s8.more (by omega))
    rw [hm] at hdv
    have HDV := Bx.mk hdv
    have HM := Lib.hid hm
    have hm6 : m ≤ 6 := by omega
    clear s8 d2 HS hj0 hj hdv hm
    go_upto_if 40 with (fail)
    go_cut [7] (fun s7 wx => ∃ ds', ds'.length = m ∧ (∀ d ∈ ds', DeedB 600 d) ∧ St w wx (rRd w g (hi + 160) :: rDeeds dv ds' :: rInts gv goal :: rBlk T 26 #[.int .i64 st, gv, dv] :: rBlk r 26 #[.int .i64 0, .slice none 0 0, .slice none 0 0] :: L))
    case first =>
     by_cases h8 : x8 = 0
     ·subst h8
      go_wp2
      go_loopw [7] (fun kv wr => ∃ (k : Nat) (ds' : List DeedD), k ≤ m ∧ kv = .int .i64 k ∧ Hid (ds'.length = m) ∧ Hid (∀ i, k ≤ i → ds'[i]? = ds[i]?) ∧ Hid (∀ d ∈ ds', DeedB 600 d) ∧ St w wr (rRd w g (hi + 160) :: rDeeds dv ds' :: rInts gv goal :: rBlk T 26 #[.int .i64 st, gv, dv] :: rBlk r 26 #[.int .i64 0, .slice none 0 0, .slice none 0 0] :: L)) (fun kv _ => m - (intOf kv).toNat)
      case atStart => exact ⟨0, ds, by omega, rfl, HM, Lib.hid fun _ _ => rfl, Lib.hid fun d hd => (HSM.out d hd).mono (by omega), HS8.out⟩
      case round =>
       clear HS8
       obtain ⟨k, ds', hk, rfl, HL', HEQ, HB, S⟩ := hrel
       have HS := Lib.hid S
       have qT : ∀ j, wr.cell? ⟨T, j, none⟩ = _ := S.cells 3 rfl
       by_cases hlt : k < m
       ·obtain ⟨g9, c9, d9, A9, n9, c9', hdv, hcap, hmax, hd9, q0, q1, q2, q3, fz, -, -⟩ := S.deedAt 1 rfl (k := k) (by rw [HL'.out]; exact hlt)
        have hDB : DeedB 200 d9 := HSM.out d9 (List.mem_of_getElem? (by rw [← HEQ.out k (Nat.le_refl _)]; exact hd9))
        obtain ⟨-, ho1, ho2, ho3⟩ := hDB
        rw [HL'.out] at hdv hcap
        subst hdv
        unfold maxLen at hmax
        obtain ⟨on, hon⟩ : ∃ on, d9.on = on := ⟨_, rfl⟩
        obtain ⟨off, hoff⟩ : ∃ off, d9.off = off := ⟨_, rfl⟩
        obtain ⟨fl, hfl⟩ : ∃ fl, d9.flip = fl := ⟨_, rfl⟩
        rw [hon] at q1 ho1
        rw [hoff] at q2 ho2
        rw [hfl] at q3 ho3
        have hwa : IntKind.i64.wrap (on + off) = on + off := IntWalk.i64_in _ (by omega)
        have hwb : IntKind.i64.wrap (on + off + fl) = on + off + fl := IntWalk.i64_in _ (by omega)
        obtain ⟨bd, hbd⟩ : ∃ bd, wr.heap.size = bd := ⟨_, rfl⟩
        have S2 : St w (wr.alloc (.cells #[.slice A9 n9 c9', .int .i64 on, .int .i64 off, .int .i64 fl] 144)) (rRd w g (hi + 160) :: rBlk bd 144 #[.slice A9 n9 c9', .int .i64 on, .int .i64 off, .int .i64 fl] :: rDeeds (.slice (some ⟨g9, 0, none⟩) m c9) ds' :: rInts gv goal :: rBlk T 26 #[.int .i64 st, gv, .slice (some ⟨g9, 0, none⟩) m c9] :: rBlk r 26 #[.int .i64 0, .slice none 0 0, .slice none 0 0] :: L) := by rw [← hbd]; exact S.alloc1 _ _
        have S3 : St w ((wr.alloc (.cells #[.slice A9 n9 c9', .int .i64 on, .int .i64 off, .int .i64 fl] 144)).alloc (.cells #[.int .i64 5] 3)) (rRd w g (hi + 160) :: rInts (.slice (some ⟨bd + 1, 0, none⟩) 1 1) [5] :: rBlk bd 144 #[.slice A9 n9 c9', .int .i64 on, .int .i64 off, .int .i64 fl] :: rDeeds (.slice (some ⟨g9, 0, none⟩) m c9) ds' :: rInts gv goal :: rBlk T 26 #[.int .i64 st, gv, .slice (some ⟨g9, 0, none⟩) m c9] :: rBlk r 26 #[.int .i64 0, .slice none 0 0, .slice none 0 0] :: L) := by
         have := S2.call1 (St.lit _ [5] 1 rfl (by simp) (Dig.one (by omega) (by omega)).wf)
         simp only [World.size_alloc, hbd] at this
         exact this
        have q5 : ∀ j, ((wr.alloc (.cells #[.slice A9 n9 c9', .int .i64 on, .int .i64 off, .int .i64 fl] 144)).alloc (.cells #[.int .i64 5] 3)).cell? ⟨bd, j, none⟩ = _ := S3.cells 2 rfl
        have q6 : ∀ j, (wr.alloc (.cells #[.slice A9 n9 c9', .int .i64 on, .int .i64 off, .int .i64 fl] 144)).cell? ⟨T, j, none⟩ = _ := S2.cells 4 rfl
        have q7 : ∀ j, ((wr.alloc (.cells #[.slice A9 n9 c9', .int .i64 on, .int .i64 off, .int .i64 fl] 144)).alloc (.cells #[.int .i64 5] 3)).cell? ⟨T, j, none⟩ = _ := S3.cells 5 rfl
        obtain ⟨g9', c9x, d9', A9', n9', c9y, hv', -, -, -, p0, p1, p2, p3, fz', -, -⟩ := S3.deedAt 3 rfl (k := k) (by rw [HL'.out]; exact hlt)
        simp only [Value.slice.injEq, Option.some.injEq, Addr.mk.injEq, and_true] at hv'
        obtain ⟨rfl, -, -⟩ := hv'
        have HS4 := Lib.hid (((St.putD (d := ⟨[5], 0, 0, on + off + fl⟩) (i := k) ((S3.bring 1 rfl).bring 3 rfl) HL'.out hlt (by simp) ⟨rfl, rfl, show (Lit.int .i64 (on + off + fl)).wf = true from wf_i64_mk (by omega)⟩).bring 1 rfl).rid 2 rfl)
        have HB2 : Hid (∀ d ∈ ds'.set k ⟨[5], 0, 0, on + off + fl⟩, DeedB 600 d) := Lib.hid fun d hd => (List.mem_or_eq_of_mem_set hd).elim (HB.out d) fun e => by subst e; exact ⟨by simp, by simp, by simp, by simp only; omega⟩
        have HL2 : Hid ((ds'.set k ⟨[5], 0, 0, on + off + fl⟩).length = m) := Lib.hid (by rw [List.length_set]; exact HL'.out)
        have HEQ2 : Hid (∀ i, k + 1 ≤ i → (ds'.set k ⟨[5], 0, 0, on + off + fl⟩)[i]? = ds[i]?) := Lib.hid fun i hi => by rw [List.getElem?_set_ne (by omega)]; exact HEQ.out i (by omega)
        clear S S2 S3 hon hoff hfl hd9
        go_wp2
        go_roundw
        case rel => exact ⟨k + 1, _, by omega, by go_num, HL2, HEQ2, HB2, HS4.out⟩
        case measure => simp [intOf]; omega
       ·have hdv' := HDV.out
        subst hdv'
        clear S HDV
        go_wp2
        go_meet
        case rel => exact ⟨ds', HL'.out, HB.out, HS.out⟩
     ·have h8' : (x8 == 0) = false := by simpa using h8
      clear h8
      go_wp2
      go_meet
      case rel => exact ⟨ds, HM.out, fun d hd => (HSM.out d hd).mono (by omega), HS8.out⟩
    case rest =>
     clear HSM HS8 HM d1 d3
     obtain ⟨ds', hl', hb', SC⟩ := hcut
     have HS9 := Lib.hid SC
     have HB9 := Lib.hid hb'
     have HL9 := Lib.hid hl'
     clear SC hb' hl'
     go_wp2_with fail
     refine (odd_rd HS9.out (by omega) n).mono ?_
     rintro e w10 ⟨b10, rfl, s10⟩
     have HS10 := Lib.hid s10
     clear s10 HS9
     go_upto_if 69 with (fail)
     go_cut [7] (fun s7 wx => ∃ (st : Int) (goal : List Int) (gv dv : Value) (ds : List DeedD), goal.length ≤ 6 ∧ ds.length ≤ 7 ∧ (-1 ≤ st ∧ st ≤ 32) ∧ (∀ d ∈ ds, DeedB 600 d) ∧ St w wx (rRd w g (hi + 200) :: rDeeds dv ds :: rInts gv goal :: rBlk T 26 #[.int .i64 st, gv, dv] :: rBlk r 26 #[.int .i64 0, .slice none 0 0, .slice none 0 0] :: L))
     case first =>
      cases b10 with
      | false =>
       have HS11 := Lib.hid (HS10.out.more (hi' := hi + 200) (by omega))
       go_wp2
       go_meet
       case rel => exact ⟨st, goal, gv, dv, ds', hgl, by have := HL9.out; omega, by omega, HB9.out, HS11.out⟩
      | true =>
       go_wp2_with fail
       refine (pick_rd HS10.out (by omega) 3).mono ?_
       rintro e w11 ⟨x11, rfl, ⟨e1, e2, -⟩, s11⟩
       have e3 := e2 (by omega)
       have HS11 := Lib.hid s11
       clear s11 e2 HS10
       by_cases h0 : x11 = 0
       ·subst h0
        obtain ⟨bl, hbl⟩ : ∃ bl, w11.heap.size = bl := ⟨_, rfl⟩
        have HS12 : Hid (St w (w11.alloc (.cells #[.int .i64 (-1), .int .i64 32] 3)) (rRd w g (hi + 162) :: rInts (.slice (some ⟨bl, 0, none⟩) 2 2) [-1, 32] :: rDeeds dv ds' :: rInts gv goal :: rBlk T 26 #[.int .i64 st, gv, dv] :: rBlk r 26 #[.int .i64 0, .slice none 0 0, .slice none 0 0] :: L)) := Lib.hid (by rw [← hbl]; exact HS11.out.call1 (St.lit w11 [-1, 32] 2 rfl (by simp) (by intro x hx; simp at hx; rcases hx with rfl | rfl <;> rfl)))
        go_wp2_with fail
        refine (pick_rd HS12.out (by omega) 2).mono ?_
        rintro e w12 ⟨x12, rfl, ⟨f1, f2, -⟩, s12⟩
        have f3 := f2 (by omega)
        obtain ⟨i12, rfl⟩ := Int.eq_ofNat_of_zero_le f1
        obtain ⟨y, hy, hy1⟩ : ∃ y, ([-1, 32] : List Int)[i12]? = some y ∧ -1 ≤ y ∧ y ≤ 32 := by
         obtain rfl | rfl : i12 = 0 ∨ i12 = 1 := by omega
         ·exact ⟨-1, rfl, by omega, by omega⟩
         ·exact ⟨32, rfl, by omega, by omega⟩
        obtain ⟨q12, -⟩ := s12.cellI 1 rfl rfl i12 y hy
        have qT : ∀ j, w12.cell? ⟨T, j, none⟩ = _ := s12.cells 4 rfl
        have fT := s12.free 4 rfl
        have HS13 := Lib.hid (((s12.set 4 rfl 0 (.int .i64 y)).rid 1 rfl).more (hi' := hi + 200) (by omega))
        try rw [hbl]
        clear s12 f2 HS12 HS11 hbl hy
        go_wp2
        go_meet
        case rel => exact ⟨y, goal, gv, dv, ds', hgl, by have := HL9.out; omega, hy1, HB9.out, HS13.out⟩
       have h0' : (x11 == 0) = false := by simpa using h0
       by_cases h1 : x11 = 1
       ·subst h1
        clear h0 h0'
        have s12 := HS11.out.call1 (St.lit w11 [] 0 rfl (by simp) (by simp))
        have qT : ∀ j, (w11.alloc (.cells #[] 3)).cell? ⟨T, j, none⟩ = _ := s12.cells 4 rfl
        have fT : ∀ j, (w11.alloc (.cells #[] 3)).frozen? ⟨T, j, none⟩ = false := s12.free 4 rfl
        have HS13 := Lib.hid (((((s12.set 4 rfl 1 (.slice (some ⟨w11.heap.size, 0, none⟩) 0 0)).rid 3 rfl).bring 2 rfl).bring 1 rfl).more (hi' := hi + 200) (by omega))
        clear s12 HS11
        go_wp2
        go_meet
        case rel => exact ⟨st, [], _, dv, ds', by simp, by have := HL9.out; omega, by omega, HB9.out, HS13.out⟩
       have h1' : (x11 == 1) = false := by simpa using h1
       clear h0 h1
       have qT : ∀ j, w11.cell? ⟨T, j, none⟩ = _ := HS11.out.cells 3 rfl
       have fT := HS11.out.free 3 rfl
       obtain ⟨cells, hrow⟩ := HS11.out.rowD 1 rfl
       rw [HL9.out] at hrow
       have HROW := Lib.hid hrow
       have HFIN : Hid (∀ v12 w12, w12.ownsRow 0 144 4 v12 (m + 1) (cells ++ [.slice none 0 0, .int .i64 0, .int .i64 0, .int .i64 0]) → (w11.alloc (.cells #[.slice none 0 0, .int .i64 0, .int .i64 0, .int .i64 0] 144)).grownBy w12 dv.ownBlock → (v12.ownBlock = dv.ownBlock ∨ v12.ownBlock = some (w11.alloc (.cells #[.slice none 0 0, .int .i64 0, .int .i64 0, .int .i64 0] 144)).heap.size) →
         St w w12 (rRd w g (hi + 200) :: rDeeds v12 (ds' ++ [⟨[], 0, 0, 0⟩]) :: rInts gv goal :: rBlk T 26 #[.int .i64 st, gv, dv] :: rBlk r 26 #[.int .i64 0, .slice none 0 0, .slice none 0 0] :: L)) := Lib.hid fun v12 w12 h1 h2 h3 => by
        have S := ((HS11.out.alloc1 #[.slice none 0 0, .int .i64 0, .int .i64 0, .int .i64 0] 144).rid 1 rfl).call1 (rInts_nil _ _ (Below.refl _ _))
        have S2 := St.pushD (d := ⟨[], 0, 0, 0⟩) ((S.bring 1 rfl).bring 2 rfl) (by simp) ⟨rfl, rfl, rfl⟩ (by rw [HL9.out]; omega) (by rw [HL9.out]) (by rw [HL9.out]; exact HROW.out.alloc _) h1 h2 h3
        exact (S2.bring 1 rfl).more (by omega)
       clear hrow
       go_wp2_with (at_builtin; refine wp_app elDeed rfl (.tmp 73) (.tmp 75) rfl 0 dv m cells rfl (HROW.out.alloc _) _ _ 1 1 [.slice none 0 0, .int .i64 0, .int .i64 0, .int .i64 0] rfl (RdRow.new w11 [.slice none 0 0, .int .i64 0, .int .i64 0, .int .i64 0] 144 4 1 rfl (by unfold maxLen; omega)) (by simp [Value.oneCell']) (by omega) (by omega) (Nat.zero_le _) ?_; intro v12 w12 hown12 hg12 hat12; obtain ⟨A12, c12, hv12⟩ := own_form hown12; subst hv12; have HS12 := Lib.hid (HFIN.out _ w12 hown12 hg12 hat12); have q12 : ∀ j, w12.cell? ⟨T, j, none⟩ = _ := HS12.out.cells 3 rfl; have f12 := HS12.out.free 3 rfl; clear hown12 hg12 hat12)
       have HS13 := Lib.hid (HS12.out.set 3 rfl 2 (.slice A12 (m + 1) c12))
       have HB13 : Hid (∀ d ∈ ds' ++ [⟨[], 0, 0, 0⟩], DeedB 600 d) := Lib.hid fun d hd => (List.mem_append.1 hd).elim (HB9.out d) fun h => by rw [List.mem_singleton] at h; subst h; exact ⟨by simp, by simp, by simp, by simp⟩
       have HL13 : Hid ((ds' ++ [(⟨[], 0, 0, 0⟩ : DeedD)]).length ≤ 7) := Lib.hid (by have := HL9.out; simp; omega)
       go_wp2
       go_meet
       case rel => exact ⟨st, goal, gv, _, _, hgl, HL13.out, by omega, HB13.out, HS13.out⟩
     case rest =>
      clear HS10 HB9 HL9
      obtain ⟨st', goal', gv', dv', ds2, h1, h2, h3, h4, SC⟩ := hcut
      obtain ⟨A13, c13, hv13, -⟩ := SC.rdI 2 rfl
      obtain ⟨A14, c14, hv14, -⟩ := SC.rdDs 1 rfl
      subst hv13 hv14
      have qT : ∀ j, wc.cell? ⟨T, j, none⟩ = _ := SC.cells 3 rfl
      have qr : ∀ j, wc.cell? ⟨r, j, none⟩ = _ := SC.cells 4 rfl
      have fr := SC.free 4 rfl
      have HB := Lib.hid h4
      have HFI : Hid (St w (((wc.setCell ⟨r, 0, none⟩ (.int .i64 st')).setCell ⟨r, 1, none⟩ (.slice A13 goal'.length c13)).setCell ⟨r, 2, none⟩ (.slice A14 ds2.length c14)) (rRd w g (hi + 200) :: rTask (.agg #[.int .i64 st', .slice A13 goal'.length c13, .slice A14 ds2.length c14]) ⟨st', goal', ds2⟩ :: L)) := Lib.hid (((((((SC.set3 4 rfl (.int .i64 st') (.slice A13 goal'.length c13) (.slice A14 ds2.length c14)).rid 3 rfl).rid 3 rfl).bring 1 rfl).bring 2 rfl).task (by omega) (wf_i64_mk (by omega))).bring 1 rfl)
      clear SC h4
      go_wp2
      refine bodyPost_ret (v := .agg #[.int .i64 st', .slice A13 goal'.length c13, .slice A14 ds2.length c14]) (by simp [results, Tryz.results100, go_sem, qr]) rfl ⟨_, ⟨st', goal', ds2⟩, rfl, ⟨h1, h2, h3, HB.out⟩, HFI.out⟩
end Go.Proofs.YtkmcengmglgdeaaGreatDoor
