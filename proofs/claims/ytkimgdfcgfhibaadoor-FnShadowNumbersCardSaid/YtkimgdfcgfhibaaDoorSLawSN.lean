/- The draw of FnShadowNumbers; the walk of its law. Printed by gen_shadlaw.py. -/
import Derived.Test.YtkimgdfcgfhibaaDoorSShadS
import Derived.Test.YtkimgdfcgfhibaaDoorSNumOkI
import Derived.Test.YtkimgdfcgfhibaaDoorSTurnP
import Derived.Test.YtkimgdfcgfhibaaDoorSBits
import Derived.Test.YtkimgdfcgfhibaaDoorSCopy
namespace Go.Proofs.YtkimgdfcgfhibaaDoor
set_option linter.unusedVariables false
set_option linter.unusedSimpArgs false
open Go.ChangeShapes Go.WideShapes Go.ChangeAt Go.RowKit

theorem tdiv_small (k c q : Nat) (hq : k / c = q) : (k : Int).tdiv (c : Int) = (q : Int) := by rw [← hq, Int.tdiv_eq_ediv_of_nonneg (by omega)]; simp
set_option maxRecDepth 100000 in
set_option maxHeartbeats 1000000 in
theorem l20Facts_rd {w W : World} {g hi : Nat} (S : St w W [rRd w g hi]) (hh : hi ≤ 200000000000) :
    Calls Tryd.prog 30 #[.pointer (some ⟨g, 0, none⟩)] W fun e w' => ∃ v t, ∃ F : Int, e = .returned (.tuple #[v, .int .i64 F]) ∧ (-40 ≤ F ∧ F ≤ 63) ∧ St w w' [rTask v t] := by
  obtain ⟨r, hr⟩ : ∃ r, W.heap.size = r := ⟨_, rfl⟩
  have HS0 : Hid (St w (W.alloc (.cells #[.int .i64 0, .slice none 0 0, .slice none 0 0] 26)) [rRd w g hi, rBlk r 26 #[.int .i64 0, .slice none 0 0, .slice none 0 0]]) := Lib.hid (by rw [← hr]; exact S.alloc1 _ _)
  clear S
  go_enter Tryd.func30, Tryd.ntmps30
  go_wp2_with fail
  refine (l20Task_rd HS0.out (by omega) 12).mono ?_
  rintro e w2 ⟨v2, t, rfl, ht, s2⟩
  obtain ⟨A1, j1, c1, A2, j2, c2, hv⟩ := s2.formT 1 rfl
  subst hv
  obtain ⟨T, hT⟩ : ∃ T, w2.heap.size = T := ⟨_, rfl⟩
  have HS : Hid (St w (w2.alloc (.cells #[.int .i64 t.start, .slice A1 j1 c1, .slice A2 j2 c2] 26)) [rRd w g (hi + 200), rBlk r 26 #[.int .i64 0, .slice none 0 0, .slice none 0 0], rTask (.agg #[.int .i64 t.start, .slice A1 j1 c1, .slice A2 j2 c2]) t, rBlk T 26 #[.int .i64 t.start, .slice A1 j1 c1, .slice A2 j2 c2]]) := Lib.hid (by rw [← hT]; exact (s2.alloc #[.int .i64 t.start, .slice A1 j1 c1, .slice A2 j2 c2] 26).pick [0, 2, 1, 3] (by decide) rfl rfl)
  clear s2 ht HS0
  try rw [hr]
  go_upto_region 2 with (fail)
  try rw [hT]
  refine wp_reg (σ := {p : Nat × (Nat × Nat) × (Nat × Nat) // p.1 < 32 ∧ (p.2.1.1 < 40 ∧ p.2.1.1 / 39 = p.2.1.2) ∧ p.2.2.1 < 40 ∧ p.2.2.1 / 39 = p.2.2.2}) (by kernel_rfl) (by kernel_rfl) (by kernel_rfl)
    (fun s i => match i with
      | 0 => .agg #[.int .i64 t.start, .slice A1 j1 c1, .slice A2 j2 c2]
      | 1 => .pointer (some ⟨g, 0, none⟩)
      | 2 => .int .i64 (s.1.1 : Nat)
      | 3 => .pointer (some ⟨g, 0, none⟩)
      | 4 => .int .i64 (s.1.2.1.1 : Nat)
      | 5 => .int .i64 (s.1.2.1.2 : Nat)
      | 6 => .int .i64 ((s.1.2.1.2 : Int) * 32)
      | 7 => .int .i64 ((s.1.1 : Int) + (s.1.2.1.2 : Int) * 32)
      | 8 => .pointer (some ⟨g, 0, none⟩)
      | 9 => .int .i64 (s.1.2.2.1 : Nat)
      | 10 => .int .i64 (s.1.2.2.2 : Nat)
      | 11 => .int .i64 ((s.1.2.2.2 : Int) * 40)
      | 12 => .int .i64 ((s.1.1 : Int) + (s.1.2.1.2 : Int) * 32 - (s.1.2.2.2 : Int) * 40)
      | 14 => .int .i64 ((s.1.1 : Int) + (s.1.2.1.2 : Int) * 32 - (s.1.2.2.2 : Int) * 40)
      | _ => undef)
    (fun D s wx => Sn w wx fun i => match i with
      | 0 => some (rRd w g (hi + 200 + (D 2).toNat + (D 4).toNat + (D 9).toNat))
      | 1 => some (rBlk r 26 (if D 13 = true then #[.int .i64 t.start, .slice A1 j1 c1, .slice A2 j2 c2] else #[.int .i64 0, .slice none 0 0, .slice none 0 0]))
      | 2 => some (rTask (.agg #[.int .i64 t.start, .slice A1 j1 c1, .slice A2 j2 c2]) t)
      | 3 => some (rBlk T 26 #[.int .i64 t.start, .slice A1 j1 c1, .slice A2 j2 c2])
      | _ => none)
    ⟨(0, (0, 0), (0, 0)), by decide⟩ ?_ ?_ ?_
  · intro D hD
    refine ((Sn.of_st HS.out).quiet ((Below.refl _ _).drew)).congr fun i => ?_
    match i with
    | 0 => simp only [hD 2 (by decide), hD 4 (by decide), hD 9 (by decide)]; rfl
    | 1 => simp only [hD 13 (by decide)]; rfl
    | 2 => rfl
    | 3 => rfl
    | q + 4 => rfl
  · refine StepAll.cons (fun D s wx hR (hDi : D 0 = false) hd hsh a' hs K hK => ?_) ?_
    · have e4 := hs.old 4 (u := .pointer (some ⟨T, 0, none⟩)) (by kernel_rfl) rfl
      clear hs
      have kb : Blk wx (T) 26 #[.int .i64 t.start, .slice A1 j1 c1, .slice A2 j2 c2] := hR.blk 3 rfl
      have c0 : wx.cell? ⟨T, 0, none⟩ = some (.int .i64 t.start) := kb.cell 0
      have c1 : wx.cell? ⟨T, 1, none⟩ = some (.slice A1 j1 c1) := kb.cell 1
      have c2 : wx.cell? ⟨T, 2, none⟩ = some (.slice A2 j2 c2) := kb.cell 2
      go_simp
      exact hK s wx (fun _ _ => rfl) hR
    refine StepAll.cons (fun D s wx hR (hDi : D 1 = false) hd hsh a' hs K hK => ?_) ?_
    · have e0 := hs.old 0 (u := .pointer (some ⟨g, 0, none⟩)) (by kernel_rfl) rfl
      clear hs
      go_simp
      exact hK s wx (fun _ _ => rfl) hR
    refine StepAll.cons (fun D s wx hR (hDi : D 2 = false) hd hsh a' hs K hK => ?_) ?_
    · have e8 := hs.at_ 1 8 (u := .pointer (some ⟨g, 0, none⟩)) rfl (hd ⟨1, .data⟩ (by simp) rfl) (by kernel_rfl) (by kernel_rfl) rfl
      have g8 := getQ e8
      clear hs
      have n7 : D 7 = false := hsh.no hDi 7 rfl ⟨2, .data⟩ (by simp) rfl rfl
      have n12 : D 12 = false := hsh.no n7 12 rfl ⟨7, .data⟩ (by simp) rfl rfl
      have n14 : D 14 = false := hsh.no n12 14 rfl ⟨12, .data⟩ (by simp) rfl rfl
      go_simp
      have hb1 := Bool.toNat_le (D 2)
      have hb2 := Bool.toNat_le (D 4)
      have hb3 := Bool.toNat_le (D 9)
      refine (hR.pick 0 (g := g) (hi := hi + 200 + (D 2).toNat + (D 4).toNat + (D 9).toNat) rfl (by omega) 32).mono ?_
      rintro e2 w2 ⟨x2, rfl, ⟨e1, e3, -⟩, s2⟩
      have e4 := e3 (by omega)
      obtain ⟨m2, rfl⟩ := Int.eq_ofNat_of_zero_le e1
      clear hb1 hb2 hb3
      refine hK ⟨(m2, s.1.2), (by show m2 < 32; omega), s.2.2⟩ w2
        (fun j hj => by
          match j, hj with
          | 0, hj => rfl
          | 1, hj => rfl
          | 2, hj => rw [hDi] at hj; cases hj
          | 3, hj => rfl
          | 4, hj => rfl
          | 5, hj => rfl
          | 6, hj => rfl
          | 7, hj => rw [n7] at hj; cases hj
          | 8, hj => rfl
          | 9, hj => rfl
          | 10, hj => rfl
          | 11, hj => rfl
          | 12, hj => rw [n12] at hj; cases hj
          | 13, hj => rfl
          | 14, hj => rw [n14] at hj; cases hj
          | _ + 15, hj => rfl)
        (s2.congr (fun i => by
          match i with
          | 0 => (show some (rRd w g (hi + 200 + (true).toNat + (D 4).toNat + (D 9).toNat)) = some (rRd w g (hi + 200 + (D 2).toNat + (D 4).toNat + (D 9).toNat + 1)); congr 2; rw [hDi]; simp only [Bool.toNat_true, Bool.toNat_false]; try omega)
          | 1 => rfl
          | 2 => rfl
          | 3 => rfl
          | q + 4 => rfl))
    refine StepAll.cons (fun D s wx hR (hDi : D 3 = false) hd hsh a' hs K hK => ?_) ?_
    · have e0 := hs.old 0 (u := .pointer (some ⟨g, 0, none⟩)) (by kernel_rfl) rfl
      clear hs
      go_simp
      exact hK s wx (fun _ _ => rfl) hR
    refine StepAll.cons (fun D s wx hR (hDi : D 4 = false) hd hsh a' hs K hK => ?_) ?_
    · have e10 := hs.at_ 3 10 (u := .pointer (some ⟨g, 0, none⟩)) rfl (hd ⟨3, .data⟩ (by simp) rfl) (by kernel_rfl) (by kernel_rfl) rfl
      have g10 := getQ e10
      clear hs
      have n5 : D 5 = false := hsh.no hDi 5 rfl ⟨4, .data⟩ (by simp) rfl rfl
      have n6 : D 6 = false := hsh.no n5 6 rfl ⟨5, .data⟩ (by simp) rfl rfl
      have n7 : D 7 = false := hsh.no n6 7 rfl ⟨6, .data⟩ (by simp) rfl rfl
      have n12 : D 12 = false := hsh.no n7 12 rfl ⟨7, .data⟩ (by simp) rfl rfl
      have n14 : D 14 = false := hsh.no n12 14 rfl ⟨12, .data⟩ (by simp) rfl rfl
      go_simp
      have hb1 := Bool.toNat_le (D 2)
      have hb2 := Bool.toNat_le (D 4)
      have hb3 := Bool.toNat_le (D 9)
      refine (hR.pick 0 (g := g) (hi := hi + 200 + (D 2).toNat + (D 4).toNat + (D 9).toNat) rfl (by omega) 40).mono ?_
      rintro e2 w2 ⟨x2, rfl, ⟨e1, e3, -⟩, s2⟩
      have e4 := e3 (by omega)
      obtain ⟨m2, rfl⟩ := Int.eq_ofNat_of_zero_le e1
      clear hb1 hb2 hb3
      refine hK ⟨(s.1.1, (m2, m2 / 39), s.1.2.2), s.2.1, ⟨(by show m2 < 40; omega), rfl⟩, s.2.2.2⟩ w2
        (fun j hj => by
          match j, hj with
          | 0, hj => rfl
          | 1, hj => rfl
          | 2, hj => rfl
          | 3, hj => rfl
          | 4, hj => rw [hDi] at hj; cases hj
          | 5, hj => rw [n5] at hj; cases hj
          | 6, hj => rw [n6] at hj; cases hj
          | 7, hj => rw [n7] at hj; cases hj
          | 8, hj => rfl
          | 9, hj => rfl
          | 10, hj => rfl
          | 11, hj => rfl
          | 12, hj => rw [n12] at hj; cases hj
          | 13, hj => rfl
          | 14, hj => rw [n14] at hj; cases hj
          | _ + 15, hj => rfl)
        (s2.congr (fun i => by
          match i with
          | 0 => (show some (rRd w g (hi + 200 + (D 2).toNat + (true).toNat + (D 9).toNat)) = some (rRd w g (hi + 200 + (D 2).toNat + (D 4).toNat + (D 9).toNat + 1)); congr 2; rw [hDi]; simp only [Bool.toNat_true, Bool.toNat_false]; try omega)
          | 1 => rfl
          | 2 => rfl
          | 3 => rfl
          | q + 4 => rfl))
    refine StepAll.cons (fun D s wx hR (hDi : D 5 = false) hd hsh a' hs K hK => ?_) ?_
    · have e11 := hs.at_ 4 11 (u := .int .i64 (s.1.2.1.1 : Nat)) rfl (hd ⟨4, .data⟩ (by simp) rfl) (by kernel_rfl) (by kernel_rfl) rfl
      clear hs
      have hs := s.2
      have hd1 : (s.1.2.1.1 : Int).tdiv 39 = (s.1.2.1.2 : Nat) := tdiv_small _ 39 _ hs.2.1.2
      have hw0 : IntKind.i64.wrap ((s.1.2.1.2 : Nat) : Int) = ((s.1.2.1.2 : Nat) : Int) := IntWalk.i64_in _ (by omega)
      go_simp
      exact hK s wx (fun _ _ => rfl) hR
    refine StepAll.cons (fun D s wx hR (hDi : D 6 = false) hd hsh a' hs K hK => ?_) ?_
    · have e12 := hs.at_ 5 12 (u := .int .i64 (s.1.2.1.2 : Nat)) rfl (hd ⟨5, .data⟩ (by simp) rfl) (by kernel_rfl) (by kernel_rfl) rfl
      clear hs
      have hs := s.2
      have hw : IntKind.i64.wrap ((s.1.2.1.2 : Int) * 32) = (s.1.2.1.2 : Int) * 32 := IntWalk.i64_in _ (by omega)
      go_simp
      exact hK s wx (fun _ _ => rfl) hR
    refine StepAll.cons (fun D s wx hR (hDi : D 7 = false) hd hsh a' hs K hK => ?_) ?_
    · have e9 := hs.at_ 2 9 (u := .int .i64 (s.1.1 : Nat)) rfl (hd ⟨2, .data⟩ (by simp) rfl) (by kernel_rfl) (by kernel_rfl) rfl
      have e13 := hs.at_ 6 13 (u := .int .i64 ((s.1.2.1.2 : Int) * 32)) rfl (hd ⟨6, .data⟩ (by simp) rfl) (by kernel_rfl) (by kernel_rfl) rfl
      clear hs
      have hs := s.2
      have hw : IntKind.i64.wrap ((s.1.1 : Int) + (s.1.2.1.2 : Int) * 32) = (s.1.1 : Int) + (s.1.2.1.2 : Int) * 32 := IntWalk.i64_in _ (by omega)
      go_simp
      exact hK s wx (fun _ _ => rfl) hR
    refine StepAll.cons (fun D s wx hR (hDi : D 8 = false) hd hsh a' hs K hK => ?_) ?_
    · have e0 := hs.old 0 (u := .pointer (some ⟨g, 0, none⟩)) (by kernel_rfl) rfl
      clear hs
      go_simp
      exact hK s wx (fun _ _ => rfl) hR
    refine StepAll.cons (fun D s wx hR (hDi : D 9 = false) hd hsh a' hs K hK => ?_) ?_
    · have e15 := hs.at_ 8 15 (u := .pointer (some ⟨g, 0, none⟩)) rfl (hd ⟨8, .data⟩ (by simp) rfl) (by kernel_rfl) (by kernel_rfl) rfl
      have g15 := getQ e15
      clear hs
      have n10 : D 10 = false := hsh.no hDi 10 rfl ⟨9, .data⟩ (by simp) rfl rfl
      have n11 : D 11 = false := hsh.no n10 11 rfl ⟨10, .data⟩ (by simp) rfl rfl
      have n12 : D 12 = false := hsh.no n11 12 rfl ⟨11, .data⟩ (by simp) rfl rfl
      have n14 : D 14 = false := hsh.no n12 14 rfl ⟨12, .data⟩ (by simp) rfl rfl
      go_simp
      have hb1 := Bool.toNat_le (D 2)
      have hb2 := Bool.toNat_le (D 4)
      have hb3 := Bool.toNat_le (D 9)
      refine (hR.pick 0 (g := g) (hi := hi + 200 + (D 2).toNat + (D 4).toNat + (D 9).toNat) rfl (by omega) 40).mono ?_
      rintro e2 w2 ⟨x2, rfl, ⟨e1, e3, -⟩, s2⟩
      have e4 := e3 (by omega)
      obtain ⟨m2, rfl⟩ := Int.eq_ofNat_of_zero_le e1
      clear hb1 hb2 hb3
      refine hK ⟨(s.1.1, s.1.2.1, (m2, m2 / 39)), s.2.1, s.2.2.1, (by show m2 < 40; omega), rfl⟩ w2
        (fun j hj => by
          match j, hj with
          | 0, hj => rfl
          | 1, hj => rfl
          | 2, hj => rfl
          | 3, hj => rfl
          | 4, hj => rfl
          | 5, hj => rfl
          | 6, hj => rfl
          | 7, hj => rfl
          | 8, hj => rfl
          | 9, hj => rw [hDi] at hj; cases hj
          | 10, hj => rw [n10] at hj; cases hj
          | 11, hj => rw [n11] at hj; cases hj
          | 12, hj => rw [n12] at hj; cases hj
          | 13, hj => rfl
          | 14, hj => rw [n14] at hj; cases hj
          | _ + 15, hj => rfl)
        (s2.congr (fun i => by
          match i with
          | 0 => (show some (rRd w g (hi + 200 + (D 2).toNat + (D 4).toNat + (true).toNat)) = some (rRd w g (hi + 200 + (D 2).toNat + (D 4).toNat + (D 9).toNat + 1)); congr 2; rw [hDi]; simp only [Bool.toNat_true, Bool.toNat_false]; try omega)
          | 1 => rfl
          | 2 => rfl
          | 3 => rfl
          | q + 4 => rfl))
    refine StepAll.cons (fun D s wx hR (hDi : D 10 = false) hd hsh a' hs K hK => ?_) ?_
    · have e16 := hs.at_ 9 16 (u := .int .i64 (s.1.2.2.1 : Nat)) rfl (hd ⟨9, .data⟩ (by simp) rfl) (by kernel_rfl) (by kernel_rfl) rfl
      clear hs
      have hs := s.2
      have hd1 : (s.1.2.2.1 : Int).tdiv 39 = (s.1.2.2.2 : Nat) := tdiv_small _ 39 _ hs.2.2.2
      have hw0 : IntKind.i64.wrap ((s.1.2.2.2 : Nat) : Int) = ((s.1.2.2.2 : Nat) : Int) := IntWalk.i64_in _ (by omega)
      go_simp
      exact hK s wx (fun _ _ => rfl) hR
    refine StepAll.cons (fun D s wx hR (hDi : D 11 = false) hd hsh a' hs K hK => ?_) ?_
    · have e17 := hs.at_ 10 17 (u := .int .i64 (s.1.2.2.2 : Nat)) rfl (hd ⟨10, .data⟩ (by simp) rfl) (by kernel_rfl) (by kernel_rfl) rfl
      clear hs
      have hs := s.2
      have hw : IntKind.i64.wrap ((s.1.2.2.2 : Int) * 40) = (s.1.2.2.2 : Int) * 40 := IntWalk.i64_in _ (by omega)
      go_simp
      exact hK s wx (fun _ _ => rfl) hR
    refine StepAll.cons (fun D s wx hR (hDi : D 12 = false) hd hsh a' hs K hK => ?_) ?_
    · have e14 := hs.at_ 7 14 (u := .int .i64 ((s.1.1 : Int) + (s.1.2.1.2 : Int) * 32)) rfl (hd ⟨7, .data⟩ (by simp) rfl) (by kernel_rfl) (by kernel_rfl) rfl
      have e18 := hs.at_ 11 18 (u := .int .i64 ((s.1.2.2.2 : Int) * 40)) rfl (hd ⟨11, .data⟩ (by simp) rfl) (by kernel_rfl) (by kernel_rfl) rfl
      clear hs
      have hs := s.2
      have hw : IntKind.i64.wrap ((s.1.1 : Int) + (s.1.2.1.2 : Int) * 32 - (s.1.2.2.2 : Int) * 40) = (s.1.1 : Int) + (s.1.2.1.2 : Int) * 32 - (s.1.2.2.2 : Int) * 40 := IntWalk.i64_in _ (by omega)
      go_simp
      exact hK s wx (fun _ _ => rfl) hR
    refine StepAll.cons (fun D s wx hR (hDi : D 13 = false) hd hsh a' hs K hK => ?_) ?_
    · have e2 := hs.old 2 (u := .pointer (some ⟨r, 0, none⟩)) (by kernel_rfl) rfl
      have e7 := hs.at_ 0 7 (u := .agg #[.int .i64 t.start, .slice A1 j1 c1, .slice A2 j2 c2]) rfl (hd ⟨0, .data⟩ (by simp) rfl) (by kernel_rfl) (by kernel_rfl) rfl
      clear hs
      have kb : Blk wx r 26 #[.int .i64 0, .slice none 0 0, .slice none 0 0] := hR.blk 1 (by simp only [hDi] <;> rfl)
      have f0 := kb.frozen
      have c0 : wx.cell? ⟨r, 0, none⟩ = some (.int .i64 0) := kb.cell 0
      have c1 : wx.cell? ⟨r, 1, none⟩ = some (.slice none 0 0) := kb.cell 1
      have c2 : wx.cell? ⟨r, 2, none⟩ = some (.slice none 0 0) := kb.cell 2
      go_simp
      exact hK s _ (fun _ _ => rfl) ((hR.set3 1 (by simp only [hDi]; rfl) _ _ _).congr
          (fun i => by
            match i with
            | 0 => rfl
            | 1 => rfl
            | 2 => rfl
            | 3 => rfl
            | q + 4 => exact (if_neg (show ¬ (q + 4 = 1) by omega)).symm))
    refine StepAll.cons (fun D s wx hR (hDi : D 14 = false) hd hsh a' hs K hK => ?_) ?_
    · have e19 := hs.at_ 12 19 (u := .int .i64 ((s.1.1 : Int) + (s.1.2.1.2 : Int) * 32 - (s.1.2.2.2 : Int) * 40)) rfl (hd ⟨12, .data⟩ (by simp) rfl) (by kernel_rfl) (by kernel_rfl) rfl
      clear hs
      go_simp
      exact hK s wx (fun _ _ => rfl) hR
    exact StepAll.nil
  · intro D s wx hR hD
    simp only [putA, Act.put, List.setIfInBounds_toArray, List.set_cons_zero, List.set_cons_succ]
    have HS2 : Hid (St w wx [rTask (.agg #[.int .i64 t.start, .slice A1 j1 c1, .slice A2 j2 c2]) t, rBlk r 26 #[.int .i64 t.start, .slice A1 j1 c1, .slice A2 j2 c2]]) := Lib.hid (hR.to_st [2, 1] (by decide) (by simp only [List.map, hD 13 (by decide)] <;> rfl))
    obtain ⟨⟨y, ⟨a, qa⟩, ⟨b, qb⟩⟩, hs⟩ := s
    simp only at hs ⊢
    clear hR hD HS
    have q2 : ∀ j, wx.cell? ⟨r, j, none⟩ = _ := HS2.out.cells 1 rfl
    go_wp2
    refine bodyPost_ret (v := .tuple #[.agg #[.int .i64 t.start, .slice A1 j1 c1, .slice A2 j2 c2], .int .i64 ((y : Int) + (qa : Int) * 32 - (qb : Int) * 40)]) (by simp [results, Tryd.results30, go_sem, q2]) rfl ⟨_, t, _, rfl, by omega, HS2.out.pick [0] (by decide) rfl rfl⟩
set_option maxRecDepth 100000 in
set_option maxHeartbeats 1000000 in
theorem drawShadowNumbers (A : Option Addr) (n c : Nat) (xs : List Int) (w : World) (h : RdI .u8 w w.heap.size A n c xs) :
    Calls Tryd.prog 7 #[.slice A n c] w fun e w' => ∃ v t, ∃ F : Int, e = .returned (.tuple #[v, .int .i64 F]) ∧ (-40 ≤ F ∧ F ≤ 63) ∧ St w w' [rTask v t] := by
  have HB := Lib.hid ((St.refl w).alloc #[.int .i64 0, .slice none 0 0, .slice none 0 0] 26)
  have H := Lib.hid (h.up HB.out.below)
  have H0 := Lib.hid h
  clear h
  go_enter Tryd.func7, Tryd.ntmps7
  go_wp2_with fail
  refine (l20Open_rd (St.refl _) H.out).mono ?_
  rintro e w1 ⟨g, rfl, s1⟩
  have HS1 := Lib.hid s1
  clear s1
  go_wp2_with fail
  refine (l20Facts_rd HS1.out (by omega)).mono ?_
  rintro e w2 ⟨v2, t, F, rfl, hF, s2⟩
  obtain ⟨A1, j1, c1, A2, j2, c2, hv⟩ := s2.formT 0 rfl
  subst hv
  have HS2 := Lib.hid (HB.out.call s2)
  clear s2 HS1
  have q2 : ∀ j, w2.cell? ⟨w.heap.size, j, none⟩ = _ := HS2.out.cells 0 rfl
  have f2 := HS2.out.free 0 rfl
  have HS3 := Lib.hid ((HS2.out.set3 0 rfl (.int .i64 t.start) (.slice A1 j1 c1) (.slice A2 j2 c2)).tl)
  clear HS2
  go_wp2
  refine bodyPost_ret (v := .tuple #[.agg #[.int .i64 t.start, .slice A1 j1 c1, .slice A2 j2 c2], .int .i64 F]) (by simp [results, Tryd.results7, go_sem, q2]) rfl ⟨_, t, _, rfl, hF, HS3.out⟩
set_option maxRecDepth 100000 in
set_option maxHeartbeats 1000000 in
theorem FnShadowNumbers_walk (A : Option Addr) (n c : Nat) (xs : List Int) (w : World) (h : RdI .u8 w w.heap.size A n c xs) (he : ErrH w) :
    Calls Tryd.prog 3 #[.slice A n c] w fun e w' => e = .returned (.bool true) ∧ Below w.heap.size w w' := by
  have hcap := h.cap
  have hmax := h.capMax
  unfold maxLen at hmax
  have H := Lib.hid h
  have HE := Lib.hid he
  clear h he
  by_cases hn : n ≤ 1048576
  case neg =>
    go_enter Tryd.func3, Tryd.ntmps3
    go_wp2
    go_ret
    exact ⟨rfl, Below.refl _ _⟩
  go_enter Tryd.func3, Tryd.ntmps3
  go_wp2_with fail
  refine (drawShadowNumbers A n c xs _ H.out).mono ?_
  rintro e w1 ⟨v1, t, F, rfl, hF, s1⟩
  obtain ⟨A1, j1, c1, A2, j2, c2, hv⟩ := s1.formT 0 rfl
  subst hv
  obtain ⟨B1, hB1⟩ : ∃ B1, w1.heap.size = B1 := ⟨_, rfl⟩
  have HS1 : Hid (St w (w1.alloc (.cells #[.int .i64 t.start, .slice A1 j1 c1, .slice A2 j2 c2] 26)) [rTask (.agg #[.int .i64 t.start, .slice A1 j1 c1, .slice A2 j2 c2]) t, rBlk B1 26 #[.int .i64 t.start, .slice A1 j1 c1, .slice A2 j2 c2]]) := Lib.hid (by rw [← hB1]; exact s1.alloc _ _)
  clear s1
  obtain ⟨ys, hys⟩ : ∃ ys, shadN t F = ys := ⟨_, rfl⟩
  have HYS := Bx.mk hys
  obtain ⟨m, hm⟩ : ∃ m, ys.length = m := ⟨_, rfl⟩
  have HM := Bx.mk hm
  try rw [hB1]
  have q1 : ∀ j, (w1.alloc (.cells #[.int .i64 t.start, .slice A1 j1 c1, .slice A2 j2 c2] 26)).cell? ⟨B1, j, none⟩ = _ := HS1.out.cells 1 rfl
  go_wp2_with fail
  refine (shadowNumbers_impl _ t F _ (HS1.out.rdT 0 rfl)).mono ?_
  rw [hys]
  rintro e w2 ⟨v2, rfl, s2⟩
  obtain ⟨A3, c3, hv⟩ := s2.formN 0 rfl hm
  simp only [id_eq] at hv ⊢
  subst hv
  have HS2 := Lib.hid (HS1.out.call s2)
  clear s2 HS1 q1 hys hm
  have q1 : ∀ j, w2.cell? ⟨B1, j, none⟩ = _ := HS2.out.cells 1 rfl
  go_wp2_with fail
  refine (shadowNumbers_spec _ t F _ (HS2.out.rdT 0 rfl)).mono ?_
  rw [HYS.out]
  rintro e w3 ⟨v3, rfl, s3⟩
  obtain ⟨A4, c4, hv⟩ := s3.formN 0 rfl HM.out
  simp only [id_eq] at hv ⊢
  subst hv
  have HS3 := Lib.hid (HS2.out.call s3)
  clear s3 HS2 q1
  go_wp2_with fail
  refine (sameInts_any _ m _ ys _ m _ ys _ (HS3.out.rdI' 2 rfl) (HS3.out.rdI' 3 rfl)).mono ?_
  rw [decide_eq_true rfl]
  rintro e w4 ⟨rfl, q4, rfl⟩
  have HS4 := Lib.hid (HS3.out.drewN q4)
  obtain ⟨w4, hw4⟩ : ∃ w4, w3.drewN q4 = w4 := ⟨_, rfl⟩
  rw [hw4] at HS4 ⊢
  clear HS3 hw4
  by_cases hok : taskOk t = true ∧ stIn F = true
  · have hN := shadN_ok hok.1 hok.2
    rw [HYS.out] at hN
    have HNK := Bx.mk (numsOk_iff.2 hN)
    have hm32 : m = 32 := by rw [← HM.out]; exact hN.len
    clear hok hN
    subst hm32
    have q1 : ∀ j, w4.cell? ⟨B1, j, none⟩ = _ := HS4.out.cells 1 rfl
    go_wp2_with fail
    refine (numbersOk_impl _ t A3 32 c3 ys _ (HS4.out.rdT 0 rfl) (HS4.out.rdI' 2 rfl) (HE.out.up HS4.out.below)).mono ?_
    rw [HNK.out]
    rintro e w5 ⟨rfl, hb5⟩
    have HB5 := Lib.hid (HS4.out.quiet hb5).below
    clear hb5
    go_wp2
    go_ret
    exact ⟨rfl, HB5.out⟩
  · have hz : ys = [] := by rw [← HYS.out]; exact shadN_nil.2 hok
    have hm0 : m = 0 := by rw [← HM.out, hz]; rfl
    clear hok hz
    subst hm0
    go_wp2_with fail
    refine (alive_any _).mono ?_
    rintro e w5 ⟨rfl, hb5⟩
    have HB5 := Lib.hid (HS4.out.quiet hb5).below
    clear hb5
    go_wp2
    go_ret
    exact ⟨rfl, HB5.out⟩
end Go.Proofs.YtkimgdfcgfhibaaDoor
