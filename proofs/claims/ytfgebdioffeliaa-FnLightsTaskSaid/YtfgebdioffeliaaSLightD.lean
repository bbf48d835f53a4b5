/- The draw of a graph and lights. Printed by gen_lightl.py. -/
import Derived.Test.YtfgebdioffeliaaSL20Graph
import Derived.Test.YtfgebdioffeliaaSMayW
import Derived.Test.YtfgebdioffeliaaSBits
import Derived.Test.YtfgebdioffeliaaSLightX
import Derived.Test.YtfgebdioffeliaaSGraphH
namespace Go.Proofs.Ytfgebdioffeliaa
set_option linter.unusedVariables false
set_option linter.unusedSimpArgs false
open Go.ChangeShapes Go.WideShapes Go.ChangeAt Go.RowKit

theorem tdivL (k c q : Nat) (hq : k / c = q) : (k : Int).tdiv (c : Int) = (q : Int) := by rw [← hq, Int.tdiv_eq_ediv_of_nonneg (by omega)]; simp
set_option maxRecDepth 100000 in
set_option maxHeartbeats 2000000 in
theorem l20Lamp_rd {w W : World} {g hi : Nat} (S : St w W [rRd w g hi]) (hh0 : hi ≤ 100000000) :
    Calls Try.prog 19 #[.pointer (some ⟨g, 0, none⟩)] W fun e w' => ∃ v xs, ∃ s : Nat, e = .returned (.tuple #[v, .int .i64 (s : Int)]) ∧ s ≤ 1000 ∧ St w w' [rGraph v xs] := by
  obtain ⟨r, hr⟩ : ∃ r, W.heap.size = r := ⟨_, rfl⟩
  have HS0 : Hid (St w (W.alloc (.cells #[.slice none 0 0] 25)) [rRd w g hi, rBlk r 25 #[.slice none 0 0]]) := Lib.hid (by rw [← hr]; exact S.alloc1 _ _)
  clear S
  go_enter Try.func19, Try.ntmps19
  go_wp2_with fail
  refine (l20Graph_rd HS0.out (by omega) 14).mono ?_
  rintro e w1 ⟨v1, xs1, rfl, s1⟩
  obtain ⟨A1, n1, c1, hv⟩ := s1.formG 1 rfl
  subst hv
  obtain ⟨Tg, hTg⟩ : ∃ T, w1.heap.size = T := ⟨_, rfl⟩
  have hrd := (s1.rdG 1 rfl).ints
  have hn1 := hrd.1.len
  have hn1m := hrd.2
  have HN1 := Lib.hid hn1
  have HS1 : Hid (St w (w1.alloc (.cells #[.slice A1 n1 c1] 25)) [rRd w g (hi + 110), rBlk r 25 #[.slice none 0 0], rInts (.slice A1 n1 c1) xs1, rBlk Tg 25 #[.slice A1 n1 c1]]) := Lib.hid (by
    rw [← hTg]
    have s2 := ((s1.alloc #[.slice A1 n1 c1] 25).bring 1 rfl).see (R := rInts (.slice A1 n1 c1) xs1) (fun F h _ => by
      obtain ⟨⟨gv, e, h1⟩, h2⟩ := h
      simp only [Value.agg.injEq, Array.mk.injEq, List.cons.injEq, and_true] at e
      subst e; exact h1)
    exact s2.pick [1, 2, 0, 3] (by decide) rfl rfl)
  have hcap := hrd.1.cap
  have hcm := hrd.1.capMax
  unfold maxLen at hcm
  clear s1 hrd HS0 hn1
  try rw [hr]
  have q1 : ∀ j, (w1.alloc (.cells #[.slice A1 n1 c1] 25)).cell? ⟨Tg, j, none⟩ = _ := HS1.out.cells 3 rfl
  by_cases h5 : n1 ≤ 5
  · have h5i : ¬ (5 : Int) < (n1 : Int) := by omega
    go_upto_region 4 with (fail)
    try rw [hTg]
    obtain ⟨w2, hw2⟩ : ∃ x, (w1.alloc (.cells #[.slice A1 n1 c1] 25)) = x := ⟨_, rfl⟩
    rw [hw2] at HS1 ⊢
    clear hw2 q1 hr hTg
    obtain ⟨A, rfl⟩ : ∃ A, A = A1 := ⟨_, rfl⟩
    obtain ⟨n, rfl⟩ : ∃ n, n = n1 := ⟨_, rfl⟩
    obtain ⟨c, rfl⟩ : ∃ c, c = c1 := ⟨_, rfl⟩
    obtain ⟨xs, rfl⟩ : ∃ xs, xs = xs1 := ⟨_, rfl⟩
    have HN := HN1
    obtain ⟨hh, hhh⟩ : ∃ hh, hi + 110 = hh := ⟨_, rfl⟩
    rw [hhh] at HS1
    have HS := HS1
    obtain ⟨mn, hmn⟩ : ∃ mn : Nat, min n 8 = mn := ⟨_, rfl⟩
    have hmn8 : mn ≤ 8 := by omega
    have HMN : Bx ((if (8 : Int) < (n : Int) then 8 else (n : Int)) = (mn : Int)) := Bx.mk (by split <;> omega)
    obtain ⟨pw, hpw⟩ : ∃ pw : Nat, 2 ^ mn = pw := ⟨_, rfl⟩
    have HPW0 : Bx (0 < pw) := Bx.mk (by rw [← hpw]; exact Nat.two_pow_pos _)
    have HPW1 : Bx (pw ≤ 256) := Bx.mk (by rw [← hpw]; exact Nat.pow_le_pow_right (n := 2) (by omega) hmn8)
    have HPW : Bx (IntKind.i64.wrap (2 ^ mn) = (pw : Int)) := Bx.mk ((IntWalk.i64_left _).trans (by rw [wrap_pow _ (by omega), ← hpw]; push_cast; rfl))
    clear hpw hmn
    refine wp_reg (σ := {p : Nat × (Nat × Nat) // p.1 < pw ∧ p.2.1 < 40 ∧ p.2.1 / 39 = p.2.2}) (by kernel_rfl) (by kernel_rfl) (by kernel_rfl)
      (fun s i => match i with
        | 0 => .agg #[.slice A n c]
        | 1 => .pointer (some ⟨g, 0, none⟩)
        | 2 => .pointer (some ⟨Tg, 0, none⟩)
        | 3 => .slice A n c
        | 4 => .int .i64 (n : Nat)
        | 5 => .int .i64 (mn : Nat)
        | 6 => .int .i64 (pw : Nat)
        | 7 => .int .i64 (s.1.1 : Nat)
        | 8 => .pointer (some ⟨g, 0, none⟩)
        | 9 => .int .i64 (s.1.2.1 : Nat)
        | 10 => .int .i64 (s.1.2.2 : Nat)
        | 11 => .int .i64 ((s.1.2.2 : Int) * 64)
        | 12 => .int .i64 ((s.1.1 : Int) + (s.1.2.2 : Int) * 64)
        | 14 => .int .i64 ((s.1.1 : Int) + (s.1.2.2 : Int) * 64)
        | _ => undef)
      (fun D s wx => Sn w wx fun i => match i with
        | 0 => some (rRd w g (hh + (D 7).toNat + (D 9).toNat))
        | 1 => some (rBlk r 25 (if D 13 = true then #[.slice A n c] else #[.slice none 0 0]))
        | 2 => some (rInts (.slice A n c) xs)
        | 3 => some (rBlk Tg 25 #[.slice A n c])
        | _ => none)
      ⟨(0, (0, 0)), HPW0.out, by decide⟩ ?_ ?_ ?_
    · intro D hD
      refine ((Sn.of_st HS.out).quiet ((Below.refl _ _).drew)).congr fun i => ?_
      match i with
      | 0 => simp only [hD 7 (by decide), hD 9 (by decide)]; rfl
      | 1 => simp only [hD 13 (by decide)]; rfl
      | 2 => rfl
      | 3 => rfl
      | q + 4 => rfl
    · refine StepAll.cons (fun D s wx hR (hDi : D 0 = false) hd hsh a' hs K hK => ?_) ?_
      · have e4 := hs.old 4 (u := .pointer (some ⟨Tg, 0, none⟩)) (by kernel_rfl) rfl
        clear hs
        have kb : Blk wx (Tg) 25 #[.slice A n c] := hR.blk 3 rfl
        have c0 : wx.cell? ⟨Tg, 0, none⟩ = some (.slice A n c) := kb.cell 0
        go_simp
        exact hK s wx (fun _ _ => rfl) hR
      refine StepAll.cons (fun D s wx hR (hDi : D 1 = false) hd hsh a' hs K hK => ?_) ?_
      · have e0 := hs.old 0 (u := .pointer (some ⟨g, 0, none⟩)) (by kernel_rfl) rfl
        clear hs
        go_simp
        exact hK s wx (fun _ _ => rfl) hR
      refine StepAll.cons (fun D s wx hR (hDi : D 2 = false) hd hsh a' hs K hK => ?_) ?_
      · have e4 := hs.old 4 (u := .pointer (some ⟨Tg, 0, none⟩)) (by kernel_rfl) rfl
        clear hs
        go_simp
        exact hK s wx (fun _ _ => rfl) hR
      refine StepAll.cons (fun D s wx hR (hDi : D 3 = false) hd hsh a' hs K hK => ?_) ?_
      · have e27 := hs.at_ 2 27 (u := .pointer (some ⟨Tg, 0, none⟩)) rfl (hd ⟨2, .data⟩ (by simp) rfl) (by kernel_rfl) (by kernel_rfl) rfl
        clear hs
        have kb : Blk wx (Tg) 25 #[.slice A n c] := hR.blk 3 rfl
        have c0 : wx.cell? ⟨Tg, 0, none⟩ = some (.slice A n c) := kb.cell 0
        go_simp
        exact hK s wx (fun _ _ => rfl) hR
      refine StepAll.cons (fun D s wx hR (hDi : D 4 = false) hd hsh a' hs K hK => ?_) ?_
      · have e28 := hs.at_ 3 28 (u := .slice A n c) rfl (hd ⟨3, .data⟩ (by simp) rfl) (by kernel_rfl) (by kernel_rfl) rfl
        have g28 := getQ e28
        clear hs
        have hs := s.2
        go_simp
        exact hK s wx (fun _ _ => rfl) hR
      refine StepAll.cons (fun D s wx hR (hDi : D 5 = false) hd hsh a' hs K hK => ?_) ?_
      · have e29 := hs.at_ 4 29 (u := .int .i64 (n : Nat)) rfl (hd ⟨4, .data⟩ (by simp) rfl) (by kernel_rfl) (by kernel_rfl) rfl
        have g29 := getQ e29
        clear hs
        have hs := s.2
        have hmn := HMN.out
        go_simp
        exact hK s wx (fun _ _ => rfl) hR
      refine StepAll.cons (fun D s wx hR (hDi : D 6 = false) hd hsh a' hs K hK => ?_) ?_
      · have e30 := hs.at_ 5 30 (u := .int .i64 (mn : Nat)) rfl (hd ⟨5, .data⟩ (by simp) rfl) (by kernel_rfl) (by kernel_rfl) rfl
        clear hs
        have hs := s.2
        have hpw := HPW.out
        go_simp
        exact hK s wx (fun _ _ => rfl) hR
      refine StepAll.cons (fun D s wx hR (hDi : D 7 = false) hd hsh a' hs K hK => ?_) ?_
      · have e26 := hs.at_ 1 26 (u := .pointer (some ⟨g, 0, none⟩)) rfl (hd ⟨1, .data⟩ (by simp) rfl) (by kernel_rfl) (by kernel_rfl) rfl
        have e31 := hs.at_ 6 31 (u := .int .i64 (pw : Nat)) rfl (hd ⟨6, .data⟩ (by simp) rfl) (by kernel_rfl) (by kernel_rfl) rfl
        have g26 := getQ e26
        have g31 := getQ e31
        clear hs
        have n12 : D 12 = false := hsh.no hDi 12 rfl ⟨7, .data⟩ (by simp) rfl rfl
        have n14 : D 14 = false := hsh.no n12 14 rfl ⟨12, .data⟩ (by simp) rfl rfl
        have hpw0 := HPW0.out
        go_simp
        have hb1 := Bool.toNat_le (D 7)
        have hb2 := Bool.toNat_le (D 9)
        refine (hR.pick 0 (g := g) (hi := hh + (D 7).toNat + (D 9).toNat) rfl (by omega) (pw : Int)).mono ?_
        rintro e2 w2 ⟨x2, rfl, ⟨e1, e3, -⟩, s2⟩
        have e4 := e3 (by omega)
        obtain ⟨m2, rfl⟩ := Int.eq_ofNat_of_zero_le e1
        clear hb1 hb2
        refine hK ⟨(m2, s.1.2), (by show m2 < pw; omega), s.2.2⟩ w2
          (fun j hj => by
            match j, hj with
            | 0, hj => rfl
            | 1, hj => rfl
            | 2, hj => rfl
            | 3, hj => rfl
            | 4, hj => rfl
            | 5, hj => rfl
            | 6, hj => rfl
            | 7, hj => rw [hDi] at hj; cases hj
            | 8, hj => rfl
            | 9, hj => rfl
            | 10, hj => rfl
            | 11, hj => rfl
            | 12, hj => rw [n12] at hj; cases hj
            | 13, hj => rfl
            | 14, hj => rw [n14] at hj; cases hj
            | _ + 15, hj => rfl)
          (s2.congr (fun i => by
            match i with
            | 0 => (show some (rRd w g (hh + (true).toNat + (D 9).toNat)) = some (rRd w g (hh + (D 7).toNat + (D 9).toNat + 1)); congr 2; rw [hDi]; simp only [Bool.toNat_true, Bool.toNat_false]; try omega)
            | 1 => rfl
            | 2 => rfl
            | 3 => rfl
            | q + 4 => rfl))
      refine StepAll.cons (fun D s wx hR (hDi : D 8 = false) hd hsh a' hs K hK => ?_) ?_
      · have e0 := hs.old 0 (u := .pointer (some ⟨g, 0, none⟩)) (by kernel_rfl) rfl
        clear hs
        go_simp
        exact hK s wx (fun _ _ => rfl) hR
      refine StepAll.cons (fun D s wx hR (hDi : D 9 = false) hd hsh a' hs K hK => ?_) ?_
      · have e33 := hs.at_ 8 33 (u := .pointer (some ⟨g, 0, none⟩)) rfl (hd ⟨8, .data⟩ (by simp) rfl) (by kernel_rfl) (by kernel_rfl) rfl
        have g33 := getQ e33
        clear hs
        have n10 : D 10 = false := hsh.no hDi 10 rfl ⟨9, .data⟩ (by simp) rfl rfl
        have n11 : D 11 = false := hsh.no n10 11 rfl ⟨10, .data⟩ (by simp) rfl rfl
        have n12 : D 12 = false := hsh.no n11 12 rfl ⟨11, .data⟩ (by simp) rfl rfl
        have n14 : D 14 = false := hsh.no n12 14 rfl ⟨12, .data⟩ (by simp) rfl rfl
        go_simp
        have hb1 := Bool.toNat_le (D 7)
        have hb2 := Bool.toNat_le (D 9)
        refine (hR.pick 0 (g := g) (hi := hh + (D 7).toNat + (D 9).toNat) rfl (by omega) 40).mono ?_
        rintro e2 w2 ⟨x2, rfl, ⟨e1, e3, -⟩, s2⟩
        have e4 := e3 (by omega)
        obtain ⟨m2, rfl⟩ := Int.eq_ofNat_of_zero_le e1
        clear hb1 hb2
        refine hK ⟨(s.1.1, (m2, m2 / 39)), s.2.1, (by show m2 < 40; omega), rfl⟩ w2
          (fun j hj => by
            match j, hj with
            | 0, hj => rfl
            | 1, hj => rfl
            | 2, hj => rfl
            | 3, hj => rfl
            | 4, hj => rfl
            | 5, hj => rfl
            | 6, hj => rfl
            | 7, hj => rfl
            | 8, hj => rfl
            | 9, hj => rw [hDi] at hj; cases hj
            | 10, hj => rw [n10] at hj; cases hj
            | 11, hj => rw [n11] at hj; cases hj
            | 12, hj => rw [n12] at hj; cases hj
            | 13, hj => rfl
            | 14, hj => rw [n14] at hj; cases hj
            | _ + 15, hj => rfl)
          (s2.congr (fun i => by
            match i with
            | 0 => (show some (rRd w g (hh + (D 7).toNat + (true).toNat)) = some (rRd w g (hh + (D 7).toNat + (D 9).toNat + 1)); congr 2; rw [hDi]; simp only [Bool.toNat_true, Bool.toNat_false]; try omega)
            | 1 => rfl
            | 2 => rfl
            | 3 => rfl
            | q + 4 => rfl))
      refine StepAll.cons (fun D s wx hR (hDi : D 10 = false) hd hsh a' hs K hK => ?_) ?_
      · have e34 := hs.at_ 9 34 (u := .int .i64 (s.1.2.1 : Nat)) rfl (hd ⟨9, .data⟩ (by simp) rfl) (by kernel_rfl) (by kernel_rfl) rfl
        clear hs
        have hs := s.2
        have hd1 : (s.1.2.1 : Int).tdiv 39 = (s.1.2.2 : Nat) := tdivL _ 39 _ hs.2.2
        have hw0 : IntKind.i64.wrap ((s.1.2.2 : Nat) : Int) = ((s.1.2.2 : Nat) : Int) := IntWalk.i64_in _ (by omega)
        go_simp
        exact hK s wx (fun _ _ => rfl) hR
      refine StepAll.cons (fun D s wx hR (hDi : D 11 = false) hd hsh a' hs K hK => ?_) ?_
      · have e35 := hs.at_ 10 35 (u := .int .i64 (s.1.2.2 : Nat)) rfl (hd ⟨10, .data⟩ (by simp) rfl) (by kernel_rfl) (by kernel_rfl) rfl
        clear hs
        have hs := s.2
        have hw : IntKind.i64.wrap ((s.1.2.2 : Int) * 64) = (s.1.2.2 : Int) * 64 := IntWalk.i64_in _ (by omega)
        go_simp
        exact hK s wx (fun _ _ => rfl) hR
      refine StepAll.cons (fun D s wx hR (hDi : D 12 = false) hd hsh a' hs K hK => ?_) ?_
      · have e32 := hs.at_ 7 32 (u := .int .i64 (s.1.1 : Nat)) rfl (hd ⟨7, .data⟩ (by simp) rfl) (by kernel_rfl) (by kernel_rfl) rfl
        have e36 := hs.at_ 11 36 (u := .int .i64 ((s.1.2.2 : Int) * 64)) rfl (hd ⟨11, .data⟩ (by simp) rfl) (by kernel_rfl) (by kernel_rfl) rfl
        clear hs
        have hs := s.2
        have hpw1 := HPW1.out
        have hw : IntKind.i64.wrap ((s.1.1 : Int) + (s.1.2.2 : Int) * 64) = (s.1.1 : Int) + (s.1.2.2 : Int) * 64 := IntWalk.i64_in _ (by omega)
        go_simp
        exact hK s wx (fun _ _ => rfl) hR
      refine StepAll.cons (fun D s wx hR (hDi : D 13 = false) hd hsh a' hs K hK => ?_) ?_
      · have e2 := hs.old 2 (u := .pointer (some ⟨r, 0, none⟩)) (by kernel_rfl) rfl
        have e25 := hs.at_ 0 25 (u := .agg #[.slice A n c]) rfl (hd ⟨0, .data⟩ (by simp) rfl) (by kernel_rfl) (by kernel_rfl) rfl
        clear hs
        have kb : Blk wx r 25 #[.slice none 0 0] := hR.blk 1 (by simp only [hDi] <;> rfl)
        have f0 := kb.frozen 0
        have c0 : wx.cell? ⟨r, 0, none⟩ = some (.slice none 0 0) := kb.cell 0
        go_simp
        exact hK s _ (fun _ _ => rfl) ((hR.set 1 (cs := #[.slice none 0 0]) (by simp only [hDi]; rfl) 0 (.slice A n c)).congr
            (fun i => by
              match i with
              | 0 => rfl
              | 1 => rfl
              | 2 => rfl
              | 3 => rfl
              | q + 4 => exact (if_neg (show ¬ (q + 4 = 1) by omega)).symm))
      refine StepAll.cons (fun D s wx hR (hDi : D 14 = false) hd hsh a' hs K hK => ?_) ?_
      · have e37 := hs.at_ 12 37 (u := .int .i64 ((s.1.1 : Int) + (s.1.2.2 : Int) * 64)) rfl (hd ⟨12, .data⟩ (by simp) rfl) (by kernel_rfl) (by kernel_rfl) rfl
        clear hs
        go_simp
        exact hK s wx (fun _ _ => rfl) hR
      exact StepAll.nil
    · intro D s wx hR hD
      simp only [putA, Act.put, List.setIfInBounds_toArray, List.set_cons_zero, List.set_cons_succ]
      obtain ⟨⟨y, ⟨b, qb⟩⟩, hs⟩ := s
      simp only at hs hR ⊢
      have HS2 : Hid (St w wx [rInts (.slice A n c) xs, rBlk r 25 #[.slice A n c]]) := Lib.hid (hR.to_st [2, 1] (by decide) (by simp only [List.map, hD 13 (by decide)] <;> rfl))
      clear hR hD HS
      have q2 : ∀ j, wx.cell? ⟨r, j, none⟩ = _ := HS2.out.cells 1 rfl
      have hv : (y : Int) + (qb : Int) * 64 = ((y + qb * 64 : Nat) : Int) := by push_cast; rfl
      have hpw1 := HPW1.out
      have HF := Lib.hid ((HS2.out.pick [0] (L' := [rInts (.slice A n c) xs]) (by decide) rfl rfl).graph (by rw [HN.out]; omega))
      go_wp2
      refine bodyPost_ret (v := .tuple #[.agg #[.slice A n c], .int .i64 ((y : Int) + (qb : Int) * 64)]) (by simp [results, Try.results19, go_sem, q2]) rfl ⟨_, xs, _, by rw [hv], by omega, HF.out⟩
  · have h5i : (5 : Int) < (n1 : Int) := by omega
    go_wp2_with fail
    try rw [hTg]
    refine (pick_rd HS1.out (by omega) 9).mono ?_
    rintro e w2 ⟨x2, rfl, ⟨p1, p2, -⟩, s2⟩
    have p3 := p2 (by omega)
    have HS2 := Lib.hid (s2.more (hi' := hi + 120) (by omega))
    clear s2 p2 HS1 q1 hr hTg
    go_upto_if 15 with (fail)
    go_cut [15] (fun _ wx => ∃ (A : Option Addr) (n c : Nat) (xs : List Int), Hid (xs.length = n) ∧ n ≤ 1048576 ∧ n ≤ c ∧ c ≤ 9223372036854775807 ∧ St w wx [rRd w g (hi + 130), rBlk r 25 #[.slice none 0 0], rInts (.slice A n c) xs, rBlk Tg 25 #[.slice A n c]])
    case first =>
      by_cases h2 : 0 < x2
      case neg =>
        have HS3 := Lib.hid (HS2.out.more (hi' := hi + 130) (by omega))
        clear HS2
        go_wp2
        go_meet
        case rel => exact ⟨A1, n1, c1, xs1, HN1, hn1m, by omega, by omega, HS3.out⟩
      go_wp2_with fail
      refine (ringOf_gives 5 (by omega) (by omega) _).mono ?_
      rintro e w3 ⟨g1, n1', d1, ys1, rfl, hl1, hn11, hn19, s3⟩
      have HS3 := Lib.hid (HS2.out.call s3)
      have HL1 := Lib.hid hl1
      clear s3 hl1 HS2
      go_wp2_with fail
      refine (gridOf_gives 5 1 5 rfl (by omega) (by omega) (by omega) (by omega) (by omega) _).mono ?_
      rintro e w4 ⟨g2, n2, d2, ys2, rfl, hl2, hn21, hn29, s4⟩
      have HS4 := Lib.hid (HS3.out.call s4)
      have HL2 := Lib.hid hl2
      clear s4 hl2 HS3
      go_wp2_with fail
      refine (gridOf_gives 2 2 4 rfl (by omega) (by omega) (by omega) (by omega) (by omega) _).mono ?_
      rintro e w5 ⟨g3, n3, d3, ys3, rfl, hl3, hn31, hn39, s5⟩
      have HS5 := Lib.hid (HS4.out.call s5)
      have HL3 := Lib.hid hl3
      clear s5 hl3 HS4
      go_wp2_with fail
      refine (ringOf_gives 3 (by omega) (by omega) _).mono ?_
      rintro e w6 ⟨g4, n4, d4, ys4, rfl, hl4, hn41, hn49, s6⟩
      obtain ⟨gl, hgl⟩ : ∃ gl, w6.heap.size = gl := ⟨_, rfl⟩
      have S6 := (HS5.out.call s6).alloc #[.slice (some ⟨g1, 0, none⟩) n1' d1, .slice (some ⟨g2, 0, none⟩) n2 d2, .slice (some ⟨g3, 0, none⟩) n3 d3, .slice (some ⟨g4, 0, none⟩) n4 d4] 25
      rw [hgl] at S6
      have HS6 : Hid (St w (w6.alloc (.cells #[.slice (some ⟨g1, 0, none⟩) n1' d1, .slice (some ⟨g2, 0, none⟩) n2 d2, .slice (some ⟨g3, 0, none⟩) n3 d3, .slice (some ⟨g4, 0, none⟩) n4 d4] 25)) [rRd w g (hi + 120), rBlk r 25 #[.slice none 0 0], rInts (.slice A1 n1 c1) xs1, rBlk Tg 25 #[.slice A1 n1 c1], rInts (.slice (some ⟨g1, 0, none⟩) n1' d1) ys1, rInts (.slice (some ⟨g2, 0, none⟩) n2 d2) ys2, rInts (.slice (some ⟨g3, 0, none⟩) n3 d3) ys3, rInts (.slice (some ⟨g4, 0, none⟩) n4 d4) ys4, rBlk gl 25 #[.slice (some ⟨g1, 0, none⟩) n1' d1, .slice (some ⟨g2, 0, none⟩) n2 d2, .slice (some ⟨g3, 0, none⟩) n3 d3, .slice (some ⟨g4, 0, none⟩) n4 d4]]) := Lib.hid S6
      have HL4 := Lib.hid hl4
      clear s6 hl4 HS5 S6
      go_wp2_with fail
      try rw [hgl]
      refine (pick_rd HS6.out (by omega) 4).mono ?_
      rintro e w7 ⟨x7, rfl, ⟨p4, p5, -⟩, s7⟩
      have p6 := p5 (by omega)
      obtain ⟨y7, rfl⟩ := Int.eq_ofNat_of_zero_le p4
      have HS7 := Lib.hid s7
      clear s7 p4 p5 HS6 hgl
      have q7 : ∀ j, w7.cell? ⟨gl, j, none⟩ = _ := HS7.out.cells 8 rfl
      have q8 : ∀ j, w7.cell? ⟨Tg, j, none⟩ = _ := HS7.out.cells 3 rfl
      have f8 := HS7.out.free 3 rfl
      obtain h | h | h | h : y7 = 0 ∨ y7 = 1 ∨ y7 = 2 ∨ y7 = 3 := by omega
      · subst h
        have HF := Lib.hid (((HS7.out.set 3 rfl 0 (.slice (some ⟨g1, 0, none⟩) n1' d1)).pick [0, 1, 4, 3] (by decide) rfl rfl).more (hi' := hi + 130) (by omega))
        obtain ⟨hcp, hcpm⟩ : n1' ≤ d1 ∧ d1 ≤ 9223372036854775807 := by
          have := HS7.out.rdI' 4 rfl
          have h1 := this.cap
          have h2 := this.capMax
          unfold maxLen at h2
          omega
        clear HS7
        go_wp2
        go_meet
        case rel => exact ⟨_, _, _, ys1, HL1, by omega, hcp, hcpm, HF.out⟩
      · subst h
        have HF := Lib.hid (((HS7.out.set 3 rfl 0 (.slice (some ⟨g2, 0, none⟩) n2 d2)).pick [0, 1, 5, 3] (by decide) rfl rfl).more (hi' := hi + 130) (by omega))
        obtain ⟨hcp, hcpm⟩ : n2 ≤ d2 ∧ d2 ≤ 9223372036854775807 := by
          have := HS7.out.rdI' 5 rfl
          have h1 := this.cap
          have h2 := this.capMax
          unfold maxLen at h2
          omega
        clear HS7
        go_wp2
        go_meet
        case rel => exact ⟨_, _, _, ys2, HL2, by omega, hcp, hcpm, HF.out⟩
      · subst h
        have HF := Lib.hid (((HS7.out.set 3 rfl 0 (.slice (some ⟨g3, 0, none⟩) n3 d3)).pick [0, 1, 6, 3] (by decide) rfl rfl).more (hi' := hi + 130) (by omega))
        obtain ⟨hcp, hcpm⟩ : n3 ≤ d3 ∧ d3 ≤ 9223372036854775807 := by
          have := HS7.out.rdI' 6 rfl
          have h1 := this.cap
          have h2 := this.capMax
          unfold maxLen at h2
          omega
        clear HS7
        go_wp2
        go_meet
        case rel => exact ⟨_, _, _, ys3, HL3, by omega, hcp, hcpm, HF.out⟩
      · subst h
        have HF := Lib.hid (((HS7.out.set 3 rfl 0 (.slice (some ⟨g4, 0, none⟩) n4 d4)).pick [0, 1, 7, 3] (by decide) rfl rfl).more (hi' := hi + 130) (by omega))
        obtain ⟨hcp, hcpm⟩ : n4 ≤ d4 ∧ d4 ≤ 9223372036854775807 := by
          have := HS7.out.rdI' 7 rfl
          have h1 := this.cap
          have h2 := this.capMax
          unfold maxLen at h2
          omega
        clear HS7
        go_wp2
        go_meet
        case rel => exact ⟨_, _, _, ys4, HL4, by omega, hcp, hcpm, HF.out⟩
    case rest =>
      obtain ⟨A, n, c, xs, HN, hnm, hcap, hcm, SC⟩ := hcut
      obtain ⟨hh, hhh⟩ : ∃ hh, hi + 130 = hh := ⟨_, rfl⟩
      rw [hhh] at SC
      have HS := Lib.hid SC
      clear SC
      go_upto_region 4 with (fail)
      obtain ⟨mn, hmn⟩ : ∃ mn : Nat, min n 8 = mn := ⟨_, rfl⟩
      have hmn8 : mn ≤ 8 := by omega
      have HMN : Bx ((if (8 : Int) < (n : Int) then 8 else (n : Int)) = (mn : Int)) := Bx.mk (by split <;> omega)
      obtain ⟨pw, hpw⟩ : ∃ pw : Nat, 2 ^ mn = pw := ⟨_, rfl⟩
      have HPW0 : Bx (0 < pw) := Bx.mk (by rw [← hpw]; exact Nat.two_pow_pos _)
      have HPW1 : Bx (pw ≤ 256) := Bx.mk (by rw [← hpw]; exact Nat.pow_le_pow_right (n := 2) (by omega) hmn8)
      have HPW : Bx (IntKind.i64.wrap (2 ^ mn) = (pw : Int)) := Bx.mk ((IntWalk.i64_left _).trans (by rw [wrap_pow _ (by omega), ← hpw]; push_cast; rfl))
      clear hpw hmn
      refine wp_reg (σ := {p : Nat × (Nat × Nat) // p.1 < pw ∧ p.2.1 < 40 ∧ p.2.1 / 39 = p.2.2}) (by kernel_rfl) (by kernel_rfl) (by kernel_rfl)
        (fun s i => match i with
          | 0 => .agg #[.slice A n c]
          | 1 => .pointer (some ⟨g, 0, none⟩)
          | 2 => .pointer (some ⟨Tg, 0, none⟩)
          | 3 => .slice A n c
          | 4 => .int .i64 (n : Nat)
          | 5 => .int .i64 (mn : Nat)
          | 6 => .int .i64 (pw : Nat)
          | 7 => .int .i64 (s.1.1 : Nat)
          | 8 => .pointer (some ⟨g, 0, none⟩)
          | 9 => .int .i64 (s.1.2.1 : Nat)
          | 10 => .int .i64 (s.1.2.2 : Nat)
          | 11 => .int .i64 ((s.1.2.2 : Int) * 64)
          | 12 => .int .i64 ((s.1.1 : Int) + (s.1.2.2 : Int) * 64)
          | 14 => .int .i64 ((s.1.1 : Int) + (s.1.2.2 : Int) * 64)
          | _ => undef)
        (fun D s wx => Sn w wx fun i => match i with
          | 0 => some (rRd w g (hh + (D 7).toNat + (D 9).toNat))
          | 1 => some (rBlk r 25 (if D 13 = true then #[.slice A n c] else #[.slice none 0 0]))
          | 2 => some (rInts (.slice A n c) xs)
          | 3 => some (rBlk Tg 25 #[.slice A n c])
          | _ => none)
        ⟨(0, (0, 0)), HPW0.out, by decide⟩ ?_ ?_ ?_
      · intro D hD
        refine ((Sn.of_st HS.out).quiet ((Below.refl _ _).drew)).congr fun i => ?_
        match i with
        | 0 => simp only [hD 7 (by decide), hD 9 (by decide)]; rfl
        | 1 => simp only [hD 13 (by decide)]; rfl
        | 2 => rfl
        | 3 => rfl
        | q + 4 => rfl
      · refine StepAll.cons (fun D s wx hR (hDi : D 0 = false) hd hsh a' hs K hK => ?_) ?_
        · have e4 := hs.old 4 (u := .pointer (some ⟨Tg, 0, none⟩)) (by kernel_rfl) rfl
          clear hs
          have kb : Blk wx (Tg) 25 #[.slice A n c] := hR.blk 3 rfl
          have c0 : wx.cell? ⟨Tg, 0, none⟩ = some (.slice A n c) := kb.cell 0
          go_simp
          exact hK s wx (fun _ _ => rfl) hR
        refine StepAll.cons (fun D s wx hR (hDi : D 1 = false) hd hsh a' hs K hK => ?_) ?_
        · have e0 := hs.old 0 (u := .pointer (some ⟨g, 0, none⟩)) (by kernel_rfl) rfl
          clear hs
          go_simp
          exact hK s wx (fun _ _ => rfl) hR
        refine StepAll.cons (fun D s wx hR (hDi : D 2 = false) hd hsh a' hs K hK => ?_) ?_
        · have e4 := hs.old 4 (u := .pointer (some ⟨Tg, 0, none⟩)) (by kernel_rfl) rfl
          clear hs
          go_simp
          exact hK s wx (fun _ _ => rfl) hR
        refine StepAll.cons (fun D s wx hR (hDi : D 3 = false) hd hsh a' hs K hK => ?_) ?_
        · have e27 := hs.at_ 2 27 (u := .pointer (some ⟨Tg, 0, none⟩)) rfl (hd ⟨2, .data⟩ (by simp) rfl) (by kernel_rfl) (by kernel_rfl) rfl
          clear hs
          have kb : Blk wx (Tg) 25 #[.slice A n c] := hR.blk 3 rfl
          have c0 : wx.cell? ⟨Tg, 0, none⟩ = some (.slice A n c) := kb.cell 0
          go_simp
          exact hK s wx (fun _ _ => rfl) hR
        refine StepAll.cons (fun D s wx hR (hDi : D 4 = false) hd hsh a' hs K hK => ?_) ?_
        · have e28 := hs.at_ 3 28 (u := .slice A n c) rfl (hd ⟨3, .data⟩ (by simp) rfl) (by kernel_rfl) (by kernel_rfl) rfl
          have g28 := getQ e28
          clear hs
          have hs := s.2
          go_simp
          exact hK s wx (fun _ _ => rfl) hR
        refine StepAll.cons (fun D s wx hR (hDi : D 5 = false) hd hsh a' hs K hK => ?_) ?_
        · have e29 := hs.at_ 4 29 (u := .int .i64 (n : Nat)) rfl (hd ⟨4, .data⟩ (by simp) rfl) (by kernel_rfl) (by kernel_rfl) rfl
          have g29 := getQ e29
          clear hs
          have hs := s.2
          have hmn := HMN.out
          go_simp
          exact hK s wx (fun _ _ => rfl) hR
        refine StepAll.cons (fun D s wx hR (hDi : D 6 = false) hd hsh a' hs K hK => ?_) ?_
        · have e30 := hs.at_ 5 30 (u := .int .i64 (mn : Nat)) rfl (hd ⟨5, .data⟩ (by simp) rfl) (by kernel_rfl) (by kernel_rfl) rfl
          clear hs
          have hs := s.2
          have hpw := HPW.out
          go_simp
          exact hK s wx (fun _ _ => rfl) hR
        refine StepAll.cons (fun D s wx hR (hDi : D 7 = false) hd hsh a' hs K hK => ?_) ?_
        · have e26 := hs.at_ 1 26 (u := .pointer (some ⟨g, 0, none⟩)) rfl (hd ⟨1, .data⟩ (by simp) rfl) (by kernel_rfl) (by kernel_rfl) rfl
          have e31 := hs.at_ 6 31 (u := .int .i64 (pw : Nat)) rfl (hd ⟨6, .data⟩ (by simp) rfl) (by kernel_rfl) (by kernel_rfl) rfl
          have g26 := getQ e26
          have g31 := getQ e31
          clear hs
          have n12 : D 12 = false := hsh.no hDi 12 rfl ⟨7, .data⟩ (by simp) rfl rfl
          have n14 : D 14 = false := hsh.no n12 14 rfl ⟨12, .data⟩ (by simp) rfl rfl
          have hpw0 := HPW0.out
          go_simp
          have hb1 := Bool.toNat_le (D 7)
          have hb2 := Bool.toNat_le (D 9)
          refine (hR.pick 0 (g := g) (hi := hh + (D 7).toNat + (D 9).toNat) rfl (by omega) (pw : Int)).mono ?_
          rintro e2 w2 ⟨x2, rfl, ⟨e1, e3, -⟩, s2⟩
          have e4 := e3 (by omega)
          obtain ⟨m2, rfl⟩ := Int.eq_ofNat_of_zero_le e1
          clear hb1 hb2
          refine hK ⟨(m2, s.1.2), (by show m2 < pw; omega), s.2.2⟩ w2
            (fun j hj => by
              match j, hj with
              | 0, hj => rfl
              | 1, hj => rfl
              | 2, hj => rfl
              | 3, hj => rfl
              | 4, hj => rfl
              | 5, hj => rfl
              | 6, hj => rfl
              | 7, hj => rw [hDi] at hj; cases hj
              | 8, hj => rfl
              | 9, hj => rfl
              | 10, hj => rfl
              | 11, hj => rfl
              | 12, hj => rw [n12] at hj; cases hj
              | 13, hj => rfl
              | 14, hj => rw [n14] at hj; cases hj
              | _ + 15, hj => rfl)
            (s2.congr (fun i => by
              match i with
              | 0 => (show some (rRd w g (hh + (true).toNat + (D 9).toNat)) = some (rRd w g (hh + (D 7).toNat + (D 9).toNat + 1)); congr 2; rw [hDi]; simp only [Bool.toNat_true, Bool.toNat_false]; try omega)
              | 1 => rfl
              | 2 => rfl
              | 3 => rfl
              | q + 4 => rfl))
        refine StepAll.cons (fun D s wx hR (hDi : D 8 = false) hd hsh a' hs K hK => ?_) ?_
        · have e0 := hs.old 0 (u := .pointer (some ⟨g, 0, none⟩)) (by kernel_rfl) rfl
          clear hs
          go_simp
          exact hK s wx (fun _ _ => rfl) hR
        refine StepAll.cons (fun D s wx hR (hDi : D 9 = false) hd hsh a' hs K hK => ?_) ?_
        · have e33 := hs.at_ 8 33 (u := .pointer (some ⟨g, 0, none⟩)) rfl (hd ⟨8, .data⟩ (by simp) rfl) (by kernel_rfl) (by kernel_rfl) rfl
          have g33 := getQ e33
          clear hs
          have n10 : D 10 = false := hsh.no hDi 10 rfl ⟨9, .data⟩ (by simp) rfl rfl
          have n11 : D 11 = false := hsh.no n10 11 rfl ⟨10, .data⟩ (by simp) rfl rfl
          have n12 : D 12 = false := hsh.no n11 12 rfl ⟨11, .data⟩ (by simp) rfl rfl
          have n14 : D 14 = false := hsh.no n12 14 rfl ⟨12, .data⟩ (by simp) rfl rfl
          go_simp
          have hb1 := Bool.toNat_le (D 7)
          have hb2 := Bool.toNat_le (D 9)
          refine (hR.pick 0 (g := g) (hi := hh + (D 7).toNat + (D 9).toNat) rfl (by omega) 40).mono ?_
          rintro e2 w2 ⟨x2, rfl, ⟨e1, e3, -⟩, s2⟩
          have e4 := e3 (by omega)
          obtain ⟨m2, rfl⟩ := Int.eq_ofNat_of_zero_le e1
          clear hb1 hb2
          refine hK ⟨(s.1.1, (m2, m2 / 39)), s.2.1, (by show m2 < 40; omega), rfl⟩ w2
            (fun j hj => by
              match j, hj with
              | 0, hj => rfl
              | 1, hj => rfl
              | 2, hj => rfl
              | 3, hj => rfl
              | 4, hj => rfl
              | 5, hj => rfl
              | 6, hj => rfl
              | 7, hj => rfl
              | 8, hj => rfl
              | 9, hj => rw [hDi] at hj; cases hj
              | 10, hj => rw [n10] at hj; cases hj
              | 11, hj => rw [n11] at hj; cases hj
              | 12, hj => rw [n12] at hj; cases hj
              | 13, hj => rfl
              | 14, hj => rw [n14] at hj; cases hj
              | _ + 15, hj => rfl)
            (s2.congr (fun i => by
              match i with
              | 0 => (show some (rRd w g (hh + (D 7).toNat + (true).toNat)) = some (rRd w g (hh + (D 7).toNat + (D 9).toNat + 1)); congr 2; rw [hDi]; simp only [Bool.toNat_true, Bool.toNat_false]; try omega)
              | 1 => rfl
              | 2 => rfl
              | 3 => rfl
              | q + 4 => rfl))
        refine StepAll.cons (fun D s wx hR (hDi : D 10 = false) hd hsh a' hs K hK => ?_) ?_
        · have e34 := hs.at_ 9 34 (u := .int .i64 (s.1.2.1 : Nat)) rfl (hd ⟨9, .data⟩ (by simp) rfl) (by kernel_rfl) (by kernel_rfl) rfl
          clear hs
          have hs := s.2
          have hd1 : (s.1.2.1 : Int).tdiv 39 = (s.1.2.2 : Nat) := tdivL _ 39 _ hs.2.2
          have hw0 : IntKind.i64.wrap ((s.1.2.2 : Nat) : Int) = ((s.1.2.2 : Nat) : Int) := IntWalk.i64_in _ (by omega)
          go_simp
          exact hK s wx (fun _ _ => rfl) hR
        refine StepAll.cons (fun D s wx hR (hDi : D 11 = false) hd hsh a' hs K hK => ?_) ?_
        · have e35 := hs.at_ 10 35 (u := .int .i64 (s.1.2.2 : Nat)) rfl (hd ⟨10, .data⟩ (by simp) rfl) (by kernel_rfl) (by kernel_rfl) rfl
          clear hs
          have hs := s.2
          have hw : IntKind.i64.wrap ((s.1.2.2 : Int) * 64) = (s.1.2.2 : Int) * 64 := IntWalk.i64_in _ (by omega)
          go_simp
          exact hK s wx (fun _ _ => rfl) hR
        refine StepAll.cons (fun D s wx hR (hDi : D 12 = false) hd hsh a' hs K hK => ?_) ?_
        · have e32 := hs.at_ 7 32 (u := .int .i64 (s.1.1 : Nat)) rfl (hd ⟨7, .data⟩ (by simp) rfl) (by kernel_rfl) (by kernel_rfl) rfl
          have e36 := hs.at_ 11 36 (u := .int .i64 ((s.1.2.2 : Int) * 64)) rfl (hd ⟨11, .data⟩ (by simp) rfl) (by kernel_rfl) (by kernel_rfl) rfl
          clear hs
          have hs := s.2
          have hpw1 := HPW1.out
          have hw : IntKind.i64.wrap ((s.1.1 : Int) + (s.1.2.2 : Int) * 64) = (s.1.1 : Int) + (s.1.2.2 : Int) * 64 := IntWalk.i64_in _ (by omega)
          go_simp
          exact hK s wx (fun _ _ => rfl) hR
        refine StepAll.cons (fun D s wx hR (hDi : D 13 = false) hd hsh a' hs K hK => ?_) ?_
        · have e2 := hs.old 2 (u := .pointer (some ⟨r, 0, none⟩)) (by kernel_rfl) rfl
          have e25 := hs.at_ 0 25 (u := .agg #[.slice A n c]) rfl (hd ⟨0, .data⟩ (by simp) rfl) (by kernel_rfl) (by kernel_rfl) rfl
          clear hs
          have kb : Blk wx r 25 #[.slice none 0 0] := hR.blk 1 (by simp only [hDi] <;> rfl)
          have f0 := kb.frozen 0
          have c0 : wx.cell? ⟨r, 0, none⟩ = some (.slice none 0 0) := kb.cell 0
          go_simp
          exact hK s _ (fun _ _ => rfl) ((hR.set 1 (cs := #[.slice none 0 0]) (by simp only [hDi]; rfl) 0 (.slice A n c)).congr
              (fun i => by
                match i with
                | 0 => rfl
                | 1 => rfl
                | 2 => rfl
                | 3 => rfl
                | q + 4 => exact (if_neg (show ¬ (q + 4 = 1) by omega)).symm))
        refine StepAll.cons (fun D s wx hR (hDi : D 14 = false) hd hsh a' hs K hK => ?_) ?_
        · have e37 := hs.at_ 12 37 (u := .int .i64 ((s.1.1 : Int) + (s.1.2.2 : Int) * 64)) rfl (hd ⟨12, .data⟩ (by simp) rfl) (by kernel_rfl) (by kernel_rfl) rfl
          clear hs
          go_simp
          exact hK s wx (fun _ _ => rfl) hR
        exact StepAll.nil
      · intro D s wx hR hD
        simp only [putA, Act.put, List.setIfInBounds_toArray, List.set_cons_zero, List.set_cons_succ]
        obtain ⟨⟨y, ⟨b, qb⟩⟩, hs⟩ := s
        simp only at hs hR ⊢
        have HS2 : Hid (St w wx [rInts (.slice A n c) xs, rBlk r 25 #[.slice A n c]]) := Lib.hid (hR.to_st [2, 1] (by decide) (by simp only [List.map, hD 13 (by decide)] <;> rfl))
        clear hR hD HS
        have q2 : ∀ j, wx.cell? ⟨r, j, none⟩ = _ := HS2.out.cells 1 rfl
        have hv : (y : Int) + (qb : Int) * 64 = ((y + qb * 64 : Nat) : Int) := by push_cast; rfl
        have hpw1 := HPW1.out
        have HF := Lib.hid ((HS2.out.pick [0] (L' := [rInts (.slice A n c) xs]) (by decide) rfl rfl).graph (by rw [HN.out]; omega))
        go_wp2
        refine bodyPost_ret (v := .tuple #[.agg #[.slice A n c], .int .i64 ((y : Int) + (qb : Int) * 64)]) (by simp [results, Try.results19, go_sem, q2]) rfl ⟨_, xs, _, by rw [hv], by omega, HF.out⟩
end Go.Proofs.Ytfgebdioffeliaa
