/- The draw of a graph of few points; DrawCrossTask. Printed by gen_l20items.py. -/
import Derived.Test.YtdbgoekemffimaaSL20Graph
import Derived.Test.YtdbgoekemffimaaSLineSet
import Derived.Test.YtdbgoekemffimaaSDraws
namespace Go.Proofs.Ytdbgoekemffimaa
set_option linter.unusedVariables false
set_option linter.unusedSimpArgs false
open Go.ChangeShapes Go.WideShapes Go.ChangeAt Go.RowKit

set_option maxRecDepth 100000 in
set_option maxHeartbeats 2000000 in
theorem l20Items_rd1 {w W : World} {X : HRes} {g hi : Nat} (S : St w W [rRd w g hi, X]) (hh : hi ≤ 200000000000) :
    Calls Try.prog 81 #[.pointer (some ⟨g, 0, none⟩)] W fun e w' => ∃ v xs, e = .returned v ∧ St w w' [rRd w g (hi + 200), rGraph v xs, X] := by
  obtain ⟨i0, hi0, hz0, hz1, hz2⟩ := elInt.hi
  obtain ⟨r, hr⟩ : ∃ r, W.heap.size = r := ⟨_, rfl⟩
  have HS0 : Hid (St w (W.alloc (.cells #[.slice none 0 0] 37)) [rRd w g hi, rBlk r 37 #[.slice none 0 0], X]) := Lib.hid (by
    rw [← hr]; exact (S.alloc #[.slice none 0 0] 37).pick [0, 2, 1] (by decide) rfl rfl)
  clear S
  go_enter Try.func81, Try.ntmps81
  go_wp2_with fail
  refine (pick_rd HS0.out (by omega) 4).mono ?_
  rintro e w1 ⟨p1, rfl, ⟨a1, a2, -⟩, s1⟩
  have a3 := a2 (by omega)
  obtain ⟨n1, rfl⟩ := Int.eq_ofNat_of_zero_le a1
  have HS1 := Lib.hid s1
  clear s1 a1 a2 HS0
  try rw [hr]
  obtain ⟨N, hN⟩ : ∃ k, 1 + n1 = k := ⟨_, rfl⟩
  have hNi : (1 : Int) + (n1 : Int) = (N : Int) := by omega
  have hN0 : 0 < N := by omega
  have hN4 : N ≤ 4 := by omega
  clear hN a3
  go_wp2_with (at_make; refine wpList_make_full _ rfl _ _ 23 rfl w1.heap.size 3 i0 _ 1 Try.underlying23 hi0 hz0 hz1 _ _ _ _ N rfl rfl rfl rfl (by rw [hz2]; omega) (by unfold maxLen; omega) (Nat.le_refl _) ?_; intro w3 hown hgr; have HS3 := Lib.hid (HS1.out.call (St.ofMakeN hown hgr)); clear hown hgr)
  obtain ⟨gs, hgs⟩ : ∃ x, w1.heap.size = x := ⟨_, rfl⟩
  obtain ⟨g3, hg3⟩ : ∃ x, w3.heap.size = x := ⟨_, rfl⟩
  try rw [hgs]
  rw [hgs] at HS3
  have HS4 : Hid (St w (w3.alloc (.cells #[.slice (some ⟨gs, 0, none⟩) N N] 37)) [rRd w g (hi + 1), rBlk r 37 #[.slice none 0 0], rBlk g3 37 #[.slice (some ⟨gs, 0, none⟩) N N], rInts (.slice (some ⟨gs, 0, none⟩) N N) (List.replicate N 0), X]) := Lib.hid (by
    rw [← hg3]
    exact (HS3.out.alloc #[.slice (some ⟨gs, 0, none⟩) N N] 37).pick [0, 1, 4, 3, 2] (by decide) rfl rfl)
  clear HS3 HS1
  try rw [hg3]
  refine (pick_rd HS4.out (by omega) 4).mono ?_
  rintro e w5 ⟨p4, rfl, ⟨d1, d2, -⟩, s5⟩
  have d3 := d2 (by omega)
  obtain ⟨k0, rfl⟩ := Int.eq_ofNat_of_zero_le d1
  have hk0 : k0 ≤ 3 := by omega
  clear d1 d2 d3
  have HS5 := Lib.hid (s5.more (hi' := hi + 2 + 2 * (3 - k0)) (by omega))
  clear s5 HS4 hgs
  try rw [hg3]
  clear hg3
  go_wp2
  go_loopw [4] (fun i wr => ∃ (k gb c : Nat) (xs : List Int), k ≤ 3 ∧ i = .int .i64 k ∧ xs.length = N ∧ St w wr [rRd w g (hi + 2 + 2 * (3 - k)), rBlk r 37 #[.slice none 0 0], rBlk g3 37 #[.slice (some ⟨gb, 0, none⟩) N c], rInts (.slice (some ⟨gb, 0, none⟩) N c) xs, X]) (fun i _ => (intOf i).toNat)
  case atStart => exact ⟨k0, gs, N, _, hk0, rfl, by simp, HS5.out⟩
  case round =>
    clear HS5
    obtain ⟨k, gb, c, xs, hk, rfl, hxl, S⟩ := hrel
    have HS := Lib.hid S
    clear S
    have HXL := Bx.mk hxl
    clear hxl
    by_cases hlt : 0 < k
    · have hki : (0 : Int) < (k : Int) := by omega
      go_upto_region 5 with (fail)
      refine wp_reg (σ := {p : (Nat × Nat) × ((Option Addr × Nat × Nat) × Bool × List Int) × Nat // p.1.1 < N ∧ p.1.2 < N ∧ (p.2.1.2.1 = true → p.2.1.1.2.1 = N) ∧ p.2.1.2.2.length = p.2.1.1.2.1}) (by kernel_rfl) (by kernel_rfl) (by kernel_rfl)
        (fun s i => match i with
          | 0 => .agg #[.slice (some ⟨gb, 0, none⟩) N c]
          | 1 => .pointer (some ⟨g, 0, none⟩)
          | 2 => .pointer (some ⟨g3, 0, none⟩)
          | 3 => .slice (some ⟨gb, 0, none⟩) N c
          | 4 => .int .i64 (N : Int)
          | 5 => .int .i64 (s.1.1.1 : Nat)
          | 6 => .pointer (some ⟨g, 0, none⟩)
          | 7 => .pointer (some ⟨g3, 0, none⟩)
          | 8 => .slice (some ⟨gb, 0, none⟩) N c
          | 9 => .int .i64 (N : Int)
          | 10 => .int .i64 (s.1.1.2 : Nat)
          | 11 => .tuple #[.agg #[.slice s.1.2.1.1.1 s.1.2.1.1.2.1 s.1.2.1.1.2.2], .bool s.1.2.1.2.1]
          | 12 => .tuple #[.agg #[.slice s.1.2.1.1.1 s.1.2.1.1.2.1 s.1.2.1.1.2.2], .bool s.1.2.1.2.1]
          | 13 => .agg #[.slice s.1.2.1.1.1 s.1.2.1.1.2.1 s.1.2.1.1.2.2]
          | 14 => .bool s.1.2.1.2.1
          | 15 => .pointer (some ⟨s.1.2.2, 0, none⟩)
          | 17 => .bool s.1.2.1.2.1
          | _ => undef)
        (fun D s wy => Sn w wy fun i => match i with
          | 0 => some (rRd w g (hi + 2 + 2 * (3 - k) + (if D 5 = true then 1 else 0) + (if D 10 = true then 1 else 0)))
          | 1 => some (rBlk r 37 #[.slice none 0 0])
          | 2 => some (rBlk g3 37 #[.slice (some ⟨gb, 0, none⟩) N c])
          | 3 => some (rInts (.slice (some ⟨gb, 0, none⟩) N c) xs)
          | 4 => some (X)
          | 5 => if D 11 = true then some (rInts (.slice s.1.2.1.1.1 s.1.2.1.1.2.1 s.1.2.1.1.2.2) s.1.2.1.2.2) else none
          | 6 => if D 15 = true then some (rBlk s.1.2.2 37 (if D 16 = true then #[.slice s.1.2.1.1.1 s.1.2.1.1.2.1 s.1.2.1.1.2.2] else #[.slice none 0 0])) else none
          | _ => none)
        ⟨((0, 0), ((none, 0, 0), false, []), 0), hN0, hN0, (fun h => by cases h), rfl⟩ ?_ ?_ ?_
      · intro D hD
        refine ((Sn.of_st HS.out).quiet ((Below.refl _ _).drew)).congr fun i => ?_
        match i with
        | 0 => simp only [hD 5 (by decide), hD 10 (by decide)]; rfl
        | 1 => rfl
        | 2 => rfl
        | 3 => rfl
        | 4 => rfl
        | 5 => simp only [hD 11 (by decide)]; rfl
        | 6 => simp only [hD 15 (by decide)]; rfl
        | q + 7 => rfl
      · refine StepAll.cons (fun D s wy hR (hDi : D 0 = false) hd hsh a' hs K hK => ?_) ?_
        · have e3 := hs.old 3 (u := .pointer (some ⟨g3, 0, none⟩)) (by kernel_rfl) rfl
          clear hs
          have kb : Blk wy (g3) 37 #[.slice (some ⟨gb, 0, none⟩) N c] := hR.blk 2 rfl
          have c0 : wy.cell? ⟨g3, 0, none⟩ = some (.slice (some ⟨gb, 0, none⟩) N c) := kb.cell 0
          go_simp
          exact hK s wy (fun _ _ => rfl) hR
        refine StepAll.cons (fun D s wy hR (hDi : D 1 = false) hd hsh a' hs K hK => ?_) ?_
        · have e0 := hs.old 0 (u := .pointer (some ⟨g, 0, none⟩)) (by kernel_rfl) rfl
          clear hs
          go_simp
          exact hK s wy (fun _ _ => rfl) hR
        refine StepAll.cons (fun D s wy hR (hDi : D 2 = false) hd hsh a' hs K hK => ?_) ?_
        · have e3 := hs.old 3 (u := .pointer (some ⟨g3, 0, none⟩)) (by kernel_rfl) rfl
          clear hs
          go_simp
          exact hK s wy (fun _ _ => rfl) hR
        refine StepAll.cons (fun D s wy hR (hDi : D 3 = false) hd hsh a' hs K hK => ?_) ?_
        · have e21 := hs.at_ 2 21 (u := .pointer (some ⟨g3, 0, none⟩)) rfl (hd ⟨2, .data⟩ (by simp) rfl) (by kernel_rfl) (by kernel_rfl) rfl
          clear hs
          have kb : Blk wy (g3) 37 #[.slice (some ⟨gb, 0, none⟩) N c] := hR.blk 2 rfl
          have c0 : wy.cell? ⟨g3, 0, none⟩ = some (.slice (some ⟨gb, 0, none⟩) N c) := kb.cell 0
          go_simp
          exact hK s wy (fun _ _ => rfl) hR
        refine StepAll.cons (fun D s wy hR (hDi : D 4 = false) hd hsh a' hs K hK => ?_) ?_
        · have e22 := hs.at_ 3 22 (u := .slice (some ⟨gb, 0, none⟩) N c) rfl (hd ⟨3, .data⟩ (by simp) rfl) (by kernel_rfl) (by kernel_rfl) rfl
          have g22 := getQ e22
          clear hs
          go_simp
          exact hK s wy (fun _ _ => rfl) hR
        refine StepAll.cons (fun D s wy hR (hDi : D 5 = false) hd hsh a' hs K hK => ?_) ?_
        · have e20 := hs.at_ 1 20 (u := .pointer (some ⟨g, 0, none⟩)) rfl (hd ⟨1, .data⟩ (by simp) rfl) (by kernel_rfl) (by kernel_rfl) rfl
          have e23 := hs.at_ 4 23 (u := .int .i64 (N : Int)) rfl (hd ⟨4, .data⟩ (by simp) rfl) (by kernel_rfl) (by kernel_rfl) rfl
          have g20 := getQ e20
          have g23 := getQ e23
          clear hs
          go_simp
          cases hj : D 10 with
          | true =>
            have s1 := (hR.pick 0 (g := g) (hi := hi + 2 + 2 * (3 - k) + 1) (by simp only [hDi, hj] <;> rfl) (by omega) (N : Int))
            refine s1.mono ?_
            rintro e2 w2 ⟨x2, rfl, ⟨e1, e3, -⟩, s2⟩
            have e4 := e3 (by omega)
            obtain ⟨m2, rfl⟩ := Int.eq_ofNat_of_zero_le e1
            refine hK ⟨((m2, s.1.1.2), s.1.2), (by show m2 < N; omega), s.2.2⟩ w2
              (fun j hj => by
                match j, hj with
                | 0, hj => rfl
                | 1, hj => rfl
                | 2, hj => rfl
                | 3, hj => rfl
                | 4, hj => rfl
                | 5, hj => rw [hDi] at hj; cases hj
                | 6, hj => rfl
                | 7, hj => rfl
                | 8, hj => rfl
                | 9, hj => rfl
                | 10, hj => rfl
                | 11, hj => rfl
                | 12, hj => rfl
                | 13, hj => rfl
                | 14, hj => rfl
                | 15, hj => rfl
                | 16, hj => rfl
                | 17, hj => rfl
                | _ + 18, hj => rfl)
              (s2.congr (fun i => by
                match i with
                | 0 => (show some (rRd w g (hi + 2 + 2 * (3 - k) + (if true = true then 1 else 0) + (if D 10 = true then 1 else 0))) = some (rRd w g (hi + 2 + 2 * (3 - k) + 1 + 1)); rw [hj] <;> rfl)
                | 1 => rfl
                | 2 => rfl
                | 3 => rfl
                | 4 => rfl
                | 5 => rfl
                | 6 => rfl
                | q + 7 => rfl))
          | false =>
            have s1 := (hR.pick 0 (g := g) (hi := hi + 2 + 2 * (3 - k)) (by simp only [hDi, hj] <;> rfl) (by omega) (N : Int))
            refine s1.mono ?_
            rintro e2 w2 ⟨x2, rfl, ⟨e1, e3, -⟩, s2⟩
            have e4 := e3 (by omega)
            obtain ⟨m2, rfl⟩ := Int.eq_ofNat_of_zero_le e1
            refine hK ⟨((m2, s.1.1.2), s.1.2), (by show m2 < N; omega), s.2.2⟩ w2
              (fun j hj => by
                match j, hj with
                | 0, hj => rfl
                | 1, hj => rfl
                | 2, hj => rfl
                | 3, hj => rfl
                | 4, hj => rfl
                | 5, hj => rw [hDi] at hj; cases hj
                | 6, hj => rfl
                | 7, hj => rfl
                | 8, hj => rfl
                | 9, hj => rfl
                | 10, hj => rfl
                | 11, hj => rfl
                | 12, hj => rfl
                | 13, hj => rfl
                | 14, hj => rfl
                | 15, hj => rfl
                | 16, hj => rfl
                | 17, hj => rfl
                | _ + 18, hj => rfl)
              (s2.congr (fun i => by
                match i with
                | 0 => (show some (rRd w g (hi + 2 + 2 * (3 - k) + (if true = true then 1 else 0) + (if D 10 = true then 1 else 0))) = some (rRd w g (hi + 2 + 2 * (3 - k) + 1)); rw [hj] <;> rfl)
                | 1 => rfl
                | 2 => rfl
                | 3 => rfl
                | 4 => rfl
                | 5 => rfl
                | 6 => rfl
                | q + 7 => rfl))
        refine StepAll.cons (fun D s wy hR (hDi : D 6 = false) hd hsh a' hs K hK => ?_) ?_
        · have e0 := hs.old 0 (u := .pointer (some ⟨g, 0, none⟩)) (by kernel_rfl) rfl
          clear hs
          go_simp
          exact hK s wy (fun _ _ => rfl) hR
        refine StepAll.cons (fun D s wy hR (hDi : D 7 = false) hd hsh a' hs K hK => ?_) ?_
        · have e3 := hs.old 3 (u := .pointer (some ⟨g3, 0, none⟩)) (by kernel_rfl) rfl
          clear hs
          go_simp
          exact hK s wy (fun _ _ => rfl) hR
        refine StepAll.cons (fun D s wy hR (hDi : D 8 = false) hd hsh a' hs K hK => ?_) ?_
        · have e26 := hs.at_ 7 26 (u := .pointer (some ⟨g3, 0, none⟩)) rfl (hd ⟨7, .data⟩ (by simp) rfl) (by kernel_rfl) (by kernel_rfl) rfl
          clear hs
          have kb : Blk wy (g3) 37 #[.slice (some ⟨gb, 0, none⟩) N c] := hR.blk 2 rfl
          have c0 : wy.cell? ⟨g3, 0, none⟩ = some (.slice (some ⟨gb, 0, none⟩) N c) := kb.cell 0
          go_simp
          exact hK s wy (fun _ _ => rfl) hR
        refine StepAll.cons (fun D s wy hR (hDi : D 9 = false) hd hsh a' hs K hK => ?_) ?_
        · have e27 := hs.at_ 8 27 (u := .slice (some ⟨gb, 0, none⟩) N c) rfl (hd ⟨8, .data⟩ (by simp) rfl) (by kernel_rfl) (by kernel_rfl) rfl
          have g27 := getQ e27
          clear hs
          go_simp
          exact hK s wy (fun _ _ => rfl) hR
        refine StepAll.cons (fun D s wy hR (hDi : D 10 = false) hd hsh a' hs K hK => ?_) ?_
        · have e25 := hs.at_ 6 25 (u := .pointer (some ⟨g, 0, none⟩)) rfl (hd ⟨6, .data⟩ (by simp) rfl) (by kernel_rfl) (by kernel_rfl) rfl
          have e28 := hs.at_ 9 28 (u := .int .i64 (N : Int)) rfl (hd ⟨9, .data⟩ (by simp) rfl) (by kernel_rfl) (by kernel_rfl) rfl
          have g25 := getQ e25
          have g28 := getQ e28
          clear hs
          go_simp
          cases hj : D 5 with
          | true =>
            have s1 := (hR.pick 0 (g := g) (hi := hi + 2 + 2 * (3 - k) + 1) (by simp only [hDi, hj] <;> rfl) (by omega) (N : Int))
            refine s1.mono ?_
            rintro e2 w2 ⟨x2, rfl, ⟨e1, e3, -⟩, s2⟩
            have e4 := e3 (by omega)
            obtain ⟨m2, rfl⟩ := Int.eq_ofNat_of_zero_le e1
            refine hK ⟨((s.1.1.1, m2), s.1.2), s.2.1, (by show m2 < N; omega), s.2.2.2⟩ w2
              (fun j hj => by
                match j, hj with
                | 0, hj => rfl
                | 1, hj => rfl
                | 2, hj => rfl
                | 3, hj => rfl
                | 4, hj => rfl
                | 5, hj => rfl
                | 6, hj => rfl
                | 7, hj => rfl
                | 8, hj => rfl
                | 9, hj => rfl
                | 10, hj => rw [hDi] at hj; cases hj
                | 11, hj => rfl
                | 12, hj => rfl
                | 13, hj => rfl
                | 14, hj => rfl
                | 15, hj => rfl
                | 16, hj => rfl
                | 17, hj => rfl
                | _ + 18, hj => rfl)
              (s2.congr (fun i => by
                match i with
                | 0 => (show some (rRd w g (hi + 2 + 2 * (3 - k) + (if D 5 = true then 1 else 0) + (if true = true then 1 else 0))) = some (rRd w g (hi + 2 + 2 * (3 - k) + 1 + 1)); rw [hj] <;> rfl)
                | 1 => rfl
                | 2 => rfl
                | 3 => rfl
                | 4 => rfl
                | 5 => rfl
                | 6 => rfl
                | q + 7 => rfl))
          | false =>
            have s1 := (hR.pick 0 (g := g) (hi := hi + 2 + 2 * (3 - k)) (by simp only [hDi, hj] <;> rfl) (by omega) (N : Int))
            refine s1.mono ?_
            rintro e2 w2 ⟨x2, rfl, ⟨e1, e3, -⟩, s2⟩
            have e4 := e3 (by omega)
            obtain ⟨m2, rfl⟩ := Int.eq_ofNat_of_zero_le e1
            refine hK ⟨((s.1.1.1, m2), s.1.2), s.2.1, (by show m2 < N; omega), s.2.2.2⟩ w2
              (fun j hj => by
                match j, hj with
                | 0, hj => rfl
                | 1, hj => rfl
                | 2, hj => rfl
                | 3, hj => rfl
                | 4, hj => rfl
                | 5, hj => rfl
                | 6, hj => rfl
                | 7, hj => rfl
                | 8, hj => rfl
                | 9, hj => rfl
                | 10, hj => rw [hDi] at hj; cases hj
                | 11, hj => rfl
                | 12, hj => rfl
                | 13, hj => rfl
                | 14, hj => rfl
                | 15, hj => rfl
                | 16, hj => rfl
                | 17, hj => rfl
                | _ + 18, hj => rfl)
              (s2.congr (fun i => by
                match i with
                | 0 => (show some (rRd w g (hi + 2 + 2 * (3 - k) + (if D 5 = true then 1 else 0) + (if true = true then 1 else 0))) = some (rRd w g (hi + 2 + 2 * (3 - k) + 1)); rw [hj] <;> rfl)
                | 1 => rfl
                | 2 => rfl
                | 3 => rfl
                | 4 => rfl
                | 5 => rfl
                | 6 => rfl
                | q + 7 => rfl))
        refine StepAll.cons (fun D s wy hR (hDi : D 11 = false) hd hsh a' hs K hK => ?_) ?_
        · have e19 := hs.at_ 0 19 (u := .agg #[.slice (some ⟨gb, 0, none⟩) N c]) rfl (hd ⟨0, .data⟩ (by simp) rfl) (by kernel_rfl) (by kernel_rfl) rfl
          have e24 := hs.at_ 5 24 (u := .int .i64 (s.1.1.1 : Nat)) rfl (hd ⟨5, .data⟩ (by simp) rfl) (by kernel_rfl) (by kernel_rfl) rfl
          have e29 := hs.at_ 10 29 (u := .int .i64 (s.1.1.2 : Nat)) rfl (hd ⟨10, .data⟩ (by simp) rfl) (by kernel_rfl) (by kernel_rfl) rfl
          have g19 := getQ e19
          have g24 := getQ e24
          have g29 := getQ e29
          clear hs
          have n12 : D 12 = false := hsh.no hDi 12 rfl ⟨11, .data⟩ (by simp) rfl rfl
          have n13 : D 13 = false := hsh.no n12 13 rfl ⟨12, .data⟩ (by simp) rfl rfl
          have n14 : D 14 = false := hsh.no n12 14 rfl ⟨12, .data⟩ (by simp) rfl rfl
          have n16 : D 16 = false := hsh.no n13 16 rfl ⟨13, .data⟩ (by simp) rfl rfl
          have n17 : D 17 = false := hsh.no n14 17 rfl ⟨14, .data⟩ (by simp) rfl rfl
          go_simp
          refine (lineSet_gives _ N c xs s.1.1.1 s.1.1.2 s.2.1 s.2.2.1 _ (hR.rdI' 3 rfl)).mono ?_
          rintro e2 w2 ⟨A2, n2, c2, ok2, ys2, rfl, hok2, hyl2, s2⟩
          refine hK ⟨(s.1.1, ((A2, n2, c2), ok2, ys2), s.1.2.2), s.2.1, s.2.2.1, hok2, hyl2⟩ w2
            (fun j hj => by
              match j, hj with
              | 0, hj => rfl
              | 1, hj => rfl
              | 2, hj => rfl
              | 3, hj => rfl
              | 4, hj => rfl
              | 5, hj => rfl
              | 6, hj => rfl
              | 7, hj => rfl
              | 8, hj => rfl
              | 9, hj => rfl
              | 10, hj => rfl
              | 11, hj => rw [hDi] at hj; cases hj
              | 12, hj => rw [n12] at hj; cases hj
              | 13, hj => rw [n13] at hj; cases hj
              | 14, hj => rw [n14] at hj; cases hj
              | 15, hj => rfl
              | 16, hj => rw [n16] at hj; cases hj
              | 17, hj => rw [n17] at hj; cases hj
              | _ + 18, hj => rfl)
            ((hR.add 5 (if_neg (by rw [hDi]; simp)) s2).congr
              (fun i => by
                match i with
                | 0 => rfl
                | 1 => rfl
                | 2 => rfl
                | 3 => rfl
                | 4 => rfl
                | 5 => rfl
                | 6 => (show (if D 15 = true then some (rBlk _ _ (if D 16 = true then _ else _)) else none) = (if D 15 = true then some (rBlk _ _ (if D 16 = true then _ else _)) else none); rw [n16] <;> rfl)
                | q + 7 => exact (if_neg (show ¬ (q + 7 = 5) by omega)).symm))
        refine StepAll.cons (fun D s wy hR (hDi : D 12 = false) hd hsh a' hs K hK => ?_) ?_
        · have e30 := hs.at_ 11 30 (u := .tuple #[.agg #[.slice s.1.2.1.1.1 s.1.2.1.1.2.1 s.1.2.1.1.2.2], .bool s.1.2.1.2.1]) rfl (hd ⟨11, .data⟩ (by simp) rfl) (by kernel_rfl) (by kernel_rfl) rfl
          clear hs
          go_simp
          exact hK s wy (fun _ _ => rfl) hR
        refine StepAll.cons (fun D s wy hR (hDi : D 13 = false) hd hsh a' hs K hK => ?_) ?_
        · have e18 := hs.at_ 12 18 (u := .tuple #[.agg #[.slice s.1.2.1.1.1 s.1.2.1.1.2.1 s.1.2.1.1.2.2], .bool s.1.2.1.2.1]) rfl (hd ⟨12, .data⟩ (by simp) rfl) (by kernel_rfl) (by kernel_rfl) rfl
          clear hs
          go_simp
          exact hK s wy (fun _ _ => rfl) hR
        refine StepAll.cons (fun D s wy hR (hDi : D 14 = false) hd hsh a' hs K hK => ?_) ?_
        · have e18 := hs.at_ 12 18 (u := .tuple #[.agg #[.slice s.1.2.1.1.1 s.1.2.1.1.2.1 s.1.2.1.1.2.2], .bool s.1.2.1.2.1]) rfl (hd ⟨12, .data⟩ (by simp) rfl) (by kernel_rfl) (by kernel_rfl) rfl
          clear hs
          go_simp
          exact hK s wy (fun _ _ => rfl) hR
        refine StepAll.cons (fun D s wy hR (hDi : D 15 = false) hd hsh a' hs K hK => ?_) ?_
        · clear hs
          have n16 : D 16 = false := hsh.no hDi 16 rfl ⟨15, .data⟩ (by simp) rfl rfl
          go_simp
          refine hK ⟨(s.1.1, s.1.2.1, wy.heap.size), s.2⟩ _
            (fun j hj => by
              match j, hj with
              | 0, hj => rfl
              | 1, hj => rfl
              | 2, hj => rfl
              | 3, hj => rfl
              | 4, hj => rfl
              | 5, hj => rfl
              | 6, hj => rfl
              | 7, hj => rfl
              | 8, hj => rfl
              | 9, hj => rfl
              | 10, hj => rfl
              | 11, hj => rfl
              | 12, hj => rfl
              | 13, hj => rfl
              | 14, hj => rfl
              | 15, hj => rw [hDi] at hj; cases hj
              | 16, hj => rfl
              | 17, hj => rfl
              | _ + 18, hj => rfl)
            ((hR.add 6 (if_neg (by rw [hDi]; simp)) (St.new1 wy #[.slice none 0 0] 37)).congr
              (fun i => by
                match i with
                | 0 => rfl
                | 1 => rfl
                | 2 => rfl
                | 3 => rfl
                | 4 => rfl
                | 5 => rfl
                | 6 => (show some (rBlk _ _ (if D 16 = true then _ else _)) = some (rBlk _ _ _); rw [n16] <;> rfl)
                | q + 7 => exact (if_neg (show ¬ (q + 7 = 6) by omega)).symm))
        refine StepAll.cons (fun D s wy hR (hDi : D 16 = false) hd hsh a' hs K hK => ?_) ?_
        · have e5 := hs.at_ 15 5 (u := .pointer (some ⟨s.1.2.2, 0, none⟩)) rfl (hd ⟨15, .data⟩ (by simp) rfl) (by kernel_rfl) (by kernel_rfl) rfl
          have e31 := hs.at_ 13 31 (u := .agg #[.slice s.1.2.1.1.1 s.1.2.1.1.2.1 s.1.2.1.1.2.2]) rfl (hd ⟨13, .data⟩ (by simp) rfl) (by kernel_rfl) (by kernel_rfl) rfl
          clear hs
          have d15 : D 15 = true := hd ⟨15, .data⟩ (by simp) rfl
          have kb : Blk wy s.1.2.2 37 #[.slice none 0 0] := hR.blk 6 (by simp only [d15, hDi] <;> rfl)
          have f0 := kb.frozen 0
          have c0 : wy.cell? ⟨s.1.2.2, 0, none⟩ = some (.slice none 0 0) := kb.cell 0
          go_simp
          exact hK s _ (fun _ _ => rfl) ((hR.set 6 (cs := #[.slice none 0 0]) (by simp only [d15, hDi]; rfl) 0 (.slice s.1.2.1.1.1 s.1.2.1.1.2.1 s.1.2.1.1.2.2)).congr
              (fun i => by
                match i with
                | 0 => rfl
                | 1 => rfl
                | 2 => rfl
                | 3 => rfl
                | 4 => rfl
                | 5 => rfl
                | 6 => (show (if D 15 = true then some (rBlk _ _ _) else none) = some (rBlk _ _ _); rw [d15]; rfl)
                | q + 7 => exact (if_neg (show ¬ (q + 7 = 6) by omega)).symm))
        refine StepAll.cons (fun D s wy hR (hDi : D 17 = false) hd hsh a' hs K hK => ?_) ?_
        · have e32 := hs.at_ 14 32 (u := .bool s.1.2.1.2.1) rfl (hd ⟨14, .data⟩ (by simp) rfl) (by kernel_rfl) (by kernel_rfl) rfl
          clear hs
          go_simp
          exact hK s wy (fun _ _ => rfl) hR
        exact StepAll.nil
      · intro D s wy hR hD
        simp only [putA, Act.put, List.setIfInBounds_toArray, List.set_cons_zero, List.set_cons_succ]
        have HS2' := hR.to_st [0, 1, 2, 3, 4, 5, 6] (L := [rRd w g (hi + 2 + 2 * (3 - k) + 1 + 1), rBlk r 37 #[.slice none 0 0], rBlk g3 37 #[.slice (some ⟨gb, 0, none⟩) N c], rInts (.slice (some ⟨gb, 0, none⟩) N c) xs, X, rInts (.slice s.1.2.1.1.1 s.1.2.1.1.2.1 s.1.2.1.1.2.2) s.1.2.1.2.2, rBlk s.1.2.2 37 #[.slice s.1.2.1.1.1 s.1.2.1.1.2.1 s.1.2.1.1.2.2]]) (by decide) (by simp only [List.map, hD 5 (by decide), hD 10 (by decide), hD 11 (by decide), hD 15 (by decide), hD 16 (by decide)] <;> rfl)
        obtain ⟨⟨⟨y1, y2⟩, ⟨⟨A2, n2, c2⟩, ok2, ys2⟩, g5⟩, h01, h02, hok2, hyl2⟩ := s
        have HS2 : Hid (St w wy [rRd w g (hi + 2 + 2 * (3 - k) + 1 + 1), rBlk r 37 #[.slice none 0 0], rBlk g3 37 #[.slice (some ⟨gb, 0, none⟩) N c], rInts (.slice (some ⟨gb, 0, none⟩) N c) xs, X, rInts (.slice A2 n2 c2) ys2, rBlk g5 37 #[.slice A2 n2 c2]]) := Lib.hid HS2'
        clear hR hD HS HS2'
        have q2 : ∀ j, wy.cell? ⟨g3, j, none⟩ = _ := HS2.out.cells 2 rfl
        have q6 : ∀ j, wy.cell? ⟨g5, j, none⟩ = _ := HS2.out.cells 6 rfl
        have f2 := HS2.out.free 2 rfl
        cases ok2 with
        | true =>
          obtain rfl : n2 = N := hok2 rfl
          obtain ⟨gb2, hgb2⟩ := HS2.out.rowAt 5 rfl hN0
          subst hgb2
          have HYL := Bx.mk hyl2

          go_wp2
          go_roundw
          case rel => exact ⟨k - 1, gb2, c2, ys2, by omega, by go_num, HYL.out, ((HS2.out.set 2 rfl 0 (.slice (some ⟨gb2, 0, none⟩) n2 c2)).pick [0, 1, 2, 5, 4] (by decide) rfl rfl).more (by omega)⟩
          case measure => simp [intOf]; omega
        | false =>

          go_wp2
          go_roundw
          case rel => exact ⟨k - 1, gb, c, xs, by omega, by go_num, HXL.out, (HS2.out.pick [0, 1, 2, 3, 4] (by decide) rfl rfl).more (by omega)⟩
          case measure => simp [intOf]; omega
    · have hki : ¬ (0 : Int) < (k : Int) := by omega
      have HS7 := Lib.hid (HS.out.more (hi' := hi + 8) (by omega))
      clear HS
      go_wp2_with fail
      refine (odd_rd HS7.out (by omega) 12).mono ?_
      rintro e wo ⟨bb, rfl, so⟩
      have HO := Lib.hid so
      clear so HS7
      cases bb with
      | true =>
        go_wp2_with fail
        refine (l20Graph_rd HO.out (by omega) 3).mono ?_
        rintro e w8 ⟨v8, zs, rfl, s8⟩
        obtain ⟨A5, n5, c5, hv⟩ := s8.formG 1 rfl
        subst hv
        have HS8 := Lib.hid s8
        clear s8 HO
        have q1 : ∀ j, w8.cell? ⟨r, j, none⟩ = _ := HS8.out.cells 2 rfl
        have f1 := HS8.out.free 2 rfl
        go_wp2
        refine bodyPost_ret (v := .agg #[.slice A5 n5 c5]) (by simp [results, Try.results81, go_sem, q1]) rfl ⟨.agg #[.slice A5 n5 c5], zs, rfl, ?_⟩
        exact ((HS8.out.set 2 rfl 0 (.slice A5 n5 c5)).pick [0, 1, 5] (by decide) rfl rfl).more (by omega)
      | false =>
        have q1 : ∀ j, wo.cell? ⟨r, j, none⟩ = _ := HO.out.cells 1 rfl
        have q2 : ∀ j, wo.cell? ⟨g3, j, none⟩ = _ := HO.out.cells 2 rfl
        have f1 := HO.out.free 1 rfl
        go_wp2
        refine bodyPost_ret (v := .agg #[.slice (some ⟨gb, 0, none⟩) N c]) (by simp [results, Try.results81, go_sem, q1]) rfl ⟨.agg #[.slice (some ⟨gb, 0, none⟩) N c], xs, rfl, ?_⟩
        have h := ((HO.out.set 1 rfl 0 (.slice (some ⟨gb, 0, none⟩) N c)).pick [3, 0, 4] (by decide) rfl rfl).graph (by rw [HXL.out]; omega)
        exact (h.pick [1, 0, 2] (by decide) rfl rfl).more (by omega)
theorem l20Items_rd {w W : World} {Rs : List HRes} {g hi : Nat} (S : St w W (rRd w g hi :: Rs)) (hh : hi ≤ 200000000000) :
    Calls Try.prog 81 #[.pointer (some ⟨g, 0, none⟩)] W fun e w' => ∃ v xs, e = .returned v ∧ St w w' (rRd w g (hi + 200) :: rGraph v xs :: Rs) :=
  (l20Items_rd1 (St.pack (Rs := [rRd w g hi]) (L := Rs) S) hh).mono fun e w' ⟨v, xs, h1, h2⟩ => ⟨v, xs, h1, St.unpack (Rs := [rRd w g (hi + 200), rGraph v xs]) (L := Rs) h2⟩
set_option maxRecDepth 100000 in
theorem drawCrossTask (A : Option Addr) (n c : Nat) (xs : List Int) (w : World) (h : RdI .u8 w w.heap.size A n c xs) : Calls Try.prog 35 #[.slice A n c] w fun e w' => ∃ v ys, e = .returned v ∧ St w w' [rGraph v ys] := by
  have HS0 := Lib.hid ((St.refl w).alloc #[.slice none 0 0] 37)
  have H := Lib.hid h
  clear h
  go_enter Try.func35, Try.ntmps35
  go_wp2_with fail
  refine (l20Open_rd HS0.out H.out).mono ?_
  rintro e w1 ⟨g, rfl, s1⟩
  have HS1 := Lib.hid s1
  clear s1 HS0
  go_wp2_with fail
  refine (l20Items_rd HS1.out (by omega)).mono ?_
  rintro e w2 ⟨v2, ys, rfl, s2⟩
  obtain ⟨A5, n5, c5, hv⟩ := s2.formG 1 rfl
  subst hv
  have HS2 := Lib.hid s2
  have q2 : ∀ j, w2.cell? ⟨w.heap.size, j, none⟩ = _ := HS2.out.cells 2 rfl
  have f2 := HS2.out.free 2 rfl
  clear s2 HS1
  go_wp2
  refine bodyPost_ret (v := .agg #[.slice A5 n5 c5]) (by simp [results, Try.results35, go_sem, q2]) rfl ⟨_, ys, rfl, ?_⟩
  exact (HS2.out.set 2 rfl 0 (.slice A5 n5 c5)).pick [1] (by decide) rfl rfl
end Go.Proofs.Ytdbgoekemffimaa
