/- The draw of a graph. Printed by gen_l20graph.py. -/
import Derived.Test.YtfgebdioffeliaaSGraphD
namespace Go.Proofs.Ytfgebdioffeliaa
set_option linter.unusedVariables false
set_option linter.unusedSimpArgs false
open Go.ChangeShapes Go.WideShapes Go.ChangeAt Go.RowKit

set_option maxRecDepth 100000 in
set_option maxHeartbeats 2000000 in
theorem l20Graph_rd1 {w W : World} {X : HRes} {g hi : Nat} (S : St w W [rRd w g hi, X]) (hh : hi ≤ 300000000000) (m : Int) :
    Calls Try.prog 45 #[.pointer (some ⟨g, 0, none⟩), .int .i64 m] W fun e w' => ∃ v xs, e = .returned v ∧ St w w' [rRd w g (hi + 110), rGraph v xs, X] := by
  obtain ⟨i0, hi0, hz0, hz1, hz2⟩ := elInt.hi
  obtain ⟨r, hr⟩ : ∃ r, W.heap.size = r := ⟨_, rfl⟩
  have HS0 : Hid (St w (W.alloc (.cells #[.slice none 0 0] 25)) [rRd w g hi, rBlk r 25 #[.slice none 0 0], X]) := Lib.hid (by
    rw [← hr]; exact (S.alloc #[.slice none 0 0] 25).pick [0, 2, 1] (by decide) rfl rfl)
  clear S
  go_enter Try.func45, Try.ntmps45
  go_wp2_with fail
  refine (pick_rd HS0.out (by omega) 9).mono ?_
  rintro e w1 ⟨p1, rfl, ⟨a1, a2, -⟩, s1⟩
  have a3 := a2 (by omega)
  obtain ⟨n1, rfl⟩ := Int.eq_ofNat_of_zero_le a1
  have hn1 : n1 ≤ 8 := by omega
  have HS1 := Lib.hid s1
  clear s1 a1 a2 a3 HS0
  try rw [hr]
  go_wp2_with fail
  refine (pick_rd HS1.out (by omega) 3).mono ?_
  rintro e w2 ⟨p2, rfl, ⟨a1, a2, -⟩, s2⟩
  have HS2 := Lib.hid s2
  clear s2 HS1
  go_upto_if 15 with (fail)
  go_cut [5] (fun s5 wx => ∃ N : Nat, s5 = .int .i64 (N : Int) ∧ 1 ≤ N ∧ N ≤ 9 ∧ St w wx [rRd w g (hi + 3), rBlk r 25 #[.slice none 0 0], X])
  case first =>
    by_cases hp : 0 < p2
    · go_wp2_with fail
      refine (pick_rd HS2.out (by omega) 7).mono ?_
      rintro e w3 ⟨p3, rfl, ⟨b1, b2, -⟩, s3⟩
      have b3 := b2 (by omega)
      obtain ⟨n3, rfl⟩ := Int.eq_ofNat_of_zero_le b1
      have HS3 := Lib.hid s3
      clear s3 HS2
      go_wp2
      go_meet
      case rel => exact ⟨1 + n3, by go_num, by omega, by omega, HS3.out⟩
    · go_wp2
      go_meet
      case rel => exact ⟨1 + n1, by go_num, by omega, by omega, HS2.out.more (by omega)⟩
  case rest =>
    clear HS2
    obtain ⟨N, rfl, hN1, hN9, S2⟩ := hcut
    have HS2 := Lib.hid S2
    go_wp2_with (at_make; refine wpList_make_full _ rfl _ _ 23 rfl wc.heap.size 3 i0 _ 1 Try.underlying23 hi0 hz0 hz1 _ _ _ _ N rfl rfl rfl rfl (by rw [hz2]; omega) (by unfold maxLen; omega) (Nat.le_refl _) ?_; intro w3 hown hgr; have HS3 := Lib.hid (HS2.out.call (St.ofMakeN hown hgr)); clear hown hgr)
    obtain ⟨gs, hgs⟩ : ∃ x, wc.heap.size = x := ⟨_, rfl⟩
    obtain ⟨g6, hg6⟩ : ∃ x, w3.heap.size = x := ⟨_, rfl⟩
    try rw [hgs]
    rw [hgs] at HS3
    have HS4 : Hid (St w (w3.alloc (.cells #[.slice (some ⟨gs, 0, none⟩) N N] 25)) [rRd w g (hi + 3), rBlk r 25 #[.slice none 0 0], rBlk g6 25 #[.slice (some ⟨gs, 0, none⟩) N N], rInts (.slice (some ⟨gs, 0, none⟩) N N) (List.replicate N 0), X]) := Lib.hid (by
      rw [← hg6]
      exact (HS3.out.alloc #[.slice (some ⟨gs, 0, none⟩) N N] 25).pick [0, 1, 4, 3, 2] (by decide) rfl rfl)
    clear HS3 HS2
    try rw [hg6]
    refine (pick_rd HS4.out (by omega) 4).mono ?_
    rintro e w5 ⟨p4, rfl, ⟨d1, d2, -⟩, s5⟩
    have d3 := d2 (by omega)
    obtain ⟨n4, rfl⟩ := Int.eq_ofNat_of_zero_le d1
    have hn4 : n4 ≤ 3 := by omega
    clear d1 d2 d3
    have HS5 := Lib.hid (s5.more (hi' := hi + 4 + 10 * 0) (by omega))
    clear s5 HS4 hgs
    try rw [hg6]
    clear hg6
    go_wp2
    go_loopw [8] (fun i wr => ∃ (a : Nat) (xs : List Int), a ≤ N ∧ i = .int .i64 a ∧ xs.length = N ∧ St w wr [rRd w g (hi + 4 + 10 * a), rBlk r 25 #[.slice none 0 0], rBlk g6 25 #[.slice (some ⟨gs, 0, none⟩) N N], rInts (.slice (some ⟨gs, 0, none⟩) N N) xs, X]) (fun i _ => N - (intOf i).toNat)
    case atStart => exact ⟨0, _, by omega, rfl, by simp, HS5.out⟩
    case round =>
      clear HS5
      obtain ⟨a, xs, ha, rfl, hxl, S⟩ := hrel
      have HS := Lib.hid S
      clear S
      have HXL := Bx.mk hxl
      clear hxl
      by_cases hlt : a < N
      · have hai : (a : Int) < (N : Int) := by omega
        go_wp2
        go_loopw [9] (fun i wv => ∃ (b : Nat) (ys : List Int), b ≤ a ∧ i = .int .i64 b ∧ ys.length = N ∧ St w wv [rRd w g (hi + 4 + 10 * a + b), rBlk r 25 #[.slice none 0 0], rBlk g6 25 #[.slice (some ⟨gs, 0, none⟩) N N], rInts (.slice (some ⟨gs, 0, none⟩) N N) ys, X]) (fun i _ => a - (intOf i).toNat)
        case atStart => exact ⟨0, xs, by omega, rfl, HXL.out, HS.out.more (by omega)⟩
        case round =>
          clear HS HXL
          obtain ⟨b, ys, hb, rfl, hyl, S⟩ := hrel
          have HS := Lib.hid S
          clear S
          have HXL := Bx.mk hyl
          clear hyl
          by_cases hbl : b < a
          · have hbi : (b : Int) < (a : Int) := by omega
            have hbN : b < N := by omega
            have hbNi : (b : Int) < (N : Int) := by omega
            go_wp2_with fail
            refine (pick_rd HS.out (by omega) 5).mono ?_
            rintro e w6 ⟨p5, rfl, -, s6⟩
            have HS6 := Lib.hid (s6.more (hi' := hi + 4 + 10 * a + (b + 1)) (by omega))
            clear s6 HS
            by_cases hof : p5 < 1 + (n4 : Int)
            · obtain ⟨x, hx⟩ : ∃ x, ys[a]? = some x := ⟨_, List.getElem?_eq_getElem (by rw [HXL.out]; exact hlt)⟩
              obtain ⟨y, hy⟩ : ∃ y, IntKind.i64.wrap (x + IntKind.i64.wrap (2 ^ b)) = y := ⟨_, rfl⟩
              have HX := Bx.mk hx
              have HY := Bx.mk hy
              have HYW : Bx ((Lit.int .i64 y).wf = true) := Bx.mk (by rw [← hy]; exact wf_wrap _ _)
              clear hx hy
              go_upto_region 13 with (fail)
              refine wp_reg (σ := Unit) (by kernel_rfl) (by kernel_rfl) (by kernel_rfl)
                (fun s i => match i with
                  | 0 => .pointer (some ⟨g6, 0, none⟩)
                  | 1 => .slice (some ⟨gs, 0, none⟩) N N
                  | 2 => .int .i64 (a : Int)
                  | 3 => .pointer (some ⟨g6, 0, none⟩)
                  | 4 => .slice (some ⟨gs, 0, none⟩) N N
                  | 5 => .int .i64 (a : Int)
                  | 6 => .pointer (some ⟨gs, a, none⟩)
                  | 7 => .int .i64 x
                  | 8 => .int .i64 (b : Int)
                  | 9 => .int .i64 (IntKind.i64.wrap (2 ^ b))
                  | 10 => .int .i64 y
                  | 11 => .pointer (some ⟨gs, a, none⟩)
                  | _ => undef)
                (fun D s wc => Sn w wc fun i => match i with
                  | 0 => some (rRd w g (hi + 4 + 10 * a + (b + 1)))
                  | 1 => some (rBlk r 25 #[.slice none 0 0])
                  | 2 => some (rBlk g6 25 #[.slice (some ⟨gs, 0, none⟩) N N])
                  | 3 => some (rInts (.slice (some ⟨gs, 0, none⟩) N N) (if D 12 = true then (ys).set (a) y else ys))
                  | 4 => some (X)
                  | _ => none)
                () ?_ ?_ ?_
              · intro D hD
                refine ((Sn.of_st HS6.out).quiet ((Below.refl _ _).drew)).congr fun i => ?_
                match i with
                | 0 => rfl
                | 1 => rfl
                | 2 => rfl
                | 3 => simp only [hD 12 (by decide)]; rfl
                | 4 => rfl
                | q + 5 => rfl
              · refine StepAll.cons (fun D s wc hR (hDi : D 0 = false) hd hsh a' hs K hK => ?_) ?_
                · have e6 := hs.old 6 (u := .pointer (some ⟨g6, 0, none⟩)) (by kernel_rfl) rfl
                  clear hs
                  go_simp
                  exact hK s wc (fun _ _ => rfl) hR
                refine StepAll.cons (fun D s wc hR (hDi : D 1 = false) hd hsh a' hs K hK => ?_) ?_
                · have e39 := hs.at_ 0 39 (u := .pointer (some ⟨g6, 0, none⟩)) rfl (hd ⟨0, .data⟩ (by simp) rfl) (by kernel_rfl) (by kernel_rfl) rfl
                  clear hs
                  have kb : Blk wc (g6) 25 #[.slice (some ⟨gs, 0, none⟩) N N] := hR.blk 2 rfl
                  have c0 : wc.cell? ⟨g6, 0, none⟩ = some (.slice (some ⟨gs, 0, none⟩) N N) := kb.cell 0
                  go_simp
                  exact hK s wc (fun _ _ => rfl) hR
                refine StepAll.cons (fun D s wc hR (hDi : D 2 = false) hd hsh a' hs K hK => ?_) ?_
                · have e8 := hs.old 8 (u := .int .i64 (a : Int)) (by kernel_rfl) rfl
                  clear hs
                  go_simp
                  exact hK s wc (fun _ _ => rfl) hR
                refine StepAll.cons (fun D s wc hR (hDi : D 3 = false) hd hsh a' hs K hK => ?_) ?_
                · have e6 := hs.old 6 (u := .pointer (some ⟨g6, 0, none⟩)) (by kernel_rfl) rfl
                  clear hs
                  go_simp
                  exact hK s wc (fun _ _ => rfl) hR
                refine StepAll.cons (fun D s wc hR (hDi : D 4 = false) hd hsh a' hs K hK => ?_) ?_
                · have e42 := hs.at_ 3 42 (u := .pointer (some ⟨g6, 0, none⟩)) rfl (hd ⟨3, .data⟩ (by simp) rfl) (by kernel_rfl) (by kernel_rfl) rfl
                  clear hs
                  have kb : Blk wc (g6) 25 #[.slice (some ⟨gs, 0, none⟩) N N] := hR.blk 2 rfl
                  have c0 : wc.cell? ⟨g6, 0, none⟩ = some (.slice (some ⟨gs, 0, none⟩) N N) := kb.cell 0
                  go_simp
                  exact hK s wc (fun _ _ => rfl) hR
                refine StepAll.cons (fun D s wc hR (hDi : D 5 = false) hd hsh a' hs K hK => ?_) ?_
                · have e8 := hs.old 8 (u := .int .i64 (a : Int)) (by kernel_rfl) rfl
                  clear hs
                  go_simp
                  exact hK s wc (fun _ _ => rfl) hR
                refine StepAll.cons (fun D s wc hR (hDi : D 6 = false) hd hsh a' hs K hK => ?_) ?_
                · have e43 := hs.at_ 4 43 (u := .slice (some ⟨gs, 0, none⟩) N N) rfl (hd ⟨4, .data⟩ (by simp) rfl) (by kernel_rfl) (by kernel_rfl) rfl
                  have e44 := hs.at_ 5 44 (u := .int .i64 (a : Int)) rfl (hd ⟨5, .data⟩ (by simp) rfl) (by kernel_rfl) (by kernel_rfl) rfl
                  clear hs
                  go_simp
                  exact hK s wc (fun _ _ => rfl) hR
                refine StepAll.cons (fun D s wc hR (hDi : D 7 = false) hd hsh a' hs K hK => ?_) ?_
                · have e45 := hs.at_ 6 45 (u := .pointer (some ⟨gs, a, none⟩)) rfl (hd ⟨6, .data⟩ (by simp) rfl) (by kernel_rfl) (by kernel_rfl) rfl
                  clear hs
                  have n10 : D 10 = false := hsh.no hDi 10 rfl ⟨7, .data⟩ (by simp) rfl rfl
                  have n12 : D 12 = false := hsh.no n10 12 rfl ⟨10, .data⟩ (by simp) rfl rfl
                  have c0 := (hR.cellI 3 (xs := ys) (by simp only [n12] <;> rfl) HXL.out (a) x HX.out).1
                  go_simp
                  exact hK s wc (fun _ _ => rfl) hR
                refine StepAll.cons (fun D s wc hR (hDi : D 8 = false) hd hsh a' hs K hK => ?_) ?_
                · have e9 := hs.old 9 (u := .int .i64 (b : Int)) (by kernel_rfl) rfl
                  clear hs
                  go_simp
                  exact hK s wc (fun _ _ => rfl) hR
                refine StepAll.cons (fun D s wc hR (hDi : D 9 = false) hd hsh a' hs K hK => ?_) ?_
                · have e47 := hs.at_ 8 47 (u := .int .i64 (b : Int)) rfl (hd ⟨8, .data⟩ (by simp) rfl) (by kernel_rfl) (by kernel_rfl) rfl
                  clear hs
                  go_simp
                  exact hK s wc (fun _ _ => rfl) hR
                refine StepAll.cons (fun D s wc hR (hDi : D 10 = false) hd hsh a' hs K hK => ?_) ?_
                · have e46 := hs.at_ 7 46 (u := .int .i64 x) rfl (hd ⟨7, .data⟩ (by simp) rfl) (by kernel_rfl) (by kernel_rfl) rfl
                  have e48 := hs.at_ 9 48 (u := .int .i64 (IntKind.i64.wrap (2 ^ b))) rfl (hd ⟨9, .data⟩ (by simp) rfl) (by kernel_rfl) (by kernel_rfl) rfl
                  clear hs
                  have hy := HY.out
                  go_simp
                  exact hK s wc (fun _ _ => rfl) hR
                refine StepAll.cons (fun D s wc hR (hDi : D 11 = false) hd hsh a' hs K hK => ?_) ?_
                · have e40 := hs.at_ 1 40 (u := .slice (some ⟨gs, 0, none⟩) N N) rfl (hd ⟨1, .data⟩ (by simp) rfl) (by kernel_rfl) (by kernel_rfl) rfl
                  have e41 := hs.at_ 2 41 (u := .int .i64 (a : Int)) rfl (hd ⟨2, .data⟩ (by simp) rfl) (by kernel_rfl) (by kernel_rfl) rfl
                  clear hs
                  go_simp
                  exact hK s wc (fun _ _ => rfl) hR
                refine StepAll.cons (fun D s wc hR (hDi : D 12 = false) hd hsh a' hs K hK => ?_) ?_
                · have e50 := hs.at_ 11 50 (u := .pointer (some ⟨gs, a, none⟩)) rfl (hd ⟨11, .data⟩ (by simp) rfl) (by kernel_rfl) (by kernel_rfl) rfl
                  have e49 := hs.at_ 10 49 (u := .int .i64 y) rfl (hd ⟨10, .data⟩ (by simp) rfl) (by kernel_rfl) (by kernel_rfl) rfl
                  clear hs
                  have hc := hR.cellI 3 (xs := ys) (by simp only [hDi] <;> rfl) HXL.out (a) x HX.out
                  have c0 := hc.1
                  have f0 := hc.2
                  go_simp
                  exact hK s _ (fun _ _ => rfl) ((hR.putI 3 (xs := ys) (by simp only [hDi]; rfl) HXL.out (a) y HYW.out).congr
                      (fun i => by
                        match i with
                        | 0 => rfl
                        | 1 => rfl
                        | 2 => rfl
                        | 3 => rfl
                        | 4 => rfl
                        | q + 5 => exact (if_neg (show ¬ (q + 5 = 3) by omega)).symm))
                exact StepAll.nil
              · intro D s wc hR hD
                simp only [putA, Act.put, List.setIfInBounds_toArray, List.set_cons_zero, List.set_cons_succ]
                have HS7 : Hid (St w wc [rRd w g (hi + 4 + 10 * a + (b + 1)), rBlk r 25 #[.slice none 0 0], rBlk g6 25 #[.slice (some ⟨gs, 0, none⟩) N N], rInts (.slice (some ⟨gs, 0, none⟩) N N) ((ys).set (a) y), X]) := Lib.hid (hR.to_st [0, 1, 2, 3, 4] (by decide) (by simp only [List.map, hD 12 (by decide)] <;> rfl))
                clear hR hD HS6
                obtain ⟨zs, hzs⟩ : ∃ zs, ys.set a y = zs := ⟨_, rfl⟩
                have HXL2 : Bx (zs.length = N) := Bx.mk (by rw [← hzs, List.length_set]; exact HXL.out)
                rw [hzs] at HS7
                clear hzs HX HY HYW
                obtain ⟨x, hx⟩ : ∃ x, zs[b]? = some x := ⟨_, List.getElem?_eq_getElem (by rw [HXL2.out]; exact hbN)⟩
                obtain ⟨y, hy⟩ : ∃ y, IntKind.i64.wrap (x + IntKind.i64.wrap (2 ^ a)) = y := ⟨_, rfl⟩
                have HX := Bx.mk hx
                have HY := Bx.mk hy
                have HYW : Bx ((Lit.int .i64 y).wf = true) := Bx.mk (by rw [← hy]; exact wf_wrap _ _)
                clear hx hy
                go_upto_region 14 with (fail)
                refine wp_reg (σ := Unit) (by kernel_rfl) (by kernel_rfl) (by kernel_rfl)
                  (fun s i => match i with
                    | 0 => .pointer (some ⟨g6, 0, none⟩)
                    | 1 => .slice (some ⟨gs, 0, none⟩) N N
                    | 2 => .int .i64 (b : Int)
                    | 3 => .pointer (some ⟨g6, 0, none⟩)
                    | 4 => .slice (some ⟨gs, 0, none⟩) N N
                    | 5 => .int .i64 (b : Int)
                    | 6 => .pointer (some ⟨gs, b, none⟩)
                    | 7 => .int .i64 x
                    | 8 => .int .i64 (a : Int)
                    | 9 => .int .i64 (IntKind.i64.wrap (2 ^ a))
                    | 10 => .int .i64 y
                    | 11 => .pointer (some ⟨gs, b, none⟩)
                    | _ => undef)
                  (fun D s wd1 => Sn w wd1 fun i => match i with
                    | 0 => some (rRd w g (hi + 4 + 10 * a + (b + 1)))
                    | 1 => some (rBlk r 25 #[.slice none 0 0])
                    | 2 => some (rBlk g6 25 #[.slice (some ⟨gs, 0, none⟩) N N])
                    | 3 => some (rInts (.slice (some ⟨gs, 0, none⟩) N N) (if D 12 = true then (zs).set (b) y else zs))
                    | 4 => some (X)
                    | _ => none)
                  () ?_ ?_ ?_
                · intro D hD
                  refine ((Sn.of_st HS7.out).quiet ((Below.refl _ _).drew)).congr fun i => ?_
                  match i with
                  | 0 => rfl
                  | 1 => rfl
                  | 2 => rfl
                  | 3 => simp only [hD 12 (by decide)]; rfl
                  | 4 => rfl
                  | q + 5 => rfl
                · refine StepAll.cons (fun D s wd1 hR (hDi : D 0 = false) hd hsh a' hs K hK => ?_) ?_
                  · have e6 := hs.old 6 (u := .pointer (some ⟨g6, 0, none⟩)) (by kernel_rfl) rfl
                    clear hs
                    go_simp
                    exact hK s wd1 (fun _ _ => rfl) hR
                  refine StepAll.cons (fun D s wd1 hR (hDi : D 1 = false) hd hsh a' hs K hK => ?_) ?_
                  · have e51 := hs.at_ 0 51 (u := .pointer (some ⟨g6, 0, none⟩)) rfl (hd ⟨0, .data⟩ (by simp) rfl) (by kernel_rfl) (by kernel_rfl) rfl
                    clear hs
                    have kb : Blk wd1 (g6) 25 #[.slice (some ⟨gs, 0, none⟩) N N] := hR.blk 2 rfl
                    have c0 : wd1.cell? ⟨g6, 0, none⟩ = some (.slice (some ⟨gs, 0, none⟩) N N) := kb.cell 0
                    go_simp
                    exact hK s wd1 (fun _ _ => rfl) hR
                  refine StepAll.cons (fun D s wd1 hR (hDi : D 2 = false) hd hsh a' hs K hK => ?_) ?_
                  · have e9 := hs.old 9 (u := .int .i64 (b : Int)) (by kernel_rfl) rfl
                    clear hs
                    go_simp
                    exact hK s wd1 (fun _ _ => rfl) hR
                  refine StepAll.cons (fun D s wd1 hR (hDi : D 3 = false) hd hsh a' hs K hK => ?_) ?_
                  · have e6 := hs.old 6 (u := .pointer (some ⟨g6, 0, none⟩)) (by kernel_rfl) rfl
                    clear hs
                    go_simp
                    exact hK s wd1 (fun _ _ => rfl) hR
                  refine StepAll.cons (fun D s wd1 hR (hDi : D 4 = false) hd hsh a' hs K hK => ?_) ?_
                  · have e54 := hs.at_ 3 54 (u := .pointer (some ⟨g6, 0, none⟩)) rfl (hd ⟨3, .data⟩ (by simp) rfl) (by kernel_rfl) (by kernel_rfl) rfl
                    clear hs
                    have kb : Blk wd1 (g6) 25 #[.slice (some ⟨gs, 0, none⟩) N N] := hR.blk 2 rfl
                    have c0 : wd1.cell? ⟨g6, 0, none⟩ = some (.slice (some ⟨gs, 0, none⟩) N N) := kb.cell 0
                    go_simp
                    exact hK s wd1 (fun _ _ => rfl) hR
                  refine StepAll.cons (fun D s wd1 hR (hDi : D 5 = false) hd hsh a' hs K hK => ?_) ?_
                  · have e9 := hs.old 9 (u := .int .i64 (b : Int)) (by kernel_rfl) rfl
                    clear hs
                    go_simp
                    exact hK s wd1 (fun _ _ => rfl) hR
                  refine StepAll.cons (fun D s wd1 hR (hDi : D 6 = false) hd hsh a' hs K hK => ?_) ?_
                  · have e55 := hs.at_ 4 55 (u := .slice (some ⟨gs, 0, none⟩) N N) rfl (hd ⟨4, .data⟩ (by simp) rfl) (by kernel_rfl) (by kernel_rfl) rfl
                    have e56 := hs.at_ 5 56 (u := .int .i64 (b : Int)) rfl (hd ⟨5, .data⟩ (by simp) rfl) (by kernel_rfl) (by kernel_rfl) rfl
                    clear hs
                    go_simp
                    exact hK s wd1 (fun _ _ => rfl) hR
                  refine StepAll.cons (fun D s wd1 hR (hDi : D 7 = false) hd hsh a' hs K hK => ?_) ?_
                  · have e57 := hs.at_ 6 57 (u := .pointer (some ⟨gs, b, none⟩)) rfl (hd ⟨6, .data⟩ (by simp) rfl) (by kernel_rfl) (by kernel_rfl) rfl
                    clear hs
                    have n10 : D 10 = false := hsh.no hDi 10 rfl ⟨7, .data⟩ (by simp) rfl rfl
                    have n12 : D 12 = false := hsh.no n10 12 rfl ⟨10, .data⟩ (by simp) rfl rfl
                    have c0 := (hR.cellI 3 (xs := zs) (by simp only [n12] <;> rfl) HXL2.out (b) x HX.out).1
                    go_simp
                    exact hK s wd1 (fun _ _ => rfl) hR
                  refine StepAll.cons (fun D s wd1 hR (hDi : D 8 = false) hd hsh a' hs K hK => ?_) ?_
                  · have e8 := hs.old 8 (u := .int .i64 (a : Int)) (by kernel_rfl) rfl
                    clear hs
                    go_simp
                    exact hK s wd1 (fun _ _ => rfl) hR
                  refine StepAll.cons (fun D s wd1 hR (hDi : D 9 = false) hd hsh a' hs K hK => ?_) ?_
                  · have e59 := hs.at_ 8 59 (u := .int .i64 (a : Int)) rfl (hd ⟨8, .data⟩ (by simp) rfl) (by kernel_rfl) (by kernel_rfl) rfl
                    clear hs
                    go_simp
                    exact hK s wd1 (fun _ _ => rfl) hR
                  refine StepAll.cons (fun D s wd1 hR (hDi : D 10 = false) hd hsh a' hs K hK => ?_) ?_
                  · have e58 := hs.at_ 7 58 (u := .int .i64 x) rfl (hd ⟨7, .data⟩ (by simp) rfl) (by kernel_rfl) (by kernel_rfl) rfl
                    have e60 := hs.at_ 9 60 (u := .int .i64 (IntKind.i64.wrap (2 ^ a))) rfl (hd ⟨9, .data⟩ (by simp) rfl) (by kernel_rfl) (by kernel_rfl) rfl
                    clear hs
                    have hy := HY.out
                    go_simp
                    exact hK s wd1 (fun _ _ => rfl) hR
                  refine StepAll.cons (fun D s wd1 hR (hDi : D 11 = false) hd hsh a' hs K hK => ?_) ?_
                  · have e52 := hs.at_ 1 52 (u := .slice (some ⟨gs, 0, none⟩) N N) rfl (hd ⟨1, .data⟩ (by simp) rfl) (by kernel_rfl) (by kernel_rfl) rfl
                    have e53 := hs.at_ 2 53 (u := .int .i64 (b : Int)) rfl (hd ⟨2, .data⟩ (by simp) rfl) (by kernel_rfl) (by kernel_rfl) rfl
                    clear hs
                    go_simp
                    exact hK s wd1 (fun _ _ => rfl) hR
                  refine StepAll.cons (fun D s wd1 hR (hDi : D 12 = false) hd hsh a' hs K hK => ?_) ?_
                  · have e62 := hs.at_ 11 62 (u := .pointer (some ⟨gs, b, none⟩)) rfl (hd ⟨11, .data⟩ (by simp) rfl) (by kernel_rfl) (by kernel_rfl) rfl
                    have e61 := hs.at_ 10 61 (u := .int .i64 y) rfl (hd ⟨10, .data⟩ (by simp) rfl) (by kernel_rfl) (by kernel_rfl) rfl
                    clear hs
                    have hc := hR.cellI 3 (xs := zs) (by simp only [hDi] <;> rfl) HXL2.out (b) x HX.out
                    have c0 := hc.1
                    have f0 := hc.2
                    go_simp
                    exact hK s _ (fun _ _ => rfl) ((hR.putI 3 (xs := zs) (by simp only [hDi]; rfl) HXL2.out (b) y HYW.out).congr
                        (fun i => by
                          match i with
                          | 0 => rfl
                          | 1 => rfl
                          | 2 => rfl
                          | 3 => rfl
                          | 4 => rfl
                          | q + 5 => exact (if_neg (show ¬ (q + 5 = 3) by omega)).symm))
                  exact StepAll.nil
                · intro D s wd1 hR hD
                  simp only [putA, Act.put, List.setIfInBounds_toArray, List.set_cons_zero, List.set_cons_succ]
                  have HS8 : Hid (St w wd1 [rRd w g (hi + 4 + 10 * a + (b + 1)), rBlk r 25 #[.slice none 0 0], rBlk g6 25 #[.slice (some ⟨gs, 0, none⟩) N N], rInts (.slice (some ⟨gs, 0, none⟩) N N) ((zs).set (b) y), X]) := Lib.hid (hR.to_st [0, 1, 2, 3, 4] (by decide) (by simp only [List.map, hD 12 (by decide)] <;> rfl))
                  clear hR hD HS7
                  go_wp2
                  go_roundw
                  case rel => exact ⟨b + 1, _, by omega, by go_num, by rw [List.length_set]; exact HXL2.out, HS8.out⟩
                  case measure => simp [intOf]; omega
            · go_wp2
              go_roundw
              case rel => exact ⟨b + 1, _, by omega, by go_num, HXL.out, HS6.out⟩
              case measure => simp [intOf]; omega
          · have hbi : ¬ (b : Int) < (a : Int) := by omega
            go_wp2
            go_roundw
            case rel => exact ⟨a + 1, ys, by omega, by go_num, HXL.out, HS.out.more (by omega)⟩
            case measure => simp [intOf]; omega
      · have hai : ¬ (a : Int) < (N : Int) := by omega
        have HS9 := Lib.hid (HS.out.more (hi' := hi + 94) (by omega))
        clear HS
        go_wp2_with fail
        refine (pick_rd HS9.out (by omega) 5).mono ?_
        rintro e w10 ⟨p6, rfl, ⟨c1, c2, -⟩, s10⟩
        have HSA := Lib.hid (s10.more (hi' := hi + 95) (by omega))
        clear s10 HS9
        have c3 := c2 (by omega)
        clear c2
        by_cases h0 : p6 = 0
        · subst h0
          go_wp2_with fail
          refine (pick_rd HSA.out (by omega) 3).mono ?_
          rintro e w11 ⟨x1, rfl, ⟨e1, e2, -⟩, s11⟩
          have e3 := e2 (by omega)
          obtain ⟨m1, rfl⟩ := Int.eq_ofNat_of_zero_le e1
          have HSB := Lib.hid s11
          clear s11 HSA e2 e1
          go_wp2_with fail
          refine (pick_rd HSB.out (by omega) 3).mono ?_
          rintro e w12 ⟨x2, rfl, ⟨e1, e2, -⟩, s12⟩
          have e4 := e2 (by omega)
          obtain ⟨m2, rfl⟩ := Int.eq_ofNat_of_zero_le e1
          have HSC := Lib.hid s12
          clear s12 HSB e2 e1
          obtain ⟨wd, hwd⟩ : ∃ k, 1 + m1 = k := ⟨_, rfl⟩
          obtain ⟨tl, htl⟩ : ∃ k, 1 + m2 = k := ⟨_, rfl⟩
          have hwi : (1 : Int) + (m1 : Int) = (wd : Int) := by omega
          have hti : (1 : Int) + (m2 : Int) = (tl : Int) := by omega
          have hnn : wd * tl ≤ 9 := Nat.le_trans (Nat.mul_le_mul (show wd ≤ 3 by omega) (show tl ≤ 3 by omega)) (by decide)
          have q2 : ∀ j, w12.cell? ⟨g6, j, none⟩ = _ := HSC.out.cells 2 rfl
          go_wp2_with fail
          refine (gridOf_gives wd tl _ rfl (by omega) (by omega) (by omega) (by omega) hnn w12).mono ?_
          rintro e w13 ⟨gb, n', c', xs', rfl, hxl', hn1', hn9', s13⟩
          have HXL' := Bx.mk hxl'
          have HSD := Lib.hid (HSC.out.call s13)
          have HSE : Hid (St w (w13.setCell ⟨g6, 0, none⟩ (.slice (some ⟨gb, 0, none⟩) n' c')) [rRd w g (hi + 98), rBlk r 25 #[.slice none 0 0], rBlk g6 25 #[.slice (some ⟨gb, 0, none⟩) n' c'], rInts (.slice (some ⟨gb, 0, none⟩) n' c') xs', X]) := Lib.hid (((HSD.out.set 2 rfl 0 (.slice (some ⟨gb, 0, none⟩) n' c')).pick [0, 1, 2, 5, 4] (by decide) rfl rfl).more (by omega))
          have q2 : ∀ j, w13.cell? ⟨g6, j, none⟩ = _ := HSD.out.cells 2 rfl
          have f2 := HSD.out.free 2 rfl
          clear s13 HSC HSD hxl' hnn hwi hti hwd htl e3 e4
          go_wp2_with fail
          refine (odd_rd HSE.out (by omega) m).mono ?_
          rintro e wo ⟨bb, rfl, so⟩
          have HO := Lib.hid (so.more (hi' := hi + 104) (by omega))
          clear so HSE
          cases bb with
          | false =>
            have q1 : ∀ j, (wo).cell? ⟨r, j, none⟩ = _ := HO.out.cells 1 rfl
            have q2 : ∀ j, (wo).cell? ⟨g6, j, none⟩ = _ := HO.out.cells 2 rfl
            have f1 := HO.out.free 1 rfl
            go_wp2
            refine bodyPost_ret (v := .agg #[.slice (some ⟨gb, 0, none⟩) n' c']) (by simp [results, Try.results45, go_sem, q1]) rfl ⟨.agg #[.slice (some ⟨gb, 0, none⟩) n' c'], xs', rfl, ?_⟩
            have h := ((HO.out.set 1 rfl 0 (.slice (some ⟨gb, 0, none⟩) n' c')).pick [3, 0, 4] (by decide) rfl rfl).graph (by rw [HXL'.out]; omega)
            exact (h.pick [1, 0, 2] (by decide) rfl rfl).more (by omega)
          | true =>
            go_wp2_with fail
            refine (pick_rd HO.out (by omega) 4).mono ?_
            rintro e wp ⟨pp, rfl, ⟨k1, k2, -⟩, sp⟩
            have k3 := k2 (by omega)
            clear k2
            have HP := Lib.hid (sp.more (hi' := hi + 105) (by omega))
            clear sp HO
            rcases (by omega : pp = 0 ∨ pp = 1 ∨ pp = 2 ∨ pp = 3) with rfl | rfl | rfl | rfl
            · have q1 : ∀ j, wp.cell? ⟨r, j, none⟩ = _ := HP.out.cells 1 rfl
              have f1 := HP.out.free 1 rfl
              go_wp2
              refine bodyPost_ret (v := .agg #[.slice none 0 0]) (by simp [results, Try.results45, go_sem, q1]) rfl ⟨.agg #[.slice none 0 0], [], rfl, ?_⟩
              have h := (((HP.out.set 1 rfl 0 (.slice none 0 0)).call (rInts_nil _ _ (Below.refl _ _))).pick [5, 0, 4] (by decide) rfl rfl).graph (by simp)
              exact (h.pick [1, 0, 2] (by decide) rfl rfl).more (by omega)
            · have hni : (0 : Int) < (n' : Int) := by omega
              have hnn : 0 < n' := by omega
              obtain ⟨x, hx⟩ : ∃ x, xs'[0]? = some x := ⟨_, List.getElem?_eq_getElem (by rw [HXL'.out]; exact hnn)⟩
              obtain ⟨y, hy⟩ : ∃ y, IntKind.i64.wrap (x + 1) = y := ⟨_, rfl⟩
              have HX := Bx.mk hx
              have HY := Bx.mk hy
              have HYW : Bx ((Lit.int .i64 y).wf = true) := Bx.mk (by rw [← hy]; exact wf_wrap _ _)
              clear hx hy
              go_upto_region 26 with (fail)
              refine wp_reg (σ := Unit) (by kernel_rfl) (by kernel_rfl) (by kernel_rfl)
                (fun s i => match i with
                  | 0 => .pointer (some ⟨g6, 0, none⟩)
                  | 1 => .slice (some ⟨gb, 0, none⟩) n' c'
                  | 2 => .pointer (some ⟨g6, 0, none⟩)
                  | 3 => .slice (some ⟨gb, 0, none⟩) n' c'
                  | 4 => .pointer (some ⟨gb, 0, none⟩)
                  | 5 => .int .i64 x
                  | 6 => .int .i64 y
                  | 7 => .pointer (some ⟨gb, 0, none⟩)
                  | _ => undef)
                (fun D s we => Sn w we fun i => match i with
                  | 0 => some (rRd w g (hi + 105))
                  | 1 => some (rBlk r 25 #[.slice none 0 0])
                  | 2 => some (rBlk g6 25 #[.slice (some ⟨gb, 0, none⟩) n' c'])
                  | 3 => some (rInts (.slice (some ⟨gb, 0, none⟩) n' c') (if D 8 = true then (xs').set (0) y else xs'))
                  | 4 => some (X)
                  | _ => none)
                () ?_ ?_ ?_
              · intro D hD
                refine ((Sn.of_st HP.out).quiet ((Below.refl _ _).drew)).congr fun i => ?_
                match i with
                | 0 => rfl
                | 1 => rfl
                | 2 => rfl
                | 3 => simp only [hD 8 (by decide)]; rfl
                | 4 => rfl
                | q + 5 => rfl
              · refine StepAll.cons (fun D s we hR (hDi : D 0 = false) hd hsh a' hs K hK => ?_) ?_
                · have e6 := hs.old 6 (u := .pointer (some ⟨g6, 0, none⟩)) (by kernel_rfl) rfl
                  clear hs
                  go_simp
                  exact hK s we (fun _ _ => rfl) hR
                refine StepAll.cons (fun D s we hR (hDi : D 1 = false) hd hsh a' hs K hK => ?_) ?_
                · have e92 := hs.at_ 0 92 (u := .pointer (some ⟨g6, 0, none⟩)) rfl (hd ⟨0, .data⟩ (by simp) rfl) (by kernel_rfl) (by kernel_rfl) rfl
                  clear hs
                  have kb : Blk we (g6) 25 #[.slice (some ⟨gb, 0, none⟩) n' c'] := hR.blk 2 rfl
                  have c0 : we.cell? ⟨g6, 0, none⟩ = some (.slice (some ⟨gb, 0, none⟩) n' c') := kb.cell 0
                  go_simp
                  exact hK s we (fun _ _ => rfl) hR
                refine StepAll.cons (fun D s we hR (hDi : D 2 = false) hd hsh a' hs K hK => ?_) ?_
                · have e6 := hs.old 6 (u := .pointer (some ⟨g6, 0, none⟩)) (by kernel_rfl) rfl
                  clear hs
                  go_simp
                  exact hK s we (fun _ _ => rfl) hR
                refine StepAll.cons (fun D s we hR (hDi : D 3 = false) hd hsh a' hs K hK => ?_) ?_
                · have e94 := hs.at_ 2 94 (u := .pointer (some ⟨g6, 0, none⟩)) rfl (hd ⟨2, .data⟩ (by simp) rfl) (by kernel_rfl) (by kernel_rfl) rfl
                  clear hs
                  have kb : Blk we (g6) 25 #[.slice (some ⟨gb, 0, none⟩) n' c'] := hR.blk 2 rfl
                  have c0 : we.cell? ⟨g6, 0, none⟩ = some (.slice (some ⟨gb, 0, none⟩) n' c') := kb.cell 0
                  go_simp
                  exact hK s we (fun _ _ => rfl) hR
                refine StepAll.cons (fun D s we hR (hDi : D 4 = false) hd hsh a' hs K hK => ?_) ?_
                · have e95 := hs.at_ 3 95 (u := .slice (some ⟨gb, 0, none⟩) n' c') rfl (hd ⟨3, .data⟩ (by simp) rfl) (by kernel_rfl) (by kernel_rfl) rfl
                  clear hs
                  go_simp
                  exact hK s we (fun _ _ => rfl) hR
                refine StepAll.cons (fun D s we hR (hDi : D 5 = false) hd hsh a' hs K hK => ?_) ?_
                · have e96 := hs.at_ 4 96 (u := .pointer (some ⟨gb, 0, none⟩)) rfl (hd ⟨4, .data⟩ (by simp) rfl) (by kernel_rfl) (by kernel_rfl) rfl
                  clear hs
                  have n6 : D 6 = false := hsh.no hDi 6 rfl ⟨5, .data⟩ (by simp) rfl rfl
                  have n8 : D 8 = false := hsh.no n6 8 rfl ⟨6, .data⟩ (by simp) rfl rfl
                  have c0 := (hR.cellI 3 (xs := xs') (by simp only [n8] <;> rfl) HXL'.out (0) x HX.out).1
                  go_simp
                  exact hK s we (fun _ _ => rfl) hR
                refine StepAll.cons (fun D s we hR (hDi : D 6 = false) hd hsh a' hs K hK => ?_) ?_
                · have e97 := hs.at_ 5 97 (u := .int .i64 x) rfl (hd ⟨5, .data⟩ (by simp) rfl) (by kernel_rfl) (by kernel_rfl) rfl
                  clear hs
                  have hy := HY.out
                  go_simp
                  exact hK s we (fun _ _ => rfl) hR
                refine StepAll.cons (fun D s we hR (hDi : D 7 = false) hd hsh a' hs K hK => ?_) ?_
                · have e93 := hs.at_ 1 93 (u := .slice (some ⟨gb, 0, none⟩) n' c') rfl (hd ⟨1, .data⟩ (by simp) rfl) (by kernel_rfl) (by kernel_rfl) rfl
                  clear hs
                  go_simp
                  exact hK s we (fun _ _ => rfl) hR
                refine StepAll.cons (fun D s we hR (hDi : D 8 = false) hd hsh a' hs K hK => ?_) ?_
                · have e99 := hs.at_ 7 99 (u := .pointer (some ⟨gb, 0, none⟩)) rfl (hd ⟨7, .data⟩ (by simp) rfl) (by kernel_rfl) (by kernel_rfl) rfl
                  have e98 := hs.at_ 6 98 (u := .int .i64 y) rfl (hd ⟨6, .data⟩ (by simp) rfl) (by kernel_rfl) (by kernel_rfl) rfl
                  clear hs
                  have hc := hR.cellI 3 (xs := xs') (by simp only [hDi] <;> rfl) HXL'.out (0) x HX.out
                  have c0 := hc.1
                  have f0 := hc.2
                  go_simp
                  exact hK s _ (fun _ _ => rfl) ((hR.putI 3 (xs := xs') (by simp only [hDi]; rfl) HXL'.out (0) y HYW.out).congr
                      (fun i => by
                        match i with
                        | 0 => rfl
                        | 1 => rfl
                        | 2 => rfl
                        | 3 => rfl
                        | 4 => rfl
                        | q + 5 => exact (if_neg (show ¬ (q + 5 = 3) by omega)).symm))
                exact StepAll.nil
              · intro D s we hR hD
                simp only [putA, Act.put, List.setIfInBounds_toArray, List.set_cons_zero, List.set_cons_succ]
                have HQ : Hid (St w we [rRd w g (hi + 105), rBlk r 25 #[.slice none 0 0], rBlk g6 25 #[.slice (some ⟨gb, 0, none⟩) n' c'], rInts (.slice (some ⟨gb, 0, none⟩) n' c') ((xs').set (0) y), X]) := Lib.hid (hR.to_st [0, 1, 2, 3, 4] (by decide) (by simp only [List.map, hD 8 (by decide)] <;> rfl))
                clear hR hD HP
                have q1 : ∀ j, (we).cell? ⟨r, j, none⟩ = _ := HQ.out.cells 1 rfl
                have q2 : ∀ j, (we).cell? ⟨g6, j, none⟩ = _ := HQ.out.cells 2 rfl
                have f1 := HQ.out.free 1 rfl
                go_wp2
                refine bodyPost_ret (v := .agg #[.slice (some ⟨gb, 0, none⟩) n' c']) (by simp [results, Try.results45, go_sem, q1]) rfl ⟨.agg #[.slice (some ⟨gb, 0, none⟩) n' c'], (xs').set 0 y, rfl, ?_⟩
                have h := ((HQ.out.set 1 rfl 0 (.slice (some ⟨gb, 0, none⟩) n' c')).pick [3, 0, 4] (by decide) rfl rfl).graph (by rw [List.length_set, HXL'.out]; omega)
                exact (h.pick [1, 0, 2] (by decide) rfl rfl).more (by omega)
            · have HL := Lib.hid (HP.out.call (St.lit wp [2, 0] 2 rfl (by simp) (by decide)))
              have q1 : ∀ j, (wp.alloc (.cells #[.int .i64 2, .int .i64 0] 3)).cell? ⟨r, j, none⟩ = #[Value.slice none 0 0][j]? := HL.out.cells 1 rfl
              have f1 : ∀ j, (wp.alloc (.cells #[.int .i64 2, .int .i64 0] 3)).frozen? ⟨r, j, none⟩ = false := HL.out.free 1 rfl
              go_wp2
              refine bodyPost_ret (v := .agg #[.slice (some ⟨wp.heap.size, 0, none⟩) 2 2]) (by simp [results, Try.results45, go_sem, q1]) rfl ⟨.agg #[.slice (some ⟨wp.heap.size, 0, none⟩) 2 2], [2, 0], rfl, ?_⟩
              have h := ((HL.out.set 1 rfl 0 (.slice (some ⟨wp.heap.size, 0, none⟩) 2 2)).pick [5, 0, 4] (by decide) rfl rfl).graph (by simp)
              exact (h.pick [1, 0, 2] (by decide) rfl rfl).more (by omega)
            · go_wp2_with (at_make; refine wpList_make_full _ rfl _ _ 23 rfl wp.heap.size 3 i0 _ 1 Try.underlying23 hi0 hz0 hz1 _ _ _ _ 10 rfl rfl rfl rfl (by rw [hz2]; omega) (by unfold maxLen; omega) (Nat.le_refl _) ?_; intro w9 hown hgr; have HL := Lib.hid (HP.out.call (St.ofMakeN hown hgr)); clear hown hgr; have q1 : ∀ j, w9.cell? ⟨r, j, none⟩ = _ := HL.out.cells 1 rfl; have f1 := HL.out.free 1 rfl)
              refine bodyPost_ret (v := .agg #[.slice (some ⟨wp.heap.size, 0, none⟩) 10 10]) (by simp [results, Try.results45, go_sem, q1]) rfl ⟨.agg #[.slice (some ⟨wp.heap.size, 0, none⟩) 10 10], List.replicate 10 0, rfl, ?_⟩
              have h := ((HL.out.set 1 rfl 0 (.slice (some ⟨wp.heap.size, 0, none⟩) 10 10)).pick [5, 0, 4] (by decide) rfl rfl).graph (by simp)
              exact (h.pick [1, 0, 2] (by decide) rfl rfl).more (by omega)
        by_cases h1 : p6 = 1
        · subst h1
          clear h0
          go_wp2_with fail
          refine (pick_rd HSA.out (by omega) 6).mono ?_
          rintro e w11 ⟨x1, rfl, ⟨e1, e2, -⟩, s11⟩
          have e3 := e2 (by omega)
          obtain ⟨m1, rfl⟩ := Int.eq_ofNat_of_zero_le e1
          have HSC := Lib.hid s11
          clear s11 HSA e2 e1
          obtain ⟨wd, hwd⟩ : ∃ k, 3 + m1 = k := ⟨_, rfl⟩
          have hwi : (3 : Int) + (m1 : Int) = (wd : Int) := by omega
          have q2 : ∀ j, w11.cell? ⟨g6, j, none⟩ = _ := HSC.out.cells 2 rfl
          go_wp2_with fail
          refine (ringOf_gives wd (by omega) (by omega) w11).mono ?_
          rintro e w13 ⟨gb, n', c', xs', rfl, hxl', hn1', hn9', s13⟩
          have HXL' := Bx.mk hxl'
          have HSD := Lib.hid (HSC.out.call s13)
          have HSE : Hid (St w (w13.setCell ⟨g6, 0, none⟩ (.slice (some ⟨gb, 0, none⟩) n' c')) [rRd w g (hi + 98), rBlk r 25 #[.slice none 0 0], rBlk g6 25 #[.slice (some ⟨gb, 0, none⟩) n' c'], rInts (.slice (some ⟨gb, 0, none⟩) n' c') xs', X]) := Lib.hid (((HSD.out.set 2 rfl 0 (.slice (some ⟨gb, 0, none⟩) n' c')).pick [0, 1, 2, 5, 4] (by decide) rfl rfl).more (by omega))
          have q2 : ∀ j, w13.cell? ⟨g6, j, none⟩ = _ := HSD.out.cells 2 rfl
          have f2 := HSD.out.free 2 rfl
          clear s13 HSC HSD hxl' hwi hwd e3
          go_wp2_with fail
          refine (odd_rd HSE.out (by omega) m).mono ?_
          rintro e wo ⟨bb, rfl, so⟩
          have HO := Lib.hid (so.more (hi' := hi + 104) (by omega))
          clear so HSE
          cases bb with
          | false =>
            have q1 : ∀ j, (wo).cell? ⟨r, j, none⟩ = _ := HO.out.cells 1 rfl
            have q2 : ∀ j, (wo).cell? ⟨g6, j, none⟩ = _ := HO.out.cells 2 rfl
            have f1 := HO.out.free 1 rfl
            go_wp2
            refine bodyPost_ret (v := .agg #[.slice (some ⟨gb, 0, none⟩) n' c']) (by simp [results, Try.results45, go_sem, q1]) rfl ⟨.agg #[.slice (some ⟨gb, 0, none⟩) n' c'], xs', rfl, ?_⟩
            have h := ((HO.out.set 1 rfl 0 (.slice (some ⟨gb, 0, none⟩) n' c')).pick [3, 0, 4] (by decide) rfl rfl).graph (by rw [HXL'.out]; omega)
            exact (h.pick [1, 0, 2] (by decide) rfl rfl).more (by omega)
          | true =>
            go_wp2_with fail
            refine (pick_rd HO.out (by omega) 4).mono ?_
            rintro e wp ⟨pp, rfl, ⟨k1, k2, -⟩, sp⟩
            have k3 := k2 (by omega)
            clear k2
            have HP := Lib.hid (sp.more (hi' := hi + 105) (by omega))
            clear sp HO
            rcases (by omega : pp = 0 ∨ pp = 1 ∨ pp = 2 ∨ pp = 3) with rfl | rfl | rfl | rfl
            · have q1 : ∀ j, wp.cell? ⟨r, j, none⟩ = _ := HP.out.cells 1 rfl
              have f1 := HP.out.free 1 rfl
              go_wp2
              refine bodyPost_ret (v := .agg #[.slice none 0 0]) (by simp [results, Try.results45, go_sem, q1]) rfl ⟨.agg #[.slice none 0 0], [], rfl, ?_⟩
              have h := (((HP.out.set 1 rfl 0 (.slice none 0 0)).call (rInts_nil _ _ (Below.refl _ _))).pick [5, 0, 4] (by decide) rfl rfl).graph (by simp)
              exact (h.pick [1, 0, 2] (by decide) rfl rfl).more (by omega)
            · have hni : (0 : Int) < (n' : Int) := by omega
              have hnn : 0 < n' := by omega
              obtain ⟨x, hx⟩ : ∃ x, xs'[0]? = some x := ⟨_, List.getElem?_eq_getElem (by rw [HXL'.out]; exact hnn)⟩
              obtain ⟨y, hy⟩ : ∃ y, IntKind.i64.wrap (x + 1) = y := ⟨_, rfl⟩
              have HX := Bx.mk hx
              have HY := Bx.mk hy
              have HYW : Bx ((Lit.int .i64 y).wf = true) := Bx.mk (by rw [← hy]; exact wf_wrap _ _)
              clear hx hy
              go_upto_region 26 with (fail)
              refine wp_reg (σ := Unit) (by kernel_rfl) (by kernel_rfl) (by kernel_rfl)
                (fun s i => match i with
                  | 0 => .pointer (some ⟨g6, 0, none⟩)
                  | 1 => .slice (some ⟨gb, 0, none⟩) n' c'
                  | 2 => .pointer (some ⟨g6, 0, none⟩)
                  | 3 => .slice (some ⟨gb, 0, none⟩) n' c'
                  | 4 => .pointer (some ⟨gb, 0, none⟩)
                  | 5 => .int .i64 x
                  | 6 => .int .i64 y
                  | 7 => .pointer (some ⟨gb, 0, none⟩)
                  | _ => undef)
                (fun D s we => Sn w we fun i => match i with
                  | 0 => some (rRd w g (hi + 105))
                  | 1 => some (rBlk r 25 #[.slice none 0 0])
                  | 2 => some (rBlk g6 25 #[.slice (some ⟨gb, 0, none⟩) n' c'])
                  | 3 => some (rInts (.slice (some ⟨gb, 0, none⟩) n' c') (if D 8 = true then (xs').set (0) y else xs'))
                  | 4 => some (X)
                  | _ => none)
                () ?_ ?_ ?_
              · intro D hD
                refine ((Sn.of_st HP.out).quiet ((Below.refl _ _).drew)).congr fun i => ?_
                match i with
                | 0 => rfl
                | 1 => rfl
                | 2 => rfl
                | 3 => simp only [hD 8 (by decide)]; rfl
                | 4 => rfl
                | q + 5 => rfl
              · refine StepAll.cons (fun D s we hR (hDi : D 0 = false) hd hsh a' hs K hK => ?_) ?_
                · have e6 := hs.old 6 (u := .pointer (some ⟨g6, 0, none⟩)) (by kernel_rfl) rfl
                  clear hs
                  go_simp
                  exact hK s we (fun _ _ => rfl) hR
                refine StepAll.cons (fun D s we hR (hDi : D 1 = false) hd hsh a' hs K hK => ?_) ?_
                · have e92 := hs.at_ 0 92 (u := .pointer (some ⟨g6, 0, none⟩)) rfl (hd ⟨0, .data⟩ (by simp) rfl) (by kernel_rfl) (by kernel_rfl) rfl
                  clear hs
                  have kb : Blk we (g6) 25 #[.slice (some ⟨gb, 0, none⟩) n' c'] := hR.blk 2 rfl
                  have c0 : we.cell? ⟨g6, 0, none⟩ = some (.slice (some ⟨gb, 0, none⟩) n' c') := kb.cell 0
                  go_simp
                  exact hK s we (fun _ _ => rfl) hR
                refine StepAll.cons (fun D s we hR (hDi : D 2 = false) hd hsh a' hs K hK => ?_) ?_
                · have e6 := hs.old 6 (u := .pointer (some ⟨g6, 0, none⟩)) (by kernel_rfl) rfl
                  clear hs
                  go_simp
                  exact hK s we (fun _ _ => rfl) hR
                refine StepAll.cons (fun D s we hR (hDi : D 3 = false) hd hsh a' hs K hK => ?_) ?_
                · have e94 := hs.at_ 2 94 (u := .pointer (some ⟨g6, 0, none⟩)) rfl (hd ⟨2, .data⟩ (by simp) rfl) (by kernel_rfl) (by kernel_rfl) rfl
                  clear hs
                  have kb : Blk we (g6) 25 #[.slice (some ⟨gb, 0, none⟩) n' c'] := hR.blk 2 rfl
                  have c0 : we.cell? ⟨g6, 0, none⟩ = some (.slice (some ⟨gb, 0, none⟩) n' c') := kb.cell 0
                  go_simp
                  exact hK s we (fun _ _ => rfl) hR
                refine StepAll.cons (fun D s we hR (hDi : D 4 = false) hd hsh a' hs K hK => ?_) ?_
                · have e95 := hs.at_ 3 95 (u := .slice (some ⟨gb, 0, none⟩) n' c') rfl (hd ⟨3, .data⟩ (by simp) rfl) (by kernel_rfl) (by kernel_rfl) rfl
                  clear hs
                  go_simp
                  exact hK s we (fun _ _ => rfl) hR
                refine StepAll.cons (fun D s we hR (hDi : D 5 = false) hd hsh a' hs K hK => ?_) ?_
                · have e96 := hs.at_ 4 96 (u := .pointer (some ⟨gb, 0, none⟩)) rfl (hd ⟨4, .data⟩ (by simp) rfl) (by kernel_rfl) (by kernel_rfl) rfl
                  clear hs
                  have n6 : D 6 = false := hsh.no hDi 6 rfl ⟨5, .data⟩ (by simp) rfl rfl
                  have n8 : D 8 = false := hsh.no n6 8 rfl ⟨6, .data⟩ (by simp) rfl rfl
                  have c0 := (hR.cellI 3 (xs := xs') (by simp only [n8] <;> rfl) HXL'.out (0) x HX.out).1
                  go_simp
                  exact hK s we (fun _ _ => rfl) hR
                refine StepAll.cons (fun D s we hR (hDi : D 6 = false) hd hsh a' hs K hK => ?_) ?_
                · have e97 := hs.at_ 5 97 (u := .int .i64 x) rfl (hd ⟨5, .data⟩ (by simp) rfl) (by kernel_rfl) (by kernel_rfl) rfl
                  clear hs
                  have hy := HY.out
                  go_simp
                  exact hK s we (fun _ _ => rfl) hR
                refine StepAll.cons (fun D s we hR (hDi : D 7 = false) hd hsh a' hs K hK => ?_) ?_
                · have e93 := hs.at_ 1 93 (u := .slice (some ⟨gb, 0, none⟩) n' c') rfl (hd ⟨1, .data⟩ (by simp) rfl) (by kernel_rfl) (by kernel_rfl) rfl
                  clear hs
                  go_simp
                  exact hK s we (fun _ _ => rfl) hR
                refine StepAll.cons (fun D s we hR (hDi : D 8 = false) hd hsh a' hs K hK => ?_) ?_
                · have e99 := hs.at_ 7 99 (u := .pointer (some ⟨gb, 0, none⟩)) rfl (hd ⟨7, .data⟩ (by simp) rfl) (by kernel_rfl) (by kernel_rfl) rfl
                  have e98 := hs.at_ 6 98 (u := .int .i64 y) rfl (hd ⟨6, .data⟩ (by simp) rfl) (by kernel_rfl) (by kernel_rfl) rfl
                  clear hs
                  have hc := hR.cellI 3 (xs := xs') (by simp only [hDi] <;> rfl) HXL'.out (0) x HX.out
                  have c0 := hc.1
                  have f0 := hc.2
                  go_simp
                  exact hK s _ (fun _ _ => rfl) ((hR.putI 3 (xs := xs') (by simp only [hDi]; rfl) HXL'.out (0) y HYW.out).congr
                      (fun i => by
                        match i with
                        | 0 => rfl
                        | 1 => rfl
                        | 2 => rfl
                        | 3 => rfl
                        | 4 => rfl
                        | q + 5 => exact (if_neg (show ¬ (q + 5 = 3) by omega)).symm))
                exact StepAll.nil
              · intro D s we hR hD
                simp only [putA, Act.put, List.setIfInBounds_toArray, List.set_cons_zero, List.set_cons_succ]
                have HQ : Hid (St w we [rRd w g (hi + 105), rBlk r 25 #[.slice none 0 0], rBlk g6 25 #[.slice (some ⟨gb, 0, none⟩) n' c'], rInts (.slice (some ⟨gb, 0, none⟩) n' c') ((xs').set (0) y), X]) := Lib.hid (hR.to_st [0, 1, 2, 3, 4] (by decide) (by simp only [List.map, hD 8 (by decide)] <;> rfl))
                clear hR hD HP
                have q1 : ∀ j, (we).cell? ⟨r, j, none⟩ = _ := HQ.out.cells 1 rfl
                have q2 : ∀ j, (we).cell? ⟨g6, j, none⟩ = _ := HQ.out.cells 2 rfl
                have f1 := HQ.out.free 1 rfl
                go_wp2
                refine bodyPost_ret (v := .agg #[.slice (some ⟨gb, 0, none⟩) n' c']) (by simp [results, Try.results45, go_sem, q1]) rfl ⟨.agg #[.slice (some ⟨gb, 0, none⟩) n' c'], (xs').set 0 y, rfl, ?_⟩
                have h := ((HQ.out.set 1 rfl 0 (.slice (some ⟨gb, 0, none⟩) n' c')).pick [3, 0, 4] (by decide) rfl rfl).graph (by rw [List.length_set, HXL'.out]; omega)
                exact (h.pick [1, 0, 2] (by decide) rfl rfl).more (by omega)
            · have HL := Lib.hid (HP.out.call (St.lit wp [2, 0] 2 rfl (by simp) (by decide)))
              have q1 : ∀ j, (wp.alloc (.cells #[.int .i64 2, .int .i64 0] 3)).cell? ⟨r, j, none⟩ = #[Value.slice none 0 0][j]? := HL.out.cells 1 rfl
              have f1 : ∀ j, (wp.alloc (.cells #[.int .i64 2, .int .i64 0] 3)).frozen? ⟨r, j, none⟩ = false := HL.out.free 1 rfl
              go_wp2
              refine bodyPost_ret (v := .agg #[.slice (some ⟨wp.heap.size, 0, none⟩) 2 2]) (by simp [results, Try.results45, go_sem, q1]) rfl ⟨.agg #[.slice (some ⟨wp.heap.size, 0, none⟩) 2 2], [2, 0], rfl, ?_⟩
              have h := ((HL.out.set 1 rfl 0 (.slice (some ⟨wp.heap.size, 0, none⟩) 2 2)).pick [5, 0, 4] (by decide) rfl rfl).graph (by simp)
              exact (h.pick [1, 0, 2] (by decide) rfl rfl).more (by omega)
            · go_wp2_with (at_make; refine wpList_make_full _ rfl _ _ 23 rfl wp.heap.size 3 i0 _ 1 Try.underlying23 hi0 hz0 hz1 _ _ _ _ 10 rfl rfl rfl rfl (by rw [hz2]; omega) (by unfold maxLen; omega) (Nat.le_refl _) ?_; intro w9 hown hgr; have HL := Lib.hid (HP.out.call (St.ofMakeN hown hgr)); clear hown hgr; have q1 : ∀ j, w9.cell? ⟨r, j, none⟩ = _ := HL.out.cells 1 rfl; have f1 := HL.out.free 1 rfl)
              refine bodyPost_ret (v := .agg #[.slice (some ⟨wp.heap.size, 0, none⟩) 10 10]) (by simp [results, Try.results45, go_sem, q1]) rfl ⟨.agg #[.slice (some ⟨wp.heap.size, 0, none⟩) 10 10], List.replicate 10 0, rfl, ?_⟩
              have h := ((HL.out.set 1 rfl 0 (.slice (some ⟨wp.heap.size, 0, none⟩) 10 10)).pick [5, 0, 4] (by decide) rfl rfl).graph (by simp)
              exact (h.pick [1, 0, 2] (by decide) rfl rfl).more (by omega)
        · have hb0 : (p6 == 0) = false := by simp; exact h0
          have hb1 : (p6 == 1) = false := by simp; exact h1
          have hxl' := HXL.out
          obtain ⟨n', hn'⟩ : ∃ k, N = k := ⟨_, rfl⟩
          have HXL' := HXL
          have hn1' := hN1
          have hn9' := hN9
          have HSE := Lib.hid (HSA.out.more (hi' := hi + 98) (by omega))
          clear HSA hn'
          go_wp2_with fail
          refine (odd_rd HSE.out (by omega) m).mono ?_
          rintro e wo ⟨bb, rfl, so⟩
          have HO := Lib.hid (so.more (hi' := hi + 104) (by omega))
          clear so HSE
          cases bb with
          | false =>
            have q1 : ∀ j, (wo).cell? ⟨r, j, none⟩ = _ := HO.out.cells 1 rfl
            have q2 : ∀ j, (wo).cell? ⟨g6, j, none⟩ = _ := HO.out.cells 2 rfl
            have f1 := HO.out.free 1 rfl
            go_wp2
            refine bodyPost_ret (v := .agg #[.slice (some ⟨gs, 0, none⟩) N N]) (by simp [results, Try.results45, go_sem, q1]) rfl ⟨.agg #[.slice (some ⟨gs, 0, none⟩) N N], xs, rfl, ?_⟩
            have h := ((HO.out.set 1 rfl 0 (.slice (some ⟨gs, 0, none⟩) N N)).pick [3, 0, 4] (by decide) rfl rfl).graph (by rw [HXL.out]; omega)
            exact (h.pick [1, 0, 2] (by decide) rfl rfl).more (by omega)
          | true =>
            go_wp2_with fail
            refine (pick_rd HO.out (by omega) 4).mono ?_
            rintro e wp ⟨pp, rfl, ⟨k1, k2, -⟩, sp⟩
            have k3 := k2 (by omega)
            clear k2
            have HP := Lib.hid (sp.more (hi' := hi + 105) (by omega))
            clear sp HO
            rcases (by omega : pp = 0 ∨ pp = 1 ∨ pp = 2 ∨ pp = 3) with rfl | rfl | rfl | rfl
            · have q1 : ∀ j, wp.cell? ⟨r, j, none⟩ = _ := HP.out.cells 1 rfl
              have f1 := HP.out.free 1 rfl
              go_wp2
              refine bodyPost_ret (v := .agg #[.slice none 0 0]) (by simp [results, Try.results45, go_sem, q1]) rfl ⟨.agg #[.slice none 0 0], [], rfl, ?_⟩
              have h := (((HP.out.set 1 rfl 0 (.slice none 0 0)).call (rInts_nil _ _ (Below.refl _ _))).pick [5, 0, 4] (by decide) rfl rfl).graph (by simp)
              exact (h.pick [1, 0, 2] (by decide) rfl rfl).more (by omega)
            · have hni : (0 : Int) < (N : Int) := by omega
              have hnn : 0 < N := by omega
              obtain ⟨x, hx⟩ : ∃ x, xs[0]? = some x := ⟨_, List.getElem?_eq_getElem (by rw [HXL.out]; exact hnn)⟩
              obtain ⟨y, hy⟩ : ∃ y, IntKind.i64.wrap (x + 1) = y := ⟨_, rfl⟩
              have HX := Bx.mk hx
              have HY := Bx.mk hy
              have HYW : Bx ((Lit.int .i64 y).wf = true) := Bx.mk (by rw [← hy]; exact wf_wrap _ _)
              clear hx hy
              go_upto_region 26 with (fail)
              refine wp_reg (σ := Unit) (by kernel_rfl) (by kernel_rfl) (by kernel_rfl)
                (fun s i => match i with
                  | 0 => .pointer (some ⟨g6, 0, none⟩)
                  | 1 => .slice (some ⟨gs, 0, none⟩) N N
                  | 2 => .pointer (some ⟨g6, 0, none⟩)
                  | 3 => .slice (some ⟨gs, 0, none⟩) N N
                  | 4 => .pointer (some ⟨gs, 0, none⟩)
                  | 5 => .int .i64 x
                  | 6 => .int .i64 y
                  | 7 => .pointer (some ⟨gs, 0, none⟩)
                  | _ => undef)
                (fun D s we => Sn w we fun i => match i with
                  | 0 => some (rRd w g (hi + 105))
                  | 1 => some (rBlk r 25 #[.slice none 0 0])
                  | 2 => some (rBlk g6 25 #[.slice (some ⟨gs, 0, none⟩) N N])
                  | 3 => some (rInts (.slice (some ⟨gs, 0, none⟩) N N) (if D 8 = true then (xs).set (0) y else xs))
                  | 4 => some (X)
                  | _ => none)
                () ?_ ?_ ?_
              · intro D hD
                refine ((Sn.of_st HP.out).quiet ((Below.refl _ _).drew)).congr fun i => ?_
                match i with
                | 0 => rfl
                | 1 => rfl
                | 2 => rfl
                | 3 => simp only [hD 8 (by decide)]; rfl
                | 4 => rfl
                | q + 5 => rfl
              · refine StepAll.cons (fun D s we hR (hDi : D 0 = false) hd hsh a' hs K hK => ?_) ?_
                · have e6 := hs.old 6 (u := .pointer (some ⟨g6, 0, none⟩)) (by kernel_rfl) rfl
                  clear hs
                  go_simp
                  exact hK s we (fun _ _ => rfl) hR
                refine StepAll.cons (fun D s we hR (hDi : D 1 = false) hd hsh a' hs K hK => ?_) ?_
                · have e92 := hs.at_ 0 92 (u := .pointer (some ⟨g6, 0, none⟩)) rfl (hd ⟨0, .data⟩ (by simp) rfl) (by kernel_rfl) (by kernel_rfl) rfl
                  clear hs
                  have kb : Blk we (g6) 25 #[.slice (some ⟨gs, 0, none⟩) N N] := hR.blk 2 rfl
                  have c0 : we.cell? ⟨g6, 0, none⟩ = some (.slice (some ⟨gs, 0, none⟩) N N) := kb.cell 0
                  go_simp
                  exact hK s we (fun _ _ => rfl) hR
                refine StepAll.cons (fun D s we hR (hDi : D 2 = false) hd hsh a' hs K hK => ?_) ?_
                · have e6 := hs.old 6 (u := .pointer (some ⟨g6, 0, none⟩)) (by kernel_rfl) rfl
                  clear hs
                  go_simp
                  exact hK s we (fun _ _ => rfl) hR
                refine StepAll.cons (fun D s we hR (hDi : D 3 = false) hd hsh a' hs K hK => ?_) ?_
                · have e94 := hs.at_ 2 94 (u := .pointer (some ⟨g6, 0, none⟩)) rfl (hd ⟨2, .data⟩ (by simp) rfl) (by kernel_rfl) (by kernel_rfl) rfl
                  clear hs
                  have kb : Blk we (g6) 25 #[.slice (some ⟨gs, 0, none⟩) N N] := hR.blk 2 rfl
                  have c0 : we.cell? ⟨g6, 0, none⟩ = some (.slice (some ⟨gs, 0, none⟩) N N) := kb.cell 0
                  go_simp
                  exact hK s we (fun _ _ => rfl) hR
                refine StepAll.cons (fun D s we hR (hDi : D 4 = false) hd hsh a' hs K hK => ?_) ?_
                · have e95 := hs.at_ 3 95 (u := .slice (some ⟨gs, 0, none⟩) N N) rfl (hd ⟨3, .data⟩ (by simp) rfl) (by kernel_rfl) (by kernel_rfl) rfl
                  clear hs
                  go_simp
                  exact hK s we (fun _ _ => rfl) hR
                refine StepAll.cons (fun D s we hR (hDi : D 5 = false) hd hsh a' hs K hK => ?_) ?_
                · have e96 := hs.at_ 4 96 (u := .pointer (some ⟨gs, 0, none⟩)) rfl (hd ⟨4, .data⟩ (by simp) rfl) (by kernel_rfl) (by kernel_rfl) rfl
                  clear hs
                  have n6 : D 6 = false := hsh.no hDi 6 rfl ⟨5, .data⟩ (by simp) rfl rfl
                  have n8 : D 8 = false := hsh.no n6 8 rfl ⟨6, .data⟩ (by simp) rfl rfl
                  have c0 := (hR.cellI 3 (xs := xs) (by simp only [n8] <;> rfl) HXL.out (0) x HX.out).1
                  go_simp
                  exact hK s we (fun _ _ => rfl) hR
                refine StepAll.cons (fun D s we hR (hDi : D 6 = false) hd hsh a' hs K hK => ?_) ?_
                · have e97 := hs.at_ 5 97 (u := .int .i64 x) rfl (hd ⟨5, .data⟩ (by simp) rfl) (by kernel_rfl) (by kernel_rfl) rfl
                  clear hs
                  have hy := HY.out
                  go_simp
                  exact hK s we (fun _ _ => rfl) hR
                refine StepAll.cons (fun D s we hR (hDi : D 7 = false) hd hsh a' hs K hK => ?_) ?_
                · have e93 := hs.at_ 1 93 (u := .slice (some ⟨gs, 0, none⟩) N N) rfl (hd ⟨1, .data⟩ (by simp) rfl) (by kernel_rfl) (by kernel_rfl) rfl
                  clear hs
                  go_simp
                  exact hK s we (fun _ _ => rfl) hR
                refine StepAll.cons (fun D s we hR (hDi : D 8 = false) hd hsh a' hs K hK => ?_) ?_
                · have e99 := hs.at_ 7 99 (u := .pointer (some ⟨gs, 0, none⟩)) rfl (hd ⟨7, .data⟩ (by simp) rfl) (by kernel_rfl) (by kernel_rfl) rfl
                  have e98 := hs.at_ 6 98 (u := .int .i64 y) rfl (hd ⟨6, .data⟩ (by simp) rfl) (by kernel_rfl) (by kernel_rfl) rfl
                  clear hs
                  have hc := hR.cellI 3 (xs := xs) (by simp only [hDi] <;> rfl) HXL.out (0) x HX.out
                  have c0 := hc.1
                  have f0 := hc.2
                  go_simp
                  exact hK s _ (fun _ _ => rfl) ((hR.putI 3 (xs := xs) (by simp only [hDi]; rfl) HXL.out (0) y HYW.out).congr
                      (fun i => by
                        match i with
                        | 0 => rfl
                        | 1 => rfl
                        | 2 => rfl
                        | 3 => rfl
                        | 4 => rfl
                        | q + 5 => exact (if_neg (show ¬ (q + 5 = 3) by omega)).symm))
                exact StepAll.nil
              · intro D s we hR hD
                simp only [putA, Act.put, List.setIfInBounds_toArray, List.set_cons_zero, List.set_cons_succ]
                have HQ : Hid (St w we [rRd w g (hi + 105), rBlk r 25 #[.slice none 0 0], rBlk g6 25 #[.slice (some ⟨gs, 0, none⟩) N N], rInts (.slice (some ⟨gs, 0, none⟩) N N) ((xs).set (0) y), X]) := Lib.hid (hR.to_st [0, 1, 2, 3, 4] (by decide) (by simp only [List.map, hD 8 (by decide)] <;> rfl))
                clear hR hD HP
                have q1 : ∀ j, (we).cell? ⟨r, j, none⟩ = _ := HQ.out.cells 1 rfl
                have q2 : ∀ j, (we).cell? ⟨g6, j, none⟩ = _ := HQ.out.cells 2 rfl
                have f1 := HQ.out.free 1 rfl
                go_wp2
                refine bodyPost_ret (v := .agg #[.slice (some ⟨gs, 0, none⟩) N N]) (by simp [results, Try.results45, go_sem, q1]) rfl ⟨.agg #[.slice (some ⟨gs, 0, none⟩) N N], (xs).set 0 y, rfl, ?_⟩
                have h := ((HQ.out.set 1 rfl 0 (.slice (some ⟨gs, 0, none⟩) N N)).pick [3, 0, 4] (by decide) rfl rfl).graph (by rw [List.length_set, HXL.out]; omega)
                exact (h.pick [1, 0, 2] (by decide) rfl rfl).more (by omega)
            · have HL := Lib.hid (HP.out.call (St.lit wp [2, 0] 2 rfl (by simp) (by decide)))
              have q1 : ∀ j, (wp.alloc (.cells #[.int .i64 2, .int .i64 0] 3)).cell? ⟨r, j, none⟩ = #[Value.slice none 0 0][j]? := HL.out.cells 1 rfl
              have f1 : ∀ j, (wp.alloc (.cells #[.int .i64 2, .int .i64 0] 3)).frozen? ⟨r, j, none⟩ = false := HL.out.free 1 rfl
              go_wp2
              refine bodyPost_ret (v := .agg #[.slice (some ⟨wp.heap.size, 0, none⟩) 2 2]) (by simp [results, Try.results45, go_sem, q1]) rfl ⟨.agg #[.slice (some ⟨wp.heap.size, 0, none⟩) 2 2], [2, 0], rfl, ?_⟩
              have h := ((HL.out.set 1 rfl 0 (.slice (some ⟨wp.heap.size, 0, none⟩) 2 2)).pick [5, 0, 4] (by decide) rfl rfl).graph (by simp)
              exact (h.pick [1, 0, 2] (by decide) rfl rfl).more (by omega)
            · go_wp2_with (at_make; refine wpList_make_full _ rfl _ _ 23 rfl wp.heap.size 3 i0 _ 1 Try.underlying23 hi0 hz0 hz1 _ _ _ _ 10 rfl rfl rfl rfl (by rw [hz2]; omega) (by unfold maxLen; omega) (Nat.le_refl _) ?_; intro w9 hown hgr; have HL := Lib.hid (HP.out.call (St.ofMakeN hown hgr)); clear hown hgr; have q1 : ∀ j, w9.cell? ⟨r, j, none⟩ = _ := HL.out.cells 1 rfl; have f1 := HL.out.free 1 rfl)
              refine bodyPost_ret (v := .agg #[.slice (some ⟨wp.heap.size, 0, none⟩) 10 10]) (by simp [results, Try.results45, go_sem, q1]) rfl ⟨.agg #[.slice (some ⟨wp.heap.size, 0, none⟩) 10 10], List.replicate 10 0, rfl, ?_⟩
              have h := ((HL.out.set 1 rfl 0 (.slice (some ⟨wp.heap.size, 0, none⟩) 10 10)).pick [5, 0, 4] (by decide) rfl rfl).graph (by simp)
              exact (h.pick [1, 0, 2] (by decide) rfl rfl).more (by omega)
theorem l20Graph_rd {w W : World} {Rs : List HRes} {g hi : Nat} (S : St w W (rRd w g hi :: Rs)) (hh : hi ≤ 300000000000) (m : Int) :
    Calls Try.prog 45 #[.pointer (some ⟨g, 0, none⟩), .int .i64 m] W fun e w' => ∃ v xs, e = .returned v ∧ St w w' (rRd w g (hi + 110) :: rGraph v xs :: Rs) :=
  (l20Graph_rd1 (St.pack (Rs := [rRd w g hi]) (L := Rs) S) hh m).mono fun e w' ⟨v, xs, h1, h2⟩ => ⟨v, xs, h1, St.unpack (Rs := [rRd w g (hi + 110), rGraph v xs]) (L := Rs) h2⟩
end Go.Proofs.Ytfgebdioffeliaa
