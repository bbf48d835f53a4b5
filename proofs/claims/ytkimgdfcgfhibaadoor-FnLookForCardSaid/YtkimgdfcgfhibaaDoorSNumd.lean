/- The draws of FnMustLook and FnLookFor: a task and numbers of its states. Printed by gen_numd.py. -/
import Derived.Test.YtkimgdfcgfhibaaDoorSHard
import Derived.Test.YtkimgdfcgfhibaaDoorSCopy
namespace Go.Proofs.YtkimgdfcgfhibaaDoor
set_option linter.unusedVariables false
set_option linter.unusedSimpArgs false
open Go.ChangeShapes Go.WideShapes Go.ChangeAt Go.RowKit

theorem St.rowAt' {w W : World} {L : List HRes} (h : St w W L) (i : Nat) {A : Option Addr} {n c : Nat} {xs : List Int} (hi : L[i]? = some (rInts (.slice A n c) xs)) (hn : xs.length = n) (h0 : 0 < n) : ∃ gb, A = some ⟨gb, 0, none⟩ := by
  obtain ⟨g, c', hv⟩ := h.formI i hi hn h0
  simp only [Value.slice.injEq] at hv
  exact ⟨g, hv.1⟩
set_option maxRecDepth 100000 in
set_option maxHeartbeats 1000000 in
theorem l20Numbered_rd {w W : World} {g hi : Nat} (S : St w W [rRd w g hi]) (hh0 : hi ≤ 1000000000) :
    Calls Tryd.prog 48 #[.pointer (some ⟨g, 0, none⟩)] W fun e w' => ∃ v t nv ns, e = .returned (.tuple #[v, nv]) ∧ St w w' [rTask v t, rInts nv ns] := by
  obtain ⟨r, hr⟩ : ∃ r, W.heap.size = r := ⟨_, rfl⟩
  have HS0 : Hid (St w (W.alloc (.cells #[.int .i64 0, .slice none 0 0, .slice none 0 0] 26)) [rRd w g hi, rBlk r 26 #[.int .i64 0, .slice none 0 0, .slice none 0 0]]) := Lib.hid (by rw [← hr]; exact S.alloc1 _ _)
  clear S
  go_enter Tryd.func48, Tryd.ntmps48
  go_wp2_with fail
  refine (l20Hard_rd HS0.out (by omega) 12).mono ?_
  rintro e w2 ⟨v2, t, rfl, s2⟩
  obtain ⟨A1, j1, c1, A2, j2, c2, hv⟩ := s2.formT 1 rfl
  subst hv
  obtain ⟨T, hT⟩ : ∃ T, w2.heap.size = T := ⟨_, rfl⟩
  obtain ⟨hh, hhh⟩ : ∃ hh, hi + 400 = hh := ⟨_, rfl⟩
  rw [hhh] at s2
  have HS : Hid (St w (w2.alloc (.cells #[.int .i64 t.start, .slice A1 j1 c1, .slice A2 j2 c2] 26)) [rRd w g hh, rBlk r 26 #[.int .i64 0, .slice none 0 0, .slice none 0 0], rTask (.agg #[.int .i64 t.start, .slice A1 j1 c1, .slice A2 j2 c2]) t, rBlk T 26 #[.int .i64 t.start, .slice A1 j1 c1, .slice A2 j2 c2]]) := Lib.hid (by rw [← hT]; exact (s2.alloc #[.int .i64 t.start, .slice A1 j1 c1, .slice A2 j2 c2] 26).pick [0, 2, 1, 3] (by decide) rfl rfl)
  clear s2 HS0
  try rw [hr]
  go_upto_region 2 with (fail)
  try rw [hT]
  clear hr hT
  obtain ⟨SN, hSN⟩ : ∃ SN : Nat → List Int, SN = fun y : Nat => shadN t (y : Int) := ⟨_, rfl⟩
  have HSN : Hid (∀ (x : Nat) wx, RdT wx wx.heap.size (.agg #[.int .i64 t.start, .slice A1 j1 c1, .slice A2 j2 c2]) t → Calls Tryd.prog 10 #[.agg #[.int .i64 t.start, .slice A1 j1 c1, .slice A2 j2 c2], .int .i64 (x : Int)] wx (Gives wx id fun v => [rInts v (SN x)])) := Lib.hid fun x wx h => by rw [hSN]; exact shadowNumbers_spec _ t _ _ h
  clear hSN
  refine wp_reg (σ := {p : Nat × Value // p.1 < 32}) (by kernel_rfl) (by kernel_rfl) (by kernel_rfl)
    (fun s i => match i with
      | 0 => .agg #[.int .i64 t.start, .slice A1 j1 c1, .slice A2 j2 c2]
      | 1 => .pointer (some ⟨g, 0, none⟩)
      | 2 => .int .i64 (s.1.1 : Nat)
      | 3 => s.1.2
      | 4 => s.1.2
      | _ => undef)
    (fun D s wx => Sn w wx fun i => match i with
      | 0 => some (rRd w g (hh + (D 2).toNat))
      | 1 => some (rBlk r 26 #[.int .i64 0, .slice none 0 0, .slice none 0 0])
      | 2 => some (rTask (.agg #[.int .i64 t.start, .slice A1 j1 c1, .slice A2 j2 c2]) t)
      | 3 => some (rBlk T 26 #[.int .i64 t.start, .slice A1 j1 c1, .slice A2 j2 c2])
      | 4 => if D 3 = true then some (rInts s.1.2 (SN s.1.1)) else none
      | _ => none)
    ⟨(0, undef), by decide⟩ ?_ ?_ ?_
  · intro D hD
    refine ((Sn.of_st HS.out).quiet ((Below.refl _ _).drew)).congr fun i => ?_
    match i with
    | 0 => simp only [hD 2 (by decide)]; rfl
    | 1 => rfl
    | 2 => rfl
    | 3 => rfl
    | 4 => simp only [hD 3 (by decide)]; rfl
    | q + 5 => rfl
  · refine StepAll.cons (fun D s wx hR (hDi : D 0 = false) hd hsh a' hs K hK => ?_) ?_
    · have e4 := hs.old 4 (u := .pointer (some ⟨T, 0, none⟩)) (by kernel_rfl) rfl
      clear hs
      have kb : Blk wx (T) 26 #[.int .i64 t.start, .slice A1 j1 c1, .slice A2 j2 c2] := hR.blk 3 rfl
      have c0 : wx.cell? ⟨T, 0, none⟩ = some (.int .i64 t.start) := kb.cell 0
      have c1 : wx.cell? ⟨T, 1, none⟩ = some (.slice A1 j1 c1) := kb.cell 1
      have c2 : wx.cell? ⟨T, 2, none⟩ = some (.slice A2 j2 c2) := kb.cell 2
      go_simp
      exact hK s wx (fun _ _ => rfl) hR
    refine StepAll.cons (fun D s wx hR (hDi : D 1 = false) hd hsh a' hs K hK => ?_) ?_
    · have e0 := hs.old 0 (u := .pointer (some ⟨g, 0, none⟩)) (by kernel_rfl) rfl
      clear hs
      go_simp
      exact hK s wx (fun _ _ => rfl) hR
    refine StepAll.cons (fun D s wx hR (hDi : D 2 = false) hd hsh a' hs K hK => ?_) ?_
    · have e9 := hs.at_ 1 9 (u := .pointer (some ⟨g, 0, none⟩)) rfl (hd ⟨1, .data⟩ (by simp) rfl) (by kernel_rfl) (by kernel_rfl) rfl
      have g9 := getQ e9
      clear hs
      have n3 : D 3 = false := hsh.no hDi 3 rfl ⟨2, .data⟩ (by simp) rfl rfl
      have n4 : D 4 = false := hsh.no n3 4 rfl ⟨3, .data⟩ (by simp) rfl rfl
      go_simp
      have hb1 := Bool.toNat_le (D 2)
      refine (hR.pick 0 (g := g) (hi := hh + (D 2).toNat) rfl (by omega) 32).mono ?_
      rintro e2 w2 ⟨x2, rfl, ⟨e1, e3, -⟩, s2⟩
      have e4 := e3 (by omega)
      obtain ⟨m2, rfl⟩ := Int.eq_ofNat_of_zero_le e1
      clear hb1
      refine hK ⟨(m2, s.1.2), (by show m2 < 32; omega)⟩ w2
        (fun j hj => by
          match j, hj with
          | 0, hj => rfl
          | 1, hj => rfl
          | 2, hj => rw [hDi] at hj; cases hj
          | 3, hj => rw [n3] at hj; cases hj
          | 4, hj => rw [n4] at hj; cases hj
          | _ + 5, hj => rfl)
        (s2.congr (fun i => by
          match i with
          | 0 => (show some (rRd w g (hh + (true).toNat)) = some (rRd w g (hh + (D 2).toNat + 1)); congr 2; rw [hDi]; simp only [Bool.toNat_true, Bool.toNat_false]; try omega)
          | 1 => rfl
          | 2 => rfl
          | 3 => rfl
          | 4 => (show (if D 3 = true then some (rInts _ _) else none) = (if D 3 = true then some (rInts _ _) else none); rw [n3] <;> rfl)
          | q + 5 => rfl))
    refine StepAll.cons (fun D s wx hR (hDi : D 3 = false) hd hsh a' hs K hK => ?_) ?_
    · have e8 := hs.at_ 0 8 (u := .agg #[.int .i64 t.start, .slice A1 j1 c1, .slice A2 j2 c2]) rfl (hd ⟨0, .data⟩ (by simp) rfl) (by kernel_rfl) (by kernel_rfl) rfl
      have e10 := hs.at_ 2 10 (u := .int .i64 (s.1.1 : Nat)) rfl (hd ⟨2, .data⟩ (by simp) rfl) (by kernel_rfl) (by kernel_rfl) rfl
      have g8 := getQ e8
      have g10 := getQ e10
      clear hs
      have n4 : D 4 = false := hsh.no hDi 4 rfl ⟨3, .data⟩ (by simp) rfl rfl
      go_simp
      refine (HSN.out s.1.1 _ (hR.rdT 2 rfl)).mono ?_
      rintro e2 w2 ⟨v2, rfl, s2⟩
      refine hK ⟨(s.1.1, v2), s.2⟩ w2
        (fun j hj => by
          match j, hj with
          | 0, hj => rfl
          | 1, hj => rfl
          | 2, hj => rfl
          | 3, hj => rw [hDi] at hj; cases hj
          | 4, hj => rw [n4] at hj; cases hj
          | _ + 5, hj => rfl)
        ((hR.add 4 (if_neg (by rw [hDi]; simp)) s2).congr
          (fun i => by
            match i with
            | 0 => rfl
            | 1 => rfl
            | 2 => rfl
            | 3 => rfl
            | 4 => rfl
            | q + 5 => exact (if_neg (show ¬ (q + 5 = 4) by omega)).symm))
    refine StepAll.cons (fun D s wx hR (hDi : D 4 = false) hd hsh a' hs K hK => ?_) ?_
    · have e11 := hs.at_ 3 11 (u := s.1.2) rfl (hd ⟨3, .data⟩ (by simp) rfl) (by kernel_rfl) (by kernel_rfl) rfl
      clear hs
      go_simp
      exact hK s wx (fun _ _ => rfl) hR
    exact StepAll.nil
  · intro D s wx hR hD
    simp only [putA, Act.put, List.setIfInBounds_toArray, List.set_cons_zero, List.set_cons_succ]
    obtain ⟨⟨y, nv⟩, hs⟩ := s
    simp only at hs hR ⊢
    obtain ⟨ns, hns⟩ : ∃ ns, SN y = ns := ⟨_, rfl⟩
    have HS2' : St w wx [rRd w g (hh + 1), rBlk r 26 #[.int .i64 0, .slice none 0 0, .slice none 0 0], rTask (.agg #[.int .i64 t.start, .slice A1 j1 c1, .slice A2 j2 c2]) t, rBlk T 26 #[.int .i64 t.start, .slice A1 j1 c1, .slice A2 j2 c2], rInts nv ns] := by
      rw [← hns]
      exact hR.to_st [0, 1, 2, 3, 4] (by decide) (by simp only [List.map, hD 2 (by decide), hD 3 (by decide)] <;> rfl)
    obtain ⟨n0, hn0⟩ : ∃ n0, ns.length = n0 := ⟨_, rfl⟩
    obtain ⟨A3, c3, hv⟩ := HS2'.formN 4 rfl hn0
    subst hv
    have HS2 := Lib.hid HS2'
    have HN0 := Lib.hid hn0
    clear hR hD HS hns HS2' hs hn0
    go_wp2_with fail
    refine (pick_rd HS2.out (by omega) 4).mono ?_
    rintro e w3 ⟨x3, rfl, ⟨p1, p2, -⟩, s3⟩
    have HS3 := Lib.hid s3
    clear s3 p1 p2 HS2
    go_upto_if 14 with (fail)
    go_cut [5] (fun s5 wx => ∃ (A : Option Addr) (n c : Nat) (ns : List Int), s5 = .slice A n c ∧ Hid (ns.length = n) ∧ St w wx [rRd w g (hh + 10), rBlk r 26 #[.int .i64 0, .slice none 0 0, .slice none 0 0], rTask (.agg #[.int .i64 t.start, .slice A1 j1 c1, .slice A2 j2 c2]) t, rBlk T 26 #[.int .i64 t.start, .slice A1 j1 c1, .slice A2 j2 c2], rInts (.slice A n c) ns])
    case first =>
      by_cases h3 : x3 = 0
      · subst h3
        have q3 : ∀ j, w3.cell? ⟨T, j, none⟩ = _ := HS3.out.cells 3 rfl
        go_wp2_with fail
        refine (numbersFor_spec _ t _ (HS3.out.rdT 2 rfl)).mono ?_
        rintro e w4 ⟨v4, rfl, s4⟩
        obtain ⟨n4, hn4⟩ : ∃ n4, (numsFor t).length = n4 := ⟨_, rfl⟩
        obtain ⟨A4, c4, hv4⟩ := s4.formN 0 rfl hn4
        simp only [id_eq] at hv4 ⊢
        subst hv4
        have HN4 := Lib.hid hn4
        have HS4 := Lib.hid (((HS3.out.call s4).pick [0, 1, 2, 3, 5] (by decide) rfl rfl).more (hi' := hh + 10) (by omega))
        clear s4 hn4 HS3 q3
        go_wp2
        go_meet
        case rel => exact ⟨A4, n4, c4, numsFor t, rfl, HN4, HS4.out⟩
      · have h3' : (x3 == 0) = false := by simpa using h3
        have HS4 := Lib.hid (HS3.out.more (hi' := hh + 10) (by omega))
        clear h3 HS3
        go_wp2
        go_meet
        case rel => exact ⟨A3, n0, c3, ns, rfl, HN0, HS4.out⟩
    case rest =>
      clear HN0 HS3
      obtain ⟨A, n, c, ns, rfl, HN, SC⟩ := hcut
      have HS4 := Lib.hid SC
      clear SC
      go_wp2_with fail
      refine (odd_rd HS4.out (by omega) 9).mono ?_
      rintro e w5 ⟨b5, rfl, s5⟩
      have HS5 := Lib.hid s5
      clear s5 HS4
      by_cases hb : b5 = true ∧ 0 < n
      case neg =>
        have q3 : ∀ j, w5.cell? ⟨T, j, none⟩ = _ := HS5.out.cells 3 rfl
        have q4 : ∀ j, w5.cell? ⟨r, j, none⟩ = _ := HS5.out.cells 1 rfl
        have f4 := HS5.out.free 1 rfl
        have HF := Lib.hid (((HS5.out.set3 1 rfl (.int .i64 t.start) (.slice A1 j1 c1) (.slice A2 j2 c2))).pick [2, 4] (by decide) rfl rfl)
        clear HS5
        cases b5 with
        | false =>
          clear hb
          go_wp2
          refine bodyPost_ret (v := .tuple #[.agg #[.int .i64 t.start, .slice A1 j1 c1, .slice A2 j2 c2], .slice A n c]) (by simp [results, Tryd.results48, go_sem, q4]) rfl ⟨_, _, _, _, rfl, HF.out⟩
        | true =>
          have hn0 : n = 0 := by
            have : ¬ 0 < n := fun h => hb ⟨rfl, h⟩
            omega
          subst hn0
          clear hb
          go_wp2
          refine bodyPost_ret (v := .tuple #[.agg #[.int .i64 t.start, .slice A1 j1 c1, .slice A2 j2 c2], .slice A 0 c]) (by simp [results, Tryd.results48, go_sem, q4]) rfl ⟨_, _, _, _, rfl, HF.out⟩
      obtain ⟨rfl, hn0⟩ := hb
      have hn0i : (0 : Int) < (n : Int) := by omega
      obtain ⟨gn, rfl⟩ := HS5.out.rowAt' 4 rfl HN.out hn0
      go_wp2_with fail
      refine (pick_rd HS5.out (by omega) (n : Int)).mono ?_
      rintro e w6 ⟨x6, rfl, ⟨p1, p2, -⟩, s6⟩
      have p3 := p2 (by omega)
      obtain ⟨k6, rfl⟩ := Int.eq_ofNat_of_zero_le p1
      have hk6 : k6 < n := by omega
      have HS6 := Lib.hid s6
      clear s6 p1 p2 HS5
      go_wp2_with fail
      refine (pick_rd HS6.out (by omega) 5).mono ?_
      rintro e w7 ⟨x7, rfl, ⟨p1, p2, -⟩, s7⟩
      have p4 := p2 (by omega)
      have HS7 := Lib.hid s7
      clear s7 p2 HS6
      obtain ⟨u, hu⟩ : ∃ u, ns[k6]? = some u := ⟨_, List.getElem?_eq_getElem (by rw [HN.out]; exact hk6)⟩
      obtain ⟨hc, hf⟩ := HS7.out.cellI 4 rfl HN.out k6 u hu
      clear hu
      have S8 := HS7.out.storeI 4 rfl HN.out k6 x7 (wf_i64_mk (by omega))
      obtain ⟨w8, hw8⟩ : ∃ x, (w7.setCell ⟨gn, k6, none⟩ (.int .i64 x7)) = x := ⟨_, rfl⟩
      rw [hw8] at S8
      have HS8 : Hid (St w w8 [rRd w g (hh + 10 + 1 + 1 + 1), rBlk r 26 #[.int .i64 0, .slice none 0 0, .slice none 0 0], rTask (.agg #[.int .i64 t.start, .slice A1 j1 c1, .slice A2 j2 c2]) t, rBlk T 26 #[.int .i64 t.start, .slice A1 j1 c1, .slice A2 j2 c2], rInts (.slice (some ⟨gn, 0, none⟩) n c) (ns.set k6 x7)]) := Lib.hid S8
      clear S8 p1 p3 p4
      have HW8 := Bx.mk hw8
      clear hw8
      go_upto_region 7 with (fail)
      rw [HW8.out]
      clear HW8 hc hf HS7
      have q3 : ∀ j, w8.cell? ⟨T, j, none⟩ = _ := HS8.out.cells 3 rfl
      have q4 : ∀ j, w8.cell? ⟨r, j, none⟩ = _ := HS8.out.cells 1 rfl
      have f4 := HS8.out.free 1 rfl
      have HF := Lib.hid (((HS8.out.set3 1 rfl (.int .i64 t.start) (.slice A1 j1 c1) (.slice A2 j2 c2))).pick [2, 4] (by decide) rfl rfl)
      clear HS8
      go_wp2
      refine bodyPost_ret (v := .tuple #[.agg #[.int .i64 t.start, .slice A1 j1 c1, .slice A2 j2 c2], .slice (some ⟨gn, 0, none⟩) n c]) (by simp [results, Tryd.results48, go_sem, q4]) rfl ⟨_, _, _, _, rfl, HF.out⟩
set_option maxRecDepth 100000 in
set_option maxHeartbeats 1000000 in
theorem drawLookFor (A : Option Addr) (n c : Nat) (xs : List Int) (w : World) (h : RdI .u8 w w.heap.size A n c xs) :
    Calls Tryd.prog 23 #[.slice A n c] w fun e w' => ∃ v t nv ns, e = .returned (.tuple #[v, nv]) ∧ St w w' [rTask v t, rInts nv ns] := by
  have HB := Lib.hid ((St.refl w).alloc #[.int .i64 0, .slice none 0 0, .slice none 0 0] 26)
  have H := Lib.hid (h.up HB.out.below)
  clear h
  go_enter Tryd.func23, Tryd.ntmps23
  go_wp2_with fail
  refine (l20Open_rd (St.refl _) H.out).mono ?_
  rintro e w1 ⟨g, rfl, s1⟩
  have HS1 := Lib.hid s1
  clear s1
  go_wp2_with fail
  refine (l20Numbered_rd HS1.out (by omega)).mono ?_
  rintro e w2 ⟨v2, t, nv, ns, rfl, s2⟩
  obtain ⟨A1, j1, c1, A2, j2, c2, hv⟩ := s2.formT 0 rfl
  subst hv
  have HS2 := Lib.hid (HB.out.call s2)
  clear s2 HS1
  have q2 : ∀ j, w2.cell? ⟨w.heap.size, j, none⟩ = _ := HS2.out.cells 0 rfl
  have f2 := HS2.out.free 0 rfl
  have HS3 := Lib.hid ((HS2.out.set3 0 rfl (.int .i64 t.start) (.slice A1 j1 c1) (.slice A2 j2 c2)).tl)
  clear HS2
  go_wp2
  refine bodyPost_ret (v := .tuple #[.agg #[.int .i64 t.start, .slice A1 j1 c1, .slice A2 j2 c2], nv]) (by simp [results, Tryd.results23, go_sem, q2]) rfl ⟨_, t, _, _, rfl, HS3.out⟩
end Go.Proofs.YtkimgdfcgfhibaaDoor
