/- The draw of a book and an act. Printed by gen_lawbd.py. -/
import Derived.Test.YtkebgldeahklmaaSDraws
namespace Go.Proofs.Ytkebgldeahklmaa
set_option linter.unusedVariables false
set_option linter.unusedSimpArgs false
open Go.ChangeShapes Go.WideShapes Go.ChangeAt Go.RowKit

set_option maxRecDepth 100000 in
set_option maxHeartbeats 1000000 in
theorem drawBookDo (A : Option Addr) (n c : Nat) (xs : List Int) (w : World) (h : RdI .u8 w w.heap.size A n c xs) :
    Calls Try.prog 29 #[.slice A n c] w fun e w' => ∃ v b k m, e = .returned (.tuple #[v, .agg #[.int .i64 k, .int .i64 m]]) ∧ (Lit.int .i64 m).wf = true ∧ St w w' [rBook v b] := by
  have S0 : St w ((w.alloc (Obj.cells #[.int .i64 0, .slice none 0 0, .slice none 0 0, .slice none 0 0, .int .i64 0] 28)).alloc (Obj.cells #[.int .i64 0, .int .i64 0] 50)) [rBlk w.heap.size 28 #[.int .i64 0, .slice none 0 0, .slice none 0 0, .slice none 0 0, .int .i64 0], rBlk (w.heap.size + 1) 50 #[.int .i64 0, .int .i64 0]] := by
    have := ((St.refl w).alloc #[.int .i64 0, .slice none 0 0, .slice none 0 0, .slice none 0 0, .int .i64 0] 28).alloc #[.int .i64 0, .int .i64 0] 50
    simpa using this
  have HS0 := Lib.hid S0
  have H := Lib.hid h
  clear h S0
  go_enter Try.func29, Try.ntmps29
  go_wp2_with fail
  refine (l20Open_rd HS0.out H.out).mono ?_
  rintro e w1 ⟨g, rfl, s1⟩
  have HS1 := Lib.hid s1
  clear s1 HS0
  go_wp2_with fail
  refine (l20Book_rd HS1.out (by omega) 12).mono ?_
  rintro e w2 ⟨v2, b, rfl, s2⟩
  obtain ⟨B1, m1, d1, B2, m2, d2, B3, m3, d3, hv⟩ := s2.formB 1 rfl
  obtain ⟨os, hos⟩ : ∃ x, b.order.start = x := ⟨_, rfl⟩
  obtain ⟨st, hst⟩ : ∃ x, b.state = x := ⟨_, rfl⟩
  rw [hos, hst] at hv
  subst hv
  obtain ⟨g5, hg5⟩ : ∃ x, w2.heap.size = x := ⟨_, rfl⟩
  have HS2 : Hid (St w (w2.alloc (.cells #[.int .i64 os, .slice B1 m1 d1, .slice B2 m2 d2, .slice B3 m3 d3, .int .i64 st] 28)) [rRd w g 400, rBlk w.heap.size 28 #[.int .i64 0, .slice none 0 0, .slice none 0 0, .slice none 0 0, .int .i64 0], rBlk (w.heap.size + 1) 50 #[.int .i64 0, .int .i64 0], rBlk g5 28 #[.int .i64 os, .slice B1 m1 d1, .slice B2 m2 d2, .slice B3 m3 d3, .int .i64 st], rBook (.agg #[.int .i64 os, .slice B1 m1 d1, .slice B2 m2 d2, .slice B3 m3 d3, .int .i64 st]) b]) := Lib.hid (by
    rw [← hg5]
    exact (s2.alloc #[.int .i64 os, .slice B1 m1 d1, .slice B2 m2 d2, .slice B3 m3 d3, .int .i64 st] 28).pick [0, 2, 3, 4, 1] (by decide) rfl rfl)
  clear s2 HS1 hos hst
  go_upto_region 3 with (fail)
  try rw [hg5]
  clear hg5
  refine wp_reg (σ := {p : Int × Int // (0 ≤ p.1 ∧ p.1 ≤ 7) ∧ (-10 ≤ p.2 ∧ p.2 ≤ 130)}) (by kernel_rfl) (by kernel_rfl) (by kernel_rfl)
    (fun s i => match i with
      | 0 => .agg #[.int .i64 os, .slice B1 m1 d1, .slice B2 m2 d2, .slice B3 m3 d3, .int .i64 st]
      | 1 => .pointer (some ⟨g, 0, none⟩)
      | 2 => .agg #[.int .i64 os, .slice B1 m1 d1, .slice B2 m2 d2, .slice B3 m3 d3, .int .i64 st]
      | 3 => .agg #[.int .i64 s.1.1, .int .i64 s.1.2]
      | _ => undef)
    (fun D s wx => Sn w wx fun i => match i with
      | 0 => some (rRd w g (if D 3 = true then 400 + 8 else 400))
      | 1 => some (rBlk w.heap.size 28 (if D 4 = true then #[.int .i64 os, .slice B1 m1 d1, .slice B2 m2 d2, .slice B3 m3 d3, .int .i64 st] else #[.int .i64 0, .slice none 0 0, .slice none 0 0, .slice none 0 0, .int .i64 0]))
      | 2 => some (rBlk (w.heap.size + 1) 50 (if D 5 = true then #[.int .i64 s.1.1, .int .i64 s.1.2] else #[.int .i64 0, .int .i64 0]))
      | 3 => some (rBlk g5 28 #[.int .i64 os, .slice B1 m1 d1, .slice B2 m2 d2, .slice B3 m3 d3, .int .i64 st])
      | 4 => some (rBook (.agg #[.int .i64 os, .slice B1 m1 d1, .slice B2 m2 d2, .slice B3 m3 d3, .int .i64 st]) b)
      | _ => none)
    ⟨(0, 0), by decide⟩ ?_ ?_ ?_
  · intro D hD
    refine ((Sn.of_st HS2.out).quiet ((Below.refl _ _).drew)).congr fun i => ?_
    match i with
    | 0 => simp only [hD 3 (by decide)]; rfl
    | 1 => simp only [hD 4 (by decide)]; rfl
    | 2 => simp only [hD 5 (by decide)]; rfl
    | 3 => rfl
    | 4 => rfl
    | q + 5 => rfl
  · refine StepAll.cons (fun D s wx hR (hDi : D 0 = false) hd hsh a' hs K hK => ?_) ?_
    · have e5 := hs.old 5 (u := .pointer (some ⟨g5, 0, none⟩)) (by kernel_rfl) rfl
      clear hs
      have kb : Blk wx (g5) 28 #[.int .i64 os, .slice B1 m1 d1, .slice B2 m2 d2, .slice B3 m3 d3, .int .i64 st] := hR.blk 3 rfl
      have c0 : wx.cell? ⟨g5, 0, none⟩ = some (.int .i64 os) := kb.cell 0
      have c1 : wx.cell? ⟨g5, 1, none⟩ = some (.slice B1 m1 d1) := kb.cell 1
      have c2 : wx.cell? ⟨g5, 2, none⟩ = some (.slice B2 m2 d2) := kb.cell 2
      have c3 : wx.cell? ⟨g5, 3, none⟩ = some (.slice B3 m3 d3) := kb.cell 3
      have c4 : wx.cell? ⟨g5, 4, none⟩ = some (.int .i64 st) := kb.cell 4
      go_simp
      exact hK s wx (fun _ _ => rfl) hR
    refine StepAll.cons (fun D s wx hR (hDi : D 1 = false) hd hsh a' hs K hK => ?_) ?_
    · have e4 := hs.old 4 (u := .pointer (some ⟨g, 0, none⟩)) (by kernel_rfl) rfl
      clear hs
      go_simp
      exact hK s wx (fun _ _ => rfl) hR
    refine StepAll.cons (fun D s wx hR (hDi : D 2 = false) hd hsh a' hs K hK => ?_) ?_
    · have e5 := hs.old 5 (u := .pointer (some ⟨g5, 0, none⟩)) (by kernel_rfl) rfl
      clear hs
      have kb : Blk wx (g5) 28 #[.int .i64 os, .slice B1 m1 d1, .slice B2 m2 d2, .slice B3 m3 d3, .int .i64 st] := hR.blk 3 rfl
      have c0 : wx.cell? ⟨g5, 0, none⟩ = some (.int .i64 os) := kb.cell 0
      have c1 : wx.cell? ⟨g5, 1, none⟩ = some (.slice B1 m1 d1) := kb.cell 1
      have c2 : wx.cell? ⟨g5, 2, none⟩ = some (.slice B2 m2 d2) := kb.cell 2
      have c3 : wx.cell? ⟨g5, 3, none⟩ = some (.slice B3 m3 d3) := kb.cell 3
      have c4 : wx.cell? ⟨g5, 4, none⟩ = some (.int .i64 st) := kb.cell 4
      go_simp
      exact hK s wx (fun _ _ => rfl) hR
    refine StepAll.cons (fun D s wx hR (hDi : D 3 = false) hd hsh a' hs K hK => ?_) ?_
    · have e11 := hs.at_ 1 11 (u := .pointer (some ⟨g, 0, none⟩)) rfl (hd ⟨1, .data⟩ (by simp) rfl) (by kernel_rfl) (by kernel_rfl) rfl
      have e12 := hs.at_ 2 12 (u := .agg #[.int .i64 os, .slice B1 m1 d1, .slice B2 m2 d2, .slice B3 m3 d3, .int .i64 st]) rfl (hd ⟨2, .data⟩ (by simp) rfl) (by kernel_rfl) (by kernel_rfl) rfl
      have g11 := getQ e11
      have g12 := getQ e12
      clear hs
      have n5 : D 5 = false := hsh.no hDi 5 rfl ⟨3, .data⟩ (by simp) rfl rfl
      go_simp
      cases h4 : D 4 with
      | true =>
        have s1 : St w wx (rRd w g 400 :: [rBlk w.heap.size 28 #[.int .i64 os, .slice B1 m1 d1, .slice B2 m2 d2, .slice B3 m3 d3, .int .i64 st], rBlk (w.heap.size + 1) 50 #[.int .i64 0, .int .i64 0], rBlk g5 28 #[.int .i64 os, .slice B1 m1 d1, .slice B2 m2 d2, .slice B3 m3 d3, .int .i64 st], rBook (.agg #[.int .i64 os, .slice B1 m1 d1, .slice B2 m2 d2, .slice B3 m3 d3, .int .i64 st]) b]) := hR.to_st [0, 1, 2, 3, 4] (by decide) (by simp only [List.map, hDi, n5, h4] <;> rfl)
        refine (l20Act_rd s1 (by omega) 3 rfl).mono ?_
        rintro e2 w2 ⟨ak, am, rfl, hak, ham, s2⟩
        refine hK ⟨(ak, am), hak, ham⟩ w2
          (fun j hj => by
            match j, hj with
            | 0, hj => rfl
            | 1, hj => rfl
            | 2, hj => rfl
            | 3, hj => rw [hDi] at hj; cases hj
            | 4, hj => rfl
            | 5, hj => rw [n5] at hj; cases hj
            | _ + 6, hj => rfl)
          ((Sn.of_st s2).congr (fun i => by
            match i with
            | 0 => rfl
            | 1 => (show some (rBlk _ _ (if D 4 = true then _ else _)) = _; rw [h4] <;> rfl)
            | 2 => (show some (rBlk _ _ (if D 5 = true then _ else _)) = _; rw [n5] <;> rfl)
            | 3 => rfl
            | 4 => rfl
            | q + 5 => rfl))
      | false =>
        have s1 : St w wx (rRd w g 400 :: [rBlk w.heap.size 28 #[.int .i64 0, .slice none 0 0, .slice none 0 0, .slice none 0 0, .int .i64 0], rBlk (w.heap.size + 1) 50 #[.int .i64 0, .int .i64 0], rBlk g5 28 #[.int .i64 os, .slice B1 m1 d1, .slice B2 m2 d2, .slice B3 m3 d3, .int .i64 st], rBook (.agg #[.int .i64 os, .slice B1 m1 d1, .slice B2 m2 d2, .slice B3 m3 d3, .int .i64 st]) b]) := hR.to_st [0, 1, 2, 3, 4] (by decide) (by simp only [List.map, hDi, n5, h4] <;> rfl)
        refine (l20Act_rd s1 (by omega) 3 rfl).mono ?_
        rintro e2 w2 ⟨ak, am, rfl, hak, ham, s2⟩
        refine hK ⟨(ak, am), hak, ham⟩ w2
          (fun j hj => by
            match j, hj with
            | 0, hj => rfl
            | 1, hj => rfl
            | 2, hj => rfl
            | 3, hj => rw [hDi] at hj; cases hj
            | 4, hj => rfl
            | 5, hj => rw [n5] at hj; cases hj
            | _ + 6, hj => rfl)
          ((Sn.of_st s2).congr (fun i => by
            match i with
            | 0 => rfl
            | 1 => (show some (rBlk _ _ (if D 4 = true then _ else _)) = _; rw [h4] <;> rfl)
            | 2 => (show some (rBlk _ _ (if D 5 = true then _ else _)) = _; rw [n5] <;> rfl)
            | 3 => rfl
            | 4 => rfl
            | q + 5 => rfl))
    refine StepAll.cons (fun D s wx hR (hDi : D 4 = false) hd hsh a' hs K hK => ?_) ?_
    · have e2 := hs.old 2 (u := .pointer (some ⟨w.heap.size, 0, none⟩)) (by kernel_rfl) rfl
      have e10 := hs.at_ 0 10 (u := .agg #[.int .i64 os, .slice B1 m1 d1, .slice B2 m2 d2, .slice B3 m3 d3, .int .i64 st]) rfl (hd ⟨0, .data⟩ (by simp) rfl) (by kernel_rfl) (by kernel_rfl) rfl
      clear hs
      have kb : Blk wx w.heap.size 28 #[.int .i64 0, .slice none 0 0, .slice none 0 0, .slice none 0 0, .int .i64 0] := hR.blk 1 (by simp only [hDi] <;> rfl)
      have f0 := kb.frozen
      have c0 : wx.cell? ⟨w.heap.size, 0, none⟩ = some (.int .i64 0) := kb.cell 0
      have c1 : wx.cell? ⟨w.heap.size, 1, none⟩ = some (.slice none 0 0) := kb.cell 1
      have c2 : wx.cell? ⟨w.heap.size, 2, none⟩ = some (.slice none 0 0) := kb.cell 2
      have c3 : wx.cell? ⟨w.heap.size, 3, none⟩ = some (.slice none 0 0) := kb.cell 3
      have c4 : wx.cell? ⟨w.heap.size, 4, none⟩ = some (.int .i64 0) := kb.cell 4
      go_simp
      exact hK s _ (fun _ _ => rfl) ((hR.set5 1 (by simp only [hDi]; rfl) _ _ _ _ _).congr
          (fun i => by
            match i with
            | 0 => rfl
            | 1 => rfl
            | 2 => rfl
            | 3 => rfl
            | 4 => rfl
            | q + 5 => exact (if_neg (show ¬ (q + 5 = 1) by omega)).symm))
    refine StepAll.cons (fun D s wx hR (hDi : D 5 = false) hd hsh a' hs K hK => ?_) ?_
    · have e3 := hs.old 3 (u := .pointer (some ⟨(w.heap.size + 1), 0, none⟩)) (by kernel_rfl) rfl
      have e13 := hs.at_ 3 13 (u := .agg #[.int .i64 s.1.1, .int .i64 s.1.2]) rfl (hd ⟨3, .data⟩ (by simp) rfl) (by kernel_rfl) (by kernel_rfl) rfl
      clear hs
      have kb : Blk wx (w.heap.size + 1) 50 #[.int .i64 0, .int .i64 0] := hR.blk 2 (by simp only [hDi] <;> rfl)
      have f0 := kb.frozen
      have c0 : wx.cell? ⟨w.heap.size + 1, 0, none⟩ = some (.int .i64 0) := kb.cell 0
      have c1 : wx.cell? ⟨w.heap.size + 1, 1, none⟩ = some (.int .i64 0) := kb.cell 1
      go_simp
      exact hK s _ (fun _ _ => rfl) ((hR.set2 2 (a := .int .i64 0) (b := .int .i64 0) (by simp only [hDi]; rfl) _ _).congr
          (fun i => by
            match i with
            | 0 => rfl
            | 1 => rfl
            | 2 => rfl
            | 3 => rfl
            | 4 => rfl
            | q + 5 => exact (if_neg (show ¬ (q + 5 = 2) by omega)).symm))
    exact StepAll.nil
  · intro D s wx hR hD
    simp only [putA, Act.put, List.setIfInBounds_toArray, List.set_cons_zero, List.set_cons_succ]
    obtain ⟨⟨ak, am⟩, hak, ham⟩ := s
    have HS3 : Hid (St w wx [rBlk w.heap.size 28 #[.int .i64 os, .slice B1 m1 d1, .slice B2 m2 d2, .slice B3 m3 d3, .int .i64 st], rBlk (w.heap.size + 1) 50 #[.int .i64 ak, .int .i64 am], rBook (.agg #[.int .i64 os, .slice B1 m1 d1, .slice B2 m2 d2, .slice B3 m3 d3, .int .i64 st]) b]) := Lib.hid (hR.to_st [1, 2, 4] (by decide) (by simp only [List.map, hD 4 (by decide), hD 5 (by decide)] <;> rfl))
    clear hR hD HS2
    have q0 : ∀ j, wx.cell? ⟨w.heap.size, j, none⟩ = _ := HS3.out.cells 0 rfl
    have q1 : ∀ j, wx.cell? ⟨w.heap.size + 1, j, none⟩ = _ := HS3.out.cells 1 rfl
    go_wp2
    refine bodyPost_ret (v := .tuple #[.agg #[.int .i64 os, .slice B1 m1 d1, .slice B2 m2 d2, .slice B3 m3 d3, .int .i64 st], .agg #[.int .i64 ak, .int .i64 am]]) (by simp [results, Try.results29, go_sem, q0, q1]) rfl ⟨_, b, ak, am, rfl, wf_i64_mk (by omega), ?_⟩
    exact HS3.out.pick [2] (by decide) rfl rfl
end Go.Proofs.Ytkebgldeahklmaa
