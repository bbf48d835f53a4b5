/- The walk of the law FnBookValid: true for every drawn code. Printed by gen_lawbv.py. -/
import Derived.Test.YtdbgoekemffimaaSDraws
import Derived.Test.YtdbgoekemffimaaSGraph
import Derived.Test.YtdbgoekemffimaaSBValid
namespace Go.Proofs.Ytdbgoekemffimaa
set_option linter.unusedVariables false
set_option linter.unusedSimpArgs false
open Go.ChangeShapes Go.WideShapes Go.ChangeAt Go.RowKit

theorem bare_ok {b : BookD} (hb : bookOk b = true) : bookOk ⟨b.order, [], b.order.start⟩ = true := by
  obtain ⟨h1, -, -, -⟩ := bookOk_parts hb
  have hs := (taskOk_parts _ h1).1
  have e : planRun b.order b.order.start [] = b.order.start := by
    unfold planRun
    rw [if_pos ⟨h1, (stIn_iff _).2 hs, by simp⟩]
    simp only [runP, opt]; omega
  have := bookOk_mk (o := b.order) (d := []) (by rw [e]; exact hs.1)
  rw [e] at this
  exact this
theorem wrong_no {b : BookD} (hb : bookOk b = true) {x : Int} (hx : x ≠ b.state) : bookOk ⟨b.order, b.done, x⟩ = false := by
  cases h : bookOk ⟨b.order, b.done, x⟩ with
  | false => rfl
  | true => exact absurd ((bookOk_parts h).2.2.2.symm.trans (bookOk_parts hb).2.2.2) hx
theorem xor_one_ne (a : Nat) : a ^^^ 1 ≠ a := fun h => by
  have := congrArg (·.testBit 0) h
  simp [Nat.testBit_xor] at this
  omega
theorem RdBM.bare {M B : Nat} {w : World} {s st : Int} {x y z : Value} {b : BookD} (h : RdBM M w B (.agg #[.int .i64 s, x, y, z, .int .i64 st]) b) : RdBM M w B (.agg #[.int .i64 s, x, y, .slice none 0 0, .int .i64 s]) ⟨b.order, [], b.order.start⟩ := by
  obtain ⟨A, n, c, A', n', c', A2, n2, c2, e, h1, h2, h3, h4, h5, h6, h7⟩ := h
  simp only [Value.agg.injEq, Array.mk.injEq, List.cons.injEq, Value.int.injEq, true_and, and_true] at e
  obtain ⟨rfl, rfl, rfl, rfl, rfl⟩ := e
  exact ⟨A, n, c, A', n', c', none, 0, 0, rfl, h1, h2, h3, h4, RdI.nil_ _ _ _, Nat.zero_le _, h4⟩
theorem RdBM.state' {M B : Nat} {w : World} {s st : Int} {x y z : Value} {b : BookD} (h : RdBM M w B (.agg #[.int .i64 s, x, y, z, .int .i64 st]) b) (k : Int) (hk : (Lit.int .i64 k).wf = true) : RdBM M w B (.agg #[.int .i64 s, x, y, z, .int .i64 k]) ⟨b.order, b.done, k⟩ := by
  obtain ⟨A, n, c, A', n', c', A2, n2, c2, e, h1, h2, h3, h4, h5, h6, h7⟩ := h
  simp only [Value.agg.injEq, Array.mk.injEq, List.cons.injEq, Value.int.injEq, true_and, and_true] at e
  obtain ⟨rfl, rfl, rfl, rfl, rfl⟩ := e
  exact ⟨A, n, c, A', n', c', A2, n2, c2, rfl, h1, h2, h3, h4, h5, h6, hk⟩
set_option maxRecDepth 100000 in
set_option maxHeartbeats 1000000 in
theorem FnBookValid_walk (A : Option Addr) (n c : Nat) (xs : List Int) (w : World) (h : RdI .u8 w w.heap.size A n c xs) :
    Calls Try.prog 8 #[.slice A n c] w fun e w' => e = .returned (.bool true) ∧ Below w.heap.size w w' := by
  have hcap := h.cap
  have hmax := h.capMax
  unfold maxLen at hmax
  have H := Lib.hid h
  clear h
  by_cases hn : n ≤ 1048576
  case neg =>
    go_enter Try.func8, Try.ntmps8
    go_wp2
    go_ret
    exact ⟨rfl, Below.refl _ _⟩
  go_enter Try.func8, Try.ntmps8
  go_wp2_with fail
  refine (drawBookValid A n c xs _ H.out).mono ?_
  rintro e w1 ⟨v1, b, rfl, s1⟩
  obtain ⟨B1, m1, d1, B2, m2, d2, B3, m3, d3, hv⟩ := s1.formB 0 rfl
  obtain ⟨os, hos⟩ : ∃ x, b.order.start = x := ⟨_, rfl⟩
  obtain ⟨st, hst⟩ : ∃ x, b.state = x := ⟨_, rfl⟩
  have HOS := Bx.mk hos
  have HST := Bx.mk hst
  rw [hos, hst] at hv
  subst hv
  obtain ⟨g3, hg3⟩ : ∃ x, w1.heap.size = x := ⟨_, rfl⟩
  have HS1 : Hid (St w (w1.alloc (.cells #[.int .i64 os, .slice B1 m1 d1, .slice B2 m2 d2, .slice B3 m3 d3, .int .i64 st] 63)) [rBook (.agg #[.int .i64 os, .slice B1 m1 d1, .slice B2 m2 d2, .slice B3 m3 d3, .int .i64 st]) b, rBlk g3 63 #[.int .i64 os, .slice B1 m1 d1, .slice B2 m2 d2, .slice B3 m3 d3, .int .i64 st]]) := Lib.hid (by rw [← hg3]; exact s1.alloc _ _)
  clear s1 hos hst
  obtain ⟨bo, hbo⟩ : ∃ y, bookOk b = y := ⟨_, rfl⟩
  have HBO := Bx.mk hbo
  clear hbo
  try rw [hg3]
  have q1 : ∀ j, (w1.alloc (.cells #[.int .i64 os, .slice B1 m1 d1, .slice B2 m2 d2, .slice B3 m3 d3, .int .i64 st] 63)).cell? ⟨g3, j, none⟩ = _ := HS1.out.cells 1 rfl
  go_wp2_with fail
  refine (bookValid_impl _ b _ (HS1.out.rdB 0 rfl)).mono ?_
  rw [HBO.out]
  rintro e w2 ⟨rfl, hb_w2⟩
  have HS2 := Lib.hid (HS1.out.quiet hb_w2)
  clear hb_w2 HS1 q1
  have q2 : ∀ j, w2.cell? ⟨g3, j, none⟩ = _ := HS2.out.cells 1 rfl
  go_wp2_with fail
  refine (bookValid_spec _ b _ (HS2.out.rdB 0 rfl)).mono ?_
  rw [HBO.out]
  rintro e w3 ⟨rfl, hb_w3⟩
  have HS3 := Lib.hid (HS2.out.quiet hb_w3)
  clear hb_w3 HS2 q2
  have q3 : ∀ j, w3.cell? ⟨g3, j, none⟩ = _ := HS3.out.cells 1 rfl
  cases bo with
  | false =>
    go_wp2_with fail
    refine (bookValid_impl _ zeroB _ ((St.book0 (w := w3) (Below.refl _ _)).rdB 0 rfl)).mono ?_
    rw [show bookOk zeroB = false from rfl]
    rintro e w4 ⟨rfl, hb4⟩
    have HS4 := Lib.hid (HS3.out.quiet hb4)
    clear hb4 HS3 q3
    go_wp2_with fail
    refine (alive_any _).mono ?_
    rintro e wa ⟨rfl, hba⟩
    have HSA := Lib.hid (HS4.out.quiet hba).below
    clear hba
    go_wp2
    go_ret
    exact ⟨rfl, HSA.out⟩
  | true =>
    obtain ⟨f1, f2, f3, f4⟩ := bookOk_parts HBO.out
    rw [HST.out] at f3
    obtain ⟨wv, hwv⟩ : ∃ y, st.toNat ^^^ (1 : Int).toNat = y := ⟨_, rfl⟩
    have hw1 : wv < 2 ^ 5 := by rw [← hwv]; exact Nat.xor_lt_two_pow (by omega) (by decide)
    have hw2 : (wv : Int) ≠ st := by
      have := xor_one_ne st.toNat
      rw [show (1 : Int).toNat = 1 from rfl] at hwv
      omega
    have HWV := Bx.mk hwv
    have HS0 : Hid (0 ≤ st ∧ st < 32) := Lib.hid f3
    have HBARE := Bx.mk (bare_ok HBO.out)
    have HWR := Bx.mk (wrong_no HBO.out (x := (wv : Int)) (by rw [HST.out]; exact hw2))
    have HWF := Bx.mk (wf_i64_mk (x := (wv : Int)) (by omega))
    clear f1 f2 f3 f4 hw1 hw2 hwv
    obtain ⟨g5, hg5⟩ : ∃ y, w3.heap.size = y := ⟨_, rfl⟩
    obtain ⟨w6, hw6⟩ : ∃ y, w3.alloc (.cells #[.int .i64 os, .slice B1 m1 d1, .slice B2 m2 d2, .slice none 0 0, .int .i64 os] 63) = y := ⟨_, rfl⟩
    have HS6 : Hid (St w w6 [rBook (.agg #[.int .i64 os, .slice B1 m1 d1, .slice B2 m2 d2, .slice B3 m3 d3, .int .i64 st]) b, rBlk g3 63 #[.int .i64 os, .slice B1 m1 d1, .slice B2 m2 d2, .slice B3 m3 d3, .int .i64 st], rBlk g5 63 #[.int .i64 os, .slice B1 m1 d1, .slice B2 m2 d2, .slice none 0 0, .int .i64 os]]) := Lib.hid (by rw [← hg5, ← hw6]; exact HS3.out.alloc _ _)
    clear HS3
    go_upto_region 10 with (fail)
    try rw [hg5]
    try rw [hw6]
    clear hw6 hg5 hg3 q3
    refine wp_reg (σ := Nat) (by kernel_rfl) (by kernel_rfl) (by kernel_rfl)
      (fun s i => match i with
        | 0 => .pointer (some ⟨g3, 0, none⟩)
        | 1 => .agg #[.int .i64 os, .slice B1 m1 d1, .slice B2 m2 d2]
        | 2 => .pointer (some ⟨g3, 3, none⟩)
        | 3 => .slice B3 m3 d3
        | 4 => .pointer (some ⟨g3, 4, none⟩)
        | 5 => .int .i64 st
        | 6 => .int .i64 (wv : Nat)
        | 7 => .agg #[.int .i64 os, .slice B1 m1 d1, .slice B2 m2 d2, .slice B3 m3 d3, .int .i64 (wv : Nat)]
        | 8 => .pointer (some ⟨s, 0, none⟩)
        | _ => undef)
      (fun D s wx => Sn w wx fun i => match i with
        | 0 => some (rBook (.agg #[.int .i64 os, .slice B1 m1 d1, .slice B2 m2 d2, .slice B3 m3 d3, .int .i64 st]) b)
        | 1 => some (rBlk g3 63 #[.int .i64 os, .slice B1 m1 d1, .slice B2 m2 d2, .slice B3 m3 d3, .int .i64 st])
        | 2 => some (rBlk g5 63 #[.int .i64 os, .slice B1 m1 d1, .slice B2 m2 d2, .slice none 0 0, .int .i64 os])
        | 3 => if D 8 = true then some (rBlk s 63 (if D 9 = true then #[.int .i64 os, .slice B1 m1 d1, .slice B2 m2 d2, .slice B3 m3 d3, .int .i64 (wv : Nat)] else #[.int .i64 0, .slice none 0 0, .slice none 0 0, .slice none 0 0, .int .i64 0])) else none
        | _ => none)
      0 ?_ ?_ ?_
    · intro D hD
      refine ((Sn.of_st HS6.out).quiet ((Below.refl _ _).drew)).congr fun i => ?_
      match i with
      | 0 => rfl
      | 1 => rfl
      | 2 => rfl
      | 3 => simp only [hD 8 (by decide)]; rfl
      | q + 4 => rfl
    · refine StepAll.cons (fun D s wx hR (hDi : D 0 = false) hd hsh a' hs K hK => ?_) ?_
      · have e3 := hs.old 3 (u := .pointer (some ⟨g3, 0, none⟩)) (by kernel_rfl) rfl
        clear hs
        go_simp
        exact hK s wx (fun _ _ => rfl) hR
      refine StepAll.cons (fun D s wx hR (hDi : D 1 = false) hd hsh a' hs K hK => ?_) ?_
      · have e32 := hs.at_ 0 32 (u := .pointer (some ⟨g3, 0, none⟩)) rfl (hd ⟨0, .data⟩ (by simp) rfl) (by kernel_rfl) (by kernel_rfl) rfl
        clear hs
        have kb : Blk wx (g3) 63 #[.int .i64 os, .slice B1 m1 d1, .slice B2 m2 d2, .slice B3 m3 d3, .int .i64 st] := hR.blk 1 rfl
        have c0 : wx.cell? ⟨g3, 0, none⟩ = some (.int .i64 os) := kb.cell 0
        have c1 : wx.cell? ⟨g3, 1, none⟩ = some (.slice B1 m1 d1) := kb.cell 1
        have c2 : wx.cell? ⟨g3, 2, none⟩ = some (.slice B2 m2 d2) := kb.cell 2
        go_simp
        exact hK s wx (fun _ _ => rfl) hR
      refine StepAll.cons (fun D s wx hR (hDi : D 2 = false) hd hsh a' hs K hK => ?_) ?_
      · have e3 := hs.old 3 (u := .pointer (some ⟨g3, 0, none⟩)) (by kernel_rfl) rfl
        clear hs
        go_simp
        exact hK s wx (fun _ _ => rfl) hR
      refine StepAll.cons (fun D s wx hR (hDi : D 3 = false) hd hsh a' hs K hK => ?_) ?_
      · have e34 := hs.at_ 2 34 (u := .pointer (some ⟨g3, 3, none⟩)) rfl (hd ⟨2, .data⟩ (by simp) rfl) (by kernel_rfl) (by kernel_rfl) rfl
        clear hs
        have kb : Blk wx (g3) 63 #[.int .i64 os, .slice B1 m1 d1, .slice B2 m2 d2, .slice B3 m3 d3, .int .i64 st] := hR.blk 1 rfl
        have c0 : wx.cell? ⟨g3, 3, none⟩ = some (.slice B3 m3 d3) := kb.cell 3
        go_simp
        exact hK s wx (fun _ _ => rfl) hR
      refine StepAll.cons (fun D s wx hR (hDi : D 4 = false) hd hsh a' hs K hK => ?_) ?_
      · have e3 := hs.old 3 (u := .pointer (some ⟨g3, 0, none⟩)) (by kernel_rfl) rfl
        clear hs
        go_simp
        exact hK s wx (fun _ _ => rfl) hR
      refine StepAll.cons (fun D s wx hR (hDi : D 5 = false) hd hsh a' hs K hK => ?_) ?_
      · have e36 := hs.at_ 4 36 (u := .pointer (some ⟨g3, 4, none⟩)) rfl (hd ⟨4, .data⟩ (by simp) rfl) (by kernel_rfl) (by kernel_rfl) rfl
        clear hs
        have kb : Blk wx (g3) 63 #[.int .i64 os, .slice B1 m1 d1, .slice B2 m2 d2, .slice B3 m3 d3, .int .i64 st] := hR.blk 1 rfl
        have c0 : wx.cell? ⟨g3, 4, none⟩ = some (.int .i64 st) := kb.cell 4
        go_simp
        exact hK s wx (fun _ _ => rfl) hR
      refine StepAll.cons (fun D s wx hR (hDi : D 6 = false) hd hsh a' hs K hK => ?_) ?_
      · have e37 := hs.at_ 5 37 (u := .int .i64 st) rfl (hd ⟨5, .data⟩ (by simp) rfl) (by kernel_rfl) (by kernel_rfl) rfl
        have g37 := getQ e37
        clear hs
        go_simp
        refine (lawOther_any st 1 HS0.out.1 (by have := HS0.out.2; omega) (by omega) (by omega) _).mono ?_
        rw [HWV.out]
        rintro e2 w2 ⟨rfl, rfl⟩
        exact hK s wx (fun _ _ => rfl) hR
      refine StepAll.cons (fun D s wx hR (hDi : D 7 = false) hd hsh a' hs K hK => ?_) ?_
      · have e33 := hs.at_ 1 33 (u := .agg #[.int .i64 os, .slice B1 m1 d1, .slice B2 m2 d2]) rfl (hd ⟨1, .data⟩ (by simp) rfl) (by kernel_rfl) (by kernel_rfl) rfl
        have e35 := hs.at_ 3 35 (u := .slice B3 m3 d3) rfl (hd ⟨3, .data⟩ (by simp) rfl) (by kernel_rfl) (by kernel_rfl) rfl
        have e38 := hs.at_ 6 38 (u := .int .i64 (wv : Nat)) rfl (hd ⟨6, .data⟩ (by simp) rfl) (by kernel_rfl) (by kernel_rfl) rfl
        have g33 := getQ e33
        have g35 := getQ e35
        have g38 := getQ e38
        clear hs
        go_simp
        exact hK s wx (fun _ _ => rfl) hR
      refine StepAll.cons (fun D s wx hR (hDi : D 8 = false) hd hsh a' hs K hK => ?_) ?_
      · clear hs
        have n9 : D 9 = false := hsh.no hDi 9 rfl ⟨8, .data⟩ (by simp) rfl rfl
        go_simp
        refine hK wx.heap.size _
          (fun j hj => by
            match j, hj with
            | 0, hj => rfl
            | 1, hj => rfl
            | 2, hj => rfl
            | 3, hj => rfl
            | 4, hj => rfl
            | 5, hj => rfl
            | 6, hj => rfl
            | 7, hj => rfl
            | 8, hj => rw [hDi] at hj; cases hj
            | 9, hj => rfl
            | _ + 10, hj => rfl)
          ((hR.add 3 (if_neg (by rw [hDi]; simp)) (St.new1 wx #[.int .i64 0, .slice none 0 0, .slice none 0 0, .slice none 0 0, .int .i64 0] 63)).congr
            (fun i => by
              match i with
              | 0 => rfl
              | 1 => rfl
              | 2 => rfl
              | 3 => (show some (rBlk _ _ (if D 9 = true then _ else _)) = some (rBlk _ _ _); rw [n9] <;> rfl)
              | q + 4 => exact (if_neg (show ¬ (q + 4 = 3) by omega)).symm))
      refine StepAll.cons (fun D s wx hR (hDi : D 9 = false) hd hsh a' hs K hK => ?_) ?_
      · have e6 := hs.at_ 8 6 (u := .pointer (some ⟨s, 0, none⟩)) rfl (hd ⟨8, .data⟩ (by simp) rfl) (by kernel_rfl) (by kernel_rfl) rfl
        have e39 := hs.at_ 7 39 (u := .agg #[.int .i64 os, .slice B1 m1 d1, .slice B2 m2 d2, .slice B3 m3 d3, .int .i64 (wv : Nat)]) rfl (hd ⟨7, .data⟩ (by simp) rfl) (by kernel_rfl) (by kernel_rfl) rfl
        clear hs
        have d8 : D 8 = true := hd ⟨8, .data⟩ (by simp) rfl
        have kb : Blk wx s 63 #[.int .i64 0, .slice none 0 0, .slice none 0 0, .slice none 0 0, .int .i64 0] := hR.blk 3 (by simp only [d8, hDi] <;> rfl)
        have f0 := kb.frozen
        have c0 : wx.cell? ⟨s, 0, none⟩ = some (.int .i64 0) := kb.cell 0
        have c1 : wx.cell? ⟨s, 1, none⟩ = some (.slice none 0 0) := kb.cell 1
        have c2 : wx.cell? ⟨s, 2, none⟩ = some (.slice none 0 0) := kb.cell 2
        have c3 : wx.cell? ⟨s, 3, none⟩ = some (.slice none 0 0) := kb.cell 3
        have c4 : wx.cell? ⟨s, 4, none⟩ = some (.int .i64 0) := kb.cell 4
        go_simp
        exact hK s _ (fun _ _ => rfl) ((hR.set5 3 (by simp only [d8, hDi]; rfl) _ _ _ _ _).congr
            (fun i => by
              match i with
              | 0 => rfl
              | 1 => rfl
              | 2 => rfl
              | 3 => (show (if D 8 = true then some (rBlk _ _ _) else none) = some (rBlk _ _ _); rw [d8]; rfl)
              | q + 4 => exact (if_neg (show ¬ (q + 4 = 3) by omega)).symm))
      exact StepAll.nil
    · intro D s wx hR hD
      simp only [putA, Act.put, List.setIfInBounds_toArray, List.set_cons_zero, List.set_cons_succ]
      have HS7 : Hid (St w wx [rBook (.agg #[.int .i64 os, .slice B1 m1 d1, .slice B2 m2 d2, .slice B3 m3 d3, .int .i64 st]) b, rBlk g3 63 #[.int .i64 os, .slice B1 m1 d1, .slice B2 m2 d2, .slice B3 m3 d3, .int .i64 st], rBlk g5 63 #[.int .i64 os, .slice B1 m1 d1, .slice B2 m2 d2, .slice none 0 0, .int .i64 os], rBlk s 63 #[.int .i64 os, .slice B1 m1 d1, .slice B2 m2 d2, .slice B3 m3 d3, .int .i64 (wv : Nat)]]) := Lib.hid (hR.to_st [0, 1, 2, 3] (by decide) (by simp only [List.map, hD 8 (by decide), hD 9 (by decide)] <;> rfl))
      clear hR hD HS6
      have q5 : ∀ j, wx.cell? ⟨g5, j, none⟩ = _ := HS7.out.cells 2 rfl
      have q6 : ∀ j, wx.cell? ⟨s, j, none⟩ = _ := HS7.out.cells 3 rfl
      have hbare := (HS7.out.rdB 0 rfl).bare
      rw [HOS.out] at hbare
      have HBR := Lib.hid hbare
      clear hbare
      go_wp2_with fail
      refine (bookValid_impl _ ⟨b.order, [], os⟩ _ HBR.out).mono ?_
      have e1 := HBARE.out
      rw [HOS.out] at e1
      rw [e1]
      clear e1
      rintro e w8 ⟨rfl, hb8⟩
      have HS8 := Lib.hid (HS7.out.quiet hb8)
      clear hb8 HS7 q5 q6 HBR
      have q6 : ∀ j, w8.cell? ⟨s, j, none⟩ = _ := HS8.out.cells 3 rfl
      go_wp2_with fail
      refine (bookValid_impl _ ⟨b.order, b.done, (wv : Int)⟩ _ ((HS8.out.rdB 0 rfl).state' _ HWF.out)).mono ?_
      rw [HWR.out]
      rintro e w9 ⟨rfl, hb9⟩
      have HSA := Lib.hid (HS8.out.quiet hb9).below
      clear hb9 HS8
      go_wp2
      go_ret
      exact ⟨rfl, HSA.out⟩
end Go.Proofs.Ytdbgoekemffimaa
