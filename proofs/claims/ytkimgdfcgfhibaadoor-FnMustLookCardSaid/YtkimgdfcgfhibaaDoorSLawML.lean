/- The walk of FnMustLook. Printed by gen_lawml.py. -/
import Derived.Test.YtkimgdfcgfhibaaDoorSNumd
import Derived.Test.YtkimgdfcgfhibaaDoorSMustI
import Derived.Test.YtkimgdfcgfhibaaDoorSMustS
import Derived.Test.YtkimgdfcgfhibaaDoorSMost
import Derived.Test.YtkimgdfcgfhibaaDoorSPlanForW
import Derived.Test.YtkimgdfcgfhibaaDoorSTurnP
import Derived.Test.YtkimgdfcgfhibaaDoorSGraph
namespace Go.Proofs.YtkimgdfcgfhibaaDoor
set_option linter.unusedVariables false
set_option linter.unusedSimpArgs false
open Go.ChangeShapes Go.WideShapes Go.ChangeAt Go.RowKit

theorem step_make2 {P : Program} {o : Oper} {a : Act} {K : Act → World → Prop} {Q : Exit → Act → World → Prop} {w : World} (l c : Operand) (t : TypeId) (hop : o.op = Op.makeSlice t l c)
    (e : TypeId) (i : TypeInfo) (z : Value) (size : Nat) (h1 : P.underlying t = some (.slice e)) (h2 : P.info? e = some i) (h3 : i.zero = some z) (h4 : i.size = size)
    (kl kc : IntKind) (n : Nat) (hl : a.eval l = .int kl (n : Int)) (hc : a.eval c = .int kc (n : Int)) (b2 : i.bytes * n ≤ 281474976710656) (b3 : n ≤ maxLen)
    (hK : ∀ w', w'.ownsRow w.heap.size e size (.slice (some ⟨w.heap.size, 0, none⟩) n n) n (madeCells z.cells (n * size)).toList → w.grownBy w' none → K (a.put o.dst (.slice (some ⟨w.heap.size, 0, none⟩) n n)) w') : Oper.wp P o a w K Q := by
  obtain ⟨w', hrun, r1, r2⟩ := run_make_full (P := P) w w.heap.size t e i z size h1 h2 h3 h4 kl kc n b2 b3 (Nat.le_refl _)
  unfold Oper.wp
  simp [execOp, hop, hl, hc, hrun, Result.andThen]
  exact hK w' r1 r2
theorem intsF_zero : (intsF fun _ => 0) = List.replicate 32 0 := by decide
set_option maxRecDepth 100000 in
set_option maxHeartbeats 1000000 in
theorem FnMustLook_walk (A : Option Addr) (n c : Nat) (xs : List Int) (w : World) (h : RdI .u8 w w.heap.size A n c xs) (he : ErrH w) :
    Calls Tryd.prog 5 #[.slice A n c] w fun e w' => e = .returned (.bool true) ∧ Below w.heap.size w w' := by
  have hcap := h.cap
  have hmax := h.capMax
  unfold maxLen at hmax
  have H := Lib.hid h
  have HE := Lib.hid he
  obtain ⟨i0, hi, hz0, hz1, hz2⟩ := elInt.hi
  clear h he
  by_cases hn : n ≤ 1048576
  case neg =>
    go_enter Tryd.func5, Tryd.ntmps5
    go_wp2
    go_ret
    exact ⟨rfl, Below.refl _ _⟩
  go_enter Tryd.func5, Tryd.ntmps5
  go_wp2_with fail
  refine (drawMustLook A n c xs _ H.out).mono ?_
  rintro e w1 ⟨v1, t, nv, ns, rfl, s1⟩
  obtain ⟨A1, j1, c1, A2, j2, c2, hv⟩ := s1.formT 0 rfl
  subst hv
  obtain ⟨m3, hm3⟩ : ∃ m3, ns.length = m3 := ⟨_, rfl⟩
  obtain ⟨A3, c3, hv⟩ := s1.formN 1 rfl hm3
  subst hv
  obtain ⟨T, hT⟩ : ∃ T, w1.heap.size = T := ⟨_, rfl⟩
  have HS1 : Hid (St w (w1.alloc (.cells #[.int .i64 t.start, .slice A1 j1 c1, .slice A2 j2 c2] 26)) [rTask (.agg #[.int .i64 t.start, .slice A1 j1 c1, .slice A2 j2 c2]) t, rBlk T 26 #[.int .i64 t.start, .slice A1 j1 c1, .slice A2 j2 c2], rInts (.slice A3 m3 c3) ns]) := Lib.hid (by rw [← hT]; exact (s1.alloc #[.int .i64 t.start, .slice A1 j1 c1, .slice A2 j2 c2] 26).pick [0, 2, 1] (by decide) rfl rfl)
  clear s1 hm3
  obtain ⟨m, hm⟩ : ∃ m, mustLook t ns = m := ⟨_, rfl⟩
  have HM := Bx.mk hm
  clear hm
  try rw [hT]
  have q1 : ∀ j, (w1.alloc (.cells #[.int .i64 t.start, .slice A1 j1 c1, .slice A2 j2 c2] 26)).cell? ⟨T, j, none⟩ = _ := HS1.out.cells 1 rfl
  go_wp2_with fail
  refine (mustLook_impl _ t A3 m3 c3 ns _ (HS1.out.rdT 0 rfl) (HS1.out.rdI' 2 rfl) (HE.out.up HS1.out.below)).mono ?_
  rw [HM.out]
  rintro e w2 ⟨rfl, hb2⟩
  have HS2 := Lib.hid (HS1.out.quiet hb2)
  clear hb2 HS1 q1
  have q1 : ∀ j, w2.cell? ⟨T, j, none⟩ = _ := HS2.out.cells 1 rfl
  go_wp2_with fail
  refine (mustLook_spec _ t A3 m3 c3 ns _ (HS2.out.rdT 0 rfl) (HS2.out.rdI' 2 rfl)).mono ?_
  rw [HM.out]
  rintro e w3 ⟨rfl, hb3⟩
  have HS3 := Lib.hid (HS2.out.quiet hb3)
  clear hb3 HS2 q1
  by_cases hneg : m < 0
  · have hm1 : m = -1 := by rw [← HM.out]; exact (must_nonneg (by rw [HM.out]; exact hneg)).2
    subst hm1
    clear hneg
    go_wp2_with fail
    refine (alive_any _).mono ?_
    rintro e w5 ⟨rfl, hb5⟩
    have HB5 := Lib.hid (HS3.out.quiet hb5).below
    clear hb5
    go_wp2
    go_ret
    exact ⟨rfl, HB5.out⟩
  have hN : numsOk t ns = true := by
    cases e : numsOk t ns with
    | true => rfl
    | false =>
      have := HM.out
      rw [mustLook_no e] at this
      omega
  have hOK : taskOk t = true := (numsOk_iff.1 hN).ok
  obtain ⟨m0, hm0⟩ : ∃ m0, mustLook t (intsF fun _ => 0) = m0 := ⟨_, rfl⟩
  have HM0 := Bx.mk hm0
  have HGE : Bx (m ≤ m0) := Bx.mk (by rw [← hm0, ← HM.out, intsF_zero]; exact must_zero (numsOk_iff.1 hN))
  have HNL : Bx ((numsFor t).length = 32) := Bx.mk (numsFor_ok hOK).len
  have HOK := Bx.mk hOK
  clear hm0 hN hOK
  have q1 : ∀ j, w3.cell? ⟨T, j, none⟩ = _ := HS3.out.cells 1 rfl
  obtain ⟨po, hpo⟩ : ∃ po, planFor t = po := ⟨_, rfl⟩
  have HPO := Bx.mk hpo
  go_wp2_with fail
  refine (planFor_impl _ t _ (HS3.out.rdT 0 rfl)).mono ?_
  rw [hpo]
  rintro e w6 ⟨v6, rfl, s6⟩
  have HS6 : Hid (St w w6 [rTask (.agg #[.int .i64 t.start, .slice A1 j1 c1, .slice A2 j2 c2]) t, rBlk T 26 #[.int .i64 t.start, .slice A1 j1 c1, .slice A2 j2 c2], rInts (.slice A3 m3 c3) ns]) := Lib.hid ((HS3.out.call s6).pick [0, 1, 2] (by decide) rfl rfl)
  clear s6 HS3 q1 hpo
  cases po with
  | none =>
    simp only [Option.isSome_none, Option.getD_none]
    go_upto_region 10 with (fail)
    refine wp_reg (σ := (Option Addr × Nat) × Nat) (by kernel_rfl) (by kernel_rfl) (by kernel_rfl)
      (fun s i => match i with
        | 0 => .bool false
        | 1 => .bool true
        | 2 => .bool true
        | 8 => .bool true
        | 9 => .bool true
        | 10 => .agg #[.int .i64 t.start, .slice A1 j1 c1, .slice A2 j2 c2]
        | 11 => .slice (some ⟨s.2, 0, none⟩) 32 32
        | 12 => .int .i64 m0
        | 13 => .int .i64 m
        | 14 => .bool true
        | 15 => .bool true
        | 16 => .bool true
        | _ => undef)
      (fun D s wx => Sn w wx fun i => match i with
        | 0 => some (rTask (.agg #[.int .i64 t.start, .slice A1 j1 c1, .slice A2 j2 c2]) t)
        | 1 => some (rBlk T 26 #[.int .i64 t.start, .slice A1 j1 c1, .slice A2 j2 c2])
        | 2 => some (rInts (.slice A3 m3 c3) ns)
        | 3 => none
        | 4 => if D 11 = true then some (rInts (.slice (some ⟨s.2, 0, none⟩) 32 32) (intsF fun _ => 0)) else none
        | _ => none)
      ((none, 0), 0) ?_ ?_ ?_
    · intro D hD
      refine ((Sn.of_st HS6.out).quiet ((Below.refl _ _).drew)).congr fun i => ?_
      match i with
      | 0 => rfl
      | 1 => rfl
      | 2 => rfl
      | 3 => rfl
      | 4 => exact if_neg (by rw [hD 11 (by decide)]; simp)
      | q + 5 => rfl
    · refine StepAll.cons (fun D s wx hR (hDi : D 0 = false) hd hsh a' hs K hK => ?_) ?_
      · have e7 := hs.old 7 (u := .bool false) (by kernel_rfl) rfl
        clear hs
        go_simp
        exact hK s wx (fun _ _ => rfl) hR
      refine StepAll.cons (fun D s wx hR (hDi : D 1 = false) hd hsh a' hs K hK => ?_) ?_
      · have e36 := hs.at_ 0 36 (u := .bool false) rfl (hd ⟨0, .data⟩ (by simp) rfl) (by kernel_rfl) (by kernel_rfl) rfl
        clear hs
        go_simp
        exact hK s wx (fun _ _ => rfl) hR
      refine StepAll.cons (fun D s wx hR (hDi : D 2 = false) hd hsh a' hs K hK => ?_) ?_
      · have e37 := hs.at_ 1 37 (u := .bool true) rfl (hd ⟨1, .data⟩ (by simp) rfl) (by kernel_rfl) (by kernel_rfl) rfl
        clear hs
        go_simp
        exact hK s wx (fun _ _ => rfl) hR
      refine StepAll.consG (fun D s wx hR (hDi : D 3 = false) hd hsh a' hs K hK => ?_) ?_
      · have eg := hs.at_ 2 38 (u := .bool true) rfl (hd ⟨2, .guard⟩ (by simp) rfl) (by kernel_rfl) (by kernel_rfl) rfl
        rw [if_neg (by rw [hs.wants (j := 2) (t := 38) rfl rfl eg (by kernel_rfl)]; simp)]
        exact hK s wx (fun _ _ => rfl) hR
      refine StepAll.consG (fun D s wx hR (hDi : D 4 = false) hd hsh a' hs K hK => ?_) ?_
      · have eg := hs.at_ 2 38 (u := .bool true) rfl (hd ⟨2, .guard⟩ (by simp) rfl) (by kernel_rfl) (by kernel_rfl) rfl
        rw [if_neg (by rw [hs.wants (j := 2) (t := 38) rfl rfl eg (by kernel_rfl)]; simp)]
        exact hK s wx (fun _ _ => rfl) hR
      refine StepAll.consG (fun D s wx hR (hDi : D 5 = false) hd hsh a' hs K hK => ?_) ?_
      · have eg := hs.at_ 2 38 (u := .bool true) rfl (hd ⟨2, .guard⟩ (by simp) rfl) (by kernel_rfl) (by kernel_rfl) rfl
        rw [if_neg (by rw [hs.wants (j := 2) (t := 38) rfl rfl eg (by kernel_rfl)]; simp)]
        exact hK s wx (fun _ _ => rfl) hR
      refine StepAll.consG (fun D s wx hR (hDi : D 6 = false) hd hsh a' hs K hK => ?_) ?_
      · have eg := hs.at_ 2 38 (u := .bool true) rfl (hd ⟨2, .guard⟩ (by simp) rfl) (by kernel_rfl) (by kernel_rfl) rfl
        rw [if_neg (by rw [hs.wants (j := 2) (t := 38) rfl rfl eg (by kernel_rfl)]; simp)]
        exact hK s wx (fun _ _ => rfl) hR
      refine StepAll.consG (fun D s wx hR (hDi : D 7 = false) hd hsh a' hs K hK => ?_) ?_
      · have eg := hs.at_ 2 38 (u := .bool true) rfl (hd ⟨2, .guard⟩ (by simp) rfl) (by kernel_rfl) (by kernel_rfl) rfl
        rw [if_neg (by rw [hs.wants (j := 2) (t := 38) rfl rfl eg (by kernel_rfl)]; simp)]
        exact hK s wx (fun _ _ => rfl) hR
      refine StepAll.cons (fun D s wx hR (hDi : D 8 = false) hd hsh a' hs K hK => ?_) ?_
      · have e38 := hs.at_ 2 38 (u := .bool true) rfl (hd ⟨2, .data⟩ (by simp) rfl) (by kernel_rfl) (by kernel_rfl) rfl
        have e43 := hs.at_ 7 43 (u := undef) rfl (hd ⟨7, .data⟩ (by simp) rfl) (by kernel_rfl) (by kernel_rfl) rfl
        clear hs
        go_simp
        exact hK s wx (fun _ _ => rfl) hR
      refine StepAll.cons (fun D s wx hR (hDi : D 9 = false) hd hsh a' hs K hK => ?_) ?_
      · have e44 := hs.at_ 8 44 (u := .bool true) rfl (hd ⟨8, .data⟩ (by simp) rfl) (by kernel_rfl) (by kernel_rfl) rfl
        clear hs
        go_simp
        exact hK s wx (fun _ _ => rfl) hR
      refine StepAll.consG (fun D s wx hR (hDi : D 10 = false) hd hsh a' hs K hK => ?_) ?_
      · have eg := hs.at_ 9 45 (u := .bool true) rfl (hd ⟨9, .guard⟩ (by simp) rfl) (by kernel_rfl) (by kernel_rfl) rfl
        rw [if_pos (by rw [hs.wants (j := 9) (t := 45) rfl rfl eg (by kernel_rfl)]; rfl)]
        have e3 := hs.old 3 (u := .pointer (some ⟨T, 0, none⟩)) (by kernel_rfl) rfl
        clear hs
        have kb : Blk wx (T) 26 #[.int .i64 t.start, .slice A1 j1 c1, .slice A2 j2 c2] := hR.blk 1 rfl
        have c0 : wx.cell? ⟨T, 0, none⟩ = some (.int .i64 t.start) := kb.cell 0
        have c1 : wx.cell? ⟨T, 1, none⟩ = some (.slice A1 j1 c1) := kb.cell 1
        have c2 : wx.cell? ⟨T, 2, none⟩ = some (.slice A2 j2 c2) := kb.cell 2
        go_simp
        exact hK s wx (fun _ _ => rfl) hR
      refine StepAll.consG (fun D s wx hR (hDi : D 11 = false) hd hsh a' hs K hK => ?_) ?_
      · have eg := hs.at_ 9 45 (u := .bool true) rfl (hd ⟨9, .guard⟩ (by simp) rfl) (by kernel_rfl) (by kernel_rfl) rfl
        rw [if_pos (by rw [hs.wants (j := 9) (t := 45) rfl rfl eg (by kernel_rfl)]; rfl)]
        clear hs
        have n12 : D 12 = false := hsh.no hDi 12 rfl ⟨11, .data⟩ (by simp) rfl rfl
        refine step_make2 _ _ _ rfl 3 i0 _ 1 Tryd.underlying23 hi hz0 hz1 _ _ 32 rfl rfl (by rw [hz2]; omega) (by unfold maxLen; omega) fun w2 hown hgr => ?_
        refine hK (s.1, wx.heap.size) w2
          (fun j hj => by
            match j, hj with
            | 0, hj => rfl
            | 1, hj => rfl
            | 2, hj => rfl
            | 3, hj => rfl
            | 4, hj => rfl
            | 5, hj => rfl
            | 6, hj => rfl
            | 7, hj => rfl
            | 8, hj => rfl
            | 9, hj => rfl
            | 10, hj => rfl
            | 11, hj => rw [hDi] at hj; cases hj
            | 12, hj => rw [n12] at hj; cases hj
            | 13, hj => rfl
            | 14, hj => rfl
            | 15, hj => rfl
            | 16, hj => rfl
            | _ + 17, hj => rfl)
          ((hR.add 4 (if_neg (by rw [hDi]; simp)) (St.made32 rfl hown hgr)).congr
            (fun i => by
              match i with
              | 0 => rfl
              | 1 => rfl
              | 2 => rfl
              | 3 => rfl
              | 4 => rfl
              | q + 5 => exact (if_neg (show ¬ (q + 5 = 4) by omega)).symm))
      refine StepAll.consG (fun D s wx hR (hDi : D 12 = false) hd hsh a' hs K hK => ?_) ?_
      · have eg := hs.at_ 9 45 (u := .bool true) rfl (hd ⟨9, .guard⟩ (by simp) rfl) (by kernel_rfl) (by kernel_rfl) rfl
        rw [if_pos (by rw [hs.wants (j := 9) (t := 45) rfl rfl eg (by kernel_rfl)]; rfl)]
        have e46 := hs.at_ 10 46 (u := .agg #[.int .i64 t.start, .slice A1 j1 c1, .slice A2 j2 c2]) rfl (hd ⟨10, .data⟩ (by simp) rfl) (by kernel_rfl) (by kernel_rfl) rfl
        have e47 := hs.at_ 11 47 (u := .slice (some ⟨s.2, 0, none⟩) 32 32) rfl (hd ⟨11, .data⟩ (by simp) rfl) (by kernel_rfl) (by kernel_rfl) rfl
        have g46 := getQ e46
        have g47 := getQ e47
        clear hs
        have d11 : D 11 = true := hd ⟨11, .data⟩ (by simp) rfl
        go_simp
        refine (mustLook_impl _ t _ 32 _ (intsF fun _ => 0) _ (hR.rdT 0 rfl) (hR.rdI' 4 (if_pos d11)) (HE.out.up hR.below)).mono ?_
        rw [HM0.out]
        rintro e2 w2 ⟨rfl, hb2⟩
        exact hK s w2 (fun _ _ => rfl) (hR.quiet hb2)
      refine StepAll.consG (fun D s wx hR (hDi : D 13 = false) hd hsh a' hs K hK => ?_) ?_
      · have eg := hs.at_ 9 45 (u := .bool true) rfl (hd ⟨9, .guard⟩ (by simp) rfl) (by kernel_rfl) (by kernel_rfl) rfl
        rw [if_pos (by rw [hs.wants (j := 9) (t := 45) rfl rfl eg (by kernel_rfl)]; rfl)]
        have e5 := hs.old 5 (u := .int .i64 m) (by kernel_rfl) rfl
        clear hs
        go_simp
        exact hK s wx (fun _ _ => rfl) hR
      refine StepAll.consG (fun D s wx hR (hDi : D 14 = false) hd hsh a' hs K hK => ?_) ?_
      · have eg := hs.at_ 9 45 (u := .bool true) rfl (hd ⟨9, .guard⟩ (by simp) rfl) (by kernel_rfl) (by kernel_rfl) rfl
        rw [if_pos (by rw [hs.wants (j := 9) (t := 45) rfl rfl eg (by kernel_rfl)]; rfl)]
        have e48 := hs.at_ 12 48 (u := .int .i64 m0) rfl (hd ⟨12, .data⟩ (by simp) rfl) (by kernel_rfl) (by kernel_rfl) rfl
        have e49 := hs.at_ 13 49 (u := .int .i64 m) rfl (hd ⟨13, .data⟩ (by simp) rfl) (by kernel_rfl) (by kernel_rfl) rfl
        clear hs
        have hge := HGE.out
        have hdg : decide (m ≤ m0) = true := decide_eq_true hge
        go_simp
        exact hK s wx (fun _ _ => rfl) hR
      refine StepAll.cons (fun D s wx hR (hDi : D 15 = false) hd hsh a' hs K hK => ?_) ?_
      · have e45 := hs.at_ 9 45 (u := .bool true) rfl (hd ⟨9, .data⟩ (by simp) rfl) (by kernel_rfl) (by kernel_rfl) rfl
        have e50 := hs.at_ 14 50 (u := .bool true) rfl (hd ⟨14, .data⟩ (by simp) rfl) (by kernel_rfl) (by kernel_rfl) rfl
        clear hs
        go_simp
        exact hK s wx (fun _ _ => rfl) hR
      refine StepAll.cons (fun D s wx hR (hDi : D 16 = false) hd hsh a' hs K hK => ?_) ?_
      · have e51 := hs.at_ 15 51 (u := .bool true) rfl (hd ⟨15, .data⟩ (by simp) rfl) (by kernel_rfl) (by kernel_rfl) rfl
        clear hs
        go_simp
        exact hK s wx (fun _ _ => rfl) hR
      exact StepAll.nil
    · intro D s wx hR hD
      simp only [putA, Act.put, List.setIfInBounds_toArray, List.set_cons_zero, List.set_cons_succ]
      have HB := Lib.hid hR.below
      clear hR hD
      go_wp2
      go_ret
      exact ⟨rfl, HB.out⟩
  | some p =>
    have HMF : Bx (mustLook t (numsFor t) = 0) := Bx.mk (must_for HOK.out (by have := (planFor_some HPO.out).2.1; omega))
    simp only [Option.isSome_some, Option.getD_some]
    go_upto_region 10 with (fail)
    refine wp_reg (σ := (Option Addr × Nat) × Nat) (by kernel_rfl) (by kernel_rfl) (by kernel_rfl)
      (fun s i => match i with
        | 0 => .bool true
        | 1 => .bool false
        | 2 => .bool false
        | 3 => .agg #[.int .i64 t.start, .slice A1 j1 c1, .slice A2 j2 c2]
        | 4 => .agg #[.int .i64 t.start, .slice A1 j1 c1, .slice A2 j2 c2]
        | 5 => .slice s.1.1 32 s.1.2
        | 6 => .int .i64 0
        | 7 => .bool true
        | 8 => .bool true
        | 9 => .bool true
        | 10 => .agg #[.int .i64 t.start, .slice A1 j1 c1, .slice A2 j2 c2]
        | 11 => .slice (some ⟨s.2, 0, none⟩) 32 32
        | 12 => .int .i64 m0
        | 13 => .int .i64 m
        | 14 => .bool true
        | 15 => .bool true
        | 16 => .bool true
        | _ => undef)
      (fun D s wx => Sn w wx fun i => match i with
        | 0 => some (rTask (.agg #[.int .i64 t.start, .slice A1 j1 c1, .slice A2 j2 c2]) t)
        | 1 => some (rBlk T 26 #[.int .i64 t.start, .slice A1 j1 c1, .slice A2 j2 c2])
        | 2 => some (rInts (.slice A3 m3 c3) ns)
        | 3 => if D 5 = true then some (rInts (.slice s.1.1 32 s.1.2) (numsFor t)) else none
        | 4 => if D 11 = true then some (rInts (.slice (some ⟨s.2, 0, none⟩) 32 32) (intsF fun _ => 0)) else none
        | _ => none)
      ((none, 0), 0) ?_ ?_ ?_
    · intro D hD
      refine ((Sn.of_st HS6.out).quiet ((Below.refl _ _).drew)).congr fun i => ?_
      match i with
      | 0 => rfl
      | 1 => rfl
      | 2 => rfl
      | 3 => exact if_neg (by rw [hD 5 (by decide)]; simp)
      | 4 => exact if_neg (by rw [hD 11 (by decide)]; simp)
      | q + 5 => rfl
    · refine StepAll.cons (fun D s wx hR (hDi : D 0 = false) hd hsh a' hs K hK => ?_) ?_
      · have e7 := hs.old 7 (u := .bool true) (by kernel_rfl) rfl
        clear hs
        go_simp
        exact hK s wx (fun _ _ => rfl) hR
      refine StepAll.cons (fun D s wx hR (hDi : D 1 = false) hd hsh a' hs K hK => ?_) ?_
      · have e36 := hs.at_ 0 36 (u := .bool true) rfl (hd ⟨0, .data⟩ (by simp) rfl) (by kernel_rfl) (by kernel_rfl) rfl
        clear hs
        go_simp
        exact hK s wx (fun _ _ => rfl) hR
      refine StepAll.cons (fun D s wx hR (hDi : D 2 = false) hd hsh a' hs K hK => ?_) ?_
      · have e37 := hs.at_ 1 37 (u := .bool false) rfl (hd ⟨1, .data⟩ (by simp) rfl) (by kernel_rfl) (by kernel_rfl) rfl
        clear hs
        go_simp
        exact hK s wx (fun _ _ => rfl) hR
      refine StepAll.consG (fun D s wx hR (hDi : D 3 = false) hd hsh a' hs K hK => ?_) ?_
      · have eg := hs.at_ 2 38 (u := .bool false) rfl (hd ⟨2, .guard⟩ (by simp) rfl) (by kernel_rfl) (by kernel_rfl) rfl
        rw [if_pos (by rw [hs.wants (j := 2) (t := 38) rfl rfl eg (by kernel_rfl)]; rfl)]
        have e3 := hs.old 3 (u := .pointer (some ⟨T, 0, none⟩)) (by kernel_rfl) rfl
        clear hs
        have kb : Blk wx (T) 26 #[.int .i64 t.start, .slice A1 j1 c1, .slice A2 j2 c2] := hR.blk 1 rfl
        have c0 : wx.cell? ⟨T, 0, none⟩ = some (.int .i64 t.start) := kb.cell 0
        have c1 : wx.cell? ⟨T, 1, none⟩ = some (.slice A1 j1 c1) := kb.cell 1
        have c2 : wx.cell? ⟨T, 2, none⟩ = some (.slice A2 j2 c2) := kb.cell 2
        go_simp
        exact hK s wx (fun _ _ => rfl) hR
      refine StepAll.consG (fun D s wx hR (hDi : D 4 = false) hd hsh a' hs K hK => ?_) ?_
      · have eg := hs.at_ 2 38 (u := .bool false) rfl (hd ⟨2, .guard⟩ (by simp) rfl) (by kernel_rfl) (by kernel_rfl) rfl
        rw [if_pos (by rw [hs.wants (j := 2) (t := 38) rfl rfl eg (by kernel_rfl)]; rfl)]
        have e3 := hs.old 3 (u := .pointer (some ⟨T, 0, none⟩)) (by kernel_rfl) rfl
        clear hs
        have kb : Blk wx (T) 26 #[.int .i64 t.start, .slice A1 j1 c1, .slice A2 j2 c2] := hR.blk 1 rfl
        have c0 : wx.cell? ⟨T, 0, none⟩ = some (.int .i64 t.start) := kb.cell 0
        have c1 : wx.cell? ⟨T, 1, none⟩ = some (.slice A1 j1 c1) := kb.cell 1
        have c2 : wx.cell? ⟨T, 2, none⟩ = some (.slice A2 j2 c2) := kb.cell 2
        go_simp
        exact hK s wx (fun _ _ => rfl) hR
      refine StepAll.consG (fun D s wx hR (hDi : D 5 = false) hd hsh a' hs K hK => ?_) ?_
      · have eg := hs.at_ 2 38 (u := .bool false) rfl (hd ⟨2, .guard⟩ (by simp) rfl) (by kernel_rfl) (by kernel_rfl) rfl
        rw [if_pos (by rw [hs.wants (j := 2) (t := 38) rfl rfl eg (by kernel_rfl)]; rfl)]
        have e40 := hs.at_ 4 40 (u := .agg #[.int .i64 t.start, .slice A1 j1 c1, .slice A2 j2 c2]) rfl (hd ⟨4, .data⟩ (by simp) rfl) (by kernel_rfl) (by kernel_rfl) rfl
        have g40 := getQ e40
        clear hs
        have n6 : D 6 = false := hsh.no hDi 6 rfl ⟨5, .data⟩ (by simp) rfl rfl
        go_simp
        refine (numbersFor_impl _ t _ (hR.rdT 0 rfl)).mono ?_
        rintro e2 w2 ⟨v2, rfl, s2⟩
        obtain ⟨A5, c5, hv⟩ := s2.formN 0 rfl HNL.out
        simp only [id_eq] at hv s2 ⊢
        subst hv
        refine hK ((A5, c5), s.2) w2
          (fun j hj => by
            match j, hj with
            | 0, hj => rfl
            | 1, hj => rfl
            | 2, hj => rfl
            | 3, hj => rfl
            | 4, hj => rfl
            | 5, hj => rw [hDi] at hj; cases hj
            | 6, hj => rw [n6] at hj; cases hj
            | 7, hj => rfl
            | 8, hj => rfl
            | 9, hj => rfl
            | 10, hj => rfl
            | 11, hj => rfl
            | 12, hj => rfl
            | 13, hj => rfl
            | 14, hj => rfl
            | 15, hj => rfl
            | 16, hj => rfl
            | _ + 17, hj => rfl)
          ((hR.add 3 (if_neg (by rw [hDi]; simp)) s2).congr
            (fun i => by
              match i with
              | 0 => rfl
              | 1 => rfl
              | 2 => rfl
              | 3 => rfl
              | 4 => rfl
              | q + 5 => exact (if_neg (show ¬ (q + 5 = 3) by omega)).symm))
      refine StepAll.consG (fun D s wx hR (hDi : D 6 = false) hd hsh a' hs K hK => ?_) ?_
      · have eg := hs.at_ 2 38 (u := .bool false) rfl (hd ⟨2, .guard⟩ (by simp) rfl) (by kernel_rfl) (by kernel_rfl) rfl
        rw [if_pos (by rw [hs.wants (j := 2) (t := 38) rfl rfl eg (by kernel_rfl)]; rfl)]
        have e39 := hs.at_ 3 39 (u := .agg #[.int .i64 t.start, .slice A1 j1 c1, .slice A2 j2 c2]) rfl (hd ⟨3, .data⟩ (by simp) rfl) (by kernel_rfl) (by kernel_rfl) rfl
        have e41 := hs.at_ 5 41 (u := .slice s.1.1 32 s.1.2) rfl (hd ⟨5, .data⟩ (by simp) rfl) (by kernel_rfl) (by kernel_rfl) rfl
        have g39 := getQ e39
        have g41 := getQ e41
        clear hs
        have d5 : D 5 = true := hd ⟨5, .data⟩ (by simp) rfl
        go_simp
        refine (mustLook_impl _ t _ 32 _ (numsFor t) _ (hR.rdT 0 rfl) (hR.rdI' 3 (if_pos d5)) (HE.out.up hR.below)).mono ?_
        rw [HMF.out]
        rintro e2 w2 ⟨rfl, hb2⟩
        exact hK s w2 (fun _ _ => rfl) (hR.quiet hb2)
      refine StepAll.consG (fun D s wx hR (hDi : D 7 = false) hd hsh a' hs K hK => ?_) ?_
      · have eg := hs.at_ 2 38 (u := .bool false) rfl (hd ⟨2, .guard⟩ (by simp) rfl) (by kernel_rfl) (by kernel_rfl) rfl
        rw [if_pos (by rw [hs.wants (j := 2) (t := 38) rfl rfl eg (by kernel_rfl)]; rfl)]
        have e42 := hs.at_ 6 42 (u := .int .i64 0) rfl (hd ⟨6, .data⟩ (by simp) rfl) (by kernel_rfl) (by kernel_rfl) rfl
        clear hs
        go_simp
        exact hK s wx (fun _ _ => rfl) hR
      refine StepAll.cons (fun D s wx hR (hDi : D 8 = false) hd hsh a' hs K hK => ?_) ?_
      · have e38 := hs.at_ 2 38 (u := .bool false) rfl (hd ⟨2, .data⟩ (by simp) rfl) (by kernel_rfl) (by kernel_rfl) rfl
        have e43 := hs.at_ 7 43 (u := .bool true) rfl (hd ⟨7, .data⟩ (by simp) rfl) (by kernel_rfl) (by kernel_rfl) rfl
        clear hs
        go_simp
        exact hK s wx (fun _ _ => rfl) hR
      refine StepAll.cons (fun D s wx hR (hDi : D 9 = false) hd hsh a' hs K hK => ?_) ?_
      · have e44 := hs.at_ 8 44 (u := .bool true) rfl (hd ⟨8, .data⟩ (by simp) rfl) (by kernel_rfl) (by kernel_rfl) rfl
        clear hs
        go_simp
        exact hK s wx (fun _ _ => rfl) hR
      refine StepAll.consG (fun D s wx hR (hDi : D 10 = false) hd hsh a' hs K hK => ?_) ?_
      · have eg := hs.at_ 9 45 (u := .bool true) rfl (hd ⟨9, .guard⟩ (by simp) rfl) (by kernel_rfl) (by kernel_rfl) rfl
        rw [if_pos (by rw [hs.wants (j := 9) (t := 45) rfl rfl eg (by kernel_rfl)]; rfl)]
        have e3 := hs.old 3 (u := .pointer (some ⟨T, 0, none⟩)) (by kernel_rfl) rfl
        clear hs
        have kb : Blk wx (T) 26 #[.int .i64 t.start, .slice A1 j1 c1, .slice A2 j2 c2] := hR.blk 1 rfl
        have c0 : wx.cell? ⟨T, 0, none⟩ = some (.int .i64 t.start) := kb.cell 0
        have c1 : wx.cell? ⟨T, 1, none⟩ = some (.slice A1 j1 c1) := kb.cell 1
        have c2 : wx.cell? ⟨T, 2, none⟩ = some (.slice A2 j2 c2) := kb.cell 2
        go_simp
        exact hK s wx (fun _ _ => rfl) hR
      refine StepAll.consG (fun D s wx hR (hDi : D 11 = false) hd hsh a' hs K hK => ?_) ?_
      · have eg := hs.at_ 9 45 (u := .bool true) rfl (hd ⟨9, .guard⟩ (by simp) rfl) (by kernel_rfl) (by kernel_rfl) rfl
        rw [if_pos (by rw [hs.wants (j := 9) (t := 45) rfl rfl eg (by kernel_rfl)]; rfl)]
        clear hs
        have n12 : D 12 = false := hsh.no hDi 12 rfl ⟨11, .data⟩ (by simp) rfl rfl
        refine step_make2 _ _ _ rfl 3 i0 _ 1 Tryd.underlying23 hi hz0 hz1 _ _ 32 rfl rfl (by rw [hz2]; omega) (by unfold maxLen; omega) fun w2 hown hgr => ?_
        refine hK (s.1, wx.heap.size) w2
          (fun j hj => by
            match j, hj with
            | 0, hj => rfl
            | 1, hj => rfl
            | 2, hj => rfl
            | 3, hj => rfl
            | 4, hj => rfl
            | 5, hj => rfl
            | 6, hj => rfl
            | 7, hj => rfl
            | 8, hj => rfl
            | 9, hj => rfl
            | 10, hj => rfl
            | 11, hj => rw [hDi] at hj; cases hj
            | 12, hj => rw [n12] at hj; cases hj
            | 13, hj => rfl
            | 14, hj => rfl
            | 15, hj => rfl
            | 16, hj => rfl
            | _ + 17, hj => rfl)
          ((hR.add 4 (if_neg (by rw [hDi]; simp)) (St.made32 rfl hown hgr)).congr
            (fun i => by
              match i with
              | 0 => rfl
              | 1 => rfl
              | 2 => rfl
              | 3 => rfl
              | 4 => rfl
              | q + 5 => exact (if_neg (show ¬ (q + 5 = 4) by omega)).symm))
      refine StepAll.consG (fun D s wx hR (hDi : D 12 = false) hd hsh a' hs K hK => ?_) ?_
      · have eg := hs.at_ 9 45 (u := .bool true) rfl (hd ⟨9, .guard⟩ (by simp) rfl) (by kernel_rfl) (by kernel_rfl) rfl
        rw [if_pos (by rw [hs.wants (j := 9) (t := 45) rfl rfl eg (by kernel_rfl)]; rfl)]
        have e46 := hs.at_ 10 46 (u := .agg #[.int .i64 t.start, .slice A1 j1 c1, .slice A2 j2 c2]) rfl (hd ⟨10, .data⟩ (by simp) rfl) (by kernel_rfl) (by kernel_rfl) rfl
        have e47 := hs.at_ 11 47 (u := .slice (some ⟨s.2, 0, none⟩) 32 32) rfl (hd ⟨11, .data⟩ (by simp) rfl) (by kernel_rfl) (by kernel_rfl) rfl
        have g46 := getQ e46
        have g47 := getQ e47
        clear hs
        have d11 : D 11 = true := hd ⟨11, .data⟩ (by simp) rfl
        go_simp
        refine (mustLook_impl _ t _ 32 _ (intsF fun _ => 0) _ (hR.rdT 0 rfl) (hR.rdI' 4 (if_pos d11)) (HE.out.up hR.below)).mono ?_
        rw [HM0.out]
        rintro e2 w2 ⟨rfl, hb2⟩
        exact hK s w2 (fun _ _ => rfl) (hR.quiet hb2)
      refine StepAll.consG (fun D s wx hR (hDi : D 13 = false) hd hsh a' hs K hK => ?_) ?_
      · have eg := hs.at_ 9 45 (u := .bool true) rfl (hd ⟨9, .guard⟩ (by simp) rfl) (by kernel_rfl) (by kernel_rfl) rfl
        rw [if_pos (by rw [hs.wants (j := 9) (t := 45) rfl rfl eg (by kernel_rfl)]; rfl)]
        have e5 := hs.old 5 (u := .int .i64 m) (by kernel_rfl) rfl
        clear hs
        go_simp
        exact hK s wx (fun _ _ => rfl) hR
      refine StepAll.consG (fun D s wx hR (hDi : D 14 = false) hd hsh a' hs K hK => ?_) ?_
      · have eg := hs.at_ 9 45 (u := .bool true) rfl (hd ⟨9, .guard⟩ (by simp) rfl) (by kernel_rfl) (by kernel_rfl) rfl
        rw [if_pos (by rw [hs.wants (j := 9) (t := 45) rfl rfl eg (by kernel_rfl)]; rfl)]
        have e48 := hs.at_ 12 48 (u := .int .i64 m0) rfl (hd ⟨12, .data⟩ (by simp) rfl) (by kernel_rfl) (by kernel_rfl) rfl
        have e49 := hs.at_ 13 49 (u := .int .i64 m) rfl (hd ⟨13, .data⟩ (by simp) rfl) (by kernel_rfl) (by kernel_rfl) rfl
        clear hs
        have hge := HGE.out
        have hdg : decide (m ≤ m0) = true := decide_eq_true hge
        go_simp
        exact hK s wx (fun _ _ => rfl) hR
      refine StepAll.cons (fun D s wx hR (hDi : D 15 = false) hd hsh a' hs K hK => ?_) ?_
      · have e45 := hs.at_ 9 45 (u := .bool true) rfl (hd ⟨9, .data⟩ (by simp) rfl) (by kernel_rfl) (by kernel_rfl) rfl
        have e50 := hs.at_ 14 50 (u := .bool true) rfl (hd ⟨14, .data⟩ (by simp) rfl) (by kernel_rfl) (by kernel_rfl) rfl
        clear hs
        go_simp
        exact hK s wx (fun _ _ => rfl) hR
      refine StepAll.cons (fun D s wx hR (hDi : D 16 = false) hd hsh a' hs K hK => ?_) ?_
      · have e51 := hs.at_ 15 51 (u := .bool true) rfl (hd ⟨15, .data⟩ (by simp) rfl) (by kernel_rfl) (by kernel_rfl) rfl
        clear hs
        go_simp
        exact hK s wx (fun _ _ => rfl) hR
      exact StepAll.nil
    · intro D s wx hR hD
      simp only [putA, Act.put, List.setIfInBounds_toArray, List.set_cons_zero, List.set_cons_succ]
      have HB := Lib.hid hR.below
      clear hR hD
      go_wp2
      go_ret
      exact ⟨rfl, HB.out⟩
end Go.Proofs.YtkimgdfcgfhibaaDoor
