/- The walk of the law FnRingsTask: true for every drawn code. Printed by gen_rtl.py. -/
import Derived.Test.YtpcaagbmjhgnaaaJFnRingsTask12
import Derived.Test.YtpcaagbmjhgnaaaJFnRingsTaskSame
import Derived.Test.YtpcaagbmjhgnaaaJFnRingsTaskRingsP
import Derived.Test.YtpcaagbmjhgnaaaJFnRingsTaskPlanForW
import Derived.Test.YtpcaagbmjhgnaaaJFnRingsTask15
import Derived.Test.YtpcaagbmjhgnaaaJFnRingsTask14
namespace Go.Proofs.Ytpcaagbmjhgnaaa
set_option linter.unusedVariables false
open Go.ChangeShapes Go.WideShapes Go.ChangeAt Go.RowKit

theorem ringsTask_impl_st (r s : Int) (w : World) (hs : (Lit.int .i64 s).wf = true) : Calls Try.prog 53 #[.int .i64 r, .int .i64 s] w (Gives w id fun v => [rTask v (ringsTask r s)]) :=
  (ringsTask_impl r s w hs).mono fun e w' ⟨⟨v, F, he, ho, hn⟩, hb⟩ => ⟨v, he, St.of_task ho hn hb⟩
theorem ringsTask_spec_st (r s : Int) (w : World) (hs : (Lit.int .i64 s).wf = true) : Calls Try.prog 54 #[.int .i64 r, .int .i64 s] w (Gives w id fun v => [rTask v (ringsTask r s)]) :=
  (ringsTask_spec r s w hs).mono fun e w' ⟨⟨v, F, he, ho, hn⟩, hb⟩ => ⟨v, he, St.of_task ho hn hb⟩
theorem tdiv_small (k c q : Nat) (hq : k / c = q) : (k : Int).tdiv (c : Int) = (q : Int) := by rw [← hq, Int.tdiv_eq_ediv_of_nonneg (by omega)]; simp
theorem drawRingsTask (A : Option Addr) (n c : Nat) (xs : List Int) (w : World) (h : RdI .u8 w w.heap.size A n c xs) : Calls Try.prog 52 #[.slice A n c] w fun e w' => ∃ r s : Int, e = .returned (.tuple #[.int .i64 r, .int .i64 s]) ∧ (1 ≤ r ∧ r ≤ 10) ∧ (-40 ≤ s ∧ s ≤ 63) ∧ Below w.heap.size w w' := by
  have H := Lib.hid h
  clear h
  go_enter Try.func52, Try.ntmps52
  go_wp2_with fail
  refine (l20Open_rd (St.refl w) H.out).mono ?_
  rintro e w1 ⟨g, rfl, s1⟩
  have HS1 := Lib.hid s1
  clear s1
  go_wp2_with fail
  refine (pick_rd HS1.out (by omega) 5).mono ?_
  rintro e w2 ⟨x2, rfl, ⟨a1, a2, -⟩, s2⟩
  have a3 := a2 (by omega)
  obtain ⟨k2, rfl⟩ := Int.eq_ofNat_of_zero_le a1
  have HS2 := Lib.hid s2
  clear s2 a2 HS1
  go_wp2_with fail
  refine (pick_rd HS2.out (by omega) 30).mono ?_
  rintro e w3 ⟨x3, rfl, ⟨b1, b2, -⟩, s3⟩
  have b3 := b2 (by omega)
  obtain ⟨k3, rfl⟩ := Int.eq_ofNat_of_zero_le b1
  obtain ⟨q3, hq3⟩ : ∃ q, k3 / 29 = q := ⟨_, rfl⟩
  have hd3 : (k3 : Int).tdiv 29 = (q3 : Int) := tdiv_small k3 29 q3 hq3
  have hq31 : q3 ≤ 1 := by omega
  have HS3 := Lib.hid s3
  clear s3 b2 HS2 hq3
  by_cases h5 : 5 < 1 + (k2 : Int) + (q3 : Int) * 5
  · go_wp2_with fail
    refine (pick_rd HS3.out (by omega) 32).mono ?_
    rintro e w4 ⟨x4, rfl, ⟨d1, d2, -⟩, s4⟩
    have d3 := d2 (by decide)
    obtain ⟨k4, rfl⟩ := Int.eq_ofNat_of_zero_le d1
    have d4 : (k4 : Int) < 32 := d3
    have HS4 := Lib.hid s4
    clear s4 d2 d3 HS3 h5
    go_wp2_with fail
    refine (pick_rd HS4.out (by omega) 30).mono ?_
    rintro e w5 ⟨x5, rfl, ⟨e1, e2, -⟩, s5⟩
    have e3 := e2 (by omega)
    obtain ⟨k5, rfl⟩ := Int.eq_ofNat_of_zero_le e1
    obtain ⟨q5, hq5⟩ : ∃ q, k5 / 29 = q := ⟨_, rfl⟩
    have hd5 : (k5 : Int).tdiv 29 = (q5 : Int) := tdiv_small k5 29 q5 hq5
    have hq51 : q5 ≤ 1 := by omega
    have HS5 := Lib.hid s5
    clear s5 e2 HS4 hq5
    go_wp2_with fail
    refine (pick_rd HS5.out (by omega) 30).mono ?_
    rintro e w6 ⟨x6, rfl, ⟨f1, f2, -⟩, s6⟩
    have f3 := f2 (by omega)
    obtain ⟨k6, rfl⟩ := Int.eq_ofNat_of_zero_le f1
    obtain ⟨q6, hq6⟩ : ∃ q, k6 / 29 = q := ⟨_, rfl⟩
    have hd6 : (k6 : Int).tdiv 29 = (q6 : Int) := tdiv_small k6 29 q6 hq6
    have hq61 : q6 ≤ 1 := by omega
    have HS6 := Lib.hid s6.below
    clear s6 f2 HS5 hq6
    go_wp2
    refine bodyPost_ret (v := .tuple #[.int .i64 (1 + (k2 : Int) + (q3 : Int) * 5), .int .i64 ((k4 : Int) + (q5 : Int) * 32 - (q6 : Int) * 40)]) (by simp [results, Try.results52, go_sem]) rfl ⟨_, _, rfl, by omega, by omega, HS6.out⟩
  · obtain ⟨m, hm⟩ : ∃ m : Nat, (1 + (k2 : Int) + (q3 : Int) * 5).toNat = m := ⟨_, rfl⟩
    have hm5 : m ≤ 5 := by omega
    have hp1 : (2 : Int) ^ m ≤ 32 := pow_le_int m 5 (by omega)
    have hp0 : (0 : Int) < 2 ^ m := Int.pow_pos (by omega)
    have hpw : wrap64 (2 ^ m) = 2 ^ m := by rw [← IntWalk.i64_left]; exact IntWalk.i64_in _ (by omega)
    go_wp2_with fail
    refine (pick_rd HS3.out (by omega) (2 ^ m)).mono ?_
    rintro e w4 ⟨x4, rfl, ⟨d1, d2, -⟩, s4⟩
    have d3 := d2 (by omega)
    obtain ⟨k4, rfl⟩ := Int.eq_ofNat_of_zero_le d1
    have d4 : (k4 : Int) < 32 := by omega
    clear hpw hp1 hp0 hm hm5
    have HS4 := Lib.hid s4
    clear s4 d2 d3 HS3 h5
    go_wp2_with fail
    refine (pick_rd HS4.out (by omega) 30).mono ?_
    rintro e w5 ⟨x5, rfl, ⟨e1, e2, -⟩, s5⟩
    have e3 := e2 (by omega)
    obtain ⟨k5, rfl⟩ := Int.eq_ofNat_of_zero_le e1
    obtain ⟨q5, hq5⟩ : ∃ q, k5 / 29 = q := ⟨_, rfl⟩
    have hd5 : (k5 : Int).tdiv 29 = (q5 : Int) := tdiv_small k5 29 q5 hq5
    have hq51 : q5 ≤ 1 := by omega
    have HS5 := Lib.hid s5
    clear s5 e2 HS4 hq5
    go_wp2_with fail
    refine (pick_rd HS5.out (by omega) 30).mono ?_
    rintro e w6 ⟨x6, rfl, ⟨f1, f2, -⟩, s6⟩
    have f3 := f2 (by omega)
    obtain ⟨k6, rfl⟩ := Int.eq_ofNat_of_zero_le f1
    obtain ⟨q6, hq6⟩ : ∃ q, k6 / 29 = q := ⟨_, rfl⟩
    have hd6 : (k6 : Int).tdiv 29 = (q6 : Int) := tdiv_small k6 29 q6 hq6
    have hq61 : q6 ≤ 1 := by omega
    have HS6 := Lib.hid s6.below
    clear s6 f2 HS5 hq6
    go_wp2
    refine bodyPost_ret (v := .tuple #[.int .i64 (1 + (k2 : Int) + (q3 : Int) * 5), .int .i64 ((k4 : Int) + (q5 : Int) * 32 - (q6 : Int) * 40)]) (by simp [results, Try.results52, go_sem]) rfl ⟨_, _, rfl, by omega, by omega, HS6.out⟩
set_option maxRecDepth 100000 in
set_option maxHeartbeats 1000000 in
theorem FnRingsTask_walk (A : Option Addr) (n c : Nat) (xs : List Int) (w : World) (h : RdI .u8 w w.heap.size A n c xs) :
    Calls Try.prog 11 #[.slice A n c] w fun e w' => e = .returned (.bool true) ∧ Below w.heap.size w w' := by
  have hcap := h.cap
  have hmax := h.capMax
  unfold maxLen at hmax
  have H := Lib.hid h
  clear h
  by_cases hn : n ≤ 1048576
  case neg =>
    go_enter Try.func11, Try.ntmps11
    go_wp2
    go_ret
    exact ⟨rfl, Below.refl _ _⟩
  go_enter Try.func11, Try.ntmps11
  go_wp2_with fail
  refine (drawRingsTask A n c xs _ H.out).mono ?_
  rintro e w0 ⟨r, s', rfl, ⟨r1, r2⟩, ⟨t1, t2⟩, hb0⟩
  have HS0 : Hid (St w w0 []) := Lib.hid ((St.refl w).quiet hb0)
  have HSW : Hid ((Lit.int .i64 s').wf = true) := Lib.hid (wf_i64_mk (by omega))
  clear hb0
  obtain ⟨t, ht⟩ : ∃ t, ringsTask r s' = t := ⟨_, rfl⟩
  have HT := Bx.mk ht
  go_wp2_with fail
  refine (ringsTask_impl_st r s' _ HSW.out).mono ?_
  rw [ht]
  rintro e w1 ⟨v1, rfl, s1⟩
  obtain ⟨A1, j1, c1, A2, j2, c2, hv⟩ := s1.formT 0 rfl
  simp only [id_eq] at hv ⊢
  subst hv
  obtain ⟨B1, hB1⟩ : ∃ B1, w1.heap.size = B1 := ⟨_, rfl⟩
  have HS1 : Hid (St w (w1.alloc (.cells #[.int .i64 t.start, .slice A1 j1 c1, .slice A2 j2 c2] 28)) [rTask (.agg #[.int .i64 t.start, .slice A1 j1 c1, .slice A2 j2 c2]) t, rBlk B1 28 #[.int .i64 t.start, .slice A1 j1 c1, .slice A2 j2 c2]]) := Lib.hid (by rw [← hB1]; exact (HS0.out.call s1).alloc _ _)
  clear s1 HS0 ht
  go_upto_region 5 with (fail)
  try rw [hB1]
  refine wp_reg (σ := Value) (by kernel_rfl) (by kernel_rfl) (by kernel_rfl)
    (fun s i => match i with
      | 0 => .agg #[.int .i64 t.start, .slice A1 j1 c1, .slice A2 j2 c2]
      | 1 => .int .i64 r
      | 2 => .int .i64 s'
      | 3 => s
      | 4 => .bool true
      | 5 => .bool false
      | _ => undef)
    (fun D s wx => Sn w wx fun i => match i with
      | 0 => some (rTask (.agg #[.int .i64 t.start, .slice A1 j1 c1, .slice A2 j2 c2]) t)
      | 1 => some (rBlk B1 28 #[.int .i64 t.start, .slice A1 j1 c1, .slice A2 j2 c2])
      | 2 => if D 3 = true then some (rTask s t) else none
      | _ => none)
    undef ?_ ?_ ?_
  · intro D hD
    refine ((Sn.of_st HS1.out).quiet ((Below.refl _ _).drew)).congr fun i => ?_
    match i with
    | 0 => rfl
    | 1 => rfl
    | 2 => exact if_neg (by rw [hD 3 (by decide)]; simp)
    | q + 3 => rfl
  · refine StepAll.cons (fun D s wx hR (hDi : D 0 = false) hd hsh a' hs K hK => ?_) ?_
    · have e5 := hs.old 5 (u := .pointer (some ⟨B1, 0, none⟩)) (by kernel_rfl) rfl
      clear hs
      have kb : Blk wx (B1) 28 #[.int .i64 t.start, .slice A1 j1 c1, .slice A2 j2 c2] := hR.blk 1 rfl
      have c0 : wx.cell? ⟨B1, 0, none⟩ = some (.int .i64 t.start) := kb.cell 0
      have c1 : wx.cell? ⟨B1, 1, none⟩ = some (.slice A1 j1 c1) := kb.cell 1
      have c2 : wx.cell? ⟨B1, 2, none⟩ = some (.slice A2 j2 c2) := kb.cell 2
      go_simp
      exact hK s wx (fun _ _ => rfl) hR
    refine StepAll.cons (fun D s wx hR (hDi : D 1 = false) hd hsh a' hs K hK => ?_) ?_
    · have e3 := hs.old 3 (u := .int .i64 r) (by kernel_rfl) rfl
      clear hs
      go_simp
      exact hK s wx (fun _ _ => rfl) hR
    refine StepAll.cons (fun D s wx hR (hDi : D 2 = false) hd hsh a' hs K hK => ?_) ?_
    · have e4 := hs.old 4 (u := .int .i64 s') (by kernel_rfl) rfl
      clear hs
      go_simp
      exact hK s wx (fun _ _ => rfl) hR
    refine StepAll.cons (fun D s wx hR (hDi : D 3 = false) hd hsh a' hs K hK => ?_) ?_
    · have e21 := hs.at_ 1 21 (u := .int .i64 r) rfl (hd ⟨1, .data⟩ (by simp) rfl) (by kernel_rfl) (by kernel_rfl) rfl
      have e22 := hs.at_ 2 22 (u := .int .i64 s') rfl (hd ⟨2, .data⟩ (by simp) rfl) (by kernel_rfl) (by kernel_rfl) rfl
      have g21 := getQ e21
      have g22 := getQ e22
      clear hs
      have n4 : D 4 = false := hsh.no hDi 4 rfl ⟨3, .data⟩ (by simp) rfl rfl
      have n5 : D 5 = false := hsh.no n4 5 rfl ⟨4, .data⟩ (by simp) rfl rfl
      go_simp
      refine (ringsTask_spec_st r s' _ HSW.out).mono ?_
      rw [HT.out]
      rintro e2 w2 ⟨v2, rfl, s2⟩
      refine hK v2 w2
        (fun j hj => by
          match j, hj with
          | 0, hj => rfl
          | 1, hj => rfl
          | 2, hj => rfl
          | 3, hj => rw [hDi] at hj; cases hj
          | 4, hj => rfl
          | 5, hj => rfl
          | _ + 6, hj => rfl)
        ((hR.add 2 (if_neg (by rw [hDi]; simp)) s2).congr
          (fun i => by
            match i with
            | 0 => rfl
            | 1 => rfl
            | 2 => rfl
            | q + 3 => exact (if_neg (show ¬ (q + 3 = 2) by omega)).symm))
    refine StepAll.cons (fun D s wx hR (hDi : D 4 = false) hd hsh a' hs K hK => ?_) ?_
    · have e20 := hs.at_ 0 20 (u := .agg #[.int .i64 t.start, .slice A1 j1 c1, .slice A2 j2 c2]) rfl (hd ⟨0, .data⟩ (by simp) rfl) (by kernel_rfl) (by kernel_rfl) rfl
      have e23 := hs.at_ 3 23 (u := s) rfl (hd ⟨3, .data⟩ (by simp) rfl) (by kernel_rfl) (by kernel_rfl) rfl
      have g20 := getQ e20
      have g23 := getQ e23
      clear hs
      have d2 : D 3 = true := hd ⟨3, .data⟩ (by simp) rfl
      go_simp
      refine (sameTask_any _ t s t _ (hR.rdT 0 rfl) (hR.rdT 2 (if_pos d2))).mono ?_
      try rw [decide_eq_true rfl]
      rintro e2 w2 ⟨rfl, hb2⟩
      exact hK s w2 (fun _ _ => rfl) (hR.quiet hb2)
    refine StepAll.cons (fun D s wx hR (hDi : D 5 = false) hd hsh a' hs K hK => ?_) ?_
    · have e24 := hs.at_ 4 24 (u := .bool true) rfl (hd ⟨4, .data⟩ (by simp) rfl) (by kernel_rfl) (by kernel_rfl) rfl
      clear hs
      go_simp
      exact hK s wx (fun _ _ => rfl) hR
    exact StepAll.nil
  · intro D s wx hR hD
    simp only [putA, Act.put, List.setIfInBounds_toArray, List.set_cons_zero, List.set_cons_succ]
    have HS : Hid (St w wx [rTask (.agg #[.int .i64 t.start, .slice A1 j1 c1, .slice A2 j2 c2]) t, rBlk B1 28 #[.int .i64 t.start, .slice A1 j1 c1, .slice A2 j2 c2]]) := Lib.hid (hR.to_st [0, 1] (by decide) rfl)
    clear hR hD

    obtain ⟨b, hin⟩ : ∃ b, ringsIn r s' = b := ⟨_, rfl⟩
    obtain ⟨G, gn, gc, G', n', c', he, hg, -, hds, -⟩ := HS.out.rdT 0 rfl
    simp only [Value.agg.injEq, Array.mk.injEq, List.cons.injEq, Value.slice.injEq, and_true, true_and] at he
    obtain ⟨⟨rfl, rfl, rfl⟩, rfl, rfl, rfl⟩ := he
    have hl1 := hg.len
    have hl2 := hds.len
    clear hg hds
    have q1 : ∀ j, wx.cell? ⟨B1, j, none⟩ = _ := HS.out.cells 1 rfl
    cases b with
    | false =>
      have hz : j1 = 0 := by rw [← HT.out] at hl1; unfold ringsTask at hl1; rw [if_neg (by rw [hin]; simp)] at hl1; exact hl1.symm
      subst hz
      clear hl1 hl2 hin
      go_wp2_with fail
      refine (alive_any _).mono ?_
      rintro e w5 ⟨rfl, hb5⟩
      have HS5 := Lib.hid (HS.out.quiet hb5).below
      clear hb5
      go_wp2
      go_ret
      exact ⟨rfl, HS5.out⟩
    | true =>
      obtain ⟨a, s, rfl, rfl, ha0, ha5, hsa⟩ := ringsIn_parts hin
      have hs32 : s < 32 := by have := Nat.pow_le_pow_right (show 0 < 2 by omega) ha5; omega
      obtain ⟨p, hp1, hp2, hp3⟩ := ring_plan ha0 ha5 hsa
      obtain ⟨hv1, hv2⟩ := ring_ok ⟨a, by omega⟩ ⟨s, hs32⟩ hsa ha0
      simp only at hv1 hv2
      rw [HT.out] at hp1 hp3 hv1 hv2
      have htd : t.deeds = ringDeeds a := by rw [← HT.out]; unfold ringsTask; rw [if_pos hin, Int.toNat_natCast]
      have hj2 : j2 = a := by rw [← hl2, htd, ringDeeds_len]
      subst hj2
      have hj1 : (j1 : Int) ≠ 0 := by intro h0; apply hv2; apply List.eq_nil_of_length_eq_zero; omega
      have hj1' : ((j1 : Int) == 0) = false := by simpa using hj1
      have HMAY : Hid (∀ k, k < j2 → decide (0 ≤ deedDoZ (ringDeed k) (s : Int)) = ringsMay (j2 : Int) (s : Int) (k : Int)) := Lib.hid fun k hk => ring_may ⟨j2, by omega⟩ ⟨s, hs32⟩ ⟨k, by omega⟩ hsa hk
      have HP1 := Bx.mk hp1
      have HP2 := Bx.mk hp2
      have HP3 := Bx.mk hp3
      have HV := Bx.mk hv1
      have HTD := Bx.mk htd
      clear hp1 hp2 hp3 hv1 hv2 htd hj1 hl1 hl2 hin hsa q1
      have q1 : ∀ j, wx.cell? ⟨B1, j, none⟩ = _ := HS.out.cells 1 rfl
      go_wp2
      go_loopw [6] (fun i wr => ∃ k : Nat, k ≤ j2 ∧ i = .int .i64 k ∧ St w wr [rTask (.agg #[.int .i64 t.start, .slice A1 j1 c1, .slice A2 j2 c2]) t, rBlk B1 28 #[.int .i64 t.start, .slice A1 j1 c1, .slice A2 j2 c2]]) (fun i _ => j2 - (intOf i).toNat)
      case atStart => exact ⟨0, by omega, rfl, HS.out⟩
      case round =>
        clear HS q1
        obtain ⟨k, hk, rfl, S⟩ := hrel
        have HS := Lib.hid S
        clear S
        have q1 : ∀ j, wr.cell? ⟨B1, j, none⟩ = _ := HS.out.cells 1 rfl
        by_cases hlt : k < j2
        · obtain ⟨G, gn, gc, G', n', c', he, -, -, hds, -⟩ := HS.out.rdT 0 rfl
          simp only [Value.agg.injEq, Array.mk.injEq, List.cons.injEq, Value.slice.injEq, and_true, true_and] at he
          obtain ⟨⟨rfl, rfl, rfl⟩, rfl, rfl, rfl⟩ := he
          obtain ⟨b, off, d, rfl, hb, hd, hda⟩ := hds.get hlt
          obtain ⟨An, nn, cn, p0, p1, p2, p3, hneed, hnn, -⟩ := hda
          have hdr : d = ringDeed k := by
            rw [HTD.out] at hd
            unfold ringDeeds at hd
            rw [List.getElem?_map, List.getElem?_range hlt] at hd
            exact (Option.some.inj hd).symm
          obtain ⟨z, hz⟩ : ∃ z, deedDoZ d (s : Int) = z := ⟨_, rfl⟩
          have hmz := HMAY.out k hlt
          rw [← hdr, hz] at hmz
          have HN := Lib.hid hneed
          clear hneed hd hdr hds hb hnn
          go_wp2_with fail
          refine (deedDo_impl An nn cn d (s : Int) _ HN.out).mono ?_
          rw [hz]
          rintro e w2 ⟨rfl, hb2⟩
          have HS2 := Lib.hid (HS.out.quiet hb2)
          clear hb2 HN hz p0 p1 p2 p3 q1
          by_cases h0 : 0 ≤ z
          · rw [decide_eq_true h0] at hmz
            have HM := Bx.mk hmz.symm
            clear hmz
            go_wp2_with fail
            refine (ringsMay_impl (j2 : Int) (s : Int) (k : Int) _).mono ?_
            rw [HM.out]
            rintro e w3 ⟨rfl, m3, rfl⟩
            have HS3 := Lib.hid (HS2.out.drewN m3)
            clear HS2
            go_wp2
            go_roundw
            case rel => exact ⟨k + 1, by omega, by go_num, HS3.out⟩
            case measure => simp [intOf]; omega
          · have h0' : decide (0 ≤ z) = false := decide_eq_false h0
            rw [h0'] at hmz
            have HM := Bx.mk hmz.symm
            clear hmz
            go_wp2_with fail
            refine (ringsMay_impl (j2 : Int) (s : Int) (k : Int) _).mono ?_
            rw [HM.out]
            rintro e w3 ⟨rfl, m3, rfl⟩
            have HS3 := Lib.hid (HS2.out.drewN m3)
            clear HS2
            go_wp2
            go_roundw
            case rel => exact ⟨k + 1, by omega, by go_num, HS3.out⟩
            case measure => simp [intOf]; omega
        · go_wp2_with fail
          refine (planFor_impl _ t _ (HS.out.rdT 0 rfl)).mono ?_
          rw [HP1.out]
          rintro e w5 ⟨v5, rfl, s5⟩
          obtain ⟨A7, c7, hv, -⟩ := s5.rdI 0 rfl
          simp only [Option.isSome_some, Option.getD_some] at hv ⊢
          subst hv
          have HS5 := Lib.hid (HS.out.call s5)
          clear q1 s5 HS
          have q1 : ∀ j, w5.cell? ⟨B1, j, none⟩ = _ := HS5.out.cells 1 rfl
          go_wp2_with fail
          refine (taskValid_impl _ t _ (HS5.out.rdT 0 rfl)).mono ?_
          rw [HV.out]
          rintro e w6 ⟨rfl, hb6⟩
          have HS6 := Lib.hid (HS5.out.quiet hb6)
          clear q1 hb6 HS5
          have q1 : ∀ j, w6.cell? ⟨B1, j, none⟩ = _ := HS6.out.cells 1 rfl
          go_wp2_with fail
          refine (grayPlace_impl (s : Int) _).mono ?_
          rw [← HP2.out]
          rintro e w7 ⟨rfl, rfl⟩
          go_wp2_with fail
          refine (plansMany_impl _ t _ (HS6.out.rdT 0 rfl)).mono ?_
          rw [HP3.out]
          rintro e w8 ⟨rfl, hb8⟩
          have HS8 := Lib.hid (HS6.out.quiet hb8).below
          clear q1 hb8 HS6
          go_wp2
          go_ret
          exact ⟨rfl, HS8.out⟩
end Go.Proofs.Ytpcaagbmjhgnaaa
