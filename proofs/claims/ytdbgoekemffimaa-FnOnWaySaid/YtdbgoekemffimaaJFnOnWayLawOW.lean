/- The walk of the law FnOnWay: true for every drawn code. Printed by gen_lawow.py. -/
import Derived.Test.YtdbgoekemffimaaJFnOnWay9
import Derived.Test.YtdbgoekemffimaaJFnOnWay12
import Derived.Test.YtdbgoekemffimaaJFnOnWay13
import Derived.Test.YtdbgoekemffimaaJFnOnWayPlanForW
import Derived.Test.YtdbgoekemffimaaJFnOnWayFrom
import Derived.Test.YtdbgoekemffimaaJFnOnWay14
import Derived.Test.YtdbgoekemffimaaJFnOnWay15
namespace Go.Proofs.Ytdbgoekemffimaa
set_option linter.unusedVariables false
open Go.ChangeShapes Go.WideShapes Go.ChangeAt Go.RowKit

set_option maxRecDepth 100000 in
set_option maxHeartbeats 1000000 in
theorem FnOnWay_walk (A : Option Addr) (n c : Nat) (xs : List Int) (w : World) (h : RdI .u8 w w.heap.size A n c xs) :
    Calls Try.prog 4 #[.slice A n c] w fun e w' => e = .returned (.bool true) ∧ Below w.heap.size w w' := by
  have hcap := h.cap
  have hmax := h.capMax
  unfold maxLen at hmax
  have H := Lib.hid h
  clear h
  by_cases hn : n ≤ 1048576
  case neg =>
    go_enter Try.func4, Try.ntmps4
    go_wp2
    go_ret
    exact ⟨rfl, Below.refl _ _⟩
  go_enter Try.func4, Try.ntmps4
  go_wp2_with fail
  refine (drawOnWay A n c xs _ H.out).mono ?_
  rintro e w1 ⟨v1, t, rfl, -, s1⟩
  obtain ⟨A1, j1, c1, A2, j2, c2, hv⟩ := s1.formT 0 rfl
  subst hv
  obtain ⟨ts, hts⟩ : ∃ x, t.start = x := ⟨_, rfl⟩
  rw [hts] at s1 ⊢
  have HTS := Bx.mk hts
  clear hts
  have HS1 : Hid (St w (w1.alloc (.cells #[.int .i64 ts, .slice A1 j1 c1, .slice A2 j2 c2] 26)) [rTask (.agg #[.int .i64 ts, .slice A1 j1 c1, .slice A2 j2 c2]) t, rBlk w1.heap.size 26 #[.int .i64 ts, .slice A1 j1 c1, .slice A2 j2 c2]]) := Lib.hid (s1.alloc _ _)
  clear s1
  obtain ⟨ow, how⟩ : ∃ x, onWay t = x := ⟨_, rfl⟩
  have HOW := Bx.mk how
  clear how
  go_wp2_with fail
  refine (onWay_impl _ t _ (HS1.out.rdT 0 rfl)).mono ?_
  rw [HOW.out]
  rintro e w2 ⟨rfl, hb2⟩
  have HS2 := Lib.hid (HS1.out.quiet hb2)
  have q2 : ∀ j, w2.cell? ⟨w1.heap.size, j, none⟩ = _ := HS2.out.cells 1 rfl
  clear hb2 HS1
  go_wp2_with fail
  refine (onWay_spec _ t _ (HS2.out.rdT 0 rfl)).mono ?_
  rw [HOW.out]
  rintro e w3 ⟨rfl, hb3⟩
  have HS3 := Lib.hid (HS2.out.quiet hb3)
  clear q2 hb3 HS2
  have q3 : ∀ j, w3.cell? ⟨w1.heap.size, j, none⟩ = _ := HS3.out.cells 1 rfl
  obtain ⟨bo, hok⟩ : ∃ b, taskOk t = b := ⟨_, rfl⟩
  cases bo with
  | false =>
    obtain rfl : ow = -1 := by rw [← HOW.out, onWay_no t hok]
    clear hok
    go_wp2_with fail
    refine (alive_any _).mono ?_
    rintro e w5 ⟨rfl, hb5⟩
    have HS5 := Lib.hid (HS3.out.quiet hb5).below
    clear hb5
    go_wp2
    go_ret
    exact ⟨rfl, HS5.out⟩
  | true =>
    obtain ⟨hs0, hgok, hn6, hdok⟩ := taskOk_parts t hok
    rw [HTS.out] at hs0
    obtain ⟨s0, hst0⟩ := Int.eq_ofNat_of_zero_le hs0.1
    subst hst0
    have hs32 : s0 < 32 := by omega
    obtain ⟨p, hp⟩ : ∃ p, evalCode t.goal = p := ⟨_, rfl⟩
    obtain ⟨M, hM⟩ : ∃ M, mset (onP t.deeds p s0) 32 = M := ⟨_, rfl⟩
    obtain rfl : ow = (M : Nat) := by rw [← HOW.out, onWay_yes t hok s0 HTS.out, hp, hM]
    have hM32 : M < 4294967296 := by rw [← hM]; exact mset32_lt _
    obtain ⟨R, hR⟩ : ∃ R, mset (fwd t.deeds (only s0) 32) 32 = R := ⟨_, rfl⟩
    obtain ⟨Q, hQ⟩ : ∃ Q, mset (layer t.deeds p 32) 32 = Q := ⟨_, rfl⟩
    have HR : Bx (reached t = (R : Nat)) := Bx.mk (by rw [reached_yes t hok s0 HTS.out, hR])
    have HQ : Bx (leadsTo t = (Q : Nat)) := Bx.mk (by rw [leadsTo_yes t hok s0 HTS.out, hp, hQ])
    have HMR : Bx (M &&& R = M) := Bx.mk (by rw [← hM, ← hR]; exact on_reached t p)
    have HMQ : Bx (M &&& Q = M) := Bx.mk (by rw [← hM, ← hQ]; exact on_leads t p)
    have HRL : Bx (R < 4294967296) := Bx.mk (by rw [← hR]; exact mset32_lt _)
    have HQL : Bx (Q < 4294967296) := Bx.mk (by rw [← hQ]; exact mset32_lt _)
    have HOK := Bx.mk hok
    have HD := Bx.mk hdok
    obtain ⟨vs, hvs⟩ : ∃ vs, stpV t.deeds p s0 = vs := ⟨_, rfl⟩
    have hvb : -1 ≤ vs ∧ vs ≤ 31 := by rw [← hvs]; exact stpV_le hdok hs32
    have HPF : Bx (planFor t = if vs < 0 then none else some (walkP t.deeds p vs.toNat s0)) := Bx.mk (by rw [planFor_yes t hok s0 HTS.out, hp, hvs])
    have hM0 : vs < 0 → M = 0 := fun h => by rw [← hM]; exact on_none t p (by rw [hvs]; exact h)
    have hM1 : 0 ≤ vs → 0 < M := fun h => by
      obtain ⟨L, hL⟩ := Int.eq_ofNat_of_zero_le h
      rw [← hM]; exact on_some t hdok p hs32 (hvs.trans hL)
    have HON : Bx (∀ k : Nat, (k : Int) ≤ vs → ∃ z, planRun t s0 ((walkP t.deeds p vs.toNat s0).take k) = ((z : Nat) : Int) ∧ z < 32 ∧ bit M z = 1) := Bx.mk fun k hk => by
      obtain ⟨L, hL⟩ := Int.eq_ofNat_of_zero_le (show 0 ≤ vs by omega)
      obtain ⟨z, h1, h2, h3⟩ := walk_on t hdok p (k := k) (L := L) (by omega) hs32 (hvs.trans hL)
      refine ⟨z, ?_, h2, ?_⟩
      · unfold planRun
        rw [hL, Int.toNat_natCast, Int.toNat_natCast, if_pos ⟨hok, (stIn_iff _).2 ⟨by omega, by omega⟩, by
          have h4 := walkP_len t.deeds p L s0
          have h5 := List.length_take_le k (walkP t.deeds p L s0)
          omega⟩, h1]
        rfl
      · rw [← hM, bit_mset, decide_eq_true h2, h3]; rfl
    have HLEN : Bx (0 ≤ vs → ((walkP t.deeds p vs.toNat s0).length : Int) = vs) := Bx.mk fun h => by
      obtain ⟨L, hL⟩ := Int.eq_ofNat_of_zero_le h
      rw [hL, Int.toNat_natCast, (walkP_run t hdok p L s0 hs32 (hvs.trans hL)).1]
    have hpd : decide ((M : Int) < 0) = false := decide_eq_false (by omega)
    clear hok hgok hn6 hdok hp hM hR hQ hvs hs0
    go_wp2_with fail
    refine (planFor_impl _ t _ (HS3.out.rdT 0 rfl)).mono ?_
    rw [HPF.out]
    by_cases hneg : vs < 0
    case pos =>
      rw [if_pos hneg]
      obtain rfl := hM0 hneg
      rintro e w5 ⟨v5, rfl, s5⟩
      obtain ⟨A7, c7, hv, -⟩ := s5.rdI 0 rfl
      simp only [Option.isSome_none, Option.getD_none, List.length_nil] at hv ⊢
      subst hv
      have HS5 := Lib.hid (HS3.out.call s5)
      clear q3 s5 HS3 hM1 hM0
      go_wp2
      go_loopw [7] (fun iv wr => iv = .int .i64 0 ∧ wr = w5) (fun _ _ => 0)
      case atStart => exact ⟨rfl, rfl⟩
      case round =>
        obtain ⟨rfl, rfl⟩ := hrel
        have q5 : ∀ j, wr.cell? ⟨w1.heap.size, j, none⟩ = _ := HS5.out.cells 1 rfl
        go_wp2_with fail
        refine (reached_impl _ t _ (HS5.out.rdT 0 rfl)).mono ?_
        rw [HR.out]
        rintro e w6 ⟨rfl, hb6⟩
        have HS6 := Lib.hid (HS5.out.quiet hb6)
        clear q5 hb6
        have q6 : ∀ j, w6.cell? ⟨w1.heap.size, j, none⟩ = _ := HS6.out.cells 1 rfl
        have hb1 := lawBoth_nat 0 R (by omega)
        rw [HMR.out] at hb1
        go_wp2_with fail
        refine (hb1 _).mono ?_
        rintro e w7 ⟨rfl, rfl⟩
        go_wp2_with fail
        refine (leadsTo_impl _ t _ (HS6.out.rdT 0 rfl)).mono ?_
        rw [HQ.out]
        rintro e w8 ⟨rfl, hb8⟩
        have HS8 := Lib.hid (HS6.out.quiet hb8)
        clear q6 hb8 hb1
        have hb2 := lawBoth_nat 0 Q (by omega)
        rw [HMQ.out] at hb2
        go_wp2_with fail
        refine (hb2 _).mono ?_
        rintro e w9 ⟨rfl, rfl⟩
        clear hb2
        go_wp2
        go_ret
        exact ⟨rfl, HS8.out.below⟩
    rw [if_neg hneg]
    have hMp := hM1 (by omega)
    have hlen := HLEN.out (by omega)
    obtain ⟨pl, hpl⟩ : ∃ pl, walkP t.deeds p vs.toNat s0 = pl := ⟨_, rfl⟩
    rw [hpl] at hlen HON ⊢
    rintro e w5 ⟨v5, rfl, s5⟩
    obtain ⟨A7, c7, hv, hrd⟩ := s5.rdI 0 rfl
    simp only [Option.isSome_some, Option.getD_some] at hv hrd s5 ⊢
    subst hv
    have hc7 : pl.length ≤ c7 := hrd.cap
    have hc8 : c7 ≤ maxLen := hrd.capMax
    unfold maxLen at hc8
    have HS5 : Hid (St w w5 [rTask (.agg #[.int .i64 s0, .slice A1 j1 c1, .slice A2 j2 c2]) t, rBlk w1.heap.size 26 #[.int .i64 s0, .slice A1 j1 c1, .slice A2 j2 c2], rInts (.slice A7 pl.length c7) pl]) := Lib.hid (HS3.out.call s5)
    have HLN := Bx.mk hlen
    have hpl32 : pl.length ≤ 31 := by omega
    clear q3 s5 HS3 hM1 hM0 hpl hlen hrd
    go_wp2
    go_loopw [7] (fun iv wr => ∃ k : Nat, k ≤ pl.length + 1 ∧ iv = .int .i64 k ∧ St w wr [rTask (.agg #[.int .i64 s0, .slice A1 j1 c1, .slice A2 j2 c2]) t, rBlk w1.heap.size 26 #[.int .i64 s0, .slice A1 j1 c1, .slice A2 j2 c2], rInts (.slice A7 pl.length c7) pl]) (fun iv _ => 33 - (intOf iv).toNat)
    case atStart => exact ⟨0, by omega, rfl, HS5.out⟩
    case round =>
      clear HS5
      obtain ⟨k, hk, rfl, S⟩ := hrel
      have HS := Lib.hid S
      clear S
      by_cases hkl : k ≤ pl.length
      · obtain ⟨z, hz1, hz2, hz3⟩ := HON.out k (by have := HLN.out; omega)
        have HZ := Bx.mk hz1
        have hbt := tmod2 M z
        rw [hz3] at hbt
        have hkI : (k : Int) ≤ (pl.length : Int) := by omega
        have hkc : (k : Int) ≤ (c7 : Int) := by omega
        clear hz1 hz3
        go_upto_region 13 with (fail)
        refine wp_reg (σ := Unit) (by kernel_rfl) (by kernel_rfl) (by kernel_rfl)
          (fun s i => match i with
            | 0 => .agg #[.int .i64 s0, .slice A1 j1 c1, .slice A2 j2 c2]
            | 1 => .pointer (some ⟨w1.heap.size, 0, none⟩)
            | 2 => .int .i64 s0
            | 3 => .slice A7 pl.length c7
            | 4 => .int .i64 k
            | 5 => .slice A7 k c7
            | 6 => .int .i64 (z : Nat)
            | 7 => .int .i64 (z : Nat)
            | _ => undef)
          (fun D s wx => Sn w wx fun i => match i with
            | 0 => some (rTask (.agg #[.int .i64 s0, .slice A1 j1 c1, .slice A2 j2 c2]) t)
            | 1 => some (rBlk w1.heap.size 26 #[.int .i64 s0, .slice A1 j1 c1, .slice A2 j2 c2])
            | 2 => some (rInts (.slice A7 pl.length c7) pl)
            | _ => none)
          () ?_ ?_ ?_
        · intro D hD
          refine ((Sn.of_st HS.out).quiet ((Below.refl _ _).drew)).congr fun i => ?_
          match i with
          | 0 => rfl
          | 1 => rfl
          | 2 => rfl
          | q + 3 => rfl
        · refine StepAll.cons (fun D s wx hR (hDi : D 0 = false) hd hsh a' hs K hK => ?_) ?_
          · have e3 := hs.old 3 (u := .pointer (some ⟨w1.heap.size, 0, none⟩)) (by kernel_rfl) rfl
            clear hs
            have kb : Blk wx (w1.heap.size) 26 #[.int .i64 s0, .slice A1 j1 c1, .slice A2 j2 c2] := hR.blk 1 rfl
            have c0 : wx.cell? ⟨w1.heap.size, 0, none⟩ = some (.int .i64 s0) := kb.cell 0
            have c1 : wx.cell? ⟨w1.heap.size, 1, none⟩ = some (.slice A1 j1 c1) := kb.cell 1
            have c2 : wx.cell? ⟨w1.heap.size, 2, none⟩ = some (.slice A2 j2 c2) := kb.cell 2
            go_simp
            exact hK s wx (fun _ _ => rfl) hR
          refine StepAll.cons (fun D s wx hR (hDi : D 1 = false) hd hsh a' hs K hK => ?_) ?_
          · have e3 := hs.old 3 (u := .pointer (some ⟨w1.heap.size, 0, none⟩)) (by kernel_rfl) rfl
            clear hs
            go_simp
            exact hK s wx (fun _ _ => rfl) hR
          refine StepAll.cons (fun D s wx hR (hDi : D 2 = false) hd hsh a' hs K hK => ?_) ?_
          · have e42 := hs.at_ 1 42 (u := .pointer (some ⟨w1.heap.size, 0, none⟩)) rfl (hd ⟨1, .data⟩ (by simp) rfl) (by kernel_rfl) (by kernel_rfl) rfl
            clear hs
            have kb : Blk wx (w1.heap.size) 26 #[.int .i64 s0, .slice A1 j1 c1, .slice A2 j2 c2] := hR.blk 1 rfl
            have c0 : wx.cell? ⟨w1.heap.size, 0, none⟩ = some (.int .i64 s0) := kb.cell 0
            go_simp
            exact hK s wx (fun _ _ => rfl) hR
          refine StepAll.cons (fun D s wx hR (hDi : D 3 = false) hd hsh a' hs K hK => ?_) ?_
          · have e5 := hs.old 5 (u := .slice A7 pl.length c7) (by kernel_rfl) rfl
            clear hs
            go_simp
            exact hK s wx (fun _ _ => rfl) hR
          refine StepAll.cons (fun D s wx hR (hDi : D 4 = false) hd hsh a' hs K hK => ?_) ?_
          · have e7 := hs.old 7 (u := .int .i64 k) (by kernel_rfl) rfl
            clear hs
            go_simp
            exact hK s wx (fun _ _ => rfl) hR
          refine StepAll.cons (fun D s wx hR (hDi : D 5 = false) hd hsh a' hs K hK => ?_) ?_
          · have e44 := hs.at_ 3 44 (u := .slice A7 pl.length c7) rfl (hd ⟨3, .data⟩ (by simp) rfl) (by kernel_rfl) (by kernel_rfl) rfl
            have e45 := hs.at_ 4 45 (u := .int .i64 k) rfl (hd ⟨4, .data⟩ (by simp) rfl) (by kernel_rfl) (by kernel_rfl) rfl
            clear hs
            go_simp
            exact hK s wx (fun _ _ => rfl) hR
          refine StepAll.cons (fun D s wx hR (hDi : D 6 = false) hd hsh a' hs K hK => ?_) ?_
          · have e41 := hs.at_ 0 41 (u := .agg #[.int .i64 s0, .slice A1 j1 c1, .slice A2 j2 c2]) rfl (hd ⟨0, .data⟩ (by simp) rfl) (by kernel_rfl) (by kernel_rfl) rfl
            have e43 := hs.at_ 2 43 (u := .int .i64 s0) rfl (hd ⟨2, .data⟩ (by simp) rfl) (by kernel_rfl) (by kernel_rfl) rfl
            have e46 := hs.at_ 5 46 (u := .slice A7 k c7) rfl (hd ⟨5, .data⟩ (by simp) rfl) (by kernel_rfl) (by kernel_rfl) rfl
            have g41 := getQ e41
            have g43 := getQ e43
            have g46 := getQ e46
            clear hs
            go_simp
            refine (planRun_impl _ t s0 A7 k c7 (pl.take k) _ (hR.rdT 0 rfl) (rdI_prefix (hR.rdI' 2 rfl) k hkl)).mono ?_
            rw [HZ.out]
            rintro e2 w2 ⟨rfl, hb2⟩
            exact hK s w2 (fun _ _ => rfl) (hR.quiet hb2)
          refine StepAll.cons (fun D s wx hR (hDi : D 7 = false) hd hsh a' hs K hK => ?_) ?_
          · have e47 := hs.at_ 6 47 (u := .int .i64 (z : Nat)) rfl (hd ⟨6, .data⟩ (by simp) rfl) (by kernel_rfl) (by kernel_rfl) rfl
            clear hs
            go_simp
            exact hK s wx (fun _ _ => rfl) hR
          exact StepAll.nil
        · intro D s wx hR hD
          simp only [putA, Act.put, List.setIfInBounds_toArray, List.set_cons_zero, List.set_cons_succ]
          have HS2 : Hid (St w wx [rTask (.agg #[.int .i64 s0, .slice A1 j1 c1, .slice A2 j2 c2]) t, rBlk w1.heap.size 26 #[.int .i64 s0, .slice A1 j1 c1, .slice A2 j2 c2], rInts (.slice A7 pl.length c7) pl]) := Lib.hid (hR.to_st [0, 1, 2] (by decide) rfl)
          clear hR hD
          go_wp2
          go_roundw
          case rel => exact ⟨k + 1, by omega, by go_num, HS2.out⟩
          case measure => simp [intOf]; omega
      · have hkd : decide ((k : Int) ≤ (pl.length : Int)) = false := decide_eq_false (by omega)
        have q5 : ∀ j, wr.cell? ⟨w1.heap.size, j, none⟩ = _ := HS.out.cells 1 rfl
        have hMI : (0 : Int) < (M : Int) := by omega
        go_wp2_with fail
        refine (reached_impl _ t _ (HS.out.rdT 0 rfl)).mono ?_
        rw [HR.out]
        rintro e w6 ⟨rfl, hb6⟩
        have HS6 := Lib.hid (HS.out.quiet hb6)
        clear q5 hb6
        have q6 : ∀ j, w6.cell? ⟨w1.heap.size, j, none⟩ = _ := HS6.out.cells 1 rfl
        have hb1 := lawBoth_nat M R (by omega)
        rw [HMR.out] at hb1
        have HB1 := Lib.hid hb1
        clear hb1
        go_wp2_with fail
        refine (HB1.out _).mono ?_
        rintro e w7 ⟨rfl, rfl⟩
        go_wp2_with fail
        refine (leadsTo_impl _ t _ (HS6.out.rdT 0 rfl)).mono ?_
        rw [HQ.out]
        rintro e w8 ⟨rfl, hb8⟩
        have HS8 := Lib.hid (HS6.out.quiet hb8)
        clear q6 hb8
        have hb2 := lawBoth_nat M Q (by omega)
        rw [HMQ.out] at hb2
        have HB2 := Lib.hid hb2
        clear hb2
        go_wp2_with fail
        refine (HB2.out _).mono ?_
        rintro e w9 ⟨rfl, rfl⟩
        go_wp2
        go_ret
        exact ⟨rfl, HS8.out.below⟩
end Go.Proofs.Ytdbgoekemffimaa
