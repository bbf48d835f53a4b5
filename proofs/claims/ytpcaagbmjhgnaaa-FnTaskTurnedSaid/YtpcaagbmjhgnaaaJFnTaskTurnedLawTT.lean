/- The walk of the law FnTaskTurned: true for every drawn code. -/
import Derived.Test.YtpcaagbmjhgnaaaJFnTaskTurned10
import Derived.Test.YtpcaagbmjhgnaaaJFnTaskTurnedSame
import Derived.Test.YtpcaagbmjhgnaaaJFnTaskTurnedTTaskI
import Derived.Test.YtpcaagbmjhgnaaaJFnTaskTurnedTTaskS
import Derived.Test.YtpcaagbmjhgnaaaJFnTaskTurnedTurnP
import Derived.Test.YtpcaagbmjhgnaaaJFnTaskTurnedPlanForW
import Derived.Test.YtpcaagbmjhgnaaaJFnTaskTurned12
import Derived.Test.YtpcaagbmjhgnaaaJFnTaskTurned13
namespace Go.Proofs.Ytpcaagbmjhgnaaa
set_option linter.unusedVariables false
open Go.ChangeShapes Go.WideShapes Go.ChangeAt Go.RowKit

theorem drawTaskTurned (A : Option Addr) (n c : Nat) (xs : List Int) (w : World) (h : RdI .u8 w w.heap.size A n c xs) : Calls Try.prog 61 #[.slice A n c] w fun e w' => ∃ v t, ∃ f : Nat, e = .returned (.tuple #[v, .int .i64 f]) ∧ f ≤ 63 ∧ St w w' [rTask v t] := by
  have HS0 := Lib.hid ((St.refl w).alloc #[.int .i64 0, .slice none 0 0, .slice none 0 0] 28)
  have H := Lib.hid h
  clear h
  go_enter Try.func61, Try.ntmps61
  go_wp2_with fail
  refine (l20Open_rd HS0.out H.out).mono ?_
  rintro e w1 ⟨g, rfl, s1⟩
  have HS1 := Lib.hid s1
  clear s1 HS0
  go_wp2_with fail
  refine (l20Task_rd HS1.out (by omega) 12).mono ?_
  rintro e w2 ⟨v2, t, rfl, ht, s2⟩
  obtain ⟨A1, n1, c1, A2, n2, c2, hv⟩ := s2.formT 1 rfl
  subst hv
  have HS2 := Lib.hid s2
  clear s2 ht HS1
  go_wp2_with fail
  refine (pick_rd HS2.out (by omega) 32).mono ?_
  rintro e w3 ⟨x3, rfl, ⟨b1, b2, -⟩, s3⟩
  have b3 := b2 (by omega)
  obtain ⟨k3, rfl⟩ := Int.eq_ofNat_of_zero_le b1
  have HS3 := Lib.hid s3
  clear s3 b2 HS2
  go_wp2_with fail
  refine (pick_rd HS3.out (by omega) 40).mono ?_
  rintro e w4 ⟨x4, rfl, ⟨d1, d2, -⟩, s4⟩
  have d3 := d2 (by omega)
  obtain ⟨k4, rfl⟩ := Int.eq_ofNat_of_zero_le d1
  obtain ⟨q, hq⟩ : ∃ q, k4 / 39 = q := ⟨_, rfl⟩
  have hd : (k4 : Int).tdiv 39 = (q : Int) := by rw [← hq, Int.tdiv_eq_ediv_of_nonneg (by omega)]; simp
  have hq1 : q ≤ 1 := by omega
  have q4 : ∀ j, w4.cell? ⟨w.heap.size, j, none⟩ = _ := s4.cells 2 rfl
  have f4 := s4.free 2 rfl
  have HS4 := Lib.hid (((s4.set3 2 rfl (.int .i64 t.start) (.slice A1 n1 c1) (.slice A2 n2 c2)).tl).rid 1 rfl)
  clear s4 d2 hq HS3
  go_wp2
  refine bodyPost_ret (v := .tuple #[.agg #[.int .i64 t.start, .slice A1 n1 c1, .slice A2 n2 c2], .int .i64 ((k3 + q * 32 : Nat) : Int)]) (by simp [results, Try.results61, go_sem, q4]) rfl ⟨_, t, _, rfl, by omega, HS4.out⟩
set_option maxRecDepth 100000 in
set_option maxHeartbeats 1000000 in
theorem FnTaskTurned_walk (A : Option Addr) (n c : Nat) (xs : List Int) (w : World) (h : RdI .u8 w w.heap.size A n c xs) :
    Calls Try.prog 12 #[.slice A n c] w fun e w' => e = .returned (.bool true) ∧ Below w.heap.size w w' := by
  have hcap := h.cap
  have hmax := h.capMax
  unfold maxLen at hmax
  have H := Lib.hid h
  clear h
  by_cases hn : n ≤ 1048576
  case neg =>
    go_enter Try.func12, Try.ntmps12
    go_wp2
    go_ret
    exact ⟨rfl, Below.refl _ _⟩
  go_enter Try.func12, Try.ntmps12
  go_wp2_with fail
  refine (drawTaskTurned A n c xs _ H.out).mono ?_
  rintro e w1 ⟨v1, t, f, rfl, hf, s1⟩
  obtain ⟨A1, j1, c1, A2, j2, c2, hv⟩ := s1.formT 0 rfl
  subst hv
  have HS1 : Hid (St w (w1.alloc (.cells #[.int .i64 t.start, .slice A1 j1 c1, .slice A2 j2 c2] 28)) [rTask (.agg #[.int .i64 t.start, .slice A1 j1 c1, .slice A2 j2 c2]) t, rBlk w1.heap.size 28 #[.int .i64 t.start, .slice A1 j1 c1, .slice A2 j2 c2]]) := Lib.hid (s1.alloc _ _)
  clear s1
  have HFW : Hid ((Lit.int .i64 (f : Int)).wf = true) := Lib.hid (wf_i64_mk (by omega))
  obtain ⟨x, hx⟩ : ∃ x, taskTurned t f = x := ⟨_, rfl⟩
  have HX := Bx.mk hx
  obtain ⟨bo, hbo⟩ : ∃ bo, turnOk t f = bo := ⟨_, rfl⟩
  have HBO := Bx.mk hbo
  go_wp2_with fail
  refine (taskTurned_impl _ t f _ (HS1.out.rdT 0 rfl) HFW.out).mono ?_
  rw [hx, hbo]
  rintro e w2 ⟨v2, rfl, s2⟩
  obtain ⟨A3, j3, c3, A4, j4, c4, hv⟩ := s2.formT 0 rfl
  subst hv
  have HS2 : Hid (St w (w2.alloc (.cells #[.int .i64 x.start, .slice A3 j3 c3, .slice A4 j4 c4] 28)) [rTask (.agg #[.int .i64 t.start, .slice A1 j1 c1, .slice A2 j2 c2]) t, rBlk w1.heap.size 28 #[.int .i64 t.start, .slice A1 j1 c1, .slice A2 j2 c2], rTask (.agg #[.int .i64 x.start, .slice A3 j3 c3, .slice A4 j4 c4]) x, rBlk w2.heap.size 28 #[.int .i64 x.start, .slice A3 j3 c3, .slice A4 j4 c4]]) := Lib.hid ((HS1.out.call s2).alloc _ _)
  have q1 : ∀ j, (w2.alloc (.cells #[.int .i64 x.start, .slice A3 j3 c3, .slice A4 j4 c4] 28)).cell? ⟨w1.heap.size, j, none⟩ = _ := HS2.out.cells 1 rfl
  clear s2 HS1
  go_wp2_with fail
  refine (taskTurned_spec _ t f _ (HS2.out.rdT 0 rfl) HFW.out).mono ?_
  rw [hx, hbo]
  rintro e w3 ⟨v3, rfl, s3⟩
  obtain ⟨A5, j5, c5, A6, j6, c6, hv⟩ := s3.formT 0 rfl
  subst hv
  have HS3 : Hid (St w (w3.alloc (.cells #[.int .i64 x.start, .slice A5 j5 c5, .slice A6 j6 c6] 28)) [rTask (.agg #[.int .i64 t.start, .slice A1 j1 c1, .slice A2 j2 c2]) t, rBlk w1.heap.size 28 #[.int .i64 t.start, .slice A1 j1 c1, .slice A2 j2 c2], rTask (.agg #[.int .i64 x.start, .slice A3 j3 c3, .slice A4 j4 c4]) x, rBlk w2.heap.size 28 #[.int .i64 x.start, .slice A3 j3 c3, .slice A4 j4 c4], rTask (.agg #[.int .i64 x.start, .slice A5 j5 c5, .slice A6 j6 c6]) x, rBlk w3.heap.size 28 #[.int .i64 x.start, .slice A5 j5 c5, .slice A6 j6 c6]]) := Lib.hid ((HS2.out.call s3).alloc _ _)
  clear q1 s3 HS2 hx hbo
  have q1 : ∀ j, (w3.alloc (.cells #[.int .i64 x.start, .slice A5 j5 c5, .slice A6 j6 c6] 28)).cell? ⟨w1.heap.size, j, none⟩ = _ := HS3.out.cells 1 rfl
  have q2 : ∀ j, (w3.alloc (.cells #[.int .i64 x.start, .slice A5 j5 c5, .slice A6 j6 c6] 28)).cell? ⟨w2.heap.size, j, none⟩ = _ := HS3.out.cells 3 rfl
  go_wp2_with fail
  refine (sameTask_any _ x _ x _ (HS3.out.rdT 2 rfl) (HS3.out.rdT 4 rfl)).mono ?_
  rw [decide_eq_true rfl]
  rintro e w4 ⟨rfl, hb4⟩
  have HS4 := Lib.hid (HS3.out.quiet hb4)
  clear q1 q2 hb4 HS3
  have q1 : ∀ j, w4.cell? ⟨w1.heap.size, j, none⟩ = _ := HS4.out.cells 1 rfl
  have q2 : ∀ j, w4.cell? ⟨w2.heap.size, j, none⟩ = _ := HS4.out.cells 3 rfl
  cases bo with
  | false =>
    have hj3 : j3 = 0 := by
      have hx0 : x = ⟨0, [], []⟩ := by rw [← HX.out]; unfold taskTurned; rw [HBO.out]; rfl
      obtain ⟨G, gn, gc, G', n', c', he, hg, -⟩ := HS4.out.rdT 2 rfl
      have hl := hg.len
      rw [hx0] at hl
      simp only [Value.agg.injEq, Array.mk.injEq, List.cons.injEq, Value.slice.injEq, and_true, true_and] at he
      simp only [List.length_nil] at hl
      omega
    subst hj3
    go_wp2_with fail
    refine (alive_any _).mono ?_
    rintro e w5 ⟨rfl, hb5⟩
    have HS5 := Lib.hid (HS4.out.quiet hb5).below
    clear hb5
    go_wp2
    go_ret
    exact ⟨rfl, HS5.out⟩
  | true =>
    obtain ⟨k1, ⟨k2, k3⟩, k4⟩ := turnOk_parts HBO.out
    rw [Int.toNat_natCast] at k4
    have k3' : f < 32 := by omega
    have hxt : x = turnT f t := by rw [← HX.out]; unfold taskTurned; rw [HBO.out, Int.toNat_natCast]; rfl
    obtain ⟨p, hp⟩ : ∃ p, planFor t = p := ⟨_, rfl⟩
    have hpx : planFor x = p := by rw [hxt, planFor_turn k3' k1 k4, hp]
    have HV : Bx (taskOk x = true) := Bx.mk (by rw [hxt]; exact k4)
    obtain ⟨M, hM⟩ : ∃ M, mset (fwd t.deeds (only t.start.toNat) 32) 32 = M := ⟨_, rfl⟩
    obtain ⟨N, hN⟩ : ∃ N, mset (fwd x.deeds (only x.start.toNat) 32) 32 = N := ⟨_, rfl⟩
    have hMN : ∀ k, k < 32 → bit M k = bit N (k ^^^ f) := fun k hk => by
      rw [← hM, ← hN, bit_mset, bit_mset, decide_eq_true hk, decide_eq_true (xor32 _ _ hk k3'), Bool.true_and, Bool.true_and, hxt, fwd_turn k3' k1 k4 hk]
    have hMl : M < 4294967296 := by rw [← hM]; exact mset_lt _ 32
    have hNl : N < 4294967296 := by rw [← hN]; exact mset_lt _ 32
    have HR1 : Bx (reached t = (M : Nat)) := Bx.mk (by unfold reached; rw [if_pos k1, hM])
    have HR2 : Bx (reached x = (N : Nat)) := Bx.mk (by unfold reached; rw [if_pos HV.out, hN])
    have HMN := Lib.hid hMN
    have HP := Bx.mk hp
    have HPX := Bx.mk hpx
    obtain ⟨pl, hpl⟩ : ∃ pl, p.getD [] = pl := ⟨_, rfl⟩
    obtain ⟨pb, hpb⟩ : ∃ pb, p.isSome = pb := ⟨_, rfl⟩
    have HPL := Bx.mk hpl
    have HPB := Bx.mk hpb
    clear k1 k2 k3 k4 hxt hpx hp hM hN hMN hpl hpb
    go_wp2_with fail
    refine (planFor_impl _ t _ (HS4.out.rdT 0 rfl)).mono ?_
    rw [HP.out, HPL.out, HPB.out]
    rintro e w5 ⟨v5, rfl, s5⟩
    obtain ⟨A7, c7, hv, -⟩ := s5.rdI 0 rfl
    subst hv
    have HS5 := Lib.hid (HS4.out.call s5)
    clear q1 q2 s5 HS4
    have q1 : ∀ j, w5.cell? ⟨w1.heap.size, j, none⟩ = _ := HS5.out.cells 1 rfl
    have q2 : ∀ j, w5.cell? ⟨w2.heap.size, j, none⟩ = _ := HS5.out.cells 3 rfl
    go_wp2_with fail
    refine (planFor_impl _ x _ (HS5.out.rdT 2 rfl)).mono ?_
    rw [HPX.out, HPL.out, HPB.out]
    rintro e w6 ⟨v6, rfl, s6⟩
    obtain ⟨A8, c8, hv, -⟩ := s6.rdI 0 rfl
    subst hv
    have HS6 := Lib.hid (HS5.out.call s6)
    clear q1 q2 s6 HS5
    have q1 : ∀ j, w6.cell? ⟨w1.heap.size, j, none⟩ = _ := HS6.out.cells 1 rfl
    have q2 : ∀ j, w6.cell? ⟨w2.heap.size, j, none⟩ = _ := HS6.out.cells 3 rfl
    go_wp2_with fail
    refine (reached_impl _ t _ (HS6.out.rdT 0 rfl)).mono ?_
    rw [HR1.out]
    rintro e w7 ⟨rfl, hb7⟩
    have HS7 := Lib.hid (HS6.out.quiet hb7)
    clear q1 q2 hb7 HS6
    have q1 : ∀ j, w7.cell? ⟨w1.heap.size, j, none⟩ = _ := HS7.out.cells 1 rfl
    have q2 : ∀ j, w7.cell? ⟨w2.heap.size, j, none⟩ = _ := HS7.out.cells 3 rfl
    go_wp2_with fail
    refine (reached_impl _ x _ (HS7.out.rdT 2 rfl)).mono ?_
    rw [HR2.out]
    rintro e w8 ⟨rfl, hb8⟩
    have HS8 := Lib.hid (HS7.out.quiet hb8)
    clear q1 q2 hb8 HS7
    go_wp2
    go_loopw [15] (fun i wr => ∃ k : Nat, k ≤ 32 ∧ i = .int .i64 k ∧ St w wr [rTask (.agg #[.int .i64 t.start, .slice A1 j1 c1, .slice A2 j2 c2]) t, rBlk w1.heap.size 28 #[.int .i64 t.start, .slice A1 j1 c1, .slice A2 j2 c2], rTask (.agg #[.int .i64 x.start, .slice A3 j3 c3, .slice A4 j4 c4]) x, rBlk w2.heap.size 28 #[.int .i64 x.start, .slice A3 j3 c3, .slice A4 j4 c4], rTask (.agg #[.int .i64 x.start, .slice A5 j5 c5, .slice A6 j6 c6]) x, rBlk w3.heap.size 28 #[.int .i64 x.start, .slice A5 j5 c5, .slice A6 j6 c6], rInts (.slice A7 pl.length c7) pl, rInts (.slice A8 pl.length c8) pl]) (fun i _ => 32 - (intOf i).toNat)
    case atStart => exact ⟨0, by omega, rfl, HS8.out⟩
    case round =>
      clear HS8
      obtain ⟨k, hk, rfl, S⟩ := hrel
      by_cases hlt : k < 32
      · have HS := Lib.hid S
        clear S
        have hC := fun w => lawOther_any (k : Int) (f : Int) (by omega) (by omega) (by omega) (by omega) w
        simp only [Int.toNat_natCast] at hC
        have hz : k ^^^ f < 32 := xor32 _ _ hlt k3'
        have e := HMN.out k hlt
        generalize k ^^^ f = z at hC hz e
        have HC := Lib.hid hC
        have ha2 := tmod2 M k
        have hb2 := tmod2 N z
        rw [← e] at hb2
        have hbl := bit_lt M k
        clear hC e
        generalize bit M k = y at ha2 hb2 hbl
        go_upto_region 17 with (fail)
        go_quiet ((go_at_call 63; with_reducible exact quiet_left (HC.out _)))
        have HS2 := Lib.hid (HS.out.drewN nq)
        clear HS
        go_wp2
        go_roundw
        case rel => exact ⟨k + 1, by omega, by go_num, HS2.out⟩
        case measure => simp [intOf]; omega
      · obtain rfl : k = 32 := by omega
        have HS := Lib.hid S
        clear S
        have q2 : ∀ j, wr.cell? ⟨w2.heap.size, j, none⟩ = _ := HS.out.cells 3 rfl
        go_wp2_with fail
        refine (taskValid_impl _ x _ (HS.out.rdT 2 rfl)).mono ?_
        rw [HV.out]
        rintro e w9 ⟨rfl, hb9⟩
        have HS9 := Lib.hid (HS.out.quiet hb9)
        clear q2 hb9 HS
        have hbb : (pb == pb) = true := by simp
        obtain ⟨Ax, cx, hvx, rdx⟩ := HS9.out.rdI 6 rfl
        obtain ⟨Ay, cy, hvy, rdy⟩ := HS9.out.rdI 7 rfl
        simp only [Value.slice.injEq, true_and] at hvx hvy
        obtain ⟨rfl, rfl⟩ := hvx
        obtain ⟨rfl, rfl⟩ := hvy
        have RX := Lib.hid rdx
        have RY := Lib.hid rdy
        clear rdx rdy
        go_wp2_with fail
        refine (sameInts_any A7 _ c7 pl A8 _ c8 pl _ RX.out RY.out).mono ?_
        rw [decide_eq_true rfl]
        rintro e w10 ⟨rfl, q10, rfl⟩
        have HS10 := Lib.hid (HS9.out.drewN q10).below
        clear HS9
        go_wp2
        go_ret
        exact ⟨rfl, HS10.out⟩
end Go.Proofs.Ytpcaagbmjhgnaaa
