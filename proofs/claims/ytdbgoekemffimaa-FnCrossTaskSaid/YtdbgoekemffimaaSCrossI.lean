/- CrossTask of the program. -/
import Derived.Test.YtdbgoekemffimaaSRr
import Derived.Test.YtdbgoekemffimaaSSz
namespace Go.Proofs.Ytdbgoekemffimaa
set_option linter.unusedVariables false
set_option linter.unusedSimpArgs false
open Go.ChangeShapes Go.WideShapes Go.ChangeAt Go.RowKit

theorem St.pushR {w W W' : World} {L : List HRes} {v v' nv : Value} {xss : List (List Int)} {xs : List Int} {n : Nat} (h : St w W (rRows v xss :: rInts nv xs :: L)) (hn : n = xss.length + 1)
    {vs : List Value} (hrow : W.ownsRow 0 23 1 v xss.length vs) (hown : W'.ownsRow 0 23 1 v' n (vs ++ [nv])) (hg : W.grownBy W' v.ownBlock) (hat : v'.ownBlock = v.ownBlock ∨ v'.ownBlock = some W.heap.size) : St w W' (rRows v' (xss ++ [xs]) :: L) :=
  drop2_st ((Sn.of_st h).pushR 0 1 (by decide) rfl rfl hn hrow hown hg hat) rfl fun i => rfl
theorem crossOk_graph (xs : List Int) (h : graphOk xs = false) : crossOk xs = false := by unfold crossOk; rw [h]; rfl
theorem crossOk_big (xs : List Int) (h : ¬ xs.length ≤ 4) : crossOk xs = false := by unfold crossOk; rw [decide_eq_false h]; simp
theorem crossTask_no (xs : List Int) (h : crossOk xs = false) : crossTask xs = ⟨0, [], []⟩ := if_neg (by rw [h]; simp)
theorem crossOk_long (xs : List Int) (e : Nat) (he : e ≤ xs.length) (h : ¬ (crossNeed xs e).length ≤ 40) : crossOk xs = false := by
  unfold crossOk
  have : ((List.range (xs.length + 1)).all fun e => decide ((crossNeed xs e).length ≤ 40)) = false := by
    rw [List.all_eq_false]
    exact ⟨e, List.mem_range.2 (by omega), by simpa using h⟩
  rw [this]; simp
theorem crossOk_yes (xs : List Int) (hg : graphOk xs = true) (h4 : xs.length ≤ 4) (h : ∀ e, e < xs.length + 1 → (crossNeed xs e).length ≤ 40) : crossOk xs = true := by
  unfold crossOk
  rw [hg, decide_eq_true h4]
  simp only [Bool.true_and, List.all_eq_true, List.mem_range, decide_eq_true_eq]
  exact h
theorem crossTask_yes (xs : List Int) (h : crossOk xs = true) : crossTask xs = crossT xs := if_pos h
def flipC (e : Nat) : Int := if e = 0 then 1 else 1 + 2 ^ e
theorem or_flip (k : Nat) (h : k ≤ 3) : bits .or .i64 1 (2 ^ (k + 1)) = flipC (k + 1) := by
  obtain rfl | rfl | rfl | rfl : k = 0 ∨ k = 1 ∨ k = 2 ∨ k = 3 := by omega
  all_goals decide
theorem crossD_eq (xs : List Int) (e : Nat) : crossD xs e = ⟨crossNeed xs e, 0, 0, flipC e⟩ := rfl
theorem flipC_wf (e : Nat) (h : e ≤ 4) : (Lit.int .i64 (flipC e)).wf = true := wf_i64_mk (by have := crossFlip e h; unfold flipC; omega)
def crossDs (xs : List Int) (e : Nat) : List DeedD := (List.range e).map (crossD xs)
theorem crossDs_succ (xs : List Int) (e : Nat) : crossDs xs (e + 1) = crossDs xs e ++ [crossD xs e] := by simp [crossDs, List.range_succ]
theorem crossDs_len (xs : List Int) (e : Nat) : (crossDs xs e).length = e := by simp [crossDs]
set_option maxRecDepth 100000 in
set_option maxHeartbeats 1000000 in
theorem crossTask_impl (A : Option Addr) (n c : Nat) (xs : List Int) (w : World) (h : RdI .i64 w w.heap.size A n c xs) :
    Calls Try.prog 36 #[.agg #[.slice A n c]] w (Gives w (fun v => .tuple #[v, .bool (crossOk xs)]) fun v => [rTask v (crossTask xs)]) := by
  have HL := Lib.hid h.len
  have S0 : St w ((w.alloc (Obj.cells #[.slice A n c] 37)).alloc (Obj.cells #[.int .i64 0, .slice none 0 0, .slice none 0 0] 26)) [rBlk w.heap.size 37 #[.slice A n c], rBlk (w.heap.size + 1) 26 #[.int .i64 0, .slice none 0 0, .slice none 0 0]] := by
    have := ((St.refl w).alloc #[.slice A n c] 37).alloc #[.int .i64 0, .slice none 0 0, .slice none 0 0] 26
    simpa using this
  have hcap := h.cap
  have hcm := h.capMax
  unfold maxLen at hcm
  have HS0 := Lib.hid S0
  have H := Lib.hid h
  have H0 := Lib.hid (h.up S0.below)
  clear S0 h
  obtain ⟨bo, hso⟩ : ∃ b, graphOk xs = b := ⟨_, rfl⟩
  have HSO := Lib.hid hso
  clear hso
  cases bo with
  | false =>
    have HV := Bx.mk (crossOk_graph xs HSO.out)
    go_enter Try.func36, Try.ntmps36
    go_wp2_with fail
    refine (graphValid_impl A n c xs _ H0.out).mono ?_
    rw [HSO.out]
    rintro e w1 ⟨rfl, hb1⟩
    have HS1 := Lib.hid (HS0.out.quiet hb1)
    have r0 : ∀ j, w1.cell? ⟨w.heap.size + 1, j, none⟩ = _ := HS1.out.cells 1 rfl
    have g0 : ∀ j, w1.cell? ⟨w.heap.size, j, none⟩ = _ := HS1.out.cells 0 rfl
    have fr := HS1.out.free 1 rfl
    clear hb1
    go_wp2
    refine bodyPost_ret (v := .tuple #[.agg #[.int .i64 0, .slice none 0 0, .slice none 0 0], .bool false]) (by simp [results, Try.results36, go_sem, r0]) rfl ⟨.agg #[.int .i64 0, .slice none 0 0, .slice none 0 0], by rw [HV.out], ?_⟩
    rw [crossTask_no _ HV.out]
    exact St.task0 (HS1.out.set3 1 rfl _ _ _).below
  | true =>
    have hn1 : 1 ≤ n := by rw [← HL.out]; exact (graphOk_len xs HSO.out).1
    by_cases h4 : n ≤ 4
    case neg =>
      have HV := Bx.mk (crossOk_big xs (by rw [HL.out]; exact h4))
      go_enter Try.func36, Try.ntmps36
      go_wp2_with fail
      refine (graphValid_impl A n c xs _ H0.out).mono ?_
      rw [HSO.out]
      rintro e w1 ⟨rfl, hb1⟩
      have HS1 := Lib.hid (HS0.out.quiet hb1)
      have r0 : ∀ j, w1.cell? ⟨w.heap.size + 1, j, none⟩ = _ := HS1.out.cells 1 rfl
      have g0 : ∀ j, w1.cell? ⟨w.heap.size, j, none⟩ = _ := HS1.out.cells 0 rfl
      have fr := HS1.out.free 1 rfl
      clear hb1
      go_wp2
      refine bodyPost_ret (v := .tuple #[.agg #[.int .i64 0, .slice none 0 0, .slice none 0 0], .bool false]) (by simp [results, Try.results36, go_sem, r0]) rfl ⟨.agg #[.int .i64 0, .slice none 0 0, .slice none 0 0], by rw [HV.out], ?_⟩
      rw [crossTask_no _ HV.out]
      exact St.task0 (HS1.out.set3 1 rfl _ _ _).below
    go_enter Try.func36, Try.ntmps36
    go_wp2_with fail
    refine (graphValid_impl A n c xs _ H0.out).mono ?_
    rw [HSO.out]
    rintro e w1 ⟨rfl, hb1⟩
    have HS1 := Lib.hid (HS0.out.quiet hb1)
    have g0 : ∀ j, w1.cell? ⟨w.heap.size, j, none⟩ = _ := HS1.out.cells 0 rfl
    clear hb1
    obtain ⟨T, hT⟩ : ∃ T, w1.heap.size = T := ⟨_, rfl⟩
    have HS2 : Hid (St w (w1.alloc (.cells #[.int .i64 0, .slice none 0 0, .slice none 0 0] 26)) [rRows (.slice none 0 0) (overParts 0), rBlk w.heap.size 37 #[.slice A n c], rBlk (w.heap.size + 1) 26 #[.int .i64 0, .slice none 0 0, .slice none 0 0], rBlk T 26 #[.int .i64 0, .slice none 0 0, .slice none 0 0]]) := Lib.hid (by
      rw [← hT]
      exact ((HS1.out.alloc _ _).call (rRows_nil _ _ (Below.refl _ _))).pick [3, 0, 1, 2] (by decide) rfl rfl)
    have g2 : ∀ j, (w1.alloc (.cells #[.int .i64 0, .slice none 0 0, .slice none 0 0] 26)).cell? ⟨w.heap.size, j, none⟩ = _ := HS2.out.cells 1 rfl
    go_wp2
    try rw [hT]
    clear hT g0 g2
    go_loopw [28, 5] (fun i v wr => ∃ k : Nat, k ≤ n + 1 ∧ i = .int .i64 k ∧ St w wr [rRows v (overParts k), rBlk w.heap.size 37 #[.slice A n c], rBlk (w.heap.size + 1) 26 #[.int .i64 0, .slice none 0 0, .slice none 0 0], rBlk T 26 #[.int .i64 0, .slice none 0 0, .slice none 0 0]]) (fun i _ _ => n + 1 - (intOf i).toNat)
    case atStart => exact ⟨0, by omega, rfl, HS2.out⟩
    case round =>
      clear HS2 HS1
      obtain ⟨k, hk, rfl, S⟩ := hrel
      have HS := Lib.hid S
      clear S
      by_cases hlt : k < n + 1
      · have HS3 : Hid (St w ((wr.alloc (.cells #[.int .i64 k] 3)).alloc (.cells #[.slice (some ⟨wr.heap.size, 0, none⟩) 1 1] 23)) [rRows u5 (overParts k), rInts (.slice (some ⟨wr.heap.size, 0, none⟩) 1 1) [(k : Int)], rBlk w.heap.size 37 #[.slice A n c], rBlk (w.heap.size + 1) 26 #[.int .i64 0, .slice none 0 0, .slice none 0 0], rBlk T 26 #[.int .i64 0, .slice none 0 0, .slice none 0 0]]) := Lib.hid
          (((HS.out.call (St.newLit wr [(k : Int)] 1 rfl (by simp) (by intro x hx; rw [List.mem_singleton] at hx; subst hx; exact wf_i64_mk (by omega)))).alloc _ _).pick [0, 4, 1, 2, 3] (by decide) rfl rfl)
        obtain ⟨vs, hrow⟩ := HS.out.rowR 0 rfl
        rw [overParts_len] at hrow
        have HRW := Lib.hid hrow
        have HSU := Lib.hid (overParts_succ k)
        clear hrow
        go_wp2_with (at_builtin; refine wp_app elRow rfl (.tmp 31) (.tmp 34) rfl 0 u5 k vs rfl ((HRW.out.alloc _).alloc _) _ _ 1 1 [.slice (some ⟨wr.heap.size, 0, none⟩) 1 1] rfl (RdRow.newAt (wr.alloc (.cells #[.int .i64 k] 3)) [.slice (some ⟨wr.heap.size, 0, none⟩) 1 1] 23 1 1 (wr.heap.size + 1) (by simp) rfl (by unfold maxLen; omega)) (by simp [Value.oneCell']) (by omega) (by omega) (Nat.zero_le _) ?_; intro v3 w3 hown3 hg3 hat3; have HS4 := Lib.hid (HS3.out.pushR (by rw [overParts_len]) (by rw [overParts_len]; exact (HRW.out.alloc _).alloc _) hown3 hg3 hat3); clear hown3 hg3 hat3)
        rw [← HSU.out] at HS4
        go_wp2
        go_roundw
        case rel => exact ⟨k + 1, by omega, by go_num, HS4.out⟩
        case measure => simp [intOf]; omega
      · have hkn : k = n + 1 := by omega
        subst hkn
        obtain ⟨A3, c3, hv, hrp⟩ := HS.out.rdP 0 rfl
        subst hv
        rw [overParts_len] at hrp ⊢
        rw [overParts_len] at HS
        have HRP := Lib.hid hrp
        have HOV : Hid (∀ p ∈ overParts (n + 1), p.length ≤ 64) := Lib.hid fun p hp => by have := (overParts_ok (n + 1) (by omega) p hp).2.1; omega
        have q3 : ∀ j, wr.cell? ⟨T, j, none⟩ = _ := HS.out.cells 3 rfl
        clear hrp hk hlt
        go_wp2_with fail
        refine (allHold_st A3 (n + 1) c3 (overParts (n + 1)) _ HRP.out HOV.out (by omega)).mono ?_
        rintro e w4 ⟨v4, rfl, s4⟩
        obtain ⟨A4, c4, hv4, -⟩ := s4.rdI 0 rfl
        subst hv4
        obtain ⟨goal, hgoal⟩ : ∃ goal, codeAll (overParts (n + 1)) = goal := ⟨_, rfl⟩
        have HGOAL : Bx (codeAll (overParts (xs.length + 1)) = goal) := Bx.mk (by rw [HL.out]; exact hgoal)
        have HGL : Hid (goal.length ≤ 40) := Lib.hid (by rw [← hgoal, codeAll_over _ (by omega)]; omega)
        rw [hgoal] at s4 ⊢
        have HS5 : Hid (St w w4 [rInts (.slice A4 goal.length c4) goal, rBlk w.heap.size 37 #[.slice A n c], rBlk (w.heap.size + 1) 26 #[.int .i64 0, .slice none 0 0, .slice none 0 0], rBlk T 26 #[.int .i64 0, .slice none 0 0, .slice none 0 0]]) := Lib.hid ((HS.out.call s4).pick [4, 1, 2, 3] (by decide) rfl rfl)
        have q4 : ∀ j, w4.cell? ⟨T, j, none⟩ = _ := HS5.out.cells 3 rfl
        have f4 := HS5.out.free 3 rfl
        have HS6 : Hid (St w (w4.setCell ⟨T, 1, none⟩ (.slice A4 goal.length c4)) [rDeeds (.slice none 0 0) (crossDs xs 0), rInts (.slice A4 goal.length c4) goal, rBlk w.heap.size 37 #[.slice A n c], rBlk (w.heap.size + 1) 26 #[.int .i64 0, .slice none 0 0, .slice none 0 0], rBlk T 26 #[.int .i64 0, .slice A4 goal.length c4, .slice none 0 0]]) := Lib.hid (((HS5.out.set 3 rfl 1 (.slice A4 goal.length c4)).call (rDeeds_nil _ _ (Below.refl _ _))).pick [4, 0, 1, 2, 3] (by decide) rfl rfl)
        clear q3 s4 hgoal HRP HOV
        go_wp2
        clear q4 f4 HS5 HS
        go_loopw [7] (fun kv wr => ∃ (e : Nat) (kk : Int) (dv : Value), e ≤ n + 1 ∧ kv = .int .i64 kk ∧ Bx (kk = (e : Int) - 1) ∧ -1 ≤ kk ∧ kk ≤ 4 ∧ Bx (∀ e', e' < e → (crossNeed xs e').length ≤ 40) ∧ St w wr [rDeeds dv (crossDs xs e), rInts (.slice A4 goal.length c4) goal, rBlk w.heap.size 37 #[.slice A n c], rBlk (w.heap.size + 1) 26 #[.int .i64 0, .slice none 0 0, .slice none 0 0], rBlk T 26 #[.int .i64 0, .slice A4 goal.length c4, dv]]) (fun kv _ => ((n : Int) - intOf kv).toNat)
        case atStart => exact ⟨0, -1, _, by omega, rfl, Bx.mk rfl, by omega, by omega, Bx.mk (fun e' h => absurd h (by omega)), HS6.out⟩
        case round =>
          clear HS6
          obtain ⟨e, kk, dv, he, rfl, HK, hk1, hk4, HN, S⟩ := hrel
          have HS := Lib.hid S
          have q1 : ∀ j, wr.cell? ⟨w.heap.size, j, none⟩ = _ := S.cells 2 rfl
          clear S
          by_cases hlt : kk < n
          · have hen : e ≤ n := by have := HK.out; omega
            have HS7 : Hid (St w wr [rRows (.slice none 0 0) [], rDeeds dv (crossDs xs e), rInts (.slice A4 goal.length c4) goal, rBlk w.heap.size 37 #[.slice A n c], rBlk (w.heap.size + 1) 26 #[.int .i64 0, .slice none 0 0, .slice none 0 0], rBlk T 26 #[.int .i64 0, .slice A4 goal.length c4, dv]]) := Lib.hid ((HS.out.call (rRows_nil wr wr (Below.refl _ _))).pick [5, 0, 1, 2, 3, 4] (by decide) rfl rfl)
            go_upto_if 48 with (fail)
            go_cut [8, 9] (fun s8 s9 wx => s9 = .int .i64 (flipC e) ∧ St w wx [rRows s8 (partsTo xs e 0), rDeeds dv (crossDs xs e), rInts (.slice A4 goal.length c4) goal, rBlk w.heap.size 37 #[.slice A n c], rBlk (w.heap.size + 1) 26 #[.int .i64 0, .slice none 0 0, .slice none 0 0], rBlk T 26 #[.int .i64 0, .slice A4 goal.length c4, dv]])
            case first =>
              rcases Nat.eq_zero_or_pos e with he0 | he0
              · subst he0
                have hkn : kk < 0 := by have := HK.out; omega
                go_wp2
                go_meet
                case rel => exact ⟨rfl, HS7.out⟩
              · obtain ⟨k, rfl⟩ : ∃ k, e = k + 1 := ⟨e - 1, by omega⟩
                obtain rfl : kk = (k : Int) := by have := HK.out; omega
                have hpw := wrap_pow (k + 1) (by omega)
                have hor := or_flip k (by omega)
                go_wp2_with fail
                rw [show ((k : Int) + 1) = ((k + 1 : Nat) : Int) from rfl]
                refine (bothSame_any 0 (k + 1) _ (by omega) (by omega)).mono ?_
                rintro e w8 ⟨v8, rfl, s8⟩
                obtain ⟨A8, c8, hv8, -⟩ := s8.rdI 0 rfl
                subst hv8
                have HS8 : Hid (St w w8 [rRows (.slice none 0 0) [], rInts (.slice A8 (sameI 0 (k + 1)).length c8) (sameI 0 (k + 1)), rDeeds dv (crossDs xs (k + 1)), rInts (.slice A4 goal.length c4) goal, rBlk w.heap.size 37 #[.slice A n c], rBlk (w.heap.size + 1) 26 #[.int .i64 0, .slice none 0 0, .slice none 0 0], rBlk T 26 #[.int .i64 0, .slice A4 goal.length c4, dv]]) := Lib.hid ((HS7.out.call s8).pick [0, 6, 1, 2, 3, 4, 5] (by decide) rfl rfl)
                clear s8
                obtain ⟨vs9, hrow9⟩ := HS8.out.rowR 0 rfl
                have HRW9 := Lib.hid hrow9
                have HSA9 := Lib.hid ((HS8.out.alloc #[.slice A8 (sameI 0 (k + 1)).length c8] 23).pick [0, 1, 2, 3, 4, 5, 6] (by decide) rfl rfl)
                clear hrow9
                go_wp2_with (at_builtin; refine wp_app elRow rfl (.tmp 49) (.tmp 53) rfl 0 (.slice none 0 0) 0 vs9 rfl (HRW9.out.alloc _) _ _ 1 1 [.slice A8 (sameI 0 (k + 1)).length c8] rfl (RdRow.new w8 [.slice A8 (sameI 0 (k + 1)).length c8] 23 1 1 rfl (by unfold maxLen; omega)) (by simp [Value.oneCell']) (by omega) (by omega) (Nat.zero_le _) ?_; intro v9 w9 hown9 hg9 hat9; have HS9 := Lib.hid (HSA9.out.pushR rfl (HRW9.out.alloc _) hown9 hg9 hat9); clear hown9 hg9 hat9)
                go_wp2
                go_meet
                case rel => exact ⟨rfl, HS9.out.pick [0, 1, 2, 3, 4, 5] (by decide) rfl rfl⟩
            case rest =>
              obtain ⟨rfl, SC⟩ := hcut
              have HSC := Lib.hid SC
              have q2 : ∀ j, wc.cell? ⟨w.heap.size, j, none⟩ = _ := SC.cells 3 rfl
              clear SC HS7 HS q1
              go_wp2
              go_loopw [63, 8] (fun iv pv wr => ∃ a : Nat, a ≤ n ∧ iv = .int .i64 a ∧ St w wr [rRows pv (partsTo xs e a), rDeeds dv (crossDs xs e), rInts (.slice A4 goal.length c4) goal, rBlk w.heap.size 37 #[.slice A n c], rBlk (w.heap.size + 1) 26 #[.int .i64 0, .slice none 0 0, .slice none 0 0], rBlk T 26 #[.int .i64 0, .slice A4 goal.length c4, dv]]) (fun iv _ _ => n - (intOf iv).toNat)
              case atStart => exact ⟨0, by omega, rfl, HSC.out⟩
              case round =>
                clear HSC q2
                obtain ⟨a, ha, rfl, S⟩ := hrel
                have HS10 := Lib.hid S
                clear S
                by_cases hlta : a < n
                · obtain ⟨b, off, x, rfl, hb, hx, hwx, hcx⟩ := H.out.get hlta
                  have hcr : wr.cell? ⟨b, off + a, none⟩ = some (.int .i64 x) := (bcells HS10.out.below b _ hb).trans hcx
                  obtain ⟨hx0, hx1, -⟩ := graphOk_at xs HSO.out a x hx
                  obtain ⟨y, rfl⟩ := Int.eq_ofNat_of_zero_le hx0
                  have hy : y < 4611686018427387904 := by have := pow_le_int xs.length 9 (by rw [HL.out]; omega); omega
                  have HGX : Hid ((xs.getD a 0).toNat = y) := Lib.hid (by rw [List.getD, hx]; rfl)
                  clear hx0 hx1 hx hcx hwx
                  have q5 : ∀ j, wr.cell? ⟨w.heap.size, j, none⟩ = _ := HS10.out.cells 3 rfl
                  go_wp2
                  clear q5 hcr
                  go_loopw [12, 8] (fun bv pv wr => ∃ m : Nat, a + 1 ≤ m ∧ m ≤ n ∧ bv = .int .i64 m ∧ St w wr [rRows pv (partsTo xs e a ++ rowParts xs e a m), rDeeds dv (crossDs xs e), rInts (.slice A4 goal.length c4) goal, rBlk w.heap.size 37 #[.slice (some ⟨b, off, none⟩) n c], rBlk (w.heap.size + 1) 26 #[.int .i64 0, .slice none 0 0, .slice none 0 0], rBlk T 26 #[.int .i64 0, .slice A4 goal.length c4, dv]]) (fun bv _ _ => n - (intOf bv).toNat)
                  case atStart => exact ⟨a + 1, by omega, by omega, by go_num, by rw [rowParts_start, List.append_nil]; exact HS10.out⟩
                  case round =>
                    clear HS10
                    obtain ⟨m, ham, hmn, rfl, S⟩ := hrel
                    have HS11 := Lib.hid S
                    have q6 : ∀ j, wr.cell? ⟨w.heap.size, j, none⟩ = _ := HS11.out.cells 3 rfl
                    clear S
                    by_cases hltm : m < n
                    · have hbit := and_one y m hy
                      by_cases hs1 : bit y m = 1
                      · rw [hs1] at hbit
                        have HB1 := Lib.hid hs1
                        clear hs1
                        by_cases hak : (a : Int) = kk
                        · have f1 : ((a : Int) != kk) = false := by simp [hak]
                          have HAK := Lib.hid hak
                          clear hak
                          have HE : Hid (rowParts xs e a (m + 1) = rowParts xs e a m) := Lib.hid (rowParts_no xs e a m (by unfold lineAt; have h1 := HAK.out; have h2 := HK.out; rw [show decide (a + 1 ≠ e) = false from decide_eq_false (by omega)]; simp))
                          rw [← HE.out] at HS11
                          go_wp2
                          go_roundw
                          case rel => exact ⟨m + 1, by omega, by omega, by go_num, HS11.out⟩
                          case measure => simp [intOf]; omega
                        · have f1 : ((a : Int) != kk) = true := by simpa using hak
                          have HAK := Lib.hid hak
                          clear hak
                          by_cases hbk : (m : Int) = kk
                          · have f2 : ((m : Int) != kk) = false := by simp [hbk]
                            have HBK := Lib.hid hbk
                            clear hbk
                            have HE : Hid (rowParts xs e a (m + 1) = rowParts xs e a m) := Lib.hid (rowParts_no xs e a m (by unfold lineAt; have h1 := HBK.out; have h2 := HK.out; rw [show decide (m + 1 ≠ e) = false from decide_eq_false (by omega)]; simp))
                            rw [← HE.out] at HS11
                            go_wp2
                            go_roundw
                            case rel => exact ⟨m + 1, by omega, by omega, by go_num, HS11.out⟩
                            case measure => simp [intOf]; omega
                          · have f2 : ((m : Int) != kk) = true := by simpa using hbk
                            have HE : Hid (rowParts xs e a (m + 1) = rowParts xs e a m ++ [apartI (a + 1) (m + 1) 0]) := Lib.hid (rowParts_yes xs e a m (by omega) (by unfold lineAt; rw [HGX.out, HB1.out]; have h1 := HAK.out; have h2 := HK.out; rw [show decide (a + 1 ≠ e) = true from decide_eq_true (by omega), show decide (m + 1 ≠ e) = true from decide_eq_true (by omega)]; rfl))
                            have HPL : Hid ((partsTo xs e a ++ rowParts xs e a m).length ≤ 64) := Lib.hid (by have h1 := partsTo_len xs e a (by rw [HL.out]; exact h4); have h2 := rowParts_len xs e a m; rw [List.length_append]; omega)
                            clear hbk
                            go_wp2_with fail
                            rw [show ((a : Int) + 1) = ((a + 1 : Nat) : Int) from rfl, show ((m : Int) + 1) = ((m + 1 : Nat) : Int) from rfl]
                            refine (notAllSame_any (a + 1) (m + 1) 0 _ (by omega) (by omega) (by omega)).mono ?_
                            rintro e' w12 ⟨v12, rfl, s12⟩
                            obtain ⟨A12, c12, hv12, -⟩ := s12.rdI 0 rfl
                            subst hv12
                            obtain ⟨pp, hpp⟩ : ∃ pp, partsTo xs e a ++ rowParts xs e a m = pp := ⟨_, rfl⟩
                            have HPP := Bx.mk hpp
                            rw [hpp] at HS11 HPL
                            have hpl := HPL.out
                            have HS12 : Hid (St w w12 [rRows u8 pp, rInts (.slice A12 (apartI (a + 1) (m + 1) 0).length c12) (apartI (a + 1) (m + 1) 0), rDeeds dv (crossDs xs e), rInts (.slice A4 goal.length c4) goal, rBlk w.heap.size 37 #[.slice (some ⟨b, off, none⟩) n c], rBlk (w.heap.size + 1) 26 #[.int .i64 0, .slice none 0 0, .slice none 0 0], rBlk T 26 #[.int .i64 0, .slice A4 goal.length c4, dv]]) := Lib.hid ((HS11.out.call s12).pick [0, 6, 1, 2, 3, 4, 5] (by decide) rfl rfl)
                            clear s12 q6 hpp
                            obtain ⟨vs13, hrow13⟩ := HS12.out.rowR 0 rfl
                            have HRW13 := Lib.hid hrow13
                            have HSA13 := Lib.hid ((HS12.out.alloc #[.slice A12 (apartI (a + 1) (m + 1) 0).length c12] 23).pick [0, 1, 2, 3, 4, 5, 6] (by decide) rfl rfl)
                            clear hrow13
                            go_wp2_with (at_builtin; refine wp_app elRow rfl (.tmp 92) (.tmp 98) rfl 0 u8 pp.length vs13 rfl (HRW13.out.alloc _) _ _ 1 1 [.slice A12 (apartI (a + 1) (m + 1) 0).length c12] rfl (RdRow.new w12 [.slice A12 (apartI (a + 1) (m + 1) 0).length c12] 23 1 1 rfl (by unfold maxLen; omega)) (by simp [Value.oneCell']) (by omega) (by omega) (Nat.zero_le _) ?_; intro v13 w13 hown13 hg13 hat13; have HS13 := Lib.hid (HSA13.out.pushR rfl (HRW13.out.alloc _) hown13 hg13 hat13); clear hown13 hg13 hat13)
                            have HS14 := Lib.hid (HS13.out.pick [0, 1, 2, 3, 4, 5] (by decide) rfl rfl)
                            clear hpl
                            go_wp2
                            go_roundw
                            case rel => exact ⟨m + 1, by omega, by omega, by go_num, by rw [HE.out, ← List.append_assoc, HPP.out]; exact HS14.out⟩
                            case measure => simp [intOf]; omega
                      · have hs0 : bit y m = 0 := by have := bit_lt y m; omega
                        rw [hs0] at hbit
                        have HB0 := Lib.hid hs0
                        clear hs0 hs1
                        have HE : Hid (rowParts xs e a (m + 1) = rowParts xs e a m) := Lib.hid (rowParts_no xs e a m (by unfold lineAt; rw [HGX.out, HB0.out]; rfl))
                        rw [← HE.out] at HS11
                        go_wp2
                        go_roundw
                        case rel => exact ⟨m + 1, by omega, by omega, by go_num, HS11.out⟩
                        case measure => simp [intOf]; omega
                    · have hmn' : m = n := by omega
                      have HE : Hid (partsTo xs e (a + 1) = partsTo xs e a ++ rowParts xs e a m) := Lib.hid (by rw [partsTo_succ, HL.out, hmn'])
                      rw [← HE.out] at HS11
                      clear hmn'
                      go_wp2
                      go_roundw
                      case rel => exact ⟨a + 1, by omega, by go_num, HS11.out⟩
                      case measure => simp [intOf]; omega
                · have han : a = n := by omega
                  have hpt : partsTo xs e a = partsTo xs e xs.length := by rw [HL.out, han]
                  rw [hpt] at HS10
                  obtain ⟨A15, c15, hv15, hrp⟩ := HS10.out.rdP 0 rfl
                  have hpl := partsTo_len xs e xs.length (by rw [HL.out]; exact h4)
                  have HOK : Hid (∀ p ∈ partsTo xs e xs.length, p.length ≤ 64) := Lib.hid fun p hp => by have := (partsTo_ok xs e xs.length (by omega) (by rw [HL.out]; omega) (by rw [HL.out]; exact h4) p hp).2.1; omega
                  have hn5 : (partsTo xs e xs.length).length ≤ 1024 := by rw [HL.out] at hpl ⊢; omega
                  subst hv15
                  have HRP := Lib.hid hrp
                  clear hrp han hpt hpl
                  go_wp2_with fail
                  refine (allHold_st A15 _ c15 (partsTo xs e xs.length) _ HRP.out HOK.out hn5).mono ?_
                  rintro e' w16 ⟨v16, rfl, s16⟩
                  obtain ⟨A16, c16, hv16, -⟩ := s16.rdI 0 rfl
                  subst hv16
                  obtain ⟨nd, hnd⟩ : ∃ nd, codeAll (partsTo xs e xs.length) = nd := ⟨_, rfl⟩
                  have HND : Bx (crossNeed xs e = nd) := Bx.mk hnd
                  rw [hnd] at s16 ⊢
                  have HS16 : Hid (St w w16 [rDeeds dv (crossDs xs e), rInts (.slice A16 nd.length c16) nd, rInts (.slice A4 goal.length c4) goal, rBlk w.heap.size 37 #[.slice A n c], rBlk (w.heap.size + 1) 26 #[.int .i64 0, .slice none 0 0, .slice none 0 0], rBlk T 26 #[.int .i64 0, .slice A4 goal.length c4, dv]]) := Lib.hid ((HS10.out.call s16).pick [1, 6, 2, 3, 4, 5] (by decide) rfl rfl)
                  have q16 : ∀ j, w16.cell? ⟨T, j, none⟩ = _ := HS16.out.cells 5 rfl
                  have q17 : ∀ j, w16.cell? ⟨w.heap.size + 1, j, none⟩ = _ := HS16.out.cells 4 rfl
                  have f16 := HS16.out.free 4 rfl
                  clear s16 hnd HRP HOK HS10 hn5
                  by_cases h40 : nd.length ≤ 40
                  case neg =>
                    have HV := Bx.mk (crossOk_long xs e (by rw [HL.out]; exact hen) (by rw [HND.out]; exact h40))
                    go_wp2
                    refine bodyPost_ret (v := .tuple #[.agg #[.int .i64 0, .slice none 0 0, .slice none 0 0], .bool false]) (by simp [results, Try.results36, go_sem, q17]) rfl ⟨.agg #[.int .i64 0, .slice none 0 0, .slice none 0 0], by rw [HV.out], ?_⟩
                    rw [crossTask_no _ HV.out]
                    exact St.task0 (HS16.out.set3 4 rfl _ _ _).below
                  obtain ⟨cells, hrow⟩ := HS16.out.rowD 0 rfl
                  rw [crossDs_len] at hrow
                  have HRD := Lib.hid hrow
                  have HWF := Lib.hid (flipC_wf e (by omega))
                  have HFIN : Hid (∀ v17 w17, w17.ownsRow 0 44 4 v17 (e + 1) (cells ++ [.slice A16 nd.length c16, .int .i64 0, .int .i64 0, .int .i64 (flipC e)]) → (w16.alloc (.cells #[.slice A16 nd.length c16, .int .i64 0, .int .i64 0, .int .i64 (flipC e)] 44)).grownBy w17 dv.ownBlock → (v17.ownBlock = dv.ownBlock ∨ v17.ownBlock = some (w16.alloc (.cells #[.slice A16 nd.length c16, .int .i64 0, .int .i64 0, .int .i64 (flipC e)] 44)).heap.size) →
                      St w w17 [rDeeds v17 (crossDs xs (e + 1)), rInts (.slice A4 goal.length c4) goal, rBlk w.heap.size 37 #[.slice A n c], rBlk (w.heap.size + 1) 26 #[.int .i64 0, .slice none 0 0, .slice none 0 0], rBlk T 26 #[.int .i64 0, .slice A4 goal.length c4, dv]]) := Lib.hid fun v17 w17 h1 h2 h3 => by
                    rw [crossDs_succ, crossD_eq, HND.out]
                    exact (St.pushD (d := ⟨nd, 0, 0, flipC e⟩) ((HS16.out.alloc #[.slice A16 nd.length c16, .int .i64 0, .int .i64 0, .int .i64 (flipC e)] 44).pick [0, 1, 2, 3, 4, 5] (by decide) rfl rfl) (by show nd.length ≤ 1048576; omega) ⟨rfl, rfl, HWF.out⟩ (by rw [crossDs_len]; omega) (by rw [crossDs_len]) (by rw [crossDs_len]; exact HRD.out.alloc _) h1 h2 h3)
                  have HN2 : Bx (∀ e', e' < e + 1 → (crossNeed xs e').length ≤ 40) := Bx.mk fun e' he' => by
                    rcases Nat.lt_or_ge e' e with h | h
                    · exact HN.out e' h
                    · rw [show e' = e by omega, HND.out]; exact h40
                  clear hrow
                  go_wp2_with (at_builtin; refine wp_app elDeed rfl (.tmp 108) (.tmp 112) rfl 0 dv e cells rfl (HRD.out.alloc _) _ _ 1 1 [.slice A16 nd.length c16, .int .i64 0, .int .i64 0, .int .i64 (flipC e)] rfl (RdRow.new w16 [.slice A16 nd.length c16, .int .i64 0, .int .i64 0, .int .i64 (flipC e)] 44 4 1 rfl (by unfold maxLen; omega)) (by simp [Value.oneCell']) (by omega) (by omega) (Nat.zero_le _) ?_; intro v17 w17 hown17 hg17 hat17; obtain ⟨A17, c17, hv17⟩ := own_form hown17; subst hv17; have HS17 := Lib.hid (HFIN.out _ w17 hown17 hg17 hat17); have q18 : ∀ j, w17.cell? ⟨T, j, none⟩ = _ := HS17.out.cells 4 rfl; have f18 := HS17.out.free 4 rfl; clear hown17 hg17 hat17)
                  have HS18 : Hid (St w (w17.setCell ⟨T, 2, none⟩ (.slice A17 (e + 1) c17)) [rDeeds (.slice A17 (e + 1) c17) (crossDs xs (e + 1)), rInts (.slice A4 goal.length c4) goal, rBlk w.heap.size 37 #[.slice A n c], rBlk (w.heap.size + 1) 26 #[.int .i64 0, .slice none 0 0, .slice none 0 0], rBlk T 26 #[.int .i64 0, .slice A4 goal.length c4, (.slice A17 (e + 1) c17)]]) := Lib.hid (HS17.out.set 4 rfl 2 (.slice A17 (e + 1) c17))
                  have hk2 : kk + 1 ≤ 4 := by omega
                  have HK2 : Bx (kk + 1 = ((e + 1 : Nat) : Int) - 1) := Bx.mk (by have := HK.out; omega)
                  go_wp2
                  go_roundw
                  case rel => exact ⟨e + 1, kk + 1, (.slice A17 (e + 1) c17), by omega, by go_num, HK2, by omega, hk2, HN2, HS18.out⟩
                  case measure => simp [intOf]; omega
          · have hkn : e = n + 1 := by have := HK.out; omega
            have HV := Bx.mk (crossOk_yes xs HSO.out (by rw [HL.out]; exact h4) (by rw [HL.out, ← hkn]; exact HN.out))
            have HTK : Bx (crossTask xs = ⟨0, goal, crossDs xs e⟩) := Bx.mk (by rw [crossTask_yes xs HV.out]; unfold crossT crossDs; rw [HGOAL.out, hkn, HL.out])
            obtain ⟨A9, c9, hdv, -⟩ := HS.out.rdDs 0 rfl
            rw [crossDs_len] at hdv
            subst hdv
            have q20 : ∀ j, wr.cell? ⟨T, j, none⟩ = _ := HS.out.cells 4 rfl
            have q21 : ∀ j, wr.cell? ⟨w.heap.size + 1, j, none⟩ = _ := HS.out.cells 3 rfl
            have f21 := HS.out.free 3 rfl
            have HFI : Hid (St w (((wr.setCell ⟨w.heap.size + 1, 0, none⟩ (.int .i64 0)).setCell ⟨w.heap.size + 1, 1, none⟩ (.slice A4 goal.length c4)).setCell ⟨w.heap.size + 1, 2, none⟩ (.slice A9 e c9)) [rTask (.agg #[.int .i64 0, .slice A4 goal.length c4, (.slice A9 e c9)]) ⟨0, goal, crossDs xs e⟩]) := Lib.hid (((HS.out.set3 3 rfl _ _ _).pick [1, 0] (by decide) rfl rfl).task (by have := HGL.out; omega) rfl)
            clear hkn
            go_wp2
            refine bodyPost_ret (v := .tuple #[.agg #[.int .i64 0, .slice A4 goal.length c4, (.slice A9 e c9)], .bool true]) (by simp [results, Try.results36, go_sem, q21]) rfl ⟨.agg #[.int .i64 0, .slice A4 goal.length c4, (.slice A9 e c9)], by rw [HV.out], ?_⟩
            rw [HTK.out]
            exact HFI.out
end Go.Proofs.Ytdbgoekemffimaa
