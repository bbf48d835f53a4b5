/- CrossTask of the reference. Printed by gen_cross.py. -/
import Derived.Test.YtdbgoekemffimaaSCrossI
namespace Go.Proofs.Ytdbgoekemffimaa
set_option linter.unusedVariables false
set_option linter.unusedSimpArgs false
open Go.ChangeShapes Go.WideShapes Go.ChangeAt Go.RowKit
theorem l9All_st (A : Option Addr) (n c : Nat) (xss : List (List Int)) (w : World) (h : RdP w w.heap.size A n c xss) (hs : ∀ xs ∈ xss, xs.length ≤ 64) (hn : n ≤ 1024) :
    Calls Try.prog 87 #[.slice A n c] w (Gives w id fun v => [rInts v (codeAll xss)]) :=
  (l9All_any A n c xss w h hs hn).mono fun e w' ⟨⟨v, F, he, ho, _⟩, hb⟩ => ⟨v, he, St.of_ints ho hb⟩
theorem flip_add (k : Nat) : (1 : Int) + 2 ^ (k + 1) = flipC (k + 1) := rfl
theorem flipC_wrap (k : Nat) (h : k ≤ 3) : IntKind.i64.wrap ((1 : Int) + 2 ^ (k + 1)) = flipC (k + 1) := by
  obtain rfl | rfl | rfl | rfl : k = 0 ∨ k = 1 ∨ k = 2 ∨ k = 3 := by omega
  all_goals decide
theorem codeAll_small (xss : List (List Int)) (hn : xss.length ≤ 1024) (h : ∀ p ∈ xss, p.length ≤ 64) : (codeAll xss).length ≤ 1048576 := by
  cases xss with
  | nil => simp [codeAll]
  | cons x r =>
    have key : ∀ (r : List (List Int)) (a : List Int), (∀ p ∈ r, p.length ≤ 64) → (r.foldl (fun a y => a ++ y ++ [8]) a).length ≤ a.length + 65 * r.length := by
      intro r
      induction r with
      | nil => intro a _; simp
      | cons y r ih =>
        intro a hr
        have h1 := ih (a ++ y ++ [8]) fun p hp => hr p (List.mem_cons_of_mem _ hp)
        have h2 := hr y (List.mem_cons_self ..)
        simp only [List.length_append, List.length_cons, List.length_nil, List.foldl_cons] at h1 ⊢
        omega
    have h1 := key r x fun p hp => h p (List.mem_cons_of_mem _ hp)
    have h2 := h x (List.mem_cons_self ..)
    simp only [List.length_cons] at hn
    simp only [codeAll]
    omega
theorem Sn.rdP' {w W : World} {M : Nat → Option HRes} (h : Sn w W M) (k : Nat) {A : Option Addr} {n c : Nat} {xss : List (List Int)} (hk : M k = some (rRows (.slice A n c) xss)) : RdP W W.heap.size A n c xss :=
  St.rdP' (h.to_st [k] (by simp) (L := [rRows (.slice A n c) xss]) (by simp only [List.map, hk])) 0 rfl
set_option maxRecDepth 100000 in
set_option maxHeartbeats 1000000 in
theorem crossTask_spec (A : Option Addr) (n c : Nat) (xs : List Int) (w : World) (h : RdI .i64 w w.heap.size A n c xs) :
    Calls Try.prog 37 #[.agg #[.slice A n c]] w (Gives w (fun v => .tuple #[v, .bool (crossOk xs)]) fun v => [rTask v (crossTask xs)]) := by
  have HL := Lib.hid h.len
  have S0 : St w ((w.alloc (Obj.cells #[.slice A n c] 37)).alloc (Obj.cells #[.int .i64 0, .slice none 0 0, .slice none 0 0] 26)) [rBlk w.heap.size 37 #[.slice A n c], rBlk (w.heap.size + 1) 26 #[.int .i64 0, .slice none 0 0, .slice none 0 0]] := by
    have := ((St.refl w).alloc #[.slice A n c] 37).alloc #[.int .i64 0, .slice none 0 0, .slice none 0 0] 26
    simpa using this
  have hcap := h.cap
  have hcm := h.capMax
  unfold maxLen at hcm
  have HS0 := Lib.hid S0
  have H := Lib.hid h
  have H0 := Lib.hid (h.up S0.below)
  clear S0 h
  obtain ⟨bo, hso⟩ : ∃ b, graphOk xs = b := ⟨_, rfl⟩
  have HSO := Lib.hid hso
  clear hso
  cases bo with
  | false =>
    have HV := Bx.mk (crossOk_graph xs HSO.out)
    go_enter Try.func37, Try.ntmps37
    go_wp2_with fail
    refine (graphValid_spec A n c xs _ H0.out).mono ?_
    rw [HSO.out]
    rintro e w1 ⟨rfl, hb1⟩
    have HS1 := Lib.hid (HS0.out.quiet hb1)
    have r0 : ∀ j, w1.cell? ⟨w.heap.size + 1, j, none⟩ = _ := HS1.out.cells 1 rfl
    have g0 : ∀ j, w1.cell? ⟨w.heap.size, j, none⟩ = _ := HS1.out.cells 0 rfl
    have fr := HS1.out.free 1 rfl
    clear hb1
    go_wp2
    refine bodyPost_ret (v := .tuple #[.agg #[.int .i64 0, .slice none 0 0, .slice none 0 0], .bool false]) (by simp [results, Try.results37, go_sem, r0]) rfl ⟨.agg #[.int .i64 0, .slice none 0 0, .slice none 0 0], by rw [HV.out], ?_⟩
    rw [crossTask_no _ HV.out]
    exact St.task0 (HS1.out.set3 1 rfl _ _ _).below
  | true =>
    have hn1 : 1 ≤ n := by rw [← HL.out]; exact (graphOk_len xs HSO.out).1
    by_cases h4 : n ≤ 4
    case neg =>
      have HV := Bx.mk (crossOk_big xs (by rw [HL.out]; exact h4))
      go_enter Try.func37, Try.ntmps37
      go_wp2_with fail
      refine (graphValid_spec A n c xs _ H0.out).mono ?_
      rw [HSO.out]
      rintro e w1 ⟨rfl, hb1⟩
      have HS1 := Lib.hid (HS0.out.quiet hb1)
      have r0 : ∀ j, w1.cell? ⟨w.heap.size + 1, j, none⟩ = _ := HS1.out.cells 1 rfl
      have g0 : ∀ j, w1.cell? ⟨w.heap.size, j, none⟩ = _ := HS1.out.cells 0 rfl
      have fr := HS1.out.free 1 rfl
      clear hb1
      go_wp2
      refine bodyPost_ret (v := .tuple #[.agg #[.int .i64 0, .slice none 0 0, .slice none 0 0], .bool false]) (by simp [results, Try.results37, go_sem, r0]) rfl ⟨.agg #[.int .i64 0, .slice none 0 0, .slice none 0 0], by rw [HV.out], ?_⟩
      rw [crossTask_no _ HV.out]
      exact St.task0 (HS1.out.set3 1 rfl _ _ _).below
    go_enter Try.func37, Try.ntmps37
    go_wp2_with fail
    refine (graphValid_spec A n c xs _ H0.out).mono ?_
    rw [HSO.out]
    rintro e w1 ⟨rfl, hb1⟩
    have HS1 := Lib.hid (HS0.out.quiet hb1)
    have g0 : ∀ j, w1.cell? ⟨w.heap.size, j, none⟩ = _ := HS1.out.cells 0 rfl
    clear hb1
    clear hcap hcm
    have HS2 : Hid (St w (w1.alloc (.cells #[] 23)) [rRows (.slice (some ⟨w1.heap.size, 0, none⟩) 0 0) (overParts 0), rBlk w.heap.size 37 #[.slice A n c], rBlk (w.heap.size + 1) 26 #[.int .i64 0, .slice none 0 0, .slice none 0 0]]) := Lib.hid ((HS1.out.call (St.newR w1 _ rfl)).pick [2, 0, 1] (by decide) rfl rfl)
    go_wp2
    clear g0
    go_loopw [6, 5] (fun i v wr => ∃ k : Nat, k ≤ n + 1 ∧ i = .int .i64 k ∧ St w wr [rRows v (overParts k), rBlk w.heap.size 37 #[.slice A n c], rBlk (w.heap.size + 1) 26 #[.int .i64 0, .slice none 0 0, .slice none 0 0]]) (fun i _ _ => n + 1 - (intOf i).toNat)
    case atStart => exact ⟨0, by omega, rfl, HS2.out⟩
    case round =>
      clear HS2 HS1
      obtain ⟨k, hk, rfl, S⟩ := hrel
      have HS := Lib.hid S
      clear S
      by_cases hlt : k < n + 1
      · have HS3 : Hid (St w ((wr.alloc (.cells #[.int .i64 k] 3)).alloc (.cells #[.slice (some ⟨wr.heap.size, 0, none⟩) 1 1] 23)) [rRows u5 (overParts k), rInts (.slice (some ⟨wr.heap.size, 0, none⟩) 1 1) [(k : Int)], rBlk w.heap.size 37 #[.slice A n c], rBlk (w.heap.size + 1) 26 #[.int .i64 0, .slice none 0 0, .slice none 0 0]]) := Lib.hid
          (((HS.out.call (St.newLit wr [(k : Int)] 1 rfl (by simp) (by intro x hx; rw [List.mem_singleton] at hx; subst hx; exact wf_i64_mk (by omega)))).alloc _ _).pick [0, 3, 1, 2] (by decide) rfl rfl)
        obtain ⟨vs, hrow⟩ := HS.out.rowR 0 rfl
        rw [overParts_len] at hrow
        have HRW := Lib.hid hrow
        have HSU := Lib.hid (overParts_succ k)
        clear hrow
        go_wp2_with (at_builtin; refine wp_app elRow rfl (.tmp 32) (.tmp 35) rfl 0 u5 k vs rfl ((HRW.out.alloc _).alloc _) _ _ 1 1 [.slice (some ⟨wr.heap.size, 0, none⟩) 1 1] rfl (RdRow.newAt (wr.alloc (.cells #[.int .i64 k] 3)) [.slice (some ⟨wr.heap.size, 0, none⟩) 1 1] 23 1 1 (wr.heap.size + 1) (by simp) rfl (by unfold maxLen; omega)) (by simp [Value.oneCell']) (by omega) (by omega) (Nat.zero_le _) ?_; intro v3 w3 hown3 hg3 hat3; have HS4 := Lib.hid (HS3.out.pushR (by rw [overParts_len]) (by rw [overParts_len]; exact (HRW.out.alloc _).alloc _) hown3 hg3 hat3); clear hown3 hg3 hat3)
        rw [← HSU.out] at HS4
        go_wp2
        go_roundw
        case rel => exact ⟨k + 1, by omega, by go_num, HS4.out⟩
        case measure => simp [intOf]; omega
      · have hkn : k = n + 1 := by omega
        subst hkn
        obtain ⟨A3, c3, hv, hrp⟩ := HS.out.rdP 0 rfl
        subst hv
        rw [overParts_len] at hrp ⊢
        rw [overParts_len] at HS
        have HRP := Lib.hid hrp
        have HOV : Hid (∀ p ∈ overParts (n + 1), p.length ≤ 64) := Lib.hid fun p hp => by have := (overParts_ok (n + 1) (by omega) p hp).2.1; omega
        clear hrp hk hlt
        go_wp2_with fail
        refine (l9All_st A3 (n + 1) c3 (overParts (n + 1)) _ HRP.out HOV.out (by omega)).mono ?_
        rintro e w4 ⟨v4, rfl, s4⟩
        obtain ⟨A4, c4, hv4, -⟩ := s4.rdI 0 rfl
        subst hv4
        obtain ⟨goal, hgoal⟩ : ∃ goal, codeAll (overParts (n + 1)) = goal := ⟨_, rfl⟩
        have HGOAL : Bx (codeAll (overParts (xs.length + 1)) = goal) := Bx.mk (by rw [HL.out]; exact hgoal)
        have HGL : Hid (goal.length ≤ 40) := Lib.hid (by rw [← hgoal, codeAll_over _ (by omega)]; omega)
        rw [hgoal] at s4 ⊢
        have HS5 : Hid (St w w4 [rInts (.slice A4 goal.length c4) goal, rBlk w.heap.size 37 #[.slice A n c], rBlk (w.heap.size + 1) 26 #[.int .i64 0, .slice none 0 0, .slice none 0 0]]) := Lib.hid ((HS.out.call s4).pick [3, 1, 2] (by decide) rfl rfl)
        obtain ⟨T, hT⟩ : ∃ T, (w4.alloc (.cells #[] 44)).heap.size = T := ⟨_, rfl⟩
        have hT' : w4.heap.size + 1 = T := by rw [← hT]; first | done | simp
        have HS6 : Hid (St w ((w4.alloc (.cells #[] 44)).alloc (.cells #[.int .i64 0, .slice A4 goal.length c4, .slice (some ⟨w4.heap.size, 0, none⟩) 0 0] 26)) [rDeeds (.slice (some ⟨w4.heap.size, 0, none⟩) 0 0) (crossDs xs 0), rInts (.slice A4 goal.length c4) goal, rBlk w.heap.size 37 #[.slice A n c], rBlk (w.heap.size + 1) 26 #[.int .i64 0, .slice none 0 0, .slice none 0 0], rBlk T 26 #[.int .i64 0, .slice A4 goal.length c4, .slice (some ⟨w4.heap.size, 0, none⟩) 0 0]]) := Lib.hid (by
          rw [← hT]
          exact ((HS5.out.call (St.newDs w4 _ rfl)).alloc _ _).pick [3, 0, 1, 2, 4] (by decide) rfl rfl)
        clear s4 hgoal HRP HOV hT
        go_wp2
        try rw [hT']
        clear HS5 HS hT'
        go_loopw [8] (fun kv wr => ∃ (e : Nat) (dv : Value), e ≤ n + 1 ∧ kv = .int .i64 e ∧ St w wr [rDeeds dv (crossDs xs e), rInts (.slice A4 goal.length c4) goal, rBlk w.heap.size 37 #[.slice A n c], rBlk (w.heap.size + 1) 26 #[.int .i64 0, .slice none 0 0, .slice none 0 0], rBlk T 26 #[.int .i64 0, .slice A4 goal.length c4, dv]]) (fun kv _ => n + 1 - (intOf kv).toNat)
        case atStart => exact ⟨0, _, by omega, rfl, HS6.out⟩
        case round =>
          clear HS6
          obtain ⟨e, dv, he, rfl, S⟩ := hrel
          have HS := Lib.hid S
          clear S
          by_cases hlt : e < n + 1
          · have HS7 : Hid (St w (wr.alloc (.cells #[] 23)) [rRows (.slice (some ⟨wr.heap.size, 0, none⟩) 0 0) [], rDeeds dv (crossDs xs e), rInts (.slice A4 goal.length c4) goal, rBlk w.heap.size 37 #[.slice A n c], rBlk (w.heap.size + 1) 26 #[.int .i64 0, .slice none 0 0, .slice none 0 0], rBlk T 26 #[.int .i64 0, .slice A4 goal.length c4, dv]]) := Lib.hid ((HS.out.call (St.newR wr _ rfl)).pick [5, 0, 1, 2, 3, 4] (by decide) rfl rfl)
            go_upto_if 48 with (fail)
            go_cut [9, 10] (fun s9 s10 wx => s10 = .int .i64 (flipC e) ∧ St w wx [rRows s9 (partsTo xs e 0), rDeeds dv (crossDs xs e), rInts (.slice A4 goal.length c4) goal, rBlk w.heap.size 37 #[.slice A n c], rBlk (w.heap.size + 1) 26 #[.int .i64 0, .slice none 0 0, .slice none 0 0], rBlk T 26 #[.int .i64 0, .slice A4 goal.length c4, dv]])
            case first =>
              rcases Nat.eq_zero_or_pos e with he0 | he0
              · subst he0
                go_wp2
                go_meet
                case rel => exact ⟨rfl, HS7.out⟩
              · obtain ⟨k, rfl⟩ : ∃ k, e = k + 1 := ⟨e - 1, by omega⟩
                have hpw := wrap_pow (k + 1) (by omega)
                have hfw := flipC_wrap k (by omega)
                go_wp2_with fail
                refine (l9Same_any 0 (k + 1) _ (by omega) (by omega)).mono ?_
                rintro e w8 ⟨v8, rfl, s8⟩
                obtain ⟨A8, c8, hv8, -⟩ := s8.rdI 0 rfl
                subst hv8
                have HS8 : Hid (St w w8 [rRows (.slice (some ⟨wr.heap.size, 0, none⟩) 0 0) [], rInts (.slice A8 (sameI 0 (k + 1)).length c8) (sameI 0 (k + 1)), rDeeds dv (crossDs xs (k + 1)), rInts (.slice A4 goal.length c4) goal, rBlk w.heap.size 37 #[.slice A n c], rBlk (w.heap.size + 1) 26 #[.int .i64 0, .slice none 0 0, .slice none 0 0], rBlk T 26 #[.int .i64 0, .slice A4 goal.length c4, dv]]) := Lib.hid ((HS7.out.call s8).pick [0, 6, 1, 2, 3, 4, 5] (by decide) rfl rfl)
                clear s8
                obtain ⟨vs9, hrow9⟩ := HS8.out.rowR 0 rfl
                have HRW9 := Lib.hid hrow9
                have HSA9 := Lib.hid ((HS8.out.alloc #[.slice A8 (sameI 0 (k + 1)).length c8] 23).pick [0, 1, 2, 3, 4, 5, 6] (by decide) rfl rfl)
                clear hrow9
                go_wp2_with (at_builtin; refine wp_app elRow rfl (.tmp 49) (.tmp 52) rfl 0 (.slice (some ⟨wr.heap.size, 0, none⟩) 0 0) 0 vs9 rfl (HRW9.out.alloc _) _ _ 1 1 [.slice A8 (sameI 0 (k + 1)).length c8] rfl (RdRow.new w8 [.slice A8 (sameI 0 (k + 1)).length c8] 23 1 1 rfl (by unfold maxLen; omega)) (by simp [Value.oneCell']) (by omega) (by omega) (Nat.zero_le _) ?_; intro v9 w9 hown9 hg9 hat9; have HS9 := Lib.hid (HSA9.out.pushR rfl (HRW9.out.alloc _) hown9 hg9 hat9); clear hown9 hg9 hat9)
                go_wp2
                go_meet
                case rel => exact ⟨by first | rfl | (rw [flip_add]) | (rw [hfw]), HS9.out.pick [0, 1, 2, 3, 4, 5] (by decide) rfl rfl⟩
            case rest =>
              obtain ⟨rfl, SC⟩ := hcut
              have HSC := Lib.hid SC
              clear SC HS7 HS
              go_wp2
              go_loopw [11, 9] (fun iv pv wr => ∃ a : Nat, a ≤ n ∧ iv = .int .i64 a ∧ St w wr [rRows pv (partsTo xs e a), rDeeds dv (crossDs xs e), rInts (.slice A4 goal.length c4) goal, rBlk w.heap.size 37 #[.slice A n c], rBlk (w.heap.size + 1) 26 #[.int .i64 0, .slice none 0 0, .slice none 0 0], rBlk T 26 #[.int .i64 0, .slice A4 goal.length c4, dv]]) (fun iv _ _ => n - (intOf iv).toNat)
              case atStart => exact ⟨0, by omega, rfl, HSC.out⟩
              case round =>
                clear HSC
                obtain ⟨a, ha, rfl, S⟩ := hrel
                have HS10 := Lib.hid S
                clear S
                by_cases hlta : a < n
                · go_wp2
                  go_loopw [12, 9] (fun bv pv wr => ∃ m : Nat, a + 1 ≤ m ∧ m ≤ n ∧ bv = .int .i64 m ∧ St w wr [rRows pv (partsTo xs e a ++ rowParts xs e a m), rDeeds dv (crossDs xs e), rInts (.slice A4 goal.length c4) goal, rBlk w.heap.size 37 #[.slice A n c], rBlk (w.heap.size + 1) 26 #[.int .i64 0, .slice none 0 0, .slice none 0 0], rBlk T 26 #[.int .i64 0, .slice A4 goal.length c4, dv]]) (fun bv _ _ => n - (intOf bv).toNat)
                  case atStart => exact ⟨a + 1, by omega, by omega, by go_num, by rw [rowParts_start, List.append_nil]; exact HS10.out⟩
                  case round =>
                    clear HS10
                    obtain ⟨m, ham, hmn, rfl, S⟩ := hrel
                    have HS11 := Lib.hid S
                    have q6 : ∀ j, wr.cell? ⟨w.heap.size, j, none⟩ = _ := HS11.out.cells 3 rfl
                    clear S
                    by_cases hltm : m < n
                    · obtain ⟨b, off, x, rfl, hb, hx, hwx, hcx⟩ := H.out.get hlta
                      have hcr : wr.cell? ⟨b, off + a, none⟩ = some (.int .i64 x) := (bcells HS11.out.below b _ hb).trans hcx
                      obtain ⟨hx0, hx1, -⟩ := graphOk_at xs HSO.out a x hx
                      obtain ⟨y, rfl⟩ := Int.eq_ofNat_of_zero_le hx0
                      have HGX : Hid ((xs.getD a 0).toNat = y) := Lib.hid (by rw [List.getD, hx]; rfl)
                      clear hx1 hx hcx hwx
                      go_wp2_with fail
                      refine (l1Bit_any (y : Int) m hx0 (by omega) _).mono ?_
                      rintro e' w' ⟨rfl, rfl⟩
                      rw [show ((y : Int) / 2 ^ m % 2) = ((bit y m : Nat) : Int) from by unfold bit; push_cast; rfl]
                      clear hx0
                      by_cases hs1 : bit y m = 1
                      · rw [hs1]
                        have HB1 := Lib.hid hs1
                        clear hs1
                        by_cases hak : a + 1 = e
                        · have f1 : (((a : Int) + 1) != (e : Int)) = false := by simp; omega
                          have HAK := Lib.hid hak
                          clear hak
                          have HE : Hid (rowParts xs e a (m + 1) = rowParts xs e a m) := Lib.hid (rowParts_no xs e a m (by unfold lineAt; rw [show decide (a + 1 ≠ e) = false from decide_eq_false (by have := HAK.out; omega)]; simp))
                          rw [← HE.out] at HS11
                          go_wp2
                          go_roundw
                          case rel => exact ⟨m + 1, by omega, by omega, by go_num, HS11.out⟩
                          case measure => simp [intOf]; omega
                        · have f1 : (((a : Int) + 1) != (e : Int)) = true := by simp; omega
                          have HAK := Lib.hid hak
                          clear hak
                          by_cases hbk : m + 1 = e
                          · have f2 : (((m : Int) + 1) != (e : Int)) = false := by simp; omega
                            have HBK := Lib.hid hbk
                            clear hbk
                            have HE : Hid (rowParts xs e a (m + 1) = rowParts xs e a m) := Lib.hid (rowParts_no xs e a m (by unfold lineAt; rw [show decide (m + 1 ≠ e) = false from decide_eq_false (by have := HBK.out; omega)]; simp))
                            rw [← HE.out] at HS11
                            go_wp2
                            go_roundw
                            case rel => exact ⟨m + 1, by omega, by omega, by go_num, HS11.out⟩
                            case measure => simp [intOf]; omega
                          · have f2 : (((m : Int) + 1) != (e : Int)) = true := by simp; omega
                            have HE : Hid (rowParts xs e a (m + 1) = rowParts xs e a m ++ [apartI (a + 1) (m + 1) 0]) := Lib.hid (rowParts_yes xs e a m (by omega) (by unfold lineAt; rw [HGX.out, HB1.out]; have h1 := HAK.out; rw [show decide (a + 1 ≠ e) = true from decide_eq_true (by omega), show decide (m + 1 ≠ e) = true from decide_eq_true (by omega)]; rfl))
                            have HPL : Hid ((partsTo xs e a ++ rowParts xs e a m).length ≤ 64) := Lib.hid (by have h1 := partsTo_len xs e a (by rw [HL.out]; exact h4); have h2 := rowParts_len xs e a m; rw [List.length_append]; omega)
                            clear hbk
                            go_wp2_with fail
                            refine (l9Apart_any (a + 1) (m + 1) 0 _ (by omega) (by omega) (by omega)).mono ?_
                            rintro e' w12 ⟨v12, rfl, s12⟩
                            obtain ⟨A12, c12, hv12, -⟩ := s12.rdI 0 rfl
                            subst hv12
                            obtain ⟨pp, hpp⟩ : ∃ pp, partsTo xs e a ++ rowParts xs e a m = pp := ⟨_, rfl⟩
                            have HPP := Bx.mk hpp
                            rw [hpp] at HS11 HPL
                            have hpl := HPL.out
                            have HS12 : Hid (St w w12 [rRows u9 pp, rInts (.slice A12 (apartI (a + 1) (m + 1) 0).length c12) (apartI (a + 1) (m + 1) 0), rDeeds dv (crossDs xs e), rInts (.slice A4 goal.length c4) goal, rBlk w.heap.size 37 #[.slice (some ⟨b, off, none⟩) n c], rBlk (w.heap.size + 1) 26 #[.int .i64 0, .slice none 0 0, .slice none 0 0], rBlk T 26 #[.int .i64 0, .slice A4 goal.length c4, dv]]) := Lib.hid ((HS11.out.call s12).pick [0, 6, 1, 2, 3, 4, 5] (by decide) rfl rfl)
                            clear s12 q6 hpp
                            obtain ⟨vs13, hrow13⟩ := HS12.out.rowR 0 rfl
                            have HRW13 := Lib.hid hrow13
                            have HSA13 := Lib.hid ((HS12.out.alloc #[.slice A12 (apartI (a + 1) (m + 1) 0).length c12] 23).pick [0, 1, 2, 3, 4, 5, 6] (by decide) rfl rfl)
                            clear hrow13
                            go_wp2_with (at_builtin; refine wp_app elRow rfl (.tmp 89) (.tmp 95) rfl 0 u9 pp.length vs13 rfl (HRW13.out.alloc _) _ _ 1 1 [.slice A12 (apartI (a + 1) (m + 1) 0).length c12] rfl (RdRow.new w12 [.slice A12 (apartI (a + 1) (m + 1) 0).length c12] 23 1 1 rfl (by unfold maxLen; omega)) (by simp [Value.oneCell']) (by omega) (by omega) (Nat.zero_le _) ?_; intro v13 w13 hown13 hg13 hat13; have HS13 := Lib.hid (HSA13.out.pushR rfl (HRW13.out.alloc _) hown13 hg13 hat13); clear hown13 hg13 hat13)
                            have HS14 := Lib.hid (HS13.out.pick [0, 1, 2, 3, 4, 5] (by decide) rfl rfl)
                            clear hpl
                            go_wp2
                            go_roundw
                            case rel => exact ⟨m + 1, by omega, by omega, by go_num, by rw [HE.out, ← List.append_assoc, HPP.out]; exact HS14.out⟩
                            case measure => simp [intOf]; omega
                      · have hs0 : bit y m = 0 := by have := bit_lt y m; omega
                        rw [hs0]
                        have HB0 := Lib.hid hs0
                        clear hs0 hs1
                        have HE : Hid (rowParts xs e a (m + 1) = rowParts xs e a m) := Lib.hid (rowParts_no xs e a m (by unfold lineAt; rw [HGX.out, HB0.out]; rfl))
                        rw [← HE.out] at HS11
                        go_wp2
                        go_roundw
                        case rel => exact ⟨m + 1, by omega, by omega, by go_num, HS11.out⟩
                        case measure => simp [intOf]; omega
                    · have hmn' : m = n := by omega
                      have HE : Hid (partsTo xs e (a + 1) = partsTo xs e a ++ rowParts xs e a m) := Lib.hid (by rw [partsTo_succ, HL.out, hmn'])
                      rw [← HE.out] at HS11
                      clear hmn'
                      go_wp2
                      go_roundw
                      case rel => exact ⟨a + 1, by omega, by go_num, HS11.out⟩
                      case measure => simp [intOf]; omega
                · have han : a = n := by omega
                  have hpt : partsTo xs e a = partsTo xs e xs.length := by rw [HL.out, han]
                  rw [hpt] at HS10
                  obtain ⟨A15, c15, hv15, hrp⟩ := HS10.out.rdP 0 rfl
                  have hpl := partsTo_len xs e xs.length (by rw [HL.out]; exact h4)
                  have HOK : Hid (∀ p ∈ partsTo xs e xs.length, p.length ≤ 64) := Lib.hid fun p hp => by have := (partsTo_ok xs e xs.length (by omega) (by rw [HL.out]; omega) (by rw [HL.out]; exact h4) p hp).2.1; omega
                  have HN5 : Hid ((partsTo xs e xs.length).length ≤ 1024) := Lib.hid (by rw [HL.out] at hpl ⊢; omega)
                  subst hv15
                  obtain ⟨pp, hpp⟩ : ∃ pp, partsTo xs e xs.length = pp := ⟨_, rfl⟩
                  obtain ⟨nd, hnd⟩ : ∃ nd, codeAll pp = nd := ⟨_, rfl⟩
                  have HND : Bx (crossD xs e = ⟨nd, 0, 0, flipC e⟩) := Bx.mk (by rw [crossD_eq]; unfold crossNeed; rw [hpp, hnd])
                  rw [hpp] at HS10 HOK HN5 ⊢
                  have HNL : Hid (nd.length ≤ 1048576) := Lib.hid (by rw [← hnd]; exact codeAll_small pp HN5.out HOK.out)
                  have HWF : Hid (nd.length ≤ 1048576 ∧ (Lit.int .i64 0).wf = true ∧ (Lit.int .i64 0).wf = true ∧ (Lit.int .i64 (flipC e)).wf = true) := Lib.hid ⟨HNL.out, rfl, rfl, flipC_wf e (by omega)⟩
                  have HAL : Hid (∀ w', RdP w' w'.heap.size A15 pp.length c15 pp → Calls Try.prog 87 #[.slice A15 pp.length c15] w' (Gives w' id fun v => [rInts v nd])) := Lib.hid fun w' h => by rw [← hnd]; exact l9All_st _ _ _ _ _ h HOK.out HN5.out
                  have HTL := Lib.hid (crossDs_len xs e)
                  have HM0 : Hid (Sn w wr fun i => match i with
                    | 0 => some (rDeeds dv (crossDs xs e))
                    | 1 => some (rBlk w.heap.size 37 #[.slice A n c])
                    | 2 => some (rBlk (w.heap.size + 1) 26 #[.int .i64 0, .slice none 0 0, .slice none 0 0])
                    | 3 => some (rInts (.slice A4 goal.length c4) goal)
                    | 4 => some (rBlk T 26 #[.int .i64 0, .slice A4 goal.length c4, dv])
                    | 5 => some (rRows (.slice A15 pp.length c15) pp)
                    | _ => none) := Lib.hid ((Sn.of_st (HS10.out.pick [1, 3, 4, 2, 5, 0] (by decide) rfl rfl)).congr fun i => by
                      match i with
                      | 0 => rfl
                      | 1 => rfl
                      | 2 => rfl
                      | 3 => rfl
                      | 4 => rfl
                      | 5 => rfl
                      | q + 6 => rfl)
                  clear hrp han hpt hpl HS10 hnd hpp
                  go_upto_region 26 with (fail)
                  refine wp_reg (σ := Option Addr × Nat × Nat × Option Addr × Nat) (by kernel_rfl) (by kernel_rfl) (by kernel_rfl)
                    (fun s i => match i with
                      | 0 => .pointer (some ⟨T, 2, none⟩)
                      | 1 => dv
                      | 2 => .slice A15 pp.length c15
                      | 3 => .slice s.1 (nd).length s.2.1
                      | 4 => .int .i64 (flipC e)
                      | 5 => .agg #[.slice s.1 (nd).length s.2.1, .int .i64 0, .int .i64 0, .int .i64 (flipC e)]
                      | 6 => .slice (some ⟨s.2.2.1, 0, none⟩) 1 1
                      | 7 => .slice s.2.2.2.1 (e + 1) s.2.2.2.2
                      | 8 => .pointer (some ⟨T, 2, none⟩)
                      | _ => undef)
                    (fun D s wx => Sn w wx fun i => match i with
                      | 0 => some (rDeeds (if D 7 = true then .slice s.2.2.2.1 (e + 1) s.2.2.2.2 else dv) (if D 7 = true then crossDs xs e ++ [⟨nd, 0, 0, flipC e⟩] else crossDs xs e))
                      | 1 => some (rBlk w.heap.size 37 #[.slice A n c])
                      | 2 => some (rBlk (w.heap.size + 1) 26 #[.int .i64 0, .slice none 0 0, .slice none 0 0])
                      | 3 => some (rInts (.slice A4 goal.length c4) goal)
                      | 4 => some (rBlk T 26 (if D 9 = true then #[.int .i64 0, .slice A4 goal.length c4, .slice s.2.2.2.1 (e + 1) s.2.2.2.2] else #[.int .i64 0, .slice A4 goal.length c4, dv]))
                      | 5 => some (rRows (.slice A15 pp.length c15) pp)
                      | 6 => if D 3 = true then (if D 7 = true then none else some (rInts (.slice s.1 (nd).length s.2.1) (nd))) else none
                      | 7 => if D 6 = true then some (rBlk s.2.2.1 44 #[.slice s.1 (nd).length s.2.1, .int .i64 0, .int .i64 0, .int .i64 (flipC e)]) else none
                      | _ => none)
                    (none, 0, 0, none, 0) ?_ ?_ ?_
                  · intro D hD
                    refine (HM0.out.quiet ((Below.refl _ _).drew)).congr fun i => ?_
                    match i with
                    | 0 => first | rfl | (simp only [hD 7 (by decide), hD 9 (by decide), hD 3 (by decide), hD 6 (by decide)]; done) | (simp only [hD 7 (by decide), hD 9 (by decide), hD 3 (by decide), hD 6 (by decide)]; rfl)
                    | 1 => first | rfl | (simp only [hD 7 (by decide), hD 9 (by decide), hD 3 (by decide), hD 6 (by decide)]; done) | (simp only [hD 7 (by decide), hD 9 (by decide), hD 3 (by decide), hD 6 (by decide)]; rfl)
                    | 2 => first | rfl | (simp only [hD 7 (by decide), hD 9 (by decide), hD 3 (by decide), hD 6 (by decide)]; done) | (simp only [hD 7 (by decide), hD 9 (by decide), hD 3 (by decide), hD 6 (by decide)]; rfl)
                    | 3 => first | rfl | (simp only [hD 7 (by decide), hD 9 (by decide), hD 3 (by decide), hD 6 (by decide)]; done) | (simp only [hD 7 (by decide), hD 9 (by decide), hD 3 (by decide), hD 6 (by decide)]; rfl)
                    | 4 => first | rfl | (simp only [hD 7 (by decide), hD 9 (by decide), hD 3 (by decide), hD 6 (by decide)]; done) | (simp only [hD 7 (by decide), hD 9 (by decide), hD 3 (by decide), hD 6 (by decide)]; rfl)
                    | 5 => first | rfl | (simp only [hD 7 (by decide), hD 9 (by decide), hD 3 (by decide), hD 6 (by decide)]; done) | (simp only [hD 7 (by decide), hD 9 (by decide), hD 3 (by decide), hD 6 (by decide)]; rfl)
                    | 6 => first | rfl | (simp only [hD 7 (by decide), hD 9 (by decide), hD 3 (by decide), hD 6 (by decide)]; done) | (simp only [hD 7 (by decide), hD 9 (by decide), hD 3 (by decide), hD 6 (by decide)]; rfl)
                    | 7 => first | rfl | (simp only [hD 7 (by decide), hD 9 (by decide), hD 3 (by decide), hD 6 (by decide)]; done) | (simp only [hD 7 (by decide), hD 9 (by decide), hD 3 (by decide), hD 6 (by decide)]; rfl)
                    | q + 8 => rfl
                  · refine StepAll.cons (fun D s wx hR (hDi : D 0 = false) hd hsh a' hs K hK => ?_) ?_
                    · have e7 := hs.old 7 (u := .pointer (some ⟨T, 0, none⟩)) (by kernel_rfl) rfl
                      clear hs
                      go_simp
                      exact hK s wx (fun _ _ => rfl) hR
                    refine StepAll.cons (fun D s wx hR (hDi : D 1 = false) hd hsh a' hs K hK => ?_) ?_
                    · have e97 := hs.at_ 0 97 (u := .pointer (some ⟨T, 2, none⟩)) rfl (hd ⟨0, .data⟩ (by simp) rfl) (by kernel_rfl) (by kernel_rfl) rfl
                      clear hs
                      have n9 : D 9 = false := hsh.no hDi 9 rfl ⟨1, .phase⟩ (by simp) rfl rfl
                      have kb : Blk wx (T) 26 #[.int .i64 0, .slice A4 goal.length c4, dv] := hR.blk 4 (by simp only [n9]; rfl)
                      have c0 : wx.cell? ⟨T, 2, none⟩ = some (dv) := kb.cell 2
                      go_simp
                      exact hK s wx (fun _ _ => rfl) hR
                    refine StepAll.cons (fun D s wx hR (hDi : D 2 = false) hd hsh a' hs K hK => ?_) ?_
                    · have e9 := hs.old 9 (u := .slice A15 pp.length c15) (by kernel_rfl) rfl
                      clear hs
                      go_simp
                      exact hK s wx (fun _ _ => rfl) hR
                    refine StepAll.cons (fun D s wx hR (hDi : D 3 = false) hd hsh a' hs K hK => ?_) ?_
                    · have e99 := hs.at_ 2 99 (u := .slice A15 pp.length c15) rfl (hd ⟨2, .data⟩ (by simp) rfl) (by kernel_rfl) (by kernel_rfl) rfl
                      have g99 := getQ e99
                      clear hs
                      have n5 : D 5 = false := hsh.no hDi 5 rfl ⟨3, .data⟩ (by simp) rfl rfl
                      have n6 : D 6 = false := hsh.no n5 6 rfl ⟨5, .data⟩ (by simp) rfl rfl
                      have n7 : D 7 = false := hsh.no n6 7 rfl ⟨6, .data⟩ (by simp) rfl rfl
                      have n9 : D 9 = false := hsh.no n7 9 rfl ⟨7, .data⟩ (by simp) rfl rfl
                      go_simp
                      refine (HAL.out _ (hR.rdP' 5 rfl)).mono ?_
                      rintro e2 w2 ⟨v2, rfl, s2⟩
                      obtain ⟨A3, c3, hv, -⟩ := s2.rdI 0 rfl
                      subst hv
                      refine hK (A3, c3, s.2.2) w2
                        (fun j hj => by
                          match j, hj with
                          | 0, hj => rfl
                          | 1, hj => rfl
                          | 2, hj => rfl
                          | 3, hj => rw [hDi] at hj; cases hj
                          | 4, hj => rfl
                          | 5, hj => rw [n5] at hj; cases hj
                          | 6, hj => rfl
                          | 7, hj => rfl
                          | 8, hj => rfl
                          | 9, hj => rfl
                          | _ + 10, hj => rfl)
                        ((hR.add 6 (if_neg (by rw [hDi]; simp)) s2).congr
                          (fun i => by
                            match i with
                            | 0 => rfl
                            | 1 => rfl
                            | 2 => rfl
                            | 3 => rfl
                            | 4 => rfl
                            | 5 => rfl
                            | 6 => (show (if D 7 = true then none else some (rInts _ _)) = some (rInts _ _); rw [n7]; rfl)
                            | 7 => (show (if D 6 = true then some (rBlk _ _ _) else none) = (if D 6 = true then some (rBlk _ _ _) else none); rw [n6]; rfl)
                            | q + 8 => exact (if_neg (show ¬ (q + 8 = 6) by omega)).symm))
                    refine StepAll.cons (fun D s wx hR (hDi : D 4 = false) hd hsh a' hs K hK => ?_) ?_
                    · have e10 := hs.old 10 (u := .int .i64 (flipC e)) (by kernel_rfl) rfl
                      clear hs
                      go_simp
                      exact hK s wx (fun _ _ => rfl) hR
                    refine StepAll.cons (fun D s wx hR (hDi : D 5 = false) hd hsh a' hs K hK => ?_) ?_
                    · have e100 := hs.at_ 3 100 (u := .slice s.1 (nd).length s.2.1) rfl (hd ⟨3, .data⟩ (by simp) rfl) (by kernel_rfl) (by kernel_rfl) rfl
                      have e101 := hs.at_ 4 101 (u := .int .i64 (flipC e)) rfl (hd ⟨4, .data⟩ (by simp) rfl) (by kernel_rfl) (by kernel_rfl) rfl
                      have g100 := getQ e100
                      have g101 := getQ e101
                      clear hs
                      go_simp
                      exact hK s wx (fun _ _ => rfl) hR
                    refine StepAll.cons (fun D s wx hR (hDi : D 6 = false) hd hsh a' hs K hK => ?_) ?_
                    · have e102 := hs.at_ 5 102 (u := .agg #[.slice s.1 (nd).length s.2.1, .int .i64 0, .int .i64 0, .int .i64 (flipC e)]) rfl (hd ⟨5, .data⟩ (by simp) rfl) (by kernel_rfl) (by kernel_rfl) rfl
                      have g102 := getQ e102
                      clear hs
                      have n7 : D 7 = false := hsh.no hDi 7 rfl ⟨6, .data⟩ (by simp) rfl rfl
                      go_simp
                      refine hK (s.1, s.2.1, wx.heap.size, s.2.2.2) _
                        (fun j hj => by
                          match j, hj with
                          | 0, hj => rfl
                          | 1, hj => rfl
                          | 2, hj => rfl
                          | 3, hj => rfl
                          | 4, hj => rfl
                          | 5, hj => rfl
                          | 6, hj => rw [hDi] at hj; cases hj
                          | 7, hj => rfl
                          | 8, hj => rfl
                          | 9, hj => rfl
                          | _ + 10, hj => rfl)
                        ((hR.add 7 (if_neg (by rw [hDi]; simp)) (St.new1 wx #[.slice s.1 (nd).length s.2.1, .int .i64 0, .int .i64 0, .int .i64 (flipC e)] 44)).congr
                          (fun i => by
                            match i with
                            | 0 => rfl
                            | 1 => rfl
                            | 2 => rfl
                            | 3 => rfl
                            | 4 => rfl
                            | 5 => rfl
                            | 6 => rfl
                            | 7 => rfl
                            | q + 8 => exact (if_neg (show ¬ (q + 8 = 7) by omega)).symm))
                    refine StepAll.cons (fun D s wx hR (hDi : D 7 = false) hd hsh a' hs K hK => ?_) ?_
                    · have e98 := hs.at_ 1 98 (u := dv) rfl (hd ⟨1, .data⟩ (by simp) rfl) (by kernel_rfl) (by kernel_rfl) rfl
                      have e103 := hs.at_ 6 103 (u := .slice (some ⟨s.2.2.1, 0, none⟩) 1 1) rfl (hd ⟨6, .data⟩ (by simp) rfl) (by kernel_rfl) (by kernel_rfl) rfl
                      have g98 := getQ e98
                      have g103 := getQ e103
                      clear hs
                      have n9 : D 9 = false := hsh.no hDi 9 rfl ⟨7, .data⟩ (by simp) rfl rfl
                      have d27 : D 6 = true := hd ⟨6, .data⟩ (by simp) rfl
                      have d26 : D 5 = true := hsh 6 _ rfl d27 ⟨5, .data⟩ (by simp) rfl
                      have d5 : D 3 = true := hsh 5 _ rfl d26 ⟨3, .data⟩ (by simp) rfl
                      obtain ⟨F, cells, Fs, ho, -⟩ := hR.deeds 0 (v := dv) (ds := crossDs xs e) (by simp only [hDi]; rfl)
                      have kb : Blk wx s.2.2.1 44 #[.slice s.1 (nd).length s.2.1, .int .i64 0, .int .i64 0, .int .i64 (flipC e)] := hR.blk 7 (by simp only [d27]; rfl)
                      refine wp_app1 elDeed (.tmp 98) (.tmp 103) rfl 0 (dv) _ cells e98 ho.row _ _ 1 1 [.slice s.1 (nd).length s.2.1, .int .i64 0, .int .i64 0, .int .i64 (flipC e)] e103 (RdRow.of_blk kb 4 1 rfl (by unfold maxLen; omega)) (by omega) (by simp [Value.oneCell']) (by rw [HTL.out]; omega) (by rw [HTL.out]; omega) (by omega) ?_
                      intro v' w' hown hg hat
                      obtain ⟨A4, c4, hv⟩ := own_form hown
                      rw [HTL.out] at hv
                      subst hv
                      exact hK (s.1, s.2.1, s.2.2.1, A4, c4) w'
                        (fun j hj => by
                          match j, hj with
                          | 0, hj => rfl
                          | 1, hj => rfl
                          | 2, hj => rfl
                          | 3, hj => rfl
                          | 4, hj => rfl
                          | 5, hj => rfl
                          | 6, hj => rfl
                          | 7, hj => rw [hDi] at hj; cases hj
                          | 8, hj => rfl
                          | 9, hj => rfl
                          | _ + 10, hj => rfl)
                        ((hR.push 0 6 (by decide) (v := dv) (nv := .slice s.1 (nd).length s.2.1) (ds := crossDs xs e) (d := ⟨nd, 0, 0, flipC e⟩) (by simp only [hDi]; rfl) (by simp only [d5, hDi]; rfl) HWF.out.1 HWF.out.2 (by rw [HTL.out]; omega) rfl ho.row hown hg hat).congr
                          (fun i => by
                            match i with
                            | 0 => rfl
                            | 1 => rfl
                            | 2 => rfl
                            | 3 => rfl
                            | 4 => (show some (rBlk _ _ (if D 9 = true then _ else _)) = some (rBlk _ _ (if D 9 = true then _ else _)); rw [n9]; rfl)
                            | 5 => rfl
                            | 6 => (show (if D 3 = true then none else none) = none; rw [d5]; rfl)
                            | 7 => rfl
                            | q + 8 => exact ((if_neg (show ¬ (q + 8 = 0) by omega)).trans (if_neg (show ¬ (q + 8 = 6) by omega))).symm))
                    refine StepAll.cons (fun D s wx hR (hDi : D 8 = false) hd hsh a' hs K hK => ?_) ?_
                    · have e7 := hs.old 7 (u := .pointer (some ⟨T, 0, none⟩)) (by kernel_rfl) rfl
                      clear hs
                      go_simp
                      exact hK s wx (fun _ _ => rfl) hR
                    refine StepAll.cons (fun D s wx hR (hDi : D 9 = false) hd hsh a' hs K hK => ?_) ?_
                    · have e105 := hs.at_ 8 105 (u := .pointer (some ⟨T, 2, none⟩)) rfl (hd ⟨8, .data⟩ (by simp) rfl) (by kernel_rfl) (by kernel_rfl) rfl
                      have e104 := hs.at_ 7 104 (u := .slice s.2.2.2.1 (e + 1) s.2.2.2.2) rfl (hd ⟨7, .data⟩ (by simp) rfl) (by kernel_rfl) (by kernel_rfl) rfl
                      clear hs
                      have kb : Blk wx T 26 #[.int .i64 0, .slice A4 goal.length c4, dv] := hR.blk 4 (by simp only [hDi]; rfl)
                      have f0 := kb.frozen
                      have c2' : wx.cell? ⟨T, 2, none⟩ = some (dv) := kb.cell 2
                      go_simp
                      exact hK s _ (fun _ _ => rfl) ((hR.set 4 (cs := #[.int .i64 0, .slice A4 goal.length c4, dv]) (by simp only [hDi]; rfl) 2 _).congr
                        (fun i => by
                          match i with
                          | 0 => rfl
                          | 1 => rfl
                          | 2 => rfl
                          | 3 => rfl
                          | 4 => rfl
                          | 5 => rfl
                          | 6 => rfl
                          | 7 => rfl
                          | q + 8 => exact (if_neg (show ¬ (q + 8 = 4) by omega)).symm))
                    exact StepAll.nil
                  · intro D s wx hR hD
                    simp only [putA, Act.put, List.setIfInBounds_toArray, List.set_cons_zero, List.set_cons_succ]
                    have HS20 : Hid (St w wx [rDeeds (.slice s.2.2.2.1 (e + 1) s.2.2.2.2) (crossDs xs (e + 1)), rInts (.slice A4 goal.length c4) goal, rBlk w.heap.size 37 #[.slice A n c], rBlk (w.heap.size + 1) 26 #[.int .i64 0, .slice none 0 0, .slice none 0 0], rBlk T 26 #[.int .i64 0, .slice A4 goal.length c4, .slice s.2.2.2.1 (e + 1) s.2.2.2.2]]) := Lib.hid (hR.to_st [0, 3, 1, 2, 4] (by decide) (by rw [crossDs_succ, HND.out]; simp only [List.map, hD 7 (by decide), hD 9 (by decide), hD 3 (by decide), hD 6 (by decide)]; rfl))
                    clear hR hD
                    go_wp2
                    go_roundw
                    case rel => exact ⟨e + 1, _, by omega, by go_num, HS20.out⟩
                    case measure => simp [intOf]; omega
          · have hkn : e = n + 1 := by omega
            have HT : Bx (crossT xs = ⟨0, goal, crossDs xs e⟩) := Bx.mk (by unfold crossT crossDs; rw [HGOAL.out, hkn, HL.out])
            have HCO : Bx (crossOk xs = taskOk ⟨0, goal, crossDs xs e⟩) := Bx.mk (by rw [← HT.out, taskOk_cross xs (by rw [HL.out]; exact h4)]; unfold crossOk; rw [HSO.out, decide_eq_true (show xs.length ≤ 4 by rw [HL.out]; exact h4)]; rfl)
            obtain ⟨A9, c9, hdv, -⟩ := HS.out.rdDs 0 rfl
            rw [crossDs_len] at hdv
            subst hdv
            have q20 : ∀ j, wr.cell? ⟨T, j, none⟩ = _ := HS.out.cells 4 rfl
            have HRT : Hid (RdT wr wr.heap.size (.agg #[.int .i64 0, .slice A4 goal.length c4, .slice A9 e c9]) ⟨0, goal, crossDs xs e⟩) := Lib.hid (((HS.out.pick [1, 0] (by decide) rfl rfl).task (by have := HGL.out; omega) rfl).rdT 0 rfl)
            obtain ⟨bo, hbo⟩ : ∃ bo, taskOk ⟨0, goal, crossDs xs e⟩ = bo := ⟨_, rfl⟩
            rw [hbo] at HCO
            clear hkn
            go_wp2_with fail
            refine (taskValid_spec _ ⟨0, goal, crossDs xs e⟩ _ HRT.out).mono ?_
            rw [hbo]
            rintro e' w21 ⟨rfl, hb21⟩
            have HS21 := Lib.hid (HS.out.quiet hb21)
            have q21 : ∀ j, w21.cell? ⟨w.heap.size + 1, j, none⟩ = _ := HS21.out.cells 3 rfl
            have q22 : ∀ j, w21.cell? ⟨T, j, none⟩ = _ := HS21.out.cells 4 rfl
            have f21 := HS21.out.free 3 rfl
            clear hb21 hbo q20
            cases bo with
            | false =>
              go_wp2
              refine bodyPost_ret (v := .tuple #[.agg #[.int .i64 0, .slice none 0 0, .slice none 0 0], .bool false]) (by simp [results, Try.results37, go_sem, q21]) rfl ⟨.agg #[.int .i64 0, .slice none 0 0, .slice none 0 0], by rw [HCO.out], ?_⟩
              rw [crossTask_no _ HCO.out]
              exact St.task0 (HS21.out.set3 3 rfl _ _ _).below
            | true =>
              have HTK : Bx (crossTask xs = ⟨0, goal, crossDs xs e⟩) := Bx.mk (by rw [crossTask_yes xs HCO.out, HT.out])
              have HFI : Hid (St w (((w21.setCell ⟨w.heap.size + 1, 0, none⟩ (.int .i64 0)).setCell ⟨w.heap.size + 1, 1, none⟩ (.slice A4 goal.length c4)).setCell ⟨w.heap.size + 1, 2, none⟩ (.slice A9 e c9)) [rTask (.agg #[.int .i64 0, .slice A4 goal.length c4, .slice A9 e c9]) ⟨0, goal, crossDs xs e⟩]) := Lib.hid (((HS21.out.set3 3 rfl _ _ _).pick [1, 0] (by decide) rfl rfl).task (by have := HGL.out; omega) rfl)
              go_wp2
              refine bodyPost_ret (v := .tuple #[.agg #[.int .i64 0, .slice A4 goal.length c4, .slice A9 e c9], .bool true]) (by simp [results, Try.results37, go_sem, q21]) rfl ⟨.agg #[.int .i64 0, .slice A4 goal.length c4, .slice A9 e c9], by rw [HCO.out], ?_⟩
              rw [HTK.out]
              exact HFI.out
end Go.Proofs.Ytdbgoekemffimaa
