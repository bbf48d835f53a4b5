/- TaskTurned of the reference: it returns the same plain task as the program's, for every argument. -/
import Derived.Test.YtpcaagbmjhgnaaaJFnTaskTurned6
import Derived.Test.YtpcaagbmjhgnaaaJFnTaskTurnedPush
namespace Go.Proofs.Ytpcaagbmjhgnaaa
set_option linter.unusedVariables false
open Go.ChangeShapes Go.WideShapes Go.ChangeAt Go.RowKit

theorem l9Turned_st (A : Option Addr) (n c : Nat) (xs : List Int) (f : Nat) (w : World) (h : RdI .i64 w w.heap.size A n c xs) (hin : ∀ x ∈ xs, 0 ≤ x ∧ x ≤ 9) (hn : n ≤ 1024) (hf : f < 32) :
    Calls Try.prog 86 #[.slice A n c, .int .i64 f] w (Gives w id fun v => [rInts v (turnI f xs)]) :=
  (l9Turned_any A n c xs f w h hin hn hf).mono fun e w' ⟨⟨v, F, he, ho⟩, hb⟩ => ⟨v, he, St.of_ints ho hb⟩

set_option maxRecDepth 100000 in
set_option maxHeartbeats 400000 in
theorem taskTurned_spec (v : Value) (t : TaskD) (f : Int) (w : World) (h : RdT w w.heap.size v t) (hf : (Lit.int .i64 f).wf = true) :
    Calls Try.prog 25 #[v, .int .i64 f] w (Gives w (fun v => .tuple #[v, .bool (turnOk t f)]) fun v => [rTask v (taskTurned t f)]) := by
  obtain ⟨A, n, c, A', n', c', rfl, hg, hgs, hds, hst⟩ := h
  obtain ⟨st, goal, deeds⟩ := t
  simp only at hg hds hst ⊢
  have S0 : St w ((w.alloc (Obj.cells #[.int .i64 st, .slice A n c, .slice A' n' c'] 28)).alloc (Obj.cells #[.int .i64 0, .slice none 0 0, .slice none 0 0] 28)) [rBlk w.heap.size 28 #[.int .i64 st, .slice A n c, .slice A' n' c'], rBlk (w.heap.size + 1) 28 #[.int .i64 0, .slice none 0 0, .slice none 0 0]] := by
    have := ((St.refl w).alloc #[.int .i64 st, .slice A n c, .slice A' n' c'] 28).alloc #[.int .i64 0, .slice none 0 0, .slice none 0 0] 28
    simpa using this
  have ht0 : RdT w w.heap.size (.agg #[.int .i64 st, .slice A n c, .slice A' n' c']) ⟨st, goal, deeds⟩ := ⟨A, n, c, A', n', c', rfl, hg, hgs, hds, hst⟩
  have HT0 := Lib.hid (ht0.up S0.below)
  have HS0 := Lib.hid S0
  clear ht0 S0
  obtain ⟨bo, hok⟩ : ∃ b, taskOk ⟨st, goal, deeds⟩ = b := ⟨_, rfl⟩
  cases bo with
  | false =>
    have HV : Hid (turnOk ⟨st, goal, deeds⟩ f = false ∧ taskTurned ⟨st, goal, deeds⟩ f = ⟨0, [], []⟩) := Lib.hid (by
      have : turnOk ⟨st, goal, deeds⟩ f = false := by unfold turnOk; rw [hok]; rfl
      exact ⟨this, by unfold taskTurned; rw [this]; rfl⟩)
    have HOK := Lib.hid hok
    clear hok
    go_enter Try.func25, Try.ntmps25
    go_wp2_with fail
    refine (taskValid_spec _ ⟨st, goal, deeds⟩ _ HT0.out).mono ?_
    rintro e w1 ⟨rfl, hb1⟩
    rw [HOK.out]
    have S1 := HS0.out.quiet hb1
    have r0 : ∀ j, w1.cell? ⟨w.heap.size + 1, j, none⟩ = _ := S1.cells 1 rfl
    have fr := S1.free 1 rfl
    have HS1 := Lib.hid S1
    clear S1 hb1
    go_wp2
    refine bodyPost_ret (v := .tuple #[.agg #[.int .i64 0, .slice none 0 0, .slice none 0 0], .bool false]) (by simp [results, Try.results25, go_sem, r0]) rfl ⟨.agg #[.int .i64 0, .slice none 0 0, .slice none 0 0], by rw [HV.out.1], ?_⟩
    rw [HV.out.2]
    exact St.task0 (HS1.out.set3 1 rfl _ _ _).below
  | true =>
    obtain ⟨bi, hfi⟩ : ∃ b, stIn f = b := ⟨_, rfl⟩
    cases bi with
    | false =>
      have HV : Hid (turnOk ⟨st, goal, deeds⟩ f = false ∧ taskTurned ⟨st, goal, deeds⟩ f = ⟨0, [], []⟩) := Lib.hid (by
        have : turnOk ⟨st, goal, deeds⟩ f = false := by unfold turnOk; rw [hok, hfi]; rfl
        exact ⟨this, by unfold taskTurned; rw [this]; rfl⟩)
      have HOK := Lib.hid hok
      clear hok
      go_enter Try.func25, Try.ntmps25
      go_wp2_with fail
      refine (taskValid_spec _ ⟨st, goal, deeds⟩ _ HT0.out).mono ?_
      rintro e w1 ⟨rfl, hb1⟩
      rw [HOK.out]
      have S1 := HS0.out.quiet hb1
      have r0 : ∀ j, w1.cell? ⟨w.heap.size + 1, j, none⟩ = _ := S1.cells 1 rfl
      have fr := S1.free 1 rfl
      have HS1 := Lib.hid S1
      clear S1 hb1
      go_wp2_with (go_at_call 84; refine (l1In_no f 0 31 _ (by have := (stIn_no f).1 hfi; omega)).mono ?_; rintro e w' ⟨rfl, rfl⟩)
      refine bodyPost_ret (v := .tuple #[.agg #[.int .i64 0, .slice none 0 0, .slice none 0 0], .bool false]) (by simp [results, Try.results25, go_sem, r0]) rfl ⟨.agg #[.int .i64 0, .slice none 0 0, .slice none 0 0], by rw [HV.out.1], ?_⟩
      rw [HV.out.2]
      exact St.task0 (HS1.out.set3 1 rfl _ _ _).below
    | true =>
      obtain ⟨hf0, hf1⟩ := (stIn_iff f).1 hfi
      obtain ⟨fn, rfl⟩ := Int.eq_ofNat_of_zero_le hf0
      obtain ⟨hst0, hgok, hdl, hdok⟩ := taskOk_parts _ hok
      simp only at hst0 hgok hdl hdok
      obtain ⟨hst0, hst1⟩ := hst0
      have HGIN := Lib.hid (codeOk_in _ hgok)
      have hgl : n ≤ 40 := by rw [← hg.len]; exact ((codeOk_iff _).1 hgok).2.1
      obtain ⟨sn, rfl⟩ := Int.eq_ofNat_of_zero_le hst0
      have HOK := Lib.hid hok
      have HDOK := Lib.hid hdok
      clear hok hfi hgok hdok
      go_enter Try.func25, Try.ntmps25
      go_upto_region 3 with (first
        | (go_at_call 48; refine (taskValid_spec _ ⟨sn, goal, deeds⟩ _ HT0.out).mono ?_; rintro e w1 ⟨rfl, hb1⟩; rw [HOK.out])
        | (go_at_call 84; refine (l1In_yes fn 0 31 _ (by omega) (by omega)).mono ?_; rintro e wq ⟨rfl, rfl⟩))
      have S1 := HS0.out.quiet hb1
      clear hb1
      go_cut [6] (fun s6 wx => ∃ (T : Nat) (A2 : Option Addr) (c2 D8 : Nat), s6 = .pointer (some ⟨T, 0, none⟩) ∧ St w wx [rBlk w.heap.size 28 #[.int .i64 sn, .slice A n c, .slice A' n' c'], rBlk (w.heap.size + 1) 28 #[.int .i64 0, .slice none 0 0, .slice none 0 0], rInts (.slice A2 (turnI fn goal).length c2) (turnI fn goal), rBlk D8 74 #[], rBlk T 28 #[.int .i64 (sn ^^^ fn : Nat), .slice A2 (turnI fn goal).length c2, .slice (some ⟨D8, 0, none⟩) 0 0]])
      case first =>
        refine wp_reg (σ := Option Addr × Nat × Nat × Nat) (by kernel_rfl) (by kernel_rfl) (by kernel_rfl)
          (fun s i => match i with
            | 0 => .pointer (some ⟨w.heap.size, 0, none⟩)
            | 1 => .int .i64 sn
            | 2 => .int .i64 fn
            | 3 => .int .i64 (sn ^^^ fn : Nat)
            | 4 => .pointer (some ⟨w.heap.size, 1, none⟩)
            | 5 => .slice A n c
            | 6 => .int .i64 fn
            | 7 => .slice s.1 (turnI fn goal).length s.2.1
            | 8 => .slice (some ⟨s.2.2.1, 0, none⟩) 0 0
            | 9 => .agg #[.int .i64 (sn ^^^ fn : Nat), .slice s.1 (turnI fn goal).length s.2.1, .slice (some ⟨s.2.2.1, 0, none⟩) 0 0]
            | 10 => .pointer (some ⟨s.2.2.2, 0, none⟩)
            | _ => undef)
          (fun D s wx => Sn w wx fun i => match i with
            | 0 => some (rBlk w.heap.size 28 #[.int .i64 sn, .slice A n c, .slice A' n' c'])
            | 1 => some (rBlk (w.heap.size + 1) 28 #[.int .i64 0, .slice none 0 0, .slice none 0 0])
            | 7 => if D 7 = true then some (rInts (.slice s.1 (turnI fn goal).length s.2.1) (turnI fn goal)) else none
            | 8 => if D 8 = true then some (rBlk s.2.2.1 74 #[]) else none
            | 10 => if D 10 = true then some (rBlk s.2.2.2 28 (if D 11 = true then #[.int .i64 (sn ^^^ fn : Nat), .slice s.1 (turnI fn goal).length s.2.1, .slice (some ⟨s.2.2.1, 0, none⟩) 0 0] else #[.int .i64 0, .slice none 0 0, .slice none 0 0])) else none
            | _ => none)
          (none, 0, 0, 0) ?_ ?_ ?_
        · intro D hD
          refine ((Sn.of_st S1).quiet ((Below.refl _ _).drew)).congr fun i => ?_
          match i with
          | 0 => rfl
          | 1 => rfl
          | 2 => rfl
          | 3 => rfl
          | 4 => rfl
          | 5 => rfl
          | 6 => rfl
          | 7 => simp only [hD 7 (by decide)]; rfl
          | 8 => simp only [hD 8 (by decide)]; rfl
          | 9 => rfl
          | 10 => simp only [hD 10 (by decide)]; rfl
          | q + 11 => rfl
        · refine StepAll.cons (fun D s wx hR (hDi : D 0 = false) hd hsh a' hs K hK => ?_) ?_
          · have e2 := hs.old 2 (u := .pointer (some ⟨w.heap.size, 0, none⟩)) (by kernel_rfl) rfl
            clear hs
            go_simp
            exact hK s wx (fun _ _ => rfl) hR
          refine StepAll.cons (fun D s wx hR (hDi : D 1 = false) hd hsh a' hs K hK => ?_) ?_
          · have e20 := hs.at_ 0 20 (u := .pointer (some ⟨w.heap.size, 0, none⟩)) rfl (hd ⟨0, .data⟩ (by simp) rfl) (by kernel_rfl) (by kernel_rfl) rfl
            clear hs
            have kb : Blk wx (w.heap.size) 28 #[.int .i64 sn, .slice A n c, .slice A' n' c'] := hR.blk 0 rfl
            have c0 : wx.cell? ⟨w.heap.size, 0, none⟩ = some (.int .i64 sn) := kb.cell 0
            go_simp
            exact hK s wx (fun _ _ => rfl) hR
          refine StepAll.cons (fun D s wx hR (hDi : D 2 = false) hd hsh a' hs K hK => ?_) ?_
          · have e1 := hs.old 1 (u := .int .i64 fn) (by kernel_rfl) rfl
            clear hs
            go_simp
            exact hK s wx (fun _ _ => rfl) hR
          refine StepAll.cons (fun D s wx hR (hDi : D 3 = false) hd hsh a' hs K hK => ?_) ?_
          · have e21 := hs.at_ 1 21 (u := .int .i64 sn) rfl (hd ⟨1, .data⟩ (by simp) rfl) (by kernel_rfl) (by kernel_rfl) rfl
            have e22 := hs.at_ 2 22 (u := .int .i64 fn) rfl (hd ⟨2, .data⟩ (by simp) rfl) (by kernel_rfl) (by kernel_rfl) rfl
            have g21 := getQ e21
            have g22 := getQ e22
            clear hs
            go_simp
            refine (l1Other_any (sn : Int) (fn : Int) (by omega) (by omega) (by omega) (by omega) _).mono ?_
            rintro e w2 ⟨rfl, rfl⟩
            exact hK s _ (fun _ _ => rfl) hR
          refine StepAll.cons (fun D s wx hR (hDi : D 4 = false) hd hsh a' hs K hK => ?_) ?_
          · have e2 := hs.old 2 (u := .pointer (some ⟨w.heap.size, 0, none⟩)) (by kernel_rfl) rfl
            clear hs
            go_simp
            exact hK s wx (fun _ _ => rfl) hR
          refine StepAll.cons (fun D s wx hR (hDi : D 5 = false) hd hsh a' hs K hK => ?_) ?_
          · have e24 := hs.at_ 4 24 (u := .pointer (some ⟨w.heap.size, 1, none⟩)) rfl (hd ⟨4, .data⟩ (by simp) rfl) (by kernel_rfl) (by kernel_rfl) rfl
            clear hs
            have kb : Blk wx (w.heap.size) 28 #[.int .i64 sn, .slice A n c, .slice A' n' c'] := hR.blk 0 rfl
            have c0 : wx.cell? ⟨w.heap.size, 1, none⟩ = some (.slice A n c) := kb.cell 1
            go_simp
            exact hK s wx (fun _ _ => rfl) hR
          refine StepAll.cons (fun D s wx hR (hDi : D 6 = false) hd hsh a' hs K hK => ?_) ?_
          · have e1 := hs.old 1 (u := .int .i64 fn) (by kernel_rfl) rfl
            clear hs
            go_simp
            exact hK s wx (fun _ _ => rfl) hR
          refine StepAll.cons (fun D s wx hR (hDi : D 7 = false) hd hsh a' hs K hK => ?_) ?_
          · have e25 := hs.at_ 5 25 (u := .slice A n c) rfl (hd ⟨5, .data⟩ (by simp) rfl) (by kernel_rfl) (by kernel_rfl) rfl
            have e26 := hs.at_ 6 26 (u := .int .i64 fn) rfl (hd ⟨6, .data⟩ (by simp) rfl) (by kernel_rfl) (by kernel_rfl) rfl
            have g25 := getQ e25
            have g26 := getQ e26
            clear hs
            have n9 : D 9 = false := hsh.no hDi 9 rfl ⟨7, .data⟩ (by simp) rfl rfl
            have n11 : D 11 = false := hsh.no hDi 11 rfl ⟨7, .chain⟩ (by simp) rfl rfl
            go_simp
            refine (l9Turned_st A n c goal fn _ (hg.up hR.below) HGIN.out (by omega) (by omega)).mono ?_
            rintro e w2 ⟨v2, rfl, s2⟩
            obtain ⟨A2, c2, hv, -⟩ := s2.rdI 0 rfl
            subst hv
            refine hK (A2, c2, s.2.2) w2
              (fun j hj => by
                match j, hj with
                | 0, hj => rfl
                | 1, hj => rfl
                | 2, hj => rfl
                | 3, hj => rfl
                | 4, hj => rfl
                | 5, hj => rfl
                | 6, hj => rfl
                | 7, hj => rw [hDi] at hj; cases hj
                | 8, hj => rfl
                | 9, hj => rw [n9] at hj; cases hj
                | 10, hj => rfl
                | 11, hj => rw [n11] at hj; cases hj
                | _ + 12, hj => rfl)
              ((hR.add 7 (if_neg (by rw [hDi]; simp)) s2).congr
                (fun i => by
                  match i with
                  | 0 => rfl
                  | 1 => rfl
                  | 2 => rfl
                  | 3 => rfl
                  | 4 => rfl
                  | 5 => rfl
                  | 6 => rfl
                  | 7 => rfl
                  | 8 => rfl
                  | 9 => rfl
                  | 10 => (show (if D 10 = true then some (rBlk _ _ (if D 11 = true then _ else _)) else none) = (if D 10 = true then some (rBlk _ _ (if D 11 = true then _ else _)) else none); rw [n11]; rfl)
                  | q + 11 => exact (if_neg (show ¬ (q + 11 = 7) by omega)).symm))
          refine StepAll.cons (fun D s wx hR (hDi : D 8 = false) hd hsh a' hs K hK => ?_) ?_
          · clear hs
            have n9 : D 9 = false := hsh.no hDi 9 rfl ⟨8, .data⟩ (by simp) rfl rfl
            have n11 : D 11 = false := hsh.no hDi 11 rfl ⟨8, .phase⟩ (by simp) rfl rfl
            go_simp
            refine hK (s.1, s.2.1, wx.heap.size, s.2.2.2) _
              (fun j hj => by
                match j, hj with
                | 0, hj => rfl
                | 1, hj => rfl
                | 2, hj => rfl
                | 3, hj => rfl
                | 4, hj => rfl
                | 5, hj => rfl
                | 6, hj => rfl
                | 7, hj => rfl
                | 8, hj => rw [hDi] at hj; cases hj
                | 9, hj => rw [n9] at hj; cases hj
                | 10, hj => rfl
                | 11, hj => rw [n11] at hj; cases hj
                | _ + 12, hj => rfl)
              ((hR.add 8 (if_neg (by rw [hDi]; simp)) (St.new1 wx #[] 74)).congr
                (fun i => by
                  match i with
                  | 0 => rfl
                  | 1 => rfl
                  | 2 => rfl
                  | 3 => rfl
                  | 4 => rfl
                  | 5 => rfl
                  | 6 => rfl
                  | 7 => rfl
                  | 8 => rfl
                  | 9 => rfl
                  | 10 => (show (if D 10 = true then some (rBlk _ _ (if D 11 = true then _ else _)) else none) = (if D 10 = true then some (rBlk _ _ (if D 11 = true then _ else _)) else none); rw [n11]; rfl)
                  | q + 11 => exact (if_neg (show ¬ (q + 11 = 8) by omega)).symm))
          refine StepAll.cons (fun D s wx hR (hDi : D 9 = false) hd hsh a' hs K hK => ?_) ?_
          · have e23 := hs.at_ 3 23 (u := .int .i64 (sn ^^^ fn : Nat)) rfl (hd ⟨3, .data⟩ (by simp) rfl) (by kernel_rfl) (by kernel_rfl) rfl
            have e27 := hs.at_ 7 27 (u := .slice s.1 (turnI fn goal).length s.2.1) rfl (hd ⟨7, .data⟩ (by simp) rfl) (by kernel_rfl) (by kernel_rfl) rfl
            have e28 := hs.at_ 8 28 (u := .slice (some ⟨s.2.2.1, 0, none⟩) 0 0) rfl (hd ⟨8, .data⟩ (by simp) rfl) (by kernel_rfl) (by kernel_rfl) rfl
            have g23 := getQ e23
            have g27 := getQ e27
            have g28 := getQ e28
            clear hs
            go_simp
            exact hK s wx (fun _ _ => rfl) hR
          refine StepAll.cons (fun D s wx hR (hDi : D 10 = false) hd hsh a' hs K hK => ?_) ?_
          · clear hs
            have n11 : D 11 = false := hsh.no hDi 11 rfl ⟨10, .data⟩ (by simp) rfl rfl
            go_simp
            refine hK (s.1, s.2.1, s.2.2.1, wx.heap.size) _
              (fun j hj => by
                match j, hj with
                | 0, hj => rfl
                | 1, hj => rfl
                | 2, hj => rfl
                | 3, hj => rfl
                | 4, hj => rfl
                | 5, hj => rfl
                | 6, hj => rfl
                | 7, hj => rfl
                | 8, hj => rfl
                | 9, hj => rfl
                | 10, hj => rw [hDi] at hj; cases hj
                | 11, hj => rw [n11] at hj; cases hj
                | _ + 12, hj => rfl)
              ((hR.add 10 (if_neg (by rw [hDi]; simp)) (St.new1 wx #[.int .i64 0, .slice none 0 0, .slice none 0 0] 28)).congr
                (fun i => by
                  match i with
                  | 0 => rfl
                  | 1 => rfl
                  | 2 => rfl
                  | 3 => rfl
                  | 4 => rfl
                  | 5 => rfl
                  | 6 => rfl
                  | 7 => rfl
                  | 8 => rfl
                  | 9 => rfl
                  | 10 => (show some (rBlk _ _ (if D 11 = true then _ else _)) = some (rBlk _ _ _); rw [n11]; rfl)
                  | q + 11 => exact (if_neg (show ¬ (q + 11 = 10) by omega)).symm))
          refine StepAll.cons (fun D s wx hR (hDi : D 11 = false) hd hsh a' hs K hK => ?_) ?_
          · have e6 := hs.at_ 10 6 (u := .pointer (some ⟨s.2.2.2, 0, none⟩)) rfl (hd ⟨10, .data⟩ (by simp) rfl) (by kernel_rfl) (by kernel_rfl) rfl
            have e29 := hs.at_ 9 29 (u := .agg #[.int .i64 (sn ^^^ fn : Nat), .slice s.1 (turnI fn goal).length s.2.1, .slice (some ⟨s.2.2.1, 0, none⟩) 0 0]) rfl (hd ⟨9, .data⟩ (by simp) rfl) (by kernel_rfl) (by kernel_rfl) rfl
            clear hs
            have d10 : D 10 = true := hd ⟨10, .data⟩ (by simp) rfl
            have kb := hR.blk 10 (by simp only [d10, hDi]; rfl)
            have f0 := kb.frozen
            have c0 : wx.cell? ⟨s.2.2.2, 0, none⟩ = some (.int .i64 0) := kb.cell 0
            have c1 : wx.cell? ⟨s.2.2.2, 1, none⟩ = some (.slice none 0 0) := kb.cell 1
            have c2 : wx.cell? ⟨s.2.2.2, 2, none⟩ = some (.slice none 0 0) := kb.cell 2
            go_simp
            exact hK s _ (fun _ _ => rfl) ((hR.set3 10 (by simp only [d10, hDi]; rfl) _ _ _).congr
              (fun i => by
                match i with
                | 0 => rfl
                | 1 => rfl
                | 2 => rfl
                | 3 => rfl
                | 4 => rfl
                | 5 => rfl
                | 6 => rfl
                | 7 => rfl
                | 8 => rfl
                | 9 => rfl
                | 10 => (show (if D 10 = true then some (rBlk _ _ _) else none) = some (rBlk _ _ _); rw [d10]; rfl)
                | q + 11 => exact (if_neg (show ¬ (q + 11 = 10) by omega)).symm))
          exact StepAll.nil
        · intro D s wx hR hD
          simp only [putA, Act.put, List.setIfInBounds_toArray, List.set_cons_zero, List.set_cons_succ]
          go_wp2_with fail
          go_meet
          exact ⟨s.2.2.2, s.1, s.2.1, s.2.2.1, rfl, hR.to_st [0, 1, 7, 8, 10] (by decide) (by simp only [List.map, hD 7 (by decide), hD 8 (by decide), hD 10 (by decide), hD 11 (by decide)]; rfl)⟩

      case rest =>
        obtain ⟨T, A2, c2, D8, rfl, S2⟩ := hcut
        have S3 := (S2.pick [3, 0, 1, 2, 4] (by decide) rfl rfl).see (fun F h _ => blk_deeds h)
        have M0 := Sn.of_st S3
        have t2 : wc.cell? ⟨w.heap.size, 2, none⟩ = some (.slice A' n' c') := (M0.blk 1 rfl).cell 2
        have HM0 := Lib.hid M0
        have HDL := Lib.hid hds.len
        clear S1 S2 S3 M0
        go_wp2
        go_loopw [7] (fun i wr => ∃ (k : Nat) (dv : Value), k ≤ n' ∧ i = .int .i64 k ∧ Sn w wr (fun q => match q with
          | 0 => some (rDeeds dv ((deeds.take k).map (turnD fn)))
          | 1 => some (rBlk w.heap.size 28 #[.int .i64 sn, .slice A n c, .slice A' n' c'])
          | 2 => some (rBlk (w.heap.size + 1) 28 #[.int .i64 0, .slice none 0 0, .slice none 0 0])
          | 3 => some (rInts (.slice A2 (turnI fn goal).length c2) (turnI fn goal))
          | 4 => some (rBlk T 28 #[.int .i64 (sn ^^^ fn : Nat), .slice A2 (turnI fn goal).length c2, dv])
          | _ => none)) (fun i _ => n' - (intOf i).toNat)
        case atStart =>
          refine ⟨0, .slice (some ⟨D8, 0, none⟩) 0 0, by omega, rfl, HM0.out.congr fun i => ?_⟩
          match i with
          | 0 => rfl
          | 1 => rfl
          | 2 => rfl
          | 3 => rfl
          | 4 => rfl
          | q + 5 => rfl
        case round =>
          obtain ⟨k, dv, hk, rfl, M⟩ := hrel
          have t2 : wr.cell? ⟨w.heap.size, 2, none⟩ = some (.slice A' n' c') := (M.blk 1 rfl).cell 2
          by_cases hlt : k < n'
          · obtain ⟨b, off, d, rfl, hb, hd, hda⟩ := hds.get hlt
            have hda' := hda.keep hb (bcells M.below)
            have hdok := HDOK.out d (List.mem_of_getElem? hd)
            obtain ⟨hnok, ⟨hon0, hon1⟩, ⟨hof0, hof1⟩, ⟨hfl0, hfl1⟩, -⟩ := deedOk_parts d hdok
            obtain ⟨need, on, of, fl⟩ := d
            simp only at hnok hon0 hon1 hof0 hof1 hfl0 hfl1
            obtain ⟨An, nn, cn, q0, q1, q2, q3, -, hnn, hw1, hw2, hw3⟩ := hda'
            obtain ⟨An', nn', cn', p0, p1, p2, p3, hneed, -⟩ := hda
            have hsame : Value.slice An' nn' cn' = .slice An nn cn := by
              have := (bcells M.below b (off + k * 4) hb).symm.trans q0
              rw [p0] at this
              injection this
            simp only [Value.slice.injEq] at hsame
            obtain ⟨rfl, rfl, rfl⟩ := hsame
            simp only at q1 q2 q3 hneed hw1 hw2 hw3
            obtain ⟨a, rfl⟩ := Int.eq_ofNat_of_zero_le hon0
            obtain ⟨o, rfl⟩ := Int.eq_ofNat_of_zero_le hof0
            have HNIN := Lib.hid (codeOk_in _ hnok)
            have hn6 : n' ≤ 6 := by rw [← hds.len]; exact hdl
            have hnn40 : nn' ≤ 40 := by rw [← hneed.len]; exact ((codeOk_iff _).1 hnok).2.1
            have HD : Hid ((deeds.take (k + 1)).map (turnD fn) = (deeds.take k).map (turnD fn) ++ [turnD fn ⟨need, a, o, fl⟩]) := Lib.hid (by
              obtain ⟨h1, h2⟩ := List.getElem?_eq_some_iff.1 hd
              rw [List.take_succ_eq_append_getElem h1, h2]; simp)
            have HTL : Hid (((deeds.take k).map (turnD fn)).length = k) := Lib.hid (by rw [List.length_map, List.length_take, hds.len]; omega)
            have HWF : Hid ((turnI fn need).length ≤ 1048576 ∧ (Lit.int .i64 (turnD fn ⟨need, a, o, fl⟩).on).wf = true ∧ (Lit.int .i64 (turnD fn ⟨need, a, o, fl⟩).off).wf = true ∧ (Lit.int .i64 (turnD fn ⟨need, a, o, fl⟩).flip).wf = true) := Lib.hid (by
              have h1 := turnI_len fn need
              have h2 := (turn_or0 ⟨fn, by omega⟩ ⟨a, by omega⟩ ⟨o, by omega⟩).2
              have h3 := (turn_or0 ⟨fn, by omega⟩ ⟨o, by omega⟩ ⟨a, by omega⟩).2
              simp only at h2 h3
              rw [hneed.len] at h1
              exact ⟨by omega, wf_i64_mk (by simp only [turnD, Int.toNat_natCast]; omega), wf_i64_mk (by simp only [turnD, Int.toNat_natCast]; omega), hw3⟩)
            have x1 : a &&& fn ≤ a := Nat.and_le_left
            have x2 : o &&& fn ≤ o := Nat.and_le_left
            have e1 : Hid (((a : Nat) : Int) - ((a &&& fn : Nat) : Int) + ((o &&& fn : Nat) : Int) = (turnOn fn a o : Nat)) := Lib.hid (by unfold turnOn; omega)
            have e2 : Hid (((o : Nat) : Int) - ((o &&& fn : Nat) : Int) + ((a &&& fn : Nat) : Int) = (turnOn fn o a : Nat)) := Lib.hid (by unfold turnOn; omega)
            have B1 := Lib.hid (fun w => l1Both_nat a fn (by omega) w)
            have B2 := Lib.hid (fun w => l1Both_nat o fn (by omega) w)
            clear hd hnok hdok p0 p1 p2 p3
            go_upto_region 8 with (fail)
            have M1 := M.add 5 rfl (St.new1 wr #[.slice An' nn' cn', .int .i64 a, .int .i64 o, .int .i64 fl] 74)
            obtain ⟨g8, hg8⟩ : ∃ g, wr.heap.size = g := ⟨_, rfl⟩
            rw [hg8] at M1 ⊢
            generalize wr.alloc (Obj.cells #[.slice An' nn' cn', .int .i64 a, .int .i64 o, .int .i64 fl] 74) = wd at M1 ⊢
            have m1 : wd.cell? ⟨g8, 1, none⟩ = some (.int .i64 a) := (M1.blk 5 rfl).cell 1
            have m2 : wd.cell? ⟨g8, 2, none⟩ = some (.int .i64 o) := (M1.blk 5 rfl).cell 2
            have m3 : wd.cell? ⟨g8, 3, none⟩ = some (.int .i64 fl) := (M1.blk 5 rfl).cell 3
            clear q0 q1 q2 q3 t2 hg8
            have M2 : Sn w wd (fun q => match q with
              | 0 => some (rDeeds dv ((deeds.take k).map (turnD fn)))
              | 1 => some (rBlk w.heap.size 28 #[.int .i64 sn, .slice A n c, .slice (some ⟨b, off, none⟩) n' c'])
              | 2 => some (rBlk (w.heap.size + 1) 28 #[.int .i64 0, .slice none 0 0, .slice none 0 0])
              | 3 => some (rInts (.slice A2 (turnI fn goal).length c2) (turnI fn goal))
              | 4 => some (rBlk T 28 #[.int .i64 (sn ^^^ fn : Nat), .slice A2 (turnI fn goal).length c2, dv])
              | 5 => some (rBlk g8 74 #[.slice An' nn' cn', .int .i64 a, .int .i64 o, .int .i64 fl])
              | _ => none) := M1.congr fun i => by
                match i with
                | 0 => rfl
                | 1 => rfl
                | 2 => rfl
                | 3 => rfl
                | 4 => rfl
                | 5 => rfl
                | q + 6 => exact (if_neg (show ¬ (q + 6 = 5) by omega)).symm
            clear M1
            go_quiet ((go_at_call 87; first | with_reducible exact quiet_left (B1.out _) | with_reducible exact quiet_left (B2.out _)))
            have M3 := M2.quiet (below_drewN (Below.refl _ _) nq)
            generalize wd.drewN nq = we at M3 ⊢
            clear M2 m1 m2 m3
            have m1 : we.cell? ⟨g8, 1, none⟩ = some (.int .i64 a) := (M3.blk 5 rfl).cell 1
            have m2 : we.cell? ⟨g8, 2, none⟩ = some (.int .i64 o) := (M3.blk 5 rfl).cell 2
            have m3 : we.cell? ⟨g8, 3, none⟩ = some (.int .i64 fl) := (M3.blk 5 rfl).cell 3
            go_upto_region 9 with (fail)
            go_quiet ((go_at_call 87; first | with_reducible exact quiet_left (B1.out _) | with_reducible exact quiet_left (B2.out _)))
            have M2 := M3.quiet (below_drewN (Below.refl _ _) nq)
            generalize we.drewN nq = wf at M2 ⊢
            clear M3 m1 m2 m3
            go_upto_region 10 with (fail)
            rw [e1.out, e2.out]
            clear x1 x2 B1 B2 e1 e2
            refine wp_reg (σ := Option Addr × Nat × Nat × Option Addr × Nat) (by kernel_rfl) (by kernel_rfl) (by kernel_rfl)
              (fun s i => match i with
                | 0 => .pointer (some ⟨T, 2, none⟩)
                | 1 => dv
                | 2 => .pointer (some ⟨g8, 0, none⟩)
                | 3 => .slice An' nn' cn'
                | 4 => .int .i64 fn
                | 5 => .slice s.1 (turnI fn need).length s.2.1
                | 6 => .int .i64 (turnOn fn a o : Nat)
                | 7 => .int .i64 (turnOn fn o a : Nat)
                | 8 => .pointer (some ⟨g8, 3, none⟩)
                | 9 => .int .i64 fl
                | 10 => .agg #[.slice s.1 (turnI fn need).length s.2.1, .int .i64 (turnOn fn a o : Nat), .int .i64 (turnOn fn o a : Nat), .int .i64 fl]
                | 11 => .slice (some ⟨s.2.2.1, 0, none⟩) 1 1
                | 12 => .slice s.2.2.2.1 (k + 1) s.2.2.2.2
                | 13 => .pointer (some ⟨T, 2, none⟩)
                | _ => undef)
              (fun D s wx => Sn w wx fun i => match i with
                | 0 => some (rDeeds (if D 12 = true then .slice s.2.2.2.1 (k + 1) s.2.2.2.2 else dv) (if D 12 = true then (deeds.take k).map (turnD fn) ++ [turnD fn ⟨need, a, o, fl⟩] else (deeds.take k).map (turnD fn)))
                | 1 => some (rBlk w.heap.size 28 #[.int .i64 sn, .slice A n c, .slice (some ⟨b, off, none⟩) n' c'])
                | 2 => some (rBlk (w.heap.size + 1) 28 #[.int .i64 0, .slice none 0 0, .slice none 0 0])
                | 3 => some (rInts (.slice A2 (turnI fn goal).length c2) (turnI fn goal))
                | 4 => some (rBlk T 28 (if D 14 = true then #[.int .i64 (sn ^^^ fn : Nat), .slice A2 (turnI fn goal).length c2, .slice s.2.2.2.1 (k + 1) s.2.2.2.2] else #[.int .i64 (sn ^^^ fn : Nat), .slice A2 (turnI fn goal).length c2, dv]))
                | 5 => some (rBlk g8 74 #[.slice An' nn' cn', .int .i64 a, .int .i64 o, .int .i64 fl])
                | 6 => if D 5 = true then (if D 12 = true then none else some (rInts (.slice s.1 (turnI fn need).length s.2.1) (turnI fn need))) else none
                | 11 => if D 11 = true then some (rBlk s.2.2.1 74 #[.slice s.1 (turnI fn need).length s.2.1, .int .i64 (turnOn fn a o : Nat), .int .i64 (turnOn fn o a : Nat), .int .i64 fl]) else none
                | _ => none)
              (none, 0, 0, none, 0) ?_ ?_ ?_
            · intro D hD
              refine (M2.quiet ((Below.refl _ _).drew)).congr fun i => ?_
              match i with
              | 0 => first | rfl | (simp only [hD 12 (by decide), hD 14 (by decide), hD 5 (by decide), hD 11 (by decide)]; done) | (simp only [hD 12 (by decide), hD 14 (by decide), hD 5 (by decide), hD 11 (by decide)]; rfl)
              | 1 => first | rfl | (simp only [hD 12 (by decide), hD 14 (by decide), hD 5 (by decide), hD 11 (by decide)]; done) | (simp only [hD 12 (by decide), hD 14 (by decide), hD 5 (by decide), hD 11 (by decide)]; rfl)
              | 2 => first | rfl | (simp only [hD 12 (by decide), hD 14 (by decide), hD 5 (by decide), hD 11 (by decide)]; done) | (simp only [hD 12 (by decide), hD 14 (by decide), hD 5 (by decide), hD 11 (by decide)]; rfl)
              | 3 => first | rfl | (simp only [hD 12 (by decide), hD 14 (by decide), hD 5 (by decide), hD 11 (by decide)]; done) | (simp only [hD 12 (by decide), hD 14 (by decide), hD 5 (by decide), hD 11 (by decide)]; rfl)
              | 4 => first | rfl | (simp only [hD 12 (by decide), hD 14 (by decide), hD 5 (by decide), hD 11 (by decide)]; done) | (simp only [hD 12 (by decide), hD 14 (by decide), hD 5 (by decide), hD 11 (by decide)]; rfl)
              | 5 => first | rfl | (simp only [hD 12 (by decide), hD 14 (by decide), hD 5 (by decide), hD 11 (by decide)]; done) | (simp only [hD 12 (by decide), hD 14 (by decide), hD 5 (by decide), hD 11 (by decide)]; rfl)
              | 6 => first | rfl | (simp only [hD 12 (by decide), hD 14 (by decide), hD 5 (by decide), hD 11 (by decide)]; done) | (simp only [hD 12 (by decide), hD 14 (by decide), hD 5 (by decide), hD 11 (by decide)]; rfl)
              | 7 => first | rfl | (simp only [hD 12 (by decide), hD 14 (by decide), hD 5 (by decide), hD 11 (by decide)]; done) | (simp only [hD 12 (by decide), hD 14 (by decide), hD 5 (by decide), hD 11 (by decide)]; rfl)
              | 8 => first | rfl | (simp only [hD 12 (by decide), hD 14 (by decide), hD 5 (by decide), hD 11 (by decide)]; done) | (simp only [hD 12 (by decide), hD 14 (by decide), hD 5 (by decide), hD 11 (by decide)]; rfl)
              | 9 => first | rfl | (simp only [hD 12 (by decide), hD 14 (by decide), hD 5 (by decide), hD 11 (by decide)]; done) | (simp only [hD 12 (by decide), hD 14 (by decide), hD 5 (by decide), hD 11 (by decide)]; rfl)
              | 10 => first | rfl | (simp only [hD 12 (by decide), hD 14 (by decide), hD 5 (by decide), hD 11 (by decide)]; done) | (simp only [hD 12 (by decide), hD 14 (by decide), hD 5 (by decide), hD 11 (by decide)]; rfl)
              | 11 => first | rfl | (simp only [hD 12 (by decide), hD 14 (by decide), hD 5 (by decide), hD 11 (by decide)]; done) | (simp only [hD 12 (by decide), hD 14 (by decide), hD 5 (by decide), hD 11 (by decide)]; rfl)
              | q + 12 => rfl
            · refine StepAll.cons (fun D s wx hR (hDi : D 0 = false) hd hsh a' hs K hK => ?_) ?_
              · have e6 := hs.old 6 (u := .pointer (some ⟨T, 0, none⟩)) (by kernel_rfl) rfl
                clear hs
                go_simp
                exact hK s wx (fun _ _ => rfl) hR
              refine StepAll.cons (fun D s wx hR (hDi : D 1 = false) hd hsh a' hs K hK => ?_) ?_
              · have e66 := hs.at_ 0 66 (u := .pointer (some ⟨T, 2, none⟩)) rfl (hd ⟨0, .data⟩ (by simp) rfl) (by kernel_rfl) (by kernel_rfl) rfl
                clear hs
                have n14 : D 14 = false := hsh.no hDi 14 rfl ⟨1, .phase⟩ (by simp) rfl rfl
                have kb : Blk wx (T) 28 #[.int .i64 (sn ^^^ fn : Nat), .slice A2 (turnI fn goal).length c2, dv] := hR.blk 4 (by simp only [n14]; rfl)
                have c0 : wx.cell? ⟨T, 2, none⟩ = some (dv) := kb.cell 2
                go_simp
                exact hK s wx (fun _ _ => rfl) hR
              refine StepAll.cons (fun D s wx hR (hDi : D 2 = false) hd hsh a' hs K hK => ?_) ?_
              · have e8 := hs.old 8 (u := .pointer (some ⟨g8, 0, none⟩)) (by kernel_rfl) rfl
                clear hs
                go_simp
                exact hK s wx (fun _ _ => rfl) hR
              refine StepAll.cons (fun D s wx hR (hDi : D 3 = false) hd hsh a' hs K hK => ?_) ?_
              · have e68 := hs.at_ 2 68 (u := .pointer (some ⟨g8, 0, none⟩)) rfl (hd ⟨2, .data⟩ (by simp) rfl) (by kernel_rfl) (by kernel_rfl) rfl
                clear hs
                have kb : Blk wx (g8) 74 #[.slice An' nn' cn', .int .i64 a, .int .i64 o, .int .i64 fl] := hR.blk 5 rfl
                have c0 : wx.cell? ⟨g8, 0, none⟩ = some (.slice An' nn' cn') := kb.cell 0
                go_simp
                exact hK s wx (fun _ _ => rfl) hR
              refine StepAll.cons (fun D s wx hR (hDi : D 4 = false) hd hsh a' hs K hK => ?_) ?_
              · have e1 := hs.old 1 (u := .int .i64 fn) (by kernel_rfl) rfl
                clear hs
                go_simp
                exact hK s wx (fun _ _ => rfl) hR
              refine StepAll.cons (fun D s wx hR (hDi : D 5 = false) hd hsh a' hs K hK => ?_) ?_
              · have e69 := hs.at_ 3 69 (u := .slice An' nn' cn') rfl (hd ⟨3, .data⟩ (by simp) rfl) (by kernel_rfl) (by kernel_rfl) rfl
                have e70 := hs.at_ 4 70 (u := .int .i64 fn) rfl (hd ⟨4, .data⟩ (by simp) rfl) (by kernel_rfl) (by kernel_rfl) rfl
                have g69 := getQ e69
                have g70 := getQ e70
                clear hs
                have n10 : D 10 = false := hsh.no hDi 10 rfl ⟨5, .data⟩ (by simp) rfl rfl
                have n11 : D 11 = false := hsh.no n10 11 rfl ⟨10, .data⟩ (by simp) rfl rfl
                have n12 : D 12 = false := hsh.no n11 12 rfl ⟨11, .data⟩ (by simp) rfl rfl
                have n14 : D 14 = false := hsh.no n12 14 rfl ⟨12, .data⟩ (by simp) rfl rfl
                go_simp
                refine (l9Turned_st An' nn' cn' need fn _ (hneed.up hR.below) HNIN.out (by omega) (by omega)).mono ?_
                rintro e w2 ⟨v2, rfl, s2⟩
                obtain ⟨A3, c3, hv, -⟩ := s2.rdI 0 rfl
                subst hv
                refine hK (A3, c3, s.2.2) w2
                  (fun j hj => by
                    match j, hj with
                    | 0, hj => rfl
                    | 1, hj => rfl
                    | 2, hj => rfl
                    | 3, hj => rfl
                    | 4, hj => rfl
                    | 5, hj => rw [hDi] at hj; cases hj
                    | 6, hj => rfl
                    | 7, hj => rfl
                    | 8, hj => rfl
                    | 9, hj => rfl
                    | 10, hj => rw [n10] at hj; cases hj
                    | 11, hj => rfl
                    | 12, hj => rfl
                    | 13, hj => rfl
                    | 14, hj => rfl
                    | _ + 15, hj => rfl)
                  ((hR.add 6 (if_neg (by rw [hDi]; simp)) s2).congr
                    (fun i => by
                      match i with
                      | 0 => rfl
                      | 1 => rfl
                      | 2 => rfl
                      | 3 => rfl
                      | 4 => rfl
                      | 5 => rfl
                      | 6 => (show (if D 12 = true then none else some (rInts _ _)) = some (rInts _ _); rw [n12]; rfl)
                      | 7 => rfl
                      | 8 => rfl
                      | 9 => rfl
                      | 10 => rfl
                      | 11 => (show (if D 11 = true then some (rBlk _ _ _) else none) = (if D 11 = true then some (rBlk _ _ _) else none); rw [n11]; rfl)
                      | q + 12 => exact (if_neg (show ¬ (q + 12 = 6) by omega)).symm))
              refine StepAll.cons (fun D s wx hR (hDi : D 6 = false) hd hsh a' hs K hK => ?_) ?_
              · have e9 := hs.old 9 (u := .int .i64 (turnOn fn a o : Nat)) (by kernel_rfl) rfl
                clear hs
                go_simp
                exact hK s wx (fun _ _ => rfl) hR
              refine StepAll.cons (fun D s wx hR (hDi : D 7 = false) hd hsh a' hs K hK => ?_) ?_
              · have e10 := hs.old 10 (u := .int .i64 (turnOn fn o a : Nat)) (by kernel_rfl) rfl
                clear hs
                go_simp
                exact hK s wx (fun _ _ => rfl) hR
              refine StepAll.cons (fun D s wx hR (hDi : D 8 = false) hd hsh a' hs K hK => ?_) ?_
              · have e8 := hs.old 8 (u := .pointer (some ⟨g8, 0, none⟩)) (by kernel_rfl) rfl
                clear hs
                go_simp
                exact hK s wx (fun _ _ => rfl) hR
              refine StepAll.cons (fun D s wx hR (hDi : D 9 = false) hd hsh a' hs K hK => ?_) ?_
              · have e74 := hs.at_ 8 74 (u := .pointer (some ⟨g8, 3, none⟩)) rfl (hd ⟨8, .data⟩ (by simp) rfl) (by kernel_rfl) (by kernel_rfl) rfl
                clear hs
                have kb : Blk wx (g8) 74 #[.slice An' nn' cn', .int .i64 a, .int .i64 o, .int .i64 fl] := hR.blk 5 rfl
                have c0 : wx.cell? ⟨g8, 3, none⟩ = some (.int .i64 fl) := kb.cell 3
                go_simp
                exact hK s wx (fun _ _ => rfl) hR
              refine StepAll.cons (fun D s wx hR (hDi : D 10 = false) hd hsh a' hs K hK => ?_) ?_
              · have e71 := hs.at_ 5 71 (u := .slice s.1 (turnI fn need).length s.2.1) rfl (hd ⟨5, .data⟩ (by simp) rfl) (by kernel_rfl) (by kernel_rfl) rfl
                have e72 := hs.at_ 6 72 (u := .int .i64 (turnOn fn a o : Nat)) rfl (hd ⟨6, .data⟩ (by simp) rfl) (by kernel_rfl) (by kernel_rfl) rfl
                have e73 := hs.at_ 7 73 (u := .int .i64 (turnOn fn o a : Nat)) rfl (hd ⟨7, .data⟩ (by simp) rfl) (by kernel_rfl) (by kernel_rfl) rfl
                have e75 := hs.at_ 9 75 (u := .int .i64 fl) rfl (hd ⟨9, .data⟩ (by simp) rfl) (by kernel_rfl) (by kernel_rfl) rfl
                have g71 := getQ e71
                have g72 := getQ e72
                have g73 := getQ e73
                have g75 := getQ e75
                clear hs
                go_simp
                exact hK s wx (fun _ _ => rfl) hR
              refine StepAll.cons (fun D s wx hR (hDi : D 11 = false) hd hsh a' hs K hK => ?_) ?_
              · have e76 := hs.at_ 10 76 (u := .agg #[.slice s.1 (turnI fn need).length s.2.1, .int .i64 (turnOn fn a o : Nat), .int .i64 (turnOn fn o a : Nat), .int .i64 fl]) rfl (hd ⟨10, .data⟩ (by simp) rfl) (by kernel_rfl) (by kernel_rfl) rfl
                have g76 := getQ e76
                clear hs
                have n12 : D 12 = false := hsh.no hDi 12 rfl ⟨11, .data⟩ (by simp) rfl rfl
                go_simp
                refine hK (s.1, s.2.1, wx.heap.size, s.2.2.2) _
                  (fun j hj => by
                    match j, hj with
                    | 0, hj => rfl
                    | 1, hj => rfl
                    | 2, hj => rfl
                    | 3, hj => rfl
                    | 4, hj => rfl
                    | 5, hj => rfl
                    | 6, hj => rfl
                    | 7, hj => rfl
                    | 8, hj => rfl
                    | 9, hj => rfl
                    | 10, hj => rfl
                    | 11, hj => rw [hDi] at hj; cases hj
                    | 12, hj => rfl
                    | 13, hj => rfl
                    | 14, hj => rfl
                    | _ + 15, hj => rfl)
                  ((hR.add 11 (if_neg (by rw [hDi]; simp)) (St.new1 wx #[.slice s.1 (turnI fn need).length s.2.1, .int .i64 (turnOn fn a o : Nat), .int .i64 (turnOn fn o a : Nat), .int .i64 fl] 74)).congr
                    (fun i => by
                      match i with
                      | 0 => rfl
                      | 1 => rfl
                      | 2 => rfl
                      | 3 => rfl
                      | 4 => rfl
                      | 5 => rfl
                      | 6 => rfl
                      | 7 => rfl
                      | 8 => rfl
                      | 9 => rfl
                      | 10 => rfl
                      | 11 => rfl
                      | q + 12 => exact (if_neg (show ¬ (q + 12 = 11) by omega)).symm))
              refine StepAll.cons (fun D s wx hR (hDi : D 12 = false) hd hsh a' hs K hK => ?_) ?_
              · have e67 := hs.at_ 1 67 (u := dv) rfl (hd ⟨1, .data⟩ (by simp) rfl) (by kernel_rfl) (by kernel_rfl) rfl
                have e77 := hs.at_ 11 77 (u := .slice (some ⟨s.2.2.1, 0, none⟩) 1 1) rfl (hd ⟨11, .data⟩ (by simp) rfl) (by kernel_rfl) (by kernel_rfl) rfl
                have g67 := getQ e67
                have g77 := getQ e77
                clear hs
                have n14 : D 14 = false := hsh.no hDi 14 rfl ⟨12, .data⟩ (by simp) rfl rfl
                have d11 : D 11 = true := hd ⟨11, .data⟩ (by simp) rfl
                have d10 : D 10 = true := hsh 11 _ rfl d11 ⟨10, .data⟩ (by simp) rfl
                have d5 : D 5 = true := hsh 10 _ rfl d10 ⟨5, .data⟩ (by simp) rfl
                obtain ⟨F, cells, Fs, ho, -⟩ := hR.deeds 0 (v := dv) (ds := (deeds.take k).map (turnD fn)) (by simp only [hDi]; rfl)
                have kb : Blk wx s.2.2.1 74 #[.slice s.1 (turnI fn need).length s.2.1, .int .i64 (turnOn fn a o : Nat), .int .i64 (turnOn fn o a : Nat), .int .i64 fl] := hR.blk 11 (by simp only [d11]; rfl)
                refine wp_app1 elDeed (.tmp 67) (.tmp 77) rfl 0 dv _ cells e67 ho.row _ _ 1 1 [.slice s.1 (turnI fn need).length s.2.1, .int .i64 (turnOn fn a o : Nat), .int .i64 (turnOn fn o a : Nat), .int .i64 fl] e77 (RdRow.of_blk kb 4 1 rfl (by unfold maxLen; omega)) (by omega) (by simp [Value.oneCell']) (by rw [HTL.out]; omega) (by rw [HTL.out]; omega) (by omega) ?_
                intro v' w' hown hg hat
                obtain ⟨A4, c4, hv⟩ := own_form hown
                rw [HTL.out] at hv
                subst hv
                exact hK (s.1, s.2.1, s.2.2.1, A4, c4) w'
                  (fun j hj => by
                    match j, hj with
                    | 0, hj => rfl
                    | 1, hj => rfl
                    | 2, hj => rfl
                    | 3, hj => rfl
                    | 4, hj => rfl
                    | 5, hj => rfl
                    | 6, hj => rfl
                    | 7, hj => rfl
                    | 8, hj => rfl
                    | 9, hj => rfl
                    | 10, hj => rfl
                    | 11, hj => rfl
                    | 12, hj => rw [hDi] at hj; cases hj
                    | 13, hj => rfl
                    | 14, hj => rfl
                    | _ + 15, hj => rfl)
                  ((hR.push 0 6 (by decide) (v := dv) (nv := .slice s.1 (turnI fn need).length s.2.1) (ds := (deeds.take k).map (turnD fn)) (d := turnD fn ⟨need, a, o, fl⟩) (by simp only [hDi]; rfl) (by simp only [d5, hDi]; rfl) HWF.out.1 HWF.out.2 (by rw [HTL.out]; omega) rfl ho.row hown hg hat).congr
                    (fun i => by
                      match i with
                      | 0 => rfl
                      | 1 => rfl
                      | 2 => rfl
                      | 3 => rfl
                      | 4 => (show some (rBlk _ _ (if D 14 = true then _ else _)) = some (rBlk _ _ (if D 14 = true then _ else _)); rw [n14]; rfl)
                      | 5 => rfl
                      | 6 => (show (if D 5 = true then none else none) = none; rw [d5]; rfl)
                      | 7 => rfl
                      | 8 => rfl
                      | 9 => rfl
                      | 10 => rfl
                      | 11 => rfl
                      | q + 12 => exact ((if_neg (show ¬ (q + 12 = 0) by omega)).trans (if_neg (show ¬ (q + 12 = 6) by omega))).symm))
              refine StepAll.cons (fun D s wx hR (hDi : D 13 = false) hd hsh a' hs K hK => ?_) ?_
              · have e6 := hs.old 6 (u := .pointer (some ⟨T, 0, none⟩)) (by kernel_rfl) rfl
                clear hs
                go_simp
                exact hK s wx (fun _ _ => rfl) hR
              refine StepAll.cons (fun D s wx hR (hDi : D 14 = false) hd hsh a' hs K hK => ?_) ?_
              · have e79 := hs.at_ 13 79 (u := .pointer (some ⟨T, 2, none⟩)) rfl (hd ⟨13, .data⟩ (by simp) rfl) (by kernel_rfl) (by kernel_rfl) rfl
                have e78 := hs.at_ 12 78 (u := .slice s.2.2.2.1 (k + 1) s.2.2.2.2) rfl (hd ⟨12, .data⟩ (by simp) rfl) (by kernel_rfl) (by kernel_rfl) rfl
                clear hs
                have d12 : D 12 = true := hd ⟨12, .data⟩ (by simp) rfl
                have kb : Blk wx T 28 #[.int .i64 (sn ^^^ fn : Nat), .slice A2 (turnI fn goal).length c2, dv] := hR.blk 4 (by simp only [hDi]; rfl)
                have f0 := kb.frozen
                have c2' : wx.cell? ⟨T, 2, none⟩ = some dv := kb.cell 2
                go_simp
                exact hK s _ (fun _ _ => rfl) ((hR.set 4 (cs := #[.int .i64 (sn ^^^ fn : Nat), .slice A2 (turnI fn goal).length c2, dv]) (by simp only [hDi]; rfl) 2 _).congr
                  (fun i => by
                    match i with
                    | 0 => rfl
                    | 1 => rfl
                    | 2 => rfl
                    | 3 => rfl
                    | 4 => rfl
                    | 5 => rfl
                    | 6 => rfl
                    | 7 => rfl
                    | 8 => rfl
                    | 9 => rfl
                    | 10 => rfl
                    | 11 => rfl
                    | q + 12 => exact (if_neg (show ¬ (q + 12 = 4) by omega)).symm))
              exact StepAll.nil
            · intro D s wx hR hD
              simp only [putA, Act.put, List.setIfInBounds_toArray, List.set_cons_zero, List.set_cons_succ]
              go_wp2
              go_roundw
              case rel =>
                refine ⟨k + 1, .slice s.2.2.2.1 (k + 1) s.2.2.2.2, by omega, by go_num, (((hR.drop 5).drop 11).congr fun i => ?_)⟩
                match i with
                | 0 => first | rfl | (simp only [hD 12 (by decide), hD 14 (by decide), hD 5 (by decide), hD 11 (by decide)]; first | done | rfl | (rw [HD.out]; rfl)) | (rw [HD.out]; simp only [hD 12 (by decide), hD 14 (by decide), hD 5 (by decide), hD 11 (by decide)]; first | done | rfl)
                | 1 => first | rfl | (simp only [hD 12 (by decide), hD 14 (by decide), hD 5 (by decide), hD 11 (by decide)]; first | done | rfl | (rw [HD.out]; rfl)) | (rw [HD.out]; simp only [hD 12 (by decide), hD 14 (by decide), hD 5 (by decide), hD 11 (by decide)]; first | done | rfl)
                | 2 => first | rfl | (simp only [hD 12 (by decide), hD 14 (by decide), hD 5 (by decide), hD 11 (by decide)]; first | done | rfl | (rw [HD.out]; rfl)) | (rw [HD.out]; simp only [hD 12 (by decide), hD 14 (by decide), hD 5 (by decide), hD 11 (by decide)]; first | done | rfl)
                | 3 => first | rfl | (simp only [hD 12 (by decide), hD 14 (by decide), hD 5 (by decide), hD 11 (by decide)]; first | done | rfl | (rw [HD.out]; rfl)) | (rw [HD.out]; simp only [hD 12 (by decide), hD 14 (by decide), hD 5 (by decide), hD 11 (by decide)]; first | done | rfl)
                | 4 => first | rfl | (simp only [hD 12 (by decide), hD 14 (by decide), hD 5 (by decide), hD 11 (by decide)]; first | done | rfl | (rw [HD.out]; rfl)) | (rw [HD.out]; simp only [hD 12 (by decide), hD 14 (by decide), hD 5 (by decide), hD 11 (by decide)]; first | done | rfl)
                | 5 => first | rfl | (simp only [hD 12 (by decide), hD 14 (by decide), hD 5 (by decide), hD 11 (by decide)]; first | done | rfl | (rw [HD.out]; rfl)) | (rw [HD.out]; simp only [hD 12 (by decide), hD 14 (by decide), hD 5 (by decide), hD 11 (by decide)]; first | done | rfl)
                | 6 => first | rfl | (simp only [hD 12 (by decide), hD 14 (by decide), hD 5 (by decide), hD 11 (by decide)]; first | done | rfl | (rw [HD.out]; rfl)) | (rw [HD.out]; simp only [hD 12 (by decide), hD 14 (by decide), hD 5 (by decide), hD 11 (by decide)]; first | done | rfl)
                | 7 => first | rfl | (simp only [hD 12 (by decide), hD 14 (by decide), hD 5 (by decide), hD 11 (by decide)]; first | done | rfl | (rw [HD.out]; rfl)) | (rw [HD.out]; simp only [hD 12 (by decide), hD 14 (by decide), hD 5 (by decide), hD 11 (by decide)]; first | done | rfl)
                | 8 => first | rfl | (simp only [hD 12 (by decide), hD 14 (by decide), hD 5 (by decide), hD 11 (by decide)]; first | done | rfl | (rw [HD.out]; rfl)) | (rw [HD.out]; simp only [hD 12 (by decide), hD 14 (by decide), hD 5 (by decide), hD 11 (by decide)]; first | done | rfl)
                | 9 => first | rfl | (simp only [hD 12 (by decide), hD 14 (by decide), hD 5 (by decide), hD 11 (by decide)]; first | done | rfl | (rw [HD.out]; rfl)) | (rw [HD.out]; simp only [hD 12 (by decide), hD 14 (by decide), hD 5 (by decide), hD 11 (by decide)]; first | done | rfl)
                | 10 => first | rfl | (simp only [hD 12 (by decide), hD 14 (by decide), hD 5 (by decide), hD 11 (by decide)]; first | done | rfl | (rw [HD.out]; rfl)) | (rw [HD.out]; simp only [hD 12 (by decide), hD 14 (by decide), hD 5 (by decide), hD 11 (by decide)]; first | done | rfl)
                | 11 => first | rfl | (simp only [hD 12 (by decide), hD 14 (by decide), hD 5 (by decide), hD 11 (by decide)]; first | done | rfl | (rw [HD.out]; rfl)) | (rw [HD.out]; simp only [hD 12 (by decide), hD 14 (by decide), hD 5 (by decide), hD 11 (by decide)]; first | done | rfl)
                | q + 12 => simp
              case measure => simp [intOf]; omega

          · have hkn : k = n' := by omega
            subst hkn
            have HTK : Hid (deeds.take k = deeds) := Lib.hid (by rw [← hds.len, List.take_length])
            have S5 := M.to_st (L := [rInts (.slice A2 (turnI fn goal).length c2) (turnI fn goal), rDeeds dv (deeds.map (turnD fn)), rBlk T 28 #[.int .i64 (sn ^^^ fn : Nat), .slice A2 (turnI fn goal).length c2, dv], rBlk (w.heap.size + 1) 28 #[.int .i64 0, .slice none 0 0, .slice none 0 0]]) [3, 0, 4, 2] (by decide) (by
              simp only [List.map]; rw [HTK.out])
            obtain ⟨Ad, cd, hdv, -⟩ := S5.rdDs 1 rfl
            rw [List.length_map, hds.len] at hdv
            subst hdv
            have S6 := S5.task (s := (sn ^^^ fn : Nat)) (by have := turnI_len fn goal; rw [hg.len] at this; omega) (wf_i64_mk (by have := xor32 sn fn (by omega) (by omega); omega))
            have a0 : ∀ j, wr.cell? ⟨T, j, none⟩ = _ := S6.cells 1 rfl
            have HS6 := Lib.hid S6
            have hsz := S6.new 1 rfl
            clear M S5 S6
            go_wp2_with fail
            refine (taskValid_spec _ (turnT fn ⟨sn, goal, deeds⟩) _ (HS6.out.rdT 0 rfl)).mono ?_
            rintro e w9 ⟨rfl, hb9⟩
            have S9 := HS6.out.quiet hb9
            clear hb9 HS6 a0
            have HOKV : Hid (turnOk ⟨sn, goal, deeds⟩ fn = taskOk (turnT fn ⟨sn, goal, deeds⟩)) := Lib.hid (by unfold turnOk; rw [HOK.out, show stIn (fn : Int) = true from (stIn_iff _).2 ⟨by omega, by omega⟩]; rfl)
            have b0 : ∀ j, w9.cell? ⟨T, j, none⟩ = _ := S9.cells 1 rfl
            have r0 : ∀ j, w9.cell? ⟨w.heap.size + 1, j, none⟩ = _ := S9.cells 2 rfl
            have fr := S9.free 2 rfl
            have HS9 := Lib.hid S9
            clear S9
            obtain ⟨bt, hfin⟩ : ∃ b, taskOk (turnT fn ⟨sn, goal, deeds⟩) = b := ⟨_, rfl⟩
            rw [hfin]
            have HFIN := Lib.hid hfin
            clear hfin
            cases bt with
            | true =>
              go_wp2
              refine bodyPost_ret (v := .tuple #[.agg #[.int .i64 (sn ^^^ fn : Nat), .slice A2 (turnI fn goal).length c2, .slice Ad k cd], .bool true]) (by simp [results, Try.results25, go_sem, b0, r0]) rfl ⟨.agg #[.int .i64 (sn ^^^ fn : Nat), .slice A2 (turnI fn goal).length c2, .slice Ad k cd], by rw [HOKV.out, HFIN.out], ?_⟩
              rw [show taskTurned ⟨sn, goal, deeds⟩ fn = turnT fn ⟨sn, goal, deeds⟩ from if_pos (by rw [HOKV.out, HFIN.out])]
              exact (HS9.out.set3 2 rfl _ _ _).pick [0] (by decide) rfl rfl
            | false =>
              go_wp2
              refine bodyPost_ret (v := .tuple #[.agg #[.int .i64 0, .slice none 0 0, .slice none 0 0], .bool false]) (by simp [results, Try.results25, go_sem, r0]) rfl ⟨.agg #[.int .i64 0, .slice none 0 0, .slice none 0 0], by rw [HOKV.out, HFIN.out], ?_⟩
              rw [show taskTurned ⟨sn, goal, deeds⟩ fn = ⟨0, [], []⟩ from if_neg (by rw [HOKV.out, HFIN.out]; simp)]
              exact St.task0 (HS9.out.set3 2 rfl _ _ _).below
end Go.Proofs.Ytpcaagbmjhgnaaa
