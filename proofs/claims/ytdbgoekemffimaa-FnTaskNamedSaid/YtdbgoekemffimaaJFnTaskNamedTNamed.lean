/- TaskNamed of the program and of the reference: each returns one plain task, for every argument. -/
import Derived.Test.YtdbgoekemffimaaJFnTaskNamedNamed
namespace Go.Proofs.Ytdbgoekemffimaa
set_option linter.unusedVariables false
open Go.ChangeShapes Go.WideShapes Go.ChangeAt Go.RowKit
set_option maxRecDepth 100000 in
set_option maxHeartbeats 1000000 in
theorem taskNamed_impl (v : Value) (t : TaskD) (Ap : Option Addr) (np cp : Nat) (p : List Int) (w : World) (h : RdT w w.heap.size v t) (hp : RdI .i64 w w.heap.size Ap np cp p) :
    Calls Try.prog 40 #[v, .slice Ap np cp] w (Gives w id fun v => [rTask v (taskNamed t p)]) := by
  obtain ⟨A, n, c, A', n', c', rfl, hg, hgs, hds, hst⟩ := h
  obtain ⟨st, goal, deeds⟩ := t
  simp only at hg hds hst ⊢
  have S0 : St w ((w.alloc (Obj.cells #[.int .i64 st, .slice A n c, .slice A' n' c'] 26)).alloc (Obj.cells #[.int .i64 0, .slice none 0 0, .slice none 0 0] 26)) [rBlk w.heap.size 26 #[.int .i64 st, .slice A n c, .slice A' n' c'], rBlk (w.heap.size + 1) 26 #[.int .i64 0, .slice none 0 0, .slice none 0 0]] := by
    have := ((St.refl w).alloc #[.int .i64 st, .slice A n c, .slice A' n' c'] 26).alloc #[.int .i64 0, .slice none 0 0, .slice none 0 0] 26
    simpa using this
  have ht0 : RdT w w.heap.size (.agg #[.int .i64 st, .slice A n c, .slice A' n' c']) ⟨st, goal, deeds⟩ := ⟨A, n, c, A', n', c', rfl, hg, hgs, hds, hst⟩
  have HT0 := Lib.hid (ht0.up S0.below)
  have HP := Lib.hid hp
  have HP0 := Lib.hid (hp.up S0.below)
  have HPL := Lib.hid hp.len
  have hpc := hp.cap
  have hpm := hp.capMax
  unfold maxLen at hpm
  have HS0 := Lib.hid S0
  clear ht0 S0 hp
  obtain ⟨bo, hok⟩ : ∃ b, taskOk ⟨st, goal, deeds⟩ = b := ⟨_, rfl⟩
  obtain ⟨bp, hpo⟩ : ∃ b, permOk p = b := ⟨_, rfl⟩
  have HPO := Lib.hid hpo
  have HV : ¬ (taskOk ⟨st, goal, deeds⟩ = true ∧ permOk p = true ∧ p.length = 5) → taskNamed ⟨st, goal, deeds⟩ p = ⟨0, [], []⟩ := fun h => if_neg h
  cases bo with
  | false =>
    have HV := Lib.hid (HV (by rw [hok]; simp))
    have HOK := Lib.hid hok
    clear hok hpo
    go_enter Try.func40, Try.ntmps40
    go_wp2_with fail
    refine (taskValid_impl _ ⟨st, goal, deeds⟩ _ HT0.out).mono ?_
    rintro e w1 ⟨rfl, hb1⟩
    rw [HOK.out]
    have S1 := HS0.out.quiet hb1
    clear hb1
    have r0 : ∀ j, w1.cell? ⟨w.heap.size + 1, j, none⟩ = _ := S1.cells 1 rfl
    have fr := S1.free 1 rfl
    have HS1 := Lib.hid S1
    clear S1
    go_wp2
    refine bodyPost_ret (v := .agg #[.int .i64 0, .slice none 0 0, .slice none 0 0]) (by simp [results, Try.results40, go_sem, r0]) rfl ⟨.agg #[.int .i64 0, .slice none 0 0, .slice none 0 0], rfl, ?_⟩
    rw [HV.out]
    exact St.task0 (HS1.out.set3 1 rfl _ _ _).below
  | true =>
    by_cases h5 : np = 5
    case neg =>
      have HV := Lib.hid (HV (by rw [HPL.out]; simp [h5]))
      have HOK := Lib.hid hok
      have hne : ((np : Int) != 5) = true := by rw [bne_iff_ne]; omega
      clear hok hpo h5
      go_enter Try.func40, Try.ntmps40
      go_wp2_with fail
      refine (taskValid_impl _ ⟨st, goal, deeds⟩ _ HT0.out).mono ?_
      rintro e w1 ⟨rfl, hb1⟩
      rw [HOK.out]
      have S1 := HS0.out.quiet hb1
      clear hb1
      have r0 : ∀ j, w1.cell? ⟨w.heap.size + 1, j, none⟩ = _ := S1.cells 1 rfl
      have fr := S1.free 1 rfl
      have HS1 := Lib.hid S1
      clear S1
      go_wp2
      refine bodyPost_ret (v := .agg #[.int .i64 0, .slice none 0 0, .slice none 0 0]) (by simp [results, Try.results40, go_sem, r0]) rfl ⟨.agg #[.int .i64 0, .slice none 0 0, .slice none 0 0], rfl, ?_⟩
      rw [HV.out]
      exact St.task0 (HS1.out.set3 1 rfl _ _ _).below
    subst h5
    cases bp with
    | false =>
      have HV := Lib.hid (HV (by rw [hpo]; simp))
      have HOK := Lib.hid hok
      clear hok hpo
      go_enter Try.func40, Try.ntmps40
      go_wp2_with fail
      refine (taskValid_impl _ ⟨st, goal, deeds⟩ _ HT0.out).mono ?_
      rintro e w1 ⟨rfl, hb1⟩
      rw [HOK.out]
      have S1 := HS0.out.quiet hb1
      have HB1 := Lib.hid hb1
      clear hb1
      have r0 : ∀ j, w1.cell? ⟨w.heap.size + 1, j, none⟩ = _ := S1.cells 1 rfl
      have fr := S1.free 1 rfl
      have HS1 := Lib.hid S1
      clear S1
      go_wp2_with fail
      refine (permValid_impl Ap 5 cp p _ (HP0.out.up HB1.out)).mono ?_
      rintro e wq ⟨rfl, rfl⟩
      rw [HPO.out]
      go_wp2
      refine bodyPost_ret (v := .agg #[.int .i64 0, .slice none 0 0, .slice none 0 0]) (by simp [results, Try.results40, go_sem, r0]) rfl ⟨.agg #[.int .i64 0, .slice none 0 0, .slice none 0 0], rfl, ?_⟩
      rw [HV.out]
      exact St.task0 (HS1.out.set3 1 rfl _ _ _).below
    | true =>
      have HV : Hid (taskNamed ⟨st, goal, deeds⟩ p = ⟨setN p st.toNat, codeN p goal, deeds.map (deedN p)⟩) := Lib.hid (if_pos ⟨hok, hpo, HPL.out⟩)
      obtain ⟨hst0, hgok, hdl, hdok⟩ := taskOk_parts _ hok
      simp only at hst0 hgok hdl hdok
      obtain ⟨hst0, hst1⟩ := hst0
      have HGOK := Lib.hid hgok
      have hgl : n ≤ 40 := by rw [← hg.len]; exact ((codeOk_iff _).1 hgok).2.1
      obtain ⟨sn, rfl⟩ := Int.eq_ofNat_of_zero_le hst0
      have HOK := Lib.hid hok
      have HDOK := Lib.hid hdok
      clear hok hpo hgok hdok
      go_enter Try.func40, Try.ntmps40
      go_upto_region 3 with (first
        | (go_at_call 29; refine (taskValid_impl _ ⟨sn, goal, deeds⟩ _ HT0.out).mono ?_; rintro e w1 ⟨rfl, hb1⟩; rw [HOK.out])
        | (go_at_call 93; refine (permValid_impl Ap 5 cp p _ (HP0.out.up hb1)).mono ?_; rintro e wq ⟨rfl, rfl⟩; rw [HPO.out]))
      have S1 := HS0.out.quiet hb1
      clear hb1
      go_cut [5] (fun s5 wx => ∃ (T : Nat) (A2 : Option Addr) (c2 : Nat), s5 = .pointer (some ⟨T, 0, none⟩) ∧ St w wx [rBlk w.heap.size 26 #[.int .i64 sn, .slice A n c, .slice A' n' c'], rBlk (w.heap.size + 1) 26 #[.int .i64 0, .slice none 0 0, .slice none 0 0], rInts (.slice A2 (codeN p goal).length c2) (codeN p goal), rBlk T 26 #[.int .i64 (setN p sn : Nat), .slice A2 (codeN p goal).length c2, .slice none 0 0]])
      case first =>
        refine wp_reg (σ := Option Addr × Nat × Nat × Nat) (by kernel_rfl) (by kernel_rfl) (by kernel_rfl)
          (fun s i => match i with
            | 0 => .pointer (some ⟨w.heap.size, 0, none⟩)
            | 1 => .int .i64 sn
            | 2 => .slice Ap 5 cp
            | 3 => .int .i64 (setN p sn : Nat)
            | 4 => .pointer (some ⟨w.heap.size, 1, none⟩)
            | 5 => .slice A n c
            | 6 => .slice Ap 5 cp
            | 7 => .slice s.1 (codeN p goal).length s.2.1
            | 8 => .agg #[.int .i64 (setN p sn : Nat), .slice s.1 (codeN p goal).length s.2.1, .slice none 0 0]
            | 9 => .pointer (some ⟨s.2.2.1, 0, none⟩)
            | _ => undef)
          (fun D s wx => Sn w wx fun i => match i with
            | 0 => some (rBlk w.heap.size 26 #[.int .i64 sn, .slice A n c, .slice A' n' c'])
            | 1 => some (rBlk (w.heap.size + 1) 26 #[.int .i64 0, .slice none 0 0, .slice none 0 0])
            | 2 => if D 7 = true then some (rInts (.slice s.1 (codeN p goal).length s.2.1) (codeN p goal)) else none
            | 3 => if D 9 = true then some (rBlk s.2.2.1 26 (if D 10 = true then #[.int .i64 (setN p sn : Nat), .slice s.1 (codeN p goal).length s.2.1, .slice none 0 0] else #[.int .i64 0, .slice none 0 0, .slice none 0 0])) else none
            | _ => none)
          (none, 0, 0, 0) ?_ ?_ ?_
        · intro D hD
          refine ((Sn.of_st S1).quiet ((Below.refl _ _).drew)).congr fun i => ?_
          match i with
          | 0 => rfl
          | 1 => rfl
          | 2 => simp only [hD 7 (by decide)]; rfl
          | 3 => simp only [hD 9 (by decide)]; rfl
          | q + 4 => rfl
        · refine StepAll.cons (fun D s wx hR (hDi : D 0 = false) hd hsh a' hs K hK => ?_) ?_
          · have e2 := hs.old 2 (u := .pointer (some ⟨w.heap.size, 0, none⟩)) (by kernel_rfl) rfl
            clear hs
            go_simp
            exact hK s wx (fun _ _ => rfl) hR
          refine StepAll.cons (fun D s wx hR (hDi : D 1 = false) hd hsh a' hs K hK => ?_) ?_
          · have e22 := hs.at_ 0 22 (u := .pointer (some ⟨w.heap.size, 0, none⟩)) rfl (hd ⟨0, .data⟩ (by simp) rfl) (by kernel_rfl) (by kernel_rfl) rfl
            clear hs
            have kb : Blk wx (w.heap.size) 26 #[.int .i64 sn, .slice A n c, .slice A' n' c'] := hR.blk 0 rfl
            have c0 : wx.cell? ⟨w.heap.size, 0, none⟩ = some (.int .i64 sn) := kb.cell 0
            go_simp
            exact hK s wx (fun _ _ => rfl) hR
          refine StepAll.cons (fun D s wx hR (hDi : D 2 = false) hd hsh a' hs K hK => ?_) ?_
          · have e1 := hs.old 1 (u := .slice Ap 5 cp) (by kernel_rfl) rfl
            clear hs
            go_simp
            exact hK s wx (fun _ _ => rfl) hR
          refine StepAll.cons (fun D s wx hR (hDi : D 3 = false) hd hsh a' hs K hK => ?_) ?_
          · have e23 := hs.at_ 1 23 (u := .int .i64 sn) rfl (hd ⟨1, .data⟩ (by simp) rfl) (by kernel_rfl) (by kernel_rfl) rfl
            have e24 := hs.at_ 2 24 (u := .slice Ap 5 cp) rfl (hd ⟨2, .data⟩ (by simp) rfl) (by kernel_rfl) (by kernel_rfl) rfl
            have g23 := getQ e23
            have g24 := getQ e24
            clear hs
            go_simp
            refine (setNamed_any sn Ap 5 cp p _ (HP.out.up hR.below) (by omega) HPO.out rfl).mono ?_
            rintro e w2 ⟨rfl, rfl⟩
            exact hK s wx (fun _ _ => rfl) hR
          refine StepAll.cons (fun D s wx hR (hDi : D 4 = false) hd hsh a' hs K hK => ?_) ?_
          · have e2 := hs.old 2 (u := .pointer (some ⟨w.heap.size, 0, none⟩)) (by kernel_rfl) rfl
            clear hs
            go_simp
            exact hK s wx (fun _ _ => rfl) hR
          refine StepAll.cons (fun D s wx hR (hDi : D 5 = false) hd hsh a' hs K hK => ?_) ?_
          · have e26 := hs.at_ 4 26 (u := .pointer (some ⟨w.heap.size, 1, none⟩)) rfl (hd ⟨4, .data⟩ (by simp) rfl) (by kernel_rfl) (by kernel_rfl) rfl
            clear hs
            have kb : Blk wx (w.heap.size) 26 #[.int .i64 sn, .slice A n c, .slice A' n' c'] := hR.blk 0 rfl
            have c0 : wx.cell? ⟨w.heap.size, 1, none⟩ = some (.slice A n c) := kb.cell 1
            go_simp
            exact hK s wx (fun _ _ => rfl) hR
          refine StepAll.cons (fun D s wx hR (hDi : D 6 = false) hd hsh a' hs K hK => ?_) ?_
          · have e1 := hs.old 1 (u := .slice Ap 5 cp) (by kernel_rfl) rfl
            clear hs
            go_simp
            exact hK s wx (fun _ _ => rfl) hR
          refine StepAll.cons (fun D s wx hR (hDi : D 7 = false) hd hsh a' hs K hK => ?_) ?_
          · have e27 := hs.at_ 5 27 (u := .slice A n c) rfl (hd ⟨5, .data⟩ (by simp) rfl) (by kernel_rfl) (by kernel_rfl) rfl
            have e28 := hs.at_ 6 28 (u := .slice Ap 5 cp) rfl (hd ⟨6, .data⟩ (by simp) rfl) (by kernel_rfl) (by kernel_rfl) rfl
            have g27 := getQ e27
            have g28 := getQ e28
            clear hs
            have n8 : D 8 = false := hsh.no hDi 8 rfl ⟨7, .data⟩ (by simp) rfl rfl
            have n10 : D 10 = false := hsh.no n8 10 rfl ⟨8, .data⟩ (by simp) rfl rfl
            go_simp
            refine (codeNamed_any A n c goal Ap 5 cp p _ (hg.up hR.below) (HP.out.up hR.below) HGOK.out rfl).mono ?_
            rintro e w2 ⟨v2, rfl, s2⟩
            obtain ⟨A2, c2, hv, -⟩ := s2.rdI 0 rfl
            subst hv
            refine hK (A2, c2, s.2.2) w2
              (fun j hj => by
                match j, hj with
                | 0, hj => rfl
                | 1, hj => rfl
                | 2, hj => rfl
                | 3, hj => rfl
                | 4, hj => rfl
                | 5, hj => rfl
                | 6, hj => rfl
                | 7, hj => rw [hDi] at hj; cases hj
                | 8, hj => rw [n8] at hj; cases hj
                | 9, hj => rfl
                | 10, hj => rfl
                | _ + 11, hj => rfl)
              ((hR.add 2 (if_neg (by rw [hDi]; simp)) s2).congr
                (fun i => by
                  match i with
                  | 0 => rfl
                  | 1 => rfl
                  | 2 => rfl
                  | 3 => (show (if D 9 = true then some (rBlk _ _ (if D 10 = true then _ else _)) else none) = (if D 9 = true then some (rBlk _ _ (if D 10 = true then _ else _)) else none); rw [n10]; rfl)
                  | q + 4 => exact (if_neg (show ¬ (q + 4 = 2) by omega)).symm))
          refine StepAll.cons (fun D s wx hR (hDi : D 8 = false) hd hsh a' hs K hK => ?_) ?_
          · have e25 := hs.at_ 3 25 (u := .int .i64 (setN p sn : Nat)) rfl (hd ⟨3, .data⟩ (by simp) rfl) (by kernel_rfl) (by kernel_rfl) rfl
            have e29 := hs.at_ 7 29 (u := .slice s.1 (codeN p goal).length s.2.1) rfl (hd ⟨7, .data⟩ (by simp) rfl) (by kernel_rfl) (by kernel_rfl) rfl
            have g25 := getQ e25
            have g29 := getQ e29
            clear hs
            go_simp
            exact hK s wx (fun _ _ => rfl) hR
          refine StepAll.cons (fun D s wx hR (hDi : D 9 = false) hd hsh a' hs K hK => ?_) ?_
          · clear hs
            have n10 : D 10 = false := hsh.no hDi 10 rfl ⟨9, .data⟩ (by simp) rfl rfl
            go_simp
            refine hK (s.1, s.2.1, wx.heap.size, s.2.2.2) _
              (fun j hj => by
                match j, hj with
                | 0, hj => rfl
                | 1, hj => rfl
                | 2, hj => rfl
                | 3, hj => rfl
                | 4, hj => rfl
                | 5, hj => rfl
                | 6, hj => rfl
                | 7, hj => rfl
                | 8, hj => rfl
                | 9, hj => rw [hDi] at hj; cases hj
                | 10, hj => rfl
                | _ + 11, hj => rfl)
              ((hR.add 3 (if_neg (by rw [hDi]; simp)) (St.new1 wx #[.int .i64 0, .slice none 0 0, .slice none 0 0] 26)).congr
                (fun i => by
                  match i with
                  | 0 => rfl
                  | 1 => rfl
                  | 2 => rfl
                  | 3 => (show some (rBlk _ _ (if D 10 = true then _ else _)) = some (rBlk _ _ _); rw [n10]; rfl)
                  | q + 4 => exact (if_neg (show ¬ (q + 4 = 3) by omega)).symm))
          refine StepAll.cons (fun D s wx hR (hDi : D 10 = false) hd hsh a' hs K hK => ?_) ?_
          · have e5 := hs.at_ 9 5 (u := .pointer (some ⟨s.2.2.1, 0, none⟩)) rfl (hd ⟨9, .data⟩ (by simp) rfl) (by kernel_rfl) (by kernel_rfl) rfl
            have e30 := hs.at_ 8 30 (u := .agg #[.int .i64 (setN p sn : Nat), .slice s.1 (codeN p goal).length s.2.1, .slice none 0 0]) rfl (hd ⟨8, .data⟩ (by simp) rfl) (by kernel_rfl) (by kernel_rfl) rfl
            clear hs
            have dA : D 9 = true := hd ⟨9, .data⟩ (by simp) rfl
            have kb := hR.blk 3 (by simp only [dA, hDi]; rfl)
            have f0 := kb.frozen
            have c0 : wx.cell? ⟨s.2.2.1, 0, none⟩ = some (.int .i64 0) := kb.cell 0
            have c1 : wx.cell? ⟨s.2.2.1, 1, none⟩ = some (.slice none 0 0) := kb.cell 1
            have c2 : wx.cell? ⟨s.2.2.1, 2, none⟩ = some (.slice none 0 0) := kb.cell 2
            go_simp
            exact hK s _ (fun _ _ => rfl) ((hR.set3 3 (by simp only [dA, hDi]; rfl) _ _ _).congr
              (fun i => by
                match i with
                | 0 => rfl
                | 1 => rfl
                | 2 => rfl
                | 3 => (show (if D 9 = true then some (rBlk _ _ _) else none) = some (rBlk _ _ _); rw [dA]; rfl)
                | q + 4 => exact (if_neg (show ¬ (q + 4 = 3) by omega)).symm))
          exact StepAll.nil
        · intro D s wx hR hD
          simp only [putA, Act.put, List.setIfInBounds_toArray, List.set_cons_zero, List.set_cons_succ]
          go_wp2_with fail
          go_meet
          exact ⟨s.2.2.1, s.1, s.2.1, rfl, hR.to_st [0, 1, 2, 3] (by decide) (by simp only [List.map, hD 7 (by decide), hD 9 (by decide), hD 10 (by decide)]; rfl)⟩
      case rest =>
        obtain ⟨T, A2, c2, rfl, S2⟩ := hcut
        have S3 := (S2.call (rDeeds_nil _ _ (Below.refl _ _))).pick [4, 0, 1, 2, 3] (by decide) rfl rfl
        have M0 := Sn.of_st S3
        have t2 : wc.cell? ⟨w.heap.size, 2, none⟩ = some (.slice A' n' c') := (M0.blk 1 rfl).cell 2
        have HM0 := Lib.hid M0
        have HDL := Lib.hid hds.len
        clear S1 S2 S3 M0
        go_wp2
        go_loopw [34] (fun i wr => ∃ (k : Nat) (dv : Value), k ≤ n' ∧ i = .int .i64 k ∧ Sn w wr (fun q => match q with
          | 0 => some (rDeeds dv ((deeds.take k).map (deedN p)))
          | 1 => some (rBlk w.heap.size 26 #[.int .i64 sn, .slice A n c, .slice A' n' c'])
          | 2 => some (rBlk (w.heap.size + 1) 26 #[.int .i64 0, .slice none 0 0, .slice none 0 0])
          | 3 => some (rInts (.slice A2 (codeN p goal).length c2) (codeN p goal))
          | 4 => some (rBlk T 26 #[.int .i64 (setN p sn : Nat), .slice A2 (codeN p goal).length c2, dv])
          | _ => none)) (fun i _ => n' - (intOf i).toNat)
        case atStart =>
          refine ⟨0, .slice none 0 0, by omega, rfl, HM0.out.congr fun i => ?_⟩
          match i with
          | 0 => rfl
          | 1 => rfl
          | 2 => rfl
          | 3 => rfl
          | 4 => rfl
          | q + 5 => rfl
        case round =>
          obtain ⟨k, dv, hk, rfl, M⟩ := hrel
          have t2 : wr.cell? ⟨w.heap.size, 2, none⟩ = some (.slice A' n' c') := (M.blk 1 rfl).cell 2
          by_cases hlt : k < n'
          · obtain ⟨b, off, d, rfl, hb, hd, hda⟩ := hds.get hlt
            have hda' := hda.keep hb (bcells M.below)
            have hdok := HDOK.out d (List.mem_of_getElem? hd)
            obtain ⟨hnok, ⟨hon0, hon1⟩, ⟨hof0, hof1⟩, ⟨hfl0, hfl1⟩, -⟩ := deedOk_parts d hdok
            obtain ⟨need, on, of, fl⟩ := d
            simp only at hnok hon0 hon1 hof0 hof1 hfl0 hfl1
            obtain ⟨An, nn, cn, q0, q1, q2, q3, -, hnn, hw1, hw2, hw3⟩ := hda'
            obtain ⟨An', nn', cn', p0, p1, p2, p3, hneed, -⟩ := hda
            have hsame : Value.slice An' nn' cn' = .slice An nn cn := by
              have := (bcells M.below b (off + k * 4) hb).symm.trans q0
              rw [p0] at this
              injection this
            simp only [Value.slice.injEq] at hsame
            obtain ⟨rfl, rfl, rfl⟩ := hsame
            simp only at q1 q2 q3 hneed hw1 hw2 hw3
            obtain ⟨a, rfl⟩ := Int.eq_ofNat_of_zero_le hon0
            obtain ⟨o, rfl⟩ := Int.eq_ofNat_of_zero_le hof0
            obtain ⟨fl, rfl⟩ := Int.eq_ofNat_of_zero_le hfl0
            have HNOK := Lib.hid hnok
            have hn6 : n' ≤ 6 := by rw [← hds.len]; exact hdl
            have hnn40 : nn' ≤ 40 := by rw [← hneed.len]; exact ((codeOk_iff _).1 hnok).2.1
            have HD : Hid ((deeds.take (k + 1)).map (deedN p) = (deeds.take k).map (deedN p) ++ [deedN p ⟨need, a, o, fl⟩]) := Lib.hid (by
              obtain ⟨h1, h2⟩ := List.getElem?_eq_some_iff.1 hd
              rw [List.take_succ_eq_append_getElem h1, h2]; simp)
            have HTL : Hid (((deeds.take k).map (deedN p)).length = k) := Lib.hid (by rw [List.length_map, List.length_take, hds.len]; omega)
            have HWF : Hid ((codeN p need).length ≤ 1048576 ∧ (Lit.int .i64 (deedN p ⟨need, a, o, fl⟩).on).wf = true ∧ (Lit.int .i64 (deedN p ⟨need, a, o, fl⟩).off).wf = true ∧ (Lit.int .i64 (deedN p ⟨need, a, o, fl⟩).flip).wf = true) := Lib.hid (by
              have h1 : (codeN p need).length = need.length := by simp [codeN]
              have l1 := setN_lt p a
              have l2 := setN_lt p o
              have l3 := setN_lt p fl
              rw [hneed.len] at h1
              exact ⟨by omega, wf_i64_mk (by simp only [deedN, Int.toNat_natCast]; omega), wf_i64_mk (by simp only [deedN, Int.toNat_natCast]; omega), wf_i64_mk (by simp only [deedN, Int.toNat_natCast]; omega)⟩)
            clear hd hnok hdok p0 p1 p2 p3
            go_upto_region 7 with (fail)
            have M1 := M.add 5 rfl (St.new1 wr #[.slice An' nn' cn', .int .i64 a, .int .i64 o, .int .i64 fl] 44)
            obtain ⟨g8, hg8⟩ : ∃ g, wr.heap.size = g := ⟨_, rfl⟩
            rw [hg8] at M1 ⊢
            generalize wr.alloc (Obj.cells #[.slice An' nn' cn', .int .i64 a, .int .i64 o, .int .i64 fl] 44) = wd at M1 ⊢
            clear q0 q1 q2 q3 t2 hg8
            have M2 : Sn w wd (fun q => match q with
              | 0 => some (rDeeds dv ((deeds.take k).map (deedN p)))
              | 1 => some (rBlk w.heap.size 26 #[.int .i64 sn, .slice A n c, .slice (some ⟨b, off, none⟩) n' c'])
              | 2 => some (rBlk (w.heap.size + 1) 26 #[.int .i64 0, .slice none 0 0, .slice none 0 0])
              | 3 => some (rInts (.slice A2 (codeN p goal).length c2) (codeN p goal))
              | 4 => some (rBlk T 26 #[.int .i64 (setN p sn : Nat), .slice A2 (codeN p goal).length c2, dv])
              | 5 => some (rBlk g8 44 #[.slice An' nn' cn', .int .i64 a, .int .i64 o, .int .i64 fl])
              | _ => none) := M1.congr fun i => by
                match i with
                | 0 => rfl
                | 1 => rfl
                | 2 => rfl
                | 3 => rfl
                | 4 => rfl
                | 5 => rfl
                | q + 6 => exact (if_neg (show ¬ (q + 6 = 5) by omega)).symm
            clear M1
            refine wp_reg (σ := Option Addr × Nat × Nat × Option Addr × Nat) (by kernel_rfl) (by kernel_rfl) (by kernel_rfl)
              (fun s i => match i with
                | 0 => .pointer (some ⟨T, 2, none⟩)
                | 1 => dv
                | 2 => .pointer (some ⟨g8, 0, none⟩)
                | 3 => .slice An' nn' cn'
                | 4 => .slice Ap 5 cp
                | 5 => .slice s.1 (codeN p need).length s.2.1
                | 6 => .pointer (some ⟨g8, 1, none⟩)
                | 7 => .int .i64 a
                | 8 => .slice Ap 5 cp
                | 9 => .int .i64 (setN p a : Nat)
                | 10 => .pointer (some ⟨g8, 2, none⟩)
                | 11 => .int .i64 o
                | 12 => .slice Ap 5 cp
                | 13 => .int .i64 (setN p o : Nat)
                | 14 => .pointer (some ⟨g8, 3, none⟩)
                | 15 => .int .i64 fl
                | 16 => .slice Ap 5 cp
                | 17 => .int .i64 (setN p fl : Nat)
                | 18 => .agg #[.slice s.1 (codeN p need).length s.2.1, .int .i64 (setN p a : Nat), .int .i64 (setN p o : Nat), .int .i64 (setN p fl : Nat)]
                | 19 => .slice (some ⟨s.2.2.1, 0, none⟩) 1 1
                | 20 => .slice s.2.2.2.1 (k + 1) s.2.2.2.2
                | 21 => .pointer (some ⟨T, 2, none⟩)
                | _ => undef)
              (fun D s wx => Sn w wx fun i => match i with
                | 0 => some (rDeeds (if D 20 = true then .slice s.2.2.2.1 (k + 1) s.2.2.2.2 else dv) (if D 20 = true then (deeds.take k).map (deedN p) ++ [deedN p ⟨need, a, o, fl⟩] else (deeds.take k).map (deedN p)))
                | 1 => some (rBlk w.heap.size 26 #[.int .i64 sn, .slice A n c, .slice (some ⟨b, off, none⟩) n' c'])
                | 2 => some (rBlk (w.heap.size + 1) 26 #[.int .i64 0, .slice none 0 0, .slice none 0 0])
                | 3 => some (rInts (.slice A2 (codeN p goal).length c2) (codeN p goal))
                | 4 => some (rBlk T 26 (if D 22 = true then #[.int .i64 (setN p sn : Nat), .slice A2 (codeN p goal).length c2, .slice s.2.2.2.1 (k + 1) s.2.2.2.2] else #[.int .i64 (setN p sn : Nat), .slice A2 (codeN p goal).length c2, dv]))
                | 5 => some (rBlk g8 44 #[.slice An' nn' cn', .int .i64 a, .int .i64 o, .int .i64 fl])
                | 6 => if D 5 = true then (if D 20 = true then none else some (rInts (.slice s.1 (codeN p need).length s.2.1) (codeN p need))) else none
                | 7 => if D 19 = true then some (rBlk s.2.2.1 44 #[.slice s.1 (codeN p need).length s.2.1, .int .i64 (setN p a : Nat), .int .i64 (setN p o : Nat), .int .i64 (setN p fl : Nat)]) else none
                | _ => none)
              (none, 0, 0, none, 0) ?_ ?_ ?_
            · intro D hD
              refine (M2.quiet ((Below.refl _ _).drew)).congr fun i => ?_
              match i with
              | 0 => first | rfl | (simp only [hD 20 (by decide), hD 22 (by decide), hD 5 (by decide), hD 19 (by decide)]; done) | (simp only [hD 20 (by decide), hD 22 (by decide), hD 5 (by decide), hD 19 (by decide)]; rfl)
              | 1 => first | rfl | (simp only [hD 20 (by decide), hD 22 (by decide), hD 5 (by decide), hD 19 (by decide)]; done) | (simp only [hD 20 (by decide), hD 22 (by decide), hD 5 (by decide), hD 19 (by decide)]; rfl)
              | 2 => first | rfl | (simp only [hD 20 (by decide), hD 22 (by decide), hD 5 (by decide), hD 19 (by decide)]; done) | (simp only [hD 20 (by decide), hD 22 (by decide), hD 5 (by decide), hD 19 (by decide)]; rfl)
              | 3 => first | rfl | (simp only [hD 20 (by decide), hD 22 (by decide), hD 5 (by decide), hD 19 (by decide)]; done) | (simp only [hD 20 (by decide), hD 22 (by decide), hD 5 (by decide), hD 19 (by decide)]; rfl)
              | 4 => first | rfl | (simp only [hD 20 (by decide), hD 22 (by decide), hD 5 (by decide), hD 19 (by decide)]; done) | (simp only [hD 20 (by decide), hD 22 (by decide), hD 5 (by decide), hD 19 (by decide)]; rfl)
              | 5 => first | rfl | (simp only [hD 20 (by decide), hD 22 (by decide), hD 5 (by decide), hD 19 (by decide)]; done) | (simp only [hD 20 (by decide), hD 22 (by decide), hD 5 (by decide), hD 19 (by decide)]; rfl)
              | 6 => first | rfl | (simp only [hD 20 (by decide), hD 22 (by decide), hD 5 (by decide), hD 19 (by decide)]; done) | (simp only [hD 20 (by decide), hD 22 (by decide), hD 5 (by decide), hD 19 (by decide)]; rfl)
              | 7 => first | rfl | (simp only [hD 20 (by decide), hD 22 (by decide), hD 5 (by decide), hD 19 (by decide)]; done) | (simp only [hD 20 (by decide), hD 22 (by decide), hD 5 (by decide), hD 19 (by decide)]; rfl)
              | q + 8 => rfl
            · refine StepAll.cons (fun D s wx hR (hDi : D 0 = false) hd hsh a' hs K hK => ?_) ?_
              · have e5 := hs.old 5 (u := .pointer (some ⟨T, 0, none⟩)) (by kernel_rfl) rfl
                clear hs
                go_simp
                exact hK s wx (fun _ _ => rfl) hR
              refine StepAll.cons (fun D s wx hR (hDi : D 1 = false) hd hsh a' hs K hK => ?_) ?_
              · have e38 := hs.at_ 0 38 (u := .pointer (some ⟨T, 2, none⟩)) rfl (hd ⟨0, .data⟩ (by simp) rfl) (by kernel_rfl) (by kernel_rfl) rfl
                clear hs
                have n22 : D 22 = false := hsh.no hDi 22 rfl ⟨1, .phase⟩ (by simp) rfl rfl
                have kb : Blk wx (T) 26 #[.int .i64 (setN p sn : Nat), .slice A2 (codeN p goal).length c2, dv] := hR.blk 4 (by simp only [n22]; rfl)
                have c0 : wx.cell? ⟨T, 2, none⟩ = some (dv) := kb.cell 2
                go_simp
                exact hK s wx (fun _ _ => rfl) hR
              refine StepAll.cons (fun D s wx hR (hDi : D 2 = false) hd hsh a' hs K hK => ?_) ?_
              · have e7 := hs.old 7 (u := .pointer (some ⟨g8, 0, none⟩)) (by kernel_rfl) rfl
                clear hs
                go_simp
                exact hK s wx (fun _ _ => rfl) hR
              refine StepAll.cons (fun D s wx hR (hDi : D 3 = false) hd hsh a' hs K hK => ?_) ?_
              · have e40 := hs.at_ 2 40 (u := .pointer (some ⟨g8, 0, none⟩)) rfl (hd ⟨2, .data⟩ (by simp) rfl) (by kernel_rfl) (by kernel_rfl) rfl
                clear hs
                have kb : Blk wx (g8) 44 #[.slice An' nn' cn', .int .i64 a, .int .i64 o, .int .i64 fl] := hR.blk 5 rfl
                have c0 : wx.cell? ⟨g8, 0, none⟩ = some (.slice An' nn' cn') := kb.cell 0
                go_simp
                exact hK s wx (fun _ _ => rfl) hR
              refine StepAll.cons (fun D s wx hR (hDi : D 4 = false) hd hsh a' hs K hK => ?_) ?_
              · have e1 := hs.old 1 (u := .slice Ap 5 cp) (by kernel_rfl) rfl
                clear hs
                go_simp
                exact hK s wx (fun _ _ => rfl) hR
              refine StepAll.cons (fun D s wx hR (hDi : D 5 = false) hd hsh a' hs K hK => ?_) ?_
              · have e41 := hs.at_ 3 41 (u := .slice An' nn' cn') rfl (hd ⟨3, .data⟩ (by simp) rfl) (by kernel_rfl) (by kernel_rfl) rfl
                have e42 := hs.at_ 4 42 (u := .slice Ap 5 cp) rfl (hd ⟨4, .data⟩ (by simp) rfl) (by kernel_rfl) (by kernel_rfl) rfl
                have g41 := getQ e41
                have g42 := getQ e42
                clear hs
                have n18 : D 18 = false := hsh.no hDi 18 rfl ⟨5, .data⟩ (by simp) rfl rfl
                have n19 : D 19 = false := hsh.no n18 19 rfl ⟨18, .data⟩ (by simp) rfl rfl
                have n20 : D 20 = false := hsh.no n19 20 rfl ⟨19, .data⟩ (by simp) rfl rfl
                have n22 : D 22 = false := hsh.no n20 22 rfl ⟨20, .data⟩ (by simp) rfl rfl
                go_simp
                refine (codeNamed_any An' nn' cn' need Ap 5 cp p _ (hneed.up hR.below) (HP.out.up hR.below) HNOK.out rfl).mono ?_
                rintro e w2 ⟨v2, rfl, s2⟩
                obtain ⟨A3, c3, hv, -⟩ := s2.rdI 0 rfl
                subst hv
                refine hK (A3, c3, s.2.2) w2
                  (fun j hj => by
                    match j, hj with
                    | 0, hj => rfl
                    | 1, hj => rfl
                    | 2, hj => rfl
                    | 3, hj => rfl
                    | 4, hj => rfl
                    | 5, hj => rw [hDi] at hj; cases hj
                    | 6, hj => rfl
                    | 7, hj => rfl
                    | 8, hj => rfl
                    | 9, hj => rfl
                    | 10, hj => rfl
                    | 11, hj => rfl
                    | 12, hj => rfl
                    | 13, hj => rfl
                    | 14, hj => rfl
                    | 15, hj => rfl
                    | 16, hj => rfl
                    | 17, hj => rfl
                    | 18, hj => rw [n18] at hj; cases hj
                    | 19, hj => rfl
                    | 20, hj => rfl
                    | 21, hj => rfl
                    | 22, hj => rfl
                    | _ + 23, hj => rfl)
                  ((hR.add 6 (if_neg (by rw [hDi]; simp)) s2).congr
                    (fun i => by
                      match i with
                      | 0 => rfl
                      | 1 => rfl
                      | 2 => rfl
                      | 3 => rfl
                      | 4 => rfl
                      | 5 => rfl
                      | 6 => (show (if D 20 = true then none else some (rInts _ _)) = some (rInts _ _); rw [n20]; rfl)
                      | 7 => (show (if D 19 = true then some (rBlk _ _ _) else none) = (if D 19 = true then some (rBlk _ _ _) else none); rw [n19]; rfl)
                      | q + 8 => exact (if_neg (show ¬ (q + 8 = 6) by omega)).symm))
              refine StepAll.cons (fun D s wx hR (hDi : D 6 = false) hd hsh a' hs K hK => ?_) ?_
              · have e7 := hs.old 7 (u := .pointer (some ⟨g8, 0, none⟩)) (by kernel_rfl) rfl
                clear hs
                go_simp
                exact hK s wx (fun _ _ => rfl) hR
              refine StepAll.cons (fun D s wx hR (hDi : D 7 = false) hd hsh a' hs K hK => ?_) ?_
              · have e44 := hs.at_ 6 44 (u := .pointer (some ⟨g8, 1, none⟩)) rfl (hd ⟨6, .data⟩ (by simp) rfl) (by kernel_rfl) (by kernel_rfl) rfl
                clear hs
                have kb : Blk wx (g8) 44 #[.slice An' nn' cn', .int .i64 a, .int .i64 o, .int .i64 fl] := hR.blk 5 rfl
                have c0 : wx.cell? ⟨g8, 1, none⟩ = some (.int .i64 a) := kb.cell 1
                go_simp
                exact hK s wx (fun _ _ => rfl) hR
              refine StepAll.cons (fun D s wx hR (hDi : D 8 = false) hd hsh a' hs K hK => ?_) ?_
              · have e1 := hs.old 1 (u := .slice Ap 5 cp) (by kernel_rfl) rfl
                clear hs
                go_simp
                exact hK s wx (fun _ _ => rfl) hR
              refine StepAll.cons (fun D s wx hR (hDi : D 9 = false) hd hsh a' hs K hK => ?_) ?_
              · have e45 := hs.at_ 7 45 (u := .int .i64 a) rfl (hd ⟨7, .data⟩ (by simp) rfl) (by kernel_rfl) (by kernel_rfl) rfl
                have e46 := hs.at_ 8 46 (u := .slice Ap 5 cp) rfl (hd ⟨8, .data⟩ (by simp) rfl) (by kernel_rfl) (by kernel_rfl) rfl
                have g45 := getQ e45
                have g46 := getQ e46
                clear hs
                go_simp
                refine (setNamed_any a Ap 5 cp p _ (HP.out.up hR.below) (by omega) HPO.out rfl).mono ?_
                rintro e w2 ⟨rfl, rfl⟩
                exact hK s wx (fun _ _ => rfl) hR
              refine StepAll.cons (fun D s wx hR (hDi : D 10 = false) hd hsh a' hs K hK => ?_) ?_
              · have e7 := hs.old 7 (u := .pointer (some ⟨g8, 0, none⟩)) (by kernel_rfl) rfl
                clear hs
                go_simp
                exact hK s wx (fun _ _ => rfl) hR
              refine StepAll.cons (fun D s wx hR (hDi : D 11 = false) hd hsh a' hs K hK => ?_) ?_
              · have e48 := hs.at_ 10 48 (u := .pointer (some ⟨g8, 2, none⟩)) rfl (hd ⟨10, .data⟩ (by simp) rfl) (by kernel_rfl) (by kernel_rfl) rfl
                clear hs
                have kb : Blk wx (g8) 44 #[.slice An' nn' cn', .int .i64 a, .int .i64 o, .int .i64 fl] := hR.blk 5 rfl
                have c0 : wx.cell? ⟨g8, 2, none⟩ = some (.int .i64 o) := kb.cell 2
                go_simp
                exact hK s wx (fun _ _ => rfl) hR
              refine StepAll.cons (fun D s wx hR (hDi : D 12 = false) hd hsh a' hs K hK => ?_) ?_
              · have e1 := hs.old 1 (u := .slice Ap 5 cp) (by kernel_rfl) rfl
                clear hs
                go_simp
                exact hK s wx (fun _ _ => rfl) hR
              refine StepAll.cons (fun D s wx hR (hDi : D 13 = false) hd hsh a' hs K hK => ?_) ?_
              · have e49 := hs.at_ 11 49 (u := .int .i64 o) rfl (hd ⟨11, .data⟩ (by simp) rfl) (by kernel_rfl) (by kernel_rfl) rfl
                have e50 := hs.at_ 12 50 (u := .slice Ap 5 cp) rfl (hd ⟨12, .data⟩ (by simp) rfl) (by kernel_rfl) (by kernel_rfl) rfl
                have g49 := getQ e49
                have g50 := getQ e50
                clear hs
                go_simp
                refine (setNamed_any o Ap 5 cp p _ (HP.out.up hR.below) (by omega) HPO.out rfl).mono ?_
                rintro e w2 ⟨rfl, rfl⟩
                exact hK s wx (fun _ _ => rfl) hR
              refine StepAll.cons (fun D s wx hR (hDi : D 14 = false) hd hsh a' hs K hK => ?_) ?_
              · have e7 := hs.old 7 (u := .pointer (some ⟨g8, 0, none⟩)) (by kernel_rfl) rfl
                clear hs
                go_simp
                exact hK s wx (fun _ _ => rfl) hR
              refine StepAll.cons (fun D s wx hR (hDi : D 15 = false) hd hsh a' hs K hK => ?_) ?_
              · have e52 := hs.at_ 14 52 (u := .pointer (some ⟨g8, 3, none⟩)) rfl (hd ⟨14, .data⟩ (by simp) rfl) (by kernel_rfl) (by kernel_rfl) rfl
                clear hs
                have kb : Blk wx (g8) 44 #[.slice An' nn' cn', .int .i64 a, .int .i64 o, .int .i64 fl] := hR.blk 5 rfl
                have c0 : wx.cell? ⟨g8, 3, none⟩ = some (.int .i64 fl) := kb.cell 3
                go_simp
                exact hK s wx (fun _ _ => rfl) hR
              refine StepAll.cons (fun D s wx hR (hDi : D 16 = false) hd hsh a' hs K hK => ?_) ?_
              · have e1 := hs.old 1 (u := .slice Ap 5 cp) (by kernel_rfl) rfl
                clear hs
                go_simp
                exact hK s wx (fun _ _ => rfl) hR
              refine StepAll.cons (fun D s wx hR (hDi : D 17 = false) hd hsh a' hs K hK => ?_) ?_
              · have e53 := hs.at_ 15 53 (u := .int .i64 fl) rfl (hd ⟨15, .data⟩ (by simp) rfl) (by kernel_rfl) (by kernel_rfl) rfl
                have e54 := hs.at_ 16 54 (u := .slice Ap 5 cp) rfl (hd ⟨16, .data⟩ (by simp) rfl) (by kernel_rfl) (by kernel_rfl) rfl
                have g53 := getQ e53
                have g54 := getQ e54
                clear hs
                go_simp
                refine (setNamed_any fl Ap 5 cp p _ (HP.out.up hR.below) (by omega) HPO.out rfl).mono ?_
                rintro e w2 ⟨rfl, rfl⟩
                exact hK s wx (fun _ _ => rfl) hR
              refine StepAll.cons (fun D s wx hR (hDi : D 18 = false) hd hsh a' hs K hK => ?_) ?_
              · have e43 := hs.at_ 5 43 (u := .slice s.1 (codeN p need).length s.2.1) rfl (hd ⟨5, .data⟩ (by simp) rfl) (by kernel_rfl) (by kernel_rfl) rfl
                have e47 := hs.at_ 9 47 (u := .int .i64 (setN p a : Nat)) rfl (hd ⟨9, .data⟩ (by simp) rfl) (by kernel_rfl) (by kernel_rfl) rfl
                have e51 := hs.at_ 13 51 (u := .int .i64 (setN p o : Nat)) rfl (hd ⟨13, .data⟩ (by simp) rfl) (by kernel_rfl) (by kernel_rfl) rfl
                have e55 := hs.at_ 17 55 (u := .int .i64 (setN p fl : Nat)) rfl (hd ⟨17, .data⟩ (by simp) rfl) (by kernel_rfl) (by kernel_rfl) rfl
                have g43 := getQ e43
                have g47 := getQ e47
                have g51 := getQ e51
                have g55 := getQ e55
                clear hs
                go_simp
                exact hK s wx (fun _ _ => rfl) hR
              refine StepAll.cons (fun D s wx hR (hDi : D 19 = false) hd hsh a' hs K hK => ?_) ?_
              · have e56 := hs.at_ 18 56 (u := .agg #[.slice s.1 (codeN p need).length s.2.1, .int .i64 (setN p a : Nat), .int .i64 (setN p o : Nat), .int .i64 (setN p fl : Nat)]) rfl (hd ⟨18, .data⟩ (by simp) rfl) (by kernel_rfl) (by kernel_rfl) rfl
                have g56 := getQ e56
                clear hs
                have n20 : D 20 = false := hsh.no hDi 20 rfl ⟨19, .data⟩ (by simp) rfl rfl
                go_simp
                refine hK (s.1, s.2.1, wx.heap.size, s.2.2.2) _
                  (fun j hj => by
                    match j, hj with
                    | 0, hj => rfl
                    | 1, hj => rfl
                    | 2, hj => rfl
                    | 3, hj => rfl
                    | 4, hj => rfl
                    | 5, hj => rfl
                    | 6, hj => rfl
                    | 7, hj => rfl
                    | 8, hj => rfl
                    | 9, hj => rfl
                    | 10, hj => rfl
                    | 11, hj => rfl
                    | 12, hj => rfl
                    | 13, hj => rfl
                    | 14, hj => rfl
                    | 15, hj => rfl
                    | 16, hj => rfl
                    | 17, hj => rfl
                    | 18, hj => rfl
                    | 19, hj => rw [hDi] at hj; cases hj
                    | 20, hj => rfl
                    | 21, hj => rfl
                    | 22, hj => rfl
                    | _ + 23, hj => rfl)
                  ((hR.add 7 (if_neg (by rw [hDi]; simp)) (St.new1 wx #[.slice s.1 (codeN p need).length s.2.1, .int .i64 (setN p a : Nat), .int .i64 (setN p o : Nat), .int .i64 (setN p fl : Nat)] 44)).congr
                    (fun i => by
                      match i with
                      | 0 => rfl
                      | 1 => rfl
                      | 2 => rfl
                      | 3 => rfl
                      | 4 => rfl
                      | 5 => rfl
                      | 6 => rfl
                      | 7 => rfl
                      | q + 8 => exact (if_neg (show ¬ (q + 8 = 7) by omega)).symm))
              refine StepAll.cons (fun D s wx hR (hDi : D 20 = false) hd hsh a' hs K hK => ?_) ?_
              · have e39 := hs.at_ 1 39 (u := dv) rfl (hd ⟨1, .data⟩ (by simp) rfl) (by kernel_rfl) (by kernel_rfl) rfl
                have e57 := hs.at_ 19 57 (u := .slice (some ⟨s.2.2.1, 0, none⟩) 1 1) rfl (hd ⟨19, .data⟩ (by simp) rfl) (by kernel_rfl) (by kernel_rfl) rfl
                have g39 := getQ e39
                have g57 := getQ e57
                clear hs
                have n22 : D 22 = false := hsh.no hDi 22 rfl ⟨20, .data⟩ (by simp) rfl rfl
                have d27 : D 19 = true := hd ⟨19, .data⟩ (by simp) rfl
                have d26 : D 18 = true := hsh 19 _ rfl d27 ⟨18, .data⟩ (by simp) rfl
                have d5 : D 5 = true := hsh 18 _ rfl d26 ⟨5, .data⟩ (by simp) rfl
                obtain ⟨F, cells, Fs, ho, -⟩ := hR.deeds 0 (v := dv) (ds := (deeds.take k).map (deedN p)) (by simp only [hDi]; rfl)
                have kb : Blk wx s.2.2.1 44 #[.slice s.1 (codeN p need).length s.2.1, .int .i64 (setN p a : Nat), .int .i64 (setN p o : Nat), .int .i64 (setN p fl : Nat)] := hR.blk 7 (by simp only [d27]; rfl)
                refine wp_app1 elDeed (.tmp 39) (.tmp 57) rfl 0 dv _ cells e39 ho.row _ _ 1 1 [.slice s.1 (codeN p need).length s.2.1, .int .i64 (setN p a : Nat), .int .i64 (setN p o : Nat), .int .i64 (setN p fl : Nat)] e57 (RdRow.of_blk kb 4 1 rfl (by unfold maxLen; omega)) (by omega) (by simp [Value.oneCell']) (by rw [HTL.out]; omega) (by rw [HTL.out]; omega) (by omega) ?_
                intro v' w' hown hg hat
                obtain ⟨A4, c4, hv⟩ := own_form hown
                rw [HTL.out] at hv
                subst hv
                exact hK (s.1, s.2.1, s.2.2.1, A4, c4) w'
                  (fun j hj => by
                    match j, hj with
                    | 0, hj => rfl
                    | 1, hj => rfl
                    | 2, hj => rfl
                    | 3, hj => rfl
                    | 4, hj => rfl
                    | 5, hj => rfl
                    | 6, hj => rfl
                    | 7, hj => rfl
                    | 8, hj => rfl
                    | 9, hj => rfl
                    | 10, hj => rfl
                    | 11, hj => rfl
                    | 12, hj => rfl
                    | 13, hj => rfl
                    | 14, hj => rfl
                    | 15, hj => rfl
                    | 16, hj => rfl
                    | 17, hj => rfl
                    | 18, hj => rfl
                    | 19, hj => rfl
                    | 20, hj => rw [hDi] at hj; cases hj
                    | 21, hj => rfl
                    | 22, hj => rfl
                    | _ + 23, hj => rfl)
                  ((hR.push 0 6 (by decide) (v := dv) (nv := .slice s.1 (codeN p need).length s.2.1) (ds := (deeds.take k).map (deedN p)) (d := deedN p ⟨need, a, o, fl⟩) (by simp only [hDi]; rfl) (by simp only [d5, hDi]; rfl) HWF.out.1 HWF.out.2 (by rw [HTL.out]; omega) rfl ho.row hown hg hat).congr
                    (fun i => by
                      match i with
                      | 0 => rfl
                      | 1 => rfl
                      | 2 => rfl
                      | 3 => rfl
                      | 4 => (show some (rBlk _ _ (if D 22 = true then _ else _)) = some (rBlk _ _ (if D 22 = true then _ else _)); rw [n22]; rfl)
                      | 5 => rfl
                      | 6 => (show (if D 5 = true then none else none) = none; rw [d5]; rfl)
                      | 7 => rfl
                      | q + 8 => exact ((if_neg (show ¬ (q + 8 = 0) by omega)).trans (if_neg (show ¬ (q + 8 = 6) by omega))).symm))
              refine StepAll.cons (fun D s wx hR (hDi : D 21 = false) hd hsh a' hs K hK => ?_) ?_
              · have e5 := hs.old 5 (u := .pointer (some ⟨T, 0, none⟩)) (by kernel_rfl) rfl
                clear hs
                go_simp
                exact hK s wx (fun _ _ => rfl) hR
              refine StepAll.cons (fun D s wx hR (hDi : D 22 = false) hd hsh a' hs K hK => ?_) ?_
              · have e59 := hs.at_ 21 59 (u := .pointer (some ⟨T, 2, none⟩)) rfl (hd ⟨21, .data⟩ (by simp) rfl) (by kernel_rfl) (by kernel_rfl) rfl
                have e58 := hs.at_ 20 58 (u := .slice s.2.2.2.1 (k + 1) s.2.2.2.2) rfl (hd ⟨20, .data⟩ (by simp) rfl) (by kernel_rfl) (by kernel_rfl) rfl
                clear hs
                have kb : Blk wx T 26 #[.int .i64 (setN p sn : Nat), .slice A2 (codeN p goal).length c2, dv] := hR.blk 4 (by simp only [hDi]; rfl)
                have f0 := kb.frozen
                have c2' : wx.cell? ⟨T, 2, none⟩ = some dv := kb.cell 2
                go_simp
                exact hK s _ (fun _ _ => rfl) ((hR.set 4 (cs := #[.int .i64 (setN p sn : Nat), .slice A2 (codeN p goal).length c2, dv]) (by simp only [hDi]; rfl) 2 _).congr
                  (fun i => by
                    match i with
                    | 0 => rfl
                    | 1 => rfl
                    | 2 => rfl
                    | 3 => rfl
                    | 4 => rfl
                    | 5 => rfl
                    | 6 => rfl
                    | 7 => rfl
                    | q + 8 => exact (if_neg (show ¬ (q + 8 = 4) by omega)).symm))
              exact StepAll.nil
            · intro D s wx hR hD
              simp only [putA, Act.put, List.setIfInBounds_toArray, List.set_cons_zero, List.set_cons_succ]
              go_wp2
              go_roundw
              case rel =>
                refine ⟨k + 1, .slice s.2.2.2.1 (k + 1) s.2.2.2.2, by omega, by go_num, (((hR.drop 5).drop 7).congr fun i => ?_)⟩
                match i with
                | 0 => first | rfl | (simp only [hD 20 (by decide), hD 22 (by decide), hD 5 (by decide), hD 19 (by decide)]; first | done | rfl | (rw [HD.out]; rfl)) | (rw [HD.out]; simp only [hD 20 (by decide), hD 22 (by decide), hD 5 (by decide), hD 19 (by decide)]; first | done | rfl)
                | 1 => first | rfl | (simp only [hD 20 (by decide), hD 22 (by decide), hD 5 (by decide), hD 19 (by decide)]; first | done | rfl | (rw [HD.out]; rfl)) | (rw [HD.out]; simp only [hD 20 (by decide), hD 22 (by decide), hD 5 (by decide), hD 19 (by decide)]; first | done | rfl)
                | 2 => first | rfl | (simp only [hD 20 (by decide), hD 22 (by decide), hD 5 (by decide), hD 19 (by decide)]; first | done | rfl | (rw [HD.out]; rfl)) | (rw [HD.out]; simp only [hD 20 (by decide), hD 22 (by decide), hD 5 (by decide), hD 19 (by decide)]; first | done | rfl)
                | 3 => first | rfl | (simp only [hD 20 (by decide), hD 22 (by decide), hD 5 (by decide), hD 19 (by decide)]; first | done | rfl | (rw [HD.out]; rfl)) | (rw [HD.out]; simp only [hD 20 (by decide), hD 22 (by decide), hD 5 (by decide), hD 19 (by decide)]; first | done | rfl)
                | 4 => first | rfl | (simp only [hD 20 (by decide), hD 22 (by decide), hD 5 (by decide), hD 19 (by decide)]; first | done | rfl | (rw [HD.out]; rfl)) | (rw [HD.out]; simp only [hD 20 (by decide), hD 22 (by decide), hD 5 (by decide), hD 19 (by decide)]; first | done | rfl)
                | 5 => first | rfl | (simp only [hD 20 (by decide), hD 22 (by decide), hD 5 (by decide), hD 19 (by decide)]; first | done | rfl | (rw [HD.out]; rfl)) | (rw [HD.out]; simp only [hD 20 (by decide), hD 22 (by decide), hD 5 (by decide), hD 19 (by decide)]; first | done | rfl)
                | 6 => first | rfl | (simp only [hD 20 (by decide), hD 22 (by decide), hD 5 (by decide), hD 19 (by decide)]; first | done | rfl | (rw [HD.out]; rfl)) | (rw [HD.out]; simp only [hD 20 (by decide), hD 22 (by decide), hD 5 (by decide), hD 19 (by decide)]; first | done | rfl)
                | 7 => first | rfl | (simp only [hD 20 (by decide), hD 22 (by decide), hD 5 (by decide), hD 19 (by decide)]; first | done | rfl | (rw [HD.out]; rfl)) | (rw [HD.out]; simp only [hD 20 (by decide), hD 22 (by decide), hD 5 (by decide), hD 19 (by decide)]; first | done | rfl)
                | q + 8 => simp
              case measure => simp [intOf]; omega
          · have hkn : k = n' := by omega
            subst hkn
            have HTK : Hid (deeds.take k = deeds) := Lib.hid (by rw [← hds.len, List.take_length])
            have S5 := M.to_st (L := [rInts (.slice A2 (codeN p goal).length c2) (codeN p goal), rDeeds dv (deeds.map (deedN p)), rBlk T 26 #[.int .i64 (setN p sn : Nat), .slice A2 (codeN p goal).length c2, dv], rBlk (w.heap.size + 1) 26 #[.int .i64 0, .slice none 0 0, .slice none 0 0]]) [3, 0, 4, 2] (by decide) (by
              simp only [List.map]; rw [HTK.out])
            obtain ⟨Ad, cd, hdv, -⟩ := S5.rdDs 1 rfl
            rw [List.length_map, hds.len] at hdv
            subst hdv
            have S6 := S5.task (s := (setN p sn : Nat)) (by have h1 : (codeN p goal).length = goal.length := by simp [codeN]
                                                            rw [hg.len] at h1; omega) (wf_i64_mk (by have := setN_lt p sn; omega))
            have a0 : ∀ j, wr.cell? ⟨T, j, none⟩ = _ := S6.cells 1 rfl
            have r0 : ∀ j, wr.cell? ⟨w.heap.size + 1, j, none⟩ = _ := S6.cells 2 rfl
            have fr := S6.free 2 rfl
            have HS6 := Lib.hid S6
            clear M S5 S6
            go_wp2
            refine bodyPost_ret (v := .agg #[.int .i64 (setN p sn : Nat), .slice A2 (codeN p goal).length c2, .slice Ad k cd]) (by simp [results, Try.results40, go_sem, r0, a0]) rfl ⟨.agg #[.int .i64 (setN p sn : Nat), .slice A2 (codeN p goal).length c2, .slice Ad k cd], rfl, ?_⟩
            rw [HV.out]
            exact (HS6.out.set3 2 rfl _ _ _).pick [0] (by decide) rfl rfl
set_option maxRecDepth 100000 in
set_option maxHeartbeats 1000000 in
theorem taskNamed_spec (v : Value) (t : TaskD) (Ap : Option Addr) (np cp : Nat) (p : List Int) (w : World) (h : RdT w w.heap.size v t) (hp : RdI .i64 w w.heap.size Ap np cp p) :
    Calls Try.prog 41 #[v, .slice Ap np cp] w (Gives w id fun v => [rTask v (taskNamed t p)]) := by
  obtain ⟨A, n, c, A', n', c', rfl, hg, hgs, hds, hst⟩ := h
  obtain ⟨st, goal, deeds⟩ := t
  simp only at hg hds hst ⊢
  have S0 : St w ((w.alloc (Obj.cells #[.int .i64 st, .slice A n c, .slice A' n' c'] 26)).alloc (Obj.cells #[.int .i64 0, .slice none 0 0, .slice none 0 0] 26)) [rBlk w.heap.size 26 #[.int .i64 st, .slice A n c, .slice A' n' c'], rBlk (w.heap.size + 1) 26 #[.int .i64 0, .slice none 0 0, .slice none 0 0]] := by
    have := ((St.refl w).alloc #[.int .i64 st, .slice A n c, .slice A' n' c'] 26).alloc #[.int .i64 0, .slice none 0 0, .slice none 0 0] 26
    simpa using this
  have ht0 : RdT w w.heap.size (.agg #[.int .i64 st, .slice A n c, .slice A' n' c']) ⟨st, goal, deeds⟩ := ⟨A, n, c, A', n', c', rfl, hg, hgs, hds, hst⟩
  have HT0 := Lib.hid (ht0.up S0.below)
  have HP := Lib.hid hp
  have HP0 := Lib.hid (hp.up S0.below)
  have HPL := Lib.hid hp.len
  have hpc := hp.cap
  have hpm := hp.capMax
  unfold maxLen at hpm
  have HS0 := Lib.hid S0
  clear ht0 S0 hp
  obtain ⟨bo, hok⟩ : ∃ b, taskOk ⟨st, goal, deeds⟩ = b := ⟨_, rfl⟩
  obtain ⟨bp, hpo⟩ : ∃ b, permOk p = b := ⟨_, rfl⟩
  have HPO := Lib.hid hpo
  have HV : ¬ (taskOk ⟨st, goal, deeds⟩ = true ∧ permOk p = true ∧ p.length = 5) → taskNamed ⟨st, goal, deeds⟩ p = ⟨0, [], []⟩ := fun h => if_neg h
  cases bo with
  | false =>
    have HV := Lib.hid (HV (by rw [hok]; simp))
    have HOK := Lib.hid hok
    clear hok hpo
    go_enter Try.func41, Try.ntmps41
    go_wp2_with fail
    refine (taskValid_spec _ ⟨st, goal, deeds⟩ _ HT0.out).mono ?_
    rintro e w1 ⟨rfl, hb1⟩
    rw [HOK.out]
    have S1 := HS0.out.quiet hb1
    clear hb1
    have r0 : ∀ j, w1.cell? ⟨w.heap.size + 1, j, none⟩ = _ := S1.cells 1 rfl
    have fr := S1.free 1 rfl
    have HS1 := Lib.hid S1
    clear S1
    go_wp2
    refine bodyPost_ret (v := .agg #[.int .i64 0, .slice none 0 0, .slice none 0 0]) (by simp [results, Try.results41, go_sem, r0]) rfl ⟨.agg #[.int .i64 0, .slice none 0 0, .slice none 0 0], rfl, ?_⟩
    rw [HV.out]
    exact St.task0 (HS1.out.set3 1 rfl _ _ _).below
  | true =>
    cases bp with
    | false =>
      have HV := Lib.hid (HV (by rw [hpo]; simp))
      have HOK := Lib.hid hok
      clear hok hpo
      go_enter Try.func41, Try.ntmps41
      go_wp2_with fail
      refine (taskValid_spec _ ⟨st, goal, deeds⟩ _ HT0.out).mono ?_
      rintro e w1 ⟨rfl, hb1⟩
      rw [HOK.out]
      go_wp2_with fail
      refine (permValid_spec Ap np cp p _ (HP0.out.up hb1)).mono ?_
      rintro e wq ⟨rfl, hbq⟩
      rw [HPO.out]
      have S1 := (HS0.out.quiet hb1).quiet hbq
      clear hb1 hbq
      have r0 : ∀ j, wq.cell? ⟨w.heap.size + 1, j, none⟩ = _ := S1.cells 1 rfl
      have fr := S1.free 1 rfl
      have HS1 := Lib.hid S1
      clear S1
      go_wp2
      refine bodyPost_ret (v := .agg #[.int .i64 0, .slice none 0 0, .slice none 0 0]) (by simp [results, Try.results41, go_sem, r0]) rfl ⟨.agg #[.int .i64 0, .slice none 0 0, .slice none 0 0], rfl, ?_⟩
      rw [HV.out]
      exact St.task0 (HS1.out.set3 1 rfl _ _ _).below
    | true =>
      by_cases h5 : np = 5
      case neg =>
        have HV := Lib.hid (HV (by rw [HPL.out]; simp [h5]))
        have HOK := Lib.hid hok
        have hne : ((np : Int) != 5) = true := by rw [bne_iff_ne]; omega
        clear hok hpo h5
        go_enter Try.func41, Try.ntmps41
        go_wp2_with fail
        refine (taskValid_spec _ ⟨st, goal, deeds⟩ _ HT0.out).mono ?_
        rintro e w1 ⟨rfl, hb1⟩
        rw [HOK.out]
        go_wp2_with fail
        refine (permValid_spec Ap np cp p _ (HP0.out.up hb1)).mono ?_
        rintro e wq ⟨rfl, hbq⟩
        rw [HPO.out]
        have S1 := (HS0.out.quiet hb1).quiet hbq
        clear hb1 hbq
        have r0 : ∀ j, wq.cell? ⟨w.heap.size + 1, j, none⟩ = _ := S1.cells 1 rfl
        have fr := S1.free 1 rfl
        have HS1 := Lib.hid S1
        clear S1
        go_wp2
        refine bodyPost_ret (v := .agg #[.int .i64 0, .slice none 0 0, .slice none 0 0]) (by simp [results, Try.results41, go_sem, r0]) rfl ⟨.agg #[.int .i64 0, .slice none 0 0, .slice none 0 0], rfl, ?_⟩
        rw [HV.out]
        exact St.task0 (HS1.out.set3 1 rfl _ _ _).below
      subst h5
      have HV : Hid (taskNamed ⟨st, goal, deeds⟩ p = ⟨setN p st.toNat, codeN p goal, deeds.map (deedN p)⟩) := Lib.hid (if_pos ⟨hok, hpo, HPL.out⟩)
      obtain ⟨hst0, hgok, hdl, hdok⟩ := taskOk_parts _ hok
      simp only at hst0 hgok hdl hdok
      obtain ⟨hst0, hst1⟩ := hst0
      have HGOK := Lib.hid hgok
      have hgl : n ≤ 40 := by rw [← hg.len]; exact ((codeOk_iff _).1 hgok).2.1
      obtain ⟨sn, rfl⟩ := Int.eq_ofNat_of_zero_le hst0
      have HOK := Lib.hid hok
      have HDOK := Lib.hid hdok
      clear hok hpo hgok hdok
      go_enter Try.func41, Try.ntmps41
      go_upto_region 3 with (first
        | (go_at_call 54; refine (taskValid_spec _ ⟨sn, goal, deeds⟩ _ HT0.out).mono ?_; rintro e w1 ⟨rfl, hb1⟩; rw [HOK.out])
        | (go_at_call 96; refine (permValid_spec Ap 5 cp p _ (HP0.out.up hb1)).mono ?_; rintro e wq ⟨rfl, hbq⟩; rw [HPO.out]))
      have S1 := (HS0.out.quiet hb1).quiet hbq
      clear hb1
      go_cut [5] (fun s5 wx => ∃ (T : Nat) (A2 : Option Addr) (c2 : Nat) (D8 : Nat), s5 = .pointer (some ⟨T, 0, none⟩) ∧ St w wx [rBlk w.heap.size 26 #[.int .i64 sn, .slice A n c, .slice A' n' c'], rBlk (w.heap.size + 1) 26 #[.int .i64 0, .slice none 0 0, .slice none 0 0], rInts (.slice A2 (codeN p goal).length c2) (codeN p goal), rBlk T 26 #[.int .i64 (setN p sn : Nat), .slice A2 (codeN p goal).length c2, .slice (some ⟨D8, 0, none⟩) 0 0], rBlk D8 44 #[]])
      case first =>
        refine wp_reg (σ := Option Addr × Nat × Nat × Nat) (by kernel_rfl) (by kernel_rfl) (by kernel_rfl)
          (fun s i => match i with
            | 0 => .pointer (some ⟨w.heap.size, 0, none⟩)
            | 1 => .int .i64 sn
            | 2 => .slice Ap 5 cp
            | 3 => .int .i64 (setN p sn : Nat)
            | 4 => .pointer (some ⟨w.heap.size, 1, none⟩)
            | 5 => .slice A n c
            | 6 => .slice Ap 5 cp
            | 7 => .slice s.1 (codeN p goal).length s.2.1
            | 8 => .slice (some ⟨s.2.2.2, 0, none⟩) 0 0
            | 9 => .agg #[.int .i64 (setN p sn : Nat), .slice s.1 (codeN p goal).length s.2.1, .slice (some ⟨s.2.2.2, 0, none⟩) 0 0]
            | 10 => .pointer (some ⟨s.2.2.1, 0, none⟩)
            | _ => undef)
          (fun D s wx => Sn w wx fun i => match i with
            | 0 => some (rBlk w.heap.size 26 #[.int .i64 sn, .slice A n c, .slice A' n' c'])
            | 1 => some (rBlk (w.heap.size + 1) 26 #[.int .i64 0, .slice none 0 0, .slice none 0 0])
            | 2 => if D 7 = true then some (rInts (.slice s.1 (codeN p goal).length s.2.1) (codeN p goal)) else none
            | 3 => if D 10 = true then some (rBlk s.2.2.1 26 (if D 11 = true then #[.int .i64 (setN p sn : Nat), .slice s.1 (codeN p goal).length s.2.1, .slice (some ⟨s.2.2.2, 0, none⟩) 0 0] else #[.int .i64 0, .slice none 0 0, .slice none 0 0])) else none
            | 4 => if D 8 = true then some (rBlk s.2.2.2 44 #[]) else none
            | _ => none)
          (none, 0, 0, 0) ?_ ?_ ?_
        · intro D hD
          refine ((Sn.of_st S1).quiet ((Below.refl _ _).drew)).congr fun i => ?_
          match i with
          | 0 => rfl
          | 1 => rfl
          | 2 => simp only [hD 7 (by decide)]; rfl
          | 3 => simp only [hD 10 (by decide)]; rfl
          | 4 => simp only [hD 8 (by decide)]; rfl
          | q + 5 => rfl
        · refine StepAll.cons (fun D s wx hR (hDi : D 0 = false) hd hsh a' hs K hK => ?_) ?_
          · have e2 := hs.old 2 (u := .pointer (some ⟨w.heap.size, 0, none⟩)) (by kernel_rfl) rfl
            clear hs
            go_simp
            exact hK s wx (fun _ _ => rfl) hR
          refine StepAll.cons (fun D s wx hR (hDi : D 1 = false) hd hsh a' hs K hK => ?_) ?_
          · have e22 := hs.at_ 0 22 (u := .pointer (some ⟨w.heap.size, 0, none⟩)) rfl (hd ⟨0, .data⟩ (by simp) rfl) (by kernel_rfl) (by kernel_rfl) rfl
            clear hs
            have kb : Blk wx (w.heap.size) 26 #[.int .i64 sn, .slice A n c, .slice A' n' c'] := hR.blk 0 rfl
            have c0 : wx.cell? ⟨w.heap.size, 0, none⟩ = some (.int .i64 sn) := kb.cell 0
            go_simp
            exact hK s wx (fun _ _ => rfl) hR
          refine StepAll.cons (fun D s wx hR (hDi : D 2 = false) hd hsh a' hs K hK => ?_) ?_
          · have e1 := hs.old 1 (u := .slice Ap 5 cp) (by kernel_rfl) rfl
            clear hs
            go_simp
            exact hK s wx (fun _ _ => rfl) hR
          refine StepAll.cons (fun D s wx hR (hDi : D 3 = false) hd hsh a' hs K hK => ?_) ?_
          · have e23 := hs.at_ 1 23 (u := .int .i64 sn) rfl (hd ⟨1, .data⟩ (by simp) rfl) (by kernel_rfl) (by kernel_rfl) rfl
            have e24 := hs.at_ 2 24 (u := .slice Ap 5 cp) rfl (hd ⟨2, .data⟩ (by simp) rfl) (by kernel_rfl) (by kernel_rfl) rfl
            have g23 := getQ e23
            have g24 := getQ e24
            clear hs
            go_simp
            refine (l9Moved_any sn Ap 5 cp p _ (HP.out.up hR.below) (by omega) HPO.out rfl).mono ?_
            rintro e w2 ⟨rfl, hb2⟩
            exact hK s w2 (fun _ _ => rfl) (hR.quiet hb2)
          refine StepAll.cons (fun D s wx hR (hDi : D 4 = false) hd hsh a' hs K hK => ?_) ?_
          · have e2 := hs.old 2 (u := .pointer (some ⟨w.heap.size, 0, none⟩)) (by kernel_rfl) rfl
            clear hs
            go_simp
            exact hK s wx (fun _ _ => rfl) hR
          refine StepAll.cons (fun D s wx hR (hDi : D 5 = false) hd hsh a' hs K hK => ?_) ?_
          · have e26 := hs.at_ 4 26 (u := .pointer (some ⟨w.heap.size, 1, none⟩)) rfl (hd ⟨4, .data⟩ (by simp) rfl) (by kernel_rfl) (by kernel_rfl) rfl
            clear hs
            have kb : Blk wx (w.heap.size) 26 #[.int .i64 sn, .slice A n c, .slice A' n' c'] := hR.blk 0 rfl
            have c0 : wx.cell? ⟨w.heap.size, 1, none⟩ = some (.slice A n c) := kb.cell 1
            go_simp
            exact hK s wx (fun _ _ => rfl) hR
          refine StepAll.cons (fun D s wx hR (hDi : D 6 = false) hd hsh a' hs K hK => ?_) ?_
          · have e1 := hs.old 1 (u := .slice Ap 5 cp) (by kernel_rfl) rfl
            clear hs
            go_simp
            exact hK s wx (fun _ _ => rfl) hR
          refine StepAll.cons (fun D s wx hR (hDi : D 7 = false) hd hsh a' hs K hK => ?_) ?_
          · have e27 := hs.at_ 5 27 (u := .slice A n c) rfl (hd ⟨5, .data⟩ (by simp) rfl) (by kernel_rfl) (by kernel_rfl) rfl
            have e28 := hs.at_ 6 28 (u := .slice Ap 5 cp) rfl (hd ⟨6, .data⟩ (by simp) rfl) (by kernel_rfl) (by kernel_rfl) rfl
            have g27 := getQ e27
            have g28 := getQ e28
            clear hs
            have n9 : D 9 = false := hsh.no hDi 9 rfl ⟨7, .data⟩ (by simp) rfl rfl
            have n11 : D 11 = false := hsh.no n9 11 rfl ⟨9, .data⟩ (by simp) rfl rfl
            go_simp
            refine (l9Code_any A n c goal Ap 5 cp p _ (hg.up hR.below) (HP.out.up hR.below) HGOK.out rfl).mono ?_
            rintro e w2 ⟨v2, rfl, s2⟩
            obtain ⟨A2, c2, hv, -⟩ := s2.rdI 0 rfl
            subst hv
            refine hK (A2, c2, s.2.2) w2
              (fun j hj => by
                match j, hj with
                | 0, hj => rfl
                | 1, hj => rfl
                | 2, hj => rfl
                | 3, hj => rfl
                | 4, hj => rfl
                | 5, hj => rfl
                | 6, hj => rfl
                | 7, hj => rw [hDi] at hj; cases hj
                | 8, hj => rfl
                | 9, hj => rw [n9] at hj; cases hj
                | 10, hj => rfl
                | 11, hj => rfl
                | _ + 12, hj => rfl)
              ((hR.add 2 (if_neg (by rw [hDi]; simp)) s2).congr
                (fun i => by
                  match i with
                  | 0 => rfl
                  | 1 => rfl
                  | 2 => rfl
                  | 3 => (show (if D 10 = true then some (rBlk _ _ (if D 11 = true then _ else _)) else none) = (if D 10 = true then some (rBlk _ _ (if D 11 = true then _ else _)) else none); rw [n11]; rfl)
                  | 4 => rfl
                  | q + 5 => exact (if_neg (show ¬ (q + 5 = 2) by omega)).symm))
          refine StepAll.cons (fun D s wx hR (hDi : D 8 = false) hd hsh a' hs K hK => ?_) ?_
          · clear hs
            have n9 : D 9 = false := hsh.no hDi 9 rfl ⟨8, .data⟩ (by simp) rfl rfl
            have n11 : D 11 = false := hsh.no n9 11 rfl ⟨9, .data⟩ (by simp) rfl rfl
            go_simp
            refine hK (s.1, s.2.1, s.2.2.1, wx.heap.size) _
              (fun j hj => by
                match j, hj with
                | 0, hj => rfl
                | 1, hj => rfl
                | 2, hj => rfl
                | 3, hj => rfl
                | 4, hj => rfl
                | 5, hj => rfl
                | 6, hj => rfl
                | 7, hj => rfl
                | 8, hj => rw [hDi] at hj; cases hj
                | 9, hj => rw [n9] at hj; cases hj
                | 10, hj => rfl
                | 11, hj => rfl
                | _ + 12, hj => rfl)
              ((hR.add 4 (if_neg (by rw [hDi]; simp)) (St.new1 wx #[] 44)).congr
                (fun i => by
                  match i with
                  | 0 => rfl
                  | 1 => rfl
                  | 2 => rfl
                  | 3 => (show (if D 10 = true then some (rBlk _ _ (if D 11 = true then _ else _)) else none) = (if D 10 = true then some (rBlk _ _ (if D 11 = true then _ else _)) else none); rw [n11]; rfl)
                  | 4 => rfl
                  | q + 5 => exact (if_neg (show ¬ (q + 5 = 4) by omega)).symm))
          refine StepAll.cons (fun D s wx hR (hDi : D 9 = false) hd hsh a' hs K hK => ?_) ?_
          · have e25 := hs.at_ 3 25 (u := .int .i64 (setN p sn : Nat)) rfl (hd ⟨3, .data⟩ (by simp) rfl) (by kernel_rfl) (by kernel_rfl) rfl
            have e29 := hs.at_ 7 29 (u := .slice s.1 (codeN p goal).length s.2.1) rfl (hd ⟨7, .data⟩ (by simp) rfl) (by kernel_rfl) (by kernel_rfl) rfl
            have e30 := hs.at_ 8 30 (u := .slice (some ⟨s.2.2.2, 0, none⟩) 0 0) rfl (hd ⟨8, .data⟩ (by simp) rfl) (by kernel_rfl) (by kernel_rfl) rfl
            have g25 := getQ e25
            have g29 := getQ e29
            have g30 := getQ e30
            clear hs
            go_simp
            exact hK s wx (fun _ _ => rfl) hR
          refine StepAll.cons (fun D s wx hR (hDi : D 10 = false) hd hsh a' hs K hK => ?_) ?_
          · clear hs
            have n11 : D 11 = false := hsh.no hDi 11 rfl ⟨10, .data⟩ (by simp) rfl rfl
            go_simp
            refine hK (s.1, s.2.1, wx.heap.size, s.2.2.2) _
              (fun j hj => by
                match j, hj with
                | 0, hj => rfl
                | 1, hj => rfl
                | 2, hj => rfl
                | 3, hj => rfl
                | 4, hj => rfl
                | 5, hj => rfl
                | 6, hj => rfl
                | 7, hj => rfl
                | 8, hj => rfl
                | 9, hj => rfl
                | 10, hj => rw [hDi] at hj; cases hj
                | 11, hj => rfl
                | _ + 12, hj => rfl)
              ((hR.add 3 (if_neg (by rw [hDi]; simp)) (St.new1 wx #[.int .i64 0, .slice none 0 0, .slice none 0 0] 26)).congr
                (fun i => by
                  match i with
                  | 0 => rfl
                  | 1 => rfl
                  | 2 => rfl
                  | 3 => (show some (rBlk _ _ (if D 11 = true then _ else _)) = some (rBlk _ _ _); rw [n11]; rfl)
                  | 4 => rfl
                  | q + 5 => exact (if_neg (show ¬ (q + 5 = 3) by omega)).symm))
          refine StepAll.cons (fun D s wx hR (hDi : D 11 = false) hd hsh a' hs K hK => ?_) ?_
          · have e5 := hs.at_ 10 5 (u := .pointer (some ⟨s.2.2.1, 0, none⟩)) rfl (hd ⟨10, .data⟩ (by simp) rfl) (by kernel_rfl) (by kernel_rfl) rfl
            have e31 := hs.at_ 9 31 (u := .agg #[.int .i64 (setN p sn : Nat), .slice s.1 (codeN p goal).length s.2.1, .slice (some ⟨s.2.2.2, 0, none⟩) 0 0]) rfl (hd ⟨9, .data⟩ (by simp) rfl) (by kernel_rfl) (by kernel_rfl) rfl
            clear hs
            have dA : D 10 = true := hd ⟨10, .data⟩ (by simp) rfl
            have kb := hR.blk 3 (by simp only [dA, hDi]; rfl)
            have f0 := kb.frozen
            have c0 : wx.cell? ⟨s.2.2.1, 0, none⟩ = some (.int .i64 0) := kb.cell 0
            have c1 : wx.cell? ⟨s.2.2.1, 1, none⟩ = some (.slice none 0 0) := kb.cell 1
            have c2 : wx.cell? ⟨s.2.2.1, 2, none⟩ = some (.slice none 0 0) := kb.cell 2
            go_simp
            exact hK s _ (fun _ _ => rfl) ((hR.set3 3 (by simp only [dA, hDi]; rfl) _ _ _).congr
              (fun i => by
                match i with
                | 0 => rfl
                | 1 => rfl
                | 2 => rfl
                | 3 => (show (if D 10 = true then some (rBlk _ _ _) else none) = some (rBlk _ _ _); rw [dA]; rfl)
                | 4 => rfl
                | q + 5 => exact (if_neg (show ¬ (q + 5 = 3) by omega)).symm))
          exact StepAll.nil
        · intro D s wx hR hD
          simp only [putA, Act.put, List.setIfInBounds_toArray, List.set_cons_zero, List.set_cons_succ]
          go_wp2_with fail
          go_meet
          exact ⟨s.2.2.1, s.1, s.2.1, s.2.2.2, rfl, hR.to_st [0, 1, 2, 3, 4] (by decide) (by simp only [List.map, hD 7 (by decide), hD 10 (by decide), hD 11 (by decide), hD 8 (by decide)]; rfl)⟩
      case rest =>
        obtain ⟨T, A2, c2, D8, rfl, S2⟩ := hcut
        have S3 := (S2.pick [4, 0, 1, 2, 3] (by decide) rfl rfl).see (fun F h _ => blk_deeds h)
        have M0 := Sn.of_st S3
        have t2 : wc.cell? ⟨w.heap.size, 2, none⟩ = some (.slice A' n' c') := (M0.blk 1 rfl).cell 2
        have HM0 := Lib.hid M0
        have HDL := Lib.hid hds.len
        clear S1 S2 S3 M0
        go_wp2
        go_loopw [6] (fun i wr => ∃ (k : Nat) (dv : Value), k ≤ n' ∧ i = .int .i64 k ∧ Sn w wr (fun q => match q with
          | 0 => some (rDeeds dv ((deeds.take k).map (deedN p)))
          | 1 => some (rBlk w.heap.size 26 #[.int .i64 sn, .slice A n c, .slice A' n' c'])
          | 2 => some (rBlk (w.heap.size + 1) 26 #[.int .i64 0, .slice none 0 0, .slice none 0 0])
          | 3 => some (rInts (.slice A2 (codeN p goal).length c2) (codeN p goal))
          | 4 => some (rBlk T 26 #[.int .i64 (setN p sn : Nat), .slice A2 (codeN p goal).length c2, dv])
          | _ => none)) (fun i _ => n' - (intOf i).toNat)
        case atStart =>
          refine ⟨0, .slice (some ⟨D8, 0, none⟩) 0 0, by omega, rfl, HM0.out.congr fun i => ?_⟩
          match i with
          | 0 => rfl
          | 1 => rfl
          | 2 => rfl
          | 3 => rfl
          | 4 => rfl
          | q + 5 => rfl
        case round =>
          obtain ⟨k, dv, hk, rfl, M⟩ := hrel
          have t2 : wr.cell? ⟨w.heap.size, 2, none⟩ = some (.slice A' n' c') := (M.blk 1 rfl).cell 2
          by_cases hlt : k < n'
          · obtain ⟨b, off, d, rfl, hb, hd, hda⟩ := hds.get hlt
            have hda' := hda.keep hb (bcells M.below)
            have hdok := HDOK.out d (List.mem_of_getElem? hd)
            obtain ⟨hnok, ⟨hon0, hon1⟩, ⟨hof0, hof1⟩, ⟨hfl0, hfl1⟩, -⟩ := deedOk_parts d hdok
            obtain ⟨need, on, of, fl⟩ := d
            simp only at hnok hon0 hon1 hof0 hof1 hfl0 hfl1
            obtain ⟨An, nn, cn, q0, q1, q2, q3, -, hnn, hw1, hw2, hw3⟩ := hda'
            obtain ⟨An', nn', cn', p0, p1, p2, p3, hneed, -⟩ := hda
            have hsame : Value.slice An' nn' cn' = .slice An nn cn := by
              have := (bcells M.below b (off + k * 4) hb).symm.trans q0
              rw [p0] at this
              injection this
            simp only [Value.slice.injEq] at hsame
            obtain ⟨rfl, rfl, rfl⟩ := hsame
            simp only at q1 q2 q3 hneed hw1 hw2 hw3
            obtain ⟨a, rfl⟩ := Int.eq_ofNat_of_zero_le hon0
            obtain ⟨o, rfl⟩ := Int.eq_ofNat_of_zero_le hof0
            obtain ⟨fl, rfl⟩ := Int.eq_ofNat_of_zero_le hfl0
            have HNOK := Lib.hid hnok
            have hn6 : n' ≤ 6 := by rw [← hds.len]; exact hdl
            have hnn40 : nn' ≤ 40 := by rw [← hneed.len]; exact ((codeOk_iff _).1 hnok).2.1
            have HD : Hid ((deeds.take (k + 1)).map (deedN p) = (deeds.take k).map (deedN p) ++ [deedN p ⟨need, a, o, fl⟩]) := Lib.hid (by
              obtain ⟨h1, h2⟩ := List.getElem?_eq_some_iff.1 hd
              rw [List.take_succ_eq_append_getElem h1, h2]; simp)
            have HTL : Hid (((deeds.take k).map (deedN p)).length = k) := Lib.hid (by rw [List.length_map, List.length_take, hds.len]; omega)
            have HWF : Hid ((codeN p need).length ≤ 1048576 ∧ (Lit.int .i64 (deedN p ⟨need, a, o, fl⟩).on).wf = true ∧ (Lit.int .i64 (deedN p ⟨need, a, o, fl⟩).off).wf = true ∧ (Lit.int .i64 (deedN p ⟨need, a, o, fl⟩).flip).wf = true) := Lib.hid (by
              have h1 : (codeN p need).length = need.length := by simp [codeN]
              have l1 := setN_lt p a
              have l2 := setN_lt p o
              have l3 := setN_lt p fl
              rw [hneed.len] at h1
              exact ⟨by omega, wf_i64_mk (by simp only [deedN, Int.toNat_natCast]; omega), wf_i64_mk (by simp only [deedN, Int.toNat_natCast]; omega), wf_i64_mk (by simp only [deedN, Int.toNat_natCast]; omega)⟩)
            clear hd hnok hdok p0 p1 p2 p3
            go_upto_region 8 with (fail)
            have M1 := M.add 5 rfl (St.new1 wr #[.slice An' nn' cn', .int .i64 a, .int .i64 o, .int .i64 fl] 44)
            obtain ⟨g8, hg8⟩ : ∃ g, wr.heap.size = g := ⟨_, rfl⟩
            rw [hg8] at M1 ⊢
            generalize wr.alloc (Obj.cells #[.slice An' nn' cn', .int .i64 a, .int .i64 o, .int .i64 fl] 44) = wd at M1 ⊢
            clear q0 q1 q2 q3 t2 hg8
            have M2 : Sn w wd (fun q => match q with
              | 0 => some (rDeeds dv ((deeds.take k).map (deedN p)))
              | 1 => some (rBlk w.heap.size 26 #[.int .i64 sn, .slice A n c, .slice (some ⟨b, off, none⟩) n' c'])
              | 2 => some (rBlk (w.heap.size + 1) 26 #[.int .i64 0, .slice none 0 0, .slice none 0 0])
              | 3 => some (rInts (.slice A2 (codeN p goal).length c2) (codeN p goal))
              | 4 => some (rBlk T 26 #[.int .i64 (setN p sn : Nat), .slice A2 (codeN p goal).length c2, dv])
              | 5 => some (rBlk g8 44 #[.slice An' nn' cn', .int .i64 a, .int .i64 o, .int .i64 fl])
              | _ => none) := M1.congr fun i => by
                match i with
                | 0 => rfl
                | 1 => rfl
                | 2 => rfl
                | 3 => rfl
                | 4 => rfl
                | 5 => rfl
                | q + 6 => exact (if_neg (show ¬ (q + 6 = 5) by omega)).symm
            clear M1
            refine wp_reg (σ := Option Addr × Nat × Nat × Option Addr × Nat) (by kernel_rfl) (by kernel_rfl) (by kernel_rfl)
              (fun s i => match i with
                | 0 => .pointer (some ⟨T, 2, none⟩)
                | 1 => dv
                | 2 => .pointer (some ⟨g8, 0, none⟩)
                | 3 => .slice An' nn' cn'
                | 4 => .slice Ap 5 cp
                | 5 => .slice s.1 (codeN p need).length s.2.1
                | 6 => .pointer (some ⟨g8, 1, none⟩)
                | 7 => .int .i64 a
                | 8 => .slice Ap 5 cp
                | 9 => .int .i64 (setN p a : Nat)
                | 10 => .pointer (some ⟨g8, 2, none⟩)
                | 11 => .int .i64 o
                | 12 => .slice Ap 5 cp
                | 13 => .int .i64 (setN p o : Nat)
                | 14 => .pointer (some ⟨g8, 3, none⟩)
                | 15 => .int .i64 fl
                | 16 => .slice Ap 5 cp
                | 17 => .int .i64 (setN p fl : Nat)
                | 18 => .agg #[.slice s.1 (codeN p need).length s.2.1, .int .i64 (setN p a : Nat), .int .i64 (setN p o : Nat), .int .i64 (setN p fl : Nat)]
                | 19 => .slice (some ⟨s.2.2.1, 0, none⟩) 1 1
                | 20 => .slice s.2.2.2.1 (k + 1) s.2.2.2.2
                | 21 => .pointer (some ⟨T, 2, none⟩)
                | _ => undef)
              (fun D s wx => Sn w wx fun i => match i with
                | 0 => some (rDeeds (if D 20 = true then .slice s.2.2.2.1 (k + 1) s.2.2.2.2 else dv) (if D 20 = true then (deeds.take k).map (deedN p) ++ [deedN p ⟨need, a, o, fl⟩] else (deeds.take k).map (deedN p)))
                | 1 => some (rBlk w.heap.size 26 #[.int .i64 sn, .slice A n c, .slice (some ⟨b, off, none⟩) n' c'])
                | 2 => some (rBlk (w.heap.size + 1) 26 #[.int .i64 0, .slice none 0 0, .slice none 0 0])
                | 3 => some (rInts (.slice A2 (codeN p goal).length c2) (codeN p goal))
                | 4 => some (rBlk T 26 (if D 22 = true then #[.int .i64 (setN p sn : Nat), .slice A2 (codeN p goal).length c2, .slice s.2.2.2.1 (k + 1) s.2.2.2.2] else #[.int .i64 (setN p sn : Nat), .slice A2 (codeN p goal).length c2, dv]))
                | 5 => some (rBlk g8 44 #[.slice An' nn' cn', .int .i64 a, .int .i64 o, .int .i64 fl])
                | 6 => if D 5 = true then (if D 20 = true then none else some (rInts (.slice s.1 (codeN p need).length s.2.1) (codeN p need))) else none
                | 7 => if D 19 = true then some (rBlk s.2.2.1 44 #[.slice s.1 (codeN p need).length s.2.1, .int .i64 (setN p a : Nat), .int .i64 (setN p o : Nat), .int .i64 (setN p fl : Nat)]) else none
                | _ => none)
              (none, 0, 0, none, 0) ?_ ?_ ?_
            · intro D hD
              refine (M2.quiet ((Below.refl _ _).drew)).congr fun i => ?_
              match i with
              | 0 => first | rfl | (simp only [hD 20 (by decide), hD 22 (by decide), hD 5 (by decide), hD 19 (by decide)]; done) | (simp only [hD 20 (by decide), hD 22 (by decide), hD 5 (by decide), hD 19 (by decide)]; rfl)
              | 1 => first | rfl | (simp only [hD 20 (by decide), hD 22 (by decide), hD 5 (by decide), hD 19 (by decide)]; done) | (simp only [hD 20 (by decide), hD 22 (by decide), hD 5 (by decide), hD 19 (by decide)]; rfl)
              | 2 => first | rfl | (simp only [hD 20 (by decide), hD 22 (by decide), hD 5 (by decide), hD 19 (by decide)]; done) | (simp only [hD 20 (by decide), hD 22 (by decide), hD 5 (by decide), hD 19 (by decide)]; rfl)
              | 3 => first | rfl | (simp only [hD 20 (by decide), hD 22 (by decide), hD 5 (by decide), hD 19 (by decide)]; done) | (simp only [hD 20 (by decide), hD 22 (by decide), hD 5 (by decide), hD 19 (by decide)]; rfl)
              | 4 => first | rfl | (simp only [hD 20 (by decide), hD 22 (by decide), hD 5 (by decide), hD 19 (by decide)]; done) | (simp only [hD 20 (by decide), hD 22 (by decide), hD 5 (by decide), hD 19 (by decide)]; rfl)
              | 5 => first | rfl | (simp only [hD 20 (by decide), hD 22 (by decide), hD 5 (by decide), hD 19 (by decide)]; done) | (simp only [hD 20 (by decide), hD 22 (by decide), hD 5 (by decide), hD 19 (by decide)]; rfl)
              | 6 => first | rfl | (simp only [hD 20 (by decide), hD 22 (by decide), hD 5 (by decide), hD 19 (by decide)]; done) | (simp only [hD 20 (by decide), hD 22 (by decide), hD 5 (by decide), hD 19 (by decide)]; rfl)
              | 7 => first | rfl | (simp only [hD 20 (by decide), hD 22 (by decide), hD 5 (by decide), hD 19 (by decide)]; done) | (simp only [hD 20 (by decide), hD 22 (by decide), hD 5 (by decide), hD 19 (by decide)]; rfl)
              | q + 8 => rfl
            · refine StepAll.cons (fun D s wx hR (hDi : D 0 = false) hd hsh a' hs K hK => ?_) ?_
              · have e5 := hs.old 5 (u := .pointer (some ⟨T, 0, none⟩)) (by kernel_rfl) rfl
                clear hs
                go_simp
                exact hK s wx (fun _ _ => rfl) hR
              refine StepAll.cons (fun D s wx hR (hDi : D 1 = false) hd hsh a' hs K hK => ?_) ?_
              · have e44 := hs.at_ 0 44 (u := .pointer (some ⟨T, 2, none⟩)) rfl (hd ⟨0, .data⟩ (by simp) rfl) (by kernel_rfl) (by kernel_rfl) rfl
                clear hs
                have n22 : D 22 = false := hsh.no hDi 22 rfl ⟨1, .phase⟩ (by simp) rfl rfl
                have kb : Blk wx (T) 26 #[.int .i64 (setN p sn : Nat), .slice A2 (codeN p goal).length c2, dv] := hR.blk 4 (by simp only [n22]; rfl)
                have c0 : wx.cell? ⟨T, 2, none⟩ = some (dv) := kb.cell 2
                go_simp
                exact hK s wx (fun _ _ => rfl) hR
              refine StepAll.cons (fun D s wx hR (hDi : D 2 = false) hd hsh a' hs K hK => ?_) ?_
              · have e7 := hs.old 7 (u := .pointer (some ⟨g8, 0, none⟩)) (by kernel_rfl) rfl
                clear hs
                go_simp
                exact hK s wx (fun _ _ => rfl) hR
              refine StepAll.cons (fun D s wx hR (hDi : D 3 = false) hd hsh a' hs K hK => ?_) ?_
              · have e46 := hs.at_ 2 46 (u := .pointer (some ⟨g8, 0, none⟩)) rfl (hd ⟨2, .data⟩ (by simp) rfl) (by kernel_rfl) (by kernel_rfl) rfl
                clear hs
                have kb : Blk wx (g8) 44 #[.slice An' nn' cn', .int .i64 a, .int .i64 o, .int .i64 fl] := hR.blk 5 rfl
                have c0 : wx.cell? ⟨g8, 0, none⟩ = some (.slice An' nn' cn') := kb.cell 0
                go_simp
                exact hK s wx (fun _ _ => rfl) hR
              refine StepAll.cons (fun D s wx hR (hDi : D 4 = false) hd hsh a' hs K hK => ?_) ?_
              · have e1 := hs.old 1 (u := .slice Ap 5 cp) (by kernel_rfl) rfl
                clear hs
                go_simp
                exact hK s wx (fun _ _ => rfl) hR
              refine StepAll.cons (fun D s wx hR (hDi : D 5 = false) hd hsh a' hs K hK => ?_) ?_
              · have e47 := hs.at_ 3 47 (u := .slice An' nn' cn') rfl (hd ⟨3, .data⟩ (by simp) rfl) (by kernel_rfl) (by kernel_rfl) rfl
                have e48 := hs.at_ 4 48 (u := .slice Ap 5 cp) rfl (hd ⟨4, .data⟩ (by simp) rfl) (by kernel_rfl) (by kernel_rfl) rfl
                have g47 := getQ e47
                have g48 := getQ e48
                clear hs
                have n18 : D 18 = false := hsh.no hDi 18 rfl ⟨5, .data⟩ (by simp) rfl rfl
                have n19 : D 19 = false := hsh.no n18 19 rfl ⟨18, .data⟩ (by simp) rfl rfl
                have n20 : D 20 = false := hsh.no n19 20 rfl ⟨19, .data⟩ (by simp) rfl rfl
                have n22 : D 22 = false := hsh.no n20 22 rfl ⟨20, .data⟩ (by simp) rfl rfl
                go_simp
                refine (l9Code_any An' nn' cn' need Ap 5 cp p _ (hneed.up hR.below) (HP.out.up hR.below) HNOK.out rfl).mono ?_
                rintro e w2 ⟨v2, rfl, s2⟩
                obtain ⟨A3, c3, hv, -⟩ := s2.rdI 0 rfl
                subst hv
                refine hK (A3, c3, s.2.2) w2
                  (fun j hj => by
                    match j, hj with
                    | 0, hj => rfl
                    | 1, hj => rfl
                    | 2, hj => rfl
                    | 3, hj => rfl
                    | 4, hj => rfl
                    | 5, hj => rw [hDi] at hj; cases hj
                    | 6, hj => rfl
                    | 7, hj => rfl
                    | 8, hj => rfl
                    | 9, hj => rfl
                    | 10, hj => rfl
                    | 11, hj => rfl
                    | 12, hj => rfl
                    | 13, hj => rfl
                    | 14, hj => rfl
                    | 15, hj => rfl
                    | 16, hj => rfl
                    | 17, hj => rfl
                    | 18, hj => rw [n18] at hj; cases hj
                    | 19, hj => rfl
                    | 20, hj => rfl
                    | 21, hj => rfl
                    | 22, hj => rfl
                    | _ + 23, hj => rfl)
                  ((hR.add 6 (if_neg (by rw [hDi]; simp)) s2).congr
                    (fun i => by
                      match i with
                      | 0 => rfl
                      | 1 => rfl
                      | 2 => rfl
                      | 3 => rfl
                      | 4 => rfl
                      | 5 => rfl
                      | 6 => (show (if D 20 = true then none else some (rInts _ _)) = some (rInts _ _); rw [n20]; rfl)
                      | 7 => (show (if D 19 = true then some (rBlk _ _ _) else none) = (if D 19 = true then some (rBlk _ _ _) else none); rw [n19]; rfl)
                      | q + 8 => exact (if_neg (show ¬ (q + 8 = 6) by omega)).symm))
              refine StepAll.cons (fun D s wx hR (hDi : D 6 = false) hd hsh a' hs K hK => ?_) ?_
              · have e7 := hs.old 7 (u := .pointer (some ⟨g8, 0, none⟩)) (by kernel_rfl) rfl
                clear hs
                go_simp
                exact hK s wx (fun _ _ => rfl) hR
              refine StepAll.cons (fun D s wx hR (hDi : D 7 = false) hd hsh a' hs K hK => ?_) ?_
              · have e50 := hs.at_ 6 50 (u := .pointer (some ⟨g8, 1, none⟩)) rfl (hd ⟨6, .data⟩ (by simp) rfl) (by kernel_rfl) (by kernel_rfl) rfl
                clear hs
                have kb : Blk wx (g8) 44 #[.slice An' nn' cn', .int .i64 a, .int .i64 o, .int .i64 fl] := hR.blk 5 rfl
                have c0 : wx.cell? ⟨g8, 1, none⟩ = some (.int .i64 a) := kb.cell 1
                go_simp
                exact hK s wx (fun _ _ => rfl) hR
              refine StepAll.cons (fun D s wx hR (hDi : D 8 = false) hd hsh a' hs K hK => ?_) ?_
              · have e1 := hs.old 1 (u := .slice Ap 5 cp) (by kernel_rfl) rfl
                clear hs
                go_simp
                exact hK s wx (fun _ _ => rfl) hR
              refine StepAll.cons (fun D s wx hR (hDi : D 9 = false) hd hsh a' hs K hK => ?_) ?_
              · have e51 := hs.at_ 7 51 (u := .int .i64 a) rfl (hd ⟨7, .data⟩ (by simp) rfl) (by kernel_rfl) (by kernel_rfl) rfl
                have e52 := hs.at_ 8 52 (u := .slice Ap 5 cp) rfl (hd ⟨8, .data⟩ (by simp) rfl) (by kernel_rfl) (by kernel_rfl) rfl
                have g51 := getQ e51
                have g52 := getQ e52
                clear hs
                go_simp
                refine (l9Moved_any a Ap 5 cp p _ (HP.out.up hR.below) (by omega) HPO.out rfl).mono ?_
                rintro e w2 ⟨rfl, hb2⟩
                exact hK s w2 (fun _ _ => rfl) (hR.quiet hb2)
              refine StepAll.cons (fun D s wx hR (hDi : D 10 = false) hd hsh a' hs K hK => ?_) ?_
              · have e7 := hs.old 7 (u := .pointer (some ⟨g8, 0, none⟩)) (by kernel_rfl) rfl
                clear hs
                go_simp
                exact hK s wx (fun _ _ => rfl) hR
              refine StepAll.cons (fun D s wx hR (hDi : D 11 = false) hd hsh a' hs K hK => ?_) ?_
              · have e54 := hs.at_ 10 54 (u := .pointer (some ⟨g8, 2, none⟩)) rfl (hd ⟨10, .data⟩ (by simp) rfl) (by kernel_rfl) (by kernel_rfl) rfl
                clear hs
                have kb : Blk wx (g8) 44 #[.slice An' nn' cn', .int .i64 a, .int .i64 o, .int .i64 fl] := hR.blk 5 rfl
                have c0 : wx.cell? ⟨g8, 2, none⟩ = some (.int .i64 o) := kb.cell 2
                go_simp
                exact hK s wx (fun _ _ => rfl) hR
              refine StepAll.cons (fun D s wx hR (hDi : D 12 = false) hd hsh a' hs K hK => ?_) ?_
              · have e1 := hs.old 1 (u := .slice Ap 5 cp) (by kernel_rfl) rfl
                clear hs
                go_simp
                exact hK s wx (fun _ _ => rfl) hR
              refine StepAll.cons (fun D s wx hR (hDi : D 13 = false) hd hsh a' hs K hK => ?_) ?_
              · have e55 := hs.at_ 11 55 (u := .int .i64 o) rfl (hd ⟨11, .data⟩ (by simp) rfl) (by kernel_rfl) (by kernel_rfl) rfl
                have e56 := hs.at_ 12 56 (u := .slice Ap 5 cp) rfl (hd ⟨12, .data⟩ (by simp) rfl) (by kernel_rfl) (by kernel_rfl) rfl
                have g55 := getQ e55
                have g56 := getQ e56
                clear hs
                go_simp
                refine (l9Moved_any o Ap 5 cp p _ (HP.out.up hR.below) (by omega) HPO.out rfl).mono ?_
                rintro e w2 ⟨rfl, hb2⟩
                exact hK s w2 (fun _ _ => rfl) (hR.quiet hb2)
              refine StepAll.cons (fun D s wx hR (hDi : D 14 = false) hd hsh a' hs K hK => ?_) ?_
              · have e7 := hs.old 7 (u := .pointer (some ⟨g8, 0, none⟩)) (by kernel_rfl) rfl
                clear hs
                go_simp
                exact hK s wx (fun _ _ => rfl) hR
              refine StepAll.cons (fun D s wx hR (hDi : D 15 = false) hd hsh a' hs K hK => ?_) ?_
              · have e58 := hs.at_ 14 58 (u := .pointer (some ⟨g8, 3, none⟩)) rfl (hd ⟨14, .data⟩ (by simp) rfl) (by kernel_rfl) (by kernel_rfl) rfl
                clear hs
                have kb : Blk wx (g8) 44 #[.slice An' nn' cn', .int .i64 a, .int .i64 o, .int .i64 fl] := hR.blk 5 rfl
                have c0 : wx.cell? ⟨g8, 3, none⟩ = some (.int .i64 fl) := kb.cell 3
                go_simp
                exact hK s wx (fun _ _ => rfl) hR
              refine StepAll.cons (fun D s wx hR (hDi : D 16 = false) hd hsh a' hs K hK => ?_) ?_
              · have e1 := hs.old 1 (u := .slice Ap 5 cp) (by kernel_rfl) rfl
                clear hs
                go_simp
                exact hK s wx (fun _ _ => rfl) hR
              refine StepAll.cons (fun D s wx hR (hDi : D 17 = false) hd hsh a' hs K hK => ?_) ?_
              · have e59 := hs.at_ 15 59 (u := .int .i64 fl) rfl (hd ⟨15, .data⟩ (by simp) rfl) (by kernel_rfl) (by kernel_rfl) rfl
                have e60 := hs.at_ 16 60 (u := .slice Ap 5 cp) rfl (hd ⟨16, .data⟩ (by simp) rfl) (by kernel_rfl) (by kernel_rfl) rfl
                have g59 := getQ e59
                have g60 := getQ e60
                clear hs
                go_simp
                refine (l9Moved_any fl Ap 5 cp p _ (HP.out.up hR.below) (by omega) HPO.out rfl).mono ?_
                rintro e w2 ⟨rfl, hb2⟩
                exact hK s w2 (fun _ _ => rfl) (hR.quiet hb2)
              refine StepAll.cons (fun D s wx hR (hDi : D 18 = false) hd hsh a' hs K hK => ?_) ?_
              · have e49 := hs.at_ 5 49 (u := .slice s.1 (codeN p need).length s.2.1) rfl (hd ⟨5, .data⟩ (by simp) rfl) (by kernel_rfl) (by kernel_rfl) rfl
                have e53 := hs.at_ 9 53 (u := .int .i64 (setN p a : Nat)) rfl (hd ⟨9, .data⟩ (by simp) rfl) (by kernel_rfl) (by kernel_rfl) rfl
                have e57 := hs.at_ 13 57 (u := .int .i64 (setN p o : Nat)) rfl (hd ⟨13, .data⟩ (by simp) rfl) (by kernel_rfl) (by kernel_rfl) rfl
                have e61 := hs.at_ 17 61 (u := .int .i64 (setN p fl : Nat)) rfl (hd ⟨17, .data⟩ (by simp) rfl) (by kernel_rfl) (by kernel_rfl) rfl
                have g49 := getQ e49
                have g53 := getQ e53
                have g57 := getQ e57
                have g61 := getQ e61
                clear hs
                go_simp
                exact hK s wx (fun _ _ => rfl) hR
              refine StepAll.cons (fun D s wx hR (hDi : D 19 = false) hd hsh a' hs K hK => ?_) ?_
              · have e62 := hs.at_ 18 62 (u := .agg #[.slice s.1 (codeN p need).length s.2.1, .int .i64 (setN p a : Nat), .int .i64 (setN p o : Nat), .int .i64 (setN p fl : Nat)]) rfl (hd ⟨18, .data⟩ (by simp) rfl) (by kernel_rfl) (by kernel_rfl) rfl
                have g62 := getQ e62
                clear hs
                have n20 : D 20 = false := hsh.no hDi 20 rfl ⟨19, .data⟩ (by simp) rfl rfl
                go_simp
                refine hK (s.1, s.2.1, wx.heap.size, s.2.2.2) _
                  (fun j hj => by
                    match j, hj with
                    | 0, hj => rfl
                    | 1, hj => rfl
                    | 2, hj => rfl
                    | 3, hj => rfl
                    | 4, hj => rfl
                    | 5, hj => rfl
                    | 6, hj => rfl
                    | 7, hj => rfl
                    | 8, hj => rfl
                    | 9, hj => rfl
                    | 10, hj => rfl
                    | 11, hj => rfl
                    | 12, hj => rfl
                    | 13, hj => rfl
                    | 14, hj => rfl
                    | 15, hj => rfl
                    | 16, hj => rfl
                    | 17, hj => rfl
                    | 18, hj => rfl
                    | 19, hj => rw [hDi] at hj; cases hj
                    | 20, hj => rfl
                    | 21, hj => rfl
                    | 22, hj => rfl
                    | _ + 23, hj => rfl)
                  ((hR.add 7 (if_neg (by rw [hDi]; simp)) (St.new1 wx #[.slice s.1 (codeN p need).length s.2.1, .int .i64 (setN p a : Nat), .int .i64 (setN p o : Nat), .int .i64 (setN p fl : Nat)] 44)).congr
                    (fun i => by
                      match i with
                      | 0 => rfl
                      | 1 => rfl
                      | 2 => rfl
                      | 3 => rfl
                      | 4 => rfl
                      | 5 => rfl
                      | 6 => rfl
                      | 7 => rfl
                      | q + 8 => exact (if_neg (show ¬ (q + 8 = 7) by omega)).symm))
              refine StepAll.cons (fun D s wx hR (hDi : D 20 = false) hd hsh a' hs K hK => ?_) ?_
              · have e45 := hs.at_ 1 45 (u := dv) rfl (hd ⟨1, .data⟩ (by simp) rfl) (by kernel_rfl) (by kernel_rfl) rfl
                have e63 := hs.at_ 19 63 (u := .slice (some ⟨s.2.2.1, 0, none⟩) 1 1) rfl (hd ⟨19, .data⟩ (by simp) rfl) (by kernel_rfl) (by kernel_rfl) rfl
                have g45 := getQ e45
                have g63 := getQ e63
                clear hs
                have n22 : D 22 = false := hsh.no hDi 22 rfl ⟨20, .data⟩ (by simp) rfl rfl
                have d27 : D 19 = true := hd ⟨19, .data⟩ (by simp) rfl
                have d26 : D 18 = true := hsh 19 _ rfl d27 ⟨18, .data⟩ (by simp) rfl
                have d5 : D 5 = true := hsh 18 _ rfl d26 ⟨5, .data⟩ (by simp) rfl
                obtain ⟨F, cells, Fs, ho, -⟩ := hR.deeds 0 (v := dv) (ds := (deeds.take k).map (deedN p)) (by simp only [hDi]; rfl)
                have kb : Blk wx s.2.2.1 44 #[.slice s.1 (codeN p need).length s.2.1, .int .i64 (setN p a : Nat), .int .i64 (setN p o : Nat), .int .i64 (setN p fl : Nat)] := hR.blk 7 (by simp only [d27]; rfl)
                refine wp_app1 elDeed (.tmp 45) (.tmp 63) rfl 0 dv _ cells e45 ho.row _ _ 1 1 [.slice s.1 (codeN p need).length s.2.1, .int .i64 (setN p a : Nat), .int .i64 (setN p o : Nat), .int .i64 (setN p fl : Nat)] e63 (RdRow.of_blk kb 4 1 rfl (by unfold maxLen; omega)) (by omega) (by simp [Value.oneCell']) (by rw [HTL.out]; omega) (by rw [HTL.out]; omega) (by omega) ?_
                intro v' w' hown hg hat
                obtain ⟨A4, c4, hv⟩ := own_form hown
                rw [HTL.out] at hv
                subst hv
                exact hK (s.1, s.2.1, s.2.2.1, A4, c4) w'
                  (fun j hj => by
                    match j, hj with
                    | 0, hj => rfl
                    | 1, hj => rfl
                    | 2, hj => rfl
                    | 3, hj => rfl
                    | 4, hj => rfl
                    | 5, hj => rfl
                    | 6, hj => rfl
                    | 7, hj => rfl
                    | 8, hj => rfl
                    | 9, hj => rfl
                    | 10, hj => rfl
                    | 11, hj => rfl
                    | 12, hj => rfl
                    | 13, hj => rfl
                    | 14, hj => rfl
                    | 15, hj => rfl
                    | 16, hj => rfl
                    | 17, hj => rfl
                    | 18, hj => rfl
                    | 19, hj => rfl
                    | 20, hj => rw [hDi] at hj; cases hj
                    | 21, hj => rfl
                    | 22, hj => rfl
                    | _ + 23, hj => rfl)
                  ((hR.push 0 6 (by decide) (v := dv) (nv := .slice s.1 (codeN p need).length s.2.1) (ds := (deeds.take k).map (deedN p)) (d := deedN p ⟨need, a, o, fl⟩) (by simp only [hDi]; rfl) (by simp only [d5, hDi]; rfl) HWF.out.1 HWF.out.2 (by rw [HTL.out]; omega) rfl ho.row hown hg hat).congr
                    (fun i => by
                      match i with
                      | 0 => rfl
                      | 1 => rfl
                      | 2 => rfl
                      | 3 => rfl
                      | 4 => (show some (rBlk _ _ (if D 22 = true then _ else _)) = some (rBlk _ _ (if D 22 = true then _ else _)); rw [n22]; rfl)
                      | 5 => rfl
                      | 6 => (show (if D 5 = true then none else none) = none; rw [d5]; rfl)
                      | 7 => rfl
                      | q + 8 => exact ((if_neg (show ¬ (q + 8 = 0) by omega)).trans (if_neg (show ¬ (q + 8 = 6) by omega))).symm))
              refine StepAll.cons (fun D s wx hR (hDi : D 21 = false) hd hsh a' hs K hK => ?_) ?_
              · have e5 := hs.old 5 (u := .pointer (some ⟨T, 0, none⟩)) (by kernel_rfl) rfl
                clear hs
                go_simp
                exact hK s wx (fun _ _ => rfl) hR
              refine StepAll.cons (fun D s wx hR (hDi : D 22 = false) hd hsh a' hs K hK => ?_) ?_
              · have e65 := hs.at_ 21 65 (u := .pointer (some ⟨T, 2, none⟩)) rfl (hd ⟨21, .data⟩ (by simp) rfl) (by kernel_rfl) (by kernel_rfl) rfl
                have e64 := hs.at_ 20 64 (u := .slice s.2.2.2.1 (k + 1) s.2.2.2.2) rfl (hd ⟨20, .data⟩ (by simp) rfl) (by kernel_rfl) (by kernel_rfl) rfl
                clear hs
                have kb : Blk wx T 26 #[.int .i64 (setN p sn : Nat), .slice A2 (codeN p goal).length c2, dv] := hR.blk 4 (by simp only [hDi]; rfl)
                have f0 := kb.frozen
                have c2' : wx.cell? ⟨T, 2, none⟩ = some dv := kb.cell 2
                go_simp
                exact hK s _ (fun _ _ => rfl) ((hR.set 4 (cs := #[.int .i64 (setN p sn : Nat), .slice A2 (codeN p goal).length c2, dv]) (by simp only [hDi]; rfl) 2 _).congr
                  (fun i => by
                    match i with
                    | 0 => rfl
                    | 1 => rfl
                    | 2 => rfl
                    | 3 => rfl
                    | 4 => rfl
                    | 5 => rfl
                    | 6 => rfl
                    | 7 => rfl
                    | q + 8 => exact (if_neg (show ¬ (q + 8 = 4) by omega)).symm))
              exact StepAll.nil
            · intro D s wx hR hD
              simp only [putA, Act.put, List.setIfInBounds_toArray, List.set_cons_zero, List.set_cons_succ]
              go_wp2
              go_roundw
              case rel =>
                refine ⟨k + 1, .slice s.2.2.2.1 (k + 1) s.2.2.2.2, by omega, by go_num, (((hR.drop 5).drop 7).congr fun i => ?_)⟩
                match i with
                | 0 => first | rfl | (simp only [hD 20 (by decide), hD 22 (by decide), hD 5 (by decide), hD 19 (by decide)]; first | done | rfl | (rw [HD.out]; rfl)) | (rw [HD.out]; simp only [hD 20 (by decide), hD 22 (by decide), hD 5 (by decide), hD 19 (by decide)]; first | done | rfl)
                | 1 => first | rfl | (simp only [hD 20 (by decide), hD 22 (by decide), hD 5 (by decide), hD 19 (by decide)]; first | done | rfl | (rw [HD.out]; rfl)) | (rw [HD.out]; simp only [hD 20 (by decide), hD 22 (by decide), hD 5 (by decide), hD 19 (by decide)]; first | done | rfl)
                | 2 => first | rfl | (simp only [hD 20 (by decide), hD 22 (by decide), hD 5 (by decide), hD 19 (by decide)]; first | done | rfl | (rw [HD.out]; rfl)) | (rw [HD.out]; simp only [hD 20 (by decide), hD 22 (by decide), hD 5 (by decide), hD 19 (by decide)]; first | done | rfl)
                | 3 => first | rfl | (simp only [hD 20 (by decide), hD 22 (by decide), hD 5 (by decide), hD 19 (by decide)]; first | done | rfl | (rw [HD.out]; rfl)) | (rw [HD.out]; simp only [hD 20 (by decide), hD 22 (by decide), hD 5 (by decide), hD 19 (by decide)]; first | done | rfl)
                | 4 => first | rfl | (simp only [hD 20 (by decide), hD 22 (by decide), hD 5 (by decide), hD 19 (by decide)]; first | done | rfl | (rw [HD.out]; rfl)) | (rw [HD.out]; simp only [hD 20 (by decide), hD 22 (by decide), hD 5 (by decide), hD 19 (by decide)]; first | done | rfl)
                | 5 => first | rfl | (simp only [hD 20 (by decide), hD 22 (by decide), hD 5 (by decide), hD 19 (by decide)]; first | done | rfl | (rw [HD.out]; rfl)) | (rw [HD.out]; simp only [hD 20 (by decide), hD 22 (by decide), hD 5 (by decide), hD 19 (by decide)]; first | done | rfl)
                | 6 => first | rfl | (simp only [hD 20 (by decide), hD 22 (by decide), hD 5 (by decide), hD 19 (by decide)]; first | done | rfl | (rw [HD.out]; rfl)) | (rw [HD.out]; simp only [hD 20 (by decide), hD 22 (by decide), hD 5 (by decide), hD 19 (by decide)]; first | done | rfl)
                | 7 => first | rfl | (simp only [hD 20 (by decide), hD 22 (by decide), hD 5 (by decide), hD 19 (by decide)]; first | done | rfl | (rw [HD.out]; rfl)) | (rw [HD.out]; simp only [hD 20 (by decide), hD 22 (by decide), hD 5 (by decide), hD 19 (by decide)]; first | done | rfl)
                | q + 8 => simp
              case measure => simp [intOf]; omega
          · have hkn : k = n' := by omega
            subst hkn
            have HTK : Hid (deeds.take k = deeds) := Lib.hid (by rw [← hds.len, List.take_length])
            have S5 := M.to_st (L := [rInts (.slice A2 (codeN p goal).length c2) (codeN p goal), rDeeds dv (deeds.map (deedN p)), rBlk T 26 #[.int .i64 (setN p sn : Nat), .slice A2 (codeN p goal).length c2, dv], rBlk (w.heap.size + 1) 26 #[.int .i64 0, .slice none 0 0, .slice none 0 0]]) [3, 0, 4, 2] (by decide) (by
              simp only [List.map]; rw [HTK.out])
            obtain ⟨Ad, cd, hdv, -⟩ := S5.rdDs 1 rfl
            rw [List.length_map, hds.len] at hdv
            subst hdv
            have S6 := S5.task (s := (setN p sn : Nat)) (by have h1 : (codeN p goal).length = goal.length := by simp [codeN]
                                                            rw [hg.len] at h1; omega) (wf_i64_mk (by have := setN_lt p sn; omega))
            have a0 : ∀ j, wr.cell? ⟨T, j, none⟩ = _ := S6.cells 1 rfl
            have r0 : ∀ j, wr.cell? ⟨w.heap.size + 1, j, none⟩ = _ := S6.cells 2 rfl
            have fr := S6.free 2 rfl
            have HS6 := Lib.hid S6
            clear M S5 S6
            go_wp2
            refine bodyPost_ret (v := .agg #[.int .i64 (setN p sn : Nat), .slice A2 (codeN p goal).length c2, .slice Ad k cd]) (by simp [results, Try.results41, go_sem, r0, a0]) rfl ⟨.agg #[.int .i64 (setN p sn : Nat), .slice A2 (codeN p goal).length c2, .slice Ad k cd], rfl, ?_⟩
            rw [HV.out]
            exact (HS6.out.set3 2 rfl _ _ _).pick [0] (by decide) rfl rfl
end Go.Proofs.Ytdbgoekemffimaa
