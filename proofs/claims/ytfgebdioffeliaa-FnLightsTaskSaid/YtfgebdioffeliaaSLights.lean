/- RowsOf of the reference; LightsTask of the program and of the reference: each returns one plain task, for every argument. -/
import Derived.Test.YtfgebdioffeliaaSGRows
import Derived.Test.YtfgebdioffeliaaSTold
namespace Go.Proofs.Ytfgebdioffeliaa
set_option linter.unusedVariables false
set_option linter.unusedSimpArgs false
open Go.ChangeShapes Go.WideShapes Go.ChangeAt Go.RowKit
def deedL (r : Int) : DeedD := ⟨[5], 0, 0, r⟩
def lightsTask (xs : List Int) (s : Int) : TaskD := if setOk xs s = true ∧ xs.length ≤ 5 then ⟨s, noneI xs.length, (rowsL xs).map deedL⟩ else ⟨0, [], []⟩
set_option maxRecDepth 100000 in
set_option maxHeartbeats 1000000 in
theorem rowsOf_spec (A : Option Addr) (n c : Nat) (xs : List Int) (w : World) (h : RdI .i64 w w.heap.size A n c xs) (hok : graphOk xs = true) :
    Calls Try.prog 28 #[.agg #[.slice A n c]] w (Gives w id fun v => [rInts v (rowsL xs)]) := by
  have HL := Lib.hid h.len
  have hn9 : n ≤ 9 := by rw [← HL.out]; exact (graphOk_len xs hok).2
  have S0 : St w ((w.alloc (Obj.cells #[.slice A n c] 25)).alloc (Obj.cells #[] 3)) [rBlk w.heap.size 25 #[.slice A n c], rInts (.slice (some ⟨w.heap.size + 1, 0, none⟩) 0 0) []] :=
    ((St.refl w).alloc #[.slice A n c] 25).call (St.newI _ _ (by simp))
  have HS0 := Lib.hid S0
  have H := Lib.hid h
  have HOK := Lib.hid hok
  obtain ⟨ys, hys⟩ : ∃ ys, rowsL xs = ys := ⟨_, rfl⟩
  have HYS := Lib.hid hys
  have HYL : Hid (ys.length = n) := Lib.hid (by rw [← hys, rowsL_len, HL.out])
  clear S0 h hok
  rw [hys]
  clear hys
  go_enter Try.func28, Try.ntmps28
  go_wp2
  go_loopw [4, 3] (fun i o wr => ∃ (k : Nat) (v : Value), k ≤ n ∧ i = .int .i64 k ∧ o = v ∧ St w wr [rBlk w.heap.size 25 #[.slice A n c], rInts v (ys.take k)]) (fun i _ _ => n - (intOf i).toNat)
  case atStart => exact ⟨0, .slice (some ⟨w.heap.size + 1, 0, none⟩) 0 0, by omega, rfl, rfl, HS0.out⟩
  case round =>
    obtain ⟨k, v, hk, rfl, rfl, M⟩ := hrel
    have q0 : ∀ j, wr.cell? ⟨w.heap.size, j, none⟩ = _ := M.cells 0 rfl
    have HTL : Hid ((ys.take k).length = k) := Lib.hid (by rw [List.length_take, HYL.out]; omega)
    obtain ⟨C, cc, hv, -⟩ := M.rdI 1 rfl
    rw [HTL.out] at hv
    subst hv
    have HM := Lib.hid M
    clear M
    by_cases hlt : k < n
    · obtain ⟨b, off, x, rfl, hb, hx, hwf, hc⟩ := H.out.get hlt
      obtain ⟨x0, x1, xb⟩ := graphOk_at xs HOK.out k x hx
      rw [HL.out] at x1
      obtain ⟨m, rfl⟩ := Int.eq_ofNat_of_zero_le x0
      have hp9 := pow_le_int n 9 hn9
      have hpk9 := pow_le_int k 9 (by omega)
      have hpk1 : 1 ≤ (2 : Int) ^ k := Int.pow_pos (by omega)
      have hw := wrap_pow k (by omega)
      have HADD : Hid ((m : Int) + 2 ^ k = rowX xs k) := Lib.hid (rowX_add xs k m hx (by rw [Int.toNat_natCast] at xb; exact xb)).symm
      have HY : Hid (ys[k]? = some (rowX xs k)) := Lib.hid (by rw [← HYS.out]; exact rowsL_at xs k (by rw [HL.out]; exact hlt))
      have HWFX : Hid (∀ y ∈ [rowX xs k], (Lit.int .i64 y).wf = true) := Lib.hid (fun y hy => by
        have := rowX_lt xs HOK.out k (by rw [HL.out]; exact hlt)
        rw [List.mem_singleton] at hy
        subst hy
        exact wf_i64_mk (by omega))
      have HPOW : Hid (IntKind.i64.wrap (2 ^ k) = 2 ^ k) := Lib.hid ((IntWalk.i64_left _).trans hw)
      have HWR : Hid (IntKind.i64.wrap (rowX xs k) = rowX xs k) := Lib.hid (by
        have := rowX_lt xs HOK.out k (by rw [HL.out]; exact hlt)
        exact IntWalk.i64_in _ (by omega))
      clear hx xb
      go_wp2_with fail
      refine (graphValid_spec (some ⟨b, off, none⟩) n c xs _ (H.out.up HM.out.below)).mono ?_
      rw [HOK.out]
      rintro e w5 ⟨rfl, hb5⟩
      have S5 := HM.out.quiet hb5
      have HS5 := Lib.hid S5
      clear S5 hb5 q0
      go_upto_region 5 with (fail)
      refine wp_reg (σ := Option Addr × Nat × Nat) (by kernel_rfl) (by kernel_rfl) (by kernel_rfl)
        (fun s i => match i with
          | 0 => .slice C k cc
          | 1 => .pointer (some ⟨w.heap.size, 0, none⟩)
          | 2 => .slice (some ⟨b, off, none⟩) n c
          | 3 => .int .i64 k
          | 4 => .pointer (some ⟨b, (off + k), none⟩)
          | 5 => .int .i64 (m : Int)
          | 6 => .int .i64 k
          | 7 => .int .i64 (2 ^ k)
          | 8 => .int .i64 (rowX xs k)
          | 9 => .slice (some ⟨s.2.2, 0, none⟩) 1 1
          | 10 => .slice s.1 (k + 1) s.2.1
          | 11 => .slice s.1 (k + 1) s.2.1
          | _ => undef)
        (fun D s wx => Sn w wx fun i => match i with
          | 0 => some (rBlk w.heap.size 25 #[.slice (some ⟨b, off, none⟩) n c])
          | 1 => some (rInts (if D 10 = true then .slice s.1 (k + 1) s.2.1 else .slice C k cc) (if D 10 = true then ys.take k ++ [rowX xs k] else ys.take k))
          | 2 => if D 9 = true then some (rBlk s.2.2 3 #[.int .i64 (rowX xs k)]) else none
          | _ => none)
        (none, 0, 0) ?_ ?_ ?_
      · intro D hD
        refine ((Sn.of_st HS5.out).quiet ((Below.refl _ _).drew)).congr fun i => ?_
        match i with
        | 0 => rfl
        | 1 => simp only [hD 10 (by decide)]; rfl
        | 2 => simp only [hD 9 (by decide)]; rfl
        | q + 3 => rfl
      · refine StepAll.cons (fun D s wx hR (hDi : D 0 = false) hd hsh a' hs K hK => ?_) ?_
        · have m11 : D 11 = false := hsh.no hDi 11 rfl ⟨0, .phase⟩ (by simp) rfl rfl
          have e3 := hs.before 11 3 (u := .slice C k cc) rfl m11 (by kernel_rfl) rfl
          clear hs
          go_simp
          exact hK s wx (fun _ _ => rfl) hR
        refine StepAll.cons (fun D s wx hR (hDi : D 1 = false) hd hsh a' hs K hK => ?_) ?_
        · have e1 := hs.old 1 (u := .pointer (some ⟨w.heap.size, 0, none⟩)) (by kernel_rfl) rfl
          clear hs
          go_simp
          exact hK s wx (fun _ _ => rfl) hR
        refine StepAll.cons (fun D s wx hR (hDi : D 2 = false) hd hsh a' hs K hK => ?_) ?_
        · have e18 := hs.at_ 1 18 (u := .pointer (some ⟨w.heap.size, 0, none⟩)) rfl (hd ⟨1, .data⟩ (by simp) rfl) (by kernel_rfl) (by kernel_rfl) rfl
          clear hs
          have kb : Blk wx (w.heap.size) 25 #[.slice (some ⟨b, off, none⟩) n c] := hR.blk 0 rfl
          have c0 : wx.cell? ⟨w.heap.size, 0, none⟩ = some (.slice (some ⟨b, off, none⟩) n c) := kb.cell 0
          go_simp
          exact hK s wx (fun _ _ => rfl) hR
        refine StepAll.cons (fun D s wx hR (hDi : D 3 = false) hd hsh a' hs K hK => ?_) ?_
        · have e4 := hs.old 4 (u := .int .i64 k) (by kernel_rfl) rfl
          clear hs
          go_simp
          exact hK s wx (fun _ _ => rfl) hR
        refine StepAll.cons (fun D s wx hR (hDi : D 4 = false) hd hsh a' hs K hK => ?_) ?_
        · have e19 := hs.at_ 2 19 (u := .slice (some ⟨b, off, none⟩) n c) rfl (hd ⟨2, .data⟩ (by simp) rfl) (by kernel_rfl) (by kernel_rfl) rfl
          have e20 := hs.at_ 3 20 (u := .int .i64 k) rfl (hd ⟨3, .data⟩ (by simp) rfl) (by kernel_rfl) (by kernel_rfl) rfl
          clear hs
          go_simp
          exact hK s wx (fun _ _ => rfl) hR
        refine StepAll.cons (fun D s wx hR (hDi : D 5 = false) hd hsh a' hs K hK => ?_) ?_
        · have e21 := hs.at_ 4 21 (u := .pointer (some ⟨b, (off + k), none⟩)) rfl (hd ⟨4, .data⟩ (by simp) rfl) (by kernel_rfl) (by kernel_rfl) rfl
          clear hs
          have c0 : wx.cell? ⟨b, off + k, none⟩ = some (.int .i64 (m : Int)) := (bcells hR.below b _ hb).trans hc
          go_simp
          exact hK s wx (fun _ _ => rfl) hR
        refine StepAll.cons (fun D s wx hR (hDi : D 6 = false) hd hsh a' hs K hK => ?_) ?_
        · have e4 := hs.old 4 (u := .int .i64 k) (by kernel_rfl) rfl
          clear hs
          go_simp
          exact hK s wx (fun _ _ => rfl) hR
        refine StepAll.cons (fun D s wx hR (hDi : D 7 = false) hd hsh a' hs K hK => ?_) ?_
        · have e23 := hs.at_ 6 23 (u := .int .i64 k) rfl (hd ⟨6, .data⟩ (by simp) rfl) (by kernel_rfl) (by kernel_rfl) rfl
          clear hs
          go_simp
          rw [HPOW.out]
          exact hK s wx (fun _ _ => rfl) hR
        refine StepAll.cons (fun D s wx hR (hDi : D 8 = false) hd hsh a' hs K hK => ?_) ?_
        · have e22 := hs.at_ 5 22 (u := .int .i64 (m : Int)) rfl (hd ⟨5, .data⟩ (by simp) rfl) (by kernel_rfl) (by kernel_rfl) rfl
          have e24 := hs.at_ 7 24 (u := .int .i64 (2 ^ k)) rfl (hd ⟨7, .data⟩ (by simp) rfl) (by kernel_rfl) (by kernel_rfl) rfl
          clear hs
          go_simp
          rw [HADD.out, HWR.out]
          exact hK s wx (fun _ _ => rfl) hR
        refine StepAll.cons (fun D s wx hR (hDi : D 9 = false) hd hsh a' hs K hK => ?_) ?_
        · have e25 := hs.at_ 8 25 (u := .int .i64 (rowX xs k)) rfl (hd ⟨8, .data⟩ (by simp) rfl) (by kernel_rfl) (by kernel_rfl) rfl
          have g25 := getQ e25
          clear hs
          have n10 : D 10 = false := hsh.no hDi 10 rfl ⟨9, .data⟩ (by simp) rfl rfl
          go_simp
          refine hK (s.1, s.2.1, wx.heap.size) _
            (fun j hj => by
              match j, hj with
              | 0, hj => rfl
              | 1, hj => rfl
              | 2, hj => rfl
              | 3, hj => rfl
              | 4, hj => rfl
              | 5, hj => rfl
              | 6, hj => rfl
              | 7, hj => rfl
              | 8, hj => rfl
              | 9, hj => rw [hDi] at hj; cases hj
              | 10, hj => rfl
              | 11, hj => rfl
              | _ + 12, hj => rfl)
            ((hR.add 2 (if_neg (by rw [hDi]; simp)) (St.new1 wx #[.int .i64 (rowX xs k)] 3)).congr
              (fun i => by
                match i with
                | 0 => rfl
                | 1 => rfl
                | 2 => rfl
                | q + 3 => exact (if_neg (show ¬ (q + 3 = 2) by omega)).symm))
        refine StepAll.cons (fun D s wx hR (hDi : D 10 = false) hd hsh a' hs K hK => ?_) ?_
        · have e17 := hs.at_ 0 17 (u := .slice C k cc) rfl (hd ⟨0, .data⟩ (by simp) rfl) (by kernel_rfl) (by kernel_rfl) rfl
          have e26 := hs.at_ 9 26 (u := .slice (some ⟨s.2.2, 0, none⟩) 1 1) rfl (hd ⟨9, .data⟩ (by simp) rfl) (by kernel_rfl) (by kernel_rfl) rfl
          have g17 := getQ e17
          have g26 := getQ e26
          clear hs
          have n11 : D 11 = false := hsh.no hDi 11 rfl ⟨10, .data⟩ (by simp) rfl rfl
          have d9 : D 9 = true := hd ⟨9, .data⟩ (by simp) rfl
          have kb : Blk wx s.2.2 3 #[.int .i64 (rowX xs k)] := hR.blk 2 (by simp only [d9]; rfl)
          obtain ⟨F, ho0, -⟩ := hR.get 1 (R := rInts (.slice C k cc) (ys.take k)) (by simp only [hDi]; rfl)
          have ho : OwnI wx 0 (.slice C k cc) (ys.take k) F := ho0
          refine wp_app1 elInt (.tmp 17) (.tmp 26) rfl 0 (.slice C k cc) _ (ints (ys.take k)) e17 ho.row _ _ 1 1 [.int .i64 (rowX xs k)] e26 (RdRow.of_blk kb 1 1 rfl (by unfold maxLen; omega)) (by omega) (by simp [Value.oneCell']) (by rw [HTL.out]; omega) (by rw [HTL.out]; omega) (by omega) ?_
          intro v' w' hown hg hat
          obtain ⟨A4, c4, hv⟩ := own_form hown
          rw [HTL.out] at hv
          subst hv
          refine hK (A4, c4, s.2.2) w'
            (fun j hj => by
              match j, hj with
              | 0, hj => rfl
              | 1, hj => rfl
              | 2, hj => rfl
              | 3, hj => rfl
              | 4, hj => rfl
              | 5, hj => rfl
              | 6, hj => rfl
              | 7, hj => rfl
              | 8, hj => rfl
              | 9, hj => rfl
              | 10, hj => rw [hDi] at hj; cases hj
              | 11, hj => rw [n11] at hj; cases hj
              | _ + 12, hj => rfl)
            ((hR.appI 1 (v := .slice C k cc) (xs := ys.take k) (ys := [rowX xs k]) (by simp only [hDi]; rfl) rfl hown HWFX.out hg hat).congr
              (fun i => by
                match i with
                | 0 => rfl
                | 1 => rfl
                | 2 => rfl
                | q + 3 => exact (if_neg (show ¬ (q + 3 = 1) by omega)).symm))
        refine StepAll.cons (fun D s wx hR (hDi : D 11 = false) hd hsh a' hs K hK => ?_) ?_
        · have e27 := hs.at_ 10 27 (u := .slice s.1 (k + 1) s.2.1) rfl (hd ⟨10, .data⟩ (by simp) rfl) (by kernel_rfl) (by kernel_rfl) rfl
          clear hs
          go_simp
          exact hK s wx (fun _ _ => rfl) hR
        exact StepAll.nil
      · intro D s wx hR hD
        simp only [putA, Act.put, List.setIfInBounds_toArray, List.set_cons_zero, List.set_cons_succ]
        have S6 : St w wx [rBlk w.heap.size 25 #[.slice (some ⟨b, off, none⟩) n c], rInts (.slice s.1 (k + 1) s.2.1) (ys.take k ++ [rowX xs k])] := hR.to_st [0, 1] (by decide) (by simp only [List.map, hD 10 (by decide)]; rfl)
        have HS6 := Lib.hid S6
        clear S6 hR hD
        go_wp2
        go_roundw
        case rel => exact ⟨k + 1, .slice s.1 (k + 1) s.2.1, by omega, by go_num, rfl, by rw [take_succ' HY.out]; exact HS6.out⟩
        case measure => simp [intOf]; omega
    · have hkn : k = n := by omega
      have HF : Hid (St w wr [rInts (.slice C k cc) ys]) := Lib.hid (by
        have := HM.out.pick [1] (by decide) rfl rfl
        rw [hkn, ← HYL.out, List.take_length] at this
        rw [hkn, ← HYL.out]; exact this)
      clear hkn
      go_wp2
      go_ret
      exact ⟨_, rfl, HF.out⟩
theorem noneHolds_st (m : Nat) (w : World) (hm : m ≤ 32) : Calls Try.prog 22 #[.int .i64 m] w (Gives w id fun v => [rInts v (noneI m)]) :=
  (noneHolds_any m w hm).mono fun e w' ⟨⟨v, F, he, ho⟩, hb⟩ => ⟨v, he, St.of_ints ho hb⟩
theorem l9None_st (m : Nat) (w : World) (h0 : 0 < m) (hm : m ≤ 32) : Calls Try.prog 27 #[.int .i64 m] w (Gives w id fun v => [rInts v (noneI m)]) :=
  (l9None_any m w hm).mono fun e w' ⟨⟨v, F, he, ho, _⟩, hb⟩ => ⟨v, he, St.of_ints (codeAll_none m h0 ▸ ho) hb⟩
set_option maxRecDepth 100000 in
set_option maxHeartbeats 1000000 in
theorem lightsTask_impl (A : Option Addr) (n c : Nat) (xs : List Int) (s : Int) (w : World) (h : RdI .i64 w w.heap.size A n c xs) (hs : (Lit.int .i64 s).wf = true) :
    Calls Try.prog 5 #[.agg #[.slice A n c], .int .i64 s] w (Gives w id fun v => [rTask v (lightsTask xs s)]) := by
  have HL := Lib.hid h.len
  have S0 : St w ((w.alloc (Obj.cells #[.slice A n c] 25)).alloc (Obj.cells #[.int .i64 0, .slice none 0 0, .slice none 0 0] 30)) [rBlk w.heap.size 25 #[.slice A n c], rBlk (w.heap.size + 1) 30 #[.int .i64 0, .slice none 0 0, .slice none 0 0]] := by
    have := ((St.refl w).alloc #[.slice A n c] 25).alloc #[.int .i64 0, .slice none 0 0, .slice none 0 0] 30
    simpa using this
  have hcap := h.cap
  have hcm := h.capMax
  unfold maxLen at hcm
  have HS0 := Lib.hid S0
  have H := Lib.hid h
  have H0 := Lib.hid (h.up S0.below)
  clear S0 h
  obtain ⟨bo, hso⟩ : ∃ b, setOk xs s = b := ⟨_, rfl⟩
  have HSO := Lib.hid hso
  cases bo with
  | false =>
    have HV : Hid (lightsTask xs s = ⟨0, [], []⟩) := Lib.hid (if_neg (by rw [hso]; simp))
    clear hso
    go_enter Try.func5, Try.ntmps5
    go_wp2_with fail
    refine (setValid_impl A n c xs s _ (H0.out)).mono ?_
    rw [HSO.out]
    rintro e w1 ⟨rfl, hb1⟩
    have S1 := HS0.out.quiet hb1
    have r0 : ∀ j, w1.cell? ⟨w.heap.size + 1, j, none⟩ = _ := S1.cells 1 rfl
    have g0 : ∀ j, w1.cell? ⟨w.heap.size, j, none⟩ = _ := S1.cells 0 rfl
    have fr := S1.free 1 rfl
    have HS1 := Lib.hid S1
    clear S1 hb1
    go_wp2
    refine bodyPost_ret (v := .agg #[.int .i64 0, .slice none 0 0, .slice none 0 0]) (by simp [results, Try.results5, go_sem, r0]) rfl ⟨.agg #[.int .i64 0, .slice none 0 0, .slice none 0 0], rfl, ?_⟩
    rw [HV.out]
    exact St.task0 (HS1.out.set3 1 rfl _ _ _).below
  | true =>
    have HG := Lib.hid ((setOk_iff xs s).1 hso).1
    have hn1 : 1 ≤ n := by rw [← HL.out]; exact (graphOk_len xs HG.out).1
    by_cases h5 : n ≤ 5
    case neg =>
      have HV : Hid (lightsTask xs s = ⟨0, [], []⟩) := Lib.hid (if_neg (by rw [HL.out]; omega))
      clear hso
      go_enter Try.func5, Try.ntmps5
      go_wp2_with fail
      refine (setValid_impl A n c xs s _ (H0.out)).mono ?_
      rw [HSO.out]
      rintro e w1 ⟨rfl, hb1⟩
      have S1 := HS0.out.quiet hb1
      have r0 : ∀ j, w1.cell? ⟨w.heap.size + 1, j, none⟩ = _ := S1.cells 1 rfl
      have g0 : ∀ j, w1.cell? ⟨w.heap.size, j, none⟩ = _ := S1.cells 0 rfl
      have fr := S1.free 1 rfl
      have HS1 := Lib.hid S1
      clear S1 hb1
      go_wp2
      refine bodyPost_ret (v := .agg #[.int .i64 0, .slice none 0 0, .slice none 0 0]) (by simp [results, Try.results5, go_sem, r0]) rfl ⟨.agg #[.int .i64 0, .slice none 0 0, .slice none 0 0], rfl, ?_⟩
      rw [HV.out]
      exact St.task0 (HS1.out.set3 1 rfl _ _ _).below
    have HV : Hid (lightsTask xs s = ⟨s, noneI n, (rowsL xs).map deedL⟩) := Lib.hid (by unfold lightsTask; rw [if_pos ⟨hso, by rw [HL.out]; exact h5⟩, HL.out])
    obtain ⟨ys, hys⟩ : ∃ ys, rowsL xs = ys := ⟨_, rfl⟩
    have HYL : Hid (ys.length = n) := Lib.hid (by rw [← hys, rowsL_len, HL.out])
    have HYW : Hid (∀ x ∈ ys, (Lit.int .i64 x).wf = true) := Lib.hid (by rw [← hys]; exact rowsL_wf xs HG.out)
    have HRO := Lib.hid (fun w h => rowsOf_impl A n c xs w h HG.out)
    rw [hys] at HV HRO
    clear hso hys
    go_enter Try.func5, Try.ntmps5
    go_wp2_with fail
    refine (setValid_impl A n c xs s _ (H0.out)).mono ?_
    rw [HSO.out]
    rintro e w1 ⟨rfl, hb1⟩
    have S1 := HS0.out.quiet hb1
    have r0 : ∀ j, w1.cell? ⟨w.heap.size + 1, j, none⟩ = _ := S1.cells 1 rfl
    have g0 : ∀ j, w1.cell? ⟨w.heap.size, j, none⟩ = _ := S1.cells 0 rfl
    have fr := S1.free 1 rfl
    have HS1 := Lib.hid S1
    clear S1 hb1
    go_wp2_with fail
    refine (noneHolds_st n _ (by omega)).mono ?_
    rintro e w2 ⟨v2, rfl, s2⟩
    obtain ⟨A2, c2, hv, -⟩ := s2.rdI 0 rfl
    subst hv
    have S2 := (HS1.out.call s2)
    have S3 := S2.alloc #[.int .i64 s, .slice A2 (noneI n).length c2, .slice none 0 0] 30
    have g2 : ∀ j, (w2.alloc (Obj.cells #[.int .i64 s, .slice A2 (noneI n).length c2, .slice none 0 0] 30)).cell? ⟨w.heap.size, j, none⟩ = _ := S3.cells 0 rfl
    have HS3 := Lib.hid S3
    clear S2 S3 r0 g0 fr
    go_wp2_with fail
    refine (HRO.out _ (H.out.up HS3.out.below)).mono ?_
    rintro e w4 ⟨v4, rfl, s4⟩
    obtain ⟨A4, c4, hv, -⟩ := s4.rdI 0 rfl
    rw [HYL.out] at hv
    subst hv
    obtain ⟨T, hT⟩ : ∃ T, w2.heap.size = T := ⟨_, rfl⟩
    have S4 := HS3.out.call s4
    have HS4 := Lib.hid S4
    clear S4 s4 g2 HS3 s2
    have hT' : w2.heap.size = T := by rw [← hT]; first | done | simp
    rw [hT']
    have S5 := ((hT ▸ HS4.out).call (rDeeds_nil _ _ (Below.refl _ _))).pick [5, 0, 1, 2, 3, 4] (by decide) rfl rfl
    have M0 := Sn.of_st S5
    have HM0 := Lib.hid M0
    clear S5 M0 hT hT'
    go_wp2
    go_loopw [28] (fun i wr => ∃ (k : Nat) (dv : Value), k ≤ n ∧ i = .int .i64 k ∧ Sn w wr (fun q => match q with
      | 0 => some (rDeeds dv ((ys.take k).map deedL))
      | 1 => some (rBlk w.heap.size 25 #[.slice A n c])
      | 2 => some (rBlk (w.heap.size + 1) 30 #[.int .i64 0, .slice none 0 0, .slice none 0 0])
      | 3 => some (rInts (.slice A2 (noneI n).length c2) (noneI n))
      | 4 => some (rBlk T 30 #[.int .i64 s, .slice A2 (noneI n).length c2, dv])
      | 5 => some (rInts (.slice A4 n c4) ys)
      | _ => none)) (fun i _ => n - (intOf i).toNat)
    case atStart =>
      refine ⟨0, .slice none 0 0, by omega, rfl, HM0.out.congr fun i => ?_⟩
      match i with
      | 0 => rfl
      | 1 => rfl
      | 2 => rfl
      | 3 => rfl
      | 4 => rfl
      | 5 => rfl
      | q + 6 => rfl
    case round =>
      obtain ⟨k, dv, hk, rfl, M⟩ := hrel
      by_cases hlt : k < n
      · obtain ⟨b, off, y, rfl, hb, hy, hwy, hcy⟩ := (M.rdI' 5 rfl).get hlt
        have HTL : Hid (((ys.take k).map deedL).length = k) := Lib.hid (by rw [List.length_map, List.length_take, HYL.out]; omega)
        have HD : Hid ((ys.take (k + 1)).map deedL = (ys.take k).map deedL ++ [deedL y]) := Lib.hid (by rw [take_succ' hy]; simp)
        have HWY := Lib.hid hwy
        have HM := Lib.hid M
        have q4 : ∀ j, wr.cell? ⟨T, j, none⟩ = _ := (M.blk 4 rfl).cell
        obtain ⟨F, cells, Fs, ho, -⟩ := M.deeds 0 rfl
        have HO := Lib.hid ho.row
        have HO2 : Hid (wr.ownsRow 0 36 4 dv k cells) := Lib.hid (by have := ho.row; rw [HTL.out] at this; exact this)
        have M1 := (M.add 6 rfl ((St.new1 wr #[.int .i64 5] 3).see fun F h _ => blk_ints (xs := [5]) h (by unfold maxLen; simp) (by intro x hx; rw [List.mem_singleton] at hx; subst hx; rfl) rfl)).add 7 rfl (St.new1 (wr.alloc (.cells #[.int .i64 5] 3)) #[.slice (some ⟨wr.heap.size, 0, none⟩) 1 1, .int .i64 0, .int .i64 0, .int .i64 y] 36)
        have HM1 := Lib.hid M1
        clear M M1 ho hy hwy
        have KEY : Hid (∀ v3 w3, w3.ownsRow 0 36 4 v3 (k + 1) (cells ++ [.slice (some ⟨wr.heap.size, 0, none⟩) 1 1, .int .i64 0, .int .i64 0, .int .i64 y]) → ((wr.alloc (.cells #[.int .i64 5] 3)).alloc (.cells #[.slice (some ⟨wr.heap.size, 0, none⟩) 1 1, .int .i64 0, .int .i64 0, .int .i64 y] 36)).grownBy w3 dv.ownBlock → (v3.ownBlock = dv.ownBlock ∨ v3.ownBlock = some ((wr.alloc (.cells #[.int .i64 5] 3)).alloc (.cells #[.slice (some ⟨wr.heap.size, 0, none⟩) 1 1, .int .i64 0, .int .i64 0, .int .i64 y] 36)).heap.size) → ∃ Av cv, v3 = .slice Av (k + 1) cv ∧ Sn w w3 (fun q => match q with
              | 0 => some (rDeeds (.slice Av (k + 1) cv) ((ys.take k).map deedL ++ [deedL y]))
              | 1 => some (rBlk w.heap.size 25 #[.slice A n c])
              | 2 => some (rBlk (w.heap.size + 1) 30 #[.int .i64 0, .slice none 0 0, .slice none 0 0])
              | 3 => some (rInts (.slice A2 (noneI n).length c2) (noneI n))
              | 4 => some (rBlk T 30 #[.int .i64 s, .slice A2 (noneI n).length c2, dv])
              | 5 => some (rInts (.slice (some ⟨b, off, none⟩) n c4) ys)
              | _ => none)) := Lib.hid (by
          intro v3 w3 hown hg hat
          obtain ⟨Av, cv, hv⟩ := own_form hown
          subst hv
          have M3 := HM1.out.push 0 6 (by decide) (v := dv) (nv := .slice (some ⟨wr.heap.size, 0, none⟩) 1 1) (ds := (ys.take k).map deedL) (d := deedL y) rfl rfl (by simp [deedL]) ⟨rfl, rfl, HWY.out⟩ (by rw [HTL.out]; omega) (by rw [HTL.out]) ((HO.out.alloc _).alloc _) hown hg hat
          refine ⟨Av, cv, rfl, (M3.drop 7).congr fun i => ?_⟩
          match i with
          | 0 => rfl
          | 1 => rfl
          | 2 => rfl
          | 3 => rfl
          | 4 => rfl
          | 5 => rfl
          | 6 => rfl
          | 7 => rfl
          | q + 8 => simp)
        go_wp2_with (at_builtin; refine wp_app elDeed rfl (.tmp 33) (.tmp 37) rfl 0 dv k cells rfl ((HO2.out.alloc _).alloc _) _ _ 1 1 [.slice (some ⟨wr.heap.size, 0, none⟩) 1 1, .int .i64 0, .int .i64 0, .int .i64 y] rfl (RdRow.newAt (wr.alloc (.cells #[.int .i64 5] 3)) [.slice (some ⟨wr.heap.size, 0, none⟩) 1 1, .int .i64 0, .int .i64 0, .int .i64 y] 36 4 1 (wr.heap.size + 1) (by simp) rfl (by unfold maxLen; omega)) (by simp [Value.oneCell']) (by omega) (by omega) (by simp) ?_; intro v3 w3 hown hg hat; obtain ⟨Av, cv, hv, M4⟩ := KEY.out v3 w3 hown hg hat; subst hv; have q4' : ∀ j, w3.cell? ⟨T, j, none⟩ = _ := (M4.blk 4 rfl).cell; have f4' := (M4.blk 4 rfl).frozen; have HM4 := Lib.hid M4; clear M4 hown hg hat q4)
        go_roundw
        case rel =>
          refine ⟨k + 1, .slice Av (k + 1) cv, by omega, by go_num, (HM4.out.set 4 rfl 2 (.slice Av (k + 1) cv)).congr fun i => ?_⟩
          match i with
          | 0 => show some _ = some _; rw [HD.out] <;> rfl
          | 1 => rfl
          | 2 => rfl
          | 3 => rfl
          | 4 => rfl
          | 5 => rfl
          | q + 6 => exact (if_neg (show ¬ (q + 6 = 4) by omega)).symm
        case measure => simp [intOf]; omega
      · have hkn : k = n := by omega
        subst hkn
        have HTK : Hid (ys.take k = ys) := Lib.hid (by rw [← HYL.out, List.take_length])
        have S5 := M.to_st (L := [rInts (.slice A2 (noneI k).length c2) (noneI k), rDeeds dv (ys.map deedL), rBlk T 30 #[.int .i64 s, .slice A2 (noneI k).length c2, dv], rBlk (w.heap.size + 1) 30 #[.int .i64 0, .slice none 0 0, .slice none 0 0]]) [3, 0, 4, 2] (by decide) (by
          simp only [List.map]; rw [HTK.out])
        obtain ⟨Ad, cd, hdv, -⟩ := S5.rdDs 1 rfl
        rw [List.length_map, HYL.out] at hdv
        subst hdv
        have S6 := S5.task (s := s) (by have := noneI_len k; omega) hs
        have a0 : ∀ j, wr.cell? ⟨T, j, none⟩ = _ := S6.cells 1 rfl
        have r0 : ∀ j, wr.cell? ⟨w.heap.size + 1, j, none⟩ = _ := S6.cells 2 rfl
        have fr := S6.free 2 rfl
        have HS6 := Lib.hid S6
        clear M S5 S6
        go_wp2
        refine bodyPost_ret (v := .agg #[.int .i64 s, .slice A2 (noneI k).length c2, .slice Ad k cd]) (by simp [results, Try.results5, go_sem, r0, a0]) rfl ⟨.agg #[.int .i64 s, .slice A2 (noneI k).length c2, .slice Ad k cd], rfl, ?_⟩
        rw [HV.out]
        exact (HS6.out.set3 2 rfl _ _ _).pick [0] (by decide) rfl rfl
set_option maxRecDepth 100000 in
set_option maxHeartbeats 1000000 in
theorem lightsTask_spec (A : Option Addr) (n c : Nat) (xs : List Int) (s : Int) (w : World) (h : RdI .i64 w w.heap.size A n c xs) (hs : (Lit.int .i64 s).wf = true) :
    Calls Try.prog 7 #[.agg #[.slice A n c], .int .i64 s] w (Gives w id fun v => [rTask v (lightsTask xs s)]) := by
  have HL := Lib.hid h.len
  have S0 : St w ((w.alloc (Obj.cells #[.slice A n c] 25)).alloc (Obj.cells #[.int .i64 0, .slice none 0 0, .slice none 0 0] 30)) [rBlk w.heap.size 25 #[.slice A n c], rBlk (w.heap.size + 1) 30 #[.int .i64 0, .slice none 0 0, .slice none 0 0]] := by
    have := ((St.refl w).alloc #[.slice A n c] 25).alloc #[.int .i64 0, .slice none 0 0, .slice none 0 0] 30
    simpa using this
  have hcap := h.cap
  have hcm := h.capMax
  unfold maxLen at hcm
  have HS0 := Lib.hid S0
  have H := Lib.hid h
  have H0 := Lib.hid (h.up S0.below)
  clear S0 h
  obtain ⟨bo, hso⟩ : ∃ b, setOk xs s = b := ⟨_, rfl⟩
  have HSO := Lib.hid hso
  cases bo with
  | false =>
    have HV : Hid (lightsTask xs s = ⟨0, [], []⟩) := Lib.hid (if_neg (by rw [hso]; simp))
    clear hso
    go_enter Try.func7, Try.ntmps7
    go_wp2_with fail
    refine (setValid_spec A n c xs s _ (H0.out) hs).mono ?_
    rw [HSO.out]
    rintro e w1 ⟨rfl, hb1⟩
    have S1 := HS0.out.quiet hb1
    have r0 : ∀ j, w1.cell? ⟨w.heap.size + 1, j, none⟩ = _ := S1.cells 1 rfl
    have g0 : ∀ j, w1.cell? ⟨w.heap.size, j, none⟩ = _ := S1.cells 0 rfl
    have fr := S1.free 1 rfl
    have HS1 := Lib.hid S1
    clear S1 hb1
    go_wp2
    refine bodyPost_ret (v := .agg #[.int .i64 0, .slice none 0 0, .slice none 0 0]) (by simp [results, Try.results7, go_sem, r0]) rfl ⟨.agg #[.int .i64 0, .slice none 0 0, .slice none 0 0], rfl, ?_⟩
    rw [HV.out]
    exact St.task0 (HS1.out.set3 1 rfl _ _ _).below
  | true =>
    have HG := Lib.hid ((setOk_iff xs s).1 hso).1
    have hn1 : 1 ≤ n := by rw [← HL.out]; exact (graphOk_len xs HG.out).1
    by_cases h5 : n ≤ 5
    case neg =>
      have HV : Hid (lightsTask xs s = ⟨0, [], []⟩) := Lib.hid (if_neg (by rw [HL.out]; omega))
      clear hso
      go_enter Try.func7, Try.ntmps7
      go_wp2_with fail
      refine (setValid_spec A n c xs s _ (H0.out) hs).mono ?_
      rw [HSO.out]
      rintro e w1 ⟨rfl, hb1⟩
      have S1 := HS0.out.quiet hb1
      have r0 : ∀ j, w1.cell? ⟨w.heap.size + 1, j, none⟩ = _ := S1.cells 1 rfl
      have g0 : ∀ j, w1.cell? ⟨w.heap.size, j, none⟩ = _ := S1.cells 0 rfl
      have fr := S1.free 1 rfl
      have HS1 := Lib.hid S1
      clear S1 hb1
      go_wp2
      refine bodyPost_ret (v := .agg #[.int .i64 0, .slice none 0 0, .slice none 0 0]) (by simp [results, Try.results7, go_sem, r0]) rfl ⟨.agg #[.int .i64 0, .slice none 0 0, .slice none 0 0], rfl, ?_⟩
      rw [HV.out]
      exact St.task0 (HS1.out.set3 1 rfl _ _ _).below
    have HV : Hid (lightsTask xs s = ⟨s, noneI n, (rowsL xs).map deedL⟩) := Lib.hid (by unfold lightsTask; rw [if_pos ⟨hso, by rw [HL.out]; exact h5⟩, HL.out])
    obtain ⟨ys, hys⟩ : ∃ ys, rowsL xs = ys := ⟨_, rfl⟩
    have HYL : Hid (ys.length = n) := Lib.hid (by rw [← hys, rowsL_len, HL.out])
    have HYW : Hid (∀ x ∈ ys, (Lit.int .i64 x).wf = true) := Lib.hid (by rw [← hys]; exact rowsL_wf xs HG.out)
    have HRO := Lib.hid (fun w h => rowsOf_spec A n c xs w h HG.out)
    rw [hys] at HV HRO
    clear hso hys
    go_enter Try.func7, Try.ntmps7
    go_wp2_with fail
    refine (setValid_spec A n c xs s _ (H0.out) hs).mono ?_
    rw [HSO.out]
    rintro e w1 ⟨rfl, hb1⟩
    have S1 := HS0.out.quiet hb1
    have r0 : ∀ j, w1.cell? ⟨w.heap.size + 1, j, none⟩ = _ := S1.cells 1 rfl
    have g0 : ∀ j, w1.cell? ⟨w.heap.size, j, none⟩ = _ := S1.cells 0 rfl
    have fr := S1.free 1 rfl
    have HS1 := Lib.hid S1
    clear S1 hb1
    go_wp2_with fail
    refine (l9None_st n _ (by omega) (by omega)).mono ?_
    rintro e w2 ⟨v2, rfl, s2⟩
    obtain ⟨A2, c2, hv, -⟩ := s2.rdI 0 rfl
    subst hv
    have S2 := (HS1.out.call s2).alloc #[] 36
    have S3 := S2.alloc #[.int .i64 s, .slice A2 (noneI n).length c2, .slice (some ⟨w2.heap.size, 0, none⟩) 0 0] 30
    have g2 : ∀ j, ((w2.alloc (Obj.cells #[] 36)).alloc (Obj.cells #[.int .i64 s, .slice A2 (noneI n).length c2, .slice (some ⟨w2.heap.size, 0, none⟩) 0 0] 30)).cell? ⟨w.heap.size, j, none⟩ = _ := S3.cells 0 rfl
    have HS3 := Lib.hid S3
    clear S2 S3 r0 g0 fr
    go_wp2_with fail
    refine (HRO.out _ (H.out.up HS3.out.below)).mono ?_
    rintro e w4 ⟨v4, rfl, s4⟩
    obtain ⟨A4, c4, hv, -⟩ := s4.rdI 0 rfl
    rw [HYL.out] at hv
    subst hv
    obtain ⟨T, hT⟩ : ∃ T, (w2.alloc (Obj.cells #[] 36)).heap.size = T := ⟨_, rfl⟩
    have S4 := HS3.out.call s4
    have HS4 := Lib.hid S4
    clear S4 s4 g2 HS3 s2
    have hT' : w2.heap.size + 1 = T := by rw [← hT]; first | done | simp
    rw [hT']
    have S5 := ((hT ▸ HS4.out).pick [3, 0, 1, 2, 4, 5] (by decide) rfl rfl).see (fun F h _ => blk_deeds h)
    have M0 := Sn.of_st S5
    have HM0 := Lib.hid M0
    clear S5 M0 hT hT'
    go_wp2
    go_loopw [7] (fun i wr => ∃ (k : Nat) (dv : Value), k ≤ n ∧ i = .int .i64 k ∧ Sn w wr (fun q => match q with
      | 0 => some (rDeeds dv ((ys.take k).map deedL))
      | 1 => some (rBlk w.heap.size 25 #[.slice A n c])
      | 2 => some (rBlk (w.heap.size + 1) 30 #[.int .i64 0, .slice none 0 0, .slice none 0 0])
      | 3 => some (rInts (.slice A2 (noneI n).length c2) (noneI n))
      | 4 => some (rBlk T 30 #[.int .i64 s, .slice A2 (noneI n).length c2, dv])
      | 5 => some (rInts (.slice A4 n c4) ys)
      | _ => none)) (fun i _ => n - (intOf i).toNat)
    case atStart =>
      refine ⟨0, .slice (some ⟨w2.heap.size, 0, none⟩) 0 0, by omega, rfl, HM0.out.congr fun i => ?_⟩
      match i with
      | 0 => rfl
      | 1 => rfl
      | 2 => rfl
      | 3 => rfl
      | 4 => rfl
      | 5 => rfl
      | q + 6 => rfl
    case round =>
      obtain ⟨k, dv, hk, rfl, M⟩ := hrel
      by_cases hlt : k < n
      · obtain ⟨b, off, y, rfl, hb, hy, hwy, hcy⟩ := (M.rdI' 5 rfl).get hlt
        have HTL : Hid (((ys.take k).map deedL).length = k) := Lib.hid (by rw [List.length_map, List.length_take, HYL.out]; omega)
        have HD : Hid ((ys.take (k + 1)).map deedL = (ys.take k).map deedL ++ [deedL y]) := Lib.hid (by rw [take_succ' hy]; simp)
        have HWY := Lib.hid hwy
        have HM := Lib.hid M
        have HY := Lib.hid hy
        have q4 : ∀ j, wr.cell? ⟨T, j, none⟩ = _ := (M.blk 4 rfl).cell
        clear M hy hwy hcy
        go_upto_region 8 with (fail)
        clear q4
        refine wp_reg (σ := Nat × Nat × Option Addr × Nat) (by kernel_rfl) (by kernel_rfl) (by kernel_rfl)
          (fun q i => match i with
            | 0 => .pointer (some ⟨T, 2, none⟩)
            | 1 => dv
            | 2 => .slice (some ⟨q.1, 0, none⟩) 1 1
            | 3 => .slice (some ⟨b, off, none⟩) n c4
            | 4 => .int .i64 k
            | 5 => .pointer (some ⟨b, (off + k), none⟩)
            | 6 => .int .i64 y
            | 7 => .agg #[.slice (some ⟨q.1, 0, none⟩) 1 1, .int .i64 0, .int .i64 0, .int .i64 y]
            | 8 => .slice (some ⟨q.2.1, 0, none⟩) 1 1
            | 9 => .slice q.2.2.1 (k + 1) q.2.2.2
            | 10 => .pointer (some ⟨T, 2, none⟩)
            | _ => undef)
          (fun D q wx => Sn w wx fun i => match i with
            | 0 => some (rDeeds (if D 9 = true then .slice q.2.2.1 (k + 1) q.2.2.2 else dv) (if D 9 = true then (ys.take k).map deedL ++ [deedL y] else (ys.take k).map deedL))
            | 1 => some (rBlk w.heap.size 25 #[.slice A n c])
            | 2 => some (rBlk (w.heap.size + 1) 30 #[.int .i64 0, .slice none 0 0, .slice none 0 0])
            | 3 => some (rInts (.slice A2 (noneI n).length c2) (noneI n))
            | 4 => some (rBlk T 30 (if D 11 = true then #[.int .i64 s, .slice A2 (noneI n).length c2, .slice q.2.2.1 (k + 1) q.2.2.2] else #[.int .i64 s, .slice A2 (noneI n).length c2, dv]))
            | 5 => some (rInts (.slice (some ⟨b, off, none⟩) n c4) ys)
            | 6 => if D 2 = true then (if D 9 = true then none else some (rInts (.slice (some ⟨q.1, 0, none⟩) 1 1) [5])) else none
            | 7 => if D 8 = true then some (rBlk q.2.1 36 #[.slice (some ⟨q.1, 0, none⟩) 1 1, .int .i64 0, .int .i64 0, .int .i64 y]) else none
            | _ => none)
          (0, 0, none, 0) ?_ ?_ ?_
        · intro D hD
          refine (HM.out.quiet ((Below.refl _ _).drew)).congr fun i => ?_
          match i with
          | 0 => first | rfl | (simp only [hD 9 (by decide), hD 11 (by decide), hD 2 (by decide), hD 8 (by decide)]; done) | (simp only [hD 9 (by decide), hD 11 (by decide), hD 2 (by decide), hD 8 (by decide)]; rfl)
          | 1 => first | rfl | (simp only [hD 9 (by decide), hD 11 (by decide), hD 2 (by decide), hD 8 (by decide)]; done) | (simp only [hD 9 (by decide), hD 11 (by decide), hD 2 (by decide), hD 8 (by decide)]; rfl)
          | 2 => first | rfl | (simp only [hD 9 (by decide), hD 11 (by decide), hD 2 (by decide), hD 8 (by decide)]; done) | (simp only [hD 9 (by decide), hD 11 (by decide), hD 2 (by decide), hD 8 (by decide)]; rfl)
          | 3 => first | rfl | (simp only [hD 9 (by decide), hD 11 (by decide), hD 2 (by decide), hD 8 (by decide)]; done) | (simp only [hD 9 (by decide), hD 11 (by decide), hD 2 (by decide), hD 8 (by decide)]; rfl)
          | 4 => first | rfl | (simp only [hD 9 (by decide), hD 11 (by decide), hD 2 (by decide), hD 8 (by decide)]; done) | (simp only [hD 9 (by decide), hD 11 (by decide), hD 2 (by decide), hD 8 (by decide)]; rfl)
          | 5 => first | rfl | (simp only [hD 9 (by decide), hD 11 (by decide), hD 2 (by decide), hD 8 (by decide)]; done) | (simp only [hD 9 (by decide), hD 11 (by decide), hD 2 (by decide), hD 8 (by decide)]; rfl)
          | 6 => first | rfl | (simp only [hD 9 (by decide), hD 11 (by decide), hD 2 (by decide), hD 8 (by decide)]; done) | (simp only [hD 9 (by decide), hD 11 (by decide), hD 2 (by decide), hD 8 (by decide)]; rfl)
          | 7 => first | rfl | (simp only [hD 9 (by decide), hD 11 (by decide), hD 2 (by decide), hD 8 (by decide)]; done) | (simp only [hD 9 (by decide), hD 11 (by decide), hD 2 (by decide), hD 8 (by decide)]; rfl)
          | q + 8 => rfl
        · refine StepAll.cons (fun D q wx hR (hDi : D 0 = false) hd hsh a' hs K hK => ?_) ?_
          · have e5 := hs.old 5 (u := .pointer (some ⟨T, 0, none⟩)) (by kernel_rfl) rfl
            clear hs
            go_simp
            exact hK q wx (fun _ _ => rfl) hR
          refine StepAll.cons (fun D q wx hR (hDi : D 1 = false) hd hsh a' hs K hK => ?_) ?_
          · have e34 := hs.at_ 0 34 (u := .pointer (some ⟨T, 2, none⟩)) rfl (hd ⟨0, .data⟩ (by simp) rfl) (by kernel_rfl) (by kernel_rfl) rfl
            clear hs
            have n11 : D 11 = false := hsh.no hDi 11 rfl ⟨1, .phase⟩ (by simp) rfl rfl
            have kb : Blk wx (T) 30 #[.int .i64 s, .slice A2 (noneI n).length c2, dv] := hR.blk 4 (by simp only [n11]; rfl)
            have c0 : wx.cell? ⟨T, 2, none⟩ = some (dv) := kb.cell 2
            go_simp
            exact hK q wx (fun _ _ => rfl) hR
          refine StepAll.cons (fun D q wx hR (hDi : D 2 = false) hd hsh a' hs K hK => ?_) ?_
          · clear hs
            have n7 : D 7 = false := hsh.no hDi 7 rfl ⟨2, .data⟩ (by simp) rfl rfl
            have n8 : D 8 = false := hsh.no n7 8 rfl ⟨7, .data⟩ (by simp) rfl rfl
            have n9 : D 9 = false := hsh.no n8 9 rfl ⟨8, .data⟩ (by simp) rfl rfl
            have n11 : D 11 = false := hsh.no n9 11 rfl ⟨9, .data⟩ (by simp) rfl rfl
            go_simp
            refine hK (wx.heap.size, q.2) _
              (fun j hj => by
                match j, hj with
                | 0, hj => rfl
                | 1, hj => rfl
                | 2, hj => rw [hDi] at hj; cases hj
                | 3, hj => rfl
                | 4, hj => rfl
                | 5, hj => rfl
                | 6, hj => rfl
                | 7, hj => rw [n7] at hj; cases hj
                | 8, hj => rfl
                | 9, hj => rfl
                | 10, hj => rfl
                | 11, hj => rfl
                | _ + 12, hj => rfl)
              ((hR.add 6 (if_neg (by rw [hDi]; simp)) ((St.new1 wx #[.int .i64 5] 3).see fun F h _ => blk_ints (xs := [5]) h (by unfold maxLen; simp) (by intro x hx; rw [List.mem_singleton] at hx; subst hx; rfl) rfl)).congr
                (fun i => by
                  match i with
                  | 0 => rfl
                  | 1 => rfl
                  | 2 => rfl
                  | 3 => rfl
                  | 4 => rfl
                  | 5 => rfl
                  | 6 => (show (if D 9 = true then none else some (rInts _ _)) = some (rInts _ _); rw [n9]; rfl)
                  | 7 => (show (if D 8 = true then some (rBlk _ _ _) else none) = (if D 8 = true then some (rBlk _ _ _) else none); rw [n8]; rfl)
                  | q + 8 => exact (if_neg (show ¬ (q + 8 = 6) by omega)).symm))
          refine StepAll.cons (fun D q wx hR (hDi : D 3 = false) hd hsh a' hs K hK => ?_) ?_
          · have e6 := hs.old 6 (u := .slice (some ⟨b, off, none⟩) n c4) (by kernel_rfl) rfl
            clear hs
            go_simp
            exact hK q wx (fun _ _ => rfl) hR
          refine StepAll.cons (fun D q wx hR (hDi : D 4 = false) hd hsh a' hs K hK => ?_) ?_
          · have e7 := hs.old 7 (u := .int .i64 k) (by kernel_rfl) rfl
            clear hs
            go_simp
            exact hK q wx (fun _ _ => rfl) hR
          refine StepAll.cons (fun D q wx hR (hDi : D 5 = false) hd hsh a' hs K hK => ?_) ?_
          · have e37 := hs.at_ 3 37 (u := .slice (some ⟨b, off, none⟩) n c4) rfl (hd ⟨3, .data⟩ (by simp) rfl) (by kernel_rfl) (by kernel_rfl) rfl
            have e38 := hs.at_ 4 38 (u := .int .i64 k) rfl (hd ⟨4, .data⟩ (by simp) rfl) (by kernel_rfl) (by kernel_rfl) rfl
            clear hs
            go_simp
            exact hK q wx (fun _ _ => rfl) hR
          refine StepAll.cons (fun D q wx hR (hDi : D 6 = false) hd hsh a' hs K hK => ?_) ?_
          · have e39 := hs.at_ 5 39 (u := .pointer (some ⟨b, (off + k), none⟩)) rfl (hd ⟨5, .data⟩ (by simp) rfl) (by kernel_rfl) (by kernel_rfl) rfl
            clear hs
            obtain ⟨b0, off0, y0, hbe, -, hy0, -, hc0⟩ := (hR.rdI' 5 rfl).get hlt
            simp only [Option.some.injEq, Addr.mk.injEq, and_true] at hbe
            obtain ⟨rfl, rfl⟩ := hbe
            have hyy := hy0.symm.trans HY.out
            injection hyy with hyy
            rw [hyy] at hc0
            clear hy0 hyy
            go_simp
            exact hK q wx (fun _ _ => rfl) hR
          refine StepAll.cons (fun D q wx hR (hDi : D 7 = false) hd hsh a' hs K hK => ?_) ?_
          · have e36 := hs.at_ 2 36 (u := .slice (some ⟨q.1, 0, none⟩) 1 1) rfl (hd ⟨2, .data⟩ (by simp) rfl) (by kernel_rfl) (by kernel_rfl) rfl
            have e40 := hs.at_ 6 40 (u := .int .i64 y) rfl (hd ⟨6, .data⟩ (by simp) rfl) (by kernel_rfl) (by kernel_rfl) rfl
            have g36 := getQ e36
            have g40 := getQ e40
            clear hs
            go_simp
            exact hK q wx (fun _ _ => rfl) hR
          refine StepAll.cons (fun D q wx hR (hDi : D 8 = false) hd hsh a' hs K hK => ?_) ?_
          · have e41 := hs.at_ 7 41 (u := .agg #[.slice (some ⟨q.1, 0, none⟩) 1 1, .int .i64 0, .int .i64 0, .int .i64 y]) rfl (hd ⟨7, .data⟩ (by simp) rfl) (by kernel_rfl) (by kernel_rfl) rfl
            have g41 := getQ e41
            clear hs
            have n9 : D 9 = false := hsh.no hDi 9 rfl ⟨8, .data⟩ (by simp) rfl rfl
            go_simp
            refine hK (q.1, wx.heap.size, q.2.2) _
              (fun j hj => by
                match j, hj with
                | 0, hj => rfl
                | 1, hj => rfl
                | 2, hj => rfl
                | 3, hj => rfl
                | 4, hj => rfl
                | 5, hj => rfl
                | 6, hj => rfl
                | 7, hj => rfl
                | 8, hj => rw [hDi] at hj; cases hj
                | 9, hj => rfl
                | 10, hj => rfl
                | 11, hj => rfl
                | _ + 12, hj => rfl)
              ((hR.add 7 (if_neg (by rw [hDi]; simp)) (St.new1 wx #[.slice (some ⟨q.1, 0, none⟩) 1 1, .int .i64 0, .int .i64 0, .int .i64 y] 36)).congr
                (fun i => by
                  match i with
                  | 0 => rfl
                  | 1 => rfl
                  | 2 => rfl
                  | 3 => rfl
                  | 4 => rfl
                  | 5 => rfl
                  | 6 => rfl
                  | 7 => rfl
                  | q + 8 => exact (if_neg (show ¬ (q + 8 = 7) by omega)).symm))
          refine StepAll.cons (fun D q wx hR (hDi : D 9 = false) hd hsh a' hs K hK => ?_) ?_
          · have e35 := hs.at_ 1 35 (u := dv) rfl (hd ⟨1, .data⟩ (by simp) rfl) (by kernel_rfl) (by kernel_rfl) rfl
            have e42 := hs.at_ 8 42 (u := .slice (some ⟨q.2.1, 0, none⟩) 1 1) rfl (hd ⟨8, .data⟩ (by simp) rfl) (by kernel_rfl) (by kernel_rfl) rfl
            have g35 := getQ e35
            have g42 := getQ e42
            clear hs
            have n11 : D 11 = false := hsh.no hDi 11 rfl ⟨9, .data⟩ (by simp) rfl rfl
            have d27 : D 8 = true := hd ⟨8, .data⟩ (by simp) rfl
            have d26 : D 7 = true := hsh 8 _ rfl d27 ⟨7, .data⟩ (by simp) rfl
            have d5 : D 2 = true := hsh 7 _ rfl d26 ⟨2, .data⟩ (by simp) rfl
            obtain ⟨F, cells, Fs, ho, -⟩ := hR.deeds 0 (v := dv) (ds := (ys.take k).map deedL) (by simp only [hDi]; rfl)
            have kb : Blk wx q.2.1 36 #[.slice (some ⟨q.1, 0, none⟩) 1 1, .int .i64 0, .int .i64 0, .int .i64 y] := hR.blk 7 (by simp only [d27]; rfl)
            refine wp_app1 elDeed (.tmp 35) (.tmp 42) rfl 0 dv _ cells e35 ho.row _ _ 1 1 [.slice (some ⟨q.1, 0, none⟩) 1 1, .int .i64 0, .int .i64 0, .int .i64 y] e42 (RdRow.of_blk kb 4 1 rfl (by unfold maxLen; omega)) (by omega) (by simp [Value.oneCell']) (by rw [HTL.out]; omega) (by rw [HTL.out]; omega) (by omega) ?_
            intro v' w' hown hg hat
            obtain ⟨A5, c5, hv⟩ := own_form hown
            rw [HTL.out] at hv
            subst hv
            exact hK (q.1, q.2.1, A5, c5) w'
              (fun j hj => by
                match j, hj with
                | 0, hj => rfl
                | 1, hj => rfl
                | 2, hj => rfl
                | 3, hj => rfl
                | 4, hj => rfl
                | 5, hj => rfl
                | 6, hj => rfl
                | 7, hj => rfl
                | 8, hj => rfl
                | 9, hj => rw [hDi] at hj; cases hj
                | 10, hj => rfl
                | 11, hj => rfl
                | _ + 12, hj => rfl)
              ((hR.push 0 6 (by decide) (v := dv) (nv := .slice (some ⟨q.1, 0, none⟩) 1 1) (ds := (ys.take k).map deedL) (d := deedL y) (by simp only [hDi]; rfl) (by simp only [d5, hDi]; rfl) (by simp [deedL]) ⟨rfl, rfl, HWY.out⟩ (by rw [HTL.out]; omega) rfl ho.row hown hg hat).congr
                (fun i => by
                  match i with
                  | 0 => rfl
                  | 1 => rfl
                  | 2 => rfl
                  | 3 => rfl
                  | 4 => (show some (rBlk _ _ (if D 11 = true then _ else _)) = some (rBlk _ _ (if D 11 = true then _ else _)); rw [n11]; rfl)
                  | 5 => rfl
                  | 6 => (show (if D 2 = true then none else none) = none; rw [d5]; rfl)
                  | 7 => rfl
                  | q + 8 => exact ((if_neg (show ¬ (q + 8 = 0) by omega)).trans (if_neg (show ¬ (q + 8 = 6) by omega))).symm))
          refine StepAll.cons (fun D q wx hR (hDi : D 10 = false) hd hsh a' hs K hK => ?_) ?_
          · have e5 := hs.old 5 (u := .pointer (some ⟨T, 0, none⟩)) (by kernel_rfl) rfl
            clear hs
            go_simp
            exact hK q wx (fun _ _ => rfl) hR
          refine StepAll.cons (fun D q wx hR (hDi : D 11 = false) hd hsh a' hs K hK => ?_) ?_
          · have e44 := hs.at_ 10 44 (u := .pointer (some ⟨T, 2, none⟩)) rfl (hd ⟨10, .data⟩ (by simp) rfl) (by kernel_rfl) (by kernel_rfl) rfl
            have e43 := hs.at_ 9 43 (u := .slice q.2.2.1 (k + 1) q.2.2.2) rfl (hd ⟨9, .data⟩ (by simp) rfl) (by kernel_rfl) (by kernel_rfl) rfl
            clear hs
            have kb : Blk wx T 30 #[.int .i64 s, .slice A2 (noneI n).length c2, dv] := hR.blk 4 (by simp only [hDi]; rfl)
            have f0 := kb.frozen
            have c2' : wx.cell? ⟨T, 2, none⟩ = some dv := kb.cell 2
            go_simp
            exact hK q _ (fun _ _ => rfl) ((hR.set 4 (cs := #[.int .i64 s, .slice A2 (noneI n).length c2, dv]) (by simp only [hDi]; rfl) 2 _).congr
              (fun i => by
                match i with
                | 0 => rfl
                | 1 => rfl
                | 2 => rfl
                | 3 => rfl
                | 4 => rfl
                | 5 => rfl
                | 6 => rfl
                | 7 => rfl
                | q + 8 => exact (if_neg (show ¬ (q + 8 = 4) by omega)).symm))
          exact StepAll.nil
        · intro D q wx hR hD
          simp only [putA, Act.put, List.setIfInBounds_toArray, List.set_cons_zero, List.set_cons_succ]
          go_wp2
          go_roundw
          case rel =>
            refine ⟨k + 1, .slice q.2.2.1 (k + 1) q.2.2.2, by omega, by go_num, ((hR.drop 7).congr fun i => ?_)⟩
            match i with
            | 0 => first | rfl | (simp only [hD 9 (by decide), hD 11 (by decide), hD 2 (by decide), hD 8 (by decide)]; first | done | rfl | (rw [HD.out]; rfl)) | (rw [HD.out]; simp only [hD 9 (by decide), hD 11 (by decide), hD 2 (by decide), hD 8 (by decide)]; first | done | rfl)
            | 1 => first | rfl | (simp only [hD 9 (by decide), hD 11 (by decide), hD 2 (by decide), hD 8 (by decide)]; first | done | rfl | (rw [HD.out]; rfl)) | (rw [HD.out]; simp only [hD 9 (by decide), hD 11 (by decide), hD 2 (by decide), hD 8 (by decide)]; first | done | rfl)
            | 2 => first | rfl | (simp only [hD 9 (by decide), hD 11 (by decide), hD 2 (by decide), hD 8 (by decide)]; first | done | rfl | (rw [HD.out]; rfl)) | (rw [HD.out]; simp only [hD 9 (by decide), hD 11 (by decide), hD 2 (by decide), hD 8 (by decide)]; first | done | rfl)
            | 3 => first | rfl | (simp only [hD 9 (by decide), hD 11 (by decide), hD 2 (by decide), hD 8 (by decide)]; first | done | rfl | (rw [HD.out]; rfl)) | (rw [HD.out]; simp only [hD 9 (by decide), hD 11 (by decide), hD 2 (by decide), hD 8 (by decide)]; first | done | rfl)
            | 4 => first | rfl | (simp only [hD 9 (by decide), hD 11 (by decide), hD 2 (by decide), hD 8 (by decide)]; first | done | rfl | (rw [HD.out]; rfl)) | (rw [HD.out]; simp only [hD 9 (by decide), hD 11 (by decide), hD 2 (by decide), hD 8 (by decide)]; first | done | rfl)
            | 5 => first | rfl | (simp only [hD 9 (by decide), hD 11 (by decide), hD 2 (by decide), hD 8 (by decide)]; first | done | rfl | (rw [HD.out]; rfl)) | (rw [HD.out]; simp only [hD 9 (by decide), hD 11 (by decide), hD 2 (by decide), hD 8 (by decide)]; first | done | rfl)
            | 6 => first | rfl | (simp only [hD 9 (by decide), hD 11 (by decide), hD 2 (by decide), hD 8 (by decide)]; first | done | rfl | (rw [HD.out]; rfl)) | (rw [HD.out]; simp only [hD 9 (by decide), hD 11 (by decide), hD 2 (by decide), hD 8 (by decide)]; first | done | rfl)
            | 7 => first | rfl | (simp only [hD 9 (by decide), hD 11 (by decide), hD 2 (by decide), hD 8 (by decide)]; first | done | rfl | (rw [HD.out]; rfl)) | (rw [HD.out]; simp only [hD 9 (by decide), hD 11 (by decide), hD 2 (by decide), hD 8 (by decide)]; first | done | rfl)
            | q + 8 => simp
          case measure => simp [intOf]; omega
      · have hkn : k = n := by omega
        subst hkn
        have HTK : Hid (ys.take k = ys) := Lib.hid (by rw [← HYL.out, List.take_length])
        have S5 := M.to_st (L := [rInts (.slice A2 (noneI k).length c2) (noneI k), rDeeds dv (ys.map deedL), rBlk T 30 #[.int .i64 s, .slice A2 (noneI k).length c2, dv], rBlk (w.heap.size + 1) 30 #[.int .i64 0, .slice none 0 0, .slice none 0 0]]) [3, 0, 4, 2] (by decide) (by
          simp only [List.map]; rw [HTK.out])
        obtain ⟨Ad, cd, hdv, -⟩ := S5.rdDs 1 rfl
        rw [List.length_map, HYL.out] at hdv
        subst hdv
        have S6 := S5.task (s := s) (by have := noneI_len k; omega) hs
        have a0 : ∀ j, wr.cell? ⟨T, j, none⟩ = _ := S6.cells 1 rfl
        have r0 : ∀ j, wr.cell? ⟨w.heap.size + 1, j, none⟩ = _ := S6.cells 2 rfl
        have fr := S6.free 2 rfl
        have HS6 := Lib.hid S6
        clear M S5 S6
        go_wp2
        refine bodyPost_ret (v := .agg #[.int .i64 s, .slice A2 (noneI k).length c2, .slice Ad k cd]) (by simp [results, Try.results7, go_sem, r0, a0]) rfl ⟨.agg #[.int .i64 s, .slice A2 (noneI k).length c2, .slice Ad k cd], rfl, ?_⟩
        rw [HV.out]
        exact (HS6.out.set3 2 rfl _ _ _).pick [0] (by decide) rfl rfl
end Go.Proofs.Ytfgebdioffeliaa
