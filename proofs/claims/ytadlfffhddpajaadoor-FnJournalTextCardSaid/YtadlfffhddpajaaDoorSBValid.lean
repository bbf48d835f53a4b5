/- BookValid and BookEnded, of the program and of the reference: each returns one plain function, for every book. -/
import Derived.Test.YtadlfffhddpajaaDoorSPlanW
namespace Go.Proofs.YtadlfffhddpajaaDoor
set_option linter.unusedVariables false
set_option linter.unusedSimpArgs false
open Go.ChangeShapes Go.WideShapes Go.ChangeAt Go.RowKit

def bookOk (b : BookD) : Bool := taskOk b.order && decide (b.done.length ≤ 40) && stIn b.state && (planRun b.order b.order.start b.done == b.state)
theorem planRun_bd (t : TaskD) (s : Int) (p : List Int) : (0 ≤ planRun t s p → taskOk t = true ∧ stIn s = true ∧ p.length ≤ 40 ∧ planRun t s p < 32) ∧ -1 ≤ planRun t s p := by
  unfold planRun
  split
  · rename_i h
    obtain ⟨h1, h2, h3⟩ := h
    cases hr : runP t s.toNat p with
    | none => simp [opt]
    | some s' =>
      have := runP_lt t s.toNat p s' h1 (by have := (stIn_iff s).1 h2; omega) hr
      simp only [opt]
      exact ⟨fun _ => ⟨h1, h2, h3, by omega⟩, by omega⟩
  · exact ⟨fun h => absurd h (by omega), by omega⟩
theorem bookOk_spec (b : BookD) : bookOk b = (taskOk b.order && (planRun b.order b.order.start b.done == b.state) && decide (0 ≤ b.state)) := by
  unfold bookOk
  have h := planRun_bd b.order b.order.start b.done
  cases h1 : taskOk b.order
  · simp
  by_cases h2 : planRun b.order b.order.start b.done = b.state
  · by_cases h3 : 0 ≤ b.state
    · obtain ⟨_, _, h4, h5⟩ := h.1 (by omega)
      simp [h2, h3, h4, stIn]; omega
    · have : stIn b.state = false := (stIn_no _).2 (by omega)
      simp [h2, h3, this]
  · have : (planRun b.order b.order.start b.done == b.state) = false := by simpa using h2
    rw [this]; simp
/-- codes that run -/
def codeRun (xs : List Int) (s : Int) : Bool := codeOk xs && stIn s && evalCode xs s.toNat
def bookEnded (b : BookD) : Bool := bookOk b && evalCode b.order.goal b.state.toNat
section
variable {w : World}
end
set_option maxHeartbeats 1000000 in
theorem bookValid_spec (v : Value) (b : BookD) (w : World) (h : RdB w w.heap.size v b) :
    Calls Tryd.prog 65 #[v] w fun e w' => e = .returned (.bool (bookOk b)) ∧ Below w.heap.size w w' := by
  obtain ⟨A, n, c, A', n', c', A2, n2, c2, hv⟩ := h.form
  subst hv
  obtain ⟨hdn, hdl, hst, -⟩ := h.done
  have hl := hdn.len
  have hcp := hdn.cap
  have hcm := hdn.capMax
  unfold maxLen at hcm
  have HL := Lib.hid hl
  have S0 := (St.refl w).alloc #[.int .i64 b.order.start, .slice A n c, .slice A' n' c', .slice A2 n2 c2, .int .i64 b.state] 62
  have HO := Lib.hid h.order
  have HD := Lib.hid hdn
  have HS0 := Lib.hid S0
  clear S0 hl hdn
  obtain ⟨bo, hok⟩ : ∃ b', taskOk b.order = b' := ⟨_, rfl⟩
  have HOK := Lib.hid hok
  clear hok
  obtain ⟨bp, hp⟩ : ∃ b', (planRun b.order b.order.start b.done == b.state) = b' := ⟨_, rfl⟩
  have HP := Lib.hid hp
  clear hp
  obtain ⟨bn, hn⟩ : ∃ b', decide (0 ≤ b.state) = b' := ⟨_, rfl⟩
  have HN := Lib.hid hn
  clear hn
  cases bo with
  | false =>
    go_enter Tryd.func65, Tryd.ntmps65
    go_upto_region 1 with (fail)
    refine wp_reg (σ := Nat) (by kernel_rfl) (by kernel_rfl) (by kernel_rfl)
      (fun s i => match i with
        | 0 => .pointer (some ⟨w.heap.size, 0, none⟩)
        | 1 => .agg #[.int .i64 b.order.start, .slice A n c, .slice A' n' c']
        | 2 => .bool false
        | 3 => .bool false
        | 15 => .bool false
        | 16 => .bool false
        | 20 => .bool false
        | 21 => .bool false
        | _ => undef)
      (fun D s wx => Sn w wx fun i => match i with
        | 0 => some (rBlk w.heap.size 62 #[.int .i64 b.order.start, .slice A n c, .slice A' n' c', .slice A2 n2 c2, .int .i64 b.state])
        | _ => none)
      0 ?_ ?_ ?_
    · intro D hD
      refine ((Sn.of_st HS0.out).quiet ((Below.refl _ _).drew)).congr fun i => ?_
      match i with
      | 0 => rfl
      | q + 1 => rfl
    · refine StepAll.cons (fun D s wx hR (hDi : D 0 = false) hd hsh a' hs K hK => ?_) ?_
      · have e1 := hs.old 1 (u := .pointer (some ⟨w.heap.size, 0, none⟩)) (by kernel_rfl) rfl
        clear hs
        go_simp
        exact hK s wx (fun _ _ => rfl) hR
      refine StepAll.cons (fun D s wx hR (hDi : D 1 = false) hd hsh a' hs K hK => ?_) ?_
      · have e3 := hs.at_ 0 3 (u := .pointer (some ⟨w.heap.size, 0, none⟩)) rfl (hd ⟨0, .data⟩ (by simp) rfl) (by kernel_rfl) (by kernel_rfl) rfl
        clear hs
        have kb : Blk wx (w.heap.size) 62 #[.int .i64 b.order.start, .slice A n c, .slice A' n' c', .slice A2 n2 c2, .int .i64 b.state] := hR.blk 0 rfl
        have c0 : wx.cell? ⟨w.heap.size, 0, none⟩ = some (.int .i64 b.order.start) := kb.cell 0
        have c1 : wx.cell? ⟨w.heap.size, 1, none⟩ = some (.slice A n c) := kb.cell 1
        have c2 : wx.cell? ⟨w.heap.size, 2, none⟩ = some (.slice A' n' c') := kb.cell 2
        go_simp
        exact hK s wx (fun _ _ => rfl) hR
      refine StepAll.cons (fun D s wx hR (hDi : D 2 = false) hd hsh a' hs K hK => ?_) ?_
      · have e4 := hs.at_ 1 4 (u := .agg #[.int .i64 b.order.start, .slice A n c, .slice A' n' c']) rfl (hd ⟨1, .data⟩ (by simp) rfl) (by kernel_rfl) (by kernel_rfl) rfl
        have g4 := getQ e4
        clear hs
        go_simp
        refine (taskValid_spec _ b.order _ (HO.out.up hR.below)).mono ?_
        rw [HOK.out]
        rintro e w3 ⟨rfl, hb3⟩
        exact hK s w3 (fun _ _ => rfl) (hR.quiet hb3)
      refine StepAll.cons (fun D s wx hR (hDi : D 3 = false) hd hsh a' hs K hK => ?_) ?_
      · have e5 := hs.at_ 2 5 (u := .bool false) rfl (hd ⟨2, .data⟩ (by simp) rfl) (by kernel_rfl) (by kernel_rfl) rfl
        clear hs
        go_simp
        exact hK s wx (fun _ _ => rfl) hR
      refine StepAll.consG (fun D s wx hR (hDi : D 4 = false) hd hsh a' hs K hK => ?_) ?_
      · have eg := hs.at_ 3 6 (u := .bool false) rfl (hd ⟨3, .guard⟩ (by simp) rfl) (by kernel_rfl) (by kernel_rfl) rfl
        rw [if_neg (by rw [hs.wants (j := 3) (t := 6) rfl rfl eg (by kernel_rfl)]; simp)]
        exact hK s wx (fun _ _ => rfl) hR
      refine StepAll.consG (fun D s wx hR (hDi : D 5 = false) hd hsh a' hs K hK => ?_) ?_
      · have eg := hs.at_ 3 6 (u := .bool false) rfl (hd ⟨3, .guard⟩ (by simp) rfl) (by kernel_rfl) (by kernel_rfl) rfl
        rw [if_neg (by rw [hs.wants (j := 3) (t := 6) rfl rfl eg (by kernel_rfl)]; simp)]
        exact hK s wx (fun _ _ => rfl) hR
      refine StepAll.consG (fun D s wx hR (hDi : D 6 = false) hd hsh a' hs K hK => ?_) ?_
      · have eg := hs.at_ 3 6 (u := .bool false) rfl (hd ⟨3, .guard⟩ (by simp) rfl) (by kernel_rfl) (by kernel_rfl) rfl
        rw [if_neg (by rw [hs.wants (j := 3) (t := 6) rfl rfl eg (by kernel_rfl)]; simp)]
        exact hK s wx (fun _ _ => rfl) hR
      refine StepAll.consG (fun D s wx hR (hDi : D 7 = false) hd hsh a' hs K hK => ?_) ?_
      · have eg := hs.at_ 3 6 (u := .bool false) rfl (hd ⟨3, .guard⟩ (by simp) rfl) (by kernel_rfl) (by kernel_rfl) rfl
        rw [if_neg (by rw [hs.wants (j := 3) (t := 6) rfl rfl eg (by kernel_rfl)]; simp)]
        exact hK s wx (fun _ _ => rfl) hR
      refine StepAll.consG (fun D s wx hR (hDi : D 8 = false) hd hsh a' hs K hK => ?_) ?_
      · have eg := hs.at_ 3 6 (u := .bool false) rfl (hd ⟨3, .guard⟩ (by simp) rfl) (by kernel_rfl) (by kernel_rfl) rfl
        rw [if_neg (by rw [hs.wants (j := 3) (t := 6) rfl rfl eg (by kernel_rfl)]; simp)]
        exact hK s wx (fun _ _ => rfl) hR
      refine StepAll.consG (fun D s wx hR (hDi : D 9 = false) hd hsh a' hs K hK => ?_) ?_
      · have eg := hs.at_ 3 6 (u := .bool false) rfl (hd ⟨3, .guard⟩ (by simp) rfl) (by kernel_rfl) (by kernel_rfl) rfl
        rw [if_neg (by rw [hs.wants (j := 3) (t := 6) rfl rfl eg (by kernel_rfl)]; simp)]
        exact hK s wx (fun _ _ => rfl) hR
      refine StepAll.consG (fun D s wx hR (hDi : D 10 = false) hd hsh a' hs K hK => ?_) ?_
      · have eg := hs.at_ 3 6 (u := .bool false) rfl (hd ⟨3, .guard⟩ (by simp) rfl) (by kernel_rfl) (by kernel_rfl) rfl
        rw [if_neg (by rw [hs.wants (j := 3) (t := 6) rfl rfl eg (by kernel_rfl)]; simp)]
        exact hK s wx (fun _ _ => rfl) hR
      refine StepAll.consG (fun D s wx hR (hDi : D 11 = false) hd hsh a' hs K hK => ?_) ?_
      · have eg := hs.at_ 3 6 (u := .bool false) rfl (hd ⟨3, .guard⟩ (by simp) rfl) (by kernel_rfl) (by kernel_rfl) rfl
        rw [if_neg (by rw [hs.wants (j := 3) (t := 6) rfl rfl eg (by kernel_rfl)]; simp)]
        exact hK s wx (fun _ _ => rfl) hR
      refine StepAll.consG (fun D s wx hR (hDi : D 12 = false) hd hsh a' hs K hK => ?_) ?_
      · have eg := hs.at_ 3 6 (u := .bool false) rfl (hd ⟨3, .guard⟩ (by simp) rfl) (by kernel_rfl) (by kernel_rfl) rfl
        rw [if_neg (by rw [hs.wants (j := 3) (t := 6) rfl rfl eg (by kernel_rfl)]; simp)]
        exact hK s wx (fun _ _ => rfl) hR
      refine StepAll.consG (fun D s wx hR (hDi : D 13 = false) hd hsh a' hs K hK => ?_) ?_
      · have eg := hs.at_ 3 6 (u := .bool false) rfl (hd ⟨3, .guard⟩ (by simp) rfl) (by kernel_rfl) (by kernel_rfl) rfl
        rw [if_neg (by rw [hs.wants (j := 3) (t := 6) rfl rfl eg (by kernel_rfl)]; simp)]
        exact hK s wx (fun _ _ => rfl) hR
      refine StepAll.consG (fun D s wx hR (hDi : D 14 = false) hd hsh a' hs K hK => ?_) ?_
      · have eg := hs.at_ 3 6 (u := .bool false) rfl (hd ⟨3, .guard⟩ (by simp) rfl) (by kernel_rfl) (by kernel_rfl) rfl
        rw [if_neg (by rw [hs.wants (j := 3) (t := 6) rfl rfl eg (by kernel_rfl)]; simp)]
        exact hK s wx (fun _ _ => rfl) hR
      refine StepAll.cons (fun D s wx hR (hDi : D 15 = false) hd hsh a' hs K hK => ?_) ?_
      · have e6 := hs.at_ 3 6 (u := .bool false) rfl (hd ⟨3, .data⟩ (by simp) rfl) (by kernel_rfl) (by kernel_rfl) rfl
        have e17 := hs.at_ 14 17 (u := undef) rfl (hd ⟨14, .data⟩ (by simp) rfl) (by kernel_rfl) (by kernel_rfl) rfl
        clear hs
        go_simp
        exact hK s wx (fun _ _ => rfl) hR
      refine StepAll.cons (fun D s wx hR (hDi : D 16 = false) hd hsh a' hs K hK => ?_) ?_
      · have e18 := hs.at_ 15 18 (u := .bool false) rfl (hd ⟨15, .data⟩ (by simp) rfl) (by kernel_rfl) (by kernel_rfl) rfl
        clear hs
        go_simp
        exact hK s wx (fun _ _ => rfl) hR
      refine StepAll.consG (fun D s wx hR (hDi : D 17 = false) hd hsh a' hs K hK => ?_) ?_
      · have eg := hs.at_ 16 19 (u := .bool false) rfl (hd ⟨16, .guard⟩ (by simp) rfl) (by kernel_rfl) (by kernel_rfl) rfl
        rw [if_neg (by rw [hs.wants (j := 16) (t := 19) rfl rfl eg (by kernel_rfl)]; simp)]
        exact hK s wx (fun _ _ => rfl) hR
      refine StepAll.consG (fun D s wx hR (hDi : D 18 = false) hd hsh a' hs K hK => ?_) ?_
      · have eg := hs.at_ 16 19 (u := .bool false) rfl (hd ⟨16, .guard⟩ (by simp) rfl) (by kernel_rfl) (by kernel_rfl) rfl
        rw [if_neg (by rw [hs.wants (j := 16) (t := 19) rfl rfl eg (by kernel_rfl)]; simp)]
        exact hK s wx (fun _ _ => rfl) hR
      refine StepAll.consG (fun D s wx hR (hDi : D 19 = false) hd hsh a' hs K hK => ?_) ?_
      · have eg := hs.at_ 16 19 (u := .bool false) rfl (hd ⟨16, .guard⟩ (by simp) rfl) (by kernel_rfl) (by kernel_rfl) rfl
        rw [if_neg (by rw [hs.wants (j := 16) (t := 19) rfl rfl eg (by kernel_rfl)]; simp)]
        exact hK s wx (fun _ _ => rfl) hR
      refine StepAll.cons (fun D s wx hR (hDi : D 20 = false) hd hsh a' hs K hK => ?_) ?_
      · have e19 := hs.at_ 16 19 (u := .bool false) rfl (hd ⟨16, .data⟩ (by simp) rfl) (by kernel_rfl) (by kernel_rfl) rfl
        have e22 := hs.at_ 19 22 (u := undef) rfl (hd ⟨19, .data⟩ (by simp) rfl) (by kernel_rfl) (by kernel_rfl) rfl
        clear hs
        go_simp
        exact hK s wx (fun _ _ => rfl) hR
      refine StepAll.cons (fun D s wx hR (hDi : D 21 = false) hd hsh a' hs K hK => ?_) ?_
      · have e23 := hs.at_ 20 23 (u := .bool false) rfl (hd ⟨20, .data⟩ (by simp) rfl) (by kernel_rfl) (by kernel_rfl) rfl
        clear hs
        go_simp
        exact hK s wx (fun _ _ => rfl) hR
      exact StepAll.nil
    · intro D s wx hR hD
      simp only [putA, Act.put, List.setIfInBounds_toArray, List.set_cons_zero, List.set_cons_succ]
      have M3 := hR.below
      clear hR hD
      go_wp2
      go_ret
      exact ⟨ret_bool (by rw [bookOk_spec, HOK.out]; rfl), M3⟩
  | true =>
    cases bp with
    | false =>
    go_enter Tryd.func65, Tryd.ntmps65
    go_upto_region 1 with (fail)
    refine wp_reg (σ := Nat) (by kernel_rfl) (by kernel_rfl) (by kernel_rfl)
      (fun s i => match i with
        | 0 => .pointer (some ⟨w.heap.size, 0, none⟩)
        | 1 => .agg #[.int .i64 b.order.start, .slice A n c, .slice A' n' c']
        | 2 => .bool true
        | 3 => .bool true
        | 4 => .pointer (some ⟨w.heap.size, 0, none⟩)
        | 5 => .agg #[.int .i64 b.order.start, .slice A n c, .slice A' n' c']
        | 6 => .pointer (some ⟨w.heap.size, 0, none⟩)
        | 7 => .pointer (some ⟨w.heap.size, 0, none⟩)
        | 8 => .int .i64 b.order.start
        | 9 => .pointer (some ⟨w.heap.size, 3, none⟩)
        | 10 => .slice A2 n2 c2
        | 11 => .int .i64 (planRun b.order b.order.start b.done)
        | 12 => .pointer (some ⟨w.heap.size, 4, none⟩)
        | 13 => .int .i64 b.state
        | 14 => .bool false
        | 15 => .bool false
        | 16 => .bool false
        | 20 => .bool false
        | 21 => .bool false
        | _ => undef)
      (fun D s wx => Sn w wx fun i => match i with
        | 0 => some (rBlk w.heap.size 62 #[.int .i64 b.order.start, .slice A n c, .slice A' n' c', .slice A2 n2 c2, .int .i64 b.state])
        | _ => none)
      0 ?_ ?_ ?_
    · intro D hD
      refine ((Sn.of_st HS0.out).quiet ((Below.refl _ _).drew)).congr fun i => ?_
      match i with
      | 0 => rfl
      | q + 1 => rfl
    · refine StepAll.cons (fun D s wx hR (hDi : D 0 = false) hd hsh a' hs K hK => ?_) ?_
      · have e1 := hs.old 1 (u := .pointer (some ⟨w.heap.size, 0, none⟩)) (by kernel_rfl) rfl
        clear hs
        go_simp
        exact hK s wx (fun _ _ => rfl) hR
      refine StepAll.cons (fun D s wx hR (hDi : D 1 = false) hd hsh a' hs K hK => ?_) ?_
      · have e3 := hs.at_ 0 3 (u := .pointer (some ⟨w.heap.size, 0, none⟩)) rfl (hd ⟨0, .data⟩ (by simp) rfl) (by kernel_rfl) (by kernel_rfl) rfl
        clear hs
        have kb : Blk wx (w.heap.size) 62 #[.int .i64 b.order.start, .slice A n c, .slice A' n' c', .slice A2 n2 c2, .int .i64 b.state] := hR.blk 0 rfl
        have c0 : wx.cell? ⟨w.heap.size, 0, none⟩ = some (.int .i64 b.order.start) := kb.cell 0
        have c1 : wx.cell? ⟨w.heap.size, 1, none⟩ = some (.slice A n c) := kb.cell 1
        have c2 : wx.cell? ⟨w.heap.size, 2, none⟩ = some (.slice A' n' c') := kb.cell 2
        go_simp
        exact hK s wx (fun _ _ => rfl) hR
      refine StepAll.cons (fun D s wx hR (hDi : D 2 = false) hd hsh a' hs K hK => ?_) ?_
      · have e4 := hs.at_ 1 4 (u := .agg #[.int .i64 b.order.start, .slice A n c, .slice A' n' c']) rfl (hd ⟨1, .data⟩ (by simp) rfl) (by kernel_rfl) (by kernel_rfl) rfl
        have g4 := getQ e4
        clear hs
        go_simp
        refine (taskValid_spec _ b.order _ (HO.out.up hR.below)).mono ?_
        rw [HOK.out]
        rintro e w3 ⟨rfl, hb3⟩
        exact hK s w3 (fun _ _ => rfl) (hR.quiet hb3)
      refine StepAll.cons (fun D s wx hR (hDi : D 3 = false) hd hsh a' hs K hK => ?_) ?_
      · have e5 := hs.at_ 2 5 (u := .bool true) rfl (hd ⟨2, .data⟩ (by simp) rfl) (by kernel_rfl) (by kernel_rfl) rfl
        clear hs
        go_simp
        exact hK s wx (fun _ _ => rfl) hR
      refine StepAll.consG (fun D s wx hR (hDi : D 4 = false) hd hsh a' hs K hK => ?_) ?_
      · have eg := hs.at_ 3 6 (u := .bool true) rfl (hd ⟨3, .guard⟩ (by simp) rfl) (by kernel_rfl) (by kernel_rfl) rfl
        rw [if_pos (by rw [hs.wants (j := 3) (t := 6) rfl rfl eg (by kernel_rfl)]; rfl)]
        have e1 := hs.old 1 (u := .pointer (some ⟨w.heap.size, 0, none⟩)) (by kernel_rfl) rfl
        clear hs
        go_simp
        exact hK s wx (fun _ _ => rfl) hR
      refine StepAll.consG (fun D s wx hR (hDi : D 5 = false) hd hsh a' hs K hK => ?_) ?_
      · have eg := hs.at_ 3 6 (u := .bool true) rfl (hd ⟨3, .guard⟩ (by simp) rfl) (by kernel_rfl) (by kernel_rfl) rfl
        rw [if_pos (by rw [hs.wants (j := 3) (t := 6) rfl rfl eg (by kernel_rfl)]; rfl)]
        have e7 := hs.at_ 4 7 (u := .pointer (some ⟨w.heap.size, 0, none⟩)) rfl (hd ⟨4, .data⟩ (by simp) rfl) (by kernel_rfl) (by kernel_rfl) rfl
        clear hs
        have kb : Blk wx (w.heap.size) 62 #[.int .i64 b.order.start, .slice A n c, .slice A' n' c', .slice A2 n2 c2, .int .i64 b.state] := hR.blk 0 rfl
        have c0 : wx.cell? ⟨w.heap.size, 0, none⟩ = some (.int .i64 b.order.start) := kb.cell 0
        have c1 : wx.cell? ⟨w.heap.size, 1, none⟩ = some (.slice A n c) := kb.cell 1
        have c2 : wx.cell? ⟨w.heap.size, 2, none⟩ = some (.slice A' n' c') := kb.cell 2
        go_simp
        exact hK s wx (fun _ _ => rfl) hR
      refine StepAll.consG (fun D s wx hR (hDi : D 6 = false) hd hsh a' hs K hK => ?_) ?_
      · have eg := hs.at_ 3 6 (u := .bool true) rfl (hd ⟨3, .guard⟩ (by simp) rfl) (by kernel_rfl) (by kernel_rfl) rfl
        rw [if_pos (by rw [hs.wants (j := 3) (t := 6) rfl rfl eg (by kernel_rfl)]; rfl)]
        have e1 := hs.old 1 (u := .pointer (some ⟨w.heap.size, 0, none⟩)) (by kernel_rfl) rfl
        clear hs
        go_simp
        exact hK s wx (fun _ _ => rfl) hR
      refine StepAll.consG (fun D s wx hR (hDi : D 7 = false) hd hsh a' hs K hK => ?_) ?_
      · have eg := hs.at_ 3 6 (u := .bool true) rfl (hd ⟨3, .guard⟩ (by simp) rfl) (by kernel_rfl) (by kernel_rfl) rfl
        rw [if_pos (by rw [hs.wants (j := 3) (t := 6) rfl rfl eg (by kernel_rfl)]; rfl)]
        have e9 := hs.at_ 6 9 (u := .pointer (some ⟨w.heap.size, 0, none⟩)) rfl (hd ⟨6, .data⟩ (by simp) rfl) (by kernel_rfl) (by kernel_rfl) rfl
        clear hs
        go_simp
        exact hK s wx (fun _ _ => rfl) hR
      refine StepAll.consG (fun D s wx hR (hDi : D 8 = false) hd hsh a' hs K hK => ?_) ?_
      · have eg := hs.at_ 3 6 (u := .bool true) rfl (hd ⟨3, .guard⟩ (by simp) rfl) (by kernel_rfl) (by kernel_rfl) rfl
        rw [if_pos (by rw [hs.wants (j := 3) (t := 6) rfl rfl eg (by kernel_rfl)]; rfl)]
        have e10 := hs.at_ 7 10 (u := .pointer (some ⟨w.heap.size, 0, none⟩)) rfl (hd ⟨7, .data⟩ (by simp) rfl) (by kernel_rfl) (by kernel_rfl) rfl
        clear hs
        have kb : Blk wx (w.heap.size) 62 #[.int .i64 b.order.start, .slice A n c, .slice A' n' c', .slice A2 n2 c2, .int .i64 b.state] := hR.blk 0 rfl
        have c0 : wx.cell? ⟨w.heap.size, 0, none⟩ = some (.int .i64 b.order.start) := kb.cell 0
        go_simp
        exact hK s wx (fun _ _ => rfl) hR
      refine StepAll.consG (fun D s wx hR (hDi : D 9 = false) hd hsh a' hs K hK => ?_) ?_
      · have eg := hs.at_ 3 6 (u := .bool true) rfl (hd ⟨3, .guard⟩ (by simp) rfl) (by kernel_rfl) (by kernel_rfl) rfl
        rw [if_pos (by rw [hs.wants (j := 3) (t := 6) rfl rfl eg (by kernel_rfl)]; rfl)]
        have e1 := hs.old 1 (u := .pointer (some ⟨w.heap.size, 0, none⟩)) (by kernel_rfl) rfl
        clear hs
        go_simp
        exact hK s wx (fun _ _ => rfl) hR
      refine StepAll.consG (fun D s wx hR (hDi : D 10 = false) hd hsh a' hs K hK => ?_) ?_
      · have eg := hs.at_ 3 6 (u := .bool true) rfl (hd ⟨3, .guard⟩ (by simp) rfl) (by kernel_rfl) (by kernel_rfl) rfl
        rw [if_pos (by rw [hs.wants (j := 3) (t := 6) rfl rfl eg (by kernel_rfl)]; rfl)]
        have e12 := hs.at_ 9 12 (u := .pointer (some ⟨w.heap.size, 3, none⟩)) rfl (hd ⟨9, .data⟩ (by simp) rfl) (by kernel_rfl) (by kernel_rfl) rfl
        clear hs
        have kb : Blk wx (w.heap.size) 62 #[.int .i64 b.order.start, .slice A n c, .slice A' n' c', .slice A2 n2 c2, .int .i64 b.state] := hR.blk 0 rfl
        have c0 : wx.cell? ⟨w.heap.size, 3, none⟩ = some (.slice A2 n2 c2) := kb.cell 3
        go_simp
        exact hK s wx (fun _ _ => rfl) hR
      refine StepAll.consG (fun D s wx hR (hDi : D 11 = false) hd hsh a' hs K hK => ?_) ?_
      · have eg := hs.at_ 3 6 (u := .bool true) rfl (hd ⟨3, .guard⟩ (by simp) rfl) (by kernel_rfl) (by kernel_rfl) rfl
        rw [if_pos (by rw [hs.wants (j := 3) (t := 6) rfl rfl eg (by kernel_rfl)]; rfl)]
        have e8 := hs.at_ 5 8 (u := .agg #[.int .i64 b.order.start, .slice A n c, .slice A' n' c']) rfl (hd ⟨5, .data⟩ (by simp) rfl) (by kernel_rfl) (by kernel_rfl) rfl
        have e11 := hs.at_ 8 11 (u := .int .i64 b.order.start) rfl (hd ⟨8, .data⟩ (by simp) rfl) (by kernel_rfl) (by kernel_rfl) rfl
        have e13 := hs.at_ 10 13 (u := .slice A2 n2 c2) rfl (hd ⟨10, .data⟩ (by simp) rfl) (by kernel_rfl) (by kernel_rfl) rfl
        have g8 := getQ e8
        have g11 := getQ e11
        have g13 := getQ e13
        clear hs
        go_simp
        refine (planRun_spec _ b.order b.order.start A2 n2 c2 b.done _ (HO.out.up hR.below) (HD.out.up hR.below)).mono ?_
        rintro e w3 ⟨rfl, hb3⟩
        exact hK s w3 (fun _ _ => rfl) (hR.quiet hb3)
      refine StepAll.consG (fun D s wx hR (hDi : D 12 = false) hd hsh a' hs K hK => ?_) ?_
      · have eg := hs.at_ 3 6 (u := .bool true) rfl (hd ⟨3, .guard⟩ (by simp) rfl) (by kernel_rfl) (by kernel_rfl) rfl
        rw [if_pos (by rw [hs.wants (j := 3) (t := 6) rfl rfl eg (by kernel_rfl)]; rfl)]
        have e1 := hs.old 1 (u := .pointer (some ⟨w.heap.size, 0, none⟩)) (by kernel_rfl) rfl
        clear hs
        go_simp
        exact hK s wx (fun _ _ => rfl) hR
      refine StepAll.consG (fun D s wx hR (hDi : D 13 = false) hd hsh a' hs K hK => ?_) ?_
      · have eg := hs.at_ 3 6 (u := .bool true) rfl (hd ⟨3, .guard⟩ (by simp) rfl) (by kernel_rfl) (by kernel_rfl) rfl
        rw [if_pos (by rw [hs.wants (j := 3) (t := 6) rfl rfl eg (by kernel_rfl)]; rfl)]
        have e15 := hs.at_ 12 15 (u := .pointer (some ⟨w.heap.size, 4, none⟩)) rfl (hd ⟨12, .data⟩ (by simp) rfl) (by kernel_rfl) (by kernel_rfl) rfl
        clear hs
        have kb : Blk wx (w.heap.size) 62 #[.int .i64 b.order.start, .slice A n c, .slice A' n' c', .slice A2 n2 c2, .int .i64 b.state] := hR.blk 0 rfl
        have c0 : wx.cell? ⟨w.heap.size, 4, none⟩ = some (.int .i64 b.state) := kb.cell 4
        go_simp
        exact hK s wx (fun _ _ => rfl) hR
      refine StepAll.consG (fun D s wx hR (hDi : D 14 = false) hd hsh a' hs K hK => ?_) ?_
      · have eg := hs.at_ 3 6 (u := .bool true) rfl (hd ⟨3, .guard⟩ (by simp) rfl) (by kernel_rfl) (by kernel_rfl) rfl
        rw [if_pos (by rw [hs.wants (j := 3) (t := 6) rfl rfl eg (by kernel_rfl)]; rfl)]
        have e14 := hs.at_ 11 14 (u := .int .i64 (planRun b.order b.order.start b.done)) rfl (hd ⟨11, .data⟩ (by simp) rfl) (by kernel_rfl) (by kernel_rfl) rfl
        have e16 := hs.at_ 13 16 (u := .int .i64 b.state) rfl (hd ⟨13, .data⟩ (by simp) rfl) (by kernel_rfl) (by kernel_rfl) rfl
        clear hs
        go_simp
        rw [HP.out]
        exact hK s wx (fun _ _ => rfl) hR
      refine StepAll.cons (fun D s wx hR (hDi : D 15 = false) hd hsh a' hs K hK => ?_) ?_
      · have e6 := hs.at_ 3 6 (u := .bool true) rfl (hd ⟨3, .data⟩ (by simp) rfl) (by kernel_rfl) (by kernel_rfl) rfl
        have e17 := hs.at_ 14 17 (u := .bool false) rfl (hd ⟨14, .data⟩ (by simp) rfl) (by kernel_rfl) (by kernel_rfl) rfl
        clear hs
        go_simp
        exact hK s wx (fun _ _ => rfl) hR
      refine StepAll.cons (fun D s wx hR (hDi : D 16 = false) hd hsh a' hs K hK => ?_) ?_
      · have e18 := hs.at_ 15 18 (u := .bool false) rfl (hd ⟨15, .data⟩ (by simp) rfl) (by kernel_rfl) (by kernel_rfl) rfl
        clear hs
        go_simp
        exact hK s wx (fun _ _ => rfl) hR
      refine StepAll.consG (fun D s wx hR (hDi : D 17 = false) hd hsh a' hs K hK => ?_) ?_
      · have eg := hs.at_ 16 19 (u := .bool false) rfl (hd ⟨16, .guard⟩ (by simp) rfl) (by kernel_rfl) (by kernel_rfl) rfl
        rw [if_neg (by rw [hs.wants (j := 16) (t := 19) rfl rfl eg (by kernel_rfl)]; simp)]
        exact hK s wx (fun _ _ => rfl) hR
      refine StepAll.consG (fun D s wx hR (hDi : D 18 = false) hd hsh a' hs K hK => ?_) ?_
      · have eg := hs.at_ 16 19 (u := .bool false) rfl (hd ⟨16, .guard⟩ (by simp) rfl) (by kernel_rfl) (by kernel_rfl) rfl
        rw [if_neg (by rw [hs.wants (j := 16) (t := 19) rfl rfl eg (by kernel_rfl)]; simp)]
        exact hK s wx (fun _ _ => rfl) hR
      refine StepAll.consG (fun D s wx hR (hDi : D 19 = false) hd hsh a' hs K hK => ?_) ?_
      · have eg := hs.at_ 16 19 (u := .bool false) rfl (hd ⟨16, .guard⟩ (by simp) rfl) (by kernel_rfl) (by kernel_rfl) rfl
        rw [if_neg (by rw [hs.wants (j := 16) (t := 19) rfl rfl eg (by kernel_rfl)]; simp)]
        exact hK s wx (fun _ _ => rfl) hR
      refine StepAll.cons (fun D s wx hR (hDi : D 20 = false) hd hsh a' hs K hK => ?_) ?_
      · have e19 := hs.at_ 16 19 (u := .bool false) rfl (hd ⟨16, .data⟩ (by simp) rfl) (by kernel_rfl) (by kernel_rfl) rfl
        have e22 := hs.at_ 19 22 (u := undef) rfl (hd ⟨19, .data⟩ (by simp) rfl) (by kernel_rfl) (by kernel_rfl) rfl
        clear hs
        go_simp
        exact hK s wx (fun _ _ => rfl) hR
      refine StepAll.cons (fun D s wx hR (hDi : D 21 = false) hd hsh a' hs K hK => ?_) ?_
      · have e23 := hs.at_ 20 23 (u := .bool false) rfl (hd ⟨20, .data⟩ (by simp) rfl) (by kernel_rfl) (by kernel_rfl) rfl
        clear hs
        go_simp
        exact hK s wx (fun _ _ => rfl) hR
      exact StepAll.nil
    · intro D s wx hR hD
      simp only [putA, Act.put, List.setIfInBounds_toArray, List.set_cons_zero, List.set_cons_succ]
      have M3 := hR.below
      clear hR hD
      go_wp2
      go_ret
      exact ⟨ret_bool (by rw [bookOk_spec, HOK.out, HP.out]; rfl), M3⟩
    | true =>
    go_enter Tryd.func65, Tryd.ntmps65
    go_upto_region 1 with (fail)
    refine wp_reg (σ := Nat) (by kernel_rfl) (by kernel_rfl) (by kernel_rfl)
      (fun s i => match i with
        | 0 => .pointer (some ⟨w.heap.size, 0, none⟩)
        | 1 => .agg #[.int .i64 b.order.start, .slice A n c, .slice A' n' c']
        | 2 => .bool true
        | 3 => .bool true
        | 4 => .pointer (some ⟨w.heap.size, 0, none⟩)
        | 5 => .agg #[.int .i64 b.order.start, .slice A n c, .slice A' n' c']
        | 6 => .pointer (some ⟨w.heap.size, 0, none⟩)
        | 7 => .pointer (some ⟨w.heap.size, 0, none⟩)
        | 8 => .int .i64 b.order.start
        | 9 => .pointer (some ⟨w.heap.size, 3, none⟩)
        | 10 => .slice A2 n2 c2
        | 11 => .int .i64 (planRun b.order b.order.start b.done)
        | 12 => .pointer (some ⟨w.heap.size, 4, none⟩)
        | 13 => .int .i64 b.state
        | 14 => .bool true
        | 15 => .bool true
        | 16 => .bool true
        | 17 => .pointer (some ⟨w.heap.size, 4, none⟩)
        | 18 => .int .i64 b.state
        | 19 => .bool bn
        | 20 => .bool bn
        | 21 => .bool bn
        | _ => undef)
      (fun D s wx => Sn w wx fun i => match i with
        | 0 => some (rBlk w.heap.size 62 #[.int .i64 b.order.start, .slice A n c, .slice A' n' c', .slice A2 n2 c2, .int .i64 b.state])
        | _ => none)
      0 ?_ ?_ ?_
    · intro D hD
      refine ((Sn.of_st HS0.out).quiet ((Below.refl _ _).drew)).congr fun i => ?_
      match i with
      | 0 => rfl
      | q + 1 => rfl
    · refine StepAll.cons (fun D s wx hR (hDi : D 0 = false) hd hsh a' hs K hK => ?_) ?_
      · have e1 := hs.old 1 (u := .pointer (some ⟨w.heap.size, 0, none⟩)) (by kernel_rfl) rfl
        clear hs
        go_simp
        exact hK s wx (fun _ _ => rfl) hR
      refine StepAll.cons (fun D s wx hR (hDi : D 1 = false) hd hsh a' hs K hK => ?_) ?_
      · have e3 := hs.at_ 0 3 (u := .pointer (some ⟨w.heap.size, 0, none⟩)) rfl (hd ⟨0, .data⟩ (by simp) rfl) (by kernel_rfl) (by kernel_rfl) rfl
        clear hs
        have kb : Blk wx (w.heap.size) 62 #[.int .i64 b.order.start, .slice A n c, .slice A' n' c', .slice A2 n2 c2, .int .i64 b.state] := hR.blk 0 rfl
        have c0 : wx.cell? ⟨w.heap.size, 0, none⟩ = some (.int .i64 b.order.start) := kb.cell 0
        have c1 : wx.cell? ⟨w.heap.size, 1, none⟩ = some (.slice A n c) := kb.cell 1
        have c2 : wx.cell? ⟨w.heap.size, 2, none⟩ = some (.slice A' n' c') := kb.cell 2
        go_simp
        exact hK s wx (fun _ _ => rfl) hR
      refine StepAll.cons (fun D s wx hR (hDi : D 2 = false) hd hsh a' hs K hK => ?_) ?_
      · have e4 := hs.at_ 1 4 (u := .agg #[.int .i64 b.order.start, .slice A n c, .slice A' n' c']) rfl (hd ⟨1, .data⟩ (by simp) rfl) (by kernel_rfl) (by kernel_rfl) rfl
        have g4 := getQ e4
        clear hs
        go_simp
        refine (taskValid_spec _ b.order _ (HO.out.up hR.below)).mono ?_
        rw [HOK.out]
        rintro e w3 ⟨rfl, hb3⟩
        exact hK s w3 (fun _ _ => rfl) (hR.quiet hb3)
      refine StepAll.cons (fun D s wx hR (hDi : D 3 = false) hd hsh a' hs K hK => ?_) ?_
      · have e5 := hs.at_ 2 5 (u := .bool true) rfl (hd ⟨2, .data⟩ (by simp) rfl) (by kernel_rfl) (by kernel_rfl) rfl
        clear hs
        go_simp
        exact hK s wx (fun _ _ => rfl) hR
      refine StepAll.consG (fun D s wx hR (hDi : D 4 = false) hd hsh a' hs K hK => ?_) ?_
      · have eg := hs.at_ 3 6 (u := .bool true) rfl (hd ⟨3, .guard⟩ (by simp) rfl) (by kernel_rfl) (by kernel_rfl) rfl
        rw [if_pos (by rw [hs.wants (j := 3) (t := 6) rfl rfl eg (by kernel_rfl)]; rfl)]
        have e1 := hs.old 1 (u := .pointer (some ⟨w.heap.size, 0, none⟩)) (by kernel_rfl) rfl
        clear hs
        go_simp
        exact hK s wx (fun _ _ => rfl) hR
      refine StepAll.consG (fun D s wx hR (hDi : D 5 = false) hd hsh a' hs K hK => ?_) ?_
      · have eg := hs.at_ 3 6 (u := .bool true) rfl (hd ⟨3, .guard⟩ (by simp) rfl) (by kernel_rfl) (by kernel_rfl) rfl
        rw [if_pos (by rw [hs.wants (j := 3) (t := 6) rfl rfl eg (by kernel_rfl)]; rfl)]
        have e7 := hs.at_ 4 7 (u := .pointer (some ⟨w.heap.size, 0, none⟩)) rfl (hd ⟨4, .data⟩ (by simp) rfl) (by kernel_rfl) (by kernel_rfl) rfl
        clear hs
        have kb : Blk wx (w.heap.size) 62 #[.int .i64 b.order.start, .slice A n c, .slice A' n' c', .slice A2 n2 c2, .int .i64 b.state] := hR.blk 0 rfl
        have c0 : wx.cell? ⟨w.heap.size, 0, none⟩ = some (.int .i64 b.order.start) := kb.cell 0
        have c1 : wx.cell? ⟨w.heap.size, 1, none⟩ = some (.slice A n c) := kb.cell 1
        have c2 : wx.cell? ⟨w.heap.size, 2, none⟩ = some (.slice A' n' c') := kb.cell 2
        go_simp
        exact hK s wx (fun _ _ => rfl) hR
      refine StepAll.consG (fun D s wx hR (hDi : D 6 = false) hd hsh a' hs K hK => ?_) ?_
      · have eg := hs.at_ 3 6 (u := .bool true) rfl (hd ⟨3, .guard⟩ (by simp) rfl) (by kernel_rfl) (by kernel_rfl) rfl
        rw [if_pos (by rw [hs.wants (j := 3) (t := 6) rfl rfl eg (by kernel_rfl)]; rfl)]
        have e1 := hs.old 1 (u := .pointer (some ⟨w.heap.size, 0, none⟩)) (by kernel_rfl) rfl
        clear hs
        go_simp
        exact hK s wx (fun _ _ => rfl) hR
      refine StepAll.consG (fun D s wx hR (hDi : D 7 = false) hd hsh a' hs K hK => ?_) ?_
      · have eg := hs.at_ 3 6 (u := .bool true) rfl (hd ⟨3, .guard⟩ (by simp) rfl) (by kernel_rfl) (by kernel_rfl) rfl
        rw [if_pos (by rw [hs.wants (j := 3) (t := 6) rfl rfl eg (by kernel_rfl)]; rfl)]
        have e9 := hs.at_ 6 9 (u := .pointer (some ⟨w.heap.size, 0, none⟩)) rfl (hd ⟨6, .data⟩ (by simp) rfl) (by kernel_rfl) (by kernel_rfl) rfl
        clear hs
        go_simp
        exact hK s wx (fun _ _ => rfl) hR
      refine StepAll.consG (fun D s wx hR (hDi : D 8 = false) hd hsh a' hs K hK => ?_) ?_
      · have eg := hs.at_ 3 6 (u := .bool true) rfl (hd ⟨3, .guard⟩ (by simp) rfl) (by kernel_rfl) (by kernel_rfl) rfl
        rw [if_pos (by rw [hs.wants (j := 3) (t := 6) rfl rfl eg (by kernel_rfl)]; rfl)]
        have e10 := hs.at_ 7 10 (u := .pointer (some ⟨w.heap.size, 0, none⟩)) rfl (hd ⟨7, .data⟩ (by simp) rfl) (by kernel_rfl) (by kernel_rfl) rfl
        clear hs
        have kb : Blk wx (w.heap.size) 62 #[.int .i64 b.order.start, .slice A n c, .slice A' n' c', .slice A2 n2 c2, .int .i64 b.state] := hR.blk 0 rfl
        have c0 : wx.cell? ⟨w.heap.size, 0, none⟩ = some (.int .i64 b.order.start) := kb.cell 0
        go_simp
        exact hK s wx (fun _ _ => rfl) hR
      refine StepAll.consG (fun D s wx hR (hDi : D 9 = false) hd hsh a' hs K hK => ?_) ?_
      · have eg := hs.at_ 3 6 (u := .bool true) rfl (hd ⟨3, .guard⟩ (by simp) rfl) (by kernel_rfl) (by kernel_rfl) rfl
        rw [if_pos (by rw [hs.wants (j := 3) (t := 6) rfl rfl eg (by kernel_rfl)]; rfl)]
        have e1 := hs.old 1 (u := .pointer (some ⟨w.heap.size, 0, none⟩)) (by kernel_rfl) rfl
        clear hs
        go_simp
        exact hK s wx (fun _ _ => rfl) hR
      refine StepAll.consG (fun D s wx hR (hDi : D 10 = false) hd hsh a' hs K hK => ?_) ?_
      · have eg := hs.at_ 3 6 (u := .bool true) rfl (hd ⟨3, .guard⟩ (by simp) rfl) (by kernel_rfl) (by kernel_rfl) rfl
        rw [if_pos (by rw [hs.wants (j := 3) (t := 6) rfl rfl eg (by kernel_rfl)]; rfl)]
        have e12 := hs.at_ 9 12 (u := .pointer (some ⟨w.heap.size, 3, none⟩)) rfl (hd ⟨9, .data⟩ (by simp) rfl) (by kernel_rfl) (by kernel_rfl) rfl
        clear hs
        have kb : Blk wx (w.heap.size) 62 #[.int .i64 b.order.start, .slice A n c, .slice A' n' c', .slice A2 n2 c2, .int .i64 b.state] := hR.blk 0 rfl
        have c0 : wx.cell? ⟨w.heap.size, 3, none⟩ = some (.slice A2 n2 c2) := kb.cell 3
        go_simp
        exact hK s wx (fun _ _ => rfl) hR
      refine StepAll.consG (fun D s wx hR (hDi : D 11 = false) hd hsh a' hs K hK => ?_) ?_
      · have eg := hs.at_ 3 6 (u := .bool true) rfl (hd ⟨3, .guard⟩ (by simp) rfl) (by kernel_rfl) (by kernel_rfl) rfl
        rw [if_pos (by rw [hs.wants (j := 3) (t := 6) rfl rfl eg (by kernel_rfl)]; rfl)]
        have e8 := hs.at_ 5 8 (u := .agg #[.int .i64 b.order.start, .slice A n c, .slice A' n' c']) rfl (hd ⟨5, .data⟩ (by simp) rfl) (by kernel_rfl) (by kernel_rfl) rfl
        have e11 := hs.at_ 8 11 (u := .int .i64 b.order.start) rfl (hd ⟨8, .data⟩ (by simp) rfl) (by kernel_rfl) (by kernel_rfl) rfl
        have e13 := hs.at_ 10 13 (u := .slice A2 n2 c2) rfl (hd ⟨10, .data⟩ (by simp) rfl) (by kernel_rfl) (by kernel_rfl) rfl
        have g8 := getQ e8
        have g11 := getQ e11
        have g13 := getQ e13
        clear hs
        go_simp
        refine (planRun_spec _ b.order b.order.start A2 n2 c2 b.done _ (HO.out.up hR.below) (HD.out.up hR.below)).mono ?_
        rintro e w3 ⟨rfl, hb3⟩
        exact hK s w3 (fun _ _ => rfl) (hR.quiet hb3)
      refine StepAll.consG (fun D s wx hR (hDi : D 12 = false) hd hsh a' hs K hK => ?_) ?_
      · have eg := hs.at_ 3 6 (u := .bool true) rfl (hd ⟨3, .guard⟩ (by simp) rfl) (by kernel_rfl) (by kernel_rfl) rfl
        rw [if_pos (by rw [hs.wants (j := 3) (t := 6) rfl rfl eg (by kernel_rfl)]; rfl)]
        have e1 := hs.old 1 (u := .pointer (some ⟨w.heap.size, 0, none⟩)) (by kernel_rfl) rfl
        clear hs
        go_simp
        exact hK s wx (fun _ _ => rfl) hR
      refine StepAll.consG (fun D s wx hR (hDi : D 13 = false) hd hsh a' hs K hK => ?_) ?_
      · have eg := hs.at_ 3 6 (u := .bool true) rfl (hd ⟨3, .guard⟩ (by simp) rfl) (by kernel_rfl) (by kernel_rfl) rfl
        rw [if_pos (by rw [hs.wants (j := 3) (t := 6) rfl rfl eg (by kernel_rfl)]; rfl)]
        have e15 := hs.at_ 12 15 (u := .pointer (some ⟨w.heap.size, 4, none⟩)) rfl (hd ⟨12, .data⟩ (by simp) rfl) (by kernel_rfl) (by kernel_rfl) rfl
        clear hs
        have kb : Blk wx (w.heap.size) 62 #[.int .i64 b.order.start, .slice A n c, .slice A' n' c', .slice A2 n2 c2, .int .i64 b.state] := hR.blk 0 rfl
        have c0 : wx.cell? ⟨w.heap.size, 4, none⟩ = some (.int .i64 b.state) := kb.cell 4
        go_simp
        exact hK s wx (fun _ _ => rfl) hR
      refine StepAll.consG (fun D s wx hR (hDi : D 14 = false) hd hsh a' hs K hK => ?_) ?_
      · have eg := hs.at_ 3 6 (u := .bool true) rfl (hd ⟨3, .guard⟩ (by simp) rfl) (by kernel_rfl) (by kernel_rfl) rfl
        rw [if_pos (by rw [hs.wants (j := 3) (t := 6) rfl rfl eg (by kernel_rfl)]; rfl)]
        have e14 := hs.at_ 11 14 (u := .int .i64 (planRun b.order b.order.start b.done)) rfl (hd ⟨11, .data⟩ (by simp) rfl) (by kernel_rfl) (by kernel_rfl) rfl
        have e16 := hs.at_ 13 16 (u := .int .i64 b.state) rfl (hd ⟨13, .data⟩ (by simp) rfl) (by kernel_rfl) (by kernel_rfl) rfl
        clear hs
        go_simp
        rw [HP.out]
        exact hK s wx (fun _ _ => rfl) hR
      refine StepAll.cons (fun D s wx hR (hDi : D 15 = false) hd hsh a' hs K hK => ?_) ?_
      · have e6 := hs.at_ 3 6 (u := .bool true) rfl (hd ⟨3, .data⟩ (by simp) rfl) (by kernel_rfl) (by kernel_rfl) rfl
        have e17 := hs.at_ 14 17 (u := .bool true) rfl (hd ⟨14, .data⟩ (by simp) rfl) (by kernel_rfl) (by kernel_rfl) rfl
        clear hs
        go_simp
        exact hK s wx (fun _ _ => rfl) hR
      refine StepAll.cons (fun D s wx hR (hDi : D 16 = false) hd hsh a' hs K hK => ?_) ?_
      · have e18 := hs.at_ 15 18 (u := .bool true) rfl (hd ⟨15, .data⟩ (by simp) rfl) (by kernel_rfl) (by kernel_rfl) rfl
        clear hs
        go_simp
        exact hK s wx (fun _ _ => rfl) hR
      refine StepAll.consG (fun D s wx hR (hDi : D 17 = false) hd hsh a' hs K hK => ?_) ?_
      · have eg := hs.at_ 16 19 (u := .bool true) rfl (hd ⟨16, .guard⟩ (by simp) rfl) (by kernel_rfl) (by kernel_rfl) rfl
        rw [if_pos (by rw [hs.wants (j := 16) (t := 19) rfl rfl eg (by kernel_rfl)]; rfl)]
        have e1 := hs.old 1 (u := .pointer (some ⟨w.heap.size, 0, none⟩)) (by kernel_rfl) rfl
        clear hs
        go_simp
        exact hK s wx (fun _ _ => rfl) hR
      refine StepAll.consG (fun D s wx hR (hDi : D 18 = false) hd hsh a' hs K hK => ?_) ?_
      · have eg := hs.at_ 16 19 (u := .bool true) rfl (hd ⟨16, .guard⟩ (by simp) rfl) (by kernel_rfl) (by kernel_rfl) rfl
        rw [if_pos (by rw [hs.wants (j := 16) (t := 19) rfl rfl eg (by kernel_rfl)]; rfl)]
        have e20 := hs.at_ 17 20 (u := .pointer (some ⟨w.heap.size, 4, none⟩)) rfl (hd ⟨17, .data⟩ (by simp) rfl) (by kernel_rfl) (by kernel_rfl) rfl
        clear hs
        have kb : Blk wx (w.heap.size) 62 #[.int .i64 b.order.start, .slice A n c, .slice A' n' c', .slice A2 n2 c2, .int .i64 b.state] := hR.blk 0 rfl
        have c0 : wx.cell? ⟨w.heap.size, 4, none⟩ = some (.int .i64 b.state) := kb.cell 4
        go_simp
        exact hK s wx (fun _ _ => rfl) hR
      refine StepAll.consG (fun D s wx hR (hDi : D 19 = false) hd hsh a' hs K hK => ?_) ?_
      · have eg := hs.at_ 16 19 (u := .bool true) rfl (hd ⟨16, .guard⟩ (by simp) rfl) (by kernel_rfl) (by kernel_rfl) rfl
        rw [if_pos (by rw [hs.wants (j := 16) (t := 19) rfl rfl eg (by kernel_rfl)]; rfl)]
        have e21 := hs.at_ 18 21 (u := .int .i64 b.state) rfl (hd ⟨18, .data⟩ (by simp) rfl) (by kernel_rfl) (by kernel_rfl) rfl
        clear hs
        go_simp
        rw [HN.out]
        exact hK s wx (fun _ _ => rfl) hR
      refine StepAll.cons (fun D s wx hR (hDi : D 20 = false) hd hsh a' hs K hK => ?_) ?_
      · have e19 := hs.at_ 16 19 (u := .bool true) rfl (hd ⟨16, .data⟩ (by simp) rfl) (by kernel_rfl) (by kernel_rfl) rfl
        have e22 := hs.at_ 19 22 (u := .bool bn) rfl (hd ⟨19, .data⟩ (by simp) rfl) (by kernel_rfl) (by kernel_rfl) rfl
        clear hs
        go_simp
        exact hK s wx (fun _ _ => rfl) hR
      refine StepAll.cons (fun D s wx hR (hDi : D 21 = false) hd hsh a' hs K hK => ?_) ?_
      · have e23 := hs.at_ 20 23 (u := .bool bn) rfl (hd ⟨20, .data⟩ (by simp) rfl) (by kernel_rfl) (by kernel_rfl) rfl
        clear hs
        go_simp
        exact hK s wx (fun _ _ => rfl) hR
      exact StepAll.nil
    · intro D s wx hR hD
      simp only [putA, Act.put, List.setIfInBounds_toArray, List.set_cons_zero, List.set_cons_succ]
      have M3 := hR.below
      clear hR hD
      go_wp2
      go_ret
      exact ⟨ret_bool (by rw [bookOk_spec, HOK.out, HP.out, HN.out]; simp), M3⟩
end Go.Proofs.YtadlfffhddpajaaDoor
