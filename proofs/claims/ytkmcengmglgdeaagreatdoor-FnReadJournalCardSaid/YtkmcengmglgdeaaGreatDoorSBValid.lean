/- BookValid and BookEnded, of the program and of the reference: each returns one plain function, for every book. -/
import Derived.Test.YtkmcengmglgdeaaGreatDoorSPlanW
namespace Go.Proofs.YtkmcengmglgdeaaGreatDoor
set_option linter.unusedVariables false
set_option linter.unusedSimpArgs false
open Go.ChangeShapes Go.WideShapes Go.ChangeAt Go.RowKit

def bookOk (b : BookD) : Bool := taskOk b.order && decide (b.done.length ≤ 40) && stIn b.state && (planRun b.order b.order.start b.done == b.state)
theorem planRun_bd (t : TaskD) (s : Int) (p : List Int) : (0 ≤ planRun t s p → taskOk t = true ∧ stIn s = true ∧ p.length ≤ 40 ∧ planRun t s p < 32) ∧ -1 ≤ planRun t s p := by
 unfold planRun
 split
 ·rename_i h
  obtain ⟨h1, h2, h3⟩ := h
  cases hr : runP t s.toNat p with
  | none => simp [opt]
  | some s' =>
   have := runP_lt t s.toNat p s' h1 (by have := (stIn_iff s).1 h2; omega) hr
   simp only [opt]
   exact ⟨fun _ => ⟨h1, h2, h3, by omega⟩, by omega⟩
 ·exact ⟨fun h => absurd h (by omega), by omega⟩
theorem bookOk_spec (b : BookD) : bookOk b = (taskOk b.order && (planRun b.order b.order.start b.done == b.state) && decide (0 ≤ b.state)) := by
 unfold bookOk
 have h := planRun_bd b.order b.order.start b.done
 cases h1 : taskOk b.order
 ·simp
 by_cases h2 : planRun b.order b.order.start b.done = b.state
 ·by_cases h3 : 0 ≤ b.state
  ·obtain ⟨_, _, h4, h5⟩ := h.1 (by omega)
   simp [h2, h3, h4, stIn]; omega
  ·have : stIn b.state = false := (stIn_no _).2 (by omega)
   simp [h2, h3, this]
 ·have : (planRun b.order b.order.start b.done == b.state) = false := by simpa using h2
  rw [this]; simp
/-- codes that run -/
def codeRun (xs : List Int) (s : Int) : Bool := codeOk xs && stIn s && evalCode xs s.toNat
theorem codeRun_impl (A : Option Addr) (n c : Nat) (xs : List Int) (s : Int) (w : World) (h : RdI .i64 w w.heap.size A n c xs) :
  Calls Tryz.prog 89 #[.slice A n c, .int .i64 s] w fun e w' => e = .returned (.bool (codeRun xs s)) ∧ Below w.heap.size w w' := by
 have H := Lib.hid h
 clear h
 obtain ⟨bc, hc⟩ : ∃ b, codeOk xs = b := ⟨_, rfl⟩
 have HC := Lib.hid hc
 clear hc
 obtain ⟨bs, hs⟩ : ∃ b, stIn s = b := ⟨_, rfl⟩
 have HS := Lib.hid hs
 clear hs
 cases bc with
 | false =>
  go_enter Tryz.func89, Tryz.ntmps89
  go_wp2_with fail
  refine (codeValid_impl A n c xs _ H.out).mono ?_
  rw [HC.out]
  rintro e w1 ⟨rfl, rfl⟩
  go_wp2
  go_ret
  exact ⟨ret_bool (by unfold codeRun; rw [HC.out]; rfl), Below.refl _ _⟩
 | true =>
  cases bs with
  | false =>
   go_enter Tryz.func89, Tryz.ntmps89
   go_wp2_with fail
   refine (codeValid_impl A n c xs _ H.out).mono ?_
   rw [HC.out]
   rintro e w1 ⟨rfl, rfl⟩
   go_wp2_with fail
   refine (stateOk_any s _).mono ?_
   rw [HS.out]
   rintro e w1 ⟨rfl, rfl⟩
   go_wp2
   go_ret
   exact ⟨ret_bool (by unfold codeRun; rw [HC.out, HS.out]; rfl), Below.refl _ _⟩
  | true =>
   obtain ⟨hs0, hs1⟩ := (stIn_iff s).1 HS.out
   obtain ⟨m, rfl⟩ := Int.eq_ofNat_of_zero_le hs0
   go_enter Tryz.func89, Tryz.ntmps89
   go_wp2_with fail
   refine (codeValid_impl A n c xs _ H.out).mono ?_
   rw [HC.out]
   rintro e w1 ⟨rfl, rfl⟩
   go_wp2_with fail
   refine (stateOk_any m _).mono ?_
   rw [HS.out]
   rintro e w1 ⟨rfl, rfl⟩
   go_wp2_with fail
   refine (runCode_any A n c xs m _ H.out HC.out (by omega)).mono ?_
   rintro e w2 ⟨rfl, hb⟩
   go_wp2
   go_ret
   exact ⟨ret_bool (by unfold codeRun; rw [HC.out, HS.out]; simp), hb⟩
def bookEnded (b : BookD) : Bool := bookOk b && evalCode b.order.goal b.state.toNat
section
variable {w : World}
end
set_option maxHeartbeats 1000000 in
theorem bookValid_impl (v : Value) (b : BookD) (w : World) (h : RdB w w.heap.size v b) :
  Calls Tryz.prog 16 #[v] w fun e w' => e = .returned (.bool (bookOk b)) ∧ Below w.heap.size w w' := by
 obtain ⟨A, n, c, A', n', c', A2, n2, c2, hv⟩ := h.form
 subst hv
 obtain ⟨hdn, hdl, hst, -⟩ := h.done
 have hl := hdn.len
 have hcp := hdn.cap
 have hcm := hdn.capMax
 unfold maxLen at hcm
 have HL := Lib.hid hl
 have S0 := (St.refl w).alloc #[.int .i64 b.order.start, .slice A n c, .slice A' n' c', .slice A2 n2 c2, .int .i64 b.state] 28
 have HO := Lib.hid h.order
 have HD := Lib.hid hdn
 have HS0 := Lib.hid S0
 clear S0 hl hdn
 obtain ⟨bo, hok⟩ : ∃ b', taskOk b.order = b' := ⟨_, rfl⟩
 have HOK := Lib.hid hok
 clear hok
 cases bo with
 | false =>
  go_enter Tryz.func16, Tryz.ntmps16
  go_wp2_with fail
  refine (taskValid_impl _ b.order _ (HO.out.up HS0.out.below)).mono ?_
  rw [HOK.out]
  rintro e w1 ⟨rfl, hb1⟩
  go_wp2
  go_ret
  exact ⟨ret_bool (by unfold bookOk; rw [HOK.out]; rfl), (HS0.out.quiet hb1).below⟩
 | true =>
  go_enter Tryz.func16, Tryz.ntmps16
  go_wp2_with fail
  refine (taskValid_impl _ b.order _ (HO.out.up HS0.out.below)).mono ?_
  rw [HOK.out]
  rintro e w1 ⟨rfl, hb1⟩
  have S1 := HS0.out.quiet hb1
  have q0 : ∀ j, w1.cell? ⟨w.heap.size, j, none⟩ = _ := S1.cells 0 rfl
  have HS1 := Lib.hid S1
  clear S1 hb1
  by_cases h40 : n2 ≤ 40
  case neg =>
   go_wp2
   go_ret
   exact ⟨ret_bool (by unfold bookOk; rw [decide_eq_false (by rw [HL.out]; exact h40)]; simp), HS1.out.below⟩
  obtain ⟨bs, hs⟩ : ∃ b', stIn b.state = b' := ⟨_, rfl⟩
  have HS := Lib.hid hs
  clear hs
  go_wp2_with fail
  refine (stateOk_any b.state _).mono ?_
  rw [HS.out]
  rintro e w2 ⟨rfl, rfl⟩
  cases bs with
  | false =>
   go_wp2
   go_ret
   exact ⟨ret_bool (by unfold bookOk; rw [HS.out]; simp), HS1.out.below⟩
  | true =>
  obtain ⟨bp, hp⟩ : ∃ b', (planRun b.order b.order.start b.done == b.state) = b' := ⟨_, rfl⟩
  have HP := Lib.hid hp
  clear hp q0
  go_upto_region 3 with (fail)
  refine wp_reg (σ := Nat) (by kernel_rfl) (by kernel_rfl) (by kernel_rfl)
   (fun s i => match i with
    | 0 => .pointer (some ⟨w.heap.size, 0, none⟩)
    | 1 => .agg #[.int .i64 b.order.start, .slice A n c, .slice A' n' c']
    | 2 => .pointer (some ⟨w.heap.size, 0, none⟩)
    | 3 => .pointer (some ⟨w.heap.size, 0, none⟩)
    | 4 => .int .i64 b.order.start
    | 5 => .pointer (some ⟨w.heap.size, 3, none⟩)
    | 6 => .slice A2 n2 c2
    | 7 => .int .i64 (planRun b.order b.order.start b.done)
    | 8 => .pointer (some ⟨w.heap.size, 4, none⟩)
    | 9 => .int .i64 b.state
    | 10 => .bool bp
    | 11 => .bool bp
    | _ => undef)
   (fun D s wx => Sn w wx fun i => match i with
    | 0 => some (rBlk w.heap.size 28 #[.int .i64 b.order.start, .slice A n c, .slice A' n' c', .slice A2 n2 c2, .int .i64 b.state])
    | _ => none)
   0 ?_ ?_ ?_
  ·intro D hD
   refine ((Sn.of_st HS1.out).quiet ((Below.refl _ _).drew)).congr fun i => ?_
   match i with
   | 0 => rfl
   | q + 1 => rfl
  ·refine StepAll.cons (fun D s wx hR (hDi : D 0 = false) hd hsh a' hs K hK => ?_) ?_
   ·have e1 := hs.old 1 (u := .pointer (some ⟨w.heap.size, 0, none⟩)) (by kernel_rfl) rfl
    clear hs
    go_simp
    exact hK s wx (fun _ _ => rfl) hR
   refine StepAll.cons (fun D s wx hR (hDi : D 1 = false) hd hsh a' hs K hK => ?_) ?_
   ·have e19 := hs.g 0 19 (.pointer (some ⟨w.heap.size, 0, none⟩)) (hd ⟨0, .data⟩ (by simp) rfl)
    clear hs
    have kb : Blk wx (w.heap.size) 28 #[.int .i64 b.order.start, .slice A n c, .slice A' n' c', .slice A2 n2 c2, .int .i64 b.state] := hR.blk 0 rfl
    have c0 : wx.cell? ⟨w.heap.size, 0, none⟩ = some (.int .i64 b.order.start) := kb.cell 0
    have c1 : wx.cell? ⟨w.heap.size, 1, none⟩ = some (.slice A n c) := kb.cell 1
    have c2 : wx.cell? ⟨w.heap.size, 2, none⟩ = some (.slice A' n' c') := kb.cell 2
    go_simp
    exact hK s wx (fun _ _ => rfl) hR
   refine StepAll.cons (fun D s wx hR (hDi : D 2 = false) hd hsh a' hs K hK => ?_) ?_
   ·have e1 := hs.old 1 (u := .pointer (some ⟨w.heap.size, 0, none⟩)) (by kernel_rfl) rfl
    clear hs
    go_simp
    exact hK s wx (fun _ _ => rfl) hR
   refine StepAll.cons (fun D s wx hR (hDi : D 3 = false) hd hsh a' hs K hK => ?_) ?_
   ·have e21 := hs.g 2 21 (.pointer (some ⟨w.heap.size, 0, none⟩)) (hd ⟨2, .data⟩ (by simp) rfl)
    clear hs
    go_simp
    exact hK s wx (fun _ _ => rfl) hR
   refine StepAll.cons (fun D s wx hR (hDi : D 4 = false) hd hsh a' hs K hK => ?_) ?_
   ·have e22 := hs.g 3 22 (.pointer (some ⟨w.heap.size, 0, none⟩)) (hd ⟨3, .data⟩ (by simp) rfl)
    clear hs
    have kb : Blk wx (w.heap.size) 28 #[.int .i64 b.order.start, .slice A n c, .slice A' n' c', .slice A2 n2 c2, .int .i64 b.state] := hR.blk 0 rfl
    have c0 : wx.cell? ⟨w.heap.size, 0, none⟩ = some (.int .i64 b.order.start) := kb.cell 0
    go_simp
    exact hK s wx (fun _ _ => rfl) hR
   refine StepAll.cons (fun D s wx hR (hDi : D 5 = false) hd hsh a' hs K hK => ?_) ?_
   ·have e1 := hs.old 1 (u := .pointer (some ⟨w.heap.size, 0, none⟩)) (by kernel_rfl) rfl
    clear hs
    go_simp
    exact hK s wx (fun _ _ => rfl) hR
   refine StepAll.cons (fun D s wx hR (hDi : D 6 = false) hd hsh a' hs K hK => ?_) ?_
   ·have e24 := hs.g 5 24 (.pointer (some ⟨w.heap.size, 3, none⟩)) (hd ⟨5, .data⟩ (by simp) rfl)
    clear hs
    have kb : Blk wx (w.heap.size) 28 #[.int .i64 b.order.start, .slice A n c, .slice A' n' c', .slice A2 n2 c2, .int .i64 b.state] := hR.blk 0 rfl
    have c0 : wx.cell? ⟨w.heap.size, 3, none⟩ = some (.slice A2 n2 c2) := kb.cell 3
    go_simp
    exact hK s wx (fun _ _ => rfl) hR
   refine StepAll.cons (fun D s wx hR (hDi : D 7 = false) hd hsh a' hs K hK => ?_) ?_
   ·have e20 := hs.g 1 20 (.agg #[.int .i64 b.order.start, .slice A n c, .slice A' n' c']) (hd ⟨1, .data⟩ (by simp) rfl)
    have e23 := hs.g 4 23 (.int .i64 b.order.start) (hd ⟨4, .data⟩ (by simp) rfl)
    have e25 := hs.g 6 25 (.slice A2 n2 c2) (hd ⟨6, .data⟩ (by simp) rfl)
    have g20 := getQ e20
    have g23 := getQ e23
    have g25 := getQ e25
    clear hs
    go_simp
    refine (planRun_impl _ b.order b.order.start A2 n2 c2 b.done _ (HO.out.up hR.below) (HD.out.up hR.below)).mono ?_
    rintro e w3 ⟨rfl, hb3⟩
    exact hK s w3 (fun _ _ => rfl) (hR.quiet hb3)
   refine StepAll.cons (fun D s wx hR (hDi : D 8 = false) hd hsh a' hs K hK => ?_) ?_
   ·have e1 := hs.old 1 (u := .pointer (some ⟨w.heap.size, 0, none⟩)) (by kernel_rfl) rfl
    clear hs
    go_simp
    exact hK s wx (fun _ _ => rfl) hR
   refine StepAll.cons (fun D s wx hR (hDi : D 9 = false) hd hsh a' hs K hK => ?_) ?_
   ·have e27 := hs.g 8 27 (.pointer (some ⟨w.heap.size, 4, none⟩)) (hd ⟨8, .data⟩ (by simp) rfl)
    clear hs
    have kb : Blk wx (w.heap.size) 28 #[.int .i64 b.order.start, .slice A n c, .slice A' n' c', .slice A2 n2 c2, .int .i64 b.state] := hR.blk 0 rfl
    have c0 : wx.cell? ⟨w.heap.size, 4, none⟩ = some (.int .i64 b.state) := kb.cell 4
    go_simp
    exact hK s wx (fun _ _ => rfl) hR
   refine StepAll.cons (fun D s wx hR (hDi : D 10 = false) hd hsh a' hs K hK => ?_) ?_
   ·have e26 := hs.g 7 26 (.int .i64 (planRun b.order b.order.start b.done)) (hd ⟨7, .data⟩ (by simp) rfl)
    have e28 := hs.g 9 28 (.int .i64 b.state) (hd ⟨9, .data⟩ (by simp) rfl)
    clear hs
    go_simp
    rw [HP.out]
    exact hK s wx (fun _ _ => rfl) hR
   refine StepAll.cons (fun D s wx hR (hDi : D 11 = false) hd hsh a' hs K hK => ?_) ?_
   ·have e29 := hs.g 10 29 (.bool bp) (hd ⟨10, .data⟩ (by simp) rfl)
    clear hs
    go_simp
    exact hK s wx (fun _ _ => rfl) hR
   exact StepAll.nil
  ·intro D s wx hR hD
   simp only [putA, Act.put, List.setIfInBounds_toArray, List.set_cons_zero, List.set_cons_succ]
   have M3 := hR.below
   clear hR hD
   go_wp2
   go_ret
   exact ⟨ret_bool (by unfold bookOk; rw [HOK.out, HS.out, HP.out, decide_eq_true (by rw [HL.out]; exact h40)]; simp), M3⟩
set_option maxHeartbeats 1000000 in
theorem bookValid_spec (v : Value) (b : BookD) (w : World) (h : RdB w w.heap.size v b) :
  Calls Tryz.prog 12 #[v] w fun e w' => e = .returned (.bool (bookOk b)) ∧ Below w.heap.size w w' := by
 obtain ⟨A, n, c, A', n', c', A2, n2, c2, hv⟩ := h.form
 subst hv
 obtain ⟨hdn, hdl, hst, -⟩ := h.done
 have hl := hdn.len
 have hcp := hdn.cap
 have hcm := hdn.capMax
 unfold maxLen at hcm
 have HL := Lib.hid hl
 have S0 := (St.refl w).alloc #[.int .i64 b.order.start, .slice A n c, .slice A' n' c', .slice A2 n2 c2, .int .i64 b.state] 28
 have HO := Lib.hid h.order
 have HD := Lib.hid hdn
 have HS0 := Lib.hid S0
 clear S0 hl hdn
 obtain ⟨bo, hok⟩ : ∃ b', taskOk b.order = b' := ⟨_, rfl⟩
 have HOK := Lib.hid hok
 clear hok
 obtain ⟨bp, hp⟩ : ∃ b', (planRun b.order b.order.start b.done == b.state) = b' := ⟨_, rfl⟩
 have HP := Lib.hid hp
 clear hp
 obtain ⟨bn, hn⟩ : ∃ b', decide (0 ≤ b.state) = b' := ⟨_, rfl⟩
 have HN := Lib.hid hn
 clear hn
 cases bo with
 | false =>
  go_enter Tryz.func12, Tryz.ntmps12
  go_upto_region 1 with (fail)
  refine wp_reg (σ := Nat) (by kernel_rfl) (by kernel_rfl) (by kernel_rfl)
   (fun s i => match i with
    | 0 => .pointer (some ⟨w.heap.size, 0, none⟩)
    | 1 => .agg #[.int .i64 b.order.start, .slice A n c, .slice A' n' c']
    | 2 => .bool false
    | 3 => .bool false
    | 15 => .bool false
    | 16 => .bool false
    | 20 => .bool false
    | 21 => .bool false
    | _ => undef)
   (fun D s wx => Sn w wx fun i => match i with
    | 0 => some (rBlk w.heap.size 28 #[.int .i64 b.order.start, .slice A n c, .slice A' n' c', .slice A2 n2 c2, .int .i64 b.state])
    | _ => none)
   0 ?_ ?_ ?_
  ·intro D hD
   refine ((Sn.of_st HS0.out).quiet ((Below.refl _ _).drew)).congr fun i => ?_
   match i with
   | 0 => rfl
   | q + 1 => rfl
  ·refine StepAll.cons (fun D s wx hR (hDi : D 0 = false) hd hsh a' hs K hK => ?_) ?_
   ·have e1 := hs.old 1 (u := .pointer (some ⟨w.heap.size, 0, none⟩)) (by kernel_rfl) rfl
    clear hs
    go_simp
    exact hK s wx (fun _ _ => rfl) hR
   refine StepAll.cons (fun D s wx hR (hDi : D 1 = false) hd hsh a' hs K hK => ?_) ?_
   ·have e3 := hs.g 0 3 (.pointer (some ⟨w.heap.size, 0, none⟩)) (hd ⟨0, .data⟩ (by simp) rfl)
    clear hs
    have kb : Blk wx (w.heap.size) 28 #[.int .i64 b.order.start, .slice A n c, .slice A' n' c', .slice A2 n2 c2, .int .i64 b.state] := hR.blk 0 rfl
    have c0 : wx.cell? ⟨w.heap.size, 0, none⟩ = some (.int .i64 b.order.start) := kb.cell 0
    have c1 : wx.cell? ⟨w.heap.size, 1, none⟩ = some (.slice A n c) := kb.cell 1
    have c2 : wx.cell? ⟨w.heap.size, 2, none⟩ = some (.slice A' n' c') := kb.cell 2
    go_simp
    exact hK s wx (fun _ _ => rfl) hR
   refine StepAll.cons (fun D s wx hR (hDi : D 2 = false) hd hsh a' hs K hK => ?_) ?_
   ·have e4 := hs.g 1 4 (.agg #[.int .i64 b.order.start, .slice A n c, .slice A' n' c']) (hd ⟨1, .data⟩ (by simp) rfl)
    have g4 := getQ e4
    clear hs
    go_simp
    refine (taskValid_spec _ b.order _ (HO.out.up hR.below)).mono ?_
    rw [HOK.out]
    rintro e w3 ⟨rfl, hb3⟩
    exact hK s w3 (fun _ _ => rfl) (hR.quiet hb3)
   refine StepAll.cons (fun D s wx hR (hDi : D 3 = false) hd hsh a' hs K hK => ?_) ?_
   ·have e5 := hs.g 2 5 (.bool false) (hd ⟨2, .data⟩ (by simp) rfl)
    clear hs
    go_simp
    exact hK s wx (fun _ _ => rfl) hR
   refine StepAll.consG (fun D s wx hR (hDi : D 4 = false) hd hsh a' hs K hK => ?_) ?_
   ·have eg := hs.g 3 6 (.bool false) (hd ⟨3, .guard⟩ (by simp) rfl)
    rw [if_neg (by rw [hs.wants (j := 3) (t := 6) rfl rfl eg (by kernel_rfl)]; simp)]
    exact hK s wx (fun _ _ => rfl) hR
   refine StepAll.consG (fun D s wx hR (hDi : D 5 = false) hd hsh a' hs K hK => ?_) ?_
   ·have eg := hs.g 3 6 (.bool false) (hd ⟨3, .guard⟩ (by simp) rfl)
    rw [if_neg (by rw [hs.wants (j := 3) (t := 6) rfl rfl eg (by kernel_rfl)]; simp)]
    exact hK s wx (fun _ _ => rfl) hR
   refine StepAll.consG (fun D s wx hR (hDi : D 6 = false) hd hsh a' hs K hK => ?_) ?_
   ·have eg := hs.g 3 6 (.bool false) (hd ⟨3, .guard⟩ (by simp) rfl)
    rw [if_neg (by rw [hs.wants (j := 3) (t := 6) rfl rfl eg (by kernel_rfl)]; simp)]
    exact hK s wx (fun _ _ => rfl) hR
   refine StepAll.consG (fun D s wx hR (hDi : D 7 = false) hd hsh a' hs K hK => ?_) ?_
   ·have eg := hs.g 3 6 (.bool false) (hd ⟨3, .guard⟩ (by simp) rfl)
    rw [if_neg (by rw [hs.wants (j := 3) (t := 6) rfl rfl eg (by kernel_rfl)]; simp)]
    exact hK s wx (fun _ _ => rfl) hR
   refine StepAll.consG (fun D s wx hR (hDi : D 8 = false) hd hsh a' hs K hK => ?_) ?_
   ·have eg := hs.g 3 6 (.bool false) (hd ⟨3, .guard⟩ (by simp) rfl)
    rw [if_neg (by rw [hs.wants (j := 3) (t := 6) rfl rfl eg (by kernel_rfl)]; simp)]
    exact hK s wx (fun _ _ => rfl) hR
   refine StepAll.consG (fun D s wx hR (hDi : D 9 = false) hd hsh a' hs K hK => ?_) ?_
   ·have eg := hs.g 3 6 (.bool false) (hd ⟨3, .guard⟩ (by simp) rfl)
    rw [if_neg (by rw [hs.wants (j := 3) (t := 6) rfl rfl eg (by kernel_rfl)]; simp)]
    exact hK s wx (fun _ _ => rfl) hR
   refine StepAll.consG (fun D s wx hR (hDi : D 10 = false) hd hsh a' hs K hK => ?_) ?_
   ·have eg := hs.g 3 6 (.bool false) (hd ⟨3, .guard⟩ (by simp) rfl)
    rw [if_neg (by rw [hs.wants (j := 3) (t := 6) rfl rfl eg (by kernel_rfl)]; simp)]
    exact hK s wx (fun _ _ => rfl) hR
   refine StepAll.consG (fun D s wx hR (hDi : D 11 = false) hd hsh a' hs K hK => ?_) ?_
   ·have eg := hs.g 3 6 (.bool false) (hd ⟨3, .guard⟩ (by simp) rfl)
    rw [if_neg (by rw [hs.wants (j := 3) (t := 6) rfl rfl eg (by kernel_rfl)]; simp)]
    exact hK s wx (fun _ _ => rfl) hR
   refine StepAll.consG (fun D s wx hR (hDi : D 12 = false) hd hsh a' hs K hK => ?_) ?_
   ·have eg := hs.g 3 6 (.bool false) (hd ⟨3, .guard⟩ (by simp) rfl)
    rw [if_neg (by rw [hs.wants (j := 3) (t := 6) rfl rfl eg (by kernel_rfl)]; simp)]
    exact hK s wx (fun _ _ => rfl) hR
   refine StepAll.consG (fun D s wx hR (hDi : D 13 = false) hd hsh a' hs K hK => ?_) ?_
   ·have eg := hs.g 3 6 (.bool false) (hd ⟨3, .guard⟩ (by simp) rfl)
    rw [if_neg (by rw [hs.wants (j := 3) (t := 6) rfl rfl eg (by kernel_rfl)]; simp)]
    exact hK s wx (fun _ _ => rfl) hR
   refine StepAll.consG (fun D s wx hR (hDi : D 14 = false) hd hsh a' hs K hK => ?_) ?_
   ·have eg := hs.g 3 6 (.bool false) (hd ⟨3, .guard⟩ (by simp) rfl)
    rw [if_neg (by rw [hs.wants (j := 3) (t := 6) rfl rfl eg (by kernel_rfl)]; simp)]
    exact hK s wx (fun _ _ => rfl) hR
   refine StepAll.cons (fun D s wx hR (hDi : D 15 = false) hd hsh a' hs K hK => ?_) ?_
   ·have e6 := hs.g 3 6 (.bool false) (hd ⟨3, .data⟩ (by simp) rfl)
    have e17 := hs.g 14 17 (undef) (hd ⟨14, .data⟩ (by simp) rfl)
    clear hs
    go_simp
    exact hK s wx (fun _ _ => rfl) hR
   refine StepAll.cons (fun D s wx hR (hDi : D 16 = false) hd hsh a' hs K hK => ?_) ?_
   ·have e18 := hs.g 15 18 (.bool false) (hd ⟨15, .data⟩ (by simp) rfl)
    clear hs
    go_simp
    exact hK s wx (fun _ _ => rfl) hR
   refine StepAll.consG (fun D s wx hR (hDi : D 17 = false) hd hsh a' hs K hK => ?_) ?_
   ·have eg := hs.g 16 19 (.bool false) (hd ⟨16, .guard⟩ (by simp) rfl)
    rw [if_neg (by rw [hs.wants (j := 16) (t := 19) rfl rfl eg (by kernel_rfl)]; simp)]
    exact hK s wx (fun _ _ => rfl) hR
   refine StepAll.consG (fun D s wx hR (hDi : D 18 = false) hd hsh a' hs K hK => ?_) ?_
   ·have eg := hs.g 16 19 (.bool false) (hd ⟨16, .guard⟩ (by simp) rfl)
    rw [if_neg (by rw [hs.wants (j := 16) (t := 19) rfl rfl eg (by kernel_rfl)]; simp)]
    exact hK s wx (fun _ _ => rfl) hR
   refine StepAll.consG (fun D s wx hR (hDi : D 19 = false) hd hsh a' hs K hK => ?_) ?_
   ·have eg := hs.g 16 19 (.bool false) (hd ⟨16, .guard⟩ (by simp) rfl)
    rw [if_neg (by rw [hs.wants (j := 16) (t := 19) rfl rfl eg (by kernel_rfl)]; simp)]
    exact hK s wx (fun _ _ => rfl) hR
   refine StepAll.cons (fun D s wx hR (hDi : D 20 = false) hd hsh a' hs K hK => ?_) ?_
   ·have e19 := hs.g 16 19 (.bool false) (hd ⟨16, .data⟩ (by simp) rfl)
    have e22 := hs.g 19 22 (undef) (hd ⟨19, .data⟩ (by simp) rfl)
    clear hs
    go_simp
    exact hK s wx (fun _ _ => rfl) hR
   refine StepAll.cons (fun D s wx hR (hDi : D 21 = false) hd hsh a' hs K hK => ?_) ?_
   ·have e23 := hs.g 20 23 (.bool false) (hd ⟨20, .data⟩ (by simp) rfl)
    clear hs
    go_simp
    exact hK s wx (fun _ _ => rfl) hR
   exact StepAll.nil
  ·intro D s wx hR hD
   simp only [putA, Act.put, List.setIfInBounds_toArray, List.set_cons_zero, List.set_cons_succ]
   have M3 := hR.below
   clear hR hD
   go_wp2
   go_ret
   exact ⟨ret_bool (by rw [bookOk_spec, HOK.out]; rfl), M3⟩
 | true =>
  cases bp with
  | false =>
  go_enter Tryz.func12, Tryz.ntmps12
  go_upto_region 1 with (fail)
  refine wp_reg (σ := Nat) (by kernel_rfl) (by kernel_rfl) (by kernel_rfl)
   (fun s i => match i with
    | 0 => .pointer (some ⟨w.heap.size, 0, none⟩)
    | 1 => .agg #[.int .i64 b.order.start, .slice A n c, .slice A' n' c']
    | 2 => .bool true
    | 3 => .bool true
    | 4 => .pointer (some ⟨w.heap.size, 0, none⟩)
    | 5 => .agg #[.int .i64 b.order.start, .slice A n c, .slice A' n' c']
    | 6 => .pointer (some ⟨w.heap.size, 0, none⟩)
    | 7 => .pointer (some ⟨w.heap.size, 0, none⟩)
    | 8 => .int .i64 b.order.start
    | 9 => .pointer (some ⟨w.heap.size, 3, none⟩)
    | 10 => .slice A2 n2 c2
    | 11 => .int .i64 (planRun b.order b.order.start b.done)
    | 12 => .pointer (some ⟨w.heap.size, 4, none⟩)
    | 13 => .int .i64 b.state
    | 14 => .bool false
    | 15 => .bool false
    | 16 => .bool false
    | 20 => .bool false
    | 21 => .bool false
    | _ => undef)
   (fun D s wx => Sn w wx fun i => match i with
    | 0 => some (rBlk w.heap.size 28 #[.int .i64 b.order.start, .slice A n c, .slice A' n' c', .slice A2 n2 c2, .int .i64 b.state])
    | _ => none)
   0 ?_ ?_ ?_
  ·intro D hD
   refine ((Sn.of_st HS0.out).quiet ((Below.refl _ _).drew)).congr fun i => ?_
   match i with
   | 0 => rfl
   | q + 1 => rfl
  ·refine StepAll.cons (fun D s wx hR (hDi : D 0 = false) hd hsh a' hs K hK => ?_) ?_
   ·have e1 := hs.old 1 (u := .pointer (some ⟨w.heap.size, 0, none⟩)) (by kernel_rfl) rfl
    clear hs
    go_simp
    exact hK s wx (fun _ _ => rfl) hR
   refine StepAll.cons (fun D s wx hR (hDi : D 1 = false) hd hsh a' hs K hK => ?_) ?_
   ·have e3 := hs.g 0 3 (.pointer (some ⟨w.heap.size, 0, none⟩)) (hd ⟨0, .data⟩ (by simp) rfl)
    clear hs
    have kb : Blk wx (w.heap.size) 28 #[.int .i64 b.order.start, .slice A n c, .slice A' n' c', .slice A2 n2 c2, .int .i64 b.state] := hR.blk 0 rfl
    have c0 : wx.cell? ⟨w.heap.size, 0, none⟩ = some (.int .i64 b.order.start) := kb.cell 0
    have c1 : wx.cell? ⟨w.heap.size, 1, none⟩ = some (.slice A n c) := kb.cell 1
    have c2 : wx.cell? ⟨w.heap.size, 2, none⟩ = some (.slice A' n' c') := kb.cell 2
    go_simp
    exact hK s wx (fun _ _ => rfl) hR
   refine StepAll.cons (fun D s wx hR (hDi : D 2 = false) hd hsh a' hs K hK => ?_) ?_
   ·have e4 := hs.g 1 4 (.agg #[.int .i64 b.order.start, .slice A n c, .slice A' n' c']) (hd ⟨1, .data⟩ (by simp) rfl)
    have g4 := getQ e4
    clear hs
    go_simp
    refine (taskValid_spec _ b.order _ (HO.out.up hR.below)).mono ?_
    rw [HOK.out]
    rintro e w3 ⟨rfl, hb3⟩
    exact hK s w3 (fun _ _ => rfl) (hR.quiet hb3)
   refine StepAll.cons (fun D s wx hR (hDi : D 3 = false) hd hsh a' hs K hK => ?_) ?_
   ·have e5 := hs.g 2 5 (.bool true) (hd ⟨2, .data⟩ (by simp) rfl)
    clear hs
    go_simp
    exact hK s wx (fun _ _ => rfl) hR
   refine StepAll.consG (fun D s wx hR (hDi : D 4 = false) hd hsh a' hs K hK => ?_) ?_
   ·have eg := hs.g 3 6 (.bool true) (hd ⟨3, .guard⟩ (by simp) rfl)
    rw [if_pos (by rw [hs.wants (j := 3) (t := 6) rfl rfl eg (by kernel_rfl)]; rfl)]
    have e1 := hs.old 1 (u := .pointer (some ⟨w.heap.size, 0, none⟩)) (by kernel_rfl) rfl
    clear hs
    go_simp
    exact hK s wx (fun _ _ => rfl) hR
   refine StepAll.consG (fun D s wx hR (hDi : D 5 = false) hd hsh a' hs K hK => ?_) ?_
   ·have eg := hs.g 3 6 (.bool true) (hd ⟨3, .guard⟩ (by simp) rfl)
    rw [if_pos (by rw [hs.wants (j := 3) (t := 6) rfl rfl eg (by kernel_rfl)]; rfl)]
    have e7 := hs.g 4 7 (.pointer (some ⟨w.heap.size, 0, none⟩)) (hd ⟨4, .data⟩ (by simp) rfl)
    clear hs
    have kb : Blk wx (w.heap.size) 28 #[.int .i64 b.order.start, .slice A n c, .slice A' n' c', .slice A2 n2 c2, .int .i64 b.state] := hR.blk 0 rfl
    have c0 : wx.cell? ⟨w.heap.size, 0, none⟩ = some (.int .i64 b.order.start) := kb.cell 0
    have c1 : wx.cell? ⟨w.heap.size, 1, none⟩ = some (.slice A n c) := kb.cell 1
    have c2 : wx.cell? ⟨w.heap.size, 2, none⟩ = some (.slice A' n' c') := kb.cell 2
    go_simp
    exact hK s wx (fun _ _ => rfl) hR
   refine StepAll.consG (fun D s wx hR (hDi : D 6 = false) hd hsh a' hs K hK => ?_) ?_
   ·have eg := hs.g 3 6 (.bool true) (hd ⟨3, .guard⟩ (by simp) rfl)
    rw [if_pos (by rw [hs.wants (j := 3) (t := 6) rfl rfl eg (by kernel_rfl)]; rfl)]
    have e1 := hs.old 1 (u := .pointer (some ⟨w.heap.size, 0, none⟩)) (by kernel_rfl) rfl
    clear hs
    go_simp
    exact hK s wx (fun _ _ => rfl) hR
   refine StepAll.consG (fun D s wx hR (hDi : D 7 = false) hd hsh a' hs K hK => ?_) ?_
   ·have eg := hs.g 3 6 (.bool true) (hd ⟨3, .guard⟩ (by simp) rfl)
    rw [if_pos (by rw [hs.wants (j := 3) (t := 6) rfl rfl eg (by kernel_rfl)]; rfl)]
    have e9 := hs.g 6 9 (.pointer (some ⟨w.heap.size, 0, none⟩)) (hd ⟨6, .data⟩ (by simp) rfl)
    clear hs
    go_simp
    exact hK s wx (fun _ _ => rfl) hR
   refine StepAll.consG (fun D s wx hR (hDi : D 8 = false) hd hsh a' hs K hK => ?_) ?_
   ·have eg := hs.g 3 6 (.bool true) (hd ⟨3, .guard⟩ (by simp) rfl)
    rw [if_pos (by rw [hs.wants (j := 3) (t := 6) rfl rfl eg (by kernel_rfl)]; rfl)]
    have e10 := hs.g 7 10 (.pointer (some ⟨w.heap.size, 0, none⟩)) (hd ⟨7, .data⟩ (by simp) rfl)
    clear hs
    have kb : Blk wx (w.heap.size) 28 #[.int .i64 b.order.start, .slice A n c, .slice A' n' c', .slice A2 n2 c2, .int .i64 b.state] := hR.blk 0 rfl
    have c0 : wx.cell? ⟨w.heap.size, 0, none⟩ = some (.int .i64 b.order.start) := kb.cell 0
    go_simp
    exact hK s wx (fun _ _ => rfl) hR
   refine StepAll.consG (fun D s wx hR (hDi : D 9 = false) hd hsh a' hs K hK => ?_) ?_
   ·have eg := hs.g 3 6 (.bool true) (hd ⟨3, .guard⟩ (by simp) rfl)
    rw [if_pos (by rw [hs.wants (j := 3) (t := 6) rfl rfl eg (by kernel_rfl)]; rfl)]
    have e1 := hs.old 1 (u := .pointer (some ⟨w.heap.size, 0, none⟩)) (by kernel_rfl) rfl
    clear hs
    go_simp
    exact hK s wx (fun _ _ => rfl) hR
   refine StepAll.consG (fun D s wx hR (hDi : D 10 = false) hd hsh a' hs K hK => ?_) ?_
   ·have eg := hs.g 3 6 (.bool true) (hd ⟨3, .guard⟩ (by simp) rfl)
    rw [if_pos (by rw [hs.wants (j := 3) (t := 6) rfl rfl eg (by kernel_rfl)]; rfl)]
    have e12 := hs.g 9 12 (.pointer (some ⟨w.heap.size, 3, none⟩)) (hd ⟨9, .data⟩ (by simp) rfl)
    clear hs
    have kb : Blk wx (w.heap.size) 28 #[.int .i64 b.order.start, .slice A n c, .slice A' n' c', .slice A2 n2 c2, .int .i64 b.state] := hR.blk 0 rfl
    have c0 : wx.cell? ⟨w.heap.size, 3, none⟩ = some (.slice A2 n2 c2) := kb.cell 3
    go_simp
    exact hK s wx (fun _ _ => rfl) hR
   refine StepAll.consG (fun D s wx hR (hDi : D 11 = false) hd hsh a' hs K hK => ?_) ?_
   ·have eg := hs.g 3 6 (.bool true) (hd ⟨3, .guard⟩ (by simp) rfl)
    rw [if_pos (by rw [hs.wants (j := 3) (t := 6) rfl rfl eg (by kernel_rfl)]; rfl)]
    have e8 := hs.g 5 8 (.agg #[.int .i64 b.order.start, .slice A n c, .slice A' n' c']) (hd ⟨5, .data⟩ (by simp) rfl)
    have e11 := hs.g 8 11 (.int .i64 b.order.start) (hd ⟨8, .data⟩ (by simp) rfl)
    have e13 := hs.g 10 13 (.slice A2 n2 c2) (hd ⟨10, .data⟩ (by simp) rfl)
    have g8 := getQ e8
    have g11 := getQ e11
    have g13 := getQ e13
    clear hs
    go_simp
    refine (planRun_spec _ b.order b.order.start A2 n2 c2 b.done _ (HO.out.up hR.below) (HD.out.up hR.below)).mono ?_
    rintro e w3 ⟨rfl, hb3⟩
    exact hK s w3 (fun _ _ => rfl) (hR.quiet hb3)
   refine StepAll.consG (fun D s wx hR (hDi : D 12 = false) hd hsh a' hs K hK => ?_) ?_
   ·have eg := hs.g 3 6 (.bool true) (hd ⟨3, .guard⟩ (by simp) rfl)
    rw [if_pos (by rw [hs.wants (j := 3) (t := 6) rfl rfl eg (by kernel_rfl)]; rfl)]
    have e1 := hs.old 1 (u := .pointer (some ⟨w.heap.size, 0, none⟩)) (by kernel_rfl) rfl
    clear hs
    go_simp
    exact hK s wx (fun _ _ => rfl) hR
   refine StepAll.consG (fun D s wx hR (hDi : D 13 = false) hd hsh a' hs K hK => ?_) ?_
   ·have eg := hs.g 3 6 (.bool true) (hd ⟨3, .guard⟩ (by simp) rfl)
    rw [if_pos (by rw [hs.wants (j := 3) (t := 6) rfl rfl eg (by kernel_rfl)]; rfl)]
    have e15 := hs.g 12 15 (.pointer (some ⟨w.heap.size, 4, none⟩)) (hd ⟨12, .data⟩ (by simp) rfl)
    clear hs
    have kb : Blk wx (w.heap.size) 28 #[.int .i64 b.order.start, .slice A n c, .slice A' n' c', .slice A2 n2 c2, .int .i64 b.state] := hR.blk 0 rfl
    have c0 : wx.cell? ⟨w.heap.size, 4, none⟩ = some (.int .i64 b.state) := kb.cell 4
    go_simp
    exact hK s wx (fun _ _ => rfl) hR
   refine StepAll.consG (fun D s wx hR (hDi : D 14 = false) hd hsh a' hs K hK => ?_) ?_
   ·have eg := hs.g 3 6 (.bool true) (hd ⟨3, .guard⟩ (by simp) rfl)
    rw [if_pos (by rw [hs.wants (j := 3) (t := 6) rfl rfl eg (by kernel_rfl)]; rfl)]
    have e14 := hs.g 11 14 (.int .i64 (planRun b.order b.order.start b.done)) (hd ⟨11, .data⟩ (by simp) rfl)
    have e16 := hs.g 13 16 (.int .i64 b.state) (hd ⟨13, .data⟩ (by simp) rfl)
    clear hs
    go_simp
    rw [HP.out]
    exact hK s wx (fun _ _ => rfl) hR
   refine StepAll.cons (fun D s wx hR (hDi : D 15 = false) hd hsh a' hs K hK => ?_) ?_
   ·have e6 := hs.g 3 6 (.bool true) (hd ⟨3, .data⟩ (by simp) rfl)
    have e17 := hs.g 14 17 (.bool false) (hd ⟨14, .data⟩ (by simp) rfl)
    clear hs
    go_simp
    exact hK s wx (fun _ _ => rfl) hR
   refine StepAll.cons (fun D s wx hR (hDi : D 16 = false) hd hsh a' hs K hK => ?_) ?_
   ·have e18 := hs.g 15 18 (.bool false) (hd ⟨15, .data⟩ (by simp) rfl)
    clear hs
    go_simp
    exact hK s wx (fun _ _ => rfl) hR
   refine StepAll.consG (fun D s wx hR (hDi : D 17 = false) hd hsh a' hs K hK => ?_) ?_
   ·have eg := hs.g 16 19 (.bool false) (hd ⟨16, .guard⟩ (by simp) rfl)
    rw [if_neg (by rw [hs.wants (j := 16) (t := 19) rfl rfl eg (by kernel_rfl)]; simp)]
    exact hK s wx (fun _ _ => rfl) hR
   refine StepAll.consG (fun D s wx hR (hDi : D 18 = false) hd hsh a' hs K hK => ?_) ?_
   ·have eg := hs.g 16 19 (.bool false) (hd ⟨16, .guard⟩ (by simp) rfl)
    rw [if_neg (by rw [hs.wants (j := 16) (t := 19) rfl rfl eg (by kernel_rfl)]; simp)]
    exact hK s wx (fun _ _ => rfl) hR
   refine StepAll.consG (fun D s wx hR (hDi : D 19 = false) hd hsh a' hs K hK => ?_) ?_
   ·have eg := hs.g 16 19 (.bool false) (hd ⟨16, .guard⟩ (by simp) rfl)
    rw [if_neg (by rw [hs.wants (j := 16) (t := 19) rfl rfl eg (by kernel_rfl)]; simp)]
    exact hK s wx (fun _ _ => rfl) hR
   refine StepAll.cons (fun D s wx hR (hDi : D 20 = false) hd hsh a' hs K hK => ?_) ?_
   ·have e19 := hs.g 16 19 (.bool false) (hd ⟨16, .data⟩ (by simp) rfl)
    have e22 := hs.g 19 22 (undef) (hd ⟨19, .data⟩ (by simp) rfl)
    clear hs
    go_simp
    exact hK s wx (fun _ _ => rfl) hR
   refine StepAll.cons (fun D s wx hR (hDi : D 21 = false) hd hsh a' hs K hK => ?_) ?_
   ·have e23 := hs.g 20 23 (.bool false) (hd ⟨20, .data⟩ (by simp) rfl)
    clear hs
    go_simp
    exact hK s wx (fun _ _ => rfl) hR
   exact StepAll.nil
  ·intro D s wx hR hD
   simp only [putA, Act.put, List.setIfInBounds_toArray, List.set_cons_zero, List.set_cons_succ]
   have M3 := hR.below
   clear hR hD
   go_wp2
   go_ret
   exact ⟨ret_bool (by rw [bookOk_spec, HOK.out, HP.out]; rfl), M3⟩
  | true =>
  go_enter Tryz.func12, Tryz.ntmps12
  go_upto_region 1 with (fail)
  refine wp_reg (σ := Nat) (by kernel_rfl) (by kernel_rfl) (by kernel_rfl)
   (fun s i => match i with
    | 0 => .pointer (some ⟨w.heap.size, 0, none⟩)
    | 1 => .agg #[.int .i64 b.order.start, .slice A n c, .slice A' n' c']
    | 2 => .bool true
    | 3 => .bool true
    | 4 => .pointer (some ⟨w.heap.size, 0, none⟩)
    | 5 => .agg #[.int .i64 b.order.start, .slice A n c, .slice A' n' c']
    | 6 => .pointer (some ⟨w.heap.size, 0, none⟩)
    | 7 => .pointer (some ⟨w.heap.size, 0, none⟩)
    | 8 => .int .i64 b.order.start
    | 9 => .pointer (some ⟨w.heap.size, 3, none⟩)
    | 10 => .slice A2 n2 c2
    | 11 => .int .i64 (planRun b.order b.order.start b.done)
    | 12 => .pointer (some ⟨w.heap.size, 4, none⟩)
    | 13 => .int .i64 b.state
    | 14 => .bool true
    | 15 => .bool true
    | 16 => .bool true
    | 17 => .pointer (some ⟨w.heap.size, 4, none⟩)
    | 18 => .int .i64 b.state
    | 19 => .bool bn
    | 20 => .bool bn
    | 21 => .bool bn
    | _ => undef)
   (fun D s wx => Sn w wx fun i => match i with
    | 0 => some (rBlk w.heap.size 28 #[.int .i64 b.order.start, .slice A n c, .slice A' n' c', .slice A2 n2 c2, .int .i64 b.state])
    | _ => none)
   0 ?_ ?_ ?_
  ·intro D hD
   refine ((Sn.of_st HS0.out).quiet ((Below.refl _ _).drew)).congr fun i => ?_
   match i with
   | 0 => rfl
   | q + 1 => rfl
  ·refine StepAll.cons (fun D s wx hR (hDi : D 0 = false) hd hsh a' hs K hK => ?_) ?_
   ·have e1 := hs.old 1 (u := .pointer (some ⟨w.heap.size, 0, none⟩)) (by kernel_rfl) rfl
    clear hs
    go_simp
    exact hK s wx (fun _ _ => rfl) hR
   refine StepAll.cons (fun D s wx hR (hDi : D 1 = false) hd hsh a' hs K hK => ?_) ?_
   ·have e3 := hs.g 0 3 (.pointer (some ⟨w.heap.size, 0, none⟩)) (hd ⟨0, .data⟩ (by simp) rfl)
    clear hs
    have kb : Blk wx (w.heap.size) 28 #[.int .i64 b.order.start, .slice A n c, .slice A' n' c', .slice A2 n2 c2, .int .i64 b.state] := hR.blk 0 rfl
    have c0 : wx.cell? ⟨w.heap.size, 0, none⟩ = some (.int .i64 b.order.start) := kb.cell 0
    have c1 : wx.cell? ⟨w.heap.size, 1, none⟩ = some (.slice A n c) := kb.cell 1
    have c2 : wx.cell? ⟨w.heap.size, 2, none⟩ = some (.slice A' n' c') := kb.cell 2
    go_simp
    exact hK s wx (fun _ _ => rfl) hR
   refine StepAll.cons (fun D s wx hR (hDi : D 2 = false) hd hsh a' hs K hK => ?_) ?_
   ·have e4 := hs.g 1 4 (.agg #[.int .i64 b.order.start, .slice A n c, .slice A' n' c']) (hd ⟨1, .data⟩ (by simp) rfl)
    have g4 := getQ e4
    clear hs
    go_simp
    refine (taskValid_spec _ b.order _ (HO.out.up hR.below)).mono ?_
    rw [HOK.out]
    rintro e w3 ⟨rfl, hb3⟩
    exact hK s w3 (fun _ _ => rfl) (hR.quiet hb3)
   refine StepAll.cons (fun D s wx hR (hDi : D 3 = false) hd hsh a' hs K hK => ?_) ?_
   ·have e5 := hs.g 2 5 (.bool true) (hd ⟨2, .data⟩ (by simp) rfl)
    clear hs
    go_simp
    exact hK s wx (fun _ _ => rfl) hR
   refine StepAll.consG (fun D s wx hR (hDi : D 4 = false) hd hsh a' hs K hK => ?_) ?_
   ·have eg := hs.g 3 6 (.bool true) (hd ⟨3, .guard⟩ (by simp) rfl)
    rw [if_pos (by rw [hs.wants (j := 3) (t := 6) rfl rfl eg (by kernel_rfl)]; rfl)]
    have e1 := hs.old 1 (u := .pointer (some ⟨w.heap.size, 0, none⟩)) (by kernel_rfl) rfl
    clear hs
    go_simp
    exact hK s wx (fun _ _ => rfl) hR
   refine StepAll.consG (fun D s wx hR (hDi : D 5 = false) hd hsh a' hs K hK => ?_) ?_
   ·have eg := hs.g 3 6 (.bool true) (hd ⟨3, .guard⟩ (by simp) rfl)
    rw [if_pos (by rw [hs.wants (j := 3) (t := 6) rfl rfl eg (by kernel_rfl)]; rfl)]
    have e7 := hs.g 4 7 (.pointer (some ⟨w.heap.size, 0, none⟩)) (hd ⟨4, .data⟩ (by simp) rfl)
    clear hs
    have kb : Blk wx (w.heap.size) 28 #[.int .i64 b.order.start, .slice A n c, .slice A' n' c', .slice A2 n2 c2, .int .i64 b.state] := hR.blk 0 rfl
    have c0 : wx.cell? ⟨w.heap.size, 0, none⟩ = some (.int .i64 b.order.start) := kb.cell 0
    have c1 : wx.cell? ⟨w.heap.size, 1, none⟩ = some (.slice A n c) := kb.cell 1
    have c2 : wx.cell? ⟨w.heap.size, 2, none⟩ = some (.slice A' n' c') := kb.cell 2
    go_simp
    exact hK s wx (fun _ _ => rfl) hR
   refine StepAll.consG (fun D s wx hR (hDi : D 6 = false) hd hsh a' hs K hK => ?_) ?_
   ·have eg := hs.g 3 6 (.bool true) (hd ⟨3, .guard⟩ (by simp) rfl)
    rw [if_pos (by rw [hs.wants (j := 3) (t := 6) rfl rfl eg (by kernel_rfl)]; rfl)]
    have e1 := hs.old 1 (u := .pointer (some ⟨w.heap.size, 0, none⟩)) (by kernel_rfl) rfl
    clear hs
    go_simp
    exact hK s wx (fun _ _ => rfl) hR
   refine StepAll.consG (fun D s wx hR (hDi : D 7 = false) hd hsh a' hs K hK => ?_) ?_
   ·have eg := hs.g 3 6 (.bool true) (hd ⟨3, .guard⟩ (by simp) rfl)
    rw [if_pos (by rw [hs.wants (j := 3) (t := 6) rfl rfl eg (by kernel_rfl)]; rfl)]
    have e9 := hs.g 6 9 (.pointer (some ⟨w.heap.size, 0, none⟩)) (hd ⟨6, .data⟩ (by simp) rfl)
    clear hs
    go_simp
    exact hK s wx (fun _ _ => rfl) hR
   refine StepAll.consG (fun D s wx hR (hDi : D 8 = false) hd hsh a' hs K hK => ?_) ?_
   ·have eg := hs.g 3 6 (.bool true) (hd ⟨3, .guard⟩ (by simp) rfl)
    rw [if_pos (by rw [hs.wants (j := 3) (t := 6) rfl rfl eg (by kernel_rfl)]; rfl)]
    have e10 := hs.g 7 10 (.pointer (some ⟨w.heap.size, 0, none⟩)) (hd ⟨7, .data⟩ (by simp) rfl)
    clear hs
    have kb : Blk wx (w.heap.size) 28 #[.int .i64 b.order.start, .slice A n c, .slice A' n' c', .slice A2 n2 c2, .int .i64 b.state] := hR.blk 0 rfl
    have c0 : wx.cell? ⟨w.heap.size, 0, none⟩ = some (.int .i64 b.order.start) := kb.cell 0
    go_simp
    exact hK s wx (fun _ _ => rfl) hR
   refine StepAll.consG (fun D s wx hR (hDi : D 9 = false) hd hsh a' hs K hK => ?_) ?_
   ·have eg := hs.g 3 6 (.bool true) (hd ⟨3, .guard⟩ (by simp) rfl)
    rw [if_pos (by rw [hs.wants (j := 3) (t := 6) rfl rfl eg (by kernel_rfl)]; rfl)]
    have e1 := hs.old 1 (u := .pointer (some ⟨w.heap.size, 0, none⟩)) (by kernel_rfl) rfl
    clear hs
    go_simp
    exact hK s wx (fun _ _ => rfl) hR
   refine StepAll.consG (fun D s wx hR (hDi : D 10 = false) hd hsh a' hs K hK => ?_) ?_
   ·have eg := hs.g 3 6 (.bool true) (hd ⟨3, .guard⟩ (by simp) rfl)
    rw [if_pos (by rw [hs.wants (j := 3) (t := 6) rfl rfl eg (by kernel_rfl)]; rfl)]
    have e12 := hs.g 9 12 (.pointer (some ⟨w.heap.size, 3, none⟩)) (hd ⟨9, .data⟩ (by simp) rfl)
    clear hs
    have kb : Blk wx (w.heap.size) 28 #[.int .i64 b.order.start, .slice A n c, .slice A' n' c', .slice A2 n2 c2, .int .i64 b.state] := hR.blk 0 rfl
    have c0 : wx.cell? ⟨w.heap.size, 3, none⟩ = some (.slice A2 n2 c2) := kb.cell 3
    go_simp
    exact hK s wx (fun _ _ => rfl) hR
   refine StepAll.consG (fun D s wx hR (hDi : D 11 = false) hd hsh a' hs K hK => ?_) ?_
   ·have eg := hs.g 3 6 (.bool true) (hd ⟨3, .guard⟩ (by simp) rfl)
    rw [if_pos (by rw [hs.wants (j := 3) (t := 6) rfl rfl eg (by kernel_rfl)]; rfl)]
    have e8 := hs.g 5 8 (.agg #[.int .i64 b.order.start, .slice A n c, .slice A' n' c']) (hd ⟨5, .data⟩ (by simp) rfl)
    have e11 := hs.g 8 11 (.int .i64 b.order.start) (hd ⟨8, .data⟩ (by simp) rfl)
    have e13 := hs.g 10 13 (.slice A2 n2 c2) (hd ⟨10, .data⟩ (by simp) rfl)
    have g8 := getQ e8
    have g11 := getQ e11
    have g13 := getQ e13
    clear hs
    go_simp
    refine (planRun_spec _ b.order b.order.start A2 n2 c2 b.done _ (HO.out.up hR.below) (HD.out.up hR.below)).mono ?_
    rintro e w3 ⟨rfl, hb3⟩
    exact hK s w3 (fun _ _ => rfl) (hR.quiet hb3)
   refine StepAll.consG (fun D s wx hR (hDi : D 12 = false) hd hsh a' hs K hK => ?_) ?_
   ·have eg := hs.g 3 6 (.bool true) (hd ⟨3, .guard⟩ (by simp) rfl)
    rw [if_pos (by rw [hs.wants (j := 3) (t := 6) rfl rfl eg (by kernel_rfl)]; rfl)]
    have e1 := hs.old 1 (u := .pointer (some ⟨w.heap.size, 0, none⟩)) (by kernel_rfl) rfl
    clear hs
    go_simp
    exact hK s wx (fun _ _ => rfl) hR
   refine StepAll.consG (fun D s wx hR (hDi : D 13 = false) hd hsh a' hs K hK => ?_) ?_
   ·have eg := hs.g 3 6 (.bool true) (hd ⟨3, .guard⟩ (by simp) rfl)
    rw [if_pos (by rw [hs.wants (j := 3) (t := 6) rfl rfl eg (by kernel_rfl)]; rfl)]
    have e15 := hs.g 12 15 (.pointer (some ⟨w.heap.size, 4, none⟩)) (hd ⟨12, .data⟩ (by simp) rfl)
    clear hs
    have kb : Blk wx (w.heap.size) 28 #[.int .i64 b.order.start, .slice A n c, .slice A' n' c', .slice A2 n2 c2, .int .i64 b.state] := hR.blk 0 rfl
    have c0 : wx.cell? ⟨w.heap.size, 4, none⟩ = some (.int .i64 b.state) := kb.cell 4
    go_simp
    exact hK s wx (fun _ _ => rfl) hR
   refine StepAll.consG (fun D s wx hR (hDi : D 14 = false) hd hsh a' hs K hK => ?_) ?_
   ·have eg := hs.g 3 6 (.bool true) (hd ⟨3, .guard⟩ (by simp) rfl)
    rw [if_pos (by rw [hs.wants (j := 3) (t := 6) rfl rfl eg (by kernel_rfl)]; rfl)]
    have e14 := hs.g 11 14 (.int .i64 (planRun b.order b.order.start b.done)) (hd ⟨11, .data⟩ (by simp) rfl)
    have e16 := hs.g 13 16 (.int .i64 b.state) (hd ⟨13, .data⟩ (by simp) rfl)
    clear hs
    go_simp
    rw [HP.out]
    exact hK s wx (fun _ _ => rfl) hR
   refine StepAll.cons (fun D s wx hR (hDi : D 15 = false) hd hsh a' hs K hK => ?_) ?_
   ·have e6 := hs.g 3 6 (.bool true) (hd ⟨3, .data⟩ (by simp) rfl)
    have e17 := hs.g 14 17 (.bool true) (hd ⟨14, .data⟩ (by simp) rfl)
    clear hs
    go_simp
    exact hK s wx (fun _ _ => rfl) hR
   refine StepAll.cons (fun D s wx hR (hDi : D 16 = false) hd hsh a' hs K hK => ?_) ?_
   ·have e18 := hs.g 15 18 (.bool true) (hd ⟨15, .data⟩ (by simp) rfl)
    clear hs
    go_simp
    exact hK s wx (fun _ _ => rfl) hR
   refine StepAll.consG (fun D s wx hR (hDi : D 17 = false) hd hsh a' hs K hK => ?_) ?_
   ·have eg := hs.g 16 19 (.bool true) (hd ⟨16, .guard⟩ (by simp) rfl)
    rw [if_pos (by rw [hs.wants (j := 16) (t := 19) rfl rfl eg (by kernel_rfl)]; rfl)]
    have e1 := hs.old 1 (u := .pointer (some ⟨w.heap.size, 0, none⟩)) (by kernel_rfl) rfl
    clear hs
    go_simp
    exact hK s wx (fun _ _ => rfl) hR
   refine StepAll.consG (fun D s wx hR (hDi : D 18 = false) hd hsh a' hs K hK => ?_) ?_
   ·have eg := hs.g 16 19 (.bool true) (hd ⟨16, .guard⟩ (by simp) rfl)
    rw [if_pos (by rw [hs.wants (j := 16) (t := 19) rfl rfl eg (by kernel_rfl)]; rfl)]
    have e20 := hs.g 17 20 (.pointer (some ⟨w.heap.size, 4, none⟩)) (hd ⟨17, .data⟩ (by simp) rfl)
    clear hs
    have kb : Blk wx (w.heap.size) 28 #[.int .i64 b.order.start, .slice A n c, .slice A' n' c', .slice A2 n2 c2, .int .i64 b.state] := hR.blk 0 rfl
    have c0 : wx.cell? ⟨w.heap.size, 4, none⟩ = some (.int .i64 b.state) := kb.cell 4
    go_simp
    exact hK s wx (fun _ _ => rfl) hR
   refine StepAll.consG (fun D s wx hR (hDi : D 19 = false) hd hsh a' hs K hK => ?_) ?_
   ·have eg := hs.g 16 19 (.bool true) (hd ⟨16, .guard⟩ (by simp) rfl)
    rw [if_pos (by rw [hs.wants (j := 16) (t := 19) rfl rfl eg (by kernel_rfl)]; rfl)]
    have e21 := hs.g 18 21 (.int .i64 b.state) (hd ⟨18, .data⟩ (by simp) rfl)
    clear hs
    go_simp
    rw [HN.out]
    exact hK s wx (fun _ _ => rfl) hR
   refine StepAll.cons (fun D s wx hR (hDi : D 20 = false) hd hsh a' hs K hK => ?_) ?_
   ·have e19 := hs.g 16 19 (.bool true) (hd ⟨16, .data⟩ (by simp) rfl)
    have e22 := hs.g 19 22 (.bool bn) (hd ⟨19, .data⟩ (by simp) rfl)
    clear hs
    go_simp
    exact hK s wx (fun _ _ => rfl) hR
   refine StepAll.cons (fun D s wx hR (hDi : D 21 = false) hd hsh a' hs K hK => ?_) ?_
   ·have e23 := hs.g 20 23 (.bool bn) (hd ⟨20, .data⟩ (by simp) rfl)
    clear hs
    go_simp
    exact hK s wx (fun _ _ => rfl) hR
   exact StepAll.nil
  ·intro D s wx hR hD
   simp only [putA, Act.put, List.setIfInBounds_toArray, List.set_cons_zero, List.set_cons_succ]
   have M3 := hR.below
   clear hR hD
   go_wp2
   go_ret
   exact ⟨ret_bool (by rw [bookOk_spec, HOK.out, HP.out, HN.out]; simp), M3⟩
end Go.Proofs.YtkmcengmglgdeaaGreatDoor
