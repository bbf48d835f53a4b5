
import Derived.Test.YtkmcengmglgdeaaGreatDoorSPlanForS
namespace Go.Proofs.YtkmcengmglgdeaaGreatDoor
set_option linter.unusedVariables false
set_option linter.unusedSimpArgs false
set_option maxRecDepth 100000
set_option maxHeartbeats 8000000
open Go.ChangeShapes Go.WideShapes Go.ChangeAt Go.RowKit
def backs (b : BookD) : Bool := decide (0 < b.done.length) && ((restFor b).isNone || decide (40 < b.done.length + ((restFor b).getD []).length))
def endOf (b : BookD) : Int := if backs b then b.order.start else b.state
def endActs (b : BookD) : List ActD :=
 if bookOk b && (planFor b.order).isSome then (if backs b then [⟨1, b.done.length⟩] else []) ++ (if evalCode b.order.goal (endOf b).toNat then [] else [⟨3, 0⟩]) else []
theorem restFor_le {b : BookD} {r : List Int} (h : restFor b = some r) : r.length ≤ 31 := by
 unfold restFor at h
 split at h
 ·exact (planFor_some h).2.2.1
 ·cases h
theorem endActs_no (b : BookD) (h : bookOk b = false) : endActs b = [] := by unfold endActs; rw [h]; rfl
theorem endActs_cannot (b : BookD) (h : (planFor b.order).isSome = false) : endActs b = [] := by unfold endActs; rw [h]; simp
theorem endActs_go {b : BookD} {bk ev : Bool} (h : bookOk b = true) (h' : (planFor b.order).isSome = true) (hb : backs b = bk) (he : evalCode b.order.goal (if bk then b.order.start else b.state).toNat = ev) : endActs b = (if bk then [⟨1, b.done.length⟩] else []) ++ (if ev then [] else [⟨3, 0⟩]) := by
 subst hb he
 unfold endActs endOf
 rw [h, h']; rfl
theorem endActs_len (b : BookD) : (endActs b).length ≤ 2 := by
 unfold endActs
 split
 ·simp only [List.length_append]; split <;> split <;> simp
 ·simp
theorem backs_zero {b : BookD} (h : b.done.length = 0) : backs b = false := by unfold backs; simp [h]
theorem backs_none {b : BookD} (h : 0 < b.done.length) (hr : restFor b = none) : backs b = true := by unfold backs; simp [h, hr]
theorem backs_far {b : BookD} {r : List Int} (h : 0 < b.done.length) (hr : restFor b = some r) (hl : 40 < b.done.length + r.length) : backs b = true := by unfold backs; simp [h, hr, hl]
theorem backs_near {b : BookD} {r : List Int} (hr : restFor b = some r) (hl : ¬ 40 < b.done.length + r.length) : backs b = false := by unfold backs; simp [hr]; omega
theorem bookOk_parts {b : BookD} (h : bookOk b = true) : taskOk b.order = true ∧ b.done.length ≤ 40 ∧ (0 ≤ b.state ∧ b.state < 32) ∧ planRun b.order b.order.start b.done = b.state := by
 unfold bookOk at h
 simp only [Bool.and_eq_true, decide_eq_true_eq, beq_iff_eq] at h; exact ⟨h.1.1.1, h.1.1.2, (stIn_iff _).1 h.1.2, h.2⟩
theorem elAct : ElemT Tryz.prog 56 64 (.agg #[.int .i64 0, .int .i64 0]) 2 16 := ⟨Tryz.underlying56, info_parts (by kernel_rfl), rfl, by omega⟩
theorem rActs_nil (w W : World) (h : Below w.heap.size w W) : St w W [rActs (.slice none 0 0) []] :=
 ⟨h, [[]], rfl, fun i R F hR hF => by
  match i with
  | 0 =>
   injection hR with hR; injection hF with hF; subst hR hF
   exact ⟨⟨World.ownsRow_nil W 0 _ 2, rfl⟩, by simp⟩
  | i + 1 => simp at hR, by simp⟩
theorem St.newA (W : World) (g : Nat) (hg : g = W.heap.size) : St W (W.alloc (.cells #[] 64)) [rActs (.slice (some ⟨g, 0, none⟩) 0 0) []] :=
 (St.new1At W g #[] 64 hg).see fun F h _ => by
  obtain ⟨h1, rfl⟩ := h; exact ⟨⟨by simp [flatA], .inr ⟨g, 0, #[], rfl, Nat.zero_le _, h1, Nat.le_refl _, by unfold maxLen; omega, rfl, rfl⟩⟩, rfl⟩
theorem St.ownA {w W : World} {L : List HRes} (h : St w W L) (i : Nat) {v : Value} {aa : List ActD} (hi : L[i]? = some (rActs v aa)) : W.ownsRow 0 64 2 v aa.length (Go.Proofs.YtkmcengmglgdeaaGreatDoor.ints (flatA aa)) := by
 obtain ⟨F, h1, -⟩ := h.get i hi; exact h1.1
theorem St.appA {w W W' : World} {L : List HRes} (h : St w W L) (i : Nat) {v v' : Value} {aa bs : List ActD} {n : Nat} (hi : L[i]? = some (rActs v aa)) (hn : n = aa.length + bs.length) (hown : W'.ownsRow 0 64 2 v' n (Go.Proofs.YtkmcengmglgdeaaGreatDoor.ints (flatA aa) ++ Go.Proofs.YtkmcengmglgdeaaGreatDoor.ints (flatA bs)))
  (hg : W.grownBy W' v.ownBlock) (hat : v'.ownBlock = v.ownBlock ∨ v'.ownBlock = some W.heap.size) : St w W' (L.set i (rActs v' (aa ++ bs))) :=
 h.mod i hi fun F h1 _ => ⟨v'.ownBlock.toList, ⟨by subst hn; rw [List.length_append, flatA_append, show ∀ xs ys : List Int, Go.Proofs.YtkmcengmglgdeaaGreatDoor.ints (xs ++ ys) = Go.Proofs.YtkmcengmglgdeaaGreatDoor.ints xs ++ Go.Proofs.YtkmcengmglgdeaaGreatDoor.ints ys from fun xs ys => by simp [Go.Proofs.YtkmcengmglgdeaaGreatDoor.ints]]; exact hown, rfl⟩, fun b hb => by
  rcases hat with e | e
  ·left; rw [h1.2, ← e]; exact hb
  ·right; rw [e] at hb; simp at hb; omega, by rw [h1.2]; exact Only.of_grown hg⟩
theorem RdTM.goalRd {M B : Nat} {w : World} {s : Int} {G : Option Addr} {gn gc : Nat} {y : Value} {t : TaskD} (h : RdTM M w B (.agg #[.int .i64 s, .slice G gn gc, y]) t) : RdI .i64 w B G gn gc t.goal := by
 obtain ⟨A, n, c, A', n', c', e, h1, h2, h3, h4⟩ := h; simp only [Value.agg.injEq, Array.mk.injEq, List.cons.injEq, Value.slice.injEq, and_true] at e; obtain ⟨-, ⟨rfl, rfl, rfl⟩, -⟩ := e; exact h1
theorem endActs_impl (v : Value) (b : BookD) (w : World) (h : RdB w w.heap.size v b) :
  Calls Tryz.prog 48 #[v] w (Gives w id fun v => [rActs v (endActs b)]) := by
 have h' := h; obtain ⟨G, gn, gc, A', n', c', A2, n2, c2, hv⟩ := h.form; subst hv; have HDL := Lib.hid h.done.1.len; have HGO := Lib.hid (h.order.goalRd); have S0 := (St.refl w).alloc #[.int .i64 b.order.start, .slice G gn gc, .slice A' n' c', .slice A2 n2 c2, .int .i64 b.state] 28; have HB := Lib.hid h'; have HS0 := Lib.hid S0; clear S0 h h'; obtain ⟨bo, hok⟩ : ∃ x, bookOk b = x := ⟨_, rfl⟩; have HOK := Lib.hid hok; clear hok
 cases bo with
 | false =>
  have HN := Bx.mk (endActs_no b HOK.out); go_enter Tryz.func48, Tryz.ntmps48
  go_wp2_with fail
  refine (bookValid_impl _ b _ (HB.out.up HS0.out.below)).mono ?_; rw [HOK.out]; rintro e w1 ⟨rfl, hb1⟩; have HBE := Lib.hid (HS0.out.quiet hb1).below; clear hb1; go_wp2; refine bodyPost_ret (v := .slice none 0 0) (by simp [results, Tryz.results48, go_sem]) rfl ⟨.slice none 0 0, rfl, ?_⟩; rw [HN.out]; exact rActs_nil w _ HBE.out
 | true =>
  obtain ⟨hto, hd40, hst, -⟩ := bookOk_parts HOK.out; have HTO := Lib.hid hto; have hn40 : n2 ≤ 40 := by rw [← HDL.out]; exact hd40
  have HST := Lib.hid hst; clear hto hd40 hst; obtain ⟨can, hcan⟩ : ∃ x, (planFor b.order).isSome = x := ⟨_, rfl⟩; have HCAN := Bx.mk hcan; obtain ⟨ro, hro⟩ : ∃ x, restFor b = x := ⟨_, rfl⟩; have HRO := Bx.mk hro; clear hcan hro; go_enter Tryz.func48, Tryz.ntmps48
  go_wp2_with fail
  refine (bookValid_impl _ b _ (HB.out.up HS0.out.below)).mono ?_; rw [HOK.out]; rintro e w1 ⟨rfl, hb1⟩; have HS1 := Lib.hid (HS0.out.quiet hb1); have q1 := HS1.out.cells 0 rfl; clear hb1
  go_wp2_with fail
  refine (planFor_impl _ b.order _ ((HB.out.order).up HS1.out.below)).mono ?_; rw [HCAN.out]; rintro e w2 ⟨v2, rfl, s2⟩; have HS2 : Hid (St w w2 [rBlk w.heap.size 28 #[.int .i64 b.order.start, .slice G gn gc, .slice A' n' c', .slice A2 n2 c2, .int .i64 b.state]]) := Lib.hid ((HS1.out.call s2).pick [0] (by decide) rfl rfl); have q2 := HS2.out.cells 0 rfl; clear s2 q1
  cases can with
  | false =>
   have HN := Bx.mk (endActs_cannot b HCAN.out); go_wp2; refine bodyPost_ret (v := .slice none 0 0) (by simp [results, Tryz.results48, go_sem]) rfl ⟨.slice none 0 0, rfl, ?_⟩; rw [HN.out]; exact rActs_nil w _ HS2.out.below
  | true =>
   go_wp2_with fail
   refine (restFor_impl _ b _ (HB.out.up HS2.out.below)).mono ?_; rw [HRO.out]; rintro e w3 ⟨v3, rfl, s3⟩; obtain ⟨A3, c3, hv3, -⟩ := s3.rdI 0 rfl; subst hv3; have HS3 : Hid (St w w3 [rBlk w.heap.size 28 #[.int .i64 b.order.start, .slice G gn gc, .slice A' n' c', .slice A2 n2 c2, .int .i64 b.state], rActs (.slice none 0 0) []]) := Lib.hid (((HS2.out.call s3).pick [0] (by decide) rfl rfl).call (rActs_nil w3 w3 (Below.refl _ _))); have q3 := HS3.out.cells 0 rfl; clear s3 q2
   rcases Nat.eq_zero_or_pos n2 with hn0 | hn0
   ·have HBK : Bx (backs b = false) := Bx.mk (backs_zero (by rw [HDL.out, hn0]))
    cases ro with
    | none =>
     simp only [Option.isSome_none, Option.getD_none, List.length_nil]
     go_wp2_with fail
     refine (codeRun_impl G gn gc b.order.goal b.state _ (HGO.out.up HS3.out.below)).mono ?_; have hcr5a : codeRun b.order.goal b.state = evalCode b.order.goal (b.state).toNat := by unfold codeRun; rw [(taskOk_parts _ HTO.out).2.1, (stIn_iff _).2 HST.out]; rfl
     obtain ⟨ev, hev⟩ : ∃ x, evalCode b.order.goal (b.state).toNat = x := ⟨_, rfl⟩; rw [hcr5a, hev]; have HFIN := Bx.mk (endActs_go (bk := false) (ev := ev) HOK.out HCAN.out HBK.out hev); rintro e w5a0 ⟨rfl, hb5a0⟩; have HSX5a : Hid (St w w5a0 [rBlk w.heap.size 28 #[.int .i64 b.order.start, .slice G gn gc, .slice A' n' c', .slice A2 n2 c2, .int .i64 b.state], rActs (.slice none 0 0) []]) := Lib.hid (HS3.out.quiet hb5a0); clear hcr5a hev hb5a0
     cases ev with
     | true =>
      go_wp2; refine bodyPost_ret (v := .slice none 0 0) (by simp [results, Tryz.results48, go_sem]) rfl ⟨.slice none 0 0, rfl, ?_⟩; rw [HFIN.out]; exact HSX5a.out.pick [1] (by decide) rfl rfl
     | false =>
      have HAP5a1 : Hid (∀ v5a1 w5a1, w5a1.ownsRow 0 64 2 v5a1 1 (ints (flatA []) ++ ints (flatA [⟨3, 0⟩])) → ((w5a0).alloc (.cells #[.int .i64 3, .int .i64 0] 64)).grownBy w5a1 (Value.slice none 0 0).ownBlock → (v5a1.ownBlock = (Value.slice none 0 0).ownBlock ∨ v5a1.ownBlock = some ((w5a0).alloc (.cells #[.int .i64 3, .int .i64 0] 64)).heap.size) →
        St w w5a1 [rBlk w.heap.size 28 #[.int .i64 b.order.start, .slice G gn gc, .slice A' n' c', .slice A2 n2 c2, .int .i64 b.state], rActs v5a1 [⟨3, 0⟩]]) := Lib.hid fun v5a1 w5a1 h1 h2 h3 => St.appA (v := .slice none 0 0) (aa := []) (bs := [⟨3, 0⟩]) ((HSX5a.out.alloc #[.int .i64 3, .int .i64 0] 64).pick [0, 1] (by decide) rfl rfl) 1 rfl rfl h1 h2 h3
      have HOW5a1 := Lib.hid ((HSX5a.out.ownA 1 rfl))
      go_wp2_with (at_builtin; refine wp_app elAct rfl (.tmp 60) (.tmp 62) rfl 0 (.slice none 0 0) 0 (ints (flatA [])) rfl (HOW5a1.out.alloc _) _ _ 1 1 [.int .i64 3, .int .i64 0] rfl (RdRow.new (w5a0) [.int .i64 3, .int .i64 0] 64 2 1 rfl (by unfold maxLen; omega)) (by simp [Value.oneCell']) (by omega) (by omega) (Nat.zero_le _) ?_; intro v5a1 w5a1 hown5a1 hg5a1 hat5a1; have HSY5a := Lib.hid (HAP5a1.out v5a1 w5a1 hown5a1 hg5a1 hat5a1); have q5a1 : ∀ j, w5a1.cell? ⟨w.heap.size, j, none⟩ = _ := HSY5a.out.cells 0 rfl; clear hown5a1 hg5a1 hat5a1)
      go_wp2; refine bodyPost_ret (v := v5a1) (by simp [results, Tryz.results48, go_sem]) rfl ⟨v5a1, rfl, ?_⟩; rw [HFIN.out]; exact HSY5a.out.pick [1] (by decide) rfl rfl
    | some r =>
     have hr31 := restFor_le HRO.out; simp only [Option.isSome_some, Option.getD_some]
     go_wp2_with fail
     refine (codeRun_impl G gn gc b.order.goal b.state _ (HGO.out.up HS3.out.below)).mono ?_; have hcr5b : codeRun b.order.goal b.state = evalCode b.order.goal (b.state).toNat := by unfold codeRun; rw [(taskOk_parts _ HTO.out).2.1, (stIn_iff _).2 HST.out]; rfl
     obtain ⟨ev, hev⟩ : ∃ x, evalCode b.order.goal (b.state).toNat = x := ⟨_, rfl⟩; rw [hcr5b, hev]; have HFIN := Bx.mk (endActs_go (bk := false) (ev := ev) HOK.out HCAN.out HBK.out hev); rintro e w5b0 ⟨rfl, hb5b0⟩; have HSX5b : Hid (St w w5b0 [rBlk w.heap.size 28 #[.int .i64 b.order.start, .slice G gn gc, .slice A' n' c', .slice A2 n2 c2, .int .i64 b.state], rActs (.slice none 0 0) []]) := Lib.hid (HS3.out.quiet hb5b0); clear hcr5b hev hb5b0
     cases ev with
     | true =>
      go_wp2; refine bodyPost_ret (v := .slice none 0 0) (by simp [results, Tryz.results48, go_sem]) rfl ⟨.slice none 0 0, rfl, ?_⟩; rw [HFIN.out]; exact HSX5b.out.pick [1] (by decide) rfl rfl
     | false =>
      have HAP5b1 : Hid (∀ v5b1 w5b1, w5b1.ownsRow 0 64 2 v5b1 1 (ints (flatA []) ++ ints (flatA [⟨3, 0⟩])) → ((w5b0).alloc (.cells #[.int .i64 3, .int .i64 0] 64)).grownBy w5b1 (Value.slice none 0 0).ownBlock → (v5b1.ownBlock = (Value.slice none 0 0).ownBlock ∨ v5b1.ownBlock = some ((w5b0).alloc (.cells #[.int .i64 3, .int .i64 0] 64)).heap.size) →
        St w w5b1 [rBlk w.heap.size 28 #[.int .i64 b.order.start, .slice G gn gc, .slice A' n' c', .slice A2 n2 c2, .int .i64 b.state], rActs v5b1 [⟨3, 0⟩]]) := Lib.hid fun v5b1 w5b1 h1 h2 h3 => St.appA (v := .slice none 0 0) (aa := []) (bs := [⟨3, 0⟩]) ((HSX5b.out.alloc #[.int .i64 3, .int .i64 0] 64).pick [0, 1] (by decide) rfl rfl) 1 rfl rfl h1 h2 h3
      have HOW5b1 := Lib.hid ((HSX5b.out.ownA 1 rfl))
      go_wp2_with (at_builtin; refine wp_app elAct rfl (.tmp 60) (.tmp 62) rfl 0 (.slice none 0 0) 0 (ints (flatA [])) rfl (HOW5b1.out.alloc _) _ _ 1 1 [.int .i64 3, .int .i64 0] rfl (RdRow.new (w5b0) [.int .i64 3, .int .i64 0] 64 2 1 rfl (by unfold maxLen; omega)) (by simp [Value.oneCell']) (by omega) (by omega) (Nat.zero_le _) ?_; intro v5b1 w5b1 hown5b1 hg5b1 hat5b1; have HSY5b := Lib.hid (HAP5b1.out v5b1 w5b1 hown5b1 hg5b1 hat5b1); have q5b1 : ∀ j, w5b1.cell? ⟨w.heap.size, j, none⟩ = _ := HSY5b.out.cells 0 rfl; clear hown5b1 hg5b1 hat5b1)
      go_wp2; refine bodyPost_ret (v := v5b1) (by simp [results, Tryz.results48, go_sem]) rfl ⟨v5b1, rfl, ?_⟩; rw [HFIN.out]; exact HSY5b.out.pick [1] (by decide) rfl rfl
   ·cases ro with
    | none =>
     have HBK : Bx (backs b = true) := Bx.mk (backs_none (by rw [HDL.out]; exact hn0) HRO.out); simp only [Option.isSome_none, Option.getD_none, List.length_nil]
     have HAP4c : Hid (∀ v4c w4c, w4c.ownsRow 0 64 2 v4c 1 (ints (flatA []) ++ ints (flatA [⟨1, n2⟩])) → ((w3).alloc (.cells #[.int .i64 1, .int .i64 n2] 64)).grownBy w4c (Value.slice none 0 0).ownBlock → (v4c.ownBlock = (Value.slice none 0 0).ownBlock ∨ v4c.ownBlock = some ((w3).alloc (.cells #[.int .i64 1, .int .i64 n2] 64)).heap.size) →
       St w w4c [rBlk w.heap.size 28 #[.int .i64 b.order.start, .slice G gn gc, .slice A' n' c', .slice A2 n2 c2, .int .i64 b.state], rActs v4c [⟨1, n2⟩]]) := Lib.hid fun v4c w4c h1 h2 h3 => St.appA (v := .slice none 0 0) (aa := []) (bs := [⟨1, n2⟩]) ((HS3.out.alloc #[.int .i64 1, .int .i64 n2] 64).pick [0, 1] (by decide) rfl rfl) 1 rfl rfl h1 h2 h3
     have HOW4c := Lib.hid ((HS3.out.ownA 1 rfl))
     go_wp2_with (at_builtin; refine wp_app elAct rfl (.tmp 44) (.tmp 49) rfl 0 (.slice none 0 0) 0 (ints (flatA [])) rfl (HOW4c.out.alloc _) _ _ 1 1 [.int .i64 1, .int .i64 n2] rfl (RdRow.new (w3) [.int .i64 1, .int .i64 n2] 64 2 1 rfl (by unfold maxLen; omega)) (by simp [Value.oneCell']) (by omega) (by omega) (Nat.zero_le _) ?_; intro v4c w4c hown4c hg4c hat4c; have HSBc := Lib.hid (HAP4c.out v4c w4c hown4c hg4c hat4c); have q4c : ∀ j, w4c.cell? ⟨w.heap.size, j, none⟩ = _ := HSBc.out.cells 0 rfl; clear hown4c hg4c hat4c)
     go_wp2_with fail
     refine (codeRun_impl G gn gc b.order.goal b.order.start _ (HGO.out.up HSBc.out.below)).mono ?_; have hcr5c : codeRun b.order.goal b.order.start = evalCode b.order.goal (b.order.start).toNat := by unfold codeRun; rw [(taskOk_parts _ HTO.out).2.1, (stIn_iff _).2 (taskOk_parts _ HTO.out).1]; rfl
     obtain ⟨ev, hev⟩ : ∃ x, evalCode b.order.goal (b.order.start).toNat = x := ⟨_, rfl⟩; rw [hcr5c, hev]; have HFIN := Bx.mk (endActs_go (bk := true) (ev := ev) HOK.out HCAN.out HBK.out hev); rw [HDL.out] at HFIN; rintro e w5c0 ⟨rfl, hb5c0⟩; have HSX5c : Hid (St w w5c0 [rBlk w.heap.size 28 #[.int .i64 b.order.start, .slice G gn gc, .slice A' n' c', .slice A2 n2 c2, .int .i64 b.state], rActs v4c [⟨1, n2⟩]]) := Lib.hid (HSBc.out.quiet hb5c0); clear hcr5c hev hb5c0
     cases ev with
     | true =>
      go_wp2; refine bodyPost_ret (v := v4c) (by simp [results, Tryz.results48, go_sem]) rfl ⟨v4c, rfl, ?_⟩; rw [HFIN.out]; exact HSX5c.out.pick [1] (by decide) rfl rfl
     | false =>
      have HAP5c1 : Hid (∀ v5c1 w5c1, w5c1.ownsRow 0 64 2 v5c1 2 (ints (flatA [⟨1, n2⟩]) ++ ints (flatA [⟨3, 0⟩])) → ((w5c0).alloc (.cells #[.int .i64 3, .int .i64 0] 64)).grownBy w5c1 (v4c).ownBlock → (v5c1.ownBlock = (v4c).ownBlock ∨ v5c1.ownBlock = some ((w5c0).alloc (.cells #[.int .i64 3, .int .i64 0] 64)).heap.size) →
        St w w5c1 [rBlk w.heap.size 28 #[.int .i64 b.order.start, .slice G gn gc, .slice A' n' c', .slice A2 n2 c2, .int .i64 b.state], rActs v5c1 [⟨1, n2⟩, ⟨3, 0⟩]]) := Lib.hid fun v5c1 w5c1 h1 h2 h3 => St.appA (v := v4c) (aa := [⟨1, n2⟩]) (bs := [⟨3, 0⟩]) ((HSX5c.out.alloc #[.int .i64 3, .int .i64 0] 64).pick [0, 1] (by decide) rfl rfl) 1 rfl rfl h1 h2 h3
      have HOW5c1 := Lib.hid ((HSX5c.out.ownA 1 rfl))
      go_wp2_with (at_builtin; refine wp_app elAct rfl (.tmp 60) (.tmp 62) rfl 0 (v4c) 1 (ints (flatA [⟨1, n2⟩])) rfl (HOW5c1.out.alloc _) _ _ 1 1 [.int .i64 3, .int .i64 0] rfl (RdRow.new (w5c0) [.int .i64 3, .int .i64 0] 64 2 1 rfl (by unfold maxLen; omega)) (by simp [Value.oneCell']) (by omega) (by omega) (Nat.zero_le _) ?_; intro v5c1 w5c1 hown5c1 hg5c1 hat5c1; have HSY5c := Lib.hid (HAP5c1.out v5c1 w5c1 hown5c1 hg5c1 hat5c1); have q5c1 : ∀ j, w5c1.cell? ⟨w.heap.size, j, none⟩ = _ := HSY5c.out.cells 0 rfl; clear hown5c1 hg5c1 hat5c1)
      go_wp2; refine bodyPost_ret (v := v5c1) (by simp [results, Tryz.results48, go_sem]) rfl ⟨v5c1, rfl, ?_⟩; rw [HFIN.out]; exact HSY5c.out.pick [1] (by decide) rfl rfl
    | some r =>
     have hr31 := restFor_le HRO.out; simp only [Option.isSome_some, Option.getD_some]
     by_cases hfar : 40 < n2 + r.length
     ·have HBK : Bx (backs b = true) := Bx.mk (backs_far (by rw [HDL.out]; exact hn0) HRO.out (by rw [HDL.out]; exact hfar))
      have HAP4d : Hid (∀ v4d w4d, w4d.ownsRow 0 64 2 v4d 1 (ints (flatA []) ++ ints (flatA [⟨1, n2⟩])) → ((w3).alloc (.cells #[.int .i64 1, .int .i64 n2] 64)).grownBy w4d (Value.slice none 0 0).ownBlock → (v4d.ownBlock = (Value.slice none 0 0).ownBlock ∨ v4d.ownBlock = some ((w3).alloc (.cells #[.int .i64 1, .int .i64 n2] 64)).heap.size) →
        St w w4d [rBlk w.heap.size 28 #[.int .i64 b.order.start, .slice G gn gc, .slice A' n' c', .slice A2 n2 c2, .int .i64 b.state], rActs v4d [⟨1, n2⟩]]) := Lib.hid fun v4d w4d h1 h2 h3 => St.appA (v := .slice none 0 0) (aa := []) (bs := [⟨1, n2⟩]) ((HS3.out.alloc #[.int .i64 1, .int .i64 n2] 64).pick [0, 1] (by decide) rfl rfl) 1 rfl rfl h1 h2 h3
      have HOW4d := Lib.hid ((HS3.out.ownA 1 rfl))
      go_wp2_with (at_builtin; refine wp_app elAct rfl (.tmp 44) (.tmp 49) rfl 0 (.slice none 0 0) 0 (ints (flatA [])) rfl (HOW4d.out.alloc _) _ _ 1 1 [.int .i64 1, .int .i64 n2] rfl (RdRow.new (w3) [.int .i64 1, .int .i64 n2] 64 2 1 rfl (by unfold maxLen; omega)) (by simp [Value.oneCell']) (by omega) (by omega) (Nat.zero_le _) ?_; intro v4d w4d hown4d hg4d hat4d; have HSBd := Lib.hid (HAP4d.out v4d w4d hown4d hg4d hat4d); have q4d : ∀ j, w4d.cell? ⟨w.heap.size, j, none⟩ = _ := HSBd.out.cells 0 rfl; clear hown4d hg4d hat4d)
      go_wp2_with fail
      refine (codeRun_impl G gn gc b.order.goal b.order.start _ (HGO.out.up HSBd.out.below)).mono ?_; have hcr5d : codeRun b.order.goal b.order.start = evalCode b.order.goal (b.order.start).toNat := by unfold codeRun; rw [(taskOk_parts _ HTO.out).2.1, (stIn_iff _).2 (taskOk_parts _ HTO.out).1]; rfl
      obtain ⟨ev, hev⟩ : ∃ x, evalCode b.order.goal (b.order.start).toNat = x := ⟨_, rfl⟩; rw [hcr5d, hev]; have HFIN := Bx.mk (endActs_go (bk := true) (ev := ev) HOK.out HCAN.out HBK.out hev); rw [HDL.out] at HFIN; rintro e w5d0 ⟨rfl, hb5d0⟩; have HSX5d : Hid (St w w5d0 [rBlk w.heap.size 28 #[.int .i64 b.order.start, .slice G gn gc, .slice A' n' c', .slice A2 n2 c2, .int .i64 b.state], rActs v4d [⟨1, n2⟩]]) := Lib.hid (HSBd.out.quiet hb5d0); clear hcr5d hev hb5d0
      cases ev with
      | true =>
       go_wp2; refine bodyPost_ret (v := v4d) (by simp [results, Tryz.results48, go_sem]) rfl ⟨v4d, rfl, ?_⟩; rw [HFIN.out]; exact HSX5d.out.pick [1] (by decide) rfl rfl
      | false =>
       have HAP5d1 : Hid (∀ v5d1 w5d1, w5d1.ownsRow 0 64 2 v5d1 2 (ints (flatA [⟨1, n2⟩]) ++ ints (flatA [⟨3, 0⟩])) → ((w5d0).alloc (.cells #[.int .i64 3, .int .i64 0] 64)).grownBy w5d1 (v4d).ownBlock → (v5d1.ownBlock = (v4d).ownBlock ∨ v5d1.ownBlock = some ((w5d0).alloc (.cells #[.int .i64 3, .int .i64 0] 64)).heap.size) →
         St w w5d1 [rBlk w.heap.size 28 #[.int .i64 b.order.start, .slice G gn gc, .slice A' n' c', .slice A2 n2 c2, .int .i64 b.state], rActs v5d1 [⟨1, n2⟩, ⟨3, 0⟩]]) := Lib.hid fun v5d1 w5d1 h1 h2 h3 => St.appA (v := v4d) (aa := [⟨1, n2⟩]) (bs := [⟨3, 0⟩]) ((HSX5d.out.alloc #[.int .i64 3, .int .i64 0] 64).pick [0, 1] (by decide) rfl rfl) 1 rfl rfl h1 h2 h3
       have HOW5d1 := Lib.hid ((HSX5d.out.ownA 1 rfl))
       go_wp2_with (at_builtin; refine wp_app elAct rfl (.tmp 60) (.tmp 62) rfl 0 (v4d) 1 (ints (flatA [⟨1, n2⟩])) rfl (HOW5d1.out.alloc _) _ _ 1 1 [.int .i64 3, .int .i64 0] rfl (RdRow.new (w5d0) [.int .i64 3, .int .i64 0] 64 2 1 rfl (by unfold maxLen; omega)) (by simp [Value.oneCell']) (by omega) (by omega) (Nat.zero_le _) ?_; intro v5d1 w5d1 hown5d1 hg5d1 hat5d1; have HSY5d := Lib.hid (HAP5d1.out v5d1 w5d1 hown5d1 hg5d1 hat5d1); have q5d1 : ∀ j, w5d1.cell? ⟨w.heap.size, j, none⟩ = _ := HSY5d.out.cells 0 rfl; clear hown5d1 hg5d1 hat5d1)
       go_wp2; refine bodyPost_ret (v := v5d1) (by simp [results, Tryz.results48, go_sem]) rfl ⟨v5d1, rfl, ?_⟩; rw [HFIN.out]; exact HSY5d.out.pick [1] (by decide) rfl rfl
     ·have HBK : Bx (backs b = false) := Bx.mk (backs_near HRO.out (by rw [HDL.out]; exact hfar))
      go_wp2_with fail
      refine (codeRun_impl G gn gc b.order.goal b.state _ (HGO.out.up HS3.out.below)).mono ?_; have hcr5f : codeRun b.order.goal b.state = evalCode b.order.goal (b.state).toNat := by unfold codeRun; rw [(taskOk_parts _ HTO.out).2.1, (stIn_iff _).2 HST.out]; rfl
      obtain ⟨ev, hev⟩ : ∃ x, evalCode b.order.goal (b.state).toNat = x := ⟨_, rfl⟩; rw [hcr5f, hev]; have HFIN := Bx.mk (endActs_go (bk := false) (ev := ev) HOK.out HCAN.out HBK.out hev); rintro e w5f0 ⟨rfl, hb5f0⟩; have HSX5f : Hid (St w w5f0 [rBlk w.heap.size 28 #[.int .i64 b.order.start, .slice G gn gc, .slice A' n' c', .slice A2 n2 c2, .int .i64 b.state], rActs (.slice none 0 0) []]) := Lib.hid (HS3.out.quiet hb5f0); clear hcr5f hev hb5f0
      cases ev with
      | true =>
       go_wp2; refine bodyPost_ret (v := .slice none 0 0) (by simp [results, Tryz.results48, go_sem]) rfl ⟨.slice none 0 0, rfl, ?_⟩; rw [HFIN.out]; exact HSX5f.out.pick [1] (by decide) rfl rfl
      | false =>
       have HAP5f1 : Hid (∀ v5f1 w5f1, w5f1.ownsRow 0 64 2 v5f1 1 (ints (flatA []) ++ ints (flatA [⟨3, 0⟩])) → ((w5f0).alloc (.cells #[.int .i64 3, .int .i64 0] 64)).grownBy w5f1 (Value.slice none 0 0).ownBlock → (v5f1.ownBlock = (Value.slice none 0 0).ownBlock ∨ v5f1.ownBlock = some ((w5f0).alloc (.cells #[.int .i64 3, .int .i64 0] 64)).heap.size) →
         St w w5f1 [rBlk w.heap.size 28 #[.int .i64 b.order.start, .slice G gn gc, .slice A' n' c', .slice A2 n2 c2, .int .i64 b.state], rActs v5f1 [⟨3, 0⟩]]) := Lib.hid fun v5f1 w5f1 h1 h2 h3 => St.appA (v := .slice none 0 0) (aa := []) (bs := [⟨3, 0⟩]) ((HSX5f.out.alloc #[.int .i64 3, .int .i64 0] 64).pick [0, 1] (by decide) rfl rfl) 1 rfl rfl h1 h2 h3
       have HOW5f1 := Lib.hid ((HSX5f.out.ownA 1 rfl))
       go_wp2_with (at_builtin; refine wp_app elAct rfl (.tmp 60) (.tmp 62) rfl 0 (.slice none 0 0) 0 (ints (flatA [])) rfl (HOW5f1.out.alloc _) _ _ 1 1 [.int .i64 3, .int .i64 0] rfl (RdRow.new (w5f0) [.int .i64 3, .int .i64 0] 64 2 1 rfl (by unfold maxLen; omega)) (by simp [Value.oneCell']) (by omega) (by omega) (Nat.zero_le _) ?_; intro v5f1 w5f1 hown5f1 hg5f1 hat5f1; have HSY5f := Lib.hid (HAP5f1.out v5f1 w5f1 hown5f1 hg5f1 hat5f1); have q5f1 : ∀ j, w5f1.cell? ⟨w.heap.size, j, none⟩ = _ := HSY5f.out.cells 0 rfl; clear hown5f1 hg5f1 hat5f1)
       go_wp2; refine bodyPost_ret (v := v5f1) (by simp [results, Tryz.results48, go_sem]) rfl ⟨v5f1, rfl, ?_⟩; rw [HFIN.out]; exact HSY5f.out.pick [1] (by decide) rfl rfl
theorem endActs_spec (v : Value) (b : BookD) (w : World) (h : RdB w w.heap.size v b) :
  Calls Tryz.prog 54 #[v] w (Gives w id fun v => [rActs v (endActs b)]) := by
 have h' := h; obtain ⟨G, gn, gc, A', n', c', A2, n2, c2, hv⟩ := h.form; subst hv; have HDL := Lib.hid h.done.1.len; have HGO := Lib.hid (h.order.goalRd); have S0 := (St.refl w).alloc #[.int .i64 b.order.start, .slice G gn gc, .slice A' n' c', .slice A2 n2 c2, .int .i64 b.state] 28; have HB := Lib.hid h'; have HS0 := Lib.hid S0; clear S0 h h'; obtain ⟨bo, hok⟩ : ∃ x, bookOk b = x := ⟨_, rfl⟩; have HOK := Lib.hid hok; clear hok; have HS0' : Hid (St w ((w.alloc (.cells #[.int .i64 b.order.start, .slice G gn gc, .slice A' n' c', .slice A2 n2 c2, .int .i64 b.state] 28)).alloc (.cells #[] 64)) [rBlk w.heap.size 28 #[.int .i64 b.order.start, .slice G gn gc, .slice A' n' c', .slice A2 n2 c2, .int .i64 b.state], rActs (.slice (some ⟨w.heap.size + 1, 0, none⟩) 0 0) []]) := Lib.hid (HS0.out.call (St.newA _ _ (by simp))); clear HS0; have HS0 := HS0'; clear HS0'
 cases bo with
 | false =>
  have HN := Bx.mk (endActs_no b HOK.out); go_enter Tryz.func54, Tryz.ntmps54; have q0 := HS0.out.cells 0 rfl
  go_wp2_with fail
  refine (bookValid_spec _ b _ (HB.out.up HS0.out.below)).mono ?_; rw [HOK.out]; rintro e w1 ⟨rfl, hb1⟩; have HS1 := Lib.hid (HS0.out.quiet hb1); clear hb1 q0; go_wp2; refine bodyPost_ret (v := .slice (some ⟨w.heap.size + 1, 0, none⟩) 0 0) (by simp [results, Tryz.results54, go_sem]) rfl ⟨.slice (some ⟨w.heap.size + 1, 0, none⟩) 0 0, rfl, ?_⟩; rw [HN.out]; exact HS1.out.pick [1] (by decide) rfl rfl
 | true =>
  obtain ⟨hto, hd40, hst, -⟩ := bookOk_parts HOK.out; have HTO := Lib.hid hto; have hn40 : n2 ≤ 40 := by rw [← HDL.out]; exact hd40
  have hsn := (taskOk_parts _ hto).1; obtain ⟨s0, hs0⟩ := Int.eq_ofNat_of_zero_le hsn.1; obtain ⟨s1, hs1⟩ := Int.eq_ofNat_of_zero_le hst.1; have hs32 : s0 < 32 := by omega
  have HGK := Lib.hid (taskOk_parts _ hto).2.1; obtain ⟨can, hcan⟩ : ∃ x, (planFor b.order).isSome = x := ⟨_, rfl⟩; have HCAN := Bx.mk hcan; obtain ⟨ro, hro⟩ : ∃ x, restFor b = x := ⟨_, rfl⟩; have HRO := Bx.mk hro; have HSZ := Bx.mk hs0; have HSY := Bx.mk hs1; rw [hs0, hs1] at HS0 ⊢
  rw [hs0, hs1] at HB; clear hcan hro hs0 hs1 hto hd40 hst hsn; go_enter Tryz.func54, Tryz.ntmps54; have q0 := HS0.out.cells 0 rfl
  go_wp2_with fail
  refine (bookValid_spec _ b _ (HB.out.up HS0.out.below)).mono ?_; rw [HOK.out]; rintro e w1 ⟨rfl, hb1⟩; have HS1 := Lib.hid (HS0.out.quiet hb1); have q1 := HS1.out.cells 0 rfl; clear hb1 q0
  go_wp2_with fail
  refine (planFor_spec _ b.order _ ((HB.out.order).up HS1.out.below)).mono ?_; rw [HCAN.out]; rintro e w2 ⟨v2, rfl, s2⟩; have HS2 : Hid (St w w2 [rBlk w.heap.size 28 #[.int .i64 (s0 : Int), .slice G gn gc, .slice A' n' c', .slice A2 n2 c2, .int .i64 (s1 : Int)], rActs (.slice (some ⟨w.heap.size + 1, 0, none⟩) 0 0) []]) := Lib.hid ((HS1.out.call s2).pick [0, 1] (by decide) rfl rfl); have q2 := HS2.out.cells 0 rfl; clear s2 q1
  go_wp2_with fail
  refine (restFor_spec _ b _ (HB.out.up HS2.out.below)).mono ?_; rw [HRO.out]; rintro e w3 ⟨v3, rfl, s3⟩; obtain ⟨A3, c3, hv3, -⟩ := s3.rdI 0 rfl; subst hv3; have HS3 : Hid (St w w3 [rBlk w.heap.size 28 #[.int .i64 (s0 : Int), .slice G gn gc, .slice A' n' c', .slice A2 n2 c2, .int .i64 (s1 : Int)], rActs (.slice (some ⟨w.heap.size + 1, 0, none⟩) 0 0) []]) := Lib.hid ((HS2.out.call s3).pick [0, 1] (by decide) rfl rfl); have q3 := HS3.out.cells 0 rfl; clear s3 q2
  cases can with
  | false =>
   have HN := Bx.mk (endActs_cannot b HCAN.out); go_wp2; refine bodyPost_ret (v := .slice (some ⟨w.heap.size + 1, 0, none⟩) 0 0) (by simp [results, Tryz.results54, go_sem]) rfl ⟨.slice (some ⟨w.heap.size + 1, 0, none⟩) 0 0, rfl, ?_⟩; rw [HN.out]; exact HS3.out.pick [1] (by decide) rfl rfl
  | true =>
   obtain ⟨ea, hea⟩ : ∃ x, bookEnded b = x := ⟨_, rfl⟩; have HEA : Bx (evalCode b.order.goal b.state.toNat = ea) := Bx.mk (by have := hea; unfold bookEnded at this; rw [HOK.out] at this; simpa using this)
   go_wp2_with fail
   refine (bookEnded_spec _ b _ (HB.out.up HS3.out.below)).mono ?_; rw [hea]; rintro e w4 ⟨rfl, hb4⟩; have HS4 : Hid (St w w4 [rBlk w.heap.size 28 #[.int .i64 (s0 : Int), .slice G gn gc, .slice A' n' c', .slice A2 n2 c2, .int .i64 (s1 : Int)], rActs (.slice (some ⟨w.heap.size + 1, 0, none⟩) 0 0) []]) := Lib.hid (HS3.out.quiet hb4); have q4 := HS4.out.cells 0 rfl; clear hb4 q3 hea
   rcases Nat.eq_zero_or_pos n2 with hn0 | hn0
   ·have HBK : Bx (backs b = false) := Bx.mk (backs_zero (by rw [HDL.out, hn0]))
    cases ro with
    | none =>
     simp only [Option.isSome_none, Option.getD_none, List.length_nil]; have HFIN := Bx.mk (endActs_go (bk := false) (ev := ea) HOK.out HCAN.out HBK.out (by simpa using HEA.out))
     cases ea with
     | true =>
      go_wp2; refine bodyPost_ret (v := .slice (some ⟨w.heap.size + 1, 0, none⟩) 0 0) (by simp [results, Tryz.results54, go_sem]) rfl ⟨.slice (some ⟨w.heap.size + 1, 0, none⟩) 0 0, rfl, ?_⟩; rw [HFIN.out]; exact HS4.out.pick [1] (by decide) rfl rfl
     | false =>
      have HAP9a : Hid (∀ v9a w9a, w9a.ownsRow 0 64 2 v9a 1 (ints (flatA []) ++ ints (flatA [⟨3, 0⟩])) → ((w4).alloc (.cells #[.int .i64 3, .int .i64 0] 64)).grownBy w9a (Value.slice (some ⟨w.heap.size + 1, 0, none⟩) 0 0).ownBlock → (v9a.ownBlock = (Value.slice (some ⟨w.heap.size + 1, 0, none⟩) 0 0).ownBlock ∨ v9a.ownBlock = some ((w4).alloc (.cells #[.int .i64 3, .int .i64 0] 64)).heap.size) →
        St w w9a [rBlk w.heap.size 28 #[.int .i64 (s0 : Int), .slice G gn gc, .slice A' n' c', .slice A2 n2 c2, .int .i64 (s1 : Int)], rActs v9a [⟨3, 0⟩]]) := Lib.hid fun v9a w9a h1 h2 h3 => St.appA (v := .slice (some ⟨w.heap.size + 1, 0, none⟩) 0 0) (aa := []) (bs := [⟨3, 0⟩]) ((HS4.out.alloc #[.int .i64 3, .int .i64 0] 64).pick [0, 1] (by decide) rfl rfl) 1 rfl rfl h1 h2 h3
      have HOW9a := Lib.hid ((HS4.out.ownA 1 rfl))
      go_wp2_with (at_builtin; refine wp_app elAct rfl (.tmp 63) (.tmp 65) rfl 0 (.slice (some ⟨w.heap.size + 1, 0, none⟩) 0 0) 0 (ints (flatA [])) rfl (HOW9a.out.alloc _) _ _ 1 1 [.int .i64 3, .int .i64 0] rfl (RdRow.new (w4) [.int .i64 3, .int .i64 0] 64 2 1 rfl (by unfold maxLen; omega)) (by simp [Value.oneCell']) (by omega) (by omega) (Nat.zero_le _) ?_; intro v9a w9a hown9a hg9a hat9a; have HSZa := Lib.hid (HAP9a.out v9a w9a hown9a hg9a hat9a); have q9a : ∀ j, w9a.cell? ⟨w.heap.size, j, none⟩ = _ := HSZa.out.cells 0 rfl; clear hown9a hg9a hat9a)
      go_wp2; refine bodyPost_ret (v := v9a) (by simp [results, Tryz.results54, go_sem]) rfl ⟨v9a, rfl, ?_⟩; rw [HFIN.out]; exact HSZa.out.pick [1] (by decide) rfl rfl
    | some r =>
     have hr31 := restFor_le HRO.out; simp only [Option.isSome_some, Option.getD_some]; have HFIN := Bx.mk (endActs_go (bk := false) (ev := ea) HOK.out HCAN.out HBK.out (by simpa using HEA.out))
     cases ea with
     | true =>
      go_wp2; refine bodyPost_ret (v := .slice (some ⟨w.heap.size + 1, 0, none⟩) 0 0) (by simp [results, Tryz.results54, go_sem]) rfl ⟨.slice (some ⟨w.heap.size + 1, 0, none⟩) 0 0, rfl, ?_⟩; rw [HFIN.out]; exact HS4.out.pick [1] (by decide) rfl rfl
     | false =>
      have HAP9b : Hid (∀ v9b w9b, w9b.ownsRow 0 64 2 v9b 1 (ints (flatA []) ++ ints (flatA [⟨3, 0⟩])) → ((w4).alloc (.cells #[.int .i64 3, .int .i64 0] 64)).grownBy w9b (Value.slice (some ⟨w.heap.size + 1, 0, none⟩) 0 0).ownBlock → (v9b.ownBlock = (Value.slice (some ⟨w.heap.size + 1, 0, none⟩) 0 0).ownBlock ∨ v9b.ownBlock = some ((w4).alloc (.cells #[.int .i64 3, .int .i64 0] 64)).heap.size) →
        St w w9b [rBlk w.heap.size 28 #[.int .i64 (s0 : Int), .slice G gn gc, .slice A' n' c', .slice A2 n2 c2, .int .i64 (s1 : Int)], rActs v9b [⟨3, 0⟩]]) := Lib.hid fun v9b w9b h1 h2 h3 => St.appA (v := .slice (some ⟨w.heap.size + 1, 0, none⟩) 0 0) (aa := []) (bs := [⟨3, 0⟩]) ((HS4.out.alloc #[.int .i64 3, .int .i64 0] 64).pick [0, 1] (by decide) rfl rfl) 1 rfl rfl h1 h2 h3
      have HOW9b := Lib.hid ((HS4.out.ownA 1 rfl))
      go_wp2_with (at_builtin; refine wp_app elAct rfl (.tmp 63) (.tmp 65) rfl 0 (.slice (some ⟨w.heap.size + 1, 0, none⟩) 0 0) 0 (ints (flatA [])) rfl (HOW9b.out.alloc _) _ _ 1 1 [.int .i64 3, .int .i64 0] rfl (RdRow.new (w4) [.int .i64 3, .int .i64 0] 64 2 1 rfl (by unfold maxLen; omega)) (by simp [Value.oneCell']) (by omega) (by omega) (Nat.zero_le _) ?_; intro v9b w9b hown9b hg9b hat9b; have HSZb := Lib.hid (HAP9b.out v9b w9b hown9b hg9b hat9b); have q9b : ∀ j, w9b.cell? ⟨w.heap.size, j, none⟩ = _ := HSZb.out.cells 0 rfl; clear hown9b hg9b hat9b)
      go_wp2; refine bodyPost_ret (v := v9b) (by simp [results, Tryz.results54, go_sem]) rfl ⟨v9b, rfl, ?_⟩; rw [HFIN.out]; exact HSZb.out.pick [1] (by decide) rfl rfl
   ·cases ro with
    | none =>
     have HBK : Bx (backs b = true) := Bx.mk (backs_none (by rw [HDL.out]; exact hn0) HRO.out); simp only [Option.isSome_none, Option.getD_none, List.length_nil]
     have HAP5c : Hid (∀ v5c w5c, w5c.ownsRow 0 64 2 v5c 1 (ints (flatA []) ++ ints (flatA [⟨1, n2⟩])) → ((w4).alloc (.cells #[.int .i64 1, .int .i64 n2] 64)).grownBy w5c (Value.slice (some ⟨w.heap.size + 1, 0, none⟩) 0 0).ownBlock → (v5c.ownBlock = (Value.slice (some ⟨w.heap.size + 1, 0, none⟩) 0 0).ownBlock ∨ v5c.ownBlock = some ((w4).alloc (.cells #[.int .i64 1, .int .i64 n2] 64)).heap.size) →
       St w w5c [rBlk w.heap.size 28 #[.int .i64 (s0 : Int), .slice G gn gc, .slice A' n' c', .slice A2 n2 c2, .int .i64 (s1 : Int)], rActs v5c [⟨1, n2⟩]]) := Lib.hid fun v5c w5c h1 h2 h3 => St.appA (v := .slice (some ⟨w.heap.size + 1, 0, none⟩) 0 0) (aa := []) (bs := [⟨1, n2⟩]) ((HS4.out.alloc #[.int .i64 1, .int .i64 n2] 64).pick [0, 1] (by decide) rfl rfl) 1 rfl rfl h1 h2 h3
     have HOW5c := Lib.hid ((HS4.out.ownA 1 rfl))
     go_wp2_with (at_builtin; refine wp_app elAct rfl (.tmp 47) (.tmp 52) rfl 0 (.slice (some ⟨w.heap.size + 1, 0, none⟩) 0 0) 0 (ints (flatA [])) rfl (HOW5c.out.alloc _) _ _ 1 1 [.int .i64 1, .int .i64 n2] rfl (RdRow.new (w4) [.int .i64 1, .int .i64 n2] 64 2 1 rfl (by unfold maxLen; omega)) (by simp [Value.oneCell']) (by omega) (by omega) (Nat.zero_le _) ?_; intro v5c w5c hown5c hg5c hat5c; have HSBc := Lib.hid (HAP5c.out v5c w5c hown5c hg5c hat5c); have q5c : ∀ j, w5c.cell? ⟨w.heap.size, j, none⟩ = _ := HSBc.out.cells 0 rfl; clear hown5c hg5c hat5c)
     go_wp2_with fail
     refine (l5Run_any G gn gc b.order.goal s0 _ (HGO.out.up HSBc.out.below) HGK.out hs32).mono ?_; obtain ⟨ev, hev⟩ : ∃ x, evalCode b.order.goal s0 = x := ⟨_, rfl⟩; rw [hev]; have HFIN := Bx.mk (endActs_go (bk := true) (ev := ev) HOK.out HCAN.out HBK.out (by simp only [if_true]; rw [HSZ.out, Int.toNat_natCast]; exact hev)); rw [HDL.out] at HFIN; rintro e w6c ⟨rfl, hb6c⟩; have HSCc : Hid (St w w6c [rBlk w.heap.size 28 #[.int .i64 (s0 : Int), .slice G gn gc, .slice A' n' c', .slice A2 n2 c2, .int .i64 (s1 : Int)], rActs v5c [⟨1, n2⟩]]) := Lib.hid (HSBc.out.quiet hb6c); clear hev hb6c
     cases ev with
     | true =>
      go_wp2; refine bodyPost_ret (v := v5c) (by simp [results, Tryz.results54, go_sem]) rfl ⟨v5c, rfl, ?_⟩; rw [HFIN.out]; exact HSCc.out.pick [1] (by decide) rfl rfl
     | false =>
      have HAP9c : Hid (∀ v9c w9c, w9c.ownsRow 0 64 2 v9c 2 (ints (flatA [⟨1, n2⟩]) ++ ints (flatA [⟨3, 0⟩])) → ((w6c).alloc (.cells #[.int .i64 3, .int .i64 0] 64)).grownBy w9c (v5c).ownBlock → (v9c.ownBlock = (v5c).ownBlock ∨ v9c.ownBlock = some ((w6c).alloc (.cells #[.int .i64 3, .int .i64 0] 64)).heap.size) →
        St w w9c [rBlk w.heap.size 28 #[.int .i64 (s0 : Int), .slice G gn gc, .slice A' n' c', .slice A2 n2 c2, .int .i64 (s1 : Int)], rActs v9c [⟨1, n2⟩, ⟨3, 0⟩]]) := Lib.hid fun v9c w9c h1 h2 h3 => St.appA (v := v5c) (aa := [⟨1, n2⟩]) (bs := [⟨3, 0⟩]) ((HSCc.out.alloc #[.int .i64 3, .int .i64 0] 64).pick [0, 1] (by decide) rfl rfl) 1 rfl rfl h1 h2 h3
      have HOW9c := Lib.hid ((HSCc.out.ownA 1 rfl))
      go_wp2_with (at_builtin; refine wp_app elAct rfl (.tmp 63) (.tmp 65) rfl 0 (v5c) 1 (ints (flatA [⟨1, n2⟩])) rfl (HOW9c.out.alloc _) _ _ 1 1 [.int .i64 3, .int .i64 0] rfl (RdRow.new (w6c) [.int .i64 3, .int .i64 0] 64 2 1 rfl (by unfold maxLen; omega)) (by simp [Value.oneCell']) (by omega) (by omega) (Nat.zero_le _) ?_; intro v9c w9c hown9c hg9c hat9c; have HSZc := Lib.hid (HAP9c.out v9c w9c hown9c hg9c hat9c); have q9c : ∀ j, w9c.cell? ⟨w.heap.size, j, none⟩ = _ := HSZc.out.cells 0 rfl; clear hown9c hg9c hat9c)
      go_wp2; refine bodyPost_ret (v := v9c) (by simp [results, Tryz.results54, go_sem]) rfl ⟨v9c, rfl, ?_⟩; rw [HFIN.out]; exact HSZc.out.pick [1] (by decide) rfl rfl
    | some r =>
     have hr31 := restFor_le HRO.out; simp only [Option.isSome_some, Option.getD_some]
     by_cases hfar : 40 < n2 + r.length
     ·have HBK : Bx (backs b = true) := Bx.mk (backs_far (by rw [HDL.out]; exact hn0) HRO.out (by rw [HDL.out]; exact hfar))
      have HAP5d : Hid (∀ v5d w5d, w5d.ownsRow 0 64 2 v5d 1 (ints (flatA []) ++ ints (flatA [⟨1, n2⟩])) → ((w4).alloc (.cells #[.int .i64 1, .int .i64 n2] 64)).grownBy w5d (Value.slice (some ⟨w.heap.size + 1, 0, none⟩) 0 0).ownBlock → (v5d.ownBlock = (Value.slice (some ⟨w.heap.size + 1, 0, none⟩) 0 0).ownBlock ∨ v5d.ownBlock = some ((w4).alloc (.cells #[.int .i64 1, .int .i64 n2] 64)).heap.size) →
        St w w5d [rBlk w.heap.size 28 #[.int .i64 (s0 : Int), .slice G gn gc, .slice A' n' c', .slice A2 n2 c2, .int .i64 (s1 : Int)], rActs v5d [⟨1, n2⟩]]) := Lib.hid fun v5d w5d h1 h2 h3 => St.appA (v := .slice (some ⟨w.heap.size + 1, 0, none⟩) 0 0) (aa := []) (bs := [⟨1, n2⟩]) ((HS4.out.alloc #[.int .i64 1, .int .i64 n2] 64).pick [0, 1] (by decide) rfl rfl) 1 rfl rfl h1 h2 h3
      have HOW5d := Lib.hid ((HS4.out.ownA 1 rfl))
      go_wp2_with (at_builtin; refine wp_app elAct rfl (.tmp 47) (.tmp 52) rfl 0 (.slice (some ⟨w.heap.size + 1, 0, none⟩) 0 0) 0 (ints (flatA [])) rfl (HOW5d.out.alloc _) _ _ 1 1 [.int .i64 1, .int .i64 n2] rfl (RdRow.new (w4) [.int .i64 1, .int .i64 n2] 64 2 1 rfl (by unfold maxLen; omega)) (by simp [Value.oneCell']) (by omega) (by omega) (Nat.zero_le _) ?_; intro v5d w5d hown5d hg5d hat5d; have HSBd := Lib.hid (HAP5d.out v5d w5d hown5d hg5d hat5d); have q5d : ∀ j, w5d.cell? ⟨w.heap.size, j, none⟩ = _ := HSBd.out.cells 0 rfl; clear hown5d hg5d hat5d)
      go_wp2_with fail
      refine (l5Run_any G gn gc b.order.goal s0 _ (HGO.out.up HSBd.out.below) HGK.out hs32).mono ?_; obtain ⟨ev, hev⟩ : ∃ x, evalCode b.order.goal s0 = x := ⟨_, rfl⟩; rw [hev]; have HFIN := Bx.mk (endActs_go (bk := true) (ev := ev) HOK.out HCAN.out HBK.out (by simp only [if_true]; rw [HSZ.out, Int.toNat_natCast]; exact hev)); rw [HDL.out] at HFIN; rintro e w6d ⟨rfl, hb6d⟩; have HSCd : Hid (St w w6d [rBlk w.heap.size 28 #[.int .i64 (s0 : Int), .slice G gn gc, .slice A' n' c', .slice A2 n2 c2, .int .i64 (s1 : Int)], rActs v5d [⟨1, n2⟩]]) := Lib.hid (HSBd.out.quiet hb6d); clear hev hb6d
      cases ev with
      | true =>
       go_wp2; refine bodyPost_ret (v := v5d) (by simp [results, Tryz.results54, go_sem]) rfl ⟨v5d, rfl, ?_⟩; rw [HFIN.out]; exact HSCd.out.pick [1] (by decide) rfl rfl
      | false =>
       have HAP9d : Hid (∀ v9d w9d, w9d.ownsRow 0 64 2 v9d 2 (ints (flatA [⟨1, n2⟩]) ++ ints (flatA [⟨3, 0⟩])) → ((w6d).alloc (.cells #[.int .i64 3, .int .i64 0] 64)).grownBy w9d (v5d).ownBlock → (v9d.ownBlock = (v5d).ownBlock ∨ v9d.ownBlock = some ((w6d).alloc (.cells #[.int .i64 3, .int .i64 0] 64)).heap.size) →
         St w w9d [rBlk w.heap.size 28 #[.int .i64 (s0 : Int), .slice G gn gc, .slice A' n' c', .slice A2 n2 c2, .int .i64 (s1 : Int)], rActs v9d [⟨1, n2⟩, ⟨3, 0⟩]]) := Lib.hid fun v9d w9d h1 h2 h3 => St.appA (v := v5d) (aa := [⟨1, n2⟩]) (bs := [⟨3, 0⟩]) ((HSCd.out.alloc #[.int .i64 3, .int .i64 0] 64).pick [0, 1] (by decide) rfl rfl) 1 rfl rfl h1 h2 h3
       have HOW9d := Lib.hid ((HSCd.out.ownA 1 rfl))
       go_wp2_with (at_builtin; refine wp_app elAct rfl (.tmp 63) (.tmp 65) rfl 0 (v5d) 1 (ints (flatA [⟨1, n2⟩])) rfl (HOW9d.out.alloc _) _ _ 1 1 [.int .i64 3, .int .i64 0] rfl (RdRow.new (w6d) [.int .i64 3, .int .i64 0] 64 2 1 rfl (by unfold maxLen; omega)) (by simp [Value.oneCell']) (by omega) (by omega) (Nat.zero_le _) ?_; intro v9d w9d hown9d hg9d hat9d; have HSZd := Lib.hid (HAP9d.out v9d w9d hown9d hg9d hat9d); have q9d : ∀ j, w9d.cell? ⟨w.heap.size, j, none⟩ = _ := HSZd.out.cells 0 rfl; clear hown9d hg9d hat9d)
       go_wp2; refine bodyPost_ret (v := v9d) (by simp [results, Tryz.results54, go_sem]) rfl ⟨v9d, rfl, ?_⟩; rw [HFIN.out]; exact HSZd.out.pick [1] (by decide) rfl rfl
     ·have HBK : Bx (backs b = false) := Bx.mk (backs_near HRO.out (by rw [HDL.out]; exact hfar)); have HFIN := Bx.mk (endActs_go (bk := false) (ev := ea) HOK.out HCAN.out HBK.out (by simpa using HEA.out))
      cases ea with
      | true =>
       go_wp2; refine bodyPost_ret (v := .slice (some ⟨w.heap.size + 1, 0, none⟩) 0 0) (by simp [results, Tryz.results54, go_sem]) rfl ⟨.slice (some ⟨w.heap.size + 1, 0, none⟩) 0 0, rfl, ?_⟩; rw [HFIN.out]; exact HS4.out.pick [1] (by decide) rfl rfl
      | false =>
       have HAP9f : Hid (∀ v9f w9f, w9f.ownsRow 0 64 2 v9f 1 (ints (flatA []) ++ ints (flatA [⟨3, 0⟩])) → ((w4).alloc (.cells #[.int .i64 3, .int .i64 0] 64)).grownBy w9f (Value.slice (some ⟨w.heap.size + 1, 0, none⟩) 0 0).ownBlock → (v9f.ownBlock = (Value.slice (some ⟨w.heap.size + 1, 0, none⟩) 0 0).ownBlock ∨ v9f.ownBlock = some ((w4).alloc (.cells #[.int .i64 3, .int .i64 0] 64)).heap.size) →
         St w w9f [rBlk w.heap.size 28 #[.int .i64 (s0 : Int), .slice G gn gc, .slice A' n' c', .slice A2 n2 c2, .int .i64 (s1 : Int)], rActs v9f [⟨3, 0⟩]]) := Lib.hid fun v9f w9f h1 h2 h3 => St.appA (v := .slice (some ⟨w.heap.size + 1, 0, none⟩) 0 0) (aa := []) (bs := [⟨3, 0⟩]) ((HS4.out.alloc #[.int .i64 3, .int .i64 0] 64).pick [0, 1] (by decide) rfl rfl) 1 rfl rfl h1 h2 h3
       have HOW9f := Lib.hid ((HS4.out.ownA 1 rfl))
       go_wp2_with (at_builtin; refine wp_app elAct rfl (.tmp 63) (.tmp 65) rfl 0 (.slice (some ⟨w.heap.size + 1, 0, none⟩) 0 0) 0 (ints (flatA [])) rfl (HOW9f.out.alloc _) _ _ 1 1 [.int .i64 3, .int .i64 0] rfl (RdRow.new (w4) [.int .i64 3, .int .i64 0] 64 2 1 rfl (by unfold maxLen; omega)) (by simp [Value.oneCell']) (by omega) (by omega) (Nat.zero_le _) ?_; intro v9f w9f hown9f hg9f hat9f; have HSZf := Lib.hid (HAP9f.out v9f w9f hown9f hg9f hat9f); have q9f : ∀ j, w9f.cell? ⟨w.heap.size, j, none⟩ = _ := HSZf.out.cells 0 rfl; clear hown9f hg9f hat9f)
       go_wp2; refine bodyPost_ret (v := v9f) (by simp [results, Tryz.results54, go_sem]) rfl ⟨v9f, rfl, ?_⟩; rw [HFIN.out]; exact HSZf.out.pick [1] (by decide) rfl rfl
end Go.Proofs.YtkmcengmglgdeaaGreatDoor
