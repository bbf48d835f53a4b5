/- Joined texts: Graph, Alive, Draws, Same, Fwd, NextW, StepsOn, Reach. -/
import Derived.Test.YtkmcengmglgdeaaGreatDoorSDraw
import Derived.Test.YtkmcengmglgdeaaGreatDoorSPerm
import Derived.Test.YtkmcengmglgdeaaGreatDoorSGraphP
import Derived.Maps.AppendAt
import Derived.Test.YtkmcengmglgdeaaGreatDoorSTDraw2
import Derived.Test.YtkmcengmglgdeaaGreatDoorSBack
import Derived.Test.YtkmcengmglgdeaaGreatDoorSOwn
import Derived.Test.YtkmcengmglgdeaaGreatDoorSPlanW
import Derived.Test.YtkmcengmglgdeaaGreatDoorSRest
import Derived.Test.YtkmcengmglgdeaaGreatDoorSPlanForW
/- countBits, with what stood here beside it. -/


/- LinesMany, joinPoints, GridOf at (2, 2), and alive, which is true. -/
namespace Go.Proofs.YtkmcengmglgdeaaGreatDoor
open Go.ChangeShapes Go.WideShapes Go.ChangeAt Go.RowKit

set_option maxRecDepth 100000 in
theorem joinPoints_walk (g n c a b x y : Nat) (hx : x < 512) (hy : y < 512) (ha : a < n) (hb : b < n) (hne : a ≠ b) (hn : n ≤ 9) (w : World)
  (ca : w.cell? ⟨g, a, none⟩ = some (.int .i64 x)) (cb : w.cell? ⟨g, b, none⟩ = some (.int .i64 y)) (fa : w.frozen? ⟨g, a, none⟩ = false) (fb : w.frozen? ⟨g, b, none⟩ = false) :
  Calls Tryz.prog 139 #[.slice (some ⟨g, 0, none⟩) n c, .int .i64 a, .int .i64 b] w fun e w' => e = .returned (.tuple #[]) ∧
   Same w' ((w.setCell ⟨g, a, none⟩ (.int .i64 (x ||| 2 ^ b : Nat))).setCell ⟨g, b, none⟩ (.int .i64 (y ||| 2 ^ a : Nat))) := by
 have hpa := Nat.pow_le_pow_right (show 0 < 2 by omega) (show a ≤ 9 by omega)
 have hpb := Nat.pow_le_pow_right (show 0 < 2 by omega) (show b ≤ 9 by omega)
 have o1 := i64_or_nat x (2 ^ b) (by omega) (by omega)
 have o2 := i64_or_nat y (2 ^ a) (by omega) (by omega)
 have w1 := wrap_pow b (by omega)
 have w2 := wrap_pow a (by omega)
 have e1 : (((2 : Nat) ^ b : Nat) : Int) = 2 ^ b := by simp
 have e2 : (((2 : Nat) ^ a : Nat) : Int) = 2 ^ a := by simp
 rw [e1] at o1
 rw [e2] at o2
 generalize x ||| 2 ^ b = x' at *
 generalize y ||| 2 ^ a = y' at *
 clear hpa hpb e1 e2 hx hy
 have cb' : ∀ v, (w.setCell ⟨g, a, none⟩ v).cell? ⟨g, b, none⟩ = some (.int .i64 y) := fun v => by
  rw [World.cell?_setCell_other _ _ _ _ (fun e => hne (congrArg Addr.off e))]; exact cb
 have fb' : ∀ v, (w.setCell ⟨g, a, none⟩ v).frozen? ⟨g, b, none⟩ = false := fun v => by
  rw [World.frozen?_setCell]; exact fb
 go_enter Tryz.func139, Tryz.ntmps139
 go_wp2
 go_region
 all_goals go_wp2
 all_goals go_region
 all_goals (go_end0; exact ⟨rfl, rfl, rfl, rfl, rfl⟩)
theorem joinPoints_blk (g n c a b x y : Nat) (cs : Array Value) (hx : x < 512) (hy : y < 512) (ha : a < n) (hb : b < n) (hne : a ≠ b) (hn : n ≤ 9) (w : World) (t : TypeId) (hk : Blk w g t cs)
  (ca : cs[a]? = some (.int .i64 x)) (cb : cs[b]? = some (.int .i64 y)) :
  Calls Tryz.prog 139 #[.slice (some ⟨g, 0, none⟩) n c, .int .i64 a, .int .i64 b] w fun e w' => e = .returned (.tuple #[]) ∧
   Blk w' g t ((cs.setIfInBounds a (.int .i64 (x ||| 2 ^ b : Nat))).setIfInBounds b (.int .i64 (y ||| 2 ^ a : Nat))) ∧ w.grownBy w' (some g) :=
 (joinPoints_walk g n c a b x y hx hy ha hb hne hn w ((hk.cell a).trans ca) ((hk.cell b).trans cb) (hk.frozen a) (hk.frozen b)).mono fun _ _ ⟨he, hs⟩ =>
  ⟨he, hs.blk ((hk.set_ a _).set_ b _), hs.grown (grown_set (only_set w g a _) b _)⟩

def i4 (a b c d : Int) : Array Value := #[.int .i64 a, .int .i64 b, .int .i64 c, .int .i64 d]
theorem gridOf_two (w : World) :
  Calls Tryz.prog 69 #[.int .i64 2, .int .i64 2] w fun e w' => (∃ g, e = .returned (.agg #[.slice (some ⟨g, 0, none⟩) 4 4]) ∧ Blk w' g 3 (i4 6 9 9 6)) ∧ Below w.heap.size w w' := by
 have hmk : ∀ W, (Instr.makeSlice 23 (.int .i64 4) (.int .i64 4)).run Tryz.prog W = .ok (.slice (some ⟨W.heap.size, 0, none⟩) 4 4) (W.alloc (.cells #[.int .i64 0, .int .i64 0, .int .i64 0, .int .i64 0] 3)) := fun _ => by kernel_rfl
 go_enter Tryz.func69, Tryz.ntmps69
 go_wp2
 go_loopw [35] (fun i wr => Below w.heap.size w wr ∧ Blk wr w.heap.size 94 #[.slice none 0 0] ∧ ((i = .int .i64 0 ∧ Blk wr (w.heap.size + 1) 3 (i4 0 0 0 0)) ∨ (i = .int .i64 1 ∧ Blk wr (w.heap.size + 1) 3 (i4 6 9 1 2)) ∨ (i = .int .i64 2 ∧ Blk wr (w.heap.size + 1) 3 (i4 6 9 9 6)))) (fun i _ => 2 - (intOf i).toNat)
 case atStart => exact ⟨((Below.refl _ _).alloc (Nat.le_refl _) _).alloc (by simp) _, (Blk.new _ _ _).alloc _, .inl ⟨rfl, by have := Blk.new (w.alloc (Obj.cells #[Value.slice none 0 0] 94)) 3 (i4 0 0 0 0); rw [World.size_alloc] at this; exact this⟩⟩
 case round =>
  obtain ⟨hb, hr, ⟨rfl, hk⟩ | ⟨rfl, hk⟩ | ⟨rfl, hk⟩⟩ := hrel
  ·go_wp2
   go_loopw [39] (fun i wr => Below w.heap.size w wr ∧ Blk wr w.heap.size 94 #[.slice none 0 0] ∧ ((i = .int .i64 0 ∧ Blk wr (w.heap.size + 1) 3 (i4 0 0 0 0)) ∨ (i = .int .i64 1 ∧ Blk wr (w.heap.size + 1) 3 (i4 6 1 1 0)) ∨ (i = .int .i64 2 ∧ Blk wr (w.heap.size + 1) 3 (i4 6 9 1 2)))) (fun i _ => 2 - (intOf i).toNat)
   case atStart => exact ⟨hb, hr, .inl ⟨rfl, hk⟩⟩
   case round =>
    obtain ⟨hb, hr, ⟨rfl, hk⟩ | ⟨rfl, hk⟩ | ⟨rfl, hk⟩⟩ := hrel
    ·go_wp2_with fail
     refine (joinPoints_blk (w.heap.size + 1) 4 4 0 1 0 0 _ (by omega) (by omega) (by omega) (by omega) (by omega) (by omega) _ _ hk rfl rfl).mono ?_
     rintro e w1 ⟨rfl, hk1, hg1⟩
     have hr1 := hr.grown hg1 (by simp)
     have hb1 := hb.grown hg1 hb.size (fun k hk => by cases hk; omega)
     go_wp2_with fail
     refine (joinPoints_blk (w.heap.size + 1) 4 4 0 2 2 0 _ (by omega) (by omega) (by omega) (by omega) (by omega) (by omega) _ _ hk1 rfl rfl).mono ?_
     rintro e w2 ⟨rfl, hk2, hg2⟩
     have hr2 := hr1.grown hg2 (by simp)
     have hb2 := hb1.grown hg2 hb1.size (fun k hk => by cases hk; omega)
     go_wp2
     go_roundw
     case rel => exact ⟨hb2, hr2, .inr (.inl ⟨rfl, hk2⟩)⟩
     case measure => simp [intOf]
    ·go_wp2_with fail
     refine (joinPoints_blk (w.heap.size + 1) 4 4 1 3 1 0 _ (by omega) (by omega) (by omega) (by omega) (by omega) (by omega) _ _ hk rfl rfl).mono ?_
     rintro e w1 ⟨rfl, hk1, hg1⟩
     have hr1 := hr.grown hg1 (by simp)
     have hb1 := hb.grown hg1 hb.size (fun k hk => by cases hk; omega)
     go_wp2
     go_roundw
     case rel => exact ⟨hb1, hr1, .inr (.inr ⟨rfl, hk1⟩)⟩
     case measure => simp [intOf]
    ·go_wp2
     go_roundw
     case rel => exact ⟨hb, hr, .inr (.inl ⟨rfl, hk⟩)⟩
     case measure => simp [intOf]
  ·go_wp2
   go_loopw [39] (fun i wr => Below w.heap.size w wr ∧ Blk wr w.heap.size 94 #[.slice none 0 0] ∧ ((i = .int .i64 0 ∧ Blk wr (w.heap.size + 1) 3 (i4 6 9 1 2)) ∨ (i = .int .i64 1 ∧ Blk wr (w.heap.size + 1) 3 (i4 6 9 9 6)) ∨ (i = .int .i64 2 ∧ Blk wr (w.heap.size + 1) 3 (i4 6 9 9 6)))) (fun i _ => 2 - (intOf i).toNat)
   case atStart => exact ⟨hb, hr, .inl ⟨rfl, hk⟩⟩
   case round =>
    obtain ⟨hb, hr, ⟨rfl, hk⟩ | ⟨rfl, hk⟩ | ⟨rfl, hk⟩⟩ := hrel
    ·go_wp2_with fail
     refine (joinPoints_blk (w.heap.size + 1) 4 4 2 3 1 2 _ (by omega) (by omega) (by omega) (by omega) (by omega) (by omega) _ _ hk rfl rfl).mono ?_
     rintro e w1 ⟨rfl, hk1, hg1⟩
     have hr1 := hr.grown hg1 (by simp)
     have hb1 := hb.grown hg1 hb.size (fun k hk => by cases hk; omega)
     go_wp2
     go_roundw
     case rel => exact ⟨hb1, hr1, .inr (.inl ⟨rfl, hk1⟩)⟩
     case measure => simp [intOf]
    ·go_wp2
     go_roundw
     case rel => exact ⟨hb, hr, .inr (.inr ⟨rfl, hk⟩)⟩
     case measure => simp [intOf]
    ·go_wp2
     go_roundw
     case rel => exact ⟨hb, hr, .inr (.inr ⟨rfl, hk⟩)⟩
     case measure => simp [intOf]
  ·have c0 : wr.cell? ⟨w.heap.size, 0, none⟩ = some (.slice none 0 0) := hr.cell 0
   have f0 : wr.frozen? ⟨w.heap.size, 0, none⟩ = false := hr.frozen 0
   go_wp2
   exact bodyPost_ret (v := .agg #[.slice (some ⟨w.heap.size + 1, 0, none⟩) 4 4]) (by simp [results, Tryz.results69, go_sem, c0]) rfl ⟨⟨_, rfl, hk.far (by simp) _⟩, hb.setCell (by simp) _⟩

theorem linesMany_four (g : Nat) (w : World) (hg : g < w.heap.size) (hk : Blk w g 3 (i4 6 9 9 6)) :
  Calls Tryz.prog 68 #[.agg #[.slice (some ⟨g, 0, none⟩) 4 4]] w fun e w' => e = .returned (.int .i64 4) ∧ Below w.heap.size w w' := by
 have hrd : ∀ W, W.heap[g]? = w.heap[g]? → g < W.heap.size → RdI .i64 W W.heap.size (some ⟨g, 0, none⟩) 4 4 [6, 9, 9, 6] := fun W hW hlt => ⟨rfl, by omega, by unfold maxLen; omega, by decide, fun _ => ⟨g, 0, rfl, hlt, fun i x hx => by
  have hb : Blk W g 3 (i4 6 9 9 6) := hW.trans hk
  rw [Nat.zero_add, hb.cell i]
  rcases i with _ | _ | _ | _ | i
  ·cases hx; rfl
  ·cases hx; rfl
  ·cases hx; rfl
  ·cases hx; rfl
  ·simp at hx⟩⟩
 have HRD := Lib.hid hrd; clear hrd
 go_enter Tryz.func68, Tryz.ntmps68
 go_wp2_with fail
 refine (graphValid_impl _ 4 4 [6, 9, 9, 6] _ (HRD.out _ (Below.heap_alloc _ _ _ hg) (by simp; omega))).mono ?_
 rintro e w1 ⟨rfl, hb1⟩
 have hgo : graphOk [6, 9, 9, 6] = true := by decide
 rw [hgo]
 have hbl : Below w.heap.size w w1 := ((Below.refl _ _).alloc (Nat.le_refl _) _).trans (hb1.mono (by simp))
 have hk1 : Blk w1 g 3 (i4 6 9 9 6) := hk.below hbl hg
 have hr1 : w1.cell? ⟨w.heap.size, 0, none⟩ = some (.slice (some ⟨g, 0, none⟩) 4 4) := by
  rw [hb1.cell (p := ⟨w.heap.size, 0, none⟩) (by simp)]; exact (Blk.new _ _ _).cell 0
 have q0 : w1.cell? ⟨g, 0, none⟩ = some (.int .i64 6) := hk1.cell 0
 have q1 : w1.cell? ⟨g, 1, none⟩ = some (.int .i64 9) := hk1.cell 1
 have q2 : w1.cell? ⟨g, 2, none⟩ = some (.int .i64 9) := hk1.cell 2
 have q3 : w1.cell? ⟨g, 3, none⟩ = some (.int .i64 6) := hk1.cell 3
 go_wp2
 go_loop [12, 3] (fun i s => (i = .int .i64 0 ∧ s = .int .i64 0) ∨ (i = .int .i64 1 ∧ s = .int .i64 2) ∨ (i = .int .i64 2 ∧ s = .int .i64 4) ∨ (i = .int .i64 3 ∧ s = .int .i64 6) ∨ (i = .int .i64 4 ∧ s = .int .i64 8)) (fun i _ => 4 - (intOf i).toNat)
 case atStart => exact .inl ⟨rfl, rfl⟩
 case round =>
  have p6 : popc 6 = 2 := by decide
  have p9 : popc 9 = 2 := by decide
  rcases hrel with ⟨rfl, rfl⟩ | ⟨rfl, rfl⟩ | ⟨rfl, rfl⟩ | ⟨rfl, rfl⟩ | ⟨rfl, rfl⟩
  ·go_wp2_with (go_at_call 138; refine (countBits_any _ (by omega) (by omega) _).mono ?_; rintro e w' ⟨rfl, rfl⟩)
   go_round
   case rel => exact .inr (.inl ⟨rfl, rfl⟩)
   case measure => simp [intOf]
  ·go_wp2_with (go_at_call 138; refine (countBits_any _ (by omega) (by omega) _).mono ?_; rintro e w' ⟨rfl, rfl⟩)
   go_round
   case rel => exact .inr (.inr (.inl ⟨rfl, rfl⟩))
   case measure => simp [intOf]
  ·go_wp2_with (go_at_call 138; refine (countBits_any _ (by omega) (by omega) _).mono ?_; rintro e w' ⟨rfl, rfl⟩)
   go_round
   case rel => exact .inr (.inr (.inr (.inl ⟨rfl, rfl⟩)))
   case measure => simp [intOf]
  ·go_wp2_with (go_at_call 138; refine (countBits_any _ (by omega) (by omega) _).mono ?_; rintro e w' ⟨rfl, rfl⟩)
   go_round
   case rel => exact .inr (.inr (.inr (.inr ⟨rfl, rfl⟩)))
   case measure => simp [intOf]
  ·go_wp2
   go_ret
   exact ⟨rfl, hbl⟩

theorem alive_any (w : World) : Calls Tryz.prog 14 #[] w fun e w' => e = .returned (.bool true) ∧ Below w.heap.size w w' := by
 go_enter Tryz.func14, Tryz.ntmps14
 go_wp2_with fail
 refine (gridOf_two _).mono ?_
 rintro e w1 ⟨⟨g, rfl, hk⟩, hb1⟩
 go_wp2_with fail
 refine (linesMany_four g _ hk.lt hk).mono ?_
 rintro e w2 ⟨rfl, hb2⟩
 go_wp2
 go_ret
 exact ⟨rfl, hb1.trans (hb2.mono hb1.size)⟩
end Go.Proofs.YtkmcengmglgdeaaGreatDoor

/- l20Open within a list of things; the draws that only draw a task. -/
namespace Go.Proofs.YtkmcengmglgdeaaGreatDoor
set_option linter.unusedVariables false
set_option linter.unusedSimpArgs false
open Go.ChangeShapes Go.WideShapes Go.ChangeAt Go.RowKit

theorem l20Open_rd {w W : World} {L : List HRes} (S : St w W L) {A : Option Addr} {n c : Nat} {xs : List Int} (h : RdI .u8 w w.heap.size A n c xs) :
  Calls Tryz.prog 41 #[.slice A n c] W fun e w' => ∃ g, e = .returned (.pointer (some ⟨g, 0, none⟩)) ∧ St w w' (rRd w g 0 :: L) := by
 have hn := h.cap
 have hm := h.capMax
 unfold maxLen at hm
 by_cases hb : 2000 < n
 ·have HS : Hid (St w (W.alloc (.cells #[.slice A 2000 c, .int .i64 0] 125)) (rRd w W.heap.size 0 :: L)) := Lib.hid ((S.allocF #[.slice A 2000 c, .int .i64 0] 125).see fun F ⟨h1, h2⟩ _ => ⟨h2, 0, A, 2000, c, _, Nat.le_refl _, Nat.le_refl _, rdI_prefix h 2000 (by omega), h1⟩)
  clear S
  go_enter Tryz.func41, Tryz.ntmps41
  go_wp2
  go_ret
  exact ⟨_, rfl, HS.out⟩
 ·have HS : Hid (St w (W.alloc (.cells #[.slice A n c, .int .i64 0] 125)) (rRd w W.heap.size 0 :: L)) := Lib.hid ((S.allocF #[.slice A n c, .int .i64 0] 125).see fun F ⟨h1, h2⟩ _ => ⟨h2, 0, A, n, c, _, Nat.le_refl _, by omega, h, h1⟩)
  clear S
  go_enter Tryz.func41, Tryz.ntmps41
  go_wp2
  go_ret
  exact ⟨_, rfl, HS.out⟩
/-- what a draw of a task gives -/
def GivesT (w : World) (e : Ending) (w' : World) : Prop := ∃ v t, e = .returned v ∧ TaskSm t ∧ St w w' [rTask v t]
end Go.Proofs.YtkmcengmglgdeaaGreatDoor

/- The laws' helpers that compare: sameInts, sameDeed, sameTask, sameBook, noBook: each tells whether the data are the same. -/
namespace Go.Proofs.YtkmcengmglgdeaaGreatDoor
set_option linter.unusedVariables false
set_option linter.unusedSimpArgs false
open Go.ChangeShapes Go.WideShapes Go.ChangeAt Go.RowKit

theorem sameInts_any (A : Option Addr) (n c : Nat) (xs : List Int) (A' : Option Addr) (n' c' : Nat) (ys : List Int) (w : World) (h : RdI .i64 w w.heap.size A n c xs) (h' : RdI .i64 w w.heap.size A' n' c' ys) :
  Calls Tryz.prog 65 #[.slice A n c, .slice A' n' c'] w fun e w' => e = .returned (.bool (decide (xs = ys))) ∧ ∃ q, w' = w.drewN q := by
 have hl := h.len
 have hl' := h'.len
 have hc := h.cap
 have hm := h.capMax
 unfold maxLen at hm
 by_cases hn : n = n'
 ·subst hn
  have HL := Lib.hid hl; clear hl
  have HL' := Lib.hid hl'; clear hl'
  go_enter Tryz.func65, Tryz.ntmps65
  go_wp2
  go_loopw [5] (fun i wr => ∃ k q : Nat, k ≤ n ∧ i = .int .i64 k ∧ Hid (∀ j, j < k → xs[j]? = ys[j]?) ∧ wr = w.drewN q) (fun i _ => n - (intOf i).toNat)
  case atStart => exact ⟨0, 0, by omega, rfl, Lib.hid (by omega), rfl⟩
  case round =>
   obtain ⟨k, q, hk, rfl, hpre, rfl⟩ := hrel
   by_cases hlt : k < n
   ·obtain ⟨b, off, x, rfl, hb, hx, hw, hc⟩ := h.get hlt
    obtain ⟨b', off', y, rfl, hb', hy, hw', hc'⟩ := h'.get hlt
    by_cases hxy : x = y
    ·subst hxy
     have HX := Lib.hid (hx.trans hy.symm)
     clear hx hy
     go_wp2
     go_quiet (fail)
     go_wp2
     go_roundw
     case rel => exact ⟨k + 1, _, by omega, by go_num, Lib.hid fun j hj => by
      rcases Nat.lt_or_ge j k with h1 | h1
      ·exact hpre.out j h1
      ·obtain rfl : j = k := by omega
       exact HX.out, rfl⟩
     case measure => simp [intOf]; omega
    ·have HF : Hid (decide (xs = ys) = false) := Lib.hid (decide_eq_false fun e => by rw [e, hy] at hx; injection hx with hx; exact hxy hx.symm)
     have hne : (x != y) = true := by rw [bne_iff_ne]; exact hxy
     clear hx hy hxy
     go_wp2
     go_quiet (fail)
     go_wp2
     go_ret
     exact ⟨ret_bool HF.out.symm, _, World.drewN_drewN _ _ _⟩
   ·have HT : Hid (decide (xs = ys) = true) := Lib.hid (decide_eq_true (List.ext_getElem? fun j => by
     rcases Nat.lt_or_ge j k with h1 | h1
     ·exact hpre.out j h1
     ·rw [List.getElem?_eq_none (by rw [HL.out]; omega), List.getElem?_eq_none (by rw [HL'.out]; omega)]))
    go_wp2
    go_ret
    exact ⟨ret_bool HT.out.symm, _, rfl⟩
 ·have HF : Hid (decide (xs = ys) = false) := Lib.hid (decide_eq_false fun e => hn (by rw [← hl, ← hl', e]))
  have hne : ((n : Int) != (n' : Int)) = true := by rw [bne_iff_ne]; omega
  clear hl hl'
  go_enter Tryz.func65, Tryz.ntmps65
  go_wp2
  go_ret
  exact ⟨ret_bool HF.out.symm, 0, rfl⟩
theorem sameDeed_any (A : Option Addr) (n c : Nat) (d : DeedD) (A' : Option Addr) (n' c' : Nat) (d' : DeedD) (w : World) (h : RdI .i64 w w.heap.size A n c d.need) (h' : RdI .i64 w w.heap.size A' n' c' d'.need) :
  Calls Tryz.prog 133 #[.agg #[.slice A n c, .int .i64 d.on, .int .i64 d.off, .int .i64 d.flip], .agg #[.slice A' n' c', .int .i64 d'.on, .int .i64 d'.off, .int .i64 d'.flip]] w fun e w' => e = .returned (.bool (decide (d = d'))) ∧ Below w.heap.size w w' := by
 obtain ⟨need, on, off, fl⟩ := d
 obtain ⟨need', on', off', fl'⟩ := d'
 simp only at h h' ⊢
 have hb0 : Below w.heap.size w ((w.alloc (Obj.cells #[.slice A n c, .int .i64 on, .int .i64 off, .int .i64 fl] 144)).alloc (Obj.cells #[.slice A' n' c', .int .i64 on', .int .i64 off', .int .i64 fl'] 144)) :=
  ((Below.refl _ _).alloc (Nat.le_refl _) _).alloc (by simp) _
 have HD : ∀ b : Bool, ((need = need' ∧ on = on' ∧ off = off' ∧ fl = fl') ↔ b = true) → Hid (decide ((⟨need, on, off, fl⟩ : DeedD) = ⟨need', on', off', fl'⟩) = b) := fun b hb => Lib.hid (by
  cases b
  ·exact decide_eq_false (fun e => by injection e with e1 e2 e3 e4; exact absurd (hb.1 ⟨e1, e2, e3, e4⟩) (by simp))
  ·have := hb.2 rfl
   exact decide_eq_true (by rw [this.1, this.2.1, this.2.2.1, this.2.2.2]))
 have HH := Lib.hid HD
 have H1 := Lib.hid (h.up hb0)
 have H2 := Lib.hid (h'.up hb0)
 have HB0 := Lib.hid hb0
 clear HD hb0
 go_enter Tryz.func133, Tryz.ntmps133
 go_wp2_with fail
 refine (sameInts_any A n c need A' n' c' need' _ H1.out H2.out).mono ?_
 by_cases e1 : need = need'
 case neg =>
  have HV := HH.out false ⟨fun h => absurd h.1 e1, fun h => by cases h⟩
  rw [decide_eq_false e1]
  rintro e w1 ⟨rfl, q, rfl⟩
  go_wp2
  go_ret
  exact ⟨ret_bool HV.out.symm, below_drewN HB0.out _⟩
 rw [decide_eq_true e1]
 rintro e w1 ⟨rfl, q, rfl⟩
 by_cases e2 : on = on'
 case neg =>
  have HV := HH.out false ⟨fun h => absurd h.2.1 e2, fun h => by cases h⟩
  have hne : (on == on') = false := by simpa using e2
  clear e1 e2
  go_wp2
  go_ret
  exact ⟨ret_bool HV.out.symm, below_drewN HB0.out _⟩
 by_cases e3 : off = off'
 case neg =>
  have HV := HH.out false ⟨fun h => absurd h.2.2.1 e3, fun h => by cases h⟩
  have hne : (off == off') = false := by simpa using e3
  subst e2
  clear e1 e3
  go_wp2
  go_ret
  exact ⟨ret_bool HV.out.symm, below_drewN HB0.out _⟩
 by_cases e4 : fl = fl'
 case neg =>
  have HV := HH.out false ⟨fun h => absurd h.2.2.2 e4, fun h => by cases h⟩
  have hne : (fl == fl') = false := by simpa using e4
  subst e2
  subst e3
  clear e1 e4
  go_wp2
  go_ret
  exact ⟨ret_bool HV.out.symm, below_drewN HB0.out _⟩
 have HV := HH.out true ⟨fun _ => rfl, fun _ => ⟨e1, e2, e3, e4⟩⟩
 subst e2
 subst e3
 subst e4
 clear e1
 go_wp2
 go_ret
 exact ⟨ret_bool HV.out.symm, below_drewN HB0.out _⟩
set_option maxRecDepth 100000 in
theorem sameTask_any (v : Value) (t : TaskD) (v' : Value) (t' : TaskD) (w : World) (h : RdT w w.heap.size v t) (h' : RdT w w.heap.size v' t') :
  Calls Tryz.prog 64 #[v, v'] w fun e w' => e = .returned (.bool (decide (t = t'))) ∧ Below w.heap.size w w' := by
 obtain ⟨A, n, c, B, m, b, rfl, hg, hgs, hds, hst⟩ := h
 obtain ⟨A', n', c', B', m', b', rfl, hg', hgs', hds', hst'⟩ := h'
 have S0 : St w ((w.alloc (Obj.cells #[.int .i64 t.start, .slice A n c, .slice B m b] 26)).alloc (Obj.cells #[.int .i64 t'.start, .slice A' n' c', .slice B' m' b'] 26)) [rBlk w.heap.size 26 #[.int .i64 t.start, .slice A n c, .slice B m b], rBlk (w.heap.size + 1) 26 #[.int .i64 t'.start, .slice A' n' c', .slice B' m' b']] := by
  have := ((St.refl w).alloc #[.int .i64 t.start, .slice A n c, .slice B m b] 26).alloc #[.int .i64 t'.start, .slice A' n' c', .slice B' m' b'] 26
  simpa using this
 have HH : Hid (∀ b : Bool, ((t.start = t'.start ∧ t.goal = t'.goal ∧ t.deeds = t'.deeds) ↔ b = true) → Bx (decide (t = t') = b)) := Lib.hid fun b hb => Bx.mk (by
  cases b
  ·exact decide_eq_false (fun e => absurd (hb.1 (by rw [e]; exact ⟨rfl, rfl, rfl⟩)) (by simp))
  ·have := hb.2 rfl
   exact decide_eq_true (TaskD.ext' this.1 this.2.1 this.2.2))
 have H1 := Lib.hid (hg.up S0.below)
 have H2 := Lib.hid (hg'.up S0.below)
 have H3 := Lib.hid hds
 have H4 := Lib.hid hds'
 have HL := Lib.hid hds.len
 have HL' := Lib.hid hds'.len
 have hsm := hds.small
 have HS0 := Lib.hid S0
 clear S0
 by_cases e1 : t.start = t'.start
 case neg =>
  have HV := HH.out false ⟨fun h => absurd h.1 e1, fun h => by cases h⟩
  have hne : (t.start != t'.start) = true := by rw [bne_iff_ne]; exact e1
  clear e1
  go_enter Tryz.func64, Tryz.ntmps64
  go_wp2
  go_ret
  exact ⟨ret_bool HV.out.symm, HS0.out.below⟩
 have E1 := Lib.hid e1
 have hne : (t.start != t'.start) = false := by rw [e1]; simp
 clear e1
 go_enter Tryz.func64, Tryz.ntmps64
 go_wp2_with fail
 refine (sameInts_any A n c t.goal A' n' c' t'.goal _ H1.out H2.out).mono ?_
 by_cases e2 : t.goal = t'.goal
 case neg =>
  have HV := HH.out false ⟨fun h => absurd h.2.1 e2, fun h => by cases h⟩
  rw [decide_eq_false e2]
  rintro e w1 ⟨rfl, q, rfl⟩
  clear e2
  go_wp2
  go_ret
  exact ⟨ret_bool HV.out.symm, below_drewN HS0.out.below _⟩
 rw [decide_eq_true e2]
 rintro e w1 ⟨rfl, q, rfl⟩
 have E2 := Lib.hid e2
 clear e2
 by_cases e3 : m = m'
 case neg =>
  have HV := HH.out false ⟨fun h => absurd (by rw [← HL.out, ← HL'.out, h.2.2]) e3, fun h => by cases h⟩
  have hne3 : ((m : Int) != (m' : Int)) = true := by rw [bne_iff_ne]; omega
  clear e3
  go_wp2
  go_ret
  exact ⟨ret_bool HV.out.symm, below_drewN HS0.out.below _⟩
 subst e3
 have HS1 := Lib.hid (HS0.out.drewN q)
 go_wp2
 go_loopw [5] (fun i wr => ∃ k : Nat, k ≤ m ∧ i = .int .i64 k ∧ Hid (∀ j, j < k → t.deeds[j]? = t'.deeds[j]?) ∧ St w wr [rBlk w.heap.size 26 #[.int .i64 t.start, .slice A n c, .slice B m b], rBlk (w.heap.size + 1) 26 #[.int .i64 t'.start, .slice A' n' c', .slice B' m b']]) (fun i _ => m - (intOf i).toNat)
 case atStart => exact ⟨0, by omega, rfl, Lib.hid (by omega), HS1.out⟩
 case round =>
  clear HS1
  obtain ⟨k, hk, rfl, hpre, S⟩ := hrel
  have HS := Lib.hid S
  have q0 : ∀ j, wr.cell? ⟨w.heap.size, j, none⟩ = _ := S.cells 0 rfl
  have q1 : ∀ j, wr.cell? ⟨w.heap.size + 1, j, none⟩ = _ := S.cells 1 rfl
  clear S
  by_cases hlt : k < m
  ·obtain ⟨b1, off, d, rfl, hb, hd, hda⟩ := H3.out.get hlt
   obtain ⟨b2, off', d', rfl, hb', hd', hda'⟩ := H4.out.get hlt
   obtain ⟨An, nn, cn, p0, p1, p2, p3, hneed, hnn, -⟩ := (hda.keep hb (bcells HS.out.below))
   obtain ⟨An', nn', cn', p0', p1', p2', p3', hneed', hnn', -⟩ := (hda'.keep hb' (bcells HS.out.below))
   have HD := Lib.hid hd
   have HD' := Lib.hid hd'
   clear hd hda hd' hda'
   have hsz := HS.out.size
   go_wp2
   go_still_tail 10, (by kernel_rfl)
   change wpList _ _ _ _ _ wr.drew
   go_wp2_with fail
   refine (sameDeed_any An nn cn d An' nn' cn' d' wr.drew ((hneed.more hsz).keep (fun _ _ _ => rfl)) ((hneed'.more hsz).keep (fun _ _ _ => rfl))).mono ?_
   by_cases he : d = d'
   ·rw [decide_eq_true he]
    rintro e w2 ⟨rfl, hb2⟩
    have HS2 := Lib.hid ((HS.out.drew).quiet hb2)
    have HE := Lib.hid he
    have HP : Hid (∀ j, j < k + 1 → t.deeds[j]? = t'.deeds[j]?) := Lib.hid fun j hj => by
     rcases Nat.lt_or_ge j k with h1 | h1
     ·exact hpre.out j h1
     ·obtain rfl : j = k := by omega
      rw [HD.out, HD'.out, HE.out]
    clear he hb2
    go_wp2
    go_roundw
    case rel => exact ⟨k + 1, by omega, by go_num, HP, HS2.out⟩
    case measure => simp [intOf]; omega
   ·rw [decide_eq_false he]
    rintro e w2 ⟨rfl, hb2⟩
    have HS2 := Lib.hid ((HS.out.drew).quiet hb2).below
    have HV := HH.out false ⟨fun h => absurd (by
     have h1 := HD.out
     rw [h.2.2, HD'.out] at h1
     injection h1 with h1
     exact h1.symm) he, fun h => by cases h⟩
    clear he hb2
    go_wp2
    go_ret
    exact ⟨ret_bool HV.out.symm, HS2.out⟩
  ·have HV := HH.out true ⟨fun _ => rfl, fun _ => ⟨E1.out, E2.out, List.ext_getElem? fun j => by
    rcases Nat.lt_or_ge j k with h1 | h1
    ·exact hpre.out j h1
    ·rw [List.getElem?_eq_none (by rw [HL.out]; omega), List.getElem?_eq_none (by rw [HL'.out]; omega)]⟩⟩
   go_wp2
   go_ret
   exact ⟨ret_bool HV.out.symm, HS.out.below⟩
set_option maxRecDepth 100000 in
theorem sameBook_any (v : Value) (b : BookD) (v' : Value) (b' : BookD) (w : World) (h : RdB w w.heap.size v b) (h' : RdB w w.heap.size v' b') :
  Calls Tryz.prog 11 #[v, v'] w fun e w' => e = .returned (.bool (decide (b = b'))) ∧ Below w.heap.size w w' := by
 have HB := Lib.hid h
 have HB' := Lib.hid h'
 obtain ⟨A, n, c, A1, n1, c1, A2, n2, c2, hv⟩ := h.form
 obtain ⟨B, m, d, B1, m1, d1, B2, m2, d2, hv'⟩ := h'.form
 subst hv hv'
 have S0 : St w ((w.alloc (Obj.cells #[.int .i64 b.order.start, .slice A n c, .slice A1 n1 c1, .slice A2 n2 c2, .int .i64 b.state] 28)).alloc (Obj.cells #[.int .i64 b'.order.start, .slice B m d, .slice B1 m1 d1, .slice B2 m2 d2, .int .i64 b'.state] 28)) [rBlk w.heap.size 28 #[.int .i64 b.order.start, .slice A n c, .slice A1 n1 c1, .slice A2 n2 c2, .int .i64 b.state], rBlk (w.heap.size + 1) 28 #[.int .i64 b'.order.start, .slice B m d, .slice B1 m1 d1, .slice B2 m2 d2, .int .i64 b'.state]] := by
  have := ((St.refl w).alloc #[.int .i64 b.order.start, .slice A n c, .slice A1 n1 c1, .slice A2 n2 c2, .int .i64 b.state] 28).alloc #[.int .i64 b'.order.start, .slice B m d, .slice B1 m1 d1, .slice B2 m2 d2, .int .i64 b'.state] 28
  simpa using this
 have HS0 := Lib.hid S0
 have HH : Hid (∀ x : Bool, ((b.order = b'.order ∧ b.done = b'.done ∧ b.state = b'.state) ↔ x = true) → Bx (decide (b = b') = x)) := Lib.hid fun x hb => Bx.mk (by
  cases x
  ·exact decide_eq_false (fun e => absurd (hb.1 (by rw [e]; exact ⟨rfl, rfl, rfl⟩)) (by simp))
  ·have := hb.2 rfl
   exact decide_eq_true (BookD.ext' this.1 this.2.1 this.2.2))
 clear S0 h h'
 go_enter Tryz.func11, Tryz.ntmps11
 go_wp2_with fail
 refine (sameTask_any _ b.order _ b'.order _ ((HB.out.order).up HS0.out.below) ((HB'.out.order).up HS0.out.below)).mono ?_
 by_cases e1 : b.order = b'.order
 case neg =>
  have HV := HH.out false ⟨fun h => absurd h.1 e1, fun h => by cases h⟩
  rw [decide_eq_false e1]
  rintro e w1 ⟨rfl, hb1⟩
  have HS1 := Lib.hid (HS0.out.quiet hb1).below
  clear e1 hb1
  go_wp2
  go_ret
  exact ⟨ret_bool HV.out.symm, HS1.out⟩
 rw [decide_eq_true e1]
 rintro e w1 ⟨rfl, hb1⟩
 have HS1 := Lib.hid (HS0.out.quiet hb1)
 have q0 : ∀ j, w1.cell? ⟨w.heap.size, j, none⟩ = _ := HS1.out.cells 0 rfl
 have q1 : ∀ j, w1.cell? ⟨w.heap.size + 1, j, none⟩ = _ := HS1.out.cells 1 rfl
 have E1 := Lib.hid e1
 clear e1 hb1
 go_wp2_with fail
 refine (sameInts_any A2 n2 c2 b.done B2 m2 d2 b'.done _ ((HB.out.done).1.up HS1.out.below) ((HB'.out.done).1.up HS1.out.below)).mono ?_
 by_cases e2 : b.done = b'.done
 case neg =>
  have HV := HH.out false ⟨fun h => absurd h.2.1 e2, fun h => by cases h⟩
  rw [decide_eq_false e2]
  rintro e w2 ⟨rfl, q, rfl⟩
  clear e2
  go_wp2
  go_ret
  exact ⟨ret_bool HV.out.symm, (HS1.out.drewN q).below⟩
 rw [decide_eq_true e2]
 rintro e w2 ⟨rfl, q, rfl⟩
 have E2 := Lib.hid e2
 clear e2
 by_cases e3 : b.state = b'.state
 ·have HV := HH.out true ⟨fun _ => rfl, fun _ => ⟨E1.out, E2.out, e3⟩⟩
  have hne : (b.state == b'.state) = true := by simpa using e3
  clear e3
  go_wp2
  go_ret
  exact ⟨ret_bool HV.out.symm, (HS1.out.drewN q).below⟩
 ·have HV := HH.out false ⟨fun h => absurd h.2.2 e3, fun h => by cases h⟩
  have hne : (b.state == b'.state) = false := by simpa using e3
  clear e3
  go_wp2
  go_ret
  exact ⟨ret_bool HV.out.symm, (HS1.out.drewN q).below⟩
end Go.Proofs.YtkmcengmglgdeaaGreatDoor

/- Plain law: the search forward, layer by layer, and ways counted forward and backward; no program in sight. -/
namespace Go.Proofs.YtkmcengmglgdeaaGreatDoor
set_option linter.unusedVariables false
set_option linter.unusedSimpArgs false

def dstN (ds : List DeedD) (S : Nat → Bool) : Nat → Nat → Int
 | 0, s => if S s then 0 else -1
 | n + 1, s => if fwd ds S n s then dstN ds S n s else if fwdP ds (fwd ds S n) s then ((n + 1 : Nat) : Int) else -1
def dstV (ds : List DeedD) (S : Nat → Bool) (s : Nat) : Int := dstN ds S 32 s
/-- nothing is added any more -/
def ffixedAt (ds : List DeedD) (S : Nat → Bool) (n : Nat) : Prop := ∀ s, s < 32 → fwdP ds (fwd ds S n) s = true → fwd ds S n s = true
section
variable {ds : List DeedD} {S : Nat → Bool}
end
end Go.Proofs.YtkmcengmglgdeaaGreatDoor

/- nextStates of the program: one step of the search forward. -/
namespace Go.Proofs.YtkmcengmglgdeaaGreatDoor
set_option linter.unusedVariables false
set_option linter.unusedSimpArgs false
open Go.ChangeShapes Go.WideShapes Go.ChangeAt Go.RowKit

/-- the deed leads from a state of the set below m to s -/
def hitF (d : DeedD) (S m s : Nat) : Bool := (List.range m).any fun s' => bit S s' == 1 && deedDo d s' == some s
def partF (ds : List DeedD) (d : DeedD) (S m : Nat) (s : Nat) : Bool := fwdP ds (setP S) s || hitF d S m s
end Go.Proofs.YtkmcengmglgdeaaGreatDoor

/- stepsOn of the program: for each state the least number of deeds from a state. -/
namespace Go.Proofs.YtkmcengmglgdeaaGreatDoor
set_option linter.unusedVariables false
set_option linter.unusedSimpArgs false
open Go.ChangeShapes Go.WideShapes Go.ChangeAt Go.RowKit

def only (s0 : Nat) : Nat → Bool := fun s => decide (s0 = s)
/-- the least numbers of deeds -/
def distL (ds : List DeedD) (p : Nat → Bool) : List Int := (List.range 32).map (dstV ds p)
/-- what is new -/
def freshF (ds : List DeedD) (p : Nat → Bool) (m : Nat) : Nat → Bool := fun s => fwdP ds (fwd ds p m) s && !fwd ds p m s
end Go.Proofs.YtkmcengmglgdeaaGreatDoor

/- Reached, LeadsTo, StepsLeast, StepsFrom and DeedDo of the program. Printed by gen_reach.py. -/
namespace Go.Proofs.YtkmcengmglgdeaaGreatDoor
set_option linter.unusedVariables false
set_option linter.unusedSimpArgs false
open Go.ChangeShapes Go.WideShapes Go.ChangeAt Go.RowKit

def reached (t : TaskD) : Int := if taskOk t then (mset (fwd t.deeds (only t.start.toNat) 32) 32 : Nat) else -1
def leadsTo (t : TaskD) : Int := if taskOk t then (mset (layer t.deeds (evalCode t.goal) 32) 32 : Nat) else -1
def stepsLeast (t : TaskD) : List Int := if taskOk t then stepsL t.deeds (evalCode t.goal) else []
def stepsFrom (t : TaskD) : List Int := if taskOk t then distL t.deeds (only t.start.toNat) else []
def deedDoZ (d : DeedD) (s : Int) : Int := if deedOk d = true ∧ stIn s = true then opt (deedDo d s.toNat) else -1
end Go.Proofs.YtkmcengmglgdeaaGreatDoor
