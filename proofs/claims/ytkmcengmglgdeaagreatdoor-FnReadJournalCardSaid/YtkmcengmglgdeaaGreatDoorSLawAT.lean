/- The draws of an act and of a text; the walks of FnActText and FnReadAct. Printed by gen_lawat.py. -/
import Derived.Test.YtkmcengmglgdeaaGreatDoorSActRS
import Derived.Test.YtkmcengmglgdeaaGreatDoorSDrawB
import Derived.Test.YtkmcengmglgdeaaGreatDoorSGraph
namespace Go.Proofs.YtkmcengmglgdeaaGreatDoor
set_option linter.unusedVariables false
set_option linter.unusedSimpArgs false
open Go.ChangeShapes Go.WideShapes Go.ChangeAt Go.RowKit

def spoilW (i : Nat) : ByteArray := match i with | 0 => ⟨#[]⟩ | 1 => ⟨#[48]⟩ | 2 => ⟨#[32]⟩ | 3 => ⟨#[10]⟩ | 4 => ⟨#[49]⟩ | _ => ⟨#[101, 110, 100]⟩
theorem spoilW_size (i : Nat) : (spoilW i).size ≤ 3 := by
 match i with
 | 0 => decide
 | 1 => decide
 | 2 => decide
 | 3 => decide
 | 4 => decide
 | _ + 5 => exact Nat.le_refl 3
theorem spoilW_cell (i : Nat) (h : i < 6) : (#[.string ⟨#[]⟩, .string ⟨#[48]⟩, .string ⟨#[32]⟩, .string ⟨#[10]⟩, .string ⟨#[49]⟩, .string ⟨#[101, 110, 100]⟩] : Array Value)[i]? = some (.string (spoilW i)) := by
 match i, h with
 | 0, _ => rfl
 | 1, _ => rfl
 | 2, _ => rfl
 | 3, _ => rfl
 | 4, _ => rfl
 | 5, _ => rfl
set_option maxRecDepth 100000 in
set_option maxHeartbeats 2000000 in
theorem l20Spoil_rd {w W : World} {X : HRes} {g hi : Nat} (S : St w W [rRd w g hi, X]) (hh : hi ≤ 100000000000) (t : ByteArray) (ht : t.size ≤ 1099511627776) :
  Calls Tryz.prog 92 #[.pointer (some ⟨g, 0, none⟩), .string t] W fun e w' => ∃ q : ByteArray, e = .returned (.string q) ∧ q.size ≤ t.size + 3 ∧ St w w' [rRd w g (hi + 2), X] := by
 have HS := Lib.hid S
 clear S
 by_cases h0 : t.size = 0
 ·have h0' : ((t.size : Int) == 0) = true := by simp [h0]
  have HSZ : Hid ((⟨#[10]⟩ : ByteArray).size ≤ t.size + 3) := Lib.hid (by rw [h0]; decide)
  clear h0
  go_enter Tryz.func92, Tryz.ntmps92
  go_wp2
  go_ret
  exact ⟨_, rfl, HSZ.out, HS.out.more (hi' := hi + 2) (by omega)⟩
 have h0' : ((t.size : Int) == 0) = false := beq_false_of_ne (fun h => h0 (by omega))
 have hpos : 0 < t.size := by omega
 go_enter Tryz.func92, Tryz.ntmps92
 go_wp2_with fail
 refine (pick_rd HS.out (by omega) (t.size : Int)).mono ?_
 rintro e w1 ⟨x1, rfl, ⟨a1, a2, -⟩, s1⟩
 have a3 := a2 (by omega)
 obtain ⟨k, rfl⟩ := Int.eq_ofNat_of_zero_le a1
 have hk : k < t.size := by omega
 have HS1 := Lib.hid s1
 clear s1 a1 a2 a3 HS h0 h0'
 have HA : Hid (∀ w : World, (Instr.slice 9 (.string t) none (some (.int .i64 (k : Int))) none).run Tryz.prog w = .ok (.string (t.extract 0 k)) w) := Lib.hid (fun w => by
  rw [run_slice_string_to_if w _ t .i64 _ Tryz.underlying9, if_pos (by omega)]; rfl)
 have HC : Hid (∀ w : World, (Instr.slice 9 (.string t) (some (.int .i64 ((k : Int) + 1))) none none).run Tryz.prog w = .ok (.string (t.extract (k + 1) t.size)) w) := Lib.hid (fun w => by
  rw [run_slice_string_from_if w _ t .i64 _ Tryz.underlying9, if_pos (by omega)]; rfl)
 have HW : Hid (IntKind.i64.wrap ((k : Int) + 1) = (k : Int) + 1) := Lib.hid (by rw [IntKind.wrap_i64] <;> omega)
 have hAs : (t.extract 0 k).size = k := by rw [Lib.size_eq, Lib.extract_data, List.length_take, List.length_drop, ← Lib.size_eq]; omega
 have hCs : (t.extract (k + 1) t.size).size = t.size - (k + 1) := by rw [Lib.size_eq, Lib.extract_data, List.length_take, List.length_drop, ← Lib.size_eq]; omega
 have HN1 : Hid (∀ q : ByteArray, q.size ≤ 3 → ¬ 9223372036854775807 < min k t.size + q.size) := Lib.hid (fun q hq => by omega)
 have HN2 : Hid (∀ q : ByteArray, q.size ≤ 3 → ¬ 9223372036854775807 < min k t.size + q.size + (t.size - (k + 1))) := Lib.hid (fun q hq => by omega)
 have HN3 : Hid (∀ q : ByteArray, q.size ≤ 3 → ((t.extract 0 k ++ q) ++ t.extract (k + 1) t.size).size ≤ t.size + 3) := Lib.hid (fun q hq => by rw [ByteArray.size_append, ByteArray.size_append]; omega)
 clear hAs hCs
 go_upto_region 4 with (fail)
 refine wp_reg (σ := {p : Nat × Nat // p.1 < 6}) (by kernel_rfl) (by kernel_rfl) (by kernel_rfl)
  (fun s i => match i with
   | 0 => .string t
   | 1 => .int .i64 (k : Nat)
   | 2 => .string (t.extract 0 k)
   | 3 => .slice (some ⟨s.1.2, 0, none⟩) 6 6
   | 4 => .pointer (some ⟨g, 0, none⟩)
   | 5 => .int .i64 (s.1.1 : Nat)
   | 6 => .pointer (some ⟨s.1.2, s.1.1, none⟩)
   | 7 => .string (spoilW s.1.1)
   | 8 => .string (t.extract 0 k ++ spoilW s.1.1)
   | 9 => .string t
   | 10 => .int .i64 (k : Nat)
   | 11 => .int .i64 ((k : Int) + 1)
   | 12 => .string (t.extract (k + 1) t.size)
   | 13 => .string ((t.extract 0 k ++ spoilW s.1.1) ++ t.extract (k + 1) t.size)
   | 14 => .string ((t.extract 0 k ++ spoilW s.1.1) ++ t.extract (k + 1) t.size)
   | _ => undef)
  (fun D s wx => Sn w wx fun i => match i with
   | 0 => some (rRd w g (if D 5 = true then hi + 1 + 1 else hi + 1))
   | 1 => some (X)
   | 2 => if D 3 = true then some (rBlk s.1.2 9 #[.string ⟨#[]⟩, .string ⟨#[48]⟩, .string ⟨#[32]⟩, .string ⟨#[10]⟩, .string ⟨#[49]⟩, .string ⟨#[101, 110, 100]⟩]) else none
   | _ => none)
  ⟨(0, 0), by decide⟩ ?_ ?_ ?_
 ·intro D hD
  refine ((Sn.of_st HS1.out).quiet ((Below.refl _ _).drew)).congr fun i => ?_
  match i with
  | 0 => simp only [hD 5 (by decide)]; rfl
  | 1 => rfl
  | 2 => simp only [hD 3 (by decide)]; rfl
  | q + 3 => rfl
 ·refine StepAll.cons (fun D s wx hR (hDi : D 0 = false) hd hsh a' hs K hK => ?_) ?_
  ·have e1 := hs.old 1 (u := .string t) (by kernel_rfl) rfl
   clear hs
   go_simp
   exact hK s wx (fun _ _ => rfl) hR
  refine StepAll.cons (fun D s wx hR (hDi : D 1 = false) hd hsh a' hs K hK => ?_) ?_
  ·have e5 := hs.old 5 (u := .int .i64 (k : Nat)) (by kernel_rfl) rfl
   clear hs
   go_simp
   exact hK s wx (fun _ _ => rfl) hR
  refine StepAll.cons (fun D s wx hR (hDi : D 2 = false) hd hsh a' hs K hK => ?_) ?_
  ·have e13 := hs.g 0 13 (.string t) (hd ⟨0, .data⟩ (by simp) rfl)
   have e14 := hs.g 1 14 (.int .i64 (k : Nat)) (hd ⟨1, .data⟩ (by simp) rfl)
   clear hs
   have h1 := HA.out wx
   go_simp
   exact hK s wx (fun _ _ => rfl) hR
  refine StepAll.cons (fun D s wx hR (hDi : D 3 = false) hd hsh a' hs K hK => ?_) ?_
  ·clear hs
   have n6 : D 6 = false := hsh.no hDi 6 rfl ⟨3, .data⟩ (by simp) rfl rfl
   have n7 : D 7 = false := hsh.no n6 7 rfl ⟨6, .data⟩ (by simp) rfl rfl
   have n8 : D 8 = false := hsh.no n7 8 rfl ⟨7, .data⟩ (by simp) rfl rfl
   have n13 : D 13 = false := hsh.no n8 13 rfl ⟨8, .data⟩ (by simp) rfl rfl
   have n14 : D 14 = false := hsh.no n13 14 rfl ⟨13, .data⟩ (by simp) rfl rfl
   go_simp
   refine hK ⟨(s.1.1, wx.heap.size), s.2⟩ _
    (fun j hj => by
     match j, hj with
     | 0, hj => rfl
     | 1, hj => rfl
     | 2, hj => rfl
     | 3, hj => rw [hDi] at hj; cases hj
     | 4, hj => rfl
     | 5, hj => rfl
     | 6, hj => rw [n6] at hj; cases hj
     | 7, hj => rw [n7] at hj; cases hj
     | 8, hj => rw [n8] at hj; cases hj
     | 9, hj => rfl
     | 10, hj => rfl
     | 11, hj => rfl
     | 12, hj => rfl
     | 13, hj => rw [n13] at hj; cases hj
     | 14, hj => rw [n14] at hj; cases hj
     | _ + 15, hj => rfl)
    ((hR.add 2 (if_neg (by rw [hDi]; simp)) (St.new1 wx #[.string ⟨#[]⟩, .string ⟨#[48]⟩, .string ⟨#[32]⟩, .string ⟨#[10]⟩, .string ⟨#[49]⟩, .string ⟨#[101, 110, 100]⟩] 9)).congr
     (fun i => by
      match i with
      | 0 => rfl
      | 1 => rfl
      | 2 => rfl
      | q + 3 => exact (if_neg (show ¬ (q + 3 = 2) by omega)).symm))
  refine StepAll.cons (fun D s wx hR (hDi : D 4 = false) hd hsh a' hs K hK => ?_) ?_
  ·have e0 := hs.old 0 (u := .pointer (some ⟨g, 0, none⟩)) (by kernel_rfl) rfl
   clear hs
   go_simp
   exact hK s wx (fun _ _ => rfl) hR
  refine StepAll.cons (fun D s wx hR (hDi : D 5 = false) hd hsh a' hs K hK => ?_) ?_
  ·have e17 := hs.g 4 17 (.pointer (some ⟨g, 0, none⟩)) (hd ⟨4, .data⟩ (by simp) rfl)
   have g17 := getQ e17
   clear hs
   have n6 : D 6 = false := hsh.no hDi 6 rfl ⟨5, .data⟩ (by simp) rfl rfl
   have n7 : D 7 = false := hsh.no n6 7 rfl ⟨6, .data⟩ (by simp) rfl rfl
   have n8 : D 8 = false := hsh.no n7 8 rfl ⟨7, .data⟩ (by simp) rfl rfl
   have n13 : D 13 = false := hsh.no n8 13 rfl ⟨8, .data⟩ (by simp) rfl rfl
   have n14 : D 14 = false := hsh.no n13 14 rfl ⟨13, .data⟩ (by simp) rfl rfl
   go_simp
   refine (hR.pick 0 (g := g) (hi := hi + 1) (by simp only [hDi] <;> rfl) (by omega) 6).mono ?_
   rintro e2 w2 ⟨x2, rfl, ⟨e1, e3, -⟩, s2⟩
   have e4 := e3 (by omega)
   obtain ⟨m2, rfl⟩ := Int.eq_ofNat_of_zero_le e1
   refine hK ⟨(m2, s.1.2), (by show m2 < 6; omega)⟩ w2
    (fun j hj => by
     match j, hj with
     | 0, hj => rfl
     | 1, hj => rfl
     | 2, hj => rfl
     | 3, hj => rfl
     | 4, hj => rfl
     | 5, hj => rw [hDi] at hj; cases hj
     | 6, hj => rw [n6] at hj; cases hj
     | 7, hj => rw [n7] at hj; cases hj
     | 8, hj => rw [n8] at hj; cases hj
     | 9, hj => rfl
     | 10, hj => rfl
     | 11, hj => rfl
     | 12, hj => rfl
     | 13, hj => rw [n13] at hj; cases hj
     | 14, hj => rw [n14] at hj; cases hj
     | _ + 15, hj => rfl)
    (s2.congr (fun i => by
     match i with
     | 0 => rfl
     | 1 => rfl
     | 2 => rfl
     | q + 3 => rfl))
  refine StepAll.cons (fun D s wx hR (hDi : D 6 = false) hd hsh a' hs K hK => ?_) ?_
  ·have e16 := hs.g 3 16 (.slice (some ⟨s.1.2, 0, none⟩) 6 6) (hd ⟨3, .data⟩ (by simp) rfl)
   have e18 := hs.g 5 18 (.int .i64 (s.1.1 : Nat)) (hd ⟨5, .data⟩ (by simp) rfl)
   clear hs
   have hx : (s.1.1 : Int) < 6 := by have := s.2; omega
   have hx2 : s.1.1 < 6 := s.2
   go_simp
   exact hK s wx (fun _ _ => rfl) hR
  refine StepAll.cons (fun D s wx hR (hDi : D 7 = false) hd hsh a' hs K hK => ?_) ?_
  ·have e19 := hs.g 6 19 (.pointer (some ⟨s.1.2, s.1.1, none⟩)) (hd ⟨6, .data⟩ (by simp) rfl)
   clear hs
   have d3 : D 3 = true := hsh _ _ (rfl : _ = some _) (hd ⟨6, .data⟩ (by simp) rfl) ⟨3, .data⟩ (by simp) rfl
   have kb : Blk wx s.1.2 9 #[.string ⟨#[]⟩, .string ⟨#[48]⟩, .string ⟨#[32]⟩, .string ⟨#[10]⟩, .string ⟨#[49]⟩, .string ⟨#[101, 110, 100]⟩] := hR.blk 2 (if_pos d3)
   have c0 : wx.cell? ⟨s.1.2, s.1.1, none⟩ = some (.string (spoilW s.1.1)) := (kb.cell s.1.1).trans (spoilW_cell s.1.1 s.2)
   go_simp
   exact hK s wx (fun _ _ => rfl) hR
  refine StepAll.cons (fun D s wx hR (hDi : D 8 = false) hd hsh a' hs K hK => ?_) ?_
  ·have e15 := hs.g 2 15 (.string (t.extract 0 k)) (hd ⟨2, .data⟩ (by simp) rfl)
   have e20 := hs.g 7 20 (.string (spoilW s.1.1)) (hd ⟨7, .data⟩ (by simp) rfl)
   clear hs
   have h1 := HN1.out (spoilW s.1.1) (spoilW_size s.1.1)
   go_simp
   exact hK s wx (fun _ _ => rfl) hR
  refine StepAll.cons (fun D s wx hR (hDi : D 9 = false) hd hsh a' hs K hK => ?_) ?_
  ·have e1 := hs.old 1 (u := .string t) (by kernel_rfl) rfl
   clear hs
   go_simp
   exact hK s wx (fun _ _ => rfl) hR
  refine StepAll.cons (fun D s wx hR (hDi : D 10 = false) hd hsh a' hs K hK => ?_) ?_
  ·have e5 := hs.old 5 (u := .int .i64 (k : Nat)) (by kernel_rfl) rfl
   clear hs
   go_simp
   exact hK s wx (fun _ _ => rfl) hR
  refine StepAll.cons (fun D s wx hR (hDi : D 11 = false) hd hsh a' hs K hK => ?_) ?_
  ·have e23 := hs.g 10 23 (.int .i64 (k : Nat)) (hd ⟨10, .data⟩ (by simp) rfl)
   clear hs
   have h1 := HW.out
   go_simp
   exact hK s wx (fun _ _ => rfl) hR
  refine StepAll.cons (fun D s wx hR (hDi : D 12 = false) hd hsh a' hs K hK => ?_) ?_
  ·have e22 := hs.g 9 22 (.string t) (hd ⟨9, .data⟩ (by simp) rfl)
   have e24 := hs.g 11 24 (.int .i64 ((k : Int) + 1)) (hd ⟨11, .data⟩ (by simp) rfl)
   clear hs
   have h1 := HC.out wx
   go_simp
   exact hK s wx (fun _ _ => rfl) hR
  refine StepAll.cons (fun D s wx hR (hDi : D 13 = false) hd hsh a' hs K hK => ?_) ?_
  ·have e21 := hs.g 8 21 (.string (t.extract 0 k ++ spoilW s.1.1)) (hd ⟨8, .data⟩ (by simp) rfl)
   have e25 := hs.g 12 25 (.string (t.extract (k + 1) t.size)) (hd ⟨12, .data⟩ (by simp) rfl)
   clear hs
   have h1 := HN2.out (spoilW s.1.1) (spoilW_size s.1.1)
   go_simp
   exact hK s wx (fun _ _ => rfl) hR
  refine StepAll.cons (fun D s wx hR (hDi : D 14 = false) hd hsh a' hs K hK => ?_) ?_
  ·have e26 := hs.g 13 26 (.string ((t.extract 0 k ++ spoilW s.1.1) ++ t.extract (k + 1) t.size)) (hd ⟨13, .data⟩ (by simp) rfl)
   clear hs
   go_simp
   exact hK s wx (fun _ _ => rfl) hR
  exact StepAll.nil
 ·intro D s wx hR hD
  simp only [putA, Act.put, List.setIfInBounds_toArray, List.set_cons_zero, List.set_cons_succ]
  have HS2 : Hid (St w wx [rRd w g (hi + 1 + 1), X]) := Lib.hid (hR.to_st [0, 1] (by decide) (by simp only [List.map, hD 5 (by decide)] <;> rfl))
  have HSZ := Lib.hid (HN3.out (spoilW s.1.1) (spoilW_size s.1.1))
  clear hR hD HS1
  go_wp2
  go_ret
  exact ⟨_, rfl, HSZ.out, HS2.out⟩
end Go.Proofs.YtkmcengmglgdeaaGreatDoor
