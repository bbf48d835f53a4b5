/- The draw of an act. Printed by gen_l20act.py. -/
import Derived.Test.YtkmcengmglgdeaaGreatDoorSRunB
import Derived.Test.YtkmcengmglgdeaaGreatDoorSMayW
import Derived.Test.YtkmcengmglgdeaaGreatDoorSTDraw
import Derived.Test.YtkmcengmglgdeaaGreatDoorSPlanForW
namespace Go.Proofs.YtkmcengmglgdeaaGreatDoor
set_option linter.unusedVariables false
set_option linter.unusedSimpArgs false
open Go.ChangeShapes Go.WideShapes Go.ChangeAt Go.RowKit

theorem tonat1 (b : Bool) : b.toNat ≤ 1 := by cases b <;> decide
def kd (x : Int) : Int := ([0, 0, 0, 0, 0, 1, 1, 2, 3] : List Int).getD x.toNat 0
theorem kd_at {x : Int} (h0 : 0 ≤ x) (h1 : x < 9) : ([0, 0, 0, 0, 0, 1, 1, 2, 3] : List Int)[x.toNat]? = some (kd x) := by
 obtain ⟨z, rfl⟩ := Int.eq_ofNat_of_zero_le h0
 have hz : z < 9 := by omega
 unfold kd
 rw [Int.toNat_natCast, List.getD_eq_getElem?_getD, List.getElem?_eq_getElem (by simpa using hz)]; rfl
theorem kd_bd (x : Int) : 0 ≤ kd x ∧ kd x ≤ 3 := by
 unfold kd
 rw [List.getD_eq_getElem?_getD]
 generalize x.toNat = z
 by_cases hz : z < 9
 ·have : ∀ z : Fin 9, 0 ≤ (([0, 0, 0, 0, 0, 1, 1, 2, 3] : List Int)[z.1]?).getD 0 ∧ (([0, 0, 0, 0, 0, 1, 1, 2, 3] : List Int)[z.1]?).getD 0 ≤ 3 := by decide
  exact this ⟨z, hz⟩
 ·rw [List.getElem?_eq_none (by simpa using hz)]; decide
def q60 (x : Int) : Int := if x < 59 then 0 else 1
theorem q60_bd (x : Int) : 0 ≤ q60 x ∧ q60 x ≤ 1 := by unfold q60; split <;> omega
theorem q60_div {x : Int} (h0 : 0 ≤ x) (h1 : x < 60) : x.tdiv 59 = q60 x := by
 rw [Int.tdiv_eq_ediv_of_nonneg h0]
 unfold q60; split <;> omega
theorem Sn.set2 {w W : World} {M : Nat → Option HRes} (h : Sn w W M) (k : Nat) {g : Nat} {t : TypeId} {a b : Value} (hk : M k = some (rBlk g t #[a, b])) (x y : Value) : Sn w ((W.setCell ⟨g, 0, none⟩ x).setCell ⟨g, 1, none⟩ y) (fun i => if i = k then some (rBlk g t #[x, y]) else M i) :=
 h.store k hk (((h.blk k hk).set_ 0 x).set_ 1 y) ((((Only.refl [g] W).set (by simp) x).set (by simp) y))
theorem St.set2 {w W : World} {L : List HRes} (h : St w W L) (k : Nat) {g : Nat} {t : TypeId} {a b : Value} (hk : L[k]? = some (rBlk g t #[a, b])) (x y : Value) : St w ((W.setCell ⟨g, 0, none⟩ x).setCell ⟨g, 1, none⟩ y) (L.set k (rBlk g t #[x, y])) :=
 h.store k hk (((h.blk k hk).set_ 0 x).set_ 1 y) ((((Only.refl [g] W).set (by simp) x).set (by simp) y))
set_option maxRecDepth 100000 in
set_option maxHeartbeats 4000000 in
theorem l20Act_rd1 {w W : World} {X : HRes} {g hi : Nat} (S : St w W [rRd w g hi, X]) (hh : hi ≤ 400000000000) (v : Value) (b : BookD) (h : ∀ W' F, X.at_ W' F → RdB W' W'.heap.size v b) :
  Calls Tryz.prog 102 #[.pointer (some ⟨g, 0, none⟩), v] W fun e w' => ∃ k m, e = .returned (.agg #[.int .i64 k, .int .i64 m]) ∧ (0 ≤ k ∧ k ≤ 7) ∧ (-10 ≤ m ∧ m ≤ 130) ∧ St w w' [rRd w g (hi + 8), X] := by
 obtain ⟨F0, hF0, -⟩ := S.get 1 rfl
 obtain ⟨G, gn, gc, G', n', c', D', dn, dc, hv⟩ := (h W F0 hF0).form
 subst hv
 obtain ⟨os, hos⟩ : ∃ x, b.order.start = x := ⟨_, rfl⟩
 obtain ⟨st, hstt⟩ : ∃ x, b.state = x := ⟨_, rfl⟩
 have HO : Hid (∀ W' F, X.at_ W' F → RdT W' W'.heap.size (.agg #[.int .i64 os, .slice G gn gc, .slice G' n' c']) b.order) := Lib.hid fun W' F hF => by rw [← hos]; exact (h W' F hF).order
 rw [hos, hstt]
 obtain ⟨r, hr⟩ : ∃ r, W.heap.size = r := ⟨_, rfl⟩
 have HS0 : Hid (St w ((W.alloc (.cells #[.int .i64 os, .slice G gn gc, .slice G' n' c', .slice D' dn dc, .int .i64 st] 28)).alloc (.cells #[.int .i64 0, .int .i64 0] 64)) [rRd w g hi, X, rBlk r 28 #[.int .i64 os, .slice G gn gc, .slice G' n' c', .slice D' dn dc, .int .i64 st], rBlk (r + 1) 64 #[.int .i64 0, .int .i64 0]]) := Lib.hid (by
  have := (S.alloc #[.int .i64 os, .slice G gn gc, .slice G' n' c', .slice D' dn dc, .int .i64 st] 28).alloc #[.int .i64 0, .int .i64 0] 64
  rw [show (W.alloc (.cells #[.int .i64 os, .slice G gn gc, .slice G' n' c', .slice D' dn dc, .int .i64 st] 28)).heap.size = r + 1 by simp [hr], hr] at this
  exact this)
 clear S h hos hstt hF0
 go_enter Tryz.func102, Tryz.ntmps102
 go_upto_region 1 with (fail)
 try rw [hr]
 have HW0 : Hid (∀ wx, Sn w wx (fun _ => none) → True) := Lib.hid fun _ _ => trivial
 clear HW0
 refine wp_reg (σ := Nat × {x : Int // 0 ≤ x ∧ x < 9} × {x : Int // 0 ≤ x ∧ x < 60} × Nat) (by kernel_rfl) (by kernel_rfl) (by kernel_rfl)
  (fun s i => match i with
   | 0 => .slice (some ⟨s.1, 0, none⟩) 9 9
   | 1 => .pointer (some ⟨g, 0, none⟩)
   | 2 => .int .i64 s.2.1.1
   | 3 => .pointer (some ⟨s.1, s.2.1.1.toNat, none⟩)
   | 4 => .int .i64 (kd s.2.1.1)
   | 5 => .pointer (some ⟨g, 0, none⟩)
   | 6 => .int .i64 s.2.2.1.1
   | 7 => .int .i64 (q60 s.2.2.1.1)
   | 8 => .int .i64 (q60 s.2.2.1.1 * 4)
   | 9 => .int .i64 (kd s.2.1.1 + q60 s.2.2.1.1 * 4)
   | 10 => .agg #[.int .i64 (kd s.2.1.1 + q60 s.2.2.1.1 * 4), .int .i64 0]
   | 11 => .pointer (some ⟨s.2.2.2, 0, none⟩)
   | _ => undef)
  (fun D s wx => Sn w wx fun i => match i with
   | 0 => some (rRd w g (hi + (D 2).toNat + (D 6).toNat))
   | 1 => some (X)
   | 2 => some (rBlk r 28 #[.int .i64 os, .slice G gn gc, .slice G' n' c', .slice D' dn dc, .int .i64 st])
   | 3 => some (rBlk (r + 1) 64 #[.int .i64 0, .int .i64 0])
   | 4 => if D 0 = true then some (rInts (.slice (some ⟨s.1, 0, none⟩) 9 9) [0, 0, 0, 0, 0, 1, 1, 2, 3]) else none
   | 5 => if D 11 = true then some (rBlk s.2.2.2 64 (if D 12 = true then #[.int .i64 (kd s.2.1.1 + q60 s.2.2.1.1 * 4), .int .i64 0] else #[.int .i64 0, .int .i64 0])) else none
   | _ => none)
  (0, ⟨0, by omega, by omega⟩, ⟨0, by omega, by omega⟩, 0) ?_ ?_ ?_
 ·intro D hD
  refine ((Sn.of_st HS0.out).quiet ((Below.refl _ _).drew)).congr fun i => ?_
  match i with
  | 0 => simp only [hD 2 (by decide), hD 6 (by decide)]; rfl
  | 1 => rfl
  | 2 => rfl
  | 3 => rfl
  | 4 => simp only [hD 0 (by decide)]; rfl
  | 5 => simp only [hD 11 (by decide)]; rfl
  | q + 6 => rfl
 ·refine StepAll.cons (fun D s wx hR (hDi : D 0 = false) hd hsh a' hs K hK => ?_) ?_
  ·clear hs
   have n3 : D 3 = false := hsh.no hDi 3 rfl ⟨0, .data⟩ (by simp) rfl rfl
   have n4 : D 4 = false := hsh.no n3 4 rfl ⟨3, .data⟩ (by simp) rfl rfl
   have n9 : D 9 = false := hsh.no n4 9 rfl ⟨4, .data⟩ (by simp) rfl rfl
   have n10 : D 10 = false := hsh.no n9 10 rfl ⟨9, .data⟩ (by simp) rfl rfl
   have n12 : D 12 = false := hsh.no n10 12 rfl ⟨10, .data⟩ (by simp) rfl rfl
   go_simp
   refine hK (wx.heap.size, s.2) _
    (fun j hj => by
     match j, hj with
     | 0, hj => rw [hDi] at hj; cases hj
     | 1, hj => rfl
     | 2, hj => rfl
     | 3, hj => rw [n3] at hj; cases hj
     | 4, hj => rw [n4] at hj; cases hj
     | 5, hj => rfl
     | 6, hj => rfl
     | 7, hj => rfl
     | 8, hj => rfl
     | 9, hj => rw [n9] at hj; cases hj
     | 10, hj => rw [n10] at hj; cases hj
     | 11, hj => rfl
     | 12, hj => rw [n12] at hj; cases hj
     | _ + 13, hj => rfl)
    ((hR.add 4 (if_neg (by rw [hDi]; simp)) (St.lit wx [0, 0, 0, 0, 0, 1, 1, 2, 3] 9 rfl (by simp) (by decide))).congr
     (fun i => by
      match i with
      | 0 => rfl
      | 1 => rfl
      | 2 => rfl
      | 3 => rfl
      | 4 => rfl
      | 5 => rfl
      | q + 6 => exact (if_neg (show ¬ (q + 6 = 4) by omega)).symm))
  refine StepAll.cons (fun D s wx hR (hDi : D 1 = false) hd hsh a' hs K hK => ?_) ?_
  ·have e0 := hs.old 0 (u := .pointer (some ⟨g, 0, none⟩)) (by kernel_rfl) rfl
   clear hs
   go_simp
   exact hK s wx (fun _ _ => rfl) hR
  refine StepAll.cons (fun D s wx hR (hDi : D 2 = false) hd hsh a' hs K hK => ?_) ?_
  ·have e8 := hs.g 1 8 (.pointer (some ⟨g, 0, none⟩)) (hd ⟨1, .data⟩ (by simp) rfl)
   have g8 := getQ e8
   clear hs
   have n3 : D 3 = false := hsh.no hDi 3 rfl ⟨2, .data⟩ (by simp) rfl rfl
   have n4 : D 4 = false := hsh.no n3 4 rfl ⟨3, .data⟩ (by simp) rfl rfl
   have n9 : D 9 = false := hsh.no n4 9 rfl ⟨4, .data⟩ (by simp) rfl rfl
   have n10 : D 10 = false := hsh.no n9 10 rfl ⟨9, .data⟩ (by simp) rfl rfl
   have n12 : D 12 = false := hsh.no n10 12 rfl ⟨10, .data⟩ (by simp) rfl rfl
   go_simp
   refine (hR.pick 0 rfl (by have := tonat1 (D 2); have := tonat1 (D 6); omega) 9).mono ?_
   rintro e2 w2 ⟨x2, rfl, ⟨b1, b2, -⟩, s2⟩
   have b3 := b2 (by omega)
   refine hK (s.1, ⟨x2, b1, b3⟩, s.2.2) w2
    (fun j hj => by
     match j, hj with
     | 0, hj => rfl
     | 1, hj => rfl
     | 2, hj => rw [hDi] at hj; cases hj
     | 3, hj => rw [n3] at hj; cases hj
     | 4, hj => rw [n4] at hj; cases hj
     | 5, hj => rfl
     | 6, hj => rfl
     | 7, hj => rfl
     | 8, hj => rfl
     | 9, hj => rw [n9] at hj; cases hj
     | 10, hj => rw [n10] at hj; cases hj
     | 11, hj => rfl
     | 12, hj => rw [n12] at hj; cases hj
     | _ + 13, hj => rfl)
    (s2.congr
     (fun i => by
      match i with
      | 0 => (show some (rRd w g (hi + true.toNat + (D 6).toNat)) = some (rRd w g (hi + (D 2).toNat + (D 6).toNat + 1)); rw [hDi, show hi + true.toNat + (D 6).toNat = hi + false.toNat + (D 6).toNat + 1 by simp; omega])
      | 1 => rfl
      | 2 => rfl
      | 3 => rfl
      | 4 => rfl
      | 5 => (show (if D 11 = true then some (rBlk _ _ (if D 12 = true then _ else _)) else none) = (if D 11 = true then some (rBlk _ _ (if D 12 = true then _ else _)) else none); rw [n12] <;> rfl)
      | q + 6 => exact (if_neg (show ¬ (q + 6 = 0) by omega)).symm))
  refine StepAll.cons (fun D s wx hR (hDi : D 3 = false) hd hsh a' hs K hK => ?_) ?_
  ·have e7 := hs.g 0 7 (.slice (some ⟨s.1, 0, none⟩) 9 9) (hd ⟨0, .data⟩ (by simp) rfl)
   have e9 := hs.g 2 9 (.int .i64 s.2.1.1) (hd ⟨2, .data⟩ (by simp) rfl)
   clear hs
   obtain ⟨z, hz⟩ := Int.eq_ofNat_of_zero_le s.2.1.2.1
   have hz9 : (z : Int) < 9 := by have := s.2.1.2.2; omega
   rw [hz] at e9
   have e9' : Int.toNat s.2.1.1 = z := by rw [hz]; rfl
   go_simp
   first | (exact hK s wx (fun _ _ => rfl) hR) | (have hk := hK s wx (fun _ _ => rfl) hR; rw [e9'] at hk; exact hk) | (have hk := hK s wx (fun _ _ => rfl) hR; simp only [e9'] at hk; exact hk)
  refine StepAll.cons (fun D s wx hR (hDi : D 4 = false) hd hsh a' hs K hK => ?_) ?_
  ·have e10 := hs.g 3 10 (.pointer (some ⟨s.1, s.2.1.1.toNat, none⟩)) (hd ⟨3, .data⟩ (by simp) rfl)
   clear hs
   have d0 : D 0 = true := hsh 3 _ rfl (hd ⟨3, .data⟩ (by simp) rfl) ⟨0, .data⟩ (by simp) rfl
   have hc := (hR.cellI 4 (if_pos d0) rfl s.2.1.1.toNat _ (kd_at s.2.1.2.1 s.2.1.2.2)).1
   go_simp
   exact hK s wx (fun _ _ => rfl) hR
  refine StepAll.cons (fun D s wx hR (hDi : D 5 = false) hd hsh a' hs K hK => ?_) ?_
  ·have e0 := hs.old 0 (u := .pointer (some ⟨g, 0, none⟩)) (by kernel_rfl) rfl
   clear hs
   go_simp
   exact hK s wx (fun _ _ => rfl) hR
  refine StepAll.cons (fun D s wx hR (hDi : D 6 = false) hd hsh a' hs K hK => ?_) ?_
  ·have e12 := hs.g 5 12 (.pointer (some ⟨g, 0, none⟩)) (hd ⟨5, .data⟩ (by simp) rfl)
   have g12 := getQ e12
   clear hs
   have n7 : D 7 = false := hsh.no hDi 7 rfl ⟨6, .data⟩ (by simp) rfl rfl
   have n8 : D 8 = false := hsh.no n7 8 rfl ⟨7, .data⟩ (by simp) rfl rfl
   have n9 : D 9 = false := hsh.no n8 9 rfl ⟨8, .data⟩ (by simp) rfl rfl
   have n10 : D 10 = false := hsh.no n9 10 rfl ⟨9, .data⟩ (by simp) rfl rfl
   have n12 : D 12 = false := hsh.no n10 12 rfl ⟨10, .data⟩ (by simp) rfl rfl
   go_simp
   refine (hR.pick 0 rfl (by have := tonat1 (D 2); have := tonat1 (D 6); omega) 60).mono ?_
   rintro e2 w2 ⟨x2, rfl, ⟨b1, b2, -⟩, s2⟩
   have b3 := b2 (by omega)
   refine hK (s.1, s.2.1, ⟨x2, b1, b3⟩, s.2.2.2) w2
    (fun j hj => by
     match j, hj with
     | 0, hj => rfl
     | 1, hj => rfl
     | 2, hj => rfl
     | 3, hj => rfl
     | 4, hj => rfl
     | 5, hj => rfl
     | 6, hj => rw [hDi] at hj; cases hj
     | 7, hj => rw [n7] at hj; cases hj
     | 8, hj => rw [n8] at hj; cases hj
     | 9, hj => rw [n9] at hj; cases hj
     | 10, hj => rw [n10] at hj; cases hj
     | 11, hj => rfl
     | 12, hj => rw [n12] at hj; cases hj
     | _ + 13, hj => rfl)
    (s2.congr
     (fun i => by
      match i with
      | 0 => (show some (rRd w g (hi + (D 2).toNat + true.toNat)) = some (rRd w g (hi + (D 2).toNat + (D 6).toNat + 1)); rw [hDi]; rfl)
      | 1 => rfl
      | 2 => rfl
      | 3 => rfl
      | 4 => rfl
      | 5 => (show (if D 11 = true then some (rBlk _ _ (if D 12 = true then _ else _)) else none) = (if D 11 = true then some (rBlk _ _ (if D 12 = true then _ else _)) else none); rw [n12] <;> rfl)
      | q + 6 => exact (if_neg (show ¬ (q + 6 = 0) by omega)).symm))
  refine StepAll.cons (fun D s wx hR (hDi : D 7 = false) hd hsh a' hs K hK => ?_) ?_
  ·have e13 := hs.g 6 13 (.int .i64 s.2.2.1.1) (hd ⟨6, .data⟩ (by simp) rfl)
   clear hs
   have hq := q60_div s.2.2.1.2.1 s.2.2.1.2.2
   have hqb := q60_bd s.2.2.1.1
   have hqw : IntKind.i64.wrap (q60 s.2.2.1.1) = q60 s.2.2.1.1 := by rw [IntKind.wrap_i64]; omega
   go_simp
   exact hK s wx (fun _ _ => rfl) hR
  refine StepAll.cons (fun D s wx hR (hDi : D 8 = false) hd hsh a' hs K hK => ?_) ?_
  ·have e14 := hs.g 7 14 (.int .i64 (q60 s.2.2.1.1)) (hd ⟨7, .data⟩ (by simp) rfl)
   clear hs
   have hqb := q60_bd s.2.2.1.1
   have hqw : IntKind.i64.wrap (q60 s.2.2.1.1 * 4) = q60 s.2.2.1.1 * 4 := by rw [IntKind.wrap_i64]; omega
   go_simp
   exact hK s wx (fun _ _ => rfl) hR
  refine StepAll.cons (fun D s wx hR (hDi : D 9 = false) hd hsh a' hs K hK => ?_) ?_
  ·have e11 := hs.g 4 11 (.int .i64 (kd s.2.1.1)) (hd ⟨4, .data⟩ (by simp) rfl)
   have e15 := hs.g 8 15 (.int .i64 (q60 s.2.2.1.1 * 4)) (hd ⟨8, .data⟩ (by simp) rfl)
   clear hs
   have hqb := q60_bd s.2.2.1.1
   have hkb := kd_bd s.2.1.1
   have hqw : IntKind.i64.wrap (kd s.2.1.1 + q60 s.2.2.1.1 * 4) = (kd s.2.1.1 + q60 s.2.2.1.1 * 4) := by rw [IntKind.wrap_i64]; omega
   go_simp
   exact hK s wx (fun _ _ => rfl) hR
  refine StepAll.cons (fun D s wx hR (hDi : D 10 = false) hd hsh a' hs K hK => ?_) ?_
  ·have e16 := hs.g 9 16 (.int .i64 (kd s.2.1.1 + q60 s.2.2.1.1 * 4)) (hd ⟨9, .data⟩ (by simp) rfl)
   have g16 := getQ e16
   clear hs
   go_simp
   exact hK s wx (fun _ _ => rfl) hR
  refine StepAll.cons (fun D s wx hR (hDi : D 11 = false) hd hsh a' hs K hK => ?_) ?_
  ·clear hs
   have n12 : D 12 = false := hsh.no hDi 12 rfl ⟨11, .data⟩ (by simp) rfl rfl
   go_simp
   refine hK (s.1, s.2.1, s.2.2.1, wx.heap.size) _
    (fun j hj => by
     match j, hj with
     | 0, hj => rfl
     | 1, hj => rfl
     | 2, hj => rfl
     | 3, hj => rfl
     | 4, hj => rfl
     | 5, hj => rfl
     | 6, hj => rfl
     | 7, hj => rfl
     | 8, hj => rfl
     | 9, hj => rfl
     | 10, hj => rfl
     | 11, hj => rw [hDi] at hj; cases hj
     | 12, hj => rfl
     | _ + 13, hj => rfl)
    ((hR.add 5 (if_neg (by rw [hDi]; simp)) (St.new1 wx #[.int .i64 0, .int .i64 0] 64)).congr
     (fun i => by
      match i with
      | 0 => rfl
      | 1 => rfl
      | 2 => rfl
      | 3 => rfl
      | 4 => rfl
      | 5 => (show some (rBlk _ _ (if D 12 = true then _ else _)) = some (rBlk _ _ _); rw [n12] <;> rfl)
      | q + 6 => exact (if_neg (show ¬ (q + 6 = 5) by omega)).symm))
  refine StepAll.cons (fun D s wx hR (hDi : D 12 = false) hd hsh a' hs K hK => ?_) ?_
  ·have e5 := hs.g 11 5 (.pointer (some ⟨s.2.2.2, 0, none⟩)) (hd ⟨11, .data⟩ (by simp) rfl)
   have e17 := hs.g 10 17 (.agg #[.int .i64 (kd s.2.1.1 + q60 s.2.2.1.1 * 4), .int .i64 0]) (hd ⟨10, .data⟩ (by simp) rfl)
   clear hs
   have dA : D 11 = true := hd ⟨11, .data⟩ (by simp) rfl
   have kb : Blk wx s.2.2.2 64 #[.int .i64 0, .int .i64 0] := hR.blk 5 (by simp only [dA, hDi] <;> rfl)
   have f0 := kb.frozen
   have c0 : wx.cell? ⟨s.2.2.2, 0, none⟩ = some (.int .i64 0) := kb.cell 0
   have c1 : wx.cell? ⟨s.2.2.2, 1, none⟩ = some (.int .i64 0) := kb.cell 1
   go_simp
   exact hK s _ (fun _ _ => rfl) ((hR.set2 5 (a := .int .i64 0) (b := .int .i64 0) (by simp only [dA, hDi]; rfl) _ _).congr
     (fun i => by
      match i with
      | 0 => rfl
      | 1 => rfl
      | 2 => rfl
      | 3 => rfl
      | 4 => rfl
      | 5 => (show (if D 11 = true then some (rBlk _ _ _) else none) = some (rBlk _ _ _); rw [dA]; rfl)
      | q + 6 => exact (if_neg (show ¬ (q + 6 = 5) by omega)).symm))
  exact StepAll.nil
 ·intro D s wx hR hD
  simp only [putA, Act.put, List.setIfInBounds_toArray, List.set_cons_zero, List.set_cons_succ]
  have hkd := kd_bd s.2.1.1
  have hqd := q60_bd s.2.2.1.1
  obtain ⟨kv, hkve⟩ : ∃ kv, kd s.2.1.1 + q60 s.2.2.1.1 * 4 = kv := ⟨_, rfl⟩
  have hkv : 0 ≤ kv ∧ kv ≤ 7 := by omega
  obtain ⟨g5, hg5⟩ : ∃ g5, s.2.2.2 = g5 := ⟨_, rfl⟩
  have HS1 : Hid (St w wx [rRd w g (hi + 2), X, rBlk r 28 #[.int .i64 os, .slice G gn gc, .slice G' n' c', .slice D' dn dc, .int .i64 st], rBlk (r + 1) 64 #[.int .i64 0, .int .i64 0], rBlk g5 64 #[.int .i64 kv, .int .i64 0]]) := Lib.hid (by
   rw [← hkve, ← hg5]
   exact hR.to_st [0, 1, 2, 3, 5] (by decide) (by simp only [List.map, hD 2 (by decide), hD 6 (by decide), hD 11 (by decide), hD 12 (by decide)] <;> rfl))
  rw [hg5, hkve]
  clear hR hD HS0 hkve hg5 hkd hqd
  obtain ⟨FX, hFX, -⟩ := HS1.out.get 1 rfl
  have HOX := Lib.hid (HO.out _ _ hFX)
  clear hFX
  have q2 : ∀ j, wx.cell? ⟨r, j, none⟩ = _ := HS1.out.cells 2 rfl
  go_wp2_with fail
  refine (deedsMay_spec _ b.order st _ HOX.out).mono ?_
  rintro e w3 ⟨v6, rfl, s3⟩
  obtain ⟨A6, c6, hv6, -⟩ := s3.rdI 0 rfl
  obtain ⟨may, hmay⟩ : ∃ may, deedsMay b.order st = may := ⟨_, rfl⟩
  rw [hmay] at s3 hv6
  have HMAY := Bx.mk hmay
  obtain ⟨ml, hml⟩ : ∃ ml, may.length = ml := ⟨_, rfl⟩
  rw [hml] at hv6
  have HML := Bx.mk hml
  subst hv6
  have hml6 : ml ≤ 6 := by rw [← hml, ← hmay]; exact deedsMay_len _ _
  have HS3 : Hid (St w w3 [rRd w g (hi + 2), X, rBlk r 28 #[.int .i64 os, .slice G gn gc, .slice G' n' c', .slice D' dn dc, .int .i64 st], rBlk (r + 1) 64 #[.int .i64 0, .int .i64 0], rBlk g5 64 #[.int .i64 kv, .int .i64 0], rInts (.slice A6 ml c6) may]) := Lib.hid (HS1.out.call s3)
  clear s3 hmay hml HS1 q2 HOX
  have q5 : ∀ j, w3.cell? ⟨g5, j, none⟩ = _ := HS3.out.cells 4 rfl
  have f5 := HS3.out.free 4 rfl
  by_cases hk0 : kv = 0
  ·subst hk0
   by_cases hm0 : ml = 0
   ·subst hm0
    go_wp2_with fail
    refine (pick_rd HS3.out (by omega) 7).mono ?_
    rintro e w_y ⟨y, rfl, ⟨y1, y2, -⟩, s_y⟩
    have y3 := y2 (by omega)
    have HS5 : Hid (St w w_y [rRd w g (hi + 3), X, rBlk r 28 #[.int .i64 os, .slice G gn gc, .slice G' n' c', .slice D' dn dc, .int .i64 st], rBlk (r + 1) 64 #[.int .i64 0, .int .i64 0], rBlk g5 64 #[.int .i64 0, .int .i64 0], rInts (.slice A6 0 c6) may]) := Lib.hid s_y
    clear s_y y2 HS3
    have q5 : ∀ j, w_y.cell? ⟨g5, j, none⟩ = _ := HS5.out.cells 4 rfl
    have f5 := HS5.out.free 4 rfl
    have HS6 : Hid (St w (w_y.setCell ⟨g5, 1, none⟩ (.int .i64 y)) [rRd w g (hi + 3), X, rBlk r 28 #[.int .i64 os, .slice G gn gc, .slice G' n' c', .slice D' dn dc, .int .i64 st], rBlk (r + 1) 64 #[.int .i64 0, .int .i64 0], rBlk g5 64 #[.int .i64 0, .int .i64 y], rInts (.slice A6 0 c6) may]) := Lib.hid (HS5.out.set 4 rfl 1 _)
    clear HS5
    go_wp2_with fail
    refine (odd_rd HS6.out (by omega) 40).mono ?_
    rintro e wo ⟨bo, rfl, so⟩
    have HSO : Hid (St w wo [rRd w g (hi + 4), X, rBlk r 28 #[.int .i64 os, .slice G gn gc, .slice G' n' c', .slice D' dn dc, .int .i64 st], rBlk (r + 1) 64 #[.int .i64 0, .int .i64 0], rBlk g5 64 #[.int .i64 0, .int .i64 y], rInts (.slice A6 0 c6) may]) := Lib.hid so
    clear so HS6
    cases bo with
    | false =>
     have qa : ∀ j, wo.cell? ⟨g5, j, none⟩ = _ := HSO.out.cells 4 rfl
     have qb : ∀ j, wo.cell? ⟨r + 1, j, none⟩ = _ := HSO.out.cells 3 rfl
     have fb := HSO.out.free 3 rfl
     go_wp2
     refine bodyPost_ret (v := .agg #[.int .i64 0, .int .i64 y]) (by simp [results, Tryz.results102, go_sem, qb]) rfl ⟨0, y, rfl, hkv, by omega, ?_⟩
     exact ((HSO.out.set2 3 rfl (.int .i64 0) (.int .i64 y)).pick [0, 1] (by decide) rfl rfl).more (by omega)
    | true =>
     go_upto_region 10 with (fail)
     refine wp_reg (σ := {x : Int // 0 ≤ x ∧ x < 120}) (by kernel_rfl) (by kernel_rfl) (by kernel_rfl)
      (fun s i => match i with
       | 0 => .pointer (some ⟨g5, 1, none⟩)
       | 1 => .int .i64 y
       | 2 => .pointer (some ⟨g, 0, none⟩)
       | 3 => .int .i64 s.1
       | 4 => .int .i64 (y + s.1)
       | 5 => .int .i64 (y + s.1 - 10)
       | 6 => .pointer (some ⟨g5, 1, none⟩)
       | _ => undef)
      (fun D s wz => Sn w wz fun i => match i with
       | 0 => some (rRd w g (hi + 4 + (D 3).toNat))
       | 1 => some (X)
       | 2 => some (rBlk r 28 #[.int .i64 os, .slice G gn gc, .slice G' n' c', .slice D' dn dc, .int .i64 st])
       | 3 => some (rBlk (r + 1) 64 #[.int .i64 0, .int .i64 0])
       | 4 => some (rBlk g5 64 (if D 7 = true then #[.int .i64 0, .int .i64 (y + s.1 - 10)] else #[.int .i64 0, .int .i64 y]))
       | 5 => some (rInts (.slice A6 0 c6) may)
       | _ => none)
      ⟨0, by omega, by omega⟩ ?_ ?_ ?_
     ·intro D hD
      refine ((Sn.of_st HSO.out).quiet ((Below.refl _ _).drew)).congr fun i => ?_
      match i with
      | 0 => simp only [hD 3 (by decide)]; rfl
      | 1 => rfl
      | 2 => rfl
      | 3 => rfl
      | 4 => simp only [hD 7 (by decide)]; rfl
      | 5 => rfl
      | q + 6 => rfl
     ·refine StepAll.cons (fun D s wz hR (hDi : D 0 = false) hd hsh a' hs K hK => ?_) ?_
      ·have e5 := hs.old 5 (u := .pointer (some ⟨g5, 0, none⟩)) (by kernel_rfl) rfl
       clear hs
       go_simp
       exact hK s wz (fun _ _ => rfl) hR
      refine StepAll.cons (fun D s wz hR (hDi : D 1 = false) hd hsh a' hs K hK => ?_) ?_
      ·have e62 := hs.g 0 62 (.pointer (some ⟨g5, 1, none⟩)) (hd ⟨0, .data⟩ (by simp) rfl)
       clear hs
       have n4 : D 4 = false := hsh.no hDi 4 rfl ⟨1, .data⟩ (by simp) rfl rfl
       have n5 : D 5 = false := hsh.no n4 5 rfl ⟨4, .data⟩ (by simp) rfl rfl
       have n7 : D 7 = false := hsh.no n5 7 rfl ⟨5, .data⟩ (by simp) rfl rfl
       have kb : Blk wz g5 64 #[.int .i64 0, .int .i64 y] := hR.blk 4 (by simp only [n7] <;> rfl)
       have c1 : wz.cell? ⟨g5, 1, none⟩ = some (.int .i64 y) := kb.cell 1
       go_simp
       exact hK s wz (fun _ _ => rfl) hR
      refine StepAll.cons (fun D s wz hR (hDi : D 2 = false) hd hsh a' hs K hK => ?_) ?_
      ·have e0 := hs.old 0 (u := .pointer (some ⟨g, 0, none⟩)) (by kernel_rfl) rfl
       clear hs
       go_simp
       exact hK s wz (fun _ _ => rfl) hR
      refine StepAll.cons (fun D s wz hR (hDi : D 3 = false) hd hsh a' hs K hK => ?_) ?_
      ·have e64 := hs.g 2 64 (.pointer (some ⟨g, 0, none⟩)) (hd ⟨2, .data⟩ (by simp) rfl)
       have g64 := getQ e64
       clear hs
       have n4 : D 4 = false := hsh.no hDi 4 rfl ⟨3, .data⟩ (by simp) rfl rfl
       have n5 : D 5 = false := hsh.no n4 5 rfl ⟨4, .data⟩ (by simp) rfl rfl
       have n7 : D 7 = false := hsh.no n5 7 rfl ⟨5, .data⟩ (by simp) rfl rfl
       go_simp
       refine (hR.pick 0 rfl (by have := tonat1 (D 3); omega) 120).mono ?_
       rintro e2 w2 ⟨x2, rfl, ⟨b1, b2, -⟩, s2⟩
       have b3 := b2 (by omega)
       refine hK ⟨x2, b1, b3⟩ w2
        (fun j hj => by
         match j, hj with
         | 0, hj => rfl
         | 1, hj => rfl
         | 2, hj => rfl
         | 3, hj => rw [hDi] at hj; cases hj
         | 4, hj => rw [n4] at hj; cases hj
         | 5, hj => rw [n5] at hj; cases hj
         | 6, hj => rfl
         | 7, hj => rw [n7] at hj; cases hj
         | _ + 8, hj => rfl)
        (s2.congr
         (fun i => by
          match i with
          | 0 => (show some (rRd w g (hi + 4 + true.toNat)) = some (rRd w g (hi + 4 + (D 3).toNat + 1)); rw [hDi]; rfl)
          | 1 => rfl
          | 2 => rfl
          | 3 => rfl
          | 4 => (show some (rBlk _ _ (if D 7 = true then _ else _)) = some (rBlk _ _ (if D 7 = true then _ else _)); rw [n7] <;> rfl)
          | 5 => rfl
          | q + 6 => exact (if_neg (show ¬ (q + 6 = 0) by omega)).symm))
      refine StepAll.cons (fun D s wz hR (hDi : D 4 = false) hd hsh a' hs K hK => ?_) ?_
      ·have e63 := hs.g 1 63 (.int .i64 y) (hd ⟨1, .data⟩ (by simp) rfl)
       have e65 := hs.g 3 65 (.int .i64 s.1) (hd ⟨3, .data⟩ (by simp) rfl)
       clear hs
       have hs1 := s.2.1
       have hs2 := s.2.2
       have hw : IntKind.i64.wrap (y + s.1) = y + s.1 := by rw [IntKind.wrap_i64]; omega
       go_simp
       exact hK s wz (fun _ _ => rfl) hR
      refine StepAll.cons (fun D s wz hR (hDi : D 5 = false) hd hsh a' hs K hK => ?_) ?_
      ·have e66 := hs.g 4 66 (.int .i64 (y + s.1)) (hd ⟨4, .data⟩ (by simp) rfl)
       clear hs
       have hs1 := s.2.1
       have hs2 := s.2.2
       have hw : IntKind.i64.wrap (y + s.1 - 10) = y + s.1 - 10 := by rw [IntKind.wrap_i64]; omega
       go_simp
       exact hK s wz (fun _ _ => rfl) hR
      refine StepAll.cons (fun D s wz hR (hDi : D 6 = false) hd hsh a' hs K hK => ?_) ?_
      ·have e5 := hs.old 5 (u := .pointer (some ⟨g5, 0, none⟩)) (by kernel_rfl) rfl
       clear hs
       go_simp
       exact hK s wz (fun _ _ => rfl) hR
      refine StepAll.cons (fun D s wz hR (hDi : D 7 = false) hd hsh a' hs K hK => ?_) ?_
      ·have e68 := hs.g 6 68 (.pointer (some ⟨g5, 1, none⟩)) (hd ⟨6, .data⟩ (by simp) rfl)
       have e67 := hs.g 5 67 (.int .i64 (y + s.1 - 10)) (hd ⟨5, .data⟩ (by simp) rfl)
       clear hs
       have kb : Blk wz g5 64 #[.int .i64 0, .int .i64 y] := hR.blk 4 (by simp only [hDi] <;> rfl)
       have f0 := kb.frozen
       have c1 : wz.cell? ⟨g5, 1, none⟩ = some (.int .i64 y) := kb.cell 1
       go_simp
       exact hK s _ (fun _ _ => rfl) ((hR.set 4 (cs := #[.int .i64 0, .int .i64 y]) (by simp only [hDi]; rfl) 1 _).congr
         (fun i => by
          match i with
          | 0 => rfl
          | 1 => rfl
          | 2 => rfl
          | 3 => rfl
          | 4 => rfl
          | 5 => rfl
          | q + 6 => exact (if_neg (show ¬ (q + 6 = 4) by omega)).symm))
      exact StepAll.nil
     ·intro D s wz hR hD
      simp only [putA, Act.put, List.setIfInBounds_toArray, List.set_cons_zero, List.set_cons_succ]
      obtain ⟨x, hx0, hx1⟩ := s
      have HSP : Hid (St w wz [rRd w g (hi + 5), X, rBlk r 28 #[.int .i64 os, .slice G gn gc, .slice G' n' c', .slice D' dn dc, .int .i64 st], rBlk (r + 1) 64 #[.int .i64 0, .int .i64 0], rBlk g5 64 #[.int .i64 0, .int .i64 (y + x - 10)]]) := Lib.hid (hR.to_st [0, 1, 2, 3, 4] (by decide) (by simp only [List.map, hD 3 (by decide), hD 7 (by decide)] <;> rfl))
      clear hR hD HSO
      have qa : ∀ j, wz.cell? ⟨g5, j, none⟩ = _ := HSP.out.cells 4 rfl
      have qb : ∀ j, wz.cell? ⟨r + 1, j, none⟩ = _ := HSP.out.cells 3 rfl
      have fb := HSP.out.free 3 rfl
      go_wp2
      refine bodyPost_ret (v := .agg #[.int .i64 0, .int .i64 (y + x - 10)]) (by simp [results, Tryz.results102, go_sem, qb]) rfl ⟨0, y + x - 10, rfl, hkv, by omega, ?_⟩
      exact ((HSP.out.set2 3 rfl (.int .i64 0) (.int .i64 (y + x - 10))).pick [0, 1] (by decide) rfl rfl).more (by omega)
   ·have hmli : (0 : Int) < (ml : Int) := by omega
    go_wp2_with fail
    refine (pick_rd HS3.out (by omega) 8).mono ?_
    rintro e w_z ⟨z, rfl, ⟨z1, z2, -⟩, s_z⟩
    have z3 := z2 (by omega)
    have HS4 : Hid (St w w_z [rRd w g (hi + 3), X, rBlk r 28 #[.int .i64 os, .slice G gn gc, .slice G' n' c', .slice D' dn dc, .int .i64 st], rBlk (r + 1) 64 #[.int .i64 0, .int .i64 0], rBlk g5 64 #[.int .i64 0, .int .i64 0], rInts (.slice A6 ml c6) may]) := Lib.hid s_z
    clear s_z z2 HS3
    have q5 : ∀ j, w_z.cell? ⟨g5, j, none⟩ = _ := HS4.out.cells 4 rfl
    have f5 := HS4.out.free 4 rfl
    by_cases hz0 : z = 0
    ·subst hz0
     go_wp2_with fail
     refine (pick_rd HS4.out (by omega) 7).mono ?_
     rintro e w_y ⟨y, rfl, ⟨y1, y2, -⟩, s_y⟩
     have y3 := y2 (by omega)
     have HS5 : Hid (St w w_y [rRd w g (hi + 4), X, rBlk r 28 #[.int .i64 os, .slice G gn gc, .slice G' n' c', .slice D' dn dc, .int .i64 st], rBlk (r + 1) 64 #[.int .i64 0, .int .i64 0], rBlk g5 64 #[.int .i64 0, .int .i64 0], rInts (.slice A6 ml c6) may]) := Lib.hid s_y
     clear s_y y2 HS4
     have q5 : ∀ j, w_y.cell? ⟨g5, j, none⟩ = _ := HS5.out.cells 4 rfl
     have f5 := HS5.out.free 4 rfl
     have HS6 : Hid (St w (w_y.setCell ⟨g5, 1, none⟩ (.int .i64 y)) [rRd w g (hi + 4), X, rBlk r 28 #[.int .i64 os, .slice G gn gc, .slice G' n' c', .slice D' dn dc, .int .i64 st], rBlk (r + 1) 64 #[.int .i64 0, .int .i64 0], rBlk g5 64 #[.int .i64 0, .int .i64 y], rInts (.slice A6 ml c6) may]) := Lib.hid (HS5.out.set 4 rfl 1 _)
     clear HS5
     go_wp2_with fail
     refine (odd_rd HS6.out (by omega) 40).mono ?_
     rintro e wo ⟨bo, rfl, so⟩
     have HSO : Hid (St w wo [rRd w g (hi + 5), X, rBlk r 28 #[.int .i64 os, .slice G gn gc, .slice G' n' c', .slice D' dn dc, .int .i64 st], rBlk (r + 1) 64 #[.int .i64 0, .int .i64 0], rBlk g5 64 #[.int .i64 0, .int .i64 y], rInts (.slice A6 ml c6) may]) := Lib.hid so
     clear so HS6
     cases bo with
     | false =>
      have qa : ∀ j, wo.cell? ⟨g5, j, none⟩ = _ := HSO.out.cells 4 rfl
      have qb : ∀ j, wo.cell? ⟨r + 1, j, none⟩ = _ := HSO.out.cells 3 rfl
      have fb := HSO.out.free 3 rfl
      go_wp2
      refine bodyPost_ret (v := .agg #[.int .i64 0, .int .i64 y]) (by simp [results, Tryz.results102, go_sem, qb]) rfl ⟨0, y, rfl, hkv, by omega, ?_⟩
      exact ((HSO.out.set2 3 rfl (.int .i64 0) (.int .i64 y)).pick [0, 1] (by decide) rfl rfl).more (by omega)
     | true =>
      go_upto_region 10 with (fail)
      refine wp_reg (σ := {x : Int // 0 ≤ x ∧ x < 120}) (by kernel_rfl) (by kernel_rfl) (by kernel_rfl)
       (fun s i => match i with
        | 0 => .pointer (some ⟨g5, 1, none⟩)
        | 1 => .int .i64 y
        | 2 => .pointer (some ⟨g, 0, none⟩)
        | 3 => .int .i64 s.1
        | 4 => .int .i64 (y + s.1)
        | 5 => .int .i64 (y + s.1 - 10)
        | 6 => .pointer (some ⟨g5, 1, none⟩)
        | _ => undef)
       (fun D s wz => Sn w wz fun i => match i with
        | 0 => some (rRd w g (hi + 5 + (D 3).toNat))
        | 1 => some (X)
        | 2 => some (rBlk r 28 #[.int .i64 os, .slice G gn gc, .slice G' n' c', .slice D' dn dc, .int .i64 st])
        | 3 => some (rBlk (r + 1) 64 #[.int .i64 0, .int .i64 0])
        | 4 => some (rBlk g5 64 (if D 7 = true then #[.int .i64 0, .int .i64 (y + s.1 - 10)] else #[.int .i64 0, .int .i64 y]))
        | 5 => some (rInts (.slice A6 ml c6) may)
        | _ => none)
       ⟨0, by omega, by omega⟩ ?_ ?_ ?_
      ·intro D hD
       refine ((Sn.of_st HSO.out).quiet ((Below.refl _ _).drew)).congr fun i => ?_
       match i with
       | 0 => simp only [hD 3 (by decide)]; rfl
       | 1 => rfl
       | 2 => rfl
       | 3 => rfl
       | 4 => simp only [hD 7 (by decide)]; rfl
       | 5 => rfl
       | q + 6 => rfl
      ·refine StepAll.cons (fun D s wz hR (hDi : D 0 = false) hd hsh a' hs K hK => ?_) ?_
       ·have e5 := hs.old 5 (u := .pointer (some ⟨g5, 0, none⟩)) (by kernel_rfl) rfl
        clear hs
        go_simp
        exact hK s wz (fun _ _ => rfl) hR
       refine StepAll.cons (fun D s wz hR (hDi : D 1 = false) hd hsh a' hs K hK => ?_) ?_
       ·have e62 := hs.g 0 62 (.pointer (some ⟨g5, 1, none⟩)) (hd ⟨0, .data⟩ (by simp) rfl)
        clear hs
        have n4 : D 4 = false := hsh.no hDi 4 rfl ⟨1, .data⟩ (by simp) rfl rfl
        have n5 : D 5 = false := hsh.no n4 5 rfl ⟨4, .data⟩ (by simp) rfl rfl
        have n7 : D 7 = false := hsh.no n5 7 rfl ⟨5, .data⟩ (by simp) rfl rfl
        have kb : Blk wz g5 64 #[.int .i64 0, .int .i64 y] := hR.blk 4 (by simp only [n7] <;> rfl)
        have c1 : wz.cell? ⟨g5, 1, none⟩ = some (.int .i64 y) := kb.cell 1
        go_simp
        exact hK s wz (fun _ _ => rfl) hR
       refine StepAll.cons (fun D s wz hR (hDi : D 2 = false) hd hsh a' hs K hK => ?_) ?_
       ·have e0 := hs.old 0 (u := .pointer (some ⟨g, 0, none⟩)) (by kernel_rfl) rfl
        clear hs
        go_simp
        exact hK s wz (fun _ _ => rfl) hR
       refine StepAll.cons (fun D s wz hR (hDi : D 3 = false) hd hsh a' hs K hK => ?_) ?_
       ·have e64 := hs.g 2 64 (.pointer (some ⟨g, 0, none⟩)) (hd ⟨2, .data⟩ (by simp) rfl)
        have g64 := getQ e64
        clear hs
        have n4 : D 4 = false := hsh.no hDi 4 rfl ⟨3, .data⟩ (by simp) rfl rfl
        have n5 : D 5 = false := hsh.no n4 5 rfl ⟨4, .data⟩ (by simp) rfl rfl
        have n7 : D 7 = false := hsh.no n5 7 rfl ⟨5, .data⟩ (by simp) rfl rfl
        go_simp
        refine (hR.pick 0 rfl (by have := tonat1 (D 3); omega) 120).mono ?_
        rintro e2 w2 ⟨x2, rfl, ⟨b1, b2, -⟩, s2⟩
        have b3 := b2 (by omega)
        refine hK ⟨x2, b1, b3⟩ w2
         (fun j hj => by
          match j, hj with
          | 0, hj => rfl
          | 1, hj => rfl
          | 2, hj => rfl
          | 3, hj => rw [hDi] at hj; cases hj
          | 4, hj => rw [n4] at hj; cases hj
          | 5, hj => rw [n5] at hj; cases hj
          | 6, hj => rfl
          | 7, hj => rw [n7] at hj; cases hj
          | _ + 8, hj => rfl)
         (s2.congr
          (fun i => by
           match i with
           | 0 => (show some (rRd w g (hi + 5 + true.toNat)) = some (rRd w g (hi + 5 + (D 3).toNat + 1)); rw [hDi]; rfl)
           | 1 => rfl
           | 2 => rfl
           | 3 => rfl
           | 4 => (show some (rBlk _ _ (if D 7 = true then _ else _)) = some (rBlk _ _ (if D 7 = true then _ else _)); rw [n7] <;> rfl)
           | 5 => rfl
           | q + 6 => exact (if_neg (show ¬ (q + 6 = 0) by omega)).symm))
       refine StepAll.cons (fun D s wz hR (hDi : D 4 = false) hd hsh a' hs K hK => ?_) ?_
       ·have e63 := hs.g 1 63 (.int .i64 y) (hd ⟨1, .data⟩ (by simp) rfl)
        have e65 := hs.g 3 65 (.int .i64 s.1) (hd ⟨3, .data⟩ (by simp) rfl)
        clear hs
        have hs1 := s.2.1
        have hs2 := s.2.2
        have hw : IntKind.i64.wrap (y + s.1) = y + s.1 := by rw [IntKind.wrap_i64]; omega
        go_simp
        exact hK s wz (fun _ _ => rfl) hR
       refine StepAll.cons (fun D s wz hR (hDi : D 5 = false) hd hsh a' hs K hK => ?_) ?_
       ·have e66 := hs.g 4 66 (.int .i64 (y + s.1)) (hd ⟨4, .data⟩ (by simp) rfl)
        clear hs
        have hs1 := s.2.1
        have hs2 := s.2.2
        have hw : IntKind.i64.wrap (y + s.1 - 10) = y + s.1 - 10 := by rw [IntKind.wrap_i64]; omega
        go_simp
        exact hK s wz (fun _ _ => rfl) hR
       refine StepAll.cons (fun D s wz hR (hDi : D 6 = false) hd hsh a' hs K hK => ?_) ?_
       ·have e5 := hs.old 5 (u := .pointer (some ⟨g5, 0, none⟩)) (by kernel_rfl) rfl
        clear hs
        go_simp
        exact hK s wz (fun _ _ => rfl) hR
       refine StepAll.cons (fun D s wz hR (hDi : D 7 = false) hd hsh a' hs K hK => ?_) ?_
       ·have e68 := hs.g 6 68 (.pointer (some ⟨g5, 1, none⟩)) (hd ⟨6, .data⟩ (by simp) rfl)
        have e67 := hs.g 5 67 (.int .i64 (y + s.1 - 10)) (hd ⟨5, .data⟩ (by simp) rfl)
        clear hs
        have kb : Blk wz g5 64 #[.int .i64 0, .int .i64 y] := hR.blk 4 (by simp only [hDi] <;> rfl)
        have f0 := kb.frozen
        have c1 : wz.cell? ⟨g5, 1, none⟩ = some (.int .i64 y) := kb.cell 1
        go_simp
        exact hK s _ (fun _ _ => rfl) ((hR.set 4 (cs := #[.int .i64 0, .int .i64 y]) (by simp only [hDi]; rfl) 1 _).congr
          (fun i => by
           match i with
           | 0 => rfl
           | 1 => rfl
           | 2 => rfl
           | 3 => rfl
           | 4 => rfl
           | 5 => rfl
           | q + 6 => exact (if_neg (show ¬ (q + 6 = 4) by omega)).symm))
       exact StepAll.nil
      ·intro D s wz hR hD
       simp only [putA, Act.put, List.setIfInBounds_toArray, List.set_cons_zero, List.set_cons_succ]
       obtain ⟨x, hx0, hx1⟩ := s
       have HSP : Hid (St w wz [rRd w g (hi + 6), X, rBlk r 28 #[.int .i64 os, .slice G gn gc, .slice G' n' c', .slice D' dn dc, .int .i64 st], rBlk (r + 1) 64 #[.int .i64 0, .int .i64 0], rBlk g5 64 #[.int .i64 0, .int .i64 (y + x - 10)]]) := Lib.hid (hR.to_st [0, 1, 2, 3, 4] (by decide) (by simp only [List.map, hD 3 (by decide), hD 7 (by decide)] <;> rfl))
       clear hR hD HSO
       have qa : ∀ j, wz.cell? ⟨g5, j, none⟩ = _ := HSP.out.cells 4 rfl
       have qb : ∀ j, wz.cell? ⟨r + 1, j, none⟩ = _ := HSP.out.cells 3 rfl
       have fb := HSP.out.free 3 rfl
       go_wp2
       refine bodyPost_ret (v := .agg #[.int .i64 0, .int .i64 (y + x - 10)]) (by simp [results, Tryz.results102, go_sem, qb]) rfl ⟨0, y + x - 10, rfl, hkv, by omega, ?_⟩
       exact ((HSP.out.set2 3 rfl (.int .i64 0) (.int .i64 (y + x - 10))).pick [0, 1] (by decide) rfl rfl).more (by omega)
    ·have hzi : (0 : Int) < z := by omega
     go_wp2_with fail
     refine (pick_rd HS4.out (by omega) (ml : Int)).mono ?_
     rintro e w_y ⟨y, rfl, ⟨y1, y2, -⟩, s_y⟩
     have y3 := y2 (by omega)
     have HS5 : Hid (St w w_y [rRd w g (hi + 4), X, rBlk r 28 #[.int .i64 os, .slice G gn gc, .slice G' n' c', .slice D' dn dc, .int .i64 st], rBlk (r + 1) 64 #[.int .i64 0, .int .i64 0], rBlk g5 64 #[.int .i64 0, .int .i64 0], rInts (.slice A6 ml c6) may]) := Lib.hid s_y
     clear s_y y2 HS4
     obtain ⟨yn, rfl⟩ := Int.eq_ofNat_of_zero_le y1
     have hyn : yn < ml := by omega
     have hxy : may[yn]? = some (may[yn]'(by rw [HML.out]; exact hyn)) := List.getElem?_eq_getElem _
     obtain ⟨d, hd⟩ : ∃ d, may[yn]'(by rw [HML.out]; exact hyn) = d := ⟨_, rfl⟩
     rw [hd] at hxy
     have hdb : 0 ≤ d ∧ d < 6 := deedsMay_bd (t := b.order) (s := st) (by rw [HMAY.out]; exact List.mem_of_getElem? hxy)
     obtain ⟨bb, off, nu, hA6, hbb, hx2, -, hcx⟩ := (HS5.out.rdI' 5 rfl).get (show yn < ml from hyn)
     subst hA6
     obtain rfl : nu = d := by have := hx2.symm.trans hxy; injection this
     clear hd hxy hx2
     have q5 : ∀ j, w_y.cell? ⟨g5, j, none⟩ = _ := HS5.out.cells 4 rfl
     have f5 := HS5.out.free 4 rfl
     have HS6 : Hid (St w (w_y.setCell ⟨g5, 1, none⟩ (.int .i64 nu)) [rRd w g (hi + 4), X, rBlk r 28 #[.int .i64 os, .slice G gn gc, .slice G' n' c', .slice D' dn dc, .int .i64 st], rBlk (r + 1) 64 #[.int .i64 0, .int .i64 0], rBlk g5 64 #[.int .i64 0, .int .i64 nu], rInts (.slice (some ⟨bb, off, none⟩) ml c6) may]) := Lib.hid (HS5.out.set 4 rfl 1 _)
     clear HS5
     go_wp2_with fail
     refine (odd_rd HS6.out (by omega) 40).mono ?_
     rintro e wo ⟨bo, rfl, so⟩
     have HSO : Hid (St w wo [rRd w g (hi + 5), X, rBlk r 28 #[.int .i64 os, .slice G gn gc, .slice G' n' c', .slice D' dn dc, .int .i64 st], rBlk (r + 1) 64 #[.int .i64 0, .int .i64 0], rBlk g5 64 #[.int .i64 0, .int .i64 nu], rInts (.slice (some ⟨bb, off, none⟩) ml c6) may]) := Lib.hid so
     clear so HS6
     cases bo with
     | false =>
      have qa : ∀ j, wo.cell? ⟨g5, j, none⟩ = _ := HSO.out.cells 4 rfl
      have qb : ∀ j, wo.cell? ⟨r + 1, j, none⟩ = _ := HSO.out.cells 3 rfl
      have fb := HSO.out.free 3 rfl
      go_wp2
      refine bodyPost_ret (v := .agg #[.int .i64 0, .int .i64 nu]) (by simp [results, Tryz.results102, go_sem, qb]) rfl ⟨0, nu, rfl, hkv, by omega, ?_⟩
      exact ((HSO.out.set2 3 rfl (.int .i64 0) (.int .i64 nu)).pick [0, 1] (by decide) rfl rfl).more (by omega)
     | true =>
      go_upto_region 10 with (fail)
      refine wp_reg (σ := {x : Int // 0 ≤ x ∧ x < 120}) (by kernel_rfl) (by kernel_rfl) (by kernel_rfl)
       (fun s i => match i with
        | 0 => .pointer (some ⟨g5, 1, none⟩)
        | 1 => .int .i64 nu
        | 2 => .pointer (some ⟨g, 0, none⟩)
        | 3 => .int .i64 s.1
        | 4 => .int .i64 (nu + s.1)
        | 5 => .int .i64 (nu + s.1 - 10)
        | 6 => .pointer (some ⟨g5, 1, none⟩)
        | _ => undef)
       (fun D s wz => Sn w wz fun i => match i with
        | 0 => some (rRd w g (hi + 5 + (D 3).toNat))
        | 1 => some (X)
        | 2 => some (rBlk r 28 #[.int .i64 os, .slice G gn gc, .slice G' n' c', .slice D' dn dc, .int .i64 st])
        | 3 => some (rBlk (r + 1) 64 #[.int .i64 0, .int .i64 0])
        | 4 => some (rBlk g5 64 (if D 7 = true then #[.int .i64 0, .int .i64 (nu + s.1 - 10)] else #[.int .i64 0, .int .i64 nu]))
        | 5 => some (rInts (.slice (some ⟨bb, off, none⟩) ml c6) may)
        | _ => none)
       ⟨0, by omega, by omega⟩ ?_ ?_ ?_
      ·intro D hD
       refine ((Sn.of_st HSO.out).quiet ((Below.refl _ _).drew)).congr fun i => ?_
       match i with
       | 0 => simp only [hD 3 (by decide)]; rfl
       | 1 => rfl
       | 2 => rfl
       | 3 => rfl
       | 4 => simp only [hD 7 (by decide)]; rfl
       | 5 => rfl
       | q + 6 => rfl
      ·refine StepAll.cons (fun D s wz hR (hDi : D 0 = false) hd hsh a' hs K hK => ?_) ?_
       ·have e5 := hs.old 5 (u := .pointer (some ⟨g5, 0, none⟩)) (by kernel_rfl) rfl
        clear hs
        go_simp
        exact hK s wz (fun _ _ => rfl) hR
       refine StepAll.cons (fun D s wz hR (hDi : D 1 = false) hd hsh a' hs K hK => ?_) ?_
       ·have e62 := hs.g 0 62 (.pointer (some ⟨g5, 1, none⟩)) (hd ⟨0, .data⟩ (by simp) rfl)
        clear hs
        have n4 : D 4 = false := hsh.no hDi 4 rfl ⟨1, .data⟩ (by simp) rfl rfl
        have n5 : D 5 = false := hsh.no n4 5 rfl ⟨4, .data⟩ (by simp) rfl rfl
        have n7 : D 7 = false := hsh.no n5 7 rfl ⟨5, .data⟩ (by simp) rfl rfl
        have kb : Blk wz g5 64 #[.int .i64 0, .int .i64 nu] := hR.blk 4 (by simp only [n7] <;> rfl)
        have c1 : wz.cell? ⟨g5, 1, none⟩ = some (.int .i64 nu) := kb.cell 1
        go_simp
        exact hK s wz (fun _ _ => rfl) hR
       refine StepAll.cons (fun D s wz hR (hDi : D 2 = false) hd hsh a' hs K hK => ?_) ?_
       ·have e0 := hs.old 0 (u := .pointer (some ⟨g, 0, none⟩)) (by kernel_rfl) rfl
        clear hs
        go_simp
        exact hK s wz (fun _ _ => rfl) hR
       refine StepAll.cons (fun D s wz hR (hDi : D 3 = false) hd hsh a' hs K hK => ?_) ?_
       ·have e64 := hs.g 2 64 (.pointer (some ⟨g, 0, none⟩)) (hd ⟨2, .data⟩ (by simp) rfl)
        have g64 := getQ e64
        clear hs
        have n4 : D 4 = false := hsh.no hDi 4 rfl ⟨3, .data⟩ (by simp) rfl rfl
        have n5 : D 5 = false := hsh.no n4 5 rfl ⟨4, .data⟩ (by simp) rfl rfl
        have n7 : D 7 = false := hsh.no n5 7 rfl ⟨5, .data⟩ (by simp) rfl rfl
        go_simp
        refine (hR.pick 0 rfl (by have := tonat1 (D 3); omega) 120).mono ?_
        rintro e2 w2 ⟨x2, rfl, ⟨b1, b2, -⟩, s2⟩
        have b3 := b2 (by omega)
        refine hK ⟨x2, b1, b3⟩ w2
         (fun j hj => by
          match j, hj with
          | 0, hj => rfl
          | 1, hj => rfl
          | 2, hj => rfl
          | 3, hj => rw [hDi] at hj; cases hj
          | 4, hj => rw [n4] at hj; cases hj
          | 5, hj => rw [n5] at hj; cases hj
          | 6, hj => rfl
          | 7, hj => rw [n7] at hj; cases hj
          | _ + 8, hj => rfl)
         (s2.congr
          (fun i => by
           match i with
           | 0 => (show some (rRd w g (hi + 5 + true.toNat)) = some (rRd w g (hi + 5 + (D 3).toNat + 1)); rw [hDi]; rfl)
           | 1 => rfl
           | 2 => rfl
           | 3 => rfl
           | 4 => (show some (rBlk _ _ (if D 7 = true then _ else _)) = some (rBlk _ _ (if D 7 = true then _ else _)); rw [n7] <;> rfl)
           | 5 => rfl
           | q + 6 => exact (if_neg (show ¬ (q + 6 = 0) by omega)).symm))
       refine StepAll.cons (fun D s wz hR (hDi : D 4 = false) hd hsh a' hs K hK => ?_) ?_
       ·have e63 := hs.g 1 63 (.int .i64 nu) (hd ⟨1, .data⟩ (by simp) rfl)
        have e65 := hs.g 3 65 (.int .i64 s.1) (hd ⟨3, .data⟩ (by simp) rfl)
        clear hs
        have hs1 := s.2.1
        have hs2 := s.2.2
        have hw : IntKind.i64.wrap (nu + s.1) = nu + s.1 := by rw [IntKind.wrap_i64]; omega
        go_simp
        exact hK s wz (fun _ _ => rfl) hR
       refine StepAll.cons (fun D s wz hR (hDi : D 5 = false) hd hsh a' hs K hK => ?_) ?_
       ·have e66 := hs.g 4 66 (.int .i64 (nu + s.1)) (hd ⟨4, .data⟩ (by simp) rfl)
        clear hs
        have hs1 := s.2.1
        have hs2 := s.2.2
        have hw : IntKind.i64.wrap (nu + s.1 - 10) = nu + s.1 - 10 := by rw [IntKind.wrap_i64]; omega
        go_simp
        exact hK s wz (fun _ _ => rfl) hR
       refine StepAll.cons (fun D s wz hR (hDi : D 6 = false) hd hsh a' hs K hK => ?_) ?_
       ·have e5 := hs.old 5 (u := .pointer (some ⟨g5, 0, none⟩)) (by kernel_rfl) rfl
        clear hs
        go_simp
        exact hK s wz (fun _ _ => rfl) hR
       refine StepAll.cons (fun D s wz hR (hDi : D 7 = false) hd hsh a' hs K hK => ?_) ?_
       ·have e68 := hs.g 6 68 (.pointer (some ⟨g5, 1, none⟩)) (hd ⟨6, .data⟩ (by simp) rfl)
        have e67 := hs.g 5 67 (.int .i64 (nu + s.1 - 10)) (hd ⟨5, .data⟩ (by simp) rfl)
        clear hs
        have kb : Blk wz g5 64 #[.int .i64 0, .int .i64 nu] := hR.blk 4 (by simp only [hDi] <;> rfl)
        have f0 := kb.frozen
        have c1 : wz.cell? ⟨g5, 1, none⟩ = some (.int .i64 nu) := kb.cell 1
        go_simp
        exact hK s _ (fun _ _ => rfl) ((hR.set 4 (cs := #[.int .i64 0, .int .i64 nu]) (by simp only [hDi]; rfl) 1 _).congr
          (fun i => by
           match i with
           | 0 => rfl
           | 1 => rfl
           | 2 => rfl
           | 3 => rfl
           | 4 => rfl
           | 5 => rfl
           | q + 6 => exact (if_neg (show ¬ (q + 6 = 4) by omega)).symm))
       exact StepAll.nil
      ·intro D s wz hR hD
       simp only [putA, Act.put, List.setIfInBounds_toArray, List.set_cons_zero, List.set_cons_succ]
       obtain ⟨x, hx0, hx1⟩ := s
       have HSP : Hid (St w wz [rRd w g (hi + 6), X, rBlk r 28 #[.int .i64 os, .slice G gn gc, .slice G' n' c', .slice D' dn dc, .int .i64 st], rBlk (r + 1) 64 #[.int .i64 0, .int .i64 0], rBlk g5 64 #[.int .i64 0, .int .i64 (nu + x - 10)]]) := Lib.hid (hR.to_st [0, 1, 2, 3, 4] (by decide) (by simp only [List.map, hD 3 (by decide), hD 7 (by decide)] <;> rfl))
       clear hR hD HSO
       have qa : ∀ j, wz.cell? ⟨g5, j, none⟩ = _ := HSP.out.cells 4 rfl
       have qb : ∀ j, wz.cell? ⟨r + 1, j, none⟩ = _ := HSP.out.cells 3 rfl
       have fb := HSP.out.free 3 rfl
       go_wp2
       refine bodyPost_ret (v := .agg #[.int .i64 0, .int .i64 (nu + x - 10)]) (by simp [results, Tryz.results102, go_sem, qb]) rfl ⟨0, nu + x - 10, rfl, hkv, by omega, ?_⟩
       exact ((HSP.out.set2 3 rfl (.int .i64 0) (.int .i64 (nu + x - 10))).pick [0, 1] (by decide) rfl rfl).more (by omega)
  ·have hk0' : (kv == 0) = false := by simpa using hk0
   by_cases hk1 : kv = 1
   ·subst hk1
    go_wp2_with fail
    refine (pick_rd HS3.out (by omega) 3).mono ?_
    rintro e w_y ⟨y, rfl, ⟨y1, y2, -⟩, s_y⟩
    have y3 := y2 (by omega)
    have HS5 : Hid (St w w_y [rRd w g (hi + 3), X, rBlk r 28 #[.int .i64 os, .slice G gn gc, .slice G' n' c', .slice D' dn dc, .int .i64 st], rBlk (r + 1) 64 #[.int .i64 0, .int .i64 0], rBlk g5 64 #[.int .i64 1, .int .i64 0], rInts (.slice A6 ml c6) may]) := Lib.hid s_y
    clear s_y y2 HS3
    have q5 : ∀ j, w_y.cell? ⟨g5, j, none⟩ = _ := HS5.out.cells 4 rfl
    have f5 := HS5.out.free 4 rfl
    have hyw : IntKind.i64.wrap (1 + y) = 1 + y := by rw [IntKind.wrap_i64]; omega
    have HS6 : Hid (St w (w_y.setCell ⟨g5, 1, none⟩ (.int .i64 (1 + y))) [rRd w g (hi + 3), X, rBlk r 28 #[.int .i64 os, .slice G gn gc, .slice G' n' c', .slice D' dn dc, .int .i64 st], rBlk (r + 1) 64 #[.int .i64 0, .int .i64 0], rBlk g5 64 #[.int .i64 1, .int .i64 (1 + y)], rInts (.slice A6 ml c6) may]) := Lib.hid (HS5.out.set 4 rfl 1 _)
    clear HS5
    go_wp2_with fail
    refine (odd_rd HS6.out (by omega) 40).mono ?_
    rintro e wo ⟨bo, rfl, so⟩
    have HSO : Hid (St w wo [rRd w g (hi + 4), X, rBlk r 28 #[.int .i64 os, .slice G gn gc, .slice G' n' c', .slice D' dn dc, .int .i64 st], rBlk (r + 1) 64 #[.int .i64 0, .int .i64 0], rBlk g5 64 #[.int .i64 1, .int .i64 (1 + y)], rInts (.slice A6 ml c6) may]) := Lib.hid so
    clear so HS6
    cases bo with
    | false =>
     have qa : ∀ j, wo.cell? ⟨g5, j, none⟩ = _ := HSO.out.cells 4 rfl
     have qb : ∀ j, wo.cell? ⟨r + 1, j, none⟩ = _ := HSO.out.cells 3 rfl
     have fb := HSO.out.free 3 rfl
     go_wp2
     refine bodyPost_ret (v := .agg #[.int .i64 1, .int .i64 (1 + y)]) (by simp [results, Tryz.results102, go_sem, qb]) rfl ⟨1, (1 + y), rfl, hkv, by omega, ?_⟩
     exact ((HSO.out.set2 3 rfl (.int .i64 1) (.int .i64 (1 + y))).pick [0, 1] (by decide) rfl rfl).more (by omega)
    | true =>
     go_upto_region 10 with (fail)
     refine wp_reg (σ := {x : Int // 0 ≤ x ∧ x < 120}) (by kernel_rfl) (by kernel_rfl) (by kernel_rfl)
      (fun s i => match i with
       | 0 => .pointer (some ⟨g5, 1, none⟩)
       | 1 => .int .i64 (1 + y)
       | 2 => .pointer (some ⟨g, 0, none⟩)
       | 3 => .int .i64 s.1
       | 4 => .int .i64 ((1 + y) + s.1)
       | 5 => .int .i64 ((1 + y) + s.1 - 10)
       | 6 => .pointer (some ⟨g5, 1, none⟩)
       | _ => undef)
      (fun D s wz => Sn w wz fun i => match i with
       | 0 => some (rRd w g (hi + 4 + (D 3).toNat))
       | 1 => some (X)
       | 2 => some (rBlk r 28 #[.int .i64 os, .slice G gn gc, .slice G' n' c', .slice D' dn dc, .int .i64 st])
       | 3 => some (rBlk (r + 1) 64 #[.int .i64 0, .int .i64 0])
       | 4 => some (rBlk g5 64 (if D 7 = true then #[.int .i64 1, .int .i64 ((1 + y) + s.1 - 10)] else #[.int .i64 1, .int .i64 (1 + y)]))
       | 5 => some (rInts (.slice A6 ml c6) may)
       | _ => none)
      ⟨0, by omega, by omega⟩ ?_ ?_ ?_
     ·intro D hD
      refine ((Sn.of_st HSO.out).quiet ((Below.refl _ _).drew)).congr fun i => ?_
      match i with
      | 0 => simp only [hD 3 (by decide)]; rfl
      | 1 => rfl
      | 2 => rfl
      | 3 => rfl
      | 4 => simp only [hD 7 (by decide)]; rfl
      | 5 => rfl
      | q + 6 => rfl
     ·refine StepAll.cons (fun D s wz hR (hDi : D 0 = false) hd hsh a' hs K hK => ?_) ?_
      ·have e5 := hs.old 5 (u := .pointer (some ⟨g5, 0, none⟩)) (by kernel_rfl) rfl
       clear hs
       go_simp
       exact hK s wz (fun _ _ => rfl) hR
      refine StepAll.cons (fun D s wz hR (hDi : D 1 = false) hd hsh a' hs K hK => ?_) ?_
      ·have e62 := hs.g 0 62 (.pointer (some ⟨g5, 1, none⟩)) (hd ⟨0, .data⟩ (by simp) rfl)
       clear hs
       have n4 : D 4 = false := hsh.no hDi 4 rfl ⟨1, .data⟩ (by simp) rfl rfl
       have n5 : D 5 = false := hsh.no n4 5 rfl ⟨4, .data⟩ (by simp) rfl rfl
       have n7 : D 7 = false := hsh.no n5 7 rfl ⟨5, .data⟩ (by simp) rfl rfl
       have kb : Blk wz g5 64 #[.int .i64 1, .int .i64 (1 + y)] := hR.blk 4 (by simp only [n7] <;> rfl)
       have c1 : wz.cell? ⟨g5, 1, none⟩ = some (.int .i64 (1 + y)) := kb.cell 1
       go_simp
       exact hK s wz (fun _ _ => rfl) hR
      refine StepAll.cons (fun D s wz hR (hDi : D 2 = false) hd hsh a' hs K hK => ?_) ?_
      ·have e0 := hs.old 0 (u := .pointer (some ⟨g, 0, none⟩)) (by kernel_rfl) rfl
       clear hs
       go_simp
       exact hK s wz (fun _ _ => rfl) hR
      refine StepAll.cons (fun D s wz hR (hDi : D 3 = false) hd hsh a' hs K hK => ?_) ?_
      ·have e64 := hs.g 2 64 (.pointer (some ⟨g, 0, none⟩)) (hd ⟨2, .data⟩ (by simp) rfl)
       have g64 := getQ e64
       clear hs
       have n4 : D 4 = false := hsh.no hDi 4 rfl ⟨3, .data⟩ (by simp) rfl rfl
       have n5 : D 5 = false := hsh.no n4 5 rfl ⟨4, .data⟩ (by simp) rfl rfl
       have n7 : D 7 = false := hsh.no n5 7 rfl ⟨5, .data⟩ (by simp) rfl rfl
       go_simp
       refine (hR.pick 0 rfl (by have := tonat1 (D 3); omega) 120).mono ?_
       rintro e2 w2 ⟨x2, rfl, ⟨b1, b2, -⟩, s2⟩
       have b3 := b2 (by omega)
       refine hK ⟨x2, b1, b3⟩ w2
        (fun j hj => by
         match j, hj with
         | 0, hj => rfl
         | 1, hj => rfl
         | 2, hj => rfl
         | 3, hj => rw [hDi] at hj; cases hj
         | 4, hj => rw [n4] at hj; cases hj
         | 5, hj => rw [n5] at hj; cases hj
         | 6, hj => rfl
         | 7, hj => rw [n7] at hj; cases hj
         | _ + 8, hj => rfl)
        (s2.congr
         (fun i => by
          match i with
          | 0 => (show some (rRd w g (hi + 4 + true.toNat)) = some (rRd w g (hi + 4 + (D 3).toNat + 1)); rw [hDi]; rfl)
          | 1 => rfl
          | 2 => rfl
          | 3 => rfl
          | 4 => (show some (rBlk _ _ (if D 7 = true then _ else _)) = some (rBlk _ _ (if D 7 = true then _ else _)); rw [n7] <;> rfl)
          | 5 => rfl
          | q + 6 => exact (if_neg (show ¬ (q + 6 = 0) by omega)).symm))
      refine StepAll.cons (fun D s wz hR (hDi : D 4 = false) hd hsh a' hs K hK => ?_) ?_
      ·have e63 := hs.g 1 63 (.int .i64 (1 + y)) (hd ⟨1, .data⟩ (by simp) rfl)
       have e65 := hs.g 3 65 (.int .i64 s.1) (hd ⟨3, .data⟩ (by simp) rfl)
       clear hs
       have hs1 := s.2.1
       have hs2 := s.2.2
       have hw : IntKind.i64.wrap ((1 + y) + s.1) = (1 + y) + s.1 := by rw [IntKind.wrap_i64]; omega
       go_simp
       exact hK s wz (fun _ _ => rfl) hR
      refine StepAll.cons (fun D s wz hR (hDi : D 5 = false) hd hsh a' hs K hK => ?_) ?_
      ·have e66 := hs.g 4 66 (.int .i64 ((1 + y) + s.1)) (hd ⟨4, .data⟩ (by simp) rfl)
       clear hs
       have hs1 := s.2.1
       have hs2 := s.2.2
       have hw : IntKind.i64.wrap ((1 + y) + s.1 - 10) = (1 + y) + s.1 - 10 := by rw [IntKind.wrap_i64]; omega
       go_simp
       exact hK s wz (fun _ _ => rfl) hR
      refine StepAll.cons (fun D s wz hR (hDi : D 6 = false) hd hsh a' hs K hK => ?_) ?_
      ·have e5 := hs.old 5 (u := .pointer (some ⟨g5, 0, none⟩)) (by kernel_rfl) rfl
       clear hs
       go_simp
       exact hK s wz (fun _ _ => rfl) hR
      refine StepAll.cons (fun D s wz hR (hDi : D 7 = false) hd hsh a' hs K hK => ?_) ?_
      ·have e68 := hs.g 6 68 (.pointer (some ⟨g5, 1, none⟩)) (hd ⟨6, .data⟩ (by simp) rfl)
       have e67 := hs.g 5 67 (.int .i64 ((1 + y) + s.1 - 10)) (hd ⟨5, .data⟩ (by simp) rfl)
       clear hs
       have kb : Blk wz g5 64 #[.int .i64 1, .int .i64 (1 + y)] := hR.blk 4 (by simp only [hDi] <;> rfl)
       have f0 := kb.frozen
       have c1 : wz.cell? ⟨g5, 1, none⟩ = some (.int .i64 (1 + y)) := kb.cell 1
       go_simp
       exact hK s _ (fun _ _ => rfl) ((hR.set 4 (cs := #[.int .i64 1, .int .i64 (1 + y)]) (by simp only [hDi]; rfl) 1 _).congr
         (fun i => by
          match i with
          | 0 => rfl
          | 1 => rfl
          | 2 => rfl
          | 3 => rfl
          | 4 => rfl
          | 5 => rfl
          | q + 6 => exact (if_neg (show ¬ (q + 6 = 4) by omega)).symm))
      exact StepAll.nil
     ·intro D s wz hR hD
      simp only [putA, Act.put, List.setIfInBounds_toArray, List.set_cons_zero, List.set_cons_succ]
      obtain ⟨x, hx0, hx1⟩ := s
      have HSP : Hid (St w wz [rRd w g (hi + 5), X, rBlk r 28 #[.int .i64 os, .slice G gn gc, .slice G' n' c', .slice D' dn dc, .int .i64 st], rBlk (r + 1) 64 #[.int .i64 0, .int .i64 0], rBlk g5 64 #[.int .i64 1, .int .i64 ((1 + y) + x - 10)]]) := Lib.hid (hR.to_st [0, 1, 2, 3, 4] (by decide) (by simp only [List.map, hD 3 (by decide), hD 7 (by decide)] <;> rfl))
      clear hR hD HSO
      have qa : ∀ j, wz.cell? ⟨g5, j, none⟩ = _ := HSP.out.cells 4 rfl
      have qb : ∀ j, wz.cell? ⟨r + 1, j, none⟩ = _ := HSP.out.cells 3 rfl
      have fb := HSP.out.free 3 rfl
      go_wp2
      refine bodyPost_ret (v := .agg #[.int .i64 1, .int .i64 ((1 + y) + x - 10)]) (by simp [results, Tryz.results102, go_sem, qb]) rfl ⟨1, (1 + y) + x - 10, rfl, hkv, by omega, ?_⟩
      exact ((HSP.out.set2 3 rfl (.int .i64 1) (.int .i64 ((1 + y) + x - 10))).pick [0, 1] (by decide) rfl rfl).more (by omega)
   ·have hk1' : (kv == 1) = false := by simpa using hk1
    clear hk0 hk1
    go_wp2_with fail
    refine (odd_rd HS3.out (by omega) 40).mono ?_
    rintro e wo ⟨bo, rfl, so⟩
    have HSO : Hid (St w wo [rRd w g (hi + 3), X, rBlk r 28 #[.int .i64 os, .slice G gn gc, .slice G' n' c', .slice D' dn dc, .int .i64 st], rBlk (r + 1) 64 #[.int .i64 0, .int .i64 0], rBlk g5 64 #[.int .i64 kv, .int .i64 0], rInts (.slice A6 ml c6) may]) := Lib.hid so
    clear so HS3
    cases bo with
    | false =>
     have qa : ∀ j, wo.cell? ⟨g5, j, none⟩ = _ := HSO.out.cells 4 rfl
     have qb : ∀ j, wo.cell? ⟨r + 1, j, none⟩ = _ := HSO.out.cells 3 rfl
     have fb := HSO.out.free 3 rfl
     go_wp2
     refine bodyPost_ret (v := .agg #[.int .i64 kv, .int .i64 0]) (by simp [results, Tryz.results102, go_sem, qb]) rfl ⟨kv, 0, rfl, hkv, by omega, ?_⟩
     exact ((HSO.out.set2 3 rfl (.int .i64 kv) (.int .i64 0)).pick [0, 1] (by decide) rfl rfl).more (by omega)
    | true =>
     go_upto_region 10 with (fail)
     refine wp_reg (σ := {x : Int // 0 ≤ x ∧ x < 120}) (by kernel_rfl) (by kernel_rfl) (by kernel_rfl)
      (fun s i => match i with
       | 0 => .pointer (some ⟨g5, 1, none⟩)
       | 1 => .int .i64 0
       | 2 => .pointer (some ⟨g, 0, none⟩)
       | 3 => .int .i64 s.1
       | 4 => .int .i64 (s.1)
       | 5 => .int .i64 (s.1 - 10)
       | 6 => .pointer (some ⟨g5, 1, none⟩)
       | _ => undef)
      (fun D s wz => Sn w wz fun i => match i with
       | 0 => some (rRd w g (hi + 3 + (D 3).toNat))
       | 1 => some (X)
       | 2 => some (rBlk r 28 #[.int .i64 os, .slice G gn gc, .slice G' n' c', .slice D' dn dc, .int .i64 st])
       | 3 => some (rBlk (r + 1) 64 #[.int .i64 0, .int .i64 0])
       | 4 => some (rBlk g5 64 (if D 7 = true then #[.int .i64 kv, .int .i64 (s.1 - 10)] else #[.int .i64 kv, .int .i64 0]))
       | 5 => some (rInts (.slice A6 ml c6) may)
       | _ => none)
      ⟨0, by omega, by omega⟩ ?_ ?_ ?_
     ·intro D hD
      refine ((Sn.of_st HSO.out).quiet ((Below.refl _ _).drew)).congr fun i => ?_
      match i with
      | 0 => simp only [hD 3 (by decide)]; rfl
      | 1 => rfl
      | 2 => rfl
      | 3 => rfl
      | 4 => simp only [hD 7 (by decide)]; rfl
      | 5 => rfl
      | q + 6 => rfl
     ·refine StepAll.cons (fun D s wz hR (hDi : D 0 = false) hd hsh a' hs K hK => ?_) ?_
      ·have e5 := hs.old 5 (u := .pointer (some ⟨g5, 0, none⟩)) (by kernel_rfl) rfl
       clear hs
       go_simp
       exact hK s wz (fun _ _ => rfl) hR
      refine StepAll.cons (fun D s wz hR (hDi : D 1 = false) hd hsh a' hs K hK => ?_) ?_
      ·have e62 := hs.g 0 62 (.pointer (some ⟨g5, 1, none⟩)) (hd ⟨0, .data⟩ (by simp) rfl)
       clear hs
       have n4 : D 4 = false := hsh.no hDi 4 rfl ⟨1, .data⟩ (by simp) rfl rfl
       have n5 : D 5 = false := hsh.no n4 5 rfl ⟨4, .data⟩ (by simp) rfl rfl
       have n7 : D 7 = false := hsh.no n5 7 rfl ⟨5, .data⟩ (by simp) rfl rfl
       have kb : Blk wz g5 64 #[.int .i64 kv, .int .i64 0] := hR.blk 4 (by simp only [n7] <;> rfl)
       have c1 : wz.cell? ⟨g5, 1, none⟩ = some (.int .i64 0) := kb.cell 1
       go_simp
       exact hK s wz (fun _ _ => rfl) hR
      refine StepAll.cons (fun D s wz hR (hDi : D 2 = false) hd hsh a' hs K hK => ?_) ?_
      ·have e0 := hs.old 0 (u := .pointer (some ⟨g, 0, none⟩)) (by kernel_rfl) rfl
       clear hs
       go_simp
       exact hK s wz (fun _ _ => rfl) hR
      refine StepAll.cons (fun D s wz hR (hDi : D 3 = false) hd hsh a' hs K hK => ?_) ?_
      ·have e64 := hs.g 2 64 (.pointer (some ⟨g, 0, none⟩)) (hd ⟨2, .data⟩ (by simp) rfl)
       have g64 := getQ e64
       clear hs
       have n4 : D 4 = false := hsh.no hDi 4 rfl ⟨3, .data⟩ (by simp) rfl rfl
       have n5 : D 5 = false := hsh.no n4 5 rfl ⟨4, .data⟩ (by simp) rfl rfl
       have n7 : D 7 = false := hsh.no n5 7 rfl ⟨5, .data⟩ (by simp) rfl rfl
       go_simp
       refine (hR.pick 0 rfl (by have := tonat1 (D 3); omega) 120).mono ?_
       rintro e2 w2 ⟨x2, rfl, ⟨b1, b2, -⟩, s2⟩
       have b3 := b2 (by omega)
       refine hK ⟨x2, b1, b3⟩ w2
        (fun j hj => by
         match j, hj with
         | 0, hj => rfl
         | 1, hj => rfl
         | 2, hj => rfl
         | 3, hj => rw [hDi] at hj; cases hj
         | 4, hj => rw [n4] at hj; cases hj
         | 5, hj => rw [n5] at hj; cases hj
         | 6, hj => rfl
         | 7, hj => rw [n7] at hj; cases hj
         | _ + 8, hj => rfl)
        (s2.congr
         (fun i => by
          match i with
          | 0 => (show some (rRd w g (hi + 3 + true.toNat)) = some (rRd w g (hi + 3 + (D 3).toNat + 1)); rw [hDi]; rfl)
          | 1 => rfl
          | 2 => rfl
          | 3 => rfl
          | 4 => (show some (rBlk _ _ (if D 7 = true then _ else _)) = some (rBlk _ _ (if D 7 = true then _ else _)); rw [n7] <;> rfl)
          | 5 => rfl
          | q + 6 => exact (if_neg (show ¬ (q + 6 = 0) by omega)).symm))
      refine StepAll.cons (fun D s wz hR (hDi : D 4 = false) hd hsh a' hs K hK => ?_) ?_
      ·have e63 := hs.g 1 63 (.int .i64 0) (hd ⟨1, .data⟩ (by simp) rfl)
       have e65 := hs.g 3 65 (.int .i64 s.1) (hd ⟨3, .data⟩ (by simp) rfl)
       clear hs
       have hs1 := s.2.1
       have hs2 := s.2.2
       have hw : IntKind.i64.wrap (s.1) = s.1 := by rw [IntKind.wrap_i64]; omega
       go_simp
       exact hK s wz (fun _ _ => rfl) hR
      refine StepAll.cons (fun D s wz hR (hDi : D 5 = false) hd hsh a' hs K hK => ?_) ?_
      ·have e66 := hs.g 4 66 (.int .i64 (s.1)) (hd ⟨4, .data⟩ (by simp) rfl)
       clear hs
       have hs1 := s.2.1
       have hs2 := s.2.2
       have hw : IntKind.i64.wrap (s.1 - 10) = s.1 - 10 := by rw [IntKind.wrap_i64]; omega
       go_simp
       exact hK s wz (fun _ _ => rfl) hR
      refine StepAll.cons (fun D s wz hR (hDi : D 6 = false) hd hsh a' hs K hK => ?_) ?_
      ·have e5 := hs.old 5 (u := .pointer (some ⟨g5, 0, none⟩)) (by kernel_rfl) rfl
       clear hs
       go_simp
       exact hK s wz (fun _ _ => rfl) hR
      refine StepAll.cons (fun D s wz hR (hDi : D 7 = false) hd hsh a' hs K hK => ?_) ?_
      ·have e68 := hs.g 6 68 (.pointer (some ⟨g5, 1, none⟩)) (hd ⟨6, .data⟩ (by simp) rfl)
       have e67 := hs.g 5 67 (.int .i64 (s.1 - 10)) (hd ⟨5, .data⟩ (by simp) rfl)
       clear hs
       have kb : Blk wz g5 64 #[.int .i64 kv, .int .i64 0] := hR.blk 4 (by simp only [hDi] <;> rfl)
       have f0 := kb.frozen
       have c1 : wz.cell? ⟨g5, 1, none⟩ = some (.int .i64 0) := kb.cell 1
       go_simp
       exact hK s _ (fun _ _ => rfl) ((hR.set 4 (cs := #[.int .i64 kv, .int .i64 0]) (by simp only [hDi]; rfl) 1 _).congr
         (fun i => by
          match i with
          | 0 => rfl
          | 1 => rfl
          | 2 => rfl
          | 3 => rfl
          | 4 => rfl
          | 5 => rfl
          | q + 6 => exact (if_neg (show ¬ (q + 6 = 4) by omega)).symm))
      exact StepAll.nil
     ·intro D s wz hR hD
      simp only [putA, Act.put, List.setIfInBounds_toArray, List.set_cons_zero, List.set_cons_succ]
      obtain ⟨x, hx0, hx1⟩ := s
      have HSP : Hid (St w wz [rRd w g (hi + 4), X, rBlk r 28 #[.int .i64 os, .slice G gn gc, .slice G' n' c', .slice D' dn dc, .int .i64 st], rBlk (r + 1) 64 #[.int .i64 0, .int .i64 0], rBlk g5 64 #[.int .i64 kv, .int .i64 (x - 10)]]) := Lib.hid (hR.to_st [0, 1, 2, 3, 4] (by decide) (by simp only [List.map, hD 3 (by decide), hD 7 (by decide)] <;> rfl))
      clear hR hD HSO
      have qa : ∀ j, wz.cell? ⟨g5, j, none⟩ = _ := HSP.out.cells 4 rfl
      have qb : ∀ j, wz.cell? ⟨r + 1, j, none⟩ = _ := HSP.out.cells 3 rfl
      have fb := HSP.out.free 3 rfl
      go_wp2
      refine bodyPost_ret (v := .agg #[.int .i64 kv, .int .i64 (x - 10)]) (by simp [results, Tryz.results102, go_sem, qb]) rfl ⟨kv, x - 10, rfl, hkv, by omega, ?_⟩
      exact ((HSP.out.set2 3 rfl (.int .i64 kv) (.int .i64 (x - 10))).pick [0, 1] (by decide) rfl rfl).more (by omega)
end Go.Proofs.YtkmcengmglgdeaaGreatDoor
