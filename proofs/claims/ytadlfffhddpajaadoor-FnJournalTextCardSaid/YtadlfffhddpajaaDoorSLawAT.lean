/- The draws of an act and of a text; the walks of FnActText and FnReadAct. Printed by gen_lawat.py. -/
import Derived.Test.YtadlfffhddpajaaDoorSActRS
import Derived.Test.YtadlfffhddpajaaDoorSDrawB
import Derived.Test.YtadlfffhddpajaaDoorSGraph
namespace Go.Proofs.YtadlfffhddpajaaDoor
set_option linter.unusedVariables false
set_option linter.unusedSimpArgs false
open Go.ChangeShapes Go.WideShapes Go.ChangeAt Go.RowKit

set_option maxRecDepth 100000 in
set_option maxHeartbeats 1000000 in
theorem drawActText (A : Option Addr) (n c : Nat) (xs : List Int) (w : World) (h : RdI .u8 w w.heap.size A n c xs) :
    Calls Tryd.prog 12 #[.slice A n c] w fun e w' => ∃ k m, e = .returned (.agg #[.int .i64 k, .int .i64 m]) ∧ Below w.heap.size w w' := by
  have HS0 := Lib.hid ((St.refl w).alloc #[.int .i64 0, .int .i64 0] 31)
  have H := Lib.hid h
  clear h
  go_enter Tryd.func12, Tryd.ntmps12
  go_wp2_with fail
  refine (l20Open_rd HS0.out H.out).mono ?_
  rintro e w1 ⟨g, rfl, s1⟩
  have HS1 := Lib.hid s1
  clear s1 HS0
  go_wp2_with fail
  refine (l20Book_rd HS1.out (by omega) 0).mono ?_
  rintro e w2 ⟨v2, b, rfl, s2⟩
  have HS2 := Lib.hid s2
  clear s2 HS1
  go_wp2_with fail
  refine (l20Act_rd HS2.out (by omega) 0 rfl).mono ?_
  rintro e w3 ⟨k, m, rfl, hk, hm, s3⟩
  have HS3 := Lib.hid s3
  clear s3 HS2
  have q0 : ∀ j, w3.cell? ⟨w.heap.size, j, none⟩ = _ := HS3.out.cells 2 rfl
  have f0 := HS3.out.free 2 rfl
  go_wp2
  refine bodyPost_ret (v := .agg #[.int .i64 k, .int .i64 m]) (by simp [results, Tryd.results12, go_sem, q0]) rfl ⟨k, m, rfl, ?_⟩
  exact ((HS3.out.set 2 rfl 0 (.int .i64 k)).set 2 rfl 1 (.int .i64 m)).below
def spoilW (i : Nat) : ByteArray := match i with | 0 => ⟨#[]⟩ | 1 => ⟨#[48]⟩ | 2 => ⟨#[32]⟩ | 3 => ⟨#[10]⟩ | 4 => ⟨#[49]⟩ | _ => ⟨#[101, 110, 100]⟩
theorem spoilW_size (i : Nat) : (spoilW i).size ≤ 3 := by
  match i with
  | 0 => decide
  | 1 => decide
  | 2 => decide
  | 3 => decide
  | 4 => decide
  | _ + 5 => exact Nat.le_refl 3
theorem spoilW_cell (i : Nat) (h : i < 6) : (#[.string ⟨#[]⟩, .string ⟨#[48]⟩, .string ⟨#[32]⟩, .string ⟨#[10]⟩, .string ⟨#[49]⟩, .string ⟨#[101, 110, 100]⟩] : Array Value)[i]? = some (.string (spoilW i)) := by
  match i, h with
  | 0, _ => rfl
  | 1, _ => rfl
  | 2, _ => rfl
  | 3, _ => rfl
  | 4, _ => rfl
  | 5, _ => rfl
set_option maxRecDepth 100000 in
set_option maxHeartbeats 2000000 in
theorem l20Spoil_rd {w W : World} {X : HRes} {g hi : Nat} (S : St w W [rRd w g hi, X]) (hh : hi ≤ 100000000000) (t : ByteArray) (ht : t.size ≤ 1099511627776) :
    Calls Tryd.prog 38 #[.pointer (some ⟨g, 0, none⟩), .string t] W fun e w' => ∃ q : ByteArray, e = .returned (.string q) ∧ q.size ≤ t.size + 3 ∧ St w w' [rRd w g (hi + 2), X] := by
  have HS := Lib.hid S
  clear S
  by_cases h0 : t.size = 0
  · have h0' : ((t.size : Int) == 0) = true := by simp [h0]
    have HSZ : Hid ((⟨#[10]⟩ : ByteArray).size ≤ t.size + 3) := Lib.hid (by rw [h0]; decide)
    clear h0
    go_enter Tryd.func38, Tryd.ntmps38
    go_wp2
    go_ret
    exact ⟨_, rfl, HSZ.out, HS.out.more (hi' := hi + 2) (by omega)⟩
  have h0' : ((t.size : Int) == 0) = false := beq_false_of_ne (fun h => h0 (by omega))
  have hpos : 0 < t.size := by omega
  go_enter Tryd.func38, Tryd.ntmps38
  go_wp2_with fail
  refine (pick_rd HS.out (by omega) (t.size : Int)).mono ?_
  rintro e w1 ⟨x1, rfl, ⟨a1, a2, -⟩, s1⟩
  have a3 := a2 (by omega)
  obtain ⟨k, rfl⟩ := Int.eq_ofNat_of_zero_le a1
  have hk : k < t.size := by omega
  have HS1 := Lib.hid s1
  clear s1 a1 a2 a3 HS h0 h0'
  have HA : Hid (∀ w : World, (Instr.slice 9 (.string t) none (some (.int .i64 (k : Int))) none).run Tryd.prog w = .ok (.string (t.extract 0 k)) w) := Lib.hid (fun w => by
    rw [run_slice_string_to_if w _ t .i64 _ Tryd.underlying9, if_pos (by omega)]; rfl)
  have HC : Hid (∀ w : World, (Instr.slice 9 (.string t) (some (.int .i64 ((k : Int) + 1))) none none).run Tryd.prog w = .ok (.string (t.extract (k + 1) t.size)) w) := Lib.hid (fun w => by
    rw [run_slice_string_from_if w _ t .i64 _ Tryd.underlying9, if_pos (by omega)]; rfl)
  have HW : Hid (IntKind.i64.wrap ((k : Int) + 1) = (k : Int) + 1) := Lib.hid (by rw [IntKind.wrap_i64] <;> omega)
  have hAs : (t.extract 0 k).size = k := by rw [Lib.size_eq, Lib.extract_data, List.length_take, List.length_drop, ← Lib.size_eq]; omega
  have hCs : (t.extract (k + 1) t.size).size = t.size - (k + 1) := by rw [Lib.size_eq, Lib.extract_data, List.length_take, List.length_drop, ← Lib.size_eq]; omega
  have HN1 : Hid (∀ q : ByteArray, q.size ≤ 3 → ¬ 9223372036854775807 < min k t.size + q.size) := Lib.hid (fun q hq => by omega)
  have HN2 : Hid (∀ q : ByteArray, q.size ≤ 3 → ¬ 9223372036854775807 < min k t.size + q.size + (t.size - (k + 1))) := Lib.hid (fun q hq => by omega)
  have HN3 : Hid (∀ q : ByteArray, q.size ≤ 3 → ((t.extract 0 k ++ q) ++ t.extract (k + 1) t.size).size ≤ t.size + 3) := Lib.hid (fun q hq => by rw [ByteArray.size_append, ByteArray.size_append]; omega)
  clear hAs hCs
  go_upto_region 4 with (fail)
  refine wp_reg (σ := {p : Nat × Nat // p.1 < 6}) (by kernel_rfl) (by kernel_rfl) (by kernel_rfl)
    (fun s i => match i with
      | 0 => .string t
      | 1 => .int .i64 (k : Nat)
      | 2 => .string (t.extract 0 k)
      | 3 => .slice (some ⟨s.1.2, 0, none⟩) 6 6
      | 4 => .pointer (some ⟨g, 0, none⟩)
      | 5 => .int .i64 (s.1.1 : Nat)
      | 6 => .pointer (some ⟨s.1.2, s.1.1, none⟩)
      | 7 => .string (spoilW s.1.1)
      | 8 => .string (t.extract 0 k ++ spoilW s.1.1)
      | 9 => .string t
      | 10 => .int .i64 (k : Nat)
      | 11 => .int .i64 ((k : Int) + 1)
      | 12 => .string (t.extract (k + 1) t.size)
      | 13 => .string ((t.extract 0 k ++ spoilW s.1.1) ++ t.extract (k + 1) t.size)
      | 14 => .string ((t.extract 0 k ++ spoilW s.1.1) ++ t.extract (k + 1) t.size)
      | _ => undef)
    (fun D s wx => Sn w wx fun i => match i with
      | 0 => some (rRd w g (if D 5 = true then hi + 1 + 1 else hi + 1))
      | 1 => some (X)
      | 2 => if D 3 = true then some (rBlk s.1.2 9 #[.string ⟨#[]⟩, .string ⟨#[48]⟩, .string ⟨#[32]⟩, .string ⟨#[10]⟩, .string ⟨#[49]⟩, .string ⟨#[101, 110, 100]⟩]) else none
      | _ => none)
    ⟨(0, 0), by decide⟩ ?_ ?_ ?_
  · intro D hD
    refine ((Sn.of_st HS1.out).quiet ((Below.refl _ _).drew)).congr fun i => ?_
    match i with
    | 0 => simp only [hD 5 (by decide)]; rfl
    | 1 => rfl
    | 2 => simp only [hD 3 (by decide)]; rfl
    | q + 3 => rfl
  · refine StepAll.cons (fun D s wx hR (hDi : D 0 = false) hd hsh a' hs K hK => ?_) ?_
    · have e1 := hs.old 1 (u := .string t) (by kernel_rfl) rfl
      clear hs
      go_simp
      exact hK s wx (fun _ _ => rfl) hR
    refine StepAll.cons (fun D s wx hR (hDi : D 1 = false) hd hsh a' hs K hK => ?_) ?_
    · have e5 := hs.old 5 (u := .int .i64 (k : Nat)) (by kernel_rfl) rfl
      clear hs
      go_simp
      exact hK s wx (fun _ _ => rfl) hR
    refine StepAll.cons (fun D s wx hR (hDi : D 2 = false) hd hsh a' hs K hK => ?_) ?_
    · have e13 := hs.at_ 0 13 (u := .string t) rfl (hd ⟨0, .data⟩ (by simp) rfl) (by kernel_rfl) (by kernel_rfl) rfl
      have e14 := hs.at_ 1 14 (u := .int .i64 (k : Nat)) rfl (hd ⟨1, .data⟩ (by simp) rfl) (by kernel_rfl) (by kernel_rfl) rfl
      clear hs
      have h1 := HA.out wx
      go_simp
      exact hK s wx (fun _ _ => rfl) hR
    refine StepAll.cons (fun D s wx hR (hDi : D 3 = false) hd hsh a' hs K hK => ?_) ?_
    · clear hs
      have n6 : D 6 = false := hsh.no hDi 6 rfl ⟨3, .data⟩ (by simp) rfl rfl
      have n7 : D 7 = false := hsh.no n6 7 rfl ⟨6, .data⟩ (by simp) rfl rfl
      have n8 : D 8 = false := hsh.no n7 8 rfl ⟨7, .data⟩ (by simp) rfl rfl
      have n13 : D 13 = false := hsh.no n8 13 rfl ⟨8, .data⟩ (by simp) rfl rfl
      have n14 : D 14 = false := hsh.no n13 14 rfl ⟨13, .data⟩ (by simp) rfl rfl
      go_simp
      refine hK ⟨(s.1.1, wx.heap.size), s.2⟩ _
        (fun j hj => by
          match j, hj with
          | 0, hj => rfl
          | 1, hj => rfl
          | 2, hj => rfl
          | 3, hj => rw [hDi] at hj; cases hj
          | 4, hj => rfl
          | 5, hj => rfl
          | 6, hj => rw [n6] at hj; cases hj
          | 7, hj => rw [n7] at hj; cases hj
          | 8, hj => rw [n8] at hj; cases hj
          | 9, hj => rfl
          | 10, hj => rfl
          | 11, hj => rfl
          | 12, hj => rfl
          | 13, hj => rw [n13] at hj; cases hj
          | 14, hj => rw [n14] at hj; cases hj
          | _ + 15, hj => rfl)
        ((hR.add 2 (if_neg (by rw [hDi]; simp)) (St.new1 wx #[.string ⟨#[]⟩, .string ⟨#[48]⟩, .string ⟨#[32]⟩, .string ⟨#[10]⟩, .string ⟨#[49]⟩, .string ⟨#[101, 110, 100]⟩] 9)).congr
          (fun i => by
            match i with
            | 0 => rfl
            | 1 => rfl
            | 2 => rfl
            | q + 3 => exact (if_neg (show ¬ (q + 3 = 2) by omega)).symm))
    refine StepAll.cons (fun D s wx hR (hDi : D 4 = false) hd hsh a' hs K hK => ?_) ?_
    · have e0 := hs.old 0 (u := .pointer (some ⟨g, 0, none⟩)) (by kernel_rfl) rfl
      clear hs
      go_simp
      exact hK s wx (fun _ _ => rfl) hR
    refine StepAll.cons (fun D s wx hR (hDi : D 5 = false) hd hsh a' hs K hK => ?_) ?_
    · have e17 := hs.at_ 4 17 (u := .pointer (some ⟨g, 0, none⟩)) rfl (hd ⟨4, .data⟩ (by simp) rfl) (by kernel_rfl) (by kernel_rfl) rfl
      have g17 := getQ e17
      clear hs
      have n6 : D 6 = false := hsh.no hDi 6 rfl ⟨5, .data⟩ (by simp) rfl rfl
      have n7 : D 7 = false := hsh.no n6 7 rfl ⟨6, .data⟩ (by simp) rfl rfl
      have n8 : D 8 = false := hsh.no n7 8 rfl ⟨7, .data⟩ (by simp) rfl rfl
      have n13 : D 13 = false := hsh.no n8 13 rfl ⟨8, .data⟩ (by simp) rfl rfl
      have n14 : D 14 = false := hsh.no n13 14 rfl ⟨13, .data⟩ (by simp) rfl rfl
      go_simp
      refine (hR.pick 0 (g := g) (hi := hi + 1) (by simp only [hDi] <;> rfl) (by omega) 6).mono ?_
      rintro e2 w2 ⟨x2, rfl, ⟨e1, e3, -⟩, s2⟩
      have e4 := e3 (by omega)
      obtain ⟨m2, rfl⟩ := Int.eq_ofNat_of_zero_le e1
      refine hK ⟨(m2, s.1.2), (by show m2 < 6; omega)⟩ w2
        (fun j hj => by
          match j, hj with
          | 0, hj => rfl
          | 1, hj => rfl
          | 2, hj => rfl
          | 3, hj => rfl
          | 4, hj => rfl
          | 5, hj => rw [hDi] at hj; cases hj
          | 6, hj => rw [n6] at hj; cases hj
          | 7, hj => rw [n7] at hj; cases hj
          | 8, hj => rw [n8] at hj; cases hj
          | 9, hj => rfl
          | 10, hj => rfl
          | 11, hj => rfl
          | 12, hj => rfl
          | 13, hj => rw [n13] at hj; cases hj
          | 14, hj => rw [n14] at hj; cases hj
          | _ + 15, hj => rfl)
        (s2.congr (fun i => by
          match i with
          | 0 => rfl
          | 1 => rfl
          | 2 => rfl
          | q + 3 => rfl))
    refine StepAll.cons (fun D s wx hR (hDi : D 6 = false) hd hsh a' hs K hK => ?_) ?_
    · have e16 := hs.at_ 3 16 (u := .slice (some ⟨s.1.2, 0, none⟩) 6 6) rfl (hd ⟨3, .data⟩ (by simp) rfl) (by kernel_rfl) (by kernel_rfl) rfl
      have e18 := hs.at_ 5 18 (u := .int .i64 (s.1.1 : Nat)) rfl (hd ⟨5, .data⟩ (by simp) rfl) (by kernel_rfl) (by kernel_rfl) rfl
      clear hs
      have hx : (s.1.1 : Int) < 6 := by have := s.2; omega
      have hx2 : s.1.1 < 6 := s.2
      go_simp
      exact hK s wx (fun _ _ => rfl) hR
    refine StepAll.cons (fun D s wx hR (hDi : D 7 = false) hd hsh a' hs K hK => ?_) ?_
    · have e19 := hs.at_ 6 19 (u := .pointer (some ⟨s.1.2, s.1.1, none⟩)) rfl (hd ⟨6, .data⟩ (by simp) rfl) (by kernel_rfl) (by kernel_rfl) rfl
      clear hs
      have d3 : D 3 = true := hsh _ _ (rfl : _ = some _) (hd ⟨6, .data⟩ (by simp) rfl) ⟨3, .data⟩ (by simp) rfl
      have kb : Blk wx s.1.2 9 #[.string ⟨#[]⟩, .string ⟨#[48]⟩, .string ⟨#[32]⟩, .string ⟨#[10]⟩, .string ⟨#[49]⟩, .string ⟨#[101, 110, 100]⟩] := hR.blk 2 (if_pos d3)
      have c0 : wx.cell? ⟨s.1.2, s.1.1, none⟩ = some (.string (spoilW s.1.1)) := (kb.cell s.1.1).trans (spoilW_cell s.1.1 s.2)
      go_simp
      exact hK s wx (fun _ _ => rfl) hR
    refine StepAll.cons (fun D s wx hR (hDi : D 8 = false) hd hsh a' hs K hK => ?_) ?_
    · have e15 := hs.at_ 2 15 (u := .string (t.extract 0 k)) rfl (hd ⟨2, .data⟩ (by simp) rfl) (by kernel_rfl) (by kernel_rfl) rfl
      have e20 := hs.at_ 7 20 (u := .string (spoilW s.1.1)) rfl (hd ⟨7, .data⟩ (by simp) rfl) (by kernel_rfl) (by kernel_rfl) rfl
      clear hs
      have h1 := HN1.out (spoilW s.1.1) (spoilW_size s.1.1)
      go_simp
      exact hK s wx (fun _ _ => rfl) hR
    refine StepAll.cons (fun D s wx hR (hDi : D 9 = false) hd hsh a' hs K hK => ?_) ?_
    · have e1 := hs.old 1 (u := .string t) (by kernel_rfl) rfl
      clear hs
      go_simp
      exact hK s wx (fun _ _ => rfl) hR
    refine StepAll.cons (fun D s wx hR (hDi : D 10 = false) hd hsh a' hs K hK => ?_) ?_
    · have e5 := hs.old 5 (u := .int .i64 (k : Nat)) (by kernel_rfl) rfl
      clear hs
      go_simp
      exact hK s wx (fun _ _ => rfl) hR
    refine StepAll.cons (fun D s wx hR (hDi : D 11 = false) hd hsh a' hs K hK => ?_) ?_
    · have e23 := hs.at_ 10 23 (u := .int .i64 (k : Nat)) rfl (hd ⟨10, .data⟩ (by simp) rfl) (by kernel_rfl) (by kernel_rfl) rfl
      clear hs
      have h1 := HW.out
      go_simp
      exact hK s wx (fun _ _ => rfl) hR
    refine StepAll.cons (fun D s wx hR (hDi : D 12 = false) hd hsh a' hs K hK => ?_) ?_
    · have e22 := hs.at_ 9 22 (u := .string t) rfl (hd ⟨9, .data⟩ (by simp) rfl) (by kernel_rfl) (by kernel_rfl) rfl
      have e24 := hs.at_ 11 24 (u := .int .i64 ((k : Int) + 1)) rfl (hd ⟨11, .data⟩ (by simp) rfl) (by kernel_rfl) (by kernel_rfl) rfl
      clear hs
      have h1 := HC.out wx
      go_simp
      exact hK s wx (fun _ _ => rfl) hR
    refine StepAll.cons (fun D s wx hR (hDi : D 13 = false) hd hsh a' hs K hK => ?_) ?_
    · have e21 := hs.at_ 8 21 (u := .string (t.extract 0 k ++ spoilW s.1.1)) rfl (hd ⟨8, .data⟩ (by simp) rfl) (by kernel_rfl) (by kernel_rfl) rfl
      have e25 := hs.at_ 12 25 (u := .string (t.extract (k + 1) t.size)) rfl (hd ⟨12, .data⟩ (by simp) rfl) (by kernel_rfl) (by kernel_rfl) rfl
      clear hs
      have h1 := HN2.out (spoilW s.1.1) (spoilW_size s.1.1)
      go_simp
      exact hK s wx (fun _ _ => rfl) hR
    refine StepAll.cons (fun D s wx hR (hDi : D 14 = false) hd hsh a' hs K hK => ?_) ?_
    · have e26 := hs.at_ 13 26 (u := .string ((t.extract 0 k ++ spoilW s.1.1) ++ t.extract (k + 1) t.size)) rfl (hd ⟨13, .data⟩ (by simp) rfl) (by kernel_rfl) (by kernel_rfl) rfl
      clear hs
      go_simp
      exact hK s wx (fun _ _ => rfl) hR
    exact StepAll.nil
  · intro D s wx hR hD
    simp only [putA, Act.put, List.setIfInBounds_toArray, List.set_cons_zero, List.set_cons_succ]
    have HS2 : Hid (St w wx [rRd w g (hi + 1 + 1), X]) := Lib.hid (hR.to_st [0, 1] (by decide) (by simp only [List.map, hD 5 (by decide)] <;> rfl))
    have HSZ := Lib.hid (HN3.out (spoilW s.1.1) (spoilW_size s.1.1))
    clear hR hD HS1
    go_wp2
    go_ret
    exact ⟨_, rfl, HSZ.out, HS2.out⟩
set_option maxRecDepth 100000 in
set_option maxHeartbeats 1000000 in
theorem drawReadAct (A : Option Addr) (n c : Nat) (xs : List Int) (w : World) (h : RdI .u8 w w.heap.size A n c xs) :
    Calls Tryd.prog 17 #[.slice A n c] w fun e w' => ∃ q : ByteArray, e = .returned (.string q) ∧ q.size ≤ 10 ∧ Below w.heap.size w w' := by
  have H := Lib.hid h
  clear h
  go_enter Tryd.func17, Tryd.ntmps17
  go_wp2_with fail
  refine (l20Open_rd (St.refl w) H.out).mono ?_
  rintro e w1 ⟨g, rfl, s1⟩
  have HS1 := Lib.hid s1
  clear s1
  go_wp2_with fail
  refine (l20Book_rd HS1.out (by omega) 0).mono ?_
  rintro e w2 ⟨v2, b, rfl, s2⟩
  have HS2 := Lib.hid s2
  clear s2 HS1
  go_wp2_with fail
  refine (l20Act_rd HS2.out (by omega) 0 rfl).mono ?_
  rintro e w3 ⟨k, m, rfl, hk, hm, s3⟩
  have HS3 := Lib.hid s3
  clear s3 HS2
  go_wp2_with fail
  refine (actText_spec k m _).mono ?_
  rintro e w4 ⟨rfl, hb4⟩
  have HS4 := Lib.hid (HS3.out.quiet hb4)
  clear hb4 HS3
  obtain ⟨t, ht⟩ : ∃ t : ByteArray, (⟨(actT k m).toArray⟩ : ByteArray) = t := ⟨_, rfl⟩
  have hts : t.size ≤ 7 := by
    rw [← ht, size_of_list]
    by_cases h : actT k m = []
    · rw [h]; simp
    · exact (actT_has h).len
  rw [ht]
  clear ht
  go_wp2_with fail
  refine (pick_rd HS4.out (by omega) 3).mono ?_
  rintro e w5 ⟨x5, rfl, ⟨a1, a2, -⟩, s5⟩
  have HS5 := Lib.hid s5
  clear s5 HS4 a1 a2
  by_cases h5 : x5 = 0
  · subst h5
    go_wp2_with fail
    refine (l20Spoil_rd HS5.out (by omega) t (by omega)).mono ?_
    rintro e w6 ⟨q, rfl, hq, s6⟩
    have HS6 := Lib.hid s6
    clear s6
    go_wp2
    go_ret
    exact ⟨_, rfl, by omega, HS6.out.below⟩
  · have h5' : (x5 == 0) = false := by simpa using h5
    clear h5
    go_wp2
    go_ret
    exact ⟨_, rfl, by omega, HS5.out.below⟩
set_option maxRecDepth 100000 in
set_option maxHeartbeats 1000000 in
theorem FnActText_walk (A : Option Addr) (n c : Nat) (xs : List Int) (w : World) (h : RdI .u8 w w.heap.size A n c xs) :
    Calls Tryd.prog 4 #[.slice A n c] w fun e w' => e = .returned (.bool true) ∧ Below w.heap.size w w' := by
  have hcp := h.cap
  have hcm := h.capMax
  unfold maxLen at hcm
  have H := Lib.hid h
  clear h
  by_cases hbig : 1048576 < n
  · have h1 : (1048576 : Int) < (n : Int) := by omega
    go_enter Tryd.func4, Tryd.ntmps4
    go_wp2
    go_ret
    exact ⟨rfl, Below.refl _ _⟩
  have h1 : ¬ (1048576 : Int) < (n : Int) := by omega
  clear hbig
  go_enter Tryd.func4, Tryd.ntmps4
  go_wp2_with fail
  refine (drawActText A n c xs _ H.out).mono ?_
  rintro e w1 ⟨k, m, rfl, hb1⟩
  obtain ⟨g3, hg3⟩ : ∃ g, w1.heap.size = g := ⟨_, rfl⟩
  have HS1 : Hid (St w (w1.alloc (.cells #[.int .i64 k, .int .i64 m] 31)) [rBlk g3 31 #[.int .i64 k, .int .i64 m]]) := Lib.hid (by
    rw [← hg3]; exact (St.of_below hb1).alloc _ _)
  clear hb1
  obtain ⟨t, ht⟩ : ∃ t : ByteArray, (⟨(actT k m).toArray⟩ : ByteArray) = t := ⟨_, rfl⟩
  have HTT := Lib.hid ht
  have htl : t.data.toList = actT k m := by rw [← ht]
  have HTL := Lib.hid htl
  have hts : t.size ≤ 7 := by
    rw [← ht, size_of_list]
    by_cases h : actT k m = []
    · rw [h]; simp
    · exact (actT_has h).len
  clear ht htl
  go_wp2_with fail
  try rw [hg3]
  refine (actText_impl k m _).mono ?_
  rintro e w2 ⟨rfl, hb2⟩
  rw [HTT.out]
  have HS2 := Lib.hid (HS1.out.quiet hb2)
  clear hb2 hg3
  have q3 : ∀ j, w2.cell? ⟨g3, j, none⟩ = _ := HS2.out.cells 0 rfl
  go_wp2_with fail
  refine (actText_spec k m _).mono ?_
  rintro e w3 ⟨rfl, hb3⟩
  rw [HTT.out]
  have HS3 := Lib.hid (HS2.out.quiet hb3)
  clear hb3 q3
  have q3 : ∀ j, w3.cell? ⟨g3, j, none⟩ = _ := HS3.out.cells 0 rfl
  by_cases he : t.data.toList = []
  · have b0 : t.toList.isEmpty = true := by rw [Lib.toList_data, he]; rfl
    clear he
    go_wp2_with fail
    refine (alive_any _).mono ?_
    rintro e w4 ⟨rfl, hb4⟩
    have HS4 := Lib.hid (HS3.out.quiet hb4)
    clear hb4
    go_wp2
    go_ret
    exact ⟨rfl, HS4.out.below⟩
  · have b0 : t.toList.isEmpty = false := by rw [Lib.toList_data]; cases h : t.data.toList with | nil => exact absurd h he | cons x y => rfl
    have HR : Hid (readA t.data.toList = some (k, m)) := Lib.hid (by rw [HTL.out]; exact readA_actT (by rw [← HTL.out]; exact he))
    clear he
    go_wp2_with fail
    refine (readAct_impl t _ (by omega)).mono ?_
    rintro e w4 ⟨hr4, hb4⟩
    rw [HR.out] at hr4
    obtain rfl : e = .returned (.tuple #[.agg #[.int .i64 k, .int .i64 m], .bool true]) := hr4
    obtain ⟨g5, hg5⟩ : ∃ g, w4.heap.size = g := ⟨_, rfl⟩
    have HS4 : Hid (St w (w4.alloc (.cells #[.int .i64 k, .int .i64 m] 31)) [rBlk g3 31 #[.int .i64 k, .int .i64 m], rBlk g5 31 #[.int .i64 k, .int .i64 m]]) := Lib.hid (by
      rw [← hg5]; exact (HS3.out.quiet hb4).alloc _ _)
    clear hb4 q3
    have q3 : ∀ j, (w4.alloc (.cells #[.int .i64 k, .int .i64 m] 31)).cell? ⟨g3, j, none⟩ = _ := HS4.out.cells 0 rfl
    go_wp2
    go_ret
    exact ⟨rfl, HS4.out.below⟩
set_option maxRecDepth 100000 in
set_option maxHeartbeats 1000000 in
theorem FnReadAct_walk (A : Option Addr) (n c : Nat) (xs : List Int) (w : World) (h : RdI .u8 w w.heap.size A n c xs) :
    Calls Tryd.prog 5 #[.slice A n c] w fun e w' => e = .returned (.bool true) ∧ Below w.heap.size w w' := by
  have hcp := h.cap
  have hcm := h.capMax
  unfold maxLen at hcm
  have H := Lib.hid h
  clear h
  by_cases hbig : 1048576 < n
  · have h1 : (1048576 : Int) < (n : Int) := by omega
    go_enter Tryd.func5, Tryd.ntmps5
    go_wp2
    go_ret
    exact ⟨rfl, Below.refl _ _⟩
  have h1 : ¬ (1048576 : Int) < (n : Int) := by omega
  clear hbig
  go_enter Tryd.func5, Tryd.ntmps5
  go_wp2_with fail
  refine (drawReadAct A n c xs _ H.out).mono ?_
  rintro e w1 ⟨t, rfl, hts, hb1⟩
  have HB1 := Lib.hid hb1
  clear hb1
  obtain ⟨o, ho⟩ : ∃ o, readA t.data.toList = o := ⟨_, rfl⟩
  have HO := Lib.hid ho
  clear ho
  go_wp2_with fail
  refine (readAct_impl t _ (by omega)).mono ?_
  rintro e w2 ⟨hr2, hb2⟩
  rw [HO.out] at hr2
  obtain ⟨k, m, b, rfl, hk, hm, hbb⟩ := hr2.form
  have HK := Lib.hid hk
  have HMM := Lib.hid hm
  have HBB := Lib.hid hbb
  obtain ⟨g3, hg3⟩ : ∃ g, w2.heap.size = g := ⟨_, rfl⟩
  have HS2 : Hid (St w (w2.alloc (.cells #[.int .i64 k, .int .i64 m] 31)) [rBlk g3 31 #[.int .i64 k, .int .i64 m]]) := Lib.hid (by
    rw [← hg3]; exact ((St.of_below HB1.out).quiet hb2).alloc _ _)
  clear hb2 hr2 hk hm hbb
  go_wp2_with fail
  try rw [hg3]
  refine (readAct_spec t _ (by omega)).mono ?_
  rintro e w3 ⟨hr3, hb3⟩
  rw [HO.out] at hr3
  obtain ⟨k', m', b', rfl, rfl, rfl, rfl⟩ := hr3.form
  rw [← HK.out, ← HMM.out, ← HBB.out]
  obtain ⟨g5, hg5⟩ : ∃ g, w3.heap.size = g := ⟨_, rfl⟩
  have HS3 : Hid (St w (w3.alloc (.cells #[.int .i64 k, .int .i64 m] 31)) [rBlk g3 31 #[.int .i64 k, .int .i64 m], rBlk g5 31 #[.int .i64 k, .int .i64 m]]) := Lib.hid (by
    rw [← hg5]; exact (HS2.out.quiet hb3).alloc _ _)
  clear hb3 hr3 hg3
  have q3 : ∀ j, (w3.alloc (.cells #[.int .i64 k, .int .i64 m] 31)).cell? ⟨g3, j, none⟩ = _ := HS3.out.cells 0 rfl
  cases hoc : o with
  | none =>
    have hk0 : k = 0 := by rw [HK.out, hoc]; rfl
    have hm0 : m = 0 := by rw [HMM.out, hoc]; rfl
    have hb0 : b = false := by rw [HBB.out, hoc]; rfl
    clear hoc HK HMM HBB HO
    subst hk0 hm0 hb0
    go_wp2_with fail
    try rw [hg5]
    refine (alive_any _).mono ?_
    rintro e w4 ⟨rfl, hb4⟩
    have HS4 := Lib.hid (HS3.out.quiet hb4)
    clear hb4 q3 hg5
    go_wp2
    go_ret
    exact ⟨rfl, HS4.out.below⟩
  | some a =>
    obtain ⟨ak, an⟩ := a
    have hk0 : k = ak := by rw [HK.out, hoc]; rfl
    have hm0 : m = an := by rw [HMM.out, hoc]; rfl
    have hb0 : b = true := by rw [HBB.out, hoc]; rfl
    have HR : Hid (readA t.data.toList = some (ak, an)) := Lib.hid (by rw [HO.out, hoc])
    clear hoc HK HMM HBB HO
    subst hk0 hm0 hb0
    have HT : Hid ((⟨(actT k m).toArray⟩ : ByteArray) = t) := Lib.hid (by rw [actT_readA HR.out])
    have HR2 : Hid (readA (t ++ ⟨#[32]⟩ : ByteArray).data.toList = none) := Lib.hid (by
      rw [ByteArray.data_append, Array.toList_append]; exact readA_space _)
    have hts2 : (t ++ ⟨#[32]⟩ : ByteArray).size = t.size + 1 := by rw [ByteArray.size_append]; rfl
    have hts3 : (t ++ ⟨#[32]⟩ : ByteArray).size ≤ 9223372036854775807 := by omega
    have HIM : Hid (∀ w, Calls Tryd.prog 16 #[.string (t ++ ⟨#[32]⟩)] w fun e w' => e = .returned (.tuple #[.agg #[.int .i64 0, .int .i64 0], .bool false]) ∧ Below w.heap.size w w') := Lib.hid (fun w => by
      have h := readAct_impl (t ++ ⟨#[32]⟩) w hts3
      rw [HR2.out] at h
      exact h)
    have n1 : ¬ 9223372036854775807 < t.size + 1 := by omega
    clear hts2 hts3
    go_wp2_with fail
    try rw [hg5]
    refine (HIM.out _).mono ?_
    rintro e w4 ⟨rfl, hb4⟩
    obtain ⟨g8, hg8⟩ : ∃ g, w4.heap.size = g := ⟨_, rfl⟩
    have HS4 : Hid (St w (w4.alloc (.cells #[.int .i64 0, .int .i64 0] 31)) [rBlk g3 31 #[.int .i64 k, .int .i64 m], rBlk g5 31 #[.int .i64 k, .int .i64 m], rBlk g8 31 #[.int .i64 0, .int .i64 0]]) := Lib.hid (by
      rw [← hg8]; exact (HS3.out.quiet hb4).alloc _ _)
    clear hb4 q3 hg5
    have q3 : ∀ j, (w4.alloc (.cells #[.int .i64 0, .int .i64 0] 31)).cell? ⟨g3, j, none⟩ = _ := HS4.out.cells 0 rfl
    go_wp2_with fail
    try rw [hg8]
    refine (actText_impl k m _).mono ?_
    rintro e w5 ⟨rfl, hb5⟩
    rw [HT.out]
    have HS6 := Lib.hid (HS4.out.quiet hb5)
    clear hb5 q3 hg8
    go_wp2
    go_ret
    exact ⟨rfl, HS6.out.below⟩
end Go.Proofs.YtadlfffhddpajaaDoor
