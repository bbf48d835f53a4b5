/- ReadAct of the reference. Printed by gen_readacts.py. -/
import Derived.Test.YtkmcengmglgdeaaGreatDoorSActR
import Derived.Test.YtkmcengmglgdeaaGreatDoorSRest
import Derived.Test.YtkmcengmglgdeaaGreatDoorSShortI
import Derived.Deep.Cut
namespace Go.Proofs.YtkmcengmglgdeaaGreatDoor
set_option linter.unusedVariables false
set_option linter.unusedSimpArgs false
open Go.ChangeShapes Go.WideShapes Go.ChangeAt Go.RowKit

def dA (a : Int × Int) : ActD := ⟨a.1, a.2⟩
def dL (l : List (Int × Int)) : List ActD := l.map dA
theorem dL_len (l : List (Int × Int)) : (dL l).length = l.length := by simp [dL]
theorem listA_two {s x0 x1 : List UInt8} (h : cutW 32 [] s = [x0, x1]) : listA s = [(2, 0), (3, 0), (0, digs x1), (1, digs x1)] := by unfold listA; rw [h]
theorem listA_not {s : List UInt8} (h : (cutW 32 [] s).length ≠ 2) : listA s = [(2, 0), (3, 0)] := by
 unfold listA
 match hc : cutW 32 [] s with
 | [] => rfl
 | [_] => rfl
 | [_, _] => rw [hc] at h; exact absurd rfl h
 | _ :: _ :: _ :: _ => rfl
theorem listA_len (s : List UInt8) : (listA s).length ≤ 4 := by
 unfold listA
 split <;> simp
theorem row_at {w : World} {base : Nat} {e : TypeId} {size n c : Nat} {A : Option Addr} {cells : List Value} (h : w.ownsRow base e size (.slice A n c) n cells) (hn : 0 < n) : ∃ g, A = some ⟨g, 0, none⟩ := by
 rcases h.2 with ⟨hv, hz⟩ | ⟨g, cap, cur, hv, -⟩
 ·omega
 ·simp only [Value.slice.injEq] at hv
  exact ⟨g, hv.1⟩
theorem findA_step {s : List UInt8} {l : List (Int × Int)} {k : Nat} {a : Int × Int} (h : l[k]? = some a) : findA s (l.drop k) = if s ≠ [] ∧ actT a.1 a.2 = s then some a else findA s (l.drop (k + 1)) := by
 obtain ⟨hk, rfl⟩ := List.getElem?_eq_some_iff.1 h
 rw [List.drop_eq_getElem_cons hk]
 rfl
theorem cutW_sum (c : UInt8) (s cur : List UInt8) : ∀ x ∈ cutW c cur s, x.length ≤ cur.length + s.length := by
 induction s generalizing cur with
 | nil => simp [cutW]
 | cons a t ih =>
  intro x hx
  simp only [cutW] at hx
  split at hx
  ·rcases List.mem_cons.1 hx with rfl | hx
   ·simp
   ·have := ih [] x hx; simp at this ⊢; omega
  ·have := ih (cur ++ [a]) x hx; simp at this ⊢; omega
set_option maxRecDepth 100000 in
set_option maxHeartbeats 1000000 in
theorem readAct_spec (s : ByteArray) (w : World) (hs : s.size ≤ 1099511627776) :
  Calls Tryz.prog 52 #[.string s] w fun e w' => ActR (readA s.data.toList) e ∧ Below w.heap.size w w' := by
 have HS0 : Hid (St w ((w.alloc (.cells #[.int .i64 0, .int .i64 0] 64)).alloc (.cells #[.int .i64 2, .int .i64 0, .int .i64 3, .int .i64 0] 64)) [rBlk w.heap.size 64 #[.int .i64 0, .int .i64 0], rRow 64 2 (.slice (some ⟨w.heap.size + 1, 0, none⟩) 2 2) 2 [.int .i64 2, .int .i64 0, .int .i64 3, .int .i64 0]]) := Lib.hid (by
  have h1 := (((St.refl w).alloc #[.int .i64 0, .int .i64 0] 64).alloc #[.int .i64 2, .int .i64 0, .int .i64 3, .int .i64 0] 64)
  refine ((h1.bring 1 rfl).see (R := rRow 64 2 (.slice (some ⟨w.heap.size + 1, 0, none⟩) 2 2) 2 [.int .i64 2, .int .i64 0, .int .i64 3, .int .i64 0]) fun F hF _ => ?_).swap2
  obtain ⟨hb, rfl⟩ := hF
  have hz : (w.alloc (.cells #[.int .i64 0, .int .i64 0] 64)).heap.size = w.heap.size + 1 := by simp
  rw [hz] at hb ⊢
  exact ⟨⟨rfl, .inr ⟨_, 2, _, rfl, Nat.zero_le _, hb, Nat.le_refl _, by unfold maxLen; omega, rfl, rfl⟩⟩, rfl⟩)
 have HSZ := Lib.hid hs
 obtain ⟨l, hl⟩ : ∃ l, s.data.toList = l := ⟨_, rfl⟩
 have HL := Lib.hid hl
 have HW1 : Hid (∀ x ∈ cutW 32 [] l, (⟨x.toArray⟩ : ByteArray).size ≤ 9223372036854775807) := Lib.hid (fun x hx => by
  have := cutW_sum 32 l [] x hx
  rw [size_of_list]
  rw [← hl, ← Lib.size_eq] at this
  simp at this; omega)
 rw [hl]
 clear hs hl
 go_enter Tryz.func52, Tryz.ntmps52
 go_wp2_with fail
 refine (l1Cut_st s 32 _ HSZ.out).mono ?_
 rintro e w2 ⟨v2, rfl, s2⟩
 obtain ⟨g1, hg1⟩ : ∃ g, w.heap.size + 1 = g := ⟨_, rfl⟩
 obtain ⟨A2, c2, rfl, -⟩ := s2.rdRow 0 rfl
 have HS2 : Hid (St w w2 [rBlk w.heap.size 64 #[.int .i64 0, .int .i64 0], rRow 64 2 (.slice (some ⟨g1, 0, none⟩) 2 2) 2 [.int .i64 2, .int .i64 0, .int .i64 3, .int .i64 0], rStrs (.slice A2 (cutW 32 [] l).length c2) (cutW 32 [] l)]) := Lib.hid (by
  rw [← hg1, ← HL.out]; exact HS0.out.call s2)
 clear s2 HS0
 rw [HL.out]
 try rw [hg1]
 clear hg1
 obtain ⟨n, hn⟩ : ∃ n, (cutW 32 [] l).length = n := ⟨_, rfl⟩
 have HN := Lib.hid hn
 rw [hn] at HS2
 rw [hn]
 clear hn
 go_upto_if 14 with (fail)
 go_cut [4] (fun s4 wx => ∃ A n c, s4 = .slice A n c ∧ St w wx [rBlk w.heap.size 64 #[.int .i64 0, .int .i64 0], rActs s4 (dL (listA l))])
 case first =>
  by_cases h2 : n = 2
  ·subst h2
   obtain ⟨x0, x1, hx⟩ : ∃ x0 x1, cutW 32 [] l = [x0, x1] := by
    match h : cutW 32 [] l, HN.out with
    | [a, b], _ => exact ⟨a, b, rfl⟩
   have HX1 : Hid ((⟨x1.toArray⟩ : ByteArray).size ≤ 9223372036854775807) := Lib.hid (HW1.out x1 (by rw [hx]; simp))
   obtain ⟨d, hd⟩ : ∃ d, digs x1 = d := ⟨_, rfl⟩
   have HD := Lib.hid hd
   have HLA : Hid (listA l = [(2, 0), (3, 0), (0, d), (1, d)]) := Lib.hid (by rw [listA_two hx, hd])
   have HS2' := HS2.out
   rw [hx] at HS2'
   obtain ⟨bw, rfl⟩ := row_at (HS2'.row 2 rfl) (by omega)
   have HS3 : Hid (St w w2 [rBlk w.heap.size 64 #[.int .i64 0, .int .i64 0], rRow 64 2 (.slice (some ⟨g1, 0, none⟩) 2 2) 2 [.int .i64 2, .int .i64 0, .int .i64 3, .int .i64 0], rRow 9 1 (.slice (some ⟨bw, 0, none⟩) 2 c2) 2 [.string ⟨x0.toArray⟩, .string ⟨x1.toArray⟩]]) := Lib.hid HS2'
   clear HS2' HS2 hd hx HN HW1 HL HSZ
   go_upto_region 4 with (fail)
   refine wp_reg (σ := Nat × Option Addr × Nat) (by kernel_rfl) (by kernel_rfl) (by kernel_rfl)
    (fun s i => match i with
     | 0 => .slice (some ⟨g1, 0, none⟩) 2 2
     | 1 => .slice (some ⟨bw, 0, none⟩) 2 c2
     | 2 => .pointer (some ⟨bw, 1, none⟩)
     | 3 => .string ⟨x1.toArray⟩
     | 4 => .int .i64 d
     | 5 => .agg #[.int .i64 0, .int .i64 d]
     | 6 => .slice (some ⟨bw, 0, none⟩) 2 c2
     | 7 => .pointer (some ⟨bw, 1, none⟩)
     | 8 => .string ⟨x1.toArray⟩
     | 9 => .int .i64 d
     | 10 => .agg #[.int .i64 1, .int .i64 d]
     | 11 => .slice (some ⟨s.1, 0, none⟩) 2 2
     | 12 => .slice s.2.1 4 s.2.2
     | 13 => .slice s.2.1 4 s.2.2
     | _ => undef)
    (fun D s wx => Sn w wx fun i => match i with
     | 0 => some (rBlk w.heap.size 64 #[.int .i64 0, .int .i64 0])
     | 1 => some (rRow 64 2 (if D 12 = true then .slice s.2.1 4 s.2.2 else .slice (some ⟨g1, 0, none⟩) 2 2) (if D 12 = true then 4 else 2) (if D 12 = true then [.int .i64 2, .int .i64 0, .int .i64 3, .int .i64 0] ++ [.int .i64 0, .int .i64 d, .int .i64 1, .int .i64 d] else [.int .i64 2, .int .i64 0, .int .i64 3, .int .i64 0]))
     | 2 => some (rRow 9 1 (.slice (some ⟨bw, 0, none⟩) 2 c2) 2 [.string ⟨x0.toArray⟩, .string ⟨x1.toArray⟩])
     | 3 => if D 11 = true then some (rBlk s.1 64 #[.int .i64 0, .int .i64 d, .int .i64 1, .int .i64 d]) else none
     | _ => none)
    (0, none, 0) ?_ ?_ ?_
   ·intro D hD
    refine ((Sn.of_st HS3.out).quiet ((Below.refl _ _).drew)).congr fun i => ?_
    match i with
    | 0 => rfl
    | 1 => simp only [hD 12 (by decide)]; rfl
    | 2 => rfl
    | 3 => simp only [hD 11 (by decide)]; rfl
    | q + 4 => rfl
   ·refine StepAll.cons (fun D s wx hR (hDi : D 0 = false) hd hsh a' hs K hK => ?_) ?_
    ·have m13 : D 13 = false := hsh.no hDi 13 rfl ⟨0, .phase⟩ (by simp) rfl rfl
     have e4 := hs.before 13 4 (u := .slice (some ⟨g1, 0, none⟩) 2 2) rfl m13 (by kernel_rfl) rfl
     clear hs
     go_simp
     exact hK s wx (fun _ _ => rfl) hR
    refine StepAll.cons (fun D s wx hR (hDi : D 1 = false) hd hsh a' hs K hK => ?_) ?_
    ·have e5 := hs.old 5 (u := .slice (some ⟨bw, 0, none⟩) 2 c2) (by kernel_rfl) rfl
     clear hs
     go_simp
     exact hK s wx (fun _ _ => rfl) hR
    refine StepAll.cons (fun D s wx hR (hDi : D 2 = false) hd hsh a' hs K hK => ?_) ?_
    ·have e16 := hs.g 1 16 (.slice (some ⟨bw, 0, none⟩) 2 c2) (hd ⟨1, .data⟩ (by simp) rfl)
     clear hs
     go_simp
     exact hK s wx (fun _ _ => rfl) hR
    refine StepAll.cons (fun D s wx hR (hDi : D 3 = false) hd hsh a' hs K hK => ?_) ?_
    ·have e17 := hs.g 2 17 (.pointer (some ⟨bw, 1, none⟩)) (hd ⟨2, .data⟩ (by simp) rfl)
     clear hs
     have c0 : wx.cell? ⟨bw, 1, none⟩ = some (.string ⟨x1.toArray⟩) := ((hR.row 2 (v := .slice (some ⟨bw, 0, none⟩) 2 c2) (n := 2) (cells := [.string ⟨x0.toArray⟩, .string ⟨x1.toArray⟩]) rfl).cells rfl 1 _ rfl)
     go_simp
     exact hK s wx (fun _ _ => rfl) hR
    refine StepAll.cons (fun D s wx hR (hDi : D 4 = false) hd hsh a' hs K hK => ?_) ?_
    ·have e18 := hs.g 3 18 (.string ⟨x1.toArray⟩) (hd ⟨3, .data⟩ (by simp) rfl)
     have g18 := getQ e18
     clear hs
     go_simp
     refine (l1Digits_any ⟨x1.toArray⟩ wx HX1.out).mono ?_
     rintro e2 w2 ⟨rfl, rfl⟩
     have hd := HD.out
     rw [ba_data, hd]
     exact hK s wx (fun _ _ => rfl) hR
    refine StepAll.cons (fun D s wx hR (hDi : D 5 = false) hd hsh a' hs K hK => ?_) ?_
    ·have e19 := hs.g 4 19 (.int .i64 d) (hd ⟨4, .data⟩ (by simp) rfl)
     have g19 := getQ e19
     clear hs
     go_simp
     exact hK s wx (fun _ _ => rfl) hR
    refine StepAll.cons (fun D s wx hR (hDi : D 6 = false) hd hsh a' hs K hK => ?_) ?_
    ·have e5 := hs.old 5 (u := .slice (some ⟨bw, 0, none⟩) 2 c2) (by kernel_rfl) rfl
     clear hs
     go_simp
     exact hK s wx (fun _ _ => rfl) hR
    refine StepAll.cons (fun D s wx hR (hDi : D 7 = false) hd hsh a' hs K hK => ?_) ?_
    ·have e21 := hs.g 6 21 (.slice (some ⟨bw, 0, none⟩) 2 c2) (hd ⟨6, .data⟩ (by simp) rfl)
     clear hs
     go_simp
     exact hK s wx (fun _ _ => rfl) hR
    refine StepAll.cons (fun D s wx hR (hDi : D 8 = false) hd hsh a' hs K hK => ?_) ?_
    ·have e22 := hs.g 7 22 (.pointer (some ⟨bw, 1, none⟩)) (hd ⟨7, .data⟩ (by simp) rfl)
     clear hs
     have c0 : wx.cell? ⟨bw, 1, none⟩ = some (.string ⟨x1.toArray⟩) := ((hR.row 2 (v := .slice (some ⟨bw, 0, none⟩) 2 c2) (n := 2) (cells := [.string ⟨x0.toArray⟩, .string ⟨x1.toArray⟩]) rfl).cells rfl 1 _ rfl)
     go_simp
     exact hK s wx (fun _ _ => rfl) hR
    refine StepAll.cons (fun D s wx hR (hDi : D 9 = false) hd hsh a' hs K hK => ?_) ?_
    ·have e23 := hs.g 8 23 (.string ⟨x1.toArray⟩) (hd ⟨8, .data⟩ (by simp) rfl)
     have g23 := getQ e23
     clear hs
     go_simp
     refine (l1Digits_any ⟨x1.toArray⟩ wx HX1.out).mono ?_
     rintro e2 w2 ⟨rfl, rfl⟩
     have hd := HD.out
     rw [ba_data, hd]
     exact hK s wx (fun _ _ => rfl) hR
    refine StepAll.cons (fun D s wx hR (hDi : D 10 = false) hd hsh a' hs K hK => ?_) ?_
    ·have e24 := hs.g 9 24 (.int .i64 d) (hd ⟨9, .data⟩ (by simp) rfl)
     have g24 := getQ e24
     clear hs
     go_simp
     exact hK s wx (fun _ _ => rfl) hR
    refine StepAll.cons (fun D s wx hR (hDi : D 11 = false) hd hsh a' hs K hK => ?_) ?_
    ·have e20 := hs.g 5 20 (.agg #[.int .i64 0, .int .i64 d]) (hd ⟨5, .data⟩ (by simp) rfl)
     have e25 := hs.g 10 25 (.agg #[.int .i64 1, .int .i64 d]) (hd ⟨10, .data⟩ (by simp) rfl)
     have g20 := getQ e20
     have g25 := getQ e25
     clear hs
     have n12 : D 12 = false := hsh.no hDi 12 rfl ⟨11, .data⟩ (by simp) rfl rfl
     have n13 : D 13 = false := hsh.no n12 13 rfl ⟨12, .data⟩ (by simp) rfl rfl
     go_simp
     refine hK (wx.heap.size, s.2) _
      (fun j hj => by
       match j, hj with
       | 0, hj => rfl
       | 1, hj => rfl
       | 2, hj => rfl
       | 3, hj => rfl
       | 4, hj => rfl
       | 5, hj => rfl
       | 6, hj => rfl
       | 7, hj => rfl
       | 8, hj => rfl
       | 9, hj => rfl
       | 10, hj => rfl
       | 11, hj => rw [hDi] at hj; cases hj
       | 12, hj => rw [n12] at hj; cases hj
       | 13, hj => rw [n13] at hj; cases hj
       | _ + 14, hj => rfl)
      ((hR.add 3 (if_neg (by rw [hDi]; simp)) (St.new1 wx #[.int .i64 0, .int .i64 d, .int .i64 1, .int .i64 d] 64)).congr
       (fun i => by
        match i with
        | 0 => rfl
        | 1 => rfl
        | 2 => rfl
        | 3 => rfl
        | q + 4 => exact (if_neg (show ¬ (q + 4 = 3) by omega)).symm))
    refine StepAll.cons (fun D s wx hR (hDi : D 12 = false) hd hsh a' hs K hK => ?_) ?_
    ·have e15 := hs.g 0 15 (.slice (some ⟨g1, 0, none⟩) 2 2) (hd ⟨0, .data⟩ (by simp) rfl)
     have e26 := hs.g 11 26 (.slice (some ⟨s.1, 0, none⟩) 2 2) (hd ⟨11, .data⟩ (by simp) rfl)
     have g15 := getQ e15
     have g26 := getQ e26
     clear hs
     have n13 : D 13 = false := hsh.no hDi 13 rfl ⟨12, .data⟩ (by simp) rfl rfl
     have d11 : D 11 = true := hd ⟨11, .data⟩ (by simp) rfl
     have ho := hR.row 1 (e := 64) (size := 2) (v := .slice (some ⟨g1, 0, none⟩) 2 2) (n := 2) (cells := [.int .i64 2, .int .i64 0, .int .i64 3, .int .i64 0]) (by simp only [hDi]; rfl)
     have kb : Blk wx s.1 64 [.int .i64 0, .int .i64 d, .int .i64 1, .int .i64 d].toArray := hR.blk 3 (if_pos d11)
     have hsz := hR.below.size
     refine wp_app1z elAct (.tmp 15) (.tmp 26) rfl w.heap.size _ 2 _ e15 ho _ _ 2 2 _ e26 (RdRow.of_blk kb 2 2 rfl (by unfold maxLen; omega)) (by simp [Value.oneCell']) (by omega) (by omega) hsz ?_
     intro v' w' hown hg hat
     obtain ⟨A4, c4, hv⟩ := own_form hown
     subst hv
     refine hK (s.1, A4, c4) w'
      (fun j hj => by
       match j, hj with
       | 0, hj => rfl
       | 1, hj => rfl
       | 2, hj => rfl
       | 3, hj => rfl
       | 4, hj => rfl
       | 5, hj => rfl
       | 6, hj => rfl
       | 7, hj => rfl
       | 8, hj => rfl
       | 9, hj => rfl
       | 10, hj => rfl
       | 11, hj => rfl
       | 12, hj => rw [hDi] at hj; cases hj
       | 13, hj => rw [n13] at hj; cases hj
       | _ + 14, hj => rfl)
      ((hR.app 1 (v := .slice (some ⟨g1, 0, none⟩) 2 2) (n := 2) (cells := [.int .i64 2, .int .i64 0, .int .i64 3, .int .i64 0]) (by simp only [hDi]; rfl) hown hg hat).congr
       (fun i => by
        match i with
        | 0 => rfl
        | 1 => rfl
        | 2 => rfl
        | 3 => rfl
        | q + 4 => exact (if_neg (show ¬ (q + 4 = 1) by omega)).symm))
    refine StepAll.cons (fun D s wx hR (hDi : D 13 = false) hd hsh a' hs K hK => ?_) ?_
    ·have e27 := hs.g 12 27 (.slice s.2.1 4 s.2.2) (hd ⟨12, .data⟩ (by simp) rfl)
     clear hs
     go_simp
     exact hK s wx (fun _ _ => rfl) hR
    exact StepAll.nil
   ·intro D s wx hR hD
    simp only [putA, Act.put, List.setIfInBounds_toArray, List.set_cons_zero, List.set_cons_succ]
    obtain ⟨s1, A4, c4⟩ := s
    have HS4 : Hid (St w wx [rBlk w.heap.size 64 #[.int .i64 0, .int .i64 0], rRow 64 2 (.slice A4 4 c4) 4 ([.int .i64 2, .int .i64 0, .int .i64 3, .int .i64 0] ++ [.int .i64 0, .int .i64 d, .int .i64 1, .int .i64 d])]) := Lib.hid (hR.to_st [0, 1] (by decide) (by simp only [List.map, hD 12 (by decide)] <;> rfl))
    clear hR hD HS3
    go_wp2
    go_meet
    case rel => exact ⟨A4, 4, c4, rfl, by rw [HLA.out]; exact HS4.out⟩
  ·have h2' : ((n : Int) == 2) = false := by simp; omega
   have HLA : Hid (dL (listA l) = [⟨2, 0⟩, ⟨3, 0⟩]) := Lib.hid (by rw [listA_not (by rw [HN.out]; exact h2)]; rfl)
   clear h2
   go_wp2
   go_meet
   case rel => exact ⟨_, _, _, rfl, by rw [HLA.out]; exact HS2.out.pick [0, 1] (by decide) rfl rfl⟩
 case rest =>
  obtain ⟨A, m, c, rfl, SC⟩ := hcut
  have HS5 := Lib.hid SC
  clear SC
  obtain ⟨n4, hn4⟩ : ∃ k, (dL (listA l)).length = k := ⟨_, rfl⟩
  have HRD := Lib.hid (HS5.out.rdA' 1 rfl)
  obtain rfl : m = n4 := HRD.out.1.symm.trans hn4
  have hm4 : m ≤ 4 := by rw [← hn4, dL_len]; exact listA_len l
  have HM := Lib.hid hn4
  clear hn4 HS2 HN HW1
  go_wp2
  go_loopw [6] (fun i wr => ∃ k : Nat, k ≤ m ∧ i = .int .i64 k ∧ Hid (findA l ((listA l).drop k) = readA l) ∧ St w wr [rBlk w.heap.size 64 #[.int .i64 0, .int .i64 0], rActs (.slice A m c) (dL (listA l))]) (fun i _ => m - (intOf i).toNat)
  case atStart => exact ⟨0, by omega, rfl, Lib.hid (by rw [List.drop_zero]; exact findA_list l), HS5.out⟩
  case round =>
   clear HS5 HRD
   obtain ⟨k, hk, rfl, hfind, S⟩ := hrel
   have HS := Lib.hid S
   clear S
   have q0 : ∀ j, wr.cell? ⟨w.heap.size, j, none⟩ = _ := HS.out.cells 0 rfl
   have f0 := HS.out.free 0 rfl
   by_cases hlt : k < m
   ·obtain ⟨b, off, a, rfl, hb, ha, r0, r1⟩ := (HS.out.rdA' 1 rfl).get hlt
    obtain ⟨a', ha', rfl⟩ : ∃ a', (listA l)[k]? = some a' ∧ dA a' = a := by
     unfold dL at ha; rw [List.getElem?_map] at ha; exact Option.map_eq_some_iff.1 ha
    have HF := Lib.hid (findA_step (s := l) ha')
    obtain ⟨ak, an⟩ := a'
    have r0' : wr.cell? ⟨b, off + k * 2, none⟩ = some (.int .i64 ak) := r0
    have r1' : wr.cell? ⟨b, off + k * 2 + 1, none⟩ = some (.int .i64 an) := r1
    have HAA := Lib.hid ha
    clear ha ha' r0 r1
    by_cases he : l = []
    ·have HE : Hid (findA l ((listA l).drop (k + 1)) = readA l) := Lib.hid (by rw [← hfind.out, HF.out, if_neg (fun h => h.1 he)])
     have b0 : s.toList.isEmpty = true := by rw [Lib.toList_data, HL.out, he]; rfl
     clear he
     go_wp2
     go_roundw
     case rel => exact ⟨k + 1, by omega, by go_num, HE, HS.out⟩
     case measure => simp [intOf]; omega
    ·have b0 : s.toList.isEmpty = false := by rw [Lib.toList_data, HL.out]; cases h : l with | nil => exact absurd h he | cons x y => rfl
     go_wp2_with fail
     refine (actText_spec ak an _).mono ?_
     rintro e w3 ⟨rfl, hb3⟩
     have HS3 := Lib.hid (HS.out.quiet hb3)
     clear hb3 q0 f0 r0' r1'
     have q0 : ∀ j, w3.cell? ⟨w.heap.size, j, none⟩ = _ := HS3.out.cells 0 rfl
     have f0 := HS3.out.free 0 rfl
     by_cases hm : actT ak an = l
     ·have HE : Hid (readA l = some (ak, an)) := Lib.hid (by rw [← hfind.out, HF.out, if_pos ⟨he, hm⟩])
      have HSS : Hid ((⟨(actT ak an).toArray⟩ : ByteArray) = s) := Lib.hid (by rw [hm, ← HL.out])
      rw [HSS.out]
      obtain ⟨b', off', a2, hA, hb', ha2, r0, r1⟩ := (HS3.out.rdA' 1 rfl).get hlt
      simp only [Option.some.injEq, Addr.mk.injEq, and_true] at hA
      obtain ⟨rfl, rfl⟩ := hA
      obtain rfl : a2 = dA (ak, an) := by have := ha2.symm.trans HAA.out; injection this
      have r0' : w3.cell? ⟨b, off + k * 2, none⟩ = some (.int .i64 ak) := r0
      have r1' : w3.cell? ⟨b, off + k * 2 + 1, none⟩ = some (.int .i64 an) := r1
      clear r0 r1 ha2 hm he
      go_wp2
      refine bodyPost_ret (v := .tuple #[.agg #[.int .i64 ak, .int .i64 an], .bool true]) (by simp [results, Tryz.results52, go_sem, q0]) rfl ⟨by rw [HE.out]; rfl, ?_⟩
      exact ((HS3.out.set 0 rfl 0 _).set 0 rfl 1 _).below
     ·have HE : Hid (findA l ((listA l).drop (k + 1)) = readA l) := Lib.hid (by rw [← hfind.out, HF.out, if_neg (fun h => hm h.2)])
      obtain ⟨q, hq⟩ : ∃ q : ByteArray, (⟨(actT ak an).toArray⟩ : ByteArray) = q := ⟨_, rfl⟩
      have hne : (q.toList == s.toList) = false := by
       rw [Bool.eq_false_iff, Lib.toList_data, Lib.toList_data, HL.out, ← hq]; intro h; exact hm (beq_iff_eq.1 h)
      rw [hq]
      clear hq hm he
      go_wp2
      go_roundw
      case rel => exact ⟨k + 1, by omega, by go_num, HE, HS3.out⟩
      case measure => simp [intOf]; omega
   ·have hke : k = m := by omega
    have HE : Hid (readA l = none) := Lib.hid (by
     rw [← hfind.out, List.drop_eq_nil_of_le (by rw [← dL_len, HM.out]; omega)]; rfl)
    clear hke
    go_wp2
    refine bodyPost_ret (v := .tuple #[.agg #[.int .i64 0, .int .i64 0], .bool false]) (by simp [results, Tryz.results52, go_sem, q0]) rfl ⟨by rw [HE.out]; rfl, ?_⟩
    exact ((HS.out.set 0 rfl 0 (.int .i64 0)).set 0 rfl 1 (.int .i64 0)).below
end Go.Proofs.YtkmcengmglgdeaaGreatDoor
