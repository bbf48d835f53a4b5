/- The draw of a book and some acts. Printed by gen_drawbr.py. -/
import Derived.Test.YtkmcengmglgdeaaGreatDoorSDrawB
namespace Go.Proofs.YtkmcengmglgdeaaGreatDoor
set_option linter.unusedVariables false
set_option linter.unusedSimpArgs false
open Go.ChangeShapes Go.WideShapes Go.ChangeAt Go.RowKit

/-- 'make' as one step of a region that draws -/
theorem step_make {P : Program} {o : Oper} {a : Act} {K : Act → World → Prop} {Q : Exit → Act → World → Prop} {w : World} (hgd : o.guard = none) (l c : Operand) (t : TypeId) (hop : o.op = Op.makeSlice t l c)
  (e : TypeId) (i : TypeInfo) (z : Value) (size : Nat) (h1 : P.underlying t = some (.slice e)) (h2 : P.info? e = some i) (h3 : i.zero = some z) (h4 : i.size = size)
  (kl kc : IntKind) (n : Nat) (hl : a.eval l = .int kl (n : Int)) (hc : a.eval c = .int kc (n : Int)) (b2 : i.bytes * n ≤ 281474976710656) (b3 : n ≤ maxLen)
  (hK : ∀ w', w'.ownsRow w.heap.size e size (.slice (some ⟨w.heap.size, 0, none⟩) n n) n (madeCells z.cells (n * size)).toList → w.grownBy w' none → K (a.put o.dst (.slice (some ⟨w.heap.size, 0, none⟩) n n)) w') : Oper.wp P o a w K Q := by
 obtain ⟨w', hrun, r1, r2⟩ := run_make_full (P := P) w w.heap.size t e i z size h1 h2 h3 h4 kl kc n b2 b3 (Nat.le_refl _)
 unfold Oper.wp
 simp [execOp, hop, hl, hc, hrun, Result.andThen]
 exact hK w' r1 r2
theorem St.ofMakeA {w w' : World} {n : Nat} (hown : w'.ownsRow w.heap.size 64 2 (.slice (some ⟨w.heap.size, 0, none⟩) n n) n (madeCells (Value.agg #[.int .i64 0, .int .i64 0]).cells (n * 2)).toList) (hg : w.grownBy w' none) : St w w' [rActs (.slice (some ⟨w.heap.size, 0, none⟩) n n) (List.replicate n ⟨0, 0⟩)] :=
 ⟨(Below.refl _ _).grown hg (Nat.le_refl _) (by simp), [[w.heap.size]], rfl, fun i R F hR hF => by
  match i with
  | 0 =>
   injection hR with hR; injection hF with hF; subst hR hF
   refine ⟨⟨?_, rfl⟩, by simp⟩
   rw [List.length_replicate, flatA_rep]
   have hmc : (madeCells (Value.agg #[.int .i64 0, .int .i64 0]).cells (n * 2)).toList = List.replicate (n * 2) (.int .i64 0) := by
    refine List.ext_getElem? fun j => ?_
    unfold madeCells
    by_cases hj : j < n * 2
    ·simp [Value.cells, hj, List.getElem?_replicate]
     rcases Nat.mod_two_eq_zero_or_one j with hm | hm <;> simp [hm]
    ·rw [List.getElem?_eq_none (by simp; omega), List.getElem?_eq_none (by simp; omega)]
   rw [hmc] at hown
   exact own_mono hown (Nat.zero_le _)
  | i + 1 => simp at hR, by simp⟩
set_option maxRecDepth 100000 in
set_option maxHeartbeats 1000000 in
theorem drawBookRun (A : Option Addr) (n c : Nat) (xs : List Int) (w : World) (h : RdI .u8 w w.heap.size A n c xs) :
  Calls Tryz.prog 37 #[.slice A n c] w fun e w' => ∃ v b v' aa, e = .returned (.tuple #[v, v']) ∧ aa.length ≤ 41 ∧ (∀ a ∈ aa, (Lit.int .i64 a.number).wf = true) ∧ St w w' [rBook v b, rActs v' aa] := by
 have HS0 := Lib.hid ((St.refl w).alloc #[.int .i64 0, .slice none 0 0, .slice none 0 0, .slice none 0 0, .int .i64 0] 28)
 have H := Lib.hid h
 clear h
 obtain ⟨i0, hi, hz0, hz1, hz2⟩ := elAct.hi
 go_enter Tryz.func37, Tryz.ntmps37
 go_wp2_with fail
 refine (l20Open_rd HS0.out H.out).mono ?_
 rintro e w1 ⟨g, rfl, s1⟩
 have HS1 := Lib.hid s1
 clear s1 HS0
 go_wp2_with fail
 refine (l20Book_rd HS1.out (by omega) 12).mono ?_
 rintro e w2 ⟨v2, b, rfl, s2⟩
 obtain ⟨B1, m1, d1, B2, m2, d2, B3, m3, d3, hv⟩ := s2.formB 1 rfl
 obtain ⟨os, hos⟩ : ∃ x, b.order.start = x := ⟨_, rfl⟩
 obtain ⟨st, hst⟩ : ∃ x, b.state = x := ⟨_, rfl⟩
 rw [hos, hst] at hv
 subst hv
 obtain ⟨g5, hg5⟩ : ∃ x, w2.heap.size = x := ⟨_, rfl⟩
 have HS2 : Hid (St w (w2.alloc (.cells #[.int .i64 os, .slice B1 m1 d1, .slice B2 m2 d2, .slice B3 m3 d3, .int .i64 st] 28)) [rRd w g 400, rBlk w.heap.size 28 #[.int .i64 0, .slice none 0 0, .slice none 0 0, .slice none 0 0, .int .i64 0], rBlk g5 28 #[.int .i64 os, .slice B1 m1 d1, .slice B2 m2 d2, .slice B3 m3 d3, .int .i64 st], rBook (.agg #[.int .i64 os, .slice B1 m1 d1, .slice B2 m2 d2, .slice B3 m3 d3, .int .i64 st]) b]) := Lib.hid (by
  rw [← hg5]
  exact (s2.alloc #[.int .i64 os, .slice B1 m1 d1, .slice B2 m2 d2, .slice B3 m3 d3, .int .i64 st] 28).pick [0, 2, 3, 1] (by decide) rfl rfl)
 clear s2 HS1 hos hst
 try rw [hg5]
 go_wp2_with fail
 try rw [hg5]
 refine (odd_rd HS2.out (by omega) 30).mono ?_
 rintro e w3 ⟨bb, rfl, s3⟩
 have HS3 := Lib.hid s3
 clear s3 HS2
 cases bb with
 | true =>
  go_upto_region 4 with (fail)
  try rw [hg5]
  clear hg5
  refine wp_reg (σ := Nat) (by kernel_rfl) (by kernel_rfl) (by kernel_rfl)
   (fun s i => match i with
    | 0 => .agg #[.int .i64 os, .slice B1 m1 d1, .slice B2 m2 d2, .slice B3 m3 d3, .int .i64 st]
    | 1 => .slice (some ⟨s, 0, none⟩) 41 41
    | 3 => .slice (some ⟨s, 0, none⟩) 41 41
    | _ => undef)
   (fun D s wx => Sn w wx fun i => match i with
    | 0 => some (rRd w g 401)
    | 1 => some (rBlk w.heap.size 28 (if D 2 = true then #[.int .i64 os, .slice B1 m1 d1, .slice B2 m2 d2, .slice B3 m3 d3, .int .i64 st] else #[.int .i64 0, .slice none 0 0, .slice none 0 0, .slice none 0 0, .int .i64 0]))
    | 2 => some (rBlk g5 28 #[.int .i64 os, .slice B1 m1 d1, .slice B2 m2 d2, .slice B3 m3 d3, .int .i64 st])
    | 3 => some (rBook (.agg #[.int .i64 os, .slice B1 m1 d1, .slice B2 m2 d2, .slice B3 m3 d3, .int .i64 st]) b)
    | 4 => if D 1 = true then some (rActs (.slice (some ⟨s, 0, none⟩) 41 41) (List.replicate 41 ⟨0, 0⟩)) else none
    | _ => none)
   0 ?_ ?_ ?_
  ·intro D hD
   refine ((Sn.of_st HS3.out).quiet ((Below.refl _ _).drew)).congr fun i => ?_
   match i with
   | 0 => rfl
   | 1 => simp only [hD 2 (by decide)]; rfl
   | 2 => rfl
   | 3 => rfl
   | 4 => simp only [hD 1 (by decide)]; rfl
   | q + 5 => rfl
  ·refine StepAll.cons (fun D s wx hR (hDi : D 0 = false) hd hsh a' hs K hK => ?_) ?_
   ·have e5 := hs.old 5 (u := .pointer (some ⟨g5, 0, none⟩)) (by kernel_rfl) rfl
    clear hs
    have kb : Blk wx (g5) 28 #[.int .i64 os, .slice B1 m1 d1, .slice B2 m2 d2, .slice B3 m3 d3, .int .i64 st] := hR.blk 2 rfl
    have c0 : wx.cell? ⟨g5, 0, none⟩ = some (.int .i64 os) := kb.cell 0
    have c1 : wx.cell? ⟨g5, 1, none⟩ = some (.slice B1 m1 d1) := kb.cell 1
    have c2 : wx.cell? ⟨g5, 2, none⟩ = some (.slice B2 m2 d2) := kb.cell 2
    have c3 : wx.cell? ⟨g5, 3, none⟩ = some (.slice B3 m3 d3) := kb.cell 3
    have c4 : wx.cell? ⟨g5, 4, none⟩ = some (.int .i64 st) := kb.cell 4
    go_simp
    exact hK s wx (fun _ _ => rfl) hR
   refine StepAll.cons (fun D s wx hR (hDi : D 1 = false) hd hsh a' hs K hK => ?_) ?_
   ·clear hs
    have n3 : D 3 = false := hsh.no hDi 3 rfl ⟨1, .data⟩ (by simp) rfl rfl
    refine step_make rfl _ _ _ rfl 64 i0 _ 2 Tryz.underlying56 hi hz0 hz1 _ _ 41 rfl rfl (by rw [hz2]; omega) (by unfold maxLen; omega) fun w2 hown hgr => ?_
    refine hK wx.heap.size w2
     (fun j hj => by
      match j, hj with
      | 0, hj => rfl
      | 1, hj => rw [hDi] at hj; cases hj
      | 2, hj => rfl
      | 3, hj => rw [n3] at hj; cases hj
      | _ + 4, hj => rfl)
     ((hR.add 4 (if_neg (by rw [hDi]; simp)) (St.ofMakeA hown hgr)).congr
      (fun i => by
       match i with
       | 0 => rfl
       | 1 => rfl
       | 2 => rfl
       | 3 => rfl
       | 4 => rfl
       | q + 5 => exact (if_neg (show ¬ (q + 5 = 4) by omega)).symm))
   refine StepAll.cons (fun D s wx hR (hDi : D 2 = false) hd hsh a' hs K hK => ?_) ?_
   ·have e2 := hs.old 2 (u := .pointer (some ⟨w.heap.size, 0, none⟩)) (by kernel_rfl) rfl
    have e12 := hs.g 0 12 (.agg #[.int .i64 os, .slice B1 m1 d1, .slice B2 m2 d2, .slice B3 m3 d3, .int .i64 st]) (hd ⟨0, .data⟩ (by simp) rfl)
    clear hs
    have kb : Blk wx w.heap.size 28 #[.int .i64 0, .slice none 0 0, .slice none 0 0, .slice none 0 0, .int .i64 0] := hR.blk 1 (by simp only [hDi] <;> rfl)
    have f0 := kb.frozen
    have c0 : wx.cell? ⟨w.heap.size, 0, none⟩ = some (.int .i64 0) := kb.cell 0
    have c1 : wx.cell? ⟨w.heap.size, 1, none⟩ = some (.slice none 0 0) := kb.cell 1
    have c2 : wx.cell? ⟨w.heap.size, 2, none⟩ = some (.slice none 0 0) := kb.cell 2
    have c3 : wx.cell? ⟨w.heap.size, 3, none⟩ = some (.slice none 0 0) := kb.cell 3
    have c4 : wx.cell? ⟨w.heap.size, 4, none⟩ = some (.int .i64 0) := kb.cell 4
    go_simp
    exact hK s _ (fun _ _ => rfl) ((hR.set5 1 (by simp only [hDi]; rfl) _ _ _ _ _).congr
      (fun i => by
       match i with
       | 0 => rfl
       | 1 => rfl
       | 2 => rfl
       | 3 => rfl
       | 4 => rfl
       | q + 5 => exact (if_neg (show ¬ (q + 5 = 1) by omega)).symm))
   refine StepAll.cons (fun D s wx hR (hDi : D 3 = false) hd hsh a' hs K hK => ?_) ?_
   ·have e13 := hs.g 1 13 (.slice (some ⟨s, 0, none⟩) 41 41) (hd ⟨1, .data⟩ (by simp) rfl)
    clear hs
    go_simp
    exact hK s wx (fun _ _ => rfl) hR
   exact StepAll.nil
  ·intro D s wx hR hD
   simp only [putA, Act.put, List.setIfInBounds_toArray, List.set_cons_zero, List.set_cons_succ]
   have HS4 : Hid (St w wx [rBook (.agg #[.int .i64 os, .slice B1 m1 d1, .slice B2 m2 d2, .slice B3 m3 d3, .int .i64 st]) b, rActs (.slice (some ⟨s, 0, none⟩) 41 41) (List.replicate 41 ⟨0, 0⟩), rBlk w.heap.size 28 #[.int .i64 os, .slice B1 m1 d1, .slice B2 m2 d2, .slice B3 m3 d3, .int .i64 st]]) := Lib.hid (hR.to_st [3, 4, 1] (by decide) (by simp only [List.map, hD 1 (by decide), hD 2 (by decide)] <;> rfl))
   clear hR hD HS3
   have q0 : ∀ j, wx.cell? ⟨w.heap.size, j, none⟩ = _ := HS4.out.cells 2 rfl
   go_wp2
   refine bodyPost_ret (v := .tuple #[.agg #[.int .i64 os, .slice B1 m1 d1, .slice B2 m2 d2, .slice B3 m3 d3, .int .i64 st], .slice (some ⟨s, 0, none⟩) 41 41]) (by simp [results, Tryz.results37, go_sem, q0]) rfl ⟨_, b, .slice (some ⟨s, 0, none⟩) 41 41, List.replicate 41 ⟨0, 0⟩, rfl, by simp, fun a ha => by rw [(List.mem_replicate.1 ha).2]; decide, ?_⟩
   exact HS4.out.pick [0, 1] (by decide) rfl rfl
 | false =>
  go_upto_region 5 with (fail)
  try rw [hg5]
  clear hg5
  refine wp_reg (σ := {p : Value × List ActD // p.2.length ≤ 41 ∧ ∀ a ∈ p.2, (Lit.int .i64 a.number).wf = true}) (by kernel_rfl) (by kernel_rfl) (by kernel_rfl)
   (fun s i => match i with
    | 0 => .agg #[.int .i64 os, .slice B1 m1 d1, .slice B2 m2 d2, .slice B3 m3 d3, .int .i64 st]
    | 1 => .pointer (some ⟨g, 0, none⟩)
    | 2 => .agg #[.int .i64 os, .slice B1 m1 d1, .slice B2 m2 d2, .slice B3 m3 d3, .int .i64 st]
    | 3 => s.1.1
    | 5 => s.1.1
    | _ => undef)
   (fun D s wx => Sn w wx fun i => match i with
    | 0 => some (rRd w g (if D 3 = true then 401 + 100 else 401))
    | 1 => some (rBlk w.heap.size 28 (if D 4 = true then #[.int .i64 os, .slice B1 m1 d1, .slice B2 m2 d2, .slice B3 m3 d3, .int .i64 st] else #[.int .i64 0, .slice none 0 0, .slice none 0 0, .slice none 0 0, .int .i64 0]))
    | 2 => some (rBlk g5 28 #[.int .i64 os, .slice B1 m1 d1, .slice B2 m2 d2, .slice B3 m3 d3, .int .i64 st])
    | 3 => some (rBook (.agg #[.int .i64 os, .slice B1 m1 d1, .slice B2 m2 d2, .slice B3 m3 d3, .int .i64 st]) b)
    | 4 => if D 3 = true then some (rActs s.1.1 s.1.2) else none
    | _ => none)
   ⟨(.int .i64 0, []), by simp⟩ ?_ ?_ ?_
  ·intro D hD
   refine ((Sn.of_st HS3.out).quiet ((Below.refl _ _).drew)).congr fun i => ?_
   match i with
   | 0 => simp only [hD 3 (by decide)]; rfl
   | 1 => simp only [hD 4 (by decide)]; rfl
   | 2 => rfl
   | 3 => rfl
   | 4 => simp only [hD 3 (by decide)]; rfl
   | q + 5 => rfl
  ·refine StepAll.cons (fun D s wx hR (hDi : D 0 = false) hd hsh a' hs K hK => ?_) ?_
   ·have e5 := hs.old 5 (u := .pointer (some ⟨g5, 0, none⟩)) (by kernel_rfl) rfl
    clear hs
    have kb : Blk wx (g5) 28 #[.int .i64 os, .slice B1 m1 d1, .slice B2 m2 d2, .slice B3 m3 d3, .int .i64 st] := hR.blk 2 rfl
    have c0 : wx.cell? ⟨g5, 0, none⟩ = some (.int .i64 os) := kb.cell 0
    have c1 : wx.cell? ⟨g5, 1, none⟩ = some (.slice B1 m1 d1) := kb.cell 1
    have c2 : wx.cell? ⟨g5, 2, none⟩ = some (.slice B2 m2 d2) := kb.cell 2
    have c3 : wx.cell? ⟨g5, 3, none⟩ = some (.slice B3 m3 d3) := kb.cell 3
    have c4 : wx.cell? ⟨g5, 4, none⟩ = some (.int .i64 st) := kb.cell 4
    go_simp
    exact hK s wx (fun _ _ => rfl) hR
   refine StepAll.cons (fun D s wx hR (hDi : D 1 = false) hd hsh a' hs K hK => ?_) ?_
   ·have e4 := hs.old 4 (u := .pointer (some ⟨g, 0, none⟩)) (by kernel_rfl) rfl
    clear hs
    go_simp
    exact hK s wx (fun _ _ => rfl) hR
   refine StepAll.cons (fun D s wx hR (hDi : D 2 = false) hd hsh a' hs K hK => ?_) ?_
   ·have e5 := hs.old 5 (u := .pointer (some ⟨g5, 0, none⟩)) (by kernel_rfl) rfl
    clear hs
    have kb : Blk wx (g5) 28 #[.int .i64 os, .slice B1 m1 d1, .slice B2 m2 d2, .slice B3 m3 d3, .int .i64 st] := hR.blk 2 rfl
    have c0 : wx.cell? ⟨g5, 0, none⟩ = some (.int .i64 os) := kb.cell 0
    have c1 : wx.cell? ⟨g5, 1, none⟩ = some (.slice B1 m1 d1) := kb.cell 1
    have c2 : wx.cell? ⟨g5, 2, none⟩ = some (.slice B2 m2 d2) := kb.cell 2
    have c3 : wx.cell? ⟨g5, 3, none⟩ = some (.slice B3 m3 d3) := kb.cell 3
    have c4 : wx.cell? ⟨g5, 4, none⟩ = some (.int .i64 st) := kb.cell 4
    go_simp
    exact hK s wx (fun _ _ => rfl) hR
   refine StepAll.cons (fun D s wx hR (hDi : D 3 = false) hd hsh a' hs K hK => ?_) ?_
   ·have e15 := hs.g 1 15 (.pointer (some ⟨g, 0, none⟩)) (hd ⟨1, .data⟩ (by simp) rfl)
    have e16 := hs.g 2 16 (.agg #[.int .i64 os, .slice B1 m1 d1, .slice B2 m2 d2, .slice B3 m3 d3, .int .i64 st]) (hd ⟨2, .data⟩ (by simp) rfl)
    have g15 := getQ e15
    have g16 := getQ e16
    clear hs
    have n5 : D 5 = false := hsh.no hDi 5 rfl ⟨3, .data⟩ (by simp) rfl rfl
    go_simp
    cases h4 : D 4 with
    | true =>
     have s1 : St w wx (rRd w g 401 :: rBook (.agg #[.int .i64 os, .slice B1 m1 d1, .slice B2 m2 d2, .slice B3 m3 d3, .int .i64 st]) b :: [rBlk w.heap.size 28 #[.int .i64 os, .slice B1 m1 d1, .slice B2 m2 d2, .slice B3 m3 d3, .int .i64 st], rBlk g5 28 #[.int .i64 os, .slice B1 m1 d1, .slice B2 m2 d2, .slice B3 m3 d3, .int .i64 st]]) := hR.to_st [0, 3, 1, 2] (by decide) (by simp only [List.map, hDi, h4] <;> rfl)
     refine (l20Acts_rd s1 (by omega)).mono ?_
     rintro e2 w2 ⟨v2, aa, rfl, hal, haw, s2⟩
     refine hK ⟨(v2, aa), Nat.le_trans hal (by decide), haw⟩ w2
      (fun j hj => by
       match j, hj with
       | 0, hj => rfl
       | 1, hj => rfl
       | 2, hj => rfl
       | 3, hj => rw [hDi] at hj; cases hj
       | 4, hj => rfl
       | 5, hj => rw [n5] at hj; cases hj
       | _ + 6, hj => rfl)
      ((Sn.of_st (s2.pick [0, 3, 4, 2, 1] (by decide) rfl rfl)).congr (fun i => by
       match i with
       | 0 => rfl
       | 1 => (show some (rBlk _ _ (if D 4 = true then _ else _)) = _; rw [h4] <;> rfl)
       | 2 => rfl
       | 3 => rfl
       | 4 => rfl
       | q + 5 => rfl))
    | false =>
     have s1 : St w wx (rRd w g 401 :: rBook (.agg #[.int .i64 os, .slice B1 m1 d1, .slice B2 m2 d2, .slice B3 m3 d3, .int .i64 st]) b :: [rBlk w.heap.size 28 #[.int .i64 0, .slice none 0 0, .slice none 0 0, .slice none 0 0, .int .i64 0], rBlk g5 28 #[.int .i64 os, .slice B1 m1 d1, .slice B2 m2 d2, .slice B3 m3 d3, .int .i64 st]]) := hR.to_st [0, 3, 1, 2] (by decide) (by simp only [List.map, hDi, h4] <;> rfl)
     refine (l20Acts_rd s1 (by omega)).mono ?_
     rintro e2 w2 ⟨v2, aa, rfl, hal, haw, s2⟩
     refine hK ⟨(v2, aa), Nat.le_trans hal (by decide), haw⟩ w2
      (fun j hj => by
       match j, hj with
       | 0, hj => rfl
       | 1, hj => rfl
       | 2, hj => rfl
       | 3, hj => rw [hDi] at hj; cases hj
       | 4, hj => rfl
       | 5, hj => rw [n5] at hj; cases hj
       | _ + 6, hj => rfl)
      ((Sn.of_st (s2.pick [0, 3, 4, 2, 1] (by decide) rfl rfl)).congr (fun i => by
       match i with
       | 0 => rfl
       | 1 => (show some (rBlk _ _ (if D 4 = true then _ else _)) = _; rw [h4] <;> rfl)
       | 2 => rfl
       | 3 => rfl
       | 4 => rfl
       | q + 5 => rfl))
   refine StepAll.cons (fun D s wx hR (hDi : D 4 = false) hd hsh a' hs K hK => ?_) ?_
   ·have e2 := hs.old 2 (u := .pointer (some ⟨w.heap.size, 0, none⟩)) (by kernel_rfl) rfl
    have e14 := hs.g 0 14 (.agg #[.int .i64 os, .slice B1 m1 d1, .slice B2 m2 d2, .slice B3 m3 d3, .int .i64 st]) (hd ⟨0, .data⟩ (by simp) rfl)
    clear hs
    have kb : Blk wx w.heap.size 28 #[.int .i64 0, .slice none 0 0, .slice none 0 0, .slice none 0 0, .int .i64 0] := hR.blk 1 (by simp only [hDi] <;> rfl)
    have f0 := kb.frozen
    have c0 : wx.cell? ⟨w.heap.size, 0, none⟩ = some (.int .i64 0) := kb.cell 0
    have c1 : wx.cell? ⟨w.heap.size, 1, none⟩ = some (.slice none 0 0) := kb.cell 1
    have c2 : wx.cell? ⟨w.heap.size, 2, none⟩ = some (.slice none 0 0) := kb.cell 2
    have c3 : wx.cell? ⟨w.heap.size, 3, none⟩ = some (.slice none 0 0) := kb.cell 3
    have c4 : wx.cell? ⟨w.heap.size, 4, none⟩ = some (.int .i64 0) := kb.cell 4
    go_simp
    exact hK s _ (fun _ _ => rfl) ((hR.set5 1 (by simp only [hDi]; rfl) _ _ _ _ _).congr
      (fun i => by
       match i with
       | 0 => rfl
       | 1 => rfl
       | 2 => rfl
       | 3 => rfl
       | 4 => rfl
       | q + 5 => exact (if_neg (show ¬ (q + 5 = 1) by omega)).symm))
   refine StepAll.cons (fun D s wx hR (hDi : D 5 = false) hd hsh a' hs K hK => ?_) ?_
   ·have e17 := hs.g 3 17 (s.1.1) (hd ⟨3, .data⟩ (by simp) rfl)
    clear hs
    go_simp
    exact hK s wx (fun _ _ => rfl) hR
   exact StepAll.nil
  ·intro D s wx hR hD
   simp only [putA, Act.put, List.setIfInBounds_toArray, List.set_cons_zero, List.set_cons_succ]
   obtain ⟨⟨vv, aa⟩, hal, haw⟩ := s
   have HS4 : Hid (St w wx [rBook (.agg #[.int .i64 os, .slice B1 m1 d1, .slice B2 m2 d2, .slice B3 m3 d3, .int .i64 st]) b, rActs vv aa, rBlk w.heap.size 28 #[.int .i64 os, .slice B1 m1 d1, .slice B2 m2 d2, .slice B3 m3 d3, .int .i64 st]]) := Lib.hid (hR.to_st [3, 4, 1] (by decide) (by simp only [List.map, hD 3 (by decide), hD 4 (by decide)] <;> rfl))
   clear hR hD HS3
   have q0 : ∀ j, wx.cell? ⟨w.heap.size, j, none⟩ = _ := HS4.out.cells 2 rfl
   go_wp2
   refine bodyPost_ret (v := .tuple #[.agg #[.int .i64 os, .slice B1 m1 d1, .slice B2 m2 d2, .slice B3 m3 d3, .int .i64 st], vv]) (by simp [results, Tryz.results37, go_sem, q0]) rfl ⟨_, b, vv, rfl, aa, hal, haw, ?_⟩
   exact HS4.out.pick [0, 1] (by decide) rfl rfl
end Go.Proofs.YtkmcengmglgdeaaGreatDoor
