/- The look of the program's search: it writes what one look finds. Printed by gen_look.py. -/
import Derived.Test.YtkimgdfcgfhibaaDoorSLookW
namespace Go.Proofs.YtkimgdfcgfhibaaDoor
set_option linter.unusedVariables false
set_option linter.unusedSimpArgs false
open Go.ChangeShapes Go.WideShapes Go.ChangeAt Go.RowKit

theorem gRow_set (g : Nat → Int) (x : Nat) (v : Int) (hx : x < 32) : (gRow g).set x (.int .i64 v) = gRow (updI g x v) := by
  refine List.ext_getElem? fun i => ?_
  rw [List.getElem?_set]
  by_cases hi : i < 32
  · rw [gRow_at (updI g x v) i hi]
    by_cases h : x = i
    · subst h
      rw [if_pos rfl, if_pos (by rw [gRow_len]; exact hx)]
      simp [updI]
    · rw [if_neg h, gRow_at g i hi]
      simp only [updI]; rw [if_neg (Ne.symm h)]
  · rw [List.getElem?_eq_none (l := gRow (updI g x v)) (by rw [gRow_len]; omega), if_neg (by omega), List.getElem?_eq_none (by rw [gRow_len]; omega)]
theorem lkC_setR (st : LS) (p : Nat → Bool) (M : Nat) (h : mset p 32 = M) : (lkC st).setIfInBounds 0 (.int .i64 (M : Nat)) = lkC ⟨p, st.K, st.g⟩ := by unfold lkC; rw [h]; simp
theorem lkC_setK (st : LS) (p : Nat → Bool) (M : Nat) (h : mset p 32 = M) : (lkC st).setIfInBounds 1 (.int .i64 (M : Nat)) = lkC ⟨st.R, p, st.g⟩ := by unfold lkC; rw [h]; simp
theorem lkC_setG (st : LS) (x : Nat) (v : Int) (h : x < 32) : (lkC st).setIfInBounds (2 + x) (.int .i64 v) = lkC ⟨st.R, st.K, updI st.g x v⟩ := by
  unfold lkC
  rw [List.setIfInBounds_toArray, show 2 + x = x + 1 + 1 by omega, List.set_cons_succ, List.set_cons_succ, gRow_set _ _ _ h]
theorem updB_or (p : Nat → Bool) (k : Nat) : ∀ j, j < 32 → updB p k j = (p j || decide (k = j)) := fun j _ => by
  unfold updB
  by_cases h : j = k
  · subst h; simp
  · rw [if_neg h, decide_eq_false (Ne.symm h), Bool.or_false]
theorem or_updB {p : Nat → Bool} {M M2 pw k : Nat} (hk : k < 32) (hM : mset p 32 = M) (h2 : mset (updB p k) 32 = M2) (hp : 2 ^ k = pw) : bits .or .i64 (M : Int) (pw : Int) = (M2 : Nat) := by
  have := or_member hk hM.symm (updB_or p k)
  rw [h2] at this
  rw [← this, ← hp]; push_cast; rfl
/-- what the numbers of a search may be while it looks at b -/
structure LB (b : Nat) (m : Int) (st : LS) : Prop where
  r : st.R b = true
  gb : 0 ≤ st.g b ∧ st.g b ≤ m
  all : ∀ i, i < 32 → 0 ≤ st.g i ∧ st.g i ≤ m + 1
theorem LB.step {b x : Nat} {m : Int} {st : LS} (h : LB b m st) (hc : (!st.R x || decide (st.g b + 1 < st.g x)) = true) : LB b m ⟨updB st.R x, st.K, updI st.g x (st.g b + 1)⟩ := by
  have hne : x ≠ b := fun e => by
    subst e
    rw [h.r] at hc
    simp only [Bool.not_true, Bool.false_or, decide_eq_true_eq] at hc
    omega
  refine ⟨?_, ?_, fun i hi => ?_⟩
  · simp only [updB]; rw [if_neg (Ne.symm hne)]; exact h.r
  · simp only [updI]; rw [if_neg (Ne.symm hne)]; exact h.gb
  · have h1 := h.gb
    have h2 := h.all i hi
    simp only [updI]
    split <;> omega
def lookTo (ds : List DeedD) (b : Nat) (st : LS) (k : Nat) : LS := (ds.take k).foldl (look1 b) ⟨st.R, updB st.K b, st.g⟩
theorem lookTo_step {ds : List DeedD} {b k : Nat} {st : LS} {d : DeedD} (h : ds[k]? = some d) : lookTo ds b st (k + 1) = look1 b (lookTo ds b st k) d := by
  unfold lookTo
  rw [List.take_add_one, h, List.foldl_append]
  rfl
theorem lookTo_all {ds : List DeedD} {b : Nat} {st : LS} : lookTo ds b st ds.length = lookS ds b st := by unfold lookTo lookS; rw [List.take_length]
set_option maxRecDepth 100000 in
set_option maxHeartbeats 2000000 in
theorem look_any (G : Nat) (st : LS) (RA : Option Addr) (n RC : Nat) (ds : List DeedD) (b : Nat) (m : Int) (w W : World) (S : St w W [rBeh (.slice RA n RC) ds, rBlk G 79 (lkC st)]) (hn : ds.length = n) (hn6 : n ≤ 6) (hd : ∀ d ∈ ds, deedOk d = true)
    (hb : b < 32) (hL : LB b m st) (hm : m ≤ 90) :
    Calls Tryd.prog 52 #[.pointer (some ⟨G, 0, none⟩), .slice RA n RC, .int .i64 b] W fun e w' => e = .returned (.tuple #[]) ∧ St w w' [rBeh (.slice RA n RC) ds, rBlk G 79 (lkC (lookS ds b st))] ∧ LB b m (lookS ds b st) := by
  have HDOK := Lib.hid hd
  have HL := Lib.hid hn
  have HRB : Hid (∀ W L, St w W (rBeh (.slice RA n RC) ds :: L) → RdRow W W.heap.size 32 RA n RC (ints (behL ds))) := Lib.hid fun W L h => h.rdRow' (n := n) 0 (by rw [← HL.out]; rfl)
  obtain ⟨st0, hst0⟩ : ∃ s, st = s := ⟨_, rfl⟩
  rw [hst0] at S
  have HS0 := Lib.hid S
  obtain ⟨sk, hsk⟩ : ∃ s, (⟨st0.R, updB st0.K b, st0.g⟩ : LS) = s := ⟨_, rfl⟩
  obtain ⟨MK, hMK⟩ : ∃ M, mset st0.K 32 = M := ⟨_, rfl⟩
  obtain ⟨MK2, hMK2⟩ : ∃ M, mset (updB st0.K b) 32 = M := ⟨_, rfl⟩
  obtain ⟨pw, hpw⟩ : ∃ p, 2 ^ b = p := ⟨_, rfl⟩
  have HC1 : Bx ((lkC st0)[1]? = some (.int .i64 (MK : Nat))) := Bx.mk (by rw [← hMK]; rfl)
  have HPW : Bx (IntKind.i64.wrap (2 ^ b) = (pw : Int)) := Bx.mk ((IntWalk.i64_left _).trans (by rw [wrap_pow _ (by omega), ← hpw]; push_cast; rfl))
  have HORK : Bx (bits .or .i64 (MK : Int) (pw : Int) = (MK2 : Nat)) := Bx.mk (or_updB hb hMK hMK2 hpw)
  have HSETK : Bx ((lkC st0).setIfInBounds 1 (.int .i64 (MK2 : Nat)) = lkC sk) := Bx.mk (by rw [← hsk]; exact lkC_setK st0 _ _ hMK2)
  have HST : Bx (lookTo ds b st 0 = sk) := Bx.mk (by rw [hst0, ← hsk]; rfl)
  have HBD : Bx (LB b m sk) := Bx.mk (by rw [← hsk]; rw [hst0] at hL; exact ⟨hL.r, hL.gb, hL.all⟩)
  have HB := Bx.mk hb
  clear S hst0 hsk hMK hMK2 hpw hL hd hn
  go_enter Tryd.func52, Tryd.ntmps52
  go_upto_region 0 with (fail)
  refine wp_reg (σ := Unit) (by kernel_rfl) (by kernel_rfl) (by kernel_rfl)
    (fun s i => match i with
      | 0 => .pointer (some ⟨G, 0, none⟩)
      | 1 => .pointer (some ⟨G, 0, none⟩)
      | 2 => .pointer (some ⟨G, 1, none⟩)
      | 3 => .int .i64 (MK : Nat)
      | 4 => .int .i64 (b : Nat)
      | 5 => .int .i64 (pw : Nat)
      | 6 => .int .i64 (MK2 : Nat)
      | 7 => .pointer (some ⟨G, 0, none⟩)
      | 8 => .pointer (some ⟨G, 1, none⟩)
      | _ => undef)
    (fun D s wx => Sn w wx fun i => match i with
      | 0 => some (rBeh (.slice RA n RC) ds)
      | 1 => some (rBlk G 79 (if D 9 = true then lkC (sk) else lkC (st0)))
      | _ => none)
    () ?_ ?_ ?_
  · intro D hD
    refine ((Sn.of_st HS0.out).quiet ((Below.refl _ _).drew)).congr fun i => ?_
    match i with
    | 0 => rfl
    | 1 => simp only [hD 9 (by decide)]; rfl
    | q + 2 => rfl
  · refine StepAll.cons (fun D s wx hR (hDi : D 0 = false) hd hsh a' hs K hK => ?_) ?_
    · have e0 := hs.old 0 (u := .pointer (some ⟨G, 0, none⟩)) (by kernel_rfl) rfl
      clear hs
      go_simp
      exact hK s wx (fun _ _ => rfl) hR
    refine StepAll.cons (fun D s wx hR (hDi : D 1 = false) hd hsh a' hs K hK => ?_) ?_
    · have e9 := hs.at_ 0 9 (u := .pointer (some ⟨G, 0, none⟩)) rfl (hd ⟨0, .data⟩ (by simp) rfl) (by kernel_rfl) (by kernel_rfl) rfl
      clear hs
      go_simp
      exact hK s wx (fun _ _ => rfl) hR
    refine StepAll.cons (fun D s wx hR (hDi : D 2 = false) hd hsh a' hs K hK => ?_) ?_
    · have e10 := hs.at_ 1 10 (u := .pointer (some ⟨G, 0, none⟩)) rfl (hd ⟨1, .data⟩ (by simp) rfl) (by kernel_rfl) (by kernel_rfl) rfl
      clear hs
      go_simp
      exact hK s wx (fun _ _ => rfl) hR
    refine StepAll.cons (fun D s wx hR (hDi : D 3 = false) hd hsh a' hs K hK => ?_) ?_
    · have e11 := hs.at_ 2 11 (u := .pointer (some ⟨G, 1, none⟩)) rfl (hd ⟨2, .data⟩ (by simp) rfl) (by kernel_rfl) (by kernel_rfl) rfl
      clear hs
      have n6 : D 6 = false := hsh.no hDi 6 rfl ⟨3, .data⟩ (by simp) rfl rfl
      have n9 : D 9 = false := hsh.no n6 9 rfl ⟨6, .data⟩ (by simp) rfl rfl
      have kb : Blk wx G 79 (lkC (st0)) := hR.blk 1 (by simp only [n9]; rfl)
      have c0 : wx.cell? ⟨G, 1, none⟩ = some (.int .i64 (MK : Nat)) := (kb.cell 1).trans HC1.out
      go_simp
      exact hK s wx (fun _ _ => rfl) hR
    refine StepAll.cons (fun D s wx hR (hDi : D 4 = false) hd hsh a' hs K hK => ?_) ?_
    · have e2 := hs.old 2 (u := .int .i64 (b : Nat)) (by kernel_rfl) rfl
      clear hs
      go_simp
      exact hK s wx (fun _ _ => rfl) hR
    refine StepAll.cons (fun D s wx hR (hDi : D 5 = false) hd hsh a' hs K hK => ?_) ?_
    · have e13 := hs.at_ 4 13 (u := .int .i64 (b : Nat)) rfl (hd ⟨4, .data⟩ (by simp) rfl) (by kernel_rfl) (by kernel_rfl) rfl
      clear hs
      have hpw := HPW.out
      go_simp
      exact hK s wx (fun _ _ => rfl) hR
    refine StepAll.cons (fun D s wx hR (hDi : D 6 = false) hd hsh a' hs K hK => ?_) ?_
    · have e12 := hs.at_ 3 12 (u := .int .i64 (MK : Nat)) rfl (hd ⟨3, .data⟩ (by simp) rfl) (by kernel_rfl) (by kernel_rfl) rfl
      have e14 := hs.at_ 5 14 (u := .int .i64 (pw : Nat)) rfl (hd ⟨5, .data⟩ (by simp) rfl) (by kernel_rfl) (by kernel_rfl) rfl
      clear hs
      have hor := HORK.out
      go_simp
      exact hK s wx (fun _ _ => rfl) hR
    refine StepAll.cons (fun D s wx hR (hDi : D 7 = false) hd hsh a' hs K hK => ?_) ?_
    · have e9 := hs.at_ 0 9 (u := .pointer (some ⟨G, 0, none⟩)) rfl (hd ⟨0, .data⟩ (by simp) rfl) (by kernel_rfl) (by kernel_rfl) rfl
      clear hs
      go_simp
      exact hK s wx (fun _ _ => rfl) hR
    refine StepAll.cons (fun D s wx hR (hDi : D 8 = false) hd hsh a' hs K hK => ?_) ?_
    · have e16 := hs.at_ 7 16 (u := .pointer (some ⟨G, 0, none⟩)) rfl (hd ⟨7, .data⟩ (by simp) rfl) (by kernel_rfl) (by kernel_rfl) rfl
      clear hs
      go_simp
      exact hK s wx (fun _ _ => rfl) hR
    refine StepAll.cons (fun D s wx hR (hDi : D 9 = false) hd hsh a' hs K hK => ?_) ?_
    · have e17 := hs.at_ 8 17 (u := .pointer (some ⟨G, 1, none⟩)) rfl (hd ⟨8, .data⟩ (by simp) rfl) (by kernel_rfl) (by kernel_rfl) rfl
      have e15 := hs.at_ 6 15 (u := .int .i64 (MK2 : Nat)) rfl (hd ⟨6, .data⟩ (by simp) rfl) (by kernel_rfl) (by kernel_rfl) rfl
      clear hs
      have kb : Blk wx G 79 (lkC (st0)) := hR.blk 1 (by simp only [hDi] <;> rfl)
      have f0 := kb.frozen 1
      have c0 : wx.cell? ⟨G, 1, none⟩ = some (.int .i64 (MK : Nat)) := (kb.cell 1).trans HC1.out
      go_simp
      exact hK s _ (fun _ _ => rfl) ((hR.set 1 (cs := lkC (st0)) (by simp only [hDi]; rfl) 1 (.int .i64 (MK2 : Nat))).congr
          (fun i => by
            match i with
            | 0 => rfl
            | 1 => (show some (rBlk G 79 (lkC (sk))) = some (rBlk G 79 ((lkC (st0)).setIfInBounds 1 (.int .i64 (MK2 : Nat)))); rw [HSETK.out])
            | q + 2 => exact (if_neg (show ¬ (q + 2 = 1) by omega)).symm))
    exact StepAll.nil
  · intro D s wx hR hD
    simp only [putA, Act.put, List.setIfInBounds_toArray, List.set_cons_zero, List.set_cons_succ]
    have HS1 : Hid (St w wx [rBeh (.slice RA n RC) ds, rBlk G 79 (lkC (sk))]) := Lib.hid (hR.to_st [0, 1] (by decide) (by simp only [List.map, hD 9 (by decide)] <;> rfl))
    clear hR hD HS0
    go_wp2
    go_loopw [20] (fun i wr => ∃ k : Nat, k ≤ n ∧ ∃ sa, Bx (lookTo ds b st k = sa) ∧ Bx (LB b m sa) ∧ i = .int .i64 k ∧ St w wr [rBeh (.slice RA n RC) ds, rBlk G 79 (lkC sa)]) (fun i _ => n - (intOf i).toNat)
    case atStart => exact ⟨0, by omega, sk, HST, HBD, rfl, HS1.out⟩
    case round =>
      clear HS1 HC1 HPW HORK HSETK HST HBD
      obtain ⟨k, hk, sa, HST, HBD, rfl, S⟩ := hrel
      have HS := Lib.hid S
      clear S
      by_cases hlt : k < n
      case neg =>
        have HF : Bx (lookS ds b st = sa) := Bx.mk (by rw [← lookTo_all, HL.out, ← show k = n by omega]; exact HST.out)
        go_wp2
        (try simp only [Exit.inBlock, Exit.then])
        refine ⟨rfl, _, results_none rfl _ _ _, rfl, ?_, ?_⟩
        · rw [HF.out]; exact HS.out
        · rw [HF.out]; exact HBD.out
      obtain ⟨rb, off, d, rfl, hrb, hdk, hrow⟩ := beh_row (HRB.out _ _ HS.out) HL.out hlt
      have HLD : Hid (∀ j v, (rowOf d)[j]? = some v → wr.cell? ⟨rb, off + k * 32 + j, none⟩ = some v) := Lib.hid hrow
      have HDK := Lib.hid hdk
      have hix := rowOf_at d b hb
      have HDO := Lib.hid (HDOK.out d (List.mem_of_getElem? hdk))
      have HS5 : Hid (St w (wr.alloc (.cells (rowOf d).toArray 77)) [rBeh (.slice (some ⟨rb, off, none⟩) n RC) ds, rBlk G 79 (lkC sa)]) := Lib.hid ((HS.out.alloc (rowOf d).toArray 77).pick [0, 1] (by decide) rfl rfl)
      clear hrow hdk
      obtain ⟨o, ho⟩ : ∃ o, deedDo d b = o := ⟨_, rfl⟩
      rw [ho] at hix
      have HO := Lib.hid ho
      clear ho
      cases o with
      | none =>
        simp only [opt] at hix
        have HST2 : Bx (lookTo ds b st (k + 1) = sa) := Bx.mk (by rw [lookTo_step HDK.out, HST.out]; unfold look1; rw [HO.out])
        go_wp2_with (first
          | (refine wpList_load_arr 77 (.tmp 22) rfl rfl 3 32 undBeh rb (off + k * 32) (rowOf d) rfl (by rw [rowOf_len]; exact infoBeh) HLD.out ?_)
          | (refine wpList_store_arr 77 (.tmp 7) (.tmp 23) rfl rfl _ (rowOf d) rfl rfl (by rw [rowOf_len]; exact infoBeh) (by rw [rowOf_len]; rfl) (by simp [rowOf, Value.oneCell']) ?_))
        go_roundw
        case rel => exact ⟨k + 1, by omega, sa, HST2, HBD, by go_num, HS5.out⟩
        case measure => simp [intOf]; omega
      | some x =>
        simp only [opt] at hix
        have hx := deedDo_lt d b x HDO.out hb HO.out
        obtain ⟨gb, hgb⟩ : ∃ g, sa.g b = g := ⟨_, rfl⟩
        obtain ⟨gx, hgx⟩ : ∃ g, sa.g x = g := ⟨_, rfl⟩
        obtain ⟨MR, hMR⟩ : ∃ M, mset sa.R 32 = M := ⟨_, rfl⟩
        obtain ⟨MR2, hMR2⟩ : ∃ M, mset (updB sa.R x) 32 = M := ⟨_, rfl⟩
        obtain ⟨pw, hpw⟩ : ∃ p, 2 ^ x = p := ⟨_, rfl⟩
        obtain ⟨sr, hsr⟩ : ∃ s, (⟨updB sa.R x, sa.K, sa.g⟩ : LS) = s := ⟨_, rfl⟩
        obtain ⟨sg, hsg⟩ : ∃ s, (⟨updB sa.R x, sa.K, updI sa.g x (gb + 1)⟩ : LS) = s := ⟨_, rfl⟩
        have c0 := (lkC_g sa b hb).trans (by rw [hgb])
        have cx := (lkC_g sa x hx).trans (by rw [hgx])
        have HC0 : Bx ((lkC sa)[0]? = some (.int .i64 (MR : Nat))) := Bx.mk (by rw [← hMR]; rfl)
        have HPW : Bx (IntKind.i64.wrap (2 ^ x) = (pw : Int)) := Bx.mk ((IntWalk.i64_left _).trans (by rw [wrap_pow _ (by omega), ← hpw]; push_cast; rfl))
        have HORR : Bx (bits .or .i64 (MR : Int) (pw : Int) = (MR2 : Nat)) := Bx.mk (or_updB hx hMR hMR2 hpw)
        have HSETR : Bx ((lkC sa).setIfInBounds 0 (.int .i64 (MR2 : Nat)) = lkC sr) := Bx.mk (by rw [← hsr]; exact lkC_setR sa _ _ hMR2)
        have HCB : Bx ((lkC sr)[2 + b]? = some (.int .i64 gb)) := Bx.mk (by rw [← hsr, ← hgb]; exact lkC_g ⟨updB sa.R x, sa.K, sa.g⟩ b hb)
        have HCX : Bx ((lkC sr)[2 + x]? = some (.int .i64 gx)) := Bx.mk (by rw [← hsr, ← hgx]; exact lkC_g ⟨updB sa.R x, sa.K, sa.g⟩ x hx)
        have HSETG : Bx ((lkC sr).setIfInBounds (2 + x) (.int .i64 (gb + 1)) = lkC sg) := Bx.mk (by rw [← hsr, ← hsg]; exact lkC_setG ⟨updB sa.R x, sa.K, sa.g⟩ x _ hx)
        have hgb2 := HBD.out.gb
        rw [hgb] at hgb2
        have hw : IntKind.i64.wrap (gb + 1) = gb + 1 := IntWalk.i64_in _ (by omega)
        have HW := Bx.mk hw
        have HYES : (!sa.R x || decide (gb + 1 < gx)) = true → Bx (lookTo ds b st (k + 1) = sg) ∧ Bx (LB b m sg) := fun h => ⟨Bx.mk (by rw [lookTo_step HDK.out, HST.out]; unfold look1; rw [HO.out]; simp only []; rw [if_pos (by rw [hgb, hgx]; exact h), hgb]; exact hsg), Bx.mk (by rw [← hsg, ← hgb]; exact HBD.out.step (by rw [hgb, hgx]; exact h))⟩
        have HNO : (!sa.R x || decide (gb + 1 < gx)) = false → Bx (lookTo ds b st (k + 1) = sa) := fun h => Bx.mk (by rw [lookTo_step HDK.out, HST.out]; unfold look1; rw [HO.out]; simp only []; rw [if_neg (by rw [hgb, hgx, h]; simp)])
        have hb32 : MR < 4294967296 := by rw [← hMR]; exact mset32_lt _
        have hbR := and_one MR x (by omega)
        have qb : ∀ j, (wr.alloc (.cells (rowOf d).toArray 77)).cell? ⟨G, j, none⟩ = _ := HS5.out.cells 1 rfl
        have r0 := (qb 0).trans HC0.out
        have rgb := (qb (2 + b)).trans c0
        have rgx := (qb (2 + x)).trans cx
        clear qb hgb hgx hpw hMR2 hsr hsg c0 cx
        cases hRx : sa.R x with
        | false =>
          obtain ⟨HST2, HBD2⟩ := HYES (by rw [hRx]; rfl)
          rw [show bit MR x = 0 by rw [← hMR]; exact bit_off hRx] at hbR
          clear hRx HYES HNO hMR rgb rgx hw
          go_upto_region 6 with (first
            | (refine wpList_load_arr 77 (.tmp 22) rfl rfl 3 32 undBeh rb (off + k * 32) (rowOf d) rfl (by rw [rowOf_len]; exact infoBeh) HLD.out ?_)
            | (refine wpList_store_arr 77 (.tmp 7) (.tmp 23) rfl rfl _ (rowOf d) rfl rfl (by rw [rowOf_len]; exact infoBeh) (by rw [rowOf_len]; rfl) (by simp [rowOf, Value.oneCell']) ?_))
          go_quiet (fail)
          have HS6 := Lib.hid (HS5.out.drewN nq)
          clear HS5 HS r0
          go_upto_region 7 with (fail)
          refine wp_reg (σ := Unit) (by kernel_rfl) (by kernel_rfl) (by kernel_rfl)
            (fun s i => match i with
              | 0 => .pointer (some ⟨G, 0, none⟩)
              | 1 => .pointer (some ⟨G, 0, none⟩)
              | 2 => .pointer (some ⟨G, 0, none⟩)
              | 3 => .int .i64 (MR : Nat)
              | 4 => .int .i64 (x : Nat)
              | 5 => .int .i64 (pw : Nat)
              | 6 => .int .i64 (MR2 : Nat)
              | 7 => .pointer (some ⟨G, 0, none⟩)
              | 8 => .pointer (some ⟨G, 0, none⟩)
              | _ => undef)
            (fun D s wx => Sn w wx fun i => match i with
              | 0 => some (rBeh (.slice (some ⟨rb, off, none⟩) n RC) ds)
              | 1 => some (rBlk G 79 (if D 9 = true then lkC (sr) else lkC (sa)))
              | _ => none)
            () ?_ ?_ ?_
          · intro D hD
            refine ((Sn.of_st HS6.out).quiet ((Below.refl _ _).drew)).congr fun i => ?_
            match i with
            | 0 => rfl
            | 1 => simp only [hD 9 (by decide)]; rfl
            | q + 2 => rfl
          · refine StepAll.cons (fun D s wx hR (hDi : D 0 = false) hd hsh a' hs K hK => ?_) ?_
            · have e0 := hs.old 0 (u := .pointer (some ⟨G, 0, none⟩)) (by kernel_rfl) rfl
              clear hs
              go_simp
              exact hK s wx (fun _ _ => rfl) hR
            refine StepAll.cons (fun D s wx hR (hDi : D 1 = false) hd hsh a' hs K hK => ?_) ?_
            · have e53 := hs.at_ 0 53 (u := .pointer (some ⟨G, 0, none⟩)) rfl (hd ⟨0, .data⟩ (by simp) rfl) (by kernel_rfl) (by kernel_rfl) rfl
              clear hs
              go_simp
              exact hK s wx (fun _ _ => rfl) hR
            refine StepAll.cons (fun D s wx hR (hDi : D 2 = false) hd hsh a' hs K hK => ?_) ?_
            · have e54 := hs.at_ 1 54 (u := .pointer (some ⟨G, 0, none⟩)) rfl (hd ⟨1, .data⟩ (by simp) rfl) (by kernel_rfl) (by kernel_rfl) rfl
              clear hs
              go_simp
              exact hK s wx (fun _ _ => rfl) hR
            refine StepAll.cons (fun D s wx hR (hDi : D 3 = false) hd hsh a' hs K hK => ?_) ?_
            · have e55 := hs.at_ 2 55 (u := .pointer (some ⟨G, 0, none⟩)) rfl (hd ⟨2, .data⟩ (by simp) rfl) (by kernel_rfl) (by kernel_rfl) rfl
              clear hs
              have n6 : D 6 = false := hsh.no hDi 6 rfl ⟨3, .data⟩ (by simp) rfl rfl
              have n9 : D 9 = false := hsh.no n6 9 rfl ⟨6, .data⟩ (by simp) rfl rfl
              have kb : Blk wx G 79 (lkC (sa)) := hR.blk 1 (by simp only [n9]; rfl)
              have c0 : wx.cell? ⟨G, 0, none⟩ = some (.int .i64 (MR : Nat)) := (kb.cell 0).trans HC0.out
              go_simp
              exact hK s wx (fun _ _ => rfl) hR
            refine StepAll.cons (fun D s wx hR (hDi : D 4 = false) hd hsh a' hs K hK => ?_) ?_
            · have e8 := hs.old 8 (u := .int .i64 (x : Nat)) (by kernel_rfl) rfl
              clear hs
              go_simp
              exact hK s wx (fun _ _ => rfl) hR
            refine StepAll.cons (fun D s wx hR (hDi : D 5 = false) hd hsh a' hs K hK => ?_) ?_
            · have e57 := hs.at_ 4 57 (u := .int .i64 (x : Nat)) rfl (hd ⟨4, .data⟩ (by simp) rfl) (by kernel_rfl) (by kernel_rfl) rfl
              clear hs
              have hpw := HPW.out
              go_simp
              exact hK s wx (fun _ _ => rfl) hR
            refine StepAll.cons (fun D s wx hR (hDi : D 6 = false) hd hsh a' hs K hK => ?_) ?_
            · have e56 := hs.at_ 3 56 (u := .int .i64 (MR : Nat)) rfl (hd ⟨3, .data⟩ (by simp) rfl) (by kernel_rfl) (by kernel_rfl) rfl
              have e58 := hs.at_ 5 58 (u := .int .i64 (pw : Nat)) rfl (hd ⟨5, .data⟩ (by simp) rfl) (by kernel_rfl) (by kernel_rfl) rfl
              clear hs
              have hor := HORR.out
              go_simp
              exact hK s wx (fun _ _ => rfl) hR
            refine StepAll.cons (fun D s wx hR (hDi : D 7 = false) hd hsh a' hs K hK => ?_) ?_
            · have e53 := hs.at_ 0 53 (u := .pointer (some ⟨G, 0, none⟩)) rfl (hd ⟨0, .data⟩ (by simp) rfl) (by kernel_rfl) (by kernel_rfl) rfl
              clear hs
              go_simp
              exact hK s wx (fun _ _ => rfl) hR
            refine StepAll.cons (fun D s wx hR (hDi : D 8 = false) hd hsh a' hs K hK => ?_) ?_
            · have e60 := hs.at_ 7 60 (u := .pointer (some ⟨G, 0, none⟩)) rfl (hd ⟨7, .data⟩ (by simp) rfl) (by kernel_rfl) (by kernel_rfl) rfl
              clear hs
              go_simp
              exact hK s wx (fun _ _ => rfl) hR
            refine StepAll.cons (fun D s wx hR (hDi : D 9 = false) hd hsh a' hs K hK => ?_) ?_
            · have e61 := hs.at_ 8 61 (u := .pointer (some ⟨G, 0, none⟩)) rfl (hd ⟨8, .data⟩ (by simp) rfl) (by kernel_rfl) (by kernel_rfl) rfl
              have e59 := hs.at_ 6 59 (u := .int .i64 (MR2 : Nat)) rfl (hd ⟨6, .data⟩ (by simp) rfl) (by kernel_rfl) (by kernel_rfl) rfl
              clear hs
              have kb : Blk wx G 79 (lkC (sa)) := hR.blk 1 (by simp only [hDi] <;> rfl)
              have f0 := kb.frozen 0
              have c0 : wx.cell? ⟨G, 0, none⟩ = some (.int .i64 (MR : Nat)) := (kb.cell 0).trans HC0.out
              go_simp
              exact hK s _ (fun _ _ => rfl) ((hR.set 1 (cs := lkC (sa)) (by simp only [hDi]; rfl) 0 (.int .i64 (MR2 : Nat))).congr
                  (fun i => by
                    match i with
                    | 0 => rfl
                    | 1 => (show some (rBlk G 79 (lkC (sr))) = some (rBlk G 79 ((lkC (sa)).setIfInBounds 0 (.int .i64 (MR2 : Nat)))); rw [HSETR.out])
                    | q + 2 => exact (if_neg (show ¬ (q + 2 = 1) by omega)).symm))
            exact StepAll.nil
          · intro D s wx hR hD
            simp only [putA, Act.put, List.setIfInBounds_toArray, List.set_cons_zero, List.set_cons_succ]
            have HS7 : Hid (St w wx [rBeh (.slice (some ⟨rb, off, none⟩) n RC) ds, rBlk G 79 (lkC (sr))]) := Lib.hid (hR.to_st [0, 1] (by decide) (by simp only [List.map, hD 9 (by decide)] <;> rfl))
            clear hR hD HS6
            go_upto_region 8 with (fail)
            refine wp_reg (σ := Unit) (by kernel_rfl) (by kernel_rfl) (by kernel_rfl)
              (fun s i => match i with
                | 0 => .pointer (some ⟨G, 0, none⟩)
                | 1 => .int .i64 (x : Nat)
                | 2 => .pointer (some ⟨G, 0, none⟩)
                | 3 => .int .i64 (b : Nat)
                | 4 => .pointer (some ⟨G, 0, none⟩)
                | 5 => .pointer (some ⟨G, 2, none⟩)
                | 6 => .pointer (some ⟨G, 2 + b, none⟩)
                | 7 => .int .i64 gb
                | 8 => .int .i64 (gb + 1)
                | 9 => .pointer (some ⟨G, 0, none⟩)
                | 10 => .pointer (some ⟨G, 2, none⟩)
                | 11 => .pointer (some ⟨G, 2 + x, none⟩)
                | _ => undef)
              (fun D s wx => Sn w wx fun i => match i with
                | 0 => some (rBeh (.slice (some ⟨rb, off, none⟩) n RC) ds)
                | 1 => some (rBlk G 79 (if D 12 = true then lkC (sg) else lkC (sr)))
                | _ => none)
              () ?_ ?_ ?_
            · intro D hD
              refine ((Sn.of_st HS7.out).quiet ((Below.refl _ _).drew)).congr fun i => ?_
              match i with
              | 0 => rfl
              | 1 => simp only [hD 12 (by decide)]; rfl
              | q + 2 => rfl
            · refine StepAll.cons (fun D s wx hR (hDi : D 0 = false) hd hsh a' hs K hK => ?_) ?_
              · have e0 := hs.old 0 (u := .pointer (some ⟨G, 0, none⟩)) (by kernel_rfl) rfl
                clear hs
                go_simp
                exact hK s wx (fun _ _ => rfl) hR
              refine StepAll.cons (fun D s wx hR (hDi : D 1 = false) hd hsh a' hs K hK => ?_) ?_
              · have e8 := hs.old 8 (u := .int .i64 (x : Nat)) (by kernel_rfl) rfl
                clear hs
                go_simp
                exact hK s wx (fun _ _ => rfl) hR
              refine StepAll.cons (fun D s wx hR (hDi : D 2 = false) hd hsh a' hs K hK => ?_) ?_
              · have e0 := hs.old 0 (u := .pointer (some ⟨G, 0, none⟩)) (by kernel_rfl) rfl
                clear hs
                go_simp
                exact hK s wx (fun _ _ => rfl) hR
              refine StepAll.cons (fun D s wx hR (hDi : D 3 = false) hd hsh a' hs K hK => ?_) ?_
              · have e2 := hs.old 2 (u := .int .i64 (b : Nat)) (by kernel_rfl) rfl
                clear hs
                go_simp
                exact hK s wx (fun _ _ => rfl) hR
              refine StepAll.cons (fun D s wx hR (hDi : D 4 = false) hd hsh a' hs K hK => ?_) ?_
              · have e64 := hs.at_ 2 64 (u := .pointer (some ⟨G, 0, none⟩)) rfl (hd ⟨2, .data⟩ (by simp) rfl) (by kernel_rfl) (by kernel_rfl) rfl
                clear hs
                go_simp
                exact hK s wx (fun _ _ => rfl) hR
              refine StepAll.cons (fun D s wx hR (hDi : D 5 = false) hd hsh a' hs K hK => ?_) ?_
              · have e66 := hs.at_ 4 66 (u := .pointer (some ⟨G, 0, none⟩)) rfl (hd ⟨4, .data⟩ (by simp) rfl) (by kernel_rfl) (by kernel_rfl) rfl
                clear hs
                go_simp
                exact hK s wx (fun _ _ => rfl) hR
              refine StepAll.cons (fun D s wx hR (hDi : D 6 = false) hd hsh a' hs K hK => ?_) ?_
              · have e67 := hs.at_ 5 67 (u := .pointer (some ⟨G, 2, none⟩)) rfl (hd ⟨5, .data⟩ (by simp) rfl) (by kernel_rfl) (by kernel_rfl) rfl
                have e65 := hs.at_ 3 65 (u := .int .i64 (b : Nat)) rfl (hd ⟨3, .data⟩ (by simp) rfl) (by kernel_rfl) (by kernel_rfl) rfl
                clear hs
                have hbi : (b : Int) < 32 := by omega
                go_simp
                exact hK s wx (fun _ _ => rfl) hR
              refine StepAll.cons (fun D s wx hR (hDi : D 7 = false) hd hsh a' hs K hK => ?_) ?_
              · have e68 := hs.at_ 6 68 (u := .pointer (some ⟨G, 2 + b, none⟩)) rfl (hd ⟨6, .data⟩ (by simp) rfl) (by kernel_rfl) (by kernel_rfl) rfl
                clear hs
                have n8 : D 8 = false := hsh.no hDi 8 rfl ⟨7, .data⟩ (by simp) rfl rfl
                have n12 : D 12 = false := hsh.no n8 12 rfl ⟨8, .data⟩ (by simp) rfl rfl
                have kb : Blk wx G 79 (lkC (sr)) := hR.blk 1 (by simp only [n12]; rfl)
                have c0 : wx.cell? ⟨G, 2 + b, none⟩ = some (.int .i64 gb) := (kb.cell (2 + b)).trans HCB.out
                go_simp
                exact hK s wx (fun _ _ => rfl) hR
              refine StepAll.cons (fun D s wx hR (hDi : D 8 = false) hd hsh a' hs K hK => ?_) ?_
              · have e69 := hs.at_ 7 69 (u := .int .i64 gb) rfl (hd ⟨7, .data⟩ (by simp) rfl) (by kernel_rfl) (by kernel_rfl) rfl
                clear hs
                have hw := HW.out
                go_simp
                exact hK s wx (fun _ _ => rfl) hR
              refine StepAll.cons (fun D s wx hR (hDi : D 9 = false) hd hsh a' hs K hK => ?_) ?_
              · have e62 := hs.at_ 0 62 (u := .pointer (some ⟨G, 0, none⟩)) rfl (hd ⟨0, .data⟩ (by simp) rfl) (by kernel_rfl) (by kernel_rfl) rfl
                clear hs
                go_simp
                exact hK s wx (fun _ _ => rfl) hR
              refine StepAll.cons (fun D s wx hR (hDi : D 10 = false) hd hsh a' hs K hK => ?_) ?_
              · have e71 := hs.at_ 9 71 (u := .pointer (some ⟨G, 0, none⟩)) rfl (hd ⟨9, .data⟩ (by simp) rfl) (by kernel_rfl) (by kernel_rfl) rfl
                clear hs
                go_simp
                exact hK s wx (fun _ _ => rfl) hR
              refine StepAll.cons (fun D s wx hR (hDi : D 11 = false) hd hsh a' hs K hK => ?_) ?_
              · have e72 := hs.at_ 10 72 (u := .pointer (some ⟨G, 2, none⟩)) rfl (hd ⟨10, .data⟩ (by simp) rfl) (by kernel_rfl) (by kernel_rfl) rfl
                have e63 := hs.at_ 1 63 (u := .int .i64 (x : Nat)) rfl (hd ⟨1, .data⟩ (by simp) rfl) (by kernel_rfl) (by kernel_rfl) rfl
                clear hs
                have hxi : (x : Int) < 32 := by omega
                go_simp
                exact hK s wx (fun _ _ => rfl) hR
              refine StepAll.cons (fun D s wx hR (hDi : D 12 = false) hd hsh a' hs K hK => ?_) ?_
              · have e73 := hs.at_ 11 73 (u := .pointer (some ⟨G, 2 + x, none⟩)) rfl (hd ⟨11, .data⟩ (by simp) rfl) (by kernel_rfl) (by kernel_rfl) rfl
                have e70 := hs.at_ 8 70 (u := .int .i64 (gb + 1)) rfl (hd ⟨8, .data⟩ (by simp) rfl) (by kernel_rfl) (by kernel_rfl) rfl
                clear hs
                have kb : Blk wx G 79 (lkC (sr)) := hR.blk 1 (by simp only [hDi] <;> rfl)
                have f0 := kb.frozen (2 + x)
                have c0 : wx.cell? ⟨G, 2 + x, none⟩ = some (.int .i64 gx) := (kb.cell (2 + x)).trans HCX.out
                go_simp
                exact hK s _ (fun _ _ => rfl) ((hR.set 1 (cs := lkC (sr)) (by simp only [hDi]; rfl) (2 + x) (.int .i64 (gb + 1))).congr
                    (fun i => by
                      match i with
                      | 0 => rfl
                      | 1 => (show some (rBlk G 79 (lkC (sg))) = some (rBlk G 79 ((lkC (sr)).setIfInBounds (2 + x) (.int .i64 (gb + 1)))); rw [HSETG.out])
                      | q + 2 => exact (if_neg (show ¬ (q + 2 = 1) by omega)).symm))
              exact StepAll.nil
            · intro D s wx hR hD
              simp only [putA, Act.put, List.setIfInBounds_toArray, List.set_cons_zero, List.set_cons_succ]
              have HS8 : Hid (St w wx [rBeh (.slice (some ⟨rb, off, none⟩) n RC) ds, rBlk G 79 (lkC (sg))]) := Lib.hid (hR.to_st [0, 1] (by decide) (by simp only [List.map, hD 12 (by decide)] <;> rfl))
              clear hR hD HS7
              go_wp2
              go_roundw
              case rel => exact ⟨k + 1, by omega, sg, HST2, HBD2, by go_num, HS8.out⟩
              case measure => simp [intOf]; omega
        | true =>
          rw [show bit MR x = 1 by rw [← hMR]; exact bit_on hx hRx] at hbR
          by_cases hlt2 : gb + 1 < gx
          · obtain ⟨HST2, HBD2⟩ := HYES (by rw [decide_eq_true hlt2, Bool.or_true])
            have hd2 : decide (gb + 1 < gx) = true := decide_eq_true hlt2
            clear hRx HYES HNO hMR
            go_upto_region 6 with (first
              | (refine wpList_load_arr 77 (.tmp 22) rfl rfl 3 32 undBeh rb (off + k * 32) (rowOf d) rfl (by rw [rowOf_len]; exact infoBeh) HLD.out ?_)
              | (refine wpList_store_arr 77 (.tmp 7) (.tmp 23) rfl rfl _ (rowOf d) rfl rfl (by rw [rowOf_len]; exact infoBeh) (by rw [rowOf_len]; rfl) (by simp [rowOf, Value.oneCell']) ?_))
            go_quiet (fail)
            have HS6 := Lib.hid (HS5.out.drewN nq)
            clear HS5 HS r0 rgb rgx hw
            go_upto_region 7 with (fail)
            refine wp_reg (σ := Unit) (by kernel_rfl) (by kernel_rfl) (by kernel_rfl)
              (fun s i => match i with
                | 0 => .pointer (some ⟨G, 0, none⟩)
                | 1 => .pointer (some ⟨G, 0, none⟩)
                | 2 => .pointer (some ⟨G, 0, none⟩)
                | 3 => .int .i64 (MR : Nat)
                | 4 => .int .i64 (x : Nat)
                | 5 => .int .i64 (pw : Nat)
                | 6 => .int .i64 (MR2 : Nat)
                | 7 => .pointer (some ⟨G, 0, none⟩)
                | 8 => .pointer (some ⟨G, 0, none⟩)
                | _ => undef)
              (fun D s wx => Sn w wx fun i => match i with
                | 0 => some (rBeh (.slice (some ⟨rb, off, none⟩) n RC) ds)
                | 1 => some (rBlk G 79 (if D 9 = true then lkC (sr) else lkC (sa)))
                | _ => none)
              () ?_ ?_ ?_
            · intro D hD
              refine ((Sn.of_st HS6.out).quiet ((Below.refl _ _).drew)).congr fun i => ?_
              match i with
              | 0 => rfl
              | 1 => simp only [hD 9 (by decide)]; rfl
              | q + 2 => rfl
            · refine StepAll.cons (fun D s wx hR (hDi : D 0 = false) hd hsh a' hs K hK => ?_) ?_
              · have e0 := hs.old 0 (u := .pointer (some ⟨G, 0, none⟩)) (by kernel_rfl) rfl
                clear hs
                go_simp
                exact hK s wx (fun _ _ => rfl) hR
              refine StepAll.cons (fun D s wx hR (hDi : D 1 = false) hd hsh a' hs K hK => ?_) ?_
              · have e53 := hs.at_ 0 53 (u := .pointer (some ⟨G, 0, none⟩)) rfl (hd ⟨0, .data⟩ (by simp) rfl) (by kernel_rfl) (by kernel_rfl) rfl
                clear hs
                go_simp
                exact hK s wx (fun _ _ => rfl) hR
              refine StepAll.cons (fun D s wx hR (hDi : D 2 = false) hd hsh a' hs K hK => ?_) ?_
              · have e54 := hs.at_ 1 54 (u := .pointer (some ⟨G, 0, none⟩)) rfl (hd ⟨1, .data⟩ (by simp) rfl) (by kernel_rfl) (by kernel_rfl) rfl
                clear hs
                go_simp
                exact hK s wx (fun _ _ => rfl) hR
              refine StepAll.cons (fun D s wx hR (hDi : D 3 = false) hd hsh a' hs K hK => ?_) ?_
              · have e55 := hs.at_ 2 55 (u := .pointer (some ⟨G, 0, none⟩)) rfl (hd ⟨2, .data⟩ (by simp) rfl) (by kernel_rfl) (by kernel_rfl) rfl
                clear hs
                have n6 : D 6 = false := hsh.no hDi 6 rfl ⟨3, .data⟩ (by simp) rfl rfl
                have n9 : D 9 = false := hsh.no n6 9 rfl ⟨6, .data⟩ (by simp) rfl rfl
                have kb : Blk wx G 79 (lkC (sa)) := hR.blk 1 (by simp only [n9]; rfl)
                have c0 : wx.cell? ⟨G, 0, none⟩ = some (.int .i64 (MR : Nat)) := (kb.cell 0).trans HC0.out
                go_simp
                exact hK s wx (fun _ _ => rfl) hR
              refine StepAll.cons (fun D s wx hR (hDi : D 4 = false) hd hsh a' hs K hK => ?_) ?_
              · have e8 := hs.old 8 (u := .int .i64 (x : Nat)) (by kernel_rfl) rfl
                clear hs
                go_simp
                exact hK s wx (fun _ _ => rfl) hR
              refine StepAll.cons (fun D s wx hR (hDi : D 5 = false) hd hsh a' hs K hK => ?_) ?_
              · have e57 := hs.at_ 4 57 (u := .int .i64 (x : Nat)) rfl (hd ⟨4, .data⟩ (by simp) rfl) (by kernel_rfl) (by kernel_rfl) rfl
                clear hs
                have hpw := HPW.out
                go_simp
                exact hK s wx (fun _ _ => rfl) hR
              refine StepAll.cons (fun D s wx hR (hDi : D 6 = false) hd hsh a' hs K hK => ?_) ?_
              · have e56 := hs.at_ 3 56 (u := .int .i64 (MR : Nat)) rfl (hd ⟨3, .data⟩ (by simp) rfl) (by kernel_rfl) (by kernel_rfl) rfl
                have e58 := hs.at_ 5 58 (u := .int .i64 (pw : Nat)) rfl (hd ⟨5, .data⟩ (by simp) rfl) (by kernel_rfl) (by kernel_rfl) rfl
                clear hs
                have hor := HORR.out
                go_simp
                exact hK s wx (fun _ _ => rfl) hR
              refine StepAll.cons (fun D s wx hR (hDi : D 7 = false) hd hsh a' hs K hK => ?_) ?_
              · have e53 := hs.at_ 0 53 (u := .pointer (some ⟨G, 0, none⟩)) rfl (hd ⟨0, .data⟩ (by simp) rfl) (by kernel_rfl) (by kernel_rfl) rfl
                clear hs
                go_simp
                exact hK s wx (fun _ _ => rfl) hR
              refine StepAll.cons (fun D s wx hR (hDi : D 8 = false) hd hsh a' hs K hK => ?_) ?_
              · have e60 := hs.at_ 7 60 (u := .pointer (some ⟨G, 0, none⟩)) rfl (hd ⟨7, .data⟩ (by simp) rfl) (by kernel_rfl) (by kernel_rfl) rfl
                clear hs
                go_simp
                exact hK s wx (fun _ _ => rfl) hR
              refine StepAll.cons (fun D s wx hR (hDi : D 9 = false) hd hsh a' hs K hK => ?_) ?_
              · have e61 := hs.at_ 8 61 (u := .pointer (some ⟨G, 0, none⟩)) rfl (hd ⟨8, .data⟩ (by simp) rfl) (by kernel_rfl) (by kernel_rfl) rfl
                have e59 := hs.at_ 6 59 (u := .int .i64 (MR2 : Nat)) rfl (hd ⟨6, .data⟩ (by simp) rfl) (by kernel_rfl) (by kernel_rfl) rfl
                clear hs
                have kb : Blk wx G 79 (lkC (sa)) := hR.blk 1 (by simp only [hDi] <;> rfl)
                have f0 := kb.frozen 0
                have c0 : wx.cell? ⟨G, 0, none⟩ = some (.int .i64 (MR : Nat)) := (kb.cell 0).trans HC0.out
                go_simp
                exact hK s _ (fun _ _ => rfl) ((hR.set 1 (cs := lkC (sa)) (by simp only [hDi]; rfl) 0 (.int .i64 (MR2 : Nat))).congr
                    (fun i => by
                      match i with
                      | 0 => rfl
                      | 1 => (show some (rBlk G 79 (lkC (sr))) = some (rBlk G 79 ((lkC (sa)).setIfInBounds 0 (.int .i64 (MR2 : Nat)))); rw [HSETR.out])
                      | q + 2 => exact (if_neg (show ¬ (q + 2 = 1) by omega)).symm))
              exact StepAll.nil
            · intro D s wx hR hD
              simp only [putA, Act.put, List.setIfInBounds_toArray, List.set_cons_zero, List.set_cons_succ]
              have HS7 : Hid (St w wx [rBeh (.slice (some ⟨rb, off, none⟩) n RC) ds, rBlk G 79 (lkC (sr))]) := Lib.hid (hR.to_st [0, 1] (by decide) (by simp only [List.map, hD 9 (by decide)] <;> rfl))
              clear hR hD HS6
              go_upto_region 8 with (fail)
              refine wp_reg (σ := Unit) (by kernel_rfl) (by kernel_rfl) (by kernel_rfl)
                (fun s i => match i with
                  | 0 => .pointer (some ⟨G, 0, none⟩)
                  | 1 => .int .i64 (x : Nat)
                  | 2 => .pointer (some ⟨G, 0, none⟩)
                  | 3 => .int .i64 (b : Nat)
                  | 4 => .pointer (some ⟨G, 0, none⟩)
                  | 5 => .pointer (some ⟨G, 2, none⟩)
                  | 6 => .pointer (some ⟨G, 2 + b, none⟩)
                  | 7 => .int .i64 gb
                  | 8 => .int .i64 (gb + 1)
                  | 9 => .pointer (some ⟨G, 0, none⟩)
                  | 10 => .pointer (some ⟨G, 2, none⟩)
                  | 11 => .pointer (some ⟨G, 2 + x, none⟩)
                  | _ => undef)
                (fun D s wx => Sn w wx fun i => match i with
                  | 0 => some (rBeh (.slice (some ⟨rb, off, none⟩) n RC) ds)
                  | 1 => some (rBlk G 79 (if D 12 = true then lkC (sg) else lkC (sr)))
                  | _ => none)
                () ?_ ?_ ?_
              · intro D hD
                refine ((Sn.of_st HS7.out).quiet ((Below.refl _ _).drew)).congr fun i => ?_
                match i with
                | 0 => rfl
                | 1 => simp only [hD 12 (by decide)]; rfl
                | q + 2 => rfl
              · refine StepAll.cons (fun D s wx hR (hDi : D 0 = false) hd hsh a' hs K hK => ?_) ?_
                · have e0 := hs.old 0 (u := .pointer (some ⟨G, 0, none⟩)) (by kernel_rfl) rfl
                  clear hs
                  go_simp
                  exact hK s wx (fun _ _ => rfl) hR
                refine StepAll.cons (fun D s wx hR (hDi : D 1 = false) hd hsh a' hs K hK => ?_) ?_
                · have e8 := hs.old 8 (u := .int .i64 (x : Nat)) (by kernel_rfl) rfl
                  clear hs
                  go_simp
                  exact hK s wx (fun _ _ => rfl) hR
                refine StepAll.cons (fun D s wx hR (hDi : D 2 = false) hd hsh a' hs K hK => ?_) ?_
                · have e0 := hs.old 0 (u := .pointer (some ⟨G, 0, none⟩)) (by kernel_rfl) rfl
                  clear hs
                  go_simp
                  exact hK s wx (fun _ _ => rfl) hR
                refine StepAll.cons (fun D s wx hR (hDi : D 3 = false) hd hsh a' hs K hK => ?_) ?_
                · have e2 := hs.old 2 (u := .int .i64 (b : Nat)) (by kernel_rfl) rfl
                  clear hs
                  go_simp
                  exact hK s wx (fun _ _ => rfl) hR
                refine StepAll.cons (fun D s wx hR (hDi : D 4 = false) hd hsh a' hs K hK => ?_) ?_
                · have e64 := hs.at_ 2 64 (u := .pointer (some ⟨G, 0, none⟩)) rfl (hd ⟨2, .data⟩ (by simp) rfl) (by kernel_rfl) (by kernel_rfl) rfl
                  clear hs
                  go_simp
                  exact hK s wx (fun _ _ => rfl) hR
                refine StepAll.cons (fun D s wx hR (hDi : D 5 = false) hd hsh a' hs K hK => ?_) ?_
                · have e66 := hs.at_ 4 66 (u := .pointer (some ⟨G, 0, none⟩)) rfl (hd ⟨4, .data⟩ (by simp) rfl) (by kernel_rfl) (by kernel_rfl) rfl
                  clear hs
                  go_simp
                  exact hK s wx (fun _ _ => rfl) hR
                refine StepAll.cons (fun D s wx hR (hDi : D 6 = false) hd hsh a' hs K hK => ?_) ?_
                · have e67 := hs.at_ 5 67 (u := .pointer (some ⟨G, 2, none⟩)) rfl (hd ⟨5, .data⟩ (by simp) rfl) (by kernel_rfl) (by kernel_rfl) rfl
                  have e65 := hs.at_ 3 65 (u := .int .i64 (b : Nat)) rfl (hd ⟨3, .data⟩ (by simp) rfl) (by kernel_rfl) (by kernel_rfl) rfl
                  clear hs
                  have hbi : (b : Int) < 32 := by omega
                  go_simp
                  exact hK s wx (fun _ _ => rfl) hR
                refine StepAll.cons (fun D s wx hR (hDi : D 7 = false) hd hsh a' hs K hK => ?_) ?_
                · have e68 := hs.at_ 6 68 (u := .pointer (some ⟨G, 2 + b, none⟩)) rfl (hd ⟨6, .data⟩ (by simp) rfl) (by kernel_rfl) (by kernel_rfl) rfl
                  clear hs
                  have n8 : D 8 = false := hsh.no hDi 8 rfl ⟨7, .data⟩ (by simp) rfl rfl
                  have n12 : D 12 = false := hsh.no n8 12 rfl ⟨8, .data⟩ (by simp) rfl rfl
                  have kb : Blk wx G 79 (lkC (sr)) := hR.blk 1 (by simp only [n12]; rfl)
                  have c0 : wx.cell? ⟨G, 2 + b, none⟩ = some (.int .i64 gb) := (kb.cell (2 + b)).trans HCB.out
                  go_simp
                  exact hK s wx (fun _ _ => rfl) hR
                refine StepAll.cons (fun D s wx hR (hDi : D 8 = false) hd hsh a' hs K hK => ?_) ?_
                · have e69 := hs.at_ 7 69 (u := .int .i64 gb) rfl (hd ⟨7, .data⟩ (by simp) rfl) (by kernel_rfl) (by kernel_rfl) rfl
                  clear hs
                  have hw := HW.out
                  go_simp
                  exact hK s wx (fun _ _ => rfl) hR
                refine StepAll.cons (fun D s wx hR (hDi : D 9 = false) hd hsh a' hs K hK => ?_) ?_
                · have e62 := hs.at_ 0 62 (u := .pointer (some ⟨G, 0, none⟩)) rfl (hd ⟨0, .data⟩ (by simp) rfl) (by kernel_rfl) (by kernel_rfl) rfl
                  clear hs
                  go_simp
                  exact hK s wx (fun _ _ => rfl) hR
                refine StepAll.cons (fun D s wx hR (hDi : D 10 = false) hd hsh a' hs K hK => ?_) ?_
                · have e71 := hs.at_ 9 71 (u := .pointer (some ⟨G, 0, none⟩)) rfl (hd ⟨9, .data⟩ (by simp) rfl) (by kernel_rfl) (by kernel_rfl) rfl
                  clear hs
                  go_simp
                  exact hK s wx (fun _ _ => rfl) hR
                refine StepAll.cons (fun D s wx hR (hDi : D 11 = false) hd hsh a' hs K hK => ?_) ?_
                · have e72 := hs.at_ 10 72 (u := .pointer (some ⟨G, 2, none⟩)) rfl (hd ⟨10, .data⟩ (by simp) rfl) (by kernel_rfl) (by kernel_rfl) rfl
                  have e63 := hs.at_ 1 63 (u := .int .i64 (x : Nat)) rfl (hd ⟨1, .data⟩ (by simp) rfl) (by kernel_rfl) (by kernel_rfl) rfl
                  clear hs
                  have hxi : (x : Int) < 32 := by omega
                  go_simp
                  exact hK s wx (fun _ _ => rfl) hR
                refine StepAll.cons (fun D s wx hR (hDi : D 12 = false) hd hsh a' hs K hK => ?_) ?_
                · have e73 := hs.at_ 11 73 (u := .pointer (some ⟨G, 2 + x, none⟩)) rfl (hd ⟨11, .data⟩ (by simp) rfl) (by kernel_rfl) (by kernel_rfl) rfl
                  have e70 := hs.at_ 8 70 (u := .int .i64 (gb + 1)) rfl (hd ⟨8, .data⟩ (by simp) rfl) (by kernel_rfl) (by kernel_rfl) rfl
                  clear hs
                  have kb : Blk wx G 79 (lkC (sr)) := hR.blk 1 (by simp only [hDi] <;> rfl)
                  have f0 := kb.frozen (2 + x)
                  have c0 : wx.cell? ⟨G, 2 + x, none⟩ = some (.int .i64 gx) := (kb.cell (2 + x)).trans HCX.out
                  go_simp
                  exact hK s _ (fun _ _ => rfl) ((hR.set 1 (cs := lkC (sr)) (by simp only [hDi]; rfl) (2 + x) (.int .i64 (gb + 1))).congr
                      (fun i => by
                        match i with
                        | 0 => rfl
                        | 1 => (show some (rBlk G 79 (lkC (sg))) = some (rBlk G 79 ((lkC (sr)).setIfInBounds (2 + x) (.int .i64 (gb + 1)))); rw [HSETG.out])
                        | q + 2 => exact (if_neg (show ¬ (q + 2 = 1) by omega)).symm))
                exact StepAll.nil
              · intro D s wx hR hD
                simp only [putA, Act.put, List.setIfInBounds_toArray, List.set_cons_zero, List.set_cons_succ]
                have HS8 : Hid (St w wx [rBeh (.slice (some ⟨rb, off, none⟩) n RC) ds, rBlk G 79 (lkC (sg))]) := Lib.hid (hR.to_st [0, 1] (by decide) (by simp only [List.map, hD 12 (by decide)] <;> rfl))
                clear hR hD HS7
                go_wp2
                go_roundw
                case rel => exact ⟨k + 1, by omega, sg, HST2, HBD2, by go_num, HS8.out⟩
                case measure => simp [intOf]; omega
          · have HST2 := HNO (by rw [hRx, decide_eq_false hlt2]; rfl)
            have hd2 : decide (gb + 1 < gx) = false := decide_eq_false hlt2
            clear hRx HYES HNO hMR
            go_upto_region 6 with (first
              | (refine wpList_load_arr 77 (.tmp 22) rfl rfl 3 32 undBeh rb (off + k * 32) (rowOf d) rfl (by rw [rowOf_len]; exact infoBeh) HLD.out ?_)
              | (refine wpList_store_arr 77 (.tmp 7) (.tmp 23) rfl rfl _ (rowOf d) rfl rfl (by rw [rowOf_len]; exact infoBeh) (by rw [rowOf_len]; rfl) (by simp [rowOf, Value.oneCell']) ?_))
            go_quiet (fail)
            have HS6 := Lib.hid (HS5.out.drewN nq)
            clear HS5 HS
            go_wp2
            go_roundw
            case rel => exact ⟨k + 1, by omega, sa, HST2, HBD, by go_num, HS6.out⟩
            case measure => simp [intOf]; omega
end Go.Proofs.YtkimgdfcgfhibaaDoor
