/- LookFor of the program. Printed by gen_lookfor.py. -/
import Derived.Test.YtkimgdfcgfhibaaDoorSLookV
import Derived.Test.YtkimgdfcgfhibaaDoorSNumOkI
import Derived.Test.YtkimgdfcgfhibaaDoorSStepsOn
namespace Go.Proofs.YtkimgdfcgfhibaaDoor
set_option linter.unusedVariables false
set_option linter.unusedSimpArgs false
open Go.ChangeShapes Go.WideShapes Go.ChangeAt Go.RowKit

theorem lookS_K (ds : List DeedD) (b : Nat) (st : LS) : (lookS ds b st).K = updB st.K b := by
  unfold lookS
  have : ∀ (ds : List DeedD) (s : LS), (ds.foldl (look1 b) s).K = s.K := by
    intro ds
    induction ds with
    | nil => intro s; rfl
    | cons d ds ih =>
      intro s
      rw [List.foldl_cons, ih]
      unfold look1
      split
      · rfl
      · split <;> rfl
  rw [this]
/-- what holds of the search after n looks -/
structure LG (n : Nat) (st : LS) : Prop where
  c : cnt st.K 32 = n
  g : ∀ i, i < 32 → 0 ≤ st.g i ∧ st.g i ≤ (n : Int)
theorem LG.le {n : Nat} {st : LS} (h : LG n st) : n ≤ 32 := by rw [← h.c]; exact cnt_le _ _
theorem LG.lb {n b : Nat} {st : LS} {h : Nat → Int} (I : LG n st) (e : bestN h st 32 = some b) : LB b n st ∧ n < 32 := by
  obtain ⟨h1, h2, h3, -⟩ := bestN_some e
  refine ⟨⟨h2, I.g b h1, fun i hi => by have := I.g i hi; omega⟩, ?_⟩
  have := cnt_updB h1 h3
  have := cnt_le (updB st.K b) 32
  have := I.c
  omega
theorem LG.next {ds : List DeedD} {n b : Nat} {st : LS} {h : Nat → Int} (I : LG n st) (e : bestN h st 32 = some b) (L : LB b n (lookS ds b st)) : LG (n + 1) (lookS ds b st) := by
  obtain ⟨h1, h2, h3, -⟩ := bestN_some e
  exact ⟨by rw [lookS_K, cnt_updB h1 h3, I.c], fun i hi => by have := L.all i hi; omega⟩
theorem lookFor_no {t : TaskD} {xs : List Int} (h : numsOk t xs = false) : lookFor t xs = (-1, 0) := by unfold lookFor; rw [h]; simp
theorem lookFor_yes {t : TaskD} {xs : List Int} (h : numsOk t xs = true) : lookFor t xs = lookGo t.deeds (evalCode t.goal) (xv xs) 33 0 (look0 t.start.toNat) := by unfold lookFor; rw [h]; simp
theorem lookGo_none {ds : List DeedD} {goal : Nat → Bool} {h : Nat → Int} {n : Nat} {st : LS} (hn : n ≤ 32) (e : bestN h st 32 = none) : lookGo ds goal h (33 - n) n st = (-1, n) := by
  rw [show 33 - n = (32 - n) + 1 by omega]; simp only [lookGo]; rw [e]
theorem lookGo_goal {ds : List DeedD} {goal : Nat → Bool} {h : Nat → Int} {n b : Nat} {st : LS} (hn : n ≤ 32) (e : bestN h st 32 = some b) (hg : goal b = true) : lookGo ds goal h (33 - n) n st = (st.g b, n + 1) := by
  rw [show 33 - n = (32 - n) + 1 by omega]; simp only [lookGo]; rw [e]; simp [hg]
theorem lookGo_next {ds : List DeedD} {goal : Nat → Bool} {h : Nat → Int} {n b : Nat} {st : LS} (hn : n ≤ 32) (e : bestN h st 32 = some b) (hg : goal b = false) : lookGo ds goal h (33 - n) n st = lookGo ds goal h (33 - (n + 1)) (n + 1) (lookS ds b st) := by
  rw [show 33 - n = (33 - (n + 1)) + 1 by omega]; simp only [lookGo]; rw [e]; simp [hg]
theorem look0_G (s0 : Nat) : LG 0 (look0 s0) := ⟨cnt_none fun k _ => rfl, fun i _ => ⟨Int.le_refl _, Int.le_refl _⟩⟩
theorem lkC_zero (s0 : Nat) (M : Nat) (h : mset (only s0) 32 = M) : lkC (look0 s0) = #[.int .i64 (M : Nat), .int .i64 0, .int .i64 0, .int .i64 0, .int .i64 0, .int .i64 0, .int .i64 0, .int .i64 0, .int .i64 0, .int .i64 0, .int .i64 0, .int .i64 0, .int .i64 0, .int .i64 0, .int .i64 0, .int .i64 0, .int .i64 0, .int .i64 0, .int .i64 0, .int .i64 0, .int .i64 0, .int .i64 0, .int .i64 0, .int .i64 0, .int .i64 0, .int .i64 0, .int .i64 0, .int .i64 0, .int .i64 0, .int .i64 0, .int .i64 0, .int .i64 0, .int .i64 0, .int .i64 0] := by unfold lkC look0; rw [h, mset_zero.2 fun k _ => rfl]; rfl
set_option maxRecDepth 100000 in
set_option maxHeartbeats 2000000 in
theorem lookFor_impl (v : Value) (t : TaskD) (A : Option Addr) (n c : Nat) (xs : List Int) (w : World) (h : RdT w w.heap.size v t) (hx : RdI .i64 w w.heap.size A n c xs) (he : ErrH w) :
    Calls Tryd.prog 24 #[v, .slice A n c] w fun e w' => e = .returned (.tuple #[.int .i64 (lookFor t xs).1, .int .i64 ((lookFor t xs).2 : Nat)]) ∧ Below w.heap.size w w' := by
  have h' := h
  obtain ⟨G, gn, gc, G', n', c', rfl, hg, hgs, hds, hst⟩ := h
  have S0 := (St.refl w).alloc #[.int .i64 t.start, .slice G gn gc, .slice G' n' c'] 26
  have HT := Lib.hid h'
  have HS0 := Lib.hid S0
  have HXI := Lib.hid hx
  have HGE := Lib.hid he
  have HGL := Lib.hid hg
  have HDL := Lib.hid hds.len
  clear S0 h' hg hds he
  obtain ⟨bo, hok⟩ : ∃ b, numsOk t xs = b := ⟨_, rfl⟩
  have HNOK := Lib.hid hok
  clear hok
  cases bo with
  | false =>
    have HPN := Bx.mk (lookFor_no HNOK.out)
    go_enter Tryd.func24, Tryd.ntmps24
    go_wp2_with fail
    refine (numbersOk_impl _ t A n c xs _ (HT.out.up HS0.out.below) (HXI.out.up HS0.out.below) (HGE.out.up HS0.out.below)).mono ?_
    rw [HNOK.out]
    rintro e w1 ⟨rfl, hb1⟩
    have HB := Lib.hid (HS0.out.quiet hb1).below
    clear hb1
    go_wp2
    go_ret2
    exact ⟨by rw [HPN.out]; rfl, HB.out⟩
  | true =>
    have hN := numsOk_iff.1 HNOK.out
    have HNB := Bx.mk hN.bd
    have HPY := Bx.mk (lookFor_yes HNOK.out)
    have HOK := Lib.hid hN.ok
    obtain ⟨hs0, hgok, hn6, hdok⟩ := taskOk_parts t HOK.out
    have HTR := Bx.mk (codeTruth_yes t.goal hgok)
    obtain ⟨GM, hGM⟩ : ∃ N, truthN t.goal = N := ⟨_, rfl⟩
    have HGB : Bx (∀ s, s < 32 → (bit GM s == 1) = evalCode t.goal s) := Bx.mk fun s hs => by rw [← hGM]; exact bit_mset1 _ hs
    have hGM32 : GM < 4294967296 := by rw [← hGM]; exact mset32_lt _
    rw [hGM] at HTR
    obtain ⟨s0, hst0⟩ := Int.eq_ofNat_of_zero_le hs0.1
    have hs32 : s0 < 32 := by omega
    obtain rfl : n = 32 := by rw [← hx.len]; exact hN.len
    obtain ⟨n, hn⟩ : ∃ n, t.deeds.length = n := ⟨_, rfl⟩
    have HL := Bx.mk hn
    rw [hn] at hn6
    have HDOK := Lib.hid hdok
    obtain ⟨xb, xo, rfl, hxb, hxc⟩ := hx.x32
    have HXC := Bx.mk hxc
    rw [hst0] at HS0 HT ⊢
    clear hs0 hN hx hgok hGM hdok hn hxc
    go_enter Tryd.func24, Tryd.ntmps24
    go_wp2_with fail
    refine (numbersOk_impl _ t (some ⟨xb, xo, none⟩) 32 c xs _ (HT.out.up HS0.out.below) (HXI.out.up HS0.out.below) (HGE.out.up HS0.out.below)).mono ?_
    rw [HNOK.out]
    rintro e w1 ⟨rfl, hb1⟩
    have HST0 := Bx.mk hst0
    have HS1 := Lib.hid (HS0.out.quiet hb1)
    clear hb1 HS0 hst0
    go_upto_region 3 with (fail)
    refine wp_reg (σ := Option Addr × Nat) (by kernel_rfl) (by kernel_rfl) (by kernel_rfl)
      (fun s i => match i with
        | 0 => .agg #[.int .i64 s0, .slice G gn gc, .slice G' n' c']
        | 1 => .slice s.1 n s.2
        | 2 => .pointer (some ⟨w.heap.size, 1, none⟩)
        | 3 => .slice G gn gc
        | 4 => .int .i64 (GM : Nat)
        | 5 => .slice s.1 n s.2
        | 6 => .int .i64 (GM : Nat)
        | _ => undef)
      (fun D s wx => Sn w wx fun i => match i with
        | 0 => some (rBlk w.heap.size 26 #[.int .i64 s0, .slice G gn gc, .slice G' n' c'])
        | 1 => if D 1 = true then some (rBeh (.slice s.1 n s.2) t.deeds) else none
        | _ => none)
      (none, 0) ?_ ?_ ?_
    · intro D hD
      refine ((Sn.of_st HS1.out).quiet ((Below.refl _ _).drew)).congr fun i => ?_
      match i with
      | 0 => rfl
      | 1 => exact if_neg (by rw [hD 1 (by decide)]; simp)
      | q + 2 => rfl
    · refine StepAll.cons (fun D s wx hR (hDi : D 0 = false) hd hsh a' hs K hK => ?_) ?_
      · have e2 := hs.old 2 (u := .pointer (some ⟨w.heap.size, 0, none⟩)) (by kernel_rfl) rfl
        clear hs
        have kb : Blk wx (w.heap.size) 26 #[.int .i64 s0, .slice G gn gc, .slice G' n' c'] := hR.blk 0 rfl
        have c0 : wx.cell? ⟨w.heap.size, 0, none⟩ = some (.int .i64 s0) := kb.cell 0
        have c1 : wx.cell? ⟨w.heap.size, 1, none⟩ = some (.slice G gn gc) := kb.cell 1
        have c2 : wx.cell? ⟨w.heap.size, 2, none⟩ = some (.slice G' n' c') := kb.cell 2
        go_simp
        exact hK s wx (fun _ _ => rfl) hR
      refine StepAll.cons (fun D s wx hR (hDi : D 1 = false) hd hsh a' hs K hK => ?_) ?_
      · have e15 := hs.at_ 0 15 (u := .agg #[.int .i64 s0, .slice G gn gc, .slice G' n' c']) rfl (hd ⟨0, .data⟩ (by simp) rfl) (by kernel_rfl) (by kernel_rfl) rfl
        have g15 := getQ e15
        clear hs
        have n5 : D 5 = false := hsh.no hDi 5 rfl ⟨1, .data⟩ (by simp) rfl rfl
        go_simp
        refine (behindAll_any _ t wx (HT.out.up hR.below) HOK.out).mono ?_
        rintro e2 w2 ⟨v2, rfl, s2⟩
        obtain ⟨RA, RC, hrv, -⟩ := s2.rdRow 0 rfl
        simp only [id_eq] at hrv s2 ⊢
        subst hrv
        rw [HL.out] at s2 ⊢
        refine hK (RA, RC) w2
          (fun j hj => by
            match j, hj with
            | 0, hj => rfl
            | 1, hj => rw [hDi] at hj; cases hj
            | 2, hj => rfl
            | 3, hj => rfl
            | 4, hj => rfl
            | 5, hj => rw [n5] at hj; cases hj
            | 6, hj => rfl
            | _ + 7, hj => rfl)
          ((hR.add 1 (if_neg (by rw [hDi]; simp)) s2).congr
            (fun i => by
              match i with
              | 0 => rfl
              | 1 => rfl
              | q + 2 => exact (if_neg (show ¬ (q + 2 = 1) by omega)).symm))
      refine StepAll.cons (fun D s wx hR (hDi : D 2 = false) hd hsh a' hs K hK => ?_) ?_
      · have e2 := hs.old 2 (u := .pointer (some ⟨w.heap.size, 0, none⟩)) (by kernel_rfl) rfl
        clear hs
        go_simp
        exact hK s wx (fun _ _ => rfl) hR
      refine StepAll.cons (fun D s wx hR (hDi : D 3 = false) hd hsh a' hs K hK => ?_) ?_
      · have e17 := hs.at_ 2 17 (u := .pointer (some ⟨w.heap.size, 1, none⟩)) rfl (hd ⟨2, .data⟩ (by simp) rfl) (by kernel_rfl) (by kernel_rfl) rfl
        clear hs
        have kb : Blk wx (w.heap.size) 26 #[.int .i64 s0, .slice G gn gc, .slice G' n' c'] := hR.blk 0 rfl
        have c0 : wx.cell? ⟨w.heap.size, 1, none⟩ = some (.slice G gn gc) := kb.cell 1
        go_simp
        exact hK s wx (fun _ _ => rfl) hR
      refine StepAll.cons (fun D s wx hR (hDi : D 4 = false) hd hsh a' hs K hK => ?_) ?_
      · have e18 := hs.at_ 3 18 (u := .slice G gn gc) rfl (hd ⟨3, .data⟩ (by simp) rfl) (by kernel_rfl) (by kernel_rfl) rfl
        have g18 := getQ e18
        clear hs
        go_simp
        refine (codeTruth_impl G gn gc t.goal wx (HGL.out.up hR.below)).mono ?_
        rw [HTR.out]
        rintro e2 w2 ⟨rfl, hb2⟩
        exact hK s w2 (fun _ _ => rfl) (hR.quiet hb2)
      refine StepAll.cons (fun D s wx hR (hDi : D 5 = false) hd hsh a' hs K hK => ?_) ?_
      · have e16 := hs.at_ 1 16 (u := .slice s.1 n s.2) rfl (hd ⟨1, .data⟩ (by simp) rfl) (by kernel_rfl) (by kernel_rfl) rfl
        clear hs
        go_simp
        exact hK s wx (fun _ _ => rfl) hR
      refine StepAll.cons (fun D s wx hR (hDi : D 6 = false) hd hsh a' hs K hK => ?_) ?_
      · have e19 := hs.at_ 4 19 (u := .int .i64 (GM : Nat)) rfl (hd ⟨4, .data⟩ (by simp) rfl) (by kernel_rfl) (by kernel_rfl) rfl
        clear hs
        go_simp
        exact hK s wx (fun _ _ => rfl) hR
      exact StepAll.nil
    · intro D s wx hR hD
      simp only [putA, Act.put, List.setIfInBounds_toArray, List.set_cons_zero, List.set_cons_succ]
      obtain ⟨RA, RC⟩ := s
      have HS2 : Hid (St w wx [rBlk w.heap.size 26 #[.int .i64 s0, .slice G gn gc, .slice G' n' c'], rBeh (.slice RA n RC) t.deeds]) := Lib.hid (hR.to_st [0, 1] (by decide) (by simp only [List.map, hD 1 (by decide)] <;> rfl))
      clear hR hD HS1
      have q0 : ∀ j, wx.cell? ⟨w.heap.size, j, none⟩ = _ := HS2.out.cells 0 rfl
      obtain ⟨pw, hpw⟩ : ∃ p, 2 ^ s0 = p := ⟨_, rfl⟩
      have hpw2 : IntKind.i64.wrap (2 ^ s0) = (pw : Int) := (IntWalk.i64_left _).trans (by rw [wrap_pow _ (by omega), ← hpw]; push_cast; rfl)
      have HSA : Hid (St w (wx.alloc (.cells #[.int .i64 0, .int .i64 0, .int .i64 0, .int .i64 0, .int .i64 0, .int .i64 0, .int .i64 0, .int .i64 0, .int .i64 0, .int .i64 0, .int .i64 0, .int .i64 0, .int .i64 0, .int .i64 0, .int .i64 0, .int .i64 0, .int .i64 0, .int .i64 0, .int .i64 0, .int .i64 0, .int .i64 0, .int .i64 0, .int .i64 0, .int .i64 0, .int .i64 0, .int .i64 0, .int .i64 0, .int .i64 0, .int .i64 0, .int .i64 0, .int .i64 0, .int .i64 0, .int .i64 0, .int .i64 0] 79)) [rBlk w.heap.size 26 #[.int .i64 s0, .slice G gn gc, .slice G' n' c'], rBeh (.slice RA n RC) t.deeds, rBlk wx.heap.size 79 #[.int .i64 0, .int .i64 0, .int .i64 0, .int .i64 0, .int .i64 0, .int .i64 0, .int .i64 0, .int .i64 0, .int .i64 0, .int .i64 0, .int .i64 0, .int .i64 0, .int .i64 0, .int .i64 0, .int .i64 0, .int .i64 0, .int .i64 0, .int .i64 0, .int .i64 0, .int .i64 0, .int .i64 0, .int .i64 0, .int .i64 0, .int .i64 0, .int .i64 0, .int .i64 0, .int .i64 0, .int .i64 0, .int .i64 0, .int .i64 0, .int .i64 0, .int .i64 0, .int .i64 0, .int .i64 0]]) := Lib.hid (HS2.out.alloc _ _)
      have qa : ∀ j, (wx.alloc (.cells #[.int .i64 0, .int .i64 0, .int .i64 0, .int .i64 0, .int .i64 0, .int .i64 0, .int .i64 0, .int .i64 0, .int .i64 0, .int .i64 0, .int .i64 0, .int .i64 0, .int .i64 0, .int .i64 0, .int .i64 0, .int .i64 0, .int .i64 0, .int .i64 0, .int .i64 0, .int .i64 0, .int .i64 0, .int .i64 0, .int .i64 0, .int .i64 0, .int .i64 0, .int .i64 0, .int .i64 0, .int .i64 0, .int .i64 0, .int .i64 0, .int .i64 0, .int .i64 0, .int .i64 0, .int .i64 0] 79)).cell? ⟨w.heap.size, j, none⟩ = _ := HSA.out.cells 0 rfl
      have qg : ∀ j, (wx.alloc (.cells #[.int .i64 0, .int .i64 0, .int .i64 0, .int .i64 0, .int .i64 0, .int .i64 0, .int .i64 0, .int .i64 0, .int .i64 0, .int .i64 0, .int .i64 0, .int .i64 0, .int .i64 0, .int .i64 0, .int .i64 0, .int .i64 0, .int .i64 0, .int .i64 0, .int .i64 0, .int .i64 0, .int .i64 0, .int .i64 0, .int .i64 0, .int .i64 0, .int .i64 0, .int .i64 0, .int .i64 0, .int .i64 0, .int .i64 0, .int .i64 0, .int .i64 0, .int .i64 0, .int .i64 0, .int .i64 0] 79)).cell? ⟨wx.heap.size, j, none⟩ = _ := HSA.out.cells 2 rfl
      have fg := HSA.out.free 2 rfl
      have HS3 : Hid (St w (wx.alloc (.cells #[.int .i64 (pw : Nat), .int .i64 0, .int .i64 0, .int .i64 0, .int .i64 0, .int .i64 0, .int .i64 0, .int .i64 0, .int .i64 0, .int .i64 0, .int .i64 0, .int .i64 0, .int .i64 0, .int .i64 0, .int .i64 0, .int .i64 0, .int .i64 0, .int .i64 0, .int .i64 0, .int .i64 0, .int .i64 0, .int .i64 0, .int .i64 0, .int .i64 0, .int .i64 0, .int .i64 0, .int .i64 0, .int .i64 0, .int .i64 0, .int .i64 0, .int .i64 0, .int .i64 0, .int .i64 0, .int .i64 0] 79)) [rBeh (.slice RA n RC) t.deeds, rBlk wx.heap.size 79 (lkC (look0 s0))]) := Lib.hid (by
        rw [lkC_zero s0 pw (by rw [mset_only hs32, hpw])]
        exact (HS2.out.alloc #[.int .i64 (pw : Nat), .int .i64 0, .int .i64 0, .int .i64 0, .int .i64 0, .int .i64 0, .int .i64 0, .int .i64 0, .int .i64 0, .int .i64 0, .int .i64 0, .int .i64 0, .int .i64 0, .int .i64 0, .int .i64 0, .int .i64 0, .int .i64 0, .int .i64 0, .int .i64 0, .int .i64 0, .int .i64 0, .int .i64 0, .int .i64 0, .int .i64 0, .int .i64 0, .int .i64 0, .int .i64 0, .int .i64 0, .int .i64 0, .int .i64 0, .int .i64 0, .int .i64 0, .int .i64 0, .int .i64 0] 79).pick [1, 2] (by decide) rfl rfl)
      clear HS2 HSA hpw
      go_wp2
      obtain ⟨gB, hgB⟩ : ∃ g, wx.heap.size = g := ⟨_, rfl⟩
      rw [hgB] at HS3 ⊢
      clear q0 qa qg fg hgB
      have HST : Bx (lookGo t.deeds (evalCode t.goal) (xv xs) (33 - 0) 0 (look0 s0) = lookFor t xs) := Bx.mk (by rw [HPY.out, HST0.out, Int.toNat_natCast])
      go_loopw [9] (fun i wr => ∃ (k : Nat) (st : LS), LG k st ∧ i = .int .i64 k ∧ Bx (lookGo t.deeds (evalCode t.goal) (xv xs) (33 - k) k st = lookFor t xs) ∧ St w wr [rBeh (.slice RA n RC) t.deeds, rBlk gB 79 (lkC st)]) (fun i _ => 33 - (intOf i).toNat)
      case atStart => exact ⟨0, look0 s0, look0_G s0, rfl, HST, HS3.out⟩
      case round =>
        clear HS3 HST
        obtain ⟨k, st, I, rfl, HST, S⟩ := hrel
        have HS := Lib.hid S
        have HI := Lib.hid I
        have hk32 := I.le
        clear S I
        have qc := HS.out.cells 1 rfl
        go_wp2_with fail
        refine (best_any gB st xb xo c xs wr (HS.out.new 1 rfl).2 (Nat.lt_of_lt_of_le hxb HS.out.size) ((qc 0).trans rfl) ((qc 1).trans rfl) (fun i hi => (qc _).trans (lkC_g st i hi)) (fun i hi => (bcells HS.out.below xb _ hxb).trans (HXC.out i hi).2) (fun i hi => by have := HI.out.g i hi; omega) HNB.out).mono ?_
        obtain ⟨o, ho⟩ : ∃ o, bestN (xv xs) st 32 = o := ⟨_, rfl⟩
        rw [ho]
        rintro e w4 ⟨rfl, hb4⟩
        have HS4 := Lib.hid (HS.out.quiet hb4)
        have HO := Bx.mk ho
        clear hb4 HS qc ho
        cases o with
        | none =>
          have HF : Bx (lookFor t xs = (-1, k)) := Bx.mk (by rw [← HST.out]; exact lookGo_none hk32 HO.out)
          simp only [opt]
          go_wp2
          go_ret2
          exact ⟨by rw [HF.out]; rfl, HS4.out.below⟩
        | some b =>
          obtain ⟨hlb, hk31⟩ := HI.out.lb HO.out
          have hb32 := (bestN_some HO.out).1
          have hbG := and_one GM b (by omega)
          have hgb := HGB.out b hb32
          obtain ⟨gb, hgbv⟩ : ∃ x, st.g b = x := ⟨_, rfl⟩
          have HLB := Lib.hid hlb
          clear hlb
          simp only [opt]
          cases hev : evalCode t.goal b with
          | true =>
            have HF : Bx (lookFor t xs = (gb, k + 1)) := Bx.mk (by rw [← HST.out, ← hgbv]; exact lookGo_goal hk32 HO.out hev)
            have r1 : w4.cell? ⟨gB, 2 + b, none⟩ = some (.int .i64 gb) := (HS4.out.cells 1 rfl _).trans (by rw [← hgbv]; exact lkC_g st b hb32)
            rw [show bit GM b = 1 by rw [hev] at hgb; simpa using hgb] at hbG
            clear hgb hgbv hev
            go_wp2
            go_ret2
            exact ⟨by rw [HF.out]; go_num, HS4.out.below⟩
          | false =>
            have HST2 : Bx (lookGo t.deeds (evalCode t.goal) (xv xs) (33 - (k + 1)) (k + 1) (lookS t.deeds b st) = lookFor t xs) := Bx.mk (by rw [← HST.out]; exact (lookGo_next hk32 HO.out hev).symm)
            have hb0 : bit GM b = 0 := by
              rw [hev] at hgb
              have := bit_lt GM b
              have : ¬ bit GM b = 1 := by simpa using hgb
              omega
            rw [hb0] at hbG
            clear hgb hgbv hev hb0
            go_wp2_with fail
            refine (look_any gB st RA n RC t.deeds b k w _ HS4.out HL.out hn6 HDOK.out hb32 HLB.out (by omega)).mono ?_
            rintro e w5 ⟨rfl, s5, l5⟩
            have HS5 := Lib.hid s5
            have HI2 := Lib.hid (HI.out.next HO.out l5)
            clear s5 l5 HS4
            go_wp2
            go_roundw
            case rel => exact ⟨k + 1, _, HI2.out, by go_num, HST2, HS5.out⟩
            case measure => simp [intOf]; omega
end Go.Proofs.YtkimgdfcgfhibaaDoor
