
import Derived.Test.YtkmcengmglgdeaaGreatDoorSCopy
import Derived.Test.YtkmcengmglgdeaaGreatDoorSBook
namespace Go.Proofs.YtkmcengmglgdeaaGreatDoor
set_option linter.unusedVariables false
set_option linter.unusedSimpArgs false
set_option maxRecDepth 100000
set_option maxHeartbeats 8000000
open Go.ChangeShapes Go.WideShapes Go.ChangeAt Go.RowKit
def bookNew (t : TaskD) : BookD := if taskOk t then ⟨t, [], t.start⟩ else ⟨⟨0, [], []⟩, [], 0⟩
theorem St.book0 {w W : World} (h : Below w.heap.size w W) : St w W [rBook (.agg #[.int .i64 0, .slice none 0 0, .slice none 0 0, .slice none 0 0, .int .i64 0]) ⟨⟨0, [], []⟩, [], 0⟩] := ((St.task0 h).call (rInts_nil _ _ (Below.refl _ _))).book (by simp) rfl
theorem Sn.appI {w W W' : World} {M : Nat → Option HRes} (h : Sn w W M) (k : Nat) {v v' : Value} {xs ys : List Int} {n : Nat} (hk : M k = some (rInts v xs)) (hn : n = xs.length + ys.length) (hown : W'.ownsRow 0 3 1 v' n (ints xs ++ ints ys)) (hwf : ∀ y ∈ ys, (Lit.int .i64 y).wf = true)
  (hg : W.grownBy W' v.ownBlock) (hat : v'.ownBlock = v.ownBlock ∨ v'.ownBlock = some W.heap.size) : Sn w W' (fun i => if i = k then some (rInts v' (xs ++ ys)) else M i) :=
 h.mod k hk fun F h1 _ => ⟨v'.ownBlock.toList, ⟨by subst hn; rw [List.length_append, ints_append]; exact hown, fun x hx => (List.mem_append.1 hx).elim (h1.wf x) (hwf x), rfl⟩, fun b hb => by
  rcases hat with e | e
  ·left; rw [h1.foot, ← e]; exact hb
  ·right; rw [e] at hb; simp at hb; omega, by rw [h1.foot]; exact Only.of_grown hg⟩
theorem St.newI (W : World) (g : Nat) (hg : g = W.heap.size) : St W (W.alloc (.cells #[] 3)) [rInts (.slice (some ⟨g, 0, none⟩) 0 0) []] :=
 (St.new1At W g #[] 3 hg).see fun F h _ => blk_ints (xs := []) h (by simp) (by simp) rfl
theorem St.newDs (W : World) (g : Nat) (hg : g = W.heap.size) : St W (W.alloc (.cells #[] 144)) [rDeeds (.slice (some ⟨g, 0, none⟩) 0 0) []] :=
 (St.new1At W g #[] 144 hg).see fun F h _ => blk_deeds h
theorem bookNew_spec (v : Value) (t : TaskD) (w : World) (h : RdT w w.heap.size v t) :
  Calls Tryz.prog 99 #[v] w (Gives w id fun v' => [rBook v' (bookNew t)]) := by
 have h' := h; obtain ⟨A, n, c, A', n', c', rfl, hg, hgs, hds, hst⟩ := h
 have S0 : St w ((w.alloc (Obj.cells #[.int .i64 t.start, .slice A n c, .slice A' n' c'] 26)).alloc (Obj.cells #[.int .i64 0, .slice none 0 0, .slice none 0 0, .slice none 0 0, .int .i64 0] 28)) [rBlk w.heap.size 26 #[.int .i64 t.start, .slice A n c, .slice A' n' c'], rBlk (w.heap.size + 1) 28 #[.int .i64 0, .slice none 0 0, .slice none 0 0, .slice none 0 0, .int .i64 0]] := by
  have := ((St.refl w).alloc #[.int .i64 t.start, .slice A n c, .slice A' n' c'] 26).alloc #[.int .i64 0, .slice none 0 0, .slice none 0 0, .slice none 0 0, .int .i64 0] 28
  simpa using this
 have HT := Lib.hid h'; have HS0 := Lib.hid S0; clear S0 h'; obtain ⟨bo, hok⟩ : ∃ b, taskOk t = b := ⟨_, rfl⟩; have HOK := Lib.hid hok; clear hok; go_enter Tryz.func99, Tryz.ntmps99
 go_wp2_with fail
 refine (taskValid_spec _ t _ (HT.out.up HS0.out.below)).mono ?_; rw [HOK.out]; rintro e w1 ⟨rfl, hb1⟩; have S1 := HS0.out.quiet hb1; have q0 := S1.cells 0 rfl; have q1 := S1.cells 1 rfl; have f1 := S1.free 1 rfl; have HS1 := Lib.hid S1; clear S1 hb1
 cases bo with
 | false =>
  go_wp2; refine bodyPost_ret (v := .agg #[.int .i64 0, .slice none 0 0, .slice none 0 0, .slice none 0 0, .int .i64 0]) (by simp [results, Tryz.results99, go_sem, q1]) rfl ⟨.agg #[.int .i64 0, .slice none 0 0, .slice none 0 0, .slice none 0 0, .int .i64 0], rfl, ?_⟩; rw [show bookNew t = ⟨⟨0, [], []⟩, [], 0⟩ from if_neg (by rw [HOK.out]; simp)]; exact St.book0 (HS1.out.set5 1 rfl _ _ _ _ _).below
 | true =>
  clear q0 q1 f1; have HG := Lib.hid hg; have hgl := hg.len; have HGL := Lib.hid hgl; have hdl := hds.len; have HDL := Lib.hid hdl; have hp := taskOk_parts t HOK.out; have hn40 : 1 ≤ n ∧ n ≤ 40 := by have := (codeOk_iff _).1 hp.2.1; rw [hgl] at this; exact ⟨this.1, this.2.1⟩
  obtain ⟨hn1, hn2⟩ := hn40; have hn6 : n' ≤ 6 := by rw [← hdl]; exact hp.2.2.1
  have HDOK := Lib.hid hp.2.2.2; clear hg hgl hdl hp
  go_upto_region 3 with (fail)
  go_cut [3] (fun s3 wx => ∃ (T : Nat) (gv dv sv ev : Value), s3 = .pointer (some ⟨T, 0, none⟩) ∧ (∃ A2 c2, gv = .slice A2 n c2) ∧ (∃ D6, dv = .slice (some ⟨D6, 0, none⟩) 0 0) ∧ Sn w wx (fun q => match q with
    | 0 => some (rBlk w.heap.size 26 #[.int .i64 t.start, .slice A n c, .slice A' n' c'])
    | 1 => some (rBlk (w.heap.size + 1) 28 #[.int .i64 0, .slice none 0 0, .slice none 0 0, .slice none 0 0, .int .i64 0])
    | 2 => some (rInts gv t.goal)
    | 3 => some (rDeeds dv [])
    | 4 => some (rInts ev [])
    | 5 => some (rBlk T 28 #[.int .i64 t.start, gv, dv, ev, .int .i64 t.start])
    | _ => none))
  case first =>
   refine wpr (σ := Option Addr × Nat × Nat × Nat × Nat × Nat)
    (fun s i => match i with
     | 0 => .pointer (some ⟨w.heap.size, 0, none⟩)
     | 1 => .int .i64 t.start
     | 2 => .slice (some ⟨s.2.2.1, 0, none⟩) 0 0
     | 3 => .pointer (some ⟨w.heap.size, 1, none⟩)
     | 4 => .slice A n c
     | 5 => .slice s.1 n s.2.1
     | 6 => .slice (some ⟨s.2.2.2.1, 0, none⟩) 0 0
     | 7 => .agg #[.int .i64 t.start, .slice s.1 n s.2.1, .slice (some ⟨s.2.2.2.1, 0, none⟩) 0 0]
     | 8 => .slice (some ⟨s.2.2.2.2.1, 0, none⟩) 0 0
     | 9 => .pointer (some ⟨w.heap.size, 0, none⟩)
     | 10 => .int .i64 t.start
     | 11 => .agg #[.int .i64 t.start, .slice s.1 n s.2.1, .slice (some ⟨s.2.2.2.1, 0, none⟩) 0 0, .slice (some ⟨s.2.2.2.2.1, 0, none⟩) 0 0, .int .i64 t.start]
     | 12 => .pointer (some ⟨s.2.2.2.2.2, 0, none⟩)
     | _ => undef)
    (fun D s wx => Sn w wx fun i => match i with
     | 0 => some (rBlk w.heap.size 26 #[.int .i64 t.start, .slice A n c, .slice A' n' c'])
     | 1 => some (rBlk (w.heap.size + 1) 28 #[.int .i64 0, .slice none 0 0, .slice none 0 0, .slice none 0 0, .int .i64 0])
     | 2 => if D 2 = true then some (rInts (if D 5 = true then .slice s.1 n s.2.1 else .slice (some ⟨s.2.2.1, 0, none⟩) 0 0) (if D 5 = true then t.goal else [])) else none
     | 3 => if D 6 = true then some (rDeeds (.slice (some ⟨s.2.2.2.1, 0, none⟩) 0 0) []) else none
     | 4 => if D 8 = true then some (rInts (.slice (some ⟨s.2.2.2.2.1, 0, none⟩) 0 0) []) else none
     | 5 => if D 12 = true then some (rBlk s.2.2.2.2.2 28 (if D 13 = true then #[.int .i64 t.start, .slice s.1 n s.2.1, .slice (some ⟨s.2.2.2.1, 0, none⟩) 0 0, .slice (some ⟨s.2.2.2.2.1, 0, none⟩) 0 0, .int .i64 t.start] else #[.int .i64 0, .slice none 0 0, .slice none 0 0, .slice none 0 0, .int .i64 0])) else none
     | _ => none)
    (none, 0, 0, 0, 0, 0) ?_ ?_ ?_
   ·intro D hD; refine ((Sn.of_st HS1.out).quiet ((Below.refl _ _).drew)).congr fun i => ?_
    match i with
    | 0 | 1 => rfl
    | 2 => simp only [hD 2 (by decide)]; rfl
    | 3 => simp only [hD 6 (by decide)]; rfl
    | 4 => simp only [hD 8 (by decide)]; rfl
    | 5 => simp only [hD 12 (by decide)]; rfl
    | q + 6 => rfl
   ·refine Cs (fun D s wx hR _ hd _ _ hs K hK => ?_) ?_
    ·have e1 := hs.o 1 (.pointer (some ⟨w.heap.size, 0, none⟩)); clear hs; go_simp; exact hK s wx sv hR
    refine Cs (fun D s wx hR _ hd _ _ hs K hK => ?_) ?_
    ·have e10 := hs.v 0 10 hd; clear hs; have qk := (hR.blk 0 rfl).cell; go_simp; exact hK s wx sv hR
    refine Cs (fun D s wx hR (hDi : D 2 = false) hd hsh _ hs K hK => ?_) ?_
    ·clear hs; have n5 : D 5 = false := hsh.no hDi 5 rfl ⟨2, .data⟩ (by simp) rfl rfl; have n7 : D 7 = false := hsh.no n5 7 rfl ⟨5, .data⟩ (by simp) rfl rfl; have n11 : D 11 = false := hsh.no n7 11 rfl ⟨7, .data⟩ (by simp) rfl rfl; have n13 : D 13 = false := hsh.no n11 13 rfl ⟨11, .data⟩ (by simp) rfl rfl; go_simp
     refine hK (s.1, s.2.1, wx.heap.size, s.2.2.2) _
      (fun j hj => by
       match j, hj with
       | 0, hj | 1, hj => rfl
       | 2, hj => rw [hDi] at hj; cases hj
       | 3, hj | 4, hj | 5, hj | 6, hj => rfl
       | 7, hj => rw [n7] at hj; cases hj
       | 8, hj | 9, hj | 10, hj => rfl
       | 11, hj => rw [n11] at hj; cases hj
       | 12, hj | 13, hj => rfl
       | _ + 14, hj => rfl)
      ((hR.add 2 (if_neg (by rw [hDi]; simp)) (St.newI wx wx.heap.size rfl)).congr
       (fun i => by
        match i with
        | 0 | 1 => rfl
        | 2 => (show some (rInts (if D 5 = true then _ else _) (if D 5 = true then _ else _)) = some (rInts _ _); rw [n5] <;> rfl)
        | 3 | 4 => rfl
        | 5 => (show (if D 12 = true then some (rBlk _ _ (if D 13 = true then _ else _)) else none) = (if D 12 = true then some (rBlk _ _ (if D 13 = true then _ else _)) else none); rw [n13] <;> rfl)
        | q + 6 => exact (if_neg (show ¬ (q + 6 = 2) by omega)).symm))
    refine Cs (fun D s wx hR _ hd _ _ hs K hK => ?_) ?_
    ·have e1 := hs.o 1 (.pointer (some ⟨w.heap.size, 0, none⟩)); clear hs; go_simp; exact hK s wx sv hR
    refine Cs (fun D s wx hR _ hd _ _ hs K hK => ?_) ?_
    ·have e13 := hs.v 3 13 hd; clear hs; have qk := (hR.blk 0 rfl).cell; go_simp; exact hK s wx sv hR
    refine Cs (fun D s wx hR (hDi : D 5 = false) hd hsh _ hs K hK => ?_) ?_
    ·have e12 := hs.v 2 12 hd; have e14 := hs.v 4 14 hd; have g12 := getQ e12; have g14 := getQ e14; clear hs; have n7 : D 7 = false := hsh.no hDi 7 rfl ⟨5, .data⟩ (by simp) rfl rfl; have n11 : D 11 = false := hsh.no n7 11 rfl ⟨7, .data⟩ (by simp) rfl rfl; have n13 : D 13 = false := hsh.no n11 13 rfl ⟨11, .data⟩ (by simp) rfl rfl; have d2 : D 2 = true := hd ⟨2, .data⟩ (by simp) rfl; obtain ⟨F, ho, -⟩ := hR.get 2 (R := rInts (.slice (some ⟨s.2.2.1, 0, none⟩) 0 0) []) (by simp only [d2, hDi] <;> rfl); refine wp_app1 elInt (.tmp 12) (.tmp 14) rfl 0 _ 0 [] e12 ho.row _ _ n c (ints t.goal) e14 (HG.out.up hR.below).row hn1 (ints_cell _) (by omega) (by omega) (by omega) ?_; intro v' w' hown hg hat; obtain ⟨A3, c3, hv⟩ := own_form hown; rw [Nat.zero_add] at hv; subst hv
     exact hK (A3, c3, s.2.2) w'
      (fun j hj => by
       match j, hj with
       | 0, hj | 1, hj | 2, hj | 3, hj | 4, hj => rfl
       | 5, hj => rw [hDi] at hj; cases hj
       | 6, hj => rfl
       | 7, hj => rw [n7] at hj; cases hj
       | 8, hj | 9, hj | 10, hj => rfl
       | 11, hj => rw [n11] at hj; cases hj
       | 12, hj | 13, hj => rfl
       | _ + 14, hj => rfl)
      ((hR.appI 2 (xs := []) (ys := t.goal) (by simp only [d2, hDi]; rfl) (by simp; exact HGL.out.symm) hown HG.out.wf hg hat).congr
       (fun i => by
        match i with
        | 0 | 1 => rfl
        | 2 => (show (if D 2 = true then some (rInts _ _) else none) = some (rInts _ _); rw [d2] <;> rfl)
        | 3 | 4 => rfl
        | 5 => (show (if D 12 = true then some (rBlk _ _ (if D 13 = true then _ else _)) else none) = (if D 12 = true then some (rBlk _ _ (if D 13 = true then _ else _)) else none); rw [n13] <;> rfl)
        | q + 6 => exact (if_neg (show ¬ (q + 6 = 2) by omega)).symm))
    refine Cs (fun D s wx hR (hDi : D 6 = false) hd hsh _ hs K hK => ?_) ?_
    ·clear hs; have n7 : D 7 = false := hsh.no hDi 7 rfl ⟨6, .data⟩ (by simp) rfl rfl; have n11 : D 11 = false := hsh.no n7 11 rfl ⟨7, .data⟩ (by simp) rfl rfl; have n13 : D 13 = false := hsh.no n11 13 rfl ⟨11, .data⟩ (by simp) rfl rfl; go_simp
     refine hK (s.1, s.2.1, s.2.2.1, wx.heap.size, s.2.2.2.2) _
      (fun j hj => by
       match j, hj with
       | 0, hj | 1, hj | 2, hj | 3, hj | 4, hj | 5, hj => rfl
       | 6, hj => rw [hDi] at hj; cases hj
       | 7, hj => rw [n7] at hj; cases hj
       | 8, hj | 9, hj | 10, hj => rfl
       | 11, hj => rw [n11] at hj; cases hj
       | 12, hj | 13, hj => rfl
       | _ + 14, hj => rfl)
      ((hR.add 3 (if_neg (by rw [hDi]; simp)) (St.newDs wx wx.heap.size rfl)).congr
       (fun i => by
        match i with
        | 0 | 1 | 2 | 3 | 4 => rfl
        | 5 => (show (if D 12 = true then some (rBlk _ _ (if D 13 = true then _ else _)) else none) = (if D 12 = true then some (rBlk _ _ (if D 13 = true then _ else _)) else none); rw [n13] <;> rfl)
        | q + 6 => exact (if_neg (show ¬ (q + 6 = 3) by omega)).symm))
    refine Cs (fun D s wx hR _ hd _ _ hs K hK => ?_) ?_
    ·have e11 := hs.v 1 11 hd; have e15 := hs.v 5 15 hd; have e16 := hs.v 6 16 hd; have g11 := getQ e11; have g15 := getQ e15; have g16 := getQ e16; clear hs; go_simp; exact hK s wx sv hR
    refine Cs (fun D s wx hR (hDi : D 8 = false) hd hsh _ hs K hK => ?_) ?_
    ·clear hs; have n11 : D 11 = false := hsh.no hDi 11 rfl ⟨8, .data⟩ (by simp) rfl rfl; have n13 : D 13 = false := hsh.no n11 13 rfl ⟨11, .data⟩ (by simp) rfl rfl; go_simp
     refine hK (s.1, s.2.1, s.2.2.1, s.2.2.2.1, wx.heap.size, s.2.2.2.2.2) _
      (fun j hj => by
       match j, hj with
       | 0, hj | 1, hj | 2, hj | 3, hj | 4, hj | 5, hj | 6, hj | 7, hj => rfl
       | 8, hj => rw [hDi] at hj; cases hj
       | 9, hj | 10, hj => rfl
       | 11, hj => rw [n11] at hj; cases hj
       | 12, hj | 13, hj => rfl
       | _ + 14, hj => rfl)
      ((hR.add 4 (if_neg (by rw [hDi]; simp)) (St.newI wx wx.heap.size rfl)).congr
       (fun i => by
        match i with
        | 0 | 1 | 2 | 3 | 4 => rfl
        | 5 => (show (if D 12 = true then some (rBlk _ _ (if D 13 = true then _ else _)) else none) = (if D 12 = true then some (rBlk _ _ (if D 13 = true then _ else _)) else none); rw [n13] <;> rfl)
        | q + 6 => exact (if_neg (show ¬ (q + 6 = 4) by omega)).symm))
    refine Cs (fun D s wx hR _ hd _ _ hs K hK => ?_) ?_
    ·have e1 := hs.o 1 (.pointer (some ⟨w.heap.size, 0, none⟩)); clear hs; go_simp; exact hK s wx sv hR
    refine Cs (fun D s wx hR _ hd _ _ hs K hK => ?_) ?_
    ·have e19 := hs.v 9 19 hd; clear hs; have qk := (hR.blk 0 rfl).cell; go_simp; exact hK s wx sv hR
    refine Cs (fun D s wx hR _ hd _ _ hs K hK => ?_) ?_
    ·have e17 := hs.v 7 17 hd; have e18 := hs.v 8 18 hd; have e20 := hs.v 10 20 hd; have g17 := getQ e17; have g18 := getQ e18; have g20 := getQ e20; clear hs; go_simp; exact hK s wx sv hR
    refine Cs (fun D s wx hR (hDi : D 12 = false) hd hsh _ hs K hK => ?_) ?_
    ·clear hs; have n13 : D 13 = false := hsh.no hDi 13 rfl ⟨12, .data⟩ (by simp) rfl rfl; go_simp
     refine hK (s.1, s.2.1, s.2.2.1, s.2.2.2.1, s.2.2.2.2.1, wx.heap.size) _
      (fun j hj => by
       match j, hj with
       | 0, hj | 1, hj | 2, hj | 3, hj | 4, hj | 5, hj | 6, hj | 7, hj | 8, hj | 9, hj | 10, hj | 11, hj => rfl
       | 12, hj => rw [hDi] at hj; cases hj
       | 13, hj => rfl
       | _ + 14, hj => rfl)
      ((hR.add 5 (if_neg (by rw [hDi]; simp)) (St.new1 wx #[.int .i64 0, .slice none 0 0, .slice none 0 0, .slice none 0 0, .int .i64 0] 28)).congr
       (fun i => by
        match i with
        | 0 | 1 | 2 | 3 | 4 => rfl
        | 5 => (show some (rBlk _ _ (if D 13 = true then _ else _)) = some (rBlk _ _ _); rw [n13] <;> rfl)
        | q + 6 => exact (if_neg (show ¬ (q + 6 = 5) by omega)).symm))
    refine Cs (fun D s wx hR (hDi : D 13 = false) hd _ _ hs K hK => ?_) ?_
    ·have e3 := hs.v 12 3 hd; have e21 := hs.v 11 21 hd; clear hs; have dA : D 12 = true := hd ⟨12, .data⟩ (by simp) rfl; have kb : Blk wx s.2.2.2.2.2 28 #[.int .i64 0, .slice none 0 0, .slice none 0 0, .slice none 0 0, .int .i64 0] := hR.blk 5 (by simp only [dA, hDi] <;> rfl); have f0 := kb.frozen; have qk := kb.cell; go_simp
     exact hK s _ sv ((hR.set5 5 (by simp only [dA, hDi]; rfl) _ _ _ _ _).congr
      (fun i => by
       match i with
       | 0 | 1 | 2 | 3 | 4 => rfl
       | 5 => (show (if D 12 = true then some (rBlk _ _ _) else none) = some (rBlk _ _ _); rw [dA] <;> rfl)
       | q + 6 => exact (if_neg (show ¬ (q + 6 = 5) by omega)).symm))
    exact StepAll.nil
   ·intro D s wx hR hD; simp only [putA, Act.put, List.setIfInBounds_toArray, List.set_cons_zero, List.set_cons_succ]
    go_wp2_with fail
    go_meet
    refine ⟨s.2.2.2.2.2, .slice s.1 n s.2.1, .slice (some ⟨s.2.2.2.1, 0, none⟩) 0 0, .int .i64 t.start, .slice (some ⟨s.2.2.2.2.1, 0, none⟩) 0 0, rfl, ⟨s.1, s.2.1, rfl⟩, ⟨_, rfl⟩, ?_⟩
    exact hR.congr fun i => by
     match i with
     | 0 | 1 => rfl
     | 2 => simp only [hD 2 (by decide), hD 5 (by decide)]; rfl
     | 3 => simp only [hD 6 (by decide)]; rfl
     | 4 => simp only [hD 8 (by decide)]; rfl
     | 5 => simp only [hD 12 (by decide), hD 13 (by decide)]; rfl
     | q + 6 => rfl
  case rest =>
   obtain ⟨T, gv, dv0, sv, ev, rfl, ⟨A2, c2, rfl⟩, ⟨D6, rfl⟩, M0⟩ := hcut; obtain ⟨E, ec, hev, -⟩ := M0.rdI 4 rfl; simp only [List.length_nil] at hev; subst hev; have t2 : wc.cell? ⟨w.heap.size, 2, none⟩ = some (.slice A' n' c') := (M0.blk 0 rfl).cell 2; have HM0 := Lib.hid M0; clear M0; go_wp2
   go_loopw [4] (fun i wr => ∃ (k : Nat) (dv : Value), k ≤ n' ∧ i = .int .i64 k ∧ Sn w wr (fun q => match q with
    | 0 => some (rBlk w.heap.size 26 #[.int .i64 t.start, .slice A n c, .slice A' n' c'])
    | 1 => some (rBlk (w.heap.size + 1) 28 #[.int .i64 0, .slice none 0 0, .slice none 0 0, .slice none 0 0, .int .i64 0])
    | 2 => some (rInts (.slice A2 n c2) t.goal)
    | 3 => some (rDeeds dv (t.deeds.take k))
    | 4 => some (rInts (.slice E 0 ec) [])
    | 5 => some (rBlk T 28 #[.int .i64 t.start, .slice A2 n c2, dv, .slice E 0 ec, .int .i64 t.start])
    | _ => none)) (fun i _ => n' - (intOf i).toNat)
   case atStart => exact ⟨0, .slice (some ⟨D6, 0, none⟩) 0 0, by omega, rfl, HM0.out⟩
   case round =>
    obtain ⟨k, dv, hk, rfl, M⟩ := hrel
    by_cases hlt : k < n'
    ·obtain ⟨b, off, d, rfl, hb, hd, hda⟩ := hds.get hlt; have hdok := HDOK.out d (List.mem_of_getElem? hd); obtain ⟨An, nn, cn, p0, p1, p2, p3, hneed, hnn, hw1, hw2, hw3⟩ := hda; have hnl := hneed.len; have hn40 : 1 ≤ nn ∧ nn ≤ 40 := by have := (codeOk_iff _).1 (deedOk_parts d hdok).1; rw [hnl] at this; exact ⟨this.1, this.2.1⟩
     obtain ⟨hnn1, hnn2⟩ := hn40; have t2 : wr.cell? ⟨w.heap.size, 2, none⟩ = some (.slice (some ⟨b, off, none⟩) n' c') := (M.blk 0 rfl).cell 2; have r0 : wr.cell? ⟨b, off + k * 4, none⟩ = some (.slice An nn cn) := (bcells M.below b _ hb).trans p0; have r1 : wr.cell? ⟨b, off + k * 4 + 1, none⟩ = some (.int .i64 d.on) := (bcells M.below b _ hb).trans p1; have r2 : wr.cell? ⟨b, off + k * 4 + 2, none⟩ = some (.int .i64 d.off) := (bcells M.below b _ hb).trans p2; have r3 : wr.cell? ⟨b, off + k * 4 + 3, none⟩ = some (.int .i64 d.flip) := (bcells M.below b _ hb).trans p3; have HTK := Lib.hid (take_succ' hd); have HTL : Hid ((t.deeds.take k).length = k) := Lib.hid (by rw [List.length_take, HDL.out]; omega); have HNL := Lib.hid hnl; have HW : Hid (d.need.length ≤ 1048576 ∧ (Lit.int .i64 d.on).wf = true ∧ (Lit.int .i64 d.off).wf = true ∧ (Lit.int .i64 d.flip).wf = true) := Lib.hid ⟨by omega, hw1, hw2, hw3⟩; have M1 := M.add 6 rfl (St.new1 wr #[.slice An nn cn, .int .i64 d.on, .int .i64 d.off, .int .i64 d.flip] 144); have M2 := M1.add 7 rfl (St.newI _ (wr.heap.size + 1) (by simp)); have HN := Lib.hid (hneed.up M2.below); have HM2 := Lib.hid M2; obtain ⟨F, ho, -⟩ := M2.get 7 (R := rInts (.slice (some ⟨wr.heap.size + 1, 0, none⟩) 0 0) []) rfl; have HO := Lib.hid ho.row; have hgd := M.below.size; clear p0 p1 p2 p3 hneed hd hnl M M1 M2 ho hw1 hw2 hw3 hdok
     go_wp2_with (first
      | (at_builtin; refine wp_app elInt rfl (.tmp 34) (.tmp 36) rfl 0 (.slice (some ⟨wr.heap.size + 1, 0, none⟩) 0 0) 0 [] rfl HO.out _ An nn cn (ints d.need) rfl HN.out.row (ints_cell _) (by omega) (by omega) (by omega) ?_; intro v2 w2 hown2 hg2 hat2; obtain ⟨A3, c3, hv⟩ := own_form hown2; rw [Nat.zero_add] at hv; subst hv; have M3 := HM2.out.appI 7 (xs := []) (ys := d.need) rfl (by simp; exact HNL.out.symm) hown2 HN.out.wf hg2 hat2; rw [List.nil_append] at M3; have M4 := M3.set 6 rfl 0 (.slice A3 nn c3); have M5 := M4.add 8 rfl (St.new1At (w2.setCell ⟨wr.heap.size, 0, none⟩ (.slice A3 nn c3)) w2.heap.size #[.slice A3 nn c3, .int .i64 d.on, .int .i64 d.off, .int .i64 d.flip] 144 (by simp [World.setCell])); have q5 : ∀ j, w2.cell? ⟨wr.heap.size, j, none⟩ = _ := (M3.blk 6 rfl).cell; have f5 := (M3.blk 6 rfl).frozen; have q4' : ∀ j, ((w2.setCell ⟨wr.heap.size, 0, none⟩ (.slice A3 nn c3)).cell? ⟨T, j, none⟩) = _ := (M4.blk 5 rfl).cell; obtain ⟨F', cells, Fs, ho', -⟩ := M5.deeds 3 rfl; have hrow := ho'.row; have kb : Blk _ w2.heap.size 144 #[.slice A3 nn c3, .int .i64 d.on, .int .i64 d.off, .int .i64 d.flip] := M5.blk 8 rfl; rw [HTL.out] at hrow; have HROW := Lib.hid hrow; have HKB := Lib.hid kb; have HM5 := Lib.hid M5; clear ho' hrow kb M3 M4 M5 HM2 HO HN hown2 hg2 hat2 r0 r1 r2 r3 t2)
      | (at_builtin; refine wp_app elDeed rfl (.tmp 41) (.tmp 43) rfl 0 dv k cells rfl HROW.out _ _ 1 1 [.slice A3 nn c3, .int .i64 d.on, .int .i64 d.off, .int .i64 d.flip] rfl (RdRow.of_blk HKB.out 4 1 rfl (by unfold maxLen; omega)) (by simp [Value.oneCell']) (by omega) (by omega) (by omega) ?_; intro v3 w3 hown3 hg3 hat3; obtain ⟨A4, c4, hv⟩ := own_form hown3; subst hv; have M6 := HM5.out.push 3 7 (by decide) (v := dv) (nv := .slice A3 nn c3) (ds := t.deeds.take k) (d := d) rfl rfl HW.out.1 HW.out.2 (by rw [HTL.out]; omega) rfl (by rw [HTL.out]; exact HROW.out) (by rw [HTL.out]; exact hown3) hg3 hat3; have q6 : ∀ j, w3.cell? ⟨T, j, none⟩ = _ := (M6.blk 5 rfl).cell; have f6 := (M6.blk 5 rfl).frozen))
     have HM6 := Lib.hid (M6.set 5 rfl 2 (.slice A4 (k + 1) c4)); clear M6 hown3 hg3 hat3 q5 f5 q4' HM5 HROW HKB; go_wp2
     go_roundw
     case rel =>
      refine ⟨k + 1, .slice A4 (k + 1) c4, by omega, by go_num, (((HM6.out.drop 6).drop 8).congr fun i => ?_)⟩
      match i with
      | 0 | 1 | 2 => rfl
      | 3 => rw [HTK.out]; rfl
      | 4 | 5 | 6 | 7 | 8 => rfl
      | q + 9 => simp
     case measure => simp [intOf]; omega
    ·have hkn : k = n' := by omega
     subst hkn; have HTK : Hid (t.deeds.take k = t.deeds) := Lib.hid (by rw [← HDL.out, List.take_length]); have t2 : wr.cell? ⟨w.heap.size, 2, none⟩ = some (.slice A' k c') := (M.blk 0 rfl).cell 2
     have S5 := M.to_st (L := [rInts (.slice A2 n c2) t.goal, rDeeds dv t.deeds, rInts (.slice E 0 ec) [], rBlk T 28 #[.int .i64 t.start, .slice A2 n c2, dv, .slice E 0 ec, .int .i64 t.start], rBlk (w.heap.size + 1) 28 #[.int .i64 0, .slice none 0 0, .slice none 0 0, .slice none 0 0, .int .i64 0]]) [2, 3, 4, 5, 1] (by decide) (by
      simp only [List.map]; rw [HTK.out])
     obtain ⟨Ad, cd, hdv, -⟩ := S5.rdDs 1 rfl; rw [HDL.out] at hdv; subst hdv; have S6 := (S5.task (s := t.start) (by rw [HGL.out]; exact hgs) hst).book (st := t.start) (by simp) hst; have a0 := S6.cells 1 rfl; have z0 := S6.cells 2 rfl; have fz := S6.free 2 rfl; have HS6 := Lib.hid S6; clear M S5 S6; go_wp2; refine bodyPost_ret (v := .agg #[.int .i64 t.start, .slice A2 n c2, .slice Ad k cd, .slice E 0 ec, .int .i64 t.start]) (by simp [results, Tryz.results99, go_sem, z0]) rfl ⟨.agg #[.int .i64 t.start, .slice A2 n c2, .slice Ad k cd, .slice E 0 ec, .int .i64 t.start], rfl, ?_⟩; rw [show bookNew t = ⟨t, [], t.start⟩ from if_pos HOK.out]; exact (HS6.out.set5 2 rfl _ _ _ _ _).pick [0] (by decide) rfl rfl
end Go.Proofs.YtkmcengmglgdeaaGreatDoor
