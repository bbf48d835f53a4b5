/- The law FnExactRingsTask, walked. -/
import Derived.Test.YtiebemnoegfoeaaRTask
import Derived.Test.YtiebemnoegfoeaaEq
import Derived.Test.YtiebemnoegfoeaaMark2
namespace Go.Proofs.Ytiebemnoegfoeaa
open Go.ChangeShapes Go.WideShapes Go.ChangeAt Go.RowKit

theorem Blk.only {w w' : World} {g : Nat} {t : TypeId} {cs : Array Value} {F : List Nat} (h : Blk w g t cs) (hon : Only F w w') (hg : g ∉ F) : Blk w' g t cs := (hon.block g h.lt hg).trans h
theorem OwnT.form {w : World} {lo : Nat} {v : Value} {t : TaskD} {F : List Nat} (h : OwnT w lo v t F) : ∃ A n c A' n' c', v = .agg #[.int .i64 t.start, .slice A n c, .slice A' n' c'] := by
  obtain ⟨gv, dv, Fg, Fd, cells, Fs, e, h1, h2, h3, -, h4⟩ := h
  obtain ⟨A, c, rfl⟩ := own_form h1.row
  obtain ⟨A', c', rfl⟩ := own_form h3.row
  exact ⟨A, _, c, A', _, c', e⟩
theorem eqTask_same (v : Value) (t : TaskD) (v' : Value) (w : World) (h : RdT w w.heap.size v t) (h' : RdT w w.heap.size v' t) :
    Calls Try.prog 36 #[v, v'] w fun e w' => e = .returned (.bool true) ∧ Below w.heap.size w w' :=
  (eqTask_any v t v' t w h h').mono fun _ _ ⟨he, hb⟩ => ⟨by rw [he, decide_eq_true rfl], hb⟩
theorem mkT_rings0 : ∀ m : Nat, m < 6 → mkT ⟨0, codeAll (noneParts m), ringDeeds m⟩ ≤ 1000000 := by decide +kernel
theorem mkT_rings (r s : Int) : mkT (ringsTask r s) ≤ 1000000 := by
  unfold ringsTask
  split
  · rename_i h
    obtain ⟨h1, h2, -, -⟩ := ringsIn_bd r s h
    exact mkT_rings0 r.toNat (by omega)
  · decide
set_option maxRecDepth 100000 in
set_option maxHeartbeats 1000000 in
theorem FnExactRingsTask_walk (r s : Int) (w : World) (hr : (Lit.int .i64 r).wf = true) (hs : (Lit.int .i64 s).wf = true) :
    Calls Try.prog 12 #[.int .i64 r, .int .i64 s] w fun e w' => e = .returned (.bool true) ∧ Below w.heap.size w w' := by
  have hM := mkT_rings r s
  generalize hM0 : mkT (ringsTask r s) = M at hM
  have HM := Lib.hid hM0
  clear hM0
  go_enter Try.func12, Try.ntmps12
  go_wp2_with fail
  refine (ringsTask_spec r s _ hs).mono ?_
  rintro e w1 ⟨⟨v1, F1, rfl, ho1, hnd1⟩, hb1⟩
  obtain ⟨A, n, c, A', n', c', hv1⟩ := ho1.form
  subst hv1
  have hs1 := hb1.size
  go_wp2_with fail
  refine (ringsTask_impl r s _ hs).mono ?_
  rintro e w2 ⟨⟨v2, F2, rfl, ho2, hnd2⟩, hb2⟩
  obtain ⟨B, m, b, B', m', b', hv2⟩ := ho2.form
  subst hv2
  have hs2 := hb2.size
  have hk1 : Blk w2 w1.heap.size 46 _ := blk1 (hb2.mono (by simp))
  simp only [World.size_alloc] at hs2 ho2 hb2
  have ho1a := ho1.below ((Below.refl w1.heap.size w1).alloc (Nat.le_refl _) _ |>.trans (hb2.mono (by omega)))
  have hbw2 : Below w.heap.size w w2 := hb1.trans (((Below.refl w1.heap.size w1).alloc (Nat.le_refl _) _ |>.trans (hb2.mono (by omega))).mono hs1)
  have hba2 := (Below.refl w2.heap.size w2).alloc (Nat.le_refl _) (Obj.cells #[.int .i64 (ringsTask r s).start, .slice B m b, .slice B' m' b'] 46)
  have HB := Lib.hid hbw2
  have hk1x := hk1.below hba2 (by omega)
  have a0 : (w2.alloc (Obj.cells #[.int .i64 (ringsTask r s).start, .slice B m b, .slice B' m' b'] 46)).cell? ⟨w1.heap.size, 0, none⟩ = some (.int .i64 (ringsTask r s).start) := hk1x.cell 0
  have a1 : (w2.alloc (Obj.cells #[.int .i64 (ringsTask r s).start, .slice B m b, .slice B' m' b'] 46)).cell? ⟨w1.heap.size, 1, none⟩ = some (.slice A n c) := hk1x.cell 1
  have a2 : (w2.alloc (Obj.cells #[.int .i64 (ringsTask r s).start, .slice B m b, .slice B' m' b'] 46)).cell? ⟨w1.heap.size, 2, none⟩ = some (.slice A' n' c') := hk1x.cell 2
  clear hbw2 hb1 hb2
  go_wp2_with fail
  refine (eqTask_same _ (ringsTask r s) _ _ (ho2.rd.up hba2) (ho1a.rd.up hba2)).mono ?_
  rintro e w3 ⟨rfl, hb3⟩
  have hb3' : Below w2.heap.size w2 w3 := hba2.trans (hb3.mono (by simp))
  have hs3 := hb3.size
  simp only [World.size_alloc] at hs3
  have hk2 : Blk w3 w2.heap.size 46 _ := blk1 (hb3.mono (by simp))
  have ho3 := ho2.below hb3'
  have ho1b := ho1a.below hb3'
  have hk1b := hk1.below hb3' (by omega)
  have b0 : w3.cell? ⟨w2.heap.size, 0, none⟩ = some (.int .i64 (ringsTask r s).start) := hk2.cell 0
  have b1 : w3.cell? ⟨w2.heap.size, 1, none⟩ = some (.slice B m b) := hk2.cell 1
  have b2 : w3.cell? ⟨w2.heap.size, 2, none⟩ = some (.slice B' m' b') := hk2.cell 2
  have HB' := Lib.hid (HB.out.trans (hb3'.mono (Nat.le_trans hs1 (by omega))))
  clear hb3 hb3' ho1a hk1 hk1x a0 a1 a2
  go_wp2_with fail
  refine (markTask_any (w1.heap.size + 1) _ (ringsTask r s) F2 1 _ ho3 hnd2 (by rw [HM.out]; omega)).mono ?_
  rintro e w4 ⟨rfl, ho4, hon4⟩
  rw [HM.out]
  have hs4 := hon4.size
  have hF2 : ∀ x ∈ F2, w1.heap.size + 1 ≤ x ∧ x < w2.heap.size := ho2.lt
  have hk1c := hk1b.only hon4 (fun hx => by have := (hF2 _ hx).1; omega)
  have hk2c := hk2.only hon4 (fun hx => by have := (hF2 _ hx).2; omega)
  have ho1c := ho1b.keep (w' := w4) fun x hx => hon4.block x (ho1b.lt x hx).2 (fun hf => by have := (hF2 x hf).1; have := (ho1.lt x hx).2; omega)
  have hb4 : Below w.heap.size w w4 := HB'.out.trans (hon4.below (fun x hx => by have := (hF2 x hx).1; omega) (by omega))
  have c0 : w4.cell? ⟨w2.heap.size, 0, none⟩ = some (.int .i64 (ringsTask r s).start) := hk2c.cell 0
  have c1 : w4.cell? ⟨w2.heap.size, 1, none⟩ = some (.slice B m b) := hk2c.cell 1
  have c2 : w4.cell? ⟨w2.heap.size, 2, none⟩ = some (.slice B' m' b') := hk2c.cell 2
  have HB4 := Lib.hid hb4
  clear b0 b1 b2 hb4 ho1b hk1b hk2 ho3
  go_wp2_with fail
  refine (heldTask_any _ 1 (ringsTask r s) _ ho4.rd (by rw [HM.out]; omega)).mono ?_
  rintro e w5 ⟨rfl, hb5⟩
  rw [HM.out]
  have hs5 := hb5.size
  have hk1d := hk1c.below hb5 (by omega)
  have hk2d := hk2c.below hb5 (by omega)
  have ho1d := ho1c.below hb5
  have ho5 := ho4.below hb5
  clear c0 c1 c2 hk1c hk2c ho1c ho4
  go_wp2_with fail
  refine (ringsTask_impl r s _ hs).mono ?_
  rintro e w6 ⟨⟨v6, F6, rfl, ho6, hnd6⟩, hb6⟩
  obtain ⟨C, l, d, C', l', d', hv6⟩ := ho6.form
  subst hv6
  have hs6 := hb6.size
  have hba6 := (Below.refl w6.heap.size w6).alloc (Nat.le_refl _) (Obj.cells #[.int .i64 (ringsTask r s).start, .slice C l d, .slice C' l' d'] 46)
  have hk1e := hk1d.below hb6 (by omega)
  have hk2e := hk2d.below hb6 (by omega)
  have ho1e := ho1d.below hb6
  have ho5e := ho5.below hb6
  have hk1f := hk1e.below hba6 (by omega)
  have a0 : (w6.alloc (Obj.cells #[.int .i64 (ringsTask r s).start, .slice C l d, .slice C' l' d'] 46)).cell? ⟨w1.heap.size, 0, none⟩ = some (.int .i64 (ringsTask r s).start) := hk1f.cell 0
  have a1 : (w6.alloc (Obj.cells #[.int .i64 (ringsTask r s).start, .slice C l d, .slice C' l' d'] 46)).cell? ⟨w1.heap.size, 1, none⟩ = some (.slice A n c) := hk1f.cell 1
  have a2 : (w6.alloc (Obj.cells #[.int .i64 (ringsTask r s).start, .slice C l d, .slice C' l' d'] 46)).cell? ⟨w1.heap.size, 2, none⟩ = some (.slice A' n' c') := hk1f.cell 2
  clear hk1d hk2d ho1d ho5 hk1f
  go_wp2_with fail
  refine (eqTask_same _ (ringsTask r s) _ _ (ho6.rd.up hba6) (ho1e.rd.up hba6)).mono ?_
  rintro e w7 ⟨rfl, hb7⟩
  have hb7' : Below w6.heap.size w6 w7 := hba6.trans (hb7.mono (by simp))
  have hk2g := hk2e.below hb7' (by omega)
  have ho5g := ho5e.below hb7'
  have hs7 := hb7'.size
  have e0 : w7.cell? ⟨w2.heap.size, 0, none⟩ = some (.int .i64 (ringsTask r s).start) := hk2g.cell 0
  have e1 : w7.cell? ⟨w2.heap.size, 1, none⟩ = some (.slice B m b) := hk2g.cell 1
  have e2 : w7.cell? ⟨w2.heap.size, 2, none⟩ = some (.slice B' m' b') := hk2g.cell 2
  clear a0 a1 a2 hb7 hk1e hk2e ho1e ho5e ho6
  go_wp2_with fail
  refine (heldTask_any _ 1 (ringsTask r s) _ ho5g.rd (by rw [HM.out]; omega)).mono ?_
  rintro e w8 ⟨rfl, hb8⟩
  rw [HM.out]
  have hfin : Below w.heap.size w w8 := (((HB4.out.trans (hb5.mono (by omega))).trans (hb6.mono (by omega))).trans (hb7'.mono (by omega))).trans (hb8.mono (by omega))
  go_wp2
  go_ret
  exact ⟨rfl, hfin⟩
end Go.Proofs.Ytiebemnoegfoeaa
