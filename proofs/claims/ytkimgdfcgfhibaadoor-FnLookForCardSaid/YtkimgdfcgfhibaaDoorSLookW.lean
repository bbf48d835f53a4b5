/- Walks of the search of the program: its best state, one look. -/
import Derived.Test.YtkimgdfcgfhibaaDoorSLookP
import Derived.Test.YtkimgdfcgfhibaaDoorSBack
import Derived.Test.YtkimgdfcgfhibaaDoorSDraw
import Derived.Test.YtkimgdfcgfhibaaDoorSNumL
namespace Go.Proofs.YtkimgdfcgfhibaaDoor
set_option linter.unusedVariables false
set_option linter.unusedSimpArgs false
open Go.ChangeShapes Go.WideShapes Go.ChangeAt Go.RowKit

def gRow (g : Nat → Int) : List Value := (List.range 32).map fun i => .int .i64 (g i)
theorem gRow_len (g : Nat → Int) : (gRow g).length = 32 := by simp [gRow]
theorem gRow_at (g : Nat → Int) : ∀ i, i < 32 → (gRow g)[i]? = some (.int .i64 (g i)) := fun i h => by simp [gRow, h]
/-- the cells of a search -/
def lkC (st : LS) : Array Value := (Value.int .i64 (mset st.R 32 : Nat) :: Value.int .i64 (mset st.K 32 : Nat) :: gRow st.g).toArray
theorem lkC_g (st : LS) (i : Nat) (h : i < 32) : (lkC st)[2 + i]? = some (.int .i64 (st.g i)) := by
  unfold lkC
  rw [show 2 + i = i + 1 + 1 by omega]
  simpa using gRow_at st.g i h
theorem best_skip {h : Nat → Int} {st : LS} {n : Nat} (e : (st.R n && !st.K n) = false) : bestN h st (n + 1) = bestN h st n := by simp only [bestN]; rw [e]; simp
theorem best_first {h : Nat → Int} {st : LS} {n : Nat} (e : (st.R n && !st.K n) = true) (eb : bestN h st n = none) : bestN h st (n + 1) = some n := by simp only [bestN]; rw [e, eb]; simp
theorem best_new {h : Nat → Int} {st : LS} {n b : Nat} (e : (st.R n && !st.K n) = true) (eb : bestN h st n = some b) (ea : ahead h st.g n b = true) : bestN h st (n + 1) = some n := by simp only [bestN]; rw [e, eb]; simp [ea]
theorem best_old {h : Nat → Int} {st : LS} {n b : Nat} (e : (st.R n && !st.K n) = true) (eb : bestN h st n = some b) (ea : ahead h st.g n b = false) : bestN h st (n + 1) = some b := by simp only [bestN]; rw [e, eb]; simp [ea]
theorem bit_on {p : Nat → Bool} {k : Nat} (hk : k < 32) (h : p k = true) : bit (mset p 32) k = 1 := by rw [bit_mset]; simp [hk, h]
theorem bit_off {p : Nat → Bool} {k : Nat} (h : p k = false) : bit (mset p 32) k = 0 := by rw [bit_mset]; simp [h]
set_option maxRecDepth 100000 in
set_option maxHeartbeats 2000000 in
theorem best_any (G : Nat) (st : LS) (xb xo c : Nat) (xs : List Int) (w : World) (hG : G < w.heap.size) (hxb : xb < w.heap.size)
    (h0 : w.cell? ⟨G, 0, none⟩ = some (.int .i64 (mset st.R 32 : Nat))) (h1 : w.cell? ⟨G, 1, none⟩ = some (.int .i64 (mset st.K 32 : Nat))) (h2 : ∀ i, i < 32 → w.cell? ⟨G, 2 + i, none⟩ = some (.int .i64 (st.g i)))
    (hx : ∀ i, i < 32 → w.cell? ⟨xb, xo + i, none⟩ = some (.int .i64 (xv xs i))) (hg : ∀ i, i < 32 → 0 ≤ st.g i ∧ st.g i ≤ 100) (hv : ∀ i, i < 32 → 0 ≤ xv xs i ∧ xv xs i ≤ 40) :
    Calls Tryd.prog 51 #[.pointer (some ⟨G, 0, none⟩), .slice (some ⟨xb, xo, none⟩) 32 c] w fun e w' => e = .returned (.int .i64 (opt (bestN (xv xs) st 32))) ∧ Below w.heap.size w w' := by
  have HG := Bx.mk hG
  have HXB := Bx.mk hxb
  have H0 := Bx.mk h0
  have H1 := Bx.mk h1
  have H2 := Bx.mk h2
  have HX := Bx.mk hx
  have HGB := Bx.mk hg
  have HVB := Bx.mk hv
  have HLD : Hid (∀ j v, (gRow st.g)[j]? = some v → w.cell? ⟨G, 2 + j, none⟩ = some v) := Lib.hid fun j v e => by
    have hj := (List.getElem?_eq_some_iff.1 e).1
    rw [gRow_len] at hj
    rw [gRow_at _ j hj] at e
    cases e
    exact h2 j hj
  have hR32 := mset32_lt st.R
  have hK32 := mset32_lt st.K
  obtain ⟨MR, hMR⟩ : ∃ M, mset st.R 32 = M := ⟨_, rfl⟩
  obtain ⟨MK, hMK⟩ : ∃ M, mset st.K 32 = M := ⟨_, rfl⟩
  have HMR := Bx.mk hMR
  have HMK := Bx.mk hMK
  rw [hMR] at hR32 h0 H0
  rw [hMK] at hK32 h1 H1
  clear h2 hx hg hv hMR hMK h1
  go_enter Tryd.func51, Tryd.ntmps51
  go_wp2_with (refine wpList_load_arr 77 (.tmp 12) rfl rfl 3 32 undBeh G 2 (gRow st.g) rfl (by rw [gRow_len]; exact infoBeh) HLD.out ?_)
  have HGR := Lib.hid (gRow_at st.g)
  have HLEN := Lib.hid (gRow_len st.g)
  generalize gRow st.g = Rw at HGR HLEN ⊢
  clear HLD
  go_loopw [14, 5] (fun i bv wr => ∃ (k : Nat) (o : Option Nat), k ≤ 32 ∧ i = .int .i64 k ∧ bv = .int .i64 (opt o) ∧ Bx (bestN (xv xs) st k = o) ∧ Below w.heap.size w wr) (fun i _ _ => 32 - (intOf i).toNat)
  case atStart => exact ⟨0, none, by omega, rfl, rfl, Bx.mk rfl, Below.refl _ _⟩
  case round =>
    obtain ⟨k, o, hk, rfl, rfl, HO, hb⟩ := hrel
    have HB := Lib.hid hb
    clear hb
    by_cases hk32 : k < 32
    case neg =>
      have HF : Bx (bestN (xv xs) st 32 = o) := Bx.mk (by rw [← show k = 32 by omega]; exact HO.out)
      go_wp2
      go_ret
      exact ⟨by rw [HF.out]; rfl, HB.out⟩
    have r0 : wr.cell? ⟨G, 0, none⟩ = some (.int .i64 (MR : Nat)) := (bcells HB.out G _ hG).trans H0.out
    have r1 : wr.cell? ⟨G, 1, none⟩ = some (.int .i64 (MK : Nat)) := (bcells HB.out G _ hG).trans H1.out
    have HIX := fun w => run_index_arr (P := Tryd.prog) (w := w) (xs := Rw) (k := k) undBeh (HGR.out k hk32) HLEN.out infoInt Tryd.underlying3
    have hbR := and_one MR k (by omega)
    have hbK := and_one MK k (by omega)
    obtain ⟨gk, hgk⟩ : ∃ x, st.g k = x := ⟨_, rfl⟩
    rw [hgk] at HIX
    have HGK := Bx.mk hgk
    cases hRk : st.R k with
    | false =>
      have HO2 : Bx (bestN (xv xs) st (k + 1) = o) := Bx.mk (by rw [best_skip (by rw [hRk]; rfl)]; exact HO.out)
      rw [show bit MR k = 0 by rw [← HMR.out]; exact bit_off hRk] at hbR
      clear hRk hgk
      go_wp2
      go_roundw
      case rel => exact ⟨k + 1, o, by omega, by go_num, rfl, HO2, HB.out⟩
      case measure => simp [intOf]; omega
    | true =>
    rw [show bit MR k = 1 by rw [← HMR.out]; exact bit_on hk32 hRk] at hbR
    cases hKk : st.K k with
    | true =>
      have HO2 : Bx (bestN (xv xs) st (k + 1) = o) := Bx.mk (by rw [best_skip (by rw [hRk, hKk]; rfl)]; exact HO.out)
      rw [show bit MK k = 1 by rw [← HMK.out]; exact bit_on hk32 hKk] at hbK
      clear hRk hKk hgk
      go_wp2
      go_roundw
      case rel => exact ⟨k + 1, o, by omega, by go_num, rfl, HO2, HB.out⟩
      case measure => simp [intOf]; omega
    | false =>
    rw [show bit MK k = 0 by rw [← HMK.out]; exact bit_off hKk] at hbK
    have hand : (st.R k && !st.K k) = true := by rw [hRk, hKk]; rfl
    cases o with
    | none =>
      have HO2 : Bx (bestN (xv xs) st (k + 1) = some k) := Bx.mk (best_first hand HO.out)
      clear hRk hKk hgk hand
      simp only [opt]
      go_wp2
      go_roundw
      case rel => exact ⟨k + 1, some k, by omega, by go_num, rfl, HO2, HB.out⟩
      case measure => simp [intOf]; omega
    | some b =>
      have hb32 : b < 32 := by have := (bestN_some HO.out).1; omega
      obtain ⟨gb, hgb⟩ : ∃ x, st.g b = x := ⟨_, rfl⟩
      obtain ⟨hvk, hhk⟩ : ∃ x, xv xs k = x := ⟨_, rfl⟩
      obtain ⟨hvb, hhb⟩ : ∃ x, xv xs b = x := ⟨_, rfl⟩
      have rgb : wr.cell? ⟨G, 2 + b, none⟩ = some (.int .i64 gb) := (bcells HB.out G _ hG).trans (by rw [← hgb]; exact H2.out b hb32)
      have rk : wr.cell? ⟨xb, xo + k, none⟩ = some (.int .i64 hvk) := (bcells HB.out xb _ hxb).trans (by rw [← hhk]; exact HX.out k hk32)
      have rb : wr.cell? ⟨xb, xo + b, none⟩ = some (.int .i64 hvb) := (bcells HB.out xb _ hxb).trans (by rw [← hhb]; exact HX.out b hb32)
      have b1 := HGB.out k hk32
      have b2 := HGB.out b hb32
      have b3 := HVB.out k hk32
      have b4 := HVB.out b hb32
      rw [hgk] at b1
      rw [hgb] at b2
      rw [hhk] at b3
      rw [hhb] at b4
      have w1 : IntKind.i64.wrap (gk + hvk) = gk + hvk := IntWalk.i64_in _ (by omega)
      have w2 : IntKind.i64.wrap (gb + hvb) = gb + hvb := IntWalk.i64_in _ (by omega)
      have hah : ahead (xv xs) st.g k b = (decide (gk + hvk < gb + hvb) || (decide (gk + hvk = gb + hvb) && decide (hvk < hvb))) := by unfold ahead; rw [hgk, hgb, hhk, hhb]
      have HNEW : ahead (xv xs) st.g k b = true → Bx (bestN (xv xs) st (k + 1) = some k) := fun h => Bx.mk (best_new hand HO.out h)
      have HOLD : ahead (xv xs) st.g k b = false → Bx (bestN (xv xs) st (k + 1) = some b) := fun h => Bx.mk (best_old hand HO.out h)
      rw [hah] at HNEW HOLD
      clear hRk hKk hgk hgb hhk hhb hah hand
      simp only [opt]
      go_upto_region 8 with (fail)
      go_quiet (fail)
      have HB2 := Lib.hid (below_drewN HB.out nq)
      obtain ⟨w8, hw8⟩ : ∃ w8, wr.drewN nq = w8 := ⟨_, rfl⟩
      have s1 : w8.cell? ⟨xb, xo + k, none⟩ = some (.int .i64 hvk) := (bcells (hw8 ▸ HB2.out) xb _ hxb).trans ((bcells HB.out xb _ hxb).symm.trans rk)
      have s2 : w8.cell? ⟨xb, xo + b, none⟩ = some (.int .i64 hvb) := (bcells (hw8 ▸ HB2.out) xb _ hxb).trans ((bcells HB.out xb _ hxb).symm.trans rb)
      rw [hw8] at HB2 ⊢
      clear rk rb rgb r0 r1 HB hw8
      by_cases c1 : gk + hvk < gb + hvb
      · have HO2 := HNEW (by rw [decide_eq_true c1]; rfl)
        have hd1 : decide (gk + hvk < gb + hvb) = true := decide_eq_true c1
        clear HNEW HOLD
        go_upto_region 9 with (fail)
        go_quiet (fail)
        have HB3 := Lib.hid (below_drewN HB2.out nq)
        go_wp2
        go_roundw
        case rel => exact ⟨k + 1, some k, by omega, by go_num, rfl, HO2, HB3.out⟩
        case measure => simp [intOf]; omega
      have hd1 : decide (gk + hvk < gb + hvb) = false := decide_eq_false c1
      by_cases c2 : gk + hvk = gb + hvb
      case neg =>
        have HO2 := HOLD (by rw [hd1, decide_eq_false c2]; rfl)
        have hd2 : ((gk + hvk) == (gb + hvb)) = false := beq_false_of_ne c2
        clear HNEW HOLD
        go_upto_region 9 with (fail)
        go_quiet (fail)
        have HB3 := Lib.hid (below_drewN HB2.out nq)
        go_wp2
        go_roundw
        case rel => exact ⟨k + 1, some b, by omega, by go_num, rfl, HO2, HB3.out⟩
        case measure => simp [intOf]; omega
      have hd2 : ((gk + hvk) == (gb + hvb)) = true := by rw [c2]; exact beq_self_eq_true _
      by_cases c3 : hvk < hvb
      · have HO2 := HNEW (by rw [hd1, decide_eq_true c2, decide_eq_true c3]; rfl)
        have hd3 : decide (hvk < hvb) = true := decide_eq_true c3
        clear HNEW HOLD c2
        go_upto_region 9 with (fail)
        go_quiet (fail)
        have HB3 := Lib.hid (below_drewN HB2.out nq)
        go_wp2
        go_roundw
        case rel => exact ⟨k + 1, some k, by omega, by go_num, rfl, HO2, HB3.out⟩
        case measure => simp [intOf]; omega
      · have HO2 := HOLD (by rw [hd1, decide_eq_true c2, decide_eq_false c3]; rfl)
        have hd3 : decide (hvk < hvb) = false := decide_eq_false c3
        clear HNEW HOLD c2
        go_upto_region 9 with (fail)
        go_quiet (fail)
        have HB3 := Lib.hid (below_drewN HB2.out nq)
        go_wp2
        go_roundw
        case rel => exact ⟨k + 1, some b, by omega, by go_num, rfl, HO2, HB3.out⟩
        case measure => simp [intOf]; omega
end Go.Proofs.YtkimgdfcgfhibaaDoor
