/- LookFor of the reference. -/
import Derived.Test.YtkimgdfcgfhibaaDoorSLookI
import Derived.Test.YtkimgdfcgfhibaaDoorSNumOkS
import Derived.Test.YtkimgdfcgfhibaaDoorSSplit
import Derived.Test.YtkimgdfcgfhibaaDoorSCopy
namespace Go.Proofs.YtkimgdfcgfhibaaDoor
set_option linter.unusedVariables false
set_option linter.unusedSimpArgs false
open Go.ChangeShapes Go.WideShapes Go.ChangeAt Go.RowKit

def toV (st : LS) (i : Nat) : Int := if st.R i = true then st.g i else -1
def toL (st : LS) : List Int := (List.range 32).map (toV st)
theorem toL_len (st : LS) : (toL st).length = 32 := by simp [toL]
theorem toL_at (st : LS) (i : Nat) (h : i < 32) : (toL st)[i]? = some (toV st i) := by simp [toL, h]
theorem toL_set (st : LS) (x : Nat) (v : Int) (hx : x < 32) : (toL st).set x v = toL ⟨updB st.R x, st.K, updI st.g x v⟩ := by
  refine List.ext_getElem? fun i => ?_
  rw [List.getElem?_set]
  by_cases hi : i < 32
  · rw [toL_at ⟨updB st.R x, st.K, updI st.g x v⟩ i hi]
    by_cases h : x = i
    · subst h
      rw [if_pos rfl, if_pos (by rw [toL_len]; exact hx)]
      simp [toV, updB, updI]
    · rw [if_neg h, toL_at st i hi]
      have e1 : updB st.R x i = st.R i := if_neg (Ne.symm h)
      have e2 : updI st.g x v i = st.g i := if_neg (Ne.symm h)
      show some (toV st i) = some (if updB st.R x i = true then updI st.g x v i else -1)
      rw [e1, e2]; rfl
  · rw [List.getElem?_eq_none (l := toL ⟨updB st.R x, st.K, updI st.g x v⟩) (by rw [toL_len]; omega), if_neg (by omega), List.getElem?_eq_none (by rw [toL_len]; omega)]
def lkZ : LS := ⟨fun _ => false, fun _ => false, fun _ => 0⟩
theorem toL_zero : toL lkZ = List.replicate 32 (-1) := by decide
theorem toL_look0 {s0 : Nat} (h : s0 < 32) : (List.replicate 32 (-1 : Int)).set s0 0 = toL (look0 s0) := by
  rw [← toL_zero, toL_set _ _ _ h]
  unfold toL
  refine List.map_congr_left fun i _ => ?_
  unfold toV look0 lkZ updB updI only
  by_cases h : i = s0
  · subst h; simp
  · simp only [h, if_false, beq_iff_eq, decide_eq_true_eq, Ne.symm h]; simp
def doC (st : LS) : Array Value := ((List.range 32).map fun i => Value.bool (st.K i)).toArray
theorem doC_at (st : LS) (i : Nat) (h : i < 32) : (doC st)[i]? = some (.bool (st.K i)) := by simp [doC, h]
theorem doC_set (st : LS) (b : Nat) (h : b < 32) : (doC st).setIfInBounds b (.bool true) = doC ⟨st.R, updB st.K b, st.g⟩ := by
  unfold doC
  rw [List.setIfInBounds_toArray]
  congr 1
  refine List.ext_getElem? fun i => ?_
  rw [List.getElem?_set]
  by_cases hi : i < 32
  · by_cases e : b = i
    · subst e; simp [hi, updB]
    · simp [hi, e, updB, Ne.symm e]
  · rw [if_neg (by omega)]
    simp [hi]
theorem hmkB : ∀ W, (Instr.makeSlice 81 (.int .i64 32) (.int .i64 32)).run Tryd.prog W = .ok (.slice (some ⟨W.heap.size, 0, none⟩) 32 32) (W.alloc (.cells (doC lkZ) 4)) := fun _ => by kernel_rfl
set_option maxRecDepth 100000 in
set_option maxHeartbeats 2000000 in
theorem lookFor_spec (v : Value) (t : TaskD) (A : Option Addr) (n c : Nat) (xs : List Int) (w : World) (h : RdT w w.heap.size v t) (hx : RdI .i64 w w.heap.size A n c xs) :
    Calls Tryd.prog 25 #[v, .slice A n c] w fun e w' => e = .returned (.tuple #[.int .i64 (lookFor t xs).1, .int .i64 ((lookFor t xs).2 : Nat)]) ∧ Below w.heap.size w w' := by
  have h' := h
  obtain ⟨G, gn, gc, G', n', c', rfl, hg, hgs, hds, hst⟩ := h
  have S0 := (St.refl w).alloc #[.int .i64 t.start, .slice G gn gc, .slice G' n' c'] 26
  have HT := Lib.hid h'
  have HS0 := Lib.hid S0
  have HXI := Lib.hid hx
  have HGL := Lib.hid hg
  have HDS := Lib.hid hds
  clear S0 h' hg hds
  obtain ⟨bo, hok⟩ : ∃ b, numsOk t xs = b := ⟨_, rfl⟩
  have HNOK := Lib.hid hok
  clear hok
  cases bo with
  | false =>
    have HPN := Bx.mk (lookFor_no HNOK.out)
    go_enter Tryd.func25, Tryd.ntmps25
    go_wp2_with fail
    refine (numbersOk_spec _ t A n c xs _ (HT.out.up HS0.out.below) (HXI.out.up HS0.out.below)).mono ?_
    rw [HNOK.out]
    rintro e w1 ⟨rfl, hb1⟩
    have HB := Lib.hid (HS0.out.quiet hb1).below
    clear hb1
    go_wp2
    go_ret2
    exact ⟨by rw [HPN.out]; rfl, HB.out⟩
  | true =>
    have hN := numsOk_iff.1 HNOK.out
    have HNB := Bx.mk hN.bd
    have HPY := Bx.mk (lookFor_yes HNOK.out)
    have HOK := Lib.hid hN.ok
    obtain ⟨hs0, hgok, hn6, hdok⟩ := taskOk_parts t HOK.out
    have HGOK := Bx.mk hgok
    obtain ⟨s0, hst0⟩ := Int.eq_ofNat_of_zero_le hs0.1
    have hs32 : s0 < 32 := by omega
    obtain rfl : n = 32 := by rw [← hx.len]; exact hN.len
    have HL := Bx.mk HDS.out.len
    rw [HDS.out.len] at hn6
    have HDOK := Lib.hid hdok
    obtain ⟨xb, xo, rfl, hxb, hxc⟩ := hx.x32
    have HXC := Bx.mk hxc
    have hmk := hmkB
    rw [hst0] at HS0 HT ⊢
    clear hs0 hN hx hgok hdok hxc
    go_enter Tryd.func25, Tryd.ntmps25
    go_wp2_with fail
    refine (numbersOk_spec _ t (some ⟨xb, xo, none⟩) 32 c xs _ (HT.out.up HS0.out.below) (HXI.out.up HS0.out.below)).mono ?_
    rw [HNOK.out]
    rintro e w1 ⟨rfl, hb1⟩
    have HST0 := Bx.mk hst0
    have HS1 := Lib.hid (HS0.out.quiet hb1)
    have HS2 : Hid (St w ((w1.alloc (.cells #[] 3)).alloc (.cells (doC lkZ) 4)) [rBlk w.heap.size 26 #[.int .i64 s0, .slice G gn gc, .slice G' n' c'], rBlk (w1.heap.size + 1) 4 (doC lkZ), rInts (.slice (some ⟨w1.heap.size, 0, none⟩) 0 0) []]) := Lib.hid (by
      have := ((HS1.out.call (St.newI w1 _ rfl)).alloc (doC lkZ) 4).pick [0, 2, 1] (by decide) rfl rfl
      simpa using this)
    clear hb1 HS0 hst0 HS1
    go_wp2
    obtain ⟨gD, hgD⟩ : ∃ g, w1.heap.size + 1 = g := ⟨_, rfl⟩
    rw [hgD] at HS2 ⊢
    clear hgD hmk
    have HS2 := HS2
    go_loopw [8, 6] (fun i ov wr => ∃ (k : Nat) (x3 : Value), k ≤ 32 ∧ i = .int .i64 k ∧ x3 = ov ∧ St w wr [rBlk w.heap.size 26 #[.int .i64 s0, .slice G gn gc, .slice G' n' c'], rBlk gD 4 (doC lkZ), rInts x3 (List.replicate k (-1))]) (fun i _ _ => 32 - (intOf i).toNat)
    case atStart => exact ⟨0, _, by omega, rfl, rfl, HS2.out⟩
    case round =>
      obtain ⟨k, x3, hk, rfl, rfl, M⟩ := hrel
      have HM := Lib.hid M
      clear M HS2
      by_cases hlt : k < 32
      · have HROW : Hid (wr.ownsRow 0 3 1 x3 k (ints (List.replicate k (-1)))) := Lib.hid (by have := HM.out.ownI 2 rfl; rwa [List.length_replicate] at this)
        have HAP : Hid (∀ v3 w3, w3.ownsRow 0 3 1 v3 (k + 1) (ints (List.replicate k (-1)) ++ [Value.int .i64 (-1)]) → (wr.alloc (.cells #[.int .i64 (-1)] 3)).grownBy w3 x3.ownBlock → (v3.ownBlock = x3.ownBlock ∨ v3.ownBlock = some (wr.alloc (.cells #[.int .i64 (-1)] 3)).heap.size) →
            St w w3 [rBlk w.heap.size 26 #[.int .i64 s0, .slice G gn gc, .slice G' n' c'], rBlk gD 4 (doC lkZ), rInts v3 (List.replicate (k + 1) (-1))]) :=
          Lib.hid fun v3 w3 h1 h2 h3 => by
            have := St.appI (v := x3) (xs := List.replicate k (-1)) (ys := [-1]) ((HM.out.alloc #[.int .i64 (-1)] 3).pick [0, 1, 2] (by decide) rfl rfl) 2 rfl (by simp) h1 (by intro y hy; simp at hy; subst hy; rfl) h2 h3
            rw [← List.replicate_succ'] at this
            exact this
        go_wp2_with (at_builtin; refine wp_app elInt rfl _ _ rfl 0 x3 k (ints (List.replicate k (-1))) rfl (HROW.out.alloc _) _ _ 1 1 [.int .i64 (-1)] rfl (RdRow.new wr [.int .i64 (-1)] 3 1 1 rfl (by unfold maxLen; omega)) (by simp [Value.oneCell']) (by omega) (by omega) (Nat.zero_le _) ?_; intro v3 w3 hown3 hg3 hat3; have HS6 := Lib.hid (HAP.out v3 w3 hown3 hg3 hat3))
        go_wp2
        go_roundw
        case rel => exact ⟨k + 1, v3, by omega, by go_num, rfl, HS6.out⟩
        case measure => simp [intOf]; omega
      have hk32 : k = 32 := by omega
      subst hk32
      obtain ⟨g, oc, hx3⟩ := HM.out.formI 2 rfl (n := 32) (by simp) (by omega)
      subst hx3
      have q0 : ∀ j, wr.cell? ⟨w.heap.size, j, none⟩ = _ := HM.out.cells 0 rfl
      obtain ⟨ct, ft⟩ := HM.out.cellI 2 rfl (by simp) s0 (-1) (by rw [List.getElem?_replicate, if_pos hs32])
      have HS3 : Hid (St w (wr.setCell ⟨g, s0, none⟩ (.int .i64 0)) [rBlk w.heap.size 26 #[.int .i64 s0, .slice G gn gc, .slice G' n' c'], rBlk gD 4 (doC (look0 s0)), rInts (.slice (some ⟨g, 0, none⟩) 32 oc) (toL (look0 s0))]) := Lib.hid (by
        have := HM.out.storeI 2 rfl (by simp) s0 0 rfl
        rw [toL_look0 hs32] at this
        exact this)
      have hsI : (s0 : Int) < 32 := by omega
      clear HM
      go_wp2
      clear q0 ct ft
      try generalize decide ((32 : Int) < 32) = dk
      have HST : Bx (lookGo t.deeds (evalCode t.goal) (xv xs) (33 - 0) 0 (look0 s0) = lookFor t xs) := Bx.mk (by rw [HPY.out, HST0.out, Int.toNat_natCast])
      go_loopw [9] (fun i wr => ∃ (k : Nat) (st : LS), LG k st ∧ i = .int .i64 ((k + 1 : Nat) : Int) ∧ Bx (lookGo t.deeds (evalCode t.goal) (xv xs) (33 - k) k st = lookFor t xs) ∧ St w wr [rBlk w.heap.size 26 #[.int .i64 s0, .slice G gn gc, .slice G' n' c'], rBlk gD 4 (doC st), rInts (.slice (some ⟨g, 0, none⟩) 32 oc) (toL st)]) (fun i _ => 40 - (intOf i).toNat)
      case atStart => exact ⟨0, look0 s0, look0_G s0, rfl, HST, HS3.out⟩
      case round =>
        clear HS3 HST
        obtain ⟨k, st, I, rfl, HST, S⟩ := hrel
        have HS := Lib.hid S
        have HI := Lib.hid I
        have hk32 := I.le
        clear S I
        go_wp2
        go_loopw [11, 10] (fun i bv wr => ∃ (j : Nat) (o : Option Nat), j ≤ 32 ∧ i = .int .i64 j ∧ bv = .int .i64 (opt o) ∧ Bx (bestN (xv xs) st j = o) ∧ St w wr [rBlk w.heap.size 26 #[.int .i64 s0, .slice G gn gc, .slice G' n' c'], rBlk gD 4 (doC st), rInts (.slice (some ⟨g, 0, none⟩) 32 oc) (toL st)]) (fun i _ _ => 32 - (intOf i).toNat)
        case atStart => exact ⟨0, none, by omega, rfl, rfl, Bx.mk rfl, HS.out⟩
        case round =>
          clear HS
          obtain ⟨j, o, hj, rfl, rfl, HO, S⟩ := hrel
          have HS := Lib.hid S
          clear S
          by_cases hj32 : j < 32
          · obtain ⟨gj, hgj⟩ : ∃ x, st.g j = x := ⟨_, rfl⟩
            obtain ⟨Kj, hKj⟩ : ∃ x, st.K j = x := ⟨_, rfl⟩
            have rd : wr.cell? ⟨gD, j, none⟩ = some (.bool Kj) := (HS.out.cells 1 rfl j).trans (by rw [← hKj]; exact doC_at st j hj32)
            obtain ⟨rt, -⟩ := HS.out.cellI 2 rfl (toL_len st) j _ (toL_at st j hj32)
            have bj := HI.out.g j hj32
            rw [hgj] at bj
            cases hRj : st.R j with
            | false =>
              have HO2 : Bx (bestN (xv xs) st (j + 1) = o) := Bx.mk (by rw [best_skip (by rw [hRj]; rfl)]; exact HO.out)
              rw [show toV st j = -1 by unfold toV; rw [hRj]; rfl] at rt
              clear hRj hgj hKj rd
              go_wp2
              go_roundw
              case rel => exact ⟨j + 1, o, by omega, by go_num, rfl, HO2, HS.out⟩
              case measure => simp [intOf]; omega
            | true =>
            rw [show toV st j = gj by unfold toV; rw [hRj, hgj]; rfl] at rt
            have hg0 : ¬ gj < 0 := by omega
            cases Kj with
            | true =>
              have HO2 : Bx (bestN (xv xs) st (j + 1) = o) := Bx.mk (by rw [best_skip (by rw [hRj, hKj]; rfl)]; exact HO.out)
              clear hRj hgj hKj
              go_wp2
              go_roundw
              case rel => exact ⟨j + 1, o, by omega, by go_num, rfl, HO2, HS.out⟩
              case measure => simp [intOf]; omega
            | false =>
            have hand : (st.R j && !st.K j) = true := by rw [hRj, hKj]; rfl
            obtain ⟨hvk, hhk⟩ : ∃ x, xv xs j = x := ⟨_, rfl⟩
            have rk : wr.cell? ⟨xb, xo + j, none⟩ = some (.int .i64 hvk) := (bcells HS.out.below xb _ hxb).trans (by rw [← hhk]; exact (HXC.out j hj32).2)
            have b3 := HNB.out j hj32
            rw [hhk] at b3
            cases o with
            | none =>
              have HO2 : Bx (bestN (xv xs) st (j + 1) = some j) := Bx.mk (best_first hand HO.out)
              clear hRj hgj hKj hand hhk
              simp only [opt]
              go_upto_region 17 with (fail)
              go_quiet (fail)
              have HS2 := Lib.hid (HS.out.drewN nq)
              go_wp2
              go_roundw
              case rel => exact ⟨j + 1, some j, by omega, by go_num, rfl, HO2, HS2.out⟩
              case measure => simp [intOf]; omega
            | some b =>
              obtain ⟨hbj, hRb, -, -⟩ := bestN_some HO.out
              have hb32 : b < 32 := by omega
              obtain ⟨gb, hgb⟩ : ∃ x, st.g b = x := ⟨_, rfl⟩
              obtain ⟨hvb, hhb⟩ : ∃ x, xv xs b = x := ⟨_, rfl⟩
              obtain ⟨rgb, -⟩ := HS.out.cellI 2 rfl (toL_len st) b _ (toL_at st b hb32)
              rw [show toV st b = gb by unfold toV; rw [hRb, hgb]; rfl] at rgb
              have rb : wr.cell? ⟨xb, xo + b, none⟩ = some (.int .i64 hvb) := (bcells HS.out.below xb _ hxb).trans (by rw [← hhb]; exact (HXC.out b hb32).2)
              have b2 := HI.out.g b hb32
              have b4 := HNB.out b hb32
              rw [hgb] at b2
              rw [hhb] at b4
              have w1 : IntKind.i64.wrap (gj + hvk) = gj + hvk := IntWalk.i64_in _ (by omega)
              have w2 : IntKind.i64.wrap (gb + hvb) = gb + hvb := IntWalk.i64_in _ (by omega)
              have hah : ahead (xv xs) st.g j b = (decide (gj + hvk < gb + hvb) || (decide (gj + hvk = gb + hvb) && decide (hvk < hvb))) := by unfold ahead; rw [hgj, hgb, hhk, hhb]
              have HNEW : ahead (xv xs) st.g j b = true → Bx (bestN (xv xs) st (j + 1) = some j) := fun h => Bx.mk (best_new hand HO.out h)
              have HOLD : ahead (xv xs) st.g j b = false → Bx (bestN (xv xs) st (j + 1) = some b) := fun h => Bx.mk (best_old hand HO.out h)
              rw [hah] at HNEW HOLD
              have hbn : decide ((b : Int) < 0) = false := decide_eq_false (by omega)
              clear hRj hKj hgj hgb hhk hhb hah hand hRb
              simp only [opt]
              by_cases c1 : gj + hvk < gb + hvb
              · have HO2 := HNEW (by rw [decide_eq_true c1]; rfl)
                have hd1 : decide (gj + hvk < gb + hvb) = true := decide_eq_true c1
                clear HNEW HOLD
                go_upto_region 17 with (fail)
                go_quiet (fail)
                have HS2 := Lib.hid (HS.out.drewN nq)
                go_wp2
                go_roundw
                case rel => exact ⟨j + 1, some j, by omega, by go_num, rfl, HO2, HS2.out⟩
                case measure => simp [intOf]; omega
              have hd1 : decide (gj + hvk < gb + hvb) = false := decide_eq_false c1
              by_cases c2 : gj + hvk = gb + hvb
              case neg =>
                have HO2 := HOLD (by rw [hd1, decide_eq_false c2]; rfl)
                have hd2 : ((gj + hvk) == (gb + hvb)) = false := beq_false_of_ne c2
                clear HNEW HOLD
                go_upto_region 17 with (fail)
                go_quiet (fail)
                have HS2 := Lib.hid (HS.out.drewN nq)
                go_wp2
                go_roundw
                case rel => exact ⟨j + 1, some b, by omega, by go_num, rfl, HO2, HS2.out⟩
                case measure => simp [intOf]; omega
              have hd2 : ((gj + hvk) == (gb + hvb)) = true := by rw [c2]; exact beq_self_eq_true _
              by_cases c3 : hvk < hvb
              · have HO2 := HNEW (by rw [hd1, decide_eq_true c2, decide_eq_true c3]; rfl)
                have hd3 : decide (hvk < hvb) = true := decide_eq_true c3
                clear HNEW HOLD c2
                go_upto_region 17 with (fail)
                go_quiet (fail)
                have HS2 := Lib.hid (HS.out.drewN nq)
                go_wp2
                go_roundw
                case rel => exact ⟨j + 1, some j, by omega, by go_num, rfl, HO2, HS2.out⟩
                case measure => simp [intOf]; omega
              · have HO2 := HOLD (by rw [hd1, decide_eq_true c2, decide_eq_false c3]; rfl)
                have hd3 : decide (hvk < hvb) = false := decide_eq_false c3
                clear HNEW HOLD c2
                go_upto_region 17 with (fail)
                go_quiet (fail)
                have HS2 := Lib.hid (HS.out.drewN nq)
                go_wp2
                go_roundw
                case rel => exact ⟨j + 1, some b, by omega, by go_num, rfl, HO2, HS2.out⟩
                case measure => simp [intOf]; omega
          have hj2 : j = 32 := by omega
          subst hj2
          cases o with
          | none =>
            have HF : Bx (lookFor t xs = (-1, k)) := Bx.mk (by rw [← HST.out]; exact lookGo_none hk32 HO.out)
            simp only [opt]
            go_wp2
            go_ret2
            exact ⟨by rw [HF.out]; go_num, HS.out.below⟩
          | some b =>
            obtain ⟨hlb, hk31⟩ := HI.out.lb HO.out
            obtain ⟨hb32, hRb, -, -⟩ := bestN_some HO.out
            obtain ⟨gb, hgbv⟩ : ∃ x, st.g b = x := ⟨_, rfl⟩
            obtain ⟨sk, hsk⟩ : ∃ s, (⟨st.R, updB st.K b, st.g⟩ : LS) = s := ⟨_, rfl⟩
            have HLB : Hid (LB b k sk) := Lib.hid (by rw [← hsk]; exact ⟨hlb.r, hlb.gb, hlb.all⟩)
            have HLT : Bx (lookTo t.deeds b st 0 = sk) := Bx.mk (by rw [← hsk]; rfl)
            have HS4 : Hid (St w (wr.setCell ⟨gD, b, none⟩ (.bool true)) [rBlk w.heap.size 26 #[.int .i64 s0, .slice G gn gc, .slice G' n' c'], rBlk gD 4 (doC sk), rInts (.slice (some ⟨g, 0, none⟩) 32 oc) (toL sk)]) := Lib.hid (by
              have := HS.out.set 1 rfl b (.bool true)
              rw [doC_set st b hb32] at this
              rw [← hsk]
              exact this)
            have cd : wr.cell? ⟨gD, b, none⟩ = some (.bool (st.K b)) := (HS.out.cells 1 rfl b).trans (doC_at st b hb32)
            have fd := HS.out.free 1 rfl
            have q0 : ∀ j, wr.cell? ⟨w.heap.size, j, none⟩ = _ := HS.out.cells 0 rfl
            have q1 : ∀ j, (wr.setCell ⟨gD, b, none⟩ (.bool true)).cell? ⟨w.heap.size, j, none⟩ = _ := HS4.out.cells 0 rfl
            have hbI : (b : Int) < 32 := by omega
            have hbN : ¬ (b : Int) < 0 := by omega
            have HTV : Bx (toV sk b = gb) := Bx.mk (by rw [← hsk]; show (if st.R b = true then st.g b else -1) = gb; rw [if_pos hRb, hgbv])
            clear hlb hsk
            simp only [opt]
            go_wp2_with fail
            refine (l5Run_any G gn gc t.goal b _ (HGL.out.up HS4.out.below) HGOK.out hb32).mono ?_
            cases hev : evalCode t.goal b with
            | true =>
              have HF : Bx (lookFor t xs = (gb, k + 1)) := Bx.mk (by rw [← HST.out, ← hgbv]; exact lookGo_goal hk32 HO.out hev)
              rintro e w5 ⟨rfl, hb5⟩
              have HS5 := Lib.hid (HS4.out.quiet hb5)
              obtain ⟨r1, -⟩ := HS5.out.cellI 2 rfl (toL_len sk) b _ (toL_at sk b hb32)
              rw [HTV.out] at r1
              clear hb5 HS4 HS q0 q1 cd fd hev hgbv HST
              go_wp2
              go_ret2
              exact ⟨by rw [HF.out]; go_num, HS5.out.below⟩
            | false =>
              rintro e w5 ⟨rfl, hb5⟩
              have HS5 := Lib.hid (HS4.out.quiet hb5)
              have HST2 : Bx (lookGo t.deeds (evalCode t.goal) (xv xs) (33 - (k + 1)) (k + 1) (lookS t.deeds b st) = lookFor t xs) := Bx.mk (by rw [← HST.out]; exact (lookGo_next hk32 HO.out hev).symm)
              clear hb5 HS4 HS q0 q1 cd fd hev hgbv HST
              go_wp2
              go_loopw [12] (fun i wr => ∃ j : Nat, j ≤ n' ∧ ∃ sa, Bx (lookTo t.deeds b st j = sa) ∧ Bx (LB b k sa) ∧ i = .int .i64 j ∧ St w wr [rBlk w.heap.size 26 #[.int .i64 s0, .slice G gn gc, .slice G' n' c'], rBlk gD 4 (doC sa), rInts (.slice (some ⟨g, 0, none⟩) 32 oc) (toL sa)]) (fun i _ => n' - (intOf i).toNat)
              case atStart => exact ⟨0, by omega, sk, HLT, Bx.mk HLB.out, rfl, HS5.out⟩
              case round =>
                clear HS5 HLT HLB HTV
                obtain ⟨j, hj, sa, HLT, HLB, rfl, S⟩ := hrel
                have HS := Lib.hid S
                clear S
                have q0 : ∀ j, wr.cell? ⟨w.heap.size, j, none⟩ = _ := HS.out.cells 0 rfl
                by_cases hjn : j < n'
                case neg =>
                  have hF : lookS t.deeds b st = sa := by rw [← lookTo_all, HL.out, ← show j = n' by omega]; exact HLT.out
                  have HST3 : Bx (lookGo t.deeds (evalCode t.goal) (xv xs) (33 - (k + 1)) (k + 1) sa = lookFor t xs) := Bx.mk (by rw [← hF]; exact HST2.out)
                  have HI2 : Hid (LG (k + 1) sa) := Lib.hid (by rw [← hF]; exact HI.out.next HO.out (by rw [hF]; exact HLB.out))
                  clear hF
                  go_wp2
                  go_roundw
                  case rel =>
                    refine ⟨_, _, _, _, _, _, _, _, _, _, _, _, _, _, _, _, _, _, _, _, _, _, _, _, _, _, _, _, _, _, _, _, _, _, _, _, _, _, _, _, _, _, _, _, _, _, _, _, _, _, _, _, _, _, _, _, _, _, _, _, _, _, _, _, _, _, _, _, _, _, _, _, _, _, _, _, _, _, _, _, _, _, _, _, _, _, _, _, _, _, _, _, _, _, _, _, _, _, _, _, _, _, _, _, _, _, _, _, _, _, _, _, _, _, _, _, _, _, _, _, _, _, _, _, _, _, _, _, _, _, _, _, _, _, _, _, _, _, _, _, _, ?_, rfl⟩
                    exact ⟨k + 1, sa, HI2.out, by go_num, HST3, HS.out⟩
                  case measure => simp [intOf]; omega
                obtain ⟨db, off, d, rfl, hdb, hd, hda⟩ := HDS.out.get hjn
                obtain ⟨An, nn, cn, p0, p1, p2, p3, hneed, -⟩ := (hda.keep hdb (bcells HS.out.below))
                have HDK := Lib.hid hd
                have HDO := Lib.hid (HDOK.out d (List.mem_of_getElem? hd))
                have HN := Lib.hid (hneed.more HS.out.below.size)
                clear hd hda hneed
                go_wp2_with fail
                refine (l6Do_any An nn cn d b _ HN.out HDO.out hb32).mono ?_
                obtain ⟨o, ho⟩ : ∃ o, deedDo d b = o := ⟨_, rfl⟩
                rw [ho]
                rintro e w6 ⟨rfl, hb6⟩
                have HS6 := Lib.hid (HS.out.quiet hb6)
                have HO6 := Lib.hid ho
                clear hb6 HS q0 p0 p1 p2 p3 ho HN
                cases o with
                | none =>
                  have HLT2 : Bx (lookTo t.deeds b st (j + 1) = sa) := Bx.mk (by rw [lookTo_step HDK.out, HLT.out]; unfold look1; rw [HO6.out])
                  simp only [opt]
                  go_upto_region 28 with (fail)
                  go_quiet (fail)
                  have HS7 := Lib.hid (HS6.out.drewN nq)
                  go_wp2
                  go_roundw
                  case rel => exact ⟨j + 1, by omega, sa, HLT2, HLB, by go_num, HS7.out⟩
                  case measure => simp [intOf]; omega
                | some x =>
                  have hx := deedDo_lt d b x HDO.out hb32 HO6.out
                  obtain ⟨gb, hgb⟩ : ∃ g, sa.g b = g := ⟨_, rfl⟩
                  obtain ⟨gx, hgx⟩ : ∃ g, sa.g x = g := ⟨_, rfl⟩
                  obtain ⟨sg, hsg⟩ : ∃ s, (⟨updB sa.R x, sa.K, updI sa.g x (gb + 1)⟩ : LS) = s := ⟨_, rfl⟩
                  have hgb2 := HLB.out.gb
                  have hgx2 := HLB.out.all x hx
                  rw [hgb] at hgb2
                  rw [hgx] at hgx2
                  have hw : IntKind.i64.wrap (gb + 1) = gb + 1 := IntWalk.i64_in _ (by omega)
                  have HYES : (!sa.R x || decide (gb + 1 < gx)) = true → Bx (lookTo t.deeds b st (j + 1) = sg) ∧ Bx (LB b k sg) := fun h => ⟨Bx.mk (by rw [lookTo_step HDK.out, HLT.out]; unfold look1; rw [HO6.out]; simp only []; rw [if_pos (by rw [hgb, hgx]; exact h), hgb]; exact hsg), Bx.mk (by rw [← hsg, ← hgb]; exact HLB.out.step (by rw [hgb, hgx]; exact h))⟩
                  have HNO : (!sa.R x || decide (gb + 1 < gx)) = false → Bx (lookTo t.deeds b st (j + 1) = sa) := fun h => Bx.mk (by rw [lookTo_step HDK.out, HLT.out]; unfold look1; rw [HO6.out]; simp only []; rw [if_neg (by rw [hgb, hgx, h]; simp)])
                  obtain ⟨rgb, -⟩ := HS6.out.cellI 2 rfl (toL_len sa) b _ (toL_at sa b hb32)
                  rw [show toV sa b = gb by unfold toV; rw [HLB.out.r, hgb]; rfl] at rgb
                  obtain ⟨rgx, fgx⟩ := HS6.out.cellI 2 rfl (toL_len sa) x _ (toL_at sa x hx)
                  have HSTO : Hid (∀ W, St w W [rBlk w.heap.size 26 #[.int .i64 s0, .slice G gn gc, .slice (some ⟨db, off, none⟩) n' c'], rBlk gD 4 (doC sa), rInts (.slice (some ⟨g, 0, none⟩) 32 oc) (toL sa)] → St w (W.setCell ⟨g, x, none⟩ (.int .i64 (gb + 1))) [rBlk w.heap.size 26 #[.int .i64 s0, .slice G gn gc, .slice (some ⟨db, off, none⟩) n' c'], rBlk gD 4 (doC sg), rInts (.slice (some ⟨g, 0, none⟩) 32 oc) (toL sg)]) := Lib.hid fun W h => by
                    have := h.storeI 2 rfl (toL_len sa) x (gb + 1) (wf_i64_mk (by omega))
                    rw [toL_set _ _ _ hx] at this
                    rw [← hsg]
                    exact this
                  have hx0 : ¬ ((x : Int) < 0) := by omega
                  have hxd : decide ((0 : Int) ≤ (x : Int)) = true := decide_eq_true (by omega)
                  have hxI : (x : Int) < 32 := by omega
                  have hbI2 : (b : Int) < 32 := by omega
                  have HTB : Bx (toV sa b = gb) := Bx.mk (by unfold toV; rw [HLB.out.r, hgb]; rfl)
                  have hgx0 := hgx
                  clear hgb hgx hsg
                  simp only [opt]
                  cases hRx : sa.R x with
                  | false =>
                    obtain ⟨HLT2, HLB2⟩ := HYES (by rw [hRx]; rfl)
                    rw [show toV sa x = -1 by unfold toV; rw [hRx]; rfl] at rgx
                    clear hRx HYES HNO
                    go_upto_region 28 with (fail)
                    go_quiet (fail)
                    have HS7 := Lib.hid (HS6.out.drewN nq)
                    have HS8 := Lib.hid (HSTO.out _ HS7.out)
                    have rgb7 := (HS7.out.cellI 2 rfl (toL_len sa) b _ (toL_at sa b hb32)).1
                    rw [HTB.out] at rgb7
                    obtain ⟨rx7, fx7⟩ := HS7.out.cellI 2 rfl (toL_len sa) x _ (toL_at sa x hx)
                    clear HS6 HS7 rgb rgx fgx
                    go_wp2
                    go_roundw
                    case rel => exact ⟨j + 1, by omega, sg, HLT2, HLB2, by go_num, HS8.out⟩
                    case measure => simp [intOf]; omega
                  | true =>
                    rw [show toV sa x = gx by unfold toV; rw [hRx, hgx0]; rfl] at rgx
                    have hgx1 : ¬ gx < 0 := by omega
                    by_cases hlt2 : gb + 1 < gx
                    · obtain ⟨HLT2, HLB2⟩ := HYES (by rw [decide_eq_true hlt2, Bool.or_true])
                      have hd2 : decide (gb + 1 < gx) = true := decide_eq_true hlt2
                      clear hRx HYES HNO hgx0
                      go_upto_region 28 with (fail)
                      go_quiet (fail)
                      have HS7 := Lib.hid (HS6.out.drewN nq)
                      have HS8 := Lib.hid (HSTO.out _ HS7.out)
                      have rgb7 := (HS7.out.cellI 2 rfl (toL_len sa) b _ (toL_at sa b hb32)).1
                      rw [HTB.out] at rgb7
                      obtain ⟨rx7, fx7⟩ := HS7.out.cellI 2 rfl (toL_len sa) x _ (toL_at sa x hx)
                      clear HS6 HS7 rgb rgx fgx
                      go_wp2
                      go_roundw
                      case rel => exact ⟨j + 1, by omega, sg, HLT2, HLB2, by go_num, HS8.out⟩
                      case measure => simp [intOf]; omega
                    · have HLT2 := HNO (by rw [hRx, decide_eq_false hlt2]; rfl)
                      have hd2 : decide (gb + 1 < gx) = false := decide_eq_false hlt2
                      clear hRx HYES HNO hgx0
                      go_upto_region 28 with (fail)
                      go_quiet (fail)
                      have HS7 := Lib.hid (HS6.out.drewN nq)
                      clear HS6 rgb rgx fgx
                      go_wp2
                      go_roundw
                      case rel => exact ⟨j + 1, by omega, sa, HLT2, HLB, by go_num, HS7.out⟩
                      case measure => simp [intOf]; omega
end Go.Proofs.YtkimgdfcgfhibaaDoor
