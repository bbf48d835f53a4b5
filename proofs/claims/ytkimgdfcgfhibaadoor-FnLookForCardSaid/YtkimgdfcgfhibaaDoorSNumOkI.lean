/- Joined texts: NumOkI, NumForS. -/
import Derived.Test.YtkimgdfcgfhibaaDoorSErrAs
import Derived.Test.YtkimgdfcgfhibaaDoorSTruth
import Derived.Test.YtkimgdfcgfhibaaDoorSNumL
/- NumbersOk of the program. -/
namespace Go.Proofs.YtkimgdfcgfhibaaDoor
set_option linter.unusedVariables false
set_option linter.unusedSimpArgs false
open Go.ChangeShapes Go.WideShapes Go.ChangeAt Go.RowKit

/-- the first m numbers are as they should be, the deeds aside -/
def goodTo (t : TaskD) (xs : List Int) (m : Nat) : Prop := ∀ s, s < m → (0 ≤ xv xs s ∧ xv xs s ≤ 40) ∧ (evalCode t.goal s = true → xv xs s = 0)
theorem good_zero (t : TaskD) (xs : List Int) : goodTo t xs 0 := fun s h => by omega
theorem good_next {t : TaskD} {xs : List Int} {m : Nat} (h : goodTo t xs m) (k : (0 ≤ xv xs m ∧ xv xs m ≤ 40) ∧ (evalCode t.goal m = true → xv xs m = 0)) : goodTo t xs (m + 1) := fun s hs => by
  rcases Nat.lt_or_ge s m with h1 | h1
  · exact h s h1
  · obtain rfl : s = m := by omega
    exact k
theorem good_under {t : TaskD} {xs : List Int} (h : goodTo t xs 32) (hok : taskOk t = true) (hl : xs.length = 32) (hu : underOk t.deeds xs) : numsOk t xs = true :=
  numsOk_iff.2 ⟨hok, hl, fun s hs => (h s hs).1, fun s hs => (h s hs).2, fun s hs d hd q e => by
    obtain ⟨k, hk, rfl⟩ := List.getElem_of_mem hd
    exact hu k _ s q (List.getElem?_eq_getElem hk) hs e⟩
theorem good_not {t : TaskD} {xs : List Int} (hu : ¬ underOk t.deeds xs) : numsOk t xs = false := by
  cases h : numsOk t xs with
  | false => rfl
  | true => exact absurd (fun k d s q hd hs e => (numsOk_iff.1 h).step s hs d (List.mem_of_getElem? hd) q e) hu
set_option maxRecDepth 100000 in
set_option maxHeartbeats 2000000 in
theorem numbersOk_impl (v : Value) (t : TaskD) (A : Option Addr) (n c : Nat) (xs : List Int) (w : World) (h : RdT w w.heap.size v t) (hx : RdI .i64 w w.heap.size A n c xs) (he : ErrH w) :
    Calls Tryd.prog 12 #[v, .slice A n c] w fun e w' => e = .returned (.bool (numsOk t xs)) ∧ Below w.heap.size w w' := by
  have h' := h
  obtain ⟨G, gn, gc, G', n', c', rfl, hg, hgs, hds, hst⟩ := h
  have S0 := (St.refl w).alloc #[.int .i64 t.start, .slice G gn gc, .slice G' n' c'] 26
  have HT := Lib.hid h'
  have HS0 := Lib.hid S0
  have HG := Lib.hid hg
  have HXI := Lib.hid hx
  have HE := Lib.hid he
  obtain ⟨bo, hok⟩ : ∃ b, taskOk t = b := ⟨_, rfl⟩
  have HOK := Lib.hid hok
  clear S0 h' hok hg hds he
  cases bo with
  | false =>
    have HN := Bx.mk (numsOk_task (xs := xs) HOK.out)
    go_enter Tryd.func12, Tryd.ntmps12
    go_wp2_with fail
    refine (taskValid_impl _ t _ (HT.out.up HS0.out.below)).mono ?_
    rw [HOK.out]
    rintro e w1 ⟨rfl, hb1⟩
    have HB := Lib.hid (HS0.out.quiet hb1).below
    clear hb1
    go_wp2
    go_ret
    exact ⟨by rw [HN.out]; rfl, HB.out⟩
  | true =>
    obtain ⟨-, hgok, -, -⟩ := taskOk_parts t HOK.out
    have HTR := Bx.mk (codeTruth_yes t.goal hgok)
    clear hgok
    by_cases hlen : n = 32
    case neg =>
      have HN := Bx.mk (numsOk_len (t := t) (xs := xs) (by rw [hx.len]; exact hlen))
      have hnI : ((n : Int) == 32) = false := beq_false_of_ne (by omega)
      have hnJ : ((n : Int) ≠ 32) := by omega
      go_enter Tryd.func12, Tryd.ntmps12
      go_wp2_with fail
      refine (taskValid_impl _ t _ (HT.out.up HS0.out.below)).mono ?_
      rw [HOK.out]
      rintro e w1 ⟨rfl, hb1⟩
      have HB := Lib.hid (HS0.out.quiet hb1).below
      clear hb1
      go_wp2
      go_ret
      exact ⟨by rw [HN.out]; rfl, HB.out⟩
    subst hlen
    have HL := Bx.mk hx.len
    clear hx
    go_enter Tryd.func12, Tryd.ntmps12
    go_wp2_with fail
    refine (taskValid_impl _ t _ (HT.out.up HS0.out.below)).mono ?_
    rw [HOK.out]
    rintro e w1 ⟨rfl, hb1⟩
    have HS1 := Lib.hid (HS0.out.quiet hb1)
    clear hb1 HS0
    have q2 : ∀ j, w1.cell? ⟨w.heap.size, j, none⟩ = _ := HS1.out.cells 0 rfl
    obtain ⟨N0, hN0⟩ : ∃ N, truthN t.goal = N := ⟨_, rfl⟩
    have HN0 : Bx (∀ s, s < 32 → (bit N0 s == 1) = evalCode t.goal s) := Bx.mk fun s hs => by rw [← hN0]; exact bit_mset1 _ hs
    have hN32 : N0 < 4294967296 := by rw [← hN0]; exact mset32_lt _
    rw [hN0] at HTR
    clear hN0
    go_wp2_with fail
    refine (codeTruth_impl G gn gc t.goal _ (HG.out.up HS1.out.below)).mono ?_
    rw [HTR.out]
    rintro e w2 ⟨rfl, hb2⟩
    have HS2 := Lib.hid (HS1.out.quiet hb2)
    clear hb2 HS1 q2
    obtain ⟨xb, xo, rfl, hxb, hxc⟩ := HXI.out.x32
    have HXC := Bx.mk hxc
    clear hxc
    go_wp2
    go_loopw [22] (fun i wr => ∃ m : Nat, m ≤ 32 ∧ i = .int .i64 m ∧ Bx (goodTo t xs m) ∧ St w wr [rBlk w.heap.size 26 #[.int .i64 t.start, .slice G gn gc, .slice G' n' c']]) (fun i _ => 32 - (intOf i).toNat)
    case atStart => exact ⟨0, by omega, rfl, Bx.mk (good_zero _ _), HS2.out⟩
    case round =>
      clear HS2
      obtain ⟨m, hm, rfl, HR, MM⟩ := hrel
      have HM := Lib.hid MM
      clear MM
      by_cases hlt : m < 32
      · obtain ⟨x, hxv⟩ : ∃ x, xv xs m = x := ⟨_, rfl⟩
        have HX := Bx.mk hxv
        have rx : wr.cell? ⟨xb, xo + m, none⟩ = some (.int .i64 x) := (bcells HM.out.below xb _ hxb).trans (by rw [← hxv]; exact (HXC.out m hlt).2)
        have hxw := wf_i64 (by rw [← hxv]; exact (HXC.out m hlt).1 : (Lit.int .i64 x).wf = true)
        have hbit := and_one N0 m (by omega)
        obtain ⟨gb, hgb⟩ : ∃ b, evalCode t.goal m = b := ⟨_, rfl⟩
        have HGB := Bx.mk hgb
        have hb1 := HN0.out m hlt
        rw [hgb] at hb1
        clear hxv hgb
        by_cases hlo : x < 0
        case pos =>
          have HF := Bx.mk (numsOk_row hlt (numRow_bd (t := t) (by rw [HX.out]; omega)))
          clear hb1 hbit
          go_wp2
          go_ret
          exact ⟨by rw [HF.out]; rfl, HM.out.below⟩
        by_cases hhi : 40 < x
        case pos =>
          have HF := Bx.mk (numsOk_row hlt (numRow_bd (t := t) (by rw [HX.out]; omega)))
          clear hb1 hbit
          go_wp2
          go_ret
          exact ⟨by rw [HF.out]; rfl, HM.out.below⟩
        have HBD : Bx (0 ≤ xv xs m ∧ xv xs m ≤ 40) := Bx.mk (by rw [HX.out]; omega)
        cases gb with
        | true =>
          have h1 : bit N0 m = 1 := by simpa using hb1
          rw [h1] at hbit
          clear hb1 h1
          by_cases hx0 : x = 0
          case neg =>
            have HF := Bx.mk (numsOk_row hlt (numRow_goal HGB.out (by rw [HX.out]; exact hx0)))
            have hxe : (x == 0) = false := beq_false_of_ne hx0
            go_wp2
            go_ret
            exact ⟨by rw [HF.out]; rfl, HM.out.below⟩
          subst hx0
          have HR2 := Bx.mk (good_next HR.out ⟨HBD.out, fun _ => HX.out⟩)
          go_wp2
          go_roundw
          case rel => exact ⟨m + 1, by omega, by go_num, HR2, HM.out⟩
          case measure => simp [intOf]; omega
        | false =>
          have h1 : bit N0 m = 0 := by have := bit_lt N0 m; have h2 : bit N0 m ≠ 1 := by simpa using hb1
                                       omega
          rw [h1] at hbit
          clear hb1 h1
          have HR2 := Bx.mk (good_next HR.out ⟨HBD.out, fun e => by rw [HGB.out] at e; cases e⟩)
          go_wp2
          go_roundw
          case rel => exact ⟨m + 1, by omega, by go_num, HR2, HM.out⟩
          case measure => simp [intOf]; omega
      · obtain rfl : m = 32 := by omega
        obtain ⟨g5, hg5⟩ : ∃ g5, wr.heap.size = g5 := ⟨_, rfl⟩
        have hgw : w.heap.size ≤ g5 := by rw [← hg5]; exact HM.out.below.size
        have HS3 : Hid (St w (wr.alloc (.cells #[.int .i64 0, .int .i64 0] 62)) [rBlk w.heap.size 26 #[.int .i64 t.start, .slice G gn gc, .slice G' n' c'], rBlk g5 62 #[.int .i64 0, .int .i64 0]]) := Lib.hid (by rw [← hg5]; exact HM.out.alloc _ _)
        have H0 : Bx (∀ s, s < 32 → 0 ≤ xv xs s) := Bx.mk fun s hs => (HR.out s hs).1.1
        clear HM
        have q3 : ∀ j, (wr.alloc (.cells #[.int .i64 0, .int .i64 0] 62)).cell? ⟨w.heap.size, j, none⟩ = _ := HS3.out.cells 0 rfl
        go_wp2_with fail
        try rw [hg5]
        generalize wr.alloc (.cells #[.int .i64 0, .int .i64 0] 62) = wa at HS3 q3 ⊢
        refine (stepsUnder_any _ t _ c xs _ (HT.out.up HS3.out.below) HOK.out (HXI.out.up HS3.out.below) H0.out).mono ?_
        rintro e w4 ⟨he4, hb4⟩
        have HS4 := Lib.hid (HS3.out.quiet hb4)
        clear hb4 q3 HS3
        rcases he4 with ⟨hu, rfl⟩ | ⟨hu, a, b, ha, hb, rfl⟩
        · have HF := Bx.mk (good_under HR.out HOK.out HL.out hu)
          clear hu
          go_wp2_with fail
          refine (as_nil _ _).mono ?_
          rintro e w5 ⟨rfl, rfl⟩
          go_wp2
          go_ret
          exact ⟨by rw [HF.out]; rfl, HS4.out.below⟩
        · have HF := Bx.mk (good_not hu)
          clear hu
          go_wp2_with fail
          refine (as_hit_any _ _ g5 w.heap.size _ _ _ (HE.out.up HS4.out.below) (HS4.out.blk 1 rfl) hgw).mono ?_
          rintro e w5 ⟨rfl, hb5⟩
          have HB := Lib.hid (HS4.out.below.trans hb5)
          clear hb5
          go_wp2
          go_ret
          exact ⟨by rw [HF.out]; rfl, HB.out⟩
end Go.Proofs.YtkimgdfcgfhibaaDoor

/- NumbersFor of the reference. -/
namespace Go.Proofs.YtkimgdfcgfhibaaDoor
set_option linter.unusedVariables false
set_option linter.unusedSimpArgs false
open Go.ChangeShapes Go.WideShapes Go.ChangeAt Go.RowKit
theorem stepsLeastR_len (t : TaskD) : (stepsLeastR t).length ≤ 32 := by unfold stepsLeastR; split <;> simp [stepsL_len]
theorem stepsLeastR_wf (t : TaskD) : ∀ x ∈ stepsLeastR t, (Lit.int .i64 x).wf = true := by
  unfold stepsLeastR
  split
  · exact stepsL_wf _ _
  · intro x hx; cases hx
set_option maxRecDepth 100000 in
set_option maxHeartbeats 1000000 in
theorem numbersFor_spec (v : Value) (t : TaskD) (w : World) (h : RdT w w.heap.size v t) :
    Calls Tryd.prog 83 #[v] w (Gives w id fun v => [rInts v (numsFor t)]) := by
  have h' := h
  obtain ⟨G, gn, gc, G', n', c', rfl, -, -, -, -⟩ := h
  have S0 : St w ((w.alloc (.cells #[.int .i64 t.start, .slice G gn gc, .slice G' n' c'] 26)).alloc (.cells #[] 3)) [rBlk w.heap.size 26 #[.int .i64 t.start, .slice G gn gc, .slice G' n' c'], rInts (.slice (some ⟨w.heap.size + 1, 0, none⟩) 0 0) []] :=
    ((St.refl w).alloc #[.int .i64 t.start, .slice G gn gc, .slice G' n' c'] 26).call (St.newI _ _ (by simp))
  have HT := Lib.hid h'
  have HS0 := Lib.hid S0
  have HE := Bx.mk (numsFor_eq t)
  have hn32 := stepsLeastR_len t
  have HWF := Bx.mk (stepsLeastR_wf t)
  clear S0 h'
  go_enter Tryd.func83, Tryd.ntmps83
  go_wp2_with fail
  refine (stepsLeast_spec _ t _ (HT.out.up HS0.out.below)).mono ?_
  rintro e w3 ⟨sv, rfl, s3⟩
  obtain ⟨xs, hxs⟩ : ∃ xs, stepsLeastR t = xs := ⟨_, rfl⟩
  rw [hxs] at HE HWF hn32 s3
  obtain ⟨n, hn⟩ : ∃ n, xs.length = n := ⟨_, rfl⟩
  rw [hn] at hn32
  obtain ⟨A, c, hs⟩ := s3.formN 0 rfl hn
  simp only [id_eq] at hs ⊢
  subst hs
  have HN := Bx.mk hn
  have HS3 := Lib.hid (HS0.out.call s3)
  clear s3 HS0 hxs hn
  go_wp2
  go_loopw [5, 3] (fun i ov wr => ∃ (k : Nat) (x3 : Value), k ≤ n ∧ i = .int .i64 k ∧ x3 = ov ∧ St w wr [rBlk w.heap.size 26 #[.int .i64 t.start, .slice G gn gc, .slice G' n' c'], rInts x3 (up40 (xs.take k)), rInts (.slice A n c) xs]) (fun i _ _ => n - (intOf i).toNat)
  case atStart => exact ⟨0, _, by omega, rfl, rfl, HS3.out⟩
  case round =>
    clear HS3
    obtain ⟨k, x3, hk, rfl, rfl, M⟩ := hrel
    have HM := Lib.hid M
    clear M
    by_cases hlt : k < n
    · obtain ⟨g, c2, hgc⟩ := HM.out.formI 2 rfl HN.out (by omega)
      simp only [Value.slice.injEq] at hgc
      obtain ⟨rfl, -, rfl⟩ := hgc
      obtain ⟨x, hx⟩ : ∃ x, xv xs k = x := ⟨_, rfl⟩
      have hc := (HM.out.cellI 2 rfl HN.out k x (by rw [← hx]; exact xv_some (by rw [HN.out]; exact hlt))).1
      have hxw : (Lit.int .i64 x).wf = true := by rw [← hx]; exact xv_wf HWF.out k
      have HTK := Bx.mk (up40_take (xs := xs) (k := k) (by rw [HN.out]; exact hlt))
      rw [hx] at HTK
      have HLK : Bx ((up40 (xs.take k)).length = k) := Bx.mk (by rw [up40_len, List.length_take, HN.out]; omega)
      have HROW : Hid (wr.ownsRow 0 3 1 x3 k (ints (up40 (xs.take k)))) := Lib.hid (by have := HM.out.ownI 1 rfl; rwa [HLK.out] at this)
      have HAP : Hid (∀ y, (Lit.int .i64 y).wf = true → ∀ v3 w3, w3.ownsRow 0 3 1 v3 (k + 1) (ints (up40 (xs.take k)) ++ [Value.int .i64 y]) → (wr.alloc (.cells #[.int .i64 y] 3)).grownBy w3 x3.ownBlock → (v3.ownBlock = x3.ownBlock ∨ v3.ownBlock = some (wr.alloc (.cells #[.int .i64 y] 3)).heap.size) →
          St w w3 [rBlk w.heap.size 26 #[.int .i64 t.start, .slice G gn gc, .slice G' n' c'], rInts v3 (up40 (xs.take k) ++ [y]), rInts (.slice (some ⟨g, 0, none⟩) n c) xs]) :=
        Lib.hid fun y hy v3 w3 h1 h2 h3 =>
          St.appI (v := x3) (xs := up40 (xs.take k)) (ys := [y]) ((HM.out.alloc #[.int .i64 y] 3).pick [0, 1, 2] (by decide) rfl rfl) 1 rfl (by rw [HLK.out]; rfl) h1 (by intro z hz; simp at hz; subst hz; exact hy) h2 h3
      clear hx
      by_cases h0 : x < 0
      · have HT2 : Bx (up40 (xs.take k) ++ [40] = up40 (xs.take (k + 1))) := Bx.mk (by rw [HTK.out, if_pos h0])
        go_wp2_with (at_builtin; refine wp_app elInt rfl _ _ rfl 0 x3 k (ints (up40 (xs.take k))) rfl (HROW.out.alloc _) _ _ 1 1 [.int .i64 40] rfl (RdRow.new wr [.int .i64 40] 3 1 1 rfl (by unfold maxLen; omega)) (by simp [Value.oneCell']) (by omega) (by omega) (Nat.zero_le _) ?_; intro v3 w3 hown3 hg3 hat3; have HS6 := Lib.hid (HAP.out 40 rfl v3 w3 hown3 hg3 hat3))
        rw [HT2.out] at HS6
        go_wp2
        go_roundw
        case rel => exact ⟨k + 1, v3, by omega, by go_num, rfl, HS6.out⟩
        case measure => simp [intOf]; omega
      · have HT2 : Bx (up40 (xs.take k) ++ [x] = up40 (xs.take (k + 1))) := Bx.mk (by rw [HTK.out, if_neg h0])
        go_wp2_with (at_builtin; refine wp_app elInt rfl _ _ rfl 0 x3 k (ints (up40 (xs.take k))) rfl (HROW.out.alloc _) _ _ 1 1 [.int .i64 x] rfl (RdRow.new wr [.int .i64 x] 3 1 1 rfl (by unfold maxLen; omega)) (by simp [Value.oneCell']) (by omega) (by omega) (Nat.zero_le _) ?_; intro v3 w3 hown3 hg3 hat3; have HS6 := Lib.hid (HAP.out x hxw v3 w3 hown3 hg3 hat3))
        rw [HT2.out] at HS6
        go_wp2
        go_roundw
        case rel => exact ⟨k + 1, v3, by omega, by go_num, rfl, HS6.out⟩
        case measure => simp [intOf]; omega
    · have hkn : k = n := by omega
      have HEND : Bx (up40 (xs.take k) = numsFor t) := Bx.mk (by rw [HE.out, List.take_of_length_le (by rw [HN.out]; omega)])
      rw [HEND.out] at HM
      go_wp2
      go_ret
      exact ⟨_, rfl, HM.out.pick [1] (by decide) rfl rfl⟩
end Go.Proofs.YtkimgdfcgfhibaaDoor
