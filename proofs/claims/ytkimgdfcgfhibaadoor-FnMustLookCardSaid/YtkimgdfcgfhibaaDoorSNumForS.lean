/- NumbersFor of the reference. -/
import Derived.Test.YtkimgdfcgfhibaaDoorSNumL
namespace Go.Proofs.YtkimgdfcgfhibaaDoor
set_option linter.unusedVariables false
set_option linter.unusedSimpArgs false
open Go.ChangeShapes Go.WideShapes Go.ChangeAt Go.RowKit
theorem stepsLeastR_len (t : TaskD) : (stepsLeastR t).length ≤ 32 := by unfold stepsLeastR; split <;> simp [stepsL_len]
theorem stepsLeastR_wf (t : TaskD) : ∀ x ∈ stepsLeastR t, (Lit.int .i64 x).wf = true := by
  unfold stepsLeastR
  split
  · exact stepsL_wf _ _
  · intro x hx; cases hx
set_option maxRecDepth 100000 in
set_option maxHeartbeats 1000000 in
theorem numbersFor_spec (v : Value) (t : TaskD) (w : World) (h : RdT w w.heap.size v t) :
    Calls Tryd.prog 83 #[v] w (Gives w id fun v => [rInts v (numsFor t)]) := by
  have h' := h
  obtain ⟨G, gn, gc, G', n', c', rfl, -, -, -, -⟩ := h
  have S0 : St w ((w.alloc (.cells #[.int .i64 t.start, .slice G gn gc, .slice G' n' c'] 26)).alloc (.cells #[] 3)) [rBlk w.heap.size 26 #[.int .i64 t.start, .slice G gn gc, .slice G' n' c'], rInts (.slice (some ⟨w.heap.size + 1, 0, none⟩) 0 0) []] :=
    ((St.refl w).alloc #[.int .i64 t.start, .slice G gn gc, .slice G' n' c'] 26).call (St.newI _ _ (by simp))
  have HT := Lib.hid h'
  have HS0 := Lib.hid S0
  have HE := Bx.mk (numsFor_eq t)
  have hn32 := stepsLeastR_len t
  have HWF := Bx.mk (stepsLeastR_wf t)
  clear S0 h'
  go_enter Tryd.func83, Tryd.ntmps83
  go_wp2_with fail
  refine (stepsLeast_spec _ t _ (HT.out.up HS0.out.below)).mono ?_
  rintro e w3 ⟨sv, rfl, s3⟩
  obtain ⟨xs, hxs⟩ : ∃ xs, stepsLeastR t = xs := ⟨_, rfl⟩
  rw [hxs] at HE HWF hn32 s3
  obtain ⟨n, hn⟩ : ∃ n, xs.length = n := ⟨_, rfl⟩
  rw [hn] at hn32
  obtain ⟨A, c, hs⟩ := s3.formN 0 rfl hn
  simp only [id_eq] at hs ⊢
  subst hs
  have HN := Bx.mk hn
  have HS3 := Lib.hid (HS0.out.call s3)
  clear s3 HS0 hxs hn
  go_wp2
  go_loopw [5, 3] (fun i ov wr => ∃ (k : Nat) (x3 : Value), k ≤ n ∧ i = .int .i64 k ∧ x3 = ov ∧ St w wr [rBlk w.heap.size 26 #[.int .i64 t.start, .slice G gn gc, .slice G' n' c'], rInts x3 (up40 (xs.take k)), rInts (.slice A n c) xs]) (fun i _ _ => n - (intOf i).toNat)
  case atStart => exact ⟨0, _, by omega, rfl, rfl, HS3.out⟩
  case round =>
    clear HS3
    obtain ⟨k, x3, hk, rfl, rfl, M⟩ := hrel
    have HM := Lib.hid M
    clear M
    by_cases hlt : k < n
    · obtain ⟨g, c2, hgc⟩ := HM.out.formI 2 rfl HN.out (by omega)
      simp only [Value.slice.injEq] at hgc
      obtain ⟨rfl, -, rfl⟩ := hgc
      obtain ⟨x, hx⟩ : ∃ x, xv xs k = x := ⟨_, rfl⟩
      have hc := (HM.out.cellI 2 rfl HN.out k x (by rw [← hx]; exact xv_some (by rw [HN.out]; exact hlt))).1
      have hxw : (Lit.int .i64 x).wf = true := by rw [← hx]; exact xv_wf HWF.out k
      have HTK := Bx.mk (up40_take (xs := xs) (k := k) (by rw [HN.out]; exact hlt))
      rw [hx] at HTK
      have HLK : Bx ((up40 (xs.take k)).length = k) := Bx.mk (by rw [up40_len, List.length_take, HN.out]; omega)
      have HROW : Hid (wr.ownsRow 0 3 1 x3 k (ints (up40 (xs.take k)))) := Lib.hid (by have := HM.out.ownI 1 rfl; rwa [HLK.out] at this)
      have HAP : Hid (∀ y, (Lit.int .i64 y).wf = true → ∀ v3 w3, w3.ownsRow 0 3 1 v3 (k + 1) (ints (up40 (xs.take k)) ++ [Value.int .i64 y]) → (wr.alloc (.cells #[.int .i64 y] 3)).grownBy w3 x3.ownBlock → (v3.ownBlock = x3.ownBlock ∨ v3.ownBlock = some (wr.alloc (.cells #[.int .i64 y] 3)).heap.size) →
          St w w3 [rBlk w.heap.size 26 #[.int .i64 t.start, .slice G gn gc, .slice G' n' c'], rInts v3 (up40 (xs.take k) ++ [y]), rInts (.slice (some ⟨g, 0, none⟩) n c) xs]) :=
        Lib.hid fun y hy v3 w3 h1 h2 h3 =>
          St.appI (v := x3) (xs := up40 (xs.take k)) (ys := [y]) ((HM.out.alloc #[.int .i64 y] 3).pick [0, 1, 2] (by decide) rfl rfl) 1 rfl (by rw [HLK.out]; rfl) h1 (by intro z hz; simp at hz; subst hz; exact hy) h2 h3
      clear hx
      by_cases h0 : x < 0
      · have HT2 : Bx (up40 (xs.take k) ++ [40] = up40 (xs.take (k + 1))) := Bx.mk (by rw [HTK.out, if_pos h0])
        go_wp2_with (at_builtin; refine wp_app elInt rfl _ _ rfl 0 x3 k (ints (up40 (xs.take k))) rfl (HROW.out.alloc _) _ _ 1 1 [.int .i64 40] rfl (RdRow.new wr [.int .i64 40] 3 1 1 rfl (by unfold maxLen; omega)) (by simp [Value.oneCell']) (by omega) (by omega) (Nat.zero_le _) ?_; intro v3 w3 hown3 hg3 hat3; have HS6 := Lib.hid (HAP.out 40 rfl v3 w3 hown3 hg3 hat3))
        rw [HT2.out] at HS6
        go_wp2
        go_roundw
        case rel => exact ⟨k + 1, v3, by omega, by go_num, rfl, HS6.out⟩
        case measure => simp [intOf]; omega
      · have HT2 : Bx (up40 (xs.take k) ++ [x] = up40 (xs.take (k + 1))) := Bx.mk (by rw [HTK.out, if_neg h0])
        go_wp2_with (at_builtin; refine wp_app elInt rfl _ _ rfl 0 x3 k (ints (up40 (xs.take k))) rfl (HROW.out.alloc _) _ _ 1 1 [.int .i64 x] rfl (RdRow.new wr [.int .i64 x] 3 1 1 rfl (by unfold maxLen; omega)) (by simp [Value.oneCell']) (by omega) (by omega) (Nat.zero_le _) ?_; intro v3 w3 hown3 hg3 hat3; have HS6 := Lib.hid (HAP.out x hxw v3 w3 hown3 hg3 hat3))
        rw [HT2.out] at HS6
        go_wp2
        go_roundw
        case rel => exact ⟨k + 1, v3, by omega, by go_num, rfl, HS6.out⟩
        case measure => simp [intOf]; omega
    · have hkn : k = n := by omega
      have HEND : Bx (up40 (xs.take k) = numsFor t) := Bx.mk (by rw [HE.out, List.take_of_length_le (by rw [HN.out]; omega)])
      rw [HEND.out] at HM
      go_wp2
      go_ret
      exact ⟨_, rfl, HM.out.pick [1] (by decide) rfl rfl⟩
end Go.Proofs.YtkimgdfcgfhibaaDoor
