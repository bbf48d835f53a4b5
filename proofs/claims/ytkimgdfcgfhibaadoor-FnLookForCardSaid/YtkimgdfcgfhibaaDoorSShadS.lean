/- ShadowSteps and ShadowNumbers of the reference. -/
import Derived.Test.YtkimgdfcgfhibaaDoorSShadP
import Derived.Test.YtkimgdfcgfhibaaDoorSNumOkS
import Derived.Test.YtkimgdfcgfhibaaDoorSPlanForW
namespace Go.Proofs.YtkimgdfcgfhibaaDoor
set_option linter.unusedVariables false
set_option linter.unusedSimpArgs false
open Go.ChangeShapes Go.WideShapes Go.ChangeAt Go.RowKit

/-- what stands ahead of the round m -/
def prvS (ds : List DeedD) (F : Nat) (p : Nat → Bool) : Nat → Nat → Int
  | 0, _ => -1
  | m + 1, s => sqN (shl ds F p) m s
/-- the states from which the round m goes out -/
def nowS (ds : List DeedD) (F : Nat) (p : Nat → Bool) : Nat → Nat → Bool
  | 0, s => p s
  | m + 1, s => backP ds (shW ds F p m) s
section
variable {ds : List DeedD} {F : Nat} {p : Nat → Bool}
theorem shW_iff (m s : Nat) : shW ds F p m s = (decide (prvS ds F p m s < 0) && agr F (nowS ds F p m) s) := by
  cases m with
  | zero => simp [shW, prvS, nowS]; rfl
  | succ m =>
    show (agr F (backP ds (shl ds F p m)) s && !shl ds F p m s) = (decide (sqN (shl ds F p) m s < 0) && agr F (backP ds (shW ds F p m)) s)
    cases h : shl ds F p m s with
    | true =>
      have := (sqN_pos (L := shl ds F p) shl_up (n := m) (s := s)).2 h
      rw [decide_eq_false (by omega)]; simp
    | false =>
      rw [sqN_neg shl_up h, shW_back m s h]; simp
theorem sqS_yes {m s : Nat} (h : shW ds F p m s = true) : (m : Int) = sqN (shl ds F p) m s := by
  cases m with
  | zero => have h : shl ds F p 0 s = true := h
            simp [sqN, h]
  | succ m =>
    have h : (agr F (backP ds (shl ds F p m)) s && !shl ds F p m s) = true := h
    simp only [Bool.and_eq_true, Bool.not_eq_true'] at h
    have h2 : shl ds F p (m + 1) s = true := by simp only [shl, Bool.or_eq_true]; exact Or.inr h.1
    simp [sqN, h.2, h2]
theorem sqS_no {m s : Nat} (h : shW ds F p m s = false) : sqN (shl ds F p) m s = prvS ds F p m s := by
  cases m with
  | zero => have h : shl ds F p 0 s = false := h
            simp [sqN, h, prvS]
  | succ m =>
    have h : (agr F (backP ds (shl ds F p m)) s && !shl ds F p m s) = false := h
    show sqN (shl ds F p) (m + 1) s = sqN (shl ds F p) m s
    cases hl : shl ds F p m s with
    | true => simp [sqN, hl]
    | false =>
      have hb : agr F (backP ds (shl ds F p m)) s = false := by simpa [hl] using h
      have h2 : shl ds F p (m + 1) s = false := by simp only [shl]; rw [hl, hb]; rfl
      rw [sqN_neg shl_up hl]
      simp [sqN, hl, h2]
theorem now_still {m : Nat} (h : mset (nowS ds F p (m + 1)) 32 = 0) : stillAt (shl ds F p) m := fun s hs hb => by
  have h0 := mset_zero.1 h
  cases hl : shl ds F p m s with
  | true => rfl
  | false =>
    have ha : agr F (backP ds (shl ds F p m)) s = true := by
      simp only [shl, hl, Bool.false_or] at hb; exact hb
    rw [← shW_back m s hl] at ha
    obtain ⟨o, ho, h1, -⟩ := agr_iff.1 ha
    have : backP ds (shW ds F p m) o = false := h0 o ho
    rw [h1] at this; cases this
theorem shadS_done {m : Nat} (hd : ∀ d ∈ ds, deedOk d = true) (h : mset (nowS ds F p m) 32 = 0) : (List.range 32).map (prvS ds F p m) = (List.range 32).map (shV ds F p) := by
  refine List.map_congr_left fun s hs => ?_
  have hs := List.mem_range.1 hs
  cases m with
  | succ m => exact (shV_of hd (now_still h) hs).symm
  | zero =>
    have h0 : ∀ o, o < 32 → p o = false := mset_zero.1 h
    have h1 : ∀ x, x < 32 → shl ds F p 0 x = false := fun x hx => by
      cases e : shl ds F p 0 x with
      | false => rfl
      | true => obtain ⟨o, ho, h2, -⟩ := agr_iff.1 e; rw [h0 o ho] at h2; cases h2
    have hc : cnt (shl ds F p 0) 32 = 0 := cnt_none h1
    rw [shV_of hd (shl_zero hd hc) hs, sqN_neg shl_up (h1 s hs)]; rfl
/-- the rounds so far are at most as many as what was met -/
def roundS (ds : List DeedD) (F : Nat) (p : Nat → Bool) (m : Nat) : Prop := ∀ j, m = j + 1 → (∃ s, s < 32 ∧ shW ds F p j s = true) → j ≤ cnt (shl ds F p j) 32
theorem round_zero : roundS ds F p 0 := fun j hj => by omega
theorem now_met {m : Nat} (hd : ∀ d ∈ ds, deedOk d = true) (h : mset (nowS ds F p (m + 1)) 32 ≠ 0) : ∃ s, s < 32 ∧ shW ds F p m s = true := by
  refine Classical.byContradiction fun hn => h (mset_zero.2 fun s hs => ?_)
  cases e : nowS ds F p (m + 1) s with
  | false => rfl
  | true =>
    have e : backP ds (shW ds F p m) s = true := e
    obtain ⟨d, hm, x, e1, hx⟩ := backP_iff.1 e
    exact absurd ⟨x, deedDo_lt d s x (hd d hm) hs e1, hx⟩ hn
theorem round_next {m : Nat} (hd : ∀ d ∈ ds, deedOk d = true) (h : mset (nowS ds F p m) 32 ≠ 0) (hc : roundS ds F p m) : roundS ds F p (m + 1) := fun j hj hs => by
  have : j = m := by omega
  subst this
  cases j with
  | zero => exact Nat.zero_le _
  | succ i =>
    have h1 := hc i rfl (now_met hd h)
    obtain ⟨s, hs, hw⟩ := hs
    have hw : (agr F (backP ds (shl ds F p i)) s && !shl ds F p i s) = true := hw
    simp only [Bool.and_eq_true, Bool.not_eq_true'] at hw
    have : ¬ stillAt (shl ds F p) i := fun hst => by
      have := hst s hs (by simp only [shl, Bool.or_eq_true]; exact Or.inr hw.1)
      rw [hw.2] at this; cases this
    have := sq_grow (L := shl ds F p) shl_up this
    omega
theorem round_le {m : Nat} (hd : ∀ d ∈ ds, deedOk d = true) (h : mset (nowS ds F p m) 32 ≠ 0) (hc : roundS ds F p m) : m ≤ 33 := by
  cases m with
  | zero => omega
  | succ i => have := hc i rfl (now_met hd h); have := cnt_le (shl ds F p i) 32; omega
theorem now_next (hd : ∀ d ∈ ds, deedOk d = true) {m W : Nat} (hW : W = mset (shW ds F p m) 32) : mset (backP ds (setP W)) 32 = mset (nowS ds F p (m + 1)) 32 := by
  rw [hW, back_set hd]; rfl
theorem now_none (hd : ∀ d ∈ ds, deedOk d = true) {m : Nat} (h : mset (shW ds F p m) 32 = 0) : mset (nowS ds F p (m + 1)) 32 = 0 :=
  Classical.byContradiction fun hn => by
    obtain ⟨s, hs, hw⟩ := now_met hd hn
    rw [mset_zero.1 h s hs] at hw; cases hw
/-- one of the first k states of N agrees with s -/
def foundS (F N s k : Nat) : Prop := ∃ o, o < k ∧ bit N o = 1 ∧ s &&& F = o &&& F
/-- where the inner loop stands: s' is s, or behind it if s was met -/
def innS (ds : List DeedD) (F : Nat) (p : Nat → Bool) (m N s k s' : Nat) : Prop := s' = s ∧ (0 ≤ prvS ds F p m s ∨ ¬ foundS F N s k) ∨ s' = s + 1 ∧ shW ds F p m s = true
theorem inn_zero (m N s : Nat) : innS ds F p m N s 0 s := Or.inl ⟨rfl, Or.inr fun ⟨o, ho, _⟩ => by omega⟩
theorem inn_skip {m N s k s' : Nat} (h : innS ds F p m N s k s') (hn : bit N k = 0 ∨ s &&& F ≠ k &&& F) : innS ds F p m N s (k + 1) s' := by
  rcases h with ⟨h1, h2⟩ | h
  · refine Or.inl ⟨h1, h2.imp_right fun hf ⟨o, ho, hb, he⟩ => ?_⟩
    rcases Nat.lt_or_ge o k with h3 | h3
    · exact hf ⟨o, h3, hb, he⟩
    · have : o = k := by omega
      subst this
      rcases hn with hn | hn
      · omega
      · exact hn he
  · exact Or.inr h
theorem inn_low {m N s k : Nat} (h : innS ds F p m N s k s) (h0 : 0 ≤ prvS ds F p m s) : innS ds F p m N s (k + 1) s := Or.inl ⟨rfl, Or.inl h0⟩
theorem inn_past {m N s k : Nat} (h : innS ds F p m N s k (s + 1)) : innS ds F p m N s (k + 1) (s + 1) := by
  rcases h with ⟨h1, -⟩ | h
  · omega
  · exact Or.inr h
theorem inn_yes {m N s k : Nat} (hN : N = mset (nowS ds F p m) 32) (hk : k < 32) (h0 : prvS ds F p m s < 0) (hb : bit N k = 1) (he : s &&& F = k &&& F) : shW ds F p m s = true := by
  rw [shW_iff, decide_eq_true h0]
  have : nowS ds F p m k = true := by rw [← bit_mset1 (nowS ds F p m) hk, ← hN, hb]; rfl
  rw [agr_iff.2 ⟨k, hk, this, he⟩]; rfl
theorem inn_hit {m N s k : Nat} (h : shW ds F p m s = true) : innS ds F p m N s (k + 1) (s + 1) := Or.inr ⟨rfl, h⟩
theorem inn_end {m N s s' : Nat} (hN : N = mset (nowS ds F p m) 32) (h : innS ds F p m N s 32 s') (hs' : s' = s) : shW ds F p m s = false := by
  rcases h with ⟨-, h2⟩ | ⟨h1, -⟩
  · rw [shW_iff]
    rcases h2 with h2 | h2
    · rw [decide_eq_false (by omega)]; rfl
    · cases e : agr F (nowS ds F p m) s with
      | false => simp
      | true =>
        obtain ⟨o, ho, h3, h4⟩ := agr_iff.1 e
        exact absurd ⟨o, ho, by have := bit_mset1 (nowS ds F p m) ho; rw [h3, ← hN] at this; simpa using this, h4⟩ h2
  · omega
theorem inn_or {m N s k s' : Nat} (h : innS ds F p m N s k s') : s' = s ∨ s' = s + 1 := by rcases h with ⟨h, -⟩ | ⟨h, -⟩ <;> simp [h]
/-- at the end of the inner loop everything stands as if s had been passed -/
theorem inn_next {m N s s' : Nat} (hN : N = mset (nowS ds F p m) 32) (h : innS ds F p m N s 32 s') : mset (upto (shW ds F p m) s') 32 = mset (upto (shW ds F p m) (s + 1)) 32 ∧ mixF (sqN (shl ds F p) m) (prvS ds F p m) s' = mixF (sqN (shl ds F p) m) (prvS ds F p m) (s + 1) := by
  rcases inn_or h with e | e
  · have hf := inn_end hN h e
    subst e
    exact ⟨(upto_same _ _ hf).symm, (mixF_same _ _ _ (sqS_no hf)).symm⟩
  · subst e; exact ⟨rfl, rfl⟩
end
theorem shadN_eq2 (t : TaskD) (F : Int) : shadN t F = up40 (shadL t F) := rfl
set_option maxRecDepth 100000 in
set_option maxHeartbeats 4000000 in
theorem shadowSteps_spec (v : Value) (t : TaskD) (F : Int) (w : World) (h : RdT w w.heap.size v t) :
    Calls Tryd.prog 34 #[v, .int .i64 F] w (Gives w id fun v => [rInts v (shadL t F)]) := by
  have h' := h
  obtain ⟨G, gn, gc, G', n', c', rfl, hg, hgs, hds, hst⟩ := h
  have S0 : St w ((w.alloc (.cells #[.int .i64 t.start, .slice G gn gc, .slice G' n' c'] 26)).alloc (.cells #[] 3)) [rBlk w.heap.size 26 #[.int .i64 t.start, .slice G gn gc, .slice G' n' c'], rInts (.slice (some ⟨w.heap.size + 1, 0, none⟩) 0 0) []] :=
    ((St.refl w).alloc #[.int .i64 t.start, .slice G gn gc, .slice G' n' c'] 26).call (St.newI _ _ (by simp))
  have HT := Lib.hid h'
  have HG := Lib.hid hg
  have HS0 := Lib.hid S0
  clear S0 h' hg
  obtain ⟨bo, hok⟩ : ∃ b, taskOk t = b := ⟨_, rfl⟩
  have HOK := Lib.hid hok
  clear hok hds
  cases bo with
  | false =>
    have HN := Bx.mk (shadL_task (F := F) HOK.out)
    go_enter Tryd.func34, Tryd.ntmps34
    go_wp2_with fail
    refine (taskValid_spec _ t _ (HT.out.up HS0.out.below)).mono ?_
    rw [HOK.out]
    rintro e w1 ⟨rfl, hb1⟩
    have HS1 := Lib.hid (HS0.out.quiet hb1)
    clear hb1
    go_wp2
    go_ret
    exact ⟨_, rfl, by rw [HN.out]; exact HS1.out.pick [1] (by decide) rfl rfl⟩
  | true =>
    obtain ⟨-, hgok, -, hdok⟩ := taskOk_parts t HOK.out
    obtain ⟨bf, hbf⟩ : ∃ b, stIn F = b := ⟨_, rfl⟩
    have HBF := Bx.mk hbf
    cases bf with
    | false =>
      have HN := Bx.mk (shadL_facts (t := t) hbf)
      have hF : ¬ ((0 : Int) ≤ F ∧ F ≤ 31) := by
        have := hbf; unfold stIn at this; simp at this; omega
      clear hbf
      go_enter Tryd.func34, Tryd.ntmps34
      go_wp2_with fail
      refine (taskValid_spec _ t _ (HT.out.up HS0.out.below)).mono ?_
      rw [HOK.out]
      rintro e w1 ⟨rfl, hb1⟩
      have HS1 := Lib.hid (HS0.out.quiet hb1)
      clear hb1
      go_wp2_with fail
      refine (l1In_no F 0 31 _ hF).mono ?_
      rintro e w2 ⟨rfl, rfl⟩
      go_wp2
      go_ret
      exact ⟨_, rfl, by rw [HN.out]; exact HS1.out.pick [1] (by decide) rfl rfl⟩
    | true =>
      have HDOK := Lib.hid hdok
      have HGOK := Lib.hid hgok
      have hF0 : 0 ≤ F ∧ F ≤ 31 := by have := hbf; unfold stIn at this; simp at this; omega
      obtain ⟨f, rfl⟩ : ∃ f : Nat, F = f := ⟨F.toNat, by omega⟩
      have hf32 : f < 32 := by omega
      have HY := Bx.mk (shadL_yes HOK.out hbf)
      obtain ⟨N0, hN⟩ : ∃ N, truthN t.goal = N := ⟨_, rfl⟩
      have HN := Bx.mk hN
      have HTR := Bx.mk (codeTruth_yes t.goal HGOK.out)
      clear hdok hgok hN hbf
      go_enter Tryd.func34, Tryd.ntmps34
      go_wp2_with fail
      refine (taskValid_spec _ t _ (HT.out.up HS0.out.below)).mono ?_
      rw [HOK.out]
      rintro e w1 ⟨rfl, hb1⟩
      have HS1 := Lib.hid (HS0.out.quiet hb1)
      clear hb1 HS0
      go_wp2_with fail
      refine (l1In_yes (f : Int) 0 31 _ hF0.1 hF0.2).mono ?_
      rintro e w2 ⟨rfl, rfl⟩
      clear hF0
      go_wp2
      go_loopw [6, 5] (fun i ov wr => ∃ (k : Nat) (x3 : Value), k ≤ 32 ∧ i = .int .i64 k ∧ x3 = ov ∧ St w wr [rBlk w.heap.size 26 #[.int .i64 t.start, .slice G gn gc, .slice G' n' c'], rInts x3 (List.replicate k (-1))]) (fun i _ _ => 32 - (intOf i).toNat)
      case atStart => exact ⟨0, _, by omega, rfl, rfl, HS1.out⟩
      case round =>
        obtain ⟨k, x3, hk, rfl, rfl, M⟩ := hrel
        have HM := Lib.hid M
        clear M HS1
        by_cases hlt : k < 32
        · have HROW : Hid (wr.ownsRow 0 3 1 x3 k (ints (List.replicate k (-1)))) := Lib.hid (by have := HM.out.ownI 1 rfl; rwa [List.length_replicate] at this)
          have HAP : Hid (∀ v3 w3, w3.ownsRow 0 3 1 v3 (k + 1) (ints (List.replicate k (-1)) ++ [Value.int .i64 (-1)]) → (wr.alloc (.cells #[.int .i64 (-1)] 3)).grownBy w3 x3.ownBlock → (v3.ownBlock = x3.ownBlock ∨ v3.ownBlock = some (wr.alloc (.cells #[.int .i64 (-1)] 3)).heap.size) →
              St w w3 [rBlk w.heap.size 26 #[.int .i64 t.start, .slice G gn gc, .slice G' n' c'], rInts v3 (List.replicate (k + 1) (-1))]) :=
            Lib.hid fun v3 w3 h1 h2 h3 => by
              have := St.appI (v := x3) (xs := List.replicate k (-1)) (ys := [-1]) ((HM.out.alloc #[.int .i64 (-1)] 3).pick [0, 1] (by decide) rfl rfl) 1 rfl (by simp) h1 (by intro y hy; simp at hy; subst hy; rfl) h2 h3
              rw [← List.replicate_succ'] at this
              exact this
          go_wp2_with (at_builtin; refine wp_app elInt rfl _ _ rfl 0 x3 k (ints (List.replicate k (-1))) rfl (HROW.out.alloc _) _ _ 1 1 [.int .i64 (-1)] rfl (RdRow.new wr [.int .i64 (-1)] 3 1 1 rfl (by unfold maxLen; omega)) (by simp [Value.oneCell']) (by omega) (by omega) (Nat.zero_le _) ?_; intro v3 w3 hown3 hg3 hat3; have HS6 := Lib.hid (HAP.out v3 w3 hown3 hg3 hat3))
          go_wp2
          go_roundw
          case rel => exact ⟨k + 1, v3, by omega, by go_num, rfl, HS6.out⟩
          case measure => simp [intOf]; omega
        · have hk32 : k = 32 := by omega
          have HM1 : Hid (St w wr [rBlk w.heap.size 26 #[.int .i64 t.start, .slice G gn gc, .slice G' n' c'], rInts x3 ((List.range 32).map (prvS t.deeds f (evalCode t.goal) 0))]) := Lib.hid (by
            have := HM.out
            rw [hk32] at this
            exact this)
          obtain ⟨g, oc, hx3⟩ := HM1.out.formI 1 rfl (n := 32) (by simp) (by omega)
          subst hx3
          have q1 : ∀ j, wr.cell? ⟨w.heap.size, j, none⟩ = _ := HM1.out.cells 0 rfl
          clear HM hk32
          go_wp2_with fail
          refine (codeTruth_spec G gn gc t.goal _ (HG.out.up HM1.out.below) hgs).mono ?_
          rw [HTR.out, HN.out]
          rintro e w3 ⟨rfl, hb3⟩
          have HS3 := Lib.hid (HM1.out.quiet hb3)
          clear q1 hb3 HM1
          obtain ⟨p, hp⟩ : ∃ p, evalCode t.goal = p := ⟨_, rfl⟩
          have HNP : Bx (N0 = mset (nowS t.deeds f p 0) 32) := Bx.mk (by rw [← HN.out, ← hp]; rfl)
          rw [hp] at HS3 HY
          clear hp HN HTR
          go_wp2
          try generalize decide ((k : Int) < 32) = dk
          go_loopw [7, 8] (fun nv mv wr => ∃ m N : Nat, nv = .int .i64 N ∧ mv = .int .i64 m ∧ Bx (N = mset (nowS t.deeds f p m) 32) ∧ Bx (roundS t.deeds f p m) ∧ St w wr [rBlk w.heap.size 26 #[.int .i64 t.start, .slice G gn gc, .slice G' n' c'], rInts (.slice (some ⟨g, 0, none⟩) 32 oc) ((List.range 32).map (prvS t.deeds f p m))]) (fun _ mv _ => 40 - (intOf mv).toNat)
          case atStart => exact ⟨0, N0, rfl, rfl, HNP, Bx.mk round_zero, HS3.out⟩
          case round =>
            clear HNP HS3
            obtain ⟨m, N, rfl, rfl, HN, HC, M⟩ := hrel
            have HM := Lib.hid M
            clear M
            have hN32 : N < 4294967296 := by rw [HN.out]; exact mset32_lt _
            by_cases h0 : N = 0
            · have HE := Bx.mk (shadS_done HDOK.out (by rw [← HN.out]; exact h0) : (List.range 32).map (prvS t.deeds f p m) = (List.range 32).map (shV t.deeds f p))
              subst h0
              go_wp2
              go_ret
              exact ⟨_, rfl, by rw [HY.out, ← HE.out]; exact HM.out.pick [1] (by decide) rfl rfl⟩
            · have hm33 : m ≤ 33 := round_le HDOK.out (by rw [← HN.out]; exact h0) HC.out
              have hz : (0 : Int) < (N : Int) := by omega
              have HC2 := Bx.mk (round_next HDOK.out (by rw [← HN.out]; exact h0) HC.out)
              have HM2 : Hid (St w wr [rBlk w.heap.size 26 #[.int .i64 t.start, .slice G gn gc, .slice G' n' c'], rInts (.slice (some ⟨g, 0, none⟩) 32 oc) (mixF (sqN (shl t.deeds f p) m) (prvS t.deeds f p m) 0)]) := Lib.hid (by rw [mixF_zero]; exact HM.out)
              clear h0 HM
              go_wp2
              clear hz
              try generalize decide ((0 : Int) < (N : Int)) = dn
              try generalize decide (0 < N) = dn2
              try generalize Value.bool (decide _) = dn3
              go_loopw [10, 9] (fun i uv wr => ∃ s W : Nat, s ≤ 32 ∧ i = .int .i64 s ∧ uv = .int .i64 W ∧ Bx (W = mset (upto (shW t.deeds f p m) s) 32) ∧ St w wr [rBlk w.heap.size 26 #[.int .i64 t.start, .slice G gn gc, .slice G' n' c'], rInts (.slice (some ⟨g, 0, none⟩) 32 oc) (mixF (sqN (shl t.deeds f p) m) (prvS t.deeds f p m) s)]) (fun i _ _ => 32 - (intOf i).toNat)
              case atStart => exact ⟨0, 0, by omega, rfl, rfl, Bx.mk (mset_upto0 _ _).symm, HM2.out⟩
              case round =>
                clear HM2
                obtain ⟨s, W, hs, rfl, rfl, HW, M⟩ := hrel
                have HM := Lib.hid M
                clear M
                by_cases hlt : s < 32
                · have HSE := Bx.mk hlt
                  go_wp2
                  try generalize decide ((s : Int) < 32) = dk3
                  go_loopw [11, 9] (fun i uv wr => ∃ q W s' : Nat, q ≤ 32 ∧ i = .int .i64 q ∧ uv = .int .i64 W ∧ Bx (innS t.deeds f p m N s q s') ∧ Bx (W = mset (upto (shW t.deeds f p m) s') 32) ∧ St w wr [rBlk w.heap.size 26 #[.int .i64 t.start, .slice G gn gc, .slice G' n' c'], rInts (.slice (some ⟨g, 0, none⟩) 32 oc) (mixF (sqN (shl t.deeds f p) m) (prvS t.deeds f p m) s')]) (fun i _ _ => 32 - (intOf i).toNat)
                  case atStart => exact ⟨0, W, s, by omega, rfl, rfl, Bx.mk (inn_zero m N s), HW, HM.out⟩
                  case round =>
                    clear HW HM
                    obtain ⟨q, W, s', hq, rfl, rfl, HI, HW, M⟩ := hrel
                    have HM := Lib.hid M
                    clear M
                    by_cases hqlt : q < 32
                    · go_wp2_with fail
                      refine (l1Bit_nat N q (by omega) _).mono ?_
                      rintro e w5 ⟨rfl, rfl⟩
                      by_cases hb1 : bit N q = 1
                      case neg =>
                        have hb0 : bit N q = 0 := by have := bit_lt N q; omega
                        have HI2 := Bx.mk (inn_skip HI.out (Or.inl hb0))
                        rw [hb0]
                        clear hb1 hb0
                        go_wp2
                        go_roundw
                        case rel => exact ⟨q + 1, W, s', by omega, by go_num, rfl, HI2, HW, HM.out⟩
                        case measure => simp [intOf]; omega
                      have HB1 := Bx.mk hb1
                      rw [hb1]
                      clear hb1
                      go_wp2_with fail
                      refine (l1Both_nat s f (by omega) _).mono ?_
                      rintro e w6 ⟨rfl, rfl⟩
                      obtain ⟨x, hx⟩ : ∃ x, s &&& f = x := ⟨_, rfl⟩
                      have HX := Bx.mk hx
                      rw [hx]
                      clear hx
                      go_wp2_with fail
                      refine (l1Both_nat q f (by omega) _).mono ?_
                      rintro e w7 ⟨rfl, rfl⟩
                      obtain ⟨y, hy⟩ : ∃ y, q &&& f = y := ⟨_, rfl⟩
                      have HYY := Bx.mk hy
                      rw [hy]
                      clear hy
                      by_cases hxy : x = y
                      case neg =>
                        have HI2 := Bx.mk (inn_skip HI.out (Or.inr (by rw [HX.out, HYY.out]; exact hxy)))
                        have hne : ((x : Int) == (y : Int)) = false := beq_false_of_ne (by omega)
                        go_wp2
                        go_roundw
                        case rel => exact ⟨q + 1, W, s', by omega, by go_num, rfl, HI2, HW, HM.out⟩
                        case measure => simp [intOf]; omega
                      subst hxy
                      have hee : ((x : Int) == (x : Int)) = true := beq_self_eq_true _
                      have HAG : Bx (s &&& f = q &&& f) := Bx.mk (HX.out.trans HYY.out.symm)
                      rcases inn_or HI.out with hs' | hs'
                      · obtain ⟨v0, hv0⟩ : ∃ v0, prvS t.deeds f p m s = v0 := ⟨_, rfl⟩
                        have HV0 := Bx.mk hv0
                        rw [hs'] at HI HW HM
                        obtain ⟨hc, hf⟩ := HM.out.cellI 1 rfl (mixF_len _ _ _) s v0 (by rw [mixF_here _ _ s hlt, hv0])
                        clear hv0 hs'
                        by_cases hneg : v0 < 0
                        · have hyes := inn_yes HN.out hqlt (by rw [HV0.out]; exact hneg) HB1.out HAG.out
                          have HE := Bx.mk (sqS_yes hyes)
                          have HI2 := Bx.mk (inn_hit (N := N) (k := q) hyes)
                          have HST := Lib.hid (HM.out.storeI 1 rfl (mixF_len _ _ _) s (m : Int) (wf_i64_mk (by omega)))
                          have hpw := wrap_pow s (by omega)
                          have hpl := pow32_lt hlt
                          obtain ⟨W2, hW2⟩ : ∃ W2, W + 2 ^ s = W2 := ⟨_, rfl⟩
                          have hadd : (W : Int) + 2 ^ s = (W2 : Int) := by rw [← hW2]; push_cast; rfl
                          have HW2 : Bx (W2 = mset (upto (shW t.deeds f p m) (s + 1)) 32) := Bx.mk (by rw [← hW2, mset_upto_add _ 32 s hlt hyes, ← HW.out])
                          have hl2 : W2 < 4294967296 := by rw [HW2.out]; exact mset32_lt _
                          have hwl : W < 4294967296 := by rw [HW.out]; exact mset32_lt _
                          clear hW2 hyes
                          go_wp2
                          go_roundw
                          case rel => exact ⟨q + 1, W2, s + 1, by omega, by go_num, by first | rfl | go_num | (congr 1; rw [hadd]), HI2, HW2, by rw [← mixF_set _ _ s _ HE.out]; exact HST.out⟩
                          case measure => simp [intOf]; omega
                        · have HI2 := Bx.mk (inn_low HI.out (by rw [HV0.out]; omega))
                          go_wp2
                          go_roundw
                          case rel => exact ⟨q + 1, W, s, by omega, by go_num, rfl, HI2, HW, HM.out⟩
                          case measure => simp [intOf]; omega
                      · rw [hs'] at HI HW HM
                        clear hs'
                        have hyes : shW t.deeds f p m s = true := by
                          rcases HI.out with ⟨h1, -⟩ | ⟨-, h2⟩
                          · omega
                          · exact h2
                        have hc := (HM.out.cellI 1 rfl (mixF_len _ _ _) s (m : Int) (by rw [mixF_at _ _ _ s hlt, if_pos (by omega), sqS_yes hyes])).1
                        have HI2 := Bx.mk (inn_past HI.out)
                        clear hyes
                        go_wp2
                        go_roundw
                        case rel => exact ⟨q + 1, W, s + 1, by omega, by go_num, rfl, HI2, HW, HM.out⟩
                        case measure => simp [intOf]; omega
                    · have hq32 : q = 32 := by omega
                      rw [hq32] at HI
                      obtain ⟨e1, e2⟩ := inn_next HN.out HI.out
                      have HW2 : Bx (W = mset (upto (shW t.deeds f p m) (s + 1)) 32) := Bx.mk (by rw [← e1]; exact HW.out)
                      have HM3 : Hid (St w wr [rBlk w.heap.size 26 #[.int .i64 t.start, .slice G gn gc, .slice G' n' c'], rInts (.slice (some ⟨g, 0, none⟩) 32 oc) (mixF (sqN (shl t.deeds f p) m) (prvS t.deeds f p m) (s + 1))]) := Lib.hid (by rw [← e2]; exact HM.out)
                      clear e1 e2 hq32
                      go_wp2
                      go_roundw
                      case rel => exact ⟨s + 1, W, by omega, by go_num, rfl, HW2, HM3.out⟩
                      case measure => simp [intOf]; omega
                · have HW2 : Bx (W = mset (shW t.deeds f p m) 32) := Bx.mk (by rw [HW.out, show s = 32 by omega, mset_uptoN])
                  have HM3 : Hid (St w wr [rBlk w.heap.size 26 #[.int .i64 t.start, .slice G gn gc, .slice G' n' c'], rInts (.slice (some ⟨g, 0, none⟩) 32 oc) ((List.range 32).map (prvS t.deeds f p (m + 1)))]) := Lib.hid (by
                    have := HM.out
                    rw [show s = 32 by omega, mixF_all] at this
                    exact this)
                  have q3 : ∀ j, wr.cell? ⟨w.heap.size, j, none⟩ = _ := HM3.out.cells 0 rfl
                  have hW32 : W < 4294967296 := by rw [HW2.out]; exact mset32_lt _
                  clear HM HW
                  by_cases hW0 : W = 0
                  · have HN2 : Bx (0 = mset (nowS t.deeds f p (m + 1)) 32) := Bx.mk (now_none HDOK.out (by rw [← HW2.out]; exact hW0)).symm
                    subst hW0
                    clear HW2
                    go_wp2
                    go_roundw
                    case rel => exact ⟨m + 1, 0, rfl, by go_num, HN2, HC2, HM3.out⟩
                    case measure => simp [intOf]; omega
                  · have hz2 : (0 : Int) < (W : Int) := by omega
                    obtain ⟨B, hB⟩ : ∃ B, mset (backP t.deeds (setP W)) 32 = B := ⟨_, rfl⟩
                    have HN2 : Bx (B = mset (nowS t.deeds f p (m + 1)) 32) := Bx.mk (by rw [← hB]; exact now_next HDOK.out HW2.out)
                    have HBE := Bx.mk hB
                    clear hB hW0
                    go_wp2_with fail
                    refine (statesBack_spec _ t W _ (HT.out.up HM3.out.below) HOK.out hW32).mono ?_
                    rw [HBE.out]
                    rintro e w6 ⟨rfl, hb6⟩
                    have HM4 := Lib.hid (HM3.out.quiet hb6)
                    clear hb6 q3 HM3 HBE
                    go_wp2
                    go_roundw
                    case rel => exact ⟨m + 1, B, rfl, by go_num, HN2, HC2, HM4.out⟩
                    case measure => simp [intOf]; omega
set_option maxRecDepth 100000 in
set_option maxHeartbeats 1000000 in
theorem shadowNumbers_spec (v : Value) (t : TaskD) (F : Int) (w : World) (h : RdT w w.heap.size v t) :
    Calls Tryd.prog 10 #[v, .int .i64 F] w (Gives w id fun v => [rInts v (shadN t F)]) := by
  have h' := h
  obtain ⟨G, gn, gc, G', n', c', rfl, -, -, -, -⟩ := h
  have HS0 := Lib.hid ((St.refl w).alloc #[.int .i64 t.start, .slice G gn gc, .slice G' n' c'] 26)
  have HT := Lib.hid (h'.up HS0.out.below)
  have q0 : ∀ j, (w.alloc (.cells #[.int .i64 t.start, .slice G gn gc, .slice G' n' c'] 26)).cell? ⟨w.heap.size, j, none⟩ = _ := HS0.out.cells 0 rfl
  clear h'
  go_enter Tryd.func10, Tryd.ntmps10
  go_wp2_with fail
  refine (shadowSteps_spec _ t F _ HT.out).mono ?_
  rintro e w2 ⟨sv, rfl, s2⟩
  by_cases hok : taskOk t = true ∧ stIn F = true
  · have hl : shadL t F = intsF (shV t.deeds F.toNat (evalCode t.goal)) := by unfold shadL; rw [if_pos hok]; rfl
    have hdok := (taskOk_parts t hok.1).2.2.2
    obtain ⟨h, hh⟩ : ∃ h, shV t.deeds F.toNat (evalCode t.goal) = h := ⟨_, rfl⟩
    have HBD : Bx (∀ s, s < 32 → -9223372036854775808 ≤ h s ∧ h s ≤ 9223372036854775807) := Bx.mk fun s hs => by have := shV_le (F := F.toNat) (S := evalCode t.goal) hdok hs; rw [← hh]; omega
    have HE : Bx (shadN t F = up40 (intsF h)) := Bx.mk (by rw [shadN_eq2, hl, hh])
    rw [hl, hh] at s2
    clear hh
    obtain ⟨g, c, hs⟩ := s2.formI 0 rfl (intsF_len _) (by omega)
    simp only [id_eq] at hs ⊢
    subst hs
    have HS2 : Hid (St w w2 [rInts (.slice (some ⟨g, 0, none⟩) 32 c) (mixF (fun s => fixV (h s)) h 0)]) := Lib.hid (by rw [mixF_zero]; exact (HS0.out.call s2).tl)
    have HEE : Bx ((List.range 32).map (fun s => fixV (h s)) = up40 (intsF h)) := Bx.mk (up40_intsF h).symm
    clear s2 hok hdok hl HS0 q0
    go_wp2
    go_loopw [6] (fun i wr => ∃ k : Nat, k ≤ 32 ∧ i = .int .i64 k ∧ St w wr [rInts (.slice (some ⟨g, 0, none⟩) 32 c) (mixF (fun s => fixV (h s)) h k)]) (fun i _ => 32 - (intOf i).toNat)
    case atStart => exact ⟨0, by omega, rfl, HS2.out⟩
    case round =>
      clear HS2
      obtain ⟨k, hk, rfl, S⟩ := hrel
      have HS := Lib.hid S
      clear S
      by_cases hlt : k < 32
      · obtain ⟨x, hx⟩ : ∃ x, h k = x := ⟨_, rfl⟩
        obtain ⟨hc, hfz⟩ := HS.out.cellI 0 rfl (mixF_len _ _ _) k x (by rw [mixF_here _ _ k hlt, hx])
        have hb := HBD.out k hlt
        rw [hx] at hb
        by_cases h0 : x < 0
        · have HST := Lib.hid (HS.out.storeI 0 rfl (mixF_len _ _ _) k 40 rfl)
          have HV : Bx ((40 : Int) = fixV (h k)) := Bx.mk (by unfold fixV; rw [hx, if_pos h0])
          clear hx
          go_wp2
          go_roundw
          case rel => exact ⟨k + 1, by omega, by go_num, by rw [← mixF_set _ _ k 40 HV.out]; exact HST.out⟩
          case measure => simp [intOf]; omega
        · have HV := Bx.mk (mixF_same (fun s => fixV (h s)) h k (by show fixV (h k) = h k; unfold fixV; rw [hx, if_neg h0]))
          clear hx
          go_wp2
          go_roundw
          case rel => exact ⟨k + 1, by omega, by go_num, by rw [HV.out]; exact HS.out⟩
          case measure => simp [intOf]; omega
      · obtain rfl : k = 32 := by omega
        have HS3 : Hid (St w wr [rInts (.slice (some ⟨g, 0, none⟩) 32 c) (shadN t F)]) := Lib.hid (by
          have := HS.out
          rw [mixF_all, HEE.out] at this
          rw [HE.out]; exact this)
        go_wp2
        go_ret
        exact ⟨_, rfl, HS3.out⟩
  · have hl : shadL t F = [] := by unfold shadL; rw [if_neg hok]
    have HE : Bx (shadN t F = []) := Bx.mk (by rw [shadN_eq2, hl]; rfl)
    rw [hl] at s2
    obtain ⟨A, c, hs⟩ := s2.formN 0 rfl (n := 0) rfl
    simp only [id_eq] at hs ⊢
    subst hs
    have HS2 : Hid (St w w2 [rInts (.slice A 0 c) []]) := Lib.hid (HS0.out.call s2).tl
    clear s2 hok hl HS0 q0
    go_wp2
    go_loopw [6] (fun i wr => i = .int .i64 0 ∧ wr = w2) (fun i _ => 0)
    case atStart => exact ⟨rfl, rfl⟩
    case round =>
      obtain ⟨rfl, rfl⟩ := hrel
      go_wp2
      go_ret
      exact ⟨_, rfl, by rw [HE.out]; exact HS2.out⟩
end Go.Proofs.YtkimgdfcgfhibaaDoor
