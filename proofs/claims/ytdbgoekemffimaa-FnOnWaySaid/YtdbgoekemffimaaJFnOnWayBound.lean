/- Plain law: the shortest plans are fewer than 2^63, and there is one where the end is reached; no program in sight. -/
import Derived.Test.YtdbgoekemffimaaJFnOnWay12
import Derived.Test.YtdbgoekemffimaaJFnOnWayCount
namespace Go.Proofs.Ytdbgoekemffimaa
set_option linter.unusedVariables false

theorem sumL_nonneg {α : Type} {l : List α} {f : α → Int} (h : ∀ a ∈ l, 0 ≤ f a) : 0 ≤ sumL l f := by
  induction l with
  | nil => exact Int.le_refl _
  | cons a l ih => rw [sumL_cons]; have := h a (List.mem_cons_self ..); have := ih fun b hb => h b (List.mem_cons_of_mem _ hb); omega
theorem sumL_ge {α : Type} {l : List α} {f : α → Int} (h : ∀ a ∈ l, 0 ≤ f a) {b : α} (hb : b ∈ l) : f b ≤ sumL l f := by
  induction l with
  | nil => cases hb
  | cons a l ih =>
    rw [sumL_cons]
    have h1 := h a (List.mem_cons_self ..)
    have h2 := sumL_nonneg fun b hb => h b (List.mem_cons_of_mem _ hb)
    rcases List.mem_cons.1 hb with rfl | hb
    · omega
    · have := ih (fun b hb => h b (List.mem_cons_of_mem _ hb)) hb; omega
theorem sumL_count {α : Type} {l : List α} {f : α → Int} {p : α → Bool} {M : Int} (h : ∀ a ∈ l, f a ≤ if p a then M else 0) : sumL l f ≤ (l.countP p : Nat) * M := by
  induction l with
  | nil => simp [sumL_nil]
  | cons a l ih =>
    rw [sumL_cons, List.countP_cons]
    have h1 := h a (List.mem_cons_self ..)
    have h2 := ih fun b hb => h b (List.mem_cons_of_mem _ hb)
    cases e : p a with
    | true => rw [e] at h1; simp only [if_pos] at h1 ⊢; push_cast; rw [Int.add_mul]; omega
    | false => rw [e] at h1; simp only [Bool.false_eq_true, if_false, Nat.add_zero] at h1 ⊢; omega
theorem count3 {α : Type} {l : List α} {a b c : α → Bool} (h : ∀ d ∈ l, ¬ (a d = true ∧ b d = true ∧ c d = true)) : l.countP a + l.countP b + l.countP c ≤ 2 * l.length := by
  induction l with
  | nil => simp
  | cons d l ih =>
    have h1 := h d (List.mem_cons_self ..)
    have h2 := ih fun e he => h e (List.mem_cons_of_mem _ he)
    simp only [List.countP_cons, List.length_cons]
    revert h1
    cases a d <;> cases b d <;> cases c d <;> simp <;> omega
theorem mean3_all : ∀ a b c : Fin 7, a.val + b.val + c.val ≤ 12 → a.val * (b.val * c.val) ≤ 64 := by decide +kernel
theorem mean3 {a b c : Nat} (ha : a ≤ 6) (hb : b ≤ 6) (hc : c ≤ 6) (h : a + b + c ≤ 12) : a * (b * c) ≤ 64 := mean3_all ⟨a, by omega⟩ ⟨b, by omega⟩ ⟨c, by omega⟩ h
theorem behind_thrice (d : DeedD) (s : Nat) (hs : s < 32) (h : deedOk d = true) : behind d (behind d (behind d s)) = behind d s := by
  have h1 := behind_lt d s h hs
  have h2 := behind_lt d _ h h1
  refine ext5 (behind_lt _ _ h h2) h1 fun k hk => ?_
  obtain ⟨-, -, -, -, e1, e2, e3⟩ := deedOk_parts d h
  have d1 := disj_bit (k := k) e1
  have d2 := disj_bit (k := k) e2
  have d3 := disj_bit (k := k) e3
  rw [behind_bit d _ k h2 h hk, behind_bit d _ k h1 h hk, behind_bit d s k hs h hk]
  revert d1 d2 d3
  cases s.testBit k <;> cases d.on.toNat.testBit k <;> cases d.off.toNat.testBit k <;> cases d.flip.toNat.testBit k <;> simp
section
variable {ds : List DeedD} {S : Nat → Bool}
theorem deedDo_behind {d : DeedD} {s s' : Nat} (e : deedDo d s = some s') : s' = behind d s := by
  unfold deedDo at e
  split at e
  · exact (Option.some.inj e).symm
  · cases e
theorem waysN_nonneg (n : Nat) : ∀ s, 0 ≤ waysN ds S n s := by
  induction n with
  | zero => intro s; simp only [waysN]; split <;> omega
  | succ n ih =>
    intro s
    rw [waysN_succ]
    refine sumL_nonneg fun d _ => ?_
    cases deedDo d s with
    | none => exact Int.le_refl _
    | some s' => exact ih s'
theorem ways_short (n : Nat) : ∀ s, layer ds S n s = false → waysN ds S n s = 0 := by
  induction n with
  | zero => intro s h; simp only [layer] at h; simp [waysN, h]
  | succ n ih =>
    intro s h
    simp only [layer, Bool.or_eq_false_iff] at h
    rw [waysN_succ]
    refine sumL_zero fun d hd => ?_
    cases e : deedDo d s with
    | none => rfl
    | some s' =>
      refine ih s' ?_
      cases hl : layer ds S n s' with
      | false => rfl
      | true => have := backP_iff.2 ⟨d, hd, s', e, hl⟩; rw [h.2] at this; cases this
theorem ways_pos (hd : ∀ d ∈ ds, deedOk d = true) (n : Nat) : ∀ s, s < 32 → stpV ds S s = (n : Int) → 1 ≤ waysN ds S n s := by
  induction n with
  | zero => intro s _ h; rw [waysN, if_pos (stpV_zero.1 h)]; omega
  | succ n ih =>
    intro s hs h
    obtain ⟨d, hm, s', e, hs', h'⟩ := stpV_next hd hs h
    rw [waysN_succ]
    have hnn : ∀ d ∈ ds, 0 ≤ (match deedDo d s with | some s' => waysN ds S n s' | none => (0 : Int)) := fun d _ => by
      cases deedDo d s with
      | none => exact Int.le_refl _
      | some s' => exact waysN_nonneg n s'
    have := sumL_ge hnn hm
    rw [e] at this
    exact Int.le_trans (ih s' hs' h') this
/-- the deed leads to a state k deeds from the end -/
def goesTo (ds : List DeedD) (S : Nat → Bool) (s : Nat) (k : Nat) (d : DeedD) : Bool := match deedDo d s with
  | some s' => stpV ds S s' == (k : Int)
  | none => false
theorem goesTo_none {s k : Nat} {d : DeedD} (e : deedDo d s = none) : goesTo ds S s k d = false := by unfold goesTo; rw [e]
theorem goesTo_some {s s' k : Nat} {d : DeedD} (e : deedDo d s = some s') : goesTo ds S s k d = (stpV ds S s' == (k : Int)) := by unfold goesTo; rw [e]
theorem ways_step (hd : ∀ d ∈ ds, deedOk d = true) {k s : Nat} {M : Int} (hs : s < 32) (hk : stpV ds S s = ((k + 1 : Nat) : Int)) (h : ∀ s', s' < 32 → stpV ds S s' = (k : Int) → waysN ds S k s' ≤ M) : waysN ds S (k + 1) s ≤ (ds.countP (goesTo ds S s k) : Nat) * M := by
  rw [waysN_succ]
  refine sumL_count fun d hm => ?_
  cases e : deedDo d s with
  | none => rw [goesTo_none e]; exact Int.le_refl _
  | some s' =>
    rw [goesTo_some e]
    have hs' := deedDo_lt d s s' (hd d hm) hs e
    simp only
    cases hl : layer ds S k s' with
    | false =>
      rw [ways_short k s' hl]
      have hne : ¬ stpV ds S s' = (k : Int) := fun h1 => by
        obtain ⟨j, hj, h2, h3, -⟩ := stpN_at (ds := ds) (S := S) (n := 32) (s := s') (stpN_nonneg.1 (by show 0 ≤ stpV ds S s'; omega))
        have h4 : (j : Int) = k := h2.symm.trans h1
        have : j = k := by omega
        subst this
        rw [h3] at hl; cases hl
      rw [show (stpV ds S s' == (k : Int)) = false by simpa using hne]
      exact Int.le_refl _
    | true =>
      have hk32 := stpV_le hd hs (S := S)
      have h1 : layer ds S 32 s' = true := layer_mono (by omega) hl
      obtain ⟨j, hj, h2, -, h4⟩ := stpN_at h1
      have hjk : j ≤ k := by
        rcases Nat.lt_or_ge k j with hlt | hge
        · have := h4 k hlt; rw [hl] at this; cases this
        · exact hge
      have h5 := stpV_back hd hs hm e (S := S) (by show 0 ≤ stpN ds S 32 s'; omega)
      have h6 : stpV ds S s' = (k : Int) := by
        have : stpV ds S s' = (j : Int) := h2
        omega
      rw [h6]
      simp only [BEq.rfl, if_true]
      exact h s' hs' h6
theorem ways_six (hd : ∀ d ∈ ds, deedOk d = true) (hn : ds.length ≤ 6) {k s M : Nat} (hs : s < 32) (hk : stpV ds S s = ((k + 1 : Nat) : Int)) (h : ∀ s', s' < 32 → stpV ds S s' = (k : Int) → waysN ds S k s' ≤ (M : Int)) : waysN ds S (k + 1) s ≤ ((6 * M : Nat) : Int) := by
  refine Int.le_trans (ways_step hd hs hk h) ?_
  have : ds.countP (goesTo ds S s k) ≤ 6 := Nat.le_trans List.countP_le_length hn
  exact_mod_cast Nat.mul_le_mul_right M this
theorem ways_block (hd : ∀ d ∈ ds, deedOk d = true) (hn : ds.length ≤ 6) {k s M s1 s2 : Nat} (hs : s < 32) (hk : stpV ds S s = ((k + 3 : Nat) : Int)) (h : ∀ s', s' < 32 → stpV ds S s' = (k : Int) → waysN ds S k s' ≤ (M : Int))
    (h1 : ∀ s', s' < 32 → stpV ds S s' = ((k + 2 : Nat) : Int) → s' = s1) (h2 : ∀ s', s' < 32 → stpV ds S s' = ((k + 1 : Nat) : Int) → s' = s2) : waysN ds S (k + 3) s ≤ ((64 * M : Nat) : Int) := by
  have w2 : ∀ s', s' < 32 → stpV ds S s' = ((k + 1 : Nat) : Int) → waysN ds S (k + 1) s' ≤ ((ds.countP (goesTo ds S s2 k) : Nat) : Int) * (M : Int) := fun s' hs' e => by
    have := ways_step hd hs' e h
    rwa [h2 s' hs' e] at this ⊢
  have w1 : ∀ s', s' < 32 → stpV ds S s' = ((k + 2 : Nat) : Int) → waysN ds S (k + 2) s' ≤ ((ds.countP (goesTo ds S s1 (k + 1)) : Nat) : Int) * (((ds.countP (goesTo ds S s2 k) : Nat) : Int) * (M : Int)) := fun s' hs' e => by
    have := ways_step (k := k + 1) hd hs' e w2
    rwa [h1 s' hs' e] at this ⊢
  have w0 := ways_step (k := k + 2) hd hs hk w1
  refine Int.le_trans w0 ?_
  have c1 : ∀ p : DeedD → Bool, ds.countP p ≤ 6 := fun p => Nat.le_trans List.countP_le_length hn
  have key : ds.countP (goesTo ds S s (k + 2)) + ds.countP (goesTo ds S s1 (k + 1)) + ds.countP (goesTo ds S s2 k) ≤ 2 * ds.length := count3 fun d hm ⟨e0, e1, e2⟩ => by
    unfold goesTo at e0 e1 e2
    cases f0 : deedDo d s with
    | none => rw [f0] at e0; cases e0
    | some t1 =>
      rw [f0] at e0
      have e0' : stpV ds S t1 = ((k + 2 : Nat) : Int) := by simpa using e0
      have ht1 := deedDo_lt d s t1 (hd d hm) hs f0
      have g1 := h1 t1 ht1 e0'
      cases f1 : deedDo d s1 with
      | none => rw [f1] at e1; cases e1
      | some t2 =>
        rw [f1] at e1
        have e1' : stpV ds S t2 = ((k + 1 : Nat) : Int) := by simpa using e1
        have ht2 := deedDo_lt d s1 t2 (hd d hm) (g1 ▸ ht1) f1
        have g2 := h2 t2 ht2 e1'
        cases f2 : deedDo d s2 with
        | none => rw [f2] at e2; cases e2
        | some t3 =>
          rw [f2] at e2
          have e2' : stpV ds S t3 = (k : Int) := by simpa using e2
          have b1 := deedDo_behind f0
          have b2 := deedDo_behind f1
          have b3 := deedDo_behind f2
          rw [← g1] at b2
          rw [← g2] at b3
          have := behind_thrice d s hs (hd d hm)
          rw [← b1, ← b2, ← b3] at this
          rw [this, e0'] at e2'
          omega
  have := mean3 (c1 _) (c1 _) (c1 _) (by omega : ds.countP (goesTo ds S s (k + 2)) + ds.countP (goesTo ds S s1 (k + 1)) + ds.countP (goesTo ds S s2 k) ≤ 12)
  have h3 := Nat.mul_le_mul_right M this
  rw [Nat.mul_assoc, Nat.mul_assoc] at h3
  exact_mod_cast h3
/-- every number of deeds up to L is that of a state -/
theorem dist_all (hd : ∀ d ∈ ds, deedOk d = true) {L : Nat} : ∀ s, s < 32 → stpV ds S s = (L : Int) → ∀ k, k ≤ L → ∃ t, t < 32 ∧ stpV ds S t = (k : Int) := by
  induction L with
  | zero => intro s hs h k hk; exact ⟨s, hs, by rw [h]; simp; omega⟩
  | succ L ih =>
    intro s hs h k hk
    by_cases e : k = L + 1
    · subst e; exact ⟨s, hs, h⟩
    · obtain ⟨d, -, s', -, hs', h'⟩ := stpV_next hd hs h
      exact ih s' hs' h' k (by omega)
theorem dist_layer {n s : Nat} (hn : n ≤ 31) (h : stpV ds S s = ((n + 1 : Nat) : Int)) : layer ds S n s = false ∧ layer ds S (n + 1) s = true := by
  obtain ⟨j, hj, h2, h3, h4⟩ := stpN_at (ds := ds) (S := S) (n := 32) (s := s) (stpN_nonneg.1 (by show 0 ≤ stpV ds S s; omega))
  have h5 : (j : Int) = ((n + 1 : Nat) : Int) := h2.symm.trans h
  have : j = n + 1 := by omega
  subst this
  exact ⟨h4 n (by omega), h3⟩
theorem cnt_one {n : Nat} (hn : n ≤ 31) (h : ∃ t, t < 32 ∧ stpV ds S t = ((n + 1 : Nat) : Int)) : cnt (layer ds S n) 32 + 1 ≤ cnt (layer ds S (n + 1)) 32 := by
  obtain ⟨t, ht, e⟩ := h
  obtain ⟨a, b⟩ := dist_layer hn e
  exact cnt_lt (fun k _ h => layer_succ h) ht a b
theorem cnt_two {n : Nat} (hn : n ≤ 31) {t u : Nat} (ht : t < 32) (hu : u < 32) (hne : t ≠ u) (e1 : stpV ds S t = ((n + 1 : Nat) : Int)) (e2 : stpV ds S u = ((n + 1 : Nat) : Int)) : cnt (layer ds S n) 32 + 2 ≤ cnt (layer ds S (n + 1)) 32 := by
  obtain ⟨a1, b1⟩ := dist_layer hn e1
  obtain ⟨a2, b2⟩ := dist_layer hn e2
  have s1 : cnt (layer ds S n) 32 < cnt (fun s => layer ds S n s || decide (s = t)) 32 := cnt_lt (fun k _ h => by simp [h]) ht a1 (by simp)
  have s2 : cnt (fun s => layer ds S n s || decide (s = t)) 32 < cnt (layer ds S (n + 1)) 32 := cnt_lt (fun k _ h => by
    simp only [Bool.or_eq_true, decide_eq_true_eq] at h
    rcases h with h | rfl
    · exact layer_succ h
    · exact b1) hu (by simp [a2]; exact fun h => hne h.symm) b2
  omega
theorem ways_small (hd : ∀ d ∈ ds, deedOk d = true) {r : Nat} (hn : ds.length ≤ 6) : ∀ s, s < 32 → stpV ds S s = (r : Int) → waysN ds S r s ≤ ((6 ^ r : Nat) : Int) := by
  induction r with
  | zero => intro s _ _; simp only [waysN]; split <;> simp
  | succ r ih =>
    intro s hs h
    have := ways_six hd hn hs h ih
    rwa [Nat.pow_succ, Nat.mul_comm]
theorem cnt_base {L n : Nat} (hL : L ≤ 31) (hall : ∀ k, k ≤ L → ∃ t, t < 32 ∧ stpV ds S t = (k : Int)) (hn : n ≤ L) : n + 1 ≤ cnt (layer ds S n) 32 := by
  induction n with
  | zero =>
    obtain ⟨t, ht, e⟩ := hall 0 (by omega)
    exact cnt_pos.2 ⟨t, ht, stpV_zero.1 e⟩
  | succ n ih => have := ih (by omega); have := cnt_one (n := n) (by omega) (hall (n + 1) (by omega)); omega
theorem ways_blocks (hd : ∀ d ∈ ds, deedOk d = true) (hn : ds.length ≤ 6) {L : Nat} (hL : L ≤ 31) (hall : ∀ k, k ≤ L → ∃ t, t < 32 ∧ stpV ds S t = (k : Int)) (r q : Nat) (hq : 3 * q + r ≤ L) :
    ∃ b, b ≤ q ∧ 3 * q + r + 1 + b ≤ cnt (layer ds S (3 * q + r)) 32 ∧ ∀ s, s < 32 → stpV ds S s = ((3 * q + r : Nat) : Int) → waysN ds S (3 * q + r) s ≤ ((6 ^ r * 64 ^ (q - b) * 216 ^ b : Nat) : Int) := by
  induction q with
  | zero =>
    refine ⟨0, Nat.le_refl _, ?_, fun s hs h => ?_⟩
    · have := cnt_base hL hall (n := 3 * 0 + r) hq; omega
    · simp only [Nat.mul_zero, Nat.zero_add] at h ⊢
      simpa using ways_small hd hn s hs h
  | succ q ih =>
    obtain ⟨b, hb, hc, hw⟩ := ih (by omega)
    have e3 : 3 * (q + 1) + r = 3 * q + r + 3 := by omega
    rw [e3]
    generalize hk : 3 * q + r = k at *
    have c1 : cnt (layer ds S k) 32 + 1 ≤ cnt (layer ds S (k + 1)) 32 := cnt_one (n := k) (by omega) (hall (k + 1) (by omega))
    have c2 : cnt (layer ds S (k + 1)) 32 + 1 ≤ cnt (layer ds S (k + 2)) 32 := cnt_one (n := k + 1) (by omega) (hall (k + 2) (by omega))
    have c3 : cnt (layer ds S (k + 2)) 32 + 1 ≤ cnt (layer ds S (k + 3)) 32 := cnt_one (n := k + 2) (by omega) (hall (k + 3) (by omega))
    obtain ⟨s2, hs2, d2⟩ := hall (k + 1) (by omega)
    obtain ⟨s1, hs1, d1⟩ := hall (k + 2) (by omega)
    by_cases hsing : (∀ s', s' < 32 → stpV ds S s' = ((k + 2 : Nat) : Int) → s' = s1) ∧ (∀ s', s' < 32 → stpV ds S s' = ((k + 1 : Nat) : Int) → s' = s2)
    · refine ⟨b, by omega, by omega, fun s hs h => ?_⟩
      have := ways_block hd hn hs h hw hsing.1 hsing.2
      rw [show q + 1 - b = (q - b) + 1 by omega, Nat.pow_succ]
      have e : 64 * (6 ^ r * 64 ^ (q - b) * 216 ^ b) = 6 ^ r * (64 ^ (q - b) * 64) * 216 ^ b := by
        rw [Nat.mul_comm 64, Nat.mul_right_comm, Nat.mul_assoc (6 ^ r)]
      rwa [e] at this
    · have hc2 : k + 3 + 1 + (b + 1) ≤ cnt (layer ds S (k + 3)) 32 := by
        by_cases hs' : ∀ s', s' < 32 → stpV ds S s' = ((k + 2 : Nat) : Int) → s' = s1
        · have hs'' : ¬ ∀ s', s' < 32 → stpV ds S s' = ((k + 1 : Nat) : Int) → s' = s2 := fun h => hsing ⟨hs', h⟩
          obtain ⟨u, hu⟩ := Classical.not_forall.1 hs''
          obtain ⟨hu, hu2⟩ := Classical.not_imp.1 hu
          obtain ⟨eu, hne⟩ := Classical.not_imp.1 hu2
          have : cnt (layer ds S k) 32 + 2 ≤ cnt (layer ds S (k + 1)) 32 := cnt_two (n := k) (by omega) hs2 hu (fun h => hne h.symm) d2 eu
          omega
        · obtain ⟨u, hu⟩ := Classical.not_forall.1 hs'
          obtain ⟨hu, hu2⟩ := Classical.not_imp.1 hu
          obtain ⟨eu, hne⟩ := Classical.not_imp.1 hu2
          have : cnt (layer ds S (k + 1)) 32 + 2 ≤ cnt (layer ds S (k + 2)) 32 := cnt_two (n := k + 1) (by omega) hs1 hu (fun h => hne h.symm) d1 eu
          omega
      refine ⟨b + 1, by omega, hc2, fun s hs h => ?_⟩
      have m1 : ∀ s', s' < 32 → stpV ds S s' = ((k + 1 : Nat) : Int) → waysN ds S (k + 1) s' ≤ _ := fun s' hs' e => ways_six hd hn hs' e hw
      have m2 : ∀ s', s' < 32 → stpV ds S s' = ((k + 2 : Nat) : Int) → waysN ds S (k + 2) s' ≤ _ := fun s' hs' e => ways_six hd hn hs' e m1
      have := ways_six hd hn hs h m2
      rw [show q + 1 - (b + 1) = q - b by omega, Nat.pow_succ]
      have e : 6 * (6 * (6 * (6 ^ r * 64 ^ (q - b) * 216 ^ b))) = 6 ^ r * 64 ^ (q - b) * (216 ^ b * 216) := by
        rw [← Nat.mul_assoc, ← Nat.mul_assoc, show 6 * 6 * 6 = 216 from rfl, Nat.mul_comm 216, Nat.mul_assoc]
      rwa [e] at this
end
theorem bound_all : ∀ q : Fin 11, ∀ r : Fin 3, ∀ b : Fin 11, b.val ≤ q.val → 3 * q.val + r.val + 1 + b.val ≤ 32 → 6 ^ r.val * 64 ^ (q.val - b.val) * 216 ^ b.val < 9223372036854775808 := by decide +kernel
/-- the number of shortest ways is between 1 and 2^63 - 1 -/
theorem ways_bound {ds : List DeedD} {S : Nat → Bool} (hd : ∀ d ∈ ds, deedOk d = true) (hn : ds.length ≤ 6) {L s : Nat} (hs : s < 32) (h : stpV ds S s = (L : Int)) : 1 ≤ waysN ds S L s ∧ waysN ds S L s < 9223372036854775808 := by
  refine ⟨ways_pos hd L s hs h, ?_⟩
  have hL : L ≤ 31 := by have := (stpV_le hd hs (S := S)).2; omega
  obtain ⟨b, hb, hc, hw⟩ := ways_blocks hd hn hL (dist_all hd s hs h) (L % 3) (L / 3) (by omega)
  rw [show 3 * (L / 3) + L % 3 = L by omega] at hc hw
  have h1 := hw s hs h
  have h2 := cnt_le (layer ds S L) 32
  have h3 := bound_all ⟨L / 3, by omega⟩ ⟨L % 3, by omega⟩ ⟨b, by omega⟩ hb (by simp only; omega)
  simp only at h3
  omega
end Go.Proofs.Ytdbgoekemffimaa
