/- Plain law: the rings come off in as many deeds as their place, in one way; no program in sight. -/
import Derived.Test.YtpcaagbmjhgnaaaJFnRingsTaskPlansW
import Derived.Test.YtpcaagbmjhgnaaaJFnRingsTaskRTask
namespace Go.Proofs.Ytpcaagbmjhgnaaa
set_option linter.unusedVariables false

/-- a measure of states that a deed turns by one at most, and some deed turns down -/
structure Pot (ds : List DeedD) (S : Nat → Bool) (Q : Nat → Prop) (f : Nat → Nat) : Prop where
  stay : ∀ s, Q s → ∀ d ∈ ds, ∀ s', deedDo d s = some s' → Q s'
  goal : ∀ s, Q s → (S s = true ↔ f s = 0)
  near : ∀ s, Q s → ∀ d ∈ ds, ∀ s', deedDo d s = some s' → f s ≤ f s' + 1
  down : ∀ s, Q s → f s ≠ 0 → ∃ d ∈ ds, ∃ s', deedDo d s = some s' ∧ f s' + 1 = f s
section
variable {ds : List DeedD} {S : Nat → Bool} {Q : Nat → Prop} {f : Nat → Nat}
theorem Pot.layer (h : Pot ds S Q f) (n : Nat) : ∀ s, Q s → (layer ds S n s = true ↔ f s ≤ n) := by
  induction n with
  | zero => intro s hs; simp only [Go.Proofs.Ytpcaagbmjhgnaaa.layer]; rw [h.goal s hs]; omega
  | succ n ih =>
    intro s hs
    simp only [Go.Proofs.Ytpcaagbmjhgnaaa.layer, Bool.or_eq_true]
    rw [ih s hs, backP_iff]
    constructor
    · rintro (h1 | ⟨d, hd, s', e, h1⟩)
      · omega
      · have := (ih s' (h.stay s hs d hd s' e)).1 h1
        have := h.near s hs d hd s' e
        omega
    · intro h1
      by_cases h2 : f s ≤ n
      · exact .inl h2
      · obtain ⟨d, hd, s', e, h3⟩ := h.down s hs (by omega)
        exact .inr ⟨d, hd, s', e, (ih s' (h.stay s hs d hd s' e)).2 (by omega)⟩
theorem Pot.stp (h : Pot ds S Q f) {s : Nat} (hs : Q s) (h32 : f s ≤ 32) : stpV ds S s = (f s : Int) :=
  stpN_eq h32 ((h.layer (f s) s hs).2 (Nat.le_refl _)) fun m hm => by
    cases e : Go.Proofs.Ytpcaagbmjhgnaaa.layer ds S m s with
    | false => rfl
    | true => have := (h.layer m s hs).1 e; omega
theorem Pot.short (h : Pot ds S Q f) (n : Nat) : ∀ s, Q s → n < f s → waysN ds S n s = 0 := by
  induction n with
  | zero =>
    intro s hs hn
    have := h.goal s hs
    simp only [waysN]
    rw [if_neg (fun e => by have := this.1 e; omega)]
  | succ n ih =>
    intro s hs hn
    rw [waysN_succ]
    refine sumL_zero fun d hd => ?_
    cases e : deedDo d s with
    | none => rfl
    | some s' => exact ih s' (h.stay s hs d hd s' e) (by have := h.near s hs d hd s' e; omega)
theorem Pot.one (h : Pot ds S Q f) (hone : ∀ s, Q s → f s ≠ 0 → sumL ds (fun d => match deedDo d s with | some s' => if f s' + 1 = f s then 1 else 0 | none => 0) = 1) (n : Nat) : ∀ s, Q s → f s = n → waysN ds S n s = 1 := by
  induction n with
  | zero => intro s hs hn; simp only [waysN]; rw [if_pos ((h.goal s hs).2 hn)]
  | succ n ih =>
    intro s hs hn
    rw [waysN_succ, ← hone s hs (by omega)]
    refine sumL_congr fun d hd => ?_
    cases e : deedDo d s with
    | none => rfl
    | some s' =>
      have hq := h.stay s hs d hd s' e
      have hn1 := h.near s hs d hd s' e
      simp only
      by_cases h1 : f s' + 1 = f s
      · rw [if_pos h1]; exact ih s' hq (by omega)
      · rw [if_neg h1]; exact h.short n s' hq (by omega)
end
/-- the place of a state -/
def placeN (s : Nat) : Nat := (grayPlace (s : Int)).toNat
def ringS (r : Nat) : Nat → Bool := evalCode (codeAll (noneParts r))
/-- all that is asked of r rings at the state s, reckoned -/
def ringCheck (r s : Nat) : Bool :=
  (ringDeeds r).all (fun d => match deedDo d s with | some s' => decide (s' < 2 ^ r) && decide (placeN s ≤ placeN s' + 1) | none => true) &&
  (ringS r s == decide (placeN s = 0)) &&
  (decide (placeN s = 0) || ((ringDeeds r).any (fun d => match deedDo d s with | some s' => decide (placeN s' + 1 = placeN s) | none => false) &&
    decide (sumL (ringDeeds r) (fun d => match deedDo d s with | some s' => if placeN s' + 1 = placeN s then 1 else 0 | none => 0) = 1))) &&
  decide (placeN s ≤ 31) && decide ((placeN s : Int) = grayPlace (s : Int))
theorem ring_all : ∀ r : Fin 6, ∀ s : Fin 32, s.val < 2 ^ r.val → 0 < r.val → ringCheck r.val s.val = true := by decide +kernel
theorem ringCheck_parts {r s : Nat} (h : ringCheck r s = true) : (∀ d ∈ ringDeeds r, ∀ s', deedDo d s = some s' → s' < 2 ^ r ∧ placeN s ≤ placeN s' + 1) ∧ (ringS r s = true ↔ placeN s = 0) ∧
    (placeN s ≠ 0 → (∃ d ∈ ringDeeds r, ∃ s', deedDo d s = some s' ∧ placeN s' + 1 = placeN s) ∧ sumL (ringDeeds r) (fun d => match deedDo d s with | some s' => if placeN s' + 1 = placeN s then 1 else 0 | none => 0) = 1) ∧ placeN s ≤ 31 ∧ (placeN s : Int) = grayPlace (s : Int) := by
  unfold ringCheck at h
  simp only [Bool.and_eq_true, List.all_eq_true, decide_eq_true_eq, beq_iff_eq, Bool.or_eq_true, List.any_eq_true] at h
  obtain ⟨⟨⟨⟨h1, h2⟩, h3⟩, h4⟩, h5⟩ := h
  refine ⟨fun d hd s' e => ?_, by rw [h2]; simp, fun hne => ?_, h4, h5⟩
  · have := h1 d hd
    rw [e] at this
    simpa using this
  · rcases h3 with h3 | ⟨⟨d, hd, h6⟩, h7⟩
    · exact absurd h3 hne
    · refine ⟨?_, h7⟩
      cases e : deedDo d s with
      | none => rw [e] at h6; cases h6
      | some s' => rw [e] at h6; exact ⟨d, hd, s', e, by simpa using h6⟩
theorem ring_pot {r : Nat} (h0 : 0 < r) (h5 : r ≤ 5) : Pot (ringDeeds r) (ringS r) (fun s => s < 2 ^ r) placeN := by
  have hp : 2 ^ r ≤ 32 := by have := Nat.pow_le_pow_right (show 0 < 2 by omega) h5; omega
  have hc : ∀ s, s < 2 ^ r → ringCheck r s = true := fun s hs => ring_all ⟨r, by omega⟩ ⟨s, by omega⟩ hs h0
  exact ⟨fun s hs d hd s' e => ((ringCheck_parts (hc s hs)).1 d hd s' e).1, fun s hs => (ringCheck_parts (hc s hs)).2.1, fun s hs d hd s' e => ((ringCheck_parts (hc s hs)).1 d hd s' e).2, fun s hs hne => ((ringCheck_parts (hc s hs)).2.2.1 hne).1⟩
theorem ring_ok : ∀ r : Fin 6, ∀ s : Fin 32, s.val < 2 ^ r.val → 0 < r.val → taskOk (ringsTask r.val s.val) = true ∧ (ringsTask r.val s.val).goal ≠ [] := by decide +kernel
theorem ring_may : ∀ r : Fin 6, ∀ s : Fin 32, ∀ k : Fin 5, s.val < 2 ^ r.val → k.val < r.val → decide (0 ≤ deedDoZ (ringDeed k.val) (s.val : Int)) = ringsMay r.val s.val k.val := by decide +kernel
theorem ringsIn_parts {r s : Int} (h : ringsIn r s = true) : ∃ a b : Nat, r = (a : Int) ∧ s = (b : Int) ∧ 0 < a ∧ a ≤ 5 ∧ b < 2 ^ a := by
  obtain ⟨b1, b2, b3, b4⟩ := ringsIn_bd r s h
  unfold ringsIn at h
  simp only [decide_eq_true_eq] at h
  obtain ⟨a, rfl⟩ := Int.eq_ofNat_of_zero_le (show 0 ≤ r by omega)
  obtain ⟨b, rfl⟩ := Int.eq_ofNat_of_zero_le (show 0 ≤ s by omega)
  refine ⟨a, b, rfl, rfl, by omega, by omega, ?_⟩
  have := h.2.2.2
  simp only [Int.toNat_natCast] at this
  have h2 : (b : Int) < ((2 ^ a : Nat) : Int) := by push_cast; exact this
  omega
theorem ring_plan {a b : Nat} (h0 : 0 < a) (h5 : a ≤ 5) (hb : b < 2 ^ a) : ∃ p, planFor (ringsTask a b) = some p ∧ (p.length : Int) = grayPlace (b : Int) ∧ plansMany (ringsTask a b) = 1 := by
  have hp : 2 ^ a ≤ 32 := by have := Nat.pow_le_pow_right (show 0 < 2 by omega) h5; omega
  obtain ⟨hok, -⟩ := ring_ok ⟨a, by omega⟩ ⟨b, by omega⟩ hb h0
  have hc := ringCheck_parts (ring_all ⟨a, by omega⟩ ⟨b, by omega⟩ hb h0)
  simp only at hok hc
  have hin : ringsIn (a : Int) (b : Int) = true := by
    cases h : ringsIn (a : Int) (b : Int) with
    | true => rfl
    | false => unfold ringsTask at hok; rw [if_neg (by rw [h]; simp)] at hok; cases hok
  have ht : ringsTask (a : Int) (b : Int) = ⟨b, codeAll (noneParts a), ringDeeds a⟩ := by unfold ringsTask; rw [if_pos hin, Int.toNat_natCast]
  have hs : stpV (ringDeeds a) (ringS a) b = (placeN b : Int) := (ring_pot h0 h5).stp hb (by omega)
  have hpl : planFor (ringsTask a b) = some (walkP (ringDeeds a) (ringS a) (placeN b) b) := by
    unfold planFor
    rw [if_pos hok, ht]
    show planOf (ringDeeds a) (ringS a) ((b : Int)).toNat = _
    rw [Int.toNat_natCast]
    unfold planOf
    rw [hs, if_neg (by omega), Int.toNat_natCast]
  refine ⟨_, hpl, ?_, ?_⟩
  · obtain ⟨-, h2, -⟩ := planFor_some hpl
    rw [h2, ht]
    show stpV (ringDeeds a) (ringS a) ((b : Int)).toNat = _
    rw [Int.toNat_natCast, hs, hc.2.2.2.2]
  · rw [plansMany_yes _ hok b (by rw [ht]), ht]
    show (if stpV (ringDeeds a) (ringS a) b < 0 then 0 else wrap (waysN (ringDeeds a) (ringS a) (stpV (ringDeeds a) (ringS a) b).toNat b)) = 1
    rw [hs, if_neg (by omega), Int.toNat_natCast, (ring_pot h0 h5).one (fun s hs' hne => ((ringCheck_parts (ring_all ⟨a, by omega⟩ ⟨s, by omega⟩ hs' h0)).2.2.1 hne).2) _ b hb rfl]
    rfl
end Go.Proofs.Ytpcaagbmjhgnaaa
