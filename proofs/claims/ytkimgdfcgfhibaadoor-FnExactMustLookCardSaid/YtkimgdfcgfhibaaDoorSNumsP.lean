/- Plain laws of numbers that prove how many deeds are needed: NumbersOk, NumbersFor, MustLook; no program in sight. -/
import Derived.Test.YtkimgdfcgfhibaaDoorSStepsOn
namespace Go.Proofs.YtkimgdfcgfhibaaDoor
set_option linter.unusedVariables false
set_option linter.unusedSimpArgs false

def xv (xs : List Int) (s : Nat) : Int := xs.getD s 0
def numRow (t : TaskD) (xs : List Int) (s : Nat) : Bool :=
  decide (0 ≤ xv xs s ∧ xv xs s ≤ 40) && (!(evalCode t.goal s) || xv xs s == 0) && t.deeds.all fun d => (deedDo d s).all fun s' => decide (xv xs s - 1 ≤ xv xs s')
def numsOk (t : TaskD) (xs : List Int) : Bool := taskOk t && decide (xs.length = 32) && (List.range 32).all (numRow t xs)
structure NumsOk (t : TaskD) (xs : List Int) : Prop where
  ok : taskOk t = true
  len : xs.length = 32
  bd : ∀ s, s < 32 → 0 ≤ xv xs s ∧ xv xs s ≤ 40
  goal : ∀ s, s < 32 → evalCode t.goal s = true → xv xs s = 0
  step : ∀ s, s < 32 → ∀ d ∈ t.deeds, ∀ s', deedDo d s = some s' → xv xs s - 1 ≤ xv xs s'
theorem numRow_iff {t : TaskD} {xs : List Int} {s : Nat} : numRow t xs s = true ↔ (0 ≤ xv xs s ∧ xv xs s ≤ 40) ∧ (evalCode t.goal s = true → xv xs s = 0) ∧ ∀ d ∈ t.deeds, ∀ s', deedDo d s = some s' → xv xs s - 1 ≤ xv xs s' := by
  unfold numRow
  simp only [Bool.and_eq_true, decide_eq_true_eq, List.all_eq_true, Bool.or_eq_true, Bool.not_eq_true', beq_iff_eq, and_assoc]
  constructor
  · rintro ⟨h1, h2, h3, h4⟩
    refine ⟨h1, h2, fun hg => ?_, fun d hd s' e => ?_⟩
    · rcases h3 with h3 | h3
      · rw [h3] at hg; cases hg
      · exact h3
    · have := h4 d hd
      rw [e] at this
      simpa using this
  · rintro ⟨h1, h2, h3, h4⟩
    refine ⟨h1, h2, ?_, fun d hd => ?_⟩
    · cases hg : evalCode t.goal s with
      | false => exact .inl rfl
      | true => exact .inr (h3 hg)
    · cases e : deedDo d s with
      | none => rfl
      | some s' => simpa using h4 d hd s' e
theorem numsOk_iff {t : TaskD} {xs : List Int} : numsOk t xs = true ↔ NumsOk t xs := by
  unfold numsOk
  simp only [Bool.and_eq_true, decide_eq_true_eq, List.all_eq_true, List.mem_range, numRow_iff, and_assoc]
  constructor
  · rintro ⟨h1, h2, h3⟩
    exact ⟨h1, h2, fun s hs => ⟨(h3 s hs).1, (h3 s hs).2.1⟩, fun s hs => (h3 s hs).2.2.1, fun s hs => (h3 s hs).2.2.2⟩
  · rintro ⟨h1, h2, h3, h4, h5⟩
    exact ⟨h1, h2, fun s hs => ⟨(h3 s hs).1, (h3 s hs).2, h4 s hs, h5 s hs⟩⟩
/-- -1 turned to the greatest number -/
def up40 (xs : List Int) : List Int := xs.map fun x => if x < 0 then 40 else x
def numsFor (t : TaskD) : List Int := if taskOk t then up40 ((List.range 32).map (stpV t.deeds (evalCode t.goal))) else []
theorem xv_map (f : Nat → Int) {s : Nat} (hs : s < 32) : xv ((List.range 32).map f) s = f s := by
  unfold xv
  rw [List.getD_eq_getElem?_getD, List.getElem?_map, List.getElem?_range hs]; rfl
theorem xv_up (f : Nat → Int) {s : Nat} (hs : s < 32) : xv (up40 ((List.range 32).map f)) s = if f s < 0 then 40 else f s := by
  unfold up40
  rw [List.map_map, xv_map _ hs]; rfl
/-- numbers that never fall by more than one, and are 0 at the goal, prove something -/
theorem nums_up {t : TaskD} (h : taskOk t = true) {f : Nat → Int} (h0 : ∀ s, s < 32 → f s ≤ 40) (hg : ∀ s, s < 32 → evalCode t.goal s = true → f s = 0)
    (hst : ∀ s, s < 32 → ∀ d ∈ t.deeds, ∀ s', deedDo d s = some s' → 0 ≤ f s' → 0 ≤ f s ∧ f s - 1 ≤ f s') : NumsOk t (up40 ((List.range 32).map f)) := by
  have hd := (taskOk_parts t h).2.2.2
  refine ⟨h, by simp [up40], fun s hs => ?_, fun s hs hgs => ?_, fun s hs d hm s' e => ?_⟩
  · rw [xv_up f hs]; have := h0 s hs; split <;> omega
  · rw [xv_up f hs, hg s hs hgs]; rfl
  · have hs' := deedDo_lt d s s' (hd d hm) hs e
    rw [xv_up f hs, xv_up f hs']
    have h1 := h0 s hs
    have h2 := hst s hs d hm s' e
    by_cases hn : f s' < 0
    · rw [if_pos hn]; split <;> omega
    · rw [if_neg hn]
      have := h2 (by omega)
      rw [if_neg (by omega)]; omega
theorem numsFor_ok {t : TaskD} (h : taskOk t = true) : NumsOk t (numsFor t) := by
  have hd := (taskOk_parts t h).2.2.2
  unfold numsFor
  rw [if_pos h]
  refine nums_up h (fun s hs => ?_) (fun s hs hg => stpV_zero.2 hg) (fun s hs d hm s' e h0 => ?_)
  · have := (stpV_le (S := evalCode t.goal) hd hs).2; omega
  · have := stpV_back hd hs hm e h0; omega
theorem nums_zero {t : TaskD} (h : taskOk t = true) : NumsOk t (List.replicate 32 0) := by
  have hx : ∀ s, xv (List.replicate 32 0) s = 0 := fun s => by
    unfold xv
    rw [List.getD_eq_getElem?_getD, List.getElem?_replicate]
    split <;> rfl
  exact ⟨h, rfl, fun s _ => by rw [hx]; omega, fun s _ _ => hx s, fun s _ d _ s' _ => by rw [hx, hx]; omega⟩
/-- the number of the beginning is at most the deeds to a state and its number -/
theorem NumsOk.on {t : TaskD} {xs : List Int} (h : NumsOk t xs) {s0 : Nat} {k : Nat} : ∀ s, fwd t.deeds (only s0) k s = true → xv xs s0 ≤ k + xv xs s := by
  induction k with
  | zero =>
    intro s hs
    have : s0 = s := by simpa [fwd, only] using hs
    subst this; omega
  | succ k ih =>
    intro s hs
    simp only [fwd, Bool.or_eq_true] at hs
    rcases hs with hs | hs
    · have := ih s hs; omega
    · obtain ⟨s', hs', h1, d, hm, e⟩ := fwdP_iff.1 hs
      have h2 := ih s' h1
      have h3 := h.step s' hs' d hm s e
      omega
/-- one must look at s -/
def mustP (t : TaskD) (xs : List Int) (s : Nat) : Bool :=
  decide (0 ≤ dstV t.deeds (only t.start.toNat) s) && (decide (stpV t.deeds (evalCode t.goal) t.start.toNat < 0) && decide (xv xs s < 40) || decide (dstV t.deeds (only t.start.toNat) s + xv xs s < stpV t.deeds (evalCode t.goal) t.start.toNat))
def mustN (t : TaskD) (xs : List Int) : Nat := cnt (mustP t xs) 32
def mustLook (t : TaskD) (xs : List Int) : Int := if numsOk t xs then (mustN t xs : Int) else -1
theorem cnt_none {p : Nat → Bool} {n : Nat} (h : ∀ k, k < n → p k = false) : cnt p n = 0 := by
  rcases Nat.eq_zero_or_pos (cnt p n) with e | e
  · exact e
  · obtain ⟨k, hk, hp⟩ := cnt_pos.1 e
    rw [h k hk] at hp; cases hp
theorem cnt_sub {p q : Nat → Bool} {n : Nat} (h : ∀ k, k < n → p k = true → q k = true) : cnt p n ≤ cnt q n := by
  unfold cnt
  induction n with
  | zero => simp
  | succ n ih =>
    rw [List.range_succ, List.countP_append, List.countP_append]
    have h1 := ih fun k hk => h k (by omega)
    have h2 := h n (by omega)
    simp only [List.countP_singleton]
    cases hp : p n with
    | false => simp; omega
    | true => rw [h2 hp]; omega
theorem must_for {t : TaskD} (h : taskOk t = true) (hp : 0 ≤ stpV t.deeds (evalCode t.goal) t.start.toNat) : mustLook t (numsFor t) = 0 := by
  have hn := numsFor_ok h
  obtain ⟨⟨h0, h1⟩, -⟩ := taskOk_parts t h
  unfold mustLook
  rw [if_pos (numsOk_iff.2 hn)]
  unfold mustN
  rw [cnt_none]
  · rfl
  intro s hs
  unfold mustP
  have hx : xv (numsFor t) t.start.toNat = stpV t.deeds (evalCode t.goal) t.start.toNat := by
    unfold numsFor
    rw [if_pos h, xv_up _ (by omega), if_neg (by omega)]
  cases hd : decide (0 ≤ dstV t.deeds (only t.start.toNat) s) with
  | false => rfl
  | true =>
    have hd := of_decide_eq_true hd
    obtain ⟨k, hk⟩ := Int.eq_ofNat_of_zero_le hd
    have h2 := hn.on s (dstV_fwd hk)
    rw [hx] at h2
    rw [hk]
    have e1 : decide (stpV t.deeds (evalCode t.goal) t.start.toNat < 0) = false := decide_eq_false (by omega)
    have e2 : decide ((k : Int) + xv (numsFor t) s < stpV t.deeds (evalCode t.goal) t.start.toNat) = false := decide_eq_false (by omega)
    rw [e1, e2]; rfl
theorem must_zero {t : TaskD} {xs : List Int} (h : NumsOk t xs) : mustLook t xs ≤ mustLook t (List.replicate 32 0) := by
  unfold mustLook
  rw [if_pos (numsOk_iff.2 h), if_pos (numsOk_iff.2 (nums_zero h.ok))]
  refine Int.ofNat_le.2 (cnt_sub fun s hs hm => ?_)
  have hx := (h.bd s hs).1
  have h0 : xv (List.replicate 32 0) s = 0 := by
    unfold xv
    rw [List.getD_eq_getElem?_getD, List.getElem?_replicate]
    split <;> rfl
  unfold mustP at hm ⊢
  simp only [Bool.and_eq_true, Bool.or_eq_true, decide_eq_true_eq] at hm ⊢
  rw [h0]
  omega
theorem must_nonneg {t : TaskD} {xs : List Int} (h : mustLook t xs < 0) : numsOk t xs = false ∧ mustLook t xs = -1 := by
  unfold mustLook at h ⊢
  cases hn : numsOk t xs with
  | false => exact ⟨rfl, rfl⟩
  | true => rw [hn] at h; simp at h; omega
end Go.Proofs.YtkimgdfcgfhibaaDoor
