/- Plain law of LookFor: the search that looks each time at the state with the least sum finds a shortest way; it looks at all states at which one must look. No program in sight. -/
import Derived.Test.YtkimgdfcgfhibaaDoorSFrom
namespace Go.Proofs.YtkimgdfcgfhibaaDoor
set_option linter.unusedVariables false
set_option linter.unusedSimpArgs false

/-- a search: what is reached, what was looked at, the deeds to each -/
structure LS where
  R : Nat → Bool
  K : Nat → Bool
  g : Nat → Int
def updB (f : Nat → Bool) (x : Nat) : Nat → Bool := fun i => if i = x then true else f i
def updI (f : Nat → Int) (x : Nat) (v : Int) : Nat → Int := fun i => if i = x then v else f i
/-- k comes ahead of b -/
def ahead (h : Nat → Int) (g : Nat → Int) (k b : Nat) : Bool := decide (g k + h k < g b + h b) || (decide (g k + h k = g b + h b) && decide (h k < h b))
/-- the best of the states below n -/
def bestN (h : Nat → Int) (st : LS) : Nat → Option Nat
  | 0 => none
  | n + 1 => if st.R n && !st.K n then (match bestN h st n with | none => some n | some b => if ahead h st.g n b then some n else some b) else bestN h st n
/-- one deed from b -/
def look1 (b : Nat) (st : LS) (d : DeedD) : LS :=
  match deedDo d b with
  | none => st
  | some x => if !st.R x || decide (st.g b + 1 < st.g x) then ⟨updB st.R x, st.K, updI st.g x (st.g b + 1)⟩ else st
def lookS (ds : List DeedD) (b : Nat) (st : LS) : LS := ds.foldl (look1 b) ⟨st.R, updB st.K b, st.g⟩
def lookGo (ds : List DeedD) (goal : Nat → Bool) (h : Nat → Int) : Nat → Nat → LS → Int × Nat
  | 0, n, _ => (-1, n)
  | f + 1, n, st => match bestN h st 32 with
    | none => (-1, n)
    | some b => if goal b then (st.g b, n + 1) else lookGo ds goal h f (n + 1) (lookS ds b st)
def look0 (s0 : Nat) : LS := ⟨only s0, fun _ => false, fun _ => 0⟩
def lookFor (t : TaskD) (xs : List Int) : Int × Nat := if numsOk t xs then lookGo t.deeds (evalCode t.goal) (xv xs) 33 0 (look0 t.start.toNat) else (-1, 0)

theorem bestN_none {h : Nat → Int} {st : LS} {n : Nat} (e : bestN h st n = none) : ∀ k, k < n → st.R k = true → st.K k = true := by
  induction n with
  | zero => intro k hk; omega
  | succ n ih =>
    simp only [bestN] at e
    split at e
    · split at e
      · cases e
      · split at e <;> cases e
    · next hn =>
      intro k hk hR
      rcases Nat.lt_or_ge k n with h1 | h1
      · exact ih e k h1 hR
      · obtain rfl : k = n := by omega
        cases hK : st.K k with
        | true => rfl
        | false => rw [hR, hK] at hn; exact absurd rfl hn
theorem bestN_some {h : Nat → Int} {st : LS} {n b : Nat} (e : bestN h st n = some b) : b < n ∧ st.R b = true ∧ st.K b = false ∧ ∀ k, k < n → st.R k = true → st.K k = false → st.g b + h b ≤ st.g k + h k := by
  induction n generalizing b with
  | zero => cases e
  | succ n ih =>
    simp only [bestN] at e
    split at e
    · next hn =>
      simp only [Bool.and_eq_true, Bool.not_eq_true'] at hn
      split at e
      · next hb =>
        injection e with e
        subst e
        refine ⟨by omega, hn.1, hn.2, fun k hk hR hK => ?_⟩
        rcases Nat.lt_or_ge k n with h1 | h1
        · rw [bestN_none hb k h1 hR] at hK; cases hK
        · obtain rfl : k = n := by omega
          omega
      · next c hc =>
        obtain ⟨i1, i2, i3, i4⟩ := ih hc
        split at e
        · next ha =>
          injection e with e
          subst e
          unfold ahead at ha
          simp only [Bool.or_eq_true, Bool.and_eq_true, decide_eq_true_eq] at ha
          refine ⟨by omega, hn.1, hn.2, fun k hk hR hK => ?_⟩
          rcases Nat.lt_or_ge k n with h1 | h1
          · have := i4 k h1 hR hK; omega
          · obtain rfl : k = n := by omega
            omega
        · next ha =>
          injection e with e
          subst e
          unfold ahead at ha
          simp only [Bool.or_eq_true, Bool.and_eq_true, decide_eq_true_eq, not_or] at ha
          refine ⟨by omega, i2, i3, fun k hk hR hK => ?_⟩
          rcases Nat.lt_or_ge k n with h1 | h1
          · exact i4 k h1 hR hK
          · obtain rfl : k = n := by omega
            omega
    · next hn =>
      obtain ⟨i1, i2, i3, i4⟩ := ih e
      refine ⟨by omega, i2, i3, fun k hk hR hK => ?_⟩
      rcases Nat.lt_or_ge k n with h1 | h1
      · exact i4 k h1 hR hK
      · obtain rfl : k = n := by omega
        rw [hR, hK] at hn; exact absurd rfl hn
section
variable {ds : List DeedD} {s0 : Nat} {S : Nat → Bool}
theorem dstV_prev (hd : ∀ d ∈ ds, deedOk d = true) (h0 : s0 < 32) {s k : Nat} (hs : s < 32) (h : dstV ds (only s0) s = ((k + 1 : Nat) : Int)) : ∃ p, p < 32 ∧ dstV ds (only s0) p = (k : Int) ∧ ∃ d ∈ ds, deedDo d p = some s := by
  have h1 := dstV_fwd h
  have hk : k + 1 ≤ 32 := by have := (dstV_le (ds := ds) (S := only s0) hs).2; omega
  simp only [fwd, Bool.or_eq_true] at h1
  rcases h1 with h1 | h1
  · have := dstV_of hs h1 (by omega); omega
  · obtain ⟨p, hp, h2, d, hm, e⟩ := fwdP_iff.1 h1
    have h3 := dstV_of hp h2 (by omega)
    have h4 := dstV_step hd hp hm e h3.1
    exact ⟨p, hp, by omega, d, hm, e⟩
theorem dstV_start (h0 : s0 < 32) : dstV ds (only s0) s0 = 0 := by
  have : fwd ds (only s0) 0 s0 = true := by simp [fwd, only]
  have := dstV_of h0 this (by omega); omega
theorem dstV_zero {s : Nat} (h : dstV ds (only s0) s = 0) : s = s0 := by
  have := dstV_fwd (k := 0) h
  have : s0 = s := by simpa [fwd, only] using this
  exact this.symm
/-- what holds of a search all the while -/
structure LInv (ds : List DeedD) (S : Nat → Bool) (s0 : Nat) (st : LS) : Prop where
  start : st.R s0 = true ∧ st.g s0 = 0
  lt : ∀ s, st.R s = true → s < 32
  low : ∀ s, st.R s = true → 0 ≤ dstV ds (only s0) s ∧ dstV ds (only s0) s ≤ st.g s
  done : ∀ s, st.K s = true → st.R s = true ∧ st.g s = dstV ds (only s0) s ∧ S s = false
  next : ∀ s, st.K s = true → ∀ d ∈ ds, ∀ x, deedDo d s = some x → st.R x = true ∧ st.g x ≤ dstV ds (only s0) s + 1
theorem LInv.zero (h0 : s0 < 32) : LInv ds S s0 (look0 s0) := by
  refine ⟨⟨by simp [look0, only], rfl⟩, fun s h => ?_, fun s h => ?_, (fun s h => by cases h), (fun s h => by cases h)⟩
  · have : s0 = s := by simpa [look0, only] using h
    omega
  · have : s0 = s := by simpa [look0, only] using h
    subst this
    rw [dstV_start h0]; exact ⟨by omega, Int.le_refl _⟩
variable {st : LS} {h : Nat → Int}
/-- on the way to s there is one that is reached as it ought to be, and not looked at -/
theorem LInv.way (I : LInv ds S s0 st) (hd : ∀ d ∈ ds, deedOk d = true) (h0 : s0 < 32) (hh : ∀ s, s < 32 → ∀ d ∈ ds, ∀ x, deedDo d s = some x → h s - 1 ≤ h x) :
    ∀ (k s : Nat), s < 32 → dstV ds (only s0) s = (k : Int) → st.K s = false → ∃ y, y < 32 ∧ st.R y = true ∧ st.K y = false ∧ st.g y = dstV ds (only s0) y ∧ dstV ds (only s0) y + h y ≤ k + h s := by
  intro k
  induction k with
  | zero =>
    intro s hs hk hK
    have : s = s0 := dstV_zero (by simpa using hk)
    subst this
    exact ⟨s, hs, I.start.1, hK, by rw [I.start.2, hk]; rfl, by rw [hk]; omega⟩
  | succ k ih =>
    intro s hs hk hK
    obtain ⟨p, hp, hpk, d, hm, e⟩ := dstV_prev hd h0 hs hk
    cases hKp : st.K p with
    | true =>
      obtain ⟨h1, h2⟩ := I.next p hKp d hm s e
      have h3 := (I.low s h1).2
      exact ⟨s, hs, h1, hK, by omega, by omega⟩
    | false =>
      obtain ⟨y, h1, h2, h3, h4, h5⟩ := ih p hp hpk hKp
      have := hh p hp d hm s e
      exact ⟨y, h1, h2, h3, h4, by omega⟩
theorem LInv.best (I : LInv ds S s0 st) (hd : ∀ d ∈ ds, deedOk d = true) (h0 : s0 < 32) (hh : ∀ s, s < 32 → ∀ d ∈ ds, ∀ x, deedDo d s = some x → h s - 1 ≤ h x) {b : Nat} (e : bestN h st 32 = some b) :
    b < 32 ∧ st.R b = true ∧ st.K b = false ∧ st.g b = dstV ds (only s0) b ∧ ∀ s, s < 32 → 0 ≤ dstV ds (only s0) s → st.K s = false → dstV ds (only s0) b + h b ≤ dstV ds (only s0) s + h s := by
  obtain ⟨h1, h2, h3, h4⟩ := bestN_some e
  have hl := I.low b h2
  have key : ∀ s, s < 32 → 0 ≤ dstV ds (only s0) s → st.K s = false → st.g b + h b ≤ dstV ds (only s0) s + h s := fun s hs hs0 hK => by
    obtain ⟨k, hk⟩ := Int.eq_ofNat_of_zero_le hs0
    obtain ⟨y, y1, y2, y3, y4, y5⟩ := I.way hd h0 hh k s hs hk hK
    have := h4 y y1 y2 y3
    omega
  have hg : st.g b = dstV ds (only s0) b := by
    have := key b h1 hl.1 h3; omega
  exact ⟨h1, h2, h3, hg, fun s hs hs0 hK => by rw [← hg]; exact key s hs hs0 hK⟩
/-- looking at b, deed by deed -/
theorem look1_inv (hd : ∀ d ∈ ds, deedOk d = true) {b : Nat} (hb : b < 32) (I1 : st.R s0 = true ∧ st.g s0 = 0) (I2 : ∀ s, st.R s = true → s < 32) (I3 : ∀ s, st.R s = true → 0 ≤ dstV ds (only s0) s ∧ dstV ds (only s0) s ≤ st.g s)
    (I4 : ∀ s, st.K s = true → st.R s = true ∧ st.g s = dstV ds (only s0) s) (hK : st.K b = true) {d : DeedD} (hm : d ∈ ds) :
    ((look1 b st d).R s0 = true ∧ (look1 b st d).g s0 = 0) ∧ (∀ s, (look1 b st d).R s = true → s < 32) ∧ (∀ s, (look1 b st d).R s = true → 0 ≤ dstV ds (only s0) s ∧ dstV ds (only s0) s ≤ (look1 b st d).g s) ∧
    (∀ s, (look1 b st d).K s = true → (look1 b st d).R s = true ∧ (look1 b st d).g s = dstV ds (only s0) s) ∧ (look1 b st d).K = st.K ∧
    (∀ s, st.R s = true → (look1 b st d).R s = true ∧ (look1 b st d).g s ≤ st.g s) ∧ ∀ x, deedDo d b = some x → (look1 b st d).R x = true ∧ (look1 b st d).g x ≤ dstV ds (only s0) b + 1 := by
  have hgb := (I4 b hK).2
  have hRb := (I4 b hK).1
  have hb0 := (I3 b hRb).1
  unfold look1
  cases e : deedDo d b with
  | none => exact ⟨I1, I2, I3, I4, rfl, fun s hs => ⟨hs, Int.le_refl _⟩, fun x hx => by cases hx⟩
  | some x =>
    have hx32 := deedDo_lt d b x (hd d hm) hb e
    have hst := dstV_step hd hb hm e hb0
    simp only []
    split
    · next hc =>
      simp only [Bool.or_eq_true, Bool.not_eq_true', decide_eq_true_eq] at hc
      have hxs : st.R x = true → st.g b + 1 < st.g x := fun h => by
        rcases hc with hc | hc
        · rw [h] at hc; cases hc
        · exact hc
      have hne0 : x ≠ s0 := fun e0 => by
        subst e0
        have := hxs I1.1
        have := I1.2
        omega
      have hRx : ∀ s, updB st.R x s = true → s = x ∨ st.R s = true := fun s h => by
        unfold updB at h
        split at h
        · next h1 => exact .inl h1
        · exact .inr h
      have hup : ∀ s, st.R s = true → updB st.R x s = true := fun s h => by unfold updB; split <;> simp [h]
      refine ⟨⟨hup s0 I1.1, (if_neg (fun h => hne0 h.symm)).trans I1.2⟩, fun s h => ?_, fun s h => ?_, fun s h => ?_, rfl, fun s h => ⟨hup s h, ?_⟩, fun y hy => ?_⟩
      · rcases hRx s h with h1 | h1
        · omega
        · exact I2 s h1
      · by_cases h1 : s = x
        · subst h1
          simp only [updI, if_true]
          rw [hgb]
          exact hst
        · simp only [updI, if_neg h1]
          rcases hRx s h with h2 | h2
          · exact absurd h2 h1
          · exact I3 s h2
      · have h4 := I4 s h
        refine ⟨hup s h4.1, ?_⟩
        by_cases h1 : s = x
        · subst h1
          have := hxs h4.1
          omega
        · simp only [updI, if_neg h1]; exact h4.2
      · by_cases h1 : s = x
        · subst h1
          simp only [updI, if_true]
          have := hxs h
          omega
        · simp only [updI, if_neg h1]; exact Int.le_refl _
      · injection hy with hy
        subst hy
        exact ⟨by simp [updB], by simp only [updI, if_true]; omega⟩
    · next hc =>
      simp only [Bool.or_eq_true, Bool.not_eq_true', decide_eq_true_eq, not_or] at hc
      refine ⟨I1, I2, I3, I4, rfl, fun s hs => ⟨hs, Int.le_refl _⟩, fun y hy => ?_⟩
      injection hy with hy
      subst hy
      have hR : st.R x = true := by simpa using hc.1
      exact ⟨hR, by omega⟩
theorem lookS_fold (hd : ∀ d ∈ ds, deedOk d = true) {b : Nat} (hb : b < 32) : ∀ (es : List DeedD) (st : LS), (∀ d ∈ es, d ∈ ds) → (st.R s0 = true ∧ st.g s0 = 0) → (∀ s, st.R s = true → s < 32) → (∀ s, st.R s = true → 0 ≤ dstV ds (only s0) s ∧ dstV ds (only s0) s ≤ st.g s) →
    (∀ s, st.K s = true → st.R s = true ∧ st.g s = dstV ds (only s0) s) → st.K b = true →
    ((es.foldl (look1 b) st).R s0 = true ∧ (es.foldl (look1 b) st).g s0 = 0) ∧ (∀ s, (es.foldl (look1 b) st).R s = true → s < 32) ∧ (∀ s, (es.foldl (look1 b) st).R s = true → 0 ≤ dstV ds (only s0) s ∧ dstV ds (only s0) s ≤ (es.foldl (look1 b) st).g s) ∧
    (∀ s, (es.foldl (look1 b) st).K s = true → (es.foldl (look1 b) st).R s = true ∧ (es.foldl (look1 b) st).g s = dstV ds (only s0) s) ∧ (es.foldl (look1 b) st).K = st.K ∧
    (∀ s, st.R s = true → (es.foldl (look1 b) st).R s = true ∧ (es.foldl (look1 b) st).g s ≤ st.g s) ∧ ∀ d ∈ es, ∀ x, deedDo d b = some x → (es.foldl (look1 b) st).R x = true ∧ (es.foldl (look1 b) st).g x ≤ dstV ds (only s0) b + 1 := by
  intro es
  induction es with
  | nil => intro st _ h1 h2 h3 h4 _; exact ⟨h1, h2, h3, h4, rfl, fun s hs => ⟨hs, Int.le_refl _⟩, fun d h => by cases h⟩
  | cons d es ih =>
    intro st hes h1 h2 h3 h4 hK
    obtain ⟨a1, a2, a3, a4, a5, a6, a7⟩ := look1_inv hd hb h1 h2 h3 h4 hK (hes d (by simp))
    obtain ⟨b1, b2, b3, b4, b5, b6, b7⟩ := ih (look1 b st d) (fun x hx => hes x (by simp [hx])) a1 a2 a3 a4 (by rw [a5]; exact hK)
    refine ⟨b1, b2, b3, b4, b5.trans a5, fun s hs => ?_, fun c hc x hx => ?_⟩
    · obtain ⟨c1, c2⟩ := a6 s hs
      obtain ⟨d1, d2⟩ := b6 s c1
      exact ⟨d1, Int.le_trans d2 c2⟩
    · rcases List.mem_cons.1 hc with rfl | hc
      · obtain ⟨c1, c2⟩ := a7 x hx
        obtain ⟨d1, d2⟩ := b6 x c1
        exact ⟨d1, Int.le_trans d2 c2⟩
      · exact b7 c hc x hx
theorem LInv.look (I : LInv ds S s0 st) (hd : ∀ d ∈ ds, deedOk d = true) {b : Nat} (hb : b < 32) (hR : st.R b = true) (hg : st.g b = dstV ds (only s0) b) (hS : S b = false) : LInv ds S s0 (lookS ds b st) ∧ (lookS ds b st).K = updB st.K b := by
  have hkk : ∀ s, updB st.K b s = true → s = b ∨ st.K s = true := fun s h => by
    unfold updB at h
    split at h
    · next h1 => exact .inl h1
    · exact .inr h
  obtain ⟨b1, b2, b3, b4, b5, b6, b7⟩ := lookS_fold (s0 := s0) hd hb ds ⟨st.R, updB st.K b, st.g⟩ (fun d h => h) I.start I.lt I.low (fun s hs => by
    rcases hkk s hs with h1 | h1
    · subst h1; exact ⟨hR, hg⟩
    · exact ⟨(I.done s h1).1, (I.done s h1).2.1⟩) (by simp [updB])
  have hK : (lookS ds b st).K = updB st.K b := b5
  refine ⟨⟨b1, b2, b3, fun s hs => ⟨(b4 s hs).1, (b4 s hs).2, ?_⟩, fun s hs d hm x e => ?_⟩, hK⟩
  · rw [hK] at hs
    rcases hkk s hs with h1 | h1
    · subst h1; exact hS
    · exact (I.done s h1).2.2
  · rw [hK] at hs
    rcases hkk s hs with h1 | h1
    · subst h1; exact b7 d hm x e
    · obtain ⟨c1, c2⟩ := I.next s h1 d hm x e
      obtain ⟨d1, d2⟩ := b6 x c1
      exact ⟨d1, Int.le_trans d2 c2⟩
end
theorem cnt_updB {p : Nat → Bool} {b n : Nat} (hb : b < n) (h : p b = false) : cnt (updB p b) n = cnt p n + 1 := by
  induction n with
  | zero => omega
  | succ n ih =>
    unfold cnt at ih ⊢
    rw [List.range_succ, List.countP_append, List.countP_append]
    simp only [List.countP_singleton]
    by_cases e : b = n
    · subst e
      have : List.countP (updB p b) (List.range b) = List.countP p (List.range b) := by
        refine List.countP_congr fun x hx => ?_
        have : x ≠ b := by have := List.mem_range.1 hx; omega
        simp [updB, this]
      rw [this, h]
      simp [updB]
    · rw [ih (by omega)]
      have : updB p b n = p n := by simp [updB, show n ≠ b by omega]
      rw [this]; omega
/-- what the search finds -/
theorem lookGo_ok {t : TaskD} {xs : List Int} (hN : NumsOk t xs) : ∀ (f n : Nat) (st : LS), LInv t.deeds (evalCode t.goal) t.start.toNat st → cnt st.K 32 = n → 33 ≤ f + n →
    (lookGo t.deeds (evalCode t.goal) (xv xs) f n st).1 = stpV t.deeds (evalCode t.goal) t.start.toNat ∧ mustN t xs ≤ (lookGo t.deeds (evalCode t.goal) (xv xs) f n st).2 ∧ 1 ≤ (lookGo t.deeds (evalCode t.goal) (xv xs) f n st).2 ∧
    (lookGo t.deeds (evalCode t.goal) (xv xs) f n st).2 ≤ cnt (fun s => decide (0 ≤ dstV t.deeds (only t.start.toNat) s)) 32 := by
  obtain ⟨⟨hs0, hs1⟩, -, -, hd⟩ := taskOk_parts t hN.ok
  have h0 : t.start.toNat < 32 := by omega
  have hh : ∀ s, s < 32 → ∀ d ∈ t.deeds, ∀ x, deedDo d s = some x → xv xs s - 1 ≤ xv xs x := fun s hs d hm x e => hN.step s hs d hm x e
  -- a goal at q deeds: the least number is at most q
  have goalLe : ∀ q, q < 32 → evalCode t.goal q = true → 0 ≤ dstV t.deeds (only t.start.toNat) q → 0 ≤ stpV t.deeds (evalCode t.goal) t.start.toNat ∧ stpV t.deeds (evalCode t.goal) t.start.toNat ≤ dstV t.deeds (only t.start.toNat) q := by
    intro q hq hg h1
    obtain ⟨k, hk⟩ := Int.eq_ofNat_of_zero_le h1
    have hk32 : k ≤ 32 := by have := (dstV_le (ds := t.deeds) (S := only t.start.toNat) hq).2; omega
    have h2 := fwd_layer (evalCode t.goal) q (dstV_fwd hk) hg
    have h3 : layer t.deeds (evalCode t.goal) 32 t.start.toNat = true := layer_mono hk32 h2
    have h4 : 0 ≤ stpV t.deeds (evalCode t.goal) t.start.toNat := stpN_nonneg.2 h3
    obtain ⟨L, hL⟩ := Int.eq_ofNat_of_zero_le h4
    have := dst_goal hL hg (dstV_fwd hk) hk32
    exact ⟨h4, by rw [hL, hk]; omega⟩
  -- and there is one at just that many
  have goalAt : 0 ≤ stpV t.deeds (evalCode t.goal) t.start.toNat → ∃ q, q < 32 ∧ evalCode t.goal q = true ∧ 0 ≤ dstV t.deeds (only t.start.toNat) q ∧ dstV t.deeds (only t.start.toNat) q ≤ stpV t.deeds (evalCode t.goal) t.start.toNat := by
    intro h1
    obtain ⟨L, hL⟩ := Int.eq_ofNat_of_zero_le h1
    have hL31 := (stpV_le (S := evalCode t.goal) hd h0).2
    have key : ∀ (k : Nat) (s : Nat), s < 32 → stpV t.deeds (evalCode t.goal) s = (k : Int) → ∀ m, fwd t.deeds (only t.start.toNat) m s = true → ∃ q, q < 32 ∧ evalCode t.goal q = true ∧ fwd t.deeds (only t.start.toNat) (m + k) q = true := by
      intro k
      induction k with
      | zero => intro s hs h2 m hm; exact ⟨s, hs, stpV_zero.1 h2, hm⟩
      | succ k ih =>
        intro s hs h2 m hm
        obtain ⟨d, hdm, s', e, hs', h3⟩ := stpV_next hd hs h2
        obtain ⟨q, a, b, c⟩ := ih s' hs' h3 (m + 1) (by
          have : fwdP t.deeds (fwd t.deeds (only t.start.toNat) m) s' = true := fwdP_iff.2 ⟨s, hs, hm, d, hdm, e⟩
          simp [fwd, this])
        exact ⟨q, a, b, by rw [show m + (k + 1) = m + 1 + k by omega]; exact c⟩
    obtain ⟨q, a, b, c⟩ := key L t.start.toNat h0 hL 0 (by simp [fwd, only])
    have := dstV_of a c (by omega)
    exact ⟨q, a, b, this.1, by rw [hL]; omega⟩
  intro f
  induction f with
  | zero =>
    intro n st I hn hf
    have := cnt_le st.K 32
    omega
  | succ f ih =>
    intro n st I hn hf
    simp only [lookGo]
    cases hb : bestN (xv xs) st 32 with
    | none =>
      have hall := bestN_none hb
      have hKall : ∀ s, s < 32 → 0 ≤ dstV t.deeds (only t.start.toNat) s → st.K s = true := fun s hs h1 => by
        cases hK : st.K s with
        | true => rfl
        | false =>
          obtain ⟨k, hk⟩ := Int.eq_ofNat_of_zero_le h1
          obtain ⟨y, y1, y2, y3, -⟩ := I.way hd h0 hh k s hs hk hK
          rw [hall y y1 y2] at y3; cases y3
      simp only []
      refine ⟨?_, ?_, ?_, ?_⟩
      · rcases Int.lt_or_le (stpV t.deeds (evalCode t.goal) t.start.toNat) 0 with h1 | h1
        · have := (stpV_le (S := evalCode t.goal) hd h0).1; omega
        · obtain ⟨q, a, b, c, -⟩ := goalAt h1
          rw [(I.done q (hKall q a c)).2.2] at b; cases b
      · rw [← hn]
        refine cnt_sub fun s hs hm => hKall s hs ?_
        unfold mustP at hm
        simp only [Bool.and_eq_true, decide_eq_true_eq] at hm
        exact hm.1
      · rw [← hn]
        exact cnt_pos.2 ⟨t.start.toNat, h0, hKall _ h0 (by rw [dstV_start h0]; exact Int.le_refl _)⟩
      · rw [← hn]
        exact cnt_sub fun s hs hK => decide_eq_true (I.low s (I.done s hK).1).1
    | some b =>
      obtain ⟨b1, b2, b3, b4, b5⟩ := I.best hd h0 hh hb
      have hbd := (I.low b b2).1
      simp only []
      cases hg : evalCode t.goal b with
      | true =>
        rw [if_pos rfl]
        have hx0 := hN.goal b b1 hg
        obtain ⟨g1, g2⟩ := goalLe b b1 hg hbd
        obtain ⟨q, q1, q2, q3, q4⟩ := goalAt g1
        have hKq : st.K q = false := by
          cases hK : st.K q with
          | false => rfl
          | true => rw [(I.done q hK).2.2] at q2; cases q2
        have h5 := b5 q q1 q3 hKq
        have hxq := hN.goal q q1 q2
        have heq : st.g b = stpV t.deeds (evalCode t.goal) t.start.toNat := by rw [b4]; omega
        have hnK : n + 1 ≤ cnt (fun s => decide (0 ≤ dstV t.deeds (only t.start.toNat) s)) 32 := by
          rw [← hn]
          exact cnt_lt (fun s hs hK => decide_eq_true (I.low s (I.done s hK).1).1) b1 b3 (decide_eq_true hbd)
        refine ⟨heq, ?_, by simp only []; omega, hnK⟩
        simp only []
        refine Nat.le_trans (?_ : mustN t xs ≤ n) (by omega)
        rw [← hn]
        refine cnt_sub fun s hs hm => ?_
        unfold mustP at hm
        simp only [Bool.and_eq_true, Bool.or_eq_true, decide_eq_true_eq] at hm
        cases hK : st.K s with
        | true => rfl
        | false =>
          have := b5 s hs hm.1 hK
          omega
      | false =>
        rw [if_neg (by simp)]
        obtain ⟨I', hK'⟩ := I.look hd b1 b2 b4 hg
        exact ih (n + 1) (lookS t.deeds b st) I' (by rw [hK', cnt_updB b1 b3, hn]) (by omega)
theorem lookFor_ok {t : TaskD} {xs : List Int} (h : numsOk t xs = true) : (lookFor t xs).1 = stpV t.deeds (evalCode t.goal) t.start.toNat ∧ mustLook t xs ≤ ((lookFor t xs).2 : Int) ∧ 1 ≤ (lookFor t xs).2 ∧ (lookFor t xs).2 ≤ cnt (fun s => decide (0 ≤ dstV t.deeds (only t.start.toNat) s)) 32 := by
  have hN := numsOk_iff.1 h
  obtain ⟨⟨hs0, hs1⟩, -⟩ := taskOk_parts t hN.ok
  have := lookGo_ok hN 33 0 (look0 t.start.toNat) (LInv.zero (by omega)) (cnt_none fun k _ => rfl) (by omega)
  unfold lookFor mustLook
  rw [if_pos h, if_pos h]
  exact ⟨this.1, Int.ofNat_le.2 this.2.1, this.2.2⟩
end Go.Proofs.YtkimgdfcgfhibaaDoor
