/- Joined texts: PermD, ShortP. -/
import Derived.Test.YtadlfffhddpajaaDoorSTDraw2
import Derived.Test.YtadlfffhddpajaaDoorSPerm
import Derived.Test.YtadlfffhddpajaaDoorSRest
import Derived.Test.YtadlfffhddpajaaDoorSSearch
/- l20Perm within a list of things: it draws a row of small numbers. -/
namespace Go.Proofs.YtadlfffhddpajaaDoor
set_option linter.unusedVariables false
set_option linter.unusedSimpArgs false
open Go.ChangeShapes Go.WideShapes Go.ChangeAt Go.RowKit

theorem RdI.dropAt {k : IntKind} {w : World} {B g n c : Nat} {xs : List Int} (h : RdI k w B (some ⟨g, 0, none⟩) n c xs) (m : Nat) (hm : m ≤ n) : RdI k w B (some ⟨g, m, none⟩) (n - m) (c - m) (xs.drop m) := by
  refine ⟨by rw [List.length_drop, h.len], by have := h.cap; omega, by have := h.capMax; omega, fun x hx => h.wf x (List.mem_of_mem_drop hx), fun hp => ?_⟩
  obtain ⟨b, off, e, hb, hc⟩ := h.at_ (by omega)
  simp only [Option.some.injEq, Addr.mk.injEq, and_true] at e
  obtain ⟨rfl, rfl⟩ := e
  refine ⟨_, _, rfl, hb, fun i x hx => ?_⟩
  rw [List.getElem?_drop] at hx
  have := hc (m + i) x hx
  simpa [Nat.zero_add] using this
end Go.Proofs.YtadlfffhddpajaaDoor

/- Plain law: a plan made shorter (planShort): loops left out from the first place to the last; what deeds may be done. No program in sight. -/
namespace Go.Proofs.YtadlfffhddpajaaDoor
set_option linter.unusedVariables false
set_option linter.unusedSimpArgs false

/-- the last place from n down to a whose value is that at a -/
def lastTo (f : Nat → Int) (a : Nat) : Nat → Nat
  | 0 => a
  | n + 1 => if n + 1 ≤ a then a else if f (n + 1) = f a then n + 1 else lastTo f a n
theorem lastTo_same (f : Nat → Int) (a : Nat) : ∀ n, n ≤ a → lastTo f a n = a := fun n h => by
  cases n with
  | zero => rfl
  | succ n => simp [lastTo, h]
theorem lastTo_at (f : Nat → Int) (a : Nat) : ∀ n, a ≤ n → a ≤ lastTo f a n ∧ lastTo f a n ≤ n ∧ f (lastTo f a n) = f a ∧ ∀ j, lastTo f a n < j → j ≤ n → f j ≠ f a := fun n => by
  induction n with
  | zero => intro h; obtain rfl : a = 0 := by omega
            exact ⟨Nat.le_refl _, Nat.le_refl _, rfl, fun j h1 h2 => by unfold lastTo at h1; omega⟩
  | succ n ih =>
    intro h
    unfold lastTo
    by_cases h1 : n + 1 ≤ a
    · rw [if_pos h1]; exact ⟨Nat.le_refl _, h, rfl, fun j h2 h3 => by omega⟩
    · rw [if_neg h1]
      by_cases h2 : f (n + 1) = f a
      · rw [if_pos h2]; exact ⟨h, Nat.le_refl _, h2, fun j h3 h4 => by omega⟩
      · rw [if_neg h2]
        obtain ⟨k1, k2, k3, k4⟩ := ih (by omega)
        refine ⟨k1, by omega, k3, fun j h3 h4 => ?_⟩
        by_cases hj : j = n + 1
        · subst hj; exact h2
        · exact k4 j h3 (by omega)
theorem lastTo_eq {f : Nat → Int} {a n m : Nat} (h1 : a ≤ m) (h2 : m ≤ n) (h3 : f m = f a) (h4 : ∀ j, m < j → j ≤ n → f j ≠ f a) : lastTo f a n = m := by
  obtain ⟨k1, k2, k3, k4⟩ := lastTo_at f a n (by omega)
  rcases Nat.lt_trichotomy (lastTo f a n) m with h | h | h
  · exact absurd h3 (k4 m h h2)
  · exact h
  · exact absurd k3 (h4 _ h k2)
/-- the state behind the first j deeds -/
def prun (t : TaskD) (p : List Int) (j : Nat) : Int := planRun t t.start (p.take j)
/-- one loop left out, at the place a -/
def cutAt (t : TaskD) (p : List Int) (a : Nat) : List Int := p.take a ++ p.drop (lastTo (prun t p) a p.length)
def shortN (t : TaskD) (p : List Int) : Nat → List Int
  | 0 => p
  | n + 1 => cutAt t (shortN t p n) n
def planShort (t : TaskD) (p : List Int) : Option (List Int) := if planRun t t.start p < 0 then none else some (shortN t p 41)

theorem cutAt_past (t : TaskD) (p : List Int) (a : Nat) (h : p.length ≤ a) : cutAt t p a = p := by
  unfold cutAt; rw [lastTo_same _ _ _ h, List.take_append_drop]
theorem cutAt_none (t : TaskD) (p : List Int) (a : Nat) (h : ∀ j, a < j → j ≤ p.length → prun t p j ≠ prun t p a) : cutAt t p a = p := by
  rcases Nat.lt_or_ge p.length a with h1 | h1
  · exact cutAt_past t p a (by omega)
  · unfold cutAt
    rw [lastTo_eq (Nat.le_refl a) h1 rfl h, List.take_append_drop]
theorem cutAt_len (t : TaskD) (p : List Int) (a : Nat) : (cutAt t p a).length ≤ p.length := by
  unfold cutAt
  rcases Nat.lt_or_ge p.length a with h1 | h1
  · rw [lastTo_same _ _ _ (by omega)]; simp
  · have := (lastTo_at (prun t p) a p.length h1).1
    simp; omega
theorem shortN_len (t : TaskD) (p : List Int) (n : Nat) : (shortN t p n).length ≤ p.length := by
  induction n with
  | zero => exact Nat.le_refl _
  | succ n ih => exact Nat.le_trans (cutAt_len ..) ih
theorem prun_len (t : TaskD) (p : List Int) {j : Nat} (h : p.length ≤ j) : prun t p j = planRun t t.start p := by unfold prun; rw [List.take_of_length_le h]
/-- a plan that is done is done in parts -/
theorem planRun_part {t : TaskD} {s : Int} {p : List Int} (h : 0 ≤ planRun t s p) (j : Nat) : 0 ≤ planRun t s (p.take j) ∧ ∀ q, p.length ≤ 40 → q.length + min j p.length ≤ 40 → planRun t s (p.take j ++ q) = planRun t (planRun t s (p.take j)) q := by
  obtain ⟨h1, h2, h3, -⟩ := (planRun_bd t s p).1 h
  have e : planRun t s p = opt (runP t s.toNat p) := if_pos ⟨h1, h2, h3⟩
  rw [e] at h
  obtain ⟨z, hz⟩ := opt_nonneg.1 h
  have hz' := hz
  rw [← List.take_append_drop j p, runP_append] at hz
  obtain ⟨y, hy, hz⟩ := Option.bind_eq_some_iff.1 hz
  have ej : planRun t s (p.take j) = (y : Nat) := by
    unfold planRun
    rw [if_pos ⟨h1, h2, by simp; omega⟩, hy]; rfl
  have hs := (stIn_iff _).1 h2
  have hy32 : y < 32 := runP_lt t _ _ y h1 (by omega) hy
  refine ⟨by rw [ej]; omega, fun q hp hq => ?_⟩
  rw [ej]
  unfold planRun
  rw [if_pos ⟨h1, h2, by simp; omega⟩, if_pos ⟨h1, (stIn_iff _).2 (by omega), by omega⟩, runP_append, hy]
  rfl
/-- with a loop left out the same states come behind it -/
theorem prun_cut {t : TaskD} {p : List Int} (h : 0 ≤ planRun t t.start p) {a m : Nat} (ham : a ≤ m) (hm : m ≤ p.length) (e : prun t p m = prun t p a) : ∀ j, prun t (p.take a ++ p.drop m) j = if j ≤ a then prun t p j else prun t p (j - a + m) := fun j => by
  obtain ⟨h1, h2, h3, -⟩ := (planRun_bd t t.start p).1 h
  by_cases hj : j ≤ a
  · rw [if_pos hj]
    unfold prun
    rw [List.take_append_of_le_length (by simp; omega), List.take_take, Nat.min_eq_left hj]
  · rw [if_neg hj]
    have hl : (p.take a).length = a := by simp; omega
    have e1 : (p.take a ++ p.drop m).take j = p.take a ++ (p.drop m).take (j - a) := by
      rw [List.take_append, hl, List.take_of_length_le (by omega)]
    have e2 : p.take (j - a + m) = p.take m ++ (p.drop m).take (j - a) := by
      rw [Nat.add_comm, List.take_add]
    unfold prun at e ⊢
    have hql : ((p.drop m).take (j - a)).length ≤ p.length - m := by simp; omega
    rw [e1, e2, (planRun_part h a).2 _ (by omega) (by omega), (planRun_part h m).2 _ (by omega) (by omega), e]
theorem cutAt_run {t : TaskD} {p : List Int} (h : 0 ≤ planRun t t.start p) (a : Nat) : planRun t t.start (cutAt t p a) = planRun t t.start p := by
  rcases Nat.lt_or_ge p.length a with h1 | h1
  · rw [cutAt_past t p a (by omega)]
  · obtain ⟨k1, k2, k3, k4⟩ := lastTo_at (prun t p) a p.length h1
    have := prun_cut h k1 k2 k3 (cutAt t p a).length
    rw [show p.take a ++ p.drop (lastTo (prun t p) a p.length) = cutAt t p a from rfl, prun_len t _ (Nat.le_refl _)] at this
    rw [this]
    have hl : (cutAt t p a).length = a + (p.length - lastTo (prun t p) a p.length) := by unfold cutAt; simp; omega
    by_cases hj : (cutAt t p a).length ≤ a
    · rw [if_pos hj, show (cutAt t p a).length = a by omega, ← k3, show lastTo (prun t p) a p.length = p.length by omega, prun_len t p (Nat.le_refl _)]
    · rw [if_neg hj, hl, prun_len t p (by omega)]
theorem shortN_run {t : TaskD} {p : List Int} (h : 0 ≤ planRun t t.start p) (n : Nat) : planRun t t.start (shortN t p n) = planRun t t.start p := by
  induction n with
  | zero => rfl
  | succ n ih => exact (cutAt_run (by rw [ih]; exact h) n).trans ih
/-- the places ahead of a are left for good -/
def cleanTo (t : TaskD) (p : List Int) (a : Nat) : Prop := ∀ i, i < a → ∀ j, i < j → j ≤ p.length → prun t p j ≠ prun t p i
/-! ### what may be done -/
def mayN (ds : List DeedD) (s : Nat) (n : Nat) : List Int := ((List.range n).filter fun k => ((ds[k]?).bind (deedDo · s)).isSome).map fun k => ((k : Nat) : Int)
def deedsMay (t : TaskD) (s : Int) : List Int := if taskOk t && stIn s then mayN t.deeds s.toNat t.deeds.length else []
theorem mayN_succ (ds : List DeedD) (s n : Nat) : mayN ds s (n + 1) = mayN ds s n ++ (if ((ds[n]?).bind (deedDo · s)).isSome then [((n : Nat) : Int)] else []) := by
  unfold mayN
  rw [List.range_succ, List.filter_append, List.map_append]
  congr 1
  by_cases h : ((ds[n]?).bind (deedDo · s)).isSome = true
  · rw [if_pos h, List.filter_cons_of_pos (by exact h)]; rfl
  · rw [if_neg h, List.filter_cons_of_neg (by exact h)]; rfl
theorem mayN_mem {ds : List DeedD} {s n : Nat} {x : Int} : x ∈ mayN ds s n ↔ ∃ k : Nat, x = (k : Int) ∧ k < n ∧ ∃ s', (ds[k]?).bind (deedDo · s) = some s' := by
  unfold mayN
  simp only [List.mem_map, List.mem_filter, List.mem_range, Option.isSome_iff_exists]
  constructor
  · rintro ⟨k, ⟨h1, h2⟩, rfl⟩; exact ⟨k, rfl, h1, h2⟩
  · rintro ⟨k, rfl, h1, h2⟩; exact ⟨k, ⟨h1, h2⟩, rfl⟩
theorem mayN_len (ds : List DeedD) (s n : Nat) : (mayN ds s n).length ≤ n := by
  unfold mayN
  rw [List.length_map]
  exact Nat.le_trans (List.length_filter_le ..) (by simp)
theorem deedsMay_len (t : TaskD) (s : Int) : (deedsMay t s).length ≤ 6 := by
  unfold deedsMay
  split
  · next h =>
    simp only [Bool.and_eq_true] at h
    exact Nat.le_trans (mayN_len ..) (taskOk_parts t h.1).2.2.1
  · simp
theorem deedsMay_step {t : TaskD} {s x : Int} (h : x ∈ deedsMay t s) : ∃ s', stepP t s.toNat x = some s' := by
  unfold deedsMay at h
  split at h
  · obtain ⟨k, rfl, h1, s', h2⟩ := mayN_mem.1 h
    exact ⟨s', by unfold stepP; rw [if_pos ⟨by omega, by omega⟩, Int.toNat_natCast]; exact h2⟩
  · cases h
theorem deedsMay_bd {t : TaskD} {s x : Int} (h : x ∈ deedsMay t s) : 0 ≤ x ∧ x < 6 := by
  have h0 := h
  unfold deedsMay at h
  split at h
  · next hh =>
    simp only [Bool.and_eq_true] at hh
    have := (taskOk_parts t hh.1).2.2.1
    obtain ⟨k, rfl, h1, -⟩ := mayN_mem.1 h
    omega
  · cases h
end Go.Proofs.YtadlfffhddpajaaDoor
