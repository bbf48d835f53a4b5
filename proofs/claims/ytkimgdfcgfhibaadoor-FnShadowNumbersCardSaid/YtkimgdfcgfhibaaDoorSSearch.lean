/- Plain law: the search backward, layer by layer: least steps, and a plan by them; no program in sight. -/
import Derived.Test.YtkimgdfcgfhibaaDoorSPlan
namespace Go.Proofs.YtkimgdfcgfhibaaDoor
set_option linter.unusedVariables false
set_option linter.unusedSimpArgs false

/-- some deed leads from s into S -/
def backP (ds : List DeedD) (S : Nat → Bool) (s : Nat) : Bool := ds.any fun d => (deedDo d s).any S
/-- what reaches S by at most n deeds -/
def layer (ds : List DeedD) (S : Nat → Bool) : Nat → Nat → Bool
  | 0, s => S s
  | n + 1, s => layer ds S n s || backP ds (layer ds S n) s
/-- the least number of deeds, if at most n, and -1 otherwise -/
def stpN (ds : List DeedD) (S : Nat → Bool) : Nat → Nat → Int
  | 0, s => if S s then 0 else -1
  | n + 1, s => if layer ds S n s then stpN ds S n s else if backP ds (layer ds S n) s then ((n + 1 : Nat) : Int) else -1
def stpV (ds : List DeedD) (S : Nat → Bool) (s : Nat) : Int := stpN ds S 32 s
def cnt (p : Nat → Bool) (n : Nat) : Nat := (List.range n).countP p
/-- nothing is added any more -/
def fixedAt (ds : List DeedD) (S : Nat → Bool) (n : Nat) : Prop := ∀ s, s < 32 → backP ds (layer ds S n) s = true → layer ds S n s = true

section
variable {ds : List DeedD} {S : Nat → Bool}
theorem backP_iff {s : Nat} : backP ds S s = true ↔ ∃ d ∈ ds, ∃ s', deedDo d s = some s' ∧ S s' = true := by
  unfold backP
  rw [List.any_eq_true]
  constructor
  · rintro ⟨d, hd, h⟩
    cases e : deedDo d s with
    | none => rw [e] at h; cases h
    | some s' => rw [e] at h; exact ⟨d, hd, s', e, h⟩
  · rintro ⟨d, hd, s', e, h⟩
    exact ⟨d, hd, by rw [e]; exact h⟩
theorem backP_mono {T : Nat → Bool} {s : Nat} (h : ∀ s', S s' = true → T s' = true) (k : backP ds S s = true) : backP ds T s = true := by
  obtain ⟨d, hd, s', e, hs⟩ := backP_iff.1 k
  exact backP_iff.2 ⟨d, hd, s', e, h s' hs⟩
/-- only the states below 32 matter -/
theorem backP_congr {T : Nat → Bool} {s : Nat} (hd : ∀ d ∈ ds, deedOk d = true) (hs : s < 32) (h : ∀ s', s' < 32 → S s' = T s') : backP ds S s = backP ds T s := by
  have key : ∀ S T : Nat → Bool, (∀ s', s' < 32 → S s' = T s') → backP ds S s = true → backP ds T s = true := fun S T h k => by
    obtain ⟨d, hm, s', e, hs'⟩ := backP_iff.1 k
    exact backP_iff.2 ⟨d, hm, s', e, by rw [← h s' (deedDo_lt d s s' (hd d hm) hs e)]; exact hs'⟩
  rw [Bool.eq_iff_iff]
  exact ⟨key S T h, key T S fun s' hs' => (h s' hs').symm⟩
/-! ### counting -/
theorem cnt_le (p : Nat → Bool) (n : Nat) : cnt p n ≤ n := by
  unfold cnt
  have := List.countP_le_length (p := p) (l := List.range n)
  simpa using this
theorem cnt_lt {p q : Nat → Bool} {n : Nat} (h : ∀ k, k < n → p k = true → q k = true) {j : Nat} (hj : j < n) (hp : p j = false) (hq : q j = true) : cnt p n < cnt q n := by
  unfold cnt
  induction n with
  | zero => omega
  | succ n ih =>
    rw [List.range_succ, List.countP_append, List.countP_append]
    have hmono : (List.range n).countP p ≤ (List.range n).countP q := List.countP_mono_left fun k hk => h k (by have := List.mem_range.1 hk; omega)
    by_cases e : j = n
    · subst e
      simp [hp, hq]; omega
    · have := ih (fun k hk => h k (by omega)) (by omega)
      have h2 : [n].countP p ≤ [n].countP q := List.countP_mono_left fun k hk => h k (by simp at hk; omega)
      omega
theorem cnt_pos {p : Nat → Bool} {n : Nat} : 0 < cnt p n ↔ ∃ k, k < n ∧ p k = true := by
  unfold cnt
  rw [List.countP_pos_iff]
  simp
end

/-! ### the plan -/
/-- the first deed, from the place k on, that leads from s into f, and where -/
def pick (f : Nat → Bool) (s : Nat) : List DeedD → Nat → Option (Nat × Nat)
  | [], _ => none
  | d :: ds, k => match deedDo d s with
    | some s' => if f s' then some (k, s') else pick f s ds (k + 1)
    | none => pick f s ds (k + 1)
def walkP (ds : List DeedD) (S : Nat → Bool) : Nat → Nat → List Int
  | 0, _ => []
  | n + 1, s => match pick (fun s' => stpV ds S s' == (n : Int)) s ds 0 with
    | some (k, s') => (k : Int) :: walkP ds S n s'
    | none => []
def planOf (ds : List DeedD) (S : Nat → Bool) (s : Nat) : Option (List Int) := if stpV ds S s < 0 then none else some (walkP ds S (stpV ds S s).toNat s)
def planFor (t : TaskD) : Option (List Int) := if taskOk t then planOf t.deeds (evalCode t.goal) t.start.toNat else none
end Go.Proofs.YtkimgdfcgfhibaaDoor
