/- Joined texts: StatesBack, StepsLeast, PlanForS, Rest, Iso. -/
import Derived.Test.YtfgebdioffeliaaSSteps
import Derived.Test.YtfgebdioffeliaaSPlanForW
import Derived.Test.YtfgebdioffeliaaSBValid
import Derived.Test.YtfgebdioffeliaaSSearch
/- StatesBack of the reference, for valid arguments. -/
namespace Go.Proofs.Ytfgebdioffeliaa
set_option linter.unusedVariables false
set_option linter.unusedSimpArgs false
open Go.ChangeShapes Go.WideShapes Go.ChangeAt Go.RowKit

def outP (ds : List DeedD) (S m k s : Nat) : Bool := upto (backP ds (setP S)) m s || (decide (s = m) && backP (ds.take k) (setP S) m)
end Go.Proofs.Ytfgebdioffeliaa

/- StepsLeast of the reference. -/
namespace Go.Proofs.Ytfgebdioffeliaa
set_option linter.unusedVariables false
set_option linter.unusedSimpArgs false
open Go.ChangeShapes Go.WideShapes Go.ChangeAt Go.RowKit

/-- what is met in the round m -/
def newP (ds : List DeedD) (p : Nat → Bool) : Nat → Nat → Bool
  | 0, s => p s
  | m + 1, s => freshP ds p m s
/-- what stands ahead of the round m -/
def prvN (ds : List DeedD) (p : Nat → Bool) : Nat → Nat → Int
  | 0, _ => -1
  | m + 1, s => stpN ds p m s
/-- what the last loop of a round counts up -/
def nextP (ds : List DeedD) (p : Nat → Bool) (m : Nat) : Nat → Bool := newP ds p (m + 1)
def stepsLeastR (t : TaskD) : List Int := if taskOk t then stepsL t.deeds (evalCode t.goal) else []
end Go.Proofs.Ytfgebdioffeliaa

/- PlanFor of the reference. -/
namespace Go.Proofs.Ytfgebdioffeliaa
set_option linter.unusedVariables false
set_option linter.unusedSimpArgs false
open Go.ChangeShapes Go.WideShapes Go.ChangeAt Go.RowKit

end Go.Proofs.Ytfgebdioffeliaa

/- taskFrom and RestFor, of the program and of the reference. -/
namespace Go.Proofs.Ytfgebdioffeliaa
set_option linter.unusedVariables false
set_option linter.unusedSimpArgs false
open Go.ChangeShapes Go.WideShapes Go.ChangeAt Go.RowKit

/-- the task of a book that begins with its state -/
def taskFrom (b : BookD) : TaskD := ⟨b.state, b.order.goal, b.order.deeds⟩
def restFor (b : BookD) : Option (List Int) := if bookOk b then planFor (taskFrom b) else none
theorem restFor_no (b : BookD) (h : bookOk b = false) : restFor b = none := if_neg (by rw [h]; simp)
theorem restFor_yes (b : BookD) (h : bookOk b = true) : restFor b = planFor (taskFrom b) := if_pos h
end Go.Proofs.Ytfgebdioffeliaa

/- Plain law: two tasks whose states answer each other one to one: the same steps, plans and numbers of ways; no program in sight. -/
namespace Go.Proofs.Ytfgebdioffeliaa
set_option linter.unusedVariables false
set_option linter.unusedSimpArgs false

/-- in how many ways n deeds lead from s into S -/
def waysN (ds : List DeedD) (S : Nat → Bool) : Nat → Nat → Int
  | 0, s => if S s then 1 else 0
  | n + 1, s => (ds.map fun d => match deedDo d s with
    | some s' => waysN ds S n s'
    | none => 0).sum
structure Iso (ds : List DeedD) (g : DeedD → DeedD) (f : Nat → Nat) : Prop where
  lt : ∀ s, s < 32 → f s < 32
  do_ : ∀ d ∈ ds, ∀ s, s < 32 → deedDo (g d) (f s) = (deedDo d s).map f
section
variable {ds : List DeedD} {g : DeedD → DeedD} {f : Nat → Nat} {S T : Nat → Bool}
theorem Iso.tl {d : DeedD} (h : Iso (d :: ds) g f) : Iso ds g f := ⟨h.lt, fun e he => h.do_ e (List.mem_cons_of_mem _ he)⟩
theorem Iso.back (h : Iso ds g f) (hd : ∀ d ∈ ds, deedOk d = true) (hT : ∀ s, s < 32 → T (f s) = S s) {s : Nat} (hs : s < 32) : backP (ds.map g) T (f s) = backP ds S s := by
  unfold backP
  induction ds with
  | nil => rfl
  | cons d ds ih =>
    simp only [List.map_cons, List.any_cons]
    rw [ih h.tl (fun e he => hd e (List.mem_cons_of_mem _ he)), h.do_ d (List.mem_cons_self ..) s hs]
    congr 1
    cases e : deedDo d s with
    | none => rfl
    | some s' => simp only [Option.map_some, Option.any_some]; exact hT s' (deedDo_lt d s s' (hd d (List.mem_cons_self ..)) hs e)
theorem Iso.layer (h : Iso ds g f) (hd : ∀ d ∈ ds, deedOk d = true) (hT : ∀ s, s < 32 → T (f s) = S s) (n : Nat) : ∀ s, s < 32 → layer (ds.map g) T n (f s) = Go.Proofs.Ytfgebdioffeliaa.layer ds S n s := by
  induction n with
  | zero => intro s hs; exact hT s hs
  | succ n ih => intro s hs; simp only [Go.Proofs.Ytfgebdioffeliaa.layer]; rw [ih s hs, h.back hd ih hs]
theorem Iso.stp (h : Iso ds g f) (hd : ∀ d ∈ ds, deedOk d = true) (hT : ∀ s, s < 32 → T (f s) = S s) (n : Nat) : ∀ s, s < 32 → stpN (ds.map g) T n (f s) = stpN ds S n s := by
  induction n with
  | zero => intro s hs; simp only [stpN]; rw [hT s hs]
  | succ n ih =>
    intro s hs
    simp only [stpN]
    rw [h.layer hd hT n s hs, ih s hs, h.back hd (h.layer hd hT n) hs]
theorem Iso.stpV (h : Iso ds g f) (hd : ∀ d ∈ ds, deedOk d = true) (hT : ∀ s, s < 32 → T (f s) = S s) {s : Nat} (hs : s < 32) : stpV (ds.map g) T (f s) = Go.Proofs.Ytfgebdioffeliaa.stpV ds S s := h.stp hd hT 32 s hs
theorem Iso.pick {p q : Nat → Bool} (h : Iso ds g f) (hd : ∀ d ∈ ds, deedOk d = true) (hq : ∀ s, s < 32 → q (f s) = p s) {s : Nat} (hs : s < 32) (k : Nat) : pick q (f s) (ds.map g) k = (Go.Proofs.Ytfgebdioffeliaa.pick p s ds k).map fun r => (r.1, f r.2) := by
  induction ds generalizing k with
  | nil => rfl
  | cons d ds ih =>
    have hr := ih h.tl (fun e he => hd e (List.mem_cons_of_mem _ he)) (k + 1)
    simp only [List.map_cons, Go.Proofs.Ytfgebdioffeliaa.pick]
    rw [h.do_ d (List.mem_cons_self ..) s hs]
    cases e : deedDo d s with
    | none => simpa using hr
    | some s' =>
      simp only [Option.map_some]
      rw [hq s' (deedDo_lt d s s' (hd d (List.mem_cons_self ..)) hs e)]
      cases p s' with
      | true => rfl
      | false => simpa using hr
theorem pick_mem {p : Nat → Bool} {s : Nat} {k j s' : Nat} (h : pick p s ds k = some (j, s')) : ∃ d ∈ ds, deedDo d s = some s' ∧ p s' = true := by
  induction ds generalizing k with
  | nil => cases h
  | cons d ds ih =>
    simp only [pick] at h
    cases e : deedDo d s with
    | none =>
      rw [e] at h
      obtain ⟨x, hx, hr⟩ := ih h
      exact ⟨x, List.mem_cons_of_mem _ hx, hr⟩
    | some s1 =>
      rw [e] at h
      simp only at h
      split at h
      · rename_i hp
        simp only [Option.some.injEq, Prod.mk.injEq] at h
        exact ⟨d, List.mem_cons_self .., by rw [e, h.2], h.2 ▸ hp⟩
      · obtain ⟨x, hx, hr⟩ := ih h
        exact ⟨x, List.mem_cons_of_mem _ hx, hr⟩
theorem Iso.walkP (h : Iso ds g f) (hd : ∀ d ∈ ds, deedOk d = true) (hT : ∀ s, s < 32 → T (f s) = S s) (n : Nat) : ∀ s, s < 32 → walkP (ds.map g) T n (f s) = Go.Proofs.Ytfgebdioffeliaa.walkP ds S n s := by
  induction n with
  | zero => intro s hs; rfl
  | succ n ih =>
    intro s hs
    simp only [Go.Proofs.Ytfgebdioffeliaa.walkP]
    rw [h.pick (p := fun s' => Go.Proofs.Ytfgebdioffeliaa.stpV ds S s' == (n : Int)) hd (fun s hs => by rw [h.stpV hd hT hs]) hs 0]
    cases e : Go.Proofs.Ytfgebdioffeliaa.pick (fun s' => Go.Proofs.Ytfgebdioffeliaa.stpV ds S s' == (n : Int)) s ds 0 with
    | none => rfl
    | some r =>
      obtain ⟨j, s'⟩ := r
      obtain ⟨d, hm, h1, -⟩ := pick_mem e
      simp only [Option.map_some]
      rw [ih s' (deedDo_lt d s s' (hd d hm) hs h1)]
theorem Iso.planOf (h : Iso ds g f) (hd : ∀ d ∈ ds, deedOk d = true) (hT : ∀ s, s < 32 → T (f s) = S s) {s : Nat} (hs : s < 32) : planOf (ds.map g) T (f s) = Go.Proofs.Ytfgebdioffeliaa.planOf ds S s := by
  unfold Go.Proofs.Ytfgebdioffeliaa.planOf
  rw [h.stpV hd hT hs, h.walkP hd hT _ s hs]
theorem Iso.waysN (h : Iso ds g f) (hd : ∀ d ∈ ds, deedOk d = true) (hT : ∀ s, s < 32 → T (f s) = S s) (n : Nat) : ∀ s, s < 32 → waysN (ds.map g) T n (f s) = Go.Proofs.Ytfgebdioffeliaa.waysN ds S n s := by
  induction n with
  | zero => intro s hs; simp only [Go.Proofs.Ytfgebdioffeliaa.waysN]; rw [hT s hs]
  | succ n ih =>
    intro s hs
    simp only [Go.Proofs.Ytfgebdioffeliaa.waysN, List.map_map]
    congr 1
    refine List.map_congr_left fun d hm => ?_
    simp only [Function.comp]
    rw [h.do_ d hm s hs]
    cases e : deedDo d s with
    | none => rfl
    | some s' => simp only [Option.map_some]; exact ih s' (deedDo_lt d s s' (hd d hm) hs e)
end
/-! ### forward -/
/-- what is reached from s0 by at most n deeds -/
def fwdP (ds : List DeedD) (S : Nat → Bool) (s : Nat) : Bool := (List.range 32).any fun s' => S s' && ds.any fun d => deedDo d s' == some s
def fwd (ds : List DeedD) (S : Nat → Bool) : Nat → Nat → Bool
  | 0, s => S s
  | n + 1, s => fwd ds S n s || fwdP ds (fwd ds S n) s
section
variable {ds : List DeedD} {g : DeedD → DeedD} {f : Nat → Nat} {S T : Nat → Bool}
theorem fwdP_iff {s : Nat} : fwdP ds S s = true ↔ ∃ s', s' < 32 ∧ S s' = true ∧ ∃ d ∈ ds, deedDo d s' = some s := by
  unfold fwdP
  simp only [List.any_eq_true, List.mem_range, Bool.and_eq_true, beq_iff_eq]
theorem Iso.fwdP (h : Iso ds g f) (hd : ∀ d ∈ ds, deedOk d = true) (hj : ∀ s t, s < 32 → t < 32 → f s = f t → s = t) (hsur : ∀ s, s < 32 → ∃ t, t < 32 ∧ f t = s) (hT : ∀ s, s < 32 → T (f s) = S s) {s : Nat} (hs : s < 32) : fwdP (ds.map g) T (f s) = Go.Proofs.Ytfgebdioffeliaa.fwdP ds S s := by
  rw [Bool.eq_iff_iff, fwdP_iff, fwdP_iff]
  constructor
  · rintro ⟨s', hs', hT', d', hd', e⟩
    obtain ⟨d, hm, rfl⟩ := List.mem_map.1 hd'
    obtain ⟨t, ht, rfl⟩ := hsur s' hs'
    rw [hT t ht] at hT'
    rw [h.do_ d hm t ht] at e
    obtain ⟨u, hu, e⟩ := Option.map_eq_some_iff.1 e
    have := hj u s (deedDo_lt d t u (hd d hm) ht hu) hs e
    subst this
    exact ⟨t, ht, hT', d, hm, hu⟩
  · rintro ⟨s', hs', hS', d, hm, e⟩
    exact ⟨f s', h.lt s' hs', by rw [hT s' hs']; exact hS', g d, List.mem_map.2 ⟨d, hm, rfl⟩, by rw [h.do_ d hm s' hs', e]; rfl⟩
theorem Iso.fwd (h : Iso ds g f) (hd : ∀ d ∈ ds, deedOk d = true) (hj : ∀ s t, s < 32 → t < 32 → f s = f t → s = t) (hsur : ∀ s, s < 32 → ∃ t, t < 32 ∧ f t = s) (hT : ∀ s, s < 32 → T (f s) = S s) (n : Nat) : ∀ s, s < 32 → fwd (ds.map g) T n (f s) = Go.Proofs.Ytfgebdioffeliaa.fwd ds S n s := by
  induction n with
  | zero => intro s hs; exact hT s hs
  | succ n ih => intro s hs; simp only [Go.Proofs.Ytfgebdioffeliaa.fwd]; rw [ih s hs, h.fwdP hd hj hsur ih hs]
end
end Go.Proofs.Ytfgebdioffeliaa
