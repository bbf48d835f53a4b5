/- Plain law: two tasks whose states answer each other one to one: the same steps, plans and numbers of ways; no program in sight. -/
import Derived.Test.YtkimgdfcgfhibaaDoorSSearch
namespace Go.Proofs.YtkimgdfcgfhibaaDoor
set_option linter.unusedVariables false
set_option linter.unusedSimpArgs false

/-- in how many ways n deeds lead from s into S -/
def waysN (ds : List DeedD) (S : Nat → Bool) : Nat → Nat → Int
  | 0, s => if S s then 1 else 0
  | n + 1, s => (ds.map fun d => match deedDo d s with
    | some s' => waysN ds S n s'
    | none => 0).sum
structure Iso (ds : List DeedD) (g : DeedD → DeedD) (f : Nat → Nat) : Prop where
  lt : ∀ s, s < 32 → f s < 32
  do_ : ∀ d ∈ ds, ∀ s, s < 32 → deedDo (g d) (f s) = (deedDo d s).map f
section
variable {ds : List DeedD} {g : DeedD → DeedD} {f : Nat → Nat} {S T : Nat → Bool}
theorem Iso.tl {d : DeedD} (h : Iso (d :: ds) g f) : Iso ds g f := ⟨h.lt, fun e he => h.do_ e (List.mem_cons_of_mem _ he)⟩
theorem Iso.back (h : Iso ds g f) (hd : ∀ d ∈ ds, deedOk d = true) (hT : ∀ s, s < 32 → T (f s) = S s) {s : Nat} (hs : s < 32) : backP (ds.map g) T (f s) = backP ds S s := by
  unfold backP
  induction ds with
  | nil => rfl
  | cons d ds ih =>
    simp only [List.map_cons, List.any_cons]
    rw [ih h.tl (fun e he => hd e (List.mem_cons_of_mem _ he)), h.do_ d (List.mem_cons_self ..) s hs]
    congr 1
    cases e : deedDo d s with
    | none => rfl
    | some s' => simp only [Option.map_some, Option.any_some]; exact hT s' (deedDo_lt d s s' (hd d (List.mem_cons_self ..)) hs e)
theorem Iso.layer (h : Iso ds g f) (hd : ∀ d ∈ ds, deedOk d = true) (hT : ∀ s, s < 32 → T (f s) = S s) (n : Nat) : ∀ s, s < 32 → layer (ds.map g) T n (f s) = Go.Proofs.YtkimgdfcgfhibaaDoor.layer ds S n s := by
  induction n with
  | zero => intro s hs; exact hT s hs
  | succ n ih => intro s hs; simp only [Go.Proofs.YtkimgdfcgfhibaaDoor.layer]; rw [ih s hs, h.back hd ih hs]
theorem Iso.stp (h : Iso ds g f) (hd : ∀ d ∈ ds, deedOk d = true) (hT : ∀ s, s < 32 → T (f s) = S s) (n : Nat) : ∀ s, s < 32 → stpN (ds.map g) T n (f s) = stpN ds S n s := by
  induction n with
  | zero => intro s hs; simp only [stpN]; rw [hT s hs]
  | succ n ih =>
    intro s hs
    simp only [stpN]
    rw [h.layer hd hT n s hs, ih s hs, h.back hd (h.layer hd hT n) hs]
theorem Iso.stpV (h : Iso ds g f) (hd : ∀ d ∈ ds, deedOk d = true) (hT : ∀ s, s < 32 → T (f s) = S s) {s : Nat} (hs : s < 32) : stpV (ds.map g) T (f s) = Go.Proofs.YtkimgdfcgfhibaaDoor.stpV ds S s := h.stp hd hT 32 s hs
theorem Iso.pick {p q : Nat → Bool} (h : Iso ds g f) (hd : ∀ d ∈ ds, deedOk d = true) (hq : ∀ s, s < 32 → q (f s) = p s) {s : Nat} (hs : s < 32) (k : Nat) : pick q (f s) (ds.map g) k = (Go.Proofs.YtkimgdfcgfhibaaDoor.pick p s ds k).map fun r => (r.1, f r.2) := by
  induction ds generalizing k with
  | nil => rfl
  | cons d ds ih =>
    have hr := ih h.tl (fun e he => hd e (List.mem_cons_of_mem _ he)) (k + 1)
    simp only [List.map_cons, Go.Proofs.YtkimgdfcgfhibaaDoor.pick]
    rw [h.do_ d (List.mem_cons_self ..) s hs]
    cases e : deedDo d s with
    | none => simpa using hr
    | some s' =>
      simp only [Option.map_some]
      rw [hq s' (deedDo_lt d s s' (hd d (List.mem_cons_self ..)) hs e)]
      cases p s' with
      | true => rfl
      | false => simpa using hr
theorem pick_mem {p : Nat → Bool} {s : Nat} {k j s' : Nat} (h : pick p s ds k = some (j, s')) : ∃ d ∈ ds, deedDo d s = some s' ∧ p s' = true := by
  induction ds generalizing k with
  | nil => cases h
  | cons d ds ih =>
    simp only [pick] at h
    cases e : deedDo d s with
    | none =>
      rw [e] at h
      obtain ⟨x, hx, hr⟩ := ih h
      exact ⟨x, List.mem_cons_of_mem _ hx, hr⟩
    | some s1 =>
      rw [e] at h
      simp only at h
      split at h
      · rename_i hp
        simp only [Option.some.injEq, Prod.mk.injEq] at h
        exact ⟨d, List.mem_cons_self .., by rw [e, h.2], h.2 ▸ hp⟩
      · obtain ⟨x, hx, hr⟩ := ih h
        exact ⟨x, List.mem_cons_of_mem _ hx, hr⟩
theorem Iso.walkP (h : Iso ds g f) (hd : ∀ d ∈ ds, deedOk d = true) (hT : ∀ s, s < 32 → T (f s) = S s) (n : Nat) : ∀ s, s < 32 → walkP (ds.map g) T n (f s) = Go.Proofs.YtkimgdfcgfhibaaDoor.walkP ds S n s := by
  induction n with
  | zero => intro s hs; rfl
  | succ n ih =>
    intro s hs
    simp only [Go.Proofs.YtkimgdfcgfhibaaDoor.walkP]
    rw [h.pick (p := fun s' => Go.Proofs.YtkimgdfcgfhibaaDoor.stpV ds S s' == (n : Int)) hd (fun s hs => by rw [h.stpV hd hT hs]) hs 0]
    cases e : Go.Proofs.YtkimgdfcgfhibaaDoor.pick (fun s' => Go.Proofs.YtkimgdfcgfhibaaDoor.stpV ds S s' == (n : Int)) s ds 0 with
    | none => rfl
    | some r =>
      obtain ⟨j, s'⟩ := r
      obtain ⟨d, hm, h1, -⟩ := pick_mem e
      simp only [Option.map_some]
      rw [ih s' (deedDo_lt d s s' (hd d hm) hs h1)]
theorem Iso.planOf (h : Iso ds g f) (hd : ∀ d ∈ ds, deedOk d = true) (hT : ∀ s, s < 32 → T (f s) = S s) {s : Nat} (hs : s < 32) : planOf (ds.map g) T (f s) = Go.Proofs.YtkimgdfcgfhibaaDoor.planOf ds S s := by
  unfold Go.Proofs.YtkimgdfcgfhibaaDoor.planOf
  rw [h.stpV hd hT hs, h.walkP hd hT _ s hs]
theorem Iso.waysN (h : Iso ds g f) (hd : ∀ d ∈ ds, deedOk d = true) (hT : ∀ s, s < 32 → T (f s) = S s) (n : Nat) : ∀ s, s < 32 → waysN (ds.map g) T n (f s) = Go.Proofs.YtkimgdfcgfhibaaDoor.waysN ds S n s := by
  induction n with
  | zero => intro s hs; simp only [Go.Proofs.YtkimgdfcgfhibaaDoor.waysN]; rw [hT s hs]
  | succ n ih =>
    intro s hs
    simp only [Go.Proofs.YtkimgdfcgfhibaaDoor.waysN, List.map_map]
    congr 1
    refine List.map_congr_left fun d hm => ?_
    simp only [Function.comp]
    rw [h.do_ d hm s hs]
    cases e : deedDo d s with
    | none => rfl
    | some s' => simp only [Option.map_some]; exact ih s' (deedDo_lt d s s' (hd d hm) hs e)
end
/-! ### forward -/
/-- what is reached from s0 by at most n deeds -/
def fwdP (ds : List DeedD) (S : Nat → Bool) (s : Nat) : Bool := (List.range 32).any fun s' => S s' && ds.any fun d => deedDo d s' == some s
def fwd (ds : List DeedD) (S : Nat → Bool) : Nat → Nat → Bool
  | 0, s => S s
  | n + 1, s => fwd ds S n s || fwdP ds (fwd ds S n) s
section
variable {ds : List DeedD} {g : DeedD → DeedD} {f : Nat → Nat} {S T : Nat → Bool}
theorem fwdP_iff {s : Nat} : fwdP ds S s = true ↔ ∃ s', s' < 32 ∧ S s' = true ∧ ∃ d ∈ ds, deedDo d s' = some s := by
  unfold fwdP
  simp only [List.any_eq_true, List.mem_range, Bool.and_eq_true, beq_iff_eq]
theorem Iso.fwdP (h : Iso ds g f) (hd : ∀ d ∈ ds, deedOk d = true) (hj : ∀ s t, s < 32 → t < 32 → f s = f t → s = t) (hsur : ∀ s, s < 32 → ∃ t, t < 32 ∧ f t = s) (hT : ∀ s, s < 32 → T (f s) = S s) {s : Nat} (hs : s < 32) : fwdP (ds.map g) T (f s) = Go.Proofs.YtkimgdfcgfhibaaDoor.fwdP ds S s := by
  rw [Bool.eq_iff_iff, fwdP_iff, fwdP_iff]
  constructor
  · rintro ⟨s', hs', hT', d', hd', e⟩
    obtain ⟨d, hm, rfl⟩ := List.mem_map.1 hd'
    obtain ⟨t, ht, rfl⟩ := hsur s' hs'
    rw [hT t ht] at hT'
    rw [h.do_ d hm t ht] at e
    obtain ⟨u, hu, e⟩ := Option.map_eq_some_iff.1 e
    have := hj u s (deedDo_lt d t u (hd d hm) ht hu) hs e
    subst this
    exact ⟨t, ht, hT', d, hm, hu⟩
  · rintro ⟨s', hs', hS', d, hm, e⟩
    exact ⟨f s', h.lt s' hs', by rw [hT s' hs']; exact hS', g d, List.mem_map.2 ⟨d, hm, rfl⟩, by rw [h.do_ d hm s' hs', e]; rfl⟩
theorem Iso.fwd (h : Iso ds g f) (hd : ∀ d ∈ ds, deedOk d = true) (hj : ∀ s t, s < 32 → t < 32 → f s = f t → s = t) (hsur : ∀ s, s < 32 → ∃ t, t < 32 ∧ f t = s) (hT : ∀ s, s < 32 → T (f s) = S s) (n : Nat) : ∀ s, s < 32 → fwd (ds.map g) T n (f s) = Go.Proofs.YtkimgdfcgfhibaaDoor.fwd ds S n s := by
  induction n with
  | zero => intro s hs; exact hT s hs
  | succ n ih => intro s hs; simp only [Go.Proofs.YtkimgdfcgfhibaaDoor.fwd]; rw [ih s hs, h.fwdP hd hj hsur ih hs]
end
end Go.Proofs.YtkimgdfcgfhibaaDoor
