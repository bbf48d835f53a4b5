/- Plain law: codes, deeds, tasks and books as data, and what is asked of them; no program in sight. -/
import Derived.Test.YtkimgdfcgfhibaaDoorSBase
namespace Go.Proofs.YtkimgdfcgfhibaaDoor

structure DeedD where
  need : List Int
  on : Int
  off : Int
  flip : Int
structure TaskD where
  start : Int
  goal : List Int
  deeds : List DeedD
structure BookD where
  order : TaskD
  done : List Int
  state : Int
structure ActD where
  kind : Int
  number : Int
theorem DeedD.ext' {a b : DeedD} (h1 : a.need = b.need) (h2 : a.on = b.on) (h3 : a.off = b.off) (h4 : a.flip = b.flip) : a = b := by cases a; cases b; simp_all
theorem TaskD.ext' {a b : TaskD} (h1 : a.start = b.start) (h2 : a.goal = b.goal) (h3 : a.deeds = b.deeds) : a = b := by cases a; cases b; simp_all
theorem BookD.ext' {a b : BookD} (h1 : a.order = b.order) (h2 : a.done = b.done) (h3 : a.state = b.state) : a = b := by cases a; cases b; simp_all
instance : DecidableEq DeedD := fun a b => decidable_of_iff (a.need = b.need ∧ a.on = b.on ∧ a.off = b.off ∧ a.flip = b.flip) ⟨fun ⟨h1, h2, h3, h4⟩ => DeedD.ext' h1 h2 h3 h4, fun h => by subst h; exact ⟨rfl, rfl, rfl, rfl⟩⟩
instance : DecidableEq TaskD := fun a b => decidable_of_iff (a.start = b.start ∧ a.goal = b.goal ∧ a.deeds = b.deeds) ⟨fun ⟨h1, h2, h3⟩ => TaskD.ext' h1 h2 h3, fun h => by subst h; exact ⟨rfl, rfl, rfl⟩⟩
instance : DecidableEq BookD := fun a b => decidable_of_iff (a.order = b.order ∧ a.done = b.done ∧ a.state = b.state) ⟨fun ⟨h1, h2, h3⟩ => BookD.ext' h1 h2 h3, fun h => by subst h; exact ⟨rfl, rfl, rfl⟩⟩

/-! ### codes -/
/-- how many entries the stack has behind a step -/
def dStep (d : Nat) (x : Int) : Option Nat :=
  if x < 0 ∨ 9 < x then none else if x ≤ 6 then some (d + 1) else if x = 7 then (if 1 ≤ d then some d else none) else if 2 ≤ d then some (d - 1) else none
def dRun : Nat → List Int → Option Nat
  | d, [] => some d
  | d, x :: xs => (dStep d x).bind fun d' => dRun d' xs
def mRun : Nat → Nat → List Int → Nat
  | _, m, [] => m
  | d, m, x :: xs => mRun ((dStep d x).getD 0) (max m ((dStep d x).getD 0)) xs
def codeOk (xs : List Int) : Bool := decide (1 ≤ xs.length ∧ xs.length ≤ 40) && dRun 0 xs == some 1
def codeDepth (xs : List Int) : Int := if codeOk xs then (mRun 0 0 xs : Nat) else -1
theorem dRun_append (d : Nat) (xs ys : List Int) : dRun d (xs ++ ys) = (dRun d xs).bind fun d' => dRun d' ys := by
  induction xs generalizing d with
  | nil => rfl
  | cons x xs ih =>
    simp only [List.cons_append, dRun]
    cases dStep d x with
    | none => rfl
    | some d' => simp [ih]
theorem mRun_append (d m : Nat) (xs ys : List Int) (d' : Nat) (h : dRun d xs = some d') : mRun d m (xs ++ ys) = mRun d' (mRun d m xs) ys := by
  induction xs generalizing d m with
  | nil => simp only [dRun, Option.some.injEq] at h; subst h; rfl
  | cons x xs ih =>
    simp only [dRun] at h
    cases hs : dStep d x with
    | none => rw [hs] at h; cases h
    | some e =>
      rw [hs] at h
      simp only [List.cons_append, mRun, hs, Option.getD_some]
      exact ih _ _ (by simpa using h)
/-- a step behind the first k -/
theorem dRun_step (xs : List Int) (k : Nat) (x : Int) (hx : xs[k]? = some x) (d : Nat) (h : dRun 0 (xs.take k) = some d) : dRun 0 (xs.take (k + 1)) = dStep d x ∧ (∀ d', dStep d x = some d' → mRun 0 0 (xs.take (k + 1)) = max (mRun 0 0 (xs.take k)) d') := by
  obtain ⟨hk, he⟩ := List.getElem?_eq_some_iff.1 hx
  rw [List.take_succ_eq_append_getElem hk, he]
  refine ⟨?_, fun d' hd => ?_⟩
  · rw [dRun_append, h]
    simp only [Option.bind_some, dRun]
    cases dStep d x <;> rfl
  · rw [mRun_append _ _ _ _ _ h]
    simp [mRun, hd]
/-- where a step does not fit the code is none -/
theorem dRun_bad (xs : List Int) (k : Nat) (x : Int) (hx : xs[k]? = some x) (d : Nat) (h : dRun 0 (xs.take k) = some d) (hs : dStep d x = none) : codeOk xs = false := by
  obtain ⟨hk, he⟩ := List.getElem?_eq_some_iff.1 hx
  have : dRun 0 xs = none := by
    conv => lhs; rw [← List.take_append_drop k xs]
    rw [dRun_append, h, List.drop_eq_getElem_cons hk, he]
    simp [dRun, hs]
  unfold codeOk
  rw [this]; simp
theorem dStep_le (d : Nat) (x : Int) (d' : Nat) (h : dStep d x = some d') : d' ≤ d + 1 := by
  unfold dStep at h
  split at h
  · cases h
  · split at h
    · cases h; omega
    · split at h
      · split at h <;> cases h; omega
      · split at h <;> cases h; omega
theorem dRun_le (d : Nat) (xs : List Int) (d' : Nat) (h : dRun d xs = some d') : d' ≤ d + xs.length := by
  induction xs generalizing d with
  | nil => simp only [dRun, Option.some.injEq] at h; subst h; simp
  | cons x xs ih =>
    simp only [dRun] at h
    cases hs : dStep d x with
    | none => rw [hs] at h; cases h
    | some e =>
      rw [hs] at h
      have h1 := ih e (by simpa using h)
      have h2 := dStep_le _ _ _ hs
      simp only [List.length_cons]
      omega
theorem mRun_le (d m : Nat) (xs : List Int) : mRun d m xs ≤ max m (d + xs.length) := by
  induction xs generalizing d m with
  | nil => simp only [mRun, List.length_nil]; omega
  | cons x xs ih =>
    simp only [mRun, List.length_cons]
    cases hs : dStep d x with
    | none => simp only [Option.getD_none]; have := ih 0 (max m 0); omega
    | some e => simp only [Option.getD_some]; have := ih e (max m e); have := dStep_le _ _ _ hs; omega
theorem mRun_last (d m : Nat) (xs : List Int) (e : Nat) (h : dRun d xs = some e) (hne : xs ≠ []) : e ≤ mRun d m xs := by
  induction xs generalizing d m with
  | nil => exact absurd rfl hne
  | cons x xs ih =>
    simp only [dRun] at h
    cases hs : dStep d x with
    | none => rw [hs] at h; cases h
    | some d' =>
      rw [hs] at h
      have h : dRun d' xs = some e := by simpa using h
      simp only [mRun, hs, Option.getD_some]
      by_cases hx : xs = []
      · subst hx
        simp only [dRun, Option.some.injEq] at h
        subst h
        simp only [mRun]; omega
      · exact ih _ _ h hx
theorem codeOk_iff (xs : List Int) : codeOk xs = true ↔ 1 ≤ xs.length ∧ xs.length ≤ 40 ∧ dRun 0 xs = some 1 := by
  unfold codeOk; simp [and_assoc]
theorem codeDepth_bd (xs : List Int) : (codeOk xs = true → 1 ≤ codeDepth xs ∧ codeDepth xs ≤ 40) ∧ (codeOk xs = false → codeDepth xs = -1) := by
  unfold codeDepth
  refine ⟨fun h => ?_, fun h => by rw [h]; rfl⟩
  obtain ⟨h1, h2, h3⟩ := (codeOk_iff xs).1 h
  rw [h, if_pos rfl]
  have a := mRun_last 0 0 xs 1 h3 (by intro e; subst e; simp at h1)
  have b := mRun_le 0 0 xs
  omega
theorem codeOk_long (xs : List Int) (h : ¬ (1 ≤ xs.length ∧ xs.length ≤ 40)) : codeOk xs = false := by unfold codeOk; rw [decide_eq_false h]; simp
theorem codeOk_end (xs : List Int) (d : Nat) (h : dRun 0 xs = some d) (hd : d ≠ 1) : codeOk xs = false := by
  unfold codeOk; rw [h]; simp [hd]
theorem codeOk_good (xs : List Int) (hl : 1 ≤ xs.length ∧ xs.length ≤ 40) (h : dRun 0 xs = some 1) : codeOk xs = true := by
  unfold codeOk; rw [h, decide_eq_true hl]; rfl
/-- of a valid code each beginning has a number of entries, and the next step fits -/
theorem codeOk_at (xs : List Int) (h : codeOk xs = true) (k : Nat) (hk : k ≤ xs.length) : ∃ d, dRun 0 (xs.take k) = some d ∧ d ≤ k ∧ (∀ x, xs[k]? = some x → ∃ d', dStep d x = some d') := by
  obtain ⟨h1, h2, h3⟩ := (codeOk_iff xs).1 h
  have hs : dRun 0 (xs.take k ++ xs.drop k) = some 1 := by rw [List.take_append_drop]; exact h3
  rw [dRun_append] at hs
  cases hd : dRun 0 (xs.take k) with
  | none => rw [hd] at hs; cases hs
  | some d =>
    refine ⟨d, rfl, by have := dRun_le _ _ _ hd; simp at this; omega, fun x hx => ?_⟩
    rw [hd] at hs
    obtain ⟨hlt, he⟩ := List.getElem?_eq_some_iff.1 hx
    rw [List.drop_eq_getElem_cons hlt, he] at hs
    simp only [Option.bind_some, dRun] at hs
    cases hq : dStep d x with
    | none => rw [hq] at hs; cases hs
    | some d' => exact ⟨d', rfl⟩

/-- what a step does to the stack, its top first -/
def evalStep (s : Nat) (st : List Bool) (x : Int) : List Bool :=
  if x = 5 then true :: st
  else if x = 6 then false :: st
  else if x = 7 then (match st with | a :: r => (!a) :: r | [] => [])
  else if x = 8 then (match st with | a :: b :: r => (b && a) :: r | _ => [])
  else if x = 9 then (match st with | a :: b :: r => (b || a) :: r | _ => [])
  else (bit s x.toNat == 1) :: st
def evalRun (s : Nat) (st : List Bool) (xs : List Int) : List Bool := xs.foldl (evalStep s) st
def evalCode (xs : List Int) (s : Nat) : Bool := (evalRun s [] xs).headD false
theorem evalStep_len (s : Nat) (st : List Bool) (x : Int) (d' : Nat) (h : dStep st.length x = some d') : (evalStep s st x).length = d' := by
  unfold dStep at h
  unfold evalStep
  split at h
  · cases h
  · rename_i hr
    split at h
    · cases h
      by_cases h5 : x = 5
      · rw [if_pos h5]; rfl
      · by_cases h6 : x = 6
        · rw [if_neg h5, if_pos h6]; rfl
        · rw [if_neg h5, if_neg h6, if_neg (by omega), if_neg (by omega), if_neg (by omega)]; rfl
    · rw [if_neg (by omega), if_neg (by omega)]
      split at h
      · rename_i h7
        rw [if_pos h7]
        split at h
        · cases h
          cases st with
          | nil => simp at *
          | cons a r => rfl
        · cases h
      · rename_i h7
        rw [if_neg h7]
        split at h
        · cases h
          rename_i h2
          match st, h2 with
          | a :: b :: r, _ =>
            by_cases h8 : x = 8
            · rw [if_pos h8]; simp
            · rw [if_neg h8, if_pos (by omega)]; simp
        · cases h
theorem evalRun_take (s : Nat) (xs : List Int) (k : Nat) (x : Int) (hx : xs[k]? = some x) : evalRun s [] (xs.take (k + 1)) = evalStep s (evalRun s [] (xs.take k)) x := by
  obtain ⟨hk, he⟩ := List.getElem?_eq_some_iff.1 hx
  rw [List.take_succ_eq_append_getElem hk, he]
  simp [evalRun, List.foldl_append]
end Go.Proofs.YtkimgdfcgfhibaaDoor
