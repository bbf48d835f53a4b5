/- Joined texts: WaysP, GwN, OnWayP. -/
import Derived.Test.YtdbgoekemffimaaJFnOnWayBound
import Derived.Test.YtdbgoekemffimaaJFnOnWaySteps
import Derived.Test.YtdbgoekemffimaaJFnOnWayOnWay

/- Plain law of WaysTo: how the numbers of ways grow, state by state; no program in sight. -/
namespace Go.Proofs.Ytdbgoekemffimaa
set_option linter.unusedVariables false
open Go.ChangeShapes Go.WideShapes Go.ChangeAt Go.RowKit

theorem ite_iff {p q : Prop} [Decidable p] [Decidable q] (h : p ↔ q) (a b : Int) : (if p then a else b) = if q then a else b := by simp only [h]
/-- a row of 32 numbers -/
def intsF (f : Nat → Int) : List Int := (List.range 32).map f
theorem intsF_len (f : Nat → Int) : (intsF f).length = 32 := by simp [intsF]
theorem intsF_at (f : Nat → Int) (s : Nat) (h : s < 32) : (intsF f)[s]? = some (f s) := by simp [intsF, h]
theorem intsF_congr {f g : Nat → Int} (h : ∀ s, s < 32 → f s = g s) : intsF f = intsF g := by
  unfold intsF
  exact List.map_congr_left fun s hs => by rw [h s (List.mem_range.1 hs)]
theorem intsF_set (f : Nat → Int) (s : Nat) (x : Int) : (intsF f).set s x = intsF fun i => if i = s then x else f i := by
  refine List.ext_getElem (by simp [intsF]) fun i h1 h2 => ?_
  rw [List.getElem_set]
  simp only [intsF, List.getElem_map, List.getElem_range]
  by_cases e : s = i
  · subst e; simp
  · rw [if_neg e, if_neg (fun h => e h.symm)]
section
variable {ds : List DeedD} {S : Nat → Bool}
theorem layer_near (hd : ∀ d ∈ ds, deedOk d = true) {k s s' : Nat} {d : DeedD} (hs : s < 32) (hk : stpV ds S s = ((k + 1 : Nat) : Int)) (hm : d ∈ ds) (e : deedDo d s = some s') (h : ¬ stpV ds S s' = (k : Int)) : layer ds S k s' = false := by
  cases hl : layer ds S k s' with
  | false => rfl
  | true =>
    exfalso
    have hk32 := stpV_le hd hs (S := S)
    have h1 : layer ds S 32 s' = true := layer_mono (by omega) hl
    obtain ⟨j, hj, h2, -, h4⟩ := stpN_at h1
    have hjk : j ≤ k := by
      rcases Nat.lt_or_ge k j with hlt | hge
      · have := h4 k hlt; rw [hl] at this; cases this
      · exact hge
    have h5 := stpV_back hd hs hm e (S := S) (by show 0 ≤ stpN ds S 32 s'; omega)
    have : stpV ds S s' = (j : Int) := h2
    omega
def baseW (ds : List DeedD) (S : Nat → Bool) (m st s : Nat) : Int := if 0 ≤ stpV ds S s ∧ (stpV ds S s < m ∨ (stpV ds S s = m ∧ s < st)) then wrap (waysN ds S (stpV ds S s).toNat s) else 0
def midW (ds : List DeedD) (S : Nat → Bool) (m st : Nat) (x : Int) (s : Nat) : Int := if s = st then x else baseW ds S m st s
def termW (ds : List DeedD) (S : Nat → Bool) (m st : Nat) (d : DeedD) : Int := match deedDo d st with
  | some s' => if stpV ds S s' + 1 = m then waysN ds S (m - 1) s' else 0
  | none => 0
theorem termW_none {m st : Nat} {d : DeedD} (e : deedDo d st = none) : termW ds S m st d = 0 := by unfold termW; rw [e]
theorem termW_some {m st q : Nat} {d : DeedD} (e : deedDo d st = some q) : termW ds S m st d = if stpV ds S q + 1 = m then waysN ds S (m - 1) q else 0 := by unfold termW; rw [e]
theorem baseW_zero (s : Nat) : baseW ds S 0 0 s = 0 := if_neg (by omega)
theorem baseW_skip {m st : Nat} (h : stpV ds S st ≠ m) (s : Nat) : baseW ds S m (st + 1) s = baseW ds S m st s := by
  unfold baseW
  by_cases e : s = st
  · subst e
    by_cases h1 : 0 ≤ stpV ds S s ∧ stpV ds S s < m
    · rw [if_pos ⟨h1.1, .inl h1.2⟩, if_pos ⟨h1.1, .inl h1.2⟩]
    · rw [if_neg (fun hh => hh.2.elim (fun h2 => h1 ⟨hh.1, h2⟩) fun h2 => h h2.1), if_neg (fun hh => hh.2.elim (fun h2 => h1 ⟨hh.1, h2⟩) fun h2 => h h2.1)]
  · exact ite_iff (by omega) _ _
theorem midW_start {m st : Nat} (h : stpV ds S st = m) (s : Nat) : baseW ds S m st s = midW ds S m st 0 s := by
  unfold midW
  by_cases e : s = st
  · subst e; rw [if_pos rfl]; unfold baseW; rw [if_neg (by omega)]
  · rw [if_neg e]
theorem midW_end {m st : Nat} (h : stpV ds S st = m) (s : Nat) : midW ds S m st (wrap (waysN ds S m st)) s = baseW ds S m (st + 1) s := by
  unfold midW
  by_cases e : s = st
  · subst e
    rw [if_pos rfl]
    unfold baseW
    rw [if_pos (by omega), h, Int.toNat_natCast]
  · rw [if_neg e]
    unfold baseW
    exact ite_iff (by omega) _ _
theorem baseW_row {m s : Nat} (hs : s < 32) : baseW ds S m 32 s = baseW ds S (m + 1) 0 s := by
  unfold baseW
  by_cases h : 0 ≤ stpV ds S s ∧ stpV ds S s < ((m + 1 : Nat) : Int)
  · rw [if_pos (by omega), if_pos (by omega)]
  · rw [if_neg (by omega), if_neg (by omega)]
theorem baseW_all (hd : ∀ d ∈ ds, deedOk d = true) {s : Nat} (hs : s < 32) : baseW ds S 32 0 s = if stpV ds S s < 0 then 0 else wrap (waysN ds S (stpV ds S s).toNat s) := by
  have := stpV_le hd hs (S := S)
  unfold baseW
  by_cases h : stpV ds S s < 0
  · rw [if_neg (by omega), if_pos h]
  · rw [if_pos (by omega), if_neg h]
theorem termW_sum (hd : ∀ d ∈ ds, deedOk d = true) {m st : Nat} (hs : st < 32) (h : stpV ds S st = m) (hm : 0 < m) : sumL ds (termW ds S m st) = waysN ds S m st := by
  obtain ⟨k, rfl⟩ : ∃ k, m = k + 1 := ⟨m - 1, by omega⟩
  rw [waysN_succ]
  refine sumL_congr fun d hdm => ?_
  cases e : deedDo d st with
  | none => rw [termW_none e]
  | some s' =>
    rw [termW_some e]
    simp only [Nat.add_sub_cancel]
    by_cases h1 : stpV ds S s' = (k : Int)
    · rw [if_pos (by omega)]
    · rw [if_neg (by omega), ways_short k s' (layer_near hd hs h hdm e h1)]
/-- the number that stands for the state while its deeds are counted -/
def xW (ds : List DeedD) (S : Nat → Bool) (m st j : Nat) : Int := if m = 0 then 1 else wrap (sumL (ds.take j) (termW ds S m st))
theorem xW_start {m st : Nat} (hm : m ≠ 0) : xW ds S m st 0 = 0 := by unfold xW; rw [if_neg hm]; rfl
theorem xW_one {st j : Nat} : xW ds S 0 st j = 1 := if_pos rfl
theorem xW_end (hd : ∀ d ∈ ds, deedOk d = true) {m st : Nat} (hs : st < 32) (h : stpV ds S st = m) : xW ds S m st ds.length = wrap (waysN ds S m st) := by
  unfold xW
  by_cases hm : m = 0
  · subst hm
    rw [if_pos rfl, waysN, if_pos (stpV_zero.1 h)]; rfl
  · rw [if_neg hm, List.take_length, termW_sum hd hs h (by omega)]
theorem xW_same {m st j : Nat} {d : DeedD} (hdj : ds[j]? = some d) (h : termW ds S m st d = 0) : xW ds S m st (j + 1) = xW ds S m st j := by
  unfold xW
  split
  · rfl
  · obtain ⟨h1, h2⟩ := List.getElem?_eq_some_iff.1 hdj
    rw [List.take_succ_eq_append_getElem h1, sumL_snoc, h2, h, Int.add_zero]
theorem xW_add {m st j q : Nat} {d : DeedD} (hdj : ds[j]? = some d) (e : deedDo d st = some q) (hm : m ≠ 0) (h1 : stpV ds S q + 1 = m) (hst : stpV ds S st = m) : xW ds S m st (j + 1) = wrap (xW ds S m st j + midW ds S m st (xW ds S m st j) q) := by
  have hq : q ≠ st := fun h => by subst h; omega
  have h2 : midW ds S m st (xW ds S m st j) q = wrap (waysN ds S (m - 1) q) := by
    unfold midW
    rw [if_neg hq]
    unfold baseW
    rw [if_pos (by omega), show stpV ds S q = ((m - 1 : Nat) : Int) by omega, Int.toNat_natCast]
  rw [h2]
  unfold xW
  rw [if_neg hm, if_neg hm, wrap_wrap]
  obtain ⟨h3, h4⟩ := List.getElem?_eq_some_iff.1 hdj
  rw [List.take_succ_eq_append_getElem h3, sumL_snoc, h4, termW_some e, if_pos h1]
theorem midW_set {m st : Nat} {x y : Int} (s : Nat) : (if s = st then y else midW ds S m st x s) = midW ds S m st y s := by
  unfold midW; split <;> rfl
end
/-- the result of WaysTo -/
def waysTo (t : TaskD) : List Int := if taskOk t then intsF (fun s => if stpV t.deeds (evalCode t.goal) s < 0 then 0 else wrap (waysN t.deeds (evalCode t.goal) (stpV t.deeds (evalCode t.goal) s).toNat s)) else []
end Go.Proofs.Ytdbgoekemffimaa

/- Plain law of the reference's PlansMany: the ways counted forward, step by step; no program in sight. -/
namespace Go.Proofs.Ytdbgoekemffimaa
set_option linter.unusedVariables false

theorem sumR_nonneg {n : Nat} {f : Nat → Int} (h : ∀ i, i < n → 0 ≤ f i) : 0 ≤ sumR n f := by
  induction n with
  | zero => exact Int.le_refl _
  | succ n ih => have := ih fun i hi => h i (by omega); have := h n (by omega); simp only [sumR]; omega
theorem sumR_le_of {n : Nat} {f g : Nat → Int} (h : ∀ i, i < n → f i ≤ g i) : sumR n f ≤ sumR n g := by
  induction n with
  | zero => exact Int.le_refl _
  | succ n ih => have := ih fun i hi => h i (by omega); have := h n (by omega); simp only [sumR]; omega
theorem sumR_up {n m : Nat} {f : Nat → Int} (hnm : n ≤ m) (h : ∀ i, i < m → 0 ≤ f i) : sumR n f ≤ sumR m f := by
  induction m with
  | zero => have : n = 0 := by omega
            subst this; exact Int.le_refl _
  | succ m ih =>
    by_cases e : n = m + 1
    · subst e; exact Int.le_refl _
    · have := ih (by omega) fun i hi => h i (by omega)
      have := h m (by omega)
      simp only [sumR]; omega
theorem sumR_ge {n i : Nat} {f : Nat → Int} (h : ∀ i, i < n → 0 ≤ f i) (hi : i < n) : f i ≤ sumR n f := by
  have h1 := sumR_up (n := i + 1) (m := n) (f := f) (by omega) h
  have h2 := sumR_nonneg (n := i) (f := f) fun j hj => h j (by omega)
  simp only [sumR] at h1; omega
theorem sumL_take_le {α : Type} {l : List α} {f : α → Int} (h : ∀ a ∈ l, 0 ≤ f a) (j : Nat) : sumL (l.take j) f ≤ sumL l f := by
  have e : sumL l f = sumL (l.take j) f + sumL (l.drop j) f := by
    conv => lhs; rw [← List.take_append_drop j l]
    unfold sumL; rw [List.map_append, List.sum_append_int]
  have := sumL_nonneg (l := l.drop j) (f := f) fun a ha => h a (List.mem_of_mem_drop ha)
  omega
section
variable {ds : List DeedD} {S : Nat → Bool} {s0 L : Nat}
def gwN (ds : List DeedD) (S : Nat → Bool) (L s0 : Nat) : Nat → Nat → Int
  | 0, s => if s = s0 then 1 else 0
  | k + 1, s => if stpV ds S s + (k + 1 : Nat) = L then sumR 32 fun s' => sumL ds fun d => if deedDo d s' = some s then gwN ds S L s0 k s' else 0 else 0
theorem gwN_nonneg (k : Nat) : ∀ s, 0 ≤ gwN ds S L s0 k s := by
  induction k with
  | zero => intro s; simp only [gwN]; split <;> omega
  | succ k ih =>
    intro s
    simp only [gwN]
    split
    · exact sumR_nonneg fun s' _ => sumL_nonneg fun d _ => by split; exact ih s'; exact Int.le_refl _
    · exact Int.le_refl _
theorem fwN_nonneg (k : Nat) : ∀ s, 0 ≤ fwN ds s0 k s := by
  induction k with
  | zero => intro s; simp only [fwN]; split <;> omega
  | succ k ih => intro s; simp only [fwN]; exact sumR_nonneg fun s' _ => sumL_nonneg fun d _ => by split; exact ih s'; exact Int.le_refl _
theorem layer_layer (j : Nat) : ∀ k x, layer ds (layer ds S j) k x = true → layer ds S (j + k) x = true := by
  intro k
  induction k with
  | zero => intro x h; exact h
  | succ k ih =>
    intro x h
    simp only [layer, Bool.or_eq_true] at h
    rw [show j + (k + 1) = (j + k) + 1 by omega]
    simp only [layer, Bool.or_eq_true]
    rcases h with h | h
    · exact .inl (ih x h)
    · exact .inr (backP_mono (fun s' hs' => ih s' hs') h)
theorem stp_far {k j s : Nat} (hL : stpV ds S s0 = (L : Int)) (h : fwd ds (only s0) k s = true) (hs : stpV ds S s = (j : Int)) : L ≤ j + k := by
  have h1 : layer ds S j s = true := by
    obtain ⟨i, hi, h2, h3, -⟩ := stpN_at (ds := ds) (S := S) (n := 32) (s := s) (stpN_nonneg.1 (by show 0 ≤ stpV ds S s; omega))
    have h4 : (i : Int) = j := h2.symm.trans hs
    have : i = j := by omega
    subst this; exact h3
  have h5 := layer_layer j k s0 (fwd_layer (layer ds S j) s h h1)
  obtain ⟨i, hi, h2, -, h4⟩ := stpN_at (ds := ds) (S := S) (n := 32) (s := s0) (stpN_nonneg.1 (by show 0 ≤ stpV ds S s0; omega))
  have h6 : (i : Int) = L := h2.symm.trans hL
  have : i = L := by omega
  subst this
  rcases Nat.lt_or_ge (j + k) i with hlt | hge
  · have := h4 _ hlt; rw [h5] at this; cases this
  · exact hge
theorem gwN_is (hd : ∀ d ∈ ds, deedOk d = true) (hL : stpV ds S s0 = (L : Int)) (k : Nat) : k ≤ L → ∀ s, s < 32 → gwN ds S L s0 k s = if stpV ds S s + (k : Nat) = L then fwN ds s0 k s else 0 := by
  induction k with
  | zero =>
    intro _ s hs
    simp only [gwN, fwN]
    by_cases e : s = s0
    · subst e; rw [if_pos rfl, if_pos (by rw [hL]; simp)]
    · rw [if_neg e]; split <;> rfl
  | succ k ih =>
    intro hk s hs
    simp only [gwN]
    split
    · next h1 =>
      simp only [fwN]
      refine sumR_congr fun s' hs' => sumL_congr fun d hdm => ?_
      split
      · next e =>
        rw [ih (by omega) s' hs']
        split
        · rfl
        · next h2 =>
          cases Classical.em (fwN ds s0 k s' = 0) with
          | inl h => rw [h]
          | inr h =>
            exfalso
            have h3 := fwN_fwd h
            have hback := stpV_back hd hs' hdm e (S := S) (by omega)
            obtain ⟨j, hj⟩ := Int.eq_ofNat_of_zero_le hback.1
            have := stp_far hL h3 hj
            omega
      · rfl
    · rfl
theorem gwN_le (hd : ∀ d ∈ ds, deedOk d = true) (h0 : s0 < 32) (hL : stpV ds S s0 = (L : Int)) {k s : Nat} (hs : s < 32) (hk : k ≤ L) : gwN ds S L s0 k s ≤ waysN ds S L s0 := by
  rw [gwN_is hd hL k hk s hs]
  split
  · next h =>
    have h1 := count_both (S := S) hd h0 k (L - k)
    rw [show k + (L - k) = L by omega] at h1
    have h2 := ways_pos (S := S) hd (L - k) s hs (by omega)
    have h3 : fwN ds s0 k s * waysN ds S (L - k) s ≤ sumR 32 (fun s => fwN ds s0 k s * waysN ds S (L - k) s) := sumR_ge (n := 32) (i := s) (f := fun s => fwN ds s0 k s * waysN ds S (L - k) s) (fun i _ => Int.mul_nonneg (fwN_nonneg k i) (waysN_nonneg _ i)) hs
    rw [h1] at h3
    have h4 : fwN ds s0 k s * 1 ≤ fwN ds s0 k s * waysN ds S (L - k) s := Int.mul_le_mul_of_nonneg_left h2 (fwN_nonneg k s)
    omega
  · exact waysN_nonneg _ _
theorem gwN_sum (hd : ∀ d ∈ ds, deedOk d = true) (h0 : s0 < 32) (hL : stpV ds S s0 = (L : Int)) : sumR 32 (gwN ds S L s0 L) = waysN ds S L s0 := by
  rw [← count_goal hd h0 L]
  refine sumR_congr fun s hs => ?_
  rw [gwN_is hd hL L (Nat.le_refl _) s hs]
  refine ite_iff ?_ _ _
  rw [← stpV_zero (ds := ds)]
  omega
/-- what the deed of a state adds -/
def addG (ds : List DeedD) (S : Nat → Bool) (L s0 k s' s : Nat) (d : DeedD) : Int := if stpV ds S s + (k + 1 : Nat) = L ∧ deedDo d s' = some s then gwN ds S L s0 k s' else 0
def partG (ds : List DeedD) (S : Nat → Bool) (L s0 k st j s : Nat) : Int := sumR st (fun s' => sumL ds (addG ds S L s0 k s' s)) + sumL (ds.take j) (addG ds S L s0 k st s)
theorem addG_nonneg (k s' s : Nat) (d : DeedD) : 0 ≤ addG ds S L s0 k s' s d := by unfold addG; split; exact gwN_nonneg k s'; exact Int.le_refl _
theorem partG_start (k s : Nat) : partG ds S L s0 k 0 0 s = 0 := rfl
theorem partG_row (k st s : Nat) : partG ds S L s0 k st ds.length s = partG ds S L s0 k (st + 1) 0 s := by
  unfold partG; rw [List.take_length]; simp only [sumR, List.take_zero, sumL_nil, Int.add_zero]
theorem partG_skip {k st : Nat} (h : gwN ds S L s0 k st = 0) (s : Nat) : partG ds S L s0 k st 0 s = partG ds S L s0 k (st + 1) 0 s := by
  rw [← partG_row]
  unfold partG
  rw [sumL_zero (l := ds.take ds.length) fun d _ => by unfold addG; rw [h]; split <;> rfl]
  rfl
theorem partG_skip' {k st : Nat} (h : gwN ds S L s0 k st = 0) (j s : Nat) : partG ds S L s0 k st j s = partG ds S L s0 k (st + 1) 0 s := by
  rw [← partG_skip h]
  unfold partG
  rw [sumL_zero (l := ds.take j) fun d _ => by unfold addG; rw [h]; split <;> rfl]
  rfl
theorem partG_all (k s : Nat) : partG ds S L s0 k 32 0 s = gwN ds S L s0 (k + 1) s := by
  unfold partG
  simp only [gwN, List.take_zero, sumL_nil, Int.add_zero]
  split
  · next h => exact sumR_congr fun s' _ => sumL_congr fun d _ => by unfold addG; exact ite_iff ⟨fun h => h.2, fun h' => ⟨h, h'⟩⟩ _ _
  · next h => exact sumR_zero fun s' _ => sumL_zero fun d _ => by unfold addG; rw [if_neg (fun h' => h h'.1)]
theorem partG_no {k st j s : Nat} {d : DeedD} (hdj : ds[j]? = some d) (h : deedDo d st = some s → stpV ds S s + (k + 1 : Nat) ≠ L) : partG ds S L s0 k st (j + 1) s = partG ds S L s0 k st j s := by
  unfold partG
  obtain ⟨h1, h2⟩ := List.getElem?_eq_some_iff.1 hdj
  rw [List.take_succ_eq_append_getElem h1, sumL_snoc, h2]
  have : addG ds S L s0 k st s d = 0 := if_neg fun h' => h h'.2 h'.1
  rw [this, Int.add_zero]
theorem partG_yes {k st j s : Nat} {d : DeedD} (hdj : ds[j]? = some d) (e : deedDo d st = some s) (h : stpV ds S s + (k + 1 : Nat) = L) : partG ds S L s0 k st (j + 1) s = partG ds S L s0 k st j s + gwN ds S L s0 k st := by
  unfold partG
  obtain ⟨h1, h2⟩ := List.getElem?_eq_some_iff.1 hdj
  rw [List.take_succ_eq_append_getElem h1, sumL_snoc, h2, Int.add_assoc]
  have : addG ds S L s0 k st s d = gwN ds S L s0 k st := if_pos ⟨h, e⟩
  rw [this]
theorem partG_nonneg (k st j s : Nat) : 0 ≤ partG ds S L s0 k st j s := by
  unfold partG
  have h1 := sumR_nonneg (n := st) (f := fun s' => sumL ds (addG ds S L s0 k s' s)) fun i _ => sumL_nonneg fun d _ => addG_nonneg k i s d
  have h2 := sumL_nonneg (l := ds.take j) (f := addG ds S L s0 k st s) fun d _ => addG_nonneg k st s d
  omega
theorem partG_le {k st j s : Nat} (hst : st < 32) : partG ds S L s0 k st j s ≤ gwN ds S L s0 (k + 1) s := by
  rw [← partG_all]
  unfold partG
  simp only [List.take_zero, sumL_nil, Int.add_zero]
  have h1 : sumR st (fun s' => sumL ds (addG ds S L s0 k s' s)) + sumL ds (addG ds S L s0 k st s) ≤ sumR 32 (fun s' => sumL ds (addG ds S L s0 k s' s)) := sumR_up (n := st + 1) (m := 32) (f := fun s' => sumL ds (addG ds S L s0 k s' s)) (by omega) fun i _ => sumL_nonneg fun d _ => addG_nonneg k i s d
  have h2 := sumL_take_le (l := ds) (f := addG ds S L s0 k st s) (fun d _ => addG_nonneg k st s d) j
  omega
end
end Go.Proofs.Ytdbgoekemffimaa

/- Plain law: every state that the shortest plan comes through lies on the way; no program in sight. -/
namespace Go.Proofs.Ytdbgoekemffimaa
set_option linter.unusedVariables false

theorem fwd_shift {ds : List DeedD} {d : DeedD} {s s1 : Nat} (hm : d ∈ ds) (hs : s < 32) (e : deedDo d s = some s1) (k : Nat) : ∀ x, fwd ds (only s1) k x = true → fwd ds (only s) (k + 1) x = true := by
  induction k with
  | zero =>
    intro x h
    have hx : s1 = x := by simpa [fwd, only] using h
    subst hx
    have : fwdP ds (only s) s1 = true := fwdP_iff.2 ⟨s, hs, by simp [only], d, hm, e⟩
    simp [fwd, this]
  | succ k ih =>
    intro x h
    rw [show fwd ds (only s1) (k + 1) x = (fwd ds (only s1) k x || fwdP ds (fwd ds (only s1) k) x) from rfl, Bool.or_eq_true] at h
    rcases h with h | h
    · exact fwd_succ (ih x h)
    · obtain ⟨s', hs', h1, h2⟩ := fwdP_iff.1 h
      have : fwdP ds (fwd ds (only s) (k + 1)) x = true := fwdP_iff.2 ⟨s', hs', ih s' h1, h2⟩
      rw [show fwd ds (only s) (k + 1 + 1) x = (fwd ds (only s) (k + 1) x || fwdP ds (fwd ds (only s) (k + 1)) x) from rfl, this, Bool.or_true]
theorem walk_mid (t : TaskD) (hd : ∀ d ∈ t.deeds, deedOk d = true) (S : Nat → Bool) (n : Nat) : ∀ k, k ≤ n → ∀ s, s < 32 → stpV t.deeds S s = (n : Int) → ∃ s', runP t s ((walkP t.deeds S n s).take k) = some s' ∧ s' < 32 ∧ stpV t.deeds S s' = ((n - k : Nat) : Int) ∧ fwd t.deeds (only s) k s' = true := by
  induction n with
  | zero =>
    intro k hk s hs h
    have : k = 0 := by omega
    subst this
    exact ⟨s, rfl, hs, h, by simp [fwd, only]⟩
  | succ n ih =>
    intro k hk s hs h
    cases k with
    | zero => exact ⟨s, rfl, hs, h, by simp [fwd, only]⟩
    | succ k =>
      obtain ⟨d, hm, s1, e, hs1, h1⟩ := stpV_next hd hs h
      obtain ⟨j, s', h2, h3, h4, h5⟩ := pick_some (f := fun s' => stpV t.deeds S s' == (n : Int)) (s := s) (ds := t.deeds) (k := 0) ⟨d, hm, s1, e, by simpa using h1⟩
      have hv : stpV t.deeds S s' = (n : Int) := by simpa using h4
      obtain ⟨x, hx, h6⟩ := Option.bind_eq_some_iff.1 h3
      have hs' : s' < 32 := deedDo_lt x s s' (hd x (List.mem_of_getElem? hx)) hs h6
      obtain ⟨s2, k1, k2, k3, k4⟩ := ih k (by omega) s' hs' hv
      rw [Nat.zero_add] at h2
      simp only [walkP, h2]
      refine ⟨s2, ?_, k2, by rw [k3]; congr 1; omega, fwd_shift (List.mem_of_getElem? hx) hs h6 k s2 k4⟩
      rw [List.take_succ_cons]
      simp only [runP, stepP]
      rw [if_pos ⟨by omega, by omega⟩, Int.toNat_natCast, h3]
      exact k1
theorem walk_on (t : TaskD) (hd : ∀ d ∈ t.deeds, deedOk d = true) (S : Nat → Bool) {L k s0 : Nat} (hk : k ≤ L) (h0 : s0 < 32) (hL : stpV t.deeds S s0 = (L : Int)) : ∃ s', runP t s0 ((walkP t.deeds S L s0).take k) = some s' ∧ s' < 32 ∧ onP t.deeds S s0 s' = true := by
  obtain ⟨s', h1, h2, h3, h4⟩ := walk_mid t hd S L k hk s0 h0 hL
  have hL31 := (stpV_le hd h0 (S := S)).2
  refine ⟨s', h1, h2, ?_⟩
  obtain ⟨h5, h6⟩ := dstV_of h2 h4 (by omega)
  obtain ⟨j, hj⟩ := Int.eq_ofNat_of_zero_le h5
  have h7 := stp_far hL (dstV_fwd hj) h3
  unfold onP
  rw [decide_eq_true_eq, hL, h3, hj]
  rw [hj] at h6
  omega
theorem mset_and_sub {p q : Nat → Bool} (h : ∀ s, s < 32 → p s = true → q s = true) : mset p 32 &&& mset q 32 = mset p 32 := by
  refine Nat.eq_of_testBit_eq fun k => ?_
  rw [Nat.testBit_and, testBit_mset, testBit_mset]
  by_cases hk : k < 32
  · rw [decide_eq_true hk, Bool.true_and, Bool.true_and]
    cases e : p k with
    | false => rfl
    | true => rw [h k hk e]; rfl
  · rw [decide_eq_false hk]; simp
theorem on_reached (t : TaskD) (S : Nat → Bool) {s0 : Nat} : mset (onP t.deeds S s0) 32 &&& mset (fwd t.deeds (only s0) 32) 32 = mset (onP t.deeds S s0) 32 :=
  mset_and_sub fun s hs h => by
    unfold onP at h
    rw [decide_eq_true_eq] at h
    exact dstN_nonneg.1 h.2.1
theorem on_leads (t : TaskD) (S : Nat → Bool) {s0 : Nat} : mset (onP t.deeds S s0) 32 &&& mset (layer t.deeds S 32) 32 = mset (onP t.deeds S s0) 32 :=
  mset_and_sub fun s hs h => by
    unfold onP at h
    rw [decide_eq_true_eq] at h
    exact stpN_nonneg.1 h.2.2.1
theorem on_none (t : TaskD) (S : Nat → Bool) {s0 : Nat} (h : stpV t.deeds S s0 < 0) : mset (onP t.deeds S s0) 32 = 0 := mset_zero.2 fun s hs => by
  unfold onP
  rw [decide_eq_false_iff_not]
  omega
theorem on_some (t : TaskD) (hd : ∀ d ∈ t.deeds, deedOk d = true) (S : Nat → Bool) {L s0 : Nat} (h0 : s0 < 32) (hL : stpV t.deeds S s0 = (L : Int)) : 0 < mset (onP t.deeds S s0) 32 := by
  obtain ⟨s', h1, h2, h3⟩ := walk_on t hd S (k := 0) (Nat.zero_le L) h0 hL
  rcases Nat.eq_zero_or_pos (mset (onP t.deeds S s0) 32) with h | h
  · have := mset_zero.1 h s' h2
    rw [h3] at this; cases this
  · exact h
end Go.Proofs.Ytdbgoekemffimaa
