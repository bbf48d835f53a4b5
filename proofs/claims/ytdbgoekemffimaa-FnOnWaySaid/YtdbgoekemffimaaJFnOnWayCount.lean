/- Plain law: ways counted forward, state by state, are as many as counted backward; no program in sight. -/
import Derived.Test.YtdbgoekemffimaaJFnOnWayStepsOn
namespace Go.Proofs.Ytdbgoekemffimaa
set_option linter.unusedVariables false

def sumR : Nat → (Nat → Int) → Int
  | 0, _ => 0
  | n + 1, f => sumR n f + f n
theorem sumR_congr {n : Nat} {f g : Nat → Int} (h : ∀ i, i < n → f i = g i) : sumR n f = sumR n g := by
  induction n with
  | zero => rfl
  | succ n ih => simp only [sumR]; rw [ih fun i hi => h i (by omega), h n (by omega)]
theorem sumR_zero {n : Nat} {f : Nat → Int} (h : ∀ i, i < n → f i = 0) : sumR n f = 0 := by
  induction n with
  | zero => rfl
  | succ n ih => simp only [sumR]; rw [ih fun i hi => h i (by omega), h n (by omega)]; rfl
theorem sumR_add (n : Nat) (f g : Nat → Int) : sumR n (fun i => f i + g i) = sumR n f + sumR n g := by
  induction n with
  | zero => rfl
  | succ n ih => simp only [sumR]; rw [ih]; omega
theorem sumR_mul (n : Nat) (f : Nat → Int) (c : Int) : sumR n (fun i => f i * c) = sumR n f * c := by
  induction n with
  | zero => simp [sumR]
  | succ n ih => simp only [sumR]; rw [ih, Int.add_mul]
theorem sumR_swap (n m : Nat) (f : Nat → Nat → Int) : sumR n (fun i => sumR m (fun j => f i j)) = sumR m (fun j => sumR n (fun i => f i j)) := by
  induction n with
  | zero => simp only [sumR]; rw [sumR_zero fun _ _ => rfl]
  | succ n ih => simp only [sumR]; rw [ih, sumR_add]
theorem sumR_one (n k : Nat) (f : Nat → Int) (hk : k < n) : sumR n (fun i => if i = k then f i else 0) = f k := by
  induction n with
  | zero => omega
  | succ n ih =>
    simp only [sumR]
    by_cases h : k = n
    · subst h
      rw [sumR_zero fun i hi => if_neg (by omega), if_pos rfl]; omega
    · rw [ih (by omega), if_neg (by omega)]; omega
def sumL {α : Type} (l : List α) (f : α → Int) : Int := (l.map f).sum
theorem sumL_nil {α : Type} (f : α → Int) : sumL [] f = 0 := rfl
theorem sumL_cons {α : Type} (a : α) (l : List α) (f : α → Int) : sumL (a :: l) f = f a + sumL l f := rfl
theorem sumL_snoc {α : Type} (l : List α) (a : α) (f : α → Int) : sumL (l ++ [a]) f = sumL l f + f a := by
  induction l with
  | nil => simp [sumL]
  | cons b l ih => rw [List.cons_append, sumL_cons, sumL_cons, ih]; omega
theorem sumL_congr {α : Type} {l : List α} {f g : α → Int} (h : ∀ a ∈ l, f a = g a) : sumL l f = sumL l g := by unfold sumL; rw [List.map_congr_left h]
theorem sumL_zero {α : Type} {l : List α} {f : α → Int} (h : ∀ a ∈ l, f a = 0) : sumL l f = 0 := by
  induction l with
  | nil => rfl
  | cons b l ih => rw [sumL_cons, h b (List.mem_cons_self ..), ih fun a ha => h a (List.mem_cons_of_mem _ ha)]; rfl
theorem sumL_mul {α : Type} (l : List α) (f : α → Int) (c : Int) : sumL l (fun a => f a * c) = sumL l f * c := by
  induction l with
  | nil => simp [sumL]
  | cons b l ih => rw [sumL_cons, sumL_cons, ih, Int.add_mul]
theorem sumR_sumL {α : Type} (n : Nat) (l : List α) (f : Nat → α → Int) : sumR n (fun i => sumL l (f i)) = sumL l (fun a => sumR n (fun i => f i a)) := by
  induction l with
  | nil => simp only [sumL_nil]; rw [sumR_zero fun _ _ => rfl]
  | cons b l ih => simp only [sumL_cons]; rw [sumR_add, ih]

/-- in how many ways n deeds lead from s0 to s -/
def fwN (ds : List DeedD) (s0 : Nat) : Nat → Nat → Int
  | 0, s => if s = s0 then 1 else 0
  | n + 1, s => sumR 32 fun s' => sumL ds fun d => if deedDo d s' = some s then fwN ds s0 n s' else 0
theorem waysN_succ (ds : List DeedD) (S : Nat → Bool) (n s : Nat) : waysN ds S (n + 1) s = sumL ds fun d => match deedDo d s with
    | some s' => waysN ds S n s'
    | none => 0 := rfl
section
variable {ds : List DeedD} {S : Nat → Bool} {s0 : Nat}
theorem count_both (hd : ∀ d ∈ ds, deedOk d = true) (h0 : s0 < 32) (n : Nat) : ∀ m, sumR 32 (fun s => fwN ds s0 n s * waysN ds S m s) = waysN ds S (n + m) s0 := by
  induction n with
  | zero =>
    intro m
    rw [Nat.zero_add, ← sumR_one 32 s0 (fun s => waysN ds S m s) h0]
    refine sumR_congr fun s _ => ?_
    simp only [fwN]
    split <;> simp
  | succ n ih =>
    intro m
    rw [show n + 1 + m = n + (m + 1) by omega, ← ih (m + 1)]
    have h1 : ∀ s, s < 32 → fwN ds s0 (n + 1) s * waysN ds S m s = sumR 32 fun s' => sumL ds fun d => (if deedDo d s' = some s then fwN ds s0 n s' else 0) * waysN ds S m s := fun s _ => by
      simp only [fwN]
      rw [← sumR_mul]
      exact sumR_congr fun s' _ => by rw [sumL_mul]
    rw [sumR_congr h1, sumR_swap]
    refine sumR_congr fun s' hs' => ?_
    rw [sumR_sumL, waysN_succ, Int.mul_comm, ← sumL_mul]
    refine sumL_congr fun d hdm => ?_
    cases e : deedDo d s' with
    | none => simp only [reduceCtorEq, if_false, Int.zero_mul]; exact sumR_zero fun _ _ => rfl
    | some q =>
      have hq := deedDo_lt d s' q (hd d hdm) hs' e
      simp only [Option.some.injEq]
      rw [Int.mul_comm, ← sumR_one 32 q (fun s => fwN ds s0 n s' * waysN ds S m s) hq]
      refine sumR_congr fun s _ => ?_
      by_cases hqs : q = s
      · subst hqs; simp
      · rw [if_neg hqs, if_neg (fun h => hqs h.symm), Int.zero_mul]
theorem count_goal (hd : ∀ d ∈ ds, deedOk d = true) (h0 : s0 < 32) (n : Nat) : sumR 32 (fun s => if S s then fwN ds s0 n s else 0) = waysN ds S n s0 := by
  have hb := count_both (S := S) hd h0 n 0
  rw [Nat.add_zero] at hb
  rw [← hb]
  refine sumR_congr fun s _ => ?_
  simp only [waysN]
  split <;> simp
/-! ### distances -/
theorem fwN_fwd {n s : Nat} (h : fwN ds s0 n s ≠ 0) : fwd ds (only s0) n s = true := by
  induction n generalizing s with
  | zero =>
    simp only [fwN] at h
    by_cases e : s = s0
    · subst e; simp [fwd, only]
    · rw [if_neg e] at h; exact absurd rfl h
  | succ n ih =>
    simp only [fwN] at h
    by_cases hx : ∃ s', s' < 32 ∧ ∃ d ∈ ds, deedDo d s' = some s ∧ fwN ds s0 n s' ≠ 0
    · obtain ⟨s', hs', d, hd, e, hne⟩ := hx
      have := fwdP_iff.2 ⟨s', hs', ih hne, d, hd, e⟩
      simp [fwd, this]
    · refine absurd (sumR_zero fun s' hs' => sumL_zero fun d hd => ?_) h
      split
      · next e => exact Classical.byContradiction fun hne => hx ⟨s', hs', d, hd, e, hne⟩
      · rfl
theorem dstV_of {n s : Nat} (hs : s < 32) (h : fwd ds (only s0) n s = true) (hn : n ≤ 32) : 0 ≤ dstV ds (only s0) s ∧ dstV ds (only s0) s ≤ n := by
  obtain ⟨k, h1, h2, h3, h4⟩ := dstN_at (fwd_mono hn h)
  have e : dstV ds (only s0) s = (k : Int) := h2
  have hk : k ≤ n := Classical.byContradiction fun hc => by rw [h4 n (by omega)] at h; cases h
  omega
theorem dstV_fwd {s k : Nat} (h : dstV ds (only s0) s = (k : Int)) : fwd ds (only s0) k s = true := by
  have hl : fwd ds (only s0) 32 s = true := dstN_nonneg.1 (by have : dstN ds (only s0) 32 s = _ := h; omega)
  obtain ⟨j, h1, h2, h3, -⟩ := dstN_at hl
  have : j = k := by have : dstN ds (only s0) 32 s = _ := h; omega
  subst this; exact h3
theorem dstV_step (hd : ∀ d ∈ ds, deedOk d = true) {s q : Nat} (hs : s < 32) {d : DeedD} (hm : d ∈ ds) (e : deedDo d s = some q) (h : 0 ≤ dstV ds (only s0) s) : 0 ≤ dstV ds (only s0) q ∧ dstV ds (only s0) q ≤ dstV ds (only s0) s + 1 := by
  obtain ⟨k, hk⟩ := Int.eq_ofNat_of_zero_le h
  have hle := dstV_le (ds := ds) (S := only s0) hs
  have h1 := dstV_fwd hk
  have h2 : fwd ds (only s0) (k + 1) q = true := by simp [fwd, fwdP_iff.2 ⟨s, hs, h1, d, hm, e⟩]
  have := dstV_of (deedDo_lt d s q (hd d hm) hs e) h2 (by omega)
  omega
theorem layer_back {n x : Nat} : layer ds (backP ds S) n x = true → layer ds S (n + 1) x = true := by
  induction n generalizing x with
  | zero => intro h; simp only [layer] at h ⊢; rw [h]; simp
  | succ n ih =>
    intro h
    simp only [layer, Bool.or_eq_true] at h
    rcases h with h | h
    · exact layer_succ (ih h)
    · have := backP_mono (T := layer ds S (n + 1)) (fun s' h' => ih h') h
      show (layer ds S (n + 1) x || backP ds (layer ds S (n + 1)) x) = true
      rw [this]; simp
theorem fwd_layer {n : Nat} : ∀ (S : Nat → Bool) (s : Nat), fwd ds (only s0) n s = true → S s = true → layer ds S n s0 = true := by
  induction n with
  | zero =>
    intro S s h hS
    have : s0 = s := by simpa [fwd, only] using h
    rw [this]; exact hS
  | succ n ih =>
    intro S s h hS
    simp only [fwd, Bool.or_eq_true] at h
    rcases h with h | h
    · exact layer_succ (ih S s h hS)
    · obtain ⟨s', hs', h', d, hdm, e⟩ := fwdP_iff.1 h
      exact layer_back (ih (backP ds S) s' h' (backP_iff.2 ⟨d, hdm, s, e, hS⟩))
/-- a state of the end is not nearer than the least number of deeds -/
theorem dst_goal {L s k : Nat} (hL : stpV ds S s0 = (L : Int)) (hS : S s = true) (h : fwd ds (only s0) k s = true) (hk : k ≤ 32) : L ≤ k := by
  obtain ⟨j, h1, h2, h3, h4⟩ := stpN_at (layer_mono hk (fwd_layer S s h hS))
  have hj : j = L := by have : stpN ds S 32 s0 = _ := hL; omega
  subst hj
  exact Classical.byContradiction fun hc => by have h5 := h4 k (by omega); rw [fwd_layer S s h hS] at h5; cases h5
end
/-! ### the rounds of the program -/
def wrap (x : Int) : Int := (x + 9223372036854775808) % 18446744073709551616 - 9223372036854775808
theorem wrap_wrap (x y : Int) : wrap (wrap x + wrap y) = wrap (x + y) := by unfold wrap; omega
theorem wrap_left (x y : Int) : wrap (wrap x + y) = wrap (x + y) := by unfold wrap; omega
theorem wrap_0 : wrap 0 = 0 := rfl
theorem wrap_1 : wrap 1 = 1 := rfl
theorem wrap_bd (x : Int) : -9223372036854775808 ≤ wrap x ∧ wrap x ≤ 9223372036854775807 := by unfold wrap; omega
/-- what the deed d adds from s' on to s in the round k -/
def addN (ds : List DeedD) (s0 k : Nat) (s' s : Nat) (d : DeedD) : Int := if dstV ds (only s0) s' = (k : Int) ∧ deedDo d s' = some s then fwN ds s0 k s' else 0
/-- ways in the round k, behind st states and the first j deeds of the next -/
def partN (ds : List DeedD) (s0 k st j s : Nat) : Int := sumR st (fun s' => sumL ds (addN ds s0 k s' s)) + sumL (ds.take j) (addN ds s0 k st s)
def waysW (ds : List DeedD) (s0 k st j s : Nat) : Int :=
  if dstV ds (only s0) s = ((k + 1 : Nat) : Int) then wrap (partN ds s0 k st j s) else if 0 ≤ dstV ds (only s0) s ∧ dstV ds (only s0) s ≤ k then wrap (fwN ds s0 (dstV ds (only s0) s).toNat s) else 0
section
variable {ds : List DeedD} {S : Nat → Bool} {s0 : Nat}
theorem waysW_start (h0 : s0 < 32) {s : Nat} (hs : s < 32) : waysW ds s0 0 0 0 s = if s = s0 then 1 else 0 := by
  unfold waysW partN
  simp only [sumR, List.take_zero, sumL_nil, Int.add_zero]
  by_cases e : s = s0
  · subst e
    have h1 := dstV_of (ds := ds) (s0 := s) (n := 0) hs (by simp [fwd, only]) (by omega)
    have hz : dstV ds (only s) s = 0 := by omega
    rw [if_neg (by omega), if_pos (by omega), if_pos rfl, hz]
    simp [fwN, wrap_1]
  · rw [if_neg e]
    by_cases h1 : dstV ds (only s0) s = ((0 + 1 : Nat) : Int)
    · rw [if_pos h1]; rfl
    · rw [if_neg h1]
      by_cases h2 : 0 ≤ dstV ds (only s0) s ∧ dstV ds (only s0) s ≤ (0 : Nat)
      · have hz : dstV ds (only s0) s = ((0 : Nat) : Int) := by omega
        have := dstV_fwd hz
        have : s0 = s := by simpa [fwd, only] using this
        exact absurd this.symm e
      · rw [if_neg h2]
theorem waysW_row {k st s : Nat} : waysW ds s0 k st ds.length s = waysW ds s0 k (st + 1) 0 s := by
  unfold waysW partN
  rw [List.take_length, List.take_zero, sumL_nil]
  simp only [sumR, Int.add_zero]
theorem waysW_round (hd : ∀ d ∈ ds, deedOk d = true) {k s : Nat} (hs : s < 32) : waysW ds s0 k 32 0 s = waysW ds s0 (k + 1) 0 0 s := by
  unfold waysW
  by_cases h1 : dstV ds (only s0) s = ((k + 1 : Nat) : Int)
  · rw [if_pos h1, if_neg (by omega), if_pos (by omega), h1, Int.toNat_natCast]
    unfold partN
    rw [List.take_zero, sumL_nil, Int.add_zero]
    simp only [fwN]
    congr 1
    refine sumR_congr fun s' hs' => sumL_congr fun d hm => ?_
    unfold addN
    by_cases e : deedDo d s' = some s
    · rw [if_pos e]
      by_cases hk : dstV ds (only s0) s' = (k : Int)
      · rw [if_pos ⟨hk, e⟩]
      · rw [if_neg (fun h => hk h.1)]
        refine Classical.byContradiction fun hne => ?_
        have hf := fwN_fwd (fun h => hne h.symm)
        have hle := dstV_le (ds := ds) (S := only s0) hs
        have h2 := dstV_of hs' hf (by omega)
        have h3 := dstV_step hd hs' hm e h2.1
        omega
    · rw [if_neg e, if_neg (fun h => e h.2)]
  · rw [if_neg h1]
    by_cases h2 : dstV ds (only s0) s = ((k + 1 + 1 : Nat) : Int)
    · rw [if_pos h2, if_neg (by omega)]
      unfold partN
      simp [sumR, sumL_nil, wrap_0]
    · rw [if_neg h2]
      by_cases h3 : 0 ≤ dstV ds (only s0) s ∧ dstV ds (only s0) s ≤ k
      · rw [if_pos h3, if_pos (by omega)]
      · rw [if_neg h3, if_neg (by omega)]
/-- the deed at j adds nothing -/
theorem waysW_no {k st j s : Nat} {d : DeedD} (hdj : ds[j]? = some d) (h : dstV ds (only s0) st = (k : Int) → deedDo d st = some s → dstV ds (only s0) s ≠ ((k + 1 : Nat) : Int)) : waysW ds s0 k st (j + 1) s = waysW ds s0 k st j s := by
  unfold waysW
  by_cases h1 : dstV ds (only s0) s = ((k + 1 : Nat) : Int)
  · rw [if_pos h1, if_pos h1]
    unfold partN
    obtain ⟨a1, a2⟩ := List.getElem?_eq_some_iff.1 hdj
    rw [List.take_succ_eq_append_getElem a1, a2, sumL_snoc]
    have : addN ds s0 k st s d = 0 := if_neg fun hh => h hh.1 hh.2 h1
    rw [this, Int.add_zero]
  · rw [if_neg h1, if_neg h1]
/-- the deed at j adds the ways of st -/
theorem waysW_yes {k st j s : Nat} {d : DeedD} (hdj : ds[j]? = some d) (hk : dstV ds (only s0) st = (k : Int)) (e : deedDo d st = some s) (h1 : dstV ds (only s0) s = ((k + 1 : Nat) : Int)) : waysW ds s0 k st (j + 1) s = wrap (waysW ds s0 k st j s + wrap (fwN ds s0 k st)) := by
  unfold waysW
  rw [if_pos h1, if_pos h1]
  unfold partN
  obtain ⟨a1, a2⟩ := List.getElem?_eq_some_iff.1 hdj
  rw [List.take_succ_eq_append_getElem a1, a2, sumL_snoc]
  have : addN ds s0 k st s d = fwN ds s0 k st := if_pos ⟨hk, e⟩
  rw [this, wrap_wrap, Int.add_assoc]
theorem waysW_here {k st j : Nat} (hk : dstV ds (only s0) st = (k : Int)) (st' j' : Nat) : waysW ds s0 k st' j' st = wrap (fwN ds s0 k st) := by
  unfold waysW
  rw [if_neg (by omega), if_pos (by omega), hk, Int.toNat_natCast]
/-- what is summed in the end -/
theorem ways_sum (hd : ∀ d ∈ ds, deedOk d = true) (h0 : s0 < 32) {L : Nat} (hL : stpV ds S s0 = (L : Int)) : sumR 32 (fun s => if S s = true ∧ dstV ds (only s0) s = (L : Int) then fwN ds s0 L s else 0) = waysN ds S L s0 := by
  rw [← count_goal hd h0 L]
  refine sumR_congr fun s hs => ?_
  cases hS : S s with
  | false => simp
  | true =>
    by_cases h : dstV ds (only s0) s = (L : Int)
    · simp [h]
    · rw [if_neg (fun hh => h hh.2), if_pos rfl]
      refine Classical.byContradiction fun hne => ?_
      have hf := fwN_fwd (fun h => hne h.symm)
      have hLe : stpN ds S 32 s0 ≤ 32 := (stpN_le).2
      have hL32 : L ≤ 32 := by have : stpN ds S 32 s0 = _ := hL; omega
      have h2 := dstV_of hs hf hL32
      obtain ⟨k, hk⟩ := Int.eq_ofNat_of_zero_le h2.1
      have h3 := dst_goal hL hS (dstV_fwd hk) (by omega)
      omega
end
end Go.Proofs.Ytdbgoekemffimaa
