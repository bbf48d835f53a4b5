/- Plain laws of the shadow of a task: layers, their numbers; they prove how many deeds are needed. No program in sight. -/
import Derived.Test.YtkimgdfcgfhibaaDoorSFrom
import Derived.Test.YtkimgdfcgfhibaaDoorSStepsLeast
namespace Go.Proofs.YtkimgdfcgfhibaaDoor
set_option linter.unusedVariables false
set_option linter.unusedSimpArgs false

/-! ### layers that grow, and when each state came first -/
def sqN (L : Nat → Nat → Bool) : Nat → Nat → Int
  | 0, s => if L 0 s then 0 else -1
  | n + 1, s => if L n s then sqN L n s else if L (n + 1) s then ((n + 1 : Nat) : Int) else -1
section
variable {L : Nat → Nat → Bool}
theorem sq_mono (hm : ∀ n s, L n s = true → L (n + 1) s = true) {m n s : Nat} (hmn : m ≤ n) (h : L m s = true) : L n s = true := by
  induction n with
  | zero => have : m = 0 := by omega
            subst this; exact h
  | succ n ih =>
    rcases Nat.lt_or_ge m (n + 1) with h1 | h1
    · exact hm _ _ (ih (by omega))
    · have : m = n + 1 := by omega
      subst this; exact h
theorem sqN_neg (hm : ∀ n s, L n s = true → L (n + 1) s = true) {n s : Nat} (h : L n s = false) : sqN L n s = -1 := by
  cases n with
  | zero => simp [sqN, h]
  | succ n =>
    have h1 : L n s = false := by
      cases e : L n s with
      | false => rfl
      | true => rw [hm n s e] at h; cases h
    simp [sqN, h, h1]
theorem sqN_at (hm : ∀ n s, L n s = true → L (n + 1) s = true) {n s : Nat} (h : L n s = true) : ∃ k, k ≤ n ∧ sqN L n s = (k : Int) ∧ L k s = true ∧ ∀ m, m < k → L m s = false := by
  induction n with
  | zero => exact ⟨0, by omega, by simp [sqN, h], h, fun m hm => by omega⟩
  | succ n ih =>
    cases h1 : L n s with
    | true =>
      obtain ⟨k, a, b, c, d⟩ := ih h1
      exact ⟨k, by omega, by simp [sqN, h1, b], c, d⟩
    | false =>
      refine ⟨n + 1, by omega, by simp [sqN, h, h1], h, fun m hmn => ?_⟩
      cases e : L m s with
      | false => rfl
      | true => rw [sq_mono hm (show m ≤ n by omega) e] at h1; cases h1
theorem sqN_le (hm : ∀ n s, L n s = true → L (n + 1) s = true) {n s : Nat} : -1 ≤ sqN L n s ∧ sqN L n s ≤ n := by
  cases h : L n s with
  | true => obtain ⟨k, a, b, -⟩ := sqN_at hm h; rw [b]; omega
  | false => rw [sqN_neg hm h]; omega
theorem sqN_pos (hm : ∀ n s, L n s = true → L (n + 1) s = true) {n s : Nat} : 0 ≤ sqN L n s ↔ L n s = true := by
  cases h : L n s with
  | true => obtain ⟨k, a, b, -⟩ := sqN_at hm h; rw [b]; simp
  | false => rw [sqN_neg hm h]; simp
/-- it does not grow any more -/
def stillAt (L : Nat → Nat → Bool) (n : Nat) : Prop := ∀ s, s < 32 → L (n + 1) s = true → L n s = true
theorem still_all (hm : ∀ n s, L n s = true → L (n + 1) s = true) (hs : ∀ n, stillAt L n → stillAt L (n + 1)) {n : Nat} (h : stillAt L n) : ∀ m, n ≤ m → stillAt L m := by
  intro m
  induction m with
  | zero => intro h1; have : n = 0 := by omega
            subst this; exact h
  | succ m ih =>
    intro h1
    rcases Nat.lt_or_ge n (m + 1) with h2 | h2
    · exact hs m (ih (by omega))
    · have : n = m + 1 := by omega
      subst this; exact h
theorem still_same (hm : ∀ n s, L n s = true → L (n + 1) s = true) (hs : ∀ n, stillAt L n → stillAt L (n + 1)) {n : Nat} (h : stillAt L n) {m s : Nat} (hnm : n ≤ m) (hs32 : s < 32) : L m s = L n s := by
  induction m with
  | zero => have : n = 0 := by omega
            subst this; rfl
  | succ m ih =>
    rcases Nat.lt_or_ge n (m + 1) with h2 | h2
    · have h3 := still_all hm hs h m (by omega)
      rw [← ih (by omega), Bool.eq_iff_iff]
      exact ⟨h3 s hs32, hm m s⟩
    · have : n = m + 1 := by omega
      subst this; rfl
theorem still_num (hm : ∀ n s, L n s = true → L (n + 1) s = true) (hs : ∀ n, stillAt L n → stillAt L (n + 1)) {n : Nat} (h : stillAt L n) {m s : Nat} (hnm : n ≤ m) (hs32 : s < 32) : sqN L m s = sqN L n s := by
  induction m with
  | zero => have : n = 0 := by omega
            subst this; rfl
  | succ m ih =>
    rcases Nat.lt_or_ge n (m + 1) with h2 | h2
    · have h3 := still_same hm hs h (m := m) (by omega) hs32
      have h4 := still_same hm hs h (m := m + 1) (by omega) hs32
      have h5 := ih (by omega)
      cases e : L n s with
      | true => rw [e] at h3; simp [sqN, h3, h5]
      | false => rw [sqN_neg hm (h4.trans e), sqN_neg hm e]
    · have : n = m + 1 := by omega
      subst this; rfl
theorem sq_grow (hm : ∀ n s, L n s = true → L (n + 1) s = true) {n : Nat} (h : ¬ stillAt L n) : cnt (L n) 32 < cnt (L (n + 1)) 32 := by
  unfold stillAt at h
  have : ∃ s, s < 32 ∧ L (n + 1) s = true ∧ L n s = false := by
    refine Classical.byContradiction fun hn => h fun s hs h1 => ?_
    cases e : L n s with
    | true => rfl
    | false => exact absurd ⟨s, hs, h1, e⟩ hn
  obtain ⟨s, hs, h1, h2⟩ := this
  exact cnt_lt (fun k _ hk => hm n k hk) hs h2 h1
/-- where the first layer is not empty, or the empty one stands still, nothing is added behind 31 -/
theorem still31 (hm : ∀ n s, L n s = true → L (n + 1) s = true) (hs : ∀ n, stillAt L n → stillAt L (n + 1)) (h0 : cnt (L 0) 32 = 0 → stillAt L 0) : stillAt L 31 := by
  refine Classical.byContradiction fun hn => ?_
  have h1 : ∀ m, m ≤ 31 → ¬ stillAt L m := fun m hm31 h => hn (still_all hm hs h 31 hm31)
  have h2 : ∀ m, m ≤ 32 → 1 + m ≤ cnt (L m) 32 := by
    intro m
    induction m with
    | zero => intro _; rcases Nat.eq_zero_or_pos (cnt (L 0) 32) with e | e
              · exact absurd (h0 e) (h1 0 (by omega))
              · omega
    | succ m ih => intro hm32; have := sq_grow hm (h1 m (by omega)); have := ih (by omega); omega
  have := h2 32 (by omega)
  have := cnt_le (L 32) 32
  omega
end
/-! ### the shadow -/
/-- agrees with a state of S in the facts F -/
def agr (F : Nat) (S : Nat → Bool) (s : Nat) : Bool := (List.range 32).any fun o => S o && (s &&& F == o &&& F)
theorem agr_iff {F : Nat} {S : Nat → Bool} {s : Nat} : agr F S s = true ↔ ∃ o, o < 32 ∧ S o = true ∧ s &&& F = o &&& F := by
  unfold agr
  simp only [List.any_eq_true, List.mem_range, Bool.and_eq_true, beq_iff_eq]
theorem agr_mono {F : Nat} {S T : Nat → Bool} {s : Nat} (h : ∀ o, o < 32 → S o = true → T o = true) (k : agr F S s = true) : agr F T s = true := by
  obtain ⟨o, ho, h1, h2⟩ := agr_iff.1 k
  exact agr_iff.2 ⟨o, ho, h o ho h1, h2⟩
def shl (ds : List DeedD) (F : Nat) (S : Nat → Bool) : Nat → Nat → Bool
  | 0, s => agr F S s
  | n + 1, s => shl ds F S n s || agr F (backP ds (shl ds F S n)) s
def shV (ds : List DeedD) (F : Nat) (S : Nat → Bool) (s : Nat) : Int := sqN (shl ds F S) 32 s
section
variable {ds : List DeedD} {F : Nat} {S : Nat → Bool}
theorem shl_up (n s : Nat) (h : shl ds F S n s = true) : shl ds F S (n + 1) s = true := by simp [shl, h]
theorem shl_still (hd : ∀ d ∈ ds, deedOk d = true) (n : Nat) (h : stillAt (shl ds F S) n) : stillAt (shl ds F S) (n + 1) := by
  intro s hs h1
  simp only [shl, Bool.or_eq_true] at h1
  rcases h1 with h1 | h1
  · exact by simp only [shl, Bool.or_eq_true]; exact h1
  · have h2 : agr F (backP ds (shl ds F S n)) s = true := by
      refine agr_mono (fun o ho hb => ?_) h1
      rw [backP_congr hd ho (T := shl ds F S (n + 1)) (fun x hx => ?_)]
      · exact hb
      · rw [Bool.eq_iff_iff]; exact ⟨shl_up n x, h x hx⟩
    simp [shl, h2]
theorem shl_zero (hd : ∀ d ∈ ds, deedOk d = true) (h : cnt (shl ds F S 0) 32 = 0) : stillAt (shl ds F S) 0 := by
  intro s hs h1
  simp only [shl, Bool.or_eq_true] at h1
  rcases h1 with h1 | h1
  · exact h1
  · obtain ⟨o, ho, h2, -⟩ := agr_iff.1 h1
    obtain ⟨d, hm, x, e, hx⟩ := backP_iff.1 h2
    have : 0 < cnt (shl ds F S 0) 32 := cnt_pos.2 ⟨x, deedDo_lt d o x (hd d hm) ho e, hx⟩
    omega
theorem shl31 (hd : ∀ d ∈ ds, deedOk d = true) : stillAt (shl ds F S) 31 := still31 shl_up (shl_still hd) (shl_zero hd)
theorem shV_of (hd : ∀ d ∈ ds, deedOk d = true) {n s : Nat} (h : stillAt (shl ds F S) n) (hs : s < 32) : shV ds F S s = sqN (shl ds F S) n s := by
  unfold shV
  rcases Nat.lt_or_ge 32 n with h1 | h1
  · rw [still_num shl_up (shl_still hd) (shl31 hd) (m := 32) (by omega) hs, still_num shl_up (shl_still hd) (shl31 hd) (m := n) (by omega) hs]
  · exact still_num shl_up (shl_still hd) h h1 hs
theorem shV_le (hd : ∀ d ∈ ds, deedOk d = true) {s : Nat} (hs : s < 32) : -1 ≤ shV ds F S s ∧ shV ds F S s ≤ 31 := by
  rw [shV_of hd (shl31 hd) hs]; exact sqN_le shl_up
end
/-- ShadowSteps -/
def shadL (t : TaskD) (F : Int) : List Int := if taskOk t = true ∧ stIn F = true then (List.range 32).map (shV t.deeds F.toNat (evalCode t.goal)) else []
/-- ShadowNumbers -/
def shadN (t : TaskD) (F : Int) : List Int := up40 (shadL t F)
/-- what the reference newly meets in a round -/
def shW (ds : List DeedD) (F : Nat) (S : Nat → Bool) : Nat → Nat → Bool
  | 0, s => agr F S s
  | n + 1, s => agr F (backP ds (shl ds F S n)) s && !shl ds F S n s
theorem shW_back {ds : List DeedD} {F : Nat} {S : Nat → Bool} (n s : Nat) (h : shl ds F S n s = false) : agr F (backP ds (shW ds F S n)) s = agr F (backP ds (shl ds F S n)) s := by
  cases n with
  | zero => rfl
  | succ n =>
    have h0 : agr F (backP ds (shl ds F S n)) s = false := by
      simp only [shl, Bool.or_eq_false_iff] at h; exact h.2
    rw [Bool.eq_iff_iff]
    constructor
    · refine agr_mono fun o ho hb => backP_mono (fun x hx => ?_) hb
      have : (agr F (backP ds (shl ds F S n)) x && !shl ds F S n x) = true := hx
      simp only [Bool.and_eq_true] at this
      simp [shl, this.1]
    · intro ha
      obtain ⟨o, ho, hb, hag⟩ := agr_iff.1 ha
      obtain ⟨d, hd, x, e, hl⟩ := backP_iff.1 hb
      refine agr_iff.2 ⟨o, ho, backP_iff.2 ⟨d, hd, x, e, ?_⟩, hag⟩
      have h1 : shl ds F S n x = false := by
        cases e1 : shl ds F S n x with
        | false => rfl
        | true => rw [agr_iff.2 ⟨o, ho, backP_iff.2 ⟨d, hd, x, e, e1⟩, hag⟩] at h0; cases h0
      show (agr F (backP ds (shl ds F S n)) x && !shl ds F S n x) = true
      simp only [shl, h1, Bool.false_or] at hl
      rw [hl, h1]; rfl
end Go.Proofs.YtkimgdfcgfhibaaDoor
