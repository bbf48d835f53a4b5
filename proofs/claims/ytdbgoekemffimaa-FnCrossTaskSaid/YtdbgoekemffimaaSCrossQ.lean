/- Joined texts: CrossQ, CrossR, CrossL. -/
import Derived.Test.YtdbgoekemffimaaSGRows
import Derived.Test.YtdbgoekemffimaaSReach
import Derived.Test.YtdbgoekemffimaaSCover
/- Plain law of FnCrossTask, by reckoning over all graphs of at most four points; no program in sight. -/
namespace Go.Proofs.Ytdbgoekemffimaa
set_option linter.unusedVariables false
set_option linter.unusedSimpArgs false

/-- one round of the search back, on masks -/
def backM (ds : List DeedD) (M : Nat) : Nat := mset (fun s => M.testBit s || backP ds (fun t => M.testBit t) s) 32
def fwdM (ds : List DeedD) (M : Nat) : Nat := mset (fun s => M.testBit s || fwdP ds (fun t => M.testBit t) s) 32
def iterM (f : Nat → Nat) : Nat → Nat → Nat
  | 0, M => M
  | n + 1, M => f (iterM f n M)
theorem backM_layer {ds : List DeedD} (hd : ∀ d ∈ ds, deedOk d = true) (p : Nat → Bool) (n : Nat) : mset (layer ds p n) 32 = iterM (backM ds) n (mset p 32) := by
  induction n with
  | zero => rfl
  | succ n ih =>
    simp only [iterM]
    rw [← ih]
    unfold backM
    refine mset_congr fun s hs => ?_
    rw [testBit_mset, decide_eq_true hs, Bool.true_and]
    have e : backP ds (layer ds p n) s = backP ds (fun t => (mset (layer ds p n) 32).testBit t) s := backP_congr hd hs fun t ht => by rw [testBit_mset, decide_eq_true ht, Bool.true_and]
    rw [← e]
    rfl
theorem fwdM_fwd {ds : List DeedD} (p : Nat → Bool) (n : Nat) : mset (fwd ds p n) 32 = iterM (fwdM ds) n (mset p 32) := by
  induction n with
  | zero => rfl
  | succ n ih =>
    simp only [iterM]
    rw [← ih]
    unfold fwdM
    refine mset_congr fun s hs => ?_
    rw [testBit_mset, decide_eq_true hs, Bool.true_and]
    have e : fwdP ds (fwd ds p n) s = fwdP ds (fun t => (mset (fwd ds p n) 32).testBit t) s := fwdP_congr fun t ht => by rw [testBit_mset, decide_eq_true ht, Bool.true_and]
    rw [← e]
    rfl
/-- all that the law asks of a graph, reckoned -/
def crossAsk (xs : List Int) : Bool :=
  let ds := (crossT xs).deeds
  let al := aloneK xs (2 ^ xs.length)
  let can := (iterM (backM ds) 32 (mset (evalCode (crossT xs).goal) 32)).testBit 0
  let re := iterM (fwdM ds) 32 1
  (decide (xs.length ≤ al + 1) || !can) && (decide (xs.length ≠ al) || can) &&
  (List.range 32).all fun s => !re.testBit s || ds.all fun d => match deedDo d s with | some t => deedDo d t == some s | none => true
theorem cross_all1 : ∀ a : Fin 2, (!crossOk [(a.val : Int)] || crossAsk [(a.val : Int)]) = true := by decide +kernel
theorem cross_all2 : ∀ a b : Fin 4, (!crossOk [(a.val : Int), (b.val : Int)] || crossAsk [(a.val : Int), (b.val : Int)]) = true := by decide +kernel
theorem cross_all3 : ∀ a b c : Fin 8, (!crossOk [(a.val : Int), (b.val : Int), (c.val : Int)] || crossAsk [(a.val : Int), (b.val : Int), (c.val : Int)]) = true := by decide +kernel
end Go.Proofs.Ytdbgoekemffimaa

/- Plain law of FnCrossTask: the graphs of four points, reckoned. -/
namespace Go.Proofs.Ytdbgoekemffimaa
set_option linter.unusedVariables false
set_option linter.unusedSimpArgs false

def row4 (a b c d e f : Bool) : List Int := [((2 * a.toNat + 4 * b.toNat + 8 * c.toNat : Nat) : Int), ((a.toNat + 4 * d.toNat + 8 * e.toNat : Nat) : Int), ((b.toNat + 2 * d.toNat + 8 * f.toNat : Nat) : Int), ((c.toNat + 2 * e.toNat + 4 * f.toNat : Nat) : Int)]
theorem cross_all4 : ∀ a b c d e f : Bool, (!crossOk (row4 a b c d e f) || crossAsk (row4 a b c d e f)) = true := by decide +kernel
theorem nat16 (x : Nat) (h : x < 16) : x = bit x 0 + 2 * bit x 1 + 4 * bit x 2 + 8 * bit x 3 := by
  unfold bit; omega
theorem bitB (x k : Nat) : bit x k = (decide (bit x k = 1)).toNat := by
  have := bit_lt x k
  by_cases h : bit x k = 1
  · rw [h]; rfl
  · have : bit x k = 0 := by omega
    rw [this]; rfl
theorem graphOk_sym {xs : List Int} (hok : graphOk xs = true) (k j : Nat) (hk : k < xs.length) (hj : j < xs.length) : bit (xs.getD k 0).toNat j = bit (xs.getD j 0).toNat k := by
  unfold graphOk at hok
  simp only [Bool.and_eq_true, List.all_eq_true, List.mem_range, beq_iff_eq] at hok
  exact hok.2 k hk j hj
theorem graph4 {xs : List Int} (hok : graphOk xs = true) (h4 : xs.length = 4) : ∃ a b c d e f, xs = row4 a b c d e f := by
  match xs, h4 with
  | [x0, x1, x2, x3], _ =>
    obtain ⟨a0, b0, c0⟩ := graphOk_at _ hok 0 x0 rfl
    obtain ⟨a1, b1, c1⟩ := graphOk_at _ hok 1 x1 rfl
    obtain ⟨a2, b2, c2⟩ := graphOk_at _ hok 2 x2 rfl
    obtain ⟨a3, b3, c3⟩ := graphOk_at _ hok 3 x3 rfl
    have s01 : bit x0.toNat 1 = bit x1.toNat 0 := graphOk_sym hok 0 1 (by simp) (by simp)
    have s02 : bit x0.toNat 2 = bit x2.toNat 0 := graphOk_sym hok 0 2 (by simp) (by simp)
    have s03 : bit x0.toNat 3 = bit x3.toNat 0 := graphOk_sym hok 0 3 (by simp) (by simp)
    have s12 : bit x1.toNat 2 = bit x2.toNat 1 := graphOk_sym hok 1 2 (by simp) (by simp)
    have s13 : bit x1.toNat 3 = bit x3.toNat 1 := graphOk_sym hok 1 3 (by simp) (by simp)
    have s23 : bit x2.toNat 3 = bit x3.toNat 2 := graphOk_sym hok 2 3 (by simp) (by simp)
    simp only [List.length_cons, List.length_nil] at b0 b1 b2 b3
    have n0 := nat16 x0.toNat (by omega)
    have n1 := nat16 x1.toNat (by omega)
    have n2 := nat16 x2.toNat (by omega)
    have n3 := nat16 x3.toNat (by omega)
    refine ⟨decide (bit x0.toNat 1 = 1), decide (bit x0.toNat 2 = 1), decide (bit x0.toNat 3 = 1), decide (bit x1.toNat 2 = 1), decide (bit x1.toNat 3 = 1), decide (bit x2.toNat 3 = 1), ?_⟩
    unfold row4
    rw [← bitB, ← bitB, ← bitB, ← bitB, ← bitB, ← bitB]
    have e0 : x0 = ((2 * bit x0.toNat 1 + 4 * bit x0.toNat 2 + 8 * bit x0.toNat 3 : Nat) : Int) := by omega
    have e1 : x1 = ((bit x0.toNat 1 + 4 * bit x1.toNat 2 + 8 * bit x1.toNat 3 : Nat) : Int) := by omega
    have e2 : x2 = ((bit x0.toNat 2 + 2 * bit x1.toNat 2 + 8 * bit x2.toNat 3 : Nat) : Int) := by omega
    have e3 : x3 = ((bit x0.toNat 3 + 2 * bit x1.toNat 3 + 4 * bit x2.toNat 3 : Nat) : Int) := by omega
    rw [← e0, ← e1, ← e2, ← e3]
theorem cross_ask {xs : List Int} (h : crossOk xs = true) : crossAsk xs = true := by
  have h' := h
  unfold crossOk at h'
  simp only [Bool.and_eq_true, decide_eq_true_eq] at h'
  have hok := h'.1.1
  have hl := graphOk_len xs hok
  have h4 := h'.1.2
  have fin : ∀ {ys : List Int}, crossOk ys = true → (!crossOk ys || crossAsk ys) = true → crossAsk ys = true := fun h1 h2 => by rw [h1] at h2; simpa using h2
  rcases (by omega : xs.length = 1 ∨ xs.length = 2 ∨ xs.length = 3 ∨ xs.length = 4) with e | e | e | e
  · match xs, e with
    | [x0], _ =>
      obtain ⟨a0, b0, -⟩ := graphOk_at _ hok 0 x0 rfl
      obtain ⟨a, rfl⟩ := Int.eq_ofNat_of_zero_le a0
      simp only [List.length_cons, List.length_nil] at b0
      exact fin h (cross_all1 ⟨a, by omega⟩)
  · match xs, e with
    | [x0, x1], _ =>
      obtain ⟨a0, b0, -⟩ := graphOk_at _ hok 0 x0 rfl
      obtain ⟨a1, b1, -⟩ := graphOk_at _ hok 1 x1 rfl
      obtain ⟨a, rfl⟩ := Int.eq_ofNat_of_zero_le a0
      obtain ⟨b, rfl⟩ := Int.eq_ofNat_of_zero_le a1
      simp only [List.length_cons, List.length_nil] at b0 b1
      exact fin h (cross_all2 ⟨a, by omega⟩ ⟨b, by omega⟩)
  · match xs, e with
    | [x0, x1, x2], _ =>
      obtain ⟨a0, b0, -⟩ := graphOk_at _ hok 0 x0 rfl
      obtain ⟨a1, b1, -⟩ := graphOk_at _ hok 1 x1 rfl
      obtain ⟨a2, b2, -⟩ := graphOk_at _ hok 2 x2 rfl
      obtain ⟨a, rfl⟩ := Int.eq_ofNat_of_zero_le a0
      obtain ⟨b, rfl⟩ := Int.eq_ofNat_of_zero_le a1
      obtain ⟨c, rfl⟩ := Int.eq_ofNat_of_zero_le a2
      simp only [List.length_cons, List.length_nil] at b0 b1 b2
      exact fin h (cross_all3 ⟨a, by omega⟩ ⟨b, by omega⟩ ⟨c, by omega⟩)
  · obtain ⟨a, b, c, d, e', f, rfl⟩ := graph4 hok e
    exact fin h (cross_all4 a b c d e' f)
end Go.Proofs.Ytdbgoekemffimaa

/- Plain law of FnCrossTask: what the law asks of the task of a graph. No program in sight. -/
namespace Go.Proofs.Ytdbgoekemffimaa
set_option linter.unusedVariables false
set_option linter.unusedSimpArgs false

theorem crossOk_parts {xs : List Int} (h : crossOk xs = true) : graphOk xs = true ∧ xs.length ≤ 4 ∧ taskOk (crossT xs) = true := by
  have h' := h
  unfold crossOk at h'
  simp only [Bool.and_eq_true, decide_eq_true_eq] at h'
  exact ⟨h'.1.1, h'.1.2, by rw [taskOk_cross xs h'.1.2]; exact h'.2⟩
theorem cross_reach {xs : List Int} (h : crossOk xs = true) : reached (crossT xs) = ((iterM (fwdM (crossT xs).deeds) 32 1 : Nat) : Int) ∧ iterM (fwdM (crossT xs).deeds) 32 1 < 4294967296 := by
  have h1 := reached_yes (crossT xs) (crossOk_parts h).2.2 0 rfl
  have h2 := fwdM_fwd (ds := (crossT xs).deeds) (only 0) 32
  rw [mset_only (by omega)] at h2
  have h3 : iterM (fwdM (crossT xs).deeds) 32 1 = mset (fwd (crossT xs).deeds (only 0) 32) 32 := h2.symm
  rw [h3]
  exact ⟨h1, mset32_lt _⟩
theorem cross_can {xs : List Int} (h : crossOk xs = true) : (planFor (crossT xs)).isSome = (iterM (backM (crossT xs).deeds) 32 (mset (evalCode (crossT xs).goal) 32)).testBit 0 := by
  have ht := (crossOk_parts h).2.2
  have hd := (taskOk_parts _ ht).2.2.2
  rw [← backM_layer hd (evalCode (crossT xs).goal) 32, testBit_mset, planFor_yes _ ht 0 rfl]
  have hk := stpN_nonneg (ds := (crossT xs).deeds) (S := evalCode (crossT xs).goal) (n := 32) (s := 0)
  by_cases hn : stpV (crossT xs).deeds (evalCode (crossT xs).goal) 0 < 0
  · rw [if_pos hn]
    cases hl : layer (crossT xs).deeds (evalCode (crossT xs).goal) 32 0 with
    | false => rfl
    | true =>
      have := hk.2 hl
      unfold stpV at hn
      omega
  · rw [if_neg hn]
    have : layer (crossT xs).deeds (evalCode (crossT xs).goal) 32 0 = true := hk.1 (by unfold stpV at hn; omega)
    rw [this]
    rfl
theorem cross_law {xs : List Int} (h : crossOk xs = true) : (1 < coverLeast xs → (planFor (crossT xs)).isSome = false) ∧ (coverLeast xs = 0 → (planFor (crossT xs)).isSome = true) ∧
    ∀ s, s < 32 → bit (iterM (fwdM (crossT xs).deeds) 32 1) s = 1 → ∀ d ∈ (crossT xs).deeds, ∀ s', deedDo d s = some s' → deedDo d s' = some s := by
  have ha := cross_ask h
  have hg := (crossOk_parts h).1
  unfold crossAsk at ha
  simp only at ha
  rw [← cross_can h] at ha
  have hc : coverLeast xs = (xs.length : Int) - (aloneK xs (2 ^ xs.length) : Nat) := by unfold coverLeast; rw [hg]; rfl
  generalize (planFor (crossT xs)).isSome = can at ha ⊢
  simp only [Bool.and_eq_true, Bool.or_eq_true, decide_eq_true_eq, Bool.not_eq_true', List.all_eq_true, List.mem_range] at ha
  obtain ⟨⟨h1, h2⟩, h3⟩ := ha
  refine ⟨fun hk => ?_, fun hk => ?_, fun s hs hb d hd s' he => ?_⟩
  · rcases h1 with h1 | h1
    · rw [hc] at hk; omega
    · exact h1
  · rcases h2 with h2 | h2
    · rw [hc] at hk; exact absurd (by omega) h2
    · exact h2
  · have ht : (iterM (fwdM (crossT xs).deeds) 32 1).testBit s = true := by rw [testBit_bit, hb]; rfl
    rcases h3 s hs with h3 | h3
    · rw [ht] at h3; cases h3
    · have := h3 d hd
      rw [he] at this
      simpa using this
end Go.Proofs.Ytdbgoekemffimaa
