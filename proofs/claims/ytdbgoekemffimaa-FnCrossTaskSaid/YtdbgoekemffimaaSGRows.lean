/- Joined texts: GRows, Cross, CrossP. -/
import Derived.Test.YtdbgoekemffimaaSGraphV
import Derived.Test.YtdbgoekemffimaaSBook
import Derived.Test.YtdbgoekemffimaaSSz
import Derived.Test.YtdbgoekemffimaaSTold
/- SetValid, pressChange and RowsOf, of the program and of the reference, for graphs. -/
namespace Go.Proofs.Ytdbgoekemffimaa
set_option linter.unusedVariables false
set_option linter.unusedSimpArgs false
open Go.ChangeShapes Go.WideShapes Go.ChangeAt Go.RowKit

def setOk (xs : List Int) (s : Int) : Bool := graphOk xs && decide (0 ≤ s ∧ s < 2 ^ xs.length)
def rowX (xs : List Int) (k : Nat) : Int := (((xs.getD k 0).toNat ^^^ 2 ^ k : Nat) : Int)
def rowsL (xs : List Int) : List Int := (List.range xs.length).map (rowX xs)
end Go.Proofs.Ytdbgoekemffimaa

/- The literals of CrossTask: bothSame and notAllSame, of the program and of the reference. -/
namespace Go.Proofs.Ytdbgoekemffimaa
set_option linter.unusedVariables false
set_option linter.unusedSimpArgs false
open Go.ChangeShapes Go.WideShapes Go.ChangeAt Go.RowKit
def sameI (a b : Nat) : List Int := [a, b, 8, a, b, 9, 7, 9]
def apartI (a b c : Nat) : List Int := [a, b, 8, c, 8, a, b, 9, c, 9, 7, 9, 7]
theorem sameI_wf (a b : Nat) (ha : a < 32) (hb : b < 32) : ∀ x ∈ sameI a b, (Lit.int .i64 x).wf = true := fun x hx => wf_i64_mk (by
  simp only [sameI, List.mem_cons, List.not_mem_nil, or_false] at hx; omega)
theorem apartI_wf (a b c : Nat) (ha : a < 32) (hb : b < 32) (hc : c < 32) : ∀ x ∈ apartI a b c, (Lit.int .i64 x).wf = true := fun x hx => wf_i64_mk (by
  simp only [apartI, List.mem_cons, List.not_mem_nil, or_false] at hx; omega)
theorem St.newLit (w : World) (xs : List Int) (n : Nat) (e : n = xs.length) (hn : xs.length ≤ 1024) (hwf : ∀ x ∈ xs, (Lit.int .i64 x).wf = true) :
    St w (w.alloc (.cells (Go.Proofs.Ytdbgoekemffimaa.ints xs).toArray 3)) [rInts (.slice (some ⟨w.heap.size, 0, none⟩) n n) xs] :=
  (St.new1 w (Go.Proofs.Ytdbgoekemffimaa.ints xs).toArray 3).see fun F h _ => blk_ints (xs := xs) h (by unfold maxLen; omega) hwf e
theorem bothSame_any (a b : Nat) (w : World) (ha : a < 32) (hb : b < 32) : Calls Try.prog 84 #[.int .i64 a, .int .i64 b] w (Gives w id fun v => [rInts v (sameI a b)]) := by
  have HS := Lib.hid (St.newLit w (sameI a b) 8 rfl (by simp [sameI]) (sameI_wf a b ha hb))
  go_enter Try.func84, Try.ntmps84
  go_wp2
  go_ret
  exact ⟨_, rfl, HS.out⟩
theorem l9Same_any (a b : Nat) (w : World) (ha : a < 32) (hb : b < 32) : Calls Try.prog 88 #[.int .i64 a, .int .i64 b] w (Gives w id fun v => [rInts v (sameI a b)]) := by
  have HS := Lib.hid (St.newLit w (sameI a b) 8 rfl (by simp [sameI]) (sameI_wf a b ha hb))
  go_enter Try.func88, Try.ntmps88
  go_wp2
  go_ret
  exact ⟨_, rfl, HS.out⟩
theorem notAllSame_any (a b c : Nat) (w : World) (ha : a < 32) (hb : b < 32) (hc : c < 32) : Calls Try.prog 85 #[.int .i64 a, .int .i64 b, .int .i64 c] w (Gives w id fun v => [rInts v (apartI a b c)]) := by
  have HS := Lib.hid (St.newLit w (apartI a b c) 13 rfl (by simp [apartI]) (apartI_wf a b c ha hb hc))
  go_enter Try.func85, Try.ntmps85
  go_wp2
  go_ret
  exact ⟨_, rfl, HS.out⟩
theorem l9Apart_any (a b c : Nat) (w : World) (ha : a < 32) (hb : b < 32) (hc : c < 32) : Calls Try.prog 90 #[.int .i64 a, .int .i64 b, .int .i64 c] w (Gives w id fun v => [rInts v (apartI a b c)]) := by
  have HS := Lib.hid (St.newLit w (apartI a b c) 13 rfl (by simp [apartI]) (apartI_wf a b c ha hb hc))
  go_enter Try.func90, Try.ntmps90
  go_wp2
  go_ret
  exact ⟨_, rfl, HS.out⟩
end Go.Proofs.Ytdbgoekemffimaa

/- Plain law: the task of things that are brought over: its conditions are valid exactly if they are short enough; no program in sight. -/
namespace Go.Proofs.Ytdbgoekemffimaa
set_option linter.unusedVariables false
set_option linter.unusedSimpArgs false
/-- a code that puts one entry more -/
def PartOk (p : List Int) : Prop := ∀ d, dRun d p = some (d + 1)
theorem partOk_same (a b : Nat) (ha : a ≤ 6) (hb : b ≤ 6) : PartOk (sameI a b) := by
  intro d
  have e1 := dStep_push d (a : Int) (by omega) (by omega)
  have e2 := dStep_push (d + 1) (b : Int) (by omega) (by omega)
  have e3 := dStep_two (d + 1 + 1) 8 (by omega) (by omega) (by omega)
  have e4 := dStep_push (d + 1) (a : Int) (by omega) (by omega)
  have e5 := dStep_push (d + 1 + 1) (b : Int) (by omega) (by omega)
  have e6 := dStep_two (d + 1 + 1 + 1) 9 (by omega) (by omega) (by omega)
  have e7 := dStep_not (d + 1 + 1) (by omega)
  have e8 := dStep_two (d + 1 + 1) 9 (by omega) (by omega) (by omega)
  simp only [Nat.add_sub_cancel] at e3 e6 e8
  simp [sameI, dRun, e1, e2, e3, e4, e5, e6, e7, e8]
theorem partOk_apart (a b c : Nat) (ha : a ≤ 6) (hb : b ≤ 6) (hc : c ≤ 6) : PartOk (apartI a b c) := by
  intro d
  have e1 := dStep_push d (a : Int) (by omega) (by omega)
  have e2 := dStep_push (d + 1) (b : Int) (by omega) (by omega)
  have e3 := dStep_two (d + 1 + 1) 8 (by omega) (by omega) (by omega)
  have e4 := dStep_push (d + 1) (c : Int) (by omega) (by omega)
  have e5 := dStep_push (d + 1) (a : Int) (by omega) (by omega)
  have e6 := dStep_push (d + 1 + 1) (b : Int) (by omega) (by omega)
  have e7 := dStep_two (d + 1 + 1 + 1) 9 (by omega) (by omega) (by omega)
  have e8 := dStep_push (d + 1 + 1) (c : Int) (by omega) (by omega)
  have e9 := dStep_not (d + 1 + 1) (by omega)
  have e10 := dStep_two (d + 1 + 1) 9 (by omega) (by omega) (by omega)
  have e11 := dStep_not (d + 1) (by omega)
  simp only [Nat.add_sub_cancel] at e3 e7 e10
  simp [apartI, dRun, e1, e2, e3, e4, e5, e6, e7, e8, e9, e10, e11]
theorem partOk_one (a : Nat) (ha : a ≤ 6) : PartOk [(a : Int)] := by
  intro d
  have e1 := dStep_push d (a : Int) (by omega) (by omega)
  simp [dRun, e1]
theorem codeAll_run (xss : List (List Int)) (h : ∀ xs ∈ xss, PartOk xs) : dRun 0 (codeAll xss) = some 1 := by
  cases xss with
  | nil => rfl
  | cons x r =>
    have key : ∀ (r : List (List Int)) (a : List Int), (∀ xs ∈ r, PartOk xs) → dRun 0 a = some 1 → dRun 0 (r.foldl (fun a y => a ++ y ++ [8]) a) = some 1 := by
      intro r
      induction r with
      | nil => intro a _ ha; exact ha
      | cons y r ih =>
        intro a hr ha
        refine ih _ (fun xs hx => hr xs (List.mem_cons_of_mem _ hx)) ?_
        rw [dRun_append, dRun_append, ha]
        simp only [Option.bind_some]
        rw [hr y (List.mem_cons_self ..) 1]
        simp only [Option.bind_some, dRun]
        rw [dStep_two 2 8 (by omega) (by omega) (by omega)]
        rfl
    exact key r x (fun xs hx => h xs (List.mem_cons_of_mem _ hx)) (h x (List.mem_cons_self ..) 0)
theorem codeAll_len (xss : List (List Int)) : 1 ≤ (codeAll xss).length ∨ ∃ r, xss = [] :: r := by
  cases xss with
  | nil => exact .inl (by simp [codeAll])
  | cons x r =>
    cases x with
    | nil => exact .inr ⟨r, rfl⟩
    | cons a l =>
      refine .inl ?_
      have key : ∀ (r : List (List Int)) (a : List Int), a.length ≤ (r.foldl (fun a y => a ++ y ++ [8]) a).length := by
        intro r
        induction r with
        | nil => intro a; exact Nat.le_refl _
        | cons y r ih => intro a; have := ih (a ++ y ++ [8]); simp only [List.length_append, List.length_cons, List.length_nil, List.foldl_cons] at this ⊢; omega
      have := key r (a :: l)
      simp only [codeAll, List.length_cons] at this ⊢
      omega
theorem codeAll_ok (xss : List (List Int)) (h : ∀ xs ∈ xss, PartOk xs) : codeOk (codeAll xss) = decide ((codeAll xss).length ≤ 40) := by
  have h1 := codeAll_run xss h
  have h2 : 1 ≤ (codeAll xss).length := by
    rcases codeAll_len xss with h2 | ⟨r, rfl⟩
    · exact h2
    · have := h [] (List.mem_cons_self ..) 0
      simp [dRun] at this
  unfold codeOk
  rw [h1]
  simp [h2]
/-! ### the parts -/
/-- there is a line from a to b, of which e is no end -/
def lineAt (xs : List Int) (e a b : Nat) : Bool := bit (xs.getD a 0).toNat b == 1 && decide (a + 1 ≠ e) && decide (b + 1 ≠ e)
def rowParts (xs : List Int) (e a m : Nat) : List (List Int) := ((List.range m).filter fun b => decide (a < b) && lineAt xs e a b).map fun b => apartI (a + 1) (b + 1) 0
def partsTo (xs : List Int) (e a : Nat) : List (List Int) := (if e = 0 then [] else [sameI 0 e]) ++ (List.range a).flatMap fun a => rowParts xs e a xs.length
def crossNeed (xs : List Int) (e : Nat) : List Int := codeAll (partsTo xs e xs.length)
def crossD (xs : List Int) (e : Nat) : DeedD := ⟨crossNeed xs e, 0, 0, if e = 0 then 1 else 1 + 2 ^ e⟩
def overParts (m : Nat) : List (List Int) := (List.range m).map fun (k : Nat) => [(k : Int)]
def crossT (xs : List Int) : TaskD := ⟨0, codeAll (overParts (xs.length + 1)), (List.range (xs.length + 1)).map (crossD xs)⟩
def crossOk (xs : List Int) : Bool := graphOk xs && decide (xs.length ≤ 4) && (List.range (xs.length + 1)).all fun e => decide ((crossNeed xs e).length ≤ 40)
def crossTask (xs : List Int) : TaskD := if crossOk xs then crossT xs else ⟨0, [], []⟩
theorem rowParts_start (xs : List Int) (e a : Nat) : rowParts xs e a (a + 1) = [] := by
  unfold rowParts
  rw [List.map_eq_nil_iff, List.filter_eq_nil_iff]
  intro b hb
  have := List.mem_range.1 hb
  simp; omega
theorem rowParts_yes (xs : List Int) (e a m : Nat) (ha : a < m) (h : lineAt xs e a m = true) : rowParts xs e a (m + 1) = rowParts xs e a m ++ [apartI (a + 1) (m + 1) 0] := by
  unfold rowParts
  rw [List.range_succ, List.filter_append, List.map_append]
  simp [ha, h]
theorem rowParts_no (xs : List Int) (e a m : Nat) (h : lineAt xs e a m = false) : rowParts xs e a (m + 1) = rowParts xs e a m := by
  unfold rowParts
  rw [List.range_succ, List.filter_append, List.map_append]
  simp [h]
theorem partsTo_succ (xs : List Int) (e a : Nat) : partsTo xs e (a + 1) = partsTo xs e a ++ rowParts xs e a xs.length := by
  unfold partsTo
  rw [List.range_succ, List.flatMap_append, List.append_assoc]
  simp
theorem rowParts_len (xs : List Int) (e a m : Nat) : (rowParts xs e a m).length ≤ m := by
  unfold rowParts
  rw [List.length_map]
  refine Nat.le_trans (List.length_filter_le _ _) (by simp)
theorem partsTo_len (xs : List Int) (e a : Nat) (h4 : xs.length ≤ 4) : (partsTo xs e a).length ≤ 1 + 4 * a := by
  induction a with
  | zero => unfold partsTo; split <;> simp
  | succ a ih => rw [partsTo_succ, List.length_append]; have := rowParts_len xs e a xs.length; omega
theorem rowParts_ok (xs : List Int) (e a m : Nat) (ha : a < 5) (hm : m ≤ 5) : ∀ p ∈ rowParts xs e a m, PartOk p ∧ p.length ≤ 13 ∧ ∀ x ∈ p, (Lit.int .i64 x).wf = true := by
  intro p hp
  unfold rowParts at hp
  obtain ⟨b, hb, rfl⟩ := List.mem_map.1 hp
  have := List.mem_range.1 (List.mem_filter.1 hb).1
  exact ⟨partOk_apart _ _ _ (by omega) (by omega) (by omega), by simp [apartI], apartI_wf _ _ _ (by omega) (by omega) (by omega)⟩
theorem partsTo_ok (xs : List Int) (e a : Nat) (he : e ≤ 5) (ha : a ≤ 5) (h4 : xs.length ≤ 4) : ∀ p ∈ partsTo xs e a, PartOk p ∧ p.length ≤ 13 ∧ ∀ x ∈ p, (Lit.int .i64 x).wf = true := by
  intro p hp
  unfold partsTo at hp
  rcases List.mem_append.1 hp with hp | hp
  · split at hp
    · cases hp
    · simp only [List.mem_cons, List.not_mem_nil, or_false] at hp
      subst hp
      exact ⟨partOk_same _ _ (by omega) (by omega), by simp [sameI], sameI_wf _ _ (by omega) (by omega)⟩
  · obtain ⟨a', ha', hp⟩ := List.mem_flatMap.1 hp
    have := List.mem_range.1 ha'
    exact rowParts_ok xs e a' xs.length (by omega) (by omega) p hp
theorem overParts_ok (m : Nat) (h : m ≤ 6) : ∀ p ∈ overParts m, PartOk p ∧ p.length ≤ 13 ∧ ∀ x ∈ p, (Lit.int .i64 x).wf = true := by
  intro p hp
  unfold overParts at hp
  obtain ⟨k, hk, rfl⟩ := List.mem_map.1 hp
  have := List.mem_range.1 hk
  exact ⟨partOk_one k (by omega), by simp, fun x hx => by simp at hx; subst hx; exact wf_i64_mk (by omega)⟩
theorem overParts_len (m : Nat) : (overParts m).length = m := by simp [overParts]
theorem overParts_succ (m : Nat) : overParts (m + 1) = overParts m ++ [[(m : Int)]] := by simp [overParts, List.range_succ]
theorem codeAll_over (m : Nat) (h : 0 < m) : (codeAll (overParts m)).length = 2 * m - 1 := by
  induction m with
  | zero => omega
  | succ m ih =>
    rw [overParts_succ]
    by_cases hm : m = 0
    · subst hm; rfl
    · rw [codeAll_snoc _ (by intro e; have := congrArg List.length e; simp [overParts_len] at this; exact hm this)]
      simp only [List.length_append, List.length_cons, List.length_nil]
      rw [ih (by omega)]; omega
theorem crossFlip (e : Nat) (he : e ≤ 4) : (0 : Int) ≤ (if e = 0 then 1 else 1 + 2 ^ e) ∧ (if e = 0 then 1 else 1 + 2 ^ e : Int) < 32 := by
  obtain rfl | rfl | rfl | rfl | rfl : e = 0 ∨ e = 1 ∨ e = 2 ∨ e = 3 ∨ e = 4 := by omega
  all_goals decide
theorem deedOk_cross (xs : List Int) (e : Nat) (he : e ≤ 4) (h4 : xs.length ≤ 4) : deedOk (crossD xs e) = decide ((crossNeed xs e).length ≤ 40) := by
  have h1 := codeAll_ok (partsTo xs e xs.length) fun p hp => (partsTo_ok xs e xs.length (by omega) (by omega) h4 p hp).1
  have h2 := crossFlip e he
  unfold deedOk
  have h3 : codeOk (crossD xs e).need = decide ((crossNeed xs e).length ≤ 40) := h1
  rw [h3]
  have h5 : stIn (crossD xs e).flip = true := (stIn_iff _).2 h2
  have h6 : stIn (crossD xs e).on = true := rfl
  have h7 : stIn (crossD xs e).off = true := rfl
  rw [h5, h6, h7]
  have h8 : apart3 (crossD xs e).on (crossD xs e).off (crossD xs e).flip = true := by
    unfold apart3
    simp [crossD]
  simp [h8]
theorem taskOk_cross (xs : List Int) (h4 : xs.length ≤ 4) : taskOk (crossT xs) = (List.range (xs.length + 1)).all fun e => decide ((crossNeed xs e).length ≤ 40) := by
  have h1 : codeOk (codeAll (overParts (xs.length + 1))) = true := by
    rw [codeAll_ok _ fun p hp => (overParts_ok _ (by omega) p hp).1, codeAll_over _ (by omega)]
    simp; omega
  have h2 : (crossT xs).deeds.all deedOk = (List.range (xs.length + 1)).all fun e => decide ((crossNeed xs e).length ≤ 40) := by
    unfold crossT
    simp only [List.all_map]
    rw [Bool.eq_iff_iff, List.all_eq_true, List.all_eq_true]
    refine forall_congr' fun e => forall_congr' fun he => ?_
    have := List.mem_range.1 he
    simp only [Function.comp]
    rw [deedOk_cross xs e (by omega) h4]
  unfold taskOk
  rw [h2]
  have h3 : stIn (crossT xs).start = true := rfl
  have h5 : codeOk (crossT xs).goal = true := h1
  have h6 : decide ((crossT xs).deeds.length ≤ 6) = true := by simp [crossT]; omega
  rw [h3, h5, h6]
  simp
end Go.Proofs.Ytdbgoekemffimaa
