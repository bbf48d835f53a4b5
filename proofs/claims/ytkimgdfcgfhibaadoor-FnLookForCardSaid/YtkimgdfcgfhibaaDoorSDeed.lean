/- Deeds and tasks: DeedValid and TaskValid, of the program and of the reference: each returns one plain function, for every task. Condition: no slice longer than 2^40. -/
import Derived.Test.YtkimgdfcgfhibaaDoorSRun
namespace Go.Proofs.YtkimgdfcgfhibaaDoor
open Go.ChangeShapes Go.WideShapes Go.ChangeAt Go.RowKit

def stIn (x : Int) : Bool := decide (0 ≤ x ∧ x < 32)
def apart3 (a b c : Int) : Bool := decide (a.toNat &&& b.toNat = 0) && decide (a.toNat &&& c.toNat = 0) && decide (b.toNat &&& c.toNat = 0)
def deedOk (d : DeedD) : Bool := codeOk d.need && stIn d.on && stIn d.off && stIn d.flip && apart3 d.on d.off d.flip
def taskOk (t : TaskD) : Bool := stIn t.start && codeOk t.goal && decide (t.deeds.length ≤ 6) && t.deeds.all deedOk
theorem stIn_iff (x : Int) : stIn x = true ↔ 0 ≤ x ∧ x < 32 := by unfold stIn; simp
theorem stIn_no (x : Int) : stIn x = false ↔ ¬ (0 ≤ x ∧ x < 32) := by unfold stIn; simp only [decide_eq_false_iff_not]

theorem stateOk_any (x : Int) (w : World) : Calls Tryd.prog 60 #[.int .i64 x] w fun e w' => e = .returned (.bool (stIn x)) ∧ w = w' := by
  go_enter Tryd.func60, Tryd.ntmps60
  go_wp2
  all_goals go_ret
  all_goals refine ⟨ret_bool ?_, rfl⟩
  all_goals unfold stIn
  all_goals (symm; simp; omega)

theorem and_cast (a b : Int) (ha : 0 ≤ a ∧ a < 32) (hb : 0 ≤ b ∧ b < 32) : bits .and .i64 a b = ((a.toNat &&& b.toNat : Nat) : Int) := by
  have h := i64_and_nat a.toNat b.toNat (by omega) (by omega)
  rwa [toNat_cast ha.1, toNat_cast hb.1] at h
theorem cast_zero_t {n : Nat} (h : n = 0) : (((n : Nat) : Int) == 0) = true := by subst h; rfl
theorem cast_zero_f {n : Nat} (h : ¬ n = 0) : (((n : Nat) : Int) == 0) = false := by simpa using h

theorem zero_bool (x : Nat) : ∃ b : Bool, (((x : Nat) : Int) == 0) = b ∧ decide (x = 0) = b := by
  by_cases h : x = 0
  · exact ⟨true, cast_zero_t h, decide_eq_true h⟩
  · exact ⟨false, cast_zero_f h, decide_eq_false h⟩
theorem deedValid_tail (A : Option Addr) (n c : Nat) (need : List Int) (on off fl : Int) (w : World)
    (hw1 : RdI .i64 (w.alloc (Obj.cells #[.slice A n c, .int .i64 on, .int .i64 off, .int .i64 fl] 85)) (w.alloc (Obj.cells #[.slice A n c, .int .i64 on, .int .i64 off, .int .i64 fl] 85)).heap.size A n c need)
    (h1 : codeOk need = true) (h2 : stIn on = true) (h3 : stIn off = true) (h4 : stIn fl = true) :
    Calls Tryd.prog 71 #[.agg #[.slice A n c, .int .i64 on, .int .i64 off, .int .i64 fl]] w fun e w' => e = .returned (.bool (deedOk ⟨need, on, off, fl⟩)) ∧ Below w.heap.size w w' := by
  have HW1 := Lib.hid hw1; clear hw1
  have e1 := and_cast on off ((stIn_iff _).1 h2) ((stIn_iff _).1 h3)
  have e2 := and_cast on fl ((stIn_iff _).1 h2) ((stIn_iff _).1 h4)
  have e3 := and_cast off fl ((stIn_iff _).1 h3) ((stIn_iff _).1 h4)
  obtain ⟨bx, hx, hx'⟩ := zero_bool (on.toNat &&& off.toNat)
  obtain ⟨by', hy, hy'⟩ := zero_bool (on.toNat &&& fl.toNat)
  obtain ⟨bz, hz, hz'⟩ := zero_bool (off.toNat &&& fl.toNat)
  have HV : Hid (deedOk ⟨need, on, off, fl⟩ = (bx && by' && bz)) := Lib.hid (by unfold deedOk apart3; rw [h1, h2, h3, h4, hx', hy', hz']; rfl)
  have H1 := Lib.hid h1
  have H2 := Lib.hid h2
  have H3 := Lib.hid h3
  have H4 := Lib.hid h4
  clear h1 h2 h3 h4 hx' hy' hz'
  generalize on.toNat &&& off.toNat = x at *
  generalize on.toNat &&& fl.toNat = y at *
  generalize off.toNat &&& fl.toNat = z at *
  go_enter Tryd.func71, Tryd.ntmps71
  go_wp2_with fail
  refine (codeValid_impl _ _ _ need _ HW1.out).mono ?_
  rw [H1.out]
  rintro e w' ⟨rfl, rfl⟩
  go_wp2_with fail
  refine (stateOk_any on _).mono ?_
  rw [H2.out]
  rintro e w' ⟨rfl, rfl⟩
  go_wp2_with fail
  refine (stateOk_any off _).mono ?_
  rw [H3.out]
  rintro e w' ⟨rfl, rfl⟩
  go_wp2_with fail
  refine (stateOk_any fl _).mono ?_
  rw [H4.out]
  rintro e w' ⟨rfl, rfl⟩
  cases bx
  · go_wp2
    go_ret
    exact ⟨by rw [HV.out]; rfl, (Below.refl _ _).alloc (Nat.le_refl _) _⟩
  cases by'
  · go_wp2
    go_ret
    exact ⟨by rw [HV.out]; rfl, (Below.refl _ _).alloc (Nat.le_refl _) _⟩
  cases bz
  · go_wp2
    go_ret
    exact ⟨by rw [HV.out]; rfl, (Below.refl _ _).alloc (Nat.le_refl _) _⟩
  · go_wp2
    go_ret
    exact ⟨by rw [HV.out]; rfl, (Below.refl _ _).alloc (Nat.le_refl _) _⟩
theorem deedValid_impl (A : Option Addr) (n c : Nat) (d : DeedD) (w : World) (h : RdI .i64 w w.heap.size A n c d.need) :
    Calls Tryd.prog 71 #[.agg #[.slice A n c, .int .i64 d.on, .int .i64 d.off, .int .i64 d.flip]] w fun e w' => e = .returned (.bool (deedOk d)) ∧ Below w.heap.size w w' := by
  obtain ⟨need, on, off, fl⟩ := d
  simp only at h ⊢
  have hw1 : RdI .i64 (w.alloc (Obj.cells #[.slice A n c, .int .i64 on, .int .i64 off, .int .i64 fl] 85)) (w.alloc (Obj.cells #[.slice A n c, .int .i64 on, .int .i64 off, .int .i64 fl] 85)).heap.size A n c need := (h.below ((Below.refl _ _).alloc (Nat.le_refl _) _)).more (by simp)
  have HW1 := Lib.hid hw1; clear hw1
  by_cases h1 : codeOk need = true
  case neg =>
    have h1f : codeOk need = false := by simpa using h1
    have HV : Hid (deedOk ⟨need, on, off, fl⟩ = false) := Lib.hid (by unfold deedOk; rw [h1f]; simp)
    have H1 := Lib.hid h1f
    clear h1 h1f
    go_enter Tryd.func71, Tryd.ntmps71
    go_wp2_with (go_at_call 70; refine (codeValid_impl _ _ _ need _ HW1.out).mono ?_; rw [H1.out]; rintro e w' ⟨rfl, rfl⟩)
    go_ret
    exact ⟨ret_bool HV.out.symm, (Below.refl _ _).alloc (Nat.le_refl _) _⟩
  by_cases h2 : stIn on = true
  case neg =>
    have h2f : stIn on = false := by simpa using h2
    have HV : Hid (deedOk ⟨need, on, off, fl⟩ = false) := Lib.hid (by unfold deedOk; rw [h2f]; simp)
    have H1 := Lib.hid h1
    have H2 := Lib.hid h2f
    clear h1 h2 h2f
    go_enter Tryd.func71, Tryd.ntmps71
    go_wp2_with (first
      | (go_at_call 70; refine (codeValid_impl _ _ _ need _ HW1.out).mono ?_; rw [H1.out]; rintro e w' ⟨rfl, rfl⟩)
      | (go_at_call 60; refine (stateOk_any on _).mono ?_; rw [H2.out]; rintro e w' ⟨rfl, rfl⟩))
    go_ret
    exact ⟨ret_bool HV.out.symm, (Below.refl _ _).alloc (Nat.le_refl _) _⟩
  by_cases h3 : stIn off = true
  case neg =>
    have h3f : stIn off = false := by simpa using h3
    have HV : Hid (deedOk ⟨need, on, off, fl⟩ = false) := Lib.hid (by unfold deedOk; rw [h3f]; simp)
    have H1 := Lib.hid h1
    have H2 := Lib.hid h2
    have H3 := Lib.hid h3f
    clear h1 h2 h3 h3f
    go_enter Tryd.func71, Tryd.ntmps71
    go_wp2_with fail
    refine (codeValid_impl _ _ _ need _ HW1.out).mono ?_
    rw [H1.out]
    rintro e w' ⟨rfl, rfl⟩
    go_wp2_with fail
    refine (stateOk_any on _).mono ?_
    rw [H2.out]
    rintro e w' ⟨rfl, rfl⟩
    go_wp2_with fail
    refine (stateOk_any off _).mono ?_
    rw [H3.out]
    rintro e w' ⟨rfl, rfl⟩
    go_wp2
    go_ret
    exact ⟨ret_bool HV.out.symm, (Below.refl _ _).alloc (Nat.le_refl _) _⟩
  by_cases h4 : stIn fl = true
  case neg =>
    have h4f : stIn fl = false := by simpa using h4
    have HV : Hid (deedOk ⟨need, on, off, fl⟩ = false) := Lib.hid (by unfold deedOk; rw [h4f]; simp)
    have H1 := Lib.hid h1
    have H2 := Lib.hid h2
    have H3 := Lib.hid h3
    have H4 := Lib.hid h4f
    clear h1 h2 h3 h4 h4f
    go_enter Tryd.func71, Tryd.ntmps71
    go_wp2_with fail
    refine (codeValid_impl _ _ _ need _ HW1.out).mono ?_
    rw [H1.out]
    rintro e w' ⟨rfl, rfl⟩
    go_wp2_with fail
    refine (stateOk_any on _).mono ?_
    rw [H2.out]
    rintro e w' ⟨rfl, rfl⟩
    go_wp2_with fail
    refine (stateOk_any off _).mono ?_
    rw [H3.out]
    rintro e w' ⟨rfl, rfl⟩
    go_wp2_with fail
    refine (stateOk_any fl _).mono ?_
    rw [H4.out]
    rintro e w' ⟨rfl, rfl⟩
    go_wp2
    go_ret
    exact ⟨ret_bool HV.out.symm, (Below.refl _ _).alloc (Nat.le_refl _) _⟩
  exact deedValid_tail A n c need on off fl w HW1.out h1 h2 h3 h4
theorem deedValid_spec (A : Option Addr) (n c : Nat) (d : DeedD) (w : World) (h : RdI .i64 w w.heap.size A n c d.need) (hn40 : n ≤ 1099511627776) :
    Calls Tryd.prog 88 #[.agg #[.slice A n c, .int .i64 d.on, .int .i64 d.off, .int .i64 d.flip]] w fun e w' => e = .returned (.bool (deedOk d)) ∧ Below w.heap.size w w' := by
  obtain ⟨need, on, off, fl⟩ := d
  simp only at h ⊢
  have hw1 : RdI .i64 (w.alloc (Obj.cells #[.slice A n c, .int .i64 on, .int .i64 off, .int .i64 fl] 85)) (w.alloc (Obj.cells #[.slice A n c, .int .i64 on, .int .i64 off, .int .i64 fl] 85)).heap.size A n c need := (h.below ((Below.refl _ _).alloc (Nat.le_refl _) _)).more (by simp)
  have HW1 := Lib.hid hw1; clear hw1
  by_cases h2 : stIn on = true
  case neg =>
    have hf : stIn on = false := by simpa using h2
    have HV : Hid (deedOk ⟨need, on, off, fl⟩ = false) := Lib.hid (by unfold deedOk; rw [hf]; simp)
    have HF := Lib.hid hf

    clear h2 hf 
    go_enter Tryd.func88, Tryd.ntmps88
    go_wp2_with fail
    refine (l1In_any on _ _ _).mono ?_
    rw [show decide (0 ≤ on ∧ on ≤ 31) = false from decide_eq_false (by have := (stIn_no on).1 HF.out; omega)]
    rintro e w' ⟨rfl, rfl⟩
    go_wp2
    go_ret
    exact ⟨ret_bool HV.out.symm, (Below.refl _ _).alloc (Nat.le_refl _) _⟩
  by_cases h3 : stIn off = true
  case neg =>
    have hf : stIn off = false := by simpa using h3
    have HV : Hid (deedOk ⟨need, on, off, fl⟩ = false) := Lib.hid (by unfold deedOk; rw [hf]; simp)
    have HF := Lib.hid hf
    have H2 := Lib.hid h2
    clear h3 hf h2
    go_enter Tryd.func88, Tryd.ntmps88
    go_wp2_with fail
    refine (l1In_any on _ _ _).mono ?_
    rw [show decide (0 ≤ on ∧ on ≤ 31) = true from decide_eq_true (by have := (stIn_iff on).1 H2.out; omega)]
    rintro e w' ⟨rfl, rfl⟩
    go_wp2_with fail
    refine (l1In_any off _ _ _).mono ?_
    rw [show decide (0 ≤ off ∧ off ≤ 31) = false from decide_eq_false (by have := (stIn_no off).1 HF.out; omega)]
    rintro e w' ⟨rfl, rfl⟩
    go_wp2
    go_ret
    exact ⟨ret_bool HV.out.symm, (Below.refl _ _).alloc (Nat.le_refl _) _⟩
  by_cases h4 : stIn fl = true
  case neg =>
    have hf : stIn fl = false := by simpa using h4
    have HV : Hid (deedOk ⟨need, on, off, fl⟩ = false) := Lib.hid (by unfold deedOk; rw [hf]; simp)
    have HF := Lib.hid hf
    have H2 := Lib.hid h2
    have H3 := Lib.hid h3
    clear h4 hf h2 h3
    go_enter Tryd.func88, Tryd.ntmps88
    go_wp2_with fail
    refine (l1In_any on _ _ _).mono ?_
    rw [show decide (0 ≤ on ∧ on ≤ 31) = true from decide_eq_true (by have := (stIn_iff on).1 H2.out; omega)]
    rintro e w' ⟨rfl, rfl⟩
    go_wp2_with fail
    refine (l1In_any off _ _ _).mono ?_
    rw [show decide (0 ≤ off ∧ off ≤ 31) = true from decide_eq_true (by have := (stIn_iff off).1 H3.out; omega)]
    rintro e w' ⟨rfl, rfl⟩
    go_wp2_with fail
    refine (l1In_any fl _ _ _).mono ?_
    rw [show decide (0 ≤ fl ∧ fl ≤ 31) = false from decide_eq_false (by have := (stIn_no fl).1 HF.out; omega)]
    rintro e w' ⟨rfl, rfl⟩
    go_wp2
    go_ret
    exact ⟨ret_bool HV.out.symm, (Below.refl _ _).alloc (Nat.le_refl _) _⟩
  obtain ⟨bx, hx, hx'⟩ := zero_bool (on.toNat &&& off.toNat)
  obtain ⟨by', hy, hy'⟩ := zero_bool (on.toNat &&& fl.toNat)
  obtain ⟨bz, hz, hz'⟩ := zero_bool (off.toNat &&& fl.toNat)
  obtain ⟨b1, h1⟩ : ∃ b, codeOk need = b := ⟨_, rfl⟩
  have HV : Hid (deedOk ⟨need, on, off, fl⟩ = (b1 && bx && by' && bz)) := Lib.hid (by unfold deedOk apart3; rw [h1, h2, h3, h4, hx', hy', hz']; cases b1 <;> cases bx <;> cases by' <;> cases bz <;> rfl)
  have H1 := Lib.hid h1
  have H2 := Lib.hid h2
  have H3 := Lib.hid h3
  have H4 := Lib.hid h4
  have C1 := Lib.hid (l1Both_any on off ((stIn_iff _).1 h2).1 (by have := ((stIn_iff _).1 h2).2; omega) ((stIn_iff _).1 h3).1)
  have C2 := Lib.hid (l1Both_any on fl ((stIn_iff _).1 h2).1 (by have := ((stIn_iff _).1 h2).2; omega) ((stIn_iff _).1 h4).1)
  have C3 := Lib.hid (l1Both_any off fl ((stIn_iff _).1 h3).1 (by have := ((stIn_iff _).1 h3).2; omega) ((stIn_iff _).1 h4).1)
  clear h1 h2 h3 h4 hx' hy' hz'
  generalize on.toNat &&& off.toNat = x at *
  generalize on.toNat &&& fl.toNat = y at *
  generalize off.toNat &&& fl.toNat = z at *
  go_enter Tryd.func88, Tryd.ntmps88
  go_wp2_with fail
  refine (l1In_any on _ _ _).mono ?_
  rw [show decide (0 ≤ on ∧ on ≤ 31) = true from decide_eq_true (by have := (stIn_iff on).1 H2.out; omega)]
  rintro e w' ⟨rfl, rfl⟩
  go_wp2_with fail
  refine (l1In_any off _ _ _).mono ?_
  rw [show decide (0 ≤ off ∧ off ≤ 31) = true from decide_eq_true (by have := (stIn_iff off).1 H3.out; omega)]
  rintro e w' ⟨rfl, rfl⟩
  go_wp2_with fail
  refine (l1In_any fl _ _ _).mono ?_
  rw [show decide (0 ≤ fl ∧ fl ≤ 31) = true from decide_eq_true (by have := (stIn_iff fl).1 H4.out; omega)]
  rintro e w' ⟨rfl, rfl⟩
  go_wp2_with fail
  refine (codeValid_spec _ _ _ need _ HW1.out hn40).mono ?_
  rw [H1.out]
  rintro e w' ⟨rfl, rfl⟩
  cases b1
  · go_wp2
    go_ret
    exact ⟨by rw [HV.out]; rfl, (Below.refl _ _).alloc (Nat.le_refl _) _⟩
  go_wp2_with fail
  refine (C1.out _).mono ?_
  rintro e w' ⟨rfl, rfl⟩
  cases bx
  · go_wp2
    go_ret
    exact ⟨by rw [HV.out]; rfl, (Below.refl _ _).alloc (Nat.le_refl _) _⟩
  go_wp2_with fail
  refine (C2.out _).mono ?_
  rintro e w' ⟨rfl, rfl⟩
  cases by'
  · go_wp2
    go_ret
    exact ⟨by rw [HV.out]; rfl, (Below.refl _ _).alloc (Nat.le_refl _) _⟩
  go_wp2_with fail
  refine (C3.out _).mono ?_
  rintro e w' ⟨rfl, rfl⟩
  cases bz
  · go_wp2
    go_ret
    exact ⟨by rw [HV.out]; rfl, (Below.refl _ _).alloc (Nat.le_refl _) _⟩
  · go_wp2
    go_ret
    exact ⟨by rw [HV.out]; rfl, (Below.refl _ _).alloc (Nat.le_refl _) _⟩
end Go.Proofs.YtkimgdfcgfhibaaDoor
