/- Joined texts: Deed, Task, Own. -/
import Derived.Test.YtkmcengmglgdeaaGreatDoorSRun

namespace Go.Proofs.YtkmcengmglgdeaaGreatDoor
set_option linter.unusedVariables false
set_option linter.unusedSimpArgs false
set_option maxRecDepth 100000
set_option maxHeartbeats 8000000
open Go.ChangeShapes Go.WideShapes Go.ChangeAt Go.RowKit
def stIn (x : Int) : Bool := decide (0 ≤ x ∧ x < 32)
def apart3 (a b c : Int) : Bool := decide (a.toNat &&& b.toNat = 0) && decide (a.toNat &&& c.toNat = 0) && decide (b.toNat &&& c.toNat = 0)
def deedOk (d : DeedD) : Bool := codeOk d.need && stIn d.on && stIn d.off && stIn d.flip && apart3 d.on d.off d.flip
def taskOk (t : TaskD) : Bool := stIn t.start && codeOk t.goal && decide (t.deeds.length ≤ 6) && t.deeds.all deedOk
theorem stIn_iff (x : Int) : stIn x = true ↔ 0 ≤ x ∧ x < 32 := by unfold stIn; simp
theorem stIn_no (x : Int) : stIn x = false ↔ ¬ (0 ≤ x ∧ x < 32) := by unfold stIn; simp only [decide_eq_false_iff_not]
theorem stateOk_any (x : Int) (w : World) : Calls Tryz.prog 72 #[.int .i64 x] w fun e w' => e = .returned (.bool (stIn x)) ∧ w = w' := by
 go_enter Tryz.func72, Tryz.ntmps72; go_wp2
 all_goals go_ret
 all_goals refine ⟨ret_bool ?_, rfl⟩
 all_goals unfold stIn
 all_goals (symm; simp; omega)
theorem and_cast (a b : Int) (ha : 0 ≤ a ∧ a < 32) (hb : 0 ≤ b ∧ b < 32) : bits .and .i64 a b = ((a.toNat &&& b.toNat : Nat) : Int) := by
 have h := i64_and_nat a.toNat b.toNat (by omega) (by omega)
 rwa [toNat_cast ha.1, toNat_cast hb.1] at h
theorem cast_zero_t {n : Nat} (h : n = 0) : (((n : Nat) : Int) == 0) = true := by subst h; rfl
theorem cast_zero_f {n : Nat} (h : ¬ n = 0) : (((n : Nat) : Int) == 0) = false := by simpa using h
theorem zero_bool (x : Nat) : ∃ b : Bool, (((x : Nat) : Int) == 0) = b ∧ decide (x = 0) = b := by
 by_cases h : x = 0
 ·exact ⟨true, cast_zero_t h, decide_eq_true h⟩
 ·exact ⟨false, cast_zero_f h, decide_eq_false h⟩
theorem deedValid_tail (A : Option Addr) (n c : Nat) (need : List Int) (on off fl : Int) (w : World)
  (hw1 : RdI .i64 (w.alloc (Obj.cells #[.slice A n c, .int .i64 on, .int .i64 off, .int .i64 fl] 144)) (w.alloc (Obj.cells #[.slice A n c, .int .i64 on, .int .i64 off, .int .i64 fl] 144)).heap.size A n c need)
  (h1 : codeOk need = true) (h2 : stIn on = true) (h3 : stIn off = true) (h4 : stIn fl = true) :
  Calls Tryz.prog 141 #[.agg #[.slice A n c, .int .i64 on, .int .i64 off, .int .i64 fl]] w fun e w' => e = .returned (.bool (deedOk ⟨need, on, off, fl⟩)) ∧ Below w.heap.size w w' := by
 have HW1 := Lib.hid hw1; clear hw1; have e1 := and_cast on off ((stIn_iff _).1 h2) ((stIn_iff _).1 h3); have e2 := and_cast on fl ((stIn_iff _).1 h2) ((stIn_iff _).1 h4); have e3 := and_cast off fl ((stIn_iff _).1 h3) ((stIn_iff _).1 h4); obtain ⟨bx, hx, hx'⟩ := zero_bool (on.toNat &&& off.toNat); obtain ⟨by', hy, hy'⟩ := zero_bool (on.toNat &&& fl.toNat); obtain ⟨bz, hz, hz'⟩ := zero_bool (off.toNat &&& fl.toNat); have HV : Hid (deedOk ⟨need, on, off, fl⟩ = (bx && by' && bz)) := Lib.hid (by unfold deedOk apart3; rw [h1, h2, h3, h4, hx', hy', hz']; rfl); have H1 := Lib.hid h1; have H2 := Lib.hid h2; have H3 := Lib.hid h3; have H4 := Lib.hid h4; clear h1 h2 h3 h4 hx' hy' hz'
 generalize on.toNat &&& off.toNat = x at *
 generalize on.toNat &&& fl.toNat = y at *
 generalize off.toNat &&& fl.toNat = z at *
 go_enter Tryz.func141, Tryz.ntmps141
 go_wp2_with fail
 refine (codeValid_impl _ _ _ need _ HW1.out).mono ?_; rw [H1.out]; rintro e w' ⟨rfl, rfl⟩
 go_wp2_with fail
 refine (stateOk_any on _).mono ?_; rw [H2.out]; rintro e w' ⟨rfl, rfl⟩
 go_wp2_with fail
 refine (stateOk_any off _).mono ?_; rw [H3.out]; rintro e w' ⟨rfl, rfl⟩
 go_wp2_with fail
 refine (stateOk_any fl _).mono ?_; rw [H4.out]; rintro e w' ⟨rfl, rfl⟩
 cases bx
 ·go_wp2; go_ret; exact ⟨by rw [HV.out]; rfl, (Below.refl _ _).alloc (Nat.le_refl _) _⟩
 cases by'
 ·go_wp2; go_ret; exact ⟨by rw [HV.out]; rfl, (Below.refl _ _).alloc (Nat.le_refl _) _⟩
 cases bz
 ·go_wp2; go_ret; exact ⟨by rw [HV.out]; rfl, (Below.refl _ _).alloc (Nat.le_refl _) _⟩
 ·go_wp2; go_ret; exact ⟨by rw [HV.out]; rfl, (Below.refl _ _).alloc (Nat.le_refl _) _⟩
theorem deedValid_impl (A : Option Addr) (n c : Nat) (d : DeedD) (w : World) (h : RdI .i64 w w.heap.size A n c d.need) :
  Calls Tryz.prog 141 #[.agg #[.slice A n c, .int .i64 d.on, .int .i64 d.off, .int .i64 d.flip]] w fun e w' => e = .returned (.bool (deedOk d)) ∧ Below w.heap.size w w' := by
 obtain ⟨need, on, off, fl⟩ := d
 simp only at h ⊢
 have hw1 : RdI .i64 (w.alloc (Obj.cells #[.slice A n c, .int .i64 on, .int .i64 off, .int .i64 fl] 144)) (w.alloc (Obj.cells #[.slice A n c, .int .i64 on, .int .i64 off, .int .i64 fl] 144)).heap.size A n c need := (h.below ((Below.refl _ _).alloc (Nat.le_refl _) _)).more (by simp); have HW1 := Lib.hid hw1; clear hw1
 by_cases h1 : codeOk need = true
 case neg =>
  have h1f : codeOk need = false := by simpa using h1
  have HV : Hid (deedOk ⟨need, on, off, fl⟩ = false) := Lib.hid (by unfold deedOk; rw [h1f]; simp); have H1 := Lib.hid h1f; clear h1 h1f; go_enter Tryz.func141, Tryz.ntmps141
  go_wp2_with (go_at_call 140; refine (codeValid_impl _ _ _ need _ HW1.out).mono ?_; rw [H1.out]; rintro e w' ⟨rfl, rfl⟩)
  go_ret; exact ⟨ret_bool HV.out.symm, (Below.refl _ _).alloc (Nat.le_refl _) _⟩
 by_cases h2 : stIn on = true
 case neg =>
  have h2f : stIn on = false := by simpa using h2
  have HV : Hid (deedOk ⟨need, on, off, fl⟩ = false) := Lib.hid (by unfold deedOk; rw [h2f]; simp); have H1 := Lib.hid h1; have H2 := Lib.hid h2f; clear h1 h2 h2f; go_enter Tryz.func141, Tryz.ntmps141
  go_wp2_with (first
   | (go_at_call 140; refine (codeValid_impl _ _ _ need _ HW1.out).mono ?_; rw [H1.out]; rintro e w' ⟨rfl, rfl⟩)
   | (go_at_call 72; refine (stateOk_any on _).mono ?_; rw [H2.out]; rintro e w' ⟨rfl, rfl⟩))
  go_ret; exact ⟨ret_bool HV.out.symm, (Below.refl _ _).alloc (Nat.le_refl _) _⟩
 by_cases h3 : stIn off = true
 case neg =>
  have h3f : stIn off = false := by simpa using h3
  have HV : Hid (deedOk ⟨need, on, off, fl⟩ = false) := Lib.hid (by unfold deedOk; rw [h3f]; simp); have H1 := Lib.hid h1; have H2 := Lib.hid h2; have H3 := Lib.hid h3f; clear h1 h2 h3 h3f; go_enter Tryz.func141, Tryz.ntmps141
  go_wp2_with fail
  refine (codeValid_impl _ _ _ need _ HW1.out).mono ?_; rw [H1.out]; rintro e w' ⟨rfl, rfl⟩
  go_wp2_with fail
  refine (stateOk_any on _).mono ?_; rw [H2.out]; rintro e w' ⟨rfl, rfl⟩
  go_wp2_with fail
  refine (stateOk_any off _).mono ?_; rw [H3.out]; rintro e w' ⟨rfl, rfl⟩; go_wp2; go_ret; exact ⟨ret_bool HV.out.symm, (Below.refl _ _).alloc (Nat.le_refl _) _⟩
 by_cases h4 : stIn fl = true
 case neg =>
  have h4f : stIn fl = false := by simpa using h4
  have HV : Hid (deedOk ⟨need, on, off, fl⟩ = false) := Lib.hid (by unfold deedOk; rw [h4f]; simp); have H1 := Lib.hid h1; have H2 := Lib.hid h2; have H3 := Lib.hid h3; have H4 := Lib.hid h4f; clear h1 h2 h3 h4 h4f; go_enter Tryz.func141, Tryz.ntmps141
  go_wp2_with fail
  refine (codeValid_impl _ _ _ need _ HW1.out).mono ?_; rw [H1.out]; rintro e w' ⟨rfl, rfl⟩
  go_wp2_with fail
  refine (stateOk_any on _).mono ?_; rw [H2.out]; rintro e w' ⟨rfl, rfl⟩
  go_wp2_with fail
  refine (stateOk_any off _).mono ?_; rw [H3.out]; rintro e w' ⟨rfl, rfl⟩
  go_wp2_with fail
  refine (stateOk_any fl _).mono ?_; rw [H4.out]; rintro e w' ⟨rfl, rfl⟩; go_wp2; go_ret; exact ⟨ret_bool HV.out.symm, (Below.refl _ _).alloc (Nat.le_refl _) _⟩
 exact deedValid_tail A n c need on off fl w HW1.out h1 h2 h3 h4
theorem deedValid_spec (A : Option Addr) (n c : Nat) (d : DeedD) (w : World) (h : RdI .i64 w w.heap.size A n c d.need) (hn40 : n ≤ 1099511627776) :
  Calls Tryz.prog 134 #[.agg #[.slice A n c, .int .i64 d.on, .int .i64 d.off, .int .i64 d.flip]] w fun e w' => e = .returned (.bool (deedOk d)) ∧ Below w.heap.size w w' := by
 obtain ⟨need, on, off, fl⟩ := d
 simp only at h ⊢
 have hw1 : RdI .i64 (w.alloc (Obj.cells #[.slice A n c, .int .i64 on, .int .i64 off, .int .i64 fl] 144)) (w.alloc (Obj.cells #[.slice A n c, .int .i64 on, .int .i64 off, .int .i64 fl] 144)).heap.size A n c need := (h.below ((Below.refl _ _).alloc (Nat.le_refl _) _)).more (by simp); have HW1 := Lib.hid hw1; clear hw1
 by_cases h2 : stIn on = true
 case neg =>
  have hf : stIn on = false := by simpa using h2
  have HV : Hid (deedOk ⟨need, on, off, fl⟩ = false) := Lib.hid (by unfold deedOk; rw [hf]; simp); have HF := Lib.hid hf
  clear h2 hf ; go_enter Tryz.func134, Tryz.ntmps134
  go_wp2_with fail
  refine (l1In_any on _ _ _).mono ?_; rw [show decide (0 ≤ on ∧ on ≤ 31) = false from decide_eq_false (by have := (stIn_no on).1 HF.out; omega)]; rintro e w' ⟨rfl, rfl⟩; go_wp2; go_ret; exact ⟨ret_bool HV.out.symm, (Below.refl _ _).alloc (Nat.le_refl _) _⟩
 by_cases h3 : stIn off = true
 case neg =>
  have hf : stIn off = false := by simpa using h3
  have HV : Hid (deedOk ⟨need, on, off, fl⟩ = false) := Lib.hid (by unfold deedOk; rw [hf]; simp); have HF := Lib.hid hf; have H2 := Lib.hid h2; clear h3 hf h2; go_enter Tryz.func134, Tryz.ntmps134
  go_wp2_with fail
  refine (l1In_any on _ _ _).mono ?_; rw [show decide (0 ≤ on ∧ on ≤ 31) = true from decide_eq_true (by have := (stIn_iff on).1 H2.out; omega)]; rintro e w' ⟨rfl, rfl⟩
  go_wp2_with fail
  refine (l1In_any off _ _ _).mono ?_; rw [show decide (0 ≤ off ∧ off ≤ 31) = false from decide_eq_false (by have := (stIn_no off).1 HF.out; omega)]; rintro e w' ⟨rfl, rfl⟩; go_wp2; go_ret; exact ⟨ret_bool HV.out.symm, (Below.refl _ _).alloc (Nat.le_refl _) _⟩
 by_cases h4 : stIn fl = true
 case neg =>
  have hf : stIn fl = false := by simpa using h4
  have HV : Hid (deedOk ⟨need, on, off, fl⟩ = false) := Lib.hid (by unfold deedOk; rw [hf]; simp); have HF := Lib.hid hf; have H2 := Lib.hid h2; have H3 := Lib.hid h3; clear h4 hf h2 h3; go_enter Tryz.func134, Tryz.ntmps134
  go_wp2_with fail
  refine (l1In_any on _ _ _).mono ?_; rw [show decide (0 ≤ on ∧ on ≤ 31) = true from decide_eq_true (by have := (stIn_iff on).1 H2.out; omega)]; rintro e w' ⟨rfl, rfl⟩
  go_wp2_with fail
  refine (l1In_any off _ _ _).mono ?_; rw [show decide (0 ≤ off ∧ off ≤ 31) = true from decide_eq_true (by have := (stIn_iff off).1 H3.out; omega)]; rintro e w' ⟨rfl, rfl⟩
  go_wp2_with fail
  refine (l1In_any fl _ _ _).mono ?_; rw [show decide (0 ≤ fl ∧ fl ≤ 31) = false from decide_eq_false (by have := (stIn_no fl).1 HF.out; omega)]; rintro e w' ⟨rfl, rfl⟩; go_wp2; go_ret; exact ⟨ret_bool HV.out.symm, (Below.refl _ _).alloc (Nat.le_refl _) _⟩
 obtain ⟨bx, hx, hx'⟩ := zero_bool (on.toNat &&& off.toNat); obtain ⟨by', hy, hy'⟩ := zero_bool (on.toNat &&& fl.toNat); obtain ⟨bz, hz, hz'⟩ := zero_bool (off.toNat &&& fl.toNat); obtain ⟨b1, h1⟩ : ∃ b, codeOk need = b := ⟨_, rfl⟩; have HV : Hid (deedOk ⟨need, on, off, fl⟩ = (b1 && bx && by' && bz)) := Lib.hid (by unfold deedOk apart3; rw [h1, h2, h3, h4, hx', hy', hz']; cases b1 <;> cases bx <;> cases by' <;> cases bz <;> rfl); have H1 := Lib.hid h1; have H2 := Lib.hid h2; have H3 := Lib.hid h3; have H4 := Lib.hid h4; have C1 := Lib.hid (l1Both_any on off ((stIn_iff _).1 h2).1 (by have := ((stIn_iff _).1 h2).2; omega) ((stIn_iff _).1 h3).1); have C2 := Lib.hid (l1Both_any on fl ((stIn_iff _).1 h2).1 (by have := ((stIn_iff _).1 h2).2; omega) ((stIn_iff _).1 h4).1); have C3 := Lib.hid (l1Both_any off fl ((stIn_iff _).1 h3).1 (by have := ((stIn_iff _).1 h3).2; omega) ((stIn_iff _).1 h4).1); clear h1 h2 h3 h4 hx' hy' hz'
 generalize on.toNat &&& off.toNat = x at *
 generalize on.toNat &&& fl.toNat = y at *
 generalize off.toNat &&& fl.toNat = z at *
 go_enter Tryz.func134, Tryz.ntmps134
 go_wp2_with fail
 refine (l1In_any on _ _ _).mono ?_; rw [show decide (0 ≤ on ∧ on ≤ 31) = true from decide_eq_true (by have := (stIn_iff on).1 H2.out; omega)]; rintro e w' ⟨rfl, rfl⟩
 go_wp2_with fail
 refine (l1In_any off _ _ _).mono ?_; rw [show decide (0 ≤ off ∧ off ≤ 31) = true from decide_eq_true (by have := (stIn_iff off).1 H3.out; omega)]; rintro e w' ⟨rfl, rfl⟩
 go_wp2_with fail
 refine (l1In_any fl _ _ _).mono ?_; rw [show decide (0 ≤ fl ∧ fl ≤ 31) = true from decide_eq_true (by have := (stIn_iff fl).1 H4.out; omega)]; rintro e w' ⟨rfl, rfl⟩
 go_wp2_with fail
 refine (codeValid_spec _ _ _ need _ HW1.out hn40).mono ?_; rw [H1.out]; rintro e w' ⟨rfl, rfl⟩
 cases b1
 ·go_wp2; go_ret; exact ⟨by rw [HV.out]; rfl, (Below.refl _ _).alloc (Nat.le_refl _) _⟩
 go_wp2_with fail
 refine (C1.out _).mono ?_; rintro e w' ⟨rfl, rfl⟩
 cases bx
 ·go_wp2; go_ret; exact ⟨by rw [HV.out]; rfl, (Below.refl _ _).alloc (Nat.le_refl _) _⟩
 go_wp2_with fail
 refine (C2.out _).mono ?_; rintro e w' ⟨rfl, rfl⟩
 cases by'
 ·go_wp2; go_ret; exact ⟨by rw [HV.out]; rfl, (Below.refl _ _).alloc (Nat.le_refl _) _⟩
 go_wp2_with fail
 refine (C3.out _).mono ?_; rintro e w' ⟨rfl, rfl⟩
 cases bz
 ·go_wp2; go_ret; exact ⟨by rw [HV.out]; rfl, (Below.refl _ _).alloc (Nat.le_refl _) _⟩
 ·go_wp2; go_ret; exact ⟨by rw [HV.out]; rfl, (Below.refl _ _).alloc (Nat.le_refl _) _⟩
def RdDAtM (M : Nat) (w : World) (B b o : Nat) (d : DeedD) : Prop :=
 ∃ A n c, w.cell? ⟨b, o, none⟩ = some (.slice A n c) ∧ w.cell? ⟨b, o + 1, none⟩ = some (.int .i64 d.on) ∧ w.cell? ⟨b, o + 2, none⟩ = some (.int .i64 d.off) ∧ w.cell? ⟨b, o + 3, none⟩ = some (.int .i64 d.flip) ∧
  RdI .i64 w B A n c d.need ∧ n ≤ M ∧ (Lit.int .i64 d.on).wf = true ∧ (Lit.int .i64 d.off).wf = true ∧ (Lit.int .i64 d.flip).wf = true
structure RdDsM (M : Nat) (w : World) (B : Nat) (A : Option Addr) (n c : Nat) (ds : List DeedD) : Prop where
 len : ds.length = n
 cap : n ≤ c
 capMax : c ≤ maxLen
 small : n ≤ M
 at_ : 0 < n → ∃ b off, A = some ⟨b, off, none⟩ ∧ b < B ∧ ∀ i d, ds[i]? = some d → RdDAtM M w B b (off + i * 4) d
def RdTM (M : Nat) (w : World) (B : Nat) (v : Value) (t : TaskD) : Prop :=
 ∃ A n c A' n' c', v = .agg #[.int .i64 t.start, .slice A n c, .slice A' n' c'] ∧ RdI .i64 w B A n c t.goal ∧ n ≤ M ∧ RdDsM M w B A' n' c' t.deeds ∧ (Lit.int .i64 t.start).wf = true
abbrev RdDAt := RdDAtM 1048576
abbrev RdDs := RdDsM 1048576
abbrev RdT := RdTM 1048576
section
variable {M : Nat} {w w' : World} {B B' : Nat}
theorem RdDAtM.keep {b o : Nat} {d : DeedD} (h : RdDAtM M w B b o d) (hb : b < B) (hk : ∀ b o, b < B → w'.cell? ⟨b, o, none⟩ = w.cell? ⟨b, o, none⟩) : RdDAtM M w' B b o d := by
 obtain ⟨A, n, c, h0, h1, h2, h3, h4, r⟩ := h; exact ⟨A, n, c, (hk _ _ hb).trans h0, (hk _ _ hb).trans h1, (hk _ _ hb).trans h2, (hk _ _ hb).trans h3, h4.keep hk, r⟩
theorem RdDAtM.more {b o : Nat} {d : DeedD} (h : RdDAtM M w B b o d) (hB : B ≤ B') : RdDAtM M w B' b o d := by
 obtain ⟨A, n, c, h0, h1, h2, h3, h4, r⟩ := h; exact ⟨A, n, c, h0, h1, h2, h3, h4.more hB, r⟩
theorem RdDsM.keep {A : Option Addr} {n c : Nat} {ds : List DeedD} (h : RdDsM M w B A n c ds) (hk : ∀ b o, b < B → w'.cell? ⟨b, o, none⟩ = w.cell? ⟨b, o, none⟩) : RdDsM M w' B A n c ds :=
 ⟨h.len, h.cap, h.capMax, h.small, fun hn => by
  obtain ⟨b, off, e, hb, hc⟩ := h.at_ hn
  exact ⟨b, off, e, hb, fun i d hd => (hc i d hd).keep hb hk⟩⟩
theorem RdDsM.more {A : Option Addr} {n c : Nat} {ds : List DeedD} (h : RdDsM M w B A n c ds) (hB : B ≤ B') : RdDsM M w B' A n c ds :=
 ⟨h.len, h.cap, h.capMax, h.small, fun hn => by
  obtain ⟨b, off, e, hb, hc⟩ := h.at_ hn
  exact ⟨b, off, e, by omega, fun i d hd => (hc i d hd).more hB⟩⟩
theorem RdDsM.below {A : Option Addr} {n c : Nat} {ds : List DeedD} (h : RdDsM M w B A n c ds) (hb : Below B w w') : RdDsM M w' B A n c ds := h.keep (bcells hb)
theorem RdDsM.get {A : Option Addr} {n c : Nat} {ds : List DeedD} (h : RdDsM M w B A n c ds) {i : Nat} (hi : i < n) : ∃ b off d, A = some ⟨b, off, none⟩ ∧ b < B ∧ ds[i]? = some d ∧ RdDAtM M w B b (off + i * 4) d := by
 obtain ⟨b, off, e, hb, hc⟩ := h.at_ (by omega); have hl : i < ds.length := by rw [h.len]; exact hi
 exact ⟨b, off, ds[i], e, hb, List.getElem?_eq_getElem hl, hc i _ (List.getElem?_eq_getElem hl)⟩
theorem RdTM.keep {v : Value} {t : TaskD} (h : RdTM M w B v t) (hk : ∀ b o, b < B → w'.cell? ⟨b, o, none⟩ = w.cell? ⟨b, o, none⟩) : RdTM M w' B v t := by
 obtain ⟨A, n, c, A', n', c', e, h1, h2, h3, h4⟩ := h; exact ⟨A, n, c, A', n', c', e, h1.keep hk, h2, h3.keep hk, h4⟩
theorem RdTM.more {v : Value} {t : TaskD} (h : RdTM M w B v t) (hB : B ≤ B') : RdTM M w B' v t := by
 obtain ⟨A, n, c, A', n', c', e, h1, h2, h3, h4⟩ := h; exact ⟨A, n, c, A', n', c', e, h1.more hB, h2, h3.more hB, h4⟩
theorem RdTM.below {v : Value} {t : TaskD} (h : RdTM M w B v t) (hb : Below B w w') : RdTM M w' B v t := h.keep (bcells hb)
theorem RdTM.up {v : Value} {t : TaskD} (h : RdTM M w w.heap.size v t) (hb : Below w.heap.size w w') : RdTM M w' w'.heap.size v t := (h.below hb).more hb.size
theorem RdI.up {k : IntKind} {A : Option Addr} {n c : Nat} {xs : List Int} (h : RdI k w w.heap.size A n c xs) (hb : Below w.heap.size w w') : RdI k w' w'.heap.size A n c xs := (h.below hb).more hb.size
theorem RdDsM.up {A : Option Addr} {n c : Nat} {ds : List DeedD} (h : RdDsM M w w.heap.size A n c ds) (hb : Below w.heap.size w w') : RdDsM M w' w'.heap.size A n c ds := (h.below hb).more hb.size
end
theorem taskOk_deed (t : TaskD) (k : Nat) (d : DeedD) (hd : t.deeds[k]? = some d) (h : deedOk d = false) : taskOk t = false := by
 unfold taskOk
 have : t.deeds.all deedOk = false := by rw [List.all_eq_false]; exact ⟨d, List.mem_of_getElem? hd, by rw [h]; simp⟩
 rw [this]; simp
theorem taskOk_all (t : TaskD) (h1 : stIn t.start = true) (h2 : codeOk t.goal = true) (h3 : t.deeds.length ≤ 6) (h4 : ∀ (k : Nat) (d : DeedD), t.deeds[k]? = some d → deedOk d = true) : taskOk t = true := by
 unfold taskOk
 rw [h1, h2, decide_eq_true h3]; simp only [Bool.true_and, List.all_eq_true]; exact fun d hd => by obtain ⟨k, hk⟩ := List.mem_iff_getElem?.1 hd; exact h4 k d hk
theorem taskValid_impl (v : Value) (t : TaskD) (w : World) (h : RdT w w.heap.size v t) :
  Calls Tryz.prog 71 #[v] w fun e w' => e = .returned (.bool (taskOk t)) ∧ Below w.heap.size w w' := by
 obtain ⟨A, n, c, A', n', c', rfl, hg, hgs, hds, hst⟩ := h; have hb0 : Below w.heap.size w (w.alloc (Obj.cells #[.int .i64 t.start, .slice A n c, .slice A' n' c'] 26)) := (Below.refl _ _).alloc (Nat.le_refl _) _; have HG := Lib.hid (hg.up hb0); have hdl := hds.len; have hdc := hds.cap; have hdm := hds.capMax; have hdsm := hds.small
 unfold maxLen at hdm
 obtain ⟨bs, h1⟩ : ∃ b, stIn t.start = b := ⟨_, rfl⟩; obtain ⟨bg, h2⟩ : ∃ b, codeOk t.goal = b := ⟨_, rfl⟩; have H1 := Lib.hid h1; have H2 := Lib.hid h2; have HDL := Lib.hid hdl; have HB0 := Lib.hid hb0; clear h1 h2 hdl hb0; go_enter Tryz.func71, Tryz.ntmps71
 go_wp2_with fail
 refine (stateOk_any _ _).mono ?_; rw [H1.out]; rintro e w' ⟨rfl, rfl⟩
 cases bs
 ·have HV : Hid (taskOk t = false) := Lib.hid (by unfold taskOk; rw [H1.out]; simp); go_wp2; go_ret; exact ⟨by rw [HV.out]; rfl, HB0.out⟩
 go_wp2_with fail
 refine (codeValid_impl _ _ _ _ _ HG.out).mono ?_; rw [H2.out]; rintro e w' ⟨rfl, rfl⟩
 cases bg
 ·have HV : Hid (taskOk t = false) := Lib.hid (by unfold taskOk; rw [H2.out]; simp); go_wp2; go_ret; exact ⟨by rw [HV.out]; rfl, HB0.out⟩
 by_cases h6 : n' ≤ 6
 case neg =>
  have HV : Hid (taskOk t = false) := Lib.hid (by unfold taskOk; rw [decide_eq_false (by rw [HDL.out]; exact h6)]; simp); go_wp2; go_ret; exact ⟨by rw [HV.out]; rfl, HB0.out⟩
 go_wp2
 go_loopw [24] (fun i wr => ∃ k : Nat, k ≤ n' ∧ i = .int .i64 k ∧ Hid (∀ (j : Nat) (d : DeedD), j < k → t.deeds[j]? = some d → deedOk d = true) ∧ Below w.heap.size w wr) (fun i _ => n' - (intOf i).toNat)
 case atStart => exact ⟨0, by omega, rfl, Lib.hid (by omega), HB0.out⟩
 case round =>
  obtain ⟨k, hk, rfl, hpre, hbel⟩ := hrel
  by_cases hlt : k < n'
  ·obtain ⟨b, off, d, rfl, hb, hd, hda⟩ := hds.get hlt; obtain ⟨An, nn, cn, q0, q1, q2, q3, hneed, -⟩ := (hda.keep hb (bcells hbel)); have HD := Lib.hid hd; clear hd hda
   go_wp2_with fail
   have hal : Below wr.heap.size wr (wr.alloc (Obj.cells #[Value.slice An nn cn, Value.int IntKind.i64 d.on, Value.int IntKind.i64 d.off, Value.int IntKind.i64 d.flip] 144)) := (Below.refl _ _).alloc (Nat.le_refl _) _; refine (deedValid_impl An nn cn d _ (((hneed.more hbel.size).below hal).more hal.size)).mono ?_; rintro e w2 ⟨rfl, hb2⟩; have hbel2 : Below w.heap.size w w2 := hbel.trans ((hal.trans (hb2.mono hal.size)).mono hbel.size); clear hal hb2 q0 q1 q2 q3; obtain ⟨bd, hdk⟩ : ∃ b, deedOk d = b := ⟨_, rfl⟩; rw [hdk]; have HDK := Lib.hid hdk; clear hdk
   cases bd
   ·have HV := Lib.hid (taskOk_deed t k d HD.out HDK.out); go_wp2; go_ret; exact ⟨by rw [HV.out]; rfl, hbel2⟩
   ·go_wp2
    go_roundw
    case rel => exact ⟨k + 1, by omega, by go_num, Lib.hid (fun j e hj he => by
     rcases Nat.lt_or_ge j k with h1 | h1
     ·exact hpre.out j e h1 he
     ·obtain rfl : j = k := by omega
      have := he.symm.trans HD.out
      injection this with this
      subst this
      exact HDK.out), hbel2⟩
    case measure => simp [intOf]; omega
  ·have HV := Lib.hid (taskOk_all t H1.out H2.out (by rw [HDL.out]; exact h6) (fun j d hd => hpre.out j d (by have := (List.getElem?_eq_some_iff.1 hd).1; have := HDL.out; omega) hd)); go_wp2; go_ret; exact ⟨by rw [HV.out]; rfl, hbel⟩
theorem taskValid_spec (v : Value) (t : TaskD) (w : World) (h : RdT w w.heap.size v t) :
  Calls Tryz.prog 66 #[v] w fun e w' => e = .returned (.bool (taskOk t)) ∧ Below w.heap.size w w' := by
 obtain ⟨A, n, c, A', n', c', rfl, hg, hgs, hds, hst⟩ := h; have hb0 : Below w.heap.size w (w.alloc (Obj.cells #[.int .i64 t.start, .slice A n c, .slice A' n' c'] 26)) := (Below.refl _ _).alloc (Nat.le_refl _) _; have hk0 := Blk.new w 26 #[.int .i64 t.start, .slice A n c, .slice A' n' c']; have hdl := hds.len; have hdc := hds.cap; have hdm := hds.capMax; have hdsm := hds.small
 unfold maxLen at hdm
 have HDL := Lib.hid hdl; clear hdl; go_enter Tryz.func66, Tryz.ntmps66; go_wp2
 go_loopw [3] (fun i wr => ∃ k : Nat, k ≤ n' ∧ i = .int .i64 k ∧ Hid (∀ (j : Nat) (d : DeedD), j < k → t.deeds[j]? = some d → deedOk d = true) ∧ Blk wr w.heap.size 26 #[.int .i64 t.start, .slice A n c, .slice A' n' c'] ∧ Below w.heap.size w wr) (fun i _ => n' - (intOf i).toNat)
 case atStart => exact ⟨0, by omega, rfl, Lib.hid (by omega), hk0, hb0⟩
 case round =>
  obtain ⟨k, hk, rfl, hpre, hblk, hbel⟩ := hrel; have p0 : wr.cell? ⟨w.heap.size, 0, none⟩ = some (.int .i64 t.start) := hblk.cell 0; have p1 : wr.cell? ⟨w.heap.size, 1, none⟩ = some (.slice A n c) := hblk.cell 1; have p2 : wr.cell? ⟨w.heap.size, 2, none⟩ = some (.slice A' n' c') := hblk.cell 2
  by_cases hlt : k < n'
  ·obtain ⟨b, off, d, rfl, hb, hd, hda⟩ := hds.get hlt; obtain ⟨An, nn, cn, q0, q1, q2, q3, hneed, hnn, -⟩ := (hda.keep hb (bcells hbel)); have HD := Lib.hid hd; clear hd hda
   go_wp2_with fail
   refine (deedValid_spec An nn cn d _ (hneed.more hbel.size) (by omega)).mono ?_; rintro e w2 ⟨rfl, hb2⟩; have hbel2 : Below w.heap.size w w2 := hbel.trans (hb2.mono hbel.size); have hblk2 := hblk.below hb2 hblk.lt; clear hb2 q0 q1 q2 q3 p0 p1 p2 hblk; obtain ⟨bd, hdk⟩ : ∃ b, deedOk d = b := ⟨_, rfl⟩; rw [hdk]; have HDK := Lib.hid hdk; clear hdk
   cases bd
   ·have HV := Lib.hid (taskOk_deed t k d HD.out HDK.out); go_wp2; go_ret; exact ⟨by rw [HV.out]; rfl, hbel2⟩
   ·go_wp2
    go_roundw
    case rel => exact ⟨k + 1, by omega, by go_num, Lib.hid (fun j e hj he => by
     rcases Nat.lt_or_ge j k with h1 | h1
     ·exact hpre.out j e h1 he
     ·obtain rfl : j = k := by omega
      have := he.symm.trans HD.out
      injection this with this
      subst this
      exact HDK.out), hblk2, hbel2⟩
    case measure => simp [intOf]; omega
  ·obtain ⟨bs, h1⟩ : ∃ b, stIn t.start = b := ⟨_, rfl⟩; obtain ⟨bg, h2⟩ : ∃ b, codeOk t.goal = b := ⟨_, rfl⟩; have H1 := Lib.hid h1; have H2 := Lib.hid h2; clear h1 h2
   go_wp2_with fail
   cases bs
   ·have HV : Hid (taskOk t = false) := Lib.hid (by unfold taskOk; rw [H1.out]; simp); refine (l1In_no _ _ _ _ (by have := (stIn_no _).1 H1.out; omega)).mono ?_; rintro e w' ⟨rfl, rfl⟩; go_wp2; go_ret; exact ⟨by rw [HV.out]; rfl, hbel⟩
   refine (l1In_yes _ _ _ _ ((stIn_iff _).1 H1.out).1 (by have := ((stIn_iff _).1 H1.out).2; omega)).mono ?_; rintro e w' ⟨rfl, rfl⟩
   go_wp2_with fail
   refine (codeValid_spec _ _ _ t.goal _ ((hg.below hbel).more hbel.size) (by omega)).mono ?_; rw [H2.out]; rintro e w' ⟨rfl, rfl⟩
   cases bg
   ·have HV : Hid (taskOk t = false) := Lib.hid (by unfold taskOk; rw [H2.out]; simp); go_wp2; go_ret; exact ⟨by rw [HV.out]; rfl, hbel⟩
   by_cases h6 : n' ≤ 6
   ·have HV := Lib.hid (taskOk_all t H1.out H2.out (by rw [HDL.out]; exact h6) (fun j d hd => hpre.out j d (by have := (List.getElem?_eq_some_iff.1 hd).1; have := HDL.out; omega) hd)); go_wp2; go_ret; exact ⟨by rw [HV.out]; exact ret_bool (decide_eq_true (show (n' : Int) ≤ 6 by omega)), hbel⟩
   ·have HV : Hid (taskOk t = false) := Lib.hid (by unfold taskOk; rw [decide_eq_false (by rw [HDL.out]; exact h6)]; simp); go_wp2; go_ret; exact ⟨by rw [HV.out]; exact ret_bool (decide_eq_false (show ¬ (n' : Int) ≤ 6 by omega)), hbel⟩
structure Only (F : List Nat) (w w' : World) : Prop where
 os : w'.os = w.os
 tape : w'.tape = w.tape
 output : w'.output = w.output
 size : w.heap.size ≤ w'.heap.size
 block : ∀ k, k < w.heap.size → k ∉ F → w'.heap[k]? = w.heap[k]?
theorem Only.refl (F : List Nat) (w : World) : Only F w w := ⟨rfl, rfl, rfl, Nat.le_refl _, fun _ _ _ => rfl⟩
theorem Only.trans {F : List Nat} {a b c : World} (h : Only F a b) (k : Only F b c) : Only F a c :=
 ⟨k.os.trans h.os, k.tape.trans h.tape, k.output.trans h.output, Nat.le_trans h.size k.size, fun i hi hn => (k.block i (Nat.lt_of_lt_of_le hi h.size) hn).trans (h.block i hi hn)⟩
theorem Only.sub {F F' : List Nat} {a b : World} (h : Only F a b) (hs : ∀ x ∈ F, x ∈ F') : Only F' a b := ⟨h.os, h.tape, h.output, h.size, fun i hi hn => h.block i hi fun hx => hn (hs i hx)⟩
theorem Only.of_below {F : List Nat} {a b : World} (h : Below a.heap.size a b) : Only F a b := ⟨h.os, h.tape, h.output, h.size, fun i hi _ => h.block i hi⟩
theorem Only.below {F : List Nat} {a b : World} {B : Nat} (h : Only F a b) (hF : ∀ x ∈ F, B ≤ x) (hB : B ≤ a.heap.size) : Below B a b := ⟨h.os, h.tape, h.output, h.size, fun i hi => h.block i (by omega) fun hx => by have := hF i hx; omega⟩
theorem Only.set {F : List Nat} {a w : World} (h : Only F a w) {p : Addr} (hp : p.block ∈ F) (u : Value) : Only F a (w.setCell p u) :=
 h.trans ⟨rfl, rfl, rfl, by simp [World.setCell], fun k _ hn => Below.heap_setCell _ _ _ _ (by rintro rfl; exact hn hp)⟩
theorem Only.of_grown {a b : World} {row : Option Nat} (h : a.grownBy b row) : Only row.toList a b := ⟨h.os, h.tape, h.output, h.size, fun i hi hn => h.block i hi (by rintro rfl; simp at hn)⟩
structure OwnI (w : World) (lo : Nat) (v : Value) (xs : List Int) (F : List Nat) : Prop where
 row : w.ownsRow lo 3 1 v xs.length (ints xs)
 wf : ∀ x ∈ xs, (Lit.int .i64 x).wf = true
 foot : F = v.ownBlock.toList
theorem ownsRow_heap {w w' : World} {base : Nat} {e : TypeId} {size n : Nat} {v : Value} {xs : List Value} (h : w.ownsRow base e size v n xs) (hk : ∀ b, v.ownBlock = some b → w'.heap[b]? = w.heap[b]?) : w'.ownsRow base e size v n xs := by
 refine ⟨h.1, ?_⟩
 rcases h.2 with h | ⟨g, cap, cur, rfl, hg, hh, r⟩
 ·exact .inl h
 ·exact .inr ⟨g, cap, cur, rfl, hg, (hk g rfl).trans hh, r⟩
section
variable {w w' : World} {lo : Nat} {v : Value} {xs : List Int} {F : List Nat}
theorem OwnI.keep (h : OwnI w lo v xs F) (hk : ∀ b ∈ F, w'.heap[b]? = w.heap[b]?) : OwnI w' lo v xs F :=
 ⟨ownsRow_heap h.row fun b hb => hk b (by rw [h.foot, hb]; simp), h.wf, h.foot⟩
theorem OwnI.lt (h : OwnI w lo v xs F) : ∀ b ∈ F, lo ≤ b ∧ b < w.heap.size := fun b hb => h.row.lt b (by rw [h.foot] at hb; simpa using hb)
theorem OwnI.nodup (h : OwnI w lo v xs F) : F.Nodup := by rw [h.foot]; cases v.ownBlock <;> simp
theorem OwnI.rd (h : OwnI w lo v xs F) : ∃ A c, v = .slice A xs.length c ∧ RdI .i64 w w.heap.size A xs.length c xs := by
 obtain ⟨A, c, hv⟩ := own_form h.row; subst hv; exact ⟨A, c, rfl, rdI_own h.row h.wf⟩
theorem OwnI.mono {lo' : Nat} (h : OwnI w lo v xs F) (hl : lo' ≤ lo) : OwnI w lo' v xs F := ⟨own_mono h.row hl, h.wf, h.foot⟩
theorem OwnI.below (h : OwnI w lo v xs F) (hb : Below w.heap.size w w') : OwnI w' lo v xs F := h.keep fun b hx => hb.block b (h.lt b hx).2
end
def OwnD (w : World) (lo : Nat) (cells : List Value) (i : Nat) (d : DeedD) (F : List Nat) : Prop :=
 ∃ nv, cells[i * 4]? = some nv ∧ cells[i * 4 + 1]? = some (.int .i64 d.on) ∧ cells[i * 4 + 2]? = some (.int .i64 d.off) ∧ cells[i * 4 + 3]? = some (.int .i64 d.flip) ∧ OwnI w lo nv d.need F ∧ d.need.length ≤ 1048576 ∧
  (Lit.int .i64 d.on).wf = true ∧ (Lit.int .i64 d.off).wf = true ∧ (Lit.int .i64 d.flip).wf = true
structure OwnDs (w : World) (lo : Nat) (v : Value) (ds : List DeedD) (F : List Nat) (cells : List Value) (Fs : List (List Nat)) : Prop where
 row : w.ownsRow lo 144 4 v ds.length cells
 small : ds.length ≤ 1048576
 flen : Fs.length = ds.length
 foot : F = v.ownBlock.toList ++ Fs.flatten
 deed : ∀ (i : Nat) d Fi, ds[i]? = some d → Fs[i]? = some Fi → OwnD w lo cells i d Fi
section
variable {w w' : World} {lo : Nat} {v : Value} {ds : List DeedD} {F : List Nat} {cells : List Value} {Fs : List (List Nat)}
theorem OwnD.keep {i : Nat} {d : DeedD} {Fi : List Nat} (h : OwnD w lo cells i d Fi) (hk : ∀ b ∈ Fi, w'.heap[b]? = w.heap[b]?) : OwnD w' lo cells i d Fi := by
 obtain ⟨nv, h0, h1, h2, h3, h4, r⟩ := h; exact ⟨nv, h0, h1, h2, h3, h4.keep hk, r⟩
theorem mem_flat {Fs : List (List Nat)} {i : Nat} {Fi : List Nat} (h : Fs[i]? = some Fi) {b : Nat} (hb : b ∈ Fi) : b ∈ Fs.flatten := List.mem_flatten.2 ⟨Fi, List.mem_of_getElem? h, hb⟩
theorem OwnDs.keep (h : OwnDs w lo v ds F cells Fs) (hk : ∀ b ∈ F, w'.heap[b]? = w.heap[b]?) : OwnDs w' lo v ds F cells Fs :=
 ⟨ownsRow_heap h.row fun b hb => hk b (by rw [h.foot, hb]; simp), h.small, h.flen, h.foot, fun i d Fi hd hF => (h.deed i d Fi hd hF).keep fun b hb => hk b (by rw [h.foot]; exact List.mem_append_right _ (mem_flat hF hb))⟩
theorem OwnDs.lt (h : OwnDs w lo v ds F cells Fs) : ∀ b ∈ F, lo ≤ b ∧ b < w.heap.size := fun b hb => by
 rw [h.foot] at hb
 rcases List.mem_append.1 hb with hb | hb
 ·exact h.row.lt b (by simpa using hb)
 ·obtain ⟨Fi, hF, hb⟩ := List.mem_flatten.1 hb; obtain ⟨i, hi⟩ := List.mem_iff_getElem?.1 hF; have hl : i < ds.length := by rw [← h.flen]; exact (List.getElem?_eq_some_iff.1 hi).1
  obtain ⟨nv, _, _, _, _, h4, _⟩ := h.deed i _ _ (List.getElem?_eq_getElem hl) hi; exact h4.lt b hb
theorem OwnDs.mono {lo' : Nat} (h : OwnDs w lo v ds F cells Fs) (hl : lo' ≤ lo) : OwnDs w lo' v ds F cells Fs :=
 ⟨own_mono h.row hl, h.small, h.flen, h.foot, fun i d Fi hd hF => by
  obtain ⟨nv, h0, h1, h2, h3, h4, r⟩ := h.deed i d Fi hd hF
  exact ⟨nv, h0, h1, h2, h3, h4.mono hl, r⟩⟩
theorem OwnDs.below (h : OwnDs w lo v ds F cells Fs) (hb : Below w.heap.size w w') : OwnDs w' lo v ds F cells Fs := h.keep fun b hx => hb.block b (h.lt b hx).2
theorem OwnDs.rd (h : OwnDs w lo v ds F cells Fs) : ∃ A c, v = .slice A ds.length c ∧ RdDs w w.heap.size A ds.length c ds := by
 rcases h.row.2 with ⟨rfl, h0⟩ | ⟨g, cap, cur, rfl, hg, hh, h3, h4, h5, h6⟩
 ·exact ⟨none, 0, by rw [h0], rfl, by omega, by unfold maxLen; omega, h.small, fun hn => by omega⟩
 ·refine ⟨_, _, rfl, rfl, h3, h4, h.small, fun _ => ⟨g, 0, rfl, (Array.getElem?_eq_some_iff.1 hh).1, fun i d hd => ?_⟩⟩; have hl : i < ds.length := (List.getElem?_eq_some_iff.1 hd).1; obtain ⟨nv, q0, q1, q2, q3, q4, q5, q6⟩ := h.deed i d (Fs[i]'(by rw [h.flen]; exact hl)) hd (List.getElem?_eq_getElem _)
  have hcell : ∀ j u, cells[j]? = some u → w.cell? ⟨g, j, none⟩ = some u := fun j u hu => by
   have hj : j < ds.length * 4 := by rw [← h.row.1]; exact (List.getElem?_eq_some_iff.1 hu).1
   exact (h.row.cellAt j hj).trans hu
  obtain ⟨A, c, rfl, hr⟩ := q4.rd; rw [Nat.zero_add]; exact ⟨A, _, c, hcell _ _ q0, hcell _ _ q1, hcell _ _ q2, hcell _ _ q3, hr, q5, q6⟩
end
def OwnT (w : World) (lo : Nat) (v : Value) (t : TaskD) (F : List Nat) : Prop :=
 ∃ gv dv Fg Fd cells Fs, v = .agg #[.int .i64 t.start, gv, dv] ∧ OwnI w lo gv t.goal Fg ∧ t.goal.length ≤ 1048576 ∧ OwnDs w lo dv t.deeds Fd cells Fs ∧ F = Fg ++ Fd ∧ (Lit.int .i64 t.start).wf = true
section
variable {w w' : World} {lo : Nat} {v : Value} {t : TaskD} {F : List Nat}
theorem OwnT.keep (h : OwnT w lo v t F) (hk : ∀ b ∈ F, w'.heap[b]? = w.heap[b]?) : OwnT w' lo v t F := by
 obtain ⟨gv, dv, Fg, Fd, cells, Fs, e, h1, h2, h3, rfl, h4⟩ := h; exact ⟨gv, dv, Fg, Fd, cells, Fs, e, h1.keep fun b hb => hk b (List.mem_append_left _ hb), h2, h3.keep fun b hb => hk b (List.mem_append_right _ hb), rfl, h4⟩
theorem OwnT.lt (h : OwnT w lo v t F) : ∀ b ∈ F, lo ≤ b ∧ b < w.heap.size := by
 obtain ⟨gv, dv, Fg, Fd, cells, Fs, e, h1, h2, h3, rfl, h4⟩ := h; intro b hb
 rcases List.mem_append.1 hb with hb | hb
 ·exact h1.lt b hb
 ·exact h3.lt b hb
theorem OwnT.mono {lo' : Nat} (h : OwnT w lo v t F) (hl : lo' ≤ lo) : OwnT w lo' v t F := by
 obtain ⟨gv, dv, Fg, Fd, cells, Fs, e, h1, h2, h3, rfl, h4⟩ := h; exact ⟨gv, dv, Fg, Fd, cells, Fs, e, h1.mono hl, h2, h3.mono hl, rfl, h4⟩
theorem OwnT.below (h : OwnT w lo v t F) (hb : Below w.heap.size w w') : OwnT w' lo v t F := h.keep fun b hx => hb.block b (h.lt b hx).2
theorem OwnT.rd (h : OwnT w lo v t F) : RdT w w.heap.size v t := by
 obtain ⟨gv, dv, Fg, Fd, cells, Fs, rfl, h1, h2, h3, rfl, h4⟩ := h; obtain ⟨A, c, rfl, hg⟩ := h1.rd; obtain ⟨A', c', rfl, hd⟩ := h3.rd; exact ⟨A, _, c, A', _, c', rfl, hg, h2, hd, h4⟩
end
end Go.Proofs.YtkmcengmglgdeaaGreatDoor
