/- Plain law: deeds done, plans run: what DeedDo and PlanRun tell, as plain functions; no program in sight. -/
import Derived.Test.YtpcaagbmjhgnaaaTask
import Derived.Test.YtpcaagbmjhgnaaaNum
namespace Go.Proofs.Ytpcaagbmjhgnaaa

def opt : Option Nat → Int
  | some s => s
  | none => -1
theorem opt_nonneg {o : Option Nat} : 0 ≤ opt o ↔ ∃ s, o = some s := by cases o <;> simp [opt]
/-- the state behind a deed, where it may be done -/
def behind (d : DeedD) (s : Nat) : Nat := ((s ||| d.on.toNat) - ((s ||| d.on.toNat) &&& d.off.toNat)) ^^^ d.flip.toNat
def deedDo (d : DeedD) (s : Nat) : Option Nat := if evalCode d.need s then some (behind d s) else none
def stepP (t : TaskD) (s : Nat) (k : Int) : Option Nat := if 0 ≤ k ∧ k < t.deeds.length then (t.deeds[k.toNat]?).bind (deedDo · s) else none
def runP (t : TaskD) : Nat → List Int → Option Nat
  | s, [] => some s
  | s, k :: ks => (stepP t s k).bind fun s' => runP t s' ks
def planRun (t : TaskD) (s : Int) (p : List Int) : Int := if taskOk t = true ∧ stIn s = true ∧ p.length ≤ 40 then opt (runP t s.toNat p) else -1

theorem runP_append (t : TaskD) (s : Nat) (p q : List Int) : runP t s (p ++ q) = (runP t s p).bind fun s' => runP t s' q := by
  induction p generalizing s with
  | nil => rfl
  | cons k p ih =>
    simp only [List.cons_append, runP]
    cases stepP t s k with
    | none => rfl
    | some s' => simp [ih]
theorem runP_step (t : TaskD) (s : Nat) (p : List Int) (k : Nat) (x : Int) (hx : p[k]? = some x) (s' : Nat) (h : runP t s (p.take k) = some s') : runP t s (p.take (k + 1)) = stepP t s' x := by
  obtain ⟨h1, h2⟩ := List.getElem?_eq_some_iff.1 hx
  rw [List.take_succ_eq_append_getElem h1, h2, runP_append, h]
  simp only [Option.bind_some, runP]
  cases stepP t s' x <;> rfl
theorem runP_bad (t : TaskD) (s : Nat) (p : List Int) (k : Nat) (x : Int) (hx : p[k]? = some x) (s' : Nat) (h : runP t s (p.take k) = some s') (hs : stepP t s' x = none) : runP t s p = none := by
  obtain ⟨h1, h2⟩ := List.getElem?_eq_some_iff.1 hx
  conv => lhs; rw [← List.take_append_drop k p]
  rw [runP_append, h, List.drop_eq_getElem_cons h1, h2]
  simp [runP, hs]

theorem and_lt32 {a : Nat} (b : Nat) (h : a < 32) : a &&& b < 32 := Nat.lt_of_le_of_lt Nat.and_le_left h
theorem or_lt32 {a b : Nat} (h : a < 32) (h' : b < 32) : a ||| b < 32 := Nat.or_lt_two_pow (n := 5) h h'
theorem deedOk_parts (d : DeedD) (h : deedOk d = true) : codeOk d.need = true ∧ (0 ≤ d.on ∧ d.on < 32) ∧ (0 ≤ d.off ∧ d.off < 32) ∧ (0 ≤ d.flip ∧ d.flip < 32) ∧ d.on.toNat &&& d.off.toNat = 0 ∧ d.on.toNat &&& d.flip.toNat = 0 ∧ d.off.toNat &&& d.flip.toNat = 0 := by
  unfold deedOk apart3 at h
  simp only [Bool.and_eq_true, decide_eq_true_eq] at h
  obtain ⟨⟨⟨⟨h1, h2⟩, h3⟩, h4⟩, ⟨h5, h6⟩, h7⟩ := h
  exact ⟨h1, (stIn_iff _).1 h2, (stIn_iff _).1 h3, (stIn_iff _).1 h4, h5, h6, h7⟩
theorem taskOk_parts (t : TaskD) (h : taskOk t = true) : (0 ≤ t.start ∧ t.start < 32) ∧ codeOk t.goal = true ∧ t.deeds.length ≤ 6 ∧ ∀ d ∈ t.deeds, deedOk d = true := by
  unfold taskOk at h
  simp only [Bool.and_eq_true, decide_eq_true_eq, List.all_eq_true] at h
  exact ⟨(stIn_iff _).1 h.1.1.1, h.1.1.2, h.1.2, h.2⟩
theorem behind_lt (d : DeedD) (s : Nat) (h : deedOk d = true) (hs : s < 32) : behind d s < 32 := by
  obtain ⟨-, h1, h2, h3, -⟩ := deedOk_parts d h
  exact xor32 _ _ (Nat.lt_of_le_of_lt (Nat.sub_le _ _) (or_lt32 hs (by omega))) (by omega)
theorem deedDo_lt (d : DeedD) (s s' : Nat) (h : deedOk d = true) (hs : s < 32) (e : deedDo d s = some s') : s' < 32 := by
  unfold deedDo at e
  split at e
  · injection e with e; subst e; exact behind_lt d s h hs
  · cases e
theorem stepP_lt (t : TaskD) (s : Nat) (k : Int) (s' : Nat) (h : taskOk t = true) (hs : s < 32) (e : stepP t s k = some s') : s' < 32 := by
  unfold stepP at e
  split at e
  · obtain ⟨d, hd, e⟩ := Option.bind_eq_some_iff.1 e
    exact deedDo_lt d s s' ((taskOk_parts t h).2.2.2 d (List.mem_of_getElem? hd)) hs e
  · cases e
theorem runP_lt (t : TaskD) (s : Nat) (p : List Int) (s' : Nat) (h : taskOk t = true) (hs : s < 32) (e : runP t s p = some s') : s' < 32 := by
  induction p generalizing s with
  | nil => simp only [runP, Option.some.injEq] at e; omega
  | cons k p ih =>
    simp only [runP] at e
    obtain ⟨s1, h1, e⟩ := Option.bind_eq_some_iff.1 e
    exact ih s1 (stepP_lt t s k s1 h hs h1) e
/-- the program's way: (state | On) &^ Off ^ Flip -/
theorem behind_impl (d : DeedD) (s : Nat) (hs : s < 32) (h : deedOk d = true) :
    bits .xor .i64 (bits .andNot .i64 (bits .or .i64 (s : Int) d.on) d.off) d.flip = (behind d s : Nat) := by
  obtain ⟨-, h1, h2, h3, -⟩ := deedOk_parts d h
  have e1 := toNat_cast h1.1
  have e2 := toNat_cast h2.1
  have e3 := toNat_cast h3.1
  have ho : s ||| d.on.toNat < 32 := or_lt32 hs (by omega)
  rw [← e1, ← e2, ← e3, i64_or_nat _ _ (by omega) (by omega), i64_andNot_nat _ _ (by omega) (by omega), i64_xor_nat _ _ (by omega) (by omega)]
  simp [behind]
/-- the reference's way -/
theorem behind_spec (d : DeedD) (s : Nat) (h : deedOk d = true) : behind d s = ((s ||| d.on.toNat) - (s &&& d.off.toNat)) ^^^ d.flip.toNat := by
  obtain ⟨-, h1, h2, h3, h4, -⟩ := deedOk_parts d h
  unfold behind
  rw [Nat.and_or_distrib_right, h4, Nat.or_zero]
end Go.Proofs.Ytpcaagbmjhgnaaa
