/- Small laws on numbers of states, for the walks of NumbersOk, MustLook, NumbersFor. -/
import Derived.Test.YtkimgdfcgfhibaaDoorSTurnP
import Derived.Test.YtkimgdfcgfhibaaDoorSNumsP
namespace Go.Proofs.YtkimgdfcgfhibaaDoor
set_option linter.unusedVariables false
set_option linter.unusedSimpArgs false

theorem St.formN {w W : World} {L : List HRes} (h : St w W L) (i : Nat) {v : Value} {xs : List Int} (hi : L[i]? = some (rInts v xs)) {n : Nat} (hn : xs.length = n) : ∃ A c, v = .slice A n c := by
  obtain ⟨F, h1, -⟩ := h.get i hi
  subst hn
  rcases h1.row.2 with ⟨h2, h3⟩ | ⟨g, cap, cur, hv, _⟩
  · exact ⟨none, 0, by rw [h2, h3]⟩
  · exact ⟨_, cap, hv⟩
theorem xv_some {xs : List Int} {s : Nat} (h : s < xs.length) : xs[s]? = some (xv xs s) := by
  unfold xv; rw [List.getD_eq_getElem?_getD, List.getElem?_eq_getElem h]; rfl
theorem RdI.x32 {w : World} {B c : Nat} {A : Option Addr} {xs : List Int} (h : RdI .i64 w B A 32 c xs) :
    ∃ b off, A = some ⟨b, off, none⟩ ∧ b < B ∧ ∀ s, s < 32 → (Lit.int .i64 (xv xs s)).wf = true ∧ w.cell? ⟨b, off + s, none⟩ = some (.int .i64 (xv xs s)) := by
  obtain ⟨b, off, hA, hb, hc⟩ := h.at_ (by omega)
  refine ⟨b, off, hA, hb, fun s hs => ?_⟩
  have e := xv_some (xs := xs) (s := s) (by rw [h.len]; exact hs)
  exact ⟨h.wf _ (List.mem_of_getElem? e), hc s _ e⟩
theorem numsOk_task {t : TaskD} {xs : List Int} (h : taskOk t = false) : numsOk t xs = false := by unfold numsOk; rw [h]; rfl
theorem numsOk_len {t : TaskD} {xs : List Int} (h : xs.length ≠ 32) : numsOk t xs = false := by unfold numsOk; rw [decide_eq_false h]; simp
theorem numsOk_row {t : TaskD} {xs : List Int} {s : Nat} (hs : s < 32) (h : numRow t xs s = false) : numsOk t xs = false := by
  unfold numsOk
  have : ((List.range 32).all (numRow t xs)) = false := by
    rw [List.all_eq_false]; exact ⟨s, List.mem_range.2 hs, by rw [h]; simp⟩
  rw [this]; simp
theorem numRow_bd {t : TaskD} {xs : List Int} {s : Nat} (h : ¬ (0 ≤ xv xs s ∧ xv xs s ≤ 40)) : numRow t xs s = false := by unfold numRow; rw [decide_eq_false h]; rfl
theorem numRow_goal {t : TaskD} {xs : List Int} {s : Nat} (hg : evalCode t.goal s = true) (h : xv xs s ≠ 0) : numRow t xs s = false := by
  have : (xv xs s == 0) = false := beq_false_of_ne h
  unfold numRow; rw [hg, this]; simp
/-- the first k deeds are as they should be at s -/
def rowTo (ds : List DeedD) (xs : List Int) (s k : Nat) : Prop := ∀ (j : Nat) (d : DeedD) (q : Nat), j < k → ds[j]? = some d → deedDo d s = some q → xv xs s - 1 ≤ xv xs q
/-- the first m states are as they should be -/
def rowsTo (t : TaskD) (xs : List Int) (m : Nat) : Prop := ∀ s, s < m → numRow t xs s = true
def fixV (x : Int) : Int := if x < 0 then 40 else x
theorem up40_map (xs : List Int) : up40 xs = xs.map fixV := rfl
end Go.Proofs.YtkimgdfcgfhibaaDoor
