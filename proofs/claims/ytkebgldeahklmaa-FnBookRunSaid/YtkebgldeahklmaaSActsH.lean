/- Acts as arguments: as they came in; toAct, toActS, szActS of the exact laws. -/
import Derived.Test.YtkebgldeahklmaaSEndActs
import Derived.Test.YtkebgldeahklmaaSTruth
import Derived.Test.YtkebgldeahklmaaSMore
import Derived.Laws.StructEq
namespace Go.Proofs.Ytkebgldeahklmaa
set_option linter.unusedVariables false
set_option linter.unusedSimpArgs false
open Go.ChangeShapes Go.WideShapes Go.ChangeAt Go.RowKit Go.Deep

section
variable {H : Type} {enc : TypeId × Value → H} {W : World} {base : Nat} {spare : Nat → Bool} {held : Bool} {fuel : Nat} {cs : List Value} {x : DataW H × List MemPlace}
end
def fillA (aa : List ActD) (k : Nat) : List ActD := aa.take k ++ List.replicate (aa.length - k) ⟨0, 0⟩
theorem flatA_rep (n : Nat) : ints (flatA (List.replicate n ⟨0, 0⟩)) = List.replicate (n * 2) (.int .i64 0) := by
  induction n with
  | zero => rfl
  | succ n ih =>
    rw [List.replicate_succ, flatA_cons, show (n + 1) * 2 = n * 2 + 1 + 1 by omega, List.replicate_succ, List.replicate_succ, ← ih]; rfl
set_option maxRecDepth 100000 in
theorem sameActs_same (A : Option Addr) (n c : Nat) (aa : List ActD) (A' : Option Addr) (n' c' : Nat) (w : World) (h : RdA w w.heap.size A n c aa) (h' : RdA w w.heap.size A' n' c' aa) :
    Calls Try.prog 41 #[.slice A n c, .slice A' n' c'] w fun e w' => e = .returned (.bool true) ∧ Below w.heap.size w w' := by
  obtain rfl : n' = n := h'.1.symm.trans h.1
  have hcp := h.2.cap
  have hcm := h.2.capMax
  unfold maxLen at hcm
  have H := Lib.hid h
  have H' := Lib.hid h'
  clear h h'
  go_enter Try.func41, Try.ntmps41
  go_wp2
  go_loopw [5] (fun i wr => ∃ k : Nat, k ≤ n' ∧ i = .int .i64 k ∧ Below w.heap.size w wr) (fun i _ => n' - (intOf i).toNat)
  case atStart => exact ⟨0, by omega, rfl, Below.refl _ _⟩
  case round =>
    obtain ⟨k, hk, rfl, hbel⟩ := hrel
    have HB := Lib.hid hbel
    clear hbel
    by_cases hlt : k < n'
    · obtain ⟨b, off, a, rfl, hb, ha, q0, q1⟩ := (H.out.up HB.out).get hlt
      obtain ⟨b', off', a', rfl, hb', ha', q0', q1'⟩ := (H'.out.up HB.out).get hlt
      obtain rfl : a' = a := by have := ha'.symm.trans ha; injection this
      clear ha ha'
      go_wp2
      go_quiet (fail)
      go_wp2
      go_roundw
      case rel => exact ⟨k + 1, by omega, by go_num, below_drewN HB.out _⟩
      case measure => simp [intOf]; omega
    · go_wp2
      go_ret
      exact ⟨rfl, HB.out⟩
end Go.Proofs.Ytkebgldeahklmaa
