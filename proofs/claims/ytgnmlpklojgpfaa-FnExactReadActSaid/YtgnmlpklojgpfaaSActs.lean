/- Rows of acts: in memory, compared, marked. -/
import Derived.Test.YtgnmlpklojgpfaaSPlanForS
namespace Go.Proofs.Ytgnmlpklojgpfaa
set_option linter.unusedVariables false
set_option linter.unusedSimpArgs false
open Go.ChangeShapes Go.WideShapes Go.ChangeAt Go.RowKit

def flatA (aa : List ActD) : List Int := aa.flatMap fun a => [a.kind, a.number]
theorem flatA_cons (a : ActD) (aa : List ActD) : flatA (a :: aa) = a.kind :: a.number :: flatA aa := rfl
theorem flatA_at (aa : List ActD) (i : Nat) (a : ActD) (h : aa[i]? = some a) : (flatA aa)[i * 2]? = some a.kind ∧ (flatA aa)[i * 2 + 1]? = some a.number := by
  induction aa generalizing i with
  | nil => simp at h
  | cons x aa ih =>
    rw [flatA_cons]
    cases i with
    | zero => simp at h; subst h; exact ⟨rfl, rfl⟩
    | succ i =>
      simp only [List.getElem?_cons_succ] at h
      obtain ⟨h1, h2⟩ := ih i h
      rw [show (i + 1) * 2 = i * 2 + 1 + 1 by omega]
      simp only [List.getElem?_cons_succ]
      exact ⟨h1, h2⟩
/-- a row of acts of the call's own -/
def rActs (v : Value) (aa : List ActD) : HRes := rRow 31 2 v aa.length (ints (flatA aa))
/-- a row of acts that is read -/
def RdA (w : World) (B : Nat) (A : Option Addr) (n c : Nat) (aa : List ActD) : Prop := aa.length = n ∧ RdRow w B 2 A n c (ints (flatA aa))
theorem RdA.get {w : World} {B n c i : Nat} {A : Option Addr} {aa : List ActD} (h : RdA w B A n c aa) (hi : i < n) : ∃ b off a, A = some ⟨b, off, none⟩ ∧ b < B ∧ aa[i]? = some a ∧ w.cell? ⟨b, off + i * 2, none⟩ = some (.int .i64 a.kind) ∧ w.cell? ⟨b, off + i * 2 + 1, none⟩ = some (.int .i64 a.number) := by
  obtain ⟨b, off, e, hb, hc⟩ := h.2.at_ (by omega)
  have hl := h.1
  have ha : aa[i]? = some (aa[i]'(by omega)) := List.getElem?_eq_getElem _
  obtain ⟨h1, h2⟩ := flatA_at aa i _ ha
  refine ⟨b, off, _, e, hb, ha, hc (i * 2) _ ?_, ?_⟩
  · unfold ints; rw [List.getElem?_map, h1]; rfl
  · rw [Nat.add_assoc]
    refine hc (i * 2 + 1) _ ?_
    unfold ints; rw [List.getElem?_map, h2]; rfl
theorem RdA.up {w w' : World} {A : Option Addr} {n c : Nat} {aa : List ActD} (h : RdA w w.heap.size A n c aa) (hb : Below w.heap.size w w') : RdA w' w'.heap.size A n c aa := ⟨h.1, h.2.up hb⟩
theorem St.rdA {w W : World} {L : List HRes} (h : St w W L) (i : Nat) {v : Value} {aa : List ActD} (hi : L[i]? = some (rActs v aa)) : ∃ A c, v = .slice A aa.length c ∧ RdA W W.heap.size A aa.length c aa := by
  obtain ⟨A, c, hv, hr⟩ := h.rdRow i hi
  exact ⟨A, c, hv, rfl, hr⟩
theorem St.rdA' {w W : World} {L : List HRes} (h : St w W L) (i : Nat) {A : Option Addr} {n c : Nat} {aa : List ActD} (hi : L[i]? = some (rActs (.slice A n c) aa)) : RdA W W.heap.size A n c aa := by
  obtain ⟨A', c', hv, hr⟩ := h.rdA i hi
  simp only [Value.slice.injEq] at hv
  obtain ⟨rfl, rfl, rfl⟩ := hv
  exact hr
def markAS (k n : Nat) : List ActD := (List.range n).map fun i => ⟨((k + 2 * i : Nat) : Int), ((k + 2 * i + 1 : Nat) : Int)⟩
/-- the first i marked -/
def mixA (k : Nat) (aa : List ActD) (i : Nat) : List ActD := markAS k i ++ aa.drop i
set_option maxRecDepth 100000 in
theorem eqAct_same (k m : Int) (w : World) : Calls Try.prog 26 #[.agg #[.int .i64 k, .int .i64 m], .agg #[.int .i64 k, .int .i64 m]] w fun e w' => e = .returned (.bool true) ∧ Below w.heap.size w w' := by
  go_enter Try.func26, Try.ntmps26
  go_wp2
  go_ret
  exact ⟨rfl, ((Below.refl _ _).alloc (Nat.le_refl _) _).alloc (by simp) _⟩
end Go.Proofs.Ytgnmlpklojgpfaa
