/- EndActs, of the program and of the reference. Printed by gen_endacts.py. -/
import Derived.Test.YtgnmlpklojgpfaaSActs
namespace Go.Proofs.Ytgnmlpklojgpfaa
set_option linter.unusedVariables false
set_option linter.unusedSimpArgs false
open Go.ChangeShapes Go.WideShapes Go.ChangeAt Go.RowKit

def backs (b : BookD) : Bool := decide (0 < b.done.length) && ((restFor b).isNone || decide (40 < b.done.length + ((restFor b).getD []).length))
def endOf (b : BookD) : Int := if backs b then b.order.start else b.state
def endActs (b : BookD) : List ActD :=
  if bookOk b && (planFor b.order).isSome then (if backs b then [⟨1, b.done.length⟩] else []) ++ (if evalCode b.order.goal (endOf b).toNat then [] else [⟨3, 0⟩]) else []
theorem elAct : ElemT Try.prog 51 31 (.agg #[.int .i64 0, .int .i64 0]) 2 16 := ⟨Try.underlying51, info_parts (by kernel_rfl), rfl, by omega⟩
theorem rActs_nil (w W : World) (h : Below w.heap.size w W) : St w W [rActs (.slice none 0 0) []] :=
  ⟨h, [[]], rfl, fun i R F hR hF => by
    match i with
    | 0 =>
      injection hR with hR; injection hF with hF; subst hR hF
      exact ⟨⟨World.ownsRow_nil W 0 _ 2, rfl⟩, by simp⟩
    | i + 1 => simp at hR, by simp⟩
theorem St.newA (W : World) (g : Nat) (hg : g = W.heap.size) : St W (W.alloc (.cells #[] 31)) [rActs (.slice (some ⟨g, 0, none⟩) 0 0) []] :=
  (St.new1At W g #[] 31 hg).see fun F h _ => by
    obtain ⟨h1, rfl⟩ := h
    exact ⟨⟨by simp [flatA], .inr ⟨g, 0, #[], rfl, Nat.zero_le _, h1, Nat.le_refl _, by unfold maxLen; omega, rfl, rfl⟩⟩, rfl⟩
theorem St.ownA {w W : World} {L : List HRes} (h : St w W L) (i : Nat) {v : Value} {aa : List ActD} (hi : L[i]? = some (rActs v aa)) : W.ownsRow 0 31 2 v aa.length (Go.Proofs.Ytgnmlpklojgpfaa.ints (flatA aa)) := by
  obtain ⟨F, h1, -⟩ := h.get i hi
  exact h1.1
theorem St.appA {w W W' : World} {L : List HRes} (h : St w W L) (i : Nat) {v v' : Value} {aa bs : List ActD} {n : Nat} (hi : L[i]? = some (rActs v aa)) (hn : n = aa.length + bs.length) (hown : W'.ownsRow 0 31 2 v' n (Go.Proofs.Ytgnmlpklojgpfaa.ints (flatA aa) ++ Go.Proofs.Ytgnmlpklojgpfaa.ints (flatA bs)))
    (hg : W.grownBy W' v.ownBlock) (hat : v'.ownBlock = v.ownBlock ∨ v'.ownBlock = some W.heap.size) : St w W' (L.set i (rActs v' (aa ++ bs))) :=
  h.mod i hi fun F h1 _ => ⟨v'.ownBlock.toList, ⟨by subst hn; rw [List.length_append, flatA_append, show ∀ xs ys : List Int, Go.Proofs.Ytgnmlpklojgpfaa.ints (xs ++ ys) = Go.Proofs.Ytgnmlpklojgpfaa.ints xs ++ Go.Proofs.Ytgnmlpklojgpfaa.ints ys from fun xs ys => by simp [Go.Proofs.Ytgnmlpklojgpfaa.ints]]; exact hown, rfl⟩, fun b hb => by
    rcases hat with e | e
    · left; rw [h1.2, ← e]; exact hb
    · right; rw [e] at hb; simp at hb; omega, by rw [h1.2]; exact Only.of_grown hg⟩
end Go.Proofs.Ytgnmlpklojgpfaa
