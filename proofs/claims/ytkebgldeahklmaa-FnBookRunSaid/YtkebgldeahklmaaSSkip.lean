/- An operation of a region that its guard leaves out, in one step. -/
import Derived.Test.YtkebgldeahklmaaSReg
namespace Go.Proofs.Ytkebgldeahklmaa
open Go.ChangeShapes Go.WideShapes Go.ChangeAt Go.RowKit

theorem StepAll.skip {P : Program} {Q : Exit → Act → World → Prop} {σ : Type} {val : σ → Nat → Value} {R : (Nat → Bool) → σ → World → Prop} {a : Act} {ops : Array Oper} {o : Oper} {l : List Oper} {i : Nat} (j t : Nat) (v : Bool) (k : StepAll P Q val R a ops l (i + 1))
    (hg : o.guard = some (j, !v) := by rfl) (hb : (o.after.any fun e => Region.binds .any e && e.on == j) = true := by first | rfl | decide | kernel_rfl) (hdst : dstOf ops j = some t := by rfl) (hs : decide (t < a.tmps.size) = true := by kernel_rfl) (hl : decide (j < ops.size) = true := by kernel_rfl)
    (hv : ∀ s, val s j = .bool v := by intro _; rfl) (hu : ∀ s, val s i = undef := by intro _; rfl) (hR : ∀ D s w, R D s w → R (upd D i) s w := by intro _ _ _ h; exact h) : StepAll P Q val R a ops (o :: l) i :=
  StepAll.consG (fun D s wx h hDi hd hsh a' hS K hK => by
    obtain ⟨e, he, hx⟩ := Array.any_eq_true'.1 hb
    rw [Bool.and_eq_true] at hx
    have hj : D j = true := by
      have := hd e he hx.1
      rwa [eq_of_beq hx.2] at this
    have eg := hS.at_ j t (u := .bool v) hdst hj hs hl (hv s)
    rw [if_neg (by rw [hS.wants hg hdst eg hs]; cases v <;> simp)]
    have := hK s wx (fun _ _ => rfl) (hR D s wx h)
    rwa [hu s] at this) k
end Go.Proofs.Ytkebgldeahklmaa
