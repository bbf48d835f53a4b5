/- An operation of a region that is left out because its guard was itself left out, in one step. -/
import Derived.Test.YtfgebdioffeliaaSMayW
namespace Go.Proofs.Ytfgebdioffeliaa
open Go.ChangeShapes Go.WideShapes Go.ChangeAt Go.RowKit

theorem wanted_undef {ops : Array Oper} {o : Oper} {a' : Act} {j t : Nat} {want : Bool} (hg : o.guard = some (j, want)) (hd : dstOf ops j = some t) (h : a'.tmps.getD t undef = undef) (ht : t < a'.tmps.size) : Region.wanted o (yielded ops a'.tmps) = false := by
  have : yielded ops a'.tmps j = none := by
    unfold yielded
    unfold dstOf at hd
    simp only [hd]
    simp only [Array.getD_eq_getD_getElem?, Array.getElem?_eq_getElem ht, Option.getD_some] at h
    simp [Array.getElem?_eq_getElem ht, h, undef]
  unfold Region.wanted
  simp only [hg, this]
  rfl
theorem StepAll.skipU {P : Program} {Q : Exit → Act → World → Prop} {σ : Type} {val : σ → Nat → Value} {R : (Nat → Bool) → σ → World → Prop} {a : Act} {ops : Array Oper} {o : Oper} {l : List Oper} {i : Nat} (j t : Nat) (v : Bool) (k : StepAll P Q val R a ops l (i + 1))
    (hg : o.guard = some (j, v) := by rfl) (hb : (o.after.any fun e => Region.binds .any e && e.on == j) = true := by first | rfl | decide | kernel_rfl) (hdst : dstOf ops j = some t := by rfl) (hs : decide (t < a.tmps.size) = true := by kernel_rfl) (hl : decide (j < ops.size) = true := by kernel_rfl)
    (hv : ∀ s, val s j = undef := by intro _; rfl) (hu : ∀ s, val s i = undef := by intro _; rfl) (hR : ∀ D s w, R D s w → R (upd D i) s w := by intro _ _ _ h; exact h) : StepAll P Q val R a ops (o :: l) i :=
  StepAll.consG (fun D s wx h hDi hd hsh a' hS K hK => by
    obtain ⟨e, he, hx⟩ := Array.any_eq_true'.1 hb
    rw [Bool.and_eq_true] at hx
    have hj : D j = true := by
      have := hd e he hx.1
      rwa [eq_of_beq hx.2] at this
    have eg := hS.at_ j t (u := undef) hdst hj hs hl (hv s)
    rw [if_neg (by rw [wanted_undef hg hdst eg (by rw [hS.2.2.1]; exact of_decide_eq_true hs)]; simp)]
    have := hK s wx (fun _ _ => rfl) (hR D s wx h)
    rwa [hu s] at this) k
end Go.Proofs.Ytfgebdioffeliaa
