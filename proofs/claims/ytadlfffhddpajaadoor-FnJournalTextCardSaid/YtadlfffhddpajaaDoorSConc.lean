/- Joined texts: Conc, DoI, DoI2, Skip. -/
import Derived.Test.YtadlfffhddpajaaDoorSMayW
import Derived.Test.YtadlfffhddpajaaDoorSPerm
import Derived.Lib.AppendZeros
import Derived.Test.YtadlfffhddpajaaDoorSDoP
import Derived.Test.YtadlfffhddpajaaDoorSBookNew
import Derived.Test.YtadlfffhddpajaaDoorSReg
/- slices.Contains, slices.Concat of two rows of numbers (and slices.Grow of nil under it). -/
namespace Go.Proofs.YtadlfffhddpajaaDoor
set_option linter.unusedVariables false
set_option linter.unusedSimpArgs false
open Go.ChangeShapes Go.WideShapes Go.ChangeAt Go.RowKit

end Go.Proofs.YtadlfffhddpajaaDoor

/- bookCopy, doneAfter and BookDo of the program. Printed by gen_do.py out of XDoI.src. -/
namespace Go.Proofs.YtadlfffhddpajaaDoor
set_option linter.unusedVariables false
set_option linter.unusedSimpArgs false
open Go.ChangeShapes Go.WideShapes Go.ChangeAt Go.RowKit

/-- what doneAfter gives -/
def GivesD (o : Option (List Int)) (w : World) (e : Ending) (w' : World) : Prop := ∃ v ds, e = .returned (.tuple #[v, .bool o.isSome]) ∧ (∀ d, o = some d → ds = d) ∧ St w w' [rInts v ds]
theorem GivesD.no {o : Option (List Int)} {w w' : World} (ho : o = none) (h : Below w.heap.size w w') : GivesD o w (.returned (.tuple #[.slice none 0 0, .bool false])) w' :=
  ⟨_, [], by rw [ho]; rfl, (fun d hd => by rw [ho] at hd; cases hd), rInts_nil _ _ h⟩
theorem done0 {b : BookD} {m : Int} : doneAfter b ⟨0, m⟩ = if b.done.length < 40 ∧ m ∈ deedsMay b.order b.state then some (b.done ++ [m]) else none := by unfold doneAfter; rw [if_pos rfl]
theorem done1 {b : BookD} {m : Int} : doneAfter b ⟨1, m⟩ = if 1 ≤ m ∧ m ≤ b.done.length then some (b.done.take (b.done.length - m.toNat)) else none := by unfold doneAfter; rw [if_neg (by simp), if_pos rfl]
theorem done2 {b : BookD} {m : Int} : doneAfter b ⟨2, m⟩ = if m = 0 ∧ ((planShort b.order b.done).getD []).length < b.done.length then some ((planShort b.order b.done).getD []) else none := by unfold doneAfter; rw [if_neg (by simp), if_neg (by simp), if_pos rfl]
theorem done3 {b : BookD} {m : Int} : doneAfter b ⟨3, m⟩ = if m = 0 ∧ 0 < ((restFor b).getD []).length ∧ b.done.length + ((restFor b).getD []).length ≤ 40 then some (b.done ++ (restFor b).getD []) else none := by unfold doneAfter; rw [if_neg (by simp), if_neg (by simp), if_neg (by simp), if_pos rfl]
theorem done4 {b : BookD} {k m : Int} (h0 : k ≠ 0) (h1 : k ≠ 1) (h2 : k ≠ 2) (h3 : k ≠ 3) : doneAfter b ⟨k, m⟩ = none := by unfold doneAfter; rw [if_neg h0, if_neg h1, if_neg h2, if_neg h3]
end Go.Proofs.YtadlfffhddpajaaDoor

/- BookDo of the program. -/
namespace Go.Proofs.YtadlfffhddpajaaDoor
set_option linter.unusedVariables false
set_option linter.unusedSimpArgs false
open Go.ChangeShapes Go.WideShapes Go.ChangeAt Go.RowKit

section
variable {w W W' : World} {L : List HRes}
/-- the first thing parted in two -/
theorem St.split {R R₁ R₂ : HRes} (h : St w W (R :: L)) (k : ∀ F, R.at_ W F → ∃ F1 F2, F = F1 ++ F2 ∧ R₁.at_ W F1 ∧ R₂.at_ W F2) : St w W (R₁ :: R₂ :: L) := by
  obtain ⟨Fs, kl, ha, hnd⟩ := h.has
  match Fs, kl, ha, hnd with
  | F :: Fs, kl, ha, hnd =>
    obtain ⟨a1, a2⟩ := ha 0 _ F rfl rfl
    obtain ⟨F1, F2, rfl, b1, b2⟩ := k F a1
    refine ⟨h.below, F1 :: F2 :: Fs, by simpa using kl, fun i R' F' hR hF => ?_, by simpa using hnd⟩
    match i with
    | 0 =>
      injection hR with hR; injection hF with hF; subst hR hF
      exact ⟨b1, fun x hx => a2 x (List.mem_append_left _ hx)⟩
    | 1 =>
      simp only [List.getElem?_cons_succ, List.getElem?_cons_zero, Option.some.injEq] at hR hF
      subst hR hF
      exact ⟨b2, fun x hx => a2 x (List.mem_append_right _ hx)⟩
    | i + 2 => exact ha (i + 1) R' F' (by simpa using hR) (by simpa using hF)
theorem St.unbook {s st : Int} {gv dv ev : Value} {b : BookD} (h : St w W (rBook (.agg #[.int .i64 s, gv, dv, ev, .int .i64 st]) b :: L)) : St w W (rTask (.agg #[.int .i64 s, gv, dv]) b.order :: rInts ev b.done :: L) :=
  h.split fun F ⟨gv', dv', ev', Ft, Fd, e, h1, h2, h3, h4, h5, h6⟩ => by
    simp only [Value.agg.injEq, Array.mk.injEq, List.cons.injEq, and_true, Value.int.injEq, true_and] at e
    obtain ⟨rfl, rfl, rfl, rfl, -⟩ := e
    refine ⟨Ft, Fd, h5, ⟨h1, ?_⟩, h2⟩
    rw [h5] at h6
    exact (List.nodup_append.1 h6).1
theorem St.book' {o : TaskD} {s st : Int} {gv dv ev : Value} {done : List Int} (hs : o.start = s) (h : St w W (rTask (.agg #[.int .i64 s, gv, dv]) o :: rInts ev done :: L)) (hd : done.length ≤ 1048576) (hst : (Lit.int .i64 st).wf = true) :
    St w W (rBook (.agg #[.int .i64 s, gv, dv, ev, .int .i64 st]) ⟨o, done, st⟩ :: L) := by
  obtain ⟨os, og, od⟩ := o
  simp only at hs
  subst hs
  exact h.book hd hst
end
end Go.Proofs.YtadlfffhddpajaaDoor

/- An operation of a region that its guard leaves out, in one step. -/
namespace Go.Proofs.YtadlfffhddpajaaDoor
open Go.ChangeShapes Go.WideShapes Go.ChangeAt Go.RowKit

theorem StepAll.skip {P : Program} {Q : Exit → Act → World → Prop} {σ : Type} {val : σ → Nat → Value} {R : (Nat → Bool) → σ → World → Prop} {a : Act} {ops : Array Oper} {o : Oper} {l : List Oper} {i : Nat} (j t : Nat) (v : Bool) (k : StepAll P Q val R a ops l (i + 1))
    (hg : o.guard = some (j, !v) := by rfl) (hb : (o.after.any fun e => Region.binds .any e && e.on == j) = true := by first | rfl | decide | kernel_rfl) (hdst : dstOf ops j = some t := by rfl) (hs : decide (t < a.tmps.size) = true := by kernel_rfl) (hl : decide (j < ops.size) = true := by kernel_rfl)
    (hv : ∀ s, val s j = .bool v := by intro _; rfl) (hu : ∀ s, val s i = undef := by intro _; rfl) (hR : ∀ D s w, R D s w → R (upd D i) s w := by intro _ _ _ h; exact h) : StepAll P Q val R a ops (o :: l) i :=
  StepAll.consG (fun D s wx h hDi hd hsh a' hS K hK => by
    obtain ⟨e, he, hx⟩ := Array.any_eq_true'.1 hb
    rw [Bool.and_eq_true] at hx
    have hj : D j = true := by
      have := hd e he hx.1
      rwa [eq_of_beq hx.2] at this
    have eg := hS.at_ j t (u := .bool v) hdst hj hs hl (hv s)
    rw [if_neg (by rw [hS.wants hg hdst eg hs]; cases v <;> simp)]
    have := hK s wx (fun _ _ => rfl) (hR D s wx h)
    rwa [hu s] at this) k
end Go.Proofs.YtadlfffhddpajaaDoor
