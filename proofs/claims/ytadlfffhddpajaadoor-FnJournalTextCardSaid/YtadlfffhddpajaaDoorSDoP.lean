/- Plain law: what an act does to a book (bookDo), and a row of acts (bookRun); no program in sight. -/
import Derived.Test.YtadlfffhddpajaaDoorSPermD
import Derived.Test.YtadlfffhddpajaaDoorSRest
namespace Go.Proofs.YtadlfffhddpajaaDoor
set_option linter.unusedVariables false
set_option linter.unusedSimpArgs false

def zeroB : BookD := ⟨⟨0, [], []⟩, [], 0⟩
/-- the deeds that were done behind an act, if it can be done -/
def doneAfter (b : BookD) (a : ActD) : Option (List Int) :=
  if a.kind = 0 then (if b.done.length < 40 ∧ a.number ∈ deedsMay b.order b.state then some (b.done ++ [a.number]) else none)
  else if a.kind = 1 then (if 1 ≤ a.number ∧ a.number ≤ b.done.length then some (b.done.take (b.done.length - a.number.toNat)) else none)
  else if a.kind = 2 then (if a.number = 0 ∧ ((planShort b.order b.done).getD []).length < b.done.length then some ((planShort b.order b.done).getD []) else none)
  else if a.kind = 3 then (if a.number = 0 ∧ 0 < ((restFor b).getD []).length ∧ b.done.length + ((restFor b).getD []).length ≤ 40 then some (b.done ++ (restFor b).getD []) else none)
  else none
def withDone (b : BookD) (d : List Int) : BookD := ⟨b.order, d, planRun b.order b.order.start d⟩
def bookDo (b : BookD) (a : ActD) : BookD := if bookOk b then (match doneAfter b a with | some d => withDone b d | none => b) else zeroB
def bookDid (b : BookD) (a : ActD) : Bool := bookOk b && (doneAfter b a).isSome

theorem withDone_self {b : BookD} (h : bookOk b = true) : withDone b b.done = b := by
  obtain ⟨-, -, -, h4⟩ := bookOk_parts h
  unfold withDone; rw [h4]
theorem bookOk_mk {o : TaskD} {d : List Int} (h : 0 ≤ planRun o o.start d) : bookOk ⟨o, d, planRun o o.start d⟩ = true := by
  obtain ⟨h1, h2, h3, h4⟩ := (planRun_bd o o.start d).1 h
  unfold bookOk
  simp only [h1, decide_eq_true h3, Bool.true_and, beq_self_eq_true, Bool.and_true]
  exact (stIn_iff _).2 ⟨h, h4⟩
/-- a plan with one more part -/
theorem planRun_app {t : TaskD} {p q : List Int} (h : 0 ≤ planRun t t.start p) (hl : p.length + q.length ≤ 40) : planRun t t.start (p ++ q) = planRun t (planRun t t.start p) q := by
  obtain ⟨h1, h2, h3, -⟩ := (planRun_bd t t.start p).1 h
  have := (planRun_part h p.length).2 q h3 (by rw [Nat.min_self]; omega)
  rwa [List.take_of_length_le (Nat.le_refl _)] at this
theorem planRun_one {t : TaskD} {s x : Int} (h : x ∈ deedsMay t s) : 0 ≤ planRun t s [x] := by
  obtain ⟨s', hs'⟩ := deedsMay_step h
  unfold deedsMay at h
  split at h
  · next hh =>
    simp only [Bool.and_eq_true] at hh
    unfold planRun
    rw [if_pos ⟨hh.1, hh.2, by simp⟩]
    simp only [runP, hs', Option.bind_some, opt]
    omega
  · cases h
theorem planFor_run {t : TaskD} {p : List Int} (h : planFor t = some p) : p.length ≤ 31 ∧ 0 ≤ planRun t t.start p ∧ evalCode t.goal (planRun t t.start p).toNat = true := by
  obtain ⟨h1, -, h3, s, h4, h5⟩ := planFor_some h
  have e : planRun t t.start p = (s : Nat) := by
    unfold planRun
    rw [if_pos ⟨h1, (stIn_iff _).2 (taskOk_parts t h1).1, by omega⟩, h4]; rfl
  refine ⟨h3, by rw [e]; omega, ?_⟩
  rw [e, Int.toNat_natCast]
  exact h5.2
theorem taskOk_from {b : BookD} (h : taskOk b.order = true) (hs : 0 ≤ b.state ∧ b.state < 32) : taskOk (taskFrom b) = true := by
  unfold taskOk taskFrom at *
  simp only [Bool.and_eq_true] at h ⊢
  exact ⟨⟨⟨(stIn_iff _).2 hs, h.1.1.2⟩, h.1.2⟩, h.2⟩
theorem planRun_from {b : BookD} (h : taskOk b.order = true) (hs : 0 ≤ b.state ∧ b.state < 32) (p : List Int) : planRun (taskFrom b) b.state p = planRun b.order b.state p := by
  have hk := taskOk_from h hs
  have e : ∀ (p : List Int) (s : Nat), runP (taskFrom b) s p = runP b.order s p := fun p => by
    induction p with
    | nil => intro s; rfl
    | cons k p ih =>
      intro s
      simp only [runP]
      rw [show stepP (taskFrom b) s k = stepP b.order s k from rfl]
      congr 1
      funext s'
      exact ih s'
  unfold planRun
  simp only [hk, h, e]
theorem restFor_run {b : BookD} {r : List Int} (h : restFor b = some r) : bookOk b = true ∧ r.length ≤ 31 ∧ 0 ≤ planRun b.order b.state r ∧ evalCode b.order.goal (planRun b.order b.state r).toNat = true := by
  cases hb : bookOk b with
  | false => rw [restFor_no b hb] at h; cases h
  | true =>
    rw [restFor_yes b hb] at h
    obtain ⟨h1, -, h3, -⟩ := bookOk_parts hb
    obtain ⟨k1, k2, k3⟩ := planFor_run h
    rw [show (taskFrom b).start = b.state from rfl, planRun_from h1 h3] at k2 k3
    exact ⟨rfl, k1, k2, k3⟩
theorem planShort_ok {b : BookD} (h : bookOk b = true) : planShort b.order b.done = some (shortN b.order b.done 41) := by
  obtain ⟨-, -, h3, h4⟩ := bookOk_parts h
  unfold planShort
  rw [if_neg (by omega)]
/-- what was done behind an act may be done -/
theorem doneAfter_run {b : BookD} {a : ActD} {d : List Int} (hb : bookOk b = true) (h : doneAfter b a = some d) : 0 ≤ planRun b.order b.order.start d := by
  obtain ⟨h1, h2, h3, h4⟩ := bookOk_parts hb
  unfold doneAfter at h
  split at h
  · split at h
    · next hc =>
      injection h with h; subst h
      rw [planRun_app (by omega) (by simp; omega), h4]
      exact planRun_one hc.2
    · cases h
  · split at h
    · split at h
      · injection h with h; subst h
        exact (planRun_part (by omega) _).1
      · cases h
    · split at h
      · split at h
        · injection h with h; subst h
          rw [planShort_ok hb, Option.getD_some, shortN_run (by omega)]; omega
        · cases h
      · split at h
        · split at h
          · next hc =>
            injection h with h; subst h
            cases hr : restFor b with
            | none => rw [hr] at hc; simp at hc
            | some r =>
              rw [hr] at hc
              simp only [Option.getD_some] at hc ⊢
              rw [planRun_app (by omega) (by omega), h4]
              exact (restFor_run hr).2.2.1
          · cases h
        · cases h
theorem withDone_ok {b : BookD} {a : ActD} {d : List Int} (hb : bookOk b = true) (h : doneAfter b a = some d) : bookOk (withDone b d) = true := bookOk_mk (doneAfter_run hb h)
theorem bookDo_ok {b : BookD} (a : ActD) (hb : bookOk b = true) : bookOk (bookDo b a) = true := by
  unfold bookDo
  rw [if_pos hb]
  cases h : doneAfter b a with
  | none => exact hb
  | some d => exact withDone_ok hb h
theorem bookDo_some {b : BookD} {a : ActD} {d : List Int} (hb : bookOk b = true) (h : doneAfter b a = some d) : bookDo b a = withDone b d ∧ bookDid b a = true := by
  unfold bookDo bookDid; rw [if_pos hb, hb, h]; exact ⟨rfl, rfl⟩
theorem bookDo_none {b : BookD} {a : ActD} (hb : bookOk b = true) (h : doneAfter b a = none) : bookDo b a = b ∧ bookDid b a = false := by
  unfold bookDo bookDid; rw [if_pos hb, hb, h]; exact ⟨rfl, rfl⟩
theorem bookDo_bad {b : BookD} {a : ActD} (hb : bookOk b = false) : bookDo b a = zeroB ∧ bookDid b a = false := by
  unfold bookDo bookDid; rw [if_neg (by rw [hb]; simp), hb]; exact ⟨rfl, rfl⟩

/-! ### many acts -/
def runB : BookD → List ActD → BookD × Nat
  | b, [] => (b, 0)
  | b, a :: as' => let r := runB (bookDo b a) as'; (r.1, r.2 + (if bookDid b a then 1 else 0))
/-- what is done up to the act k -/
def runK (b : BookD) (aa : List ActD) (k : Nat) : BookD × Nat := runB b (aa.take k)
def bookRun (b : BookD) (aa : List ActD) : BookD × Nat := if bookOk b && decide (aa.length ≤ 40) then runB b aa else (zeroB, 0)
end Go.Proofs.YtadlfffhddpajaaDoor
